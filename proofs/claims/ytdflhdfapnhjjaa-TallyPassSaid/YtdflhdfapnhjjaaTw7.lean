/-
  Part 7: Kg Kh Ki Gq Gr Gs Gt Gu Kj Kl Km Kn Ko Kp Kq Kr Gv.
-/
import Derived.Test.YtdflhdfapnhjjaaTw6
import Derived.Test.YtdflhdfapnhjjaaTw2
import Derived.Test.YtdflhdfapnhjjaaShelf
import Derived.Sort.OwnSorted
import Derived.Sort.OwnSortedInts
import Derived.Test.YtdflhdfapnhjjaaTw1
namespace Go.Proofs.Ytdflhdfapnhjjaa
open Go.RowKit
open Vd (RSet Vdt Vote Rec Quest Piece Ballot)
set_option linter.unusedVariables false
set_option linter.unusedSimpArgs false
--auto
variable {G : World} {L : Blocks}
/-- Votes in new memory. -/
def VotesOut (L : Blocks) (vs : List Vote) (u : Value) (M : Blocks) : Prop := ∃ a c B N, u = .slice a vs.length c ∧ ORow voteR 46 5 N a c vs B ∧ Wr N ∧ M = B ++ (N ++ L)
set_option maxRecDepth 100000 in
set_option maxHeartbeats 2000000 in
theorem pCopyVotes_S (v : Value) (vs : List Vote) (hv : sliceR 5 voteR L [v] vs) (hn : vs.length ≤ 100) (hs : ∀ x ∈ vs, SmV x.vd) : Spec Try.prog G 70 #[v] L (VotesOut L vs) := by
  obtain ⟨a0, c0, e1, hv⟩ := hv.val
  simp only [List.cons.injEq, and_true] at e1
  subst e1
  obtain ⟨_, ka1, ka2, hv⟩ := sliceR.cut hv
  refine Spec_of (n := 19) Try.func70 rfl rfl rfl ?_
  repeat ((first | with_reducible refine T_seq ?_ | with_reducible refine T_block ?_ | with_reducible refine T_region ?_ | with_reducible refine TL_nil ?_ | with_reducible refine TQ_then ?_ | refine TL_q (op_move rfl) rfl ?_ | refine TL_q (op_assign rfl) rfl ?_ | refine TL_q (op_len_slice rfl Try.underlying47) rfl ?_))
  refine T_loopS (σ := Nat × Option Addr × Nat × Blocks × Blocks) (fun x => x.1 ≤ vs.length ∧ ORow voteR 46 5 x.2.2.2.2 x.2.1 x.2.2.1 (vs.take x.1) x.2.2.2.1 ∧ Wr x.2.2.2.2) (fun x => [(3, .slice x.2.1 (vs.take x.1).length x.2.2.1), (6, .slice a0 vs.length c0), (7, .int .i64 (vs.length : Nat)), (8, .int .i64 (x.1 : Nat))]) (fun x => x.2.2.2.1 ++ (x.2.2.2.2 ++ L)) (fun x => vs.length - x.1) (0, none, 0, [], []) ⟨Nat.zero_le _, ORow.nil _, Wr.nil⟩ ?_ (fun w h => h) ?_
  (repeat ((first | exact trivial | refine ⟨rfl, ?_⟩)))
  rintro ⟨k, a, c, B, N⟩ ⟨hk, hB, hN⟩
  dsimp only at hk hB hN ⊢
  by_cases hlt : k < vs.length
  · obtain ⟨x, hx⟩ : ∃ x, vs[k]? = some x := ⟨_, List.getElem?_eq_getElem hlt⟩
    have htk : vs.take (k + 1) = vs.take k ++ [x] := by rw [List.take_add_one, hx]; rfl
    have htl : (vs.take k).length ≤ 100 := by rw [List.length_take]; omega
    rcases hv with rfl | ⟨b1, o1, C1, t1, f1, rfl, m1, q1⟩
    · simp at hlt
    obtain ⟨cx, _, hx2, hcx⟩ := q1 k x hx
    have hx0 := hx2
    obtain ⟨x1, xc1, x2, xc2, rfl, hx3, hx4, hcode, htm, hup⟩ := hx0.vals
    have m1' : (b1, Obj.cells C1 t1 f1) ∈ B ++ (N ++ L) := List.mem_append_right _ (List.mem_append_right _ m1)
    repeat ((first | with_reducible refine T_seq ?_ | with_reducible refine T_block ?_ | with_reducible refine T_region ?_ | with_reducible refine TL_nil ?_ | with_reducible refine TQ_then ?_ | with_reducible refine T_skip ?_ | (refine' TL_q (op_bin rfl rfl ?_) rfl ?_; rotate_left 1; (· (exact bin_lss))) | (refine' TL_q (op_idx ety_47 rfl rfl ?_) rfl ?_; (· omega)) | (refine T_yes rfl ?_ ?_; (· (exact dT (by (omega)))))))
    refine TL_q (op_ldA [.int .i64 x.up, .int .u8 x.vd.code, .slice x1 x.vd.sets.length xc1, .slice x2 x.vd.soa.length xc2, .int .u32 x.time] rfl st_46 m1' hcx) rfl ?_
    repeat ((first | with_reducible refine T_region ?_ | with_reducible refine TL_nil ?_ | with_reducible refine TQ_then ?_ | refine TL_q (op_move rfl) rfl ?_ | (refine' TL_q (op_ldAll rfl st_46 ?_ ?_) rfl ?_; rotate_left 3; (· repeat ((exact List.mem_cons_self))); (· (assumption))) | (refine TL_stAll rfl rfl st_46 rfl rfl rfl ?_) | (refine TL_new (op_alloc (C := #[(.int .i64 0), (.int .u8 0), (.slice none 0 0), (.slice none 0 0), (.int .u32 0)]) zero_46 rfl) rfl ?_; intro bNew)))
    refine TL_opT (op_call hb_72 rfl (pCopyVote_S _ x (mono_vote _ _ _ _ (mem_of_cnt (by intro p; (try simp only [cnt_append, cnt_cons, cnt_nil]) <;> omega)) hx2) (hs x (List.mem_of_getElem? hx)))) rfl ?_
    rintro _ _ ⟨a6, c6, B6, a7, c7, B7, N6, rfl, h6, h7, hN6, rfl⟩
    repeat ((refine TL_new (op_litN ety_47 rfl rfl (by decide)) rfl ?_; intro bLit))
    refine TL_cnt (L' := (bLit, Obj.cells #[.int .i64 x.up, .int .u8 x.vd.code, .slice a6 x.vd.sets.length c6, .slice a7 x.vd.soa.length c7, .int .u32 x.time] 46 (0, 0)) :: (B ++ (((B7 ++ (B6 ++ N6)) ++ N) ++ L))) ?_ (by intro p; (try simp only [cnt_append, cnt_cons, cnt_nil]) <;> omega)
    refine TL_opT (op_push (L0 := (B7 ++ (B6 ++ N6)) ++ N) (cs := [.int .i64 x.up, .int .u8 x.vd.code, .slice a6 x.vd.sets.length c6, .slice a7 x.vd.soa.length c7, .int .u32 x.time]) (y := x) ety_47 rfl rfl (hB.mono mono_vote (mem_of_cnt (by intro p; (try simp only [cnt_append, cnt_cons, cnt_nil]) <;> omega))) rfl (fun v hv => by simp only [List.mem_cons, List.not_mem_nil, or_false] at hv; rcases hv with rfl | rfl | rfl | rfl | rfl <;> rfl) ⟨_, _, rfl, h6.sliceR mono_set (mem_of_cnt (by intro p; (try simp only [cnt_append, cnt_cons, cnt_nil]) <;> omega)) (mem_of_cnt (by intro p; (try simp only [cnt_append, cnt_cons, cnt_nil]) <;> omega)), h7.sliceR mono_set (mem_of_cnt (by intro p; (try simp only [cnt_append, cnt_cons, cnt_nil]) <;> omega)) (mem_of_cnt (by intro p; (try simp only [cnt_append, cnt_cons, cnt_nil]) <;> omega)), hcode, htm, hup⟩ (by unfold maxLen; omega) (by omega)) rfl ?_
    rintro _ _ ⟨a', c', B', rfl, hB', rfl⟩
    repeat ((first | with_reducible refine T_region ?_ | with_reducible refine TL_nil ?_ | with_reducible refine TQ_then ?_ | with_reducible refine TQ_block ?_ | refine TL_q (op_move rfl) rfl ?_ | refine TL_q (op_assign rfl) rfl ?_ | (refine' TL_q (op_bin rfl rfl ?_) rfl ?_; rotate_left 1; (· (exact bin_add ⟨by omega, by omega⟩)))))
    refine TQ_roundS (k + 1, a', c', B', (B7 ++ (B6 ++ N6)) ++ N) ⟨hlt, by dsimp only; rw [htk]; exact hB', (h7.wr.append (h6.wr.append hN6)).append hN⟩ ?_ (fun w h => h.cnt (by intro p; (try simp only [cnt_append, cnt_cons, cnt_nil]) <;> omega)) (by dsimp only; omega)
    dsimp only
    rw [htk]
    (repeat ((first | exact trivial | refine ⟨rfl, ?_⟩)))
  · have hkn : k = vs.length := by omega
    subst hkn
    rw [List.take_length] at hB ⊢
    repeat ((first | with_reducible refine T_seq ?_ | with_reducible refine T_region ?_ | with_reducible refine TL_nil ?_ | with_reducible refine TQ_then ?_ | with_reducible refine T_exit ?_ | with_reducible refine T_ret ?_ | with_reducible refine TQ_then_exit ?_ | with_reducible refine TQ_block_exit ?_ | refine TL_q (op_move rfl) rfl ?_ | refine TL_q (op_assign rfl) rfl ?_ | (refine' TL_q (op_bin rfl rfl ?_) rfl ?_; rotate_left 1; (· (exact bin_lss))) | (refine T_no rfl ?_ ?_; (· (exact dF (by (omega)))))))
    refine TQ_ret1 2 _ rfl rfl ?_
    exact ⟨a, c, B, N, rfl, hB, hN, rfl⟩
set_option maxRecDepth 100000 in
set_option maxHeartbeats 2000000 in
theorem pVotes_S (bb : Nat) (want : Int) (f : Int → Int × Int) (vs : List Vote) (a : Option Addr) (c : Nat) (hm : (bb, Obj.cells (boxC want f (.slice a vs.length c)).toArray 100 (0, 0)) ∈ L) (hv : sliceR 5 voteR L [.slice a vs.length c] vs) (hn : vs.length ≤ 100) (hs : ∀ x ∈ vs, SmV x.vd) :
    Spec Try.prog G 39 #[.pointer (some ⟨bb, 0, none⟩)] L (VotesOut L vs) := by
  have g19 : (boxC want f (.slice a vs.length c)).toArray[0 + 19]? = some (.slice a vs.length c) := rfl
  refine Spec_of (n := 10) Try.func39 rfl rfl rfl ?_
  repeat ((first | with_reducible refine T_seq ?_ | with_reducible refine T_region ?_ | with_reducible refine TL_nil ?_ | with_reducible refine TQ_then ?_ | with_reducible refine T_skip ?_ | refine TL_q (op_move rfl) rfl ?_ | refine TL_q (op_assign rfl) rfl ?_ | (refine' TL_q (op_bin rfl rfl ?_) rfl ?_; rotate_left 1; (· (exact pbin_eql Try.underlying76))) | refine TL_q (op_nilCheck rfl) rfl ?_ | refine TL_q (op_fld rfl fld_100_2) rfl ?_ | (refine' TL_q (op_ld rfl pl_47 ?_ ?_) rfl ?_; rotate_left 4; (· repeat ((assumption))); (· (assumption))) | (refine T_no rfl ?_ ?_; (· (exact Bool.not_true)))))
  refine TL_opT (op_call hb_70 rfl (pCopyVotes_S _ vs hv hn hs)) rfl ?_
  rintro _ _ ⟨a1, c1, B, N, rfl, hB, hN, rfl⟩
  repeat ((first | with_reducible refine TL_nil ?_ | with_reducible refine TQ_then ?_ | with_reducible refine T_ret ?_ | refine TL_q (op_assign rfl) rfl ?_))
  refine TQ_ret1 2 _ rfl rfl ?_
  exact ⟨a1, c1, B, N, rfl, hB, hN, rfl⟩
end Go.Proofs.Ytdflhdfapnhjjaa
namespace Go.Proofs.Ytdflhdfapnhjjaa
open Go.RowKit
open Vd (RSet Vdt Vote Rec Quest Piece Ballot)
set_option linter.unusedVariables false
set_option linter.unusedSimpArgs false
--auto
variable {G : World} {L : Blocks}
theorem ints_at {l : List Int} {a : Option Addr} {c : Nat} (h : sliceR 1 (intR .i64) L [.slice a l.length c] l) {i : Nat} {x : Int} (hx : l[i]? = some x) : ∃ b off C te fr, a = some ⟨b, off, none⟩ ∧ (b, Obj.cells C te fr) ∈ L ∧ C[off + i * 1]? = some (.int .i64 x) := by
  obtain ⟨_, _, _, h4⟩ := sliceR.cut h
  rcases h4 with rfl | ⟨b, off, C, te, fr, q1, q2, q3⟩
  · simp at hx
  · obtain ⟨cs', _, ⟨k2, _⟩, k3⟩ := q3 i x hx
    subst k2
    exact ⟨b, off, C, te, fr, q1, q2, k3 0 _ rfl⟩
set_option maxRecDepth 100000 in
set_option maxHeartbeats 2000000 in
theorem Ints_S (va vb : Value) (la lb : List Int) (ha : sliceR 1 (intR .i64) L [va] la) (hb : sliceR 1 (intR .i64) L [vb] lb) : Spec Try.prog G 38 #[va, vb] L fun u M => u = .bool (decide (la = lb)) ∧ M = L := by
  obtain ⟨a, c, e1, ha⟩ := ha.val
  obtain ⟨a2, c2, e2, hb⟩ := hb.val
  simp only [List.cons.injEq, and_true] at e1 e2
  subst e1 e2
  have hac := (sliceR.cut ha).2
  unfold maxLen at hac
  obtain ⟨hac1, hac2, _⟩ := hac
  refine Spec_of (n := 26) Try.func38 rfl rfl rfl ?_
  by_cases hlen : la.length = lb.length
  · have hlen' : ((la.length : Nat) : Int) = ((lb.length : Nat) : Int) := by omega
    repeat ((first | with_reducible refine T_seq ?_ | with_reducible refine T_block ?_ | with_reducible refine T_region ?_ | with_reducible refine TL_nil ?_ | with_reducible refine TQ_then ?_ | with_reducible refine T_skip ?_ | refine TL_q (op_move rfl) rfl ?_ | refine TL_q (op_assign rfl) rfl ?_ | (refine' TL_q (op_bin rfl rfl ?_) rfl ?_; rotate_left 1; (· (exact bin_neq))) | refine TL_q (op_len_slice rfl Try.underlying79) rfl ?_ | (refine T_no rfl ?_ ?_; (· (exact nF (by (assumption)))))))
    refine T_loopS (σ := Nat) (fun k => k ≤ la.length ∧ la.take k = lb.take k) (fun k => [(0, .slice a la.length c), (1, .slice a2 lb.length c2), (5, .int .i64 (k : Nat))]) (fun _ => L) (fun k => la.length - k) 0 ⟨Nat.zero_le _, rfl⟩ ?_ (fun w h => h) ?_
    (repeat ((first | exact trivial | refine ⟨rfl, ?_⟩)))
    rintro k ⟨hk, he⟩
    by_cases hkl : k < la.length
    · obtain ⟨x, hx⟩ : ∃ x, la[k]? = some x := ⟨_, List.getElem?_eq_getElem hkl⟩
      obtain ⟨y, hy⟩ : ∃ y, lb[k]? = some y := ⟨_, List.getElem?_eq_getElem (by omega)⟩
      obtain ⟨b1, o1, C1, t1, f1, rfl, m1, q1⟩ := ints_at ha hx
      obtain ⟨b2, o2, C2, t2, f2, rfl, m2, q2⟩ := ints_at hb hy
      have hK : ∀ z ∈ L, z ∈ L := fun z h => h
      repeat ((first | with_reducible refine T_seq ?_ | with_reducible refine T_block ?_ | with_reducible refine T_region ?_ | with_reducible refine TL_nil ?_ | with_reducible refine TQ_then ?_ | with_reducible refine T_skip ?_ | refine TL_q (op_move rfl) rfl ?_ | (refine' TL_q (op_bin rfl rfl ?_) rfl ?_; rotate_left 1; (· (exact bin_lss))) | refine TL_q (op_len_slice rfl Try.underlying79) rfl ?_ | (refine T_yes rfl ?_ ?_; (· (exact dT (by (omega)))))))
      refine T_draw follows_mixed (L) [] ?_
      (refine' TA_take 0 rfl rfl (by kernel_rfl) (quiet_q (op_move rfl)) ?_ ?_; (· (assumption)))
      (refine' TA_take 1 rfl rfl (by kernel_rfl) (quiet_q (op_move rfl)) ?_ ?_; (· (assumption)))
      (refine' TA_take 2 rfl rfl (by kernel_rfl) (quiet_q (op_idx ety_79 rfl rfl ?_)) ?_ ?_; (· omega); (· (assumption)))
      (refine' TA_take 3 rfl rfl (by kernel_rfl) (quiet_q (op_ld rfl pl_3 ?_ ?_)) ?_ ?_; rotate_left 4; (· repeat ((assumption))); (· (assumption)); (· (assumption)))
      (refine' TA_take 4 rfl rfl (by kernel_rfl) (quiet_q (op_move rfl)) ?_ ?_; (· (assumption)))
      (refine' TA_take 5 rfl rfl (by kernel_rfl) (quiet_q (op_move rfl)) ?_ ?_; (· (assumption)))
      (refine' TA_take 6 rfl rfl (by kernel_rfl) (quiet_q (op_idx ety_79 rfl rfl ?_)) ?_ ?_; (· omega); (· (assumption)))
      (refine' TA_take 7 rfl rfl (by kernel_rfl) (quiet_q (op_ld rfl pl_3 ?_ ?_)) ?_ ?_; rotate_left 4; (· repeat ((assumption))); (· (assumption)); (· (assumption)))
      (refine' TA_take 8 rfl rfl (by kernel_rfl) (quiet_q (op_bin rfl rfl ?_)) ?_ ?_; rotate_left 1; (· (exact bin_neq)); (· (assumption)))
      refine TA_done (by kernel_rfl) ?_
      by_cases hxy : x = y
      · repeat ((first | with_reducible refine T_region ?_ | with_reducible refine TL_nil ?_ | with_reducible refine TQ_then ?_ | with_reducible refine TQ_block ?_ | with_reducible refine T_skip ?_ | refine TL_q (op_move rfl) rfl ?_ | refine TL_q (op_assign rfl) rfl ?_ | (refine' TL_q (op_bin rfl rfl ?_) rfl ?_; rotate_left 1; (· (exact bin_add ⟨by omega, by omega⟩))) | (refine T_no rfl ?_ ?_; (· (exact nF (by (assumption)))))))
        refine TQ_roundS (k + 1) ⟨hkl, by rw [List.take_add_one, List.take_add_one, hx, hy, he, hxy]⟩ ?_ (fun w h => h) (by omega)
        (repeat ((first | exact trivial | refine ⟨rfl, ?_⟩)))
      · have hne : decide (la = lb) = false := by
          simp only [decide_eq_false_iff_not]
          intro e
          rw [e, hy] at hx
          exact hxy (Option.some.inj hx).symm
        rw [hne]
        repeat ((first | with_reducible refine T_seq ?_ | with_reducible refine T_region ?_ | with_reducible refine TL_nil ?_ | with_reducible refine TQ_then ?_ | with_reducible refine T_ret ?_ | with_reducible refine TQ_then_ret ?_ | with_reducible refine TQ_block_ret ?_ | refine TL_q (op_assign rfl) rfl ?_ | (refine T_yes rfl ?_ ?_; (· (exact nT (by (assumption)))))))
        refine TQ_ret1 4 _ rfl rfl ?_
        exact ⟨rfl, rfl⟩
    · have hke : k = la.length := by omega
      have heq : decide (la = lb) = true := by
        rw [hke, List.take_length, hlen, List.take_length] at he
        simpa using he
      rw [heq]
      repeat ((first | with_reducible refine T_seq ?_ | with_reducible refine T_region ?_ | with_reducible refine TL_nil ?_ | with_reducible refine TQ_then ?_ | with_reducible refine T_exit ?_ | with_reducible refine T_ret ?_ | with_reducible refine TQ_then_exit ?_ | with_reducible refine TQ_block_exit ?_ | refine TL_q (op_move rfl) rfl ?_ | refine TL_q (op_assign rfl) rfl ?_ | (refine' TL_q (op_bin rfl rfl ?_) rfl ?_; rotate_left 1; (· (exact bin_lss))) | refine TL_q (op_len_slice rfl Try.underlying79) rfl ?_ | (refine T_no rfl ?_ ?_; (· (exact dF (by (omega)))))))
      refine TQ_ret1 4 _ rfl rfl ?_
      exact ⟨rfl, rfl⟩
  · have hlen' : ¬ ((la.length : Nat) : Int) = ((lb.length : Nat) : Int) := by omega
    have hne : decide (la = lb) = false := by simp only [decide_eq_false_iff_not]; intro e; exact hlen (by rw [e])
    rw [hne]
    repeat ((first | with_reducible refine T_seq ?_ | with_reducible refine T_region ?_ | with_reducible refine TL_nil ?_ | with_reducible refine TQ_then ?_ | with_reducible refine T_ret ?_ | with_reducible refine TQ_then_ret ?_ | refine TL_q (op_move rfl) rfl ?_ | refine TL_q (op_assign rfl) rfl ?_ | (refine' TL_q (op_bin rfl rfl ?_) rfl ?_; rotate_left 1; (· (exact bin_neq))) | refine TL_q (op_len_slice rfl Try.underlying79) rfl ?_ | (refine T_yes rfl ?_ ?_; (· (exact nT (by (assumption)))))))
    refine TQ_ret1 4 _ rfl rfl ?_
    exact ⟨rfl, rfl⟩
end Go.Proofs.Ytdflhdfapnhjjaa
namespace Go.Proofs.Ytdflhdfapnhjjaa
open Vd (RSet Vdt Vote Rec Quest Piece Ballot)
set_option linter.unusedVariables false
set_option linter.unusedSimpArgs false
def nine : List Int := [0, 1, 2, 3, 4, 5, 6, 7, 8]
theorem mem_nine {x : Int} : x ∈ nine ↔ 0 ≤ x ∧ x < 9 := by
  unfold nine
  simp only [List.mem_cons, List.not_mem_nil, or_false]
  omega
theorem nine_nodup : nine.Nodup := by unfold nine; decide
theorem nine_lt : nine.Pairwise (· < ·) := by unfold nine; decide
theorem filter_one : ∀ {l : List Int}, l.Nodup → ∀ a, l.filter (fun x => x == a) = if a ∈ l then [a] else []
  | [], _, a => by simp
  | x :: l, h, a => by
    have hx : x ∉ l := (List.nodup_cons.1 h).1
    have ih := filter_one (List.nodup_cons.1 h).2 a
    by_cases e : x = a
    · subst e
      rw [List.filter_cons_of_pos (by simp), ih, if_neg hx, if_pos (List.mem_cons_self ..)]
    · rw [List.filter_cons_of_neg (by simpa using e), ih]
      have : a ∈ x :: l ↔ a ∈ l := by simp [Ne.symm e]
      simp only [this]
theorem flat_filter (p : Int → Bool) : ∀ l : List Int, l.flatMap (fun n => if p n then [n] else []) = l.filter p
  | [] => rfl
  | x :: l => by
    rw [List.flatMap_cons, flat_filter p l]
    cases h : p x <;> simp [h]
theorem rising_eq {l : List Int} (h : l.Nodup) : risingI l = nine.filter fun x => decide (x ∈ l) := by
  have h1 : risingI l = nine.flatMap fun x => if decide (x ∈ l) = true then [x] else [] := by
    unfold risingI nine
    simp only [filter_one h, decide_eq_true_eq]
    rfl
  rw [h1]
  exact flat_filter _ _
theorem rising_mem {l : List Int} (h : l.Nodup) (h9 : ∀ x ∈ l, 0 ≤ x ∧ x < 9) (x : Int) : x ∈ risingI l ↔ x ∈ l := by
  rw [rising_eq h, List.mem_filter, mem_nine]
  simp only [decide_eq_true_eq]
  exact ⟨fun k => k.2, fun k => ⟨h9 x k, k⟩⟩
theorem rising_nodup {l : List Int} (h : l.Nodup) : (risingI l).Nodup := by
  rw [rising_eq h]
  exact nine_nodup.filter _
theorem rising_perm {l : List Int} (h : l.Nodup) (h9 : ∀ x ∈ l, 0 ≤ x ∧ x < 9) : (risingI l).Perm l :=
  (List.perm_ext_iff_of_nodup (rising_nodup h) h).2 fun x => rising_mem h h9 x
theorem rising_len {l : List Int} (h : l.Nodup) (h9 : ∀ x ∈ l, 0 ≤ x ∧ x < 9) : (risingI l).length = l.length := (rising_perm h h9).length_eq
theorem rising_lt {l : List Int} (h : l.Nodup) : (risingI l).Pairwise (· < ·) := by
  rw [rising_eq h]
  exact nine_lt.filter _
/-- Votes of different upstreams of nine. -/
structure Vup (vs : List Vote) : Prop where
  nd : (vs.map (·.up)).Nodup
  up : ∀ x ∈ vs, 0 ≤ x.up ∧ x.up < 9
theorem BoxOk.vup {l : List Ballot} (h : BoxOk l) : Vup (Vd.votesB l) := by
  refine ⟨?_, fun x hx => ?_⟩
  · have : (Vd.votesB l).map (·.up) = (l.filter fun b => !b.pass).map (fun b => b.v.up) := by
      unfold Vd.votesB
      rw [List.map_map]
      rfl
    rw [this]
    exact h.nd.sublist (List.Sublist.map _ (List.filter_sublist))
  · obtain ⟨b, hb, _, rfl⟩ := votesB_mem.1 hx
    exact h.up b hb
theorem Vup.sub {vs ws : List Vote} (h : Vup vs) (s : ws.Sublist vs) : Vup ws := ⟨h.nd.sublist (s.map _), fun x hx => h.up x (s.subset hx)⟩
theorem Vup.filter {vs : List Vote} (h : Vup vs) (p : Vote → Bool) : Vup (vs.filter p) := h.sub List.filter_sublist
theorem Vup.take {vs : List Vote} (h : Vup vs) (n : Nat) : Vup (vs.take n) := h.sub (List.take_sublist ..)
theorem Vup.perm {vs ws : List Vote} (h : Vup vs) (p : vs.Perm ws) : Vup ws := ⟨(p.map _).nodup h.nd, fun x hx => h.up x (p.mem_iff.2 hx)⟩
theorem Vup.ups {vs : List Vote} (h : Vup vs) : ∀ x ∈ vs.map (·.up), 0 ≤ x ∧ x < 9 := by
  intro x hx
  obtain ⟨y, hy, rfl⟩ := List.mem_map.1 hx
  exact h.up y hy
theorem Vup.inj {vs : List Vote} (h : Vup vs) {x y : Vote} (hx : x ∈ vs) (hy : y ∈ vs) (e : x.up = y.up) : x = y := by
  obtain ⟨i, hi, rfl⟩ := List.getElem_of_mem hx
  obtain ⟨j, hj, rfl⟩ := List.getElem_of_mem hy
  have hp := List.nodup_iff_pairwise_ne.1 h.nd
  rcases Nat.lt_trichotomy i j with h1 | h1 | h1
  · have := List.pairwise_iff_getElem.1 hp i j (by simpa using hi) (by simpa using hj) h1
    simp only [List.getElem_map] at this
    exact absurd e this
  · subst h1; rfl
  · have := List.pairwise_iff_getElem.1 hp j i (by simpa using hj) (by simpa using hi) h1
    simp only [List.getElem_map] at this
    exact absurd e.symm this
/-- The number of votes of nine upstreams. -/
theorem Vup.len {vs : List Vote} (h : Vup vs) : vs.length ≤ 9 := by
  have h1 := rising_len h.nd h.ups
  rw [List.length_map] at h1
  have h2 : (risingI (vs.map (·.up))).length ≤ nine.length := by
    rw [rising_eq h.nd]
    exact List.length_filter_le _ _
  have : nine.length = 9 := rfl
  omega
theorem withV_mem {vs : List Vote} {v : Vdt} {x : Vote} : x ∈ withV vs v ↔ x ∈ vs ∧ x.vd = v := by
  unfold withV
  rw [List.mem_filter, decide_eq_true_eq]
theorem withV_take_le (vs : List Vote) (i : Nat) (v : Vdt) : (withV (vs.take i) v).length ≤ (withV vs v).length := by
  unfold withV
  exact List.Sublist.length_le ((List.take_sublist i vs).filter _)
/-- The least time. -/
def timeP : List Vote → Int
  | [] => 0
  | w :: r => r.foldl (fun t v => min t v.time) w.time
theorem timeP_cons (w : Vote) (r : List Vote) : timeP (w :: r) = r.foldl (fun t v => min t v.time) w.time := rfl
theorem fmin_le : ∀ (l : List Vote) (s : Int), l.foldl (fun t v => min t v.time) s ≤ s ∧ ∀ x ∈ l, l.foldl (fun t v => min t v.time) s ≤ x.time
  | [], s => ⟨Int.le_refl _, by simp⟩
  | x :: l, s => by
    obtain ⟨h1, h2⟩ := fmin_le l (min s x.time)
    rw [List.foldl_cons]
    refine ⟨by omega, fun y hy => ?_⟩
    rcases List.mem_cons.1 hy with rfl | hy
    · omega
    · exact h2 y hy
theorem fmin_in : ∀ (l : List Vote) (s : Int), l.foldl (fun t v => min t v.time) s = s ∨ ∃ x ∈ l, l.foldl (fun t v => min t v.time) s = x.time
  | [], s => Or.inl rfl
  | x :: l, s => by
    rw [List.foldl_cons]
    rcases fmin_in l (min s x.time) with h | ⟨y, hy, h⟩
    · by_cases hx : x.time ≤ s
      · exact Or.inr ⟨x, List.mem_cons_self .., by omega⟩
      · exact Or.inl (by omega)
    · exact Or.inr ⟨y, List.mem_cons_of_mem _ hy, h⟩
theorem timeP_fold {l : List Vote} {x : Vote} (h : x ∈ l) : l.foldl (fun t v => min t v.time) x.time = timeP l := by
  cases l with
  | nil => simp at h
  | cons w r =>
    have h1 := fmin_le (w :: r) x.time
    have h2 := fmin_in (w :: r) x.time
    have h3 := fmin_le r w.time
    have h4 := fmin_in r w.time
    rw [timeP_cons]
    obtain ⟨a, ha⟩ : ∃ a, (w :: r).foldl (fun t v => min t v.time) x.time = a := ⟨_, rfl⟩
    obtain ⟨b, hb⟩ : ∃ b, r.foldl (fun t v => min t v.time) w.time = b := ⟨_, rfl⟩
    rw [ha] at h1 h2 ⊢
    rw [hb] at h3 h4 ⊢
    have hax : ∀ y ∈ w :: r, a ≤ y.time := h1.2
    have hbx : ∀ y ∈ w :: r, b ≤ y.time := fun y hy => by
      rcases List.mem_cons.1 hy with rfl | hy
      · exact h3.1
      · exact h3.2 y hy
    have hab : b ≤ a := by
      rcases h2 with h2 | ⟨y, hy, h2⟩
      · rw [h2]; exact hbx x h
      · rw [h2]; exact hbx y hy
    have hba : a ≤ b := by
      rcases h4 with h4 | ⟨y, hy, h4⟩
      · rw [h4]; exact hax w (List.mem_cons_self ..)
      · rw [h4]; exact hax y (List.mem_cons_of_mem _ hy)
    omega
theorem timeP_snoc (l : List Vote) (x : Vote) : timeP (l ++ [x]) = if l.length = 0 ∨ x.time < timeP l then x.time else timeP l := by
  cases l with
  | nil => rfl
  | cons w r =>
    have h0 : ¬ (w :: r).length = 0 := by simp
    rw [List.cons_append, timeP_cons, timeP_cons, List.foldl_append]
    simp only [List.foldl_cons, List.foldl_nil, h0, false_or]
    split <;> omega
theorem timeP_bd {l : List Vote} (h : ∀ x ∈ l, 0 ≤ x.time ∧ x.time ≤ 4294967295) : 0 ≤ timeP l ∧ timeP l ≤ 4294967295 := by
  cases l with
  | nil => simp [timeP]
  | cons w r =>
    have h1 := fmin_le r w.time
    have h2 := fmin_in r w.time
    have hw := h w (List.mem_cons_self ..)
    rw [timeP_cons]
    rcases h2 with h2 | ⟨y, hy, h2⟩
    · rw [h2]; exact hw
    · rw [h2]; exact h y (List.mem_cons_of_mem _ hy)
theorem wonAt_lt_len {want : Int} {vs : List Vote} {k : Nat} : ∀ i, wonAt want vs i = some k → k < i ∧ wonAt want vs k = none ∧ ∃ x, vs[k]? = some x ∧ want ≤ ((withV (vs.take (k + 1)) x.vd).length : Int)
  | 0, h => by simp [wonAt] at h
  | i + 1, h => by
    cases h1 : wonAt want vs i with
    | some j =>
      rw [wonAt, h1] at h
      obtain rfl := Option.some.inj h
      obtain ⟨a, b⟩ := wonAt_lt_len i h1
      exact ⟨by omega, b⟩
    | none =>
      cases h2 : vs[i]? with
      | none => rw [wonAt, h1, h2] at h; cases h
      | some x =>
        rw [wonAt_succ h2 h1] at h
        split at h
        · rename_i hw
          obtain rfl := Option.some.inj h
          exact ⟨by omega, h1, x, h2, hw⟩
        · cases h
/-- What a box that is won is won by. -/
structure WonBy (want : Int) (vs : List Vote) (j : Nat) (x : Vote) : Prop where
  at_ : vs[j]? = some x
  no : wonAt want vs j = none
  yes : wonAt want vs vs.length = some j
  len : ((withV (vs.take (j + 1)) x.vd).length : Int) = want
  is : wonR want vs = (x.vd, timeP (withV (vs.take (j + 1)) x.vd), risingI ((withV (vs.take (j + 1)) x.vd).map (·.up)), true)
theorem won_or {want : Int} (hw : 1 ≤ want) (vs : List Vote) : (wonAt want vs vs.length = none ∧ wonR want vs = (Vdt.none, 0, [], false)) ∨ ∃ j x, WonBy want vs j x := by
  cases h : wonAt want vs vs.length with
  | none => exact Or.inl ⟨rfl, by unfold wonR; rw [h]⟩
  | some j =>
    obtain ⟨h1, h2, x, hx, h3⟩ := wonAt_lt_len _ h
    refine Or.inr ⟨j, x, hx, h2, h, (won_exact hw hx h2).1 h3, ?_⟩
    unfold wonR
    rw [h]
    dsimp only
    rw [hx]
    dsimp only
    rw [timeP_fold]
    refine withV_mem.2 ⟨?_, rfl⟩
    rw [List.mem_take_iff_getElem]
    obtain ⟨hj, hjx⟩ := List.getElem?_eq_some_iff.1 hx
    exact ⟨j, by omega, hjx⟩
theorem most_le {vs ws : List Vote} {m : Int} : ∀ {n : Int}, ws.foldl (fun m x => max m ((withV vs x.vd).length : Int)) n ≤ m ↔ n ≤ m ∧ ∀ x ∈ ws, ((withV vs x.vd).length : Int) ≤ m := by
  induction ws with
  | nil => intro n; simp
  | cons w r ih =>
    intro n
    rw [List.foldl_cons, ih]
    simp only [List.mem_cons, forall_eq_or_imp]
    constructor
    · rintro ⟨h1, h2⟩; exact ⟨by omega, by omega, h2⟩
    · rintro ⟨h1, h2, h3⟩; exact ⟨by omega, h3⟩
theorem mostR_le {vs : List Vote} {m : Int} : mostR vs ≤ m ↔ 0 ≤ m ∧ ∀ x ∈ vs, ((withV vs x.vd).length : Int) ≤ m := most_le
theorem mostR_in {vs : List Vote} {x : Vote} (h : x ∈ vs) : ((withV vs x.vd).length : Int) ≤ mostR vs := (mostR_le.1 (Int.le_refl _)).2 x h
theorem mostR_0 (vs : List Vote) : 0 ≤ mostR vs := (mostR_le.1 (Int.le_refl _)).1
theorem withV_perm {vs ws : List Vote} (p : vs.Perm ws) (v : Vdt) : (withV vs v).length = (withV ws v).length := (p.filter _).length_eq
theorem mostR_perm {vs ws : List Vote} (p : vs.Perm ws) : mostR vs = mostR ws := by
  have h1 : mostR vs ≤ mostR ws := mostR_le.2 ⟨mostR_0 _, fun x hx => by rw [withV_perm p]; exact mostR_in (p.mem_iff.1 hx)⟩
  have h2 : mostR ws ≤ mostR vs := mostR_le.2 ⟨mostR_0 _, fun x hx => by rw [← withV_perm p]; exact mostR_in (p.mem_iff.2 hx)⟩
  omega
/-- It is won just if some verdict has as many as are wanted. -/
theorem won_iff {want : Int} (hw : 1 ≤ want) (vs : List Vote) : (wonR want vs).2.2.2 = decide (want ≤ mostR vs) := by
  rcases won_or hw vs with ⟨h1, h2⟩ | ⟨j, x, h⟩
  · rw [h2]
    have : ¬ want ≤ mostR vs := fun hh => by
      have h3 : mostR vs ≤ want - 1 := mostR_le.2 ⟨by omega, fun x hx => by
        have := wonAt_lt hw vs.length (Nat.le_refl _) h1 x.vd
        rw [List.take_length] at this
        omega⟩
      omega
    simp [this]
  · rw [h.is]
    have h1 := withV_take_le vs (j + 1) x.vd
    have h2 := mostR_in (List.mem_of_getElem? h.at_)
    have h3 := h.len
    have : want ≤ mostR vs := by omega
    simp [this]
theorem two_le {vs : List Vote} {v w : Vdt} (h : v ≠ w) : (withV vs v).length + (withV vs w).length ≤ vs.length := by
  induction vs with
  | nil => simp [withV]
  | cons x r ih =>
    unfold withV at ih ⊢
    by_cases h1 : x.vd = v
    · by_cases h2 : x.vd = w
      · exact absurd (h1.symm.trans h2) h
      · rw [List.filter_cons_of_pos (by simpa using h1), List.filter_cons_of_neg (by simpa using h2)]
        simp only [List.length_cons]
        omega
    · by_cases h2 : x.vd = w
      · rw [List.filter_cons_of_neg (by simpa using h1), List.filter_cons_of_pos (by simpa using h2)]
        simp only [List.length_cons]
        omega
      · rw [List.filter_cons_of_neg (by simpa using h1), List.filter_cons_of_neg (by simpa using h2)]
        simp only [List.length_cons]
        omega
/-- THE LAW TallyOne: where more than half are wanted it is won by one verdict at most, in whatever row. -/
theorem one_law {f : Int} (hf : 0 ≤ f) {vs ws : List Vote} (p : vs.Perm ws) (hn : (vs.length : Int) ≤ 2 * f + 1) :
    (wonR (f + 1) vs).2.2.2 = (wonR (f + 1) ws).2.2.2 ∧ (wonR (f + 1) vs).1 = (wonR (f + 1) ws).1 ∧ mostR vs = mostR ws ∧ (wonR (f + 1) vs).2.2.2 = decide (f + 1 ≤ mostR vs) := by
  have hm := mostR_perm p
  have e1 := won_iff (want := f + 1) (by omega) vs
  have e2 := won_iff (want := f + 1) (by omega) ws
  refine ⟨by rw [e1, e2, hm], ?_, hm, e1⟩
  rcases won_or (want := f + 1) (by omega) vs with ⟨_, h2⟩ | ⟨j, x, h⟩
  · rcases won_or (want := f + 1) (by omega) ws with ⟨_, k2⟩ | ⟨i, y, k⟩
    · rw [h2, k2]
    · rw [h2] at e1
      rw [k.is] at e2
      rw [hm] at e1
      rw [← e1] at e2
      cases e2
  · rcases won_or (want := f + 1) (by omega) ws with ⟨_, k2⟩ | ⟨i, y, k⟩
    · rw [h.is] at e1
      rw [k2] at e2
      rw [hm] at e1
      rw [← e1] at e2
      cases e2
    · rw [h.is, k.is]
      show x.vd = y.vd
      by_cases hxy : x.vd = y.vd
      · exact hxy
      · have t := two_le (vs := vs) hxy
        have a1 := withV_take_le vs (j + 1) x.vd
        have a2 := withV_take_le ws (i + 1) y.vd
        rw [← withV_perm p] at a2
        have a3 := h.len
        have a4 := k.len
        omega
theorem wonAt_pre {want : Int} (vs ws : List Vote) : ∀ j, j ≤ vs.length → wonAt want (vs ++ ws) j = wonAt want vs j
  | 0, _ => rfl
  | j + 1, h => by
    have ih := wonAt_pre (want := want) vs ws j (by omega)
    have h1 : (vs ++ ws)[j]? = vs[j]? := List.getElem?_append_left (by omega)
    have h2 : (vs ++ ws).take (j + 1) = vs.take (j + 1) := List.take_append_of_le_length h
    rw [wonAt, wonAt, ih, h1, h2]
/-- THE LAW TallyStays: what comes behind changes nothing of by what, and by whom, it is won. -/
theorem stays_law {want : Int} (hw : 1 ≤ want) (vs ws : List Vote) (h : (wonR want vs).2.2.2 = true) : wonR want (vs ++ ws) = wonR want vs := by
  rcases won_or hw vs with ⟨_, h2⟩ | ⟨j, x, k⟩
  · rw [h2] at h; cases h
  · obtain ⟨hj, hjx⟩ := List.getElem?_eq_some_iff.1 k.at_
    have e1 : wonAt want (vs ++ ws) (vs ++ ws).length = some j := wonAt_some vs.length _ (by simp) (by rw [wonAt_pre _ _ _ (Nat.le_refl _)]; exact k.yes)
    unfold wonR
    rw [e1, k.yes]
    dsimp only
    rw [List.getElem?_append_left hj, k.at_]
    dsimp only
    rw [List.take_append_of_le_length (by omega)]
theorem againstR_len {want : Int} (vs : List Vote) (hv : Vup vs) : (wonR want vs).2.2.2 = true → (againstR want vs).length = (vs.filter fun x => !decide (x.vd = (wonR want vs).1)).length := by
  intro h
  unfold againstR
  rw [if_pos h, rising_len (hv.filter _).nd (hv.filter _).ups, List.length_map]
theorem against_mem {want : Int} {vs : List Vote} (hv : Vup vs) (hw : (wonR want vs).2.2.2 = true) {x : Vote} (hx : x ∈ vs) : x.up ∈ againstR want vs ↔ x.vd ≠ (wonR want vs).1 := by
  unfold againstR
  rw [if_pos hw, rising_mem (hv.filter _).nd (hv.filter _).ups, List.mem_map]
  constructor
  · rintro ⟨y, hy, e⟩
    obtain ⟨h1, h2⟩ := List.mem_filter.1 hy
    obtain rfl := hv.inj h1 hx e
    simpa using h2
  · intro h
    exact ⟨x, List.mem_filter.2 ⟨hx, by simpa using h⟩, rfl⟩
theorem by_mem {vs : List Vote} (hv : Vup vs) {j : Nat} {v : Vdt} {x : Vote} (hx : x ∈ vs) : x.up ∈ risingI ((withV (vs.take j) v).map (·.up)) ↔ x ∈ vs.take j ∧ x.vd = v := by
  have h1 : Vup (withV (vs.take j) v) := (hv.take j).filter _
  rw [rising_mem h1.nd h1.ups, List.mem_map]
  constructor
  · rintro ⟨y, hy, e⟩
    obtain ⟨h2, h3⟩ := withV_mem.1 hy
    obtain rfl := hv.inj (List.mem_of_mem_take h2) hx e
    exact ⟨h2, h3⟩
  · rintro ⟨h2, h3⟩
    exact ⟨x, withV_mem.2 ⟨h2, h3⟩, rfl⟩
theorem timeP_le {l : List Vote} {x : Vote} (h : x ∈ l) : timeP l ≤ x.time := by
  rw [← timeP_fold h]
  exact (fmin_le l x.time).1
theorem timeP_in {l : List Vote} (h : l ≠ []) : ∃ x ∈ l, timeP l = x.time := by
  cases l with
  | nil => exact absurd rfl h
  | cons w r =>
    rcases fmin_in r w.time with h | ⟨x, hx, h⟩
    · exact ⟨w, List.mem_cons_self .., h⟩
    · exact ⟨x, List.mem_cons_of_mem _ hx, h⟩
theorem sort_rising {l : List Int} (h : l.Nodup) (h9 : ∀ x ∈ l, 0 ≤ x ∧ x < 9) : (l.mergeSort fun x y => decide (x ≤ y)) = risingI l := by
  refine List.Perm.eq_of_pairwise (le := fun x y => x ≤ y) (fun a b _ _ h1 h2 => Int.le_antisymm h1 h2) ?_ ((rising_lt h).imp fun h => Int.le_of_lt h) ((List.mergeSort_perm _ _).trans (rising_perm h h9).symm)
  have := List.pairwise_mergeSort (le := fun x y : Int => decide (x ≤ y)) (fun a b c h1 h2 => by simp only [decide_eq_true_eq] at *; omega) (fun a b => by simp only [Bool.or_eq_true, decide_eq_true_eq]; omega) l
  exact this.imp fun h => of_decide_eq_true h
end Go.Proofs.Ytdflhdfapnhjjaa
namespace Go.Proofs.Ytdflhdfapnhjjaa
open Go.RowKit
open Vd (RSet Vdt Vote Rec Quest Piece Ballot Said)
set_option linter.unusedVariables false
set_option linter.unusedSimpArgs false
--auto
variable {G : World} {L : Blocks}
def saidR : Rp Said := fun L cs s => ∃ cm, cs = .int .i64 s.up :: (cm ++ [.int .u32 s.time]) ∧ msgR L cm s.m ∧ (0 ≤ s.time ∧ s.time ≤ 4294967295) ∧ (-9223372036854775808 ≤ s.up ∧ s.up ≤ 9223372036854775807)
theorem msgR.len {L : Blocks} {cs : List Value} {m : Vd.Msg} (h : msgR L cs m) : cs.length = 21 := by
  obtain ⟨h0, h1, h2, h3, h4, h5, h6, h7, h8, h9, q, a, b, x, k, e0, e1, e2, e3, e4, rfl, _⟩ := h
  rfl
/-- What a statement goes over. -/
def MsgFits (m : Vd.Msg) : Prop := m.answers.length ≤ 10000 ∧ (∀ x ∈ m.answers, x.name.length ≤ 1000000 ∧ x.data.length ≤ 1000000) ∧ m.auth.length ≤ 10000 ∧ (∀ x ∈ m.auth, x.name.length ≤ 1000000 ∧ x.data.length ≤ 1000000)
theorem ofM_code (q : Quest) (m : Vd.Msg) (h : 0 ≤ m.code ∧ m.code ≤ 255) : 0 ≤ (Vd.ofM q m).1.code ∧ (Vd.ofM q m).1.code ≤ 255 := by
  unfold Vd.ofM
  split
  · simp [Vdt.none]
  split
  rename_i l pos last e _
  split
  · simp [Vdt.none]
  split
  · simp [Vdt.none]
  split
  · exact h
  split
  rename_i s is e _
  split
  · simp [Vdt.none]
  split
  · exact h
  · exact h
end Go.Proofs.Ytdflhdfapnhjjaa
namespace Go.Proofs.Ytdflhdfapnhjjaa
open Go.RowKit
open Vd (RSet Vdt Vote Rec Quest Piece Ballot Said)
set_option linter.unusedVariables false
set_option linter.unusedSimpArgs false
--auto
variable {G : World} {L : Blocks}
/-- A set whose data lie in new memory. -/
def SetOut (L : Blocks) (r : RSet × Bool) (u : Value) (M : Blocks) : Prop := ∃ a c B, u = .tuple #[.agg #[.string (bs r.1.name), .int .u16 r.1.kind, .int .u16 r.1.cls, .int .u32 r.1.ttl, .slice a r.1.data.length c], .bool r.2] ∧ ORow strR 9 1 [] a c r.1.data B ∧ M = B ++ L ∧ rsR B [.string (bs r.1.name), .int .u16 r.1.kind, .int .u16 r.1.cls, .int .u32 r.1.ttl, .slice a r.1.data.length c] r.1
theorem SetOut.none : SetOut L (RSet.none, false) (.tuple #[.agg #[.string (bs []), .int .u16 0, .int .u16 0, .int .u32 0, .slice none 0 0], .bool false]) L := ⟨Option.none, 0, [], rfl, ORow.nil _, rfl, rs_none⟩
end Go.Proofs.Ytdflhdfapnhjjaa
namespace Go.Proofs.Ytdflhdfapnhjjaa
open Go.RowKit
open Vd (RSet Vdt Vote Rec Quest Piece Ballot Said)
set_option linter.unusedVariables false
set_option linter.unusedSimpArgs false
--auto
section
variable {G : World} {P : Program} {n : Nat} {ρ : Slots} {L : Blocks} {ty : TypeId} {Q : Exit → Act → World → Prop} {ops : Array Oper} {K : Blocks} {W : List Nat} {fuel : Nat} {listed : Array Bool}
theorem TA_oneGd (i : Nat) {d j dj : Nat} {want b : Bool} {op : Op} {pos : String} {after : Array Edge} {Φ : Value → Blocks → Prop} (hr : Region.ready .any ops listed = [i]) (hi : ops[i]? = some ⟨some d, op, ty, pos, after, some (j, want)⟩) (hdn : Nat.blt d n = true)
    (hs : guardSlot ops j = some dj) (hv : ρ.lookup dj = some (.bool b)) (hb : b = want)
    (hO : OpT P G ρ L op ty Φ) (h : ∀ v L', Φ v L' → (i ∈ W ∨ ∀ p ∈ K, p ∈ L') ∧ TA P G ops n K W Q fuel (listed.setIfInBounds i true) ((d, v) :: ρ) L') : TA P G ops n K W Q (fuel + 1) listed ρ L := by
  refine ⟨fun h0 => (by rw [hr] at h0; cases h0), fun k hk => ?_⟩
  rw [hr] at hk
  obtain rfl : k = i := by simpa using hk
  exact ⟨_, hi, fun d' e => by cases e; simpa using hdn, true, ⟨dj, _, hs, hv, by simp [gsay, hb]⟩, Or.inl ⟨rfl, Φ, hO, h⟩⟩
end
variable {G : World} {L : Blocks}
theorem vdR.vals {L : Blocks} {cs : List Value} {v : Vdt} (h : vdR L cs v) : ∃ a1 c1 a2 c2, cs = [.int .u8 v.code, .slice a1 v.sets.length c1, .slice a2 v.soa.length c2] ∧ sliceR 5 rsR L [.slice a1 v.sets.length c1] v.sets ∧ sliceR 5 rsR L [.slice a2 v.soa.length c2] v.soa ∧ (0 ≤ v.code ∧ v.code ≤ 255) := by
  obtain ⟨a, b, rfl, h1, h2, h3⟩ := h
  obtain ⟨a1, c1, e1, h1⟩ := h1.val
  obtain ⟨a2, c2, e2, h2⟩ := h2.val
  simp only [List.cons.injEq, and_true] at e1 e2
  subst e1 e2
  exact ⟨a1, c1, a2, c2, rfl, h1, h2, h3⟩
end Go.Proofs.Ytdflhdfapnhjjaa
namespace Go.Proofs.Ytdflhdfapnhjjaa
open Go.RowKit
open Vd (RSet Vdt Vote Rec Quest Piece Ballot Said)
set_option linter.unusedVariables false
set_option linter.unusedSimpArgs false
--auto
variable {G : World} {L : Blocks}
theorem vote_eq {a b : Vote} : a = b ↔ a.up = b.up ∧ a.time = b.time ∧ a.vd = b.vd := by
  cases a; cases b; simp only [Vote.mk.injEq]; exact ⟨fun h => ⟨h.1, h.2.2, h.2.1⟩, fun h => ⟨h.1, h.2.2, h.2.1⟩⟩
set_option maxRecDepth 100000 in
set_option maxHeartbeats 2000000 in
theorem rSameV_S (va vb : Value) (la lb : List Vote) (ha : sliceR 5 voteR L [va] la) (hb : sliceR 5 voteR L [vb] lb) : Spec Try.prog G 25 #[va, vb] L fun u M => u = .bool (decide (la = lb)) ∧ M = L := by
  obtain ⟨aa, ca, e1, ha⟩ := ha.val
  obtain ⟨ab, cb, e2, hb⟩ := hb.val
  simp only [List.cons.injEq, and_true] at e1 e2
  subst e1 e2
  obtain ⟨_, ka1, ka2, ha⟩ := sliceR.cut ha
  obtain ⟨_, kb1, kb2, hb⟩ := sliceR.cut hb
  unfold maxLen at ka2 kb2
  refine Spec_of (n := 55) Try.func25 rfl rfl rfl ?_
  by_cases hlen : la.length = lb.length
  · have d0 : (((la.length : Nat) : Int) != ((lb.length : Nat) : Int)) = false := by simp [hlen]
    repeat ((first | with_reducible refine T_seq ?_ | with_reducible refine T_block ?_ | with_reducible refine T_region ?_ | with_reducible refine TL_nil ?_ | with_reducible refine TQ_then ?_ | with_reducible refine T_skip ?_ | refine TL_q (op_move rfl) rfl ?_ | refine TL_q (op_assign rfl) rfl ?_ | (refine' TL_q (op_bin rfl rfl ?_) rfl ?_; rotate_left 1; (· (exact bin_neq))) | refine TL_q (op_len_slice rfl Try.underlying50) rfl ?_ | (refine T_no rfl ?_ ?_; (· (assumption)))))
    refine T_loopS (σ := Nat) (fun k => k ≤ la.length ∧ la.take k = lb.take k) (fun k => [(0, .slice aa la.length ca), (1, .slice ab lb.length cb), (5, .int .i64 (k : Nat))]) (fun k => L) (fun k => la.length - k) 0 ⟨Nat.zero_le _, by simp⟩ ?_ (fun w h => h) ?_
    (repeat ((first | exact trivial | refine ⟨rfl, ?_⟩)))
    rintro k ⟨hk, heq⟩
    by_cases hlt : k < la.length
    · obtain ⟨x, hx⟩ : ∃ x, la[k]? = some x := ⟨_, List.getElem?_eq_getElem hlt⟩
      obtain ⟨y, hy⟩ : ∃ y, lb[k]? = some y := ⟨_, List.getElem?_eq_getElem (hlen ▸ hlt)⟩
      rcases ha with rfl | ⟨b1, o1, C1, t1, f1, rfl, m1, q1⟩
      · simp at hlt
      rcases hb with rfl | ⟨b2, o2, C2, t2, f2, rfl, m2, q2⟩
      · simp at hy
      obtain ⟨_, _, hx0, hcx⟩ := q1 k x hx
      obtain ⟨_, _, hy0, hcy⟩ := q2 k y hy
      obtain ⟨x1, xc1, x2, xc2, rfl, p1, p2, p3, _⟩ := hx0.vals
      obtain ⟨y1, yc1, y2, yc2, rfl, r1, r2, r3, _⟩ := hy0.vals
      have hxr : vdR L [.int .u8 x.vd.code, .slice x1 x.vd.sets.length xc1, .slice x2 x.vd.soa.length xc2] x.vd := ⟨_, _, rfl, p1, p2, p3⟩
      have hyr : vdR L [.int .u8 y.vd.code, .slice y1 y.vd.sets.length yc1, .slice y2 y.vd.soa.length yc2] y.vd := ⟨_, _, rfl, r1, r2, r3⟩
      have g1 : C1[o1 + k * 5 + 0]? = some (.int .i64 x.up) := hcx 0 _ rfl
      have g2 : C2[o2 + k * 5 + 0]? = some (.int .i64 y.up) := hcy 0 _ rfl
      have g3 : C1[o1 + k * 5 + 4]? = some (.int .u32 x.time) := hcx 4 _ rfl
      have g4 : C2[o2 + k * 5 + 4]? = some (.int .u32 y.time) := hcy 4 _ rfl
      have hxv : ∀ j v, ([.int .u8 x.vd.code, .slice x1 x.vd.sets.length xc1, .slice x2 x.vd.soa.length xc2] : List Value)[j]? = some v → C1[o1 + k * 5 + 1 + j]? = some v := fun j v hj => by
        rw [Nat.add_assoc]
        match j, hj with
        | 0, hj => exact hcx 1 v hj
        | 1, hj => exact hcx 2 v hj
        | 2, hj => exact hcx 3 v hj
      have hyv : ∀ j v, ([.int .u8 y.vd.code, .slice y1 y.vd.sets.length yc1, .slice y2 y.vd.soa.length yc2] : List Value)[j]? = some v → C2[o2 + k * 5 + 1 + j]? = some v := fun j v hj => by
        rw [Nat.add_assoc]
        match j, hj with
        | 0, hj => exact hcy 1 v hj
        | 1, hj => exact hcy 2 v hj
        | 2, hj => exact hcy 3 v hj
      have hK : ∀ z ∈ [(b1, Obj.cells C1 t1 f1), (b2, Obj.cells C2 t2 f2)], z ∈ L := fun z hz => by
        simp only [List.mem_cons, List.not_mem_nil, or_false] at hz
        rcases hz with rfl | rfl <;> assumption
      have hne : x ≠ y → la ≠ lb := fun hxy e => hxy (by rw [e, hy] at hx; exact (Option.some.inj hx).symm)
      by_cases n1 : x.up = y.up
      · by_cases n2 : x.time = y.time
        · by_cases n3 : x.vd = y.vd
          · have hxy : x = y := vote_eq.2 ⟨n1, n2, n3⟩
            have d3 : (!decide (x.vd = y.vd)) = false := by simp [n3]
            repeat ((first | with_reducible refine T_seq ?_ | with_reducible refine T_block ?_ | with_reducible refine T_region ?_ | with_reducible refine TL_nil ?_ | with_reducible refine TQ_then ?_ | with_reducible refine T_skip ?_ | refine TL_q (op_move rfl) rfl ?_ | (refine' TL_q (op_bin rfl rfl ?_) rfl ?_; rotate_left 1; (· (exact bin_lss))) | refine TL_q (op_len_slice rfl Try.underlying50) rfl ?_ | (refine T_yes rfl ?_ ?_; (· (exact dT (by (omega)))))))
            refine T_draw follows_mixed ([(b1, Obj.cells C1 t1 f1), (b2, Obj.cells C2 t2 f2)]) [] ?_
            (refine' TA_take 0 rfl rfl (by kernel_rfl) (quiet_q (op_move rfl)) ?_ ?_; (· (assumption)))
            (refine' TA_take 1 rfl rfl (by kernel_rfl) (quiet_q (op_move rfl)) ?_ ?_; (· (assumption)))
            (refine' TA_take 2 rfl rfl (by kernel_rfl) (quiet_q (op_idx ety_50 rfl rfl ?_)) ?_ ?_; (· omega); (· (assumption)))
            (refine' TA_take 3 rfl rfl (by kernel_rfl) (quiet_q (op_fld rfl fld_63_0)) ?_ ?_; (· (assumption)))
            (refine' TA_take 4 rfl rfl (by kernel_rfl) (quiet_q (op_ld rfl pl_3 ?_ ?_)) ?_ ?_; rotate_left 4; (· repeat ((exact List.mem_cons_self))); (· (assumption)); (· (assumption)))
            (refine' TA_take 5 rfl rfl (by kernel_rfl) (quiet_q (op_move rfl)) ?_ ?_; (· (assumption)))
            (refine' TA_take 6 rfl rfl (by kernel_rfl) (quiet_q (op_move rfl)) ?_ ?_; (· (assumption)))
            (refine' TA_take 7 rfl rfl (by kernel_rfl) (quiet_q (op_idx ety_50 rfl rfl ?_)) ?_ ?_; (· omega); (· (assumption)))
            (refine' TA_take 8 rfl rfl (by kernel_rfl) (quiet_q (op_fld rfl fld_63_0)) ?_ ?_; (· (assumption)))
            (refine' TA_take 9 rfl rfl (by kernel_rfl) (quiet_q (op_ld rfl pl_3 ?_ ?_)) ?_ ?_; rotate_left 4; (· repeat ((first | exact List.mem_cons_self | apply List.mem_cons_of_mem))); (· (assumption)); (· (assumption)))
            (refine' TA_take 10 rfl rfl (by kernel_rfl) (quiet_q (op_bin rfl rfl ?_)) ?_ ?_; rotate_left 1; (· (exact bin_neq)); (· (assumption)))
            (refine' TA_take 11 rfl rfl (by kernel_rfl) (quiet_q (op_move rfl)) ?_ ?_; (· (assumption)))
            (refine' TA_take 12 rfl rfl (by kernel_rfl) (quiet_g2 rfl rfl (by (exact nF (by (assumption)))) (op_move rfl)) ?_ ?_; (· (assumption)))
            (refine' TA_take 13 rfl rfl (by kernel_rfl) (quiet_g2 rfl rfl (by (exact nF (by (assumption)))) (op_move rfl)) ?_ ?_; (· (assumption)))
            (refine' TA_take 14 rfl rfl (by kernel_rfl) (quiet_g2 rfl rfl (by (exact nF (by (assumption)))) (op_idx ety_50 rfl rfl ?_)) ?_ ?_; (· omega); (· (assumption)))
            (refine' TA_take 15 rfl rfl (by kernel_rfl) (quiet_g2 rfl rfl (by (exact nF (by (assumption)))) (op_fld rfl fld_63_2)) ?_ ?_; (· (assumption)))
            (refine' TA_take 16 rfl rfl (by kernel_rfl) (quiet_g2 rfl rfl (by (exact nF (by (assumption)))) (op_ld rfl pl_36 ?_ ?_)) ?_ ?_; rotate_left 4; (· repeat ((exact List.mem_cons_self))); (· (assumption)); (· (assumption)))
            (refine' TA_take 17 rfl rfl (by kernel_rfl) (quiet_g2 rfl rfl (by (exact nF (by (assumption)))) (op_move rfl)) ?_ ?_; (· (assumption)))
            (refine' TA_take 18 rfl rfl (by kernel_rfl) (quiet_g2 rfl rfl (by (exact nF (by (assumption)))) (op_move rfl)) ?_ ?_; (· (assumption)))
            (refine' TA_take 19 rfl rfl (by kernel_rfl) (quiet_g2 rfl rfl (by (exact nF (by (assumption)))) (op_idx ety_50 rfl rfl ?_)) ?_ ?_; (· omega); (· (assumption)))
            (refine' TA_take 20 rfl rfl (by kernel_rfl) (quiet_g2 rfl rfl (by (exact nF (by (assumption)))) (op_fld rfl fld_63_2)) ?_ ?_; (· (assumption)))
            (refine' TA_take 21 rfl rfl (by kernel_rfl) (quiet_g2 rfl rfl (by (exact nF (by (assumption)))) (op_ld rfl pl_36 ?_ ?_)) ?_ ?_; rotate_left 4; (· repeat ((first | exact List.mem_cons_self | apply List.mem_cons_of_mem))); (· (assumption)); (· (assumption)))
            (refine' TA_take 22 rfl rfl (by kernel_rfl) (quiet_g2 rfl rfl (by (exact nF (by (assumption)))) (op_bin rfl rfl ?_)) ?_ ?_; rotate_left 1; (· (exact bin_neq)); (· (assumption)))
            (refine' TA_take 23 rfl rfl (by kernel_rfl) (quiet_q (op_pickF rfl ?_ rfl)) ?_ ?_; (· (exact nF (by (assumption)))); (· (assumption)))
            (refine' TA_take 24 rfl rfl (by kernel_rfl) (quiet_q (op_move rfl)) ?_ ?_; (· (assumption)))
            (refine' TA_take 25 rfl rfl (by kernel_rfl) (quiet_g2 rfl rfl (by (exact nF (by (assumption)))) (op_move rfl)) ?_ ?_; (· (assumption)))
            (refine' TA_take 26 rfl rfl (by kernel_rfl) (quiet_g2 rfl rfl (by (exact nF (by (assumption)))) (op_move rfl)) ?_ ?_; (· (assumption)))
            (refine' TA_take 27 rfl rfl (by kernel_rfl) (quiet_g2 rfl rfl (by (exact nF (by (assumption)))) (op_idx ety_50 rfl rfl ?_)) ?_ ?_; (· omega); (· (assumption)))
            (refine' TA_take 28 rfl rfl (by kernel_rfl) (quiet_g2 rfl rfl (by (exact nF (by (assumption)))) (op_fld rfl fld_63_1)) ?_ ?_; (· (assumption)))
            (refine' TA_take 30 rfl rfl (by kernel_rfl) (quiet_g2 rfl rfl (by (exact nF (by (assumption)))) (op_move rfl)) ?_ ?_; (· (assumption)))
            (refine' TA_take 31 rfl rfl (by kernel_rfl) (quiet_g2 rfl rfl (by (exact nF (by (assumption)))) (op_move rfl)) ?_ ?_; (· (assumption)))
            (refine' TA_take 32 rfl rfl (by kernel_rfl) (quiet_g2 rfl rfl (by (exact nF (by (assumption)))) (op_idx ety_50 rfl rfl ?_)) ?_ ?_; (· omega); (· (assumption)))
            (refine' TA_take 33 rfl rfl (by kernel_rfl) (quiet_g2 rfl rfl (by (exact nF (by (assumption)))) (op_fld rfl fld_63_1)) ?_ ?_; (· (assumption)))
            -- SEVERAL: [29, 34]
            (refine TA_take 29 rfl rfl (by kernel_rfl) (quiet_g2 rfl rfl (by (exact nF (by (assumption)))) (op_ldA [.int .u8 x.vd.code, .slice x1 x.vd.sets.length xc1, .slice x2 x.vd.soa.length xc2] rfl st_42 (List.mem_cons_self ..) hxv)) ?_ ?_; (· exact hK))
            (refine TA_take 34 rfl rfl (by kernel_rfl) (quiet_g2 rfl rfl (by (exact nF (by (assumption)))) (op_ldA [.int .u8 y.vd.code, .slice y1 y.vd.sets.length yc1, .slice y2 y.vd.soa.length yc2] rfl st_42 (List.mem_cons_of_mem _ (List.mem_cons_self ..)) hyv)) ?_ ?_; (· exact hK))
            (refine TA_oneGd 35 (by kernel_rfl) rfl rfl rfl rfl (by (exact nF (by (assumption)))) (op_call hb_23 rfl (vSame_S [.int .u8 x.vd.code, .slice x1 x.vd.sets.length xc1, .slice x2 x.vd.soa.length xc2] [.int .u8 y.vd.code, .slice y1 y.vd.sets.length yc1, .slice y2 y.vd.soa.length yc2] x.vd y.vd hxr hyr)) ?_; rintro _ _ ⟨rfl, rfl⟩; refine ⟨Or.inr hK, ?_⟩)
            (refine' TA_take 36 rfl rfl (by kernel_rfl) (quiet_g2 rfl rfl (by (exact nF (by (assumption)))) (op_not rfl)) ?_ ?_; (· (assumption)))
            (refine' TA_take 37 rfl rfl (by kernel_rfl) (quiet_q (op_pickF rfl ?_ rfl)) ?_ ?_; (· (exact nF (by (assumption)))); (· (assumption)))
            refine TA_done (by kernel_rfl) ?_
            repeat ((first | with_reducible refine T_region ?_ | with_reducible refine TL_nil ?_ | with_reducible refine TQ_then ?_ | with_reducible refine TQ_block ?_ | with_reducible refine T_skip ?_ | refine TL_q (op_move rfl) rfl ?_ | refine TL_q (op_assign rfl) rfl ?_ | (refine' TL_q (op_bin rfl rfl ?_) rfl ?_; rotate_left 1; (· (exact bin_add ⟨by omega, by omega⟩))) | (refine T_no rfl ?_ ?_; (· (assumption)))))
            refine TQ_roundS (k + 1) ⟨hlt, by subst hxy; exact take_ext heq hx hy⟩ ?_ (fun w h => h) (by omega)
            (repeat ((first | exact trivial | refine ⟨rfl, ?_⟩)))
          · have d3 : (!decide (x.vd = y.vd)) = true := by simp [n3]
            repeat ((first | with_reducible refine T_seq ?_ | with_reducible refine T_block ?_ | with_reducible refine T_region ?_ | with_reducible refine TL_nil ?_ | with_reducible refine TQ_then ?_ | with_reducible refine T_skip ?_ | refine TL_q (op_move rfl) rfl ?_ | (refine' TL_q (op_bin rfl rfl ?_) rfl ?_; rotate_left 1; (· (exact bin_lss))) | refine TL_q (op_len_slice rfl Try.underlying50) rfl ?_ | (refine T_yes rfl ?_ ?_; (· (exact dT (by (omega)))))))
            refine T_draw follows_mixed ([(b1, Obj.cells C1 t1 f1), (b2, Obj.cells C2 t2 f2)]) [] ?_
            (refine' TA_take 0 rfl rfl (by kernel_rfl) (quiet_q (op_move rfl)) ?_ ?_; (· (assumption)))
            (refine' TA_take 1 rfl rfl (by kernel_rfl) (quiet_q (op_move rfl)) ?_ ?_; (· (assumption)))
            (refine' TA_take 2 rfl rfl (by kernel_rfl) (quiet_q (op_idx ety_50 rfl rfl ?_)) ?_ ?_; (· omega); (· (assumption)))
            (refine' TA_take 3 rfl rfl (by kernel_rfl) (quiet_q (op_fld rfl fld_63_0)) ?_ ?_; (· (assumption)))
            (refine' TA_take 4 rfl rfl (by kernel_rfl) (quiet_q (op_ld rfl pl_3 ?_ ?_)) ?_ ?_; rotate_left 4; (· repeat ((exact List.mem_cons_self))); (· (assumption)); (· (assumption)))
            (refine' TA_take 5 rfl rfl (by kernel_rfl) (quiet_q (op_move rfl)) ?_ ?_; (· (assumption)))
            (refine' TA_take 6 rfl rfl (by kernel_rfl) (quiet_q (op_move rfl)) ?_ ?_; (· (assumption)))
            (refine' TA_take 7 rfl rfl (by kernel_rfl) (quiet_q (op_idx ety_50 rfl rfl ?_)) ?_ ?_; (· omega); (· (assumption)))
            (refine' TA_take 8 rfl rfl (by kernel_rfl) (quiet_q (op_fld rfl fld_63_0)) ?_ ?_; (· (assumption)))
            (refine' TA_take 9 rfl rfl (by kernel_rfl) (quiet_q (op_ld rfl pl_3 ?_ ?_)) ?_ ?_; rotate_left 4; (· repeat ((first | exact List.mem_cons_self | apply List.mem_cons_of_mem))); (· (assumption)); (· (assumption)))
            (refine' TA_take 10 rfl rfl (by kernel_rfl) (quiet_q (op_bin rfl rfl ?_)) ?_ ?_; rotate_left 1; (· (exact bin_neq)); (· (assumption)))
            (refine' TA_take 11 rfl rfl (by kernel_rfl) (quiet_q (op_move rfl)) ?_ ?_; (· (assumption)))
            (refine' TA_take 12 rfl rfl (by kernel_rfl) (quiet_g2 rfl rfl (by (exact nF (by (assumption)))) (op_move rfl)) ?_ ?_; (· (assumption)))
            (refine' TA_take 13 rfl rfl (by kernel_rfl) (quiet_g2 rfl rfl (by (exact nF (by (assumption)))) (op_move rfl)) ?_ ?_; (· (assumption)))
            (refine' TA_take 14 rfl rfl (by kernel_rfl) (quiet_g2 rfl rfl (by (exact nF (by (assumption)))) (op_idx ety_50 rfl rfl ?_)) ?_ ?_; (· omega); (· (assumption)))
            (refine' TA_take 15 rfl rfl (by kernel_rfl) (quiet_g2 rfl rfl (by (exact nF (by (assumption)))) (op_fld rfl fld_63_2)) ?_ ?_; (· (assumption)))
            (refine' TA_take 16 rfl rfl (by kernel_rfl) (quiet_g2 rfl rfl (by (exact nF (by (assumption)))) (op_ld rfl pl_36 ?_ ?_)) ?_ ?_; rotate_left 4; (· repeat ((exact List.mem_cons_self))); (· (assumption)); (· (assumption)))
            (refine' TA_take 17 rfl rfl (by kernel_rfl) (quiet_g2 rfl rfl (by (exact nF (by (assumption)))) (op_move rfl)) ?_ ?_; (· (assumption)))
            (refine' TA_take 18 rfl rfl (by kernel_rfl) (quiet_g2 rfl rfl (by (exact nF (by (assumption)))) (op_move rfl)) ?_ ?_; (· (assumption)))
            (refine' TA_take 19 rfl rfl (by kernel_rfl) (quiet_g2 rfl rfl (by (exact nF (by (assumption)))) (op_idx ety_50 rfl rfl ?_)) ?_ ?_; (· omega); (· (assumption)))
            (refine' TA_take 20 rfl rfl (by kernel_rfl) (quiet_g2 rfl rfl (by (exact nF (by (assumption)))) (op_fld rfl fld_63_2)) ?_ ?_; (· (assumption)))
            (refine' TA_take 21 rfl rfl (by kernel_rfl) (quiet_g2 rfl rfl (by (exact nF (by (assumption)))) (op_ld rfl pl_36 ?_ ?_)) ?_ ?_; rotate_left 4; (· repeat ((first | exact List.mem_cons_self | apply List.mem_cons_of_mem))); (· (assumption)); (· (assumption)))
            (refine' TA_take 22 rfl rfl (by kernel_rfl) (quiet_g2 rfl rfl (by (exact nF (by (assumption)))) (op_bin rfl rfl ?_)) ?_ ?_; rotate_left 1; (· (exact bin_neq)); (· (assumption)))
            (refine' TA_take 23 rfl rfl (by kernel_rfl) (quiet_q (op_pickF rfl ?_ rfl)) ?_ ?_; (· (exact nF (by (assumption)))); (· (assumption)))
            (refine' TA_take 24 rfl rfl (by kernel_rfl) (quiet_q (op_move rfl)) ?_ ?_; (· (assumption)))
            (refine' TA_take 25 rfl rfl (by kernel_rfl) (quiet_g2 rfl rfl (by (exact nF (by (assumption)))) (op_move rfl)) ?_ ?_; (· (assumption)))
            (refine' TA_take 26 rfl rfl (by kernel_rfl) (quiet_g2 rfl rfl (by (exact nF (by (assumption)))) (op_move rfl)) ?_ ?_; (· (assumption)))
            (refine' TA_take 27 rfl rfl (by kernel_rfl) (quiet_g2 rfl rfl (by (exact nF (by (assumption)))) (op_idx ety_50 rfl rfl ?_)) ?_ ?_; (· omega); (· (assumption)))
            (refine' TA_take 28 rfl rfl (by kernel_rfl) (quiet_g2 rfl rfl (by (exact nF (by (assumption)))) (op_fld rfl fld_63_1)) ?_ ?_; (· (assumption)))
            (refine' TA_take 30 rfl rfl (by kernel_rfl) (quiet_g2 rfl rfl (by (exact nF (by (assumption)))) (op_move rfl)) ?_ ?_; (· (assumption)))
            (refine' TA_take 31 rfl rfl (by kernel_rfl) (quiet_g2 rfl rfl (by (exact nF (by (assumption)))) (op_move rfl)) ?_ ?_; (· (assumption)))
            (refine' TA_take 32 rfl rfl (by kernel_rfl) (quiet_g2 rfl rfl (by (exact nF (by (assumption)))) (op_idx ety_50 rfl rfl ?_)) ?_ ?_; (· omega); (· (assumption)))
            (refine' TA_take 33 rfl rfl (by kernel_rfl) (quiet_g2 rfl rfl (by (exact nF (by (assumption)))) (op_fld rfl fld_63_1)) ?_ ?_; (· (assumption)))
            -- SEVERAL: [29, 34]
            (refine TA_take 29 rfl rfl (by kernel_rfl) (quiet_g2 rfl rfl (by (exact nF (by (assumption)))) (op_ldA [.int .u8 x.vd.code, .slice x1 x.vd.sets.length xc1, .slice x2 x.vd.soa.length xc2] rfl st_42 (List.mem_cons_self ..) hxv)) ?_ ?_; (· exact hK))
            (refine TA_take 34 rfl rfl (by kernel_rfl) (quiet_g2 rfl rfl (by (exact nF (by (assumption)))) (op_ldA [.int .u8 y.vd.code, .slice y1 y.vd.sets.length yc1, .slice y2 y.vd.soa.length yc2] rfl st_42 (List.mem_cons_of_mem _ (List.mem_cons_self ..)) hyv)) ?_ ?_; (· exact hK))
            (refine TA_oneGd 35 (by kernel_rfl) rfl rfl rfl rfl (by (exact nF (by (assumption)))) (op_call hb_23 rfl (vSame_S [.int .u8 x.vd.code, .slice x1 x.vd.sets.length xc1, .slice x2 x.vd.soa.length xc2] [.int .u8 y.vd.code, .slice y1 y.vd.sets.length yc1, .slice y2 y.vd.soa.length yc2] x.vd y.vd hxr hyr)) ?_; rintro _ _ ⟨rfl, rfl⟩; refine ⟨Or.inr hK, ?_⟩)
            (refine' TA_take 36 rfl rfl (by kernel_rfl) (quiet_g2 rfl rfl (by (exact nF (by (assumption)))) (op_not rfl)) ?_ ?_; (· (assumption)))
            (refine' TA_take 37 rfl rfl (by kernel_rfl) (quiet_q (op_pickF rfl ?_ rfl)) ?_ ?_; (· (exact nF (by (assumption)))); (· (assumption)))
            refine TA_done (by kernel_rfl) ?_
            repeat ((first | with_reducible refine T_seq ?_ | with_reducible refine T_region ?_ | with_reducible refine TL_nil ?_ | with_reducible refine TQ_then ?_ | with_reducible refine T_ret ?_ | with_reducible refine TQ_then_ret ?_ | with_reducible refine TQ_block_ret ?_ | refine TL_q (op_assign rfl) rfl ?_ | (refine T_yes rfl ?_ ?_; (· (assumption)))))
            refine TQ_ret1 4 _ rfl rfl ?_
            exact ⟨by rw [decide_eq_false (hne (fun e => n3 (by rw [e])))], rfl⟩
        · repeat ((first | with_reducible refine T_seq ?_ | with_reducible refine T_block ?_ | with_reducible refine T_region ?_ | with_reducible refine TL_nil ?_ | with_reducible refine TQ_then ?_ | with_reducible refine T_skip ?_ | refine TL_q (op_move rfl) rfl ?_ | (refine' TL_q (op_bin rfl rfl ?_) rfl ?_; rotate_left 1; (· (exact bin_lss))) | refine TL_q (op_len_slice rfl Try.underlying50) rfl ?_ | (refine T_yes rfl ?_ ?_; (· (exact dT (by (omega)))))))
          refine T_draw follows_mixed ([(b1, Obj.cells C1 t1 f1), (b2, Obj.cells C2 t2 f2)]) [] ?_
          (refine' TA_take 0 rfl rfl (by kernel_rfl) (quiet_q (op_move rfl)) ?_ ?_; (· (assumption)))
          (refine' TA_take 1 rfl rfl (by kernel_rfl) (quiet_q (op_move rfl)) ?_ ?_; (· (assumption)))
          (refine' TA_take 2 rfl rfl (by kernel_rfl) (quiet_q (op_idx ety_50 rfl rfl ?_)) ?_ ?_; (· omega); (· (assumption)))
          (refine' TA_take 3 rfl rfl (by kernel_rfl) (quiet_q (op_fld rfl fld_63_0)) ?_ ?_; (· (assumption)))
          (refine' TA_take 4 rfl rfl (by kernel_rfl) (quiet_q (op_ld rfl pl_3 ?_ ?_)) ?_ ?_; rotate_left 4; (· repeat ((exact List.mem_cons_self))); (· (assumption)); (· (assumption)))
          (refine' TA_take 5 rfl rfl (by kernel_rfl) (quiet_q (op_move rfl)) ?_ ?_; (· (assumption)))
          (refine' TA_take 6 rfl rfl (by kernel_rfl) (quiet_q (op_move rfl)) ?_ ?_; (· (assumption)))
          (refine' TA_take 7 rfl rfl (by kernel_rfl) (quiet_q (op_idx ety_50 rfl rfl ?_)) ?_ ?_; (· omega); (· (assumption)))
          (refine' TA_take 8 rfl rfl (by kernel_rfl) (quiet_q (op_fld rfl fld_63_0)) ?_ ?_; (· (assumption)))
          (refine' TA_take 9 rfl rfl (by kernel_rfl) (quiet_q (op_ld rfl pl_3 ?_ ?_)) ?_ ?_; rotate_left 4; (· repeat ((first | exact List.mem_cons_self | apply List.mem_cons_of_mem))); (· (assumption)); (· (assumption)))
          (refine' TA_take 10 rfl rfl (by kernel_rfl) (quiet_q (op_bin rfl rfl ?_)) ?_ ?_; rotate_left 1; (· (exact bin_neq)); (· (assumption)))
          (refine' TA_take 11 rfl rfl (by kernel_rfl) (quiet_q (op_move rfl)) ?_ ?_; (· (assumption)))
          (refine' TA_take 12 rfl rfl (by kernel_rfl) (quiet_g2 rfl rfl (by (exact nF (by (assumption)))) (op_move rfl)) ?_ ?_; (· (assumption)))
          (refine' TA_take 13 rfl rfl (by kernel_rfl) (quiet_g2 rfl rfl (by (exact nF (by (assumption)))) (op_move rfl)) ?_ ?_; (· (assumption)))
          (refine' TA_take 14 rfl rfl (by kernel_rfl) (quiet_g2 rfl rfl (by (exact nF (by (assumption)))) (op_idx ety_50 rfl rfl ?_)) ?_ ?_; (· omega); (· (assumption)))
          (refine' TA_take 15 rfl rfl (by kernel_rfl) (quiet_g2 rfl rfl (by (exact nF (by (assumption)))) (op_fld rfl fld_63_2)) ?_ ?_; (· (assumption)))
          (refine' TA_take 16 rfl rfl (by kernel_rfl) (quiet_g2 rfl rfl (by (exact nF (by (assumption)))) (op_ld rfl pl_36 ?_ ?_)) ?_ ?_; rotate_left 4; (· repeat ((exact List.mem_cons_self))); (· (assumption)); (· (assumption)))
          (refine' TA_take 17 rfl rfl (by kernel_rfl) (quiet_g2 rfl rfl (by (exact nF (by (assumption)))) (op_move rfl)) ?_ ?_; (· (assumption)))
          (refine' TA_take 18 rfl rfl (by kernel_rfl) (quiet_g2 rfl rfl (by (exact nF (by (assumption)))) (op_move rfl)) ?_ ?_; (· (assumption)))
          (refine' TA_take 19 rfl rfl (by kernel_rfl) (quiet_g2 rfl rfl (by (exact nF (by (assumption)))) (op_idx ety_50 rfl rfl ?_)) ?_ ?_; (· omega); (· (assumption)))
          (refine' TA_take 20 rfl rfl (by kernel_rfl) (quiet_g2 rfl rfl (by (exact nF (by (assumption)))) (op_fld rfl fld_63_2)) ?_ ?_; (· (assumption)))
          (refine' TA_take 21 rfl rfl (by kernel_rfl) (quiet_g2 rfl rfl (by (exact nF (by (assumption)))) (op_ld rfl pl_36 ?_ ?_)) ?_ ?_; rotate_left 4; (· repeat ((first | exact List.mem_cons_self | apply List.mem_cons_of_mem))); (· (assumption)); (· (assumption)))
          (refine' TA_take 22 rfl rfl (by kernel_rfl) (quiet_g2 rfl rfl (by (exact nF (by (assumption)))) (op_bin rfl rfl ?_)) ?_ ?_; rotate_left 1; (· (exact bin_neq)); (· (assumption)))
          (refine' TA_take 23 rfl rfl (by kernel_rfl) (quiet_q (op_pickF rfl ?_ rfl)) ?_ ?_; (· (exact nF (by (assumption)))); (· (assumption)))
          (refine' TA_take 24 rfl rfl (by kernel_rfl) (quiet_q (op_move rfl)) ?_ ?_; (· (assumption)))
          (refine TA_take 25 rfl rfl (by kernel_rfl) (quiet_no2 rfl rfl ?_) ?_ ?_; (· (exact nT (by (assumption)))); (· (assumption)))
          (refine TA_take 26 rfl rfl (by kernel_rfl) (quiet_no2 rfl rfl ?_) ?_ ?_; (· (exact nT (by (assumption)))); (· (assumption)))
          (refine TA_take 27 rfl rfl (by kernel_rfl) (quiet_no2 rfl rfl ?_) ?_ ?_; (· (exact nT (by (assumption)))); (· (assumption)))
          (refine TA_take 28 rfl rfl (by kernel_rfl) (quiet_no2 rfl rfl ?_) ?_ ?_; (· (exact nT (by (assumption)))); (· (assumption)))
          (refine TA_take 30 rfl rfl (by kernel_rfl) (quiet_no2 rfl rfl ?_) ?_ ?_; (· (exact nT (by (assumption)))); (· (assumption)))
          (refine TA_take 31 rfl rfl (by kernel_rfl) (quiet_no2 rfl rfl ?_) ?_ ?_; (· (exact nT (by (assumption)))); (· (assumption)))
          (refine TA_take 32 rfl rfl (by kernel_rfl) (quiet_no2 rfl rfl ?_) ?_ ?_; (· (exact nT (by (assumption)))); (· (assumption)))
          (refine TA_take 33 rfl rfl (by kernel_rfl) (quiet_no2 rfl rfl ?_) ?_ ?_; (· (exact nT (by (assumption)))); (· (assumption)))
          -- SEVERAL: [29, 34]
          (refine TA_take 29 rfl rfl (by kernel_rfl) (quiet_no2 rfl rfl ?_) ?_ ?_; (· (exact nT (by (assumption)))); (· exact hK))
          (refine TA_take 34 rfl rfl (by kernel_rfl) (quiet_no2 rfl rfl ?_) ?_ ?_; (· (exact nT (by (assumption)))); (· exact hK))
          (refine TA_take 35 rfl rfl (by kernel_rfl) (quiet_no2 rfl rfl ?_) ?_ ?_; (· (exact nT (by (assumption)))); (· exact hK))
          (refine TA_take 36 rfl rfl (by kernel_rfl) (quiet_no2 rfl rfl ?_) ?_ ?_; (· (exact nT (by (assumption)))); (· (assumption)))
          (refine' TA_take 37 rfl rfl (by kernel_rfl) (quiet_q (op_pickT rfl ?_ rfl)) ?_ ?_; (· (exact nT (by (assumption)))); (· (assumption)))
          refine TA_done (by kernel_rfl) ?_
          repeat ((first | with_reducible refine T_seq ?_ | with_reducible refine T_region ?_ | with_reducible refine TL_nil ?_ | with_reducible refine TQ_then ?_ | with_reducible refine T_ret ?_ | with_reducible refine TQ_then_ret ?_ | with_reducible refine TQ_block_ret ?_ | refine TL_q (op_assign rfl) rfl ?_ | (refine T_yes rfl ?_ ?_; (· (with_reducible rfl)))))
          refine TQ_ret1 4 _ rfl rfl ?_
          exact ⟨by rw [decide_eq_false (hne (fun e => n2 (by rw [e])))], rfl⟩
      · repeat ((first | with_reducible refine T_seq ?_ | with_reducible refine T_block ?_ | with_reducible refine T_region ?_ | with_reducible refine TL_nil ?_ | with_reducible refine TQ_then ?_ | with_reducible refine T_skip ?_ | refine TL_q (op_move rfl) rfl ?_ | (refine' TL_q (op_bin rfl rfl ?_) rfl ?_; rotate_left 1; (· (exact bin_lss))) | refine TL_q (op_len_slice rfl Try.underlying50) rfl ?_ | (refine T_yes rfl ?_ ?_; (· (exact dT (by (omega)))))))
        refine T_draw follows_mixed ([(b1, Obj.cells C1 t1 f1), (b2, Obj.cells C2 t2 f2)]) [] ?_
        (refine' TA_take 0 rfl rfl (by kernel_rfl) (quiet_q (op_move rfl)) ?_ ?_; (· (assumption)))
        (refine' TA_take 1 rfl rfl (by kernel_rfl) (quiet_q (op_move rfl)) ?_ ?_; (· (assumption)))
        (refine' TA_take 2 rfl rfl (by kernel_rfl) (quiet_q (op_idx ety_50 rfl rfl ?_)) ?_ ?_; (· omega); (· (assumption)))
        (refine' TA_take 3 rfl rfl (by kernel_rfl) (quiet_q (op_fld rfl fld_63_0)) ?_ ?_; (· (assumption)))
        (refine' TA_take 4 rfl rfl (by kernel_rfl) (quiet_q (op_ld rfl pl_3 ?_ ?_)) ?_ ?_; rotate_left 4; (· repeat ((exact List.mem_cons_self))); (· (assumption)); (· (assumption)))
        (refine' TA_take 5 rfl rfl (by kernel_rfl) (quiet_q (op_move rfl)) ?_ ?_; (· (assumption)))
        (refine' TA_take 6 rfl rfl (by kernel_rfl) (quiet_q (op_move rfl)) ?_ ?_; (· (assumption)))
        (refine' TA_take 7 rfl rfl (by kernel_rfl) (quiet_q (op_idx ety_50 rfl rfl ?_)) ?_ ?_; (· omega); (· (assumption)))
        (refine' TA_take 8 rfl rfl (by kernel_rfl) (quiet_q (op_fld rfl fld_63_0)) ?_ ?_; (· (assumption)))
        (refine' TA_take 9 rfl rfl (by kernel_rfl) (quiet_q (op_ld rfl pl_3 ?_ ?_)) ?_ ?_; rotate_left 4; (· repeat ((first | exact List.mem_cons_self | apply List.mem_cons_of_mem))); (· (assumption)); (· (assumption)))
        (refine' TA_take 10 rfl rfl (by kernel_rfl) (quiet_q (op_bin rfl rfl ?_)) ?_ ?_; rotate_left 1; (· (exact bin_neq)); (· (assumption)))
        (refine' TA_take 11 rfl rfl (by kernel_rfl) (quiet_q (op_move rfl)) ?_ ?_; (· (assumption)))
        (refine TA_take 12 rfl rfl (by kernel_rfl) (quiet_no2 rfl rfl ?_) ?_ ?_; (· (exact nT (by (assumption)))); (· (assumption)))
        (refine TA_take 13 rfl rfl (by kernel_rfl) (quiet_no2 rfl rfl ?_) ?_ ?_; (· (exact nT (by (assumption)))); (· (assumption)))
        (refine TA_take 14 rfl rfl (by kernel_rfl) (quiet_no2 rfl rfl ?_) ?_ ?_; (· (exact nT (by (assumption)))); (· (assumption)))
        (refine TA_take 15 rfl rfl (by kernel_rfl) (quiet_no2 rfl rfl ?_) ?_ ?_; (· (exact nT (by (assumption)))); (· (assumption)))
        (refine TA_take 16 rfl rfl (by kernel_rfl) (quiet_no2 rfl rfl ?_) ?_ ?_; (· (exact nT (by (assumption)))); (· (assumption)))
        (refine TA_take 17 rfl rfl (by kernel_rfl) (quiet_no2 rfl rfl ?_) ?_ ?_; (· (exact nT (by (assumption)))); (· (assumption)))
        (refine TA_take 18 rfl rfl (by kernel_rfl) (quiet_no2 rfl rfl ?_) ?_ ?_; (· (exact nT (by (assumption)))); (· (assumption)))
        (refine TA_take 19 rfl rfl (by kernel_rfl) (quiet_no2 rfl rfl ?_) ?_ ?_; (· (exact nT (by (assumption)))); (· (assumption)))
        (refine TA_take 20 rfl rfl (by kernel_rfl) (quiet_no2 rfl rfl ?_) ?_ ?_; (· (exact nT (by (assumption)))); (· (assumption)))
        (refine TA_take 21 rfl rfl (by kernel_rfl) (quiet_no2 rfl rfl ?_) ?_ ?_; (· (exact nT (by (assumption)))); (· (assumption)))
        (refine TA_take 22 rfl rfl (by kernel_rfl) (quiet_no2 rfl rfl ?_) ?_ ?_; (· (exact nT (by (assumption)))); (· (assumption)))
        (refine' TA_take 23 rfl rfl (by kernel_rfl) (quiet_q (op_pickT rfl ?_ rfl)) ?_ ?_; (· (exact nT (by (assumption)))); (· (assumption)))
        (refine' TA_take 24 rfl rfl (by kernel_rfl) (quiet_q (op_move rfl)) ?_ ?_; (· (assumption)))
        (refine TA_take 25 rfl rfl (by kernel_rfl) (quiet_no2 rfl rfl ?_) ?_ ?_; (· (exact Bool.not_false)); (· (assumption)))
        (refine TA_take 26 rfl rfl (by kernel_rfl) (quiet_no2 rfl rfl ?_) ?_ ?_; (· (exact Bool.not_false)); (· (assumption)))
        (refine TA_take 27 rfl rfl (by kernel_rfl) (quiet_no2 rfl rfl ?_) ?_ ?_; (· (exact Bool.not_false)); (· (assumption)))
        (refine TA_take 28 rfl rfl (by kernel_rfl) (quiet_no2 rfl rfl ?_) ?_ ?_; (· (exact Bool.not_false)); (· (assumption)))
        (refine TA_take 30 rfl rfl (by kernel_rfl) (quiet_no2 rfl rfl ?_) ?_ ?_; (· (exact Bool.not_false)); (· (assumption)))
        (refine TA_take 31 rfl rfl (by kernel_rfl) (quiet_no2 rfl rfl ?_) ?_ ?_; (· (exact Bool.not_false)); (· (assumption)))
        (refine TA_take 32 rfl rfl (by kernel_rfl) (quiet_no2 rfl rfl ?_) ?_ ?_; (· (exact Bool.not_false)); (· (assumption)))
        (refine TA_take 33 rfl rfl (by kernel_rfl) (quiet_no2 rfl rfl ?_) ?_ ?_; (· (exact Bool.not_false)); (· (assumption)))
        -- SEVERAL: [29, 34]
        (refine TA_take 29 rfl rfl (by kernel_rfl) (quiet_no2 rfl rfl ?_) ?_ ?_; (· (exact Bool.not_false)); (· exact hK))
        (refine TA_take 34 rfl rfl (by kernel_rfl) (quiet_no2 rfl rfl ?_) ?_ ?_; (· (exact Bool.not_false)); (· exact hK))
        (refine TA_take 35 rfl rfl (by kernel_rfl) (quiet_no2 rfl rfl ?_) ?_ ?_; (· (exact Bool.not_false)); (· exact hK))
        (refine TA_take 36 rfl rfl (by kernel_rfl) (quiet_no2 rfl rfl ?_) ?_ ?_; (· (exact Bool.not_false)); (· (assumption)))
        (refine' TA_take 37 rfl rfl (by kernel_rfl) (quiet_q (op_pickT rfl ?_ rfl)) ?_ ?_; (· (with_reducible rfl)); (· (assumption)))
        refine TA_done (by kernel_rfl) ?_
        repeat ((first | with_reducible refine T_seq ?_ | with_reducible refine T_region ?_ | with_reducible refine TL_nil ?_ | with_reducible refine TQ_then ?_ | with_reducible refine T_ret ?_ | with_reducible refine TQ_then_ret ?_ | with_reducible refine TQ_block_ret ?_ | refine TL_q (op_assign rfl) rfl ?_ | (refine T_yes rfl ?_ ?_; (· (with_reducible rfl)))))
        refine TQ_ret1 4 _ rfl rfl ?_
        exact ⟨by rw [decide_eq_false (hne (fun e => n1 (by rw [e])))], rfl⟩
    · have hkn : k = la.length := by omega
      subst hkn
      rw [List.take_length, hlen, List.take_length] at heq
      repeat ((first | with_reducible refine T_seq ?_ | with_reducible refine T_region ?_ | with_reducible refine TL_nil ?_ | with_reducible refine TQ_then ?_ | with_reducible refine T_exit ?_ | with_reducible refine T_ret ?_ | with_reducible refine TQ_then_exit ?_ | with_reducible refine TQ_block_exit ?_ | refine TL_q (op_move rfl) rfl ?_ | refine TL_q (op_assign rfl) rfl ?_ | (refine' TL_q (op_bin rfl rfl ?_) rfl ?_; rotate_left 1; (· (exact bin_lss))) | refine TL_q (op_len_slice rfl Try.underlying50) rfl ?_ | (refine T_no rfl ?_ ?_; (· (exact dF (by (omega)))))))
      refine TQ_ret1 4 _ rfl rfl ?_
      exact ⟨by simp [heq], rfl⟩
  · have d0 : (((la.length : Nat) : Int) != ((lb.length : Nat) : Int)) = true := by simp; omega
    repeat ((first | with_reducible refine T_seq ?_ | with_reducible refine T_region ?_ | with_reducible refine TL_nil ?_ | with_reducible refine TQ_then ?_ | with_reducible refine T_ret ?_ | with_reducible refine TQ_then_ret ?_ | refine TL_q (op_move rfl) rfl ?_ | refine TL_q (op_assign rfl) rfl ?_ | (refine' TL_q (op_bin rfl rfl ?_) rfl ?_; rotate_left 1; (· (exact bin_neq))) | refine TL_q (op_len_slice rfl Try.underlying50) rfl ?_ | (refine T_yes rfl ?_ ?_; (· (assumption)))))
    refine TQ_ret1 4 _ rfl rfl ?_
    have : la ≠ lb := fun e => hlen (by rw [e])
    exact ⟨by simp [this], rfl⟩
end Go.Proofs.Ytdflhdfapnhjjaa
namespace Go.Proofs.Ytdflhdfapnhjjaa
open Go.RowKit
open Vd (RSet Vdt Vote Rec Quest Piece Ballot Said)
set_option linter.unusedVariables false
set_option linter.unusedSimpArgs false
variable {G : World} {L : Blocks}
theorem Row.pre {e : TypeId} {a : Option Addr} {n c k : Nat} {xs : List Value} {B : Blocks} (h : Row e 1 (.slice a n c) n xs B) (hk : k ≤ n) : Row e 1 (.slice a k c) k (xs.take k) B := by
  have hl := h.len
  refine ⟨by rw [List.length_take, hl]; omega, ?_⟩
  rcases h.is with ⟨q1, q2, q3⟩ | ⟨b, cap, cur, q1, q2, q3, q4, q5, q6⟩
  · obtain ⟨rfl, _, rfl⟩ := Value.slice.inj q1
    have : k = 0 := by omega
    subst this
    exact Or.inl ⟨rfl, rfl, q3⟩
  · obtain ⟨rfl, _, rfl⟩ := Value.slice.inj q1
    refine Or.inr ⟨b, c, cur, rfl, q2, by omega, q4, q5, ?_⟩
    rw [← q6, List.take_take]
    congr 1
    omega
end Go.Proofs.Ytdflhdfapnhjjaa
namespace Go.Proofs.Ytdflhdfapnhjjaa
open Go.RowKit
set_option linter.unusedVariables false
set_option linter.unusedSimpArgs false
variable {G : World} {L : Blocks}
theorem laid_int_of : ∀ {l : List Int} {xs : List Value}, Laid (intR .i64) 1 L xs l → xs = l.map (Value.int .i64) ∧ ∀ s ∈ l, InLit .i64 s
  | [], xs, h => ⟨h, by simp⟩
  | s :: l, _, ⟨c, ys, h1, h2, h3, h4⟩ => by
    obtain ⟨k1, k2⟩ := laid_int_of h4
    obtain ⟨rfl, h3⟩ := h3
    refine ⟨by rw [h1, k1]; rfl, fun t ht => ?_⟩
    rcases List.mem_cons.1 ht with rfl | ht
    · exact h3
    · exact k2 t ht
theorem laid_int_mk : ∀ (l : List Int), (∀ s ∈ l, InLit .i64 s) → Laid (intR .i64) 1 L (l.map (Value.int .i64)) l
  | [], _ => rfl
  | s :: l, h => ⟨[.int .i64 s], l.map (Value.int .i64), rfl, rfl, ⟨rfl, h s (List.mem_cons_self ..)⟩, laid_int_mk l fun t ht => h t (List.mem_cons_of_mem _ ht)⟩
theorem int_one (l : List Int) : ∀ v ∈ l.map (Value.int .i64), v.oneCell' = true := by
  intro v hv
  obtain ⟨s, _, rfl⟩ := List.mem_map.1 hv
  rfl
theorem SortI_S {K : Blocks} (a : Option Addr) (c : Nat) (l : List Int) (B : Blocks) (hB : ORow (intR .i64) 3 1 K a c l B) (hn : l.length ≤ 1000000) : Spec Try.prog G 68 #[.slice a l.length c] (B ++ L) fun u M => u = .tuple #[] ∧ ∃ B', ORow (intR .i64) 3 1 K a c (l.mergeSort fun x y => decide (x ≤ y)) B' ∧ M = B' ++ L := by
  refine ⟨fun w hw => ?_⟩
  obtain ⟨xs, h1, h2, h3⟩ := hB.ex
  obtain ⟨rfl, hle⟩ := laid_int_of h2
  rcases h1.is with ⟨q1, q2, q3⟩ | ⟨b, cap, cur, q1, q2, q3, q4, q5, q6⟩
  · have hl0 : l = [] := List.eq_nil_of_length_eq_zero q2
    subst hl0
    obtain ⟨rfl, _, rfl⟩ := Value.slice.inj q1
    refine (Try.slices_Sort_int_none none 0 w).mono fun e w' ⟨he, hww⟩ => ?_
    subst hww
    exact ⟨_, _, he, ⟨rfl, B, by simpa using hB, rfl⟩, hw⟩
  · obtain ⟨rfl, _, rfl⟩ := Value.slice.inj q1
    have hb : w.heap[b]? = some (.cells cur 3 (0, 0)) := hw.get (b, _) (by rw [q2]; simp)
    have hH := holds_of_blockI (ss := l) hb (by rw [Nat.mul_one] at q6; exact q6)
    have hlen : (l.mergeSort fun x y => decide (x ≤ y)).length = l.length := List.length_mergeSort l
    refine (Try.slices_Sort_int b 0 c l w hH (Array.getElem?_eq_some_iff.1 hb).1 (by omega)).mono fun e w' ⟨he, n, os, hww⟩ => ?_
    have ho := ownsRow_sortedI (w := w) (base := 0) (n := n) (os := os) (ss := l) (ts := l.mergeSort fun x y => decide (x ≤ y)) hlen (Nat.zero_le _) hb q3 q4 q5
    have hg := grownBy_sortedI (w := w) (g := b) (n := n) (os := os) (l.mergeSort fun x y => decide (x ≤ y)).toArray
    rw [← hww] at ho hg
    obtain ⟨B', hB', hH'⟩ := h1.after hw ho hg (Or.inl rfl)
    refine ⟨_, _, he, ⟨rfl, B', ⟨_, by rw [hlen]; exact hB', laid_int_mk _ fun s hs => hle s ((List.mem_mergeSort).1 hs), int_one _⟩, rfl⟩, hH'⟩
end Go.Proofs.Ytdflhdfapnhjjaa
namespace Go.Proofs.Ytdflhdfapnhjjaa
open Go.RowKit
set_option linter.unusedVariables false
set_option linter.unusedSimpArgs false
section
variable {G : World} {P : Program} {n : Nat} {ρ : Slots} {L : Blocks} {ty : TypeId} {Q : Exit → Act → World → Prop}
theorem op_ldArr {x : Operand} {b off len : Nat} {t e : TypeId} {C : Array Value} {te : TypeId} {fr : Nat × Nat} (cs : List Value) (hx : ev ρ x = some (.pointer (some ⟨b, off, none⟩)))
    (hu : P.underlying t = some (.array len e)) (ht : (P.info? t).map (·.size) = some cs.length) (hm : (b, Obj.cells C te fr) ∈ L) (hv : ∀ j v, cs[j]? = some v → C[off + j]? = some v) : OpQ P ρ L (.load t x) ty (.agg cs.toArray) :=
  ⟨fun r hr w hw o ho _ => by
    cases hi : P.info? t with
    | none => simp [hi] at ht
    | some i =>
      simp [hi] at ht
      have ha : (isAgg t).run P w = .ok true w := by
        unfold isAgg
        simp [run_underlying hu]
      have hc := run_loadCells_list (P := P) (w := w) ⟨b, off, none⟩ cs (fun j v hj => by rw [addr_add]; exact hw.cell hm (hv j v hj))
      simp [execOp, ho, hr _ _ hx, Instr.loadAt, Instr.sureAddr, loadVar, ha, sizeOf, typeInfo, hi, ht, hc]⟩
theorem op_idxV {x y : Operand} {C : Array Value} {t e : TypeId} {len sz : Nat} {k : IntKind} {i : Int} (hx : ev ρ x = some (.agg C)) (hy : ev ρ y = some (.int k i)) (hu : P.underlying t = some (.array len e)) (he : structTy P e sz = true)
    (h0 : 0 ≤ i) (h1 : i < len) : OpQ P ρ L (.index t x y) ty (.agg (C.extract (i.toNat * sz) (i.toNat * sz + sz))) :=
  ⟨fun r hr w hw o ho _ => by
    unfold structTy at he
    cases hue : P.underlying e with
    | none => simp [hue] at he
    | some d =>
      cases hi : P.info? e with
      | none => simp [hi] at he
      | some ti =>
        cases d with
        | struct fs =>
          simp [hue, hi] at he
          have ha : (isAgg e).run P w = .ok true w := by
            unfold isAgg
            simp [run_underlying hue]
          simp [execOp, ho, hr _ _ hx, hr _ _ hy, Instr.index, asIntOf, run_underlying hu, h0, h1, part, ha, sizeOf, typeInfo, hi, he]
        | _ => simp [hue] at he⟩
end
end Go.Proofs.Ytdflhdfapnhjjaa
namespace Go.Proofs.Ytdflhdfapnhjjaa
open Go.RowKit
open Vd (RSet Vdt Vote Rec Quest Piece Ballot)
set_option linter.unusedVariables false
set_option linter.unusedSimpArgs false
--auto
section
variable {G : World} {P : Program} {n : Nat} {ρ : Slots} {L : Blocks} {ty : TypeId} {Q : Exit → Act → World → Prop}
theorem TQ_retC4 {fn : Func} {Φ : Value → Blocks → Prop} (a t u s r : Nat) {b k : Nat} {C : Array Value} {te : TypeId} {fr : Nat × Nat} {x y z : Value} {L' : Blocks} (hr : fn.results = #[.cell a t, .tmp u, .tmp s, .tmp r]) (hv : ρ.lookup a = some (.pointer (some ⟨b, 0, none⟩))) (hx : ρ.lookup u = some x) (hy : ρ.lookup s = some y) (hz : ρ.lookup r = some z)
    (ht : structTy P t k = true) (hm : (b, Obj.cells C te fr) ∈ L) (hk : C.size = k) (hl : ∀ w, Heap G w L → Heap G w L') (h : Φ (.tuple #[.agg C, x, y, z]) L') : TQ G n ρ L .ret (bodyPost P fn (RetPost G Φ)) :=
  ⟨fun ac w he hw => ⟨he.defers, .tuple #[.agg C, x, y, z], by
    obtain ⟨h1, h0⟩ := cell_run he hv ht (hw.get _ hm) hk
    have h2 : ac.tmps.getD u undef = x := he.reads (.tmp u) x hx
    have h3 : ac.tmps.getD s undef = y := he.reads (.tmp s) y hy
    have h4 : ac.tmps.getD r undef = z := he.reads (.tmp r) z hz
    rw [Array.getD_eq_getD_getElem?] at h1 h2 h3 h4
    simp only [results, hr]
    simp
    simp [h1, asAddr, h0, h2, h3, h4], _, L', rfl, h, hl w hw⟩⟩
theorem op_pushI {s x : Operand} {t e te : TypeId} {bytes bl : Nat} {z : Value} {a : Option Addr} {c : Nat} {y : Int} {l : List Int} {B L0 : Blocks} (E : ElemTy P t e 1 bytes z) (hs : ev ρ s = some (.slice a l.length c)) (hx : ev ρ x = some (.slice (some ⟨bl, 0, none⟩) 1 1))
    (hrow : ORow (intR .i64) e 1 L0 a c l B) (hy : InLit .i64 y) (h63 : l.length ≤ 1000000) (hb : bytes ≤ 1000) :
    OpT P G ρ ((bl, .cells #[.int .i64 y] te (0, 0)) :: (B ++ L)) (.call ⟨.builtin .append, #[s, x], #[t, t]⟩) ty fun v' L' => ∃ a' c' B', v' = .slice a' (l ++ [y]).length c' ∧ ORow (intR .i64) e 1 L0 a' c' (l ++ [y]) B' ∧ L' = B' ++ L :=
  op_push (cs := [.int .i64 y]) E hs hx hrow rfl (by intro v hv; rw [List.mem_singleton.1 hv]; rfl) ⟨rfl, hy⟩ (by unfold maxLen; omega) (Nat.le_trans (Nat.mul_le_mul (show l.length + 1 ≤ 1000001 by omega) hb) (by decide))
end
theorem slip_neq (p q r s : Int) (w : World) : (binOp .neq 97 (.agg #[.int .u8 p, .int .i64 r]) (.agg #[.int .u8 q, .int .i64 s])).run Try.prog w = .ok (.bool (!decide ((p, r) = (q, s)))) w := by
  by_cases h2 : p = q <;> by_cases h3 : r = s <;> (go_simp; try simp [h2, h3])
theorem slip_eql (p q r s : Int) (w : World) : (binOp .eql 97 (.agg #[.int .u8 p, .int .i64 r]) (.agg #[.int .u8 q, .int .i64 s])).run Try.prog w = .ok (.bool (decide ((p, r) = (q, s)))) w := by
  by_cases h2 : p = q <;> by_cases h3 : r = s <;> (go_simp; try simp [h2, h3])
theorem bin_slipN {p q r s : Int} : Bin Try.prog .neq 97 (.agg #[.int .u8 p, .int .i64 r]) (.agg #[.int .u8 q, .int .i64 s]) (.bool (!decide ((p, r) = (q, s)))) := ⟨fun a b w => by
  have h := slip_neq p q r s w
  simp [eqGuard, h]⟩
theorem bin_slipE {p q r s : Int} : Bin Try.prog .eql 97 (.agg #[.int .u8 p, .int .i64 r]) (.agg #[.int .u8 q, .int .i64 s]) (.bool (decide ((p, r) = (q, s)))) := ⟨fun a b w => by
  have h := slip_eql p q r s w
  simp [eqGuard, h]⟩
variable {G : World} {L : Blocks}
/-- What Won tells. -/
def WonOut (L : Blocks) (r : Vdt × Int × List Int × Bool) (u : Value) (M : Blocks) : Prop := ∃ a c B a2 c2 B2 a3 c3 B3 N, u = .tuple #[.agg #[.int .u8 r.1.code, .slice a r.1.sets.length c, .slice a2 r.1.soa.length c2], .int .u32 r.2.1, .slice a3 r.2.2.1.length c3, .bool r.2.2.2] ∧
  ORow rsR 60 5 N a c r.1.sets B ∧ ORow rsR 60 5 N a2 c2 r.1.soa B2 ∧ ORow (intR .i64) 3 1 [] a3 c3 r.2.2.1 B3 ∧ Wr N ∧ M = B3 ++ (B2 ++ (B ++ (N ++ L)))
def wonP (want : Int) (vs : List Vote) : Vdt × Int × List Int × Bool := if want < 1 then (Vdt.none, 0, [], false) else wonR want vs
theorem up_lit {x : Int} (h : 0 ≤ x ∧ x < 9) : InLit .i64 x := by
  unfold InLit Lit.wf
  simp [IntKind.min, IntKind.max, IntKind.bits, IntKind.signed]
  omega
set_option maxRecDepth 100000 in
set_option maxHeartbeats 4000000 in
theorem pWon_S {K : Blocks} (bb : Nat) (want : Int) (l : List Ballot) (a : Option Addr) (c : Nat) (hm : (bb, Obj.cells (boxC want (slipOf l) (.slice a (Vd.votesB l).length c)).toArray 100 (0, 0)) ∈ L) (hv : sliceR 5 (fun _ => voteR K) L [.slice a (Vd.votesB l).length c] (Vd.votesB l)) (hK : ∀ p ∈ K, p ∈ L) (hl : BoxOk l) (hn : l.length ≤ 9) (hs : ∀ x ∈ Vd.votesB l, SmV x.vd) :
    Spec Try.prog G 35 #[.pointer (some ⟨bb, 0, none⟩)] L (WonOut L (wonP want (Vd.votesB l))) := by
  have hvl := votesB_len l
  have hup := hl.vup
  have hcap := (sliceR.cut hv).2
  unfold maxLen at hcap
  obtain ⟨hcap1, hcap2, _⟩ := hcap
  refine Spec_of (n := 73) Try.func35 rfl rfl rfl ?_
  refine T_seq (T_region (TL_new (op_alloc (C := #[.int .u8 0, .slice none 0 0, .slice none 0 0]) zero_42 rfl) rfl ?_))
  intro b2
  repeat ((first | with_reducible refine T_seq ?_ | with_reducible refine T_region ?_ | with_reducible refine TL_nil ?_ | with_reducible refine TQ_then ?_ | refine TL_q (op_move rfl) rfl ?_ | refine TL_q (op_assign rfl) rfl ?_))
  refine TL_op (op_call hb_67 rfl (pWinner_S bb want l a c (List.mem_cons_of_mem _ hm) (mono_slice mono_const _ _ _ _ (mem_of_cnt (by intro p; (try simp only [cnt_append, cnt_cons, cnt_nil]) <;> omega)) hv) hl hn)) rfl ?_
  obtain ⟨vs, hvs⟩ : ∃ vs, Vd.votesB l = vs := ⟨_, rfl⟩
  rw [hvs] at hm hv hs hvl hup hcap1 ⊢
  by_cases hno : want < 1 ∨ wonAt want vs vs.length = none
  · have hW : winS want vs = ((0, 0), false) := by
      unfold winS
      by_cases hw : want < 1
      · rw [if_pos hw]
      · rw [if_neg hw, hno.resolve_left hw]
    have hR : wonP want vs = (Vdt.none, 0, [], false) := by
      unfold wonP
      by_cases hw : want < 1
      · rw [if_pos hw]
      · rw [if_neg hw]
        unfold wonR
        rw [hno.resolve_left hw]
    rw [hW, hR]
    repeat ((first | with_reducible refine T_seq ?_ | with_reducible refine T_region ?_ | with_reducible refine TL_nil ?_ | with_reducible refine TQ_then ?_ | refine TL_q (op_move rfl) rfl ?_ | refine TL_q (op_assign rfl) rfl ?_ | refine TL_q (op_not rfl) rfl ?_ | refine TL_q (op_extract rfl rfl) rfl ?_ | (refine TL_stAll rfl rfl st_97 rfl rfl rfl ?_) | (refine TL_new (op_alloc (C := #[(.int .u8 0), (.int .i64 0)]) zero_97 rfl) rfl ?_; intro bNew) | refine TL_q (op_build rfl (bl_42_ )) rfl ?_ | (refine T_yes rfl ?_ ?_; (· (exact Bool.not_false)))))
    refine TL_cnt (L' := (b2, Obj.cells #[.int .u8 0, .slice none 0 0, .slice none 0 0] 42 (0, 0)) :: L) ?_ (by intro p; (try simp only [cnt_append, cnt_cons, cnt_nil]) <;> omega)
    repeat ((first | with_reducible refine TL_nil ?_ | with_reducible refine TQ_then ?_ | with_reducible refine T_ret ?_ | with_reducible refine TQ_then_ret ?_ | refine TL_q (op_assign rfl) rfl ?_ | (refine TL_stAll rfl rfl st_42 rfl rfl rfl ?_)))
    clear hm
    refine TQ_retC4 2 42 3 4 5 rfl rfl rfl rfl rfl st_42 (by repeat ((exact List.mem_cons_self))) rfl (fun w h => Heap.cnt (L' := L) h (by intro p; (try simp only [cnt_append, cnt_cons, cnt_nil]) <;> omega)) ?_
    exact ⟨none, 0, [], none, 0, [], none, 0, [], [], rfl, ORow.nil _, ORow.nil _, ORow.nil _, Wr.nil, rfl⟩
  · have hw : ¬ want < 1 := fun h => hno (Or.inl h)
    have hw1 : 1 ≤ want := by omega
    have hyes : wonAt want vs vs.length ≠ none := fun h => hno (Or.inr h)
    obtain ⟨j, x, hk⟩ : ∃ j x, WonBy want vs j x := by
      rcases won_or hw1 vs with ⟨h, _⟩ | h
      · exact absurd h hyes
      · exact h
    have hxm := List.mem_of_getElem? hk.at_
    have hjl := (List.getElem?_eq_some_iff.1 hk.at_).1
    have hfs := firstOf_spec hxm
    obtain ⟨hfl, z, hz, hzx⟩ := hfs
    have hW : winS want vs = ((2, (firstOf vs x.vd : Int)), true) := by
      unfold winS
      rw [if_neg hw, hk.yes]
      dsimp only
      rw [hk.at_]
    have hR : wonP want vs = wonR want vs := if_neg hw
    rw [hW, hR, hk.is]
    have hfi : ∀ y ∈ vs, firstOf vs y.vd = firstOf vs x.vd ↔ y.vd = x.vd := fun y hy => firstOf_inj hy hxm
    obtain ⟨fx, hfx⟩ : ∃ f, firstOf vs x.vd = f := ⟨_, rfl⟩
    rw [hfx] at hfl hz hfi ⊢
    obtain ⟨_, kv1, kv2, hvc⟩ := sliceR.cut hv
    rcases hvc with h1 | ⟨bc, oc, cur, tc, fc, rfl, mc, hcur⟩
    · rw [h1] at hjl; simp at hjl
    have g0 : (boxC want (slipOf l) (.slice (some ⟨bc, oc, none⟩) vs.length c)).toArray[0 + 0]? = some (.int .i64 want) := rfl
    have g19 : (boxC want (slipOf l) (.slice (some ⟨bc, oc, none⟩) vs.length c)).toArray[0 + 19]? = some (.slice (some ⟨bc, oc, none⟩) vs.length c) := rfl
    repeat ((first | with_reducible refine T_seq ?_ | with_reducible refine T_block ?_ | with_reducible refine T_region ?_ | with_reducible refine TL_nil ?_ | with_reducible refine TQ_then ?_ | with_reducible refine T_skip ?_ | refine TL_q (op_move rfl) rfl ?_ | refine TL_q (op_assign rfl) rfl ?_ | refine TL_q (op_not rfl) rfl ?_ | refine TL_q (op_extract rfl rfl) rfl ?_ | refine TL_q (op_nilCheck rfl) rfl ?_ | refine TL_q (op_len_slice rfl Try.underlying47) rfl ?_ | refine TL_q (op_fld rfl fld_100_2) rfl ?_ | (refine' TL_q (op_ld rfl pl_3 ?_ ?_) rfl ?_; rotate_left 4; (· repeat ((first | assumption | apply List.mem_cons_of_mem))); (· (assumption))) | (refine TL_stAll rfl rfl st_97 rfl rfl rfl ?_) | (refine TL_new (op_alloc (C := #[(.int .u8 0), (.int .i64 0)]) zero_97 rfl) rfl ?_; intro bNew) | (refine T_no rfl ?_ ?_; (· (exact Bool.not_true)))))
    obtain ⟨b6, hb6⟩ : ∃ b, bNew = b := ⟨_, rfl⟩
    rw [hb6]
    clear hb6 bNew
    have hlenW : ∀ i, ((withV (vs.take i) x.vd).map (·.up)).length = (withV (vs.take i) x.vd).length := fun i => List.length_map _
    have hW9 : ∀ i, (withV (vs.take i) x.vd).length ≤ 9 := fun i => by
      have := ((hup.take i).filter fun y => decide (y.vd = x.vd)).len
      exact this
    refine T_loopS (σ := Nat × Option Addr × Nat × Blocks) (fun y => y.1 ≤ j ∧ ORow (intR .i64) 3 1 [] y.2.1 y.2.2.1 ((withV (vs.take y.1) x.vd).map (·.up)) y.2.2.2) (fun y => [(0, .pointer (some ⟨bb, 0, none⟩)), (2, .pointer (some ⟨b2, 0, none⟩)), (3, .int .u32 (timeP (withV (vs.take y.1) x.vd))), (4, .slice y.2.1 ((withV (vs.take y.1) x.vd).map (·.up)).length y.2.2.1), (5, .bool true), (6, .pointer (some ⟨b6, 0, none⟩)), (20, .slice (some ⟨bc, oc, none⟩) vs.length c), (21, .int .i64 (vs.length : Nat)), (22, .int .i64 (y.1 : Nat))]) (fun y => y.2.2.2 ++ ((b6, Obj.cells #[.int .u8 2, .int .i64 (fx : Nat)] 97 (0, 0)) :: ((b2, Obj.cells #[.int .u8 0, .slice none 0 0, .slice none 0 0] 42 (0, 0)) :: L))) (fun y => vs.length - y.1) (0, none, 0, []) ⟨Nat.zero_le _, ORow.nil _⟩ ?_ (fun w h => h) ?_
    (repeat ((first | exact trivial | refine ⟨rfl, ?_⟩)))
    rintro ⟨i, a4, c4, B4⟩ ⟨hi, hB4⟩
    dsimp only at hi hB4 ⊢
    have hil : i < vs.length := by omega
    obtain ⟨y, hy⟩ : ∃ y, vs[i]? = some y := ⟨_, List.getElem?_eq_getElem hil⟩
    have hym := List.mem_of_getElem? hy
    obtain ⟨csy, _, hyv, hcy⟩ := hcur i y hy
    obtain ⟨y1, yc1, y2, yc2, rfl, hy1, hy2, hy3, hy4, hy5⟩ := hyv.vals
    obtain ⟨hu0, hu9⟩ := hup.up y hym
    have hsl : slipOf l y.up = (2, (firstOf vs y.vd : Int)) := by rw [← hvs]; exact slip_vote hl (by rw [hvs]; exact hym)
    have hWs := withV_take (vs := vs) hy x.vd
    have hWi := hlenW i
    have hWi9 := hW9 i
    have mc' : (bc, Obj.cells cur tc fc) ∈ B4 ++ ((b6, Obj.cells #[.int .u8 2, .int .i64 (fx : Nat)] 97 (0, 0)) :: ((b2, Obj.cells #[.int .u8 0, .slice none 0 0, .slice none 0 0] 42 (0, 0)) :: L)) := List.mem_append_right _ (List.mem_cons_of_mem _ (List.mem_cons_of_mem _ mc))
    repeat ((first | with_reducible refine T_seq ?_ | with_reducible refine T_block ?_ | with_reducible refine T_region ?_ | with_reducible refine TL_nil ?_ | with_reducible refine TQ_then ?_ | with_reducible refine T_skip ?_ | (refine' TL_q (op_bin rfl rfl ?_) rfl ?_; rotate_left 1; (· (exact bin_lss))) | (refine' TL_q (op_idx ety_47 rfl rfl ?_) rfl ?_; (· omega)) | (refine T_yes rfl ?_ ?_; (· (exact dT (by (omega)))))))
    refine TL_q (op_ldA [.int .i64 y.up, .int .u8 y.vd.code, .slice y1 y.vd.sets.length yc1, .slice y2 y.vd.soa.length yc2, .int .u32 y.time] rfl st_46 mc' hcy) rfl ?_
    repeat ((first | with_reducible refine T_seq ?_ | with_reducible refine TL_nil ?_ | with_reducible refine TQ_then ?_ | (refine TL_stAll rfl rfl st_46 rfl rfl rfl ?_) | (refine TL_new (op_alloc (C := #[(.int .i64 0), (.int .u8 0), (.slice none 0 0), (.slice none 0 0), (.int .u32 0)]) zero_46 rfl) rfl ?_; intro bNew)))
    obtain ⟨b8, hb8⟩ : ∃ b, bNew = b := ⟨_, rfl⟩
    rw [hb8]
    clear hb8 bNew
    have hslip : ∀ k v, ([.int .u8 2, .int .i64 (firstOf vs y.vd : Nat)] : List Value)[k]? = some v → (boxC want (slipOf l) (.slice (some ⟨bc, oc, none⟩) vs.length c)).toArray[0 + 1 + y.up.toNat * 2 + k]? = some v := fun k v hj => by
      rw [Nat.zero_add]
      match k, hj with
      | 0, hj => obtain rfl := Option.some.inj hj; rw [boxC_kind ⟨hu0, hu9⟩, hsl]
      | 1, hj => obtain rfl := Option.some.inj hj; rw [boxC_first ⟨hu0, hu9⟩, hsl]
    have hKm : ∀ q ∈ [(b8, Obj.cells #[.int .i64 y.up, .int .u8 y.vd.code, .slice y1 y.vd.sets.length yc1, .slice y2 y.vd.soa.length yc2, .int .u32 y.time] 46 (0, 0)), (bb, Obj.cells (boxC want (slipOf l) (.slice (some ⟨bc, oc, none⟩) vs.length c)).toArray 100 (0, 0)), (b6, Obj.cells #[.int .u8 2, .int .i64 (fx : Nat)] 97 (0, 0))], q ∈ (b8, Obj.cells #[.int .i64 y.up, .int .u8 y.vd.code, .slice y1 y.vd.sets.length yc1, .slice y2 y.vd.soa.length yc2, .int .u32 y.time] 46 (0, 0)) :: (B4 ++ ((b6, Obj.cells #[.int .u8 2, .int .i64 (fx : Nat)] 97 (0, 0)) :: ((b2, Obj.cells #[.int .u8 0, .slice none 0 0, .slice none 0 0] 42 (0, 0)) :: L))) := by
      intro q hq
      simp only [List.mem_cons, List.not_mem_nil, or_false] at hq
      rcases hq with rfl | rfl | rfl
      · simp
      · simp [hm]
      · simp
    refine T_draw follows_mixed ([(b8, Obj.cells #[.int .i64 y.up, .int .u8 y.vd.code, .slice y1 y.vd.sets.length yc1, .slice y2 y.vd.soa.length yc2, .int .u32 y.time] 46 (0, 0)), (bb, Obj.cells (boxC want (slipOf l) (.slice (some ⟨bc, oc, none⟩) vs.length c)).toArray 100 (0, 0)), (b6, Obj.cells #[.int .u8 2, .int .i64 (fx : Nat)] 97 (0, 0))]) [] ?_
    (refine' TA_take 0 rfl rfl (by kernel_rfl) (quiet_q (op_move rfl)) ?_ ?_; (· (assumption)))
    (refine' TA_take 1 rfl rfl (by kernel_rfl) (quiet_q (op_fld rfl fld_46_0)) ?_ ?_; (· (assumption)))
    (refine' TA_take 2 rfl rfl (by kernel_rfl) (quiet_q (op_ld rfl pl_3 ?_ ?_)) ?_ ?_; rotate_left 4; (· repeat ((exact List.mem_cons_self))); (· (rfl)); (· (assumption)))
    (refine' TA_take 3 rfl rfl (by kernel_rfl) (quiet_q (op_nilCheck rfl)) ?_ ?_; (· (assumption)))
    (refine' TA_take 4 rfl rfl (by kernel_rfl) (quiet_q (op_fld rfl fld_100_1)) ?_ ?_; (· (assumption)))
    (refine' TA_take 5 rfl rfl (by kernel_rfl) (quiet_q (op_idxA arr_98 rfl rfl ?_ ?_)) ?_ ?_; (· omega); (· omega); (· (assumption)))
    (refine' TA_take 6 rfl rfl (by kernel_rfl) (quiet_q (op_ldA [.int .u8 2, .int .i64 (firstOf vs y.vd : Nat)] rfl st_97 (List.mem_cons_of_mem _ (List.mem_cons_self ..)) hslip)) ?_ ?_; (· (assumption)))
    (refine' TA_take 7 rfl rfl (by kernel_rfl) (quiet_q (op_ldAll rfl st_97 ?_ ?_)) ?_ ?_; rotate_left 3; (· repeat ((first | exact List.mem_cons_self | apply List.mem_cons_of_mem))); (· (rfl)); (· (assumption)))
    (refine' TA_take 8 rfl rfl (by kernel_rfl) (quiet_q (op_bin rfl rfl bin_slipN)) ?_ ?_; (· (assumption)))
    refine TA_done (by kernel_rfl) ?_
    clear hKm hslip
    by_cases hyx : y.vd = x.vd
    · have hne : (!decide (((2 : Int), ((firstOf vs y.vd : Nat) : Int)) = (2, ((fx : Nat) : Int)))) = false := by rw [(hfi y hym).2 hyx]; simp
      rw [if_pos hyx] at hWs
      obtain ⟨ws, hws⟩ : ∃ ws, withV (vs.take i) x.vd = ws := ⟨_, rfl⟩
      rw [hws] at hWs hWi hWi9 hB4 ⊢
      have htp := timeP_snoc ws y
      have htb : 0 ≤ timeP ws ∧ timeP ws ≤ 4294967295 := timeP_bd fun v hv => by
        rw [← hws] at hv
        have hvm := List.mem_of_mem_take (withV_mem.1 hv).1
        obtain ⟨k, hk1⟩ := List.getElem?_of_mem hvm
        obtain ⟨_, _, hvv, _⟩ := hcur k v hk1
        obtain ⟨_, _, _, _, _, _, _, _, ht, _⟩ := hvv.vals
        exact ht
      obtain ⟨ht0, ht1⟩ := htb
      repeat ((first | with_reducible refine TQ_then ?_ | with_reducible refine T_skip ?_ | (refine T_no rfl ?_ ?_; (· (assumption)))))
      refine T_mid (σ := Unit) (fun _ => True) (fun _ => [(0, .pointer (some ⟨bb, 0, none⟩)), (2, .pointer (some ⟨b2, 0, none⟩)), (3, .int .u32 (timeP (ws ++ [y]))), (4, .slice a4 (ws.map (·.up)).length c4), (5, .bool true), (6, .pointer (some ⟨b6, 0, none⟩)), (8, .pointer (some ⟨b8, 0, none⟩)), (20, .slice (some ⟨bc, oc, none⟩) vs.length c), (21, .int .i64 (vs.length : Nat)), (22, .int .i64 (i : Nat))]) (fun _ => (b8, Obj.cells #[.int .i64 y.up, .int .u8 y.vd.code, .slice y1 y.vd.sets.length yc1, .slice y2 y.vd.soa.length yc2, .int .u32 y.time] 46 (0, 0)) :: (B4 ++ ((b6, Obj.cells #[.int .u8 2, .int .i64 (fx : Nat)] 97 (0, 0)) :: ((b2, Obj.cells #[.int .u8 0, .slice none 0 0, .slice none 0 0] 42 (0, 0)) :: L)))) ?_ ?_
      · by_cases h0 : ws.length = 0
        · rw [if_pos (Or.inl h0)] at htp
          rw [htp]
          have h0' : (((ws.map (·.up)).length : Nat) : Int) = 0 := by omega
          repeat ((first | with_reducible refine T_seq ?_ | with_reducible refine T_region ?_ | with_reducible refine TL_nil ?_ | with_reducible refine TQ_then ?_ | refine TL_q (op_move rfl) rfl ?_ | refine TL_q (op_assign rfl) rfl ?_ | (refine' TL_q (op_bin rfl rfl ?_) rfl ?_; rotate_left 1; (· (exact bin_eql))) | (refine' TL_q (op_pickT rfl ?_ rfl) rfl ?_; (· (exact dT (by (assumption))))) | refine TL_q (op_len_slice rfl Try.underlying79) rfl ?_ | refine TL_q (op_fld rfl fld_46_2) rfl ?_ | (refine' TL_q (op_ld rfl pl_3 ?_ ?_) rfl ?_; rotate_left 4; (· repeat ((exact List.mem_cons_self))); (· (rfl))) | (refine TL_gno rfl rfl ?_ rfl ?_; (· (exact dT (by (assumption))))) | (refine T_yes rfl ?_ ?_; (· (with_reducible rfl)))))
          refine TQ_mid () trivial ?_ (fun w h => h)
          (repeat ((first | exact trivial | refine ⟨rfl, ?_⟩)))
        · have h0' : ¬ (((ws.map (·.up)).length : Nat) : Int) = 0 := by omega
          by_cases hlt : y.time < timeP ws
          · rw [if_pos (Or.inr hlt)] at htp
            rw [htp]
            repeat ((first | with_reducible refine T_seq ?_ | with_reducible refine T_region ?_ | with_reducible refine TL_nil ?_ | with_reducible refine TQ_then ?_ | refine TL_q (op_move rfl) rfl ?_ | refine TL_q (op_assign rfl) rfl ?_ | (refine' TL_q (op_bin rfl rfl ?_) rfl ?_; rotate_left 1; (· (exact bin_eql))) | (refine' TL_q (op_pickF rfl ?_ rfl) rfl ?_; (· (exact dF (by (assumption))))) | refine TL_q (op_len_slice rfl Try.underlying79) rfl ?_ | refine TL_q (op_fld rfl fld_46_2) rfl ?_ | (refine' TL_q (op_ld rfl pl_3 ?_ ?_) rfl ?_; rotate_left 4; (· repeat ((exact List.mem_cons_self))); (· (rfl))) | (refine TL_gpre rfl rfl ?_ ?_; (· (exact dF (by (assumption))))) | refine TL_gq2 (op_move rfl) rfl ?_ | (refine' TL_gq2 (op_bin rfl rfl ?_) rfl ?_; rotate_left 1; (· (exact bin_lss))) | refine TL_gq2 (op_fld rfl fld_46_2) rfl ?_ | (refine' TL_gq2 (op_ld rfl pl_3 ?_ ?_) rfl ?_; rotate_left 4; (· repeat ((exact List.mem_cons_self))); (· (rfl))) | (refine T_yes rfl ?_ ?_; (· (exact dT (by (assumption)))))))
            refine TQ_mid () trivial ?_ (fun w h => h)
            (repeat ((first | exact trivial | refine ⟨rfl, ?_⟩)))
          · rw [if_neg (fun h => h.elim h0 hlt)] at htp
            rw [htp]
            repeat ((first | with_reducible refine T_seq ?_ | with_reducible refine T_region ?_ | with_reducible refine TL_nil ?_ | with_reducible refine TQ_then ?_ | with_reducible refine T_skip ?_ | refine TL_q (op_move rfl) rfl ?_ | (refine' TL_q (op_bin rfl rfl ?_) rfl ?_; rotate_left 1; (· (exact bin_eql))) | (refine' TL_q (op_pickF rfl ?_ rfl) rfl ?_; (· (exact dF (by (assumption))))) | refine TL_q (op_len_slice rfl Try.underlying79) rfl ?_ | (refine TL_gpre rfl rfl ?_ ?_; (· (exact dF (by (assumption))))) | refine TL_gq2 (op_move rfl) rfl ?_ | (refine' TL_gq2 (op_bin rfl rfl ?_) rfl ?_; rotate_left 1; (· (exact bin_lss))) | refine TL_gq2 (op_fld rfl fld_46_2) rfl ?_ | (refine' TL_gq2 (op_ld rfl pl_3 ?_ ?_) rfl ?_; rotate_left 4; (· repeat ((exact List.mem_cons_self))); (· (rfl))) | (refine T_no rfl ?_ ?_; (· (exact dF (by (assumption)))))))
            refine TQ_mid () trivial ?_ (fun w h => h)
            (repeat ((first | exact trivial | refine ⟨rfl, ?_⟩)))
      · rintro _ _
        have hnx : ((ws ++ [y]).map (·.up)) = ws.map (·.up) ++ [y.up] := by simp
        have g8 : (#[.int .i64 y.up, .int .u8 y.vd.code, .slice y1 y.vd.sets.length yc1, .slice y2 y.vd.soa.length yc2, .int .u32 y.time] : Array Value)[0 + 0]? = some (.int .i64 y.up) := rfl
        repeat ((first | with_reducible refine T_seq ?_ | with_reducible refine T_region ?_ | refine TL_q (op_move rfl) rfl ?_ | refine TL_q (op_fld rfl fld_46_0) rfl ?_ | (refine' TL_q (op_ld rfl pl_3 ?_ ?_) rfl ?_; rotate_left 4; (· repeat ((exact List.mem_cons_self))); (· (assumption))) | (refine TL_new (op_lit1 ety_79 rfl rfl) rfl ?_; intro bLit)))
        refine TL_cnt (L' := (bLit, Obj.cells #[.int .i64 y.up] 3 (0, 0)) :: (B4 ++ ((b6, Obj.cells #[.int .u8 2, .int .i64 (fx : Nat)] 97 (0, 0)) :: ((b2, Obj.cells #[.int .u8 0, .slice none 0 0, .slice none 0 0] 42 (0, 0)) :: L)))) ?_ (by intro p; (try simp only [cnt_append, cnt_cons, cnt_nil]) <;> omega)
        refine TL_opT (op_pushI ety_79 rfl rfl hB4 (up_lit ⟨hu0, hu9⟩) (by omega) (by decide)) rfl ?_
        rintro _ _ ⟨a5, c5, B5, rfl, hB5, rfl⟩
        rw [← hnx, ← hWs] at hB5 ⊢
        have hl5 := hlenW (i + 1)
        have hc5 := hB5.cap
        unfold maxLen at hc5
        have hnx2 := hW9 (i + 1)
        by_cases hij : i = j
        · subst hij
          have hw5 : ((((withV (vs.take (i + 1)) x.vd).map (·.up)).length : Nat) : Int) = want := by rw [hl5]; exact hk.len
          repeat ((first | with_reducible refine T_seq ?_ | with_reducible refine T_region ?_ | with_reducible refine TL_nil ?_ | with_reducible refine TQ_then ?_ | with_reducible refine T_exit ?_ | with_reducible refine TQ_then_exit ?_ | with_reducible refine TQ_block_exit ?_ | (refine TQ_block_past ?_ ?_; (· decide)) | refine TL_q (op_move rfl) rfl ?_ | refine TL_q (op_assign rfl) rfl ?_ | (refine' TL_q (op_bin rfl rfl ?_) rfl ?_; rotate_left 1; (· (exact bin_eql))) | refine TL_q (op_nilCheck rfl) rfl ?_ | refine TL_q (op_len_slice rfl Try.underlying79) rfl ?_ | refine TL_q (op_fld rfl fld_46_0) rfl ?_ | (refine' TL_q (op_ld rfl pl_3 ?_ ?_) rfl ?_; rotate_left 4; (· repeat ((first | assumption | apply List.mem_cons_of_mem | apply List.mem_append_right))); (· (assumption))) | (refine T_yes rfl ?_ ?_; (· (exact dT (by (assumption)))))))
          refine TL_opT (op_call hb_68 rfl (SortI_S a5 c5 _ B5 hB5 (by omega))) rfl ?_
          rintro _ _ ⟨rfl, B6, hB6, rfl⟩
          have hVW : Vup (withV (vs.take (i + 1)) x.vd) := (hup.take _).filter _
          rw [sort_rising hVW.nd hVW.ups] at hB6
          have hrl := rising_len hVW.nd hVW.ups
          rw [← hrl]
          obtain ⟨csz, _, hzv, hcz⟩ := hcur fx z hz
          obtain ⟨z1, zc1, z2, zc2, rfl, hz1, hz2, hz3, hz4, hz5⟩ := hzv.vals
          have hczv : ∀ k v, ([.int .u8 z.vd.code, .slice z1 z.vd.sets.length zc1, .slice z2 z.vd.soa.length zc2] : List Value)[k]? = some v → cur[oc + fx * 5 + 1 + k]? = some v := fun k v hj => by
            rw [Nat.add_assoc]
            match k, hj with
            | 0, hj => exact hcz 1 v hj
            | 1, hj => exact hcz 2 v hj
            | 2, hj => exact hcz 3 v hj
          have hzvd : vdR K [.int .u8 z.vd.code, .slice z1 z.vd.sets.length zc1, .slice z2 z.vd.soa.length zc2] z.vd := ⟨_, _, rfl, hz1, hz2, hz3⟩
          have hzs := hs z (List.mem_of_getElem? hz)
          repeat ((first | with_reducible refine T_seq ?_ | with_reducible refine TL_nil ?_ | with_reducible refine TQ_then ?_))
          refine T_cnt (L' := (b2, Obj.cells #[.int .u8 0, .slice none 0 0, .slice none 0 0] 42 (0, 0)) :: ((b6, Obj.cells #[.int .u8 2, .int .i64 (fx : Nat)] 97 (0, 0)) :: (B6 ++ L))) ?_ (by intro p; (try simp only [cnt_append, cnt_cons, cnt_nil]) <;> omega)
          have hKm : ∀ q ∈ [(b6, Obj.cells #[.int .u8 2, .int .i64 (fx : Nat)] 97 (0, 0)), (bb, Obj.cells (boxC want (slipOf l) (.slice (some ⟨bc, oc, none⟩) vs.length c)).toArray 100 (0, 0)), (bc, Obj.cells cur tc fc)], q ∈ (b2, Obj.cells #[.int .u8 0, .slice none 0 0, .slice none 0 0] 42 (0, 0)) :: ((b6, Obj.cells #[.int .u8 2, .int .i64 (fx : Nat)] 97 (0, 0)) :: (B6 ++ L)) := by
            intro q hq
            simp only [List.mem_cons, List.not_mem_nil, or_false] at hq
            rcases hq with rfl | rfl | rfl
            · simp
            · simp [hm]
            · simp [mc]
          have hKm2 : ∀ q ∈ [(b6, Obj.cells #[.int .u8 2, .int .i64 (fx : Nat)] 97 (0, 0)), (bb, Obj.cells (boxC want (slipOf l) (.slice (some ⟨bc, oc, none⟩) vs.length c)).toArray 100 (0, 0)), (bc, Obj.cells cur tc fc)], q ∈ (b6, Obj.cells #[.int .u8 2, .int .i64 (fx : Nat)] 97 (0, 0)) :: (B6 ++ L) := by
            intro q hq
            simp only [List.mem_cons, List.not_mem_nil, or_false] at hq
            rcases hq with rfl | rfl | rfl
            · simp
            · simp [hm]
            · simp [mc]
          refine T_draw follows_mixed ([(b6, Obj.cells #[.int .u8 2, .int .i64 (fx : Nat)] 97 (0, 0)), (bb, Obj.cells (boxC want (slipOf l) (.slice (some ⟨bc, oc, none⟩) vs.length c)).toArray 100 (0, 0)), (bc, Obj.cells cur tc fc)]) [] ?_
          (refine' TA_take 0 rfl rfl (by kernel_rfl) (quiet_q (op_move rfl)) ?_ ?_; (· (assumption)))
          (refine' TA_take 1 rfl rfl (by kernel_rfl) (quiet_q (op_nilCheck rfl)) ?_ ?_; (· (assumption)))
          (refine' TA_take 2 rfl rfl (by kernel_rfl) (quiet_q (op_fld rfl fld_100_2)) ?_ ?_; (· (assumption)))
          (refine' TA_take 3 rfl rfl (by kernel_rfl) (quiet_q (op_ld rfl pl_47 ?_ ?_)) ?_ ?_; rotate_left 4; (· repeat ((first | exact List.mem_cons_self | apply List.mem_cons_of_mem))); (· (assumption)); (· (assumption)))
          (refine' TA_take 4 rfl rfl (by kernel_rfl) (quiet_q (op_fld rfl fld_97_1)) ?_ ?_; (· (assumption)))
          (refine' TA_take 5 rfl rfl (by kernel_rfl) (quiet_q (op_ld rfl pl_3 ?_ ?_)) ?_ ?_; rotate_left 4; (· repeat ((exact List.mem_cons_self))); (· (rfl)); (· (assumption)))
          (refine' TA_take 6 rfl rfl (by kernel_rfl) (quiet_q (op_idx ety_47 rfl rfl ?_)) ?_ ?_; (· omega); (· (assumption)))
          (refine' TA_take 7 rfl rfl (by kernel_rfl) (quiet_q (op_fld rfl fld_46_1)) ?_ ?_; (· (assumption)))
          (refine' TA_take 8 rfl rfl (by kernel_rfl) (quiet_q (op_ldA [.int .u8 z.vd.code, .slice z1 z.vd.sets.length zc1, .slice z2 z.vd.soa.length zc2] rfl st_42 (List.mem_cons_of_mem _ (List.mem_cons_of_mem _ (List.mem_cons_self ..))) hczv)) ?_ ?_; (· (assumption)))
          (refine' TA_take 10 rfl rfl (by kernel_rfl) (quiet_q (op_move rfl)) ?_ ?_; (· (assumption)))
          (refine' TA_take 11 rfl rfl (by kernel_rfl) (quiet_q (op_move rfl)) ?_ ?_; (· (assumption)))
          refine TA_oneD 9 (by kernel_rfl) rfl rfl rfl rfl (op_call hb_69 rfl (tCopyVerdict_S _ z.vd (mono_vd _ _ _ _ (fun p hp => (mem_of_cnt (by intro p; (try simp only [cnt_append, cnt_cons, cnt_nil]) <;> omega)) p (hK p hp)) hzvd) hzs)) ?_; rintro _ _ ⟨aR, cR, BR, aS, cS, BS, NR, rfl, hR2, hS2, hNR, rfl⟩; refine ⟨Or.inr (fun q hq => (mem_of_cnt (by intro p; (try simp only [cnt_append, cnt_cons, cnt_nil]) <;> omega)) q (hKm q hq)), ?_⟩
          refine TA_cnt (L' := (b2, Obj.cells #[.int .u8 0, .slice none 0 0, .slice none 0 0] 42 (0, 0)) :: (BS ++ (BR ++ (NR ++ ((b6, Obj.cells #[.int .u8 2, .int .i64 (fx : Nat)] 97 (0, 0)) :: (B6 ++ L)))))) ?_ (by intro p; (try simp only [cnt_append, cnt_cons, cnt_nil]) <;> omega); refine TA_oneN 12 (by kernel_rfl) rfl rfl rfl (op_stAll rfl rfl st_42 rfl rfl rfl) ?_; rintro _ _ ⟨_, rfl⟩; refine ⟨Or.inr (fun q hq => (mem_of_cnt (by intro p; (try simp only [cnt_append, cnt_cons, cnt_nil]) <;> omega)) q (hKm2 q hq)), ?_⟩
          (refine' TA_take 13 rfl rfl (by kernel_rfl) (quiet_q (op_assign rfl)) ?_ ?_; (· (intro p hp; grind)))
          (refine' TA_take 14 rfl rfl (by kernel_rfl) (quiet_q (op_assign rfl)) ?_ ?_; (· (intro p hp; grind)))
          (refine' TA_take 15 rfl rfl (by kernel_rfl) (quiet_q (op_assign rfl)) ?_ ?_; (· (intro p hp; grind)))
          refine TA_done (by kernel_rfl) ?_
          repeat ((first | with_reducible refine TQ_then ?_ | with_reducible refine T_ret ?_))
          rw [hzx] at hR2 hS2 ⊢
          refine TQ_retC4 2 42 3 4 5 rfl rfl rfl rfl rfl st_42 (by repeat ((exact List.mem_cons_self))) rfl (fun w h => Heap.cnt (L' := B6 ++ (BS ++ (BR ++ (NR ++ L)))) h (by intro p; (try simp only [cnt_append, cnt_cons, cnt_nil]) <;> omega)) ?_
          exact ⟨_, _, _, _, _, _, _, _, _, _, rfl, hR2, hS2, hB6, hNR, rfl⟩
        · have hlt : i + 1 ≤ j := by omega
          have hno1 : wonAt want vs (i + 1) = none := by
            cases h : wonAt want vs (i + 1) with
            | none => rfl
            | some k =>
              have h5 := wonAt_some (i + 1) j hlt h
              rw [hk.no] at h5
              cases h5
          have hw5 : ¬ ((((withV (vs.take (i + 1)) x.vd).map (·.up)).length : Nat) : Int) = want := by
            rw [hl5]
            have := wonAt_lt hw1 (i + 1) (by omega) hno1 x.vd
            omega
          repeat ((first | with_reducible refine T_seq ?_ | with_reducible refine T_region ?_ | with_reducible refine TL_nil ?_ | with_reducible refine TQ_then ?_ | with_reducible refine TQ_block ?_ | with_reducible refine T_skip ?_ | refine TL_q (op_move rfl) rfl ?_ | refine TL_q (op_assign rfl) rfl ?_ | (refine' TL_q (op_bin rfl rfl ?_) rfl ?_; rotate_left 1; (· (first | exact bin_add ⟨by omega, by omega⟩ | exact bin_eql))) | refine TL_q (op_nilCheck rfl) rfl ?_ | refine TL_q (op_len_slice rfl Try.underlying79) rfl ?_ | refine TL_q (op_fld rfl fld_46_0) rfl ?_ | (refine' TL_q (op_ld rfl pl_3 ?_ ?_) rfl ?_; rotate_left 4; (· repeat ((first | assumption | apply List.mem_cons_of_mem | apply List.mem_append_right))); (· (assumption))) | (refine T_no rfl ?_ ?_; (· (exact dF (by (assumption)))))))
          refine TQ_roundS (i + 1, a5, c5, B5) ⟨hlt, hB5⟩ ?_ (fun w h => h.cnt (by intro p; (try simp only [cnt_append, cnt_cons, cnt_nil]) <;> omega)) (by dsimp only; omega)
          (repeat ((first | exact trivial | refine ⟨rfl, ?_⟩)))
    · have hne : (!decide (((2 : Int), ((firstOf vs y.vd : Nat) : Int)) = (2, ((fx : Nat) : Int)))) = true := by
        have : ¬ firstOf vs y.vd = fx := fun h => hyx ((hfi y hym).1 h)
        simp
        omega
      rw [if_neg hyx] at hWs
      have hij : i ≠ j := by
        intro e
        rw [e, hk.at_] at hy
        exact hyx (by rw [Option.some.inj hy])
      have hlt : i + 1 ≤ j := by omega
      repeat ((first | with_reducible refine T_region ?_ | with_reducible refine TL_nil ?_ | with_reducible refine TQ_then ?_ | with_reducible refine T_exit ?_ | with_reducible refine TQ_then_exit ?_ | with_reducible refine TQ_block_exit ?_ | refine TL_q (op_move rfl) rfl ?_ | (refine' TL_q (op_bin rfl rfl ?_) rfl ?_; rotate_left 1; (· (exact bin_add ⟨by omega, by omega⟩))) | (refine T_yes rfl ?_ ?_; (· (assumption)))))
      refine TQ_roundS (i + 1, a4, c4, B4) ⟨hlt, by dsimp only; rw [hWs]; exact hB4⟩ ?_ (fun w h => h.cnt (by intro p; (try simp only [cnt_append, cnt_cons, cnt_nil]) <;> omega)) (by dsimp only; omega)
      rw [hWs]
      (repeat ((first | exact trivial | refine ⟨rfl, ?_⟩)))
end Go.Proofs.Ytdflhdfapnhjjaa
namespace Go.Proofs.Ytdflhdfapnhjjaa
open Go.RowKit
open Vd (RSet Vdt Vote Rec Quest Piece Ballot)
set_option linter.unusedVariables false
set_option linter.unusedSimpArgs false
--auto
--step op_bin rfl rfl bin_slipN
--step op_bin rfl rfl bin_slipE
variable {G : World} {L : Blocks}
theorem slip2 {l : List Ballot} {w : Int} (h : (slipOf l w).1 = 2) : ∃ y ∈ Vd.votesB l, y.up = w := by
  unfold slipOf at h
  cases hf : l.find? (fun b => b.v.up == w) with
  | none => rw [hf] at h; cases h
  | some b =>
    rw [hf] at h
    have h1 := List.find?_some hf
    have h2 := List.mem_of_find?_eq_some hf
    dsimp only at h
    cases hp : b.pass with
    | true => rw [hp] at h; cases h
    | false => exact ⟨b.v, votesB_mem.2 ⟨b, h2, hp, rfl⟩, by simpa using h1⟩
/-- Who voted for what has another first place. -/
def agB (l : List Ballot) (f : Int) (w : Int) : Bool := decide ((slipOf l w).1 = 2) && !decide (((slipOf l w).1, (slipOf l w).2) = (2, f))
theorem against_slips {l : List Ballot} (hl : BoxOk l) {want : Int} {j : Nat} {x : Vote} (hk : WonBy want (Vd.votesB l) j x) : againstR want (Vd.votesB l) = nine.filter (agB l (firstOf (Vd.votesB l) x.vd : Nat)) := by
  have hup := hl.vup
  have hxm := List.mem_of_getElem? hk.at_
  unfold againstR
  rw [hk.is]
  rw [if_pos rfl, rising_eq (hup.filter _).nd]
  refine List.filter_congr fun w hw => ?_
  dsimp only
  rw [Bool.eq_iff_iff, decide_eq_true_eq, List.mem_map]
  unfold agB
  rw [Bool.and_eq_true, decide_eq_true_eq, Bool.not_eq_true', decide_eq_false_iff_not]
  constructor
  · rintro ⟨y, hy, rfl⟩
    obtain ⟨h1, h2⟩ := List.mem_filter.1 hy
    rw [slip_vote hl h1]
    refine ⟨rfl, fun e => ?_⟩
    have h3 : ¬ y.vd = x.vd := by simpa using h2
    refine h3 ((firstOf_inj h1 hxm).1 ?_)
    have := (Prod.mk.inj e).2
    omega
  · rintro ⟨h1, h2⟩
    obtain ⟨y, hy, rfl⟩ := slip2 h1
    refine ⟨y, List.mem_filter.2 ⟨hy, ?_⟩, rfl⟩
    rw [slip_vote hl hy] at h2
    have : ¬ y.vd = x.vd := fun e => h2 (by rw [e])
    simpa using this
/-- How many slips are as an upstream's. -/
def cntS (l : List Ballot) (w : Int) (n : Nat) : Nat := (nine.take n).countP fun t => decide (((slipOf l t).1, (slipOf l t).2) = ((slipOf l w).1, (slipOf l w).2))
theorem cntS_vote {l : List Ballot} (hl : BoxOk l) {y : Vote} (hy : y ∈ Vd.votesB l) : cntS l y.up 9 = (withV (Vd.votesB l) y.vd).length := by
  have hup := hl.vup
  have h1 := rising_len (hup.filter fun x => decide (x.vd = y.vd)).nd (hup.filter _).ups
  rw [List.length_map] at h1
  unfold withV
  rw [← h1, rising_eq (hup.filter _).nd, ← List.countP_eq_length_filter]
  unfold cntS
  have : nine.take 9 = nine := rfl
  rw [this]
  refine List.countP_congr fun w hw => ?_
  rw [decide_eq_true_eq, decide_eq_true_eq, List.mem_map, slip_vote hl hy]
  constructor
  · intro e
    obtain ⟨z, hz, rfl⟩ := slip2 (l := l) (w := w) (Prod.mk.inj e).1
    rw [slip_vote hl hz] at e
    refine ⟨z, List.mem_filter.2 ⟨hz, ?_⟩, rfl⟩
    have := (Prod.mk.inj e).2
    simpa using (firstOf_inj hz hy).1 (by omega)
  · rintro ⟨z, hz, rfl⟩
    obtain ⟨h2, h3⟩ := List.mem_filter.1 hz
    rw [slip_vote hl h2]
    rw [of_decide_eq_true h3]
def mostS (l : List Ballot) (n : Nat) : Int := (nine.take n).foldl (fun m w => if (slipOf l w).1 = 2 then max m ((cntS l w 9 : Nat) : Int) else m) 0
theorem mostS_le {l : List Ballot} {m : Int} : ∀ {ws : List Int} {k : Int}, ws.foldl (fun m w => if (slipOf l w).1 = 2 then max m ((cntS l w 9 : Nat) : Int) else m) k ≤ m ↔ k ≤ m ∧ ∀ w ∈ ws, (slipOf l w).1 = 2 → ((cntS l w 9 : Nat) : Int) ≤ m := by
  intro ws
  induction ws with
  | nil => intro k; simp
  | cons w r ih =>
    intro k
    rw [List.foldl_cons, ih]
    simp only [List.mem_cons, forall_eq_or_imp]
    split
    · rename_i h
      constructor
      · rintro ⟨h1, h2⟩; exact ⟨by omega, fun _ => by omega, h2⟩
      · rintro ⟨h1, h2, h3⟩; have := h2 h; exact ⟨by omega, h3⟩
    · rename_i h
      constructor
      · rintro ⟨h1, h2⟩; exact ⟨h1, fun k => absurd k h, h2⟩
      · rintro ⟨h1, h2, h3⟩; exact ⟨h1, h3⟩
theorem mostS_is {l : List Ballot} (hl : BoxOk l) : mostS l 9 = mostR (Vd.votesB l) := by
  have hup := hl.vup
  have h0 : mostS l 9 ≤ mostS l 9 := Int.le_refl _
  have h1 := (mostS_le (l := l) (ws := nine.take 9)).1 h0
  have h2 : mostR (Vd.votesB l) ≤ mostS l 9 := mostR_le.2 ⟨h1.1, fun x hx => by
    rw [← cntS_vote hl hx]
    refine h1.2 x.up (mem_nine.2 (hup.up x hx)) ?_
    rw [slip_vote hl hx]⟩
  have h3 : mostS l 9 ≤ mostR (Vd.votesB l) := (mostS_le (l := l) (ws := nine.take 9)).2 ⟨mostR_0 _, fun w hw h => by
    obtain ⟨y, hy, rfl⟩ := slip2 h
    rw [cntS_vote hl hy]
    exact mostR_in hy⟩
  omega
theorem nine_at {u : Nat} (h : u < 9) : nine[u]? = some (u : Int) := by
  match u, h with
  | 0, _ | 1, _ | 2, _ | 3, _ | 4, _ | 5, _ | 6, _ | 7, _ | 8, _ => rfl
theorem slips_ext {f : Int → Int × Int} {u : Nat} (h : u < 9) : (slipCells f).toArray.extract ((u : Int).toNat * 2) ((u : Int).toNat * 2 + 2) = #[.int .u8 (f u).1, .int .i64 (f u).2] := by
  match u, h with
  | 0, _ | 1, _ | 2, _ | 3, _ | 4, _ | 5, _ | 6, _ | 7, _ | 8, _ => rfl
theorem slips_in {want : Int} {f : Int → Int × Int} {v : Value} : ∀ j x, (slipCells f)[j]? = some x → (boxC want f v).toArray[0 + 1 + j]? = some x := fun j x hj => by
  have hl : (slipCells f).length = 18 := rfl
  have hj2 := (List.getElem?_eq_some_iff.1 hj).1
  unfold boxC
  rw [Nat.zero_add, Nat.add_comm, List.getElem?_toArray, List.getElem?_cons_succ, List.getElem?_append_left hj2]
  exact hj
theorem nine_len : nine.length = 9 := rfl
set_option maxRecDepth 100000 in
set_option maxHeartbeats 4000000 in
theorem pAgainst_S {K : Blocks} (bb : Nat) (want : Int) (l : List Ballot) (a : Option Addr) (c : Nat) (hm : (bb, Obj.cells (boxC want (slipOf l) (.slice a (Vd.votesB l).length c)).toArray 100 (0, 0)) ∈ L) (hv : sliceR 5 (fun _ => voteR K) L [.slice a (Vd.votesB l).length c] (Vd.votesB l)) (hl : BoxOk l) (hn : l.length ≤ 9) :
    Spec Try.prog G 40 #[.pointer (some ⟨bb, 0, none⟩)] L fun u M => ∃ a3 c3 B3, u = .slice a3 (if want < 1 then [] else againstR want (Vd.votesB l)).length c3 ∧ ORow (intR .i64) 3 1 [] a3 c3 (if want < 1 then [] else againstR want (Vd.votesB l)) B3 ∧ M = B3 ++ L := by
  have hvl := votesB_len l
  have hup := hl.vup
  refine Spec_of (n := 37) Try.func40 rfl rfl rfl ?_
  repeat ((first | with_reducible refine T_seq ?_ | with_reducible refine T_region ?_ | with_reducible refine TL_nil ?_ | with_reducible refine TQ_then ?_ | refine TL_q (op_move rfl) rfl ?_ | refine TL_q (op_assign rfl) rfl ?_))
  refine TL_op (op_call hb_67 rfl (pWinner_S bb want l a c hm hv hl hn)) rfl ?_
  by_cases hno : want < 1 ∨ wonAt want (Vd.votesB l) (Vd.votesB l).length = none
  · have hW : winS want (Vd.votesB l) = ((0, 0), false) := by
      unfold winS
      by_cases hw : want < 1
      · rw [if_pos hw]
      · rw [if_neg hw, hno.resolve_left hw]
    have hR : (if want < 1 then [] else againstR want (Vd.votesB l)) = [] := by
      by_cases hw : want < 1
      · rw [if_pos hw]
      · rw [if_neg hw]
        unfold againstR wonR
        rw [hno.resolve_left hw]
        rfl
    rw [hW, hR]
    repeat ((first | with_reducible refine T_seq ?_ | with_reducible refine T_region ?_ | with_reducible refine TL_nil ?_ | with_reducible refine TQ_then ?_ | with_reducible refine T_ret ?_ | with_reducible refine TQ_then_ret ?_ | refine TL_q (op_move rfl) rfl ?_ | refine TL_q (op_assign rfl) rfl ?_ | refine TL_q (op_not rfl) rfl ?_ | refine TL_q (op_extract rfl rfl) rfl ?_ | (refine TL_stAll rfl rfl st_97 rfl rfl rfl ?_) | (refine TL_new (op_alloc (C := #[(.int .u8 0), (.int .i64 0)]) zero_97 rfl) rfl ?_; intro bNew) | (refine T_yes rfl ?_ ?_; (· (exact Bool.not_false)))))
    refine TQ_cnt (L' := L) ?_ (by intro p; (try simp only [cnt_append, cnt_cons, cnt_nil]) <;> omega)
    refine TQ_ret1 2 _ rfl rfl ?_
    exact ⟨none, 0, [], rfl, ORow.nil _, rfl⟩
  · have hw : ¬ want < 1 := fun h => hno (Or.inl h)
    have hw1 : 1 ≤ want := by omega
    obtain ⟨j, x, hk⟩ : ∃ j x, WonBy want (Vd.votesB l) j x := by
      rcases won_or hw1 (Vd.votesB l) with ⟨h, _⟩ | h
      · exact absurd (Or.inr h) hno
      · exact h
    have hW : winS want (Vd.votesB l) = ((2, (firstOf (Vd.votesB l) x.vd : Int)), true) := by
      unfold winS
      rw [if_neg hw, hk.yes]
      dsimp only
      rw [hk.at_]
    rw [hW, if_neg hw, against_slips hl hk]
    obtain ⟨fx, hfx⟩ : ∃ f, firstOf (Vd.votesB l) x.vd = f := ⟨_, rfl⟩
    rw [hfx]
    obtain ⟨vv, hvv⟩ : ∃ v, Value.slice a (Vd.votesB l).length c = v := ⟨_, rfl⟩
    rw [hvv] at hm
    repeat ((first | with_reducible refine T_seq ?_ | with_reducible refine T_region ?_ | with_reducible refine TL_nil ?_ | with_reducible refine TQ_then ?_ | with_reducible refine T_skip ?_ | refine TL_q (op_move rfl) rfl ?_ | refine TL_q (op_assign rfl) rfl ?_ | refine TL_q (op_not rfl) rfl ?_ | refine TL_q (op_extract rfl rfl) rfl ?_ | refine TL_q (op_nilCheck rfl) rfl ?_ | refine TL_q (op_fld rfl fld_100_1) rfl ?_ | (refine TL_stAll rfl rfl st_97 rfl rfl rfl ?_) | (refine TL_new (op_alloc (C := #[(.int .u8 0), (.int .i64 0)]) zero_97 rfl) rfl ?_; intro bNew) | (refine T_no rfl ?_ ?_; (· (exact Bool.not_true)))))
    obtain ⟨b3, hb3⟩ : ∃ b, bNew = b := ⟨_, rfl⟩
    rw [hb3]
    clear hb3 bNew
    refine TL_q (op_ldArr (slipCells (slipOf l)) rfl Try.underlying98 (by kernel_rfl) (List.mem_cons_of_mem _ hm) slips_in) rfl ?_
    repeat ((first | with_reducible refine T_block ?_ | with_reducible refine TL_nil ?_ | with_reducible refine TQ_then ?_ | refine TL_q (op_move rfl) rfl ?_))
    refine T_loopS (σ := Nat × Option Addr × Nat × Blocks) (fun y => y.1 ≤ 9 ∧ ORow (intR .i64) 3 1 [] y.2.1 y.2.2.1 ((nine.take y.1).filter (agB l (fx : Nat))) y.2.2.2) (fun y => [(3, .pointer (some ⟨b3, 0, none⟩)), (5, .slice y.2.1 ((nine.take y.1).filter (agB l (fx : Nat))).length y.2.2.1), (18, .agg (slipCells (slipOf l)).toArray), (19, .int .i64 (y.1 : Nat))]) (fun y => y.2.2.2 ++ ((b3, Obj.cells #[.int .u8 2, .int .i64 (fx : Nat)] 97 (0, 0)) :: L)) (fun y => 9 - y.1) (0, none, 0, []) ⟨Nat.zero_le _, ORow.nil _⟩ ?_ (fun w h => h) ?_
    (repeat ((first | exact trivial | refine ⟨rfl, ?_⟩)))
    rintro ⟨i, a4, c4, B4⟩ ⟨hi, hB4⟩
    dsimp only at hi hB4 ⊢
    have hl4 := List.length_filter_le (agB l (fx : Nat)) (nine.take i)
    rw [List.length_take, nine_len] at hl4
    by_cases hil : i < 9
    · have hext := slips_ext (f := slipOf l) hil
      have htk : nine.take (i + 1) = nine.take i ++ [(i : Int)] := by rw [List.take_add_one, nine_at hil]; rfl
      repeat ((first | with_reducible refine T_seq ?_ | with_reducible refine T_block ?_ | with_reducible refine T_region ?_ | with_reducible refine TL_nil ?_ | with_reducible refine TQ_then ?_ | with_reducible refine T_skip ?_ | refine TL_q (op_move rfl) rfl ?_ | (refine' TL_q (op_bin rfl rfl ?_) rfl ?_; rotate_left 1; (· (exact bin_lss))) | (refine T_yes rfl ?_ ?_; (· (exact dT (by (omega)))))))
      refine TL_q (op_idxV rfl rfl Try.underlying98 st_97 (by omega) (by omega)) rfl ?_
      rw [hext]
      repeat ((first | with_reducible refine T_seq ?_ | with_reducible refine T_region ?_ | with_reducible refine TL_nil ?_ | with_reducible refine TQ_then ?_ | refine TL_q (op_move rfl) rfl ?_ | refine TL_q (op_assign rfl) rfl ?_ | (refine' TL_q (op_bin rfl rfl ?_) rfl ?_; rotate_left 1; (· (exact bin_eql))) | refine TL_q (op_fld rfl fld_97_0) rfl ?_ | (refine' TL_q (op_ld rfl pl_5 ?_ ?_) rfl ?_; rotate_left 4; (· repeat ((exact List.mem_cons_self))); (· (rfl))) | (refine TL_stAll rfl rfl st_97 rfl rfl rfl ?_) | (refine TL_new (op_alloc (C := #[(.int .u8 0), (.int .i64 0)]) zero_97 rfl) rfl ?_; intro bNew)))
      obtain ⟨b7, hb7⟩ : ∃ b, bNew = b := ⟨_, rfl⟩
      rw [hb7]
      clear hb7 bNew
      by_cases hk2 : (slipOf l (i : Int)).1 = 2
      · by_cases hne : ((slipOf l (i : Int)).1, (slipOf l (i : Int)).2) = (2, ((fx : Nat) : Int))
        · have hq : (!decide (((slipOf l (i : Int)).1, (slipOf l (i : Int)).2) = (2, ((fx : Nat) : Int)))) = false := by simp [hne]
          have hp : (nine.take (i + 1)).filter (agB l (fx : Nat)) = (nine.take i).filter (agB l (fx : Nat)) := by
            have : agB l (fx : Nat) (i : Int) = false := by unfold agB; rw [hq, Bool.and_false]
            rw [htk, List.filter_append]
            simp [this]
          repeat ((first | with_reducible refine T_region ?_ | with_reducible refine TL_nil ?_ | with_reducible refine TQ_then ?_ | with_reducible refine TQ_block ?_ | with_reducible refine T_skip ?_ | refine TL_q (op_move rfl) rfl ?_ | (refine' TL_q (op_bin rfl rfl ?_) rfl ?_; rotate_left 1; (· (exact bin_add ⟨by omega, by omega⟩))) | (refine' TL_q (op_pickT rfl ?_ rfl) rfl ?_; (· (exact dT (by (assumption))))) | (refine TL_gpre rfl rfl ?_ ?_; (· (exact dT (by (assumption))))) | refine TL_gq2 (op_bin rfl rfl bin_slipN) rfl ?_ | (refine' TL_gq2 (op_ldAll rfl st_97 ?_ ?_) rfl ?_; rotate_left 3; (· repeat ((first | exact List.mem_cons_self | apply List.mem_cons_of_mem | apply List.mem_append_right))); (· (rfl))) | (refine T_no rfl ?_ ?_; (· (assumption)))))
          refine TQ_roundS (i + 1, a4, c4, B4) ⟨hil, by dsimp only; rw [hp]; exact hB4⟩ ?_ (fun w h => h.cnt (by intro p; (try simp only [cnt_append, cnt_cons, cnt_nil]) <;> omega)) (by dsimp only; omega)
          dsimp only
          rw [hp]
          (repeat ((first | exact trivial | refine ⟨rfl, ?_⟩)))
        · have hq : (!decide (((slipOf l (i : Int)).1, (slipOf l (i : Int)).2) = (2, ((fx : Nat) : Int)))) = true := by simp [hne]
          have hp : (nine.take (i + 1)).filter (agB l (fx : Nat)) = (nine.take i).filter (agB l (fx : Nat)) ++ [(i : Int)] := by
            have : agB l (fx : Nat) (i : Int) = true := by unfold agB; rw [hq, hk2]; rfl
            rw [htk, List.filter_append]
            simp [this]
          repeat ((first | with_reducible refine T_region ?_ | with_reducible refine TL_nil ?_ | with_reducible refine TQ_then ?_ | refine TL_q (op_move rfl) rfl ?_ | (refine' TL_q (op_pickT rfl ?_ rfl) rfl ?_; (· (exact dT (by (assumption))))) | (refine TL_gpre rfl rfl ?_ ?_; (· (exact dT (by (assumption))))) | refine TL_gq2 (op_bin rfl rfl bin_slipN) rfl ?_ | (refine' TL_gq2 (op_ldAll rfl st_97 ?_ ?_) rfl ?_; rotate_left 3; (· repeat ((first | exact List.mem_cons_self | apply List.mem_cons_of_mem | apply List.mem_append_right))); (· (rfl))) | (refine TL_new (op_lit1 ety_79 rfl rfl) rfl ?_; intro bLit) | (refine T_yes rfl ?_ ?_; (· (assumption)))))
          refine TL_cnt (L' := (bLit, Obj.cells #[.int .i64 (i : Nat)] 3 (0, 0)) :: (B4 ++ ((b3, Obj.cells #[.int .u8 2, .int .i64 (fx : Nat)] 97 (0, 0)) :: L))) ?_ (by intro p; (try simp only [cnt_append, cnt_cons, cnt_nil]) <;> omega)
          refine TL_opT (op_pushI ety_79 rfl rfl hB4 (up_lit ⟨by omega, by omega⟩) (by omega) (by decide)) rfl ?_
          rintro _ _ ⟨a5, c5, B5, rfl, hB5, rfl⟩
          rw [← hp] at hB5 ⊢
          repeat ((first | with_reducible refine T_region ?_ | with_reducible refine TL_nil ?_ | with_reducible refine TQ_then ?_ | with_reducible refine TQ_block ?_ | refine TL_q (op_move rfl) rfl ?_ | refine TL_q (op_assign rfl) rfl ?_ | (refine' TL_q (op_bin rfl rfl ?_) rfl ?_; rotate_left 1; (· (exact bin_add ⟨by omega, by omega⟩)))))
          refine TQ_roundS (i + 1, a5, c5, B5) ⟨hil, hB5⟩ ?_ (fun w h => h.cnt (by intro p; (try simp only [cnt_append, cnt_cons, cnt_nil]) <;> omega)) (by dsimp only; omega)
          (repeat ((first | exact trivial | refine ⟨rfl, ?_⟩)))
      · have hp : (nine.take (i + 1)).filter (agB l (fx : Nat)) = (nine.take i).filter (agB l (fx : Nat)) := by
          have : agB l (fx : Nat) (i : Int) = false := by unfold agB; rw [decide_eq_false hk2, Bool.false_and]
          rw [htk, List.filter_append]
          simp [this]
        repeat ((first | with_reducible refine T_region ?_ | with_reducible refine TL_nil ?_ | with_reducible refine TQ_then ?_ | with_reducible refine TQ_block ?_ | with_reducible refine T_skip ?_ | refine TL_q (op_move rfl) rfl ?_ | (refine' TL_q (op_bin rfl rfl ?_) rfl ?_; rotate_left 1; (· (exact bin_add ⟨by omega, by omega⟩))) | (refine' TL_q (op_pickF rfl ?_ rfl) rfl ?_; (· (exact dF (by (assumption))))) | (refine TL_gno rfl rfl ?_ rfl ?_; (· (exact dF (by (assumption))))) | (refine T_no rfl ?_ ?_; (· (with_reducible rfl)))))
        refine TQ_roundS (i + 1, a4, c4, B4) ⟨hil, by dsimp only; rw [hp]; exact hB4⟩ ?_ (fun w h => h.cnt (by intro p; (try simp only [cnt_append, cnt_cons, cnt_nil]) <;> omega)) (by dsimp only; omega)
        dsimp only
        rw [hp]
        (repeat ((first | exact trivial | refine ⟨rfl, ?_⟩)))
    · have hie : i = 9 := by omega
      subst hie
      have h9 : nine.take 9 = nine := rfl
      rw [h9] at hB4 ⊢
      repeat ((first | with_reducible refine T_seq ?_ | with_reducible refine T_region ?_ | with_reducible refine TL_nil ?_ | with_reducible refine TQ_then ?_ | with_reducible refine T_exit ?_ | with_reducible refine T_ret ?_ | with_reducible refine TQ_then_exit ?_ | with_reducible refine TQ_block_exit ?_ | refine TL_q (op_move rfl) rfl ?_ | refine TL_q (op_assign rfl) rfl ?_ | (refine' TL_q (op_bin rfl rfl ?_) rfl ?_; rotate_left 1; (· (exact bin_lss))) | (refine T_no rfl ?_ ?_; (· (exact Bool.not_true)))))
      refine TQ_cnt (L' := B4 ++ L) ?_ (by intro p; (try simp only [cnt_append, cnt_cons, cnt_nil]) <;> omega)
      refine TQ_ret1 2 _ rfl rfl ?_
      exact ⟨a4, c4, B4, rfl, hB4, rfl⟩
set_option maxRecDepth 100000 in
set_option maxHeartbeats 4000000 in
theorem pMost_S (bb : Nat) (want : Int) (l : List Ballot) (vv : Value) (hm : (bb, Obj.cells (boxC want (slipOf l) vv).toArray 100 (0, 0)) ∈ L) (hl : BoxOk l) :
    Spec Try.prog G 36 #[.pointer (some ⟨bb, 0, none⟩)] L fun u M => u = .int .i64 (mostR (Vd.votesB l)) ∧ M = L := by
  have hcs : ∀ w n, cntS l w n ≤ n := fun w n => Nat.le_trans List.countP_le_length (by rw [List.length_take]; omega)
  have hms : ∀ n, 0 ≤ mostS l n ∧ mostS l n ≤ 9 := fun n => by
    have h1 := (mostS_le (l := l) (ws := nine.take n) (k := 0)).1 (Int.le_refl _)
    refine ⟨h1.1, (mostS_le (l := l) (ws := nine.take n) (k := 0)).2 ⟨by omega, fun w _ _ => ?_⟩⟩
    have := hcs w 9
    omega
  refine Spec_of (n := 39) Try.func36 rfl rfl rfl ?_
  repeat ((first | with_reducible refine T_seq ?_ | with_reducible refine T_region ?_ | with_reducible refine TL_nil ?_ | with_reducible refine TQ_then ?_ | with_reducible refine T_skip ?_ | refine TL_q (op_move rfl) rfl ?_ | refine TL_q (op_assign rfl) rfl ?_ | (refine' TL_q (op_bin rfl rfl ?_) rfl ?_; rotate_left 1; (· (exact pbin_eql Try.underlying76))) | refine TL_q (op_nilCheck rfl) rfl ?_ | refine TL_q (op_fld rfl fld_100_1) rfl ?_ | (refine T_no rfl ?_ ?_; (· (exact Bool.not_true)))))
  refine TL_q (op_ldArr (slipCells (slipOf l)) rfl Try.underlying98 (by kernel_rfl) hm slips_in) rfl ?_
  repeat ((first | with_reducible refine T_block ?_ | with_reducible refine TL_nil ?_ | with_reducible refine TQ_then ?_ | refine TL_q (op_move rfl) rfl ?_))
  refine T_loopS (σ := Nat) (fun y => y ≤ 9) (fun y => [(0, .pointer (some ⟨bb, 0, none⟩)), (3, .int .i64 (mostS l y)), (14, .agg (slipCells (slipOf l)).toArray), (15, .int .i64 (y : Nat))]) (fun y => L) (fun y => 9 - y) 0 (Nat.zero_le _) ?_ (fun w h => h) ?_
  (repeat ((first | exact trivial | refine ⟨rfl, ?_⟩)))
  rintro i hi
  by_cases hil : i < 9
  · have hext := slips_ext (f := slipOf l) hil
    have htk : nine.take (i + 1) = nine.take i ++ [(i : Int)] := by rw [List.take_add_one, nine_at hil]; rfl
    have hmn : mostS l (i + 1) = if (slipOf l (i : Int)).1 = 2 then max (mostS l i) ((cntS l (i : Int) 9 : Nat) : Int) else mostS l i := by
      unfold mostS
      rw [htk, List.foldl_append]
      rfl
    repeat ((first | with_reducible refine T_seq ?_ | with_reducible refine T_block ?_ | with_reducible refine T_region ?_ | with_reducible refine TL_nil ?_ | with_reducible refine TQ_then ?_ | with_reducible refine T_skip ?_ | (refine' TL_q (op_bin rfl rfl ?_) rfl ?_; rotate_left 1; (· (exact bin_lss))) | (refine T_yes rfl ?_ ?_; (· (exact dT (by (omega)))))))
    refine TL_q (op_idxV rfl rfl Try.underlying98 st_97 (by omega) (by omega)) rfl ?_
    rw [hext]
    repeat ((first | with_reducible refine T_seq ?_ | with_reducible refine T_region ?_ | with_reducible refine TL_nil ?_ | with_reducible refine TQ_then ?_ | (refine' TL_q (op_bin rfl rfl ?_) rfl ?_; rotate_left 1; (· (exact bin_neq))) | refine TL_q (op_fld rfl fld_97_0) rfl ?_ | (refine' TL_q (op_ld rfl pl_5 ?_ ?_) rfl ?_; rotate_left 4; (· repeat ((exact List.mem_cons_self))); (· (rfl))) | (refine TL_stAll rfl rfl st_97 rfl rfl rfl ?_) | (refine TL_new (op_alloc (C := #[(.int .u8 0), (.int .i64 0)]) zero_97 rfl) rfl ?_; intro bNew)))
    obtain ⟨b5, hb5⟩ : ∃ b, bNew = b := ⟨_, rfl⟩
    rw [hb5]
    clear hb5 bNew
    by_cases hk2 : (slipOf l (i : Int)).1 = 2
    · rw [if_pos hk2] at hmn
      repeat ((first | with_reducible refine T_seq ?_ | with_reducible refine T_region ?_ | with_reducible refine TL_nil ?_ | with_reducible refine TQ_then ?_ | with_reducible refine T_skip ?_ | refine TL_q (op_move rfl) rfl ?_ | refine TL_q (op_assign rfl) rfl ?_ | refine TL_q (op_nilCheck rfl) rfl ?_ | refine TL_q (op_fld rfl fld_100_1) rfl ?_ | (refine T_no rfl ?_ ?_; (· (exact nF (by (assumption)))))))
      refine TL_q (op_ldArr (slipCells (slipOf l)) rfl Try.underlying98 (by kernel_rfl) (List.mem_cons_of_mem _ hm) slips_in) rfl ?_
      repeat ((first | with_reducible refine T_block ?_ | with_reducible refine TL_nil ?_ | with_reducible refine TQ_then ?_ | refine TL_q (op_move rfl) rfl ?_))
      refine T_loopS (σ := Nat) (fun y => y ≤ 9) (fun y => [(0, .pointer (some ⟨bb, 0, none⟩)), (3, .int .i64 (mostS l i)), (5, .pointer (some ⟨b5, 0, none⟩)), (6, .int .i64 (cntS l (i : Int) y : Nat)), (14, .agg (slipCells (slipOf l)).toArray), (15, .int .i64 (i : Nat)), (24, .agg (slipCells (slipOf l)).toArray), (25, .int .i64 (y : Nat))]) (fun y => (b5, Obj.cells #[.int .u8 (slipOf l (i : Int)).1, .int .i64 (slipOf l (i : Int)).2] 97 (0, 0)) :: L) (fun y => 9 - y) 0 (Nat.zero_le _) ?_ (fun w h => h) ?_
      (repeat ((first | exact trivial | refine ⟨rfl, ?_⟩)))
      rintro k hk
      by_cases hkl : k < 9
      · have hextk := slips_ext (f := slipOf l) hkl
        have htkk : nine.take (k + 1) = nine.take k ++ [(k : Int)] := by rw [List.take_add_one, nine_at hkl]; rfl
        have hcn : cntS l (i : Int) (k + 1) = cntS l (i : Int) k + if decide (((slipOf l (k : Int)).1, (slipOf l (k : Int)).2) = ((slipOf l (i : Int)).1, (slipOf l (i : Int)).2)) = true then 1 else 0 := by
          unfold cntS
          rw [htkk, List.countP_append, List.countP_cons, List.countP_nil, Nat.zero_add]
        have hck := hcs (i : Int) k
        repeat ((first | with_reducible refine T_seq ?_ | with_reducible refine T_block ?_ | with_reducible refine T_region ?_ | with_reducible refine TL_nil ?_ | with_reducible refine TQ_then ?_ | with_reducible refine T_skip ?_ | (refine' TL_q (op_bin rfl rfl ?_) rfl ?_; rotate_left 1; (· (exact bin_lss))) | (refine T_yes rfl ?_ ?_; (· (exact dT (by (omega)))))))
        refine TL_q (op_idxV rfl rfl Try.underlying98 st_97 (by omega) (by omega)) rfl ?_
        rw [hextk]
        cases hd : decide (((slipOf l (k : Int)).1, (slipOf l (k : Int)).2) = ((slipOf l (i : Int)).1, (slipOf l (i : Int)).2)) with
        | true =>
          rw [hd, if_pos rfl] at hcn
          repeat ((first | with_reducible refine T_seq ?_ | with_reducible refine T_region ?_ | with_reducible refine TL_nil ?_ | with_reducible refine TQ_then ?_ | with_reducible refine TQ_block ?_ | refine TL_q (op_move rfl) rfl ?_ | refine TL_q (op_assign rfl) rfl ?_ | refine TL_q (op_bin rfl rfl bin_slipE) rfl ?_ | (refine' TL_q (op_bin rfl rfl ?_) rfl ?_; rotate_left 1; (· (exact bin_add ⟨by omega, by omega⟩))) | (refine' TL_q (op_ldAll rfl st_97 ?_ ?_) rfl ?_; rotate_left 3; (· repeat ((first | exact List.mem_cons_self | apply List.mem_cons_of_mem))); (· (rfl))) | (refine TL_stAll rfl rfl st_97 rfl rfl rfl ?_) | (refine TL_new (op_alloc (C := #[(.int .u8 0), (.int .i64 0)]) zero_97 rfl) rfl ?_; intro bNew) | (refine T_yes rfl ?_ ?_; (· (assumption)))))
          refine TQ_roundS (k + 1) hkl ?_ (fun w h => h.cnt (by intro p; (try simp only [cnt_append, cnt_cons, cnt_nil]) <;> omega)) (by omega)
          rw [hcn]
          (repeat (first | exact trivial | refine ⟨rfl, ?_⟩))
        | false =>
          rw [hd, if_neg (by simp)] at hcn
          repeat ((first | with_reducible refine T_seq ?_ | with_reducible refine T_region ?_ | with_reducible refine TL_nil ?_ | with_reducible refine TQ_then ?_ | with_reducible refine TQ_block ?_ | with_reducible refine T_skip ?_ | refine TL_q (op_move rfl) rfl ?_ | refine TL_q (op_bin rfl rfl bin_slipE) rfl ?_ | (refine' TL_q (op_bin rfl rfl ?_) rfl ?_; rotate_left 1; (· (exact bin_add ⟨by omega, by omega⟩))) | (refine' TL_q (op_ldAll rfl st_97 ?_ ?_) rfl ?_; rotate_left 3; (· repeat ((first | exact List.mem_cons_self | apply List.mem_cons_of_mem))); (· (rfl))) | (refine TL_stAll rfl rfl st_97 rfl rfl rfl ?_) | (refine TL_new (op_alloc (C := #[(.int .u8 0), (.int .i64 0)]) zero_97 rfl) rfl ?_; intro bNew) | (refine T_no rfl ?_ ?_; (· (assumption)))))
          refine TQ_roundS (k + 1) hkl ?_ (fun w h => h.cnt (by intro p; (try simp only [cnt_append, cnt_cons, cnt_nil]) <;> omega)) (by omega)
          rw [hcn]
          (repeat ((first | exact trivial | refine ⟨rfl, ?_⟩)))
      · have hke : k = 9 := by omega
        subst hke
        have hms1 := hms i
        have hck := hcs (i : Int) 9
        repeat ((first | with_reducible refine T_seq ?_ | with_reducible refine T_region ?_ | with_reducible refine TL_nil ?_ | with_reducible refine TQ_then ?_ | with_reducible refine TQ_block ?_ | with_reducible refine T_exit ?_ | with_reducible refine TQ_then_exit ?_ | with_reducible refine TQ_block_exit ?_ | refine TL_q (op_move rfl) rfl ?_ | refine TL_q (op_assign rfl) rfl ?_ | (refine' TL_q (op_bin rfl rfl ?_) rfl ?_; rotate_left 1; (· (first | exact bin_add ⟨by omega, by omega⟩ | exact bin_lss))) | refine TL_q (op_max rfl rfl) rfl ?_ | (refine T_no rfl ?_ ?_; (· (exact Bool.not_true)))))
        refine TQ_roundS (i + 1) hil ?_ (fun w h => h.cnt (by intro p; (try simp only [cnt_append, cnt_cons, cnt_nil]) <;> omega)) (by omega)
        rw [hmn]
        (repeat ((first | exact trivial | refine ⟨rfl, ?_⟩)))
    · rw [if_neg hk2] at hmn
      repeat ((first | with_reducible refine T_region ?_ | with_reducible refine TL_nil ?_ | with_reducible refine TQ_then ?_ | with_reducible refine T_exit ?_ | with_reducible refine TQ_then_exit ?_ | with_reducible refine TQ_block_exit ?_ | refine TL_q (op_move rfl) rfl ?_ | (refine' TL_q (op_bin rfl rfl ?_) rfl ?_; rotate_left 1; (· (exact bin_add ⟨by omega, by omega⟩))) | (refine T_yes rfl ?_ ?_; (· (exact nT (by (assumption)))))))
      refine TQ_roundS (i + 1) hil ?_ (fun w h => h.cnt (by intro p; (try simp only [cnt_append, cnt_cons, cnt_nil]) <;> omega)) (by omega)
      rw [hmn]
      (repeat ((first | exact trivial | refine ⟨rfl, ?_⟩)))
  · have hie : i = 9 := by omega
    subst hie
    rw [mostS_is hl]
    repeat ((first | with_reducible refine T_seq ?_ | with_reducible refine T_region ?_ | with_reducible refine TL_nil ?_ | with_reducible refine TQ_then ?_ | with_reducible refine T_exit ?_ | with_reducible refine T_ret ?_ | with_reducible refine TQ_then_exit ?_ | with_reducible refine TQ_block_exit ?_ | refine TL_q (op_move rfl) rfl ?_ | refine TL_q (op_assign rfl) rfl ?_ | (refine' TL_q (op_bin rfl rfl ?_) rfl ?_; rotate_left 1; (· (exact bin_lss))) | (refine T_no rfl ?_ ?_; (· (exact Bool.not_true)))))
    refine TQ_ret1 2 _ rfl rfl ?_
    exact ⟨rfl, rfl⟩
end Go.Proofs.Ytdflhdfapnhjjaa
namespace Go.Proofs.Ytdflhdfapnhjjaa
open Go.RowKit
open Vd (RSet Vdt Vote Rec Quest Piece Ballot)
set_option linter.unusedVariables false
set_option linter.unusedSimpArgs false
--auto
variable {G : World} {L : Blocks}
def risN (l : List Int) (n : Nat) : List Int := (List.range n).flatMap fun (n : Nat) => l.filter fun x => x == (n : Int)
theorem votesB_app (l m : List Ballot) : Vd.votesB (l ++ m) = Vd.votesB l ++ Vd.votesB m := by
  unfold Vd.votesB
  rw [List.filter_append, List.map_append]
/-- What the document's Won tells. -/
def RWonOut (K L : Blocks) (r : Vdt × Int × List Int × Bool) (u : Value) (M : Blocks) : Prop := ∃ cs a3 c3 B3, u = .tuple #[.agg cs.toArray, .int .u32 r.2.1, .slice a3 r.2.2.1.length c3, .bool r.2.2.2] ∧ vdR K cs r.1 ∧ ORow (intR .i64) 3 1 [] a3 c3 r.2.2.1 B3 ∧ M = B3 ++ L
end Go.Proofs.Ytdflhdfapnhjjaa
namespace Go.Proofs.Ytdflhdfapnhjjaa
open Go.RowKit
open Vd (RSet Vdt Vote Rec Quest Piece Ballot)
set_option linter.unusedVariables false
set_option linter.unusedSimpArgs false
--auto
variable {G : World} {L : Blocks}
/-- A ballot's cells in a row. -/
structure BallC (K : Blocks) (C : Array Value) (o : Nat) (x : Ballot) (a1 : Option Addr) (c1 : Nat) (a2 : Option Addr) (c2 : Nat) : Prop where
  up : C[o + 0 + 0]? = some (.int .i64 x.v.up)
  pass : C[o + 5]? = some (.bool x.pass)
  vd : ∀ j v, ([.int .u8 x.v.vd.code, .slice a1 x.v.vd.sets.length c1, .slice a2 x.v.vd.soa.length c2] : List Value)[j]? = some v → C[o + 0 + 1 + j]? = some v
  is : vdR K [.int .u8 x.v.vd.code, .slice a1 x.v.vd.sets.length c1, .slice a2 x.v.vd.soa.length c2] x.v.vd
  bd : -9223372036854775808 ≤ x.v.up ∧ x.v.up ≤ 9223372036854775807
end Go.Proofs.Ytdflhdfapnhjjaa
namespace Go.Proofs.Ytdflhdfapnhjjaa
open Go.RowKit
open Vd (RSet Vdt Vote Rec Quest Piece Ballot)
set_option linter.unusedVariables false
set_option linter.unusedSimpArgs false
--auto
variable {G : World} {L : Blocks}
theorem box0 {want : Int} : (boxC want (slipOf []) (.slice none (Vd.votesB []).length 0)).toArray = #[.int .i64 want, .int .u8 0, .int .i64 0, .int .u8 0, .int .i64 0, .int .u8 0, .int .i64 0, .int .u8 0, .int .i64 0, .int .u8 0, .int .i64 0, .int .u8 0, .int .i64 0, .int .u8 0, .int .i64 0, .int .u8 0, .int .i64 0, .int .u8 0, .int .i64 0, .slice none 0 0] := rfl
set_option maxRecDepth 100000 in
set_option maxHeartbeats 2000000 in
theorem pNew_S (want : Int) : Spec Try.prog G 41 #[.int .i64 want] L fun u M => (1 ≤ want ∧ want ≤ 9 ∧ ∃ bb, u = .tuple #[.pointer (some ⟨bb, 0, none⟩), .int .i64 0] ∧ M = (bb, Obj.cells (boxC want (slipOf []) (.slice none (Vd.votesB []).length 0)).toArray 100 (0, 0)) :: L) ∨ ((want < 1 ∨ 9 < want) ∧ u = .tuple #[.pointer none, .int .i64 1] ∧ M = L) := by
  refine Spec_of (n := 13) Try.func41 rfl rfl rfl ?_
  by_cases h1 : want < 1
  · repeat ((first | with_reducible refine T_seq ?_ | with_reducible refine T_region ?_ | with_reducible refine TL_nil ?_ | with_reducible refine TQ_then ?_ | with_reducible refine T_ret ?_ | with_reducible refine TQ_then_ret ?_ | refine TL_q (op_move rfl) rfl ?_ | refine TL_q (op_assign rfl) rfl ?_ | (refine' TL_q (op_bin rfl rfl ?_) rfl ?_; rotate_left 1; (· (exact bin_lss))) | (refine' TL_q (op_pickT rfl ?_ rfl) rfl ?_; (· (exact dT (by (assumption))))) | (refine TL_gno rfl rfl ?_ rfl ?_; (· (exact dT (by (assumption))))) | (refine T_yes rfl ?_ ?_; (· (with_reducible rfl)))))
    refine TQ_ret2 2 3 _ _ rfl rfl rfl ?_
    exact Or.inr ⟨Or.inl h1, rfl, rfl⟩
  · by_cases h9 : 9 < want
    · repeat ((first | with_reducible refine T_seq ?_ | with_reducible refine T_region ?_ | with_reducible refine TL_nil ?_ | with_reducible refine TQ_then ?_ | with_reducible refine T_ret ?_ | with_reducible refine TQ_then_ret ?_ | refine TL_q (op_move rfl) rfl ?_ | refine TL_q (op_assign rfl) rfl ?_ | (refine' TL_q (op_bin rfl rfl ?_) rfl ?_; rotate_left 1; (· (exact bin_lss))) | (refine' TL_q (op_pickF rfl ?_ rfl) rfl ?_; (· (exact dF (by (assumption))))) | (refine TL_gpre rfl rfl ?_ ?_; (· (exact dF (by (assumption))))) | refine TL_gq2 (op_move rfl) rfl ?_ | (refine' TL_gq2 (op_bin rfl rfl ?_) rfl ?_; rotate_left 1; (· (exact bin_gtr))) | (refine T_yes rfl ?_ ?_; (· (exact dT (by (assumption)))))))
      refine TQ_ret2 2 3 _ _ rfl rfl rfl ?_
      exact Or.inr ⟨Or.inr h9, rfl, rfl⟩
    · repeat ((first | with_reducible refine T_seq ?_ | with_reducible refine T_region ?_ | with_reducible refine TL_nil ?_ | with_reducible refine TQ_then ?_ | with_reducible refine T_skip ?_ | with_reducible refine T_ret ?_ | refine TL_q (op_move rfl) rfl ?_ | refine TL_q (op_assign rfl) rfl ?_ | (refine' TL_q (op_bin rfl rfl ?_) rfl ?_; rotate_left 1; (· (exact bin_lss))) | (refine' TL_q (op_pickF rfl ?_ rfl) rfl ?_; (· (exact dF (by (assumption))))) | (refine TL_gpre rfl rfl ?_ ?_; (· (exact dF (by (assumption))))) | refine TL_gq2 (op_move rfl) rfl ?_ | (refine' TL_gq2 (op_bin rfl rfl ?_) rfl ?_; rotate_left 1; (· (exact bin_gtr))) | (refine TL_new (op_boxA rfl) rfl ?_; intro bBox) | refine TL_q (op_build rfl (bl_100_0 _)) rfl ?_ | (refine T_no rfl ?_ ?_; (· (exact dF (by (assumption)))))))
      refine TQ_ret2 2 3 _ _ rfl rfl rfl ?_
      exact Or.inl ⟨by omega, by omega, _, rfl, rfl⟩
end Go.Proofs.Ytdflhdfapnhjjaa
namespace Go.Proofs.Ytdflhdfapnhjjaa
open Go.RowKit
open Vd (RSet Vdt Vote Rec Quest Piece Ballot)
set_option linter.unusedVariables false
set_option linter.unusedSimpArgs false
--auto
variable {G : World} {L : Blocks}
theorem built_box {w : Int} {m c : Nat} {ad : Option Addr} {v0 v1 v2 v3 v4 v5 v6 v7 v8 v9 v10 v11 v12 v13 v14 v15 v16 v17 : Value} : Built Try.prog 100 [(0, .int .i64 w), (1, .agg #[v0, v1, v2, v3, v4, v5, v6, v7, v8, v9, v10, v11, v12, v13, v14, v15, v16, v17]), (2, .slice ad m c)] (.agg #[.int .i64 w, v0, v1, v2, v3, v4, v5, v6, v7, v8, v9, v10, v11, v12, v13, v14, v15, v16, v17, .slice ad m c]) := ⟨fun w => by kernel_rfl⟩
set_option maxRecDepth 100000 in
set_option maxHeartbeats 2000000 in
theorem pCopy_S {K : Blocks} (bb : Nat) (want : Int) (l : List Ballot) (M0 : Blocks) (hb : TBox K bb want l M0) (hK : ∀ p ∈ K, p ∈ L) (hn : l.length ≤ 9) (hs : ∀ x ∈ Vd.votesB l, SmV x.vd) :
    Spec Try.prog G 46 #[.pointer (some ⟨bb, 0, none⟩)] (M0 ++ L) fun u M => ∃ b2 M2 N, u = .pointer (some ⟨b2, 0, none⟩) ∧ TBox N b2 want l M2 ∧ Wr N ∧ M = M2 ++ (N ++ (M0 ++ L)) := by
  obtain ⟨a, c, B, hB, rfl⟩ := hb
  have hvl := votesB_len l
  have g0 : (boxC want (slipOf l) (.slice a (Vd.votesB l).length c)).toArray[0 + 0]? = some (.int .i64 want) := rfl
  have g19 : (boxC want (slipOf l) (.slice a (Vd.votesB l).length c)).toArray[0 + 19]? = some (.slice a (Vd.votesB l).length c) := rfl
  have hv : sliceR 5 voteR ((bb, Obj.cells (boxC want (slipOf l) (.slice a (Vd.votesB l).length c)).toArray 100 (0, 0)) :: (B ++ L)) [.slice a (Vd.votesB l).length c] (Vd.votesB l) := (hB.mono mono_vote (fun p hp => List.mem_cons_of_mem _ (List.mem_append_right _ (hK p hp)))).sliceR mono_vote (fun p h => h) (mem_of_cnt (by intro p; (try simp only [cnt_append, cnt_cons, cnt_nil]) <;> omega))
  have hKm : ∀ q ∈ [(bb, Obj.cells (boxC want (slipOf l) (.slice a (Vd.votesB l).length c)).toArray 100 (0, 0))], q ∈ ((bb, Obj.cells (boxC want (slipOf l) (.slice a (Vd.votesB l).length c)).toArray 100 (0, 0)) :: B) ++ L := by
    intro q hq
    rw [List.mem_singleton.1 hq]
    simp
  refine Spec_of (n := 20) Try.func46 rfl rfl rfl ?_
  repeat ((first | with_reducible refine T_seq ?_ | with_reducible refine T_region ?_ | with_reducible refine TL_nil ?_ | with_reducible refine TQ_then ?_ | with_reducible refine T_skip ?_ | refine TL_q (op_move rfl) rfl ?_ | refine TL_q (op_assign rfl) rfl ?_ | (refine' TL_q (op_bin rfl rfl ?_) rfl ?_; rotate_left 1; (· (exact pbin_eql Try.underlying76))) | (refine T_no rfl ?_ ?_; (· (exact Bool.not_true)))))
  refine T_draw follows_mixed ([(bb, Obj.cells (boxC want (slipOf l) (.slice a (Vd.votesB l).length c)).toArray 100 (0, 0))]) [] ?_
  (refine' TA_take 0 rfl rfl (by kernel_rfl) (quiet_q (op_move rfl)) ?_ ?_; (· (assumption)))
  (refine' TA_take 1 rfl rfl (by kernel_rfl) (quiet_q (op_nilCheck rfl)) ?_ ?_; (· (assumption)))
  (refine' TA_take 2 rfl rfl (by kernel_rfl) (quiet_q (op_fld rfl fld_100_0)) ?_ ?_; (· (assumption)))
  (refine' TA_take 3 rfl rfl (by kernel_rfl) (quiet_q (op_ld rfl pl_3 ?_ ?_)) ?_ ?_; rotate_left 4; (· repeat ((exact List.mem_cons_self))); (· (assumption)); (· (assumption)))
  (refine' TA_take 4 rfl rfl (by kernel_rfl) (quiet_q (op_move rfl)) ?_ ?_; (· (assumption)))
  (refine' TA_take 5 rfl rfl (by kernel_rfl) (quiet_q (op_nilCheck rfl)) ?_ ?_; (· (assumption)))
  (refine' TA_take 6 rfl rfl (by kernel_rfl) (quiet_q (op_fld rfl fld_100_1)) ?_ ?_; (· (assumption)))
  (refine' TA_take 7 rfl rfl (by kernel_rfl) (quiet_q (op_ldArr (slipCells (slipOf l)) rfl Try.underlying98 (by kernel_rfl) (List.mem_cons_self ..) slips_in)) ?_ ?_; (· (assumption)))
  (refine' TA_take 8 rfl rfl (by kernel_rfl) (quiet_q (op_move rfl)) ?_ ?_; (· (assumption)))
  (refine' TA_take 9 rfl rfl (by kernel_rfl) (quiet_q (op_nilCheck rfl)) ?_ ?_; (· (assumption)))
  (refine' TA_take 10 rfl rfl (by kernel_rfl) (quiet_q (op_fld rfl fld_100_2)) ?_ ?_; (· (assumption)))
  (refine' TA_take 11 rfl rfl (by kernel_rfl) (quiet_q (op_ld rfl pl_47 ?_ ?_)) ?_ ?_; rotate_left 4; (· repeat ((exact List.mem_cons_self))); (· (assumption)); (· (assumption)))
  refine TA_oneD 12 (by kernel_rfl) rfl rfl rfl rfl (op_call hb_70 rfl (pCopyVotes_S _ (Vd.votesB l) hv (by omega) hs)) ?_; rintro _ _ ⟨a2, c2, B2, N, rfl, hB2, hN, rfl⟩; refine ⟨Or.inr (fun q hq => List.mem_append_right _ (List.mem_append_right _ (hKm q hq))), ?_⟩
  (refine' TA_take 13 rfl rfl (by kernel_rfl) (quiet_q (op_build rfl built_box)) ?_ ?_; (· (intro p hp; grind)))
  refine TA_oneD 14 (by kernel_rfl) rfl rfl rfl rfl (op_boxA rfl) ?_; rintro _ _ ⟨b2, rfl, rfl⟩; refine ⟨Or.inr (fun q hq => List.mem_cons_of_mem _ (List.mem_append_right _ (List.mem_append_right _ (hKm q hq)))), ?_⟩
  (refine' TA_take 15 rfl rfl (by kernel_rfl) (quiet_q (op_assign rfl)) ?_ ?_; (· (intro p hp; grind)))
  refine TA_done (by kernel_rfl) ?_
  repeat ((first | with_reducible refine TQ_then ?_ | with_reducible refine T_ret ?_))
  refine TQ_ret1 2 _ rfl rfl ?_
  exact ⟨b2, _, N, rfl, ⟨a2, c2, B2, hB2, rfl⟩, hN, rfl⟩
end Go.Proofs.Ytdflhdfapnhjjaa
namespace Go.Proofs.Ytdflhdfapnhjjaa
open Go.RowKit
open Vd (RSet Vdt Vote Rec Quest Piece Ballot Said)
set_option linter.unusedVariables false
set_option linter.unusedSimpArgs false
--auto
/-- A vote with its end. -/
def endedR (q : Quest) (K D : Blocks) : List Value → Vote → Prop := fun cs x => ∃ a1 c1 a2 c2 a3 c3, cs = [.int .i64 x.up, .int .u8 x.vd.code, .slice a1 x.vd.sets.length c1, .slice a2 x.vd.soa.length c2, .int .u32 x.time, .string (bs (Vd.endV q x.vd).1.name), .int .u16 (Vd.endV q x.vd).1.kind, .int .u16 (Vd.endV q x.vd).1.cls, .int .u32 (Vd.endV q x.vd).1.ttl, .slice a3 (Vd.endV q x.vd).1.data.length c3, .bool (Vd.endV q x.vd).2] ∧
  voteR K [.int .i64 x.up, .int .u8 x.vd.code, .slice a1 x.vd.sets.length c1, .slice a2 x.vd.soa.length c2, .int .u32 x.time] x ∧ rsR D [.string (bs (Vd.endV q x.vd).1.name), .int .u16 (Vd.endV q x.vd).1.kind, .int .u16 (Vd.endV q x.vd).1.cls, .int .u32 (Vd.endV q x.vd).1.ttl, .slice a3 (Vd.endV q x.vd).1.data.length c3] (Vd.endV q x.vd).1
def endData (q : Quest) (x : Vote) : List Vd.Bytes := if (Vd.endV q x.vd).2 then (Vd.endV q x.vd).1.data else []
def endsAll (q : Quest) (l : List Vote) : List Vd.Bytes := l.flatMap (endData q)
variable {G : World} {L : Blocks}
end Go.Proofs.Ytdflhdfapnhjjaa
