/-
  Part 10: Gz Ua Ub OpM.
-/
import Derived.Test.YtdflhdfapnhjjaaPt9
import Derived.Test.YtdflhdfapnhjjaaPt1
namespace Go.Proofs.Ytdflhdfapnhjjaa
open Go.RowKit
open Vd (RSet Vdt Vote Rec Quest Piece Ballot Said)
set_option linter.unusedVariables false
set_option linter.unusedSimpArgs false
--auto
theorem Up_ofN {P : Program} {G : World} {n : Nat} {ρ : Slots} {L : Blocks} {Q : Exit → Act → World → Prop} {ops : Array Oper} {K : Blocks} {W : List Nat} {fuel : Nat} {listed : Array Bool} {i : Nat} {oi : Oper} {Φ : Value → Blocks → Prop} (hi : ops[i]? = some oi) (hd : oi.dst = none) (hg : oi.guard = none)
    (hO : OpT P G ρ L oi.op oi.type Φ) (h : ∀ v L', Φ v L' → (i ∈ W ∨ ∀ p ∈ K, p ∈ L') ∧ TA P G ops n K W Q fuel (listed.setIfInBounds i true) ρ L') : Up P G ops n K W Q fuel listed ρ L i :=
  Up_of hi (by rw [hd]; rfl) hg hO (by rw [hd]; exact h)
/-- Replies of upstreams 0, 1, .., told one tick apart. -/
def saidsOf (l : List Vd.Msg) : List Said := l.zipIdx.map fun p => ⟨(p.2 : Nat), p.1, 20 - (p.2 : Nat)⟩
theorem saidsOf_snoc (l : List Vd.Msg) (m : Vd.Msg) : saidsOf (l ++ [m]) = saidsOf l ++ [⟨(l.length : Nat), m, 20 - (l.length : Nat)⟩] := by
  unfold saidsOf
  rw [List.zipIdx_append]
  simp
theorem saidsOf_len (l : List Vd.Msg) : (saidsOf l).length = l.length := by simp [saidsOf]
/-- The data of the one set, without their first three bytes. -/
def tails (l : List Vd.Bytes) : Vd.Bytes := l.flatMap fun d => d.drop 3
def toldP (q : Quest) (l : List Vd.Msg) : Int × Vd.Bytes × Int × Bool :=
  ((unionP q (Vd.votesOf q (saidsOf l))).1.code, match (unionP q (Vd.votesOf q (saidsOf l))).1.sets with | [s] => tails s.data | _ => [110, 111, 110, 101], (unionP q (Vd.votesOf q (saidsOf l))).2.1, (unionP q (Vd.votesOf q (saidsOf l))).2.2)
/-- What of the union the loop of 'told' needs. -/
def ToldFits (q : Quest) (l : List Vd.Msg) : Prop := ∀ s ∈ (unionP q (Vd.votesOf q (saidsOf l))).1.sets, s.data.length ≤ 1000 ∧ ∀ d ∈ s.data, 3 ≤ d.length ∧ d.length ≤ 1000
variable {G : World} {L : Blocks}
set_option maxRecDepth 100000 in
set_option maxHeartbeats 2000000 in
theorem in_S (v : Value) (l : List Vd.Bytes) (s : Vd.Bytes) (hl : sliceR 1 strR L [v] l) : Spec Try.prog G 30 #[v, .string (bs s)] L fun u M => u = .bool (l.any fun x => decide (x = s)) ∧ M = L := by
  obtain ⟨a, c, e1, hl⟩ := hl.val
  simp only [List.cons.injEq, and_true] at e1
  subst e1
  obtain ⟨_, k1, k2, hl⟩ := strs_cut hl
  unfold maxLen at k2
  refine Spec_of (n := 18) Try.func30 rfl rfl rfl ?_
  repeat (first | with_reducible refine T_seq ?_ | with_reducible refine T_block ?_ | with_reducible refine T_region ?_ | with_reducible refine TL_nil ?_ | with_reducible refine TQ_then ?_ | refine TL_q (op_assign rfl) rfl ?_)
  refine T_loopS (σ := Nat) (fun k => k ≤ l.length ∧ (l.take k).any (fun x => decide (x = s)) = false) (fun k => [(0, .slice a l.length c), (1, .string (bs s)), (5, .int .i64 (k : Nat))]) (fun _ => L) (fun k => l.length - k) 0 ⟨Nat.zero_le _, rfl⟩ ?_ (fun w h => h) ?_
  (repeat (first | exact trivial | refine ⟨rfl, ?_⟩))
  rintro k ⟨hk, hno⟩
  by_cases hlt : k < l.length
  · rcases hl with rfl | ⟨b1, o1, C1, t1, f1, rfl, m1, q1⟩
    · simp at hlt
    obtain ⟨x, hx⟩ : ∃ x, l[k]? = some x := ⟨_, List.getElem?_eq_getElem hlt⟩
    have r1 := q1 k x hx
    have htk : (l.take (k + 1)).any (fun x => decide (x = s)) = (decide (x = s)) := by rw [List.take_add_one, hx, List.any_append, hno]; simp
    by_cases hxs : x = s
    · have : (l.any fun x => decide (x = s)) = true := List.any_eq_true.2 ⟨x, List.mem_of_getElem? hx, by simpa using hxs⟩
      rw [this]
      subst hxs
      repeat' (first | with_reducible refine T_seq ?_ | with_reducible refine T_block ?_ | with_reducible refine T_region ?_ | with_reducible refine TL_nil ?_ | with_reducible refine TQ_then ?_ | with_reducible refine T_skip ?_ | with_reducible refine T_ret ?_ | with_reducible refine TQ_then_ret ?_ | with_reducible refine TQ_block_ret ?_ | refine TL_q (op_move rfl) rfl ?_ | refine TL_q (op_assign rfl) rfl ?_ | (refine' TL_q (op_bin rfl rfl ?_) rfl ?_; rotate_left 1; (· first | exact bin_lss | exact sbin_eql)) | refine TL_q (op_len_slice rfl Try.underlying58) rfl ?_ | (refine' TL_q (op_idx ety_58 rfl rfl ?_) rfl ?_; (· omega)) | (refine' TL_q (op_ld rfl pl_9 ?_ ?_) rfl ?_; rotate_left 4; (· repeat ((assumption))); (· (assumption))) | (refine T_yes rfl ?_ ?_; (· first | exact dT (by first | assumption | omega) | exact eT (by (with_reducible rfl)))) | refine TQ_ret1 4 _ rfl rfl ?_)
      all_goals exact ⟨rfl, rfl⟩
    · repeat (first | with_reducible refine T_seq ?_ | with_reducible refine T_block ?_ | with_reducible refine T_region ?_ | with_reducible refine TL_nil ?_ | with_reducible refine TQ_then ?_ | with_reducible refine TQ_block ?_ | with_reducible refine T_skip ?_ | refine TL_q (op_move rfl) rfl ?_ | refine TL_q (op_assign rfl) rfl ?_ | (refine' TL_q (op_bin rfl rfl ?_) rfl ?_; rotate_left 1; (· first | exact bin_add ⟨by omega, by omega⟩ | exact bin_lss | exact sbin_eql)) | refine TL_q (op_len_slice rfl Try.underlying58) rfl ?_ | (refine' TL_q (op_idx ety_58 rfl rfl ?_) rfl ?_; (· omega)) | (refine' TL_q (op_ld rfl pl_9 ?_ ?_) rfl ?_; rotate_left 4; (· repeat ((assumption))); (· (assumption))) | (refine T_yes rfl ?_ ?_; (· (exact dT (by first | assumption | omega)))) | (refine T_no rfl ?_ ?_; (· (exact eF (by (assumption))))))
      refine TQ_roundS (k + 1) ⟨hlt, by rw [htk]; simpa using hxs⟩ ?_ (fun w h => h) (by omega)
      (repeat (first | exact trivial | refine ⟨rfl, ?_⟩))
  · have hkn : k = l.length := by omega
    subst hkn
    rw [List.take_length] at hno
    rw [hno]
    repeat' (first | with_reducible refine T_seq ?_ | with_reducible refine T_region ?_ | with_reducible refine TL_nil ?_ | with_reducible refine TQ_then ?_ | with_reducible refine T_exit ?_ | with_reducible refine T_ret ?_ | with_reducible refine TQ_then_exit ?_ | with_reducible refine TQ_block_exit ?_ | refine TL_q (op_move rfl) rfl ?_ | refine TL_q (op_assign rfl) rfl ?_ | (refine' TL_q (op_bin rfl rfl ?_) rfl ?_; rotate_left 1; (· (exact bin_lss))) | refine TL_q (op_len_slice rfl Try.underlying58) rfl ?_ | (refine T_no rfl ?_ ?_; (· (exact dF (by (omega))))) | refine TQ_ret1 4 _ rfl rfl ?_)
    exact ⟨rfl, rfl⟩
theorem tails_len (n : Nat) : ∀ (l : List Vd.Bytes), (∀ d ∈ l, d.length ≤ n) → (tails l).length ≤ l.length * n
  | [], _ => by simp [tails]
  | d :: l, h => by
    have h1 := tails_len n l fun x hx => h x (List.mem_cons_of_mem _ hx)
    have h2 := h d (List.mem_cons_self ..)
    have h3 : tails (d :: l) = d.drop 3 ++ tails l := rfl
    rw [h3, List.length_append, List.length_drop, List.length_cons, Nat.succ_mul]
    omega
theorem tails_snoc (l : List Vd.Bytes) (d : Vd.Bytes) : tails (l ++ [d]) = tails l ++ d.drop 3 := by simp [tails]
set_option maxRecDepth 100000 in
set_option maxHeartbeats 4000000 in
theorem told_S {K : Blocks} (v : Value) (q : Quest) (l : List Vd.Msg) (hKL : ∀ p ∈ K, p ∈ L) (hl : sliceR 21 (fun _ => msgR K) L [v] l) (hq1 : q.name.length ≤ 1000) (hq2 : 0 ≤ q.kind ∧ q.kind ≤ 65535) (hq3 : 0 ≤ q.cls ∧ q.cls ≤ 65535) (hn : l.length ≤ 20) (hm : ∀ m ∈ l, MsgSmall m) (hfit : ToldFits q l) :
    Spec Try.prog G 16 #[.agg #[.string (bs q.name), .int .u16 q.kind, .int .u16 q.cls], v] L fun u M => u = .tuple #[.int .u8 (toldP q l).1, .string (bs (toldP q l).2.1), .int .u32 (toldP q l).2.2.1, .bool (toldP q l).2.2.2] ∧ ∃ X, M = X ++ L := by
  obtain ⟨a, c, e1, hl⟩ := hl.val
  simp only [List.cons.injEq, and_true] at e1
  subst e1
  obtain ⟨_, ka1, ka2, hl⟩ := sliceR.cut hl
  refine Spec_of (n := 77) Try.func16 rfl rfl rfl ?_
  refine T_seq (T_region (TL_new (op_boxA rfl) rfl ?_))
  intro bQ
  repeat (first | with_reducible refine T_seq ?_ | with_reducible refine T_block ?_ | with_reducible refine T_region ?_ | with_reducible refine TL_nil ?_ | with_reducible refine TQ_then ?_ | refine TL_q (op_assign rfl) rfl ?_)
  refine T_loopS (σ := Nat × Option Addr × Nat × Blocks) (fun x => x.1 ≤ l.length ∧ ORow saidR 115 23 K x.2.1 x.2.2.1 (saidsOf (l.take x.1)) x.2.2.2) (fun x => [(1, .slice a l.length c), (2, .pointer (some ⟨bQ, 0, none⟩)), (8, .slice x.2.1 (saidsOf (l.take x.1)).length x.2.2.1), (9, .int .i64 (x.1 : Nat))]) (fun x => (bQ, Obj.cells #[.string (bs q.name), .int .u16 q.kind, .int .u16 q.cls] 34 (0, 0)) :: (x.2.2.2 ++ L)) (fun x => l.length - x.1) (0, none, 0, []) ⟨Nat.zero_le _, ORow.nil _⟩ ?_ (fun w h => h) ?_
  (repeat (first | exact trivial | refine ⟨rfl, ?_⟩))
  rintro ⟨i, aA, cA, BA⟩ ⟨hi, hA⟩
  dsimp only at hi hA ⊢
  have hsl := saidsOf_len (l.take i)
  rw [List.length_take] at hsl
  by_cases hil : i < l.length
  · obtain ⟨m, hx⟩ : ∃ m, l[i]? = some m := ⟨_, List.getElem?_eq_getElem hil⟩
    have htk : saidsOf (l.take (i + 1)) = saidsOf (l.take i) ++ [⟨(i : Nat), m, 20 - (i : Nat)⟩] := by
      rw [List.take_add_one, hx]
      simp only [Option.toList_some]
      rw [saidsOf_snoc, List.length_take, Nat.min_eq_left (by omega)]
    rcases hl with rfl | ⟨b1, o1, C1, t1, f1, rfl, m1, q1⟩
    · simp at hil
    obtain ⟨cx, _, hmx, hcx⟩ := q1 i m hx
    have hmx0 := hmx
    obtain ⟨h0, h1, h2, h3, h4, h5, h6, h7, h8, h9, qs, va, vb, xx, kk, e0, e1, e2, e3, e4, rfl, _, _, hcode, hone⟩ := hmx0
    have m1' : (b1, Obj.cells C1 t1 f1) ∈ BA ++ L := List.mem_append_right _ m1
    repeat (first | with_reducible refine T_seq ?_ | with_reducible refine T_block ?_ | with_reducible refine T_region ?_ | with_reducible refine TL_nil ?_ | with_reducible refine TQ_then ?_ | with_reducible refine T_skip ?_ | refine TL_q (op_move rfl) rfl ?_ | (refine' TL_q (op_bin rfl rfl ?_) rfl ?_; rotate_left 1; (· (exact bin_lss))) | refine TL_q (op_len_slice rfl Try.underlying113) rfl ?_ | (refine' TL_q (op_idx ety_113 rfl rfl ?_) rfl ?_; (· omega)) | (refine T_yes rfl ?_ ?_; (· (exact dT (by (omega))))))
    refine TL_q (op_ldA [h0, h1, h2, h3, h4, h5, h6, h7, h8, h9, .int .u8 m.code, qs, va, vb, xx, kk, e0, e1, e2, e3, e4] rfl st_32 (List.mem_cons_of_mem _ m1') hcx) rfl ?_
    repeat (first | refine TL_q (op_move rfl) rfl ?_ | (refine' TL_q (op_bin rfl rfl ?_) rfl ?_; rotate_left 1; (· (exact bin_sub ⟨by omega, by omega⟩))) | (refine' TL_q (op_conv_int rfl Try.underlying3 Try.underlying36 ?_) rfl ?_; (· exact ⟨by omega, by omega⟩)) | refine TL_q (op_build rfl (bl_115_0_1_2 _ _ _ _ _ _ _ _ _ _ _ _ _ _ _ _ _ _ _ _ _ _ _)) rfl ?_ | (refine TL_new (op_litN ety_48 rfl rfl (by decide)) rfl ?_; intro bLit))
    refine TL_cnt (L' := (bLit, Obj.cells #[.int .i64 (i : Nat), h0, h1, h2, h3, h4, h5, h6, h7, h8, h9, .int .u8 m.code, qs, va, vb, xx, kk, e0, e1, e2, e3, e4, .int .u32 (20 - (i : Nat))] 115 (0, 0)) :: (BA ++ ((bQ, Obj.cells #[.string (bs q.name), .int .u16 q.kind, .int .u16 q.cls] 34 (0, 0)) :: L))) ?_ (by intro p; (try simp only [cnt_append, cnt_cons, cnt_nil]) <;> omega)
    refine TL_opT (op_push (L0 := K) (cs := [.int .i64 (i : Nat), h0, h1, h2, h3, h4, h5, h6, h7, h8, h9, .int .u8 m.code, qs, va, vb, xx, kk, e0, e1, e2, e3, e4, .int .u32 (20 - (i : Nat))]) (y := ⟨(i : Nat), m, 20 - (i : Nat)⟩) ety_48 rfl rfl hA rfl (fun v hv => ?_) ⟨[h0, h1, h2, h3, h4, h5, h6, h7, h8, h9, .int .u8 m.code, qs, va, vb, xx, kk, e0, e1, e2, e3, e4], rfl, hmx, by dsimp only; omega, by dsimp only; omega⟩ (by unfold maxLen; omega) (by omega)) rfl ?_
    · rcases List.mem_cons.1 hv with rfl | hv
      · rfl
      · rcases List.mem_append.1 (show v ∈ [h0, h1, h2, h3, h4, h5, h6, h7, h8, h9, .int .u8 m.code, qs, va, vb, xx, kk, e0, e1, e2, e3, e4] ++ [.int .u32 (20 - (i : Nat))] from hv) with hv | hv
        · exact hone v hv
        · rw [List.mem_singleton.1 hv]; rfl
    rintro _ _ ⟨a', c', B', rfl, hB', rfl⟩
    repeat (first | with_reducible refine T_region ?_ | with_reducible refine TL_nil ?_ | with_reducible refine TQ_then ?_ | with_reducible refine TQ_block ?_ | refine TL_q (op_move rfl) rfl ?_ | refine TL_q (op_assign rfl) rfl ?_ | (refine' TL_q (op_bin rfl rfl ?_) rfl ?_; rotate_left 1; (· (exact bin_add ⟨by omega, by omega⟩))))
    refine TQ_roundS (i + 1, a', c', B') ⟨hil, by dsimp only; rw [htk]; exact hB'⟩ ?_ (fun w h => h.cnt (by intro p; (try simp only [cnt_append, cnt_cons, cnt_nil]) <;> omega)) (by dsimp only; omega)
    dsimp only
    rw [htk]
    (repeat (first | exact trivial | refine ⟨rfl, ?_⟩))
  · have hie : i = l.length := by omega
    subst hie
    rw [List.take_length] at hA hsl
    have hms : ∀ s ∈ saidsOf l, MsgSmall s.m := fun s hs => by
      obtain ⟨p, hp, rfl⟩ := List.mem_map.1 hs
      exact hm _ (List.fst_mem_of_mem_zipIdx hp)
    have hfits : ∀ s ∈ saidsOf l, MsgFits s.m := fun s hs => (hms s hs).fits
    obtain ⟨_, hvs, hvl⟩ := votesOf_sm q (saidsOf l) hms
    rw [saidsOf_len] at hvl
    rw [List.take_length]
    have hKm : ∀ z ∈ [(bQ, Obj.cells #[.string (bs q.name), .int .u16 q.kind, .int .u16 q.cls] 34 (0, 0))], z ∈ (bQ, Obj.cells #[.string (bs q.name), .int .u16 q.kind, .int .u16 q.cls] 34 (0, 0)) :: (BA ++ L) := fun z hz => by
      rw [List.mem_singleton.1 hz]; exact List.mem_cons_self ..
    obtain ⟨r, hr⟩ : ∃ r, unionP q (Vd.votesOf q (saidsOf l)) = r := ⟨_, rfl⟩
    repeat (first | with_reducible refine T_seq ?_ | with_reducible refine T_region ?_ | with_reducible refine TL_nil ?_ | with_reducible refine TQ_then ?_ | with_reducible refine T_exit ?_ | with_reducible refine TQ_then_exit ?_ | with_reducible refine TQ_block_exit ?_ | refine TL_q (op_move rfl) rfl ?_ | (refine' TL_q (op_bin rfl rfl ?_) rfl ?_; rotate_left 1; (· (exact bin_lss))) | refine TL_q (op_len_slice rfl Try.underlying113) rfl ?_ | (refine T_no rfl ?_ ?_; (· (exact dF (by (omega))))))
    refine T_midK (σ := Option Addr × Nat × Blocks × Option Addr × Nat × Blocks × Blocks × Nat × Blocks) (fun y => ORow rsR 60 5 y.2.2.2.2.2.2.1 y.1 y.2.1 r.1.sets y.2.2.1 ∧ ORow rsR 60 5 y.2.2.2.2.2.2.1 y.2.2.2.1 y.2.2.2.2.1 r.1.soa y.2.2.2.2.2.1 ∧ Wr y.2.2.2.2.2.2.1)
      (fun y => [(10, .pointer (some ⟨y.2.2.2.2.2.2.2.1, 0, none⟩)), (11, .int .u32 r.2.1), (12, .bool r.2.2)])
      (fun y => (y.2.2.2.2.2.2.2.1, Obj.cells #[.int .u8 r.1.code, .slice y.1 r.1.sets.length y.2.1, .slice y.2.2.2.1 r.1.soa.length y.2.2.2.2.1] 42 (0, 0)) :: (y.2.2.2.2.2.1 ++ (y.2.2.1 ++ (y.2.2.2.2.2.2.1 ++ (y.2.2.2.2.2.2.2.2 ++ L))))) ?_ ?_
    · rw [← hr]
      refine T_draw follows_mixed ([(bQ, Obj.cells #[.string (bs q.name), .int .u16 q.kind, .int .u16 q.cls] 34 (0, 0))]) [] ?_
      (refine' TA_take 0 rfl rfl (by kernel_rfl) (quiet_q (op_ldAll rfl st_34 ?_ ?_)) ?_ ?_; rotate_left 3; (· repeat ((exact List.mem_cons_self))); (· (rfl)); (· (assumption)))
      (refine' TA_take 1 rfl rfl (by kernel_rfl) (quiet_q (op_ldAll rfl st_34 ?_ ?_)) ?_ ?_; rotate_left 3; (· repeat ((exact List.mem_cons_self))); (· (rfl)); (· (assumption)))
      (refine' TA_take 2 rfl rfl (by kernel_rfl) (quiet_q (op_move rfl)) ?_ ?_; (· (assumption)))
      refine TA_two 3 10 (by kernel_rfl) ?_ ?_
      · refine Up_ofD rfl rfl rfl rfl (op_call hb_20 rfl (votes_S _ q _ (saidsOf l) ⟨rfl, by unfold maxLen; omega, hq2, hq3⟩ (hA.sliceR mono_said (fun p hp => (mem_of_cnt (by intro p; (try simp only [cnt_append, cnt_cons, cnt_nil]) <;> omega)) p (hKL p hp)) (mem_of_cnt (by intro p; (try simp only [cnt_append, cnt_cons, cnt_nil]) <;> omega))) (by omega) (by rw [saidsOf_len]; omega) hfits)) ?_
        rintro _ _ ⟨av, cv, Bv, Kv, rfl, hV, rfl⟩
        refine ⟨Or.inr (by (exact (fun z hz => mem_of_cnt (by intro p; (try simp only [cnt_append, cnt_cons, cnt_nil]) <;> omega) z (hKm z hz)))), ?_⟩
        refine TA_two 4 10 (by kernel_rfl) ?_ ?_
        · refine Up_ofD rfl rfl rfl rfl (op_call hb_22 rfl (given_S (K := Kv) _ (Vd.votesOf q (saidsOf l)) ((hV.imp (r' := fun _ => voteR Kv) (L' := []) (fun cs x _ h => h)).sliceR mono_const (by simp) (mem_of_cnt (by intro p; (try simp only [cnt_append, cnt_cons, cnt_nil]) <;> omega))) (by omega))) ?_
          rintro _ _ ⟨ag, cg, Bg, rfl, hG, rfl⟩
          refine ⟨Or.inr (by (exact (fun z hz => mem_of_cnt (by intro p; (try simp only [cnt_append, cnt_cons, cnt_nil]) <;> omega) z (hKm z hz)))), ?_⟩
          refine TA_two 5 10 (by kernel_rfl) ?_ ?_
          · refine Up_ofD rfl rfl rfl rfl (op_call hb_18 rfl (pUnion_S (K := Kv) _ q (Vd.votesOf q (saidsOf l)) (mem_of_cnt (by intro p; (try simp only [cnt_append, cnt_cons, cnt_nil]) <;> omega)) (by omega) hq2 hq3 ((hG.imp (r' := fun _ => voteR Kv) (L' := []) (fun cs x _ h => h)).sliceR mono_const (by simp) (mem_of_cnt (by intro p; (try simp only [cnt_append, cnt_cons, cnt_nil]) <;> omega))) (by omega) (fun x hx => by have := ((hvs x hx).2.ends q).1; omega) (fun x hx => (hvs x hx).2.smV))) ?_
            rintro _ _ ⟨a1, c1, B1, a2, c2, B2, N, rfl, hB1, hB2, hN, rfl⟩
            refine ⟨Or.inr (by (exact (fun z hz => mem_of_cnt (by intro p; (try simp only [cnt_append, cnt_cons, cnt_nil]) <;> omega) z (hKm z hz)))), ?_⟩
            (refine' TA_take 6 rfl rfl (by kernel_rfl) (quiet_q (op_move rfl)) ?_ ?_; (· (intro p hp; grind)))
            (refine' TA_take 7 rfl rfl (by kernel_rfl) (quiet_q (op_extract rfl rfl)) ?_ ?_; (· (intro p hp; grind)))
            (refine' TA_take 8 rfl rfl (by kernel_rfl) (quiet_q (op_extract rfl rfl)) ?_ ?_; (· (intro p hp; grind)))
            (refine' TA_take 9 rfl rfl (by kernel_rfl) (quiet_q (op_extract rfl rfl)) ?_ ?_; (· (intro p hp; grind)))
            refine TA_oneD 10 (by kernel_rfl) rfl rfl rfl rfl (op_alloc (C := #[.int .u8 0, .slice none 0 0, .slice none 0 0]) zero_42 rfl) ?_
            rintro _ _ ⟨b10, rfl, rfl⟩
            refine ⟨Or.inr (by (exact (fun z hz => mem_of_cnt (by intro p; (try simp only [cnt_append, cnt_cons, cnt_nil]) <;> omega) z (hKm z hz)))), ?_⟩
            refine TA_cnt (L' := (b10, Obj.cells #[.int .u8 0, .slice none 0 0, .slice none 0 0] 42 (0, 0)) :: (B2 ++ (B1 ++ (N ++ ((Bg ++ (Bv ++ (Kv ++ ((bQ, Obj.cells #[.string (bs q.name), .int .u16 q.kind, .int .u16 q.cls] 34 (0, 0)) :: BA)))) ++ L))))) ?_ (by intro p; (try simp only [cnt_append, cnt_cons, cnt_nil]) <;> omega)
            refine TA_oneN 11 (by kernel_rfl) rfl rfl rfl (op_stAll rfl rfl st_42 rfl rfl rfl) ?_
            rintro _ _ ⟨_, rfl⟩
            refine ⟨Or.inr (by (exact (fun z hz => mem_of_cnt (by intro p; (try simp only [cnt_append, cnt_cons, cnt_nil]) <;> omega) z (hKm z hz)))), ?_⟩
            (refine' TA_take 12 rfl rfl (by kernel_rfl) (quiet_q (op_assign rfl)) ?_ ?_; (· (intro p hp; grind)))
            (refine' TA_take 13 rfl rfl (by kernel_rfl) (quiet_q (op_assign rfl)) ?_ ?_; (· (intro p hp; grind)))
            refine TA_done (by kernel_rfl) ?_
            refine TQ_mid (a1, c1, B1, a2, c2, B2, N, b10, Bg ++ (Bv ++ (Kv ++ ((bQ, Obj.cells #[.string (bs q.name), .int .u16 q.kind, .int .u16 q.cls] 34 (0, 0)) :: BA)))) ⟨hB1, hB2, hN⟩ ?_ (fun w h => h)
            (repeat (first | exact trivial | refine ⟨rfl, ?_⟩))
          · refine Up_ofD rfl rfl rfl rfl (op_alloc (C := #[.int .u8 0, .slice none 0 0, .slice none 0 0]) zero_42 rfl) ?_
            rintro _ _ ⟨b10, rfl, rfl⟩
            refine ⟨Or.inr (by (exact (fun z hz => mem_of_cnt (by intro p; (try simp only [cnt_append, cnt_cons, cnt_nil]) <;> omega) z (hKm z hz)))), ?_⟩
            refine TA_oneD 5 (by kernel_rfl) rfl rfl rfl rfl (op_call hb_18 rfl (pUnion_S (K := Kv) _ q (Vd.votesOf q (saidsOf l)) (mem_of_cnt (by intro p; (try simp only [cnt_append, cnt_cons, cnt_nil]) <;> omega)) (by omega) hq2 hq3 ((hG.imp (r' := fun _ => voteR Kv) (L' := []) (fun cs x _ h => h)).sliceR mono_const (by simp) (mem_of_cnt (by intro p; (try simp only [cnt_append, cnt_cons, cnt_nil]) <;> omega))) (by omega) (fun x hx => by have := ((hvs x hx).2.ends q).1; omega) (fun x hx => (hvs x hx).2.smV))) ?_
            rintro _ _ ⟨a1, c1, B1, a2, c2, B2, N, rfl, hB1, hB2, hN, rfl⟩
            refine ⟨Or.inr (by (exact (fun z hz => mem_of_cnt (by intro p; (try simp only [cnt_append, cnt_cons, cnt_nil]) <;> omega) z (hKm z hz)))), ?_⟩
            (refine' TA_take 6 rfl rfl (by kernel_rfl) (quiet_q (op_move rfl)) ?_ ?_; (· (intro p hp; grind)))
            (refine' TA_take 7 rfl rfl (by kernel_rfl) (quiet_q (op_extract rfl rfl)) ?_ ?_; (· (intro p hp; grind)))
            (refine' TA_take 8 rfl rfl (by kernel_rfl) (quiet_q (op_extract rfl rfl)) ?_ ?_; (· (intro p hp; grind)))
            (refine' TA_take 9 rfl rfl (by kernel_rfl) (quiet_q (op_extract rfl rfl)) ?_ ?_; (· (intro p hp; grind)))
            refine TA_cnt (L' := (b10, Obj.cells #[.int .u8 0, .slice none 0 0, .slice none 0 0] 42 (0, 0)) :: (B2 ++ (B1 ++ (N ++ ((Bg ++ (Bv ++ (Kv ++ ((bQ, Obj.cells #[.string (bs q.name), .int .u16 q.kind, .int .u16 q.cls] 34 (0, 0)) :: BA)))) ++ L))))) ?_ (by intro p; (try simp only [cnt_append, cnt_cons, cnt_nil]) <;> omega)
            refine TA_oneN 11 (by kernel_rfl) rfl rfl rfl (op_stAll rfl rfl st_42 rfl rfl rfl) ?_
            rintro _ _ ⟨_, rfl⟩
            refine ⟨Or.inr (by (exact (fun z hz => mem_of_cnt (by intro p; (try simp only [cnt_append, cnt_cons, cnt_nil]) <;> omega) z (hKm z hz)))), ?_⟩
            (refine' TA_take 12 rfl rfl (by kernel_rfl) (quiet_q (op_assign rfl)) ?_ ?_; (· (intro p hp; grind)))
            (refine' TA_take 13 rfl rfl (by kernel_rfl) (quiet_q (op_assign rfl)) ?_ ?_; (· (intro p hp; grind)))
            refine TA_done (by kernel_rfl) ?_
            refine TQ_mid (a1, c1, B1, a2, c2, B2, N, b10, Bg ++ (Bv ++ (Kv ++ ((bQ, Obj.cells #[.string (bs q.name), .int .u16 q.kind, .int .u16 q.cls] 34 (0, 0)) :: BA)))) ⟨hB1, hB2, hN⟩ ?_ (fun w h => h)
            (repeat (first | exact trivial | refine ⟨rfl, ?_⟩))
        · refine Up_ofD rfl rfl rfl rfl (op_alloc (C := #[.int .u8 0, .slice none 0 0, .slice none 0 0]) zero_42 rfl) ?_
          rintro _ _ ⟨b10, rfl, rfl⟩
          refine ⟨Or.inr (by (exact (fun z hz => mem_of_cnt (by intro p; (try simp only [cnt_append, cnt_cons, cnt_nil]) <;> omega) z (hKm z hz)))), ?_⟩
          refine TA_oneD 4 (by kernel_rfl) rfl rfl rfl rfl (op_call hb_22 rfl (given_S (K := Kv) _ (Vd.votesOf q (saidsOf l)) ((hV.imp (r' := fun _ => voteR Kv) (L' := []) (fun cs x _ h => h)).sliceR mono_const (by simp) (mem_of_cnt (by intro p; (try simp only [cnt_append, cnt_cons, cnt_nil]) <;> omega))) (by omega))) ?_
          rintro _ _ ⟨ag, cg, Bg, rfl, hG, rfl⟩
          refine ⟨Or.inr (by (exact (fun z hz => mem_of_cnt (by intro p; (try simp only [cnt_append, cnt_cons, cnt_nil]) <;> omega) z (hKm z hz)))), ?_⟩
          refine TA_oneD 5 (by kernel_rfl) rfl rfl rfl rfl (op_call hb_18 rfl (pUnion_S (K := Kv) _ q (Vd.votesOf q (saidsOf l)) (mem_of_cnt (by intro p; (try simp only [cnt_append, cnt_cons, cnt_nil]) <;> omega)) (by omega) hq2 hq3 ((hG.imp (r' := fun _ => voteR Kv) (L' := []) (fun cs x _ h => h)).sliceR mono_const (by simp) (mem_of_cnt (by intro p; (try simp only [cnt_append, cnt_cons, cnt_nil]) <;> omega))) (by omega) (fun x hx => by have := ((hvs x hx).2.ends q).1; omega) (fun x hx => (hvs x hx).2.smV))) ?_
          rintro _ _ ⟨a1, c1, B1, a2, c2, B2, N, rfl, hB1, hB2, hN, rfl⟩
          refine ⟨Or.inr (by (exact (fun z hz => mem_of_cnt (by intro p; (try simp only [cnt_append, cnt_cons, cnt_nil]) <;> omega) z (hKm z hz)))), ?_⟩
          (refine' TA_take 6 rfl rfl (by kernel_rfl) (quiet_q (op_move rfl)) ?_ ?_; (· (intro p hp; grind)))
          (refine' TA_take 7 rfl rfl (by kernel_rfl) (quiet_q (op_extract rfl rfl)) ?_ ?_; (· (intro p hp; grind)))
          (refine' TA_take 8 rfl rfl (by kernel_rfl) (quiet_q (op_extract rfl rfl)) ?_ ?_; (· (intro p hp; grind)))
          (refine' TA_take 9 rfl rfl (by kernel_rfl) (quiet_q (op_extract rfl rfl)) ?_ ?_; (· (intro p hp; grind)))
          refine TA_cnt (L' := (b10, Obj.cells #[.int .u8 0, .slice none 0 0, .slice none 0 0] 42 (0, 0)) :: (B2 ++ (B1 ++ (N ++ ((Bg ++ (Bv ++ (Kv ++ ((bQ, Obj.cells #[.string (bs q.name), .int .u16 q.kind, .int .u16 q.cls] 34 (0, 0)) :: BA)))) ++ L))))) ?_ (by intro p; (try simp only [cnt_append, cnt_cons, cnt_nil]) <;> omega)
          refine TA_oneN 11 (by kernel_rfl) rfl rfl rfl (op_stAll rfl rfl st_42 rfl rfl rfl) ?_
          rintro _ _ ⟨_, rfl⟩
          refine ⟨Or.inr (by (exact (fun z hz => mem_of_cnt (by intro p; (try simp only [cnt_append, cnt_cons, cnt_nil]) <;> omega) z (hKm z hz)))), ?_⟩
          (refine' TA_take 12 rfl rfl (by kernel_rfl) (quiet_q (op_assign rfl)) ?_ ?_; (· (intro p hp; grind)))
          (refine' TA_take 13 rfl rfl (by kernel_rfl) (quiet_q (op_assign rfl)) ?_ ?_; (· (intro p hp; grind)))
          refine TA_done (by kernel_rfl) ?_
          refine TQ_mid (a1, c1, B1, a2, c2, B2, N, b10, Bg ++ (Bv ++ (Kv ++ ((bQ, Obj.cells #[.string (bs q.name), .int .u16 q.kind, .int .u16 q.cls] 34 (0, 0)) :: BA)))) ⟨hB1, hB2, hN⟩ ?_ (fun w h => h)
          (repeat (first | exact trivial | refine ⟨rfl, ?_⟩))
      · refine Up_ofD rfl rfl rfl rfl (op_alloc (C := #[.int .u8 0, .slice none 0 0, .slice none 0 0]) zero_42 rfl) ?_
        rintro _ _ ⟨b10, rfl, rfl⟩
        refine ⟨Or.inr (by (exact (fun z hz => mem_of_cnt (by intro p; (try simp only [cnt_append, cnt_cons, cnt_nil]) <;> omega) z (hKm z hz)))), ?_⟩
        refine TA_oneD 3 (by kernel_rfl) rfl rfl rfl rfl (op_call hb_20 rfl (votes_S _ q _ (saidsOf l) ⟨rfl, by unfold maxLen; omega, hq2, hq3⟩ (hA.sliceR mono_said (fun p hp => (mem_of_cnt (by intro p; (try simp only [cnt_append, cnt_cons, cnt_nil]) <;> omega)) p (hKL p hp)) (mem_of_cnt (by intro p; (try simp only [cnt_append, cnt_cons, cnt_nil]) <;> omega))) (by omega) (by rw [saidsOf_len]; omega) hfits)) ?_
        rintro _ _ ⟨av, cv, Bv, Kv, rfl, hV, rfl⟩
        refine ⟨Or.inr (by (exact (fun z hz => mem_of_cnt (by intro p; (try simp only [cnt_append, cnt_cons, cnt_nil]) <;> omega) z (hKm z hz)))), ?_⟩
        refine TA_oneD 4 (by kernel_rfl) rfl rfl rfl rfl (op_call hb_22 rfl (given_S (K := Kv) _ (Vd.votesOf q (saidsOf l)) ((hV.imp (r' := fun _ => voteR Kv) (L' := []) (fun cs x _ h => h)).sliceR mono_const (by simp) (mem_of_cnt (by intro p; (try simp only [cnt_append, cnt_cons, cnt_nil]) <;> omega))) (by omega))) ?_
        rintro _ _ ⟨ag, cg, Bg, rfl, hG, rfl⟩
        refine ⟨Or.inr (by (exact (fun z hz => mem_of_cnt (by intro p; (try simp only [cnt_append, cnt_cons, cnt_nil]) <;> omega) z (hKm z hz)))), ?_⟩
        refine TA_oneD 5 (by kernel_rfl) rfl rfl rfl rfl (op_call hb_18 rfl (pUnion_S (K := Kv) _ q (Vd.votesOf q (saidsOf l)) (mem_of_cnt (by intro p; (try simp only [cnt_append, cnt_cons, cnt_nil]) <;> omega)) (by omega) hq2 hq3 ((hG.imp (r' := fun _ => voteR Kv) (L' := []) (fun cs x _ h => h)).sliceR mono_const (by simp) (mem_of_cnt (by intro p; (try simp only [cnt_append, cnt_cons, cnt_nil]) <;> omega))) (by omega) (fun x hx => by have := ((hvs x hx).2.ends q).1; omega) (fun x hx => (hvs x hx).2.smV))) ?_
        rintro _ _ ⟨a1, c1, B1, a2, c2, B2, N, rfl, hB1, hB2, hN, rfl⟩
        refine ⟨Or.inr (by (exact (fun z hz => mem_of_cnt (by intro p; (try simp only [cnt_append, cnt_cons, cnt_nil]) <;> omega) z (hKm z hz)))), ?_⟩
        (refine' TA_take 6 rfl rfl (by kernel_rfl) (quiet_q (op_move rfl)) ?_ ?_; (· (intro p hp; grind)))
        (refine' TA_take 7 rfl rfl (by kernel_rfl) (quiet_q (op_extract rfl rfl)) ?_ ?_; (· (intro p hp; grind)))
        (refine' TA_take 8 rfl rfl (by kernel_rfl) (quiet_q (op_extract rfl rfl)) ?_ ?_; (· (intro p hp; grind)))
        (refine' TA_take 9 rfl rfl (by kernel_rfl) (quiet_q (op_extract rfl rfl)) ?_ ?_; (· (intro p hp; grind)))
        refine TA_cnt (L' := (b10, Obj.cells #[.int .u8 0, .slice none 0 0, .slice none 0 0] 42 (0, 0)) :: (B2 ++ (B1 ++ (N ++ ((Bg ++ (Bv ++ (Kv ++ ((bQ, Obj.cells #[.string (bs q.name), .int .u16 q.kind, .int .u16 q.cls] 34 (0, 0)) :: BA)))) ++ L))))) ?_ (by intro p; (try simp only [cnt_append, cnt_cons, cnt_nil]) <;> omega)
        refine TA_oneN 11 (by kernel_rfl) rfl rfl rfl (op_stAll rfl rfl st_42 rfl rfl rfl) ?_
        rintro _ _ ⟨_, rfl⟩
        refine ⟨Or.inr (by (exact (fun z hz => mem_of_cnt (by intro p; (try simp only [cnt_append, cnt_cons, cnt_nil]) <;> omega) z (hKm z hz)))), ?_⟩
        (refine' TA_take 12 rfl rfl (by kernel_rfl) (quiet_q (op_assign rfl)) ?_ ?_; (· (intro p hp; grind)))
        (refine' TA_take 13 rfl rfl (by kernel_rfl) (quiet_q (op_assign rfl)) ?_ ?_; (· (intro p hp; grind)))
        refine TA_done (by kernel_rfl) ?_
        refine TQ_mid (a1, c1, B1, a2, c2, B2, N, b10, Bg ++ (Bv ++ (Kv ++ ((bQ, Obj.cells #[.string (bs q.name), .int .u16 q.kind, .int .u16 q.cls] 34 (0, 0)) :: BA)))) ⟨hB1, hB2, hN⟩ ?_ (fun w h => h)
        (repeat (first | exact trivial | refine ⟨rfl, ?_⟩))
    · rintro ⟨a1, c1, B1, a2, c2, B2, N, b10, X⟩ ⟨hB1, hB2, hN⟩
      dsimp only at hB1 hB2 hN ⊢
      unfold toldP
      rw [hr]
      have hfit' : ∀ s ∈ r.1.sets, s.data.length ≤ 1000 ∧ ∀ d ∈ s.data, 3 ≤ d.length ∧ d.length ≤ 1000 := by unfold ToldFits at hfit; rw [hr] at hfit; exact hfit
      obtain ⟨⟨code, sets, soa⟩, tm, is⟩ := r
      dsimp only at hB1 hB2 hfit' ⊢
      have hcap := hB1.cap
      unfold maxLen at hcap
      by_cases h1 : sets.length = 1
      · obtain ⟨s, rfl⟩ : ∃ s, sets = [s] := List.length_eq_one_iff.1 h1
        have h1' : (([s].length : Nat) : Int) = 1 := rfl
        obtain ⟨hd1, hd2⟩ := hfit' s (List.mem_singleton.2 rfl)
        obtain ⟨b, cur, rfl, rfl, _, _, _, hcur⟩ := hB1.block (by simp)
        obtain ⟨cs, _, hs2, _, hcs⟩ := hcur 0 s rfl
        obtain ⟨xa, xc, rfl, hxd, _⟩ := hs2.vals
        have g4 : cur[0 + (0 : Int).toNat * 5 + 4]? = some (.slice xa s.data.length xc) := hcs 4 _ rfl
        repeat (first | with_reducible refine T_seq ?_ | with_reducible refine T_block ?_ | with_reducible refine T_region ?_ | with_reducible refine TL_nil ?_ | with_reducible refine TQ_then ?_ | with_reducible refine T_skip ?_ | refine TL_q (op_assign rfl) rfl ?_ | (refine' TL_q (op_bin rfl rfl ?_) rfl ?_; rotate_left 1; (· (exact bin_neq))) | refine TL_q (op_len_slice rfl Try.underlying40) rfl ?_ | refine TL_q (op_fld rfl fld_42_1) rfl ?_ | (refine' TL_q (op_ld rfl pl_5 ?_ ?_) rfl ?_; rotate_left 4; (· repeat ((exact List.mem_cons_self))); (· (rfl))) | (refine T_no rfl ?_ ?_; (· (exact Bool.not_true))))
        refine T_loopS (σ := Nat) (fun k => k ≤ s.data.length) (fun k => [(10, .pointer (some ⟨b10, 0, none⟩)), (11, .int .u32 tm), (12, .bool is), (13, .string (bs (tails (s.data.take k)))), (14, .int .i64 (k : Nat))]) (fun _ => (b10, Obj.cells #[.int .u8 code, .slice (some ⟨b, 0, none⟩) [s].length c1, .slice a2 soa.length c2] 42 (0, 0)) :: (B2 ++ ([(b, Obj.cells cur 60 (0, 0))] ++ (N ++ (X ++ L))))) (fun k => s.data.length - k) 0 (Nat.zero_le _) ?_ (fun w h => h) ?_
        (repeat (first | exact trivial | refine ⟨rfl, ?_⟩))
        rintro k hk
        dsimp only
        have mb' : (b, Obj.cells cur 60 (0, 0)) ∈ B2 ++ ([(b, Obj.cells cur 60 (0, 0))] ++ (N ++ (X ++ L))) := by simp
        have htl := tails_len 1000 (s.data.take k) fun d hd => (hd2 d (List.mem_of_mem_take hd)).2
        rw [List.length_take] at htl
        by_cases hkl : k < s.data.length
        · obtain ⟨d, hx⟩ : ∃ d, s.data[k]? = some d := ⟨_, List.getElem?_eq_getElem hkl⟩
          have htk : tails (s.data.take (k + 1)) = tails (s.data.take k) ++ d.drop 3 := by rw [List.take_add_one, hx]; exact tails_snoc _ _
          have hdl := hd2 d (List.mem_of_getElem? hx)
          obtain ⟨_, ks1, ks2, hxd'⟩ := strs_cut hxd
          rcases hxd' with h0 | ⟨b2, o2, C2, t2, f2, rfl, m2, q2⟩
          · rw [h0] at hkl; simp at hkl
          have r2 := q2 k d hx
          have m2' : (b2, Obj.cells C2 t2 f2) ∈ B2 ++ ([(b, Obj.cells cur 60 (0, 0))] ++ (N ++ (X ++ L))) := by simp [m2]
          have hdr : (d.drop (3 : Int).toNat).length ≤ 1000 := by rw [List.length_drop]; omega
          repeat (first | with_reducible refine T_seq ?_ | with_reducible refine T_block ?_ | with_reducible refine T_region ?_ | with_reducible refine TL_nil ?_ | with_reducible refine TQ_then ?_ | with_reducible refine TQ_block ?_ | with_reducible refine T_skip ?_ | refine TL_q (op_move rfl) rfl ?_ | refine TL_q (op_assign rfl) rfl ?_ | (refine' TL_q (op_bin rfl rfl ?_) rfl ?_; rotate_left 1; (· first | exact bin_add ⟨by omega, by omega⟩ | exact bin_lss | exact sbin_add (by (omega)))) | refine TL_q (op_len_slice rfl Try.underlying58) rfl ?_ | (refine' TL_q (op_idxI ety_40 rfl rfl ?_ ?_) rfl ?_; (· omega); (· omega)) | (refine' TL_q (op_idx ety_58 rfl rfl ?_) rfl ?_; (· omega)) | (refine' TL_q (op_slice_from rfl rfl Try.underlying9 ?_ ?_) rfl ?_; (· omega); (· omega)) | refine TL_q (op_fld rfl fld_42_1) rfl ?_ | refine TL_q (op_fld rfl fld_60_4) rfl ?_ | (refine' TL_q (op_ld rfl pl_5 ?_ ?_) rfl ?_; rotate_left 4; (· repeat (first | assumption | exact List.mem_cons_self | apply List.mem_cons_of_mem)); (· first | assumption | rfl)) | (refine T_yes rfl ?_ ?_; (· (exact dT (by (omega))))))
          refine TQ_roundS (k + 1) hkl ?_ (fun w h => h) (by omega)
          rw [htk]
          (repeat (first | exact trivial | refine ⟨rfl, ?_⟩))
        · have hke : k = s.data.length := by omega
          subst hke
          rw [List.take_length] at htl ⊢
          repeat (first | with_reducible refine T_seq ?_ | with_reducible refine T_region ?_ | with_reducible refine TL_nil ?_ | with_reducible refine TQ_then ?_ | with_reducible refine T_exit ?_ | with_reducible refine T_ret ?_ | with_reducible refine TQ_then_exit ?_ | with_reducible refine TQ_block_exit ?_ | refine TL_q (op_move rfl) rfl ?_ | refine TL_q (op_assign rfl) rfl ?_ | (refine' TL_q (op_bin rfl rfl ?_) rfl ?_; rotate_left 1; (· (exact bin_lss))) | refine TL_q (op_len_slice rfl Try.underlying58) rfl ?_ | (refine' TL_q (op_idxI ety_40 rfl rfl ?_ ?_) rfl ?_; (· omega); (· omega)) | refine TL_q (op_fld rfl fld_42_0) rfl ?_ | refine TL_q (op_fld rfl fld_42_1) rfl ?_ | refine TL_q (op_fld rfl fld_60_4) rfl ?_ | (refine' TL_q (op_ld rfl pl_5 ?_ ?_) rfl ?_; rotate_left 4; (· repeat (first | assumption | exact List.mem_cons_self | apply List.mem_cons_of_mem)); (· first | assumption | rfl)) | (refine T_no rfl ?_ ?_; (· (exact dF (by (omega))))))
          refine TQ_cnt (L' := ((b10, Obj.cells #[.int .u8 code, .slice (some ⟨b, 0, none⟩) [s].length c1, .slice a2 soa.length c2] 42 (0, 0)) :: (B2 ++ ([(b, Obj.cells cur 60 (0, 0))] ++ (N ++ X)))) ++ L) ?_ (by intro p; (try simp only [cnt_append, cnt_cons, cnt_nil]) <;> omega)
          refine TQ_ret4 4 5 6 7 _ _ _ _ rfl rfl rfl rfl rfl ?_
          exact ⟨rfl, _, rfl⟩
      · have h1' : ¬ ((sets.length : Nat) : Int) = 1 := by omega
        repeat (first | with_reducible refine T_seq ?_ | with_reducible refine T_region ?_ | with_reducible refine TL_nil ?_ | with_reducible refine TQ_then ?_ | with_reducible refine T_ret ?_ | with_reducible refine TQ_then_ret ?_ | refine TL_q (op_move rfl) rfl ?_ | refine TL_q (op_assign rfl) rfl ?_ | (refine' TL_q (op_bin rfl rfl ?_) rfl ?_; rotate_left 1; (· (exact bin_neq))) | refine TL_q (op_len_slice rfl Try.underlying40) rfl ?_ | refine TL_q (op_fld rfl fld_42_0) rfl ?_ | refine TL_q (op_fld rfl fld_42_1) rfl ?_ | (refine' TL_q (op_ld rfl pl_5 ?_ ?_) rfl ?_; rotate_left 4; (· repeat ((exact List.mem_cons_self))); (· (rfl))) | (refine T_yes rfl ?_ ?_; (· (exact nT (by (assumption))))))
        refine TQ_cnt (L' := ((b10, Obj.cells #[.int .u8 code, .slice a1 sets.length c1, .slice a2 soa.length c2] 42 (0, 0)) :: (B2 ++ (B1 ++ (N ++ X)))) ++ L) ?_ (by intro p; (try simp only [cnt_append, cnt_cons, cnt_nil]) <;> omega)
        refine TQ_ret4 4 5 6 7 _ _ _ _ rfl rfl rfl rfl rfl ?_
        refine ⟨?_, _, rfl⟩
        have hnm : (match sets with | [s] => tails s.data | _ => [110, 111, 110, 101]) = [110, 111, 110, 101] := by
          match sets, h1 with
          | [], _ => rfl
          | [s], h => exact absurd rfl h
          | s :: t :: r, _ => rfl
        rw [hnm]
        rfl
end Go.Proofs.Ytdflhdfapnhjjaa
namespace Go.Proofs.Ytdflhdfapnhjjaa
open Go.RowKit
open Vd (RSet Vdt Vote Rec Quest Piece Ballot Said)
set_option linter.unusedVariables false
set_option linter.unusedSimpArgs false
--auto
/-! the examples, by the document's words -/
def toldU (q : Quest) (l : List Vd.Msg) : Int × Vd.Bytes × Int × Bool :=
  ((Vd.union q (Vd.votesOf q (saidsOf l))).1.code, match (Vd.union q (Vd.votesOf q (saidsOf l))).1.sets with | [s] => tails s.data | _ => [110, 111, 110, 101], (Vd.union q (Vd.votesOf q (saidsOf l))).2.1, (Vd.union q (Vd.votesOf q (saidsOf l))).2.2)
theorem saids_small {l : List Vd.Msg} (h : ∀ m ∈ l, MsgSmall m) : ∀ s ∈ saidsOf l, MsgSmall s.m := fun s hs => by
  obtain ⟨p, hp, rfl⟩ := List.mem_map.1 hs
  exact h _ (List.fst_mem_of_mem_zipIdx hp)
theorem union_saids (q : Quest) {l : List Vd.Msg} (h : ∀ m ∈ l, MsgSmall m) : unionP q (Vd.votesOf q (saidsOf l)) = Vd.union q (Vd.votesOf q (saidsOf l)) := unionP_law q _ fun v hv => ((votesOf_sm q _ (saids_small h)).2.1 v hv).2
theorem toldP_eq (q : Quest) {l : List Vd.Msg} (h : ∀ m ∈ l, MsgSmall m) : toldP q l = toldU q l := by unfold toldP toldU; rw [union_saids q h]; try rfl
def FitsU (q : Quest) (l : List Vd.Msg) : Bool := (Vd.union q (Vd.votesOf q (saidsOf l))).1.sets.all fun s => decide (s.data.length ≤ 1000) && s.data.all fun d => decide (3 ≤ d.length) && decide (d.length ≤ 1000)
theorem fits_eq (q : Quest) {l : List Vd.Msg} (h : ∀ m ∈ l, MsgSmall m) (hf : FitsU q l = true) : ToldFits q l := by
  unfold ToldFits
  rw [union_saids q h]
  intro s hs
  have := List.all_eq_true.1 hf s hs
  simp only [Bool.and_eq_true, decide_eq_true_eq, List.all_eq_true] at this
  exact this
def smallB (m : Vd.Msg) : Bool := decide (m.answers.length ≤ 420) && (m.answers.all fun x => decide (x.name.length ≤ 5000) && decide (x.data.length ≤ 5000)) && decide (m.auth.length ≤ 420) && (m.auth.all fun x => decide (x.name.length ≤ 5000) && decide (x.data.length ≤ 5000))
theorem small_of {l : List Vd.Msg} (h : l.all smallB = true) : ∀ m ∈ l, MsgSmall m := fun m hm => by
  have := List.all_eq_true.1 h m hm
  simp only [smallB, Bool.and_eq_true, decide_eq_true_eq, List.all_eq_true] at this
  exact ⟨⟨this.1.1.1, this.1.1.2⟩, this.1.2, this.2⟩
def qA : Quest := ⟨[1, 97, 0], 1, 1⟩
def farM : Vd.Msg := ⟨0, [⟨[1, 99, 0], 1, 1, 9, [10, 0, 0, 2]⟩, ⟨[1, 97, 0], 5, 1, 9, [1, 99, 0]⟩], []⟩
def noM : Vd.Msg := ⟨3, [], []⟩
def voidM : Vd.Msg := ⟨0, [], []⟩
theorem ex1s : [saysM [1, 97, 0] 1, farM].all smallB = true := by decide +kernel
theorem ex1f : FitsU qA [saysM [1, 97, 0] 1, farM] = true := by decide +kernel
theorem ex1 : toldU qA [saysM [1, 97, 0] 1, farM] = (0, [1, 2], 19, true) := by decide +kernel
theorem ex2s : [voidM, noM].all smallB = true := by decide +kernel
theorem ex2f : FitsU qA [voidM, noM] = true := by decide +kernel
theorem ex2 : toldU qA [voidM, noM] = (0, [110, 111, 110, 101], 19, true) := by decide +kernel
theorem ex3s : [noM, saysM [1, 97, 0] 1].all smallB = true := by decide +kernel
theorem ex3f : FitsU qA [noM, saysM [1, 97, 0] 1] = true := by decide +kernel
theorem ex3 : toldU qA [noM, saysM [1, 97, 0] 1] = (0, [1], 19, true) := by decide +kernel
end Go.Proofs.Ytdflhdfapnhjjaa
namespace Go.Proofs.Ytdflhdfapnhjjaa
open Go.RowKit
open Vd (RSet Vdt Vote Rec Quest Piece Ballot Said)
set_option linter.unusedVariables false
set_option linter.unusedSimpArgs false
--auto
theorem Laid.sliceR {α : Type} {r : Rp α} {sz : Nat} {K L : Blocks} {l : List α} {xs : List Value} {b c : Nat} {te : TypeId} {fr : Nat × Nat} (h : Laid r sz K xs l) (hm : (b, Obj.cells xs.toArray te fr) ∈ L) (hc : l.length ≤ c ∧ c ≤ maxLen) : sliceR sz (fun _ => r K) L [.slice (some ⟨b, 0, none⟩) l.length c] l := by
  refine ⟨_, c, rfl, hc.1, hc.2, Or.inr ⟨b, 0, _, te, fr, rfl, hm, fun i x hx => ?_⟩⟩
  obtain ⟨cs, h1, h2, h3⟩ := h.at hx
  refine ⟨cs, h1, h2, fun j v hj => ?_⟩
  rw [Nat.zero_add, List.getElem?_toArray]
  exact h3 j v hj
/-- Two messages in a row of one's own. -/
theorem msgs2 {K L : Blocks} {c1 c2 : List Value} {m1 m2 : Vd.Msg} {b : Nat} {te : TypeId} {fr : Nat × Nat} (h1 : msgR K c1 m1) (h2 : msgR K c2 m2) (hm : (b, Obj.cells (c1 ++ c2).toArray te fr) ∈ L) : sliceR 21 (fun _ => msgR K) L [.slice (some ⟨b, 0, none⟩) 2 2] [m1, m2] :=
  (Laid.append (Laid.one h1.len h1) (Laid.one h2.len h2)).sliceR (l := [m1, m2]) hm ⟨Nat.le_refl _, by unfold maxLen; simp⟩
theorem msgC_len {code : Int} {a : Option Addr} {n c : Nat} : (msgC code a n c).length = 21 := rfl
theorem lit2 {t e : TypeId} {bytes : Nat} {z : Value} (E : ElemTy Try.prog t e 21 bytes z) {c1 c2 : List Value} (h1 : c1.length = 21) (h2 : c2.length = 21) : RowLit Try.prog t 2 [(0, .agg c1.toArray), (1, .agg c2.toArray)] e (c1 ++ c2).toArray :=
  rowLitG E [.agg c1.toArray, .agg c2.toArray] rfl (fun v hv => by
    simp only [List.mem_cons, List.not_mem_nil, or_false] at hv
    rcases hv with rfl | rfl
    · simpa [Value.cells] using h1
    · simpa [Value.cells] using h2) (by decide) (by simp [Value.cells])
theorem qA_is {L : Blocks} : questR L [.string (bs qA.name), .int .u16 qA.kind, .int .u16 qA.cls] qA := ⟨rfl, by decide, by decide, by decide⟩
variable {G : World} {L : Blocks}
theorem none_is {K : Blocks} {code : Int} (hc : 0 ≤ code ∧ code ≤ 255) : msgR K (msgC code none 0 0) ⟨code, [], []⟩ := msgC.is (l := []) sliceR.nil hc
theorem told_E {K : Blocks} (v : Value) (l : List Vd.Msg) {c t : Int} {s : Vd.Bytes} {b : Bool} (hKL : ∀ p ∈ K, p ∈ L) (hl : sliceR 21 (fun _ => msgR K) L [v] l) (hn : l.length ≤ 20) (hs : l.all smallB = true) (hf : FitsU qA l = true) (he : toldU qA l = (c, s, t, b)) :
    Spec Try.prog G 16 #[.agg #[.string (bs [1, 97, 0]), .int .u16 1, .int .u16 1], v] L fun u M => u = .tuple #[.int .u8 c, .string (bs s), .int .u32 t, .bool b] ∧ ∃ X, M = X ++ L := by
  have := told_S (G := G) v qA l hKL hl (by decide) (by decide) (by decide) hn (small_of hs) (fits_eq qA (small_of hs) hf)
  rw [toldP_eq qA (small_of hs), he] at this
  exact this
set_option maxRecDepth 100000 in
set_option maxHeartbeats 4000000 in
theorem awake23_S : Spec Try.prog G 14 #[] L fun u M => u = .bool true ∧ M = L := by
  have g0 : (#[.string (bs [1, 97, 0]), .int .u16 1, .int .u16 1] : Array Value)[0 + 0]? = some (.string (bs [1, 97, 0])) := rfl
  refine Spec_of (n := 97) Try.func14 rfl rfl rfl ?_
  repeat (first | with_reducible refine T_seq ?_ | with_reducible refine T_region ?_ | with_reducible refine TL_nil ?_ | with_reducible refine TQ_then ?_ | refine TL_q (op_assign rfl) rfl ?_)
  refine TL_op (op_call hb_15 rfl a_S) rfl ?_
  repeat (first | with_reducible refine T_seq ?_ | with_reducible refine T_region ?_ | with_reducible refine TL_nil ?_ | with_reducible refine TQ_then ?_ | (refine TL_stAll rfl rfl st_34 rfl rfl rfl ?_) | (refine TL_new (op_alloc (C := #[(.string (bs [])), (.int .u16 0), (.int .u16 0)]) zero_34 rfl) rfl ?_; intro bNew))
  obtain ⟨b1, hb1⟩ : ∃ b, bNew = b := ⟨_, rfl⟩
  rw [hb1]
  clear hb1 bNew
  refine TL_opT (op_call hb_17 rfl (says_S [1, 99, 0] 2 2 rfl (by decide))) rfl ?_
  rintro _ _ ⟨a1, B1, X1, rfl, hB1, rfl⟩
  repeat (first | with_reducible refine T_seq ?_ | with_reducible refine T_region ?_ | with_reducible refine TL_nil ?_ | with_reducible refine TQ_then ?_ | refine TL_q (op_fld rfl fld_32_2) rfl ?_ | refine TL_q (op_fld rfl fld_34_0) rfl ?_ | (refine' TL_q (op_ld rfl pl_9 ?_ ?_) rfl ?_; rotate_left 4; (· repeat (first | exact List.mem_cons_self | apply List.mem_cons_of_mem | apply List.mem_append_right)); (· first | assumption | rfl)) | (refine TL_stAll rfl rfl st_32 rfl rfl rfl ?_) | (refine TL_new (op_alloc (C := #[(.int .u16 0), (.bool false), (.int .u8 0), (.bool false), (.bool false), (.bool false), (.bool false), (.bool false), (.bool false), (.bool false), (.int .u8 0), (.slice none 0 0), (.slice none 0 0), (.slice none 0 0), (.slice none 0 0), (.bool false), (.int .u16 0), (.int .u8 0), (.int .u8 0), (.int .u16 0), (.slice none 0 0)]) zero_32 rfl) rfl ?_; intro bNew) | refine TL_q (op_build rfl (bl_112_0_1_2_3_4 _ _ _ _ _)) rfl ?_ | (refine TL_new (op_litN ety_27 rfl rfl (by decide)) rfl ?_; intro bLit))
  obtain ⟨b2, hb2⟩ : ∃ b, bNew = b := ⟨_, rfl⟩
  rw [hb2]
  clear hb2 bNew
  refine TL_cnt (L' := (bLit, Obj.cells #[.string (bs [1, 97, 0]), .int .u16 5, .int .u16 1, .int .u32 9, .string ⟨#[1, 99, 0]⟩] 112 (0, 0)) :: (B1 ++ ((b2, Obj.cells (msgC 0 a1 1 1).toArray 32 (0, 0)) :: (X1 ++ ((b1, Obj.cells #[.string (bs [1, 97, 0]), .int .u16 1, .int .u16 1] 34 (0, 0)) :: L))))) ?_ (by intro p; (try simp only [cnt_append, cnt_cons, cnt_nil]) <;> omega)
  refine TL_opT (op_push (L0 := []) (cs := [.string (bs [1, 97, 0]), .int .u16 5, .int .u16 1, .int .u32 9, .string (bs [1, 99, 0])]) (y := ⟨[1, 97, 0], 5, 1, 9, [1, 99, 0]⟩) ety_27 rfl rfl hB1 rfl rec_one ⟨rfl, by decide, by decide, by decide, by decide, by decide⟩ (by decide) (by decide)) rfl ?_
  rintro _ _ ⟨a2, c2, B2, rfl, hB2, rfl⟩
  refine TL_cnt (L' := (b2, Obj.cells (msgC 0 a1 1 1).toArray 32 (0, 0)) :: (B2 ++ (X1 ++ ((b1, Obj.cells #[.string (bs [1, 97, 0]), .int .u16 1, .int .u16 1] 34 (0, 0)) :: L)))) ?_ (by intro p; (try simp only [cnt_append, cnt_cons, cnt_nil]) <;> omega)
  repeat ((refine TL_q (op_fld rfl fld_32_2) rfl ?_))
  refine TL_st (C' := (msgC 0 a2 2 c2).toArray) rfl rfl one_27 rfl rfl rfl ?_
  repeat (first | with_reducible refine T_seq ?_ | with_reducible refine T_region ?_ | with_reducible refine TL_nil ?_ | with_reducible refine TQ_then ?_ | (refine TL_stAll rfl rfl st_32 rfl rfl rfl ?_) | (refine TL_new (op_alloc (C := #[(.int .u16 0), (.bool false), (.int .u8 0), (.bool false), (.bool false), (.bool false), (.bool false), (.bool false), (.bool false), (.bool false), (.int .u8 0), (.slice none 0 0), (.slice none 0 0), (.slice none 0 0), (.slice none 0 0), (.bool false), (.int .u16 0), (.int .u8 0), (.int .u8 0), (.int .u16 0), (.slice none 0 0)]) zero_32 rfl) rfl ?_; intro bNew) | refine TL_q (op_build rfl (bl_25_10 _)) rfl ?_ | refine TL_q (op_build rfl (bl_32_0 _ _ _ _ _ _ _ _ _ _ _)) rfl ?_)
  obtain ⟨b3, hb3⟩ : ∃ b, bNew = b := ⟨_, rfl⟩
  rw [hb3]
  clear hb3 bNew
  refine T_heap (L' := (b3, Obj.cells (msgC 3 none 0 0).toArray 32 (0, 0)) :: ((b2, Obj.cells (msgC 0 a2 2 c2).toArray 32 (0, 0)) :: (B2 ++ (X1 ++ ((b1, Obj.cells #[.string (bs [1, 97, 0]), .int .u16 1, .int .u16 1] 34 (0, 0)) :: L))))) (fun w h => h) ?_
  have hB2' : sliceR 5 recR B2 [.slice a2 farM.answers.length c2] farM.answers := hB2.sliceR mono_rec (by simp) (fun p h => h)
  have hfar : ∀ {D : Blocks}, (∀ p ∈ B2, p ∈ D) → msgR D (msgC 0 a2 2 c2) farM := fun hD => msgC.is (l := farM.answers) (mono_slice mono_rec _ _ _ _ hD hB2') (by decide)
  have hKm : ∀ z ∈ [(b1, Obj.cells #[.string (bs [1, 97, 0]), .int .u16 1, .int .u16 1] 34 (0, 0)), (b2, Obj.cells (msgC 0 a2 2 c2).toArray 32 (0, 0))], z ∈ (b3, Obj.cells (msgC 3 none 0 0).toArray 32 (0, 0)) :: ((b2, Obj.cells (msgC 0 a2 2 c2).toArray 32 (0, 0)) :: (B2 ++ (X1 ++ ((b1, Obj.cells #[.string (bs [1, 97, 0]), .int .u16 1, .int .u16 1] 34 (0, 0)) :: L)))) := by
    intro z hz
    simp only [List.mem_cons, List.not_mem_nil, or_false] at hz
    rcases hz with rfl | rfl <;> simp
  refine T_draw follows_mixed ([(b1, Obj.cells #[.string (bs [1, 97, 0]), .int .u16 1, .int .u16 1] 34 (0, 0)), (b2, Obj.cells (msgC 0 a2 2 c2).toArray 32 (0, 0))]) [] ?_
  (refine' TA_take 0 rfl rfl (by kernel_rfl) (quiet_q (op_ldAll rfl st_34 ?_ ?_)) ?_ ?_; rotate_left 3; (· repeat ((exact List.mem_cons_self))); (· (rfl)); (· (assumption)))
  (refine' TA_take 1 rfl rfl (by kernel_rfl) (quiet_q (op_fld rfl fld_34_0)) ?_ ?_; (· (assumption)))
  (refine' TA_take 2 rfl rfl (by kernel_rfl) (quiet_q (op_ld rfl pl_9 ?_ ?_)) ?_ ?_; rotate_left 4; (· repeat ((exact List.mem_cons_self))); (· (assumption)); (· (assumption)))
  (refine' TA_take 4 rfl rfl (by kernel_rfl) (quiet_q (op_ldAll rfl st_32 ?_ ?_)) ?_ ?_; rotate_left 3; (· repeat (first | exact List.mem_cons_self | apply List.mem_cons_of_mem)); (· (rfl)); (· (assumption)))
  refine TA_oneD 3 (by kernel_rfl) rfl rfl rfl rfl (op_call hb_17 rfl (says_S [1, 97, 0] 1 1 rfl (by decide))) ?_
  rintro _ _ ⟨a3, B3, X3, rfl, hB3, rfl⟩
  refine ⟨Or.inr (by (exact (fun z hz => mem_of_cnt (by intro p; (try simp only [cnt_append, cnt_cons, cnt_nil]) <;> omega) z (hKm z hz)))), ?_⟩
  refine TA_oneD 5 (by kernel_rfl) rfl rfl rfl rfl (op_buildSlice (C := (msgC 0 a3 1 1 ++ msgC 0 a2 2 c2).toArray) (vs := [(0, .agg (msgC 0 a3 1 1).toArray), (1, .agg (msgC 0 a2 2 c2).toArray)]) rfl (lit2 ety_113 msgC_len msgC_len)) ?_
  rintro _ _ ⟨bM, rfl, rfl⟩
  refine ⟨Or.inr (by (exact (fun z hz => mem_of_cnt (by intro p; (try simp only [cnt_append, cnt_cons, cnt_nil]) <;> omega) z (hKm z hz)))), ?_⟩
  refine TA_oneD 6 (by kernel_rfl) rfl rfl rfl rfl (op_call hb_16 rfl (told_E (K := B3 ++ B2) _ [saysM [1, 97, 0] 1, farM] (mem_of_cnt (by intro p; (try simp only [cnt_append, cnt_cons, cnt_nil]) <;> omega)) (msgs2 (msgC.is (l := (saysM [1, 97, 0] 1).answers) (hB3.sliceR mono_rec (by simp) (mem_of_cnt (by intro p; (try simp only [cnt_append, cnt_cons, cnt_nil]) <;> omega))) (by decide)) (hfar (mem_of_cnt (by intro p; (try simp only [cnt_append, cnt_cons, cnt_nil]) <;> omega))) (List.mem_cons_self ..)) (by decide) ex1s ex1f ex1)) ?_
  rintro _ _ ⟨rfl, X5, rfl⟩
  refine ⟨Or.inr (by (exact (fun z hz => mem_of_cnt (by intro p; (try simp only [cnt_append, cnt_cons, cnt_nil]) <;> omega) z (hKm z hz)))), ?_⟩
  (refine' TA_take 7 rfl rfl (by kernel_rfl) (quiet_q (op_move rfl)) ?_ ?_; (· (intro p hp; grind)))
  (refine' TA_take 8 rfl rfl (by kernel_rfl) (quiet_q (op_extract rfl rfl)) ?_ ?_; (· (intro p hp; grind)))
  (refine' TA_take 9 rfl rfl (by kernel_rfl) (quiet_q (op_extract rfl rfl)) ?_ ?_; (· (intro p hp; grind)))
  (refine' TA_take 10 rfl rfl (by kernel_rfl) (quiet_q (op_extract rfl rfl)) ?_ ?_; (· (intro p hp; grind)))
  (refine' TA_take 11 rfl rfl (by kernel_rfl) (quiet_q (op_extract rfl rfl)) ?_ ?_; (· (intro p hp; grind)))
  (refine' TA_take 12 rfl rfl (by kernel_rfl) (quiet_q (op_assign rfl)) ?_ ?_; (· (intro p hp; grind)))
  (refine' TA_take 13 rfl rfl (by kernel_rfl) (quiet_q (op_assign rfl)) ?_ ?_; (· (intro p hp; grind)))
  (refine' TA_take 14 rfl rfl (by kernel_rfl) (quiet_q (op_assign rfl)) ?_ ?_; (· (intro p hp; grind)))
  (refine' TA_take 15 rfl rfl (by kernel_rfl) (quiet_q (op_assign rfl)) ?_ ?_; (· (intro p hp; grind)))
  refine TA_done (by kernel_rfl) ?_
  repeat (first | with_reducible refine T_seq ?_ | with_reducible refine T_region ?_ | with_reducible refine TQ_then ?_ | (refine' TL_q (op_ldAll rfl st_32 ?_ ?_) rfl ?_; rotate_left 3; (· repeat (first | exact List.mem_cons_self | apply List.mem_cons_of_mem | apply List.mem_append_right)); (· (rfl))) | (refine' TL_q (op_ldAll rfl st_34 ?_ ?_) rfl ?_; rotate_left 3; (· repeat (first | exact List.mem_cons_self | apply List.mem_cons_of_mem | apply List.mem_append_right)); (· (rfl))) | refine TL_q (op_build rfl (bl_32_ )) rfl ?_)
  refine TL_new (op_buildSlice (C := (msgC 0 none 0 0 ++ msgC 3 none 0 0).toArray) (vs := [(0, .agg (msgC 0 none 0 0).toArray), (1, .agg (msgC 3 none 0 0).toArray)]) rfl (lit2 ety_113 msgC_len msgC_len)) rfl ?_
  intro bN
  refine TL_opT (op_call hb_16 rfl (told_E (K := []) _ [voidM, noM] (by simp) (msgs2 (none_is (by decide)) (none_is (by decide)) (List.mem_cons_self ..)) (by decide) ex2s ex2f ex2)) rfl ?_
  rintro _ _ ⟨rfl, X6, rfl⟩
  repeat (first | with_reducible refine T_seq ?_ | with_reducible refine TL_nil ?_ | with_reducible refine TQ_then ?_ | refine TL_q (op_move rfl) rfl ?_ | refine TL_q (op_assign rfl) rfl ?_ | refine TL_q (op_extract rfl rfl) rfl ?_)
  refine T_cnt (L' := (b1, Obj.cells #[.string (bs [1, 97, 0]), .int .u16 1, .int .u16 1] 34 (0, 0)) :: ((b3, Obj.cells (msgC 3 none 0 0).toArray 32 (0, 0)) :: L)) ?_ (by intro p; (try simp only [cnt_append, cnt_cons, cnt_nil]) <;> omega)
  have hKm : ∀ z ∈ [(b1, Obj.cells #[.string (bs [1, 97, 0]), .int .u16 1, .int .u16 1] 34 (0, 0)), (b3, Obj.cells (msgC 3 none 0 0).toArray 32 (0, 0))], z ∈ (b1, Obj.cells #[.string (bs [1, 97, 0]), .int .u16 1, .int .u16 1] 34 (0, 0)) :: ((b3, Obj.cells (msgC 3 none 0 0).toArray 32 (0, 0)) :: L) := by
    intro z hz
    simp only [List.mem_cons, List.not_mem_nil, or_false] at hz
    rcases hz with rfl | rfl <;> simp
  refine T_draw follows_mixed ([(b1, Obj.cells #[.string (bs [1, 97, 0]), .int .u16 1, .int .u16 1] 34 (0, 0)), (b3, Obj.cells (msgC 3 none 0 0).toArray 32 (0, 0))]) [] ?_
  (refine' TA_take 0 rfl rfl (by kernel_rfl) (quiet_q (op_ldAll rfl st_34 ?_ ?_)) ?_ ?_; rotate_left 3; (· repeat ((exact List.mem_cons_self))); (· (rfl)); (· (assumption)))
  (refine' TA_take 1 rfl rfl (by kernel_rfl) (quiet_q (op_ldAll rfl st_32 ?_ ?_)) ?_ ?_; rotate_left 3; (· repeat (first | exact List.mem_cons_self | apply List.mem_cons_of_mem)); (· (rfl)); (· (assumption)))
  (refine' TA_take 2 rfl rfl (by kernel_rfl) (quiet_q (op_fld rfl fld_34_0)) ?_ ?_; (· (assumption)))
  (refine' TA_take 3 rfl rfl (by kernel_rfl) (quiet_q (op_ld rfl pl_9 ?_ ?_)) ?_ ?_; rotate_left 4; (· repeat ((exact List.mem_cons_self))); (· (assumption)); (· (assumption)))
  refine TA_oneD 4 (by kernel_rfl) rfl rfl rfl rfl (op_call hb_17 rfl (says_S [1, 97, 0] 1 1 rfl (by decide))) ?_
  rintro _ _ ⟨a4, B4, X4, rfl, hB4, rfl⟩
  refine ⟨Or.inr (by (exact (fun z hz => mem_of_cnt (by intro p; (try simp only [cnt_append, cnt_cons, cnt_nil]) <;> omega) z (hKm z hz)))), ?_⟩
  refine TA_oneD 5 (by kernel_rfl) rfl rfl rfl rfl (op_buildSlice (C := (msgC 3 none 0 0 ++ msgC 0 a4 1 1).toArray) (vs := [(0, .agg (msgC 3 none 0 0).toArray), (1, .agg (msgC 0 a4 1 1).toArray)]) rfl (lit2 ety_113 msgC_len msgC_len)) ?_
  rintro _ _ ⟨bM, rfl, rfl⟩
  refine ⟨Or.inr (by (exact (fun z hz => mem_of_cnt (by intro p; (try simp only [cnt_append, cnt_cons, cnt_nil]) <;> omega) z (hKm z hz)))), ?_⟩
  refine TA_oneD 6 (by kernel_rfl) rfl rfl rfl rfl (op_call hb_16 rfl (told_E (K := B4) _ [noM, saysM [1, 97, 0] 1] (mem_of_cnt (by intro p; (try simp only [cnt_append, cnt_cons, cnt_nil]) <;> omega)) (msgs2 (none_is (by decide)) (msgC.is (l := (saysM [1, 97, 0] 1).answers) (hB4.sliceR mono_rec (by simp) (mem_of_cnt (by intro p; (try simp only [cnt_append, cnt_cons, cnt_nil]) <;> omega))) (by decide)) (List.mem_cons_self ..)) (by decide) ex3s ex3f ex3)) ?_
  rintro _ _ ⟨rfl, X7, rfl⟩
  refine ⟨Or.inr (by (exact (fun z hz => mem_of_cnt (by intro p; (try simp only [cnt_append, cnt_cons, cnt_nil]) <;> omega) z (hKm z hz)))), ?_⟩
  (refine' TA_take 7 rfl rfl (by kernel_rfl) (quiet_q (op_move rfl)) ?_ ?_; (· (intro p hp; grind)))
  (refine' TA_take 8 rfl rfl (by kernel_rfl) (quiet_q (op_extract rfl rfl)) ?_ ?_; (· (intro p hp; grind)))
  (refine' TA_take 9 rfl rfl (by kernel_rfl) (quiet_q (op_extract rfl rfl)) ?_ ?_; (· (intro p hp; grind)))
  (refine' TA_take 10 rfl rfl (by kernel_rfl) (quiet_q (op_extract rfl rfl)) ?_ ?_; (· (intro p hp; grind)))
  (refine' TA_take 11 rfl rfl (by kernel_rfl) (quiet_q (op_extract rfl rfl)) ?_ ?_; (· (intro p hp; grind)))
  (refine' TA_take 12 rfl rfl (by kernel_rfl) (quiet_q (op_assign rfl)) ?_ ?_; (· (intro p hp; grind)))
  (refine' TA_take 13 rfl rfl (by kernel_rfl) (quiet_q (op_assign rfl)) ?_ ?_; (· (intro p hp; grind)))
  (refine' TA_take 14 rfl rfl (by kernel_rfl) (quiet_q (op_assign rfl)) ?_ ?_; (· (intro p hp; grind)))
  (refine' TA_take 15 rfl rfl (by kernel_rfl) (quiet_q (op_assign rfl)) ?_ ?_; (· (intro p hp; grind)))
  refine TA_done (by kernel_rfl) ?_
  repeat (first | with_reducible refine T_seq ?_ | with_reducible refine T_region ?_ | with_reducible refine TL_nil ?_ | with_reducible refine TQ_then ?_ | with_reducible refine T_ret ?_ | refine TL_q (op_move rfl) rfl ?_ | refine TL_q (op_assign rfl) rfl ?_ | (refine' TL_q (op_bin rfl rfl ?_) rfl ?_; rotate_left 1; (· (exact bin_eql))) | (refine' TL_q (op_pickT rfl ?_ rfl) rfl ?_; (· first | with_reducible rfl | exact Bool.not_false)) | (refine TL_gpre rfl rfl ?_ ?_; (· first | with_reducible rfl | exact Bool.not_false)) | refine TL_gq2 (op_move rfl) rfl ?_ | (refine' TL_gq2 (op_bin rfl rfl ?_) rfl ?_; rotate_left 1; (· first | exact bin_eql | exact sbin_eql)))
  refine TQ_cnt (L' := L) ?_ (by intro p; (try simp only [cnt_append, cnt_cons, cnt_nil]) <;> omega)
  refine TQ_ret1 0 _ rfl rfl ?_
  exact ⟨rfl, rfl⟩
end Go.Proofs.Ytdflhdfapnhjjaa
namespace Go.Proofs.Ytdflhdfapnhjjaa
open Go.ChangeShapes Go.WideShapes Go.ChangeAt Go.RowKit
open Vd (RSet Vdt Vote Rec Quest Piece Ballot Said)
set_option linter.unusedVariables false
set_option linter.unusedSimpArgs false
theorem own : ownKnob Try.prog.godebug = none := by kernel_rfl
theorem laidOut : laidOutB Try.prog = true := by kernel_rfl
section
variable {H : Type} {enc : TypeId × Value → H} {W : World} {v : Value} {d : DataW H} {p : List MemPlace} {base : Nat}
theorem opens_any {t e : TypeId} (hu : Try.prog.underlying t = some (.slice e)) : Opens enc Try.prog W t 1 (fun _ cs (a : Option Addr) => ∃ n m, cs = [.slice a n m]) := fun fuel cs x hf => by
  rcases Deep.open_slice hu hf with ⟨hcs, _⟩ | ⟨x, len, cap, m, n, D, Pl, hcs, _⟩
  · subst hcs; exact ⟨rfl, none, 0, 0, rfl⟩
  · subst hcs; exact ⟨rfl, some x, len, cap, rfl⟩
theorem bd16 {n : Int} (h : InLit .u16 n) : 0 ≤ n ∧ n ≤ 65535 := by unfold InLit Lit.wf at h; simp [IntKind.min, IntKind.max, IntKind.bits, IntKind.signed] at h; omega
theorem bd32 {n : Int} (h : InLit .u32 n) : 0 ≤ n ∧ n ≤ 4294967295 := by unfold InLit Lit.wf at h; simp [IntKind.min, IntKind.max, IntKind.bits, IntKind.signed] at h; omega
theorem bd8 {n : Int} (h : InLit .u8 n) : 0 ≤ n ∧ n ≤ 255 := by unfold InLit Lit.wf at h; simp [IntKind.min, IntKind.max, IntKind.bits, IntKind.signed] at h; omega
theorem bd64 {n : Int} (h : InLit .i64 n) : -9223372036854775808 ≤ n ∧ n ≤ 9223372036854775807 := by unfold InLit Lit.wf at h; simp [IntKind.min, IntKind.max, IntKind.bits, IntKind.signed] at h; omega

set_option maxRecDepth 100000 in
theorem opens_rec : Opens enc Try.prog W 112 5 recR := fun fuel cs x hf => by
  obtain ⟨hlen, hfs⟩ := opens_fields Try.underlying112 hf
  have hc : Try.prog.cellsOf 112 = 5 := by kernel_rfl
  rw [hc] at hlen
  have c0 : Try.prog.cellsOf 9 = 1 := by kernel_rfl
  have c1 : Try.prog.cellsOf 23 = 1 := by kernel_rfl
  have c2 : Try.prog.cellsOf 36 = 1 := by kernel_rfl
  obtain ⟨n0, y0, g0⟩ := hfs 0 _ rfl
  have g0 : DataW.trod enc Try.prog W 0 (fun _ => true) true n0 9 ((cs.drop 0).take (Try.prog.cellsOf 9)) = some y0 := g0
  rw [c0] at g0
  obtain ⟨a0, k0, w0⟩ := (opens_string Try.underlying9).at g0
  obtain ⟨n1, y1, g1⟩ := hfs 1 _ rfl
  have g1 : DataW.trod enc Try.prog W 0 (fun _ => true) true n1 23 ((cs.drop 1).take (Try.prog.cellsOf 23)) = some y1 := g1
  rw [c1] at g1
  obtain ⟨a1, k1, w1⟩ := (opens_int Try.underlying23).at g1
  obtain ⟨n2, y2, g2⟩ := hfs 2 _ rfl
  have g2 : DataW.trod enc Try.prog W 0 (fun _ => true) true n2 23 ((cs.drop 2).take (Try.prog.cellsOf 23)) = some y2 := g2
  rw [c1] at g2
  obtain ⟨a2, k2, w2⟩ := (opens_int Try.underlying23).at g2
  obtain ⟨n3, y3, g3⟩ := hfs 3 _ rfl
  have g3 : DataW.trod enc Try.prog W 0 (fun _ => true) true n3 36 ((cs.drop 3).take (Try.prog.cellsOf 36)) = some y3 := g3
  rw [c2] at g3
  obtain ⟨a3, k3, w3⟩ := (opens_int Try.underlying36).at g3
  obtain ⟨n4, y4, g4⟩ := hfs 4 _ rfl
  have g4 : DataW.trod enc Try.prog W 0 (fun _ => true) true n4 9 ((cs.drop 4).take (Try.prog.cellsOf 9)) = some y4 := g4
  rw [c0] at g4
  obtain ⟨a4, k4, w4⟩ := (opens_string Try.underlying9).at g4
  refine ⟨hlen, ⟨a0, a1, a2, a3, a4⟩, ?_⟩
  match cs, hlen with
  | [x0, x1, x2, x3, x4], _ =>
    obtain rfl : x0 = _ := by simpa using k0
    obtain rfl : x1 = _ := by simpa using k1
    obtain rfl : x2 = _ := by simpa using k2
    obtain rfl : x3 = _ := by simpa using k3
    obtain rfl : x4 = _ := by simpa using k4
    exact ⟨rfl, w0, w4, bd16 w1, bd16 w2, bd32 w3⟩
set_option maxRecDepth 100000 in
theorem opens_quest : Opens enc Try.prog W 34 3 questR := fun fuel cs x hf => by
  obtain ⟨hlen, hfs⟩ := opens_fields Try.underlying34 hf
  have hc : Try.prog.cellsOf 34 = 3 := by kernel_rfl
  rw [hc] at hlen
  have c0 : Try.prog.cellsOf 9 = 1 := by kernel_rfl
  have c1 : Try.prog.cellsOf 23 = 1 := by kernel_rfl
  obtain ⟨n0, y0, g0⟩ := hfs 0 _ rfl
  have g0 : DataW.trod enc Try.prog W 0 (fun _ => true) true n0 9 ((cs.drop 0).take (Try.prog.cellsOf 9)) = some y0 := g0
  rw [c0] at g0
  obtain ⟨a0, k0, w0⟩ := (opens_string Try.underlying9).at g0
  obtain ⟨n1, y1, g1⟩ := hfs 1 _ rfl
  have g1 : DataW.trod enc Try.prog W 0 (fun _ => true) true n1 23 ((cs.drop 1).take (Try.prog.cellsOf 23)) = some y1 := g1
  rw [c1] at g1
  obtain ⟨a1, k1, w1⟩ := (opens_int Try.underlying23).at g1
  obtain ⟨n2, y2, g2⟩ := hfs 2 _ rfl
  have g2 : DataW.trod enc Try.prog W 0 (fun _ => true) true n2 23 ((cs.drop 2).take (Try.prog.cellsOf 23)) = some y2 := g2
  rw [c1] at g2
  obtain ⟨a2, k2, w2⟩ := (opens_int Try.underlying23).at g2
  refine ⟨hlen, ⟨a0, a1, a2⟩, ?_⟩
  match cs, hlen with
  | [x0, x1, x2], _ =>
    obtain rfl : x0 = _ := by simpa using k0
    obtain rfl : x1 = _ := by simpa using k1
    obtain rfl : x2 = _ := by simpa using k2
    exact ⟨rfl, w0, bd16 w1, bd16 w2⟩
def headR : Rp Int := fun _ cs c => ∃ h0 h1 h2 h3 h4 h5 h6 h7 h8 h9, cs = [h0, h1, h2, h3, h4, h5, h6, h7, h8, h9, .int .u8 c] ∧ (0 ≤ c ∧ c ≤ 255) ∧ ∀ v ∈ cs, v.oneCell' = true
set_option maxRecDepth 100000 in
theorem opens_head : Opens enc Try.prog W 25 11 headR := fun fuel cs x hf => by
  obtain ⟨hlen, hfs⟩ := opens_fields Try.underlying25 hf
  have hc : Try.prog.cellsOf 25 = 11 := by kernel_rfl
  rw [hc] at hlen
  have c0 : Try.prog.cellsOf 23 = 1 := by kernel_rfl
  have c1 : Try.prog.cellsOf 4 = 1 := by kernel_rfl
  have c2 : Try.prog.cellsOf 5 = 1 := by kernel_rfl
  obtain ⟨n0, y0, g0⟩ := hfs 0 _ rfl
  have g0 : DataW.trod enc Try.prog W 0 (fun _ => true) true n0 23 ((cs.drop 0).take (Try.prog.cellsOf 23)) = some y0 := g0
  rw [c0] at g0
  obtain ⟨a0, k0, w0⟩ := (opens_int Try.underlying23).at g0
  obtain ⟨n1, y1, g1⟩ := hfs 1 _ rfl
  have g1 : DataW.trod enc Try.prog W 0 (fun _ => true) true n1 4 ((cs.drop 1).take (Try.prog.cellsOf 4)) = some y1 := g1
  rw [c1] at g1
  obtain ⟨a1, k1⟩ := (opens_bool Try.underlying4).at g1
  obtain ⟨n2, y2, g2⟩ := hfs 2 _ rfl
  have g2 : DataW.trod enc Try.prog W 0 (fun _ => true) true n2 5 ((cs.drop 2).take (Try.prog.cellsOf 5)) = some y2 := g2
  rw [c2] at g2
  obtain ⟨a2, k2, w2⟩ := (opens_int Try.underlying5).at g2
  obtain ⟨n3, y3, g3⟩ := hfs 3 _ rfl
  have g3 : DataW.trod enc Try.prog W 0 (fun _ => true) true n3 4 ((cs.drop 3).take (Try.prog.cellsOf 4)) = some y3 := g3
  rw [c1] at g3
  obtain ⟨a3, k3⟩ := (opens_bool Try.underlying4).at g3
  obtain ⟨n4, y4, g4⟩ := hfs 4 _ rfl
  have g4 : DataW.trod enc Try.prog W 0 (fun _ => true) true n4 4 ((cs.drop 4).take (Try.prog.cellsOf 4)) = some y4 := g4
  rw [c1] at g4
  obtain ⟨a4, k4⟩ := (opens_bool Try.underlying4).at g4
  obtain ⟨n5, y5, g5⟩ := hfs 5 _ rfl
  have g5 : DataW.trod enc Try.prog W 0 (fun _ => true) true n5 4 ((cs.drop 5).take (Try.prog.cellsOf 4)) = some y5 := g5
  rw [c1] at g5
  obtain ⟨a5, k5⟩ := (opens_bool Try.underlying4).at g5
  obtain ⟨n6, y6, g6⟩ := hfs 6 _ rfl
  have g6 : DataW.trod enc Try.prog W 0 (fun _ => true) true n6 4 ((cs.drop 6).take (Try.prog.cellsOf 4)) = some y6 := g6
  rw [c1] at g6
  obtain ⟨a6, k6⟩ := (opens_bool Try.underlying4).at g6
  obtain ⟨n7, y7, g7⟩ := hfs 7 _ rfl
  have g7 : DataW.trod enc Try.prog W 0 (fun _ => true) true n7 4 ((cs.drop 7).take (Try.prog.cellsOf 4)) = some y7 := g7
  rw [c1] at g7
  obtain ⟨a7, k7⟩ := (opens_bool Try.underlying4).at g7
  obtain ⟨n8, y8, g8⟩ := hfs 8 _ rfl
  have g8 : DataW.trod enc Try.prog W 0 (fun _ => true) true n8 4 ((cs.drop 8).take (Try.prog.cellsOf 4)) = some y8 := g8
  rw [c1] at g8
  obtain ⟨a8, k8⟩ := (opens_bool Try.underlying4).at g8
  obtain ⟨n9, y9, g9⟩ := hfs 9 _ rfl
  have g9 : DataW.trod enc Try.prog W 0 (fun _ => true) true n9 4 ((cs.drop 9).take (Try.prog.cellsOf 4)) = some y9 := g9
  rw [c1] at g9
  obtain ⟨a9, k9⟩ := (opens_bool Try.underlying4).at g9
  obtain ⟨n10, y10, g10⟩ := hfs 10 _ rfl
  have g10 : DataW.trod enc Try.prog W 0 (fun _ => true) true n10 5 ((cs.drop 10).take (Try.prog.cellsOf 5)) = some y10 := g10
  rw [c2] at g10
  obtain ⟨a10, k10, w10⟩ := (opens_int Try.underlying5).at g10
  refine ⟨hlen, a10, ?_⟩
  match cs, hlen with
  | [x0, x1, x2, x3, x4, x5, x6, x7, x8, x9, x10], _ =>
    obtain rfl : x0 = _ := by simpa using k0
    obtain rfl : x1 = _ := by simpa [boolR] using k1
    obtain rfl : x2 = _ := by simpa using k2
    obtain rfl : x3 = _ := by simpa [boolR] using k3
    obtain rfl : x4 = _ := by simpa [boolR] using k4
    obtain rfl : x5 = _ := by simpa [boolR] using k5
    obtain rfl : x6 = _ := by simpa [boolR] using k6
    obtain rfl : x7 = _ := by simpa [boolR] using k7
    obtain rfl : x8 = _ := by simpa [boolR] using k8
    obtain rfl : x9 = _ := by simpa [boolR] using k9
    obtain rfl : x10 = _ := by simpa using k10
    refine ⟨_, _, _, _, _, _, _, _, _, _, rfl, bd8 w10, ?_⟩
    intro v hv
    simp only [List.mem_cons, List.not_mem_nil, or_false] at hv
    rcases hv with rfl | rfl | rfl | rfl | rfl | rfl | rfl | rfl | rfl | rfl | rfl <;> rfl
def ednsR : Rp Int := fun _ cs _ => ∃ e0 e1 e2 e3 e4, cs = [e0, e1, e2, e3, e4] ∧ ∀ v ∈ cs, v.oneCell' = true
set_option maxRecDepth 100000 in
theorem opens_edns : Opens enc Try.prog W 30 5 ednsR := fun fuel cs x hf => by
  obtain ⟨hlen, hfs⟩ := opens_fields Try.underlying30 hf
  have hc : Try.prog.cellsOf 30 = 5 := by kernel_rfl
  rw [hc] at hlen
  have c0 : Try.prog.cellsOf 23 = 1 := by kernel_rfl
  have c1 : Try.prog.cellsOf 5 = 1 := by kernel_rfl
  have c2 : Try.prog.cellsOf 28 = 1 := by kernel_rfl
  obtain ⟨n0, y0, g0⟩ := hfs 0 _ rfl
  have g0 : DataW.trod enc Try.prog W 0 (fun _ => true) true n0 23 ((cs.drop 0).take (Try.prog.cellsOf 23)) = some y0 := g0
  rw [c0] at g0
  obtain ⟨a0, k0, w0⟩ := (opens_int Try.underlying23).at g0
  obtain ⟨n1, y1, g1⟩ := hfs 1 _ rfl
  have g1 : DataW.trod enc Try.prog W 0 (fun _ => true) true n1 5 ((cs.drop 1).take (Try.prog.cellsOf 5)) = some y1 := g1
  rw [c1] at g1
  obtain ⟨a1, k1, w1⟩ := (opens_int Try.underlying5).at g1
  obtain ⟨n2, y2, g2⟩ := hfs 2 _ rfl
  have g2 : DataW.trod enc Try.prog W 0 (fun _ => true) true n2 5 ((cs.drop 2).take (Try.prog.cellsOf 5)) = some y2 := g2
  rw [c1] at g2
  obtain ⟨a2, k2, w2⟩ := (opens_int Try.underlying5).at g2
  obtain ⟨n3, y3, g3⟩ := hfs 3 _ rfl
  have g3 : DataW.trod enc Try.prog W 0 (fun _ => true) true n3 23 ((cs.drop 3).take (Try.prog.cellsOf 23)) = some y3 := g3
  rw [c0] at g3
  obtain ⟨a3, k3, w3⟩ := (opens_int Try.underlying23).at g3
  obtain ⟨n4, y4, g4⟩ := hfs 4 _ rfl
  have g4 : DataW.trod enc Try.prog W 0 (fun _ => true) true n4 28 ((cs.drop 4).take (Try.prog.cellsOf 28)) = some y4 := g4
  rw [c2] at g4
  obtain ⟨a4, k4⟩ := (opens_any Try.underlying28).at g4
  refine ⟨hlen, 0, ?_⟩
  match cs, hlen with
  | [x0, x1, x2, x3, x4], _ =>
    obtain rfl : x0 = _ := by simpa using k0
    obtain rfl : x1 = _ := by simpa using k1
    obtain rfl : x2 = _ := by simpa using k2
    obtain rfl : x3 = _ := by simpa using k3
    obtain ⟨n4, m4, k4⟩ := k4
    obtain rfl : x4 = _ := by simpa using k4
    refine ⟨_, _, _, _, _, rfl, ?_⟩
    intro v hv
    simp only [List.mem_cons, List.not_mem_nil, or_false] at hv
    rcases hv with rfl | rfl | rfl | rfl | rfl <;> rfl
set_option maxRecDepth 100000 in
theorem opens_msg : Opens enc Try.prog W 32 21 msgR := fun fuel cs x hf => by
  obtain ⟨hlen, hfs⟩ := opens_fields Try.underlying32 hf
  have hc : Try.prog.cellsOf 32 = 21 := by kernel_rfl
  rw [hc] at hlen
  have c0 : Try.prog.cellsOf 25 = 11 := by kernel_rfl
  have c1 : Try.prog.cellsOf 26 = 1 := by kernel_rfl
  have c2 : Try.prog.cellsOf 27 = 1 := by kernel_rfl
  have c3 : Try.prog.cellsOf 4 = 1 := by kernel_rfl
  have c4 : Try.prog.cellsOf 30 = 5 := by kernel_rfl
  obtain ⟨n0, y0, g0⟩ := hfs 0 _ rfl
  have g0 : DataW.trod enc Try.prog W 0 (fun _ => true) true n0 25 ((cs.drop 0).take (Try.prog.cellsOf 25)) = some y0 := g0
  rw [c0] at g0
  obtain ⟨a0, k0⟩ := opens_head.at g0
  obtain ⟨n1, y1, g1⟩ := hfs 1 _ rfl
  have g1 : DataW.trod enc Try.prog W 0 (fun _ => true) true n1 26 ((cs.drop 11).take (Try.prog.cellsOf 26)) = some y1 := g1
  rw [c1] at g1
  obtain ⟨a1, k1⟩ := (opens_any Try.underlying26).at g1
  obtain ⟨n2, y2, g2⟩ := hfs 2 _ rfl
  have g2 : DataW.trod enc Try.prog W 0 (fun _ => true) true n2 27 ((cs.drop 12).take (Try.prog.cellsOf 27)) = some y2 := g2
  rw [c2] at g2
  obtain ⟨a2, k2⟩ := (opens_slice Try.underlying27 (by kernel_rfl) (by decide) (opens_rec (enc := enc))).at g2
  obtain ⟨n3, y3, g3⟩ := hfs 3 _ rfl
  have g3 : DataW.trod enc Try.prog W 0 (fun _ => true) true n3 27 ((cs.drop 13).take (Try.prog.cellsOf 27)) = some y3 := g3
  rw [c2] at g3
  obtain ⟨a3, k3⟩ := (opens_slice Try.underlying27 (by kernel_rfl) (by decide) (opens_rec (enc := enc))).at g3
  obtain ⟨n4, y4, g4⟩ := hfs 4 _ rfl
  have g4 : DataW.trod enc Try.prog W 0 (fun _ => true) true n4 27 ((cs.drop 14).take (Try.prog.cellsOf 27)) = some y4 := g4
  rw [c2] at g4
  obtain ⟨a4, k4⟩ := (opens_any Try.underlying27).at g4
  obtain ⟨n5, y5, g5⟩ := hfs 5 _ rfl
  have g5 : DataW.trod enc Try.prog W 0 (fun _ => true) true n5 4 ((cs.drop 15).take (Try.prog.cellsOf 4)) = some y5 := g5
  rw [c3] at g5
  obtain ⟨a5, k5⟩ := (opens_bool Try.underlying4).at g5
  obtain ⟨n6, y6, g6⟩ := hfs 6 _ rfl
  have g6 : DataW.trod enc Try.prog W 0 (fun _ => true) true n6 30 ((cs.drop 16).take (Try.prog.cellsOf 30)) = some y6 := g6
  rw [c4] at g6
  obtain ⟨a6, k6⟩ := opens_edns.at g6
  refine ⟨hlen, ⟨a0, a2, a3⟩, ?_⟩
  match cs, hlen with
  | [x0, x1, x2, x3, x4, x5, x6, x7, x8, x9, x10, x11, x12, x13, x14, x15, x16, x17, x18, x19, x20], _ =>
    obtain ⟨n1, m1, k1⟩ := k1
    obtain rfl : x11 = _ := by simpa using k1
    obtain ⟨n4, m4, k4⟩ := k4
    obtain rfl : x14 = _ := by simpa using k4
    obtain rfl : x15 = _ := by simpa [boolR] using k5
    obtain ⟨h0, h1, h2, h3, h4, h5, h6, h7, h8, h9, q0, hcode, hone⟩ := k0
    obtain ⟨e0', e1', e2', e3', e4', q6, hone6⟩ := k6
    simp only [List.drop_zero, List.take_succ_cons, List.take_zero, List.drop_succ_cons, List.cons.injEq, and_true] at q0 q6
    obtain ⟨rfl, rfl, rfl, rfl, rfl, rfl, rfl, rfl, rfl, rfl, rfl⟩ := q0
    obtain ⟨rfl, rfl, rfl, rfl, rfl⟩ := q6
    refine ⟨_, _, _, _, _, _, _, _, _, _, _, _, _, _, _, _, _, _, _, _, rfl, k2, k3, hcode, ?_⟩
    have s2 : ∀ v, sliceR 5 recR (allBlocks W) [v] a2 → v.oneCell' = true := fun v h => by obtain ⟨a, c, e, _⟩ := h; simp only [List.cons.injEq, and_true] at e; rw [e]; rfl
    have s3 : ∀ v, sliceR 5 recR (allBlocks W) [v] a3 → v.oneCell' = true := fun v h => by obtain ⟨a, c, e, _⟩ := h; simp only [List.cons.injEq, and_true] at e; rw [e]; rfl
    intro v hv
    have hv' : v ∈ [x0, x1, x2, x3, x4, x5, x6, x7, x8, x9, .int .u8 a0] ++ (_ :: x12 :: x13 :: _ :: _ :: [x16, x17, x18, x19, x20]) := hv
    rcases List.mem_append.1 hv' with hv | hv
    · exact hone v hv
    · simp only [List.mem_cons, List.not_mem_nil, or_false] at hv
      rcases hv with rfl | rfl | rfl | rfl | rfl | hv
      · rfl
      · exact s2 _ k2
      · exact s3 _ k3
      · rfl
      · rfl
      · exact hone6 v (by simpa using hv)
instance : Inhabited Vd.Msg := ⟨⟨0, [], []⟩⟩
instance : Inhabited Said := ⟨⟨0, default, 0⟩⟩
set_option maxRecDepth 100000 in
theorem opens_said : Opens enc Try.prog W 115 23 saidR := fun fuel cs x hf => by
  obtain ⟨hlen, hfs⟩ := opens_fields Try.underlying115 hf
  have hc : Try.prog.cellsOf 115 = 23 := by kernel_rfl
  rw [hc] at hlen
  have c0 : Try.prog.cellsOf 3 = 1 := by kernel_rfl
  have c1 : Try.prog.cellsOf 32 = 21 := by kernel_rfl
  have c2 : Try.prog.cellsOf 36 = 1 := by kernel_rfl
  obtain ⟨n0, y0, g0⟩ := hfs 0 _ rfl
  have g0 : DataW.trod enc Try.prog W 0 (fun _ => true) true n0 3 ((cs.drop 0).take (Try.prog.cellsOf 3)) = some y0 := g0
  rw [c0] at g0
  obtain ⟨a0, k0, w0⟩ := (opens_int Try.underlying3).at g0
  obtain ⟨n1, y1, g1⟩ := hfs 1 _ rfl
  have g1 : DataW.trod enc Try.prog W 0 (fun _ => true) true n1 32 ((cs.drop 1).take (Try.prog.cellsOf 32)) = some y1 := g1
  rw [c1] at g1
  obtain ⟨a1, k1⟩ := (opens_msg (enc := enc)).at g1
  obtain ⟨n2, y2, g2⟩ := hfs 2 _ rfl
  have g2 : DataW.trod enc Try.prog W 0 (fun _ => true) true n2 36 ((cs.drop 22).take (Try.prog.cellsOf 36)) = some y2 := g2
  rw [c2] at g2
  obtain ⟨a2, k2, w2⟩ := (opens_int Try.underlying36).at g2
  refine ⟨hlen, ⟨a0, a1, a2⟩, ?_⟩
  match cs, hlen with
  | [x0, x1, x2, x3, x4, x5, x6, x7, x8, x9, x10, x11, x12, x13, x14, x15, x16, x17, x18, x19, x20, x21, x22], _ =>
    obtain rfl : x0 = _ := by simpa using k0
    obtain rfl : x22 = _ := by simpa using k2
    exact ⟨_, rfl, k1, bd32 w2, bd64 w0⟩
set_option maxRecDepth 100000 in
theorem opened_quest (hv : Value.okWide Try.prog W .any base 34 v) (h : DataW.Trod enc Try.prog W 0 (fun _ => true) true 34 v d p) : ∃ cs q, v = .agg cs.toArray ∧ questR (allBlocks W) cs q := by
  obtain ⟨cs, rfl, hsz⟩ := okWide_struct Try.underlying34 hv
  obtain ⟨fuel, hf⟩ := h
  obtain ⟨q, hq⟩ := opens_quest.at hf
  exact ⟨cs.toList, q, by simp, by simpa [Value.cells] using hq⟩
set_option maxRecDepth 100000 in
theorem opened_saids (hv : Value.okWide Try.prog W .any base 48 v) (h : DataW.Trod enc Try.prog W 0 (fun _ => true) true 48 v d p) : ∃ l, sliceR 23 saidR (allBlocks W) [v] l := by
  obtain ⟨a, len, cap, rfl⟩ := okWide_slice Try.underlying48 hv
  obtain ⟨fuel, hf⟩ := h
  obtain ⟨l, k0⟩ := (opens_slice Try.underlying48 (by kernel_rfl) (by decide) (opens_said (enc := enc))).at hf
  exact ⟨l, k0⟩
set_option maxRecDepth 100000 in
theorem opened_int (hv : Value.okWide Try.prog W .any base 3 v) (h : DataW.Trod enc Try.prog W 0 (fun _ => true) true 3 v d p) : ∃ n, v = .int .i64 n ∧ (-9223372036854775808 ≤ n ∧ n ≤ 9223372036854775807) := by
  obtain ⟨x, rfl, _, _, wx⟩ := open_int Try.underlying3 hv h
  exact ⟨x, rfl, bd64 wx⟩
end
end Go.Proofs.Ytdflhdfapnhjjaa
