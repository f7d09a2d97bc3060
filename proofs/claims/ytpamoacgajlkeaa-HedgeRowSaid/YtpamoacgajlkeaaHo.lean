/-
  THE WALK of HedgeRow.
-/
import Derived.Test.YtpamoacgajlkeaaHn
import Derived.Test.YtpamoacgajlkeaaSt3
namespace Go.Proofs.Ytpamoacgajlkeaa
open Go.RowKit
open Hg (En Pl)
set_option linter.unusedVariables false
--store2
variable {G : World} {L : Blocks}
theorem permM {p q r : Nat × Obj} {A B Z : Blocks} : (p :: q :: r :: (A ++ (B ++ Z))).Perm (B ++ (p :: q :: r :: (A ++ Z))) := by
  have := permS (A := [p, q, r] ++ A) (B := B) (C := Z)
  simpa using this
theorem permN {p q r : Nat × Obj} {A B C D Z : Blocks} : (A ++ (B ++ (C ++ (p :: q :: r :: (D ++ Z))))).Perm (p :: q :: r :: (D ++ (A ++ (B ++ (C ++ Z))))) := by
  have := (permS (A := [p, q, r] ++ D) (B := A ++ B ++ C) (C := Z)).symm
  simpa using this
def unionF (l : List Int) : Int → Int := fun u => if u ∈ l then 1 else 0
theorem Row.srcTake {a : Option Addr} {m c k : Nat} {l : List Int} {B : Blocks} {e : TypeId} (h : Row e 1 (.slice a l.length c) m (ints l) B) (hB : ∀ p ∈ B, p ∈ L) (hk : k ≤ l.length) : Src L (.slice a k c) k (ints (l.take k)) 1 := by
  refine ⟨by simp [ints]; omega, fun x hx => ?_, ?_⟩
  · obtain ⟨u, _, rfl⟩ := List.mem_map.1 hx
    rfl
  · rcases h.is with ⟨h1, h2, h3⟩ | ⟨b, cap, cur, h1, h2, h3, h4, h5, h6⟩
    · obtain ⟨q1, q2, q3⟩ := Value.slice.inj h1
      refine Or.inl ⟨c, ?_, by omega⟩
      rw [q1, show k = 0 by omega]
    · obtain ⟨q1, q2, q3⟩ := Value.slice.inj h1
      refine Or.inr ⟨b, 0, c, cur, e, (0, 0), by rw [q1], hB _ (by rw [h2]; exact List.mem_cons_self ..), fun j x hj => ?_⟩
      have hjl := (List.getElem?_eq_some_iff.1 hj).1
      simp [ints] at hjl
      have : (ints l)[j]? = some x := by
        simp only [ints, List.map_take] at hj ⊢
        rwa [List.getElem?_take_of_lt (by omega)] at hj
      rw [← h6, List.getElem?_take_of_lt (by omega)] at this
      rw [Nat.zero_add]
      simpa using this
theorem IRow.cut {a : Option Addr} {k c : Nat} {s : List Int} (h : IRow L (.slice a k c) s) : s = [] ∨ ∃ b off C te fr, a = some ⟨b, off, none⟩ ∧ (b, Obj.cells C te fr) ∈ L ∧ ∀ i x, s[i]? = some x → C[off + i * 1]? = some (.int .i64 x) := by
  obtain ⟨a', c', h1, h2⟩ := h
  obtain ⟨rfl, _, _⟩ := Value.slice.inj h1
  exact h2
/-- What is known at each turn. -/
structure Watch (l : List Int) (tries : Int) (bp : Nat) (p : Pl) (a : Option Addr) (c : Nat) (BF M : Blocks) : Prop where
  plan : IsPlan bp p M
  row : Hg.RowInv l p
  beg : p.begins = true
  tr : p.tries = tries
  first : Row 3 1 (.slice a (l.take p.asked).length c) (l.take p.asked).length (ints (l.take p.asked)) BF
abbrev WSt := Nat × Pl × Int × Option Addr × Nat × Blocks × Blocks
theorem permB {b p q r : Nat × Obj} {B X : Blocks} : (b :: p :: q :: r :: (B ++ X)).Perm (p :: q :: r :: (B ++ (b :: X))) := by
  have := permS (A := [b]) (B := [p, q, r] ++ B) (C := X)
  simpa using this
theorem filter1 (f : Int → Bool) (x : Int) : ([x].filter f).length = if f x = true then 1 else 0 := by
  cases h : f x <;> simp [h]
theorem lay1 {p q r : Nat × Obj} {B X : Blocks} : (r :: (B ++ (q :: p :: X))).Perm (p :: q :: r :: (B ++ X)) := by
  have h1 : (r :: (B ++ (q :: p :: X))).Perm (q :: p :: r :: (B ++ X)) := by
    have := permS (A := [r] ++ B) (B := [q, p]) (C := X)
    simpa using this
  exact h1.trans (List.Perm.swap _ _ _)
set_option maxRecDepth 100000 in
set_option maxHeartbeats 16000000 in
theorem hedgeRow_S (vl v1 : Value) (raw : List Int) (w0 e0 t0 r0 n0 : Int) (ts : List (Int × Int × Bool)) (hl : IRow L vl raw) (hrl : raw.length ≤ 9223372036854775807) (h1 : TRow L v1 ts) (hl1 : ts.length ≤ 9223372036854775807) :
    Spec Try.prog G 5 #[planV vl w0 e0 t0 r0 n0, v1] L fun u N => u = .bool true ∧ N = L := by
  obtain ⟨⟨a1, c1, rfl, h1⟩, hr1⟩ := h1
  refine Spec_of (n := 233) Try.func5 rfl rfl rfl ?_
  repeat (first | with_reducible refine T_seq ?_ | with_reducible refine T_region ?_ | with_reducible refine TL_nil ?_ | with_reducible refine TQ_then ?_ | refine TL_q (op_assign rfl) rfl ?_ | (refine' TL_q (op_ldAll rfl st_24 ?_ ?_) rfl ?_; rotate_left 3; (· repeat (first | assumption | exact List.mem_cons_self | apply List.mem_cons_of_mem)); (· first | assumption | rfl)) | (refine TL_new (op_box rfl rfl) rfl ?_; intro bBox))
  refine TL_opT (op_call hb_6 rfl (fit_S vl raw w0 e0 t0 r0 n0 (hl.mono fun q hq => List.mem_cons_of_mem _ hq) hrl)) rfl ?_
  rintro _ _ ⟨l, want, every, wait, tries, st, a, c, B, hF, rfl, hR, rfl⟩
  have hlc : l.length ≤ c := hR.cap_le
  have h9 := hF.len
  unfold planV
  repeat (first | with_reducible refine T_seq ?_ | with_reducible refine T_region ?_ | with_reducible refine TL_nil ?_ | with_reducible refine TQ_then ?_ | refine TL_q (op_move rfl) rfl ?_ | (refine' TL_q (op_bin rfl rfl ?_) rfl ?_; rotate_left 1; (· first | exact bin_add ⟨by omega, by omega⟩ | exact bin_sub ⟨by omega, by omega⟩ | exact bin_rem (by omega) (by omega) | exact bin_eql | exact bin_neq | exact bin_lss | exact bin_gtr | exact bin_geq | exact sbin_eql | exact sbin_neq | exact sbin_lss | exact sbin_gtr | exact sbin_add (by omega) | exact pbin_eql Try.underlying26 | exact pbin_neq Try.underlying26)) | refine TL_q (op_len_slice rfl Try.underlying34) rfl ?_ | (refine TL_stAll rfl rfl st_24 rfl rfl rfl ?_) | (refine TL_new (op_alloc zero_24 rfl) rfl ?_; intro bNew))
  refine TL_heap (L' := (bNew, Obj.cells #[.slice a l.length c, .int .i64 want, .int .i64 every, .int .i64 wait, .int .i64 tries, .int .i64 st] 24 (0, 0)) :: (B ++ L)) (fun w h => h.sub ((List.Sublist.append_left (List.sublist_cons_self _ _) _).cons_cons _)) ?_
  by_cases g1 : 60 < ts.length
  · have d1 : decide ((60 : Int) < ((ts.length : Nat) : Int)) = true := decide_eq_true (by omega)
    repeat (first | with_reducible refine T_seq ?_ | with_reducible refine T_region ?_ | with_reducible refine TL_nil ?_ | with_reducible refine TQ_then ?_ | (refine' TL_q (op_pickT rfl ?_ rfl) rfl ?_; (· first | with_reducible rfl | assumption | exact Bool.not_false | exact Bool.not_true)) | (refine TL_gno rfl rfl ?_ rfl ?_; (· first | with_reducible rfl | assumption | exact Bool.not_false | exact Bool.not_true)) | (refine T_yes rfl ?_ ?_; (· first | with_reducible rfl | assumption | exact Bool.not_false | exact Bool.not_true)))
    refine TL_op (op_call hb_8 rfl awake_S) rfl ?_
    repeat (first | with_reducible refine TL_nil ?_ | with_reducible refine TQ_then ?_ | with_reducible refine T_ret ?_ | with_reducible refine TQ_then_ret ?_ | refine TL_q (op_assign rfl) rfl ?_)
    refine TQ_heap (L' := L) (fun w h => h.tail.sub (List.sublist_append_right _ _)) ?_
    refine TQ_ret1 4 _ rfl rfl ?_
    exact ⟨rfl, rfl⟩
  have d1 : decide ((60 : Int) < ((ts.length : Nat) : Int)) = false := decide_eq_false (by omega)
  repeat (first | (refine TL_gpre rfl rfl ?_ ?_; (· first | with_reducible rfl | assumption | exact Bool.not_false | exact Bool.not_true)))
  refine TG_op (op_call hb_8 rfl awake_S) rfl ?_
  repeat (first | with_reducible refine T_seq ?_ | with_reducible refine T_region ?_ | with_reducible refine TL_nil ?_ | with_reducible refine TQ_then ?_ | with_reducible refine T_skip ?_ | (refine' TL_q (op_pickF rfl ?_ rfl) rfl ?_; (· first | with_reducible rfl | assumption | exact Bool.not_false | exact Bool.not_true)) | (refine' TL_q (op_ldAll rfl st_24 ?_ ?_) rfl ?_; rotate_left 3; (· repeat (first | assumption | exact List.mem_cons_self | apply List.mem_cons_of_mem)); (· first | assumption | rfl)) | (refine TL_gpre rfl rfl ?_ ?_; (· first | with_reducible rfl | assumption | exact Bool.not_false | exact Bool.not_true)) | refine TL_gq2 (op_not rfl) rfl ?_ | (refine T_no rfl ?_ ?_; (· first | with_reducible rfl | assumption | exact Bool.not_false | exact Bool.not_true)))
  have hi2 : IRow ((bNew, Obj.cells #[.slice a l.length c, .int .i64 want, .int .i64 every, .int .i64 wait, .int .i64 tries, .int .i64 st] 24 (0, 0)) :: (B ++ L)) (.slice a l.length c) l := hR.irow fun q hq => List.mem_cons_of_mem _ (mem_l hq)
  have hi3 : IRow B (.slice a l.length c) l := hR.irow fun q hq => hq
  refine TL_opT (op_call hb_7 rfl (begun_S a c l want every wait tries st hF hi2 hlc)) rfl ?_
  rintro _ _ ⟨bp, M, rfl, hM, rfl⟩
  obtain ⟨hnd, hrg, hw, he, ha, ht, hn⟩ := hF
  obtain ⟨R0, z1, z2, z3⟩ := Hg.row_begin hnd want every wait tries st (by omega) (by omega)
  have hb0 := begin_begins (Hg.mk l want every wait tries st) rfl
  obtain ⟨p0, hp0⟩ : ∃ p0, p0 = (Hg.begin' (Hg.mk l want every wait tries st)).1 := ⟨_, rfl⟩
  rw [← hp0] at R0 z1 z2 z3 hb0 hM
  have c0 : (#[.slice a l.length c, .int .i64 want, .int .i64 every, .int .i64 wait, .int .i64 tries, .int .i64 st] : Array Value)[0 + 0]? = some (.slice a l.length c) := rfl
  have c1' : (#[.slice a l.length c, .int .i64 want, .int .i64 every, .int .i64 wait, .int .i64 tries, .int .i64 st] : Array Value)[0 + 1]? = some (.int .i64 want) := rfl
  have c4 : (#[.slice a l.length c, .int .i64 want, .int .i64 every, .int .i64 wait, .int .i64 tries, .int .i64 st] : Array Value)[0 + 4]? = some (.int .i64 tries) := rfl
  have c5 : (#[.slice a l.length c, .int .i64 want, .int .i64 every, .int .i64 wait, .int .i64 tries, .int .i64 st] : Array Value)[0 + 5]? = some (.int .i64 st) := rfl
  clear hi2
  generalize (#[.slice a l.length c, .int .i64 want, .int .i64 every, .int .i64 wait, .int .i64 tries, .int .i64 st] : Array Value) = C3 at *
  have g3 : Option.isNone (some (⟨bp, 0, none⟩ : Addr)) = false := rfl
  have m5 : (bNew, Obj.cells C3 24 (0, 0)) ∈ M ++ ((bNew, Obj.cells C3 24 (0, 0)) :: (B ++ L)) := mem_r (List.mem_cons_self ..)
  repeat (first | with_reducible refine T_seq ?_ | with_reducible refine T_region ?_ | with_reducible refine TL_nil ?_ | with_reducible refine TQ_then ?_ | with_reducible refine T_skip ?_ | refine TL_q (op_move rfl) rfl ?_ | refine TL_q (op_assign rfl) rfl ?_ | (refine' TL_q (op_bin rfl rfl ?_) rfl ?_; rotate_left 1; (· first | exact bin_add ⟨by omega, by omega⟩ | exact bin_sub ⟨by omega, by omega⟩ | exact bin_rem (by omega) (by omega) | exact bin_eql | exact bin_neq | exact bin_lss | exact bin_gtr | exact bin_geq | exact sbin_eql | exact sbin_neq | exact sbin_lss | exact sbin_gtr | exact sbin_add (by omega) | exact pbin_eql Try.underlying26 | exact pbin_neq Try.underlying26)) | (refine TL_new (op_alloc zero_43 rfl) rfl ?_; intro bNew) | (refine T_no rfl ?_ ?_; (· first | with_reducible rfl | assumption | exact Bool.not_false | exact Bool.not_true)))
  rename_i b5 b7
  revert bNew
  intro b8
  refine TL_new (op_lit0 ety_22) rfl ?_
  intro b0
  repeat (first | refine TL_q (op_len_slice rfl Try.underlying22) rfl ?_ | refine TL_q (op_min rfl rfl) rfl ?_ | refine TL_q (op_fld rfl fld_24_0) rfl ?_ | refine TL_q (op_fld rfl fld_24_1) rfl ?_ | (refine' TL_q (op_ld rfl pl_2 ?_ ?_) rfl ?_; rotate_left 4; (· repeat (first | assumption | exact List.mem_cons_self | apply List.mem_cons_of_mem)); (· first | assumption | rfl)))
  obtain ⟨K, hK⟩ : ∃ K, K = (min (l.length : Int) want).toNat := ⟨_, rfl⟩
  refine TL_q (op_slice_to ety_22 rfl rfl (by omega) (by omega)) rfl ?_
  rw [← hK] at z2 z3 ⊢
  have hKl : K ≤ l.length := by omega
  have hFl : (l.take K).length = K := by rw [List.length_take]; omega
  refine TL_append (B := [(b0, Obj.cells #[] 3 (0, 0))]) ety_22 rfl rfl (Row.made (c := 0) rfl (by decide)) (hR.srcTake (k := K) (fun q hq => List.mem_cons_of_mem _ (List.mem_cons_of_mem _ (mem_r (List.mem_cons_of_mem _ (mem_l hq))))) hKl) (by unfold maxLen; omega) (by omega) rfl ?_
  intro v2 BF hRF
  obtain ⟨aF, cF, rfl⟩ := hRF.slice
  rw [Nat.zero_add] at hRF ⊢
  rw [List.nil_append] at hRF
  repeat (first | with_reducible refine T_seq ?_ | with_reducible refine T_block ?_ | with_reducible refine T_region ?_ | with_reducible refine TL_nil ?_ | with_reducible refine TQ_then ?_ | refine TL_q (op_assign rfl) rfl ?_ | (refine' TL_st rfl rfl one_3 rfl ?_ rfl ?_; rotate_left 1; (· first | assumption | rfl)) | (refine TL_new (op_alloc zero_22 rfl) rfl ?_; intro bNew))
  revert bNew
  intro b9
  refine T_heap (L' := (b7, Obj.cells (arr9 (fun _ => 0)) 43 (0, 0)) :: (b8, Obj.cells (arr9 (fun _ => 0)) 43 (0, 0)) :: (b9, Obj.cells #[.slice aF K cF] 22 (0, 0)) :: (BF ++ (M ++ ((b5, Obj.cells C3 24 (0, 0)) :: (B ++ L))))) (fun w h => h.perm lay1) ?_
  refine T_loopS (σ := Nat) (fun i => i ≤ K) (fun i => [(1, .slice a1 ts.length c1), (5, .pointer (some ⟨b5, 0, none⟩)), (6, .pointer (some ⟨bp, 0, none⟩)), (7, .pointer (some ⟨b7, 0, none⟩)), (8, .pointer (some ⟨b8, 0, none⟩)), (9, .pointer (some ⟨b9, 0, none⟩)), (10, .int .i64 (i : Nat))]) (fun i => (b7, Obj.cells (arr9 (fun u => if u ∈ l.take i then 1 else 0)) 43 (0, 0)) :: (b8, Obj.cells (arr9 (fun _ => 0)) 43 (0, 0)) :: (b9, Obj.cells #[.slice aF K cF] 22 (0, 0)) :: (BF ++ (M ++ ((b5, Obj.cells C3 24 (0, 0)) :: (B ++ L))))) (fun i => K - i) 0 (Nat.zero_le _) ?_ (fun w h => ?_) ?_
  (repeat (first | exact trivial | refine ⟨rfl, ?_⟩))
  · rw [arr9_congr (f := fun u => if u ∈ l.take 0 then 1 else 0) (g := fun _ => 0) (fun u _ _ => by simp)]
    exact h
  intro i hi
  by_cases hlt : i < K
  · have e1 : decide (((i : Nat) : Int) < ((K : Nat) : Int)) = true := decide_eq_true (by omega)
    obtain ⟨x, hx⟩ : ∃ x, l[i]? = some x := ⟨_, List.getElem?_eq_getElem (by omega)⟩
    obtain ⟨r1, r2⟩ := hrg x (List.mem_of_getElem? hx)
    have hxF : (l.take K)[i]? = some x := by rw [List.getElem?_take_of_lt hlt]; exact hx
    have hiF : IRow BF (.slice aF K cF) (l.take K) := hRF.irow fun q hq => hq
    rcases hiF.cut with hnil | ⟨b1, o1, C1, t1, f1, rfl, m1, q1⟩
    · rw [hnil] at hxF; simp at hxF
    have cx := q1 i x hxF
    have m1' : (b1, Obj.cells C1 t1 f1) ∈ BF ++ (M ++ ((b5, Obj.cells C3 24 (0, 0)) :: (B ++ L))) := mem_l m1
    have a7 := arr9_at (fun u => if u ∈ l.take i then 1 else 0) x r1 r2
    repeat (first | with_reducible refine T_seq ?_ | with_reducible refine T_block ?_ | with_reducible refine T_region ?_ | with_reducible refine TL_nil ?_ | with_reducible refine TQ_then ?_ | with_reducible refine TQ_block ?_ | with_reducible refine T_skip ?_ | refine TL_q (op_move rfl) rfl ?_ | refine TL_q (op_assign rfl) rfl ?_ | (refine' TL_q (op_bin rfl rfl ?_) rfl ?_; rotate_left 1; (· first | exact bin_add ⟨by omega, by omega⟩ | exact bin_sub ⟨by omega, by omega⟩ | exact bin_rem (by omega) (by omega) | exact bin_eql | exact bin_neq | exact bin_lss | exact bin_gtr | exact bin_geq | exact sbin_eql | exact sbin_neq | exact sbin_lss | exact sbin_gtr | exact sbin_add (by omega) | exact pbin_eql Try.underlying26 | exact pbin_neq Try.underlying26)) | refine TL_q (op_len_slice rfl Try.underlying22) rfl ?_ | (refine' TL_q (op_idx ety_22 rfl rfl ?_) rfl ?_; (· omega)) | (refine' TL_q (op_idxA arr_43 rfl rfl ?_ ?_) rfl ?_; (· omega); (· omega)) | (refine' TL_q (op_ld rfl pl_2 ?_ ?_) rfl ?_; rotate_left 4; (· repeat (first | assumption | exact List.mem_cons_self | apply List.mem_cons_of_mem)); (· first | assumption | rfl)) | (refine' TL_st rfl rfl one_3 rfl ?_ rfl ?_; rotate_left 1; (· first | assumption | rfl)) | (refine T_yes rfl ?_ ?_; (· first | with_reducible rfl | assumption | exact Bool.not_false | exact Bool.not_true)))
    refine TQ_roundS (i + 1) hlt ?_ (fun w h => ?_) (by omega)
    (repeat (first | exact trivial | refine ⟨rfl, ?_⟩))
    rw [arr9_set _ _ _ r1 r2, arr9_congr (g := fun u => if u ∈ l.take (i + 1) then 1 else 0)] at h
    · exact h
    · intro u _ _
      obtain ⟨hil, rfl⟩ := List.getElem?_eq_some_iff.1 hx
      rw [List.take_succ_eq_append_getElem hil]
      simp only [List.mem_append, List.mem_singleton]
      split <;> split <;> first | rfl | (split <;> simp_all) | simp_all
  have e1 : decide (((i : Nat) : Int) < ((K : Nat) : Int)) = false := decide_eq_false (by omega)
  have hiK : i = K := by omega
  subst hiK
  rw [arr9_congr (f := fun u => if u ∈ l.take i then 1 else 0) (g := Hg.askedOf p0) (fun u _ _ => (z3 u).1.symm), arr9_congr (f := fun _ => 0) (g := Hg.overF p0) (fun u _ _ => (z3 u).2.symm)]
  have m5 : (b5, Obj.cells C3 24 (0, 0)) ∈ BF ++ (M ++ ((b5, Obj.cells C3 24 (0, 0)) :: (B ++ L))) := mem_r (mem_r (List.mem_cons_self ..))
  repeat (first | with_reducible refine T_seq ?_ | with_reducible refine T_region ?_ | with_reducible refine TL_nil ?_ | with_reducible refine TQ_then ?_ | with_reducible refine T_exit ?_ | with_reducible refine TQ_then_exit ?_ | with_reducible refine TQ_block_exit ?_ | refine TL_q (op_move rfl) rfl ?_ | (refine' TL_q (op_bin rfl rfl ?_) rfl ?_; rotate_left 1; (· first | exact bin_add ⟨by omega, by omega⟩ | exact bin_sub ⟨by omega, by omega⟩ | exact bin_rem (by omega) (by omega) | exact bin_eql | exact bin_neq | exact bin_lss | exact bin_gtr | exact bin_geq | exact sbin_eql | exact sbin_neq | exact sbin_lss | exact sbin_gtr | exact sbin_add (by omega) | exact pbin_eql Try.underlying26 | exact pbin_neq Try.underlying26)) | refine TL_q (op_len_slice rfl Try.underlying22) rfl ?_ | (refine' TL_q (op_ld rfl pl_2 ?_ ?_) rfl ?_; rotate_left 4; (· repeat (first | assumption | exact List.mem_cons_self | apply List.mem_cons_of_mem)); (· first | assumption | rfl)) | (refine T_no rfl ?_ ?_; (· first | with_reducible rfl | assumption | exact Bool.not_false | exact Bool.not_true)))
  refine TL_q (op_makeFunc (vs := [.pointer (some ⟨b8, 0, none⟩), .pointer (some ⟨b7, 0, none⟩), .pointer (some ⟨b9, 0, none⟩), .pointer (some ⟨b5, 0, none⟩)]) rfl) rfl ?_
  repeat (first | with_reducible refine T_seq ?_ | with_reducible refine T_block ?_ | with_reducible refine T_region ?_ | with_reducible refine TL_nil ?_ | with_reducible refine TQ_then ?_ | refine TL_q (op_assign rfl) rfl ?_ | refine TL_q (op_fld rfl fld_24_5) rfl ?_ | (refine' TL_q (op_ld rfl pl_2 ?_ ?_) rfl ?_; rotate_left 4; (· repeat (first | assumption | exact List.mem_cons_self | apply List.mem_cons_of_mem)); (· first | assumption | rfl)))
  have hWT0 : Watch l tries bp p0 aF cF BF M := ⟨hM, R0, hb0, z1, by rw [z2, hFl]; exact hRF⟩
  have hlen0 : (l.take p0.asked).length = i := by rw [z2]; exact hFl
  clear hRF hM R0 hb0 hK hKl hFl z1 z2 z3 hp0 m5
  refine T_loopS (σ := WSt) (fun x => x.1 ≤ ts.length ∧ Watch l tries bp x.2.1 x.2.2.2.1 x.2.2.2.2.1 x.2.2.2.2.2.1 x.2.2.2.2.2.2 ∧ 0 ≤ x.2.2.1 ∧ x.2.2.1 ≤ 1000 + 30 * (x.1 : Nat)) (fun x => [(1, .slice a1 ts.length c1), (5, .pointer (some ⟨b5, 0, none⟩)), (6, .pointer (some ⟨bp, 0, none⟩)), (7, .pointer (some ⟨b7, 0, none⟩)), (8, .pointer (some ⟨b8, 0, none⟩)), (9, .pointer (some ⟨b9, 0, none⟩)), (11, .func (.func 16) #[] #[.pointer (some ⟨b8, 0, none⟩), .pointer (some ⟨b7, 0, none⟩), .pointer (some ⟨b9, 0, none⟩), .pointer (some ⟨b5, 0, none⟩)]), (12, .int .i64 x.2.2.1), (13, .int .i64 (x.1 : Nat))]) (fun x => (b7, Obj.cells (arr9 (Hg.askedOf x.2.1)) 43 (0, 0)) :: (b8, Obj.cells (arr9 (Hg.overF x.2.1)) 43 (0, 0)) :: (b9, Obj.cells #[.slice x.2.2.2.1 (l.take x.2.1.asked).length x.2.2.2.2.1] 22 (0, 0)) :: (x.2.2.2.2.2.1 ++ (x.2.2.2.2.2.2 ++ ((b5, Obj.cells C3 24 (0, 0)) :: (B ++ L))))) (fun x => ts.length - x.1) (0, p0, st, aF, cF, BF, M) ⟨Nat.zero_le _, hWT0, hn.1, by dsimp only; omega⟩ ?_ (fun w h => ?_) ?_
  (repeat (first | exact trivial | refine ⟨rfl, ?_⟩))
  · dsimp only
    rw [hlen0]
    exact h
  clear hWT0 hlen0
  rintro ⟨i, p, nw, aF, cF, BF, M⟩ ⟨hi, hW, hn1, hn2⟩
  dsimp only at hi hW hn1 hn2 ⊢
  by_cases hlt : i < ts.length
  · have e1 : decide (((i : Nat) : Int) < ((ts.length : Nat) : Int)) = true := decide_eq_true (by omega)
    obtain ⟨t, htt⟩ : ∃ t, ts[i]? = some t := ⟨_, List.getElem?_eq_getElem hlt⟩
    obtain ⟨ht1, ht2⟩ := hr1 t (List.mem_of_getElem? htt)
    rcases h1 with rfl | ⟨bt, ot, Ct, tt, ft, rfl, mt, qt⟩
    · simp at hlt
    obtain ⟨x0, x1, x2⟩ := qt i t htt
    repeat (first | with_reducible refine T_seq ?_ | with_reducible refine T_block ?_ | with_reducible refine T_region ?_ | with_reducible refine TL_nil ?_ | with_reducible refine TQ_then ?_ | with_reducible refine T_skip ?_ | refine TL_q (op_move rfl) rfl ?_ | refine TL_q (op_assign rfl) rfl ?_ | (refine' TL_q (op_bin rfl rfl ?_) rfl ?_; rotate_left 1; (· first | exact bin_add ⟨by omega, by omega⟩ | exact bin_sub ⟨by omega, by omega⟩ | exact bin_rem (by omega) (by omega) | exact bin_eql | exact bin_neq | exact bin_lss | exact bin_gtr | exact bin_geq | exact sbin_eql | exact sbin_neq | exact sbin_lss | exact sbin_gtr | exact sbin_add (by omega) | exact pbin_eql Try.underlying26 | exact pbin_neq Try.underlying26)) | refine TL_q (op_len_slice rfl Try.underlying34) rfl ?_ | (refine T_yes rfl ?_ ?_; (· first | with_reducible rfl | assumption | exact Bool.not_false | exact Bool.not_true)))
    -- the ticks
    refine T_loopS (σ := WSt) (fun x => x.1 ≤ 30 ∧ Watch l tries bp x.2.1 x.2.2.2.1 x.2.2.2.2.1 x.2.2.2.2.2.1 x.2.2.2.2.2.2 ∧ 0 ≤ x.2.2.1 ∧ x.2.2.1 ≤ 1000 + 30 * (i : Nat) + (x.1 : Nat) ∧ (x.1 : Int) ≤ t.1 % 30) (fun x => [(1, .slice (some ⟨bt, ot, none⟩) ts.length c1), (5, .pointer (some ⟨b5, 0, none⟩)), (6, .pointer (some ⟨bp, 0, none⟩)), (7, .pointer (some ⟨b7, 0, none⟩)), (8, .pointer (some ⟨b8, 0, none⟩)), (9, .pointer (some ⟨b9, 0, none⟩)), (11, .func (.func 16) #[] #[.pointer (some ⟨b8, 0, none⟩), .pointer (some ⟨b7, 0, none⟩), .pointer (some ⟨b9, 0, none⟩), .pointer (some ⟨b5, 0, none⟩)]), (12, .int .i64 x.2.2.1), (13, .int .i64 (i : Nat)), (14, .int .i64 (x.1 : Nat))]) (fun x => (b7, Obj.cells (arr9 (Hg.askedOf x.2.1)) 43 (0, 0)) :: (b8, Obj.cells (arr9 (Hg.overF x.2.1)) 43 (0, 0)) :: (b9, Obj.cells #[.slice x.2.2.2.1 (l.take x.2.1.asked).length x.2.2.2.2.1] 22 (0, 0)) :: (x.2.2.2.2.2.1 ++ (x.2.2.2.2.2.2 ++ ((b5, Obj.cells C3 24 (0, 0)) :: (B ++ L))))) (fun x => 30 - x.1) (0, p, nw, aF, cF, BF, M) ⟨Nat.zero_le _, hW, hn1, by dsimp only; omega, by dsimp only; omega⟩ ?_ (fun w h => h) ?_
    (repeat (first | exact trivial | refine ⟨rfl, ?_⟩))
    clear hW hn1 hn2
    rintro ⟨k, p, nw, aF, cF, BF, M⟩ ⟨hk, hW, hn1, hn2, hk30⟩
    dsimp only at hk hW hn1 hn2 hk30 ⊢
    have mt' : (bt, Obj.cells Ct tt ft) ∈ BF ++ (M ++ ((b5, Obj.cells C3 24 (0, 0)) :: (B ++ L))) := mem_r (mem_r (List.mem_cons_of_mem _ (mem_r mt)))
    by_cases hlk : (k : Int) < t.1 % 30
    · have e2 : decide (((k : Nat) : Int) < t.1 % 30) = true := decide_eq_true hlk
      obtain ⟨hM, R, hb, htr, hRF⟩ := hW
      repeat (first | with_reducible refine T_seq ?_ | with_reducible refine T_block ?_ | with_reducible refine T_region ?_ | with_reducible refine TL_nil ?_ | with_reducible refine TQ_then ?_ | with_reducible refine T_skip ?_ | refine TL_q (op_move rfl) rfl ?_ | refine TL_q (op_assign rfl) rfl ?_ | (refine' TL_q (op_bin rfl rfl ?_) rfl ?_; rotate_left 1; (· first | exact bin_add ⟨by omega, by omega⟩ | exact bin_sub ⟨by omega, by omega⟩ | exact bin_rem (by omega) (by omega) | exact bin_eql | exact bin_neq | exact bin_lss | exact bin_gtr | exact bin_geq | exact sbin_eql | exact sbin_neq | exact sbin_lss | exact sbin_gtr | exact sbin_add (by omega) | exact pbin_eql Try.underlying26 | exact pbin_neq Try.underlying26)) | (refine' TL_q (op_conv_int rfl Try.underlying5 Try.underlying3 ?_) rfl ?_; (· exact ⟨by omega, by omega⟩)) | (refine' TL_q (op_idx ety_34 rfl rfl ?_) rfl ?_; (· omega)) | refine TL_q (op_fld rfl fld_24_0) rfl ?_ | (refine' TL_q (op_ld rfl pl_2 ?_ ?_) rfl ?_; rotate_left 4; (· repeat (first | assumption | exact List.mem_cons_self | apply List.mem_cons_of_mem)); (· first | assumption | rfl)) | (refine T_yes rfl ?_ ?_; (· first | with_reducible rfl | assumption | exact Bool.not_false | exact Bool.not_true)))
      obtain ⟨nu, hnu⟩ : ∃ nu, nu = nw + 1 := ⟨_, rfl⟩
      rw [← hnu]
      obtain ⟨R', y1, y2, y3, y4, y5, y6, y7⟩ := Hg.row_tick R hb nu
      refine TL_perm permM ?_
      refine TL_opT (op_call hb_9 rfl (Tick_P hM hb nu)) rfl ?_
      rintro _ _ ⟨ag, cg, az, cz, Bg, Bs, M', rfl, hRg, hRs, hM', rfl⟩
      have hb' := tick_begins p nu
      have hl2 := (flat_tick p nu).resolve_right (by have := hM.len; omega)
      obtain ⟨gone, hgone⟩ : ∃ x, x = (Hg.tick p nu).2.1 := ⟨_, rfl⟩
      obtain ⟨sends, hsends⟩ : ∃ x, x = (Hg.tick p nu).2.2 := ⟨_, rfl⟩
      obtain ⟨p', hp'⟩ : ∃ x, x = (Hg.tick p nu).1 := ⟨_, rfl⟩
      rw [← hgone] at y2 y5 y6 hRg ⊢
      rw [← hsends] at y1 y4 y6 y7 hRs ⊢
      rw [← hp'] at R' y3 y5 y6 y7 hM' hb'
      have hsl : sends.length ≤ 9 := by
        have := Hg.sub_length sends l y1 (fun u hu => (y4 u hu).1)
        omega
      have hgl : gone.length ≤ 9 := by
        have := Hg.sub_length gone l y2 (fun u hu => (y5 u hu).1)
        omega
      clear hl2 hM
      refine TL_perm permN ?_
      repeat (first | with_reducible refine T_seq ?_ | with_reducible refine T_region ?_ | with_reducible refine TL_nil ?_ | with_reducible refine TQ_then ?_ | refine TL_q (op_move rfl) rfl ?_ | refine TL_q (op_assign rfl) rfl ?_ | refine TL_q (op_extract rfl rfl) rfl ?_)
      have i2 : IRow (M' ++ (Bg ++ (Bs ++ ((b5, Obj.cells C3 24 (0, 0)) :: (B ++ L))))) (.slice az sends.length cz) sends := hRs.irow fun q hq => mem_r (mem_r (mem_l hq))
      refine TL_opT (op_callV (vs := [.slice az sends.length cz]) (cap := [.pointer (some ⟨b8, 0, none⟩), .pointer (some ⟨b7, 0, none⟩), .pointer (some ⟨b9, 0, none⟩), .pointer (some ⟨b5, 0, none⟩)]) hb_16 rfl rfl (sent_S (.slice az sends.length cz) sends (l.take p.asked) b7 b8 b9 b5 (Hg.overF p) (Hg.askedOf p) aF cF BF C3 tries i2 (mem_r (mem_r (mem_r (List.mem_cons_self ..)))) c4 hRF y1 (fun u hu => ⟨hrg u (y4 u hu).1, (y4 u hu).2.1, (R.asked0 u).1, by rw [← htr]; exact (y4 u hu).2.2⟩) (by omega) (by rw [List.length_take]; omega) (by omega))) rfl ?_
      rintro _ _ ⟨aF2, cF2, BF2, rfl, hRF2, rfl⟩
      rw [← y7] at hRF2 ⊢
      rw [arr9_congr (g := Hg.askedOf p') (fun u _ _ => (y6 u).1.symm)]
      repeat (first | with_reducible refine T_seq ?_ | with_reducible refine T_block ?_ | with_reducible refine T_region ?_ | with_reducible refine TL_nil ?_ | with_reducible refine TQ_then ?_ | with_reducible refine T_skip ?_ | refine TL_q (op_assign rfl) rfl ?_ | refine TL_q (op_not rfl) rfl ?_ | (refine T_no rfl ?_ ?_; (· first | with_reducible rfl | assumption | exact Bool.not_false | exact Bool.not_true)))
      refine T_loopS (σ := Nat) (fun m => m ≤ gone.length) (fun m => [(1, .slice (some ⟨bt, ot, none⟩) ts.length c1), (5, .pointer (some ⟨b5, 0, none⟩)), (6, .pointer (some ⟨bp, 0, none⟩)), (7, .pointer (some ⟨b7, 0, none⟩)), (8, .pointer (some ⟨b8, 0, none⟩)), (9, .pointer (some ⟨b9, 0, none⟩)), (11, .func (.func 16) #[] #[.pointer (some ⟨b8, 0, none⟩), .pointer (some ⟨b7, 0, none⟩), .pointer (some ⟨b9, 0, none⟩), .pointer (some ⟨b5, 0, none⟩)]), (12, .int .i64 nu), (13, .int .i64 (i : Nat)), (14, .int .i64 (k : Nat)), (15, .slice ag gone.length cg), (17, .int .i64 (m : Nat))]) (fun m => (b7, Obj.cells (arr9 (Hg.askedOf p')) 43 (0, 0)) :: (b8, Obj.cells (arr9 (fun u => Hg.overF p u + (if u ∈ gone.take m then 1 else 0))) 43 (0, 0)) :: (b9, Obj.cells #[.slice aF2 (l.take p'.asked).length cF2] 22 (0, 0)) :: (BF2 ++ (M' ++ (Bg ++ (Bs ++ ((b5, Obj.cells C3 24 (0, 0)) :: (B ++ L))))))) (fun m => gone.length - m) 0 (Nat.zero_le _) ?_ (fun w h => ?_) ?_
      (repeat (first | exact trivial | refine ⟨rfl, ?_⟩))
      · rw [arr9_congr (f := fun u => Hg.overF p u + (if u ∈ gone.take 0 then 1 else 0)) (g := Hg.overF p) (fun u _ _ => by simp)]
        exact h
      intro m hm
      by_cases hml : m < gone.length
      · have e3 : decide (((m : Nat) : Int) < ((gone.length : Nat) : Int)) = true := decide_eq_true (by omega)
        obtain ⟨x, hx⟩ : ∃ x, gone[m]? = some x := ⟨_, List.getElem?_eq_getElem hml⟩
        obtain ⟨v1, v2, v3⟩ := y5 x (List.mem_of_getElem? hx)
        obtain ⟨r1, r2⟩ := hrg x v1
        have hig : IRow Bg (.slice ag gone.length cg) gone := hRg.irow fun q hq => hq
        rcases hig.cut with rfl | ⟨b1, o1, C1, t1, f1, rfl, m1, q1⟩
        · simp at hml
        have cx := q1 m x hx
        have htk : gone.take (m + 1) = gone.take m ++ [x] := by
          obtain ⟨hi, rfl⟩ := List.getElem?_eq_some_iff.1 hx
          rw [List.take_succ_eq_append_getElem hi]
        have hnot : x ∉ gone.take m := by
          intro hmm
          obtain ⟨hi, rfl⟩ := List.getElem?_eq_some_iff.1 hx
          obtain ⟨i2, hi2, e⟩ := List.getElem_of_mem hmm
          have hi2' : i2 < m := by simp at hi2; omega
          rw [List.getElem_take] at e
          have := (List.getElem_inj y2).1 e
          omega
        have a8 : (arr9 fun u => Hg.overF p u + (if u ∈ gone.take m then 1 else 0))[0 + x.toNat * 1]? = some (.int .i64 0) := by rw [arr9_at _ x r1 r2, if_neg hnot, v2]; rfl
        have a7 : (arr9 (Hg.askedOf p'))[0 + x.toNat * 1]? = some (.int .i64 tries) := by rw [arr9_at _ x r1 r2, v3, htr]
        have e4 : decide (x < 0) = false := decide_eq_false (by omega)
        have e5 : decide (9 ≤ x) = false := decide_eq_false (by omega)
        have e6 : decide ((0 : Int) < 0) = false := by decide
        have e7 : (tries != tries) = false := by simp
        have m1' : (b1, Obj.cells C1 t1 f1) ∈ BF2 ++ (M' ++ (Bg ++ (Bs ++ ((b5, Obj.cells C3 24 (0, 0)) :: (B ++ L))))) := mem_r (mem_r (mem_l m1))
        have hK : ∀ q ∈ [(b1, Obj.cells C1 t1 f1), (b8, Obj.cells (arr9 (fun u => Hg.overF p u + (if u ∈ gone.take m then 1 else 0))) 43 (0, 0)), (b7, Obj.cells (arr9 (Hg.askedOf p')) 43 (0, 0)), (b5, Obj.cells C3 24 (0, 0))], q ∈ (b7, Obj.cells (arr9 (Hg.askedOf p')) 43 (0, 0)) :: (b8, Obj.cells (arr9 (fun u => Hg.overF p u + (if u ∈ gone.take m then 1 else 0))) 43 (0, 0)) :: (b9, Obj.cells #[.slice aF2 (l.take p'.asked).length cF2] 22 (0, 0)) :: (BF2 ++ (M' ++ (Bg ++ (Bs ++ ((b5, Obj.cells C3 24 (0, 0)) :: (B ++ L)))))) := fun q hq => by
          simp only [List.mem_cons, List.not_mem_nil, or_false] at hq
          rcases hq with rfl | rfl | rfl | rfl
          · exact List.mem_cons_of_mem _ (List.mem_cons_of_mem _ (List.mem_cons_of_mem _ m1'))
          · exact List.mem_cons_of_mem _ (List.mem_cons_self ..)
          · exact List.mem_cons_self ..
          · exact List.mem_cons_of_mem _ (List.mem_cons_of_mem _ (List.mem_cons_of_mem _ (mem_r (mem_r (mem_r (mem_r (List.mem_cons_self ..)))))))
        repeat (first | with_reducible refine T_seq ?_ | with_reducible refine T_block ?_ | with_reducible refine T_region ?_ | with_reducible refine TL_nil ?_ | with_reducible refine TQ_then ?_ | with_reducible refine T_skip ?_ | refine TL_q (op_move rfl) rfl ?_ | (refine' TL_q (op_bin rfl rfl ?_) rfl ?_; rotate_left 1; (· first | exact bin_add ⟨by omega, by omega⟩ | exact bin_sub ⟨by omega, by omega⟩ | exact bin_rem (by omega) (by omega) | exact bin_eql | exact bin_neq | exact bin_lss | exact bin_gtr | exact bin_geq | exact sbin_eql | exact sbin_neq | exact sbin_lss | exact sbin_gtr | exact sbin_add (by omega) | exact pbin_eql Try.underlying26 | exact pbin_neq Try.underlying26)) | refine TL_q (op_len_slice rfl Try.underlying22) rfl ?_ | (refine T_yes rfl ?_ ?_; (· first | with_reducible rfl | assumption | exact Bool.not_false | exact Bool.not_true)))
        refine T_draw follows_mixed ([(b1, Obj.cells C1 t1 f1), (b8, Obj.cells (arr9 (fun u => Hg.overF p u + (if u ∈ gone.take m then 1 else 0))) 43 (0, 0)), (b7, Obj.cells (arr9 (Hg.askedOf p')) 43 (0, 0)), (b5, Obj.cells C3 24 (0, 0))]) [] ?_
        first | (refine' TA_take 0 rfl rfl (by kernel_rfl) (quiet_q (op_move rfl)) ?_ ?_; (· first | assumption | (intro p hp; grind)))
        first | (refine' TA_take 1 rfl rfl (by kernel_rfl) (quiet_q (op_move rfl)) ?_ ?_; (· first | assumption | (intro p hp; grind)))
        first | (refine' TA_take 2 rfl rfl (by kernel_rfl) (quiet_q (op_idx ety_22 rfl rfl ?_)) ?_ ?_; (· omega); (· first | assumption | (intro p hp; grind))) | (refine' TA_take 2 rfl rfl (by kernel_rfl) (quiet_q (op_idxI ety_22 rfl rfl ?_ ?_)) ?_ ?_; (· omega); (· omega); (· first | assumption | (intro p hp; grind)))
        first | (refine' TA_take 3 rfl rfl (by kernel_rfl) (quiet_q (op_ld rfl pl_3 ?_ ?_)) ?_ ?_; rotate_left 4; (· repeat (first | assumption | exact List.mem_cons_self | apply List.mem_cons_of_mem)); (· first | assumption | rfl); (· first | assumption | (intro p hp; grind)))
        first | (refine' TA_take 4 rfl rfl (by kernel_rfl) (quiet_q (op_bin rfl rfl ?_)) ?_ ?_; rotate_left 1; (· first | exact bin_add ⟨by omega, by omega⟩ | exact bin_sub ⟨by omega, by omega⟩ | exact bin_mul ⟨by omega, by omega⟩ | exact bin_quo (by omega) (by omega) ⟨by omega, by omega⟩ | exact bin_rem (by omega) (by omega) | exact bin_eql | exact bin_neq | exact bin_lss | exact bin_leq | exact bin_gtr | exact bin_geq | exact sbin_eql | exact sbin_neq | exact sbin_lss | exact sbin_gtr | exact sbin_add (by omega)); (· first | assumption | (intro p hp; grind)))
        first | (refine' TA_take 5 rfl rfl (by kernel_rfl) (quiet_q (op_move rfl)) ?_ ?_; (· first | assumption | (intro p hp; grind)))
        first | (refine' TA_take 6 rfl rfl (by kernel_rfl) (quiet_g2 rfl rfl (by first | with_reducible rfl | assumption | exact Bool.not_false | exact Bool.not_true) (op_move rfl)) ?_ ?_; (· first | assumption | (intro p hp; grind))) | (refine TA_take 6 rfl rfl (by kernel_rfl) (quiet_no2 rfl rfl ?_) ?_ ?_; (· first | with_reducible rfl | assumption | exact Bool.not_false | exact Bool.not_true); (· first | assumption | (intro p hp; grind)))
        first | (refine' TA_take 7 rfl rfl (by kernel_rfl) (quiet_g2 rfl rfl (by first | with_reducible rfl | assumption | exact Bool.not_false | exact Bool.not_true) (op_move rfl)) ?_ ?_; (· first | assumption | (intro p hp; grind))) | (refine TA_take 7 rfl rfl (by kernel_rfl) (quiet_no2 rfl rfl ?_) ?_ ?_; (· first | with_reducible rfl | assumption | exact Bool.not_false | exact Bool.not_true); (· first | assumption | (intro p hp; grind)))
        first | (refine' TA_take 8 rfl rfl (by kernel_rfl) (quiet_g2 rfl rfl (by first | with_reducible rfl | assumption | exact Bool.not_false | exact Bool.not_true) (op_idx ety_22 rfl rfl ?_)) ?_ ?_; (· omega); (· first | assumption | (intro p hp; grind))) | (refine' TA_take 8 rfl rfl (by kernel_rfl) (quiet_g2 rfl rfl (by first | with_reducible rfl | assumption | exact Bool.not_false | exact Bool.not_true) (op_idxI ety_22 rfl rfl ?_ ?_)) ?_ ?_; (· omega); (· omega); (· first | assumption | (intro p hp; grind))) | (refine TA_take 8 rfl rfl (by kernel_rfl) (quiet_no2 rfl rfl ?_) ?_ ?_; (· first | with_reducible rfl | assumption | exact Bool.not_false | exact Bool.not_true); (· first | assumption | (intro p hp; grind)))
        first | (refine' TA_take 9 rfl rfl (by kernel_rfl) (quiet_g2 rfl rfl (by first | with_reducible rfl | assumption | exact Bool.not_false | exact Bool.not_true) (op_ld rfl pl_3 ?_ ?_)) ?_ ?_; rotate_left 4; (· repeat (first | assumption | exact List.mem_cons_self | apply List.mem_cons_of_mem)); (· first | assumption | rfl); (· first | assumption | (intro p hp; grind))) | (refine TA_take 9 rfl rfl (by kernel_rfl) (quiet_no2 rfl rfl ?_) ?_ ?_; (· first | with_reducible rfl | assumption | exact Bool.not_false | exact Bool.not_true); (· first | assumption | (intro p hp; grind)))
        first | (refine' TA_take 10 rfl rfl (by kernel_rfl) (quiet_g2 rfl rfl (by first | with_reducible rfl | assumption | exact Bool.not_false | exact Bool.not_true) (op_bin rfl rfl ?_)) ?_ ?_; rotate_left 1; (· first | exact bin_add ⟨by omega, by omega⟩ | exact bin_sub ⟨by omega, by omega⟩ | exact bin_mul ⟨by omega, by omega⟩ | exact bin_quo (by omega) (by omega) ⟨by omega, by omega⟩ | exact bin_rem (by omega) (by omega) | exact bin_eql | exact bin_neq | exact bin_lss | exact bin_leq | exact bin_gtr | exact bin_geq | exact sbin_eql | exact sbin_neq | exact sbin_lss | exact sbin_gtr | exact sbin_add (by omega)); (· first | assumption | (intro p hp; grind))) | (refine TA_take 10 rfl rfl (by kernel_rfl) (quiet_no2 rfl rfl ?_) ?_ ?_; (· first | with_reducible rfl | assumption | exact Bool.not_false | exact Bool.not_true); (· first | assumption | (intro p hp; grind)))
        first | (refine' TA_take 11 rfl rfl (by kernel_rfl) (quiet_q (op_pickT rfl ?_ rfl)) ?_ ?_; (· first | with_reducible rfl | assumption | exact Bool.not_false | exact Bool.not_true); (· first | assumption | (intro p hp; grind))) | (refine' TA_take 11 rfl rfl (by kernel_rfl) (quiet_q (op_pickF rfl ?_ rfl)) ?_ ?_; (· first | with_reducible rfl | assumption | exact Bool.not_false | exact Bool.not_true); (· first | assumption | (intro p hp; grind)))
        first | (refine' TA_take 12 rfl rfl (by kernel_rfl) (quiet_q (op_move rfl)) ?_ ?_; (· first | assumption | (intro p hp; grind)))
        first | (refine' TA_take 13 rfl rfl (by kernel_rfl) (quiet_g2 rfl rfl (by first | with_reducible rfl | assumption | exact Bool.not_false | exact Bool.not_true) (op_move rfl)) ?_ ?_; (· first | assumption | (intro p hp; grind))) | (refine TA_take 13 rfl rfl (by kernel_rfl) (quiet_no2 rfl rfl ?_) ?_ ?_; (· first | with_reducible rfl | assumption | exact Bool.not_false | exact Bool.not_true); (· first | assumption | (intro p hp; grind)))
        first | (refine' TA_take 14 rfl rfl (by kernel_rfl) (quiet_g2 rfl rfl (by first | with_reducible rfl | assumption | exact Bool.not_false | exact Bool.not_true) (op_move rfl)) ?_ ?_; (· first | assumption | (intro p hp; grind))) | (refine TA_take 14 rfl rfl (by kernel_rfl) (quiet_no2 rfl rfl ?_) ?_ ?_; (· first | with_reducible rfl | assumption | exact Bool.not_false | exact Bool.not_true); (· first | assumption | (intro p hp; grind)))
        first | (refine' TA_take 15 rfl rfl (by kernel_rfl) (quiet_g2 rfl rfl (by first | with_reducible rfl | assumption | exact Bool.not_false | exact Bool.not_true) (op_idx ety_22 rfl rfl ?_)) ?_ ?_; (· omega); (· first | assumption | (intro p hp; grind))) | (refine' TA_take 15 rfl rfl (by kernel_rfl) (quiet_g2 rfl rfl (by first | with_reducible rfl | assumption | exact Bool.not_false | exact Bool.not_true) (op_idxI ety_22 rfl rfl ?_ ?_)) ?_ ?_; (· omega); (· omega); (· first | assumption | (intro p hp; grind))) | (refine TA_take 15 rfl rfl (by kernel_rfl) (quiet_no2 rfl rfl ?_) ?_ ?_; (· first | with_reducible rfl | assumption | exact Bool.not_false | exact Bool.not_true); (· first | assumption | (intro p hp; grind)))
        first | (refine' TA_take 16 rfl rfl (by kernel_rfl) (quiet_g2 rfl rfl (by first | with_reducible rfl | assumption | exact Bool.not_false | exact Bool.not_true) (op_ld rfl pl_3 ?_ ?_)) ?_ ?_; rotate_left 4; (· repeat (first | assumption | exact List.mem_cons_self | apply List.mem_cons_of_mem)); (· first | assumption | rfl); (· first | assumption | (intro p hp; grind))) | (refine TA_take 16 rfl rfl (by kernel_rfl) (quiet_no2 rfl rfl ?_) ?_ ?_; (· first | with_reducible rfl | assumption | exact Bool.not_false | exact Bool.not_true); (· first | assumption | (intro p hp; grind)))
        first | (refine' TA_take 17 rfl rfl (by kernel_rfl) (quiet_g2 rfl rfl (by first | with_reducible rfl | assumption | exact Bool.not_false | exact Bool.not_true) (op_idxA arr_43 rfl rfl ?_ ?_)) ?_ ?_; (· omega); (· omega); (· first | assumption | (intro p hp; grind))) | (refine TA_take 17 rfl rfl (by kernel_rfl) (quiet_no2 rfl rfl ?_) ?_ ?_; (· first | with_reducible rfl | assumption | exact Bool.not_false | exact Bool.not_true); (· first | assumption | (intro p hp; grind)))
        first | (refine' TA_take 18 rfl rfl (by kernel_rfl) (quiet_g2 rfl rfl (by first | with_reducible rfl | assumption | exact Bool.not_false | exact Bool.not_true) (op_ld rfl pl_3 ?_ ?_)) ?_ ?_; rotate_left 4; (· repeat (first | assumption | exact List.mem_cons_self | apply List.mem_cons_of_mem)); (· first | assumption | rfl); (· first | assumption | (intro p hp; grind))) | (refine TA_take 18 rfl rfl (by kernel_rfl) (quiet_no2 rfl rfl ?_) ?_ ?_; (· first | with_reducible rfl | assumption | exact Bool.not_false | exact Bool.not_true); (· first | assumption | (intro p hp; grind)))
        first | (refine' TA_take 19 rfl rfl (by kernel_rfl) (quiet_g2 rfl rfl (by first | with_reducible rfl | assumption | exact Bool.not_false | exact Bool.not_true) (op_bin rfl rfl ?_)) ?_ ?_; rotate_left 1; (· first | exact bin_add ⟨by omega, by omega⟩ | exact bin_sub ⟨by omega, by omega⟩ | exact bin_mul ⟨by omega, by omega⟩ | exact bin_quo (by omega) (by omega) ⟨by omega, by omega⟩ | exact bin_rem (by omega) (by omega) | exact bin_eql | exact bin_neq | exact bin_lss | exact bin_leq | exact bin_gtr | exact bin_geq | exact sbin_eql | exact sbin_neq | exact sbin_lss | exact sbin_gtr | exact sbin_add (by omega)); (· first | assumption | (intro p hp; grind))) | (refine TA_take 19 rfl rfl (by kernel_rfl) (quiet_no2 rfl rfl ?_) ?_ ?_; (· first | with_reducible rfl | assumption | exact Bool.not_false | exact Bool.not_true); (· first | assumption | (intro p hp; grind)))
        first | (refine' TA_take 20 rfl rfl (by kernel_rfl) (quiet_q (op_pickT rfl ?_ rfl)) ?_ ?_; (· first | with_reducible rfl | assumption | exact Bool.not_false | exact Bool.not_true); (· first | assumption | (intro p hp; grind))) | (refine' TA_take 20 rfl rfl (by kernel_rfl) (quiet_q (op_pickF rfl ?_ rfl)) ?_ ?_; (· first | with_reducible rfl | assumption | exact Bool.not_false | exact Bool.not_true); (· first | assumption | (intro p hp; grind)))
        first | (refine' TA_take 21 rfl rfl (by kernel_rfl) (quiet_q (op_move rfl)) ?_ ?_; (· first | assumption | (intro p hp; grind)))
        first | (refine' TA_take 22 rfl rfl (by kernel_rfl) (quiet_g2 rfl rfl (by first | with_reducible rfl | assumption | exact Bool.not_false | exact Bool.not_true) (op_move rfl)) ?_ ?_; (· first | assumption | (intro p hp; grind))) | (refine TA_take 22 rfl rfl (by kernel_rfl) (quiet_no2 rfl rfl ?_) ?_ ?_; (· first | with_reducible rfl | assumption | exact Bool.not_false | exact Bool.not_true); (· first | assumption | (intro p hp; grind)))
        first | (refine' TA_take 23 rfl rfl (by kernel_rfl) (quiet_g2 rfl rfl (by first | with_reducible rfl | assumption | exact Bool.not_false | exact Bool.not_true) (op_move rfl)) ?_ ?_; (· first | assumption | (intro p hp; grind))) | (refine TA_take 23 rfl rfl (by kernel_rfl) (quiet_no2 rfl rfl ?_) ?_ ?_; (· first | with_reducible rfl | assumption | exact Bool.not_false | exact Bool.not_true); (· first | assumption | (intro p hp; grind)))
        first | (refine' TA_take 24 rfl rfl (by kernel_rfl) (quiet_g2 rfl rfl (by first | with_reducible rfl | assumption | exact Bool.not_false | exact Bool.not_true) (op_idx ety_22 rfl rfl ?_)) ?_ ?_; (· omega); (· first | assumption | (intro p hp; grind))) | (refine' TA_take 24 rfl rfl (by kernel_rfl) (quiet_g2 rfl rfl (by first | with_reducible rfl | assumption | exact Bool.not_false | exact Bool.not_true) (op_idxI ety_22 rfl rfl ?_ ?_)) ?_ ?_; (· omega); (· omega); (· first | assumption | (intro p hp; grind))) | (refine TA_take 24 rfl rfl (by kernel_rfl) (quiet_no2 rfl rfl ?_) ?_ ?_; (· first | with_reducible rfl | assumption | exact Bool.not_false | exact Bool.not_true); (· first | assumption | (intro p hp; grind)))
        first | (refine' TA_take 25 rfl rfl (by kernel_rfl) (quiet_g2 rfl rfl (by first | with_reducible rfl | assumption | exact Bool.not_false | exact Bool.not_true) (op_ld rfl pl_3 ?_ ?_)) ?_ ?_; rotate_left 4; (· repeat (first | assumption | exact List.mem_cons_self | apply List.mem_cons_of_mem)); (· first | assumption | rfl); (· first | assumption | (intro p hp; grind))) | (refine TA_take 25 rfl rfl (by kernel_rfl) (quiet_no2 rfl rfl ?_) ?_ ?_; (· first | with_reducible rfl | assumption | exact Bool.not_false | exact Bool.not_true); (· first | assumption | (intro p hp; grind)))
        first | (refine' TA_take 26 rfl rfl (by kernel_rfl) (quiet_g2 rfl rfl (by first | with_reducible rfl | assumption | exact Bool.not_false | exact Bool.not_true) (op_idxA arr_43 rfl rfl ?_ ?_)) ?_ ?_; (· omega); (· omega); (· first | assumption | (intro p hp; grind))) | (refine TA_take 26 rfl rfl (by kernel_rfl) (quiet_no2 rfl rfl ?_) ?_ ?_; (· first | with_reducible rfl | assumption | exact Bool.not_false | exact Bool.not_true); (· first | assumption | (intro p hp; grind)))
        first | (refine' TA_take 27 rfl rfl (by kernel_rfl) (quiet_g2 rfl rfl (by first | with_reducible rfl | assumption | exact Bool.not_false | exact Bool.not_true) (op_ld rfl pl_3 ?_ ?_)) ?_ ?_; rotate_left 4; (· repeat (first | assumption | exact List.mem_cons_self | apply List.mem_cons_of_mem)); (· first | assumption | rfl); (· first | assumption | (intro p hp; grind))) | (refine TA_take 27 rfl rfl (by kernel_rfl) (quiet_no2 rfl rfl ?_) ?_ ?_; (· first | with_reducible rfl | assumption | exact Bool.not_false | exact Bool.not_true); (· first | assumption | (intro p hp; grind)))
        first | (refine' TA_take 28 rfl rfl (by kernel_rfl) (quiet_g2 rfl rfl (by first | with_reducible rfl | assumption | exact Bool.not_false | exact Bool.not_true) (op_fld rfl fld_24_4)) ?_ ?_; (· first | assumption | (intro p hp; grind))) | (refine TA_take 28 rfl rfl (by kernel_rfl) (quiet_no2 rfl rfl ?_) ?_ ?_; (· first | with_reducible rfl | assumption | exact Bool.not_false | exact Bool.not_true); (· first | assumption | (intro p hp; grind)))
        first | (refine' TA_take 29 rfl rfl (by kernel_rfl) (quiet_g2 rfl rfl (by first | with_reducible rfl | assumption | exact Bool.not_false | exact Bool.not_true) (op_ld rfl pl_3 ?_ ?_)) ?_ ?_; rotate_left 4; (· repeat (first | assumption | exact List.mem_cons_self | apply List.mem_cons_of_mem)); (· first | assumption | rfl); (· first | assumption | (intro p hp; grind))) | (refine TA_take 29 rfl rfl (by kernel_rfl) (quiet_no2 rfl rfl ?_) ?_ ?_; (· first | with_reducible rfl | assumption | exact Bool.not_false | exact Bool.not_true); (· first | assumption | (intro p hp; grind)))
        first | (refine' TA_take 30 rfl rfl (by kernel_rfl) (quiet_g2 rfl rfl (by first | with_reducible rfl | assumption | exact Bool.not_false | exact Bool.not_true) (op_bin rfl rfl ?_)) ?_ ?_; rotate_left 1; (· first | exact bin_add ⟨by omega, by omega⟩ | exact bin_sub ⟨by omega, by omega⟩ | exact bin_mul ⟨by omega, by omega⟩ | exact bin_quo (by omega) (by omega) ⟨by omega, by omega⟩ | exact bin_rem (by omega) (by omega) | exact bin_eql | exact bin_neq | exact bin_lss | exact bin_leq | exact bin_gtr | exact bin_geq | exact sbin_eql | exact sbin_neq | exact sbin_lss | exact sbin_gtr | exact sbin_add (by omega)); (· first | assumption | (intro p hp; grind))) | (refine TA_take 30 rfl rfl (by kernel_rfl) (quiet_no2 rfl rfl ?_) ?_ ?_; (· first | with_reducible rfl | assumption | exact Bool.not_false | exact Bool.not_true); (· first | assumption | (intro p hp; grind)))
        first | (refine' TA_take 31 rfl rfl (by kernel_rfl) (quiet_q (op_pickT rfl ?_ rfl)) ?_ ?_; (· first | with_reducible rfl | assumption | exact Bool.not_false | exact Bool.not_true); (· first | assumption | (intro p hp; grind))) | (refine' TA_take 31 rfl rfl (by kernel_rfl) (quiet_q (op_pickF rfl ?_ rfl)) ?_ ?_; (· first | with_reducible rfl | assumption | exact Bool.not_false | exact Bool.not_true); (· first | assumption | (intro p hp; grind)))
        refine TA_done (by kernel_rfl) ?_
        repeat (first | with_reducible refine T_region ?_ | with_reducible refine TL_nil ?_ | with_reducible refine TQ_then ?_ | with_reducible refine TQ_block ?_ | with_reducible refine T_skip ?_ | refine TL_q (op_move rfl) rfl ?_ | refine TL_q (op_assign rfl) rfl ?_ | (refine' TL_q (op_bin rfl rfl ?_) rfl ?_; rotate_left 1; (· first | exact bin_add ⟨by omega, by omega⟩ | exact bin_sub ⟨by omega, by omega⟩ | exact bin_rem (by omega) (by omega) | exact bin_eql | exact bin_neq | exact bin_lss | exact bin_gtr | exact bin_geq | exact sbin_eql | exact sbin_neq | exact sbin_lss | exact sbin_gtr | exact sbin_add (by omega) | exact pbin_eql Try.underlying26 | exact pbin_neq Try.underlying26)) | (refine' TL_q (op_idx ety_22 rfl rfl ?_) rfl ?_; (· omega)) | (refine' TL_q (op_idxA arr_43 rfl rfl ?_ ?_) rfl ?_; (· omega); (· omega)) | (refine' TL_q (op_ld rfl pl_2 ?_ ?_) rfl ?_; rotate_left 4; (· repeat (first | assumption | exact List.mem_cons_self | apply List.mem_cons_of_mem)); (· first | assumption | rfl)) | (refine' TL_st2 rfl rfl one_3 rfl ?_ rfl ?_; rotate_left 1; (· first | assumption | rfl)) | (refine T_no rfl ?_ ?_; (· first | with_reducible rfl | assumption | exact Bool.not_false | exact Bool.not_true)))
        refine TQ_roundS (m + 1) hml ?_ (fun w h => ?_) (by omega)
        (repeat (first | exact trivial | refine ⟨rfl, ?_⟩))
        have hset : (arr9 fun u => Hg.overF p u + (if u ∈ gone.take m then 1 else 0)).setIfInBounds (0 + x.toNat * 1) (.int .i64 (0 + 1)) = arr9 fun u => Hg.overF p u + (if u ∈ gone.take (m + 1) then 1 else 0) := by
          rw [arr9_set _ _ _ r1 r2]
          refine arr9_congr fun u _ _ => ?_
          rw [htk]
          by_cases hux : u = x
          · subst hux
            rw [if_pos rfl, if_pos (by simp), v2]
          · rw [if_neg hux]
            simp [hux]
        rw [hset] at h
        exact h
      have e3 : decide (((m : Nat) : Int) < ((gone.length : Nat) : Int)) = false := decide_eq_false (by omega)
      have hmn : m = gone.length := by omega
      subst hmn
      rw [List.take_length, arr9_congr (g := Hg.overF p') (fun u _ _ => (y6 u).2.symm)]
      repeat (first | with_reducible refine T_seq ?_ | with_reducible refine T_region ?_ | with_reducible refine TL_nil ?_ | with_reducible refine TQ_then ?_ | with_reducible refine TQ_block ?_ | with_reducible refine T_exit ?_ | with_reducible refine TQ_then_exit ?_ | with_reducible refine TQ_block_exit ?_ | refine TL_q (op_move rfl) rfl ?_ | refine TL_q (op_assign rfl) rfl ?_ | (refine' TL_q (op_bin rfl rfl ?_) rfl ?_; rotate_left 1; (· first | exact bin_add ⟨by omega, by omega⟩ | exact bin_sub ⟨by omega, by omega⟩ | exact bin_rem (by omega) (by omega) | exact bin_eql | exact bin_neq | exact bin_lss | exact bin_gtr | exact bin_geq | exact sbin_eql | exact sbin_neq | exact sbin_lss | exact sbin_gtr | exact sbin_add (by omega) | exact pbin_eql Try.underlying26 | exact pbin_neq Try.underlying26)) | refine TL_q (op_len_slice rfl Try.underlying22) rfl ?_ | (refine T_no rfl ?_ ?_; (· first | with_reducible rfl | assumption | exact Bool.not_false | exact Bool.not_true)))
      refine TQ_roundS (k + 1, p', nu, aF2, cF2, BF2, M') ⟨by dsimp only; omega, ⟨hM', R', by rw [hb']; exact hb, by rw [y3]; exact htr, hRF2⟩, by dsimp only; omega, by dsimp only; omega, by dsimp only; omega⟩ ?_ (fun w h => ?_) (by dsimp only; omega)
      (repeat (first | exact trivial | refine ⟨rfl, ?_⟩))
      exact h.sub ((((List.Sublist.append_left (List.Sublist.append_left sub2 _) _).cons_cons _).cons_cons _).cons_cons _)
    have e2 : decide (((k : Nat) : Int) < t.1 % 30) = false := decide_eq_false hlk
    refine T_seq ?_
    refine T_seq ?_
    repeat (first | with_reducible refine T_region ?_ | with_reducible refine TL_nil ?_ | with_reducible refine TQ_then ?_ | with_reducible refine T_exit ?_ | with_reducible refine TQ_then_exit ?_ | with_reducible refine TQ_block_exit ?_ | refine TL_q (op_move rfl) rfl ?_ | (refine' TL_q (op_bin rfl rfl ?_) rfl ?_; rotate_left 1; (· first | exact bin_add ⟨by omega, by omega⟩ | exact bin_sub ⟨by omega, by omega⟩ | exact bin_rem (by omega) (by omega) | exact bin_eql | exact bin_neq | exact bin_lss | exact bin_gtr | exact bin_geq | exact sbin_eql | exact sbin_neq | exact sbin_lss | exact sbin_gtr | exact sbin_add (by omega) | exact pbin_eql Try.underlying26 | exact pbin_neq Try.underlying26)) | (refine' TL_q (op_conv_int rfl Try.underlying5 Try.underlying3 ?_) rfl ?_; (· exact ⟨by omega, by omega⟩)) | (refine' TL_q (op_idx ety_34 rfl rfl ?_) rfl ?_; (· omega)) | refine TL_q (op_fld rfl fld_24_0) rfl ?_ | (refine' TL_q (op_ld rfl pl_2 ?_ ?_) rfl ?_; rotate_left 4; (· repeat (first | assumption | exact List.mem_cons_self | apply List.mem_cons_of_mem)); (· first | assumption | rfl)) | (refine T_no rfl ?_ ?_; (· first | with_reducible rfl | assumption | exact Bool.not_false | exact Bool.not_true)))
    refine T_seq ?_
    repeat (first | with_reducible refine T_region ?_ | with_reducible refine TL_nil ?_ | with_reducible refine TQ_then ?_ | refine TL_q (op_move rfl) rfl ?_ | refine TL_q (op_assign rfl) rfl ?_ | (refine' TL_q (op_conv_int rfl Try.underlying5 Try.underlying3 ?_) rfl ?_; (· exact ⟨by omega, by omega⟩)) | (refine' TL_q (op_idx ety_34 rfl rfl ?_) rfl ?_; (· omega)) | refine TL_q (op_fld rfl fld_24_1) rfl ?_ | (refine' TL_q (op_ld rfl pl_2 ?_ ?_) rfl ?_; rotate_left 4; (· repeat (first | assumption | exact List.mem_cons_self | apply List.mem_cons_of_mem)); (· first | assumption | rfl)))
    -- Close
    refine T_mid (σ := Pl × Blocks) (fun x => Watch l tries bp x.1 aF cF BF x.2) (fun x => [(1, .slice (some ⟨bt, ot, none⟩) ts.length c1), (5, .pointer (some ⟨b5, 0, none⟩)), (6, .pointer (some ⟨bp, 0, none⟩)), (7, .pointer (some ⟨b7, 0, none⟩)), (8, .pointer (some ⟨b8, 0, none⟩)), (9, .pointer (some ⟨b9, 0, none⟩)), (11, .func (.func 16) #[] #[.pointer (some ⟨b8, 0, none⟩), .pointer (some ⟨b7, 0, none⟩), .pointer (some ⟨b9, 0, none⟩), .pointer (some ⟨b5, 0, none⟩)]), (12, .int .i64 nw), (13, .int .i64 (i : Nat))]) (fun x => (b7, Obj.cells (arr9 (Hg.askedOf x.1)) 43 (0, 0)) :: (b8, Obj.cells (arr9 (Hg.overF x.1)) 43 (0, 0)) :: (b9, Obj.cells #[.slice aF (l.take x.1.asked).length cF] 22 (0, 0)) :: (BF ++ (x.2 ++ ((b5, Obj.cells C3 24 (0, 0)) :: (B ++ L))))) ?_ ?_
    · obtain ⟨hM, R, hb, htr, hRF⟩ := hW
      obtain ⟨R2, q1, q2, q3, q4⟩ := Hg.row_close R t.2.1
      repeat (first | with_reducible refine T_seq ?_ | with_reducible refine T_region ?_ | refine TL_q (op_move rfl) rfl ?_)
      refine TL_perm permM ?_
      refine TL_opT (op_call hb_13 rfl (Close_P hM t.2.1)) rfl ?_
      rintro _ _ ⟨rfl, M2, hM2, rfl⟩
      refine TL_perm permM.symm ?_
      cases hc : (Hg.close p t.2.1).2 with
      | true =>
        obtain ⟨u1, u2, u3⟩ := q3 hc
        obtain ⟨r1, r2⟩ := hrg _ u1
        have a7 := arr9_at (Hg.askedOf p) t.2.1 r1 r2
        have a8 := arr9_at (Hg.overF p) t.2.1 r1 r2
        rw [u3] at a8
        have e3 : decide (9 ≤ t.2.1) = false := decide_eq_false (by omega)
        have e4 : (Hg.askedOf p t.2.1 == 0) = false := by simp; omega
        have e5 : decide ((0 : Int) < 0) = false := by decide
        repeat (first | with_reducible refine T_seq ?_ | with_reducible refine T_region ?_ | with_reducible refine TL_nil ?_ | with_reducible refine TQ_then ?_ | with_reducible refine T_skip ?_ | refine TL_q (op_move rfl) rfl ?_ | (refine' TL_q (op_bin rfl rfl ?_) rfl ?_; rotate_left 1; (· first | exact bin_add ⟨by omega, by omega⟩ | exact bin_sub ⟨by omega, by omega⟩ | exact bin_rem (by omega) (by omega) | exact bin_eql | exact bin_neq | exact bin_lss | exact bin_gtr | exact bin_geq | exact sbin_eql | exact sbin_neq | exact sbin_lss | exact sbin_gtr | exact sbin_add (by omega) | exact pbin_eql Try.underlying26 | exact pbin_neq Try.underlying26)) | (refine' TL_q (op_pickF rfl ?_ rfl) rfl ?_; (· first | with_reducible rfl | assumption | exact Bool.not_false | exact Bool.not_true)) | (refine' TL_q (op_idxA arr_43 rfl rfl ?_ ?_) rfl ?_; (· omega); (· omega)) | (refine' TL_q (op_ld rfl pl_2 ?_ ?_) rfl ?_; rotate_left 4; (· repeat (first | assumption | exact List.mem_cons_self | apply List.mem_cons_of_mem)); (· first | assumption | rfl)) | (refine TL_gpre rfl rfl ?_ ?_; (· first | with_reducible rfl | assumption | exact Bool.not_false | exact Bool.not_true)) | refine TL_gq2 (op_move rfl) rfl ?_ | (refine' TL_gq2 (op_bin rfl rfl ?_) rfl ?_; rotate_left 1; (· first | exact bin_add ⟨by omega, by omega⟩ | exact bin_sub ⟨by omega, by omega⟩ | exact bin_rem (by omega) (by omega) | exact bin_eql | exact bin_neq | exact bin_lss | exact bin_gtr | exact bin_geq | exact sbin_eql | exact sbin_neq | exact sbin_lss | exact sbin_gtr | exact sbin_add (by omega) | exact pbin_eql Try.underlying26 | exact pbin_neq Try.underlying26)) | (refine' TL_gq2 (op_idxA arr_43 rfl rfl ?_ ?_) rfl ?_; (· omega); (· omega)) | (refine' TL_gq2 (op_ld rfl pl_2 ?_ ?_) rfl ?_; rotate_left 4; (· repeat (first | assumption | exact List.mem_cons_self | apply List.mem_cons_of_mem)); (· first | assumption | rfl)) | (refine' TL_st2 rfl rfl one_3 rfl ?_ rfl ?_; rotate_left 1; (· first | assumption | rfl)) | (refine T_yes rfl ?_ ?_; (· first | with_reducible rfl | assumption | exact Bool.not_false | exact Bool.not_true)) | (refine T_no rfl ?_ ?_; (· first | with_reducible rfl | assumption | exact Bool.not_false | exact Bool.not_true)))
        refine TQ_mid ((Hg.close p t.2.1).1, M2) ⟨hM2, R2, hb, htr, hRF⟩ ?_ (fun w h => ?_)
        (repeat (first | exact trivial | refine ⟨rfl, ?_⟩))
        dsimp only
        have hset : (arr9 (Hg.overF p)).setIfInBounds (0 + t.2.1.toNat * 1) (.int .i64 (0 + 1)) = arr9 (Hg.overF (Hg.close p t.2.1).1) := by
          rw [arr9_set _ _ _ r1 r2]
          refine arr9_congr fun u _ _ => ?_
          rw [(q4 u).2]
          by_cases hu : u = t.2.1
          · subst hu
            rw [if_pos rfl, if_pos ⟨rfl, hc⟩, u3]
          · rw [if_neg hu, if_neg (fun h => hu h.1)]
            omega
        rw [hset, arr9_congr (f := Hg.askedOf p) (g := Hg.askedOf (Hg.close p t.2.1).1) (fun u _ _ => (q4 u).1.symm)] at h
        exact h
      | false =>
        repeat (first | with_reducible refine TL_nil ?_ | with_reducible refine TQ_then ?_ | with_reducible refine T_skip ?_ | (refine T_no rfl ?_ ?_; (· first | with_reducible rfl | assumption | exact Bool.not_false | exact Bool.not_true)))
        refine TQ_mid ((Hg.close p t.2.1).1, M2) ⟨hM2, R2, hb, htr, hRF⟩ ?_ (fun w h => ?_)
        (repeat (first | exact trivial | refine ⟨rfl, ?_⟩))
        dsimp only
        rw [arr9_congr (f := Hg.askedOf p) (g := Hg.askedOf (Hg.close p t.2.1).1) (fun u _ _ => (q4 u).1.symm), arr9_congr (f := Hg.overF p) (g := Hg.overF (Hg.close p t.2.1).1)] at h
        · exact h
        · intro u _ _
          rw [(q4 u).2, hc, if_neg (by simp)]
          omega
    have hn3 : nw ≤ 1000 + 30 * (i : Nat) + 30 := by omega
    clear hW mt' hk hk30 hlk e2
    rintro ⟨p, M⟩ hW
    dsimp only at hW ⊢
    have mt' : (bt, Obj.cells Ct tt ft) ∈ BF ++ (M ++ ((b5, Obj.cells C3 24 (0, 0)) :: (B ++ L))) := mem_r (mem_r (List.mem_cons_of_mem _ (mem_r mt)))
    -- More
    refine T_mid (σ := Pl × Option Addr × Nat × Blocks × Blocks) (fun x => Watch l tries bp x.1 x.2.1 x.2.2.1 x.2.2.2.1 x.2.2.2.2) (fun x => [(1, .slice (some ⟨bt, ot, none⟩) ts.length c1), (5, .pointer (some ⟨b5, 0, none⟩)), (6, .pointer (some ⟨bp, 0, none⟩)), (7, .pointer (some ⟨b7, 0, none⟩)), (8, .pointer (some ⟨b8, 0, none⟩)), (9, .pointer (some ⟨b9, 0, none⟩)), (11, .func (.func 16) #[] #[.pointer (some ⟨b8, 0, none⟩), .pointer (some ⟨b7, 0, none⟩), .pointer (some ⟨b9, 0, none⟩), .pointer (some ⟨b5, 0, none⟩)]), (12, .int .i64 nw), (13, .int .i64 (i : Nat))]) (fun x => (b7, Obj.cells (arr9 (Hg.askedOf x.1)) 43 (0, 0)) :: (b8, Obj.cells (arr9 (Hg.overF x.1)) 43 (0, 0)) :: (b9, Obj.cells #[.slice x.2.1 (l.take x.1.asked).length x.2.2.1] 22 (0, 0)) :: (x.2.2.2.1 ++ (x.2.2.2.2 ++ ((b5, Obj.cells C3 24 (0, 0)) :: (B ++ L))))) ?_ ?_
    · cases hmo : t.2.2 with
      | false =>
        repeat (first | with_reducible refine T_seq ?_ | with_reducible refine T_region ?_ | with_reducible refine TL_nil ?_ | with_reducible refine TQ_then ?_ | with_reducible refine T_skip ?_ | refine TL_q (op_move rfl) rfl ?_ | (refine' TL_q (op_idx ety_34 rfl rfl ?_) rfl ?_; (· omega)) | refine TL_q (op_fld rfl fld_36_2) rfl ?_ | (refine' TL_q (op_ld rfl pl_2 ?_ ?_) rfl ?_; rotate_left 4; (· repeat (first | assumption | exact List.mem_cons_self | apply List.mem_cons_of_mem)); (· first | assumption | rfl)) | (refine T_no rfl ?_ ?_; (· first | with_reducible rfl | assumption | exact Bool.not_false | exact Bool.not_true)))
        refine TQ_mid (p, aF, cF, BF, M) hW ?_ (fun w h => h)
        (repeat (first | exact trivial | refine ⟨rfl, ?_⟩))
      | true =>
        obtain ⟨hM, R, hb, htr, hRF⟩ := hW
        obtain ⟨R2, q1, q2⟩ := Hg.row_more R hb nw
        have hb2 := more_begins p nw
        repeat (first | with_reducible refine T_seq ?_ | with_reducible refine T_region ?_ | with_reducible refine TL_nil ?_ | with_reducible refine TQ_then ?_ | refine TL_q (op_move rfl) rfl ?_ | (refine' TL_q (op_idx ety_34 rfl rfl ?_) rfl ?_; (· omega)) | refine TL_q (op_fld rfl fld_36_2) rfl ?_ | (refine' TL_q (op_ld rfl pl_2 ?_ ?_) rfl ?_; rotate_left 4; (· repeat (first | assumption | exact List.mem_cons_self | apply List.mem_cons_of_mem)); (· first | assumption | rfl)) | (refine T_yes rfl ?_ ?_; (· first | with_reducible rfl | assumption | exact Bool.not_false | exact Bool.not_true)))
        refine TL_perm permM ?_
        refine TL_opT (op_call hb_15 rfl (More_P hM nw)) rfl ?_
        rintro _ _ ⟨rfl, M2, hM2, rfl⟩
        refine TL_perm permM.symm ?_
        rcases q2 with ⟨w1, w2, w3⟩ | ⟨w1, w2, w3, w4, w5, w6⟩
        · rw [w1]
          repeat (first | with_reducible refine T_seq ?_ | with_reducible refine T_region ?_ | with_reducible refine TL_nil ?_ | with_reducible refine TQ_then ?_ | with_reducible refine T_skip ?_ | refine TL_q (op_move rfl) rfl ?_ | refine TL_q (op_assign rfl) rfl ?_ | refine TL_q (op_extract rfl rfl) rfl ?_ | (refine' TL_q (op_pickF rfl ?_ rfl) rfl ?_; (· first | with_reducible rfl | assumption | exact Bool.not_false | exact Bool.not_true)) | (refine TL_gno rfl rfl ?_ rfl ?_; (· first | with_reducible rfl | assumption | exact Bool.not_false | exact Bool.not_true)) | (refine T_no rfl ?_ ?_; (· first | with_reducible rfl | assumption | exact Bool.not_false | exact Bool.not_true)))
          refine TQ_mid ((Hg.more p nw).1, aF, cF, BF, M2) ⟨hM2, R2, by rw [hb2]; exact hb, by rw [q1]; exact htr, by rw [w3]; exact hRF⟩ ?_ (fun w h => ?_)
          (repeat (first | exact trivial | refine ⟨rfl, ?_⟩))
          dsimp only
          rw [w3, arr9_congr (f := Hg.askedOf (Hg.more p nw).1) (g := Hg.askedOf p) (fun u _ _ => (w2 u).1), arr9_congr (f := Hg.overF (Hg.more p nw).1) (g := Hg.overF p) (fun u _ _ => (w2 u).2)]
          exact h
        · rw [w1]
          obtain ⟨u, hu⟩ : ∃ u, u = (Hg.more p nw).2.1 := ⟨_, rfl⟩
          rw [← hu] at w2 w3 w4 w5 w6 ⊢
          repeat (first | with_reducible refine T_seq ?_ | with_reducible refine T_region ?_ | with_reducible refine TL_nil ?_ | with_reducible refine TQ_then ?_ | refine TL_q (op_move rfl) rfl ?_ | refine TL_q (op_assign rfl) rfl ?_ | refine TL_q (op_extract rfl rfl) rfl ?_ | (refine TL_gpre rfl rfl ?_ ?_; (· first | with_reducible rfl | assumption | exact Bool.not_false | exact Bool.not_true)) | refine TL_gq2 (op_move rfl) rfl ?_)
          refine TG_opT (op_lit1 ety_22 rfl rfl) rfl ?_
          rintro _ _ ⟨bl, rfl, rfl⟩
          refine TL_perm permB ?_
          repeat (first | (refine TL_gpre rfl rfl ?_ ?_; (· first | with_reducible rfl | assumption | exact Bool.not_false | exact Bool.not_true)))
          have hrow : IRow ((bl, Obj.cells #[Value.int .i64 u] 3 (0, 0)) :: (M2 ++ ((b5, Obj.cells C3 24 (0, 0)) :: (B ++ L)))) (.slice (some ⟨bl, 0, none⟩) 1 1) [u] := IRow.lit (l := [u]) (List.mem_cons_self ..)
          have hne : [u].filter (fun v => Hg.askedOf p v == 0) = [u] := by simp [w4]
          refine TG_opT (op_callV (vs := [.slice (some ⟨bl, 0, none⟩) 1 1]) (cap := [.pointer (some ⟨b8, 0, none⟩), .pointer (some ⟨b7, 0, none⟩), .pointer (some ⟨b9, 0, none⟩), .pointer (some ⟨b5, 0, none⟩)]) hb_16 rfl rfl (sent_S (.slice (some ⟨bl, 0, none⟩) 1 1) [u] (l.take p.asked) b7 b8 b9 b5 (Hg.overF p) (Hg.askedOf p) aF cF BF C3 tries hrow (List.mem_cons_of_mem _ (mem_r (List.mem_cons_self ..))) c4 hRF (by simp) (fun v hv => by
            rw [List.mem_singleton.1 hv]
            exact ⟨hrg u w2, w3, by omega, by omega⟩) (by omega) (by rw [List.length_take]; omega) (by simp))) rfl ?_
          rintro _ _ ⟨aF2, cF2, BF2, rfl, hRF2, rfl⟩
          rw [hne, ← w6] at hRF2 ⊢
          rw [arr9_congr (g := Hg.askedOf (Hg.more p nw).1) (fun v _ _ => (w5 v).1.symm), arr9_congr (f := Hg.overF p) (g := Hg.overF (Hg.more p nw).1) (fun v _ _ => (w5 v).2.symm)]
          repeat (first | with_reducible refine TL_nil ?_ | with_reducible refine TQ_then ?_ | with_reducible refine T_skip ?_ | (refine' TL_q (op_pickT rfl ?_ rfl) rfl ?_; (· first | with_reducible rfl | assumption | exact Bool.not_false | exact Bool.not_true)) | (refine TL_gpre rfl rfl ?_ ?_; (· first | with_reducible rfl | assumption | exact Bool.not_false | exact Bool.not_true)) | refine TL_gq2 (op_not rfl) rfl ?_ | (refine T_no rfl ?_ ?_; (· first | with_reducible rfl | assumption | exact Bool.not_false | exact Bool.not_true)))
          refine TQ_mid ((Hg.more p nw).1, aF2, cF2, BF2, M2) ⟨hM2, R2, by rw [hb2]; exact hb, by rw [q1]; exact htr, hRF2⟩ ?_ (fun w h => ?_)
          (repeat (first | exact trivial | refine ⟨rfl, ?_⟩))
          exact h.sub ((((List.Sublist.append_left (List.sublist_cons_self _ _) _).cons_cons _).cons_cons _).cons_cons _)
    clear hW mt'
    rintro ⟨p, aF, cF, BF, M⟩ hW
    dsimp only at hW ⊢
    obtain ⟨hM, R, hb, htr, hRF⟩ := hW
    repeat (first | with_reducible refine T_seq ?_ | with_reducible refine T_block ?_ | with_reducible refine T_region ?_ | with_reducible refine TL_nil ?_ | with_reducible refine TQ_then ?_ | refine TL_q (op_assign rfl) rfl ?_)
    refine T_loopS (σ := Nat) (fun u => u ≤ 9) (fun u => [(1, .slice (some ⟨bt, ot, none⟩) ts.length c1), (5, .pointer (some ⟨b5, 0, none⟩)), (6, .pointer (some ⟨bp, 0, none⟩)), (7, .pointer (some ⟨b7, 0, none⟩)), (8, .pointer (some ⟨b8, 0, none⟩)), (9, .pointer (some ⟨b9, 0, none⟩)), (11, .func (.func 16) #[] #[.pointer (some ⟨b8, 0, none⟩), .pointer (some ⟨b7, 0, none⟩), .pointer (some ⟨b9, 0, none⟩), .pointer (some ⟨b5, 0, none⟩)]), (12, .int .i64 nw), (13, .int .i64 (i : Nat)), (21, .int .i64 ((((Hg.nine.take u).filter fun v => decide (0 < Hg.askedOf p v) && (Hg.overF p v == 0)).length : Nat) : Int)), (22, .int .i64 (u : Nat))]) (fun u => (b7, Obj.cells (arr9 (Hg.askedOf p)) 43 (0, 0)) :: (b8, Obj.cells (arr9 (Hg.overF p)) 43 (0, 0)) :: (b9, Obj.cells #[.slice aF (l.take p.asked).length cF] 22 (0, 0)) :: (BF ++ (M ++ ((b5, Obj.cells C3 24 (0, 0)) :: (B ++ L))))) (fun u => 9 - u) 0 (by decide) ?_ (fun w h => h) ?_
    (repeat (first | exact trivial | refine ⟨rfl, ?_⟩))
    intro u hu
    by_cases hu9 : u < 9
    · have e3 : decide (((u : Nat) : Int) < 9) = true := decide_eq_true (by omega)
      have a7 := arr9_at (Hg.askedOf p) (u : Nat) (by omega) (by omega)
      have a8 := arr9_at (Hg.overF p) (u : Nat) (by omega) (by omega)
      have hcl : (((Hg.nine.take u).filter fun v => decide (0 < Hg.askedOf p v) && (Hg.overF p v == 0)).length : Nat) ≤ 9 := Nat.le_trans (List.length_filter_le _ _) (by simp [Hg.nine]; omega)
      have h9u : Hg.nine[u]? = some (u : Int) := by
        have : u = 0 ∨ u = 1 ∨ u = 2 ∨ u = 3 ∨ u = 4 ∨ u = 5 ∨ u = 6 ∨ u = 7 ∨ u = 8 := by omega
        rcases this with rfl | rfl | rfl | rfl | rfl | rfl | rfl | rfl | rfl <;> rfl
      have hcn : (((Hg.nine.take (u + 1)).filter fun v => decide (0 < Hg.askedOf p v) && (Hg.overF p v == 0)).length : Nat) = (((Hg.nine.take u).filter fun v => decide (0 < Hg.askedOf p v) && (Hg.overF p v == 0)).length : Nat) + (if (decide (0 < Hg.askedOf p u) && (Hg.overF p u == 0)) = true then 1 else 0) := by
        rw [List.take_add_one, h9u, List.filter_append, List.length_append]
        congr 1
        exact filter1 _ _
      refine T_seq ?_
      refine T_seq ?_
      repeat (first | with_reducible refine T_region ?_ | with_reducible refine TL_nil ?_ | with_reducible refine TQ_then ?_ | with_reducible refine T_skip ?_ | refine TL_q (op_move rfl) rfl ?_ | (refine' TL_q (op_bin rfl rfl ?_) rfl ?_; rotate_left 1; (· first | exact bin_add ⟨by omega, by omega⟩ | exact bin_sub ⟨by omega, by omega⟩ | exact bin_rem (by omega) (by omega) | exact bin_eql | exact bin_neq | exact bin_lss | exact bin_gtr | exact bin_geq | exact sbin_eql | exact sbin_neq | exact sbin_lss | exact sbin_gtr | exact sbin_add (by omega) | exact pbin_eql Try.underlying26 | exact pbin_neq Try.underlying26)) | (refine T_yes rfl ?_ ?_; (· first | with_reducible rfl | assumption | exact Bool.not_false | exact Bool.not_true)))
      refine T_seq ?_
      repeat (first | with_reducible refine T_block ?_)
      refine T_mid (σ := Unit) (fun _ => True) (fun _ => [(1, .slice (some ⟨bt, ot, none⟩) ts.length c1), (5, .pointer (some ⟨b5, 0, none⟩)), (6, .pointer (some ⟨bp, 0, none⟩)), (7, .pointer (some ⟨b7, 0, none⟩)), (8, .pointer (some ⟨b8, 0, none⟩)), (9, .pointer (some ⟨b9, 0, none⟩)), (11, .func (.func 16) #[] #[.pointer (some ⟨b8, 0, none⟩), .pointer (some ⟨b7, 0, none⟩), .pointer (some ⟨b9, 0, none⟩), .pointer (some ⟨b5, 0, none⟩)]), (12, .int .i64 nw), (13, .int .i64 (i : Nat)), (21, .int .i64 ((((Hg.nine.take (u + 1)).filter fun v => decide (0 < Hg.askedOf p v) && (Hg.overF p v == 0)).length : Nat) : Int)), (22, .int .i64 (u : Nat))]) (fun _ => (b7, Obj.cells (arr9 (Hg.askedOf p)) 43 (0, 0)) :: (b8, Obj.cells (arr9 (Hg.overF p)) 43 (0, 0)) :: (b9, Obj.cells #[.slice aF (l.take p.asked).length cF] 22 (0, 0)) :: (BF ++ (M ++ ((b5, Obj.cells C3 24 (0, 0)) :: (B ++ L))))) ?_ ?_
      · cases h7 : decide (0 < Hg.askedOf p u) with
        | false =>
          rw [hcn, h7]
          repeat (first | with_reducible refine T_seq ?_ | with_reducible refine T_region ?_ | with_reducible refine TL_nil ?_ | with_reducible refine TQ_then ?_ | with_reducible refine T_skip ?_ | refine TL_q (op_move rfl) rfl ?_ | (refine' TL_q (op_bin rfl rfl ?_) rfl ?_; rotate_left 1; (· first | exact bin_add ⟨by omega, by omega⟩ | exact bin_sub ⟨by omega, by omega⟩ | exact bin_rem (by omega) (by omega) | exact bin_eql | exact bin_neq | exact bin_lss | exact bin_gtr | exact bin_geq | exact sbin_eql | exact sbin_neq | exact sbin_lss | exact sbin_gtr | exact sbin_add (by omega) | exact pbin_eql Try.underlying26 | exact pbin_neq Try.underlying26)) | (refine' TL_q (op_pickF rfl ?_ rfl) rfl ?_; (· first | with_reducible rfl | assumption | exact Bool.not_false | exact Bool.not_true)) | (refine' TL_q (op_idxA arr_43 rfl rfl ?_ ?_) rfl ?_; (· omega); (· omega)) | (refine' TL_q (op_ld rfl pl_2 ?_ ?_) rfl ?_; rotate_left 4; (· repeat (first | assumption | exact List.mem_cons_self | apply List.mem_cons_of_mem)); (· first | assumption | rfl)) | (refine TL_gno rfl rfl ?_ rfl ?_; (· first | with_reducible rfl | assumption | exact Bool.not_false | exact Bool.not_true)) | (refine T_no rfl ?_ ?_; (· first | with_reducible rfl | assumption | exact Bool.not_false | exact Bool.not_true)))
          refine TQ_mid () trivial ?_ (fun w h => h)
          (repeat (first | exact trivial | refine ⟨rfl, ?_⟩))
        | true =>
          cases h8 : Hg.overF p u == 0 with
          | false =>
            rw [hcn, h7, h8]
            repeat (first | with_reducible refine T_seq ?_ | with_reducible refine T_region ?_ | with_reducible refine TL_nil ?_ | with_reducible refine TQ_then ?_ | with_reducible refine T_skip ?_ | refine TL_q (op_move rfl) rfl ?_ | (refine' TL_q (op_bin rfl rfl ?_) rfl ?_; rotate_left 1; (· first | exact bin_add ⟨by omega, by omega⟩ | exact bin_sub ⟨by omega, by omega⟩ | exact bin_rem (by omega) (by omega) | exact bin_eql | exact bin_neq | exact bin_lss | exact bin_gtr | exact bin_geq | exact sbin_eql | exact sbin_neq | exact sbin_lss | exact sbin_gtr | exact sbin_add (by omega) | exact pbin_eql Try.underlying26 | exact pbin_neq Try.underlying26)) | (refine' TL_q (op_pickT rfl ?_ rfl) rfl ?_; (· first | with_reducible rfl | assumption | exact Bool.not_false | exact Bool.not_true)) | (refine' TL_q (op_idxA arr_43 rfl rfl ?_ ?_) rfl ?_; (· omega); (· omega)) | (refine' TL_q (op_ld rfl pl_2 ?_ ?_) rfl ?_; rotate_left 4; (· repeat (first | assumption | exact List.mem_cons_self | apply List.mem_cons_of_mem)); (· first | assumption | rfl)) | (refine TL_gpre rfl rfl ?_ ?_; (· first | with_reducible rfl | assumption | exact Bool.not_false | exact Bool.not_true)) | refine TL_gq2 (op_move rfl) rfl ?_ | (refine' TL_gq2 (op_bin rfl rfl ?_) rfl ?_; rotate_left 1; (· first | exact bin_add ⟨by omega, by omega⟩ | exact bin_sub ⟨by omega, by omega⟩ | exact bin_rem (by omega) (by omega) | exact bin_eql | exact bin_neq | exact bin_lss | exact bin_gtr | exact bin_geq | exact sbin_eql | exact sbin_neq | exact sbin_lss | exact sbin_gtr | exact sbin_add (by omega) | exact pbin_eql Try.underlying26 | exact pbin_neq Try.underlying26)) | (refine' TL_gq2 (op_idxA arr_43 rfl rfl ?_ ?_) rfl ?_; (· omega); (· omega)) | (refine' TL_gq2 (op_ld rfl pl_2 ?_ ?_) rfl ?_; rotate_left 4; (· repeat (first | assumption | exact List.mem_cons_self | apply List.mem_cons_of_mem)); (· first | assumption | rfl)) | (refine T_no rfl ?_ ?_; (· first | with_reducible rfl | assumption | exact Bool.not_false | exact Bool.not_true)))
            refine TQ_mid () trivial ?_ (fun w h => h)
            (repeat (first | exact trivial | refine ⟨rfl, ?_⟩))
          | true =>
            rw [hcn, h7, h8]
            repeat (first | with_reducible refine T_seq ?_ | with_reducible refine T_region ?_ | with_reducible refine TL_nil ?_ | with_reducible refine TQ_then ?_ | refine TL_q (op_move rfl) rfl ?_ | refine TL_q (op_assign rfl) rfl ?_ | (refine' TL_q (op_bin rfl rfl ?_) rfl ?_; rotate_left 1; (· first | exact bin_add ⟨by omega, by omega⟩ | exact bin_sub ⟨by omega, by omega⟩ | exact bin_rem (by omega) (by omega) | exact bin_eql | exact bin_neq | exact bin_lss | exact bin_gtr | exact bin_geq | exact sbin_eql | exact sbin_neq | exact sbin_lss | exact sbin_gtr | exact sbin_add (by omega) | exact pbin_eql Try.underlying26 | exact pbin_neq Try.underlying26)) | (refine' TL_q (op_pickT rfl ?_ rfl) rfl ?_; (· first | with_reducible rfl | assumption | exact Bool.not_false | exact Bool.not_true)) | (refine' TL_q (op_idxA arr_43 rfl rfl ?_ ?_) rfl ?_; (· omega); (· omega)) | (refine' TL_q (op_ld rfl pl_2 ?_ ?_) rfl ?_; rotate_left 4; (· repeat (first | assumption | exact List.mem_cons_self | apply List.mem_cons_of_mem)); (· first | assumption | rfl)) | (refine TL_gpre rfl rfl ?_ ?_; (· first | with_reducible rfl | assumption | exact Bool.not_false | exact Bool.not_true)) | refine TL_gq2 (op_move rfl) rfl ?_ | (refine' TL_gq2 (op_bin rfl rfl ?_) rfl ?_; rotate_left 1; (· first | exact bin_add ⟨by omega, by omega⟩ | exact bin_sub ⟨by omega, by omega⟩ | exact bin_rem (by omega) (by omega) | exact bin_eql | exact bin_neq | exact bin_lss | exact bin_gtr | exact bin_geq | exact sbin_eql | exact sbin_neq | exact sbin_lss | exact sbin_gtr | exact sbin_add (by omega) | exact pbin_eql Try.underlying26 | exact pbin_neq Try.underlying26)) | (refine' TL_gq2 (op_idxA arr_43 rfl rfl ?_ ?_) rfl ?_; (· omega); (· omega)) | (refine' TL_gq2 (op_ld rfl pl_2 ?_ ?_) rfl ?_; rotate_left 4; (· repeat (first | assumption | exact List.mem_cons_self | apply List.mem_cons_of_mem)); (· first | assumption | rfl)) | (refine T_yes rfl ?_ ?_; (· first | with_reducible rfl | assumption | exact Bool.not_false | exact Bool.not_true)))
            refine TQ_mid () trivial ?_ (fun w h => h)
            (repeat (first | exact trivial | refine ⟨rfl, ?_⟩))
      rintro _ _
      have e4 : (Hg.askedOf p u != Hg.askedOf p u) = false := by simp
      have hK : ∀ q ∈ [(b7, Obj.cells (arr9 (Hg.askedOf p)) 43 (0, 0))], q ∈ (b7, Obj.cells (arr9 (Hg.askedOf p)) 43 (0, 0)) :: (b8, Obj.cells (arr9 (Hg.overF p)) 43 (0, 0)) :: (b9, Obj.cells #[.slice aF (l.take p.asked).length cF] 22 (0, 0)) :: (BF ++ (M ++ ((b5, Obj.cells C3 24 (0, 0)) :: (B ++ L)))) := fun q hq => by
        rw [List.mem_singleton.1 hq]; exact List.mem_cons_self ..
      repeat (first | with_reducible refine T_seq ?_)
      refine T_draw follows_mixed ([(b7, Obj.cells (arr9 (Hg.askedOf p)) 43 (0, 0))]) [] ?_
      first | (refine' TA_take 0 rfl rfl (by kernel_rfl) (quiet_q (op_move rfl)) ?_ ?_; (· first | assumption | (intro p hp; grind)))
      first | (refine' TA_take 1 rfl rfl (by kernel_rfl) (quiet_q (op_move rfl)) ?_ ?_; (· first | assumption | (intro p hp; grind)))
      first | (refine' TA_take 3 rfl rfl (by kernel_rfl) (quiet_q (op_move rfl)) ?_ ?_; (· first | assumption | (intro p hp; grind)))
      first | (refine' TA_take 4 rfl rfl (by kernel_rfl) (quiet_q (op_idxA arr_43 rfl rfl ?_ ?_)) ?_ ?_; (· omega); (· omega); (· first | assumption | (intro p hp; grind)))
      first | (refine' TA_take 5 rfl rfl (by kernel_rfl) (quiet_q (op_ld rfl pl_3 ?_ ?_)) ?_ ?_; rotate_left 4; (· repeat (first | assumption | exact List.mem_cons_self | apply List.mem_cons_of_mem)); (· first | assumption | rfl); (· first | assumption | (intro p hp; grind)))
      refine TA_perm permM ?_; refine TA_oneD 2 (by kernel_rfl) rfl rfl rfl rfl (op_call hb_17 rfl (Asked_P hM ((u : Nat) : Int))) ?_; rintro _ _ ⟨rfl, rfl⟩; refine ⟨Or.inr (fun q hq => by rw [List.mem_singleton.1 hq]; exact mem_r (List.mem_cons_self ..)), ?_⟩; refine TA_perm permM.symm ?_
      first | (refine' TA_take 6 rfl rfl (by kernel_rfl) (quiet_q (op_bin rfl rfl ?_)) ?_ ?_; rotate_left 1; (· first | exact bin_add ⟨by omega, by omega⟩ | exact bin_sub ⟨by omega, by omega⟩ | exact bin_mul ⟨by omega, by omega⟩ | exact bin_quo (by omega) (by omega) ⟨by omega, by omega⟩ | exact bin_rem (by omega) (by omega) | exact bin_eql | exact bin_neq | exact bin_lss | exact bin_leq | exact bin_gtr | exact bin_geq | exact sbin_eql | exact sbin_neq | exact sbin_lss | exact sbin_gtr | exact sbin_add (by omega)); (· first | assumption | (intro p hp; grind)))
      refine TA_done (by kernel_rfl) ?_
      repeat (first | with_reducible refine T_region ?_ | with_reducible refine TL_nil ?_ | with_reducible refine TQ_then ?_ | with_reducible refine TQ_block ?_ | with_reducible refine T_skip ?_ | refine TL_q (op_move rfl) rfl ?_ | refine TL_q (op_assign rfl) rfl ?_ | (refine' TL_q (op_bin rfl rfl ?_) rfl ?_; rotate_left 1; (· first | exact bin_add ⟨by omega, by omega⟩ | exact bin_sub ⟨by omega, by omega⟩ | exact bin_rem (by omega) (by omega) | exact bin_eql | exact bin_neq | exact bin_lss | exact bin_gtr | exact bin_geq | exact sbin_eql | exact sbin_neq | exact sbin_lss | exact sbin_gtr | exact sbin_add (by omega) | exact pbin_eql Try.underlying26 | exact pbin_neq Try.underlying26)) | (refine T_no rfl ?_ ?_; (· first | with_reducible rfl | assumption | exact Bool.not_false | exact Bool.not_true)))
      refine TQ_roundS (u + 1) hu9 ?_ (fun w h => h) (by omega)
      (repeat (first | exact trivial | refine ⟨rfl, ?_⟩))
    have e3 : decide (((u : Nat) : Int) < 9) = false := decide_eq_false (by omega)
    have hu9' : u = 9 := by omega
    subst hu9'
    have hcnt : (((((Hg.nine.take 9).filter fun v => decide (0 < Hg.askedOf p v) && (Hg.overF p v == 0)).length : Nat) : Nat) : Int) = Hg.opens p := Hg.row_opens R hrg
    rw [hcnt]
    have e4 : (Hg.opens p != Hg.opens p) = false := by simp
    have hlp : p.list.length = l.length := by have := congrArg List.length R.ups; simpa using this
    have hask := R.asked
    have hlt2 : (l.take p.asked).length = p.asked := by have := R.asked; rw [List.length_take]; omega
    have e5 : (Hg.left p != ((l.length : Nat) : Int) - (((l.take p.asked).length : Nat) : Int)) = false := by
      rw [hlt2]; simp [Hg.left, hlp]
    have hK : ∀ q ∈ [(b5, Obj.cells C3 24 (0, 0)), (b9, Obj.cells #[.slice aF (l.take p.asked).length cF] 22 (0, 0))], q ∈ (b7, Obj.cells (arr9 (Hg.askedOf p)) 43 (0, 0)) :: (b8, Obj.cells (arr9 (Hg.overF p)) 43 (0, 0)) :: (b9, Obj.cells #[.slice aF (l.take p.asked).length cF] 22 (0, 0)) :: (BF ++ (M ++ ((b5, Obj.cells C3 24 (0, 0)) :: (B ++ L)))) := fun q hq => by
      simp only [List.mem_cons, List.not_mem_nil, or_false] at hq
      rcases hq with rfl | rfl
      · exact List.mem_cons_of_mem _ (List.mem_cons_of_mem _ (List.mem_cons_of_mem _ (mem_r (mem_r (List.mem_cons_self ..)))))
      · exact List.mem_cons_of_mem _ (List.mem_cons_of_mem _ (List.mem_cons_self ..))
    repeat (first | with_reducible refine T_seq ?_ | with_reducible refine T_region ?_ | with_reducible refine TL_nil ?_ | with_reducible refine TQ_then ?_ | with_reducible refine T_exit ?_ | with_reducible refine TQ_then_exit ?_ | with_reducible refine TQ_block_exit ?_ | refine TL_q (op_move rfl) rfl ?_ | (refine' TL_q (op_bin rfl rfl ?_) rfl ?_; rotate_left 1; (· first | exact bin_add ⟨by omega, by omega⟩ | exact bin_sub ⟨by omega, by omega⟩ | exact bin_rem (by omega) (by omega) | exact bin_eql | exact bin_neq | exact bin_lss | exact bin_gtr | exact bin_geq | exact sbin_eql | exact sbin_neq | exact sbin_lss | exact sbin_gtr | exact sbin_add (by omega) | exact pbin_eql Try.underlying26 | exact pbin_neq Try.underlying26)) | (refine T_no rfl ?_ ?_; (· first | with_reducible rfl | assumption | exact Bool.not_false | exact Bool.not_true)))
    refine T_draw follows_mixed ([(b5, Obj.cells C3 24 (0, 0)), (b9, Obj.cells #[.slice aF (l.take p.asked).length cF] 22 (0, 0))]) [] ?_
    first | (refine' TA_take 0 rfl rfl (by kernel_rfl) (quiet_q (op_move rfl)) ?_ ?_; (· first | assumption | (intro p hp; grind)))
    first | (refine' TA_take 2 rfl rfl (by kernel_rfl) (quiet_q (op_move rfl)) ?_ ?_; (· first | assumption | (intro p hp; grind)))
    refine TA_perm permM ?_; refine TA_oneD 1 (by kernel_rfl) rfl rfl rfl rfl (op_call hb_10 rfl (Open_P hM)) ?_; rintro _ _ ⟨rfl, rfl⟩; refine ⟨Or.inr (fun q hq => permM.mem_iff.1 (hK q hq)), ?_⟩; refine TA_perm permM.symm ?_
    first | (refine' TA_take 3 rfl rfl (by kernel_rfl) (quiet_q (op_bin rfl rfl ?_)) ?_ ?_; rotate_left 1; (· first | exact bin_add ⟨by omega, by omega⟩ | exact bin_sub ⟨by omega, by omega⟩ | exact bin_mul ⟨by omega, by omega⟩ | exact bin_quo (by omega) (by omega) ⟨by omega, by omega⟩ | exact bin_rem (by omega) (by omega) | exact bin_eql | exact bin_neq | exact bin_lss | exact bin_leq | exact bin_gtr | exact bin_geq | exact sbin_eql | exact sbin_neq | exact sbin_lss | exact sbin_gtr | exact sbin_add (by omega)); (· first | assumption | (intro p hp; grind)))
    first | (refine' TA_take 4 rfl rfl (by kernel_rfl) (quiet_q (op_move rfl)) ?_ ?_; (· first | assumption | (intro p hp; grind)))
    first | (refine' TA_take 5 rfl rfl (by kernel_rfl) (quiet_g2 rfl rfl (by first | with_reducible rfl | assumption | exact Bool.not_false | exact Bool.not_true) (op_move rfl)) ?_ ?_; (· first | assumption | (intro p hp; grind))) | (refine TA_take 5 rfl rfl (by kernel_rfl) (quiet_no2 rfl rfl ?_) ?_ ?_; (· first | with_reducible rfl | assumption | exact Bool.not_false | exact Bool.not_true); (· first | assumption | (intro p hp; grind)))
    first | (refine' TA_take 7 rfl rfl (by kernel_rfl) (quiet_g2 rfl rfl (by first | with_reducible rfl | assumption | exact Bool.not_false | exact Bool.not_true) (op_fld rfl fld_24_0)) ?_ ?_; (· first | assumption | (intro p hp; grind))) | (refine TA_take 7 rfl rfl (by kernel_rfl) (quiet_no2 rfl rfl ?_) ?_ ?_; (· first | with_reducible rfl | assumption | exact Bool.not_false | exact Bool.not_true); (· first | assumption | (intro p hp; grind)))
    first | (refine' TA_take 8 rfl rfl (by kernel_rfl) (quiet_g2 rfl rfl (by first | with_reducible rfl | assumption | exact Bool.not_false | exact Bool.not_true) (op_ld rfl pl_22 ?_ ?_)) ?_ ?_; rotate_left 4; (· repeat (first | assumption | exact List.mem_cons_self | apply List.mem_cons_of_mem)); (· first | assumption | rfl); (· first | assumption | (intro p hp; grind))) | (refine TA_take 8 rfl rfl (by kernel_rfl) (quiet_no2 rfl rfl ?_) ?_ ?_; (· first | with_reducible rfl | assumption | exact Bool.not_false | exact Bool.not_true); (· first | assumption | (intro p hp; grind)))
    first | (refine' TA_take 9 rfl rfl (by kernel_rfl) (quiet_g2 rfl rfl (by first | with_reducible rfl | assumption | exact Bool.not_false | exact Bool.not_true) (op_len_slice rfl Try.underlying22)) ?_ ?_; (· first | assumption | (intro p hp; grind))) | (refine TA_take 9 rfl rfl (by kernel_rfl) (quiet_no2 rfl rfl ?_) ?_ ?_; (· first | with_reducible rfl | assumption | exact Bool.not_false | exact Bool.not_true); (· first | assumption | (intro p hp; grind)))
    first | (refine' TA_take 10 rfl rfl (by kernel_rfl) (quiet_g2 rfl rfl (by first | with_reducible rfl | assumption | exact Bool.not_false | exact Bool.not_true) (op_ld rfl pl_22 ?_ ?_)) ?_ ?_; rotate_left 4; (· repeat (first | assumption | exact List.mem_cons_self | apply List.mem_cons_of_mem)); (· first | assumption | rfl); (· first | assumption | (intro p hp; grind))) | (refine TA_take 10 rfl rfl (by kernel_rfl) (quiet_no2 rfl rfl ?_) ?_ ?_; (· first | with_reducible rfl | assumption | exact Bool.not_false | exact Bool.not_true); (· first | assumption | (intro p hp; grind)))
    first | (refine' TA_take 11 rfl rfl (by kernel_rfl) (quiet_g2 rfl rfl (by first | with_reducible rfl | assumption | exact Bool.not_false | exact Bool.not_true) (op_len_slice rfl Try.underlying22)) ?_ ?_; (· first | assumption | (intro p hp; grind))) | (refine TA_take 11 rfl rfl (by kernel_rfl) (quiet_no2 rfl rfl ?_) ?_ ?_; (· first | with_reducible rfl | assumption | exact Bool.not_false | exact Bool.not_true); (· first | assumption | (intro p hp; grind)))
    first | (refine' TA_take 12 rfl rfl (by kernel_rfl) (quiet_g2 rfl rfl (by first | with_reducible rfl | assumption | exact Bool.not_false | exact Bool.not_true) (op_bin rfl rfl ?_)) ?_ ?_; rotate_left 1; (· first | exact bin_add ⟨by omega, by omega⟩ | exact bin_sub ⟨by omega, by omega⟩ | exact bin_mul ⟨by omega, by omega⟩ | exact bin_quo (by omega) (by omega) ⟨by omega, by omega⟩ | exact bin_rem (by omega) (by omega) | exact bin_eql | exact bin_neq | exact bin_lss | exact bin_leq | exact bin_gtr | exact bin_geq | exact sbin_eql | exact sbin_neq | exact sbin_lss | exact sbin_gtr | exact sbin_add (by omega)); (· first | assumption | (intro p hp; grind))) | (refine TA_take 12 rfl rfl (by kernel_rfl) (quiet_no2 rfl rfl ?_) ?_ ?_; (· first | with_reducible rfl | assumption | exact Bool.not_false | exact Bool.not_true); (· first | assumption | (intro p hp; grind)))
    refine TA_perm permM ?_; refine TA_oneG 6 (by kernel_rfl) rfl rfl rfl rfl (by first | with_reducible rfl | assumption) (op_call hb_11 rfl (Left_P hM)) ?_; rintro _ _ ⟨rfl, rfl⟩; refine ⟨Or.inr (fun q hq => permM.mem_iff.1 (hK q hq)), ?_⟩; refine TA_perm permM.symm ?_
    first | (refine' TA_take 13 rfl rfl (by kernel_rfl) (quiet_g2 rfl rfl (by first | with_reducible rfl | assumption | exact Bool.not_false | exact Bool.not_true) (op_bin rfl rfl ?_)) ?_ ?_; rotate_left 1; (· first | exact bin_add ⟨by omega, by omega⟩ | exact bin_sub ⟨by omega, by omega⟩ | exact bin_mul ⟨by omega, by omega⟩ | exact bin_quo (by omega) (by omega) ⟨by omega, by omega⟩ | exact bin_rem (by omega) (by omega) | exact bin_eql | exact bin_neq | exact bin_lss | exact bin_leq | exact bin_gtr | exact bin_geq | exact sbin_eql | exact sbin_neq | exact sbin_lss | exact sbin_gtr | exact sbin_add (by omega)); (· first | assumption | (intro p hp; grind))) | (refine TA_take 13 rfl rfl (by kernel_rfl) (quiet_no2 rfl rfl ?_) ?_ ?_; (· first | with_reducible rfl | assumption | exact Bool.not_false | exact Bool.not_true); (· first | assumption | (intro p hp; grind)))
    first | (refine' TA_take 14 rfl rfl (by kernel_rfl) (quiet_q (op_pickT rfl ?_ rfl)) ?_ ?_; (· first | with_reducible rfl | assumption | exact Bool.not_false | exact Bool.not_true); (· first | assumption | (intro p hp; grind))) | (refine' TA_take 14 rfl rfl (by kernel_rfl) (quiet_q (op_pickF rfl ?_ rfl)) ?_ ?_; (· first | with_reducible rfl | assumption | exact Bool.not_false | exact Bool.not_true); (· first | assumption | (intro p hp; grind)))
    refine TA_done (by kernel_rfl) ?_
    repeat (first | with_reducible refine T_region ?_ | with_reducible refine TL_nil ?_ | with_reducible refine TQ_then ?_ | with_reducible refine TQ_block ?_ | with_reducible refine T_skip ?_ | refine TL_q (op_move rfl) rfl ?_ | refine TL_q (op_assign rfl) rfl ?_ | (refine' TL_q (op_bin rfl rfl ?_) rfl ?_; rotate_left 1; (· first | exact bin_add ⟨by omega, by omega⟩ | exact bin_sub ⟨by omega, by omega⟩ | exact bin_rem (by omega) (by omega) | exact bin_eql | exact bin_neq | exact bin_lss | exact bin_gtr | exact bin_geq | exact sbin_eql | exact sbin_neq | exact sbin_lss | exact sbin_gtr | exact sbin_add (by omega) | exact pbin_eql Try.underlying26 | exact pbin_neq Try.underlying26)) | (refine T_no rfl ?_ ?_; (· first | with_reducible rfl | assumption | exact Bool.not_false | exact Bool.not_true)))
    refine TQ_roundS (i + 1, p, nw, aF, cF, BF, M) ⟨hlt, ⟨hM, R, hb, htr, hRF⟩, hn1, by dsimp only; omega⟩ ?_ (fun w h => h) (by dsimp only; omega)
    (repeat (first | exact trivial | refine ⟨rfl, ?_⟩))
  have e1 : decide (((i : Nat) : Int) < ((ts.length : Nat) : Int)) = false := decide_eq_false (by omega)
  obtain ⟨hM, R, hb, htr, hRF⟩ := hW
  have hlt2 : (l.take p.asked).length ≤ l.length := by rw [List.length_take]; omega
  have hK : ∀ q ∈ [(b5, Obj.cells C3 24 (0, 0)), (b9, Obj.cells #[.slice aF (l.take p.asked).length cF] 22 (0, 0))], q ∈ (b7, Obj.cells (arr9 (Hg.askedOf p)) 43 (0, 0)) :: (b8, Obj.cells (arr9 (Hg.overF p)) 43 (0, 0)) :: (b9, Obj.cells #[.slice aF (l.take p.asked).length cF] 22 (0, 0)) :: (BF ++ (M ++ ((b5, Obj.cells C3 24 (0, 0)) :: (B ++ L)))) := fun q hq => by
    simp only [List.mem_cons, List.not_mem_nil, or_false] at hq
    rcases hq with rfl | rfl
    · exact List.mem_cons_of_mem _ (List.mem_cons_of_mem _ (List.mem_cons_of_mem _ (mem_r (mem_r (List.mem_cons_self ..)))))
    · exact List.mem_cons_of_mem _ (List.mem_cons_of_mem _ (List.mem_cons_self ..))
  have hmin : (min (((l.take p.asked).length : Nat) : Int) ((l.length : Nat) : Int)).toNat = (l.take p.asked).length := by omega
  have hF1 : IRow ((b7, Obj.cells (arr9 (Hg.askedOf p)) 43 (0, 0)) :: (b8, Obj.cells (arr9 (Hg.overF p)) 43 (0, 0)) :: (b9, Obj.cells #[.slice aF (l.take p.asked).length cF] 22 (0, 0)) :: (BF ++ (M ++ ((b5, Obj.cells C3 24 (0, 0)) :: (B ++ L))))) (.slice aF (l.take p.asked).length cF) (l.take p.asked) := hRF.irow fun q hq => List.mem_cons_of_mem _ (List.mem_cons_of_mem _ (List.mem_cons_of_mem _ (mem_l hq)))
  have hF2 : IRow ((b7, Obj.cells (arr9 (Hg.askedOf p)) 43 (0, 0)) :: (b8, Obj.cells (arr9 (Hg.overF p)) 43 (0, 0)) :: (b9, Obj.cells #[.slice aF (l.take p.asked).length cF] 22 (0, 0)) :: (BF ++ (M ++ ((b5, Obj.cells C3 24 (0, 0)) :: (B ++ L))))) (.slice a (min (((l.take p.asked).length : Nat) : Int) ((l.length : Nat) : Int)).toNat c) (l.take (l.take p.asked).length) := by
    rw [hmin]
    exact (hi3.take (l.take p.asked).length hlt2).mono fun q hq => List.mem_cons_of_mem _ (List.mem_cons_of_mem _ (List.mem_cons_of_mem _ (mem_r (mem_r (List.mem_cons_of_mem _ (mem_l hq))))))
  have hres : (l.take p.asked == l.take (l.take p.asked).length) = true := by
    have : l.take (l.take p.asked).length = l.take p.asked := by rw [List.length_take]; exact (List.take_eq_take_min).symm
    rw [this]
    simp
  repeat (first | with_reducible refine T_seq ?_ | with_reducible refine T_region ?_ | with_reducible refine TL_nil ?_ | with_reducible refine TQ_then ?_ | with_reducible refine T_exit ?_ | with_reducible refine TQ_then_exit ?_ | with_reducible refine TQ_block_exit ?_ | refine TL_q (op_move rfl) rfl ?_ | (refine' TL_q (op_bin rfl rfl ?_) rfl ?_; rotate_left 1; (· first | exact bin_add ⟨by omega, by omega⟩ | exact bin_sub ⟨by omega, by omega⟩ | exact bin_rem (by omega) (by omega) | exact bin_eql | exact bin_neq | exact bin_lss | exact bin_gtr | exact bin_geq | exact sbin_eql | exact sbin_neq | exact sbin_lss | exact sbin_gtr | exact sbin_add (by omega) | exact pbin_eql Try.underlying26 | exact pbin_neq Try.underlying26)) | refine TL_q (op_len_slice rfl Try.underlying34) rfl ?_ | (refine T_no rfl ?_ ?_; (· first | with_reducible rfl | assumption | exact Bool.not_false | exact Bool.not_true)))
  refine T_draw follows_mixed ([(b5, Obj.cells C3 24 (0, 0)), (b9, Obj.cells #[.slice aF (l.take p.asked).length cF] 22 (0, 0))]) [] ?_
  first | (refine' TA_take 0 rfl rfl (by kernel_rfl) (quiet_q (op_ld rfl pl_22 ?_ ?_)) ?_ ?_; rotate_left 4; (· repeat (first | assumption | exact List.mem_cons_self | apply List.mem_cons_of_mem)); (· first | assumption | rfl); (· first | assumption | (intro p hp; grind)))
  first | (refine' TA_take 1 rfl rfl (by kernel_rfl) (quiet_q (op_fld rfl fld_24_0)) ?_ ?_; (· first | assumption | (intro p hp; grind)))
  first | (refine' TA_take 2 rfl rfl (by kernel_rfl) (quiet_q (op_ld rfl pl_22 ?_ ?_)) ?_ ?_; rotate_left 4; (· repeat (first | assumption | exact List.mem_cons_self | apply List.mem_cons_of_mem)); (· first | assumption | rfl); (· first | assumption | (intro p hp; grind)))
  first | (refine' TA_take 3 rfl rfl (by kernel_rfl) (quiet_q (op_ld rfl pl_22 ?_ ?_)) ?_ ?_; rotate_left 4; (· repeat (first | assumption | exact List.mem_cons_self | apply List.mem_cons_of_mem)); (· first | assumption | rfl); (· first | assumption | (intro p hp; grind)))
  first | (refine' TA_take 4 rfl rfl (by kernel_rfl) (quiet_q (op_len_slice rfl Try.underlying22)) ?_ ?_; (· first | assumption | (intro p hp; grind)))
  first | (refine' TA_take 5 rfl rfl (by kernel_rfl) (quiet_q (op_fld rfl fld_24_0)) ?_ ?_; (· first | assumption | (intro p hp; grind)))
  first | (refine' TA_take 6 rfl rfl (by kernel_rfl) (quiet_q (op_ld rfl pl_22 ?_ ?_)) ?_ ?_; rotate_left 4; (· repeat (first | assumption | exact List.mem_cons_self | apply List.mem_cons_of_mem)); (· first | assumption | rfl); (· first | assumption | (intro p hp; grind)))
  first | (refine' TA_take 7 rfl rfl (by kernel_rfl) (quiet_q (op_len_slice rfl Try.underlying22)) ?_ ?_; (· first | assumption | (intro p hp; grind)))
  first | (refine' TA_take 8 rfl rfl (by kernel_rfl) (quiet_q (op_min rfl rfl)) ?_ ?_; (· first | assumption | (intro p hp; grind)))
  first | (refine' TA_take 9 rfl rfl (by kernel_rfl) (quiet_q (op_slice_to ety_22 rfl rfl (by omega) (by omega))) ?_ ?_; (· first | assumption | (intro p hp; grind)))
  refine TA_oneD 10 (by kernel_rfl) rfl rfl rfl rfl (op_call hb_12 rfl (Ints_S _ _ _ _ hF1 hF2 (by omega))) ?_; rintro _ _ ⟨rfl, rfl⟩; refine ⟨Or.inr hK, ?_⟩
  first | (refine' TA_take 11 rfl rfl (by kernel_rfl) (quiet_q (op_assign rfl)) ?_ ?_; (· first | assumption | (intro p hp; grind)))
  refine TA_done (by kernel_rfl) ?_
  rw [hres]
  repeat (first | with_reducible refine TQ_then ?_ | with_reducible refine T_ret ?_)
  refine TQ_heap (L' := L) (fun w h => h.sub ((((((List.sublist_append_right B L).cons _).trans sub2).cons _).cons _).cons _)) ?_
  refine TQ_ret1 4 _ rfl rfl ?_
  exact ⟨rfl, rfl⟩
theorem hedgeRow_walk (vl : Value) (raw : List Int) (w0 e0 t0 r0 n0 : Int) (v1 : Value) (ts : List (Int × Int × Bool)) (W : World) (hl : IRow (allBlocks W) vl raw) (hrl : raw.length ≤ 9223372036854775807) (h1 : TRow (allBlocks W) v1 ts) (hl1 : ts.length ≤ 9223372036854775807) :
    Calls Try.prog 5 #[planV vl w0 e0 t0 r0 n0, v1] W fun e w' => e = .returned (.bool true) ∧ Below W.heap.size W w' :=
  Spec.below (hedgeRow_S vl v1 raw w0 e0 t0 r0 n0 ts hl hrl h1 hl1)
end Go.Proofs.Ytpamoacgajlkeaa
