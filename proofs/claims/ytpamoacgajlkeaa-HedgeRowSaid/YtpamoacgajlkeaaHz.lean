/-
  THE WALKS of hedge: Tick.
-/
import Derived.Test.YtpamoacgajlkeaaHy
namespace Go.Proofs.Ytpamoacgajlkeaa
open Go.RowKit
open Hg (En Pl)
set_option linter.unusedVariables false
--store2
variable {G : World} {L : Blocks}
theorem T_scopeS {P : Program} {n : Nat} {ρ : Slots} {Q : Exit → Act → World → Prop} {σ : Type} {c X : Code} (l : Nat) (hf : findLabel c l = some (.seq .skip X)) (I : σ → Prop) (ρI : σ → Slots) (LI : σ → Blocks) (μ : σ → Nat)
    (first : (∀ x, I x → T P G n (ρI x) (LI x) X (Exit.jump l (fun a w => ∃ x, I x ∧ Env n (ρI x) a ∧ Heap G w (LI x)) Q)) → T P G n ρ L c (Exit.jump l (fun a w => ∃ x, I x ∧ Env n (ρI x) a ∧ Heap G w (LI x)) Q))
    (pass : ∀ x, I x → T P G n (ρI x) (LI x) X (Exit.jump l (LoopInv G n I ρI LI μ (μ x)) Q)) : T P G n ρ L (.scope c) Q :=
  T_scope l hf I ρI LI μ (fun _ => first fun x hx => T_mono (pass x hx) fun e a w h => by
    cases e <;> first | exact h | exact ⟨h.1, by obtain ⟨y, h1, h2, h3, _⟩ := h.2; exact ⟨y, h1, h2, h3⟩⟩)
    (fun x hx => T_seq (T_skip (TQ_then (pass x hx))))
/-- What holds of a plan at all times. -/
structure Good (p : Pl) : Prop where
  len : p.list.length ≤ 9
  asked : p.asked ≤ p.list.length
  want : 1 ≤ p.want ∧ p.want ≤ 9
  tries : 1 ≤ p.tries ∧ p.tries ≤ 4
  every : 1 ≤ p.every ∧ p.every ≤ 1000
  wait : 1 ≤ p.wait ∧ p.wait ≤ 1000
  now : 0 ≤ p.start ∧ p.start ≤ p.now ∧ p.now ≤ Hg.top
  reached : 0 ≤ p.reached ∧ p.reached ≤ Hg.top
  each : ∀ x ∈ p.list, 0 ≤ x.last ∧ x.last ≤ p.now ∧ 0 ≤ x.asked ∧ x.asked ≤ p.tries
theorem Good.advance {p : Pl} (h : Good p) (t : Int) : Good (Hg.advance p t) := by
  have h1 := h.now
  have h2 : p.now ≤ (Hg.advance p t).now := by simp only [Hg.advance]; omega
  exact ⟨h.len, h.asked, h.want, h.tries, h.every, h.wait, ⟨h1.1, Int.le_trans h1.2.1 h2, by simp only [Hg.advance, Hg.top] at *; omega⟩, h.reached, fun x hx => by
    have := h.each x hx
    exact ⟨this.1, by omega, this.2.2.1, this.2.2.2⟩⟩
/-- The list when i of it have been examined. -/
def mid (q : Pl) (i : Nat) : List En := (q.list.take i).map (Hg.tickE q.now q.wait q.tries) ++ q.list.drop i
theorem mid_zero (q : Pl) : mid q 0 = q.list := by simp [mid]
theorem mid_end (q : Pl) : mid q q.list.length = (Hg.examine q).list := by simp [mid, Hg.examine]
theorem mid_length (q : Pl) (i : Nat) (h : i ≤ q.list.length) : (mid q i).length = q.list.length := by simp [mid]; omega
theorem mid_at (q : Pl) (i : Nat) (x : En) (h : q.list[i]? = some x) : (mid q i)[i]? = some x := by
  have hi := (List.getElem?_eq_some_iff.1 h).1
  unfold mid
  rw [List.getElem?_append_right (by simp; omega)]
  simp [h, Nat.min_eq_left (Nat.le_of_lt hi)]
theorem mid_succ (q : Pl) (i : Nat) (x : En) (h : q.list[i]? = some x) : mid q (i + 1) = (mid q i).set i (Hg.tickE q.now q.wait q.tries x) := by
  obtain ⟨hi, rfl⟩ := List.getElem?_eq_some_iff.1 h
  unfold mid
  rw [List.set_append_right _ _ (by simp; omega), List.take_succ_eq_append_getElem hi]
  simp only [List.map_append, List.map_cons, List.map_nil, List.append_assoc, List.length_map, List.length_take, Nat.min_eq_left (Nat.le_of_lt hi), Nat.sub_self]
  congr 1
  rw [List.drop_eq_getElem_cons hi]
  rfl
theorem take_flat {β : Type} (f : En → List β) (l : List En) (i : Nat) (x : En) (h : l[i]? = some x) : (l.take (i + 1)).flatMap f = (l.take i).flatMap f ++ f x := by
  obtain ⟨hi, rfl⟩ := List.getElem?_eq_some_iff.1 h
  rw [List.take_succ_eq_append_getElem hi, List.flatMap_append, List.flatMap_cons, List.flatMap_nil, List.append_nil]
theorem flat_le {β : Type} (f : En → List β) (l : List En) (hf : ∀ x, (f x).length ≤ 1) (i : Nat) : ((l.take i).flatMap f).length ≤ i := by
  rw [List.length_flatMap]
  have : ∀ l : List En, (l.map fun x => (f x).length).sum ≤ l.length := fun l => by
    induction l with
    | nil => simp
    | cons x r ih => have := hf x; simp; omega
  have := this (l.take i)
  rw [List.length_take] at this
  omega
theorem eflat_set : ∀ (l : List En) (i : Nat) (x y : En), l[i]? = some x → eflat (l.set i y) = ((((eflat l).set (i * 4 + 0) (.int .i64 y.up)).set (i * 4 + 1) (.int .i64 y.asked)).set (i * 4 + 2) (.int .i64 y.last)).set (i * 4 + 3) (.bool y.op)
  | [], i, x, y, h => by simp at h
  | z :: r, 0, x, y, h => by simp [eflat_cons, ecells]
  | z :: r, i + 1, x, y, h => by
    rw [List.set_cons_succ, eflat_cons, eflat_cons, eflat_set r i x y (by simpa using h)]
    rw [show (i + 1) * 4 + 0 = (i * 4 + 0) + 4 by omega, show (i + 1) * 4 + 1 = (i * 4 + 1) + 4 by omega, show (i + 1) * 4 + 2 = (i * 4 + 2) + 4 by omega, show (i + 1) * 4 + 3 = (i * 4 + 3) + 4 by omega]
    simp [ecells]
theorem set_self' {l : List Value} {i : Nat} {v : Value} (h : l[i]? = some v) : l.set i v = l := by
  obtain ⟨hi, rfl⟩ := List.getElem?_eq_some_iff.1 h
  exact List.set_getElem_self hi
theorem eflat_close (l : List En) (i : Nat) (x : En) (h : l[i]? = some x) : eflat (l.set i { x with op := false }) = (eflat l).set (i * 4 + 3) (.bool false) := by
  rw [eflat_set l i x _ h]
  have h0 := eflat_at l i 0 x h (by omega)
  have h1 := eflat_at l i 1 x h (by omega)
  have h2 := eflat_at l i 2 x h (by omega)
  rw [set_self' (l := eflat l) h0, set_self' (l := eflat l) h1, set_self' (l := eflat l) h2]
theorem eflat_again (l : List En) (i : Nat) (x : En) (k n : Int) (h : l[i]? = some x) : eflat (l.set i { x with asked := k, last := n }) = ((eflat l).set (i * 4 + 1) (.int .i64 k)).set (i * 4 + 2) (.int .i64 n) := by
  rw [eflat_set l i x _ h]
  have h0 := eflat_at l i 0 x h (by omega)
  have h3 := eflat_at l i 3 x h (by omega)
  rw [set_self' (l := eflat l) h0]
  refine set_self' ?_
  rw [List.getElem?_set_ne (by omega), List.getElem?_set_ne (by omega)]
  exact h3
/-- One that is not late. -/
theorem mid_same (q : Pl) (i : Nat) (x : En) (hx : q.list[i]? = some x) (hl : Hg.late q.now q.wait x = false) : mid q (i + 1) = mid q i ∧ (q.list.take (i + 1)).flatMap (Hg.goneE q.now q.wait q.tries) = (q.list.take i).flatMap (Hg.goneE q.now q.wait q.tries) ∧
    (q.list.take (i + 1)).flatMap (Hg.sendE q.now q.wait q.tries) = (q.list.take i).flatMap (Hg.sendE q.now q.wait q.tries) := by
  refine ⟨?_, ?_, ?_⟩
  · rw [mid_succ q i x hx]
    have : Hg.tickE q.now q.wait q.tries x = x := by simp [Hg.tickE, hl]
    rw [this]
    obtain ⟨h1, h2⟩ := List.getElem?_eq_some_iff.1 (mid_at q i x hx)
    rw [← h2]
    exact List.set_getElem_self h1
  · rw [take_flat _ _ i x hx]; simp [Hg.goneE, hl]
  · rw [take_flat _ _ i x hx]; simp [Hg.sendE, hl]
theorem mid_gone (q : Pl) (i : Nat) (x : En) (hx : q.list[i]? = some x) (hl : Hg.late q.now q.wait x = true) (ht : q.tries ≤ x.asked) : mid q (i + 1) = (mid q i).set i { x with op := false } ∧ (q.list.take (i + 1)).flatMap (Hg.goneE q.now q.wait q.tries) = (q.list.take i).flatMap (Hg.goneE q.now q.wait q.tries) ++ [x.up] ∧
    (q.list.take (i + 1)).flatMap (Hg.sendE q.now q.wait q.tries) = (q.list.take i).flatMap (Hg.sendE q.now q.wait q.tries) := by
  refine ⟨?_, ?_, ?_⟩
  · rw [mid_succ q i x hx]; simp [Hg.tickE, hl, ht]
  · rw [take_flat _ _ i x hx]; simp [Hg.goneE, hl, ht]
  · rw [take_flat _ _ i x hx]; simp [Hg.sendE, hl, ht]
theorem mid_send (q : Pl) (i : Nat) (x : En) (hx : q.list[i]? = some x) (hl : Hg.late q.now q.wait x = true) (ht : ¬ q.tries ≤ x.asked) : mid q (i + 1) = (mid q i).set i { x with asked := x.asked + 1, last := q.now } ∧ (q.list.take (i + 1)).flatMap (Hg.goneE q.now q.wait q.tries) = (q.list.take i).flatMap (Hg.goneE q.now q.wait q.tries) ∧
    (q.list.take (i + 1)).flatMap (Hg.sendE q.now q.wait q.tries) = (q.list.take i).flatMap (Hg.sendE q.now q.wait q.tries) ++ [x.up] := by
  refine ⟨?_, ?_, ?_⟩
  · rw [mid_succ q i x hx]; simp [Hg.tickE, hl, ht]
  · rw [take_flat _ _ i x hx]; simp [Hg.goneE, hl, ht]
  · rw [take_flat _ _ i x hx]; simp [Hg.sendE, hl, ht]
theorem perm_out2 {A B C D : Blocks} {p : Nat × Obj} : (p :: (A ++ (B ++ (C ++ D)))).Perm (C ++ (p :: (A ++ (B ++ D)))) := by
  have := perm_out (A := A ++ B) (B := C) (C := D) (p := p)
  simpa using this
set_option maxRecDepth 100000 in
set_option maxHeartbeats 4000000 in
theorem Tick_S (bp : Nat) (p : Pl) (a : Option Addr) (c : Nat) (B : Blocks) (now : Int) (hR : Row 62 4 (.slice a p.list.length c) p.list.length (eflat p.list) B) (hG : Good p) (hb : p.begins = true) :
    Spec Try.prog G 9 #[.pointer (some ⟨bp, 0, none⟩), .int .i64 now] ((bp, .cells (pcells p (.slice a p.list.length c)) 58 (0, 0)) :: (B ++ L)) fun u M => ∃ vg vs Bg Bs B', u = .tuple #[vg, vs] ∧
      Row 3 1 vg (Hg.tick p now).2.1.length (ints (Hg.tick p now).2.1) Bg ∧ Row 3 1 vs (Hg.tick p now).2.2.length (ints (Hg.tick p now).2.2) Bs ∧ Row 62 4 (.slice a p.list.length c) p.list.length (eflat (Hg.tick p now).1.list) B' ∧
      M = (bp, .cells (pcells (Hg.tick p now).1 (.slice a p.list.length c)) 58 (0, 0)) :: (B' ++ (Bg ++ (Bs ++ L))) := by
  have pc0 : (pcells (p) (.slice a p.list.length c))[0 + 0]? = some (.slice a p.list.length c) := rfl
  have pc1 : (pcells (p) (.slice a p.list.length c))[0 + 1]? = some (.int .i64 ((p).asked : Nat)) := rfl
  have pc2 : (pcells (p) (.slice a p.list.length c))[0 + 2]? = some (.int .i64 (p).want) := rfl
  have pc3 : (pcells (p) (.slice a p.list.length c))[0 + 3]? = some (.int .i64 (p).tries) := rfl
  have pc4 : (pcells (p) (.slice a p.list.length c))[0 + 4]? = some (.int .i64 (p).every) := rfl
  have pc5 : (pcells (p) (.slice a p.list.length c))[0 + 5]? = some (.int .i64 (p).wait) := rfl
  have pc6 : (pcells (p) (.slice a p.list.length c))[0 + 6]? = some (.int .i64 (p).start) := rfl
  have pc7 : (pcells (p) (.slice a p.list.length c))[0 + 7]? = some (.int .i64 (p).now) := rfl
  have pc8 : (pcells (p) (.slice a p.list.length c))[0 + 8]? = some (.int .i64 (p).reached) := rfl
  have pc9 : (pcells (p) (.slice a p.list.length c))[0 + 9]? = some (.bool (p).made) := rfl
  have pc10 : (pcells (p) (.slice a p.list.length c))[0 + 10]? = some (.bool (p).begins) := rfl
  have g1 : Option.isNone (some (⟨bp, 0, none⟩ : Addr)) = false := rfl
  have g2 : (!p.begins) = false := by rw [hb]; rfl
  refine Spec_of (n := 138) Try.func9 rfl rfl rfl ?_
  obtain ⟨q, hq⟩ : ∃ q, q = Hg.advance p now := ⟨_, rfl⟩
  have hGq : Good q := by rw [hq]; exact hG.advance now
  have hql : q.list = p.list := by rw [hq]; rfl
  have hqn : q.list.length = p.list.length := by rw [hql]
  repeat (first | with_reducible refine T_seq ?_ | with_reducible refine T_region ?_ | with_reducible refine TL_nil ?_ | with_reducible refine TQ_then ?_ | refine TL_q (op_assign rfl) rfl ?_)
  refine T_scopeS (σ := Nat × Value × Value × Blocks × Blocks × Blocks) 0 (by rfl)
    (fun x => x.1 ≤ q.list.length ∧ Row 3 1 x.2.1 ((q.list.take x.1).flatMap (Hg.goneE q.now q.wait q.tries)).length (ints ((q.list.take x.1).flatMap (Hg.goneE q.now q.wait q.tries))) x.2.2.2.1 ∧
      Row 3 1 x.2.2.1 ((q.list.take x.1).flatMap (Hg.sendE q.now q.wait q.tries)).length (ints ((q.list.take x.1).flatMap (Hg.sendE q.now q.wait q.tries))) x.2.2.2.2.1 ∧ Row 62 4 (.slice a p.list.length c) p.list.length (eflat (mid q x.1)) x.2.2.2.2.2)
    (fun x => [(0, .pointer (some ⟨bp, 0, none⟩)), (4, x.2.1), (5, x.2.2.1), (6, .int .i64 (x.1 : Nat))])
    (fun x => (bp, .cells (pcells q (.slice a p.list.length c)) 58 (0, 0)) :: (x.2.2.2.2.2 ++ (x.2.2.2.1 ++ (x.2.2.2.2.1 ++ L)))) (fun x => q.list.length - x.1) ?_ ?_
  · intro pass
    repeat (first | with_reducible refine T_seq ?_ | with_reducible refine T_region ?_ | with_reducible refine TL_nil ?_ | with_reducible refine TQ_then ?_ | with_reducible refine T_skip ?_ | refine TL_q (op_move rfl) rfl ?_ | (refine' TL_q (op_bin rfl rfl ?_) rfl ?_; rotate_left 1; (· first | exact bin_add ⟨by omega, by omega⟩ | exact bin_sub ⟨by omega, by omega⟩ | exact bin_quo (by omega) (by omega) ⟨by omega, by omega⟩ | exact bin_eql | exact bin_lss | exact bin_gtr | exact bin_geq | exact sbin_eql | exact sbin_lss | exact sbin_gtr | exact sbin_add (by omega) | exact pbin_eql Try.underlying26 | exact pbin_neq Try.underlying26)) | (refine' TL_q (op_pickF rfl ?_ rfl) rfl ?_; (· first | with_reducible rfl | assumption | exact Bool.not_false | exact Bool.not_true)) | (refine TL_gpre rfl rfl ?_ ?_; (· first | with_reducible rfl | assumption | exact Bool.not_false | exact Bool.not_true)) | refine TL_gq2 (op_move rfl) rfl ?_ | refine TL_gq2 (op_not rfl) rfl ?_ | refine TL_gq2 (op_nilCheck rfl) rfl ?_ | refine TL_gq2 (op_fld rfl fld_58_10) rfl ?_ | (refine' TL_gq2 (op_ld rfl pl_2 ?_ ?_) rfl ?_; rotate_left 4; (· repeat (first | assumption | exact List.mem_cons_self | apply List.mem_cons_of_mem)); (· first | assumption | rfl)) | (refine T_no rfl ?_ ?_; (· first | with_reducible rfl | assumption | exact Bool.not_false | exact Bool.not_true)))
    refine TL_opT (op_call hb_22 rfl (advance_S bp p _ now)) rfl ?_
    rintro u0 M0 hM0
    rw [hM0, ← hq]
    clear hM0 M0
    repeat (first | with_reducible refine T_seq ?_ | with_reducible refine T_region ?_ | with_reducible refine TL_nil ?_ | with_reducible refine TQ_then ?_ | refine TL_q (op_assign rfl) rfl ?_)
    refine T_label ?_
    refine TQ_then ?_
    refine T_cut _ _ ?_ ?_ (pass (0, .slice none 0 0, .slice none 0 0, [], [], B) ⟨Nat.zero_le _, Row.nil _ _, Row.nil _ _, ?_⟩)
    (repeat (first | exact trivial | refine ⟨rfl, ?_⟩))
    · exact fun w hw => hw
    · dsimp only; rw [mid_zero, hql]; exact hR
  rintro ⟨i, vg, vs, Bg, Bs, Be⟩ ⟨hi, hRg, hRs, hRe⟩
  dsimp only at hi hRg hRs hRe ⊢
  have qc0 : (pcells (q) (.slice a p.list.length c))[0 + 0]? = some (.slice a p.list.length c) := rfl
  have qc1 : (pcells (q) (.slice a p.list.length c))[0 + 1]? = some (.int .i64 ((q).asked : Nat)) := rfl
  have qc2 : (pcells (q) (.slice a p.list.length c))[0 + 2]? = some (.int .i64 (q).want) := rfl
  have qc3 : (pcells (q) (.slice a p.list.length c))[0 + 3]? = some (.int .i64 (q).tries) := rfl
  have qc4 : (pcells (q) (.slice a p.list.length c))[0 + 4]? = some (.int .i64 (q).every) := rfl
  have qc5 : (pcells (q) (.slice a p.list.length c))[0 + 5]? = some (.int .i64 (q).wait) := rfl
  have qc6 : (pcells (q) (.slice a p.list.length c))[0 + 6]? = some (.int .i64 (q).start) := rfl
  have qc7 : (pcells (q) (.slice a p.list.length c))[0 + 7]? = some (.int .i64 (q).now) := rfl
  have qc8 : (pcells (q) (.slice a p.list.length c))[0 + 8]? = some (.int .i64 (q).reached) := rfl
  have qc9 : (pcells (q) (.slice a p.list.length c))[0 + 9]? = some (.bool (q).made) := rfl
  have qc10 : (pcells (q) (.slice a p.list.length c))[0 + 10]? = some (.bool (q).begins) := rfl
  have hlen := hGq.len
  have hnow := hGq.now
  have htr := hGq.tries
  have htop : Hg.top = 1099511627776 := rfl
  obtain ⟨mg, hmg⟩ : ∃ mg, mg = ((q.list.take i).flatMap (Hg.goneE q.now q.wait q.tries)).length := ⟨_, rfl⟩
  obtain ⟨ms, hms⟩ : ∃ ms, ms = ((q.list.take i).flatMap (Hg.sendE q.now q.wait q.tries)).length := ⟨_, rfl⟩
  have hmg9 : mg ≤ i := by rw [hmg]; exact flat_le _ _ (fun x => by unfold Hg.goneE; split <;> simp) _
  have hms9 : ms ≤ i := by rw [hms]; exact flat_le _ _ (fun x => by unfold Hg.sendE; split <;> simp) _
  rw [← hmg] at hRg
  rw [← hms] at hRs
  obtain ⟨ag, cg, rfl⟩ := hRg.slice
  obtain ⟨as1, cs1, rfl⟩ := hRs.slice
  by_cases hlt : i < q.list.length
  · have g3 : decide (((i : Nat) : Int) < ((p.list.length : Nat) : Int)) = true := decide_eq_true (by omega)
    obtain ⟨x, hx⟩ : ∃ x, q.list[i]? = some x := ⟨_, List.getElem?_eq_getElem hlt⟩
    obtain ⟨e1, e2, e3, e4⟩ := hGq.each x (List.mem_of_getElem? hx)
    rcases hRe.is with ⟨_, h, _⟩ | ⟨be, cap, cur, hsl, rfl, h3, h4, h5, h6⟩
    · omega
    cases hsl
    have hat : ∀ j u, j < 4 → (ecells x)[j]? = some u → cur[0 + i * 4 + j]? = some u := fun j u hj hu => by
      have := eflat_at (mid q i) i j x (mid_at q i x hx) hj
      rw [← h6, List.getElem?_take_of_lt (by omega), hu] at this
      rw [Nat.zero_add]
      simpa using this
    have n0 : cur[0 + i * 4 + 0]? = some (.int .i64 x.up) := hat 0 _ (by omega) rfl
    have n1 : cur[0 + i * 4 + 1]? = some (.int .i64 x.asked) := hat 1 _ (by omega) rfl
    have n2 : cur[0 + i * 4 + 2]? = some (.int .i64 x.last) := hat 2 _ (by omega) rfl
    have n3 : cur[0 + i * 4 + 3]? = some (.bool x.op) := hat 3 _ (by omega) rfl
    have hK : ∀ y ∈ [(bp, Obj.cells (pcells q (.slice (some ⟨be, 0, none⟩) p.list.length c)) 58 (0, 0)), (be, Obj.cells cur 62 (0, 0))], y ∈ (bp, Obj.cells (pcells q (.slice (some ⟨be, 0, none⟩) p.list.length c)) 58 (0, 0)) :: ([(be, Obj.cells cur 62 (0, 0))] ++ (Bg ++ (Bs ++ L))) := fun y hy => by
      simp only [List.mem_cons, List.not_mem_nil, or_false] at hy
      rcases hy with rfl | rfl
      · exact List.mem_cons_self ..
      · exact List.mem_cons_of_mem _ (List.mem_cons_self ..)
    cases hop : x.op with
    | false =>
      have g4 : (!x.op) = true := by rw [hop]; rfl
      have hlate : Hg.late q.now q.wait x = false := by simp [Hg.late, hop]
      repeat (first | with_reducible refine T_seq ?_ | with_reducible refine T_region ?_ | with_reducible refine TL_nil ?_ | with_reducible refine TQ_then ?_ | refine TL_q (op_move rfl) rfl ?_ | refine TL_q (op_assign rfl) rfl ?_ | (refine' TL_q (op_bin rfl rfl ?_) rfl ?_; rotate_left 1; (· first | exact bin_add ⟨by omega, by omega⟩ | exact bin_sub ⟨by omega, by omega⟩ | exact bin_quo (by omega) (by omega) ⟨by omega, by omega⟩ | exact bin_eql | exact bin_lss | exact bin_gtr | exact bin_geq | exact sbin_eql | exact sbin_lss | exact sbin_gtr | exact sbin_add (by omega) | exact pbin_eql Try.underlying26 | exact pbin_neq Try.underlying26)) | refine TL_q (op_nilCheck rfl) rfl ?_ | refine TL_q (op_len_slice rfl Try.underlying56) rfl ?_ | (refine' TL_q (op_idx ety_56 rfl rfl ?_) rfl ?_; (· omega)) | refine TL_q (op_fld rfl fld_58_0) rfl ?_ | (refine' TL_q (op_ld rfl pl_2 ?_ ?_) rfl ?_; rotate_left 4; (· repeat (first | assumption | exact List.mem_cons_self | apply List.mem_cons_of_mem)); (· first | assumption | rfl)) | (refine T_yes rfl ?_ ?_; (· first | with_reducible rfl | assumption | exact Bool.not_false | exact Bool.not_true)))
      refine T_draw follows_mixed ([(bp, Obj.cells (pcells q (.slice (some ⟨be, 0, none⟩) p.list.length c)) 58 (0, 0)), (be, Obj.cells cur 62 (0, 0))]) [] ?_
      first | (refine' TA_take 0 rfl rfl (by kernel_rfl) (quiet_q (op_move rfl)) ?_ ?_; (· first | assumption | (intro p hp; grind)))
      first | (refine' TA_take 1 rfl rfl (by kernel_rfl) (quiet_q (op_nilCheck rfl)) ?_ ?_; (· first | assumption | (intro p hp; grind)))
      first | (refine' TA_take 2 rfl rfl (by kernel_rfl) (quiet_q (op_fld rfl fld_62_3)) ?_ ?_; (· first | assumption | (intro p hp; grind)))
      first | (refine' TA_take 3 rfl rfl (by kernel_rfl) (quiet_q (op_ld rfl pl_4 ?_ ?_)) ?_ ?_; rotate_left 4; (· repeat (first | assumption | exact List.mem_cons_self | apply List.mem_cons_of_mem)); (· first | assumption | rfl); (· first | assumption | (intro p hp; grind)))
      first | (refine' TA_take 4 rfl rfl (by kernel_rfl) (quiet_q (op_not rfl)) ?_ ?_; (· first | assumption | (intro p hp; grind)))
      first | (refine' TA_take 5 rfl rfl (by kernel_rfl) (quiet_q (op_move rfl)) ?_ ?_; (· first | assumption | (intro p hp; grind)))
      first | (refine' TA_take 6 rfl rfl (by kernel_rfl) (quiet_g2 rfl rfl (by first | with_reducible rfl | assumption | exact Bool.not_false | exact Bool.not_true) (op_move rfl)) ?_ ?_; (· first | assumption | (intro p hp; grind))) | (refine TA_take 6 rfl rfl (by kernel_rfl) (quiet_no2 rfl rfl ?_) ?_ ?_; (· first | with_reducible rfl | assumption | exact Bool.not_false | exact Bool.not_true); (· first | assumption | (intro p hp; grind)))
      first | (refine' TA_take 7 rfl rfl (by kernel_rfl) (quiet_g2 rfl rfl (by first | with_reducible rfl | assumption | exact Bool.not_false | exact Bool.not_true) (op_nilCheck rfl)) ?_ ?_; (· first | assumption | (intro p hp; grind))) | (refine TA_take 7 rfl rfl (by kernel_rfl) (quiet_no2 rfl rfl ?_) ?_ ?_; (· first | with_reducible rfl | assumption | exact Bool.not_false | exact Bool.not_true); (· first | assumption | (intro p hp; grind)))
      first | (refine' TA_take 8 rfl rfl (by kernel_rfl) (quiet_g2 rfl rfl (by first | with_reducible rfl | assumption | exact Bool.not_false | exact Bool.not_true) (op_fld rfl fld_58_7)) ?_ ?_; (· first | assumption | (intro p hp; grind))) | (refine TA_take 8 rfl rfl (by kernel_rfl) (quiet_no2 rfl rfl ?_) ?_ ?_; (· first | with_reducible rfl | assumption | exact Bool.not_false | exact Bool.not_true); (· first | assumption | (intro p hp; grind)))
      first | (refine' TA_take 9 rfl rfl (by kernel_rfl) (quiet_g2 rfl rfl (by first | with_reducible rfl | assumption | exact Bool.not_false | exact Bool.not_true) (op_ld rfl pl_2 ?_ ?_)) ?_ ?_; rotate_left 4; (· repeat (first | assumption | exact List.mem_cons_self | apply List.mem_cons_of_mem)); (· first | assumption | rfl); (· first | assumption | (intro p hp; grind))) | (refine TA_take 9 rfl rfl (by kernel_rfl) (quiet_no2 rfl rfl ?_) ?_ ?_; (· first | with_reducible rfl | assumption | exact Bool.not_false | exact Bool.not_true); (· first | assumption | (intro p hp; grind)))
      first | (refine' TA_take 10 rfl rfl (by kernel_rfl) (quiet_g2 rfl rfl (by first | with_reducible rfl | assumption | exact Bool.not_false | exact Bool.not_true) (op_move rfl)) ?_ ?_; (· first | assumption | (intro p hp; grind))) | (refine TA_take 10 rfl rfl (by kernel_rfl) (quiet_no2 rfl rfl ?_) ?_ ?_; (· first | with_reducible rfl | assumption | exact Bool.not_false | exact Bool.not_true); (· first | assumption | (intro p hp; grind)))
      first | (refine' TA_take 11 rfl rfl (by kernel_rfl) (quiet_g2 rfl rfl (by first | with_reducible rfl | assumption | exact Bool.not_false | exact Bool.not_true) (op_nilCheck rfl)) ?_ ?_; (· first | assumption | (intro p hp; grind))) | (refine TA_take 11 rfl rfl (by kernel_rfl) (quiet_no2 rfl rfl ?_) ?_ ?_; (· first | with_reducible rfl | assumption | exact Bool.not_false | exact Bool.not_true); (· first | assumption | (intro p hp; grind)))
      first | (refine' TA_take 12 rfl rfl (by kernel_rfl) (quiet_g2 rfl rfl (by first | with_reducible rfl | assumption | exact Bool.not_false | exact Bool.not_true) (op_fld rfl fld_62_2)) ?_ ?_; (· first | assumption | (intro p hp; grind))) | (refine TA_take 12 rfl rfl (by kernel_rfl) (quiet_no2 rfl rfl ?_) ?_ ?_; (· first | with_reducible rfl | assumption | exact Bool.not_false | exact Bool.not_true); (· first | assumption | (intro p hp; grind)))
      first | (refine' TA_take 13 rfl rfl (by kernel_rfl) (quiet_g2 rfl rfl (by first | with_reducible rfl | assumption | exact Bool.not_false | exact Bool.not_true) (op_ld rfl pl_2 ?_ ?_)) ?_ ?_; rotate_left 4; (· repeat (first | assumption | exact List.mem_cons_self | apply List.mem_cons_of_mem)); (· first | assumption | rfl); (· first | assumption | (intro p hp; grind))) | (refine TA_take 13 rfl rfl (by kernel_rfl) (quiet_no2 rfl rfl ?_) ?_ ?_; (· first | with_reducible rfl | assumption | exact Bool.not_false | exact Bool.not_true); (· first | assumption | (intro p hp; grind)))
      first | (refine' TA_take 14 rfl rfl (by kernel_rfl) (quiet_g2 rfl rfl (by first | with_reducible rfl | assumption | exact Bool.not_false | exact Bool.not_true) (op_bin rfl rfl ?_)) ?_ ?_; rotate_left 1; (· first | exact bin_add ⟨by omega, by omega⟩ | exact bin_sub ⟨by omega, by omega⟩ | exact bin_mul ⟨by omega, by omega⟩ | exact bin_quo (by omega) (by omega) ⟨by omega, by omega⟩ | exact bin_rem (by omega) (by omega) | exact bin_eql | exact bin_neq | exact bin_lss | exact bin_leq | exact bin_gtr | exact bin_geq | exact sbin_eql | exact sbin_neq | exact sbin_lss | exact sbin_gtr | exact sbin_add (by omega)); (· first | assumption | (intro p hp; grind))) | (refine TA_take 14 rfl rfl (by kernel_rfl) (quiet_no2 rfl rfl ?_) ?_ ?_; (· first | with_reducible rfl | assumption | exact Bool.not_false | exact Bool.not_true); (· first | assumption | (intro p hp; grind)))
      first | (refine' TA_take 15 rfl rfl (by kernel_rfl) (quiet_g2 rfl rfl (by first | with_reducible rfl | assumption | exact Bool.not_false | exact Bool.not_true) (op_move rfl)) ?_ ?_; (· first | assumption | (intro p hp; grind))) | (refine TA_take 15 rfl rfl (by kernel_rfl) (quiet_no2 rfl rfl ?_) ?_ ?_; (· first | with_reducible rfl | assumption | exact Bool.not_false | exact Bool.not_true); (· first | assumption | (intro p hp; grind)))
      first | (refine' TA_take 16 rfl rfl (by kernel_rfl) (quiet_g2 rfl rfl (by first | with_reducible rfl | assumption | exact Bool.not_false | exact Bool.not_true) (op_nilCheck rfl)) ?_ ?_; (· first | assumption | (intro p hp; grind))) | (refine TA_take 16 rfl rfl (by kernel_rfl) (quiet_no2 rfl rfl ?_) ?_ ?_; (· first | with_reducible rfl | assumption | exact Bool.not_false | exact Bool.not_true); (· first | assumption | (intro p hp; grind)))
      first | (refine' TA_take 17 rfl rfl (by kernel_rfl) (quiet_g2 rfl rfl (by first | with_reducible rfl | assumption | exact Bool.not_false | exact Bool.not_true) (op_fld rfl fld_58_5)) ?_ ?_; (· first | assumption | (intro p hp; grind))) | (refine TA_take 17 rfl rfl (by kernel_rfl) (quiet_no2 rfl rfl ?_) ?_ ?_; (· first | with_reducible rfl | assumption | exact Bool.not_false | exact Bool.not_true); (· first | assumption | (intro p hp; grind)))
      first | (refine' TA_take 18 rfl rfl (by kernel_rfl) (quiet_g2 rfl rfl (by first | with_reducible rfl | assumption | exact Bool.not_false | exact Bool.not_true) (op_ld rfl pl_2 ?_ ?_)) ?_ ?_; rotate_left 4; (· repeat (first | assumption | exact List.mem_cons_self | apply List.mem_cons_of_mem)); (· first | assumption | rfl); (· first | assumption | (intro p hp; grind))) | (refine TA_take 18 rfl rfl (by kernel_rfl) (quiet_no2 rfl rfl ?_) ?_ ?_; (· first | with_reducible rfl | assumption | exact Bool.not_false | exact Bool.not_true); (· first | assumption | (intro p hp; grind)))
      first | (refine' TA_take 19 rfl rfl (by kernel_rfl) (quiet_g2 rfl rfl (by first | with_reducible rfl | assumption | exact Bool.not_false | exact Bool.not_true) (op_bin rfl rfl ?_)) ?_ ?_; rotate_left 1; (· first | exact bin_add ⟨by omega, by omega⟩ | exact bin_sub ⟨by omega, by omega⟩ | exact bin_mul ⟨by omega, by omega⟩ | exact bin_quo (by omega) (by omega) ⟨by omega, by omega⟩ | exact bin_rem (by omega) (by omega) | exact bin_eql | exact bin_neq | exact bin_lss | exact bin_leq | exact bin_gtr | exact bin_geq | exact sbin_eql | exact sbin_neq | exact sbin_lss | exact sbin_gtr | exact sbin_add (by omega)); (· first | assumption | (intro p hp; grind))) | (refine TA_take 19 rfl rfl (by kernel_rfl) (quiet_no2 rfl rfl ?_) ?_ ?_; (· first | with_reducible rfl | assumption | exact Bool.not_false | exact Bool.not_true); (· first | assumption | (intro p hp; grind)))
      first | (refine' TA_take 20 rfl rfl (by kernel_rfl) (quiet_q (op_pickT rfl ?_ rfl)) ?_ ?_; (· first | with_reducible rfl | assumption | exact Bool.not_false | exact Bool.not_true); (· first | assumption | (intro p hp; grind))) | (refine' TA_take 20 rfl rfl (by kernel_rfl) (quiet_q (op_pickF rfl ?_ rfl)) ?_ ?_; (· first | with_reducible rfl | assumption | exact Bool.not_false | exact Bool.not_true); (· first | assumption | (intro p hp; grind)))
      refine TA_done (by kernel_rfl) ?_
      repeat (first | with_reducible refine TQ_then ?_ | (refine T_yes rfl ?_ ?_; (· first | with_reducible rfl | assumption | exact Bool.not_false | exact Bool.not_true)))
      obtain ⟨k1, k2, k3⟩ := mid_same q i x hx hlate
      refine T_goto ?_
      repeat refine TQ_then_goto ?_
      refine TQ_jump (i + 1, .slice ag mg cg, .slice as1 ms cs1, Bg, Bs, [(be, Obj.cells cur 62 (0, 0))]) ⟨hlt, ?_, ?_, ?_⟩ ?_ ?_ ?_
      · dsimp only; rw [k2, ← hmg]; exact hRg
      · dsimp only; rw [k3, ← hms]; exact hRs
      · dsimp only; rw [k1]; exact hRe
      (repeat (first | exact trivial | refine ⟨rfl, ?_⟩))
      · exact fun w hw => hw
      · dsimp only; omega
    | true =>
    have g4 : (!x.op) = false := by rw [hop]; rfl
    by_cases hw : q.now - x.last < q.wait
    · have g5 : decide (q.now - x.last < q.wait) = true := decide_eq_true hw
      have hlate : Hg.late q.now q.wait x = false := by simp [Hg.late, hop, hw]
      repeat (first | with_reducible refine T_seq ?_ | with_reducible refine T_region ?_ | with_reducible refine TL_nil ?_ | with_reducible refine TQ_then ?_ | refine TL_q (op_move rfl) rfl ?_ | refine TL_q (op_assign rfl) rfl ?_ | (refine' TL_q (op_bin rfl rfl ?_) rfl ?_; rotate_left 1; (· first | exact bin_add ⟨by omega, by omega⟩ | exact bin_sub ⟨by omega, by omega⟩ | exact bin_quo (by omega) (by omega) ⟨by omega, by omega⟩ | exact bin_eql | exact bin_lss | exact bin_gtr | exact bin_geq | exact sbin_eql | exact sbin_lss | exact sbin_gtr | exact sbin_add (by omega) | exact pbin_eql Try.underlying26 | exact pbin_neq Try.underlying26)) | refine TL_q (op_nilCheck rfl) rfl ?_ | refine TL_q (op_len_slice rfl Try.underlying56) rfl ?_ | (refine' TL_q (op_idx ety_56 rfl rfl ?_) rfl ?_; (· omega)) | refine TL_q (op_fld rfl fld_58_0) rfl ?_ | (refine' TL_q (op_ld rfl pl_2 ?_ ?_) rfl ?_; rotate_left 4; (· repeat (first | assumption | exact List.mem_cons_self | apply List.mem_cons_of_mem)); (· first | assumption | rfl)) | (refine T_yes rfl ?_ ?_; (· first | with_reducible rfl | assumption | exact Bool.not_false | exact Bool.not_true)))
      refine T_draw follows_mixed ([(bp, Obj.cells (pcells q (.slice (some ⟨be, 0, none⟩) p.list.length c)) 58 (0, 0)), (be, Obj.cells cur 62 (0, 0))]) [] ?_
      first | (refine' TA_take 0 rfl rfl (by kernel_rfl) (quiet_q (op_move rfl)) ?_ ?_; (· first | assumption | (intro p hp; grind)))
      first | (refine' TA_take 1 rfl rfl (by kernel_rfl) (quiet_q (op_nilCheck rfl)) ?_ ?_; (· first | assumption | (intro p hp; grind)))
      first | (refine' TA_take 2 rfl rfl (by kernel_rfl) (quiet_q (op_fld rfl fld_62_3)) ?_ ?_; (· first | assumption | (intro p hp; grind)))
      first | (refine' TA_take 3 rfl rfl (by kernel_rfl) (quiet_q (op_ld rfl pl_4 ?_ ?_)) ?_ ?_; rotate_left 4; (· repeat (first | assumption | exact List.mem_cons_self | apply List.mem_cons_of_mem)); (· first | assumption | rfl); (· first | assumption | (intro p hp; grind)))
      first | (refine' TA_take 4 rfl rfl (by kernel_rfl) (quiet_q (op_not rfl)) ?_ ?_; (· first | assumption | (intro p hp; grind)))
      first | (refine' TA_take 5 rfl rfl (by kernel_rfl) (quiet_q (op_move rfl)) ?_ ?_; (· first | assumption | (intro p hp; grind)))
      first | (refine' TA_take 6 rfl rfl (by kernel_rfl) (quiet_g2 rfl rfl (by first | with_reducible rfl | assumption | exact Bool.not_false | exact Bool.not_true) (op_move rfl)) ?_ ?_; (· first | assumption | (intro p hp; grind))) | (refine TA_take 6 rfl rfl (by kernel_rfl) (quiet_no2 rfl rfl ?_) ?_ ?_; (· first | with_reducible rfl | assumption | exact Bool.not_false | exact Bool.not_true); (· first | assumption | (intro p hp; grind)))
      first | (refine' TA_take 7 rfl rfl (by kernel_rfl) (quiet_g2 rfl rfl (by first | with_reducible rfl | assumption | exact Bool.not_false | exact Bool.not_true) (op_nilCheck rfl)) ?_ ?_; (· first | assumption | (intro p hp; grind))) | (refine TA_take 7 rfl rfl (by kernel_rfl) (quiet_no2 rfl rfl ?_) ?_ ?_; (· first | with_reducible rfl | assumption | exact Bool.not_false | exact Bool.not_true); (· first | assumption | (intro p hp; grind)))
      first | (refine' TA_take 8 rfl rfl (by kernel_rfl) (quiet_g2 rfl rfl (by first | with_reducible rfl | assumption | exact Bool.not_false | exact Bool.not_true) (op_fld rfl fld_58_7)) ?_ ?_; (· first | assumption | (intro p hp; grind))) | (refine TA_take 8 rfl rfl (by kernel_rfl) (quiet_no2 rfl rfl ?_) ?_ ?_; (· first | with_reducible rfl | assumption | exact Bool.not_false | exact Bool.not_true); (· first | assumption | (intro p hp; grind)))
      first | (refine' TA_take 9 rfl rfl (by kernel_rfl) (quiet_g2 rfl rfl (by first | with_reducible rfl | assumption | exact Bool.not_false | exact Bool.not_true) (op_ld rfl pl_2 ?_ ?_)) ?_ ?_; rotate_left 4; (· repeat (first | assumption | exact List.mem_cons_self | apply List.mem_cons_of_mem)); (· first | assumption | rfl); (· first | assumption | (intro p hp; grind))) | (refine TA_take 9 rfl rfl (by kernel_rfl) (quiet_no2 rfl rfl ?_) ?_ ?_; (· first | with_reducible rfl | assumption | exact Bool.not_false | exact Bool.not_true); (· first | assumption | (intro p hp; grind)))
      first | (refine' TA_take 10 rfl rfl (by kernel_rfl) (quiet_g2 rfl rfl (by first | with_reducible rfl | assumption | exact Bool.not_false | exact Bool.not_true) (op_move rfl)) ?_ ?_; (· first | assumption | (intro p hp; grind))) | (refine TA_take 10 rfl rfl (by kernel_rfl) (quiet_no2 rfl rfl ?_) ?_ ?_; (· first | with_reducible rfl | assumption | exact Bool.not_false | exact Bool.not_true); (· first | assumption | (intro p hp; grind)))
      first | (refine' TA_take 11 rfl rfl (by kernel_rfl) (quiet_g2 rfl rfl (by first | with_reducible rfl | assumption | exact Bool.not_false | exact Bool.not_true) (op_nilCheck rfl)) ?_ ?_; (· first | assumption | (intro p hp; grind))) | (refine TA_take 11 rfl rfl (by kernel_rfl) (quiet_no2 rfl rfl ?_) ?_ ?_; (· first | with_reducible rfl | assumption | exact Bool.not_false | exact Bool.not_true); (· first | assumption | (intro p hp; grind)))
      first | (refine' TA_take 12 rfl rfl (by kernel_rfl) (quiet_g2 rfl rfl (by first | with_reducible rfl | assumption | exact Bool.not_false | exact Bool.not_true) (op_fld rfl fld_62_2)) ?_ ?_; (· first | assumption | (intro p hp; grind))) | (refine TA_take 12 rfl rfl (by kernel_rfl) (quiet_no2 rfl rfl ?_) ?_ ?_; (· first | with_reducible rfl | assumption | exact Bool.not_false | exact Bool.not_true); (· first | assumption | (intro p hp; grind)))
      first | (refine' TA_take 13 rfl rfl (by kernel_rfl) (quiet_g2 rfl rfl (by first | with_reducible rfl | assumption | exact Bool.not_false | exact Bool.not_true) (op_ld rfl pl_2 ?_ ?_)) ?_ ?_; rotate_left 4; (· repeat (first | assumption | exact List.mem_cons_self | apply List.mem_cons_of_mem)); (· first | assumption | rfl); (· first | assumption | (intro p hp; grind))) | (refine TA_take 13 rfl rfl (by kernel_rfl) (quiet_no2 rfl rfl ?_) ?_ ?_; (· first | with_reducible rfl | assumption | exact Bool.not_false | exact Bool.not_true); (· first | assumption | (intro p hp; grind)))
      first | (refine' TA_take 14 rfl rfl (by kernel_rfl) (quiet_g2 rfl rfl (by first | with_reducible rfl | assumption | exact Bool.not_false | exact Bool.not_true) (op_bin rfl rfl ?_)) ?_ ?_; rotate_left 1; (· first | exact bin_add ⟨by omega, by omega⟩ | exact bin_sub ⟨by omega, by omega⟩ | exact bin_mul ⟨by omega, by omega⟩ | exact bin_quo (by omega) (by omega) ⟨by omega, by omega⟩ | exact bin_rem (by omega) (by omega) | exact bin_eql | exact bin_neq | exact bin_lss | exact bin_leq | exact bin_gtr | exact bin_geq | exact sbin_eql | exact sbin_neq | exact sbin_lss | exact sbin_gtr | exact sbin_add (by omega)); (· first | assumption | (intro p hp; grind))) | (refine TA_take 14 rfl rfl (by kernel_rfl) (quiet_no2 rfl rfl ?_) ?_ ?_; (· first | with_reducible rfl | assumption | exact Bool.not_false | exact Bool.not_true); (· first | assumption | (intro p hp; grind)))
      first | (refine' TA_take 15 rfl rfl (by kernel_rfl) (quiet_g2 rfl rfl (by first | with_reducible rfl | assumption | exact Bool.not_false | exact Bool.not_true) (op_move rfl)) ?_ ?_; (· first | assumption | (intro p hp; grind))) | (refine TA_take 15 rfl rfl (by kernel_rfl) (quiet_no2 rfl rfl ?_) ?_ ?_; (· first | with_reducible rfl | assumption | exact Bool.not_false | exact Bool.not_true); (· first | assumption | (intro p hp; grind)))
      first | (refine' TA_take 16 rfl rfl (by kernel_rfl) (quiet_g2 rfl rfl (by first | with_reducible rfl | assumption | exact Bool.not_false | exact Bool.not_true) (op_nilCheck rfl)) ?_ ?_; (· first | assumption | (intro p hp; grind))) | (refine TA_take 16 rfl rfl (by kernel_rfl) (quiet_no2 rfl rfl ?_) ?_ ?_; (· first | with_reducible rfl | assumption | exact Bool.not_false | exact Bool.not_true); (· first | assumption | (intro p hp; grind)))
      first | (refine' TA_take 17 rfl rfl (by kernel_rfl) (quiet_g2 rfl rfl (by first | with_reducible rfl | assumption | exact Bool.not_false | exact Bool.not_true) (op_fld rfl fld_58_5)) ?_ ?_; (· first | assumption | (intro p hp; grind))) | (refine TA_take 17 rfl rfl (by kernel_rfl) (quiet_no2 rfl rfl ?_) ?_ ?_; (· first | with_reducible rfl | assumption | exact Bool.not_false | exact Bool.not_true); (· first | assumption | (intro p hp; grind)))
      first | (refine' TA_take 18 rfl rfl (by kernel_rfl) (quiet_g2 rfl rfl (by first | with_reducible rfl | assumption | exact Bool.not_false | exact Bool.not_true) (op_ld rfl pl_2 ?_ ?_)) ?_ ?_; rotate_left 4; (· repeat (first | assumption | exact List.mem_cons_self | apply List.mem_cons_of_mem)); (· first | assumption | rfl); (· first | assumption | (intro p hp; grind))) | (refine TA_take 18 rfl rfl (by kernel_rfl) (quiet_no2 rfl rfl ?_) ?_ ?_; (· first | with_reducible rfl | assumption | exact Bool.not_false | exact Bool.not_true); (· first | assumption | (intro p hp; grind)))
      first | (refine' TA_take 19 rfl rfl (by kernel_rfl) (quiet_g2 rfl rfl (by first | with_reducible rfl | assumption | exact Bool.not_false | exact Bool.not_true) (op_bin rfl rfl ?_)) ?_ ?_; rotate_left 1; (· first | exact bin_add ⟨by omega, by omega⟩ | exact bin_sub ⟨by omega, by omega⟩ | exact bin_mul ⟨by omega, by omega⟩ | exact bin_quo (by omega) (by omega) ⟨by omega, by omega⟩ | exact bin_rem (by omega) (by omega) | exact bin_eql | exact bin_neq | exact bin_lss | exact bin_leq | exact bin_gtr | exact bin_geq | exact sbin_eql | exact sbin_neq | exact sbin_lss | exact sbin_gtr | exact sbin_add (by omega)); (· first | assumption | (intro p hp; grind))) | (refine TA_take 19 rfl rfl (by kernel_rfl) (quiet_no2 rfl rfl ?_) ?_ ?_; (· first | with_reducible rfl | assumption | exact Bool.not_false | exact Bool.not_true); (· first | assumption | (intro p hp; grind)))
      first | (refine' TA_take 20 rfl rfl (by kernel_rfl) (quiet_q (op_pickT rfl ?_ rfl)) ?_ ?_; (· first | with_reducible rfl | assumption | exact Bool.not_false | exact Bool.not_true); (· first | assumption | (intro p hp; grind))) | (refine' TA_take 20 rfl rfl (by kernel_rfl) (quiet_q (op_pickF rfl ?_ rfl)) ?_ ?_; (· first | with_reducible rfl | assumption | exact Bool.not_false | exact Bool.not_true); (· first | assumption | (intro p hp; grind)))
      refine TA_done (by kernel_rfl) ?_
      repeat (first | with_reducible refine TQ_then ?_ | (refine T_yes rfl ?_ ?_; (· first | with_reducible rfl | assumption | exact Bool.not_false | exact Bool.not_true)))
      obtain ⟨k1, k2, k3⟩ := mid_same q i x hx hlate
      refine T_goto ?_
      repeat refine TQ_then_goto ?_
      refine TQ_jump (i + 1, .slice ag mg cg, .slice as1 ms cs1, Bg, Bs, [(be, Obj.cells cur 62 (0, 0))]) ⟨hlt, ?_, ?_, ?_⟩ ?_ ?_ ?_
      · dsimp only; rw [k2, ← hmg]; exact hRg
      · dsimp only; rw [k3, ← hms]; exact hRs
      · dsimp only; rw [k1]; exact hRe
      (repeat (first | exact trivial | refine ⟨rfl, ?_⟩))
      · exact fun w hw => hw
      · dsimp only; omega
    have g5 : decide (q.now - x.last < q.wait) = false := decide_eq_false hw
    have hlate : Hg.late q.now q.wait x = true := by simp [Hg.late, hop]; omega
    by_cases ht : q.tries ≤ x.asked
    · have g6 : decide (q.tries ≤ x.asked) = true := decide_eq_true ht
      obtain ⟨k1, k2, k3⟩ := mid_gone q i x hx hlate ht
      have m0 : (cur.setIfInBounds (0 + i * 4 + 3) (.bool false))[0 + i * 4 + 0]? = some (.int .i64 x.up) := by rw [Array.getElem?_setIfInBounds_ne (by omega)]; exact n0
      repeat (first | with_reducible refine T_seq ?_ | with_reducible refine T_region ?_ | with_reducible refine TL_nil ?_ | with_reducible refine TQ_then ?_ | refine TL_q (op_move rfl) rfl ?_ | refine TL_q (op_assign rfl) rfl ?_ | (refine' TL_q (op_bin rfl rfl ?_) rfl ?_; rotate_left 1; (· first | exact bin_add ⟨by omega, by omega⟩ | exact bin_sub ⟨by omega, by omega⟩ | exact bin_quo (by omega) (by omega) ⟨by omega, by omega⟩ | exact bin_eql | exact bin_lss | exact bin_gtr | exact bin_geq | exact sbin_eql | exact sbin_lss | exact sbin_gtr | exact sbin_add (by omega) | exact pbin_eql Try.underlying26 | exact pbin_neq Try.underlying26)) | refine TL_q (op_nilCheck rfl) rfl ?_ | refine TL_q (op_len_slice rfl Try.underlying56) rfl ?_ | (refine' TL_q (op_idx ety_56 rfl rfl ?_) rfl ?_; (· omega)) | refine TL_q (op_fld rfl fld_58_0) rfl ?_ | (refine' TL_q (op_ld rfl pl_2 ?_ ?_) rfl ?_; rotate_left 4; (· repeat (first | assumption | exact List.mem_cons_self | apply List.mem_cons_of_mem)); (· first | assumption | rfl)) | (refine T_yes rfl ?_ ?_; (· first | with_reducible rfl | assumption | exact Bool.not_false | exact Bool.not_true)))
      refine T_draw follows_mixed ([(bp, Obj.cells (pcells q (.slice (some ⟨be, 0, none⟩) p.list.length c)) 58 (0, 0)), (be, Obj.cells cur 62 (0, 0))]) [] ?_
      first | (refine' TA_take 0 rfl rfl (by kernel_rfl) (quiet_q (op_move rfl)) ?_ ?_; (· first | assumption | (intro p hp; grind)))
      first | (refine' TA_take 1 rfl rfl (by kernel_rfl) (quiet_q (op_nilCheck rfl)) ?_ ?_; (· first | assumption | (intro p hp; grind)))
      first | (refine' TA_take 2 rfl rfl (by kernel_rfl) (quiet_q (op_fld rfl fld_62_3)) ?_ ?_; (· first | assumption | (intro p hp; grind)))
      first | (refine' TA_take 3 rfl rfl (by kernel_rfl) (quiet_q (op_ld rfl pl_4 ?_ ?_)) ?_ ?_; rotate_left 4; (· repeat (first | assumption | exact List.mem_cons_self | apply List.mem_cons_of_mem)); (· first | assumption | rfl); (· first | assumption | (intro p hp; grind)))
      first | (refine' TA_take 4 rfl rfl (by kernel_rfl) (quiet_q (op_not rfl)) ?_ ?_; (· first | assumption | (intro p hp; grind)))
      first | (refine' TA_take 5 rfl rfl (by kernel_rfl) (quiet_q (op_move rfl)) ?_ ?_; (· first | assumption | (intro p hp; grind)))
      first | (refine' TA_take 6 rfl rfl (by kernel_rfl) (quiet_g2 rfl rfl (by first | with_reducible rfl | assumption | exact Bool.not_false | exact Bool.not_true) (op_move rfl)) ?_ ?_; (· first | assumption | (intro p hp; grind))) | (refine TA_take 6 rfl rfl (by kernel_rfl) (quiet_no2 rfl rfl ?_) ?_ ?_; (· first | with_reducible rfl | assumption | exact Bool.not_false | exact Bool.not_true); (· first | assumption | (intro p hp; grind)))
      first | (refine' TA_take 7 rfl rfl (by kernel_rfl) (quiet_g2 rfl rfl (by first | with_reducible rfl | assumption | exact Bool.not_false | exact Bool.not_true) (op_nilCheck rfl)) ?_ ?_; (· first | assumption | (intro p hp; grind))) | (refine TA_take 7 rfl rfl (by kernel_rfl) (quiet_no2 rfl rfl ?_) ?_ ?_; (· first | with_reducible rfl | assumption | exact Bool.not_false | exact Bool.not_true); (· first | assumption | (intro p hp; grind)))
      first | (refine' TA_take 8 rfl rfl (by kernel_rfl) (quiet_g2 rfl rfl (by first | with_reducible rfl | assumption | exact Bool.not_false | exact Bool.not_true) (op_fld rfl fld_58_7)) ?_ ?_; (· first | assumption | (intro p hp; grind))) | (refine TA_take 8 rfl rfl (by kernel_rfl) (quiet_no2 rfl rfl ?_) ?_ ?_; (· first | with_reducible rfl | assumption | exact Bool.not_false | exact Bool.not_true); (· first | assumption | (intro p hp; grind)))
      first | (refine' TA_take 9 rfl rfl (by kernel_rfl) (quiet_g2 rfl rfl (by first | with_reducible rfl | assumption | exact Bool.not_false | exact Bool.not_true) (op_ld rfl pl_2 ?_ ?_)) ?_ ?_; rotate_left 4; (· repeat (first | assumption | exact List.mem_cons_self | apply List.mem_cons_of_mem)); (· first | assumption | rfl); (· first | assumption | (intro p hp; grind))) | (refine TA_take 9 rfl rfl (by kernel_rfl) (quiet_no2 rfl rfl ?_) ?_ ?_; (· first | with_reducible rfl | assumption | exact Bool.not_false | exact Bool.not_true); (· first | assumption | (intro p hp; grind)))
      first | (refine' TA_take 10 rfl rfl (by kernel_rfl) (quiet_g2 rfl rfl (by first | with_reducible rfl | assumption | exact Bool.not_false | exact Bool.not_true) (op_move rfl)) ?_ ?_; (· first | assumption | (intro p hp; grind))) | (refine TA_take 10 rfl rfl (by kernel_rfl) (quiet_no2 rfl rfl ?_) ?_ ?_; (· first | with_reducible rfl | assumption | exact Bool.not_false | exact Bool.not_true); (· first | assumption | (intro p hp; grind)))
      first | (refine' TA_take 11 rfl rfl (by kernel_rfl) (quiet_g2 rfl rfl (by first | with_reducible rfl | assumption | exact Bool.not_false | exact Bool.not_true) (op_nilCheck rfl)) ?_ ?_; (· first | assumption | (intro p hp; grind))) | (refine TA_take 11 rfl rfl (by kernel_rfl) (quiet_no2 rfl rfl ?_) ?_ ?_; (· first | with_reducible rfl | assumption | exact Bool.not_false | exact Bool.not_true); (· first | assumption | (intro p hp; grind)))
      first | (refine' TA_take 12 rfl rfl (by kernel_rfl) (quiet_g2 rfl rfl (by first | with_reducible rfl | assumption | exact Bool.not_false | exact Bool.not_true) (op_fld rfl fld_62_2)) ?_ ?_; (· first | assumption | (intro p hp; grind))) | (refine TA_take 12 rfl rfl (by kernel_rfl) (quiet_no2 rfl rfl ?_) ?_ ?_; (· first | with_reducible rfl | assumption | exact Bool.not_false | exact Bool.not_true); (· first | assumption | (intro p hp; grind)))
      first | (refine' TA_take 13 rfl rfl (by kernel_rfl) (quiet_g2 rfl rfl (by first | with_reducible rfl | assumption | exact Bool.not_false | exact Bool.not_true) (op_ld rfl pl_2 ?_ ?_)) ?_ ?_; rotate_left 4; (· repeat (first | assumption | exact List.mem_cons_self | apply List.mem_cons_of_mem)); (· first | assumption | rfl); (· first | assumption | (intro p hp; grind))) | (refine TA_take 13 rfl rfl (by kernel_rfl) (quiet_no2 rfl rfl ?_) ?_ ?_; (· first | with_reducible rfl | assumption | exact Bool.not_false | exact Bool.not_true); (· first | assumption | (intro p hp; grind)))
      first | (refine' TA_take 14 rfl rfl (by kernel_rfl) (quiet_g2 rfl rfl (by first | with_reducible rfl | assumption | exact Bool.not_false | exact Bool.not_true) (op_bin rfl rfl ?_)) ?_ ?_; rotate_left 1; (· first | exact bin_add ⟨by omega, by omega⟩ | exact bin_sub ⟨by omega, by omega⟩ | exact bin_mul ⟨by omega, by omega⟩ | exact bin_quo (by omega) (by omega) ⟨by omega, by omega⟩ | exact bin_rem (by omega) (by omega) | exact bin_eql | exact bin_neq | exact bin_lss | exact bin_leq | exact bin_gtr | exact bin_geq | exact sbin_eql | exact sbin_neq | exact sbin_lss | exact sbin_gtr | exact sbin_add (by omega)); (· first | assumption | (intro p hp; grind))) | (refine TA_take 14 rfl rfl (by kernel_rfl) (quiet_no2 rfl rfl ?_) ?_ ?_; (· first | with_reducible rfl | assumption | exact Bool.not_false | exact Bool.not_true); (· first | assumption | (intro p hp; grind)))
      first | (refine' TA_take 15 rfl rfl (by kernel_rfl) (quiet_g2 rfl rfl (by first | with_reducible rfl | assumption | exact Bool.not_false | exact Bool.not_true) (op_move rfl)) ?_ ?_; (· first | assumption | (intro p hp; grind))) | (refine TA_take 15 rfl rfl (by kernel_rfl) (quiet_no2 rfl rfl ?_) ?_ ?_; (· first | with_reducible rfl | assumption | exact Bool.not_false | exact Bool.not_true); (· first | assumption | (intro p hp; grind)))
      first | (refine' TA_take 16 rfl rfl (by kernel_rfl) (quiet_g2 rfl rfl (by first | with_reducible rfl | assumption | exact Bool.not_false | exact Bool.not_true) (op_nilCheck rfl)) ?_ ?_; (· first | assumption | (intro p hp; grind))) | (refine TA_take 16 rfl rfl (by kernel_rfl) (quiet_no2 rfl rfl ?_) ?_ ?_; (· first | with_reducible rfl | assumption | exact Bool.not_false | exact Bool.not_true); (· first | assumption | (intro p hp; grind)))
      first | (refine' TA_take 17 rfl rfl (by kernel_rfl) (quiet_g2 rfl rfl (by first | with_reducible rfl | assumption | exact Bool.not_false | exact Bool.not_true) (op_fld rfl fld_58_5)) ?_ ?_; (· first | assumption | (intro p hp; grind))) | (refine TA_take 17 rfl rfl (by kernel_rfl) (quiet_no2 rfl rfl ?_) ?_ ?_; (· first | with_reducible rfl | assumption | exact Bool.not_false | exact Bool.not_true); (· first | assumption | (intro p hp; grind)))
      first | (refine' TA_take 18 rfl rfl (by kernel_rfl) (quiet_g2 rfl rfl (by first | with_reducible rfl | assumption | exact Bool.not_false | exact Bool.not_true) (op_ld rfl pl_2 ?_ ?_)) ?_ ?_; rotate_left 4; (· repeat (first | assumption | exact List.mem_cons_self | apply List.mem_cons_of_mem)); (· first | assumption | rfl); (· first | assumption | (intro p hp; grind))) | (refine TA_take 18 rfl rfl (by kernel_rfl) (quiet_no2 rfl rfl ?_) ?_ ?_; (· first | with_reducible rfl | assumption | exact Bool.not_false | exact Bool.not_true); (· first | assumption | (intro p hp; grind)))
      first | (refine' TA_take 19 rfl rfl (by kernel_rfl) (quiet_g2 rfl rfl (by first | with_reducible rfl | assumption | exact Bool.not_false | exact Bool.not_true) (op_bin rfl rfl ?_)) ?_ ?_; rotate_left 1; (· first | exact bin_add ⟨by omega, by omega⟩ | exact bin_sub ⟨by omega, by omega⟩ | exact bin_mul ⟨by omega, by omega⟩ | exact bin_quo (by omega) (by omega) ⟨by omega, by omega⟩ | exact bin_rem (by omega) (by omega) | exact bin_eql | exact bin_neq | exact bin_lss | exact bin_leq | exact bin_gtr | exact bin_geq | exact sbin_eql | exact sbin_neq | exact sbin_lss | exact sbin_gtr | exact sbin_add (by omega)); (· first | assumption | (intro p hp; grind))) | (refine TA_take 19 rfl rfl (by kernel_rfl) (quiet_no2 rfl rfl ?_) ?_ ?_; (· first | with_reducible rfl | assumption | exact Bool.not_false | exact Bool.not_true); (· first | assumption | (intro p hp; grind)))
      first | (refine' TA_take 20 rfl rfl (by kernel_rfl) (quiet_q (op_pickT rfl ?_ rfl)) ?_ ?_; (· first | with_reducible rfl | assumption | exact Bool.not_false | exact Bool.not_true); (· first | assumption | (intro p hp; grind))) | (refine' TA_take 20 rfl rfl (by kernel_rfl) (quiet_q (op_pickF rfl ?_ rfl)) ?_ ?_; (· first | with_reducible rfl | assumption | exact Bool.not_false | exact Bool.not_true); (· first | assumption | (intro p hp; grind)))
      refine TA_done (by kernel_rfl) ?_
      repeat (first | with_reducible refine T_seq ?_ | with_reducible refine TQ_then ?_ | with_reducible refine T_skip ?_ | (refine T_no rfl ?_ ?_; (· first | with_reducible rfl | assumption | exact Bool.not_false | exact Bool.not_true)))
      refine T_draw follows_mixed ([(bp, Obj.cells (pcells q (.slice (some ⟨be, 0, none⟩) p.list.length c)) 58 (0, 0)), (be, Obj.cells cur 62 (0, 0))]) [] ?_
      first | (refine' TA_take 0 rfl rfl (by kernel_rfl) (quiet_q (op_move rfl)) ?_ ?_; (· first | assumption | (intro p hp; grind)))
      first | (refine' TA_take 1 rfl rfl (by kernel_rfl) (quiet_q (op_nilCheck rfl)) ?_ ?_; (· first | assumption | (intro p hp; grind)))
      first | (refine' TA_take 2 rfl rfl (by kernel_rfl) (quiet_q (op_fld rfl fld_62_1)) ?_ ?_; (· first | assumption | (intro p hp; grind)))
      first | (refine' TA_take 3 rfl rfl (by kernel_rfl) (quiet_q (op_ld rfl pl_3 ?_ ?_)) ?_ ?_; rotate_left 4; (· repeat (first | assumption | exact List.mem_cons_self | apply List.mem_cons_of_mem)); (· first | assumption | rfl); (· first | assumption | (intro p hp; grind)))
      first | (refine' TA_take 4 rfl rfl (by kernel_rfl) (quiet_q (op_move rfl)) ?_ ?_; (· first | assumption | (intro p hp; grind)))
      first | (refine' TA_take 5 rfl rfl (by kernel_rfl) (quiet_q (op_nilCheck rfl)) ?_ ?_; (· first | assumption | (intro p hp; grind)))
      first | (refine' TA_take 6 rfl rfl (by kernel_rfl) (quiet_q (op_fld rfl fld_58_3)) ?_ ?_; (· first | assumption | (intro p hp; grind)))
      first | (refine' TA_take 7 rfl rfl (by kernel_rfl) (quiet_q (op_ld rfl pl_3 ?_ ?_)) ?_ ?_; rotate_left 4; (· repeat (first | assumption | exact List.mem_cons_self | apply List.mem_cons_of_mem)); (· first | assumption | rfl); (· first | assumption | (intro p hp; grind)))
      first | (refine' TA_take 8 rfl rfl (by kernel_rfl) (quiet_q (op_bin rfl rfl ?_)) ?_ ?_; rotate_left 1; (· first | exact bin_add ⟨by omega, by omega⟩ | exact bin_sub ⟨by omega, by omega⟩ | exact bin_mul ⟨by omega, by omega⟩ | exact bin_quo (by omega) (by omega) ⟨by omega, by omega⟩ | exact bin_rem (by omega) (by omega) | exact bin_eql | exact bin_neq | exact bin_lss | exact bin_leq | exact bin_gtr | exact bin_geq | exact sbin_eql | exact sbin_neq | exact sbin_lss | exact sbin_gtr | exact sbin_add (by omega)); (· first | assumption | (intro p hp; grind)))
      refine TA_done (by kernel_rfl) ?_
      repeat (first | with_reducible refine T_seq ?_ | with_reducible refine T_region ?_ | with_reducible refine TL_nil ?_ | with_reducible refine TQ_then ?_ | refine TL_q (op_move rfl) rfl ?_ | refine TL_q (op_nilCheck rfl) rfl ?_ | refine TL_q (op_fld rfl fld_58_0) rfl ?_ | refine TL_q (op_fld rfl fld_58_3) rfl ?_ | (refine' TL_q (op_ld rfl pl_2 ?_ ?_) rfl ?_; rotate_left 4; (· repeat (first | assumption | exact List.mem_cons_self | apply List.mem_cons_of_mem)); (· first | assumption | rfl)) | (refine' TL_st2 rfl rfl one_2 rfl ?_ rfl ?_; rotate_left 1; (· first | assumption | rfl)) | (refine TL_new (op_lit1 ety_22 rfl rfl) rfl ?_; intro bLit) | (refine T_yes rfl ?_ ?_; (· first | with_reducible rfl | assumption | exact Bool.not_false | exact Bool.not_true)))
      refine TL_perm (List.Perm.cons _ (perm_out (A := [_]))) ?_
      refine TL_app1 ety_22 rfl rfl hRg rfl (by unfold maxLen; omega) (by omega) rfl ?_
      intro v4 B4 hR4
      obtain ⟨a4, c4, rfl⟩ := hR4.slice
      repeat (first | with_reducible refine TL_nil ?_ | with_reducible refine TQ_then ?_ | refine TL_q (op_assign rfl) rfl ?_)
      refine T_goto ?_
      repeat refine TQ_then_goto ?_
      refine TQ_jump (i + 1, .slice a4 (mg + 1) c4, .slice as1 ms cs1, B4, Bs, [(be, Obj.cells (cur.setIfInBounds (0 + i * 4 + 3) (.bool false)) 62 (0, 0))]) ⟨hlt, ?_, ?_, ?_⟩ ?_ ?_ ?_
      · dsimp only; rw [k2, List.length_append, ← hmg]; simpa [ints] using hR4
      · dsimp only; rw [k3, ← hms]; exact hRs
      · dsimp only
        refine ⟨by rw [k1, eflat_length, List.length_set, mid_length q i hi, hqn], Or.inr ⟨be, c, _, rfl, rfl, h3, h4, by simpa using h5, ?_⟩⟩
        rw [k1, take_set, h6, eflat_close _ _ _ (mid_at q i x hx), Nat.zero_add]
      (repeat (first | exact trivial | refine ⟨rfl, ?_⟩))
      · exact fun w hw => hw.perm (perm_out (A := [_])).symm
      · dsimp only; omega
    · have g6 : decide (q.tries ≤ x.asked) = false := decide_eq_false ht
      obtain ⟨k1, k2, k3⟩ := mid_send q i x hx hlate ht
      have m2 : (cur.setIfInBounds (0 + i * 4 + 1) (.int .i64 (x.asked + 1)))[0 + i * 4 + 2]? = some (.int .i64 x.last) := by rw [Array.getElem?_setIfInBounds_ne (by omega)]; exact n2
      have m0 : ((cur.setIfInBounds (0 + i * 4 + 1) (.int .i64 (x.asked + 1))).setIfInBounds (0 + i * 4 + 2) (.int .i64 q.now))[0 + i * 4 + 0]? = some (.int .i64 x.up) := by rw [Array.getElem?_setIfInBounds_ne (by omega), Array.getElem?_setIfInBounds_ne (by omega)]; exact n0
      repeat (first | with_reducible refine T_seq ?_ | with_reducible refine T_region ?_ | with_reducible refine TL_nil ?_ | with_reducible refine TQ_then ?_ | refine TL_q (op_move rfl) rfl ?_ | refine TL_q (op_assign rfl) rfl ?_ | (refine' TL_q (op_bin rfl rfl ?_) rfl ?_; rotate_left 1; (· first | exact bin_add ⟨by omega, by omega⟩ | exact bin_sub ⟨by omega, by omega⟩ | exact bin_quo (by omega) (by omega) ⟨by omega, by omega⟩ | exact bin_eql | exact bin_lss | exact bin_gtr | exact bin_geq | exact sbin_eql | exact sbin_lss | exact sbin_gtr | exact sbin_add (by omega) | exact pbin_eql Try.underlying26 | exact pbin_neq Try.underlying26)) | refine TL_q (op_nilCheck rfl) rfl ?_ | refine TL_q (op_len_slice rfl Try.underlying56) rfl ?_ | (refine' TL_q (op_idx ety_56 rfl rfl ?_) rfl ?_; (· omega)) | refine TL_q (op_fld rfl fld_58_0) rfl ?_ | (refine' TL_q (op_ld rfl pl_2 ?_ ?_) rfl ?_; rotate_left 4; (· repeat (first | assumption | exact List.mem_cons_self | apply List.mem_cons_of_mem)); (· first | assumption | rfl)) | (refine T_yes rfl ?_ ?_; (· first | with_reducible rfl | assumption | exact Bool.not_false | exact Bool.not_true)))
      refine T_draw follows_mixed ([(bp, Obj.cells (pcells q (.slice (some ⟨be, 0, none⟩) p.list.length c)) 58 (0, 0)), (be, Obj.cells cur 62 (0, 0))]) [] ?_
      first | (refine' TA_take 0 rfl rfl (by kernel_rfl) (quiet_q (op_move rfl)) ?_ ?_; (· first | assumption | (intro p hp; grind)))
      first | (refine' TA_take 1 rfl rfl (by kernel_rfl) (quiet_q (op_nilCheck rfl)) ?_ ?_; (· first | assumption | (intro p hp; grind)))
      first | (refine' TA_take 2 rfl rfl (by kernel_rfl) (quiet_q (op_fld rfl fld_62_3)) ?_ ?_; (· first | assumption | (intro p hp; grind)))
      first | (refine' TA_take 3 rfl rfl (by kernel_rfl) (quiet_q (op_ld rfl pl_4 ?_ ?_)) ?_ ?_; rotate_left 4; (· repeat (first | assumption | exact List.mem_cons_self | apply List.mem_cons_of_mem)); (· first | assumption | rfl); (· first | assumption | (intro p hp; grind)))
      first | (refine' TA_take 4 rfl rfl (by kernel_rfl) (quiet_q (op_not rfl)) ?_ ?_; (· first | assumption | (intro p hp; grind)))
      first | (refine' TA_take 5 rfl rfl (by kernel_rfl) (quiet_q (op_move rfl)) ?_ ?_; (· first | assumption | (intro p hp; grind)))
      first | (refine' TA_take 6 rfl rfl (by kernel_rfl) (quiet_g2 rfl rfl (by first | with_reducible rfl | assumption | exact Bool.not_false | exact Bool.not_true) (op_move rfl)) ?_ ?_; (· first | assumption | (intro p hp; grind))) | (refine TA_take 6 rfl rfl (by kernel_rfl) (quiet_no2 rfl rfl ?_) ?_ ?_; (· first | with_reducible rfl | assumption | exact Bool.not_false | exact Bool.not_true); (· first | assumption | (intro p hp; grind)))
      first | (refine' TA_take 7 rfl rfl (by kernel_rfl) (quiet_g2 rfl rfl (by first | with_reducible rfl | assumption | exact Bool.not_false | exact Bool.not_true) (op_nilCheck rfl)) ?_ ?_; (· first | assumption | (intro p hp; grind))) | (refine TA_take 7 rfl rfl (by kernel_rfl) (quiet_no2 rfl rfl ?_) ?_ ?_; (· first | with_reducible rfl | assumption | exact Bool.not_false | exact Bool.not_true); (· first | assumption | (intro p hp; grind)))
      first | (refine' TA_take 8 rfl rfl (by kernel_rfl) (quiet_g2 rfl rfl (by first | with_reducible rfl | assumption | exact Bool.not_false | exact Bool.not_true) (op_fld rfl fld_58_7)) ?_ ?_; (· first | assumption | (intro p hp; grind))) | (refine TA_take 8 rfl rfl (by kernel_rfl) (quiet_no2 rfl rfl ?_) ?_ ?_; (· first | with_reducible rfl | assumption | exact Bool.not_false | exact Bool.not_true); (· first | assumption | (intro p hp; grind)))
      first | (refine' TA_take 9 rfl rfl (by kernel_rfl) (quiet_g2 rfl rfl (by first | with_reducible rfl | assumption | exact Bool.not_false | exact Bool.not_true) (op_ld rfl pl_2 ?_ ?_)) ?_ ?_; rotate_left 4; (· repeat (first | assumption | exact List.mem_cons_self | apply List.mem_cons_of_mem)); (· first | assumption | rfl); (· first | assumption | (intro p hp; grind))) | (refine TA_take 9 rfl rfl (by kernel_rfl) (quiet_no2 rfl rfl ?_) ?_ ?_; (· first | with_reducible rfl | assumption | exact Bool.not_false | exact Bool.not_true); (· first | assumption | (intro p hp; grind)))
      first | (refine' TA_take 10 rfl rfl (by kernel_rfl) (quiet_g2 rfl rfl (by first | with_reducible rfl | assumption | exact Bool.not_false | exact Bool.not_true) (op_move rfl)) ?_ ?_; (· first | assumption | (intro p hp; grind))) | (refine TA_take 10 rfl rfl (by kernel_rfl) (quiet_no2 rfl rfl ?_) ?_ ?_; (· first | with_reducible rfl | assumption | exact Bool.not_false | exact Bool.not_true); (· first | assumption | (intro p hp; grind)))
      first | (refine' TA_take 11 rfl rfl (by kernel_rfl) (quiet_g2 rfl rfl (by first | with_reducible rfl | assumption | exact Bool.not_false | exact Bool.not_true) (op_nilCheck rfl)) ?_ ?_; (· first | assumption | (intro p hp; grind))) | (refine TA_take 11 rfl rfl (by kernel_rfl) (quiet_no2 rfl rfl ?_) ?_ ?_; (· first | with_reducible rfl | assumption | exact Bool.not_false | exact Bool.not_true); (· first | assumption | (intro p hp; grind)))
      first | (refine' TA_take 12 rfl rfl (by kernel_rfl) (quiet_g2 rfl rfl (by first | with_reducible rfl | assumption | exact Bool.not_false | exact Bool.not_true) (op_fld rfl fld_62_2)) ?_ ?_; (· first | assumption | (intro p hp; grind))) | (refine TA_take 12 rfl rfl (by kernel_rfl) (quiet_no2 rfl rfl ?_) ?_ ?_; (· first | with_reducible rfl | assumption | exact Bool.not_false | exact Bool.not_true); (· first | assumption | (intro p hp; grind)))
      first | (refine' TA_take 13 rfl rfl (by kernel_rfl) (quiet_g2 rfl rfl (by first | with_reducible rfl | assumption | exact Bool.not_false | exact Bool.not_true) (op_ld rfl pl_2 ?_ ?_)) ?_ ?_; rotate_left 4; (· repeat (first | assumption | exact List.mem_cons_self | apply List.mem_cons_of_mem)); (· first | assumption | rfl); (· first | assumption | (intro p hp; grind))) | (refine TA_take 13 rfl rfl (by kernel_rfl) (quiet_no2 rfl rfl ?_) ?_ ?_; (· first | with_reducible rfl | assumption | exact Bool.not_false | exact Bool.not_true); (· first | assumption | (intro p hp; grind)))
      first | (refine' TA_take 14 rfl rfl (by kernel_rfl) (quiet_g2 rfl rfl (by first | with_reducible rfl | assumption | exact Bool.not_false | exact Bool.not_true) (op_bin rfl rfl ?_)) ?_ ?_; rotate_left 1; (· first | exact bin_add ⟨by omega, by omega⟩ | exact bin_sub ⟨by omega, by omega⟩ | exact bin_mul ⟨by omega, by omega⟩ | exact bin_quo (by omega) (by omega) ⟨by omega, by omega⟩ | exact bin_rem (by omega) (by omega) | exact bin_eql | exact bin_neq | exact bin_lss | exact bin_leq | exact bin_gtr | exact bin_geq | exact sbin_eql | exact sbin_neq | exact sbin_lss | exact sbin_gtr | exact sbin_add (by omega)); (· first | assumption | (intro p hp; grind))) | (refine TA_take 14 rfl rfl (by kernel_rfl) (quiet_no2 rfl rfl ?_) ?_ ?_; (· first | with_reducible rfl | assumption | exact Bool.not_false | exact Bool.not_true); (· first | assumption | (intro p hp; grind)))
      first | (refine' TA_take 15 rfl rfl (by kernel_rfl) (quiet_g2 rfl rfl (by first | with_reducible rfl | assumption | exact Bool.not_false | exact Bool.not_true) (op_move rfl)) ?_ ?_; (· first | assumption | (intro p hp; grind))) | (refine TA_take 15 rfl rfl (by kernel_rfl) (quiet_no2 rfl rfl ?_) ?_ ?_; (· first | with_reducible rfl | assumption | exact Bool.not_false | exact Bool.not_true); (· first | assumption | (intro p hp; grind)))
      first | (refine' TA_take 16 rfl rfl (by kernel_rfl) (quiet_g2 rfl rfl (by first | with_reducible rfl | assumption | exact Bool.not_false | exact Bool.not_true) (op_nilCheck rfl)) ?_ ?_; (· first | assumption | (intro p hp; grind))) | (refine TA_take 16 rfl rfl (by kernel_rfl) (quiet_no2 rfl rfl ?_) ?_ ?_; (· first | with_reducible rfl | assumption | exact Bool.not_false | exact Bool.not_true); (· first | assumption | (intro p hp; grind)))
      first | (refine' TA_take 17 rfl rfl (by kernel_rfl) (quiet_g2 rfl rfl (by first | with_reducible rfl | assumption | exact Bool.not_false | exact Bool.not_true) (op_fld rfl fld_58_5)) ?_ ?_; (· first | assumption | (intro p hp; grind))) | (refine TA_take 17 rfl rfl (by kernel_rfl) (quiet_no2 rfl rfl ?_) ?_ ?_; (· first | with_reducible rfl | assumption | exact Bool.not_false | exact Bool.not_true); (· first | assumption | (intro p hp; grind)))
      first | (refine' TA_take 18 rfl rfl (by kernel_rfl) (quiet_g2 rfl rfl (by first | with_reducible rfl | assumption | exact Bool.not_false | exact Bool.not_true) (op_ld rfl pl_2 ?_ ?_)) ?_ ?_; rotate_left 4; (· repeat (first | assumption | exact List.mem_cons_self | apply List.mem_cons_of_mem)); (· first | assumption | rfl); (· first | assumption | (intro p hp; grind))) | (refine TA_take 18 rfl rfl (by kernel_rfl) (quiet_no2 rfl rfl ?_) ?_ ?_; (· first | with_reducible rfl | assumption | exact Bool.not_false | exact Bool.not_true); (· first | assumption | (intro p hp; grind)))
      first | (refine' TA_take 19 rfl rfl (by kernel_rfl) (quiet_g2 rfl rfl (by first | with_reducible rfl | assumption | exact Bool.not_false | exact Bool.not_true) (op_bin rfl rfl ?_)) ?_ ?_; rotate_left 1; (· first | exact bin_add ⟨by omega, by omega⟩ | exact bin_sub ⟨by omega, by omega⟩ | exact bin_mul ⟨by omega, by omega⟩ | exact bin_quo (by omega) (by omega) ⟨by omega, by omega⟩ | exact bin_rem (by omega) (by omega) | exact bin_eql | exact bin_neq | exact bin_lss | exact bin_leq | exact bin_gtr | exact bin_geq | exact sbin_eql | exact sbin_neq | exact sbin_lss | exact sbin_gtr | exact sbin_add (by omega)); (· first | assumption | (intro p hp; grind))) | (refine TA_take 19 rfl rfl (by kernel_rfl) (quiet_no2 rfl rfl ?_) ?_ ?_; (· first | with_reducible rfl | assumption | exact Bool.not_false | exact Bool.not_true); (· first | assumption | (intro p hp; grind)))
      first | (refine' TA_take 20 rfl rfl (by kernel_rfl) (quiet_q (op_pickT rfl ?_ rfl)) ?_ ?_; (· first | with_reducible rfl | assumption | exact Bool.not_false | exact Bool.not_true); (· first | assumption | (intro p hp; grind))) | (refine' TA_take 20 rfl rfl (by kernel_rfl) (quiet_q (op_pickF rfl ?_ rfl)) ?_ ?_; (· first | with_reducible rfl | assumption | exact Bool.not_false | exact Bool.not_true); (· first | assumption | (intro p hp; grind)))
      refine TA_done (by kernel_rfl) ?_
      repeat (first | with_reducible refine T_seq ?_ | with_reducible refine TQ_then ?_ | with_reducible refine T_skip ?_ | (refine T_no rfl ?_ ?_; (· first | with_reducible rfl | assumption | exact Bool.not_false | exact Bool.not_true)))
      refine T_draw follows_mixed ([(bp, Obj.cells (pcells q (.slice (some ⟨be, 0, none⟩) p.list.length c)) 58 (0, 0)), (be, Obj.cells cur 62 (0, 0))]) [] ?_
      first | (refine' TA_take 0 rfl rfl (by kernel_rfl) (quiet_q (op_move rfl)) ?_ ?_; (· first | assumption | (intro p hp; grind)))
      first | (refine' TA_take 1 rfl rfl (by kernel_rfl) (quiet_q (op_nilCheck rfl)) ?_ ?_; (· first | assumption | (intro p hp; grind)))
      first | (refine' TA_take 2 rfl rfl (by kernel_rfl) (quiet_q (op_fld rfl fld_62_1)) ?_ ?_; (· first | assumption | (intro p hp; grind)))
      first | (refine' TA_take 3 rfl rfl (by kernel_rfl) (quiet_q (op_ld rfl pl_3 ?_ ?_)) ?_ ?_; rotate_left 4; (· repeat (first | assumption | exact List.mem_cons_self | apply List.mem_cons_of_mem)); (· first | assumption | rfl); (· first | assumption | (intro p hp; grind)))
      first | (refine' TA_take 4 rfl rfl (by kernel_rfl) (quiet_q (op_move rfl)) ?_ ?_; (· first | assumption | (intro p hp; grind)))
      first | (refine' TA_take 5 rfl rfl (by kernel_rfl) (quiet_q (op_nilCheck rfl)) ?_ ?_; (· first | assumption | (intro p hp; grind)))
      first | (refine' TA_take 6 rfl rfl (by kernel_rfl) (quiet_q (op_fld rfl fld_58_3)) ?_ ?_; (· first | assumption | (intro p hp; grind)))
      first | (refine' TA_take 7 rfl rfl (by kernel_rfl) (quiet_q (op_ld rfl pl_3 ?_ ?_)) ?_ ?_; rotate_left 4; (· repeat (first | assumption | exact List.mem_cons_self | apply List.mem_cons_of_mem)); (· first | assumption | rfl); (· first | assumption | (intro p hp; grind)))
      first | (refine' TA_take 8 rfl rfl (by kernel_rfl) (quiet_q (op_bin rfl rfl ?_)) ?_ ?_; rotate_left 1; (· first | exact bin_add ⟨by omega, by omega⟩ | exact bin_sub ⟨by omega, by omega⟩ | exact bin_mul ⟨by omega, by omega⟩ | exact bin_quo (by omega) (by omega) ⟨by omega, by omega⟩ | exact bin_rem (by omega) (by omega) | exact bin_eql | exact bin_neq | exact bin_lss | exact bin_leq | exact bin_gtr | exact bin_geq | exact sbin_eql | exact sbin_neq | exact sbin_lss | exact sbin_gtr | exact sbin_add (by omega)); (· first | assumption | (intro p hp; grind)))
      refine TA_done (by kernel_rfl) ?_
      repeat (first | with_reducible refine T_seq ?_ | with_reducible refine T_region ?_ | with_reducible refine TL_nil ?_ | with_reducible refine TQ_then ?_ | with_reducible refine T_skip ?_ | refine TL_q (op_move rfl) rfl ?_ | (refine' TL_q (op_bin rfl rfl ?_) rfl ?_; rotate_left 1; (· first | exact bin_add ⟨by omega, by omega⟩ | exact bin_sub ⟨by omega, by omega⟩ | exact bin_quo (by omega) (by omega) ⟨by omega, by omega⟩ | exact bin_eql | exact bin_lss | exact bin_gtr | exact bin_geq | exact sbin_eql | exact sbin_lss | exact sbin_gtr | exact sbin_add (by omega) | exact pbin_eql Try.underlying26 | exact pbin_neq Try.underlying26)) | refine TL_q (op_nilCheck rfl) rfl ?_ | refine TL_q (op_fld rfl fld_58_0) rfl ?_ | refine TL_q (op_fld rfl fld_58_1) rfl ?_ | refine TL_q (op_fld rfl fld_58_7) rfl ?_ | refine TL_q (op_fld rfl fld_62_2) rfl ?_ | (refine' TL_q (op_ld rfl pl_2 ?_ ?_) rfl ?_; rotate_left 4; (· repeat (first | assumption | exact List.mem_cons_self | apply List.mem_cons_of_mem)); (· first | assumption | rfl)) | (refine' TL_st2 rfl rfl one_2 rfl ?_ rfl ?_; rotate_left 1; (· first | assumption | rfl)) | (refine TL_new (op_lit1 ety_22 rfl rfl) rfl ?_; intro bLit) | (refine T_no rfl ?_ ?_; (· first | with_reducible rfl | assumption | exact Bool.not_false | exact Bool.not_true)))
      refine TL_perm (List.Perm.cons _ (perm_out2 (A := [_]))) ?_
      refine TL_app1 ety_22 rfl rfl hRs rfl (by unfold maxLen; omega) (by omega) rfl ?_
      intro v4 B4 hR4
      obtain ⟨a4, c4, rfl⟩ := hR4.slice
      repeat (first | with_reducible refine TL_nil ?_ | with_reducible refine TQ_then ?_ | refine TL_q (op_assign rfl) rfl ?_)
      refine T_goto ?_
      repeat refine TQ_then_goto ?_
      refine TQ_jump (i + 1, .slice ag mg cg, .slice a4 (ms + 1) c4, Bg, B4, [(be, Obj.cells ((cur.setIfInBounds (0 + i * 4 + 1) (.int .i64 (x.asked + 1))).setIfInBounds (0 + i * 4 + 2) (.int .i64 q.now)) 62 (0, 0))]) ⟨hlt, ?_, ?_, ?_⟩ ?_ ?_ ?_
      · dsimp only; rw [k2, ← hmg]; exact hRg
      · dsimp only; rw [k3, List.length_append, ← hms]; simpa [ints] using hR4
      · dsimp only
        refine ⟨by rw [k1, eflat_length, List.length_set, mid_length q i hi, hqn], Or.inr ⟨be, c, _, rfl, rfl, h3, h4, by simpa using h5, ?_⟩⟩
        rw [k1, take_set, take_set, h6, eflat_again _ _ _ _ _ (mid_at q i x hx), Nat.zero_add]
      (repeat (first | exact trivial | refine ⟨rfl, ?_⟩))
      · exact fun w hw => hw.perm (perm_out2 (A := [_])).symm
      · dsimp only; omega
  · have g3 : decide (((i : Nat) : Int) < ((p.list.length : Nat) : Int)) = false := decide_eq_false (by omega)
    have hie : i = q.list.length := by omega
    subst hie
    rw [List.take_length] at hmg hms hRg hRs
    rw [mid_end] at hRe
    obtain ⟨k, hk⟩ : ∃ k, k = (q.now - q.start) / q.every := ⟨_, rfl⟩
    have hev := hGq.every
    have hk0 : 0 ≤ (q.now - q.start) / q.every := Int.ediv_nonneg (by omega) (by omega)
    have hk1 : (q.now - q.start) / q.every ≤ q.now - q.start := Int.ediv_le_self _ (by omega)
    have htick : Hg.tick p now = ((Hg.hedged (Hg.examine q)).1, q.list.flatMap (Hg.goneE q.now q.wait q.tries), q.list.flatMap (Hg.sendE q.now q.wait q.tries) ++ (Hg.hedged (Hg.examine q)).2) := by
      unfold Hg.tick
      rw [if_neg (by rw [g2]; simp), hq]
    have hK : ∀ y ∈ [(bp, Obj.cells (pcells q (.slice a p.list.length c)) 58 (0, 0))], y ∈ (bp, Obj.cells (pcells q (.slice a p.list.length c)) 58 (0, 0)) :: (Be ++ (Bg ++ (Bs ++ L))) := fun y hy => by
      rw [List.mem_singleton.1 hy]; exact List.mem_cons_self ..
    have hxl : (Hg.examine q).list.length = p.list.length := by simp [Hg.examine, hqn]
    by_cases hkr : q.reached < (q.now - q.start) / q.every
    · have g7 : decide (q.reached < (q.now - q.start) / q.every) = true := decide_eq_true hkr
      repeat (first | with_reducible refine T_seq ?_ | with_reducible refine T_region ?_ | with_reducible refine TL_nil ?_ | with_reducible refine TQ_then ?_ | with_reducible refine T_skip ?_ | refine TL_q (op_move rfl) rfl ?_ | (refine' TL_q (op_bin rfl rfl ?_) rfl ?_; rotate_left 1; (· first | exact bin_add ⟨by omega, by omega⟩ | exact bin_sub ⟨by omega, by omega⟩ | exact bin_quo (by omega) (by omega) ⟨by omega, by omega⟩ | exact bin_eql | exact bin_lss | exact bin_gtr | exact bin_geq | exact sbin_eql | exact sbin_lss | exact sbin_gtr | exact sbin_add (by omega) | exact pbin_eql Try.underlying26 | exact pbin_neq Try.underlying26)) | refine TL_q (op_nilCheck rfl) rfl ?_ | refine TL_q (op_len_slice rfl Try.underlying56) rfl ?_ | refine TL_q (op_fld rfl fld_58_0) rfl ?_ | (refine' TL_q (op_ld rfl pl_2 ?_ ?_) rfl ?_; rotate_left 4; (· repeat (first | assumption | exact List.mem_cons_self | apply List.mem_cons_of_mem)); (· first | assumption | rfl)) | (refine T_no rfl ?_ ?_; (· first | with_reducible rfl | assumption | exact Bool.not_false | exact Bool.not_true)))
      refine T_draw follows_mixed ([(bp, Obj.cells (pcells q (.slice a p.list.length c)) 58 (0, 0))]) [] ?_
      first | (refine' TA_take 0 rfl rfl (by kernel_rfl) (quiet_q (op_move rfl)) ?_ ?_; (· first | assumption | (intro p hp; grind)))
      first | (refine' TA_take 1 rfl rfl (by kernel_rfl) (quiet_q (op_nilCheck rfl)) ?_ ?_; (· first | assumption | (intro p hp; grind)))
      first | (refine' TA_take 2 rfl rfl (by kernel_rfl) (quiet_q (op_fld rfl fld_58_7)) ?_ ?_; (· first | assumption | (intro p hp; grind)))
      first | (refine' TA_take 3 rfl rfl (by kernel_rfl) (quiet_q (op_ld rfl pl_2 ?_ ?_)) ?_ ?_; rotate_left 4; (· repeat (first | assumption | exact List.mem_cons_self | apply List.mem_cons_of_mem)); (· first | assumption | rfl); (· first | assumption | (intro p hp; grind)))
      first | (refine' TA_take 4 rfl rfl (by kernel_rfl) (quiet_q (op_move rfl)) ?_ ?_; (· first | assumption | (intro p hp; grind)))
      first | (refine' TA_take 5 rfl rfl (by kernel_rfl) (quiet_q (op_nilCheck rfl)) ?_ ?_; (· first | assumption | (intro p hp; grind)))
      first | (refine' TA_take 6 rfl rfl (by kernel_rfl) (quiet_q (op_fld rfl fld_58_6)) ?_ ?_; (· first | assumption | (intro p hp; grind)))
      first | (refine' TA_take 7 rfl rfl (by kernel_rfl) (quiet_q (op_ld rfl pl_2 ?_ ?_)) ?_ ?_; rotate_left 4; (· repeat (first | assumption | exact List.mem_cons_self | apply List.mem_cons_of_mem)); (· first | assumption | rfl); (· first | assumption | (intro p hp; grind)))
      first | (refine' TA_take 8 rfl rfl (by kernel_rfl) (quiet_q (op_bin rfl rfl ?_)) ?_ ?_; rotate_left 1; (· first | exact bin_add ⟨by omega, by omega⟩ | exact bin_sub ⟨by omega, by omega⟩ | exact bin_mul ⟨by omega, by omega⟩ | exact bin_quo (by omega) (by omega) ⟨by omega, by omega⟩ | exact bin_rem (by omega) (by omega) | exact bin_eql | exact bin_neq | exact bin_lss | exact bin_leq | exact bin_gtr | exact bin_geq | exact sbin_eql | exact sbin_neq | exact sbin_lss | exact sbin_gtr | exact sbin_add (by omega)); (· first | assumption | (intro p hp; grind)))
      first | (refine' TA_take 9 rfl rfl (by kernel_rfl) (quiet_q (op_move rfl)) ?_ ?_; (· first | assumption | (intro p hp; grind)))
      first | (refine' TA_take 10 rfl rfl (by kernel_rfl) (quiet_q (op_nilCheck rfl)) ?_ ?_; (· first | assumption | (intro p hp; grind)))
      first | (refine' TA_take 11 rfl rfl (by kernel_rfl) (quiet_q (op_fld rfl fld_58_4)) ?_ ?_; (· first | assumption | (intro p hp; grind)))
      first | (refine' TA_take 12 rfl rfl (by kernel_rfl) (quiet_q (op_ld rfl pl_2 ?_ ?_)) ?_ ?_; rotate_left 4; (· repeat (first | assumption | exact List.mem_cons_self | apply List.mem_cons_of_mem)); (· first | assumption | rfl); (· first | assumption | (intro p hp; grind)))
      first | (refine' TA_take 13 rfl rfl (by kernel_rfl) (quiet_q (op_bin rfl rfl ?_)) ?_ ?_; rotate_left 1; (· first | exact bin_add ⟨by omega, by omega⟩ | exact bin_sub ⟨by omega, by omega⟩ | exact bin_mul ⟨by omega, by omega⟩ | exact bin_quo (by omega) (by omega) ⟨by omega, by omega⟩ | exact bin_rem (by omega) (by omega) | exact bin_eql | exact bin_neq | exact bin_lss | exact bin_leq | exact bin_gtr | exact bin_geq | exact sbin_eql | exact sbin_neq | exact sbin_lss | exact sbin_gtr | exact sbin_add (by omega)); (· first | assumption | (intro p hp; grind)))
      first | (refine' TA_take 14 rfl rfl (by kernel_rfl) (quiet_q (op_assign rfl)) ?_ ?_; (· first | assumption | (intro p hp; grind)))
      refine TA_done (by kernel_rfl) ?_
      repeat (first | with_reducible refine T_seq ?_ | with_reducible refine T_region ?_ | with_reducible refine TL_nil ?_ | with_reducible refine TQ_then ?_ | refine TL_q (op_move rfl) rfl ?_ | (refine' TL_q (op_bin rfl rfl ?_) rfl ?_; rotate_left 1; (· first | exact bin_add ⟨by omega, by omega⟩ | exact bin_sub ⟨by omega, by omega⟩ | exact bin_quo (by omega) (by omega) ⟨by omega, by omega⟩ | exact bin_eql | exact bin_lss | exact bin_gtr | exact bin_geq | exact sbin_eql | exact sbin_lss | exact sbin_gtr | exact sbin_add (by omega) | exact pbin_eql Try.underlying26 | exact pbin_neq Try.underlying26)) | refine TL_q (op_nilCheck rfl) rfl ?_ | refine TL_q (op_fld rfl fld_58_8) rfl ?_ | (refine' TL_q (op_ld rfl pl_2 ?_ ?_) rfl ?_; rotate_left 4; (· repeat (first | assumption | exact List.mem_cons_self | apply List.mem_cons_of_mem)); (· first | assumption | rfl)) | (refine' TL_st rfl rfl one_2 rfl ?_ rfl ?_; rotate_left 1; (· first | assumption | rfl)) | (refine T_yes rfl ?_ ?_; (· first | with_reducible rfl | assumption | exact Bool.not_false | exact Bool.not_true)))
      obtain ⟨q1, hq1⟩ : ∃ q1 : Pl, q1 = { Hg.examine q with reached := (q.now - q.start) / q.every } := ⟨_, rfl⟩
      have hq1l : q1.list = (Hg.examine q).list := by rw [hq1]
      have hq1n : q1.list.length = p.list.length := by rw [hq1l, hxl]
      refine T_cut [(0, .pointer (some ⟨bp, 0, none⟩)), (4, .slice ag mg cg), (5, .slice as1 ms cs1)] ((bp, .cells (pcells q1 (.slice a p.list.length c)) 58 (0, 0)) :: (Be ++ (Bg ++ (Bs ++ L)))) ?_ ?_ ?_
      (repeat (first | exact trivial | refine ⟨rfl, ?_⟩))
      · intro w hw
        rw [hq1]
        exact hw
      have sc0 : (pcells (q1) (.slice a p.list.length c))[0 + 0]? = some (.slice a p.list.length c) := rfl
      have sc1 : (pcells (q1) (.slice a p.list.length c))[0 + 1]? = some (.int .i64 ((q1).asked : Nat)) := rfl
      have sc2 : (pcells (q1) (.slice a p.list.length c))[0 + 2]? = some (.int .i64 (q1).want) := rfl
      have sc3 : (pcells (q1) (.slice a p.list.length c))[0 + 3]? = some (.int .i64 (q1).tries) := rfl
      have sc4 : (pcells (q1) (.slice a p.list.length c))[0 + 4]? = some (.int .i64 (q1).every) := rfl
      have sc5 : (pcells (q1) (.slice a p.list.length c))[0 + 5]? = some (.int .i64 (q1).wait) := rfl
      have sc6 : (pcells (q1) (.slice a p.list.length c))[0 + 6]? = some (.int .i64 (q1).start) := rfl
      have sc7 : (pcells (q1) (.slice a p.list.length c))[0 + 7]? = some (.int .i64 (q1).now) := rfl
      have sc8 : (pcells (q1) (.slice a p.list.length c))[0 + 8]? = some (.int .i64 (q1).reached) := rfl
      have sc9 : (pcells (q1) (.slice a p.list.length c))[0 + 9]? = some (.bool (q1).made) := rfl
      have sc10 : (pcells (q1) (.slice a p.list.length c))[0 + 10]? = some (.bool (q1).begins) := rfl
      have hK : ∀ y ∈ [(bp, Obj.cells (pcells q1 (.slice a p.list.length c)) 58 (0, 0))], y ∈ (bp, Obj.cells (pcells q1 (.slice a p.list.length c)) 58 (0, 0)) :: (Be ++ (Bg ++ (Bs ++ L))) := fun y hy => by
        rw [List.mem_singleton.1 hy]; exact List.mem_cons_self ..
      have hhed : Hg.hedged (Hg.examine q) = if q1.asked < q1.list.length then (Hg.next q1, [Hg.upAt q1 q1.asked]) else (q1, []) := by
        unfold Hg.hedged
        rw [if_pos (by exact hkr), hq1]
        rfl
      by_cases hal : q1.asked < q1.list.length
      · have g8 : decide (((q1.asked : Nat) : Int) < ((p.list.length : Nat) : Int)) = true := decide_eq_true (by omega)
        rw [if_pos hal] at hhed
        rw [hhed] at htick
        repeat (first | fail)
        refine T_draw follows_mixed ([(bp, Obj.cells (pcells q1 (.slice a p.list.length c)) 58 (0, 0))]) [] ?_
        first | (refine' TA_take 0 rfl rfl (by kernel_rfl) (quiet_q (op_move rfl)) ?_ ?_; (· first | assumption | (intro p hp; grind)))
        first | (refine' TA_take 1 rfl rfl (by kernel_rfl) (quiet_q (op_nilCheck rfl)) ?_ ?_; (· first | assumption | (intro p hp; grind)))
        first | (refine' TA_take 2 rfl rfl (by kernel_rfl) (quiet_q (op_fld rfl fld_58_1)) ?_ ?_; (· first | assumption | (intro p hp; grind)))
        first | (refine' TA_take 3 rfl rfl (by kernel_rfl) (quiet_q (op_ld rfl pl_3 ?_ ?_)) ?_ ?_; rotate_left 4; (· repeat (first | assumption | exact List.mem_cons_self | apply List.mem_cons_of_mem)); (· first | assumption | rfl); (· first | assumption | (intro p hp; grind)))
        first | (refine' TA_take 4 rfl rfl (by kernel_rfl) (quiet_q (op_move rfl)) ?_ ?_; (· first | assumption | (intro p hp; grind)))
        first | (refine' TA_take 5 rfl rfl (by kernel_rfl) (quiet_q (op_nilCheck rfl)) ?_ ?_; (· first | assumption | (intro p hp; grind)))
        first | (refine' TA_take 6 rfl rfl (by kernel_rfl) (quiet_q (op_fld rfl fld_58_0)) ?_ ?_; (· first | assumption | (intro p hp; grind)))
        first | (refine' TA_take 7 rfl rfl (by kernel_rfl) (quiet_q (op_ld rfl pl_56 ?_ ?_)) ?_ ?_; rotate_left 4; (· repeat (first | assumption | exact List.mem_cons_self | apply List.mem_cons_of_mem)); (· first | assumption | rfl); (· first | assumption | (intro p hp; grind)))
        first | (refine' TA_take 8 rfl rfl (by kernel_rfl) (quiet_q (op_len_slice rfl Try.underlying56)) ?_ ?_; (· first | assumption | (intro p hp; grind)))
        first | (refine' TA_take 9 rfl rfl (by kernel_rfl) (quiet_q (op_bin rfl rfl ?_)) ?_ ?_; rotate_left 1; (· first | exact bin_add ⟨by omega, by omega⟩ | exact bin_sub ⟨by omega, by omega⟩ | exact bin_mul ⟨by omega, by omega⟩ | exact bin_quo (by omega) (by omega) ⟨by omega, by omega⟩ | exact bin_rem (by omega) (by omega) | exact bin_eql | exact bin_neq | exact bin_lss | exact bin_leq | exact bin_gtr | exact bin_geq | exact sbin_eql | exact sbin_neq | exact sbin_lss | exact sbin_gtr | exact sbin_add (by omega)); (· first | assumption | (intro p hp; grind)))
        refine TA_done (by kernel_rfl) ?_
        repeat (first | with_reducible refine T_region ?_ | with_reducible refine TQ_then ?_ | refine TL_q (op_move rfl) rfl ?_ | (refine T_yes rfl ?_ ?_; (· first | with_reducible rfl | assumption | exact Bool.not_false | exact Bool.not_true)))
        refine TL_opT (op_call hb_23 rfl (next_S bp q1 _ Be (by rw [hq1n, hq1l]; exact hRe) (by omega) (by omega))) rfl ?_
        rintro _ M1 ⟨rfl, B3, hR3, hM1⟩
        rw [hM1]
        clear hM1 M1
        repeat (first | (refine TL_new (op_lit1 ety_22 rfl rfl) rfl ?_; intro bLit))
        refine TL_perm (List.Perm.cons _ (perm_out2 (A := B3))) ?_
        refine TL_app1 ety_22 rfl rfl hRs rfl (by unfold maxLen; omega) (by omega) rfl ?_
        intro v4 B4 hR4
        obtain ⟨a4, c4, rfl⟩ := hR4.slice
        repeat (first | with_reducible refine T_seq ?_ | with_reducible refine T_region ?_ | with_reducible refine TL_nil ?_ | with_reducible refine TQ_then ?_ | with_reducible refine T_ret ?_ | refine TL_q (op_move rfl) rfl ?_ | refine TL_q (op_assign rfl) rfl ?_)
        refine TQ_jump_ret ?_
        refine TQ_heap (fun w hw => hw.perm (perm_out2 (A := B3)).symm) ?_
        refine TQ_ret2 4 5 _ _ rfl rfl rfl ?_
        rw [htick]
        refine ⟨_, _, Bg, B4, B3, rfl, ?_, ?_, ?_, rfl⟩
        · dsimp only; rw [← hmg]; exact hRg
        · dsimp only; rw [List.length_append, ← hms]; simpa [ints] using hR4
        · dsimp only
          have : (Hg.next q1).list.length = p.list.length := by simp [Hg.next, hq1n]
          rw [this] at hR3
          exact hR3
      · have g8 : decide (((q1.asked : Nat) : Int) < ((p.list.length : Nat) : Int)) = false := decide_eq_false (by omega)
        rw [if_neg hal] at hhed
        rw [hhed, List.append_nil] at htick
        repeat (first | fail)
        refine T_draw follows_mixed ([(bp, Obj.cells (pcells q1 (.slice a p.list.length c)) 58 (0, 0))]) [] ?_
        first | (refine' TA_take 0 rfl rfl (by kernel_rfl) (quiet_q (op_move rfl)) ?_ ?_; (· first | assumption | (intro p hp; grind)))
        first | (refine' TA_take 1 rfl rfl (by kernel_rfl) (quiet_q (op_nilCheck rfl)) ?_ ?_; (· first | assumption | (intro p hp; grind)))
        first | (refine' TA_take 2 rfl rfl (by kernel_rfl) (quiet_q (op_fld rfl fld_58_1)) ?_ ?_; (· first | assumption | (intro p hp; grind)))
        first | (refine' TA_take 3 rfl rfl (by kernel_rfl) (quiet_q (op_ld rfl pl_3 ?_ ?_)) ?_ ?_; rotate_left 4; (· repeat (first | assumption | exact List.mem_cons_self | apply List.mem_cons_of_mem)); (· first | assumption | rfl); (· first | assumption | (intro p hp; grind)))
        first | (refine' TA_take 4 rfl rfl (by kernel_rfl) (quiet_q (op_move rfl)) ?_ ?_; (· first | assumption | (intro p hp; grind)))
        first | (refine' TA_take 5 rfl rfl (by kernel_rfl) (quiet_q (op_nilCheck rfl)) ?_ ?_; (· first | assumption | (intro p hp; grind)))
        first | (refine' TA_take 6 rfl rfl (by kernel_rfl) (quiet_q (op_fld rfl fld_58_0)) ?_ ?_; (· first | assumption | (intro p hp; grind)))
        first | (refine' TA_take 7 rfl rfl (by kernel_rfl) (quiet_q (op_ld rfl pl_56 ?_ ?_)) ?_ ?_; rotate_left 4; (· repeat (first | assumption | exact List.mem_cons_self | apply List.mem_cons_of_mem)); (· first | assumption | rfl); (· first | assumption | (intro p hp; grind)))
        first | (refine' TA_take 8 rfl rfl (by kernel_rfl) (quiet_q (op_len_slice rfl Try.underlying56)) ?_ ?_; (· first | assumption | (intro p hp; grind)))
        first | (refine' TA_take 9 rfl rfl (by kernel_rfl) (quiet_q (op_bin rfl rfl ?_)) ?_ ?_; rotate_left 1; (· first | exact bin_add ⟨by omega, by omega⟩ | exact bin_sub ⟨by omega, by omega⟩ | exact bin_mul ⟨by omega, by omega⟩ | exact bin_quo (by omega) (by omega) ⟨by omega, by omega⟩ | exact bin_rem (by omega) (by omega) | exact bin_eql | exact bin_neq | exact bin_lss | exact bin_leq | exact bin_gtr | exact bin_geq | exact sbin_eql | exact sbin_neq | exact sbin_lss | exact sbin_gtr | exact sbin_add (by omega)); (· first | assumption | (intro p hp; grind)))
        refine TA_done (by kernel_rfl) ?_
        repeat (first | with_reducible refine T_seq ?_ | with_reducible refine T_region ?_ | with_reducible refine TL_nil ?_ | with_reducible refine TQ_then ?_ | with_reducible refine T_skip ?_ | with_reducible refine T_ret ?_ | refine TL_q (op_move rfl) rfl ?_ | refine TL_q (op_assign rfl) rfl ?_ | (refine T_no rfl ?_ ?_; (· first | with_reducible rfl | assumption | exact Bool.not_false | exact Bool.not_true)))
        refine TQ_jump_ret ?_
        refine TQ_ret2 4 5 _ _ rfl rfl rfl ?_
        rw [htick]
        refine ⟨_, _, Bg, Bs, Be, rfl, ?_, ?_, ?_, rfl⟩
        · dsimp only; rw [← hmg]; exact hRg
        · dsimp only; rw [← hms]; exact hRs
        · dsimp only; rw [hq1l]; exact hRe
    · have g7 : decide (q.reached < (q.now - q.start) / q.every) = false := decide_eq_false hkr
      have hhed : Hg.hedged (Hg.examine q) = (Hg.examine q, []) := by
        unfold Hg.hedged
        rw [if_neg (by exact hkr)]
      rw [hhed, List.append_nil] at htick
      repeat (first | with_reducible refine T_seq ?_ | with_reducible refine T_region ?_ | with_reducible refine TL_nil ?_ | with_reducible refine TQ_then ?_ | with_reducible refine T_skip ?_ | refine TL_q (op_move rfl) rfl ?_ | (refine' TL_q (op_bin rfl rfl ?_) rfl ?_; rotate_left 1; (· first | exact bin_add ⟨by omega, by omega⟩ | exact bin_sub ⟨by omega, by omega⟩ | exact bin_quo (by omega) (by omega) ⟨by omega, by omega⟩ | exact bin_eql | exact bin_lss | exact bin_gtr | exact bin_geq | exact sbin_eql | exact sbin_lss | exact sbin_gtr | exact sbin_add (by omega) | exact pbin_eql Try.underlying26 | exact pbin_neq Try.underlying26)) | refine TL_q (op_nilCheck rfl) rfl ?_ | refine TL_q (op_len_slice rfl Try.underlying56) rfl ?_ | refine TL_q (op_fld rfl fld_58_0) rfl ?_ | (refine' TL_q (op_ld rfl pl_2 ?_ ?_) rfl ?_; rotate_left 4; (· repeat (first | assumption | exact List.mem_cons_self | apply List.mem_cons_of_mem)); (· first | assumption | rfl)) | (refine T_no rfl ?_ ?_; (· first | with_reducible rfl | assumption | exact Bool.not_false | exact Bool.not_true)))
      refine T_draw follows_mixed ([(bp, Obj.cells (pcells q (.slice a p.list.length c)) 58 (0, 0))]) [] ?_
      first | (refine' TA_take 0 rfl rfl (by kernel_rfl) (quiet_q (op_move rfl)) ?_ ?_; (· first | assumption | (intro p hp; grind)))
      first | (refine' TA_take 1 rfl rfl (by kernel_rfl) (quiet_q (op_nilCheck rfl)) ?_ ?_; (· first | assumption | (intro p hp; grind)))
      first | (refine' TA_take 2 rfl rfl (by kernel_rfl) (quiet_q (op_fld rfl fld_58_7)) ?_ ?_; (· first | assumption | (intro p hp; grind)))
      first | (refine' TA_take 3 rfl rfl (by kernel_rfl) (quiet_q (op_ld rfl pl_2 ?_ ?_)) ?_ ?_; rotate_left 4; (· repeat (first | assumption | exact List.mem_cons_self | apply List.mem_cons_of_mem)); (· first | assumption | rfl); (· first | assumption | (intro p hp; grind)))
      first | (refine' TA_take 4 rfl rfl (by kernel_rfl) (quiet_q (op_move rfl)) ?_ ?_; (· first | assumption | (intro p hp; grind)))
      first | (refine' TA_take 5 rfl rfl (by kernel_rfl) (quiet_q (op_nilCheck rfl)) ?_ ?_; (· first | assumption | (intro p hp; grind)))
      first | (refine' TA_take 6 rfl rfl (by kernel_rfl) (quiet_q (op_fld rfl fld_58_6)) ?_ ?_; (· first | assumption | (intro p hp; grind)))
      first | (refine' TA_take 7 rfl rfl (by kernel_rfl) (quiet_q (op_ld rfl pl_2 ?_ ?_)) ?_ ?_; rotate_left 4; (· repeat (first | assumption | exact List.mem_cons_self | apply List.mem_cons_of_mem)); (· first | assumption | rfl); (· first | assumption | (intro p hp; grind)))
      first | (refine' TA_take 8 rfl rfl (by kernel_rfl) (quiet_q (op_bin rfl rfl ?_)) ?_ ?_; rotate_left 1; (· first | exact bin_add ⟨by omega, by omega⟩ | exact bin_sub ⟨by omega, by omega⟩ | exact bin_mul ⟨by omega, by omega⟩ | exact bin_quo (by omega) (by omega) ⟨by omega, by omega⟩ | exact bin_rem (by omega) (by omega) | exact bin_eql | exact bin_neq | exact bin_lss | exact bin_leq | exact bin_gtr | exact bin_geq | exact sbin_eql | exact sbin_neq | exact sbin_lss | exact sbin_gtr | exact sbin_add (by omega)); (· first | assumption | (intro p hp; grind)))
      first | (refine' TA_take 9 rfl rfl (by kernel_rfl) (quiet_q (op_move rfl)) ?_ ?_; (· first | assumption | (intro p hp; grind)))
      first | (refine' TA_take 10 rfl rfl (by kernel_rfl) (quiet_q (op_nilCheck rfl)) ?_ ?_; (· first | assumption | (intro p hp; grind)))
      first | (refine' TA_take 11 rfl rfl (by kernel_rfl) (quiet_q (op_fld rfl fld_58_4)) ?_ ?_; (· first | assumption | (intro p hp; grind)))
      first | (refine' TA_take 12 rfl rfl (by kernel_rfl) (quiet_q (op_ld rfl pl_2 ?_ ?_)) ?_ ?_; rotate_left 4; (· repeat (first | assumption | exact List.mem_cons_self | apply List.mem_cons_of_mem)); (· first | assumption | rfl); (· first | assumption | (intro p hp; grind)))
      first | (refine' TA_take 13 rfl rfl (by kernel_rfl) (quiet_q (op_bin rfl rfl ?_)) ?_ ?_; rotate_left 1; (· first | exact bin_add ⟨by omega, by omega⟩ | exact bin_sub ⟨by omega, by omega⟩ | exact bin_mul ⟨by omega, by omega⟩ | exact bin_quo (by omega) (by omega) ⟨by omega, by omega⟩ | exact bin_rem (by omega) (by omega) | exact bin_eql | exact bin_neq | exact bin_lss | exact bin_leq | exact bin_gtr | exact bin_geq | exact sbin_eql | exact sbin_neq | exact sbin_lss | exact sbin_gtr | exact sbin_add (by omega)); (· first | assumption | (intro p hp; grind)))
      first | (refine' TA_take 14 rfl rfl (by kernel_rfl) (quiet_q (op_assign rfl)) ?_ ?_; (· first | assumption | (intro p hp; grind)))
      refine TA_done (by kernel_rfl) ?_
      repeat (first | with_reducible refine T_seq ?_ | with_reducible refine T_region ?_ | with_reducible refine TL_nil ?_ | with_reducible refine TQ_then ?_ | with_reducible refine T_skip ?_ | with_reducible refine T_ret ?_ | refine TL_q (op_move rfl) rfl ?_ | refine TL_q (op_assign rfl) rfl ?_ | (refine' TL_q (op_bin rfl rfl ?_) rfl ?_; rotate_left 1; (· first | exact bin_add ⟨by omega, by omega⟩ | exact bin_sub ⟨by omega, by omega⟩ | exact bin_quo (by omega) (by omega) ⟨by omega, by omega⟩ | exact bin_eql | exact bin_lss | exact bin_gtr | exact bin_geq | exact sbin_eql | exact sbin_lss | exact sbin_gtr | exact sbin_add (by omega) | exact pbin_eql Try.underlying26 | exact pbin_neq Try.underlying26)) | refine TL_q (op_nilCheck rfl) rfl ?_ | refine TL_q (op_fld rfl fld_58_8) rfl ?_ | (refine' TL_q (op_ld rfl pl_2 ?_ ?_) rfl ?_; rotate_left 4; (· repeat (first | assumption | exact List.mem_cons_self | apply List.mem_cons_of_mem)); (· first | assumption | rfl)) | (refine T_no rfl ?_ ?_; (· first | with_reducible rfl | assumption | exact Bool.not_false | exact Bool.not_true)))
      refine TQ_jump_ret ?_
      refine TQ_ret2 4 5 _ _ rfl rfl rfl ?_
      rw [htick]
      refine ⟨_, _, Bg, Bs, Be, rfl, ?_, ?_, ?_, rfl⟩
      · dsimp only; rw [← hmg]; exact hRg
      · dsimp only; rw [← hms]; exact hRs
      · exact hRe
end Go.Proofs.Ytpamoacgajlkeaa
