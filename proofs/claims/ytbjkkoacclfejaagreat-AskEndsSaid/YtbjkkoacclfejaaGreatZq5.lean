/-
 Part 5: Hz Hc Hd He Hf Hg Ea Ca Cb Ee Ef Ej Ek.
-/
import Derived.Test.YtbjkkoacclfejaaGreatZq4
import Derived.Test.YtbjkkoacclfejaaGreatZq1
import Derived.Test.YtbjkkoacclfejaaGreatZq2
import Derived.Lib.ItoaNum
import Derived.Test.YtbjkkoacclfejaaGreatZq3
set_option maxRecDepth 100000
set_option maxHeartbeats 8000000
set_option linter.unusedVariables false
set_option linter.unusedSimpArgs false
namespace Go.Proofs.YtbjkkoacclfejaaGreat
open Go.RowKit
open Hg (En Pl)
variable {G : World} {L : ja}
theorem YL {P : Program} {n : Nat} {ρ : jp} {Q : Exit → Act → World → Prop} {σ : Type} {c X : Code} (l : Nat) (hf : findLabel c l = some (.seq .skip X)) (I : σ → Prop) (ρI : σ → jp) (LI : σ → ja) (μ : σ → Nat)
 (first : (∀ x, I x → T P G n (ρI x) (LI x) X (Exit.jump l (fun a w => ∃ x, I x ∧ Env n (ρI x) a ∧ Heap G w (LI x)) Q)) → T P G n ρ L c (Exit.jump l (fun a w => ∃ x, I x ∧ Env n (ρI x) a ∧ Heap G w (LI x)) Q))
 (pass : ∀ x, I x → T P G n (ρI x) (LI x) X (Exit.jump l (q7 G n I ρI LI μ (μ x)) Q)) : T P G n ρ L (.scope c) Q :=
 ZX l hf I ρI LI μ (fun _ => first fun x hx => KW (pass x hx) fun e a w h => by
  cases e <;> (first | exact h | exact ⟨h.1, by obtain ⟨y, h1, h2, h3, _⟩ := h.2; exact ⟨y, h1, h2, h3⟩⟩))
  (fun x hx => jU (qD (kL (pass x hx))))
structure Good (p : Pl) : Prop where
 len : p.list.length ≤ 9
 asked : p.asked ≤ p.list.length
 want : 1 ≤ p.want ∧ p.want ≤ 9
 tries : 1 ≤ p.tries ∧ p.tries ≤ 4
 every : 1 ≤ p.every ∧ p.every ≤ 1000
 wait : 1 ≤ p.wait ∧ p.wait ≤ 1000
 now : 0 ≤ p.start ∧ p.start ≤ p.now ∧ p.now ≤ Hg.top
 reached : 0 ≤ p.reached ∧ p.reached ≤ Hg.top
 each : ∀ x ∈ p.list, 0 ≤ x.last ∧ x.last ≤ p.now ∧ 0 ≤ x.asked ∧ x.asked ≤ p.tries
theorem Good.advance {p : Pl} (h : Good p) (t : Int) : Good (Hg.advance p t) := by
 have h1 := h.now
 have h2 : p.now ≤ (Hg.advance p t).now := by simp only [Hg.advance]; omega
 exact ⟨h.len, h.asked, h.want, h.tries, h.every, h.wait, ⟨h1.1, Int.le_trans h1.2.1 h2, by simp only [Hg.advance, Hg.top] at *; omega⟩, h.reached, fun x hx => by
  have := h.each x hx
  exact ⟨this.1, by omega, this.2.2.1, this.2.2.2⟩⟩
def mid (q : Pl) (i : Nat) : List En := (q.list.take i).map (Hg.tickE q.now q.wait q.tries) ++ q.list.drop i
theorem YM (q : Pl) : mid q 0 = q.list := by simp [mid]
theorem aat (q : Pl) : mid q q.list.length = (Hg.examine q).list := by simp [mid, Hg.examine]
theorem JA (q : Pl) (i : Nat) (h : i ≤ q.list.length) : (mid q i).length = q.list.length := by simp [mid]; omega
theorem Qk (q : Pl) (i : Nat) (x : En) (h : q.list[i]? = some x) : (mid q i)[i]? = some x := by
 have hi := (List.getElem?_eq_some_iff.1 h).1
 unfold mid
 rw [List.getElem?_append_right (by simp; omega)]
 simp [h, Nat.min_eq_left (Nat.le_of_lt hi)]
theorem JB (q : Pl) (i : Nat) (x : En) (h : q.list[i]? = some x) : mid q (i + 1) = (mid q i).set i (Hg.tickE q.now q.wait q.tries x) := by
 obtain ⟨hi, rfl⟩ := List.getElem?_eq_some_iff.1 h
 unfold mid
 rw [List.set_append_right _ _ (by simp; omega), List.take_succ_eq_append_getElem hi]
 simp only [List.map_append, List.map_cons, List.map_nil, List.append_assoc, List.length_map, List.length_take, Nat.min_eq_left (Nat.le_of_lt hi), Nat.sub_self]
 congr 1
 rw [List.drop_eq_getElem_cons hi]
 rfl
theorem qB {β : Type} (f : En → List β) (l : List En) (i : Nat) (x : En) (h : l[i]? = some x) : (l.take (i + 1)).flatMap f = (l.take i).flatMap f ++ f x := by
 obtain ⟨hi, rfl⟩ := List.getElem?_eq_some_iff.1 h
 rw [List.take_succ_eq_append_getElem hi, List.flatMap_append, List.flatMap_cons, List.flatMap_nil, List.append_nil]
theorem uT {β : Type} (f : En → List β) (l : List En) (hf : ∀ x, (f x).length ≤ 1) (i : Nat) : ((l.take i).flatMap f).length ≤ i := by
 rw [List.length_flatMap]
 have : ∀ l : List En, (l.map fun x => (f x).length).sum ≤ l.length := fun l => by
  induction l with
  | nil => simp
  | cons x r ih => have := hf x; simp; omega
 have := this (l.take i)
 rw [List.length_take] at this
 omega
theorem yX : ∀ (l : List En) (i : Nat) (x y : En), l[i]? = some x → j7 (l.set i y) = ((((j7 l).set (i * 4 + 0) (.int .i64 y.up)).set (i * 4 + 1) (.int .i64 y.asked)).set (i * 4 + 2) (.int .i64 y.last)).set (i * 4 + 3) (.bool y.op)
 | [], i, x, y, h => by simp at h
 | z :: r, 0, x, y, h => by simp [kG, kh]
 | z :: r, i + 1, x, y, h => by
   rw [List.set_cons_succ, kG, kG, yX r i x y (by simpa using h)]
   rw [show (i + 1) * 4 + 0 = (i * 4 + 0) + 4 by omega, show (i + 1) * 4 + 1 = (i * 4 + 1) + 4 by omega, show (i + 1) * 4 + 2 = (i * 4 + 2) + 4 by omega, show (i + 1) * 4 + 3 = (i * 4 + 3) + 4 by omega]
   simp [kh]
theorem qV {l : List Value} {i : Nat} {v : Value} (h : l[i]? = some v) : l.set i v = l := by
 obtain ⟨hi, rfl⟩ := List.getElem?_eq_some_iff.1 h
 exact List.set_getElem_self hi
theorem zB (l : List En) (i : Nat) (x : En) (h : l[i]? = some x) : j7 (l.set i { x with op := false }) = (j7 l).set (i * 4 + 3) (.bool false) := by
 rw [yX l i x _ h]
 have h0 := qd l i 0 x h jf
 have h1 := qd l i 1 x h jf
 have h2 := qd l i 2 x h jf
 rw [qV (l := j7 l) h0, qV (l := j7 l) h1, qV (l := j7 l) h2]
theorem Ug (l : List En) (i : Nat) (x : En) (k n : Int) (h : l[i]? = some x) : j7 (l.set i { x with asked := k, last := n }) = ((j7 l).set (i * 4 + 1) (.int .i64 k)).set (i * 4 + 2) (.int .i64 n) := by
 rw [yX l i x _ h]
 have h0 := qd l i 0 x h jf
 have h3 := qd l i 3 x h jf
 rw [qV (l := j7 l) h0]
 refine qV ?_
 rw [List.getElem?_set_ne jf, List.getElem?_set_ne jf]
 exact h3
theorem Uh (q : Pl) (i : Nat) (x : En) (hx : q.list[i]? = some x) (hl : Hg.late q.now q.wait x = false) : mid q (i + 1) = mid q i ∧ (q.list.take (i + 1)).flatMap (Hg.goneE q.now q.wait q.tries) = (q.list.take i).flatMap (Hg.goneE q.now q.wait q.tries) ∧
 (q.list.take (i + 1)).flatMap (Hg.sendE q.now q.wait q.tries) = (q.list.take i).flatMap (Hg.sendE q.now q.wait q.tries) := by
 refine ⟨?_, ?_, ?_⟩
 · rw [JB q i x hx]
   have : Hg.tickE q.now q.wait q.tries x = x := by simp [Hg.tickE, hl]
   rw [this]
   obtain ⟨h1, h2⟩ := List.getElem?_eq_some_iff.1 (Qk q i x hx)
   rw [← h2]
   exact List.set_getElem_self h1
 · rw [qB _ _ i x hx]; simp [Hg.goneE, hl]
 · rw [qB _ _ i x hx]; simp [Hg.sendE, hl]
theorem YN (q : Pl) (i : Nat) (x : En) (hx : q.list[i]? = some x) (hl : Hg.late q.now q.wait x = true) (ht : q.tries ≤ x.asked) : mid q (i + 1) = (mid q i).set i { x with op := false } ∧ (q.list.take (i + 1)).flatMap (Hg.goneE q.now q.wait q.tries) = (q.list.take i).flatMap (Hg.goneE q.now q.wait q.tries) ++ [x.up] ∧
 (q.list.take (i + 1)).flatMap (Hg.sendE q.now q.wait q.tries) = (q.list.take i).flatMap (Hg.sendE q.now q.wait q.tries) := by
 refine ⟨?_, ?_, ?_⟩
 · rw [JB q i x hx]; simp [Hg.tickE, hl, ht]
 · rw [qB _ _ i x hx]; simp [Hg.goneE, hl, ht]
 · rw [qB _ _ i x hx]; simp [Hg.sendE, hl, ht]
theorem YO (q : Pl) (i : Nat) (x : En) (hx : q.list[i]? = some x) (hl : Hg.late q.now q.wait x = true) (ht : ¬ q.tries ≤ x.asked) : mid q (i + 1) = (mid q i).set i { x with asked := x.asked + 1, last := q.now } ∧ (q.list.take (i + 1)).flatMap (Hg.goneE q.now q.wait q.tries) = (q.list.take i).flatMap (Hg.goneE q.now q.wait q.tries) ∧
 (q.list.take (i + 1)).flatMap (Hg.sendE q.now q.wait q.tries) = (q.list.take i).flatMap (Hg.sendE q.now q.wait q.tries) ++ [x.up] := by
 refine ⟨?_, ?_, ?_⟩
 · rw [JB q i x hx]; simp [Hg.tickE, hl, ht]
 · rw [qB _ _ i x hx]; simp [Hg.goneE, hl, ht]
 · rw [qB _ _ i x hx]; simp [Hg.sendE, hl, ht]
theorem uU {A B C D : ja} {p : Nat × Obj} : (p :: (A ++ (B ++ (C ++ D)))).Perm (C ++ (p :: (A ++ (B ++ D)))) := by
 have := perm_out (A := A ++ B) (B := C) (C := D) (p := p)
 simpa using this
theorem abt (bp : Nat) (p : Pl) (a : Option Addr) (c : Nat) (B : ja) (now : Int) (hR : Row 160 4 (.slice a p.list.length c) p.list.length (j7 p.list) B) (hG : Good p) (hb : p.begins = true) :
 Spec Tryz.prog G 47 #[.pointer (some ⟨bp, 0, none⟩), .int .i64 now] ((bp, .cells (jd p (.slice a p.list.length c)) 158 (0, 0)) :: (B ++ L)) fun u M => ∃ vg vs Bg Bs B', u = .tuple #[vg, vs] ∧
  Row 3 1 vg (Hg.tick p now).2.1.length (qf (Hg.tick p now).2.1) Bg ∧ Row 3 1 vs (Hg.tick p now).2.2.length (qf (Hg.tick p now).2.2) Bs ∧ Row 160 4 (.slice a p.list.length c) p.list.length (j7 (Hg.tick p now).1.list) B' ∧
  M = (bp, .cells (jd (Hg.tick p now).1 (.slice a p.list.length c)) 158 (0, 0)) :: (B' ++ (Bg ++ (Bs ++ L))) := by
 have pc0 : (jd (p) (.slice a p.list.length c))[0 + 0]? = some (.slice a p.list.length c) := rfl
 have pc1 : (jd (p) (.slice a p.list.length c))[0 + 1]? = some (.int .i64 ((p).asked : Nat)) := rfl
 have pc2 : (jd (p) (.slice a p.list.length c))[0 + 2]? = some (.int .i64 (p).want) := rfl
 have pc3 : (jd (p) (.slice a p.list.length c))[0 + 3]? = some (.int .i64 (p).tries) := rfl
 have pc4 : (jd (p) (.slice a p.list.length c))[0 + 4]? = some (.int .i64 (p).every) := rfl
 have pc5 : (jd (p) (.slice a p.list.length c))[0 + 5]? = some (.int .i64 (p).wait) := rfl
 have pc6 : (jd (p) (.slice a p.list.length c))[0 + 6]? = some (.int .i64 (p).start) := rfl
 have pc7 : (jd (p) (.slice a p.list.length c))[0 + 7]? = some (.int .i64 (p).now) := rfl
 have pc8 : (jd (p) (.slice a p.list.length c))[0 + 8]? = some (.int .i64 (p).reached) := rfl
 have pc9 : (jd (p) (.slice a p.list.length c))[0 + 9]? = some (.bool (p).made) := rfl
 have pc10 : (jd (p) (.slice a p.list.length c))[0 + 10]? = some (.bool (p).begins) := rfl
 have g1 : Option.isNone (some (⟨bp, 0, none⟩ : Addr)) = false := rfl
 have g2 : (!p.begins) = false := by rw [hb]; rfl
 refine jm (n := 138) Tryz.func47 rfl rfl rfl ?_
 obtain ⟨q, hq⟩ : ∃ q, q = Hg.advance p now := ⟨_, rfl⟩
 have hGq : Good q := by rw [hq]; exact hG.advance now
 have hql : q.list = p.list := by rw [hq]; rfl
 have hqn : q.list.length = p.list.length := by rw [hql]
 repeat (first | (with_reducible first | refine jU ?_ | refine jI ?_ | refine qo ?_ | refine kL ?_) | refine ju (yM rfl) rfl ?_)
 refine YL (σ := Nat × Value × Value × ja × ja × ja) 0 (by rfl)
  (fun x => x.1 ≤ q.list.length ∧ Row 3 1 x.2.1 ((q.list.take x.1).flatMap (Hg.goneE q.now q.wait q.tries)).length (qf ((q.list.take x.1).flatMap (Hg.goneE q.now q.wait q.tries))) x.2.2.2.1 ∧
    Row 3 1 x.2.2.1 ((q.list.take x.1).flatMap (Hg.sendE q.now q.wait q.tries)).length (qf ((q.list.take x.1).flatMap (Hg.sendE q.now q.wait q.tries))) x.2.2.2.2.1 ∧ Row 160 4 (.slice a p.list.length c) p.list.length (j7 (mid q x.1)) x.2.2.2.2.2)
  (fun x => [(0, .pointer (some ⟨bp, 0, none⟩)), (4, x.2.1), (5, x.2.2.1), (6, .int .i64 (x.1 : Nat))])
  (fun x => (bp, .cells (jd q (.slice a p.list.length c)) 158 (0, 0)) :: (x.2.2.2.2.2 ++ (x.2.2.2.1 ++ (x.2.2.2.2.1 ++ L)))) (fun x => q.list.length - x.1) ?_ ?_
 · intro pass
   repeat (first | (with_reducible first | refine jU ?_ | refine jI ?_ | refine qo ?_ | refine kL ?_ | refine qD ?_) | refine ju (uO rfl) rfl ?_ | (refine' ju (qp rfl rfl ?_) rfl ?_; rotate_left 1; (· exact Qv unO)) | (refine' ju (jR rfl ?_ rfl) rfl ?_; (· assumption)) | (refine ky rfl rfl ?_ ?_; (· assumption)) | refine jA (uO rfl) rfl ?_ | refine jA (WS rfl) rfl ?_ | refine jA (zj rfl) rfl ?_ | refine jA (ub rfl KX) rfl ?_ | (refine' jA (Vz rfl plO ?_ ?_) rfl ?_; rotate_left 4; (· repeat (exact List.mem_cons_self)); (· assumption)) | (refine JS rfl ?_ ?_; (· assumption)))
   refine jx (jb jg rfl (Ku bp p _ now)) rfl ?_
   rintro u0 M0 hM0
   rw [hM0, ← hq]
   clear hM0 M0
   repeat (first | (with_reducible first | refine jU ?_ | refine jI ?_ | refine qo ?_ | refine kL ?_) | refine ju (yM rfl) rfl ?_)
   refine qi ?_
   refine kL ?_
   refine aaT _ _ ?_ ?_ (pass (0, .slice none 0 0, .slice none 0 0, [], [], B) ⟨Nat.zero_le _, Row.nil _ _, Row.nil _ _, ?_⟩)
   exact jv
   · exact fun w hw => hw
   · dsimp only; rw [YM, hql]; exact hR
 rintro ⟨i, vg, vs, Bg, Bs, Be⟩ ⟨hi, hRg, hRs, hRe⟩
 dsimp only at hi hRg hRs hRe ⊢
 have qc0 : (jd (q) (.slice a p.list.length c))[0 + 0]? = some (.slice a p.list.length c) := rfl
 have qc1 : (jd (q) (.slice a p.list.length c))[0 + 1]? = some (.int .i64 ((q).asked : Nat)) := rfl
 have qc2 : (jd (q) (.slice a p.list.length c))[0 + 2]? = some (.int .i64 (q).want) := rfl
 have qc3 : (jd (q) (.slice a p.list.length c))[0 + 3]? = some (.int .i64 (q).tries) := rfl
 have qc4 : (jd (q) (.slice a p.list.length c))[0 + 4]? = some (.int .i64 (q).every) := rfl
 have qc5 : (jd (q) (.slice a p.list.length c))[0 + 5]? = some (.int .i64 (q).wait) := rfl
 have qc6 : (jd (q) (.slice a p.list.length c))[0 + 6]? = some (.int .i64 (q).start) := rfl
 have qc7 : (jd (q) (.slice a p.list.length c))[0 + 7]? = some (.int .i64 (q).now) := rfl
 have qc8 : (jd (q) (.slice a p.list.length c))[0 + 8]? = some (.int .i64 (q).reached) := rfl
 have qc9 : (jd (q) (.slice a p.list.length c))[0 + 9]? = some (.bool (q).made) := rfl
 have qc10 : (jd (q) (.slice a p.list.length c))[0 + 10]? = some (.bool (q).begins) := rfl
 have hlen := hGq.len
 have hnow := hGq.now
 have htr := hGq.tries
 have htop : Hg.top = 1099511627776 := rfl
 obtain ⟨mg, hmg⟩ : ∃ mg, mg = ((q.list.take i).flatMap (Hg.goneE q.now q.wait q.tries)).length := ⟨_, rfl⟩
 obtain ⟨ms, hms⟩ : ∃ ms, ms = ((q.list.take i).flatMap (Hg.sendE q.now q.wait q.tries)).length := ⟨_, rfl⟩
 have hmg9 : mg ≤ i := by rw [hmg]; exact uT _ _ (fun x => by unfold Hg.goneE; split <;> simp) _
 have hms9 : ms ≤ i := by rw [hms]; exact uT _ _ (fun x => by unfold Hg.sendE; split <;> simp) _
 rw [← hmg] at hRg
 rw [← hms] at hRs
 obtain ⟨ag, cg, rfl⟩ := hRg.slice
 obtain ⟨as1, cs1, rfl⟩ := hRs.slice
 by_cases hlt : i < q.list.length
 · have g3 : decide (((i : Nat) : Int) < ((p.list.length : Nat) : Int)) = true := decide_eq_true jf
   obtain ⟨x, hx⟩ : ∃ x, q.list[i]? = some x := ⟨_, List.getElem?_eq_getElem hlt⟩
   obtain ⟨e1, e2, e3, e4⟩ := hGq.each x (List.mem_of_getElem? hx)
   rcases hRe.is with ⟨_, h, _⟩ | ⟨be, cap, cur, hsl, rfl, h3, h4, h5, h6⟩
   · omega
   cases hsl
   have hat : ∀ j u, j < 4 → (kh x)[j]? = some u → cur[0 + i * 4 + j]? = some u := fun j u hj hu => by
    have := qd (mid q i) i j x (Qk q i x hx) hj
    rw [← h6, List.getElem?_take_of_lt jf, hu] at this
    rw [Nat.zero_add]
    simpa using this
   have n0 : cur[0 + i * 4 + 0]? = some (.int .i64 x.up) := hat 0 _ jf rfl
   have n1 : cur[0 + i * 4 + 1]? = some (.int .i64 x.asked) := hat 1 _ jf rfl
   have n2 : cur[0 + i * 4 + 2]? = some (.int .i64 x.last) := hat 2 _ jf rfl
   have n3 : cur[0 + i * 4 + 3]? = some (.bool x.op) := hat 3 _ jf rfl
   have hK : ∀ y ∈ [(bp, Obj.cells (jd q (.slice (some ⟨be, 0, none⟩) p.list.length c)) 158 (0, 0)), (be, Obj.cells cur 160 (0, 0))], y ∈ (bp, Obj.cells (jd q (.slice (some ⟨be, 0, none⟩) p.list.length c)) 158 (0, 0)) :: ([(be, Obj.cells cur 160 (0, 0))] ++ (Bg ++ (Bs ++ L))) := fun y hy => by
    simp only [List.mem_cons, List.not_mem_nil, or_false] at hy
    rcases hy with rfl | rfl
    · exact List.mem_cons_self ..
    · exact List.mem_cons_of_mem _ (List.mem_cons_self ..)
   cases hop : x.op with
   | false =>
     have g4 : (!x.op) = true := by rw [hop]; rfl
     have hlate : Hg.late q.now q.wait x = false := by simp [Hg.late, hop]
     refine goD ?_
     refine jw jc ([(bp, Obj.cells (jd q (.slice (some ⟨be, 0, none⟩) p.list.length c)) 158 (0, 0)), (be, Obj.cells cur 160 (0, 0))]) [] ?_
     refine tkQ 0 ?_
     refine tkQ 1 ?_
     refine tkQ 2 ?_
     refine tkQ 3 ?_
     refine tkQ 4 ?_
     refine tkQ 5 ?_
     refine tkQ 6 ?_
     refine tkQ 7 ?_
     refine tkQ 8 ?_
     refine tkQ 9 ?_
     refine tkQ 10 ?_
     refine tkQ 11 ?_
     refine tkQ 12 ?_
     refine tkQ 13 ?_
     refine tkQ 14 ?_
     refine tkQ 15 ?_
     refine tkQ 16 ?_
     refine tkQ 17 ?_
     refine tkQ 18 ?_
     refine tkQ 19 ?_
     refine tkQ 20 ?_
     refine tdQ ?_
     refine goD ?_
     obtain ⟨k1, k2, k3⟩ := Uh q i x hx hlate
     refine KL ?_
     repeat refine jN ?_
     refine zO (i + 1, .slice ag mg cg, .slice as1 ms cs1, Bg, Bs, [(be, Obj.cells cur 160 (0, 0))]) ⟨hlt, ?_, ?_, ?_⟩ ?_ ?_ ?_
     · dsimp only; rw [k2, ← hmg]; exact hRg
     · dsimp only; rw [k3, ← hms]; exact hRs
     · dsimp only; rw [k1]; exact hRe
     exact jv
     · exact fun w hw => hw
     · dsimp only; omega
   | true =>
   have g4 : (!x.op) = false := by rw [hop]; rfl
   by_cases hw : q.now - x.last < q.wait
   · have g5 : decide (q.now - x.last < q.wait) = true := decide_eq_true hw
     have hlate : Hg.late q.now q.wait x = false := by simp [Hg.late, hop, hw]
     refine goD ?_
     refine jw jc ([(bp, Obj.cells (jd q (.slice (some ⟨be, 0, none⟩) p.list.length c)) 158 (0, 0)), (be, Obj.cells cur 160 (0, 0))]) [] ?_
     refine tkQ 0 ?_
     refine tkQ 1 ?_
     refine tkQ 2 ?_
     refine tkQ 3 ?_
     refine tkQ 4 ?_
     refine tkQ 5 ?_
     refine tkQ 6 ?_
     refine tkQ 7 ?_
     refine tkQ 8 ?_
     refine tkQ 9 ?_
     refine tkQ 10 ?_
     refine tkQ 11 ?_
     refine tkQ 12 ?_
     refine tkQ 13 ?_
     refine tkQ 14 ?_
     refine tkQ 15 ?_
     refine tkQ 16 ?_
     refine tkQ 17 ?_
     refine tkQ 18 ?_
     refine tkQ 19 ?_
     refine tkQ 20 ?_
     refine tdQ ?_
     refine goD ?_
     obtain ⟨k1, k2, k3⟩ := Uh q i x hx hlate
     refine KL ?_
     repeat refine jN ?_
     refine zO (i + 1, .slice ag mg cg, .slice as1 ms cs1, Bg, Bs, [(be, Obj.cells cur 160 (0, 0))]) ⟨hlt, ?_, ?_, ?_⟩ ?_ ?_ ?_
     · dsimp only; rw [k2, ← hmg]; exact hRg
     · dsimp only; rw [k3, ← hms]; exact hRs
     · dsimp only; rw [k1]; exact hRe
     exact jv
     · exact fun w hw => hw
     · dsimp only; omega
   have g5 : decide (q.now - x.last < q.wait) = false := decide_eq_false hw
   have hlate : Hg.late q.now q.wait x = true := by simp [Hg.late, hop]; omega
   by_cases ht : q.tries ≤ x.asked
   · have g6 : decide (q.tries ≤ x.asked) = true := decide_eq_true ht
     obtain ⟨k1, k2, k3⟩ := YN q i x hx hlate ht
     have m0 : (cur.setIfInBounds (0 + i * 4 + 3) (.bool false))[0 + i * 4 + 0]? = some (.int .i64 x.up) := by rw [Array.getElem?_setIfInBounds_ne jf]; exact n0
     refine goD ?_
     refine jw jc ([(bp, Obj.cells (jd q (.slice (some ⟨be, 0, none⟩) p.list.length c)) 158 (0, 0)), (be, Obj.cells cur 160 (0, 0))]) [] ?_
     refine tkQ 0 ?_
     refine tkQ 1 ?_
     refine tkQ 2 ?_
     refine tkQ 3 ?_
     refine tkQ 4 ?_
     refine tkQ 5 ?_
     refine tkQ 6 ?_
     refine tkQ 7 ?_
     refine tkQ 8 ?_
     refine tkQ 9 ?_
     refine tkQ 10 ?_
     refine tkQ 11 ?_
     refine tkQ 12 ?_
     refine tkQ 13 ?_
     refine tkQ 14 ?_
     refine tkQ 15 ?_
     refine tkQ 16 ?_
     refine tkQ 17 ?_
     refine tkQ 18 ?_
     refine tkQ 19 ?_
     refine tkQ 20 ?_
     refine tdQ ?_
     refine goD ?_
     refine jw jc ([(bp, Obj.cells (jd q (.slice (some ⟨be, 0, none⟩) p.list.length c)) 158 (0, 0)), (be, Obj.cells cur 160 (0, 0))]) [] ?_
     refine tkQ 0 ?_
     refine tkQ 1 ?_
     refine tkQ 2 ?_
     refine tkQ 3 ?_
     refine tkQ 4 ?_
     refine tkQ 5 ?_
     refine tkQ 6 ?_
     refine tkQ 7 ?_
     refine tkQ 8 ?_
     refine tdQ ?_
     repeat (first | refine goD ?_ | (refine uf ?_; intro bLit))
     refine kR (List.Perm.cons _ (perm_out (A := [_]))) ?_
     refine uc etO rfl rfl hRg rfl (by unfold maxLen; omega) jf rfl ?_
     intro v4 B4 hR4
     obtain ⟨a4, c4, rfl⟩ := hR4.slice
     refine goD ?_
     refine KL ?_
     repeat refine jN ?_
     refine zO (i + 1, .slice a4 (mg + 1) c4, .slice as1 ms cs1, B4, Bs, [(be, Obj.cells (cur.setIfInBounds (0 + i * 4 + 3) (.bool false)) 160 (0, 0))]) ⟨hlt, ?_, ?_, ?_⟩ ?_ ?_ ?_
     · dsimp only; rw [k2, List.length_append, ← hmg]; simpa [qf] using hR4
     · dsimp only; rw [k3, ← hms]; exact hRs
     · dsimp only
       refine ⟨by rw [k1, qx, List.length_set, JA q i hi, hqn], Or.inr ⟨be, c, _, rfl, rfl, h3, h4, by simpa using h5, ?_⟩⟩
       rw [k1, take_set, h6, zB _ _ _ (Qk q i x hx), Nat.zero_add]
     exact jv
     · exact fun w hw => hw.perm (perm_out (A := [_])).symm
     · dsimp only; omega
   · have g6 : decide (q.tries ≤ x.asked) = false := decide_eq_false ht
     obtain ⟨k1, k2, k3⟩ := YO q i x hx hlate ht
     have m2 : (cur.setIfInBounds (0 + i * 4 + 1) (.int .i64 (x.asked + 1)))[0 + i * 4 + 2]? = some (.int .i64 x.last) := by rw [Array.getElem?_setIfInBounds_ne jf]; exact n2
     have m0 : ((cur.setIfInBounds (0 + i * 4 + 1) (.int .i64 (x.asked + 1))).setIfInBounds (0 + i * 4 + 2) (.int .i64 q.now))[0 + i * 4 + 0]? = some (.int .i64 x.up) := by rw [Array.getElem?_setIfInBounds_ne jf, Array.getElem?_setIfInBounds_ne jf]; exact n0
     refine goD ?_
     refine jw jc ([(bp, Obj.cells (jd q (.slice (some ⟨be, 0, none⟩) p.list.length c)) 158 (0, 0)), (be, Obj.cells cur 160 (0, 0))]) [] ?_
     refine tkQ 0 ?_
     refine tkQ 1 ?_
     refine tkQ 2 ?_
     refine tkQ 3 ?_
     refine tkQ 4 ?_
     refine tkQ 5 ?_
     refine tkQ 6 ?_
     refine tkQ 7 ?_
     refine tkQ 8 ?_
     refine tkQ 9 ?_
     refine tkQ 10 ?_
     refine tkQ 11 ?_
     refine tkQ 12 ?_
     refine tkQ 13 ?_
     refine tkQ 14 ?_
     refine tkQ 15 ?_
     refine tkQ 16 ?_
     refine tkQ 17 ?_
     refine tkQ 18 ?_
     refine tkQ 19 ?_
     refine tkQ 20 ?_
     refine tdQ ?_
     refine goD ?_
     refine jw jc ([(bp, Obj.cells (jd q (.slice (some ⟨be, 0, none⟩) p.list.length c)) 158 (0, 0)), (be, Obj.cells cur 160 (0, 0))]) [] ?_
     refine tkQ 0 ?_
     refine tkQ 1 ?_
     refine tkQ 2 ?_
     refine tkQ 3 ?_
     refine tkQ 4 ?_
     refine tkQ 5 ?_
     refine tkQ 6 ?_
     refine tkQ 7 ?_
     refine tkQ 8 ?_
     refine tdQ ?_
     repeat (first | refine goD ?_ | (refine uf ?_; intro bLit))
     refine kR (List.Perm.cons _ (uU (A := [_]))) ?_
     refine uc etO rfl rfl hRs rfl (by unfold maxLen; omega) jf rfl ?_
     intro v4 B4 hR4
     obtain ⟨a4, c4, rfl⟩ := hR4.slice
     refine goD ?_
     refine KL ?_
     repeat refine jN ?_
     refine zO (i + 1, .slice ag mg cg, .slice a4 (ms + 1) c4, Bg, B4, [(be, Obj.cells ((cur.setIfInBounds (0 + i * 4 + 1) (.int .i64 (x.asked + 1))).setIfInBounds (0 + i * 4 + 2) (.int .i64 q.now)) 160 (0, 0))]) ⟨hlt, ?_, ?_, ?_⟩ ?_ ?_ ?_
     · dsimp only; rw [k2, ← hmg]; exact hRg
     · dsimp only; rw [k3, List.length_append, ← hms]; simpa [qf] using hR4
     · dsimp only
       refine ⟨by rw [k1, qx, List.length_set, JA q i hi, hqn], Or.inr ⟨be, c, _, rfl, rfl, h3, h4, by simpa using h5, ?_⟩⟩
       rw [k1, take_set, take_set, h6, Ug _ _ _ _ _ (Qk q i x hx), Nat.zero_add]
     exact jv
     · exact fun w hw => hw.perm (uU (A := [_])).symm
     · dsimp only; omega
 · have g3 : decide (((i : Nat) : Int) < ((p.list.length : Nat) : Int)) = false := decide_eq_false jf
   have hie : i = q.list.length := by omega
   subst hie
   rw [List.take_length] at hmg hms hRg hRs
   rw [aat] at hRe
   obtain ⟨k, hk⟩ : ∃ k, k = (q.now - q.start) / q.every := ⟨_, rfl⟩
   have hev := hGq.every
   have hk0 : 0 ≤ (q.now - q.start) / q.every := Int.ediv_nonneg jf jf
   have hk1 : (q.now - q.start) / q.every ≤ q.now - q.start := Int.ediv_le_self _ jf
   have htick : Hg.tick p now = ((Hg.hedged (Hg.examine q)).1, q.list.flatMap (Hg.goneE q.now q.wait q.tries), q.list.flatMap (Hg.sendE q.now q.wait q.tries) ++ (Hg.hedged (Hg.examine q)).2) := by
    unfold Hg.tick
    rw [if_neg (by rw [g2]; simp), hq]
   have hK : ∀ y ∈ [(bp, Obj.cells (jd q (.slice a p.list.length c)) 158 (0, 0))], y ∈ (bp, Obj.cells (jd q (.slice a p.list.length c)) 158 (0, 0)) :: (Be ++ (Bg ++ (Bs ++ L))) := fun y hy => by
    rw [List.mem_singleton.1 hy]; exact List.mem_cons_self ..
   have hxl : (Hg.examine q).list.length = p.list.length := by simp [Hg.examine, hqn]
   by_cases hkr : q.reached < (q.now - q.start) / q.every
   · have g7 : decide (q.reached < (q.now - q.start) / q.every) = true := decide_eq_true hkr
     refine goD ?_
     refine jw jc ([(bp, Obj.cells (jd q (.slice a p.list.length c)) 158 (0, 0))]) [] ?_
     refine tkQ 0 ?_
     refine tkQ 1 ?_
     refine tkQ 2 ?_
     refine tkQ 3 ?_
     refine tkQ 4 ?_
     refine tkQ 5 ?_
     refine tkQ 6 ?_
     refine tkQ 7 ?_
     refine tkQ 8 ?_
     refine tkQ 9 ?_
     refine tkQ 10 ?_
     refine tkQ 11 ?_
     refine tkQ 12 ?_
     refine tkQ 13 ?_
     refine tkQ 14 ?_
     refine tdQ ?_
     refine goD ?_
     obtain ⟨q1, hq1⟩ : ∃ q1 : Pl, q1 = { Hg.examine q with reached := (q.now - q.start) / q.every } := ⟨_, rfl⟩
     have hq1l : q1.list = (Hg.examine q).list := by rw [hq1]
     have hq1n : q1.list.length = p.list.length := by rw [hq1l, hxl]
     refine aaT [(0, .pointer (some ⟨bp, 0, none⟩)), (4, .slice ag mg cg), (5, .slice as1 ms cs1)] ((bp, .cells (jd q1 (.slice a p.list.length c)) 158 (0, 0)) :: (Be ++ (Bg ++ (Bs ++ L)))) ?_ ?_ ?_
     exact jv
     · intro w hw
       rw [hq1]
       exact hw
     have sc0 : (jd (q1) (.slice a p.list.length c))[0 + 0]? = some (.slice a p.list.length c) := rfl
     have sc1 : (jd (q1) (.slice a p.list.length c))[0 + 1]? = some (.int .i64 ((q1).asked : Nat)) := rfl
     have sc2 : (jd (q1) (.slice a p.list.length c))[0 + 2]? = some (.int .i64 (q1).want) := rfl
     have sc3 : (jd (q1) (.slice a p.list.length c))[0 + 3]? = some (.int .i64 (q1).tries) := rfl
     have sc4 : (jd (q1) (.slice a p.list.length c))[0 + 4]? = some (.int .i64 (q1).every) := rfl
     have sc5 : (jd (q1) (.slice a p.list.length c))[0 + 5]? = some (.int .i64 (q1).wait) := rfl
     have sc6 : (jd (q1) (.slice a p.list.length c))[0 + 6]? = some (.int .i64 (q1).start) := rfl
     have sc7 : (jd (q1) (.slice a p.list.length c))[0 + 7]? = some (.int .i64 (q1).now) := rfl
     have sc8 : (jd (q1) (.slice a p.list.length c))[0 + 8]? = some (.int .i64 (q1).reached) := rfl
     have sc9 : (jd (q1) (.slice a p.list.length c))[0 + 9]? = some (.bool (q1).made) := rfl
     have sc10 : (jd (q1) (.slice a p.list.length c))[0 + 10]? = some (.bool (q1).begins) := rfl
     have hK : ∀ y ∈ [(bp, Obj.cells (jd q1 (.slice a p.list.length c)) 158 (0, 0))], y ∈ (bp, Obj.cells (jd q1 (.slice a p.list.length c)) 158 (0, 0)) :: (Be ++ (Bg ++ (Bs ++ L))) := fun y hy => by
      rw [List.mem_singleton.1 hy]; exact List.mem_cons_self ..
     have hhed : Hg.hedged (Hg.examine q) = if q1.asked < q1.list.length then (Hg.next q1, [Hg.upAt q1 q1.asked]) else (q1, []) := by
      unfold Hg.hedged
      rw [if_pos (by exact hkr), hq1]
      rfl
     by_cases hal : q1.asked < q1.list.length
     · have g8 : decide (((q1.asked : Nat) : Int) < ((p.list.length : Nat) : Int)) = true := decide_eq_true jf
       rw [if_pos hal] at hhed
       rw [hhed] at htick
       skip
       refine jw jc ([(bp, Obj.cells (jd q1 (.slice a p.list.length c)) 158 (0, 0))]) [] ?_
       refine tkQ 0 ?_
       refine tkQ 1 ?_
       refine tkQ 2 ?_
       refine tkQ 3 ?_
       refine tkQ 4 ?_
       refine tkQ 5 ?_
       refine tkQ 6 ?_
       refine tkQ 7 ?_
       refine tkQ 8 ?_
       refine tkQ 9 ?_
       refine tdQ ?_
       refine goD ?_
       refine jx (jb jg rfl (U3 bp q1 _ Be (by rw [hq1n, hq1l]; exact hRe) jf jf)) rfl ?_
       rintro _ M1 ⟨rfl, B3, hR3, hM1⟩
       rw [hM1]
       clear hM1 M1
       repeat (refine jP (KV etO rfl rfl) rfl ?_; intro bLit)
       refine kR (List.Perm.cons _ (uU (A := B3))) ?_
       refine uc etO rfl rfl hRs rfl (by unfold maxLen; omega) jf rfl ?_
       intro v4 B4 hR4
       obtain ⟨a4, c4, rfl⟩ := hR4.slice
       refine goD ?_
       refine uw ?_
       refine js (fun w hw => hw.perm (uU (A := B3)).symm) ?_
       refine qj 4 5 _ _ rfl rfl rfl ?_
       rw [htick]
       refine ⟨_, _, Bg, B4, B3, rfl, ?_, ?_, ?_, rfl⟩
       · dsimp only; rw [← hmg]; exact hRg
       · dsimp only; rw [List.length_append, ← hms]; simpa [qf] using hR4
       · dsimp only
         have : (Hg.next q1).list.length = p.list.length := by simp [Hg.next, hq1n]
         rw [this] at hR3
         exact hR3
     · have g8 : decide (((q1.asked : Nat) : Int) < ((p.list.length : Nat) : Int)) = false := decide_eq_false jf
       rw [if_neg hal] at hhed
       rw [hhed, List.append_nil] at htick
       skip
       refine jw jc ([(bp, Obj.cells (jd q1 (.slice a p.list.length c)) 158 (0, 0))]) [] ?_
       refine tkQ 0 ?_
       refine tkQ 1 ?_
       refine tkQ 2 ?_
       refine tkQ 3 ?_
       refine tkQ 4 ?_
       refine tkQ 5 ?_
       refine tkQ 6 ?_
       refine tkQ 7 ?_
       refine tkQ 8 ?_
       refine tkQ 9 ?_
       refine tdQ ?_
       refine goD ?_
       refine uw ?_
       refine qj 4 5 _ _ rfl rfl rfl ?_
       rw [htick]
       refine ⟨_, _, Bg, Bs, Be, rfl, ?_, ?_, ?_, rfl⟩
       · dsimp only; rw [← hmg]; exact hRg
       · dsimp only; rw [← hms]; exact hRs
       · dsimp only; rw [hq1l]; exact hRe
   · have g7 : decide (q.reached < (q.now - q.start) / q.every) = false := decide_eq_false hkr
     have hhed : Hg.hedged (Hg.examine q) = (Hg.examine q, []) := by
      unfold Hg.hedged
      rw [if_neg (by exact hkr)]
     rw [hhed, List.append_nil] at htick
     refine goD ?_
     refine jw jc ([(bp, Obj.cells (jd q (.slice a p.list.length c)) 158 (0, 0))]) [] ?_
     refine tkQ 0 ?_
     refine tkQ 1 ?_
     refine tkQ 2 ?_
     refine tkQ 3 ?_
     refine tkQ 4 ?_
     refine tkQ 5 ?_
     refine tkQ 6 ?_
     refine tkQ 7 ?_
     refine tkQ 8 ?_
     refine tkQ 9 ?_
     refine tkQ 10 ?_
     refine tkQ 11 ?_
     refine tkQ 12 ?_
     refine tkQ 13 ?_
     refine tkQ 14 ?_
     refine tdQ ?_
     refine goD ?_
     refine uw ?_
     refine qj 4 5 _ _ rfl rfl rfl ?_
     rw [htick]
     refine ⟨_, _, Bg, Bs, Be, rfl, ?_, ?_, ?_, rfl⟩
     · dsimp only; rw [← hmg]; exact hRg
     · dsimp only; rw [← hms]; exact hRs
     · exact hRe
end Go.Proofs.YtbjkkoacclfejaaGreat
namespace Go.Proofs.YtbjkkoacclfejaaGreat
open Go.RowKit
open Hg (En Pl)
section
variable {G : World} {P : Program} {n : Nat} {ρ : jp} {L : ja} {ty : TypeId} {Q : Exit → Act → World → Prop}
def IRow (L : ja) (v : Value) (l : List Int) : Prop := ∃ a cap, v = .slice a l.length cap ∧ (l = [] ∨ ∃ b off C te fr, a = some ⟨b, off, none⟩ ∧ (b, Obj.cells C te fr) ∈ L ∧ ∀ i x, l[i]? = some x → C[off + i * 1]? = some (.int .i64 x))
theorem Row.irow {e : TypeId} {v : Value} {l : List Int} {B : ja} {m : Nat} (h : Row e 1 v m (qf l) B) (hB : ∀ p ∈ B, p ∈ L) : IRow L v l := by
 have hlen : l.length = m := by have := h.len; simpa [qf] using this
 subst hlen
 rcases h.is with ⟨h1, h2, _⟩ | ⟨b, cap, cur, h1, h2, h3, h4, h5, h6⟩
 · exact ⟨none, 0, by rw [h1, h2], Or.inl (List.eq_nil_of_length_eq_zero h2)⟩
 · refine ⟨_, cap, h1, Or.inr ⟨b, 0, cur, e, (0, 0), rfl, hB _ (by rw [h2]; exact List.mem_cons_self ..), fun i x hi => ?_⟩⟩
   have hil := (List.getElem?_eq_some_iff.1 hi).1
   have : (cur.toList.take (l.length * 1))[i]? = some (Value.int .i64 x) := by rw [h6]; simp [qf, hi]
   rw [List.getElem?_take_of_lt jf] at this
   simpa using this
theorem IRow.mono {L L' : ja} {v : Value} {l : List Int} (h : IRow L v l) (hs : ∀ p ∈ L, p ∈ L') : IRow L' v l := by
 obtain ⟨a, cap, h1, h2⟩ := h
 refine ⟨a, cap, h1, h2.imp id ?_⟩
 rintro ⟨b, off, C, te, fr, q1, q2, q3⟩
 exact ⟨b, off, C, te, fr, q1, hs _ q2, q3⟩
theorem IRow.nil (cap : Nat) (a : Option Addr) : IRow L (.slice a 0 cap) [] := ⟨a, cap, rfl, Or.inl rfl⟩
end
theorem Kv (u : Int) : ∀ (l : List En) (k : Nat) (x : En), (∀ y ∈ l.take k, Hg.isIt u y = false) → l[k]? = some x → Hg.isIt u x = true → Hg.closeL u l = l.set k { x with op := false } ∧ l.any (Hg.isIt u) = true
 | [], k, x, _, h, _ => by simp at h
 | y :: r, 0, x, _, h, hf => by simp at h; subst h; simp [Hg.closeL, hf]
 | y :: r, k + 1, x, ha, h, hf => by
   have h1 := ha y (by simp)
   obtain ⟨h2, h3⟩ := Kv u r k x (fun z hz => ha z (by simp [hz])) (by simpa using h) hf
   simp [Hg.closeL, h1, h2, h3]
theorem zC (u : Int) : ∀ (l : List En), (∀ y ∈ l, Hg.isIt u y = false) → Hg.closeL u l = l ∧ l.any (Hg.isIt u) = false
 | [], _ => ⟨rfl, rfl⟩
 | y :: r, ha => by
   have h1 := ha y (by simp)
   obtain ⟨h2, h3⟩ := zC u r fun z hz => ha z (by simp [hz])
   simp only [Hg.closeL, h1, List.any_cons, Bool.false_or]
   exact ⟨by simp [h2], h3⟩
theorem Ui {α : Type} {p : α → Prop} {l : List α} {k : Nat} {x : α} (h : ∀ y ∈ l.take k, p y) (hx : l[k]? = some x) (hp : p x) : ∀ y ∈ l.take (k + 1), p y := by
 obtain ⟨hk, rfl⟩ := List.getElem?_eq_some_iff.1 hx
 intro y hy
 rw [List.take_succ_eq_append_getElem hk] at hy
 rcases List.mem_append.1 hy with h1 | h1
 · exact h y h1
 · rw [List.mem_singleton.1 h1]; exact hp
variable {G : World} {L : ja}
theorem YP : jL Tryz.prog 160 4 = true := by kernel_rfl
theorem yb (x : En) : ∀ v ∈ kh x, v.oneCell' = true := by
 intro v hv
 simp only [kh, List.mem_cons, List.not_mem_nil, or_false] at hv
 rcases hv with rfl | rfl | rfl | rfl <;> rfl
theorem Kw {cur : Array Value} {l : List En} {m k : Nat} {x : En} (h6 : cur.toList.take (m * 4) = j7 l) (hx : l[k]? = some x) (hk : k < m) : ∀ j v, (kh x)[j]? = some v → cur[0 + k * 4 + j]? = some v := by
 intro j v hj
 have hj4 : j < 4 := by have := (List.getElem?_eq_some_iff.1 hj).1; simpa [kh] using this
 have := qd l k j x hx hj4
 rw [← h6, List.getElem?_take_of_lt jf, hj] at this
 rw [Nat.zero_add]
 simpa using this
theorem abu (bp : Nat) (p : Pl) (a : Option Addr) (c : Nat) (B : ja) (hR : Row 160 4 (.slice a p.list.length c) p.list.length (j7 p.list) B) (hl : p.list.length ≤ 9) :
 Spec Tryz.prog G 66 #[.pointer (some ⟨bp, 0, none⟩)] ((bp, .cells (jd p (.slice a p.list.length c)) 158 (0, 0)) :: (B ++ L)) fun u M => u = .int .i64 (Hg.opens p) ∧ M = (bp, .cells (jd p (.slice a p.list.length c)) 158 (0, 0)) :: (B ++ L) := by
 have pc0 : (jd (p) (.slice a p.list.length c))[0 + 0]? = some (.slice a p.list.length c) := rfl
 have pc1 : (jd (p) (.slice a p.list.length c))[0 + 1]? = some (.int .i64 ((p).asked : Nat)) := rfl
 have pc2 : (jd (p) (.slice a p.list.length c))[0 + 2]? = some (.int .i64 (p).want) := rfl
 have pc3 : (jd (p) (.slice a p.list.length c))[0 + 3]? = some (.int .i64 (p).tries) := rfl
 have pc4 : (jd (p) (.slice a p.list.length c))[0 + 4]? = some (.int .i64 (p).every) := rfl
 have pc5 : (jd (p) (.slice a p.list.length c))[0 + 5]? = some (.int .i64 (p).wait) := rfl
 have pc6 : (jd (p) (.slice a p.list.length c))[0 + 6]? = some (.int .i64 (p).start) := rfl
 have pc7 : (jd (p) (.slice a p.list.length c))[0 + 7]? = some (.int .i64 (p).now) := rfl
 have pc8 : (jd (p) (.slice a p.list.length c))[0 + 8]? = some (.int .i64 (p).reached) := rfl
 have pc9 : (jd (p) (.slice a p.list.length c))[0 + 9]? = some (.bool (p).made) := rfl
 have pc10 : (jd (p) (.slice a p.list.length c))[0 + 10]? = some (.bool (p).begins) := rfl
 have g1 : Option.isNone (some (⟨bp, 0, none⟩ : Addr)) = false := rfl
 refine jm (n := 23) Tryz.func66 rfl rfl rfl ?_
 refine goD ?_
 refine jB (σ := Nat) (fun k => k ≤ p.list.length) (fun k => [(3, .int .i64 (((p.list.take k).filter (·.op)).length : Nat)), (11, .slice a p.list.length c), (12, .int .i64 (p.list.length : Nat)), (13, .int .i64 (k : Nat))]) (fun k => (bp, .cells (jd p (.slice a p.list.length c)) 158 (0, 0)) :: (B ++ L)) (fun k => p.list.length - k) 0 (Nat.zero_le _) ?_ (fun w h => h) ?_
 exact jv
 intro k hk
 by_cases hlt : k < p.list.length
 · have d1 : decide (((k : Nat) : Int) < ((p.list.length : Nat) : Int)) = true := decide_eq_true jf
   obtain ⟨x, hx⟩ : ∃ x, p.list[k]? = some x := ⟨_, List.getElem?_eq_getElem hlt⟩
   rcases hR.is with ⟨_, h, _⟩ | ⟨be, cap, cur, hsl, rfl, h3, h4, h5, h6⟩
   · omega
   cases hsl
   have hcx := Kw h6 hx hlt
   have hf : ((p.list.take (k + 1)).filter (·.op)).length = ((p.list.take k).filter (·.op)).length + (if x.op then 1 else 0) := by
    obtain ⟨hi, rfl⟩ := List.getElem?_eq_some_iff.1 hx
    rw [List.take_succ_eq_append_getElem hi, List.filter_append, List.length_append]
    cases hop : p.list[k].op <;> simp [hop]
   have hm : ((p.list.take k).filter (·.op)).length ≤ 9 := Nat.le_trans (List.length_filter_le _ _) (by simp; omega)
   refine goD ?_
   refine ju (jD (kh x) rfl YP (List.mem_cons_of_mem _ (List.mem_cons_self ..)) hcx) rfl ?_
   repeat (first | refine goD ?_ | (refine j5 ?_; intro bNew))
   cases hop : x.op with
   | false =>
     rw [hop] at hf
     refine goD ?_
     refine jk (k + 1) hlt ?_ (fun w h => h.tail) jf
     rw [hf]
     exact jv
   | true =>
     rw [hop] at hf
     refine goD ?_
     refine jk (k + 1) hlt ?_ (fun w h => h.tail) jf
     rw [hf]
     exact jv
 · have d1 : decide (((k : Nat) : Int) < ((p.list.length : Nat) : Int)) = false := decide_eq_false jf
   have hkn : k = p.list.length := by omega
   subst hkn
   rw [List.take_length]
   refine goD ?_
   refine je 2 _ rfl rfl ?_
   exact ⟨rfl, rfl⟩
theorem aau (bp : Nat) (p : Pl) (a : Option Addr) (c : Nat) (B : ja) (u : Int) (hR : Row 160 4 (.slice a p.list.length c) p.list.length (j7 p.list) B) (hl : p.list.length ≤ 9) :
 Spec Tryz.prog G 48 #[.pointer (some ⟨bp, 0, none⟩), .int .i64 u] ((bp, .cells (jd p (.slice a p.list.length c)) 158 (0, 0)) :: (B ++ L)) fun r M => r = .bool (Hg.close p u).2 ∧ ∃ B', Row 160 4 (.slice a p.list.length c) p.list.length (j7 (Hg.close p u).1.list) B' ∧
  M = (bp, .cells (jd (Hg.close p u).1 (.slice a p.list.length c)) 158 (0, 0)) :: (B' ++ L) := by
 have pc0 : (jd (p) (.slice a p.list.length c))[0 + 0]? = some (.slice a p.list.length c) := rfl
 have pc1 : (jd (p) (.slice a p.list.length c))[0 + 1]? = some (.int .i64 ((p).asked : Nat)) := rfl
 have pc2 : (jd (p) (.slice a p.list.length c))[0 + 2]? = some (.int .i64 (p).want) := rfl
 have pc3 : (jd (p) (.slice a p.list.length c))[0 + 3]? = some (.int .i64 (p).tries) := rfl
 have pc4 : (jd (p) (.slice a p.list.length c))[0 + 4]? = some (.int .i64 (p).every) := rfl
 have pc5 : (jd (p) (.slice a p.list.length c))[0 + 5]? = some (.int .i64 (p).wait) := rfl
 have pc6 : (jd (p) (.slice a p.list.length c))[0 + 6]? = some (.int .i64 (p).start) := rfl
 have pc7 : (jd (p) (.slice a p.list.length c))[0 + 7]? = some (.int .i64 (p).now) := rfl
 have pc8 : (jd (p) (.slice a p.list.length c))[0 + 8]? = some (.int .i64 (p).reached) := rfl
 have pc9 : (jd (p) (.slice a p.list.length c))[0 + 9]? = some (.bool (p).made) := rfl
 have pc10 : (jd (p) (.slice a p.list.length c))[0 + 10]? = some (.bool (p).begins) := rfl
 have g1 : Option.isNone (some (⟨bp, 0, none⟩ : Addr)) = false := rfl
 refine jm (n := 44) Tryz.func48 rfl rfl rfl ?_
 refine goD ?_
 refine jB (σ := Nat) (fun k => k ≤ p.list.length ∧ ∀ y ∈ p.list.take k, Hg.isIt u y = false) (fun k => [(0, .pointer (some ⟨bp, 0, none⟩)), (1, .int .i64 u), (12, .int .i64 (p.list.length : Nat)), (13, .int .i64 (k : Nat))]) (fun k => (bp, .cells (jd p (.slice a p.list.length c)) 158 (0, 0)) :: (B ++ L)) (fun k => p.list.length - k) 0 ⟨Nat.zero_le _, by simp⟩ ?_ (fun w h => h) ?_
 exact jv
 rintro k ⟨hk, hno⟩
 by_cases hlt : k < p.list.length
 · have d1 : decide (((k : Nat) : Int) < ((p.list.length : Nat) : Int)) = true := decide_eq_true jf
   obtain ⟨x, hx⟩ : ∃ x, p.list[k]? = some x := ⟨_, List.getElem?_eq_getElem hlt⟩
   rcases hR.is with ⟨_, h, _⟩ | ⟨be, cap, cur, hsl, rfl, h3, h4, h5, h6⟩
   · omega
   cases hsl
   have hcx := Kw h6 hx hlt
   have n0 : cur[0 + k * 4 + 0]? = some (.int .i64 x.up) := hcx 0 _ rfl
   have n3 : cur[0 + k * 4 + 3]? = some (.bool x.op) := hcx 3 _ rfl
   cases hup : x.up == u with
   | false =>
     refine goD ?_
     refine jk (k + 1) ⟨hlt, Ui hno hx (by simp [Hg.isIt, hup])⟩ ?_ (fun w h => h) jf
     exact jv
   | true =>
     cases hop : x.op with
     | false =>
       rw [hop] at n3
       refine goD ?_
       refine jk (k + 1) ⟨hlt, Ui hno hx (by simp [Hg.isIt, hop])⟩ ?_ (fun w h => h) jf
       exact jv
     | true =>
       rw [hop] at n3
       obtain ⟨k1, k2⟩ := Kv u p.list k x hno hx (by simp [Hg.isIt, hop, hup])
       refine goD ?_
       refine je 4 _ rfl rfl ?_
       refine ⟨by rw [Hg.close, k2], [(be, Obj.cells (cur.setIfInBounds (0 + k * 4 + 3) (.bool false)) 160 (0, 0))], ?_, rfl⟩
       refine ⟨by simp only [Hg.close]; rw [k1, qx, List.length_set], Or.inr ⟨be, c, _, rfl, rfl, h3, h4, by simpa using h5, ?_⟩⟩
       simp only [Hg.close]
       rw [k1, take_set, h6, zB _ _ _ hx, Nat.zero_add]
 · have d1 : decide (((k : Nat) : Int) < ((p.list.length : Nat) : Int)) = false := decide_eq_false jf
   have hkn : k = p.list.length := by omega
   subst hkn
   rw [List.take_length] at hno
   obtain ⟨k1, k2⟩ := zC u p.list hno
   refine goD ?_
   refine je 4 _ rfl rfl ?_
   refine ⟨by rw [Hg.close, k2], B, ?_, rfl⟩
   simp only [Hg.close]
   rw [k1]
   exact hR
theorem Ql (va vb : Value) (la lb : List Int) (ha : IRow L va la) (hb : IRow L vb lb) (hla : la.length ≤ 1000000) : Spec Tryz.prog G 57 #[va, vb] L fun u M => u = .bool (la == lb) ∧ M = L := by
 obtain ⟨aa, ca, rfl, ha⟩ := ha
 obtain ⟨ab, cb, rfl, hb⟩ := hb
 refine jm (n := 26) Tryz.func57 rfl rfl rfl ?_
 by_cases hlen : la.length = lb.length
 · have d0 : (((la.length : Nat) : Int) != ((lb.length : Nat) : Int)) = false := by simp [hlen]
   refine goD ?_
   refine jB (σ := Nat) (fun k => k ≤ la.length ∧ la.take k = lb.take k) (fun k => [(0, .slice aa la.length ca), (1, .slice ab lb.length cb), (5, .int .i64 (k : Nat))]) (fun k => L) (fun k => la.length - k) 0 ⟨Nat.zero_le _, by simp⟩ ?_ (fun w h => h) ?_
   exact jv
   rintro k ⟨hk, heq⟩
   by_cases hlt : k < la.length
   · have d1 : decide (((k : Nat) : Int) < ((la.length : Nat) : Int)) = true := decide_eq_true jf
     obtain ⟨x, hx⟩ : ∃ x, la[k]? = some x := ⟨_, List.getElem?_eq_getElem hlt⟩
     obtain ⟨y, hy⟩ : ∃ y, lb[k]? = some y := ⟨_, List.getElem?_eq_getElem (hlen ▸ hlt)⟩
     rcases ha with rfl | ⟨b1, o1, C1, t1, f1, rfl, m1, q1⟩
     · simp at hlt
     rcases hb with rfl | ⟨b2, o2, C2, t2, f2, rfl, m2, q2⟩
     · simp at hy
     have r1 := q1 k x hx
     have r2 := q2 k y hy
     have hK : ∀ z ∈ [(b1, Obj.cells C1 t1 f1), (b2, Obj.cells C2 t2 f2)], z ∈ L := fun z hz => by
      simp only [List.mem_cons, List.not_mem_nil, or_false] at hz
      rcases hz with rfl | rfl <;> assumption
     by_cases hxy : x = y
     · have d2 : (x != y) = false := by simp [hxy]
       refine goD ?_
       refine jw jc ([(b1, Obj.cells C1 t1 f1), (b2, Obj.cells C2 t2 f2)]) [] ?_
       refine tkQ 0 ?_
       refine tkQ 1 ?_
       refine tkQ 2 ?_
       refine tkQ 3 ?_
       refine tkQ 4 ?_
       refine tkQ 5 ?_
       refine tkQ 6 ?_
       refine tkQ 7 ?_
       refine tkQ 8 ?_
       refine tdQ ?_
       refine goD ?_
       refine jk (k + 1) ⟨hlt, ?_⟩ ?_ (fun w h => h) jf
       · subst hxy
         rw [List.take_add_one, List.take_add_one, heq, hx, hy]
       exact jv
     · have d2 : (x != y) = true := by simp [hxy]
       refine goD ?_
       refine jw jc ([(b1, Obj.cells C1 t1 f1), (b2, Obj.cells C2 t2 f2)]) [] ?_
       refine tkQ 0 ?_
       refine tkQ 1 ?_
       refine tkQ 2 ?_
       refine tkQ 3 ?_
       refine tkQ 4 ?_
       refine tkQ 5 ?_
       refine tkQ 6 ?_
       refine tkQ 7 ?_
       refine tkQ 8 ?_
       refine tdQ ?_
       refine goD ?_
       refine je 4 _ rfl rfl ?_
       refine ⟨?_, rfl⟩
       have : la ≠ lb := fun e => hxy (by rw [e, hy] at hx; exact (Option.some.inj hx).symm)
       simp [this]
   · have d1 : decide (((k : Nat) : Int) < ((la.length : Nat) : Int)) = false := decide_eq_false jf
     have hkn : k = la.length := by omega
     subst hkn
     rw [List.take_length, hlen, List.take_length] at heq
     refine goD ?_
     refine je 4 _ rfl rfl ?_
     exact ⟨by simp [heq], rfl⟩
 · have d0 : (((la.length : Nat) : Int) != ((lb.length : Nat) : Int)) = true := by simp; omega
   refine goD ?_
   refine je 4 _ rfl rfl ?_
   refine ⟨?_, rfl⟩
   have : la ≠ lb := fun e => hlen (by rw [e])
   simp [this]
end Go.Proofs.YtbjkkoacclfejaaGreat
namespace Go.Proofs.YtbjkkoacclfejaaGreat
open Go.RowKit
open Hg (En Pl)
variable {G : World} {L : ja}
structure IsPlan (bp : Nat) (p : Pl) (M : ja) : Prop where
 is : ∃ a c B, Row 160 4 (.slice a p.list.length c) p.list.length (j7 p.list) B ∧ M = (bp, .cells (jd p (.slice a p.list.length c)) 158 (0, 0)) :: B
 good : Good p
theorem Uj (u : Int) : Built Tryz.prog 160 [(0, .int .i64 u)] (.agg #[.int .i64 u, .int .i64 0, .int .i64 0, .bool false]) := ⟨fun w => by kernel_rfl⟩
theorem U4 (a b c d e f : Int) : Built Tryz.prog 158 [(2, .int .i64 a), (3, .int .i64 b), (4, .int .i64 c), (5, .int .i64 d), (6, .int .i64 e), (7, .int .i64 f), (9, .bool true)] (.agg #[.slice none 0 0, .int .i64 0, .int .i64 a, .int .i64 b, .int .i64 c, .int .i64 d, .int .i64 e, .int .i64 f, .int .i64 0, .bool true, .bool false]) := ⟨fun w => by kernel_rfl⟩
def uV (l : List Int) : Array Value := #[.bool (l.contains 0), .bool (l.contains 1), .bool (l.contains 2), .bool (l.contains 3), .bool (l.contains 4), .bool (l.contains 5), .bool (l.contains 6), .bool (l.contains 7), .bool (l.contains 8)]
theorem adw {u : Int} (h0 : 0 ≤ u) (h8 : u ≤ 8) : u = 0 ∨ u = 1 ∨ u = 2 ∨ u = 3 ∨ u = 4 ∨ u = 5 ∨ u = 6 ∨ u = 7 ∨ u = 8 := by omega
theorem VM (l : List Int) (u : Int) (h0 : 0 ≤ u) (h8 : u ≤ 8) : (uV l)[0 + u.toNat * 1]? = some (.bool (l.contains u)) := by
 rcases adw h0 h8 with rfl | rfl | rfl | rfl | rfl | rfl | rfl | rfl | rfl <;> rfl
theorem Uk (l : List Int) (u : Int) (h0 : 0 ≤ u) (h8 : u ≤ 8) : (uV l).setIfInBounds (0 + u.toNat * 1) (.bool true) = uV (l ++ [u]) := by
 rcases adw h0 h8 with rfl | rfl | rfl | rfl | rfl | rfl | rfl | rfl | rfl <;> simp [uV]
theorem Row.src {sz : Nat} {b : Nat} {cs : List Value} {te : TypeId} (hm : (b, Obj.cells cs.toArray te (0, 0)) ∈ L) (hn : cs.length = sz) (hone : ∀ v ∈ cs, v.oneCell' = true) : Src L (.slice (some ⟨b, 0, none⟩) 1 1) 1 cs sz :=
 ⟨by omega, hone, Or.inr ⟨b, 0, 1, cs.toArray, te, (0, 0), rfl, hm, fun j x hj => by rw [Nat.zero_add]; simpa using hj⟩⟩
theorem VN (l : List Int) (want every wait tries now : Int) (h9 : l.length ≤ 9) (hw : 1 ≤ want ∧ want ≤ 9) (he : 1 ≤ every ∧ every ≤ 1000) (ha : 1 ≤ wait ∧ wait ≤ 1000) (ht : 1 ≤ tries ∧ tries ≤ 4) (ho : 0 ≤ now ∧ now ≤ 1099511627776) : Good (Hg.mk l want every wait tries now) :=
 ⟨by simpa [Hg.mk] using h9, by simp [Hg.mk], hw, ht, he, ha, ⟨ho.1, Int.le_refl _, ho.2⟩, ⟨by simp [Hg.mk], by simp [Hg.mk, Hg.top]⟩, fun x hx => by
   simp only [Hg.mk, List.mem_map] at hx
   obtain ⟨u, _, rfl⟩ := hx
   simp only [Hg.fresh, Hg.mk]
   omega⟩
theorem adx (vl : Value) (l : List Int) (want every wait tries now : Int) (hl : IRow L vl l) (h9 : l.length ≤ 9) (hr : ∀ u ∈ l, 0 ≤ u ∧ u ≤ 8) (hn : l.Nodup) (hw : 1 ≤ want ∧ want ≤ 9) (he : 1 ≤ every ∧ every ≤ 1000) (ha : 1 ≤ wait ∧ wait ≤ 1000) (ht : 1 ≤ tries ∧ tries ≤ 4) (ho : 0 ≤ now ∧ now ≤ 1099511627776) :
 Spec Tryz.prog G 40 #[vl, .int .i64 want, .int .i64 every, .int .i64 wait, .int .i64 tries, .int .i64 now] L fun u M => ∃ bp N, u = .tuple #[.pointer (some ⟨bp, 0, none⟩), .int .i64 0] ∧ IsPlan bp (Hg.mk l want every wait tries now) N ∧ M = N ++ L := by
 obtain ⟨al, cl, rfl, hl⟩ := hl
 have d0 : decide ((9 : Int) < ((l.length : Nat) : Int)) = false := decide_eq_false jf
 have w1 : decide (want < 1) = false := decide_eq_false jf
 have w2 : decide (9 < want) = false := decide_eq_false jf
 have e1 : decide (every < 1) = false := decide_eq_false jf
 have e2 : decide (1000 < every) = false := decide_eq_false jf
 have a1 : decide (wait < 1) = false := decide_eq_false jf
 have a2 : decide (1000 < wait) = false := decide_eq_false jf
 have t1 : decide (tries < 1) = false := decide_eq_false jf
 have t2 : decide (4 < tries) = false := decide_eq_false jf
 have o1 : decide (now < 0) = false := decide_eq_false jf
 have o2 : decide (1099511627776 < now) = false := decide_eq_false jf
 refine jm (n := 106) Tryz.func40 rfl rfl rfl ?_
 repeat (first | refine goD ?_ | (refine j5 ?_; intro bNew))
 refine jB (σ := Nat) (fun k => k ≤ l.length) (fun k => [(0, .slice al l.length cl), (1, .int .i64 want), (2, .int .i64 every), (3, .int .i64 wait), (4, .int .i64 tries), (5, .int .i64 now), (14, .pointer (some ⟨bNew, 0, none⟩)), (23, .slice al l.length cl), (24, .int .i64 (l.length : Nat)), (25, .int .i64 (k : Nat))]) (fun k => (bNew, .cells (uV (l.take k)) 48 (0, 0)) :: L) (fun k => l.length - k) 0 (Nat.zero_le _) ?_ (fun w h => h) ?_
 exact jv
 intro k hk
 by_cases hlt : k < l.length
 · have d1 : decide (((k : Nat) : Int) < ((l.length : Nat) : Int)) = true := decide_eq_true jf
   obtain ⟨x, hx⟩ : ∃ x, l[k]? = some x := ⟨_, List.getElem?_eq_getElem hlt⟩
   obtain ⟨r1, r2⟩ := hr x (List.mem_of_getElem? hx)
   rcases hl with rfl | ⟨b1, o1, C1, t1, f1, rfl, m1, q1⟩
   · simp at hlt
   have c1 := q1 k x hx
   have g1 : decide (x < 0) = false := decide_eq_false jf
   have g2 : decide (9 ≤ x) = false := decide_eq_false jf
   have g3 := VM (l.take k) x r1 r2
   have g4 : (l.take k).contains x = false := by
    obtain ⟨hi, rfl⟩ := List.getElem?_eq_some_iff.1 hx
    rw [List.contains_eq_mem, decide_eq_false_iff_not]
    intro hm
    obtain ⟨j, hj, e⟩ := List.getElem_of_mem hm
    have hj' : j < k := by simp at hj; omega
    rw [List.getElem_take] at e
    have := (List.getElem_inj hn).1 e
    omega
   rw [g4] at g3
   refine goD ?_
   refine jk (k + 1) hlt ?_ (fun w h => ?_) jf
   exact jv
   rw [Uk _ _ r1 r2] at h
   obtain ⟨hi, rfl⟩ := List.getElem?_eq_some_iff.1 hx
   rw [List.take_succ_eq_append_getElem hi]
   exact h
 have d1 : decide (((k : Nat) : Int) < ((l.length : Nat) : Int)) = false := decide_eq_false jf
 refine goD ?_
 refine ju (jo (vs := [(2, .int .i64 want), (3, .int .i64 tries), (4, .int .i64 every), (5, .int .i64 wait), (6, .int .i64 now), (7, .int .i64 now), (9, .bool true)]) rfl (U4 ..)) rfl ?_
 refine jP (UE rfl rfl) rfl ?_
 intro bp
 refine goD ?_
 obtain ⟨P0, hP0⟩ : ∃ P0, P0 = Hg.mk l want every wait tries now := ⟨_, rfl⟩
 refine jB (σ := Nat × Option Addr × Nat × ja) (fun x => x.1 ≤ l.length ∧ Row 160 4 (.slice x.2.1 x.1 x.2.2.1) x.1 (j7 ((l.take x.1).map Hg.fresh)) x.2.2.2) (fun x => [(17, .pointer (some ⟨bp, 0, none⟩)), (87, .slice al l.length cl), (88, .int .i64 (l.length : Nat)), (89, .int .i64 (x.1 : Nat))]) (fun x => (bp, .cells (jd P0 (.slice x.2.1 x.1 x.2.2.1)) 158 (0, 0)) :: (x.2.2.2 ++ L)) (fun x => l.length - x.1) (0, none, 0, []) ⟨Nat.zero_le _, Row.nil _ _⟩ ?_ (fun w h => ?_) ?_
 exact jv
 · rw [hP0]
   exact h.sub ((List.sublist_cons_self _ _).cons_cons _)
 rintro ⟨k, a, c, B⟩ ⟨hk, hR⟩
 dsimp only at hk hR ⊢
 by_cases hlt : k < l.length
 · have d1 : decide (((k : Nat) : Int) < ((l.length : Nat) : Int)) = true := decide_eq_true jf
   obtain ⟨x, hx⟩ : ∃ x, l[k]? = some x := ⟨_, List.getElem?_eq_getElem hlt⟩
   rcases hl with rfl | ⟨b1, o1, C1, t1, f1, rfl, m1, q1⟩
   · simp at hlt
   have c1 := q1 k x hx
   have m2 : (b1, Obj.cells C1 t1 f1) ∈ B ++ L := List.mem_append_right _ m1
   have pc0 : (jd P0 (.slice a k c))[0 + 0]? = some (.slice a k c) := rfl
   refine goD ?_
   refine ju (jo (vs := [(0, .int .i64 x)]) rfl (Uj x)) rfl ?_
   refine jP (ki rfl (uR (C := (kh (Hg.fresh x)).toArray) etO [.agg (kh (Hg.fresh x)).toArray] rfl (by simp [kh, Value.cells]) (by decide) rfl)) rfl ?_
   intro bl
   refine kR (L' := B ++ ((bl, Obj.cells (kh (Hg.fresh x)).toArray 160 (0, 0)) :: (bp, .cells (jd P0 (.slice a k c)) 158 (0, 0)) :: L)) ?_ ?_
   · exact (List.perm_middle (a := (bp, Obj.cells (jd P0 (.slice a k c)) 158 (0, 0))).symm.cons _).trans List.perm_middle.symm
   refine yO etO rfl rfl hR (Row.src (List.mem_cons_self ..) (by rfl) (yb _)) (by unfold maxLen; omega) jf rfl ?_
   intro v2 B2 hR2
   obtain ⟨a2, c2, rfl⟩ := hR2.slice
   refine kU (L' := (bp, .cells (jd P0 (.slice a k c)) 158 (0, 0)) :: (B2 ++ L)) (fun w h => ?_) ?_
   · exact (h.perm List.perm_middle).tail.perm List.perm_middle
   refine goD ?_
   refine jk (k + 1, a2, c2, B2) ⟨hlt, ?_⟩ ?_ (fun w h => h) (by dsimp only; omega)
   · obtain ⟨hi, rfl⟩ := List.getElem?_eq_some_iff.1 hx
     dsimp only
     rw [List.take_succ_eq_append_getElem hi, List.map_append]
     simpa [j7] using hR2
   exact jv
 have d1 : decide (((k : Nat) : Int) < ((l.length : Nat) : Int)) = false := decide_eq_false jf
 have hkn : k = l.length := by omega
 subst hkn
 rw [List.take_length] at hR
 refine goD ?_
 refine qj 12 13 _ _ rfl rfl rfl ?_
 refine ⟨bp, (bp, .cells (jd P0 (.slice a l.length c)) 158 (0, 0)) :: B, rfl, ⟨⟨a, c, B, ?_, ?_⟩, VN l want every wait tries now h9 hw he ha ht ho⟩, rfl⟩
 · simpa [Hg.mk] using hR
 · rw [hP0]; simp [Hg.mk]
end Go.Proofs.YtbjkkoacclfejaaGreat
namespace Go.Proofs.YtbjkkoacclfejaaGreat
open Go.RowKit
open Hg (En Pl)
variable {G : World} {L : ja}
theorem Good.examine {p : Pl} (h : Good p) : Good (Hg.examine p) := by
 refine ⟨by simpa [Hg.examine] using h.len, by simpa [Hg.examine] using h.asked, h.want, h.tries, h.every, h.wait, h.now, h.reached, fun x hx => ?_⟩
 simp only [Hg.examine, List.mem_map] at hx
 obtain ⟨y, hy, rfl⟩ := hx
 have h1 := h.each y hy
 have h2 := h.now
 simp only [Hg.tickE, Hg.examine]
 split
 · split <;> dsimp only <;> omega
 · exact h1
theorem Good.next {p : Pl} (h : Good p) (ha : p.asked < p.list.length) : Good (Hg.next p) := by
 have h2 := h.now
 have h3 := h.tries
 refine ⟨by simpa [Hg.next] using h.len, by simp [Hg.next]; omega, h.want, h.tries, h.every, h.wait, h.now, h.reached, fun x hx => ?_⟩
 simp only [Hg.next] at hx ⊢
 obtain ⟨i, hi, rfl⟩ := List.getElem_of_mem hx
 rw [List.getElem_modify]
 have hi' : i < p.list.length := by simpa using hi
 have h1 := h.each p.list[i] (List.getElem_mem hi')
 split
 · simp only [Hg.askAt]; omega
 · exact h1
theorem Good.hedged {p : Pl} (h : Good p) : Good (Hg.hedged p).1 := by
 have h2 := h.now
 have h3 := h.every
 have h4 : 0 ≤ (p.now - p.start) / p.every := Int.ediv_nonneg jf jf
 have h5 : (p.now - p.start) / p.every ≤ p.now - p.start := Int.ediv_le_self _ jf
 have hq : Good { p with reached := (p.now - p.start) / p.every } := ⟨h.len, h.asked, h.want, h.tries, h.every, h.wait, h.now, ⟨h4, by dsimp only; omega⟩, h.each⟩
 unfold Hg.hedged
 dsimp only
 split
 · split
   · rename_i h6; exact hq.next h6
   · exact hq
 · exact h
theorem Good.tick {p : Pl} (h : Good p) (t : Int) : Good (Hg.tick p t).1 := by
 unfold Hg.tick
 split
 · exact h
 · exact (h.advance t).examine.hedged
theorem Good.more {p : Pl} (h : Good p) (t : Int) : Good (Hg.more p t).1 := by
 unfold Hg.more
 split
 · exact h
 · dsimp only
   split
   · exact h.advance t
   · exact (h.advance t).next jf
theorem uk (u : Int) : ∀ l, (Hg.closeL u l).length = l.length
 | [] => rfl
 | x :: r => by
   unfold Hg.closeL
   split
   · simp
   · simp [uk u r]
theorem JC (u : Int) : ∀ l, ∀ x ∈ Hg.closeL u l, ∃ y ∈ l, x.last = y.last ∧ x.asked = y.asked ∧ x.up = y.up
 | [], x, h => by simp [Hg.closeL] at h
 | z :: r, x, h => by
   unfold Hg.closeL at h
   split at h
   · rcases List.mem_cons.1 h with rfl | h
     · exact ⟨z, List.mem_cons_self .., rfl, rfl, rfl⟩
     · exact ⟨x, List.mem_cons_of_mem _ h, rfl, rfl, rfl⟩
   · rcases List.mem_cons.1 h with rfl | h
     · exact ⟨x, List.mem_cons_self .., rfl, rfl, rfl⟩
     · obtain ⟨y, h1, h2⟩ := JC u r x h
       exact ⟨y, List.mem_cons_of_mem _ h1, h2⟩
theorem Good.close {p : Pl} (h : Good p) (u : Int) : Good (Hg.close p u).1 := by
 refine ⟨by simpa [Hg.close, uk] using h.len, by simpa [Hg.close, uk] using h.asked, h.want, h.tries, h.every, h.wait, h.now, h.reached, fun x hx => ?_⟩
 simp only [Hg.close] at hx ⊢
 obtain ⟨y, h1, h2, h3, _⟩ := JC u _ x hx
 rw [h2, h3]
 exact h.each y h1
theorem Good.nexts : ∀ (k : Nat) {p : Pl}, Good p → k ≤ p.list.length - p.asked → Good (Hg.nexts k p).1
 | 0, p, h, _ => h
 | k + 1, p, h, hk => Good.nexts k (h.next jf) (by simp only [Hg.next, List.length_modify]; omega)
theorem Good.begin' {p : Pl} (h : Good p) : Good (Hg.begin' p).1 := by
 unfold Hg.begin'
 split
 · exact h
 · exact Good.nexts _ (p := { p with begins := true }) ⟨h.len, h.asked, h.want, h.tries, h.every, h.wait, h.now, h.reached, h.each⟩ (Nat.min_le_right _ _)
theorem Ul (p : Pl) (t : Int) : (Hg.tick p t).1.list.length = p.list.length := by
 unfold Hg.tick
 split
 · rfl
 · simp only [Hg.hedged]
   split
   · split <;> simp [Hg.next, Hg.examine, Hg.advance]
   · simp [Hg.examine, Hg.advance]
theorem Um (p : Pl) (t : Int) : (Hg.tick p t).1.begins = p.begins := by
 unfold Hg.tick
 split
 · rfl
 · simp only [Hg.hedged]
   split
   · split <;> simp [Hg.next, Hg.examine, Hg.advance]
   · simp [Hg.examine, Hg.advance]
theorem JD (p : Pl) (t : Int) : (Hg.more p t).1.list.length = p.list.length := by
 unfold Hg.more
 split
 · rfl
 · dsimp only
   split <;> simp [Hg.next, Hg.advance]
theorem Un (p : Pl) (t : Int) : (Hg.more p t).1.begins = p.begins := by
 unfold Hg.more
 split
 · rfl
 · dsimp only
   split <;> simp [Hg.next, Hg.advance]
theorem yY (p : Pl) : (Hg.begin' p).1.list.length = p.list.length := by
 unfold Hg.begin'
 split
 · rfl
 · exact (qn _ _).2.1
theorem yG : ∀ (k : Nat) (p : Pl), (Hg.nexts k p).1.begins = p.begins
 | 0, p => rfl
 | k + 1, p => yG k (Hg.next p)
theorem Qm (p : Pl) (h : p.made = true) : (Hg.begin' p).1.begins = true := by
 unfold Hg.begin'
 split
 · rename_i h1; simpa [h] using h1
 · exact yG _ _
theorem Wn (p : Pl) (t : Int) : (Hg.tick p t).2.1.length ≤ 1000000 ∧ (Hg.tick p t).2.2.length ≤ 1000000 ∨ ¬ p.list.length ≤ 9 := by
 by_cases h9 : p.list.length ≤ 9
 · left
   unfold Hg.tick
   split
   · simp
   · have f1 := uT (Hg.goneE (Hg.advance p t).now (Hg.advance p t).wait (Hg.advance p t).tries) (Hg.advance p t).list (fun x => by unfold Hg.goneE; split <;> simp) p.list.length
     have f2 := uT (Hg.sendE (Hg.advance p t).now (Hg.advance p t).wait (Hg.advance p t).tries) (Hg.advance p t).list (fun x => by unfold Hg.sendE; split <;> simp) p.list.length
     rw [List.take_of_length_le (by simp [Hg.advance])] at f1 f2
     have f3 : (Hg.hedged (Hg.examine (Hg.advance p t))).2.length ≤ 1 := by
      unfold Hg.hedged
      dsimp only
      split
      · split <;> simp
      · simp
     refine ⟨by dsimp only; omega, ?_⟩
     dsimp only
     rw [List.length_append]
     omega
 · exact Or.inr h9
theorem IsPlan.len {bp : Nat} {p : Pl} {M : ja} (h : IsPlan bp p M) : p.list.length ≤ 9 := h.good.len
theorem abv {bp : Nat} {p : Pl} {M : ja} (h : IsPlan bp p M) (hb : p.begins = true) (now : Int) : Spec Tryz.prog G 47 #[.pointer (some ⟨bp, 0, none⟩), .int .i64 now] (M ++ L) fun u N => ∃ ag cg az cs Bg Bs M', u = .tuple #[.slice ag (Hg.tick p now).2.1.length cg, .slice az (Hg.tick p now).2.2.length cs] ∧
 Row 3 1 (.slice ag (Hg.tick p now).2.1.length cg) (Hg.tick p now).2.1.length (qf (Hg.tick p now).2.1) Bg ∧ Row 3 1 (.slice az (Hg.tick p now).2.2.length cs) (Hg.tick p now).2.2.length (qf (Hg.tick p now).2.2) Bs ∧ IsPlan bp (Hg.tick p now).1 M' ∧ N = M' ++ (Bg ++ (Bs ++ L)) := by
 obtain ⟨⟨a, c, B, hR, rfl⟩, hg⟩ := h
 refine (abt bp p a c B now hR hg hb).mono ?_
 rintro _ _ ⟨vg, vs, Bg, Bs, B', rfl, h1, h2, h3, rfl⟩
 obtain ⟨ag, cg, rfl⟩ := h1.slice
 obtain ⟨az, cs, rfl⟩ := h2.slice
 exact ⟨ag, cg, az, cs, Bg, Bs, _, rfl, h1, h2, ⟨⟨a, c, B', by rw [Ul]; exact h3, rfl⟩, hg.tick now⟩, by rw [Ul]; rfl⟩
theorem abw {bp : Nat} {p : Pl} {M : ja} (h : IsPlan bp p M) (now : Int) : Spec Tryz.prog G 70 #[.pointer (some ⟨bp, 0, none⟩), .int .i64 now] (M ++ L) fun u N => u = .tuple #[.int .i64 (Hg.more p now).2.1, .bool (Hg.more p now).2.2] ∧ ∃ M', IsPlan bp (Hg.more p now).1 M' ∧ N = M' ++ L := by
 obtain ⟨⟨a, c, B, hR, rfl⟩, hg⟩ := h
 refine (abs bp p a c B now hR hg.len).mono ?_
 rintro _ _ ⟨rfl, B', h3, rfl⟩
 rw [JD] at h3
 exact ⟨rfl, _, ⟨⟨a, c, B', by rw [JD]; exact h3, rfl⟩, hg.more now⟩, by rw [JD]; rfl⟩
theorem VO {bp : Nat} {p : Pl} {M : ja} (h : IsPlan bp p M) (x : Int) : Spec Tryz.prog G 48 #[.pointer (some ⟨bp, 0, none⟩), .int .i64 x] (M ++ L) fun u N => u = .bool (Hg.close p x).2 ∧ ∃ M', IsPlan bp (Hg.close p x).1 M' ∧ N = M' ++ L := by
 obtain ⟨⟨a, c, B, hR, rfl⟩, hg⟩ := h
 refine (aau bp p a c B x hR hg.len).mono ?_
 rintro _ _ ⟨rfl, B', h3, rfl⟩
 have hl : (Hg.close p x).1.list.length = p.list.length := uk _ _
 exact ⟨rfl, _, ⟨⟨a, c, B', by rw [hl]; exact h3, rfl⟩, hg.close x⟩, by rw [hl]; rfl⟩
theorem aav {bp : Nat} {p : Pl} {M : ja} (h : IsPlan bp p M) (hm : p.made = true) (hg : p.begins = false) (hz : p.asked = 0) : Spec Tryz.prog G 42 #[.pointer (some ⟨bp, 0, none⟩)] (M ++ L) fun u N => ∃ a1 c1 B1 M', u = .slice a1 (Hg.begin' p).2.length c1 ∧ Row 3 1 (.slice a1 (Hg.begin' p).2.length c1) (Hg.begin' p).2.length (qf (Hg.begin' p).2) B1 ∧ IsPlan bp (Hg.begin' p).1 M' ∧ N = M' ++ (B1 ++ L) := by
 obtain ⟨⟨a, c, B, hR, rfl⟩, hG⟩ := h
 refine (aas bp p a c B hR hG.len hG.want hm hg hz).mono ?_
 rintro u _ ⟨B1, B', h1, h3, rfl⟩
 obtain ⟨a1, c1, rfl⟩ := h1.slice
 rw [yY] at h3
 exact ⟨a1, c1, B1, _, rfl, h1, ⟨⟨a, c, B', by rw [yY]; exact h3, rfl⟩, hG.begin'⟩, by rw [yY]; rfl⟩
theorem abx {bp : Nat} {p : Pl} {M : ja} (h : IsPlan bp p M) : Spec Tryz.prog G 66 #[.pointer (some ⟨bp, 0, none⟩)] (M ++ L) fun u N => u = .int .i64 (Hg.opens p) ∧ N = M ++ L := by
 obtain ⟨⟨a, c, B, hR, rfl⟩, hG⟩ := h
 exact abu bp p a c B hR hG.len
end Go.Proofs.YtbjkkoacclfejaaGreat
namespace Go.Proofs.YtbjkkoacclfejaaGreat
open Go.RowKit
open Hg (En Pl)
variable {G : World} {L : ja}
def aeH (wait : Int) (d : Int) (x : En) : Int := if x.op then min d (x.last + wait) else d
def ady (p : Pl) : Int := p.list.foldl (aeH p.wait) (Hg.top + 1)
def dueT (p : Pl) : Int := max (if p.asked < p.list.length then min (ady p) (p.start + (p.reached + 1) * p.every) else ady p) (p.now + 1)
def due (p : Pl) : Int × Bool := if !p.begins then (0, false) else if Hg.top < dueT p then (0, false) else (dueT p, true)
end Go.Proofs.YtbjkkoacclfejaaGreat
namespace Go.Proofs.YtbjkkoacclfejaaGreat
open Go.RowKit
open Hg (En Pl)
variable {G : World} {L : ja}
theorem Row.toSrc {e : TypeId} {sz : Nat} {v : Value} {m : Nat} {xs : List Value} {B : ja} (h : Row e sz v m xs B) (hB : ∀ p ∈ B, p ∈ L) (hone : ∀ x ∈ xs, x.oneCell' = true) : Src L v m xs sz := by
 refine ⟨h.len, hone, ?_⟩
 rcases h.is with ⟨h1, h2, h3⟩ | ⟨b, cap, cur, h1, h2, h3, h4, h5, h6⟩
 · exact Or.inl ⟨0, by rw [h1], h2⟩
 · refine Or.inr ⟨b, 0, cap, cur, e, (0, 0), h1, hB _ (by rw [h2]; exact List.mem_cons_self ..), fun j x hj => ?_⟩
   have hjl := (List.getElem?_eq_some_iff.1 hj).1
   have hlen := h.len
   rw [← h6, List.getElem?_take_of_lt jf] at hj
   rw [Nat.zero_add]
   simpa using hj
theorem Wo (l : List En) : ∀ v ∈ j7 l, v.oneCell' = true := by
 intro v hv
 obtain ⟨x, _, hx⟩ := List.mem_flatMap.1 hv
 exact yb x v hx
theorem aby {bp : Nat} {p : Pl} {M : ja} (h : IsPlan bp p M) : Spec Tryz.prog G 50 #[.pointer (some ⟨bp, 0, none⟩)] (M ++ L) fun u N => ∃ bq M2, u = .pointer (some ⟨bq, 0, none⟩) ∧ IsPlan bq p M2 ∧ N = M2 ++ (M ++ L) := by
 obtain ⟨⟨a, c, B, hR, rfl⟩, hG⟩ := h
 have pc0 : (jd (p) (.slice a p.list.length c))[0 + 0]? = some (.slice a p.list.length c) := rfl
 have pc1 : (jd (p) (.slice a p.list.length c))[0 + 1]? = some (.int .i64 ((p).asked : Nat)) := rfl
 have pc2 : (jd (p) (.slice a p.list.length c))[0 + 2]? = some (.int .i64 (p).want) := rfl
 have pc3 : (jd (p) (.slice a p.list.length c))[0 + 3]? = some (.int .i64 (p).tries) := rfl
 have pc4 : (jd (p) (.slice a p.list.length c))[0 + 4]? = some (.int .i64 (p).every) := rfl
 have pc5 : (jd (p) (.slice a p.list.length c))[0 + 5]? = some (.int .i64 (p).wait) := rfl
 have pc6 : (jd (p) (.slice a p.list.length c))[0 + 6]? = some (.int .i64 (p).start) := rfl
 have pc7 : (jd (p) (.slice a p.list.length c))[0 + 7]? = some (.int .i64 (p).now) := rfl
 have pc8 : (jd (p) (.slice a p.list.length c))[0 + 8]? = some (.int .i64 (p).reached) := rfl
 have pc9 : (jd (p) (.slice a p.list.length c))[0 + 9]? = some (.bool (p).made) := rfl
 have pc10 : (jd (p) (.slice a p.list.length c))[0 + 10]? = some (.bool (p).begins) := rfl
 have g1 : Option.isNone (some (⟨bp, 0, none⟩ : Addr)) = false := rfl
 have hl := hG.len
 rw [List.cons_append]
 refine jm (n := 15) Tryz.func50 rfl rfl rfl ?_
 repeat (first | refine goD ?_ | (refine j5 ?_; intro bNew))
 refine yO (B := []) etO rfl rfl (Row.nil _ _) (hR.toSrc (fun q hq => List.mem_cons_of_mem _ (List.mem_cons_of_mem _ (List.mem_append_left _ hq))) (Wo _)) (by unfold maxLen; omega) jf rfl ?_
 intro v2 B2 hR2
 obtain ⟨a2, c2, rfl⟩ := hR2.slice
 rw [Nat.zero_add] at hR2 ⊢
 rw [List.nil_append] at hR2
 refine kR List.perm_middle ?_
 repeat (first | refine goD ?_ | (refine j5 ?_; intro bNew))
 refine je 2 _ rfl rfl ?_
 exact ⟨bNew, (bNew, Obj.cells (jd p (.slice a2 p.list.length c2)) 158 (0, 0)) :: B2, rfl, ⟨⟨a2, c2, B2, hR2, rfl⟩, hG⟩, rfl⟩
end Go.Proofs.YtbjkkoacclfejaaGreat
namespace Go.Proofs.YtbjkkoacclfejaaGreat
open Go.RowKit
open Hg (En Pl)
theorem ORow.put {α : Type} {r : Rp α} {sz : Nat} {L : ja} {e : TypeId} {a : Option Addr} {c : Nat} {l : List α} {B : ja} {b i j : Nat} {y : α} {cs : List Value} {cur : Array Value} {v : Value} (h : ORow r e sz L a c l B) (hB : B = [(b, .cells cur e (0, 0))]) (hi : i < l.length) (hn : cs.length = sz)
 (hc : ∀ j v, cs[j]? = some v → cur[0 + i * sz + j]? = some v) (hone : ∀ v ∈ cs, v.oneCell' = true) (hj : j < sz) (hv : v.oneCell' = true) (hy : r L (cs.set j v) y) :
 ORow r e sz L a c (l.set i y) [(b, .cells (cur.setIfInBounds (0 + i * sz + j) v) e (0, 0))] ∧ ∀ j' v', (cs.set j v)[j']? = some v' → (cur.setIfInBounds (0 + i * sz + j) v)[0 + i * sz + j']? = some v' := by
 have hin : ∀ j' v', (cs.set j v)[j']? = some v' → (cur.setIfInBounds (0 + i * sz + j) v)[0 + i * sz + j']? = some v' := by
  intro j' v' hj'
  by_cases e : j = j'
  · subst e
    have hb := (Array.getElem?_eq_some_iff.1 (hc j _ (List.getElem?_eq_getElem jf))).1
    rw [List.getElem?_set_self jf] at hj'
    rw [Array.getElem?_setIfInBounds_self_of_lt hb]
    exact hj'
  · rw [List.getElem?_set_ne e] at hj'
    rw [Array.getElem?_setIfInBounds_ne jf]
    exact hc j' v' hj'
 refine ⟨h.set hB hi (by simp [hn]) hy (fun v' h' => ?_) (by simp) (fun j' v' hj' => ?_) (fun k hk => ?_), hin⟩
 · rcases List.mem_or_eq_of_mem_set h' with h' | rfl
   · exact hone _ h'
   · exact hv
 · have := hin j' v' hj'
   rw [Nat.zero_add] at this ⊢
   exact this
 · rw [Array.getElem?_setIfInBounds_ne jf]
def enR : Rp En := fun _ cs x => cs = kh x
theorem enR.one {L : ja} {cs : List Value} {x : En} (h : enR L cs x) : ∀ v ∈ cs, v.oneCell' = true := by
 rw [show cs = kh x from h]; exact yb x
def Fr (p : Pl) : Prop := ∀ i x, p.list[i]? = some x → (i < p.asked → 1 ≤ x.asked) ∧ (p.asked ≤ i → x = Hg.fresh x.up)
def afU (now : Int) (x : En) : En := ⟨x.up, x.asked + 1, now, true⟩
theorem Fr.mk (l : List Int) (want every wait tries now : Int) : Fr (Hg.mk l want every wait tries now) := by
 intro i x hx
 refine ⟨fun h => absurd h (Nat.not_lt_zero _), fun _ => ?_⟩
 simp only [Hg.mk, List.getElem?_map, Option.map_eq_some_iff] at hx
 obtain ⟨u, _, rfl⟩ := hx
 rfl
theorem Fr.list {p q : Pl} (h : Fr p) (hl : q.list = p.list) (ha : q.asked = p.asked) : Fr q := by
 unfold Fr; rw [hl, ha]; exact h
theorem Fr.advance {p : Pl} (h : Fr p) (t : Int) : Fr (Hg.advance p t) := h.list rfl rfl
theorem Fr.next {p : Pl} (h : Fr p) : Fr (Hg.next p) := by
 intro i x hx
 simp only [Hg.next, List.getElem?_modify] at hx ⊢
 obtain ⟨y, hy, e1⟩ := Option.map_eq_some_iff.1 hx
 by_cases e : p.asked = i
 · subst e
   rw [if_pos rfl] at e1
   subst e1
   exact ⟨fun _ => by simp [Hg.askAt], fun hle => by omega⟩
 · rw [if_neg e] at e1
   have e2 : y = x := e1
   subst e2
   obtain ⟨h1, h2⟩ := h i y hy
   exact ⟨fun hlt => h1 jf, fun hle => h2 jf⟩
theorem Fr.examine {p : Pl} (h : Fr p) : Fr (Hg.examine p) := by
 intro i x hx
 simp only [Hg.examine, List.getElem?_map] at hx ⊢
 obtain ⟨y, hy, rfl⟩ := Option.map_eq_some_iff.1 hx
 obtain ⟨h1, h2⟩ := h i y hy
 refine ⟨fun hlt => ?_, fun hle => ?_⟩
 · have := h1 hlt
   unfold Hg.tickE
   split
   · split
     · exact this
     · dsimp only; omega
   · exact this
 · have := h2 hle
   rw [this]
   rfl
theorem Fr.hedged {p : Pl} (h : Fr p) : Fr (Hg.hedged p).1 := by
 unfold Hg.hedged
 dsimp only
 split
 · split
   · exact Fr.next (h.list rfl rfl)
   · exact h.list rfl rfl
 · exact h
theorem Fr.tick {p : Pl} (h : Fr p) (t : Int) : Fr (Hg.tick p t).1 := by
 unfold Hg.tick
 split
 · exact h
 · exact (h.advance t).examine.hedged
theorem Fr.more {p : Pl} (h : Fr p) (t : Int) : Fr (Hg.more p t).1 := by
 unfold Hg.more
 split
 · exact h
 · dsimp only
   split
   · exact h.advance t
   · exact (h.advance t).next
theorem Fr.nexts : ∀ (k : Nat) {p : Pl}, Fr p → Fr (Hg.nexts k p).1
 | 0, p, h => h
 | k + 1, p, h => Fr.nexts k h.next
theorem Fr.begin' {p : Pl} (h : Fr p) : Fr (Hg.begin' p).1 := by
 unfold Hg.begin'
 split
 · exact h
 · exact Fr.nexts _ (p := { p with begins := true }) (h.list rfl rfl)
theorem JE (u : Int) : ∀ (l : List En) (i : Nat) (x : En), (Hg.closeL u l)[i]? = some x → ∃ y, l[i]? = some y ∧ (x = y ∨ (y.op = true ∧ y.up = u ∧ x = { y with op := false }))
 | [], i, x, h => by simp [Hg.closeL] at h
 | z :: r, i, x, h => by
   unfold Hg.closeL at h
   split at h
   · rename_i hz
     have hz' : z.up = u ∧ z.op = true := by simpa [Hg.isIt] using hz
     cases i with
     | zero =>
       simp at h
       subst h
       exact ⟨z, rfl, Or.inr ⟨hz'.2, hz'.1, rfl⟩⟩
     | succ i => exact ⟨x, by simpa using h, Or.inl rfl⟩
   · cases i with
     | zero => exact ⟨x, by simpa using h, Or.inl rfl⟩
     | succ i =>
       obtain ⟨y, h1, h2⟩ := JE u r i x (by simpa using h)
       exact ⟨y, by simpa using h1, h2⟩
theorem Fr.close {p : Pl} (h : Fr p) (u : Int) : Fr (Hg.close p u).1 := by
 intro i x hx
 simp only [Hg.close] at hx ⊢
 obtain ⟨y, hy, h3⟩ := JE u _ i x hx
 obtain ⟨h1, h2⟩ := h i y hy
 rcases h3 with rfl | ⟨hop, hup, rfl⟩
 · exact ⟨h1, h2⟩
 · refine ⟨h1, fun hle => ?_⟩
   have := h2 hle
   rw [this] at hop
   cases hop
end Go.Proofs.YtbjkkoacclfejaaGreat
namespace Go.Proofs.YtbjkkoacclfejaaGreat.Cn
open Go.Lib (decDigits)
abbrev Bytes := List UInt8
def adz (c : UInt8) : Bool := 48 ≤ c.toNat && c.toNat ≤ 57
def adA (l : Bytes) : Nat := l.foldl (fun n c => n * 10 + (c.toNat - 48)) 0
def okD (w : Bytes) : Bool := !(w == []) && decide (w.length ≤ 10) && !((w.head? == some 48) && decide (1 < w.length)) && w.all adz
def numP (w : Bytes) (most : Nat) : Option Nat := if okD w && decide (adA w ≤ most) then some (adA w) else none
def spl (c : UInt8) : Bytes → List Bytes
 | [] => [[]]
 | a :: t => if a = c then [] :: spl c t else match spl c t with
   | [] => [[a]]
   | w :: ws => (a :: w) :: ws
def adB (c : UInt8) : List Bytes → Bytes
 | [] => []
 | [w] => w
 | w :: ws => w ++ c :: adB c ws
def Qn (s : Bytes) : List Bytes × Bytes := ((spl 10 s).dropLast, (spl 10 s).getLastD [])
def aaw (ls : List Bytes) (r : Bytes) : Bytes := (ls.flatMap fun l => l ++ [10]) ++ r
end Go.Proofs.YtbjkkoacclfejaaGreat.Cn
namespace Go.Proofs.YtbjkkoacclfejaaGreat.Cn
open Go.Lib (decDigits)
structure Zo where
 name : Bytes
 pol : Nat
 tru : Nat
deriving DecidableEq
structure Cf where
 ups : Int
 ded : Int
 hdg : Int
 wai : Int
 tri : Int
 res : Int
 lim : Int
 cac : Int
 fli : Int
 wtr : Int
 ttl : Int
 siz : Int
 zs : List Zo
deriving DecidableEq
def Cf.nums (c : Cf) : List Int := [c.ups, c.ded, c.hdg, c.wai, c.tri, c.res, c.lim, c.cac, c.fli, c.wtr, c.ttl, c.siz]
def zeroC : Cf := ⟨0, 0, 0, 0, 0, 0, 0, 0, 0, 0, 0, 0, []⟩
def ofN (v : List Int) (zs : List Zo) : Cf := ⟨v.getD 0 0, v.getD 1 0, v.getD 2 0, v.getD 3 0, v.getD 4 0, v.getD 5 0, v.getD 6 0, v.getD 7 0, v.getD 8 0, v.getD 9 0, v.getD 10 0, v.getD 11 0, zs⟩
def mayNum (c : Cf) : Bool := decide ((1 ≤ c.ups ∧ c.ups ≤ 9 ∧ c.ups % 2 = 1) ∧ (1 ≤ c.hdg ∧ c.hdg ≤ 1000) ∧ (1 ≤ c.wai ∧ c.wai ≤ 1000) ∧ (1 ≤ c.tri ∧ c.tri ≤ 4) ∧
 (c.ups / 2 * c.hdg + c.tri * c.wai ≤ c.ded ∧ c.ded ≤ 100000) ∧ (1 ≤ c.res ∧ c.res ≤ 100000) ∧ (1 ≤ c.lim ∧ c.lim ≤ 100) ∧ (0 ≤ c.cac ∧ c.cac ≤ 256) ∧ (1 ≤ c.fli ∧ c.fli ≤ 32) ∧
 (1 ≤ c.wtr ∧ c.wtr ≤ 16) ∧ (0 ≤ c.ttl ∧ c.ttl ≤ 2147483647) ∧ (512 ≤ c.siz ∧ c.siz ≤ 4096))
def okPol (ups : Int) (z : Zo) : Bool := decide (((z.pol = 1 ∨ z.pol = 2 ∨ z.pol = 4) ∧ z.tru = 0) ∨ (z.pol = 3 ∧ z.tru ≠ 0 ∧ z.tru / 2 ^ ups.toNat = 0))
def okName (z : Zo) : Bool := Nm.may z.name && (Nm.fold z.name == z.name)
def okZo (ups : Int) (z : Zo) : Bool := okName z && okPol ups z
def goodAt (ups : Int) (zs : List Zo) (i : Nat) : Bool := match zs[i]? with
 | some z => okZo ups z && !(zs.take i).any (fun y => y.name == z.name)
 | none => true
def mayZs (ups : Int) (zs : List Zo) : Bool := decide (zs.length ≤ 16) && (List.range zs.length).all (goodAt ups zs)
def mayP (c : Cf) : Bool := mayNum c && mayZs c.ups c.zs
def liesP (c : Cf) : Int := if mayP c then c.ups / 2 else 0
structure Names where
 text : Bytes → Bytes
 par : Bytes → Bytes × Int
structure Names.Ok (T : Names) : Prop where
 back : ∀ n, Nm.may n = true → T.par (T.text n) = (n, 0)
 may : ∀ t n, T.par t = (n, 0) → Nm.may n = true
 clean : ∀ n, Nm.may n = true → ∀ c ∈ T.text n, 33 ≤ c.toNat
 len : ∀ n, Nm.may n = true → (T.text n).length ≤ 2000
def VP : List Bytes := [[117, 112, 115], [100, 101, 97, 100, 108, 105, 110, 101], [104, 101, 100, 103, 101], [119, 97, 105, 116], [116, 114, 105, 101, 115], [114, 101, 115, 116], [108, 105, 109, 105, 116], [99, 97, 99, 104, 101], [102, 108, 105, 103, 104, 116, 115], [119, 97, 105, 116, 101, 114, 115], [116, 116, 108], [115, 105, 122, 101]]
def VQ : Bytes := [115, 116, 114, 105, 99, 116]
def YQ : Bytes := [117, 110, 105, 111, 110]
def Uo : Bytes := [116, 114, 117, 115, 116, 101, 100]
def VR : Bytes := [114, 101, 102, 117, 115, 101]
def aaY : Bytes := [122, 111, 110, 101]
def aeI (p : Nat) : Bytes := if p = 1 then VQ else if p = 2 then YQ else if p = 3 then Uo else VR
def aeJ (w : Bytes) : Option Nat := if w = VQ then some 1 else if w = YQ then some 2 else if w = VR then some 4 else if w = Uo then some 3 else none
def abz (t : Nat) : List Nat := (List.range 16).filter fun u => t.testBit u
def aax (w : Bytes) (v : Int) : Bytes := w ++ 32 :: decDigits v.toNat
def abA (t : Nat) : Bytes := (abz t).flatMap fun u => 32 :: decDigits u
section
variable (T : Names)
def YR (z : Zo) : Bytes := aaY ++ 32 :: (T.text z.name ++ 32 :: (aeI z.pol ++ abA z.tru))
def adC (c : Cf) : List Bytes := List.zipWith aax VP c.nums ++ c.zs.map (YR T)
def adD (c : Cf) : Bytes := aaw (adC T c) []
def afC (c : Cf) : Bytes × Int := if mayP c then (adD T c, 0) else ([], 1)
def aay (k : Nat) (l : Bytes) : Option Int := match spl 32 l with
 | [w, n] => if some w = VP[k]? then (numP n 2147483647).map Int.ofNat else none
 | _ => none
def YS : Int → Nat → List Bytes → Option Nat
 | _, t, [] => some t
 | last, t, w :: ws => match numP w 15 with
   | some u => if (u : Int) ≤ last then none else YS u (t ||| 2 ^ u) ws
   | none => none
def readName (w : Bytes) : Option Bytes := if (T.par w).2 = 0 ∧ T.text (T.par w).1 = w then some (T.par w).1 else none
def YT (l : Bytes) : Option Zo := match spl 32 l with
 | z :: w :: p :: ws => if z = aaY then match readName T w, aeJ p, YS (-1) 0 ws with
   | some n, some p, some t => if (decide (p = 3)) = (decide (t ≠ 0)) then some ⟨n, p, t⟩ else none
   | _, _, _ => none
   else none
 | _ => none
def goP : Nat → List Bytes → List Int → List Zo → Nat ⊕ (List Int × List Zo)
 | _, [], vs, zs => .inr (vs, zs)
 | k, l :: ls, vs, zs => if k < 12 then match aay k l with
    | some n => goP (k + 1) ls (vs ++ [n]) zs
    | none => .inl k
   else match YT T l with
    | some z => goP (k + 1) ls vs (zs ++ [z])
    | none => .inl k
def aeK (s : Bytes) : Cf × Int × Int := if 131072 < s.length then (zeroC, 0, 5) else
 match goP T 0 (Qn s).1 [] [] with
 | .inl k => (zeroC, (k : Int) + 1, 3)
 | .inr (vs, zs) => if (Qn s).2 ≠ [] ∨ (Qn s).1.length < 12 then (zeroC, ((Qn s).1.length : Int) + 1, 3) else
   if mayP (ofN vs zs) then (ofN vs zs, 0, 0) else (zeroC, 0, 1)
end
end Go.Proofs.YtbjkkoacclfejaaGreat.Cn
namespace Go.Proofs.YtbjkkoacclfejaaGreat
open Hg (En Pl)
open Vd (RSet Vdt Vote Rec Quest Piece Ballot)
structure Dd where
 sends : List Int
 gone : List Int
 over : Bool
 done : Bool
 vd : Vdt
 time : Int
 agree : List Int
 dissent : List Int
deriving DecidableEq
namespace Dd
def none : Dd := ⟨[], [], false, false, Vdt.none, 0, [], []⟩
end Dd
structure As where
 q : Quest
 pol : Int
 want : Int
 p : Pl
 l : List Ballot
 ded : Int
 now : Int
 over : Bool
namespace Aq
def votes (a : As) : List Vote := Vd.votesB a.l
def decided (a : As) : Option (Vdt × Int × List Int × List Int) :=
 if a.pol = 1 then (if (qr a.want (votes a)).2.2.2 then some ((qr a.want (votes a)).1, (qr a.want (votes a)).2.1, (qr a.want (votes a)).2.2.1, kA a.want (votes a)) else none)
 else if ((votes a).length : Int) < a.want then none
 else if a.pol = 2 then some ((Vd.union a.q (votes a)).1, (Vd.union a.q (votes a)).2.1, [], [])
 else match (votes a)[0]? with
  | some x => some (x.vd, x.time, [], [])
  | none => none
def hope (a : As) : Int := Hg.opens a.p + (if a.pol = 1 then qL (votes a) else ((votes a).length : Int))
def lookL : Nat → As → Dd → As × Dd
 | 0, a, d => (a, d)
 | n + 1, a, d =>
   if a.want ≤ hope a then (a, d)
   else if (Hg.more a.p a.now).2.2 then lookL n { a with p := (Hg.more a.p a.now).1 } { d with sends := d.sends ++ [(Hg.more a.p a.now).2.1] }
   else ({ a with p := (Hg.more a.p a.now).1, over := true }, { d with over := true })
def look (a : As) (d : Dd) : As × Dd :=
 match decided a with
 | some (v, t, ag, di) => ({ a with over := true }, { d with over := true, done := true, vd := v, time := t, agree := ag, dissent := di })
 | none => lookL (a.p.list.length + 1) a d
def upto (a : As) (now : Int) : As := { a with now := max a.now (min now Hg.top) }
def vote (a : As) (u : Int) (v : Vdt) (t : Int) (now : Int) : As × Dd :=
 if a.over then (a, Dd.none)
 else if (Hg.close a.p u).2 then look { (upto { a with p := (Hg.close a.p u).1 } now) with l := (Vd.putB a.l ⟨⟨u, v, t⟩, false⟩).1 } Dd.none
 else ({ a with p := (Hg.close a.p u).1 }, Dd.none)
def pass (a : As) (u : Int) (now : Int) : As × Dd :=
 if a.over then (a, Dd.none)
 else if (Hg.close a.p u).2 then look { (upto { a with p := (Hg.close a.p u).1 } now) with l := (Vd.putB a.l ⟨⟨u, Vdt.none, 0⟩, true⟩).1 } Dd.none
 else ({ a with p := (Hg.close a.p u).1 }, Dd.none)
def tick (a : As) (now : Int) : As × Dd :=
 if a.over then (a, Dd.none)
 else if a.ded ≤ (upto a now).now then ({ (upto a now) with over := true }, { Dd.none with over := true })
 else look { (upto a now) with p := (Hg.tick a.p (upto a now).now).1 } { Dd.none with sends := (Hg.tick a.p (upto a now).now).2.2, gone := (Hg.tick a.p (upto a now).now).2.1 }
def dueT (a : As) : Int := max (if (due a.p).2 then min a.ded (due a.p).1 else a.ded) (a.now + 1)
def afV (a : As) : Int × Bool := if a.over then (0, false) else if Hg.top < dueT a then (0, false) else (dueT a, true)
def own (pol tru : Nat) (l : List Int) : List Int := l.filter fun u => decide (pol ≠ 3) || tru.testBit u.toNat
def distinct (ups : Int) (l : List Int) : Bool := l.all (fun u => decide (0 ≤ u ∧ u < ups)) && decide l.Nodup
def wantOf (c : Cn.Cf) (pol : Nat) : Int := if pol = 3 then 1 else Cn.liesP c + 1
def newE (q : Quest) (z : Cn.Zo) (l : List Int) (c : Cn.Cf) (now : Int) : Int :=
 if !Cn.mayP c || !Nm.may q.name || decide (z.pol < 1 ∨ 3 < z.pol) || decide (now < 0 ∨ Hg.top < now) || !distinct c.ups l then 1
 else if own z.pol z.tru l = [] then 6 else 0
def new0 (q : Quest) (z : Cn.Zo) (l : List Int) (c : Cn.Cf) (now : Int) : As :=
 { q := q, pol := z.pol, want := wantOf c z.pol, p := (Hg.begin' (Hg.mk (own z.pol z.tru l) (wantOf c z.pol) c.hdg c.wai c.tri now)).1, l := [], ded := now + c.ded, now := now, over := false }
def new1 (q : Quest) (z : Cn.Zo) (l : List Int) (c : Cn.Cf) (now : Int) : As × Dd :=
 look (new0 q z l c now) { Dd.none with sends := (Hg.begin' (Hg.mk (own z.pol z.tru l) (wantOf c z.pol) c.hdg c.wai c.tri now)).2 }
end Aq
structure AOk (a : As) : Prop where
 good : Good a.p
 fr : Fr a.p
 begins : a.p.begins = true
 made : a.p.made = true
 want : 1 ≤ a.want ∧ a.want ≤ 9
 pol : a.pol = 1 ∨ a.pol = 2 ∨ (a.pol = 3 ∧ a.want = 1)
 now : 0 ≤ a.now ∧ a.now ≤ Hg.top
 ded : 0 ≤ a.ded ∧ a.ded ≤ Hg.top + 100000
 name : Nm.may a.q.name = true
 box : BoxOk a.l
end Go.Proofs.YtbjkkoacclfejaaGreat
namespace Go.Proofs.YtbjkkoacclfejaaGreat
open Go.RowKit
open Vd (RSet Vdt Vote Rec Quest Piece Ballot)
variable {G : World} {L : ja}
theorem qW {P : Program} {ρ : jp} {ty : TypeId} {x y : Operand} {b k : Nat} {t : TypeId} {C D : Array Value} {te : TypeId} (hx : ev ρ x = some (.pointer (some ⟨b, 0, none⟩))) (hy : ev ρ y = some (.agg D))
 (ht : jL P t k = true) (hC : C.size = k) (hD : D.size = k) (hone : yP D = true) : OpV P G ρ ((b, Obj.cells C te (0, 0)) :: L) (.store t x y) ty undef ((b, Obj.cells D te (0, 0)) :: L) := by
 have h1 := u5 (G := G) (P := P) (ρ := ρ) (L := L) (ty := ty) (b := b) (C := C) (te := te) (t := t) (cs := D.toList) hx (by simpa using hy) (by rw [Array.length_toList, hD]; exact ht) (fun v hv => List.all_eq_true.1 hone v hv) (by rw [Array.length_toList, hD, hC]; omega)
 have h2 : qg C 0 D.toList = D := by
  unfold qg
  rw [List.drop_eq_nil_of_le (by simp; omega)]
  simp
 rw [h2] at h1
 exact h1
def adE (L : ja) (cs : List Value) (v : Vdt) (t : Int) (ag di : List Int) : Prop := ∃ y1 k1 y2 k2 y3 k3 y4 k4, cs = [.int .u8 v.code, .slice y1 v.sets.length k1, .slice y2 v.soa.length k2, .int .u32 t, .slice y3 ag.length k3, .slice y4 di.length k4] ∧
 vdR L [.int .u8 v.code, .slice y1 v.sets.length k1, .slice y2 v.soa.length k2] v ∧ IRow L (.slice y3 ag.length k3) ag ∧ IRow L (.slice y4 di.length k4) di
def DecOut (L : ja) (r : Option (Vdt × Int × List Int × List Int)) (u : Value) (M : ja) : Prop := ∃ v t ag di cs N, u = .tuple #[.agg cs.toArray, .bool r.isSome] ∧ adE N cs v t ag di ∧ (∀ x, r = some x → x = (v, t, ag, di)) ∧ M = N ++ L
theorem jC {L : ja} : IRow L (.slice none 0 0) [] := ⟨none, 0, rfl, Or.inl rfl⟩
theorem zX {L : ja} {a : Option Addr} {c : Nat} {l : List Int} (h : sliceR 1 (uZ .i64) L [.slice a l.length c] l) : IRow L (.slice a l.length c) l := by
 obtain ⟨_, _, _, h⟩ := sliceR.cut h
 refine ⟨a, c, rfl, h.imp id ?_⟩
 rintro ⟨b, off, C, te, fr, q1, q2, q3⟩
 refine ⟨b, off, C, te, fr, q1, q2, fun i x hx => ?_⟩
 obtain ⟨cs', _, ⟨rfl, _⟩, k3⟩ := q3 i x hx
 exact k3 0 _ rfl
theorem DecOut.no : DecOut L none (.tuple #[.agg #[.int .u8 0, .slice none 0 0, .slice none 0 0, .int .u32 0, .slice none 0 0, .slice none 0 0], .bool false]) L :=
 ⟨Vdt.none, 0, [], [], _, [], rfl, ⟨none, 0, none, 0, none, 0, none, 0, rfl, ⟨_, _, rfl, sliceR.nil, sliceR.nil, by decide⟩, jC, jC⟩, by simp, rfl⟩
theorem PBox.codes {bb : Nat} {want : Int} {l : List Ballot} {X : ja} (h : PBox bb want l X) : ∀ x ∈ Vd.votesB l, (0 ≤ x.vd.code ∧ x.vd.code ≤ 255) ∧ (0 ≤ x.time ∧ x.time ≤ 4294967295) := by
 obtain ⟨hs, _, N, ⟨a, c, B, hB, rfl⟩, hN, rfl⟩ := h
 obtain ⟨_, _, hl, _⟩ := hB.ex
 intro x hx
 obtain ⟨i, hi⟩ := List.getElem?_of_mem hx
 obtain ⟨cs, _, ⟨_, _, _, _, _, h1, h2, _⟩, _⟩ := hl.at hi
 exact ⟨h1, h2⟩
theorem Kx {want : Int} {vs : List Vote} : ∀ {j k : Nat}, j6 want vs j = some k → ∃ x, vs[k]? = some x
 | 0, k, h => by cases h
 | j + 1, k, h => by
   unfold j6 at h
   split at h
   · rename_i k' hk
     obtain rfl := Option.some.inj h
     exact Kx hk
   · split at h
     · rename_i x hx
       split at h
       · obtain rfl := Option.some.inj h
         exact ⟨x, hx⟩
       · cases h
     · cases h
theorem YU {want : Int} {vs : List Vote} (h : (qr want vs).2.2.2 = true) : ∃ x ∈ vs, (qr want vs).1 = x.vd := by
 unfold qr at h ⊢
 cases hw : j6 want vs vs.length with
 | none => rw [hw] at h; cases h
 | some j =>
   rw [hw] at h
   dsimp only at h ⊢
   obtain ⟨x, hx⟩ := Kx hw
   rw [hx]
   exact ⟨x, List.mem_of_getElem? hx, rfl⟩
theorem aaz {want : Int} (h : 1 ≤ want) (vs : List Vote) : Wj want vs = qr want vs := if_neg jf
theorem Wp {a : As} (h : a.pol = 1) : Aq.decided a = if (qr a.want (Aq.votes a)).2.2.2 then some ((qr a.want (Aq.votes a)).1, (qr a.want (Aq.votes a)).2.1, (qr a.want (Aq.votes a)).2.2.1, kA a.want (Aq.votes a)) else none := by
 unfold Aq.decided; rw [if_pos h]
theorem abB {v : Vdt} {t : Int} {ag di : List Int} {N : ja} {y1 y2 y3 y4 : Option Addr} {k1 k2 k3 k4 : Nat} (h : vdR N [.int .u8 v.code, .slice y1 v.sets.length k1, .slice y2 v.soa.length k2] v) (h3 : IRow N (.slice y3 ag.length k3) ag) (h4 : IRow N (.slice y4 di.length k4) di) :
 DecOut L (some (v, t, ag, di)) (.tuple #[.agg #[.int .u8 v.code, .slice y1 v.sets.length k1, .slice y2 v.soa.length k2, .int .u32 t, .slice y3 ag.length k3, .slice y4 di.length k4], .bool true]) (N ++ L) :=
 ⟨v, t, ag, di, _, N, rfl, ⟨y1, k1, y2, k2, y3, k3, y4, k4, rfl, h, h3, h4⟩, fun x hx => (Option.some.inj hx).symm, rfl⟩
theorem Wq {bb : Nat} {X : ja} (a : As) (c1 c2 c3 : Value) (hq : yP #[c1, c2, c3] = true) (hb : PBox bb a.want a.l X) (hX : ∀ p ∈ X, p ∈ L) (hw : 1 ≤ a.want) (hp : a.pol = 1) :
 Spec Tryz.prog G 187 #[.agg #[], .agg #[c1, c2, c3], .pointer (some ⟨bb, 0, none⟩)] L (DecOut L (Aq.decided a)) := by
 rw [Wp hp]
 have hcd := hb.codes
 refine jm (n := 28) Tryz.func187 rfl rfl rfl ?_
 repeat (first | refine goA ?_ | (refine j5 ?_; intro bNew) | (refine kK ?_; intro bBox))
 obtain ⟨b6, hb6⟩ : ∃ b, bNew = b := ⟨_, rfl⟩
 rw [hb6]
 clear hb6
 rename_i bx1
 refine jx (jb jg rfl (abr hb (fun p hp => List.mem_cons_of_mem _ (List.mem_cons_of_mem _ (List.mem_cons_of_mem _ (hX p hp)))))) rfl ?_
 rw [aaz hw]
 obtain ⟨r, hr⟩ : ∃ r, r = qr a.want (Vd.votesB a.l) := ⟨_, rfl⟩
 have hv : Aq.votes a = Vd.votesB a.l := rfl
 rw [hv, ← hr]
 rintro _ _ ⟨ra, rc, RB, ra2, rc2, RB2, ra3, rc3, RB3, N, rfl, hR1, hR2, hR3, hN, rfl⟩
 repeat (first | refine goA ?_ | (refine j5 ?_; intro bNew))
 cases hf : r.2.2.2 with
 | false =>
   rw [if_neg (by simp)]
   refine VE (L' := (b6, Obj.cells #[.int .u8 0, .slice none 0 0, .slice none 0 0, .int .u32 0, .slice none 0 0, .slice none 0 0] 167 (0, 0)) :: L) ?_ jl
   repeat (first | refine goA ?_ | refine ju (jo rfl (zQ )) rfl ?_)
   refine kJ 6 167 7 rfl rfl rfl stO (by repeat (exact List.mem_cons_self)) rfl (L' := L) (fun w h => h.cnt jl) ?_
   exact DecOut.no
 | true =>
   obtain ⟨x, hx, hxe⟩ := YU (want := a.want) (vs := Vd.votesB a.l) (by rw [← hr]; exact hf)
   have hxc := (hcd x hx).1
   rw [← hr] at hxe
   rw [← hxe] at hxc
   rw [if_pos rfl]
   obtain ⟨b7, hb7⟩ : ∃ b, bNew = b := ⟨_, rfl⟩
   rw [hb7]
   clear hb7
   have hag := U2 (G := G) (L := (b7, Obj.cells #[.int .u8 r.1.code, .slice ra r.1.sets.length rc, .slice ra2 r.1.soa.length rc2] 40 (0, 0)) :: (RB3 ++ (RB2 ++ (RB ++ (N ++ ((b6, Obj.cells #[.int .u8 0, .slice none 0 0, .slice none 0 0, .int .u32 0, .slice none 0 0, .slice none 0 0] 167 (0, 0)) :: (bBox, Obj.cells #[c1, c2, c3] 24 (0, 0)) :: (bx1, Obj.cells #[] 152 (0, 0)) :: L)))))) hb (fun p hp => by have := hX p hp; simp [this])
   rw [if_neg jf] at hag
   obtain ⟨ag, hage⟩ : ∃ z, z = kA a.want (Vd.votesB a.l) := ⟨_, rfl⟩
   rw [← hage] at hag ⊢
   have hK : ∀ z ∈ [(b7, Obj.cells #[.int .u8 r.1.code, .slice ra r.1.sets.length rc, .slice ra2 r.1.soa.length rc2] 40 (0, 0))], z ∈ (b7, Obj.cells #[.int .u8 r.1.code, .slice ra r.1.sets.length rc, .slice ra2 r.1.soa.length rc2] 40 (0, 0)) :: (RB3 ++ (RB2 ++ (RB ++ (N ++ ((b6, Obj.cells #[.int .u8 0, .slice none 0 0, .slice none 0 0, .int .u32 0, .slice none 0 0, .slice none 0 0] 167 (0, 0)) :: (bBox, Obj.cells #[c1, c2, c3] 24 (0, 0)) :: (bx1, Obj.cells #[] 152 (0, 0)) :: L))))) := fun z hz => by simp only [List.mem_singleton] at hz; subst hz; simp
   refine goA ?_
   refine jw jc ([(b7, Obj.cells #[.int .u8 r.1.code, .slice ra r.1.sets.length rc, .slice ra2 r.1.soa.length rc2] 40 (0, 0))]) [] ?_
   refine tkQ 0 ?_
   refine tkQ 1 ?_
   refine tkQ 2 ?_
   refine tkQ 3 ?_
   refine jO 4 jg rfl rfl rfl rfl (jb jg rfl hag) ?_; rintro _ _ ⟨a3, c3', B3, rfl, hB3, rfl⟩; refine ⟨Or.inr (fun z hz => by simp only [List.mem_singleton] at hz; subst hz; simp), ?_⟩
   (refine' jz 5 rfl rfl jg (jJ (jo rfl (uA _ _ _ _ _ _ _ _ _ _))) ?_ ?_; (· intro p hp; grind))
   refine kP (L' := (b6, Obj.cells #[.int .u8 0, .slice none 0 0, .slice none 0 0, .int .u32 0, .slice none 0 0, .slice none 0 0] 167 (0, 0)) :: (B3 ++ (RB3 ++ (RB2 ++ (RB ++ (N ++ ((b7, Obj.cells #[.int .u8 r.1.code, .slice ra r.1.sets.length rc, .slice ra2 r.1.soa.length rc2] 40 (0, 0)) :: (bBox, Obj.cells #[c1, c2, c3] 24 (0, 0)) :: (bx1, Obj.cells #[] 152 (0, 0)) :: L))))))) ?_ jl; refine kf 6 jg rfl rfl rfl (qW rfl rfl stO rfl rfl rfl) ?_; rintro _ _ ⟨_, rfl⟩; refine ⟨Or.inr (fun z hz => by simp only [List.mem_singleton] at hz; subst hz; simp), ?_⟩
   refine tkQ 7 ?_
   refine tdQ ?_
   refine goA ?_
   refine kJ 6 167 7 rfl rfl rfl stO (by repeat (exact List.mem_cons_self)) rfl (L' := (B3 ++ (RB3 ++ (RB2 ++ (RB ++ N)))) ++ L) (fun w h => h.cnt jl) ?_
   exact abB (N := B3 ++ (RB3 ++ (RB2 ++ (RB ++ N)))) ⟨_, _, rfl, hR1.sliceR jq jt jt, hR2.sliceR jq jt jt, hxc⟩ (zX (hR3.sliceR (Je _) (by simp) jt)) (zX (hB3.sliceR (Je _) (by simp) jt))
theorem Ws {bb : Nat} {want : Int} {l : List Ballot} {X : ja} (n : Int) (hn : 0 ≤ n ∧ n ≤ 1000) (hb : PBox bb want l X) (hX : ∀ p ∈ X, p ∈ L) :
 Spec Tryz.prog G 188 #[.agg #[], .int .i64 n, .pointer (some ⟨bb, 0, none⟩)] L fun u M => u = .int .i64 (n + qL (Vd.votesB l)) ∧ M = L := by
 have hl9 := hb.1.ok.len
 have hvl := jY l
 have hm0 := yA (Vd.votesB l)
 have hm9 : qL (Vd.votesB l) ≤ 9 := mostR_le.2 ⟨by decide, fun x hx => by have := List.length_filter_le (fun y : Vote => decide (y.vd = x.vd)) (Vd.votesB l); unfold jM; omega⟩
 refine jm (n := 11) Tryz.func188 rfl rfl rfl ?_
 repeat (first | refine goA ?_ | (refine kK ?_; intro bBox))
 refine jx (jb jg rfl (aao hb (fun p hp => List.mem_cons_of_mem _ (hX p hp)))) rfl ?_
 rintro _ _ ⟨rfl, rfl⟩
 refine goA ?_
 refine jH (L' := L) ?_ jl
 refine je 6 _ rfl rfl ?_
 exact ⟨rfl, rfl⟩
theorem YV {bb : Nat} {want : Int} {l : List Ballot} {X : ja} (n : Int) (hn : 0 ≤ n ∧ n ≤ 1000) (w0 : Int) (hb : PBox bb want l X) (hX : ∀ p ∈ X, p ∈ L) :
 Spec Tryz.prog G 209 #[.agg #[.int .i64 w0], .int .i64 n, .pointer (some ⟨bb, 0, none⟩)] L fun u M => u = .int .i64 (n + ((Vd.votesB l).length : Int)) ∧ M = L := by
 have hl9 := hb.1.ok.len
 have hvl := jY l
 have hm0 := yA (Vd.votesB l)
 have hm9 : qL (Vd.votesB l) ≤ 9 := mostR_le.2 ⟨by decide, fun x hx => by have := List.length_filter_le (fun y : Vote => decide (y.vd = x.vd)) (Vd.votesB l); unfold jM; omega⟩
 refine jm (n := 12) Tryz.func209 rfl rfl rfl ?_
 repeat (first | refine goA ?_ | (refine kK ?_; intro bBox))
 refine jx (jb jg rfl (yF hb (fun p hp => List.mem_cons_of_mem _ (hX p hp)))) rfl ?_
 rintro _ _ ⟨va, vc, VB, N, rfl, hVB, hN, rfl⟩
 refine goA ?_
 refine jH (L' := L) ?_ jl
 refine je 6 _ rfl rfl ?_
 exact ⟨rfl, rfl⟩
theorem U5 {bb : Nat} {want : Int} {l : List Ballot} {X : ja} (n : Int) (hn : 0 ≤ n ∧ n ≤ 1000) (hb : PBox bb want l X) (hX : ∀ p ∈ X, p ∈ L) :
 Spec Tryz.prog G 212 #[.agg #[], .int .i64 n, .pointer (some ⟨bb, 0, none⟩)] L fun u M => u = .int .i64 (n + ((Vd.votesB l).length : Int)) ∧ M = L := by
 have hl9 := hb.1.ok.len
 have hvl := jY l
 have hm0 := yA (Vd.votesB l)
 have hm9 : qL (Vd.votesB l) ≤ 9 := mostR_le.2 ⟨by decide, fun x hx => by have := List.length_filter_le (fun y : Vote => decide (y.vd = x.vd)) (Vd.votesB l); unfold jM; omega⟩
 refine jm (n := 12) Tryz.func212 rfl rfl rfl ?_
 repeat (first | refine goA ?_ | (refine kK ?_; intro bBox))
 refine jx (jb jg rfl (yF hb (fun p hp => List.mem_cons_of_mem _ (hX p hp)))) rfl ?_
 rintro _ _ ⟨va, vc, VB, N, rfl, hVB, hN, rfl⟩
 refine goA ?_
 refine jH (L' := L) ?_ jl
 refine je 6 _ rfl rfl ?_
 exact ⟨rfl, rfl⟩
structure EndOk (q : Quest) (v : Vdt) : Prop where
 few : (Vd.endV q v).1.data.length ≤ 600
 small : ∀ d ∈ (Vd.endV q v).1.data, d.length ≤ 1000000
 some : (Vd.endV q v).2 = true → (Vd.endV q v).1.data ≠ []
structure QOk (q : Quest) : Prop where
 name : q.name.length ≤ 1000000
 kind : 0 ≤ q.kind ∧ q.kind ≤ 65535
 cls : 0 ≤ q.cls ∧ q.cls ≤ 65535
 may : Nm.may q.name = true
theorem YW {q : Quest} (h : Nm.may q.name = true) {l : List Vote} (hl : l ≠ []) : (Vd.union q l).2.2 = true := by
 cases l with
 | nil => exact absurd rfl hl
 | cons w r =>
   unfold Vd.union
   dsimp only
   rw [if_neg (by rw [h]; simp)]
   split <;> rfl
theorem U6 {q : Quest} {l : List Vote} (hc : ∀ x ∈ l, 0 ≤ x.vd.code ∧ x.vd.code ≤ 255) : 0 ≤ (Vd.union q l).1.code ∧ (Vd.union q l).1.code ≤ 255 := by
 cases l with
 | nil => exact ⟨Int.le_refl 0, show (0 : Int) ≤ 255 by decide⟩
 | cons w r =>
   unfold Vd.union
   dsimp only
   split
   · exact ⟨Int.le_refl 0, show (0 : Int) ≤ 255 by decide⟩
   · split
     · split
       · rename_i x hx
         exact hc x (List.mem_of_getElem? hx)
       · exact ⟨Int.le_refl 0, show (0 : Int) ≤ 255 by decide⟩
     · exact ⟨Int.le_refl 0, show (0 : Int) ≤ 255 by decide⟩
theorem YX {a : As} (h : a.pol = 2) : Aq.decided a = if ((Aq.votes a).length : Int) < a.want then none else some ((Vd.union a.q (Aq.votes a)).1, (Vd.union a.q (Aq.votes a)).2.1, [], []) := by
 unfold Aq.decided
 rw [if_neg jf, if_pos h]
theorem YY {bb : Nat} {X : ja} (a : As) (hb : PBox bb a.want a.l X) (hX : ∀ p ∈ X, p ∈ L) (hw : 1 ≤ a.want) (hp : a.pol = 2) (hq : QOk a.q) (he : ∀ x ∈ Aq.votes a, EndOk a.q x.vd) :
 Spec Tryz.prog G 208 #[.agg #[.int .i64 a.want], .agg #[.string (bs a.q.name), .int .u16 a.q.kind, .int .u16 a.q.cls], .pointer (some ⟨bb, 0, none⟩)] L (DecOut L (Aq.decided a)) := by
 rw [YX hp]
 have hcd := hb.codes
 have hl9 := hb.1.ok.len
 have hvl := jY a.l
 have hsm := hb.1.sm
 have hv : Aq.votes a = Vd.votesB a.l := rfl
 rw [hv] at he ⊢
 refine jm (n := 33) Tryz.func208 rfl rfl rfl ?_
 repeat (first | refine goA ?_ | (refine j5 ?_; intro bNew) | (refine kK ?_; intro bBox))
 obtain ⟨b6, hb6⟩ : ∃ b, bNew = b := ⟨_, rfl⟩
 rw [hb6]
 clear hb6
 rename_i bx1
 refine jx (jb jg rfl (yF hb (fun p hp => List.mem_cons_of_mem _ (List.mem_cons_of_mem _ (List.mem_cons_of_mem _ (hX p hp)))))) rfl ?_
 rintro _ _ ⟨va, vc, VB, N, rfl, hVB, hN, rfl⟩
 by_cases hlen : ((Vd.votesB a.l).length : Int) < a.want
 · rw [if_pos hlen]
   repeat (first | refine goA ?_ | refine ju (jo rfl (zQ )) rfl ?_)
   refine jy (L' := (b6, Obj.cells #[.int .u8 0, .slice none 0 0, .slice none 0 0, .int .u32 0, .slice none 0 0, .slice none 0 0] 167 (0, 0)) :: L) ?_ jl
   refine goA ?_
   refine kJ 6 167 7 rfl rfl rfl stO (by repeat (exact List.mem_cons_self)) rfl (L' := L) (fun w h => h.cnt jl) ?_
   exact DecOut.no
 · rw [if_neg hlen]
   have hne : Vd.votesB a.l ≠ [] := fun e => by rw [e] at hlen; simp at hlen; omega
   have hus : yW a.q (Vd.votesB a.l) = Vd.union a.q (Vd.votesB a.l) := U1 a.q _ (fun x hx => (he x hx).some)
   have hui := YW hq.may hne
   have huc := U6 (q := a.q) (fun x hx => (hcd x hx).1)
   generalize hvs : Vd.votesB a.l = vs at hVB hus hui huc hl9 hvl he hsm hlen ⊢
   have hun := YF (G := G) (L := VB ++ (N ++ ((b6, Obj.cells #[.int .u8 0, .slice none 0 0, .slice none 0 0, .int .u32 0, .slice none 0 0, .slice none 0 0] 167 (0, 0)) :: (bBox, Obj.cells #[.string (bs a.q.name), .int .u16 a.q.kind, .int .u16 a.q.cls] 24 (0, 0)) :: (bx1, Obj.cells #[.int .i64 a.want] 154 (0, 0)) :: L))) (K := N) _ a.q vs jt hq.name hq.kind hq.cls ((hVB.imp (r' := fun _ => voteR N) (L' := []) (fun cs x _ h => h)).sliceR qh (by simp) jt) jf (fun x hx => (he x hx).few) hsm
   rw [hus] at hun
   generalize hr : Vd.union a.q vs = r at hun hui huc ⊢
   refine goA ?_
   refine jx (jb jg rfl hun) rfl ?_
   rintro _ _ ⟨ra, rc, RB, ra2, rc2, RB2, RN, rfl, hR1, hR2, hRN, rfl⟩
   repeat (first | refine goA ?_ | (refine j5 ?_; intro bNew) | refine ju (jo rfl (u6 _ _ _ _)) rfl ?_)
   rw [hui]
   skip
   refine jy (L' := (b6, Obj.cells #[.int .u8 0, .slice none 0 0, .slice none 0 0, .int .u32 0, .slice none 0 0, .slice none 0 0] 167 (0, 0)) :: ((RB2 ++ (RB ++ RN)) ++ L)) ?_ jl
   refine goA ?_
   refine kJ 6 167 7 rfl rfl rfl stO (by repeat (exact List.mem_cons_self)) rfl (L' := (RB2 ++ (RB ++ RN)) ++ L) (fun w h => h.cnt jl) ?_
   exact abB (N := RB2 ++ (RB ++ RN)) (ag := []) (di := []) ⟨_, _, rfl, hR1.sliceR jq jt jt, hR2.sliceR jq jt jt, huc⟩ jC jC
theorem U7 {a : As} (h : a.pol = 3) (hw : a.want = 1) : Aq.decided a = match (Aq.votes a)[0]? with | some x => some (x.vd, x.time, [], []) | none => none := by
 unfold Aq.decided
 rw [if_neg jf, hw]
 cases hv : (Aq.votes a)[0]? with
 | none =>
   have : (Aq.votes a).length = 0 := by have := List.getElem?_eq_none_iff.1 hv; omega
   rw [this, if_pos (by decide)]
 | some x =>
   have := (List.getElem?_eq_some_iff.1 hv).1
   rw [if_neg jf, if_neg jf]
theorem U8 {bb : Nat} {X : ja} (a : As) (c1 c2 c3 : Value) (hb : PBox bb a.want a.l X) (hX : ∀ p ∈ X, p ∈ L) (hw : a.want = 1) (hp : a.pol = 3) :
 Spec Tryz.prog G 211 #[.agg #[], .agg #[c1, c2, c3], .pointer (some ⟨bb, 0, none⟩)] L (DecOut L (Aq.decided a)) := by
 rw [U7 hp hw]
 have hcd := hb.codes
 have hl9 := hb.1.ok.len
 have hvl := jY a.l
 have hv : Aq.votes a = Vd.votesB a.l := rfl
 rw [hv]
 refine jm (n := 24) Tryz.func211 rfl rfl rfl ?_
 repeat (first | refine goA ?_ | (refine j5 ?_; intro bNew) | (refine kK ?_; intro bBox))
 obtain ⟨b6, hb6⟩ : ∃ b, bNew = b := ⟨_, rfl⟩
 rw [hb6]
 clear hb6
 rename_i bx1
 refine jx (jb jg rfl (yF hb (fun p hp => List.mem_cons_of_mem _ (List.mem_cons_of_mem _ (List.mem_cons_of_mem _ (hX p hp)))))) rfl ?_
 obtain ⟨vs, hvs⟩ : ∃ vs, vs = Vd.votesB a.l := ⟨_, rfl⟩
 rw [← hvs] at hvl hcd ⊢
 rintro _ _ ⟨va, vc, VB, N, rfl, hVB, hN, rfl⟩
 cases hx : vs[0]? with
 | none =>
   have h0 : vs.length = 0 := by have := List.getElem?_eq_none_iff.1 hx; omega
   rw [h0]
   repeat (first | refine goA ?_ | refine ju (jo rfl (zQ )) rfl ?_)
   refine jy (L' := (b6, Obj.cells #[.int .u8 0, .slice none 0 0, .slice none 0 0, .int .u32 0, .slice none 0 0, .slice none 0 0] 167 (0, 0)) :: L) ?_ jl
   refine goA ?_
   refine kJ 6 167 7 rfl rfl rfl stO (by repeat (exact List.mem_cons_self)) rfl (L' := L) (fun w h => h.cnt jl) ?_
   exact DecOut.no
 | some x =>
   have hlt := (List.getElem?_eq_some_iff.1 hx).1
   have hxc := (hcd x (List.mem_of_getElem? hx)).1
   have hR := (hVB.imp (r' := fun _ => voteR N) (L' := []) (fun cs x _ h => h)).sliceR qh (L' := VB) (by simp) (fun p hp => hp)
   obtain ⟨b1, o1, C1, t1, f1, rfl, m1, cs, _, ⟨y1, y2, rfl, hs1, hs2, _⟩, hcs⟩ := sliceR.at hR hx
   obtain ⟨z1, w1, e1, hs1⟩ := hs1.val
   obtain ⟨z2, w2, e2, hs2⟩ := hs2.val
   simp only [List.cons.injEq, and_true] at e1 e2
   subst e1 e2
   have g1 : C1[o1 + 0 * 5 + 1 + 0]? = some (.int .u8 x.vd.code) := hcs 1 _ rfl
   have g4 : C1[o1 + 0 * 5 + 4]? = some (.int .u32 x.time) := hcs 4 _ rfl
   have hver : ∀ j v, ([.int .u8 x.vd.code, .slice z1 x.vd.sets.length w1, .slice z2 x.vd.soa.length w2] : List Value)[j]? = some v → C1[o1 + 0 * 5 + 1 + j]? = some v := fun j v hj => by
    match j, hj with
    | 0, hj => exact hcs 1 _ hj
    | 1, hj => exact hcs 2 _ hj
    | 2, hj => exact hcs 3 _ hj
   have hK : ∀ z ∈ [(b1, Obj.cells C1 t1 f1)], z ∈ VB ++ (N ++ ((b6, Obj.cells #[.int .u8 0, .slice none 0 0, .slice none 0 0, .int .u32 0, .slice none 0 0, .slice none 0 0] 167 (0, 0)) :: (bBox, Obj.cells #[c1, c2, c3] 24 (0, 0)) :: (bx1, Obj.cells #[] 155 (0, 0)) :: L)) := fun z hz => by rw [List.mem_singleton.1 hz]; exact List.mem_append_left _ m1
   refine goA ?_
   refine jw jc ([(b1, Obj.cells C1 t1 f1)]) [] ?_
   refine tkQ 0 ?_
   refine tkQ 1 ?_
   refine tkQ 2 ?_
   (refine' jz 3 rfl rfl jg (jJ (jD [.int .u8 x.vd.code, .slice z1 x.vd.sets.length w1, .slice z2 x.vd.soa.length w2] rfl stL (List.mem_singleton.2 rfl) hver)) ?_ ?_; (· assumption))
   refine tkQ 4 ?_
   refine tkQ 5 ?_
   refine tkQ 6 ?_
   refine tkQ 7 ?_
   (refine' jz 8 rfl rfl jg (jJ (jo rfl (u6 _ _ _ _))) ?_ ?_; (· assumption))
   refine kP (L' := (b6, Obj.cells #[.int .u8 0, .slice none 0 0, .slice none 0 0, .int .u32 0, .slice none 0 0, .slice none 0 0] 167 (0, 0)) :: (VB ++ (N ++ ((bBox, Obj.cells #[c1, c2, c3] 24 (0, 0)) :: (bx1, Obj.cells #[] 155 (0, 0)) :: L)))) ?_ jl; refine kf 9 jg rfl rfl rfl (qW rfl rfl stO rfl rfl rfl) ?_; rintro _ _ ⟨_, rfl⟩; refine ⟨Or.inr (fun z hz => by rw [List.mem_singleton.1 hz]; exact List.mem_cons_of_mem _ (List.mem_append_left _ m1)), ?_⟩
   refine tkQ 10 ?_
   refine tdQ ?_
   refine goA ?_
   refine kJ 6 167 7 rfl rfl rfl stO (by repeat (exact List.mem_cons_self)) rfl (L' := N ++ L) (fun w h => h.cnt jl) ?_
   exact abB (N := N) (ag := []) (di := []) ⟨_, _, rfl, hs1, hs2, hxc⟩ jC jC
end Go.Proofs.YtbjkkoacclfejaaGreat
namespace Go.Proofs.YtbjkkoacclfejaaGreat
open Go.RowKit
open Hg (En Pl)
open Vd (RSet Vdt Vote Rec Quest Piece Ballot)
theorem aaZ : ym Tryz.prog 92 = true := by kernel_rfl
def U9 (pol : Int) : TypeId := if pol = 1 then 152 else if pol = 2 then 154 else 155
def JY (pol want : Int) : Value := if pol = 2 then .agg #[.int .i64 want] else .agg #[]
def kQ (q : Quest) : Array Value := #[.string (bs q.name), .int .u16 q.kind, .int .u16 q.cls]
def jh (a : As) (bp bb : Nat) : Array Value := #[.string (bs a.q.name), .int .u16 a.q.kind, .int .u16 a.q.cls, .iface (U9 a.pol) (JY a.pol a.want), .int .i64 a.want, .pointer (some ⟨bp, 0, none⟩), .pointer (some ⟨bb, 0, none⟩), .int .i64 a.ded, .int .i64 a.now, .bool a.over]
def yZ : Rp Dd := fun K cs d => ∃ y1 k1 y2 k2 y3 k3 y4 k4 y5 k5 y6 k6, cs = [.slice y1 d.sends.length k1, .slice y2 d.gone.length k2, .bool d.over, .bool d.done, .int .u8 d.vd.code, .slice y3 d.vd.sets.length k3, .slice y4 d.vd.soa.length k4, .int .u32 d.time, .slice y5 d.agree.length k5, .slice y6 d.dissent.length k6] ∧
 IRow K (.slice y1 d.sends.length k1) d.sends ∧ IRow K (.slice y2 d.gone.length k2) d.gone ∧ vdR K [.int .u8 d.vd.code, .slice y3 d.vd.sets.length k3, .slice y4 d.vd.soa.length k4] d.vd ∧ IRow K (.slice y5 d.agree.length k5) d.agree ∧ IRow K (.slice y6 d.dissent.length k6) d.dissent
theorem j9 : ue yZ := by
 rintro L L' cs d hL ⟨y1, k1, y2, k2, y3, k3, y4, k4, y5, k5, y6, k6, h, h1, h2, h3, h4, h5⟩
 exact ⟨y1, k1, y2, k2, y3, k3, y4, k4, y5, k5, y6, k6, h, h1.mono hL, h2.mono hL, ko _ _ _ _ hL h3, h4.mono hL, h5.mono hL⟩
structure AWell (a : As) : Prop where
 ok : AOk a
 q : QOk a.q
 ends : ∀ x ∈ Aq.votes a, EndOk a.q x.vd
section
variable {G : World} {L : ja} {ρ : jp} {ty : TypeId}
theorem yH {P : Program} {x : Operand} {t : TypeId} {v : Value} (hx : ev ρ x = some (.iface t v)) : OpQ P ρ L (.nilCheck x) ty (.iface t v) :=
 ⟨fun r hr w hw o ho _ => by simp [execOp, ho, hr _ _ hx]⟩
theorem aaA (w : World) : (method (Tryz.prog.types.size + Made.depth) 152 (.agg #[]) "hustings/ask.decided").run Tryz.prog w = .ok (187, .agg #[]) w := by kernel_rfl
theorem aaB (n : Int) (w : World) : (method (Tryz.prog.types.size + Made.depth) 154 (.agg #[.int .i64 n]) "hustings/ask.decided").run Tryz.prog w = .ok (208, .agg #[.int .i64 n]) w := by kernel_rfl
theorem aaC (w : World) : (method (Tryz.prog.types.size + Made.depth) 155 (.agg #[]) "hustings/ask.decided").run Tryz.prog w = .ok (211, .agg #[]) w := by kernel_rfl
theorem aaD (w : World) : (method (Tryz.prog.types.size + Made.depth) 152 (.agg #[]) "hustings/ask.hope").run Tryz.prog w = .ok (188, .agg #[]) w := by kernel_rfl
theorem aaE (n : Int) (w : World) : (method (Tryz.prog.types.size + Made.depth) 154 (.agg #[.int .i64 n]) "hustings/ask.hope").run Tryz.prog w = .ok (209, .agg #[.int .i64 n]) w := by kernel_rfl
theorem aaF (w : World) : (method (Tryz.prog.types.size + Made.depth) 155 (.agg #[]) "hustings/ask.hope").run Tryz.prog w = .ok (212, .agg #[]) w := by kernel_rfl
theorem JF {a : As} {bb : Nat} {X : ja} {recv x y : Operand} {ats : Array TypeId} (hx : ev ρ recv = some (.iface (U9 a.pol) (JY a.pol a.want))) (hq : ev ρ x = some (.agg (kQ a.q))) (hy : ev ρ y = some (.pointer (some ⟨bb, 0, none⟩)))
 (hA : AWell a) (hb : PBox bb a.want a.l X) (hX : ∀ p ∈ X, p ∈ L) : OpT Tryz.prog G ρ L (.call ⟨.invoke recv "hustings/ask.decided", #[x, y], ats⟩) ty (DecOut L (Aq.decided a)) := by
 have ha : kk ρ [x, y] = some [.agg (kQ a.q), .pointer (some ⟨bb, 0, none⟩)] := by simp [kk, hq, hy]
 rcases hA.ok.pol with h | h | ⟨h, hw⟩
 · rw [h] at hx
   exact qA (xs := [x, y]) jg hx ha aaA (Wq a _ _ _ rfl hb hX hA.ok.want.1 h)
 · rw [h] at hx
   exact qA (xs := [x, y]) jg hx ha (aaB a.want) (YY a hb hX hA.ok.want.1 h hA.q hA.ends)
 · rw [h] at hx
   exact qA (xs := [x, y]) jg hx ha aaC (U8 a _ _ _ hb hX hw h)
def uW (pol : Int) (vs : List Vote) : Int := if pol = 1 then qL vs else (vs.length : Int)
theorem aaG {pol want : Int} {l : List Ballot} {bb : Nat} {X : ja} {recv x y : Operand} {ats : Array TypeId} {n : Int} (hn : 0 ≤ n ∧ n ≤ 1000) (hx : ev ρ recv = some (.iface (U9 pol) (JY pol want))) (hq : ev ρ x = some (.int .i64 n)) (hy : ev ρ y = some (.pointer (some ⟨bb, 0, none⟩)))
 (hA : pol = 1 ∨ pol = 2 ∨ pol = 3) (hb : PBox bb want l X) (hX : ∀ p ∈ X, p ∈ L) : OpT Tryz.prog G ρ L (.call ⟨.invoke recv "hustings/ask.hope", #[x, y], ats⟩) ty fun u M => u = .int .i64 (n + uW pol (Vd.votesB l)) ∧ M = L := by
 have ha : kk ρ [x, y] = some [.int .i64 n, .pointer (some ⟨bb, 0, none⟩)] := by simp [kk, hq, hy]
 rcases hA with rfl | rfl | rfl
 · exact qA (xs := [x, y]) jg hx ha aaD (Ws n hn hb hX)
 · exact qA (xs := [x, y]) jg hx ha (aaE want) (YV n hn _ hb hX)
 · exact qA (xs := [x, y]) jg hx ha aaF (U5 n hn hb hX)
end
theorem AOk.more {a : As} (h : AOk a) : AOk { a with p := (Hg.more a.p a.now).1 } :=
 ⟨h.good.more _, h.fr.more _, by rw [Un]; exact h.begins, by
   show (Hg.more a.p a.now).1.made = true
   unfold Hg.more
   split
   · exact h.made
   · dsimp only
     split <;> exact h.made, h.want, h.pol, h.now, h.ded, h.name, h.box⟩
theorem AWell.more {a : As} (h : AWell a) : AWell { a with p := (Hg.more a.p a.now).1 } := ⟨h.ok.more, h.q, h.ends⟩
def ul (p : Pl) : Nat := p.list.length - p.asked
theorem YZ {p : Pl} {t : Int} (h : (Hg.more p t).2.2 = true) : ul (Hg.more p t).1 < ul p := by
 unfold Hg.more at h ⊢
 split at h
 · cases h
 · rename_i hb
   rw [if_neg hb]
   dsimp only at h ⊢
   split at h
   · cases h
   · rename_i hl
     rw [if_neg hl]
     simp only [Hg.advance] at hl
     simp only [ul, Hg.next, Hg.advance, List.length_modify]
     omega
theorem Y0 {p : Pl} (h : Good p) : 0 ≤ Hg.opens p ∧ Hg.opens p ≤ 9 := by
 have h1 := h.len
 have h2 := List.length_filter_le (fun x : En => x.op) p.list
 unfold Hg.opens
 omega
end Go.Proofs.YtbjkkoacclfejaaGreat
namespace Go.Proofs.YtbjkkoacclfejaaGreat
open Go.RowKit
open Hg (En Pl)
open Vd (RSet Vdt Vote Rec Quest Piece Ballot)
variable {G : World} {L : ja}
def dd (s g : List Int) : Dd := ⟨s, g, false, false, Vdt.none, 0, [], []⟩
def kl (vs vg : Value) : Array Value := #[vs, vg, .bool false, .bool false, .int .u8 0, .slice none 0 0, .slice none 0 0, .int .u32 0, .slice none 0 0, .slice none 0 0]
def ad8 (vs vg : Value) (o : Bool) : Array Value := #[vs, vg, .bool o, .bool false, .int .u8 0, .slice none 0 0, .slice none 0 0, .int .u32 0, .slice none 0 0, .slice none 0 0]
theorem um {ap bp bb bd : Nat} {a : As} {s g : List Int} {Mp X Bs Ng : ja} {ys yg : Option Addr} {ks kg : Nat} (hp : IsPlan bp a.p Mp) (hb : PBox bb a.want a.l X) (hA : AWell a) (ho : a.over = false) (hs9 : s.length ≤ 100)
 (hR : Row 3 1 (.slice ys s.length ks) s.length (qf s) Bs) (hg : IRow Ng (.slice yg g.length kg) g) (hN : ∀ p ∈ Ng, p ∈ L) :
 Spec Tryz.prog G 43 #[.pointer (some ⟨ap, 0, none⟩), .pointer (some ⟨bd, 0, none⟩)] ((ap, .cells (jh a bp bb) 102 (0, 0)) :: (bd, .cells (kl (.slice ys s.length ks) (.slice yg g.length kg)) 43 (0, 0)) :: (Mp ++ (X ++ (Bs ++ L)))) fun u M =>
  ∃ cs Mp' N, IsPlan bp (Aq.look a (dd s g)).1.p Mp' ∧ yZ (N ++ Ng) cs (Aq.look a (dd s g)).2 ∧ M = (ap, .cells (jh (Aq.look a (dd s g)).1 bp bb) 102 (0, 0)) :: (bd, .cells cs.toArray 43 (0, 0)) :: (Mp' ++ (X ++ (N ++ L))) := by
 have hAw := hA.ok.want
 have hAn := hA.ok.now
 have hKm : ∀ z ∈ [(ap, Obj.cells (jh a bp bb) 102 (0, 0))], z ∈ ((ap, Obj.cells (jh a bp bb) 102 (0, 0)) :: (bd, Obj.cells (kl (.slice ys s.length ks) (.slice yg g.length kg)) 43 (0, 0)) :: (Mp ++ (X ++ (Bs ++ L)))) := fun z hz => by rw [List.mem_singleton.1 hz]; exact List.mem_cons_self ..
 have hK : ∀ z ∈ [(ap, Obj.cells (jh a bp bb) 102 (0, 0))], z ∈ ((ap, Obj.cells (jh a bp bb) 102 (0, 0)) :: (bd, Obj.cells (kl (.slice ys s.length ks) (.slice yg g.length kg)) 43 (0, 0)) :: (Mp ++ (X ++ (Bs ++ L)))) := hKm
 have q3 : ∀ j v, ([.string (bs a.q.name), .int .u16 a.q.kind, .int .u16 a.q.cls] : List Value)[j]? = some v → (jh a bp bb)[0 + 0 + j]? = some v := fun j v hj => by
  match j, hj with
  | 0, hj => exact hj
  | 1, hj => exact hj
  | 2, hj => exact hj
 have e0 : (jh a bp bb)[0 + 0]? = some (.string (bs a.q.name)) := rfl
 have e1 : (jh a bp bb)[0 + 1]? = some (.int .u16 a.q.kind) := rfl
 have e2 : (jh a bp bb)[0 + 2]? = some (.int .u16 a.q.cls) := rfl
 have e3 : (jh a bp bb)[0 + 3]? = some (.iface (U9 a.pol) (JY a.pol a.want)) := rfl
 have e4 : (jh a bp bb)[0 + 4]? = some (.int .i64 a.want) := rfl
 have e5 : (jh a bp bb)[0 + 5]? = some (.pointer (some ⟨bp, 0, none⟩)) := rfl
 have e6 : (jh a bp bb)[0 + 6]? = some (.pointer (some ⟨bb, 0, none⟩)) := rfl
 have e7 : (jh a bp bb)[0 + 7]? = some (.int .i64 a.ded) := rfl
 have e8 : (jh a bp bb)[0 + 8]? = some (.int .i64 a.now) := rfl
 have e9 : (jh a bp bb)[0 + 9]? = some (.bool a.over) := rfl
 refine jm (n := 107) Tryz.func43 rfl rfl rfl ?_
 refine jU ?_
 skip
 refine jU ?_
 skip
 refine K8 (σ := Nat × Vdt × Int × List Int × List Int × List Value × ja) (fun y => adE y.2.2.2.2.2.2 y.2.2.2.2.2.1 y.2.1 y.2.2.1 y.2.2.2.1 y.2.2.2.2.1 ∧ ∀ x, Aq.decided a = some x → x = (y.2.1, y.2.2.1, y.2.2.2.1, y.2.2.2.2.1)) (fun y => [(0, .pointer (some ⟨ap, 0, none⟩)), (1, .pointer (some ⟨bd, 0, none⟩)), (4, .pointer (some ⟨y.1, 0, none⟩)), (5, .bool (Aq.decided a).isSome)])
  (fun y => (y.1, Obj.cells y.2.2.2.2.2.1.toArray 167 (0, 0)) :: (y.2.2.2.2.2.2 ++ ((ap, Obj.cells (jh a bp bb) 102 (0, 0)) :: (bd, Obj.cells (kl (.slice ys s.length ks) (.slice yg g.length kg)) 43 (0, 0)) :: (Mp ++ (X ++ (Bs ++ L)))))) ?_ ?_
 · skip
   refine jw jc ([(ap, Obj.cells (jh a bp bb) 102 (0, 0))]) [] ?_
   refine tkQ 0 ?_
   refine tkQ 1 ?_
   refine tkQ 2 ?_
   (refine' jz 3 rfl rfl jg (jJ (Vz rfl aaZ ?_ ?_)) ?_ ?_; rotate_left 4; (· repeat (exact List.mem_cons_self)); (· assumption); (· assumption))
   refine tkQ 4 ?_
   refine tkQ 5 ?_
   refine tkQ 6 ?_
   (refine' jz 7 rfl rfl jg (jJ (jD [.string (bs a.q.name), .int .u16 a.q.kind, .int .u16 a.q.cls] rfl stL (List.mem_singleton.2 rfl) q3)) ?_ ?_; (· assumption))
   refine tkQ 8 ?_
   refine tkQ 9 ?_
   refine tkQ 10 ?_
   refine tkQ 11 ?_
   (refine' jz 12 rfl rfl jg (jJ (yH rfl)) ?_ ?_; (· assumption))
   refine tkQ 13 ?_
   refine aa7 14 18 jg ?_ ?_
   · refine Yl rfl rfl rfl rfl (JF rfl rfl rfl hA hb jt) ?_
     rintro _ _ ⟨v, t, ag, di, _, N, rfl, ⟨y1, k1, y2, k2, y3, k3, y4, k4, rfl, hv1, hv2, hv3⟩, hdec, rfl⟩
     refine ⟨Or.inr (by exact (fun z hz => jS jl z (hKm z hz))), ?_⟩
     refine tkQ 15 ?_
     refine tkQ 16 ?_
     refine tkQ 17 ?_
     refine jO 18 jg rfl rfl rfl rfl (kt (C := #[.int .u8 0, .slice none 0 0, .slice none 0 0, .int .u32 0, .slice none 0 0, .slice none 0 0]) zeO rfl) ?_
     rintro _ _ ⟨b4, rfl, rfl⟩
     refine ⟨Or.inr (by exact (fun z hz => jS jl z (hKm z hz))), ?_⟩
     refine kP (L' := (b4, Obj.cells #[.int .u8 0, .slice none 0 0, .slice none 0 0, .int .u32 0, .slice none 0 0, .slice none 0 0] 167 (0, 0)) :: (N ++ ((ap, Obj.cells (jh a bp bb) 102 (0, 0)) :: (bd, Obj.cells (kl (.slice ys s.length ks) (.slice yg g.length kg)) 43 (0, 0)) :: (Mp ++ (X ++ (Bs ++ L)))))) ?_ jl
     refine kf 19 jg rfl rfl rfl (qW rfl rfl stO rfl rfl rfl) ?_
     rintro _ _ ⟨_, rfl⟩
     refine ⟨Or.inr (by exact (fun z hz => jS jl z (hKm z hz))), ?_⟩
     refine tkQ 20 ?_
     refine tdQ ?_
     refine kw (b4, v, t, ag, di, [_, _, _, _, _, _], N) ⟨⟨y1, k1, y2, k2, y3, k3, y4, k4, rfl, hv1, hv2, hv3⟩, hdec⟩ ?_ (fun w h => h)
     exact jv
   · refine Yl rfl rfl rfl rfl (kt (C := #[.int .u8 0, .slice none 0 0, .slice none 0 0, .int .u32 0, .slice none 0 0, .slice none 0 0]) zeO rfl) ?_
     rintro _ _ ⟨b4, rfl, rfl⟩
     refine ⟨Or.inr (by exact (fun z hz => jS jl z (hKm z hz))), ?_⟩
     refine jO 14 jg rfl rfl rfl rfl (JF rfl rfl rfl hA hb jt) ?_
     rintro _ _ ⟨v, t, ag, di, _, N, rfl, ⟨y1, k1, y2, k2, y3, k3, y4, k4, rfl, hv1, hv2, hv3⟩, hdec, rfl⟩
     refine ⟨Or.inr (by exact (fun z hz => jS jl z (hKm z hz))), ?_⟩
     refine tkQ 15 ?_
     refine tkQ 16 ?_
     refine tkQ 17 ?_
     refine kP (L' := (b4, Obj.cells #[.int .u8 0, .slice none 0 0, .slice none 0 0, .int .u32 0, .slice none 0 0, .slice none 0 0] 167 (0, 0)) :: (N ++ ((ap, Obj.cells (jh a bp bb) 102 (0, 0)) :: (bd, Obj.cells (kl (.slice ys s.length ks) (.slice yg g.length kg)) 43 (0, 0)) :: (Mp ++ (X ++ (Bs ++ L)))))) ?_ jl
     refine kf 19 jg rfl rfl rfl (qW rfl rfl stO rfl rfl rfl) ?_
     rintro _ _ ⟨_, rfl⟩
     refine ⟨Or.inr (by exact (fun z hz => jS jl z (hKm z hz))), ?_⟩
     refine tkQ 20 ?_
     refine tdQ ?_
     refine kw (b4, v, t, ag, di, [_, _, _, _, _, _], N) ⟨⟨y1, k1, y2, k2, y3, k3, y4, k4, rfl, hv1, hv2, hv3⟩, hdec⟩ ?_ (fun w h => h)
     exact jv
 rintro ⟨b4, v, t, ag, di, cs, N⟩ ⟨⟨y1, k1, y2, k2, y3, k3, y4, k4, h1, hv1, hv2, hv3⟩, hdec⟩
 dsimp only at h1 hv1 hv2 hv3 hdec ⊢
 subst h1
 obtain ⟨C4, hC4⟩ : ∃ C : Array Value, C = ([.int .u8 v.code, .slice y1 v.sets.length k1, .slice y2 v.soa.length k2, .int .u32 t, .slice y3 ag.length k3, .slice y4 di.length k4] : List Value).toArray := ⟨_, rfl⟩
 rw [← hC4]
 cases hdc : Aq.decided a with
 | some x =>
   obtain rfl := hdec x hdc
   have hl : Aq.look a (dd s g) = ({ a with over := true }, { dd s g with over := true, done := true, vd := v, time := t, agree := ag, dissent := di }) := by unfold Aq.look; rw [hdc]
   rw [hl]
   have z0 : C4[0 + 0 + 0]? = some (.int .u8 v.code) := by rw [hC4]; rfl
   have z3 : C4[0 + 3]? = some (.int .u32 t) := by rw [hC4]; rfl
   have z4 : C4[0 + 4]? = some (.slice y3 ag.length k3) := by rw [hC4]; rfl
   have z5 : C4[0 + 5]? = some (.slice y4 di.length k4) := by rw [hC4]; rfl
   have hver : ∀ j w, ([.int .u8 v.code, .slice y1 v.sets.length k1, .slice y2 v.soa.length k2] : List Value)[j]? = some w → C4[0 + 0 + j]? = some w := fun j w hj => by
    rw [hC4]
    match j, hj with
    | 0, hj => exact hj
    | 1, hj => exact hj
    | 2, hj => exact hj
   refine VE (L' := (ap, Obj.cells (jh a bp bb) 102 (0, 0)) :: (bd, Obj.cells (kl (.slice ys s.length ks) (.slice yg g.length kg)) 43 (0, 0)) :: (b4, Obj.cells C4 167 (0, 0)) :: (N ++ (Mp ++ (X ++ (Bs ++ L))))) ?_ jl
   refine goB ?_
   obtain ⟨A1, hA1⟩ : ∃ A : Array Value, A = (jh a bp bb).setIfInBounds (0 + 9) (.bool true) := ⟨_, rfl⟩
   obtain ⟨D1, hD1⟩ : ∃ D : Array Value, D = ((kl (.slice ys s.length ks) (.slice yg g.length kg)).setIfInBounds (0 + 2) (.bool true)).setIfInBounds (0 + 3) (.bool true) := ⟨_, rfl⟩
   rw [← hA1, ← hD1]
   obtain ⟨D2, hD2⟩ : ∃ D : Array Value, D = qg D1 (0 + 4) [.int .u8 v.code, .slice y1 v.sets.length k1, .slice y2 v.soa.length k2] := ⟨_, rfl⟩
   have w7 : D2[0 + 7]? = some (.int .u32 0) := by rw [hD2, hD1]; rfl
   obtain ⟨D3, hD3⟩ : ∃ D : Array Value, D = D2.setIfInBounds (0 + 7) (.int .u32 t) := ⟨_, rfl⟩
   have w8 : D3[0 + 8]? = some (.slice none 0 0) := by rw [hD3, hD2, hD1]; rfl
   obtain ⟨D4, hD4⟩ : ∃ D : Array Value, D = D3.setIfInBounds (0 + 8) (.slice y3 ag.length k3) := ⟨_, rfl⟩
   have w9 : D4[0 + 9]? = some (.slice none 0 0) := by rw [hD4, hD3, hD2, hD1]; rfl
   obtain ⟨D5, hD5⟩ : ∃ D : Array Value, D = D4.setIfInBounds (0 + 9) (.slice y4 di.length k4) := ⟨_, rfl⟩
   have hK4 : ∀ z ∈ [(b4, Obj.cells C4 167 (0, 0))], z ∈ (ap, Obj.cells A1 102 (0, 0)) :: (bd, Obj.cells D1 43 (0, 0)) :: (b4, Obj.cells C4 167 (0, 0)) :: (N ++ (Mp ++ (X ++ (Bs ++ L)))) := fun z hz => by rw [List.mem_singleton.1 hz]; simp
   have hK5 : ∀ D, ∀ z ∈ [(b4, Obj.cells C4 167 (0, 0))], z ∈ (bd, Obj.cells D 43 (0, 0)) :: (ap, Obj.cells A1 102 (0, 0)) :: (b4, Obj.cells C4 167 (0, 0)) :: (N ++ (Mp ++ (X ++ (Bs ++ L)))) := fun D z hz => by rw [List.mem_singleton.1 hz]; simp
   have hK6 := hK5 D2
   have hK7 := hK5 D3
   have hK8 := hK5 D4
   refine jw jc ([(b4, Obj.cells C4 167 (0, 0))]) [] ?_
   refine tkQ 0 ?_
   refine tkQ 1 ?_
   refine tkQ 2 ?_
   (refine' jz 3 rfl rfl jg (jJ (jD [.int .u8 v.code, .slice y1 v.sets.length k1, .slice y2 v.soa.length k2] rfl stL (List.mem_singleton.2 rfl) hver)) ?_ ?_; (· assumption))
   refine tkQ 4 ?_
   refine tkQ 5 ?_
   refine tkQ 6 ?_
   refine tkQ 7 ?_
   refine kP (L' := (bd, Obj.cells D1 43 (0, 0)) :: (ap, Obj.cells A1 102 (0, 0)) :: (b4, Obj.cells C4 167 (0, 0)) :: (N ++ (Mp ++ (X ++ (Bs ++ L))))) ?_ jl; refine kf 8 jg rfl rfl rfl (u5 (cs := [.int .u8 v.code, .slice y1 v.sets.length k1, .slice y2 v.soa.length k2]) rfl rfl stL (by intro w hw; simp only [List.mem_cons, List.not_mem_nil, or_false] at hw; rcases hw with rfl | rfl | rfl <;> rfl) (by rw [hD1]; show 7 ≤ 10; decide)) ?_; rintro _ _ ⟨_, rfl⟩; rw [← hD2]; refine ⟨Or.inr (fun z hz => by rw [List.mem_singleton.1 hz]; simp), ?_⟩
   refine tkQ 9 ?_
   refine tkQ 10 ?_
   refine kf 11 jg rfl rfl rfl (Jc rfl rfl onO rfl w7 rfl) ?_; rintro _ _ ⟨_, rfl⟩; rw [← hD3]; refine ⟨Or.inr (fun z hz => by rw [List.mem_singleton.1 hz]; simp), ?_⟩
   refine tdQ ?_
   refine goB ?_
   refine jw jc ([(b4, Obj.cells C4 167 (0, 0))]) [] ?_
   refine tkQ 0 ?_
   refine tkQ 1 ?_
   refine tkQ 2 ?_
   refine tkQ 3 ?_
   refine tkQ 4 ?_
   refine tkQ 5 ?_
   refine tkQ 6 ?_
   refine tkQ 7 ?_
   refine kf 8 jg rfl rfl rfl (Jc rfl rfl onO rfl w8 rfl) ?_; rintro _ _ ⟨_, rfl⟩; rw [← hD4]; refine ⟨Or.inr (fun z hz => by rw [List.mem_singleton.1 hz]; simp), ?_⟩
   refine tkQ 9 ?_
   refine tkQ 10 ?_
   refine kf 11 jg rfl rfl rfl (Jc rfl rfl onO rfl w9 rfl) ?_; rintro _ _ ⟨_, rfl⟩; rw [← hD5]; refine ⟨Or.inr (fun z hz => by rw [List.mem_singleton.1 hz]; simp), ?_⟩
   refine tdQ ?_
   refine goB ?_
   refine jH (L' := (ap, Obj.cells A1 102 (0, 0)) :: (bd, Obj.cells D5 43 (0, 0)) :: (Mp ++ (X ++ ((N ++ Bs) ++ L)))) ?_ jl
   refine yo rfl ?_
   refine ⟨[.slice ys s.length ks, .slice yg g.length kg, .bool true, .bool true, .int .u8 v.code, .slice y1 v.sets.length k1, .slice y2 v.soa.length k2, .int .u32 t, .slice y3 ag.length k3, .slice y4 di.length k4], Mp, N ++ Bs, hp, ⟨ys, ks, yg, kg, y1, k1, y2, k2, y3, k3, y4, k4, rfl, hR.irow (by simp +contextual), hg.mono (by simp +contextual), ko _ _ _ _ (by simp +contextual) hv1, hv2.mono (by simp +contextual), hv3.mono (by simp +contextual)⟩, ?_⟩
   have f1 : A1 = jh { a with over := true } bp bb := by rw [hA1]; rfl
   have f2 : D5 = ([.slice ys s.length ks, .slice yg g.length kg, .bool true, .bool true, .int .u8 v.code, .slice y1 v.sets.length k1, .slice y2 v.soa.length k2, .int .u32 t, .slice y3 ag.length k3, .slice y4 di.length k4] : List Value).toArray := by rw [hD5, hD4, hD3, hD2, hD1]; rfl
   rw [f1, f2]
 | none =>
   have hlk : Aq.look a (dd s g) = Aq.lookL (a.p.list.length + 1) a (dd s g) := by unfold Aq.look; rw [hdc]
   refine goB ?_
   refine jB (σ := Pl × List Int × Option Addr × Nat × ja × ja) (fun x => IsPlan bp x.1 x.2.2.2.2.1 ∧ AWell { a with p := x.1 } ∧ x.2.1.length + ul x.1 ≤ 200 ∧ Row 3 1 (.slice x.2.2.1 x.2.1.length x.2.2.2.1) x.2.1.length (qf x.2.1) x.2.2.2.2.2 ∧ ∃ n, ul x.1 ≤ n ∧ Aq.lookL (n + 1) { a with p := x.1 } (dd x.2.1 g) = Aq.look a (dd s g))
    (fun x => [(0, .pointer (some ⟨ap, 0, none⟩)), (1, .pointer (some ⟨bd, 0, none⟩))]) (fun x => (ap, Obj.cells (jh a bp bb) 102 (0, 0)) :: (bd, Obj.cells (kl (.slice x.2.2.1 x.2.1.length x.2.2.2.1) (.slice yg g.length kg)) 43 (0, 0)) :: (x.2.2.2.2.1 ++ (X ++ (x.2.2.2.2.2 ++ L)))) (fun x => ul x.1) (a.p, s, ys, ks, Mp, Bs) ⟨hp, hA, ?_, hR, a.p.list.length, Nat.sub_le _ _, hlk.symm⟩ ?_ (fun w h => h.cnt jl) ?_
   · have := hA.ok.good.len
     have : ul a.p ≤ a.p.list.length := Nat.sub_le _ _
     dsimp only
     omega
   exact jv
   rintro ⟨p, s', y, k, Mq, Bq⟩ ⟨hp', hA', hsl, hR', n, hn, hlook⟩
   dsimp only at hp' hA' hsl hR' hn hlook ⊢
   rw [← hlook]
   have hop : 0 ≤ Hg.opens p ∧ Hg.opens p ≤ 9 := Y0 hA'.ok.good
   have hpl : a.pol = 1 ∨ a.pol = 2 ∨ a.pol = 3 := hA.ok.pol.imp id (Or.imp id And.left)
   have hh : Aq.hope { a with p := p } = Hg.opens p + uW a.pol (Vd.votesB a.l) := rfl
   have hK2 : ∀ z ∈ [(ap, Obj.cells (jh a bp bb) 102 (0, 0))], z ∈ (ap, Obj.cells (jh a bp bb) 102 (0, 0)) :: (bd, Obj.cells (kl (.slice y s'.length k) (.slice yg g.length kg)) 43 (0, 0)) :: (Mq ++ (X ++ (Bq ++ L))) := fun z hz => by rw [List.mem_singleton.1 hz]; exact List.mem_cons_self ..
   have hop9 : 0 ≤ Hg.opens p ∧ Hg.opens p ≤ 1000 := ⟨hop.1, by omega⟩
   have hvl := jY a.l
   have hl9 := hb.1.ok.len
   have hbh : 0 ≤ uW a.pol (Vd.votesB a.l) ∧ uW a.pol (Vd.votesB a.l) ≤ 9 := by
    unfold uW
    split
    · exact ⟨yA _, mostR_le.2 ⟨by decide, fun x hx => by have := List.length_filter_le (fun y : Vote => decide (y.vd = x.vd)) (Vd.votesB a.l); unfold jM; omega⟩⟩
    · omega
   repeat (with_reducible refine jU ?_)
   refine jw jc ([(ap, Obj.cells (jh a bp bb) 102 (0, 0))]) [] ?_
   refine tkQ 0 ?_
   refine tkQ 1 ?_
   refine tkQ 2 ?_
   (refine' jz 3 rfl rfl jg (jJ (Vz rfl aaZ ?_ ?_)) ?_ ?_; rotate_left 4; (· repeat (exact List.mem_cons_self)); (· assumption); (· assumption))
   refine tkQ 4 ?_
   refine tkQ 5 ?_
   refine tkQ 6 ?_
   refine tkQ 7 ?_
   refine tkQ 9 ?_
   refine tkQ 10 ?_
   refine tkQ 11 ?_
   refine tkQ 12 ?_
   (refine' jz 13 rfl rfl jg (jJ (yH rfl)) ?_ ?_; (· assumption))
   refine tkQ 14 ?_
   refine tkQ 16 ?_
   refine tkQ 17 ?_
   refine tkQ 18 ?_
   refine tkQ 19 ?_
   refine kP (L' := Mq ++ ((ap, Obj.cells (jh a bp bb) 102 (0, 0)) :: (bd, Obj.cells (kl (.slice y s'.length k) (.slice yg g.length kg)) 43 (0, 0)) :: (X ++ (Bq ++ L)))) ?_ jl; refine jO 8 jg rfl rfl rfl rfl (jb jg rfl (abx hp')) ?_; rintro _ _ ⟨rfl, rfl⟩; refine ⟨Or.inr (fun z hz => by rw [List.mem_singleton.1 hz]; simp), ?_⟩
   refine jO 15 jg rfl rfl rfl rfl (aaG hop9 rfl rfl rfl hpl hb jt) ?_; rintro _ _ ⟨rfl, rfl⟩; refine ⟨Or.inr (fun z hz => by rw [List.mem_singleton.1 hz]; simp), ?_⟩
   refine tkQ 20 ?_
   refine tdQ ?_
   by_cases hw : a.want ≤ Aq.hope { a with p := p }
   · have e : Aq.lookL (n + 1) { a with p := p } (dd s' g) = ({ a with p := p }, dd s' g) := by unfold Aq.lookL; rw [if_pos hw]
     rw [e]
     rw [hh] at hw
     refine goB ?_
     refine jH (L' := (ap, Obj.cells (jh a bp bb) 102 (0, 0)) :: (bd, Obj.cells (kl (.slice y s'.length k) (.slice yg g.length kg)) 43 (0, 0)) :: (Mq ++ (X ++ (Bq ++ L)))) ?_ jl
     refine yo rfl ?_
     exact ⟨[.slice y s'.length k, .slice yg g.length kg, .bool false, .bool false, .int .u8 0, .slice none 0 0, .slice none 0 0, .int .u32 0, .slice none 0 0, .slice none 0 0], Mq, Bq, hp', ⟨y, k, yg, kg, none, 0, none, 0, none, 0, none, 0, rfl, hR'.irow (by simp +contextual), hg.mono (by simp +contextual), ⟨_, _, rfl, sliceR.nil, sliceR.nil, Int.le_refl 0, show (0 : Int) ≤ 255 by decide⟩, jC, jC⟩, rfl⟩
   · have e : Aq.lookL (n + 1) { a with p := p } (dd s' g) = if (Hg.more p a.now).2.2 then Aq.lookL n { a with p := (Hg.more p a.now).1 } (dd (s' ++ [(Hg.more p a.now).2.1]) g) else ({ a with p := (Hg.more p a.now).1, over := true }, { dd s' g with over := true }) := by rw [Aq.lookL, if_neg hw]; rfl
     rw [hh] at hw
     rw [e]
     have hlt : ¬ a.want ≤ Hg.opens p + uW a.pol (Vd.votesB a.l) := hw
     have hK3 : ∀ z ∈ [(ap, Obj.cells (jh a bp bb) 102 (0, 0))], z ∈ Mq ++ ((ap, Obj.cells (jh a bp bb) 102 (0, 0)) :: (bd, Obj.cells (kl (.slice y s'.length k) (.slice yg g.length kg)) 43 (0, 0)) :: (X ++ (Bq ++ L))) := fun z hz => by rw [List.mem_singleton.1 hz]; simp
     refine goB ?_
     refine jw jc ([(ap, Obj.cells (jh a bp bb) 102 (0, 0))]) [] ?_
     refine tkQ 0 ?_
     refine tkQ 1 ?_
     refine tkQ 2 ?_
     refine tkQ 3 ?_
     refine tkQ 4 ?_
     refine tkQ 5 ?_
     refine tkQ 6 ?_
     refine tkQ 7 ?_
     refine jO 8 jg rfl rfl rfl rfl (jb jg rfl (abw hp' a.now)) ?_; rintro _ _ ⟨rfl, M3, hp3, rfl⟩; refine ⟨Or.inr (fun z hz => by rw [List.mem_singleton.1 hz]; simp), ?_⟩
     refine tkQ 9 ?_
     refine tkQ 10 ?_
     refine tkQ 11 ?_
     refine tkQ 12 ?_
     refine tkQ 13 ?_
     refine tdQ ?_
     obtain ⟨r, hr⟩ : ∃ r, r = Hg.more p a.now := ⟨_, rfl⟩
     have hA2 : AWell { a with p := r.1 } := by rw [hr]; exact hA'.more
     have hlf : r.2.2 = true → ul r.1 < ul p := by rw [hr]; exact YZ
     rw [← hr] at hp3 ⊢
     cases hm : r.2.2 with
     | false =>
       rw [if_neg (by simp)]
       refine jH (L' := (ap, Obj.cells (jh a bp bb) 102 (0, 0)) :: (bd, Obj.cells (kl (.slice y s'.length k) (.slice yg g.length kg)) 43 (0, 0)) :: (M3 ++ (X ++ (Bq ++ L)))) ?_ jl
       refine goB ?_
       refine yo rfl ?_
       exact ⟨[.slice y s'.length k, .slice yg g.length kg, .bool true, .bool false, .int .u8 0, .slice none 0 0, .slice none 0 0, .int .u32 0, .slice none 0 0, .slice none 0 0], M3, Bq, hp3, ⟨y, k, yg, kg, none, 0, none, 0, none, 0, none, 0, rfl, hR'.irow (by simp +contextual), hg.mono (by simp +contextual), ⟨_, _, rfl, sliceR.nil, sliceR.nil, Int.le_refl 0, show (0 : Int) ≤ 255 by decide⟩, jC, jC⟩, rfl⟩
     | true =>
       rw [if_pos rfl]
       have hlf2 := hlf hm
       repeat (first | refine goB ?_ | (refine uf ?_; intro bLit))
       refine kU (L' := (bLit, Obj.cells #[.int .i64 r.2.1] 3 (0, 0)) :: (M3 ++ ((ap, Obj.cells (jh a bp bb) 102 (0, 0)) :: (bd, Obj.cells (kl (.slice y s'.length k) (.slice yg g.length kg)) 43 (0, 0)) :: (X ++ (Bq ++ L))))) (fun w h => h) ?_
       refine jy (L' := (bLit, Obj.cells #[.int .i64 r.2.1] 3 (0, 0)) :: (Bq ++ ((bd, Obj.cells (kl (.slice y s'.length k) (.slice yg g.length kg)) 43 (0, 0)) :: (ap, Obj.cells (jh a bp bb) 102 (0, 0)) :: (M3 ++ (X ++ L))))) ?_ jl
       refine uc etO rfl rfl hR' rfl (by unfold maxLen; omega) jf rfl ?_
       intro v4 B4 hR4
       obtain ⟨a4, c4, rfl⟩ := hR4.slice
       have k4 : s'.length + 1 = (s' ++ [r.2.1]).length := by simp
       have k5 : qf s' ++ [Value.int .i64 r.2.1] = qf (s' ++ [r.2.1]) := by simp [qf]
       rw [k4, k5] at hR4
       rw [k4]
       refine jy (L' := (bd, Obj.cells (kl (.slice y s'.length k) (.slice yg g.length kg)) 43 (0, 0)) :: (ap, Obj.cells (jh a bp bb) 102 (0, 0)) :: (M3 ++ (X ++ (B4 ++ L)))) ?_ jl
       refine goB ?_
       obtain ⟨n2, rfl⟩ : ∃ n2, n = n2 + 1 := ⟨n - 1, by omega⟩
       refine jk (r.1, s' ++ [r.2.1], a4, c4, M3, B4) ⟨hp3, hA2, ?_, hR4, n2, ?_, rfl⟩ ?_ (fun w h => Heap.cnt (show Heap G w ((bd, Obj.cells (kl (.slice a4 (s' ++ [r.2.1]).length c4) (.slice yg g.length kg)) 43 (0, 0)) :: (ap, Obj.cells (jh a bp bb) 102 (0, 0)) :: (M3 ++ (X ++ (B4 ++ L)))) from h) jl) hlf2
       · dsimp only
         rw [List.length_append, List.length_singleton]
         omega
       · dsimp only; omega
       exact jv
end Go.Proofs.YtbjkkoacclfejaaGreat
