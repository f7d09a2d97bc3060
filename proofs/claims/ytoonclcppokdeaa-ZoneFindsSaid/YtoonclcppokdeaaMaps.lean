/-
  A MAP AS A FUNCTION from keys to values: what a look-up and a store do.
-/
import Derived.Test.YtoonclcppokdeaaBase
import Derived.Maps.Own
import Derived.Maps.OwnSet
namespace Go.Proofs.Ytoonclcppokdeaa
open Go.RowKit Go.Maps Go.ChangeMaps Go.MapKept

/-- Each value reads as itself. -/
def heldV (v : Value) : Option (DataW Value × List MemPlace) := some (.held v, [])

/-- BLOCK b OF w IS A MAP OF AT MOST n ENTRIES, AND f TELLS WHAT IT HOLDS. -/
def MapIs (P : Program) (k : TypeId) (w : World) (b n : Nat) (f : Lit → Option Value) : Prop :=
  ∃ D, w.ownsMap P k heldV b n D ∧ ∀ kl z, D.atKey kl z = match f kl with | some v => .held v | none => z

variable {P : Program} {k e t : TypeId} {w : World} {b n : Nat} {f : Lit → Option Value}

theorem MapIs.mono (h : MapIs P k w b n f) {n' : Nat} (hn : n ≤ n') : MapIs P k w b n' f := by
  obtain ⟨D, h, h2⟩ := h
  exact ⟨D, h.mono hn, h2⟩
theorem MapIs.isMap (h : MapIs P k w b n f) : ∃ es c, w.heap[b]? = some (.map es c) := by
  obtain ⟨D, ⟨es, clock, hb, _⟩, _⟩ := h
  exact ⟨es, clock, hb⟩

theorem MapIs.made (w : World) (P : Program) (k : TypeId) : MapIs P k (w.alloc (.map #[] 0)) w.heap.size 0 (fun _ => none) :=
  ⟨_, World.ownsMap_made w P k heldV, fun _ _ => rfl⟩

theorem MapIs.lt (h : MapIs P k w b n f) : b < w.heap.size := by
  obtain ⟨D, h, _⟩ := h
  exact h.lt

theorem MapIs.of_block {w' : World} (h : MapIs P k w b n f) (hb : w'.heap[b]? = w.heap[b]?) : MapIs P k w' b n f := by
  obtain ⟨D, ⟨es, clock, h1, h2⟩, h3⟩ := h
  exact ⟨D, ⟨es, clock, hb.trans h1, h2⟩, h3⟩

theorem MapIs.below {w' : World} {B : Nat} (h : MapIs P k w b n f) (hb : Below B w w') (hB : b < B) : MapIs P k w' b n f :=
  h.of_block (hb.block b hB)
theorem MapIs.alloc (h : MapIs P k w b n f) (o : Obj) : MapIs P k (w.alloc o) b n f :=
  h.of_block (Below.heap_alloc w o b h.lt)
theorem MapIs.drew (h : MapIs P k w b n f) : MapIs P k w.drew b n f := h
theorem MapIs.drewN (h : MapIs P k w b n f) (q : Nat) : MapIs P k (w.drewN q) b n f := h.of_block (by simp [World.drewN])
theorem MapIs.setCell (h : MapIs P k w b n f) {a : Addr} (ha : b ≠ a.block) (u : Value) : MapIs P k (w.setCell a u) b n f :=
  h.of_block (Below.heap_setCell w a u b ha)
theorem MapIs.grown {w' : World} {b' : Nat} (h : MapIs P k w b n f) (hg : w.grownBy w' (some b')) (hne : b ≠ b') : MapIs P k w' b n f :=
  h.of_block (hg.block b h.lt (by simpa using hne))

theorem MapIs.look (c : Bool) (h : MapIs P k w b n f) (K : Keyed P k) (ht : P.underlying t = some (.map k e)) {z : Value} (hz : (zeroValue e).run P w = .ok z w)
    {key : Value} {kl : Lit} (hkey : keyOf P k key = some kl) :
    (Instr.lookup t (.map (some b)) key c).run P w = .ok (if c then .tuple #[(f kl).getD z, .bool (f kl).isSome] else (f kl).getD z) w := by
  obtain ⟨D, ⟨es, clock, hb, F, _, rfl⟩, hD⟩ := h
  rcases Maps.fit_look c K ht hz hb F hkey with ⟨hrun, _, hat⟩ | ⟨e0, y, _, _, hrun, hRv, hat, _⟩
  · have hf : f kl = none := by
      cases hf : f kl with
      | none => rfl
      | some v =>
        exfalso
        have h1 := (hD kl .nil).symm.trans (hat .nil)
        rw [hf] at h1
        cases h1
    rw [hrun, hf]
    rfl
  · have hy : y.1 = .held e0.val := by
      unfold heldV at hRv
      cases hRv
      rfl
    have hf : f kl = some e0.val := by
      cases hf : f kl with
      | none =>
        exfalso
        have h1 := (hD kl .nil).symm.trans (hat .nil)
        rw [hf, hy] at h1
        cases h1
      | some v =>
        have h1 := (hD kl .nil).symm.trans (hat .nil)
        rw [hf, hy] at h1
        cases h1
        rfl
    rw [hrun, hf]
    rfl


open Classical in
noncomputable def put (f : Lit → Option Value) (kl : Lit) (v : Value) : Lit → Option Value := fun x => if x = kl then some v else f x

theorem MapIs.store (h : MapIs P k w b n f) (K : Keyed P k) (ht : P.underlying t = some (.map k e)) (hn : n < maxLen) {key val : Value} {kl : Lit}
    (hkey : keyOf P k key = some kl) :
    ∃ w', (Instr.mapUpdate t (.map (some b)) key val).run P w = .ok () w' ∧ MapIs P k w' b (n + 1) (put f kl val) ∧ w.grownBy w' (some b) := by
  obtain ⟨D, ho, hD⟩ := h
  have hM := ho.isMap
  obtain ⟨w', hrun, ho', hg⟩ := ho.update K ht hn (val := val) hkey (d := .held val) (ps := []) rfl
  refine ⟨w', hrun, ⟨_, ho', fun x z => ?_⟩, hg⟩
  unfold put
  by_cases hx : x = kl
  · subst hx
    rw [Maps.atKey_put_same hM (K.key hkey), if_pos rfl]
  · rw [Maps.atKey_put_other hx, if_neg hx, hD x z]

/-- 'm[k] = v' at the operation. -/
theorem wpList_store {ops : Array Oper} {rest : List Oper} {o : Oper} {a : Act} {Q : Exit → Act → World → Prop}
    (hg : o.guard = none) (m x v : Operand) (t : TypeId) (hop : o.op = Op.mapUpdate t m x v)
    (k e : TypeId) (K : Keyed P k) (ht : P.underlying t = some (.map k e)) (b n : Nat) (f : Lit → Option Value)
    (hm : a.eval m = .map (some b)) (hown : MapIs P k w b n f) (hn : n < maxLen) (key val : Value) (kl : Lit) (hx : a.eval x = key) (hv : a.eval v = val) (hkey : keyOf P k key = some kl)
    (hK : ∀ w', MapIs P k w' b (n + 1) (put f kl val) → w.grownBy w' (some b) → wpList P ops Q rest (a.put o.dst undef) w') :
    wpList P ops Q (o :: rest) a w := by
  refine wpList_plain hg fun K' hK' => ?_
  obtain ⟨w', hrun, r1, r2⟩ := hown.store (val := val) K ht hn hkey
  unfold Oper.wp
  simp [execOp, hop, hm, hx, hv, hrun, Result.andThen]
  exact hK' _ _ (hK w' r1 r2)

end Go.Proofs.Ytoonclcppokdeaa
