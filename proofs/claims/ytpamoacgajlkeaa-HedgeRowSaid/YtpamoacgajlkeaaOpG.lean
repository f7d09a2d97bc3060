/-
  ARGUMENTS OPENED, by parts: numbers, booleans, strings, rows, structs. No program in sight.
-/
import Derived.Test.YtpamoacgajlkeaaSt
import Derived.ProofKit
import Derived.OpenShut
import Derived.ShutString
import Derived.ChangeOld
import Derived.Deep.Slices
import Derived.Deep.Strs
namespace Go.Proofs.Ytpamoacgajlkeaa
open Go.ChangeShapes Go.WideShapes Go.ChangeAt Go.RowKit
set_option linter.unusedVariables false
/-- How a thing lies in cells. -/
abbrev Rp (α : Type) := Blocks → List Value → α → Prop
def Mono {α : Type} (r : Rp α) : Prop := ∀ L L' cs a, (∀ p ∈ L, p ∈ L') → r L cs a → r L' cs a
def InLit (k : IntKind) (n : Int) : Prop := (Lit.int k n).wf = true
def intR (k : IntKind) : Rp Int := fun _ cs n => cs = [.int k n] ∧ InLit k n
def boolR : Rp Bool := fun _ cs b => cs = [.bool b]
def strR : Rp (List UInt8) := fun _ cs s => cs = [.string (bs s)] ∧ s.length ≤ maxLen
def sliceR {α : Type} (sz : Nat) (r : Rp α) : Rp (List α) := fun L cs l => ∃ a cap, cs = [.slice a l.length cap] ∧ l.length ≤ cap ∧ cap ≤ maxLen ∧ (l = [] ∨ ∃ b off C te fr, a = some ⟨b, off, none⟩ ∧ (b, Obj.cells C te fr) ∈ L ∧
  ∀ i x, l[i]? = some x → ∃ cs', cs'.length = sz ∧ r L cs' x ∧ ∀ j v, cs'[j]? = some v → C[off + i * sz + j]? = some v)
theorem mono_int (k : IntKind) : Mono (intR k) := fun _ _ _ _ _ h => h
theorem mono_bool : Mono boolR := fun _ _ _ _ _ h => h
theorem mono_str : Mono strR := fun _ _ _ _ _ h => h
theorem mono_slice {α : Type} {sz : Nat} {r : Rp α} (h : Mono r) : Mono (sliceR sz r) := by
  rintro L L' cs l hL ⟨a, cap, h1, h2, h3, h4⟩
  refine ⟨a, cap, h1, h2, h3, h4.imp id ?_⟩
  rintro ⟨b, off, C, te, fr, q1, q2, q3⟩
  refine ⟨b, off, C, te, fr, q1, hL _ q2, fun i x hx => ?_⟩
  obtain ⟨cs', k1, k2, k3⟩ := q3 i x hx
  exact ⟨cs', k1, h L L' cs' x hL k2, k3⟩
section
variable {H : Type} {enc : TypeId × Value → H} {P : Program} {W : World}
/-- What is handed in lies so. -/
def Opens {α : Type} (enc : TypeId × Value → H) (P : Program) (W : World) (t : TypeId) (n : Nat) (r : Rp α) : Prop := ∀ fuel cs x, DataW.trod enc P W 0 (fun _ => true) true fuel t cs = some x → cs.length = n ∧ ∃ a, r (allBlocks W) cs a
theorem opens_int {t : TypeId} {k : IntKind} (hu : P.underlying t = some (.int k)) : Opens enc P W t 1 (intR k) := fun fuel cs x h => by
  obtain ⟨a, e, _, wa⟩ := DataW.trod_int hu h
  subst e
  exact ⟨rfl, a, rfl, wa⟩
theorem opens_string {t : TypeId} (hu : P.underlying t = some .string) : Opens enc P W t 1 strR := fun fuel cs x h => by
  obtain ⟨s, e, _, hs⟩ := DataW.trod_string hu h
  subst e
  exact ⟨rfl, s.data.toList, rfl, by simpa using hs⟩
theorem opens_bool {t : TypeId} (hu : P.underlying t = some .bool) : Opens enc P W t 1 boolR := fun fuel cs x h => by
  cases fuel with
  | zero => simp [DataW.trod] at h
  | succ f =>
    unfold DataW.trod at h
    rw [hu] at h
    split at h <;> first | (rename_i b _; exact ⟨rfl, b, rfl⟩) | simp_all
theorem block_of_cell {a : Addr} {v : Value} (h : W.cell? a = some v) : a.spot = none → ∃ C te fr, W.heap[a.block]? = some (.cells C te fr) := by
  intro _
  unfold World.cell? at h
  split at h
  · exact ⟨_, _, _, by assumption⟩
  all_goals simp at h
theorem opens_slice {α : Type} [Inhabited α] {t e : TypeId} {sz : Nat} {r : Rp α} (hu : P.underlying t = some (.slice e)) (hc : P.cellsOf e = sz) (hp : 0 < sz) (h : Opens enc P W e sz r) : Opens enc P W t 1 (sliceR sz r) := fun fuel cs x hf => by
  rcases Deep.open_slice hu hf with ⟨hcs, _⟩ | ⟨x, len, cap, m, n, D, Pl, hcs, _, hl, hm, hmm, _, hall⟩
  · subst hcs
    exact ⟨rfl, [], none, 0, rfl, by simp, by simp, Or.inl rfl⟩
  · subst hcs
    refine ⟨rfl, ?_⟩
    simp at hmm
    have hel : ∀ i, i < len → ∃ a : α, ∃ cs', cs'.length = sz ∧ r (allBlocks W) cs' a ∧ ∀ j u, cs'[j]? = some u → W.cell? (x.add (i * sz + j)) = some u := by
      intro i hi
      obtain ⟨cs', h1, h2⟩ := hall i (by omega)
      obtain ⟨k1, a, k2⟩ := h _ _ _ h2
      obtain ⟨_, _, hat⟩ := World.cells?_some h1
      refine ⟨a, cs', k1, k2, fun j u hj => ?_⟩
      have hj3 := (List.getElem?_eq_some_iff.1 hj).1
      rw [← Deep.add_add, ← hc, hat j (by rw [hc, ← k1]; exact hj3), hj]
    obtain ⟨f, hf2⟩ := Deep.choose_lt hel
    have hlen : ((List.range len).map f).length = len := by simp
    refine ⟨(List.range len).map f, some x, cap, by rw [hlen], by rw [hlen]; exact hl, hm, ?_⟩
    by_cases h0 : len = 0
    · left; subst h0; rfl
    · right
      obtain ⟨cs0, g1, _, g2⟩ := hf2 0 (by omega)
      obtain ⟨v0, hv0⟩ : ∃ v0, cs0[0]? = some v0 := ⟨_, List.getElem?_eq_getElem (by omega)⟩
      have hc0 := g2 0 _ hv0
      obtain ⟨b, off, spot⟩ := x
      have hspot : spot = none := by simpa [Addr.add] using World.cell?_spot hc0
      subst hspot
      rw [addr_add] at hc0
      obtain ⟨C, te, fr, hb⟩ := block_of_cell hc0 rfl
      refine ⟨b, off, C, te, fr, rfl, mem_all hb, fun i a hi => ?_⟩
      rw [List.getElem?_map, Option.map_eq_some_iff] at hi
      obtain ⟨k, hk, rfl⟩ := hi
      obtain ⟨hkl, hkk⟩ := List.getElem?_eq_some_iff.1 hk
      simp at hkl hkk
      subst hkk
      obtain ⟨cs', g1, g2, g3⟩ := hf2 i hkl
      refine ⟨cs', g1, g2, fun j v hj => ?_⟩
      have := g3 j v hj
      rw [addr_add] at this
      unfold World.cell? at this
      dsimp only at this
      rw [show W.heap[b]? = some (.cells C te fr) from hb] at this
      rw [Nat.add_assoc]
      simpa using this
/-- A struct's fields. -/
theorem opens_fields {t : TypeId} {fs : Array Field} {fuel : Nat} {cs : List Value} {x : DataW H × List MemPlace} (hu : P.underlying t = some (.struct fs)) (h : DataW.trod enc P W 0 (fun _ => true) true fuel t cs = some x) :
    cs.length = P.cellsOf t ∧ ∀ (i : Nat) (f : Field), fs[i]? = some f → ∃ n y, DataW.trod enc P W 0 (fun _ => true) true n f.type ((cs.drop f.offset).take (P.cellsOf f.type)) = some y := by
  obtain ⟨xs, n, _, rfl, hl, hlen, hf⟩ := DataW.trod_struct hu h
  refine ⟨hl, fun i f hi => ?_⟩
  have hi' : i < xs.length := by rw [hlen]; have := (Array.getElem?_eq_some_iff.1 hi).1; simpa using this
  exact ⟨n, xs[i], by rw [hf i f hi]; exact List.getElem?_eq_getElem hi'⟩
theorem Opens.at {α : Type} {r : Rp α} {t : TypeId} {n : Nat} (h : Opens enc P W t n r) {fuel : Nat} {cs : List Value} {x : DataW H × List MemPlace} (hx : DataW.trod enc P W 0 (fun _ => true) true fuel t cs = some x) : ∃ a, r (allBlocks W) cs a := (h fuel cs x hx).2
end
end Go.Proofs.Ytpamoacgajlkeaa
