/-
  SLICES OF STRINGS in memory.
-/
import Derived.Test.YtoonclcppokdeaaBase
namespace Go.Proofs.Ytoonclcppokdeaa
open Go.RowKit

/-- A slice of strings in memory. -/
def SRow (w : World) (v : Value) (ns : List Nm.Bytes) : Prop :=
  ∃ a cap, v = .slice a ns.length cap ∧ (ns = [] ∨ ∃ b off, a = some ⟨b, off, none⟩ ∧ b < w.heap.size ∧ ∀ i n, ns[i]? = some n → w.cell? ⟨b, off + i, none⟩ = some (strV n))

theorem SRow.below {w w' : World} {v : Value} {ns : List Nm.Bytes} (h : SRow w v ns) {B : Nat} (hb : Below B w w') (hB : w.heap.size ≤ B) : SRow w' v ns := by
  obtain ⟨a, cap, hv, h⟩ := h
  refine ⟨a, cap, hv, h.imp id ?_⟩
  rintro ⟨b, off, ha, hlt, hc⟩
  refine ⟨b, off, ha, Nat.lt_of_lt_of_le hlt hb.size, fun i n hi => ?_⟩
  rw [hb.cell (Nat.lt_of_lt_of_le hlt hB)]
  exact hc i n hi


theorem SRow.own {w : World} {base : Nat} {v : Value} {ns : List Nm.Bytes} {e : TypeId} (h : w.ownsRow base e 1 v ns.length (ns.map strV)) : SRow w v ns := by
  obtain ⟨_, ⟨rfl, h0⟩ | ⟨g, cap, cur, rfl, _, hg, _, _, _, htk⟩⟩ := h
  · have : ns = [] := List.eq_nil_of_length_eq_zero h0
    subst this
    exact ⟨none, 0, rfl, Or.inl rfl⟩
  · refine ⟨_, cap, rfl, Or.inr ⟨g, 0, rfl, (Array.getElem?_eq_some_iff.1 hg).1, fun i n hi => ?_⟩⟩
    have hil : i < ns.length := (List.getElem?_eq_some_iff.1 hi).1
    unfold World.cell?
    rw [hg]
    have : (cur.toList.take (ns.length * 1))[i]? = some (strV n) := by rw [htk, List.getElem?_map, hi]; rfl
    rw [List.getElem?_take_of_lt (by omega)] at this
    simpa using this

end Go.Proofs.Ytoonclcppokdeaa
