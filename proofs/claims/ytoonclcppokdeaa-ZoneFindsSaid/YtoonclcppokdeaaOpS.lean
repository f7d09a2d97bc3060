/-
  ARGUMENTS OPENED: strings, ints, slices of strings, bytes.
-/
import Derived.Test.YtoonclcppokdeaaSRow
import Derived.Test.YtoonclcppokdeaaTy
import Derived.ProofKit
import Derived.OpenShut
import Derived.ShutString
import Derived.ChangeOld
import Derived.SliceStrings
import Derived.Deep.Slices
import Derived.Deep.Strs
import Derived.Lib.SmallJoins
namespace Go.Proofs.Ytoonclcppokdeaa
open Go.ChangeShapes Go.WideShapes Go.ChangeAt Go.RowKit
open Go.ChangeMaps (open_string shut_string)

section
variable {H : Type} {enc : TypeId × Value → H} {W : World} {v : Value} {d : DataW H} {p : List MemPlace} {base : Nat}

theorem own : ownKnob Try.prog.godebug = none := by kernel_rfl
theorem laidOut : laidOutB Try.prog = true := by kernel_rfl

/-- A string. -/
def StrArg (v : Value) (s : Nm.Bytes) : Prop := v = .string ⟨s.toArray⟩ ∧ s.length ≤ maxLen
theorem opened_string (hv : Value.okWide Try.prog W .any base 9 v) (h : DataW.Trod enc Try.prog W 0 (fun _ => true) true 9 v d p) : ∃ s, StrArg v s := by
  obtain ⟨s, rfl, _, _, hs⟩ := open_string Try.underlying9 hv h
  exact ⟨s.data.toList, rfl, by simpa using hs⟩

/-- An int. -/
theorem opened_int (hv : Value.okWide Try.prog W .any base 3 v) (h : DataW.Trod enc Try.prog W 0 (fun _ => true) true 3 v d p) : ∃ n : Int, v = .int .i64 n ∧ (Lit.int .i64 n).wf = true := by
  obtain ⟨x, rfl, _, _, wx⟩ := open_int Try.underlying3 hv h
  exact ⟨x, rfl, wx⟩

/-- A slice of strings. -/
theorem opened_strings (hv : Value.okWide Try.prog W .any base 23 v) (h : DataW.Trod enc Try.prog W 0 (fun _ => true) true 23 v d p) :
    ∃ ns, SRow W v ns ∧ ns.length ≤ maxLen ∧ ∀ n ∈ ns, n.length ≤ maxLen := by
  obtain ⟨a, len, cap, rfl⟩ := okWide_slice Try.underlying23 hv
  obtain ⟨fuel, hf⟩ := h
  rcases open_strings Try.underlying23 Try.underlying9 (by kernel_rfl) hf with ⟨hcs, _⟩ | ⟨x, l, c, ss, hcs, _, hl, hm, hz, _, hcell, hws⟩
  · simp [Value.cells] at hcs
    obtain ⟨rfl, rfl, rfl⟩ := hcs
    exact ⟨[], ⟨none, 0, rfl, Or.inl rfl⟩, by simp, by simp⟩
  · simp [Value.cells] at hcs
    obtain ⟨rfl, rfl, rfl⟩ := hcs
    simp at hz
    have hlen : ((ss.take len).map fun s => s.data.toList).length = len := by simp; omega
    refine ⟨(ss.take len).map fun s => s.data.toList, ⟨some x, cap, by rw [hlen], ?_⟩, by rw [hlen]; omega, ?_⟩
    · by_cases h0 : len = 0
      · left; subst h0; simp
      · right
        have hc0 := hcell 0 (by omega)
        obtain ⟨b, off, spot⟩ := x
        have hspot : spot = none := by simpa [Addr.add] using World.cell?_spot hc0
        subst hspot
        rw [add_mk] at hc0
        refine ⟨b, off, rfl, World.block_lt_of_cell? W _ hc0, fun i n hi => ?_⟩
        rw [List.getElem?_map, Option.map_eq_some_iff] at hi
        obtain ⟨s, hs, rfl⟩ := hi
        have hil : i < len := by
          have := (List.getElem?_eq_some_iff.1 hs).1
          simp at this
          omega
        rw [List.getElem?_take_of_lt hil] at hs
        have := hcell i (by omega)
        rw [add_mk] at this
        rw [this, List.getD, hs]
        rfl
    · intro n hn
      obtain ⟨s, hs, rfl⟩ := List.mem_map.1 hn
      have := hws s (List.mem_of_mem_take hs)
      simpa using this

end
end Go.Proofs.Ytoonclcppokdeaa
