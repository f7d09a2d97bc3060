/-
  ARGUMENTS OPENED: what the walk of a law is told of each of them.
-/
import Derived.Test.YtoonclcppokdeaaWLong
import Derived.Test.YtoonclcppokdeaaOpS
import Derived.ProofKit
import Derived.OpenShut
import Derived.ShutString
import Derived.ChangeOld
import Derived.SliceStrings
import Derived.Deep.Slices
import Derived.Deep.Strs
import Derived.Lib.SmallJoins
namespace Go.Proofs.Ytoonclcppokdeaa
open Go.ChangeShapes Go.WideShapes Go.ChangeAt Go.RowKit
open Go.ChangeMaps (open_string shut_string)

section
variable {H : Type} {enc : TypeId × Value → H} {W : World} {v : Value} {d : DataW H} {p : List MemPlace} {base : Nat}

/-- A zone's numbers are of their kinds. -/
def Zn.FitsW (z : Zn) : Prop := (0 ≤ z.pol ∧ z.pol ≤ 255) ∧ (0 ≤ z.tru ∧ z.tru ≤ 65535) ∧ z.name.length ≤ maxLen
theorem Zn.FitsW.fits {z : Zn} (h : z.FitsW) (hl : z.name.length < 10000) : z.Fits := ⟨h.1, h.2.1, by omega⟩

instance : Inhabited Zn := ⟨⟨[], 0, 0⟩⟩

theorem trod_zone {n : Nat} {cs : List Value} {x : DataW H × List MemPlace} {held : Bool} (h : DataW.trod enc Try.prog W 0 (fun _ => true) held n 35 cs = some x) :
    ∃ z : Zn, z.FitsW ∧ cs = [strV z.name, .int .u8 z.pol, .int .u16 z.tru] := by
  obtain ⟨y0, y1, y2, m, _, hlen, h0, h1, h2⟩ := Deep.trod_struct3 Try.underlying35 h
  obtain ⟨s, e0, _, hs⟩ := DataW.trod_string Try.underlying9 h0
  obtain ⟨a, e1, _, wa⟩ := DataW.trod_int Try.underlying5 h1
  obtain ⟨b, e2, _, wb⟩ := DataW.trod_int Try.underlying33 h2
  have hc : Try.prog.cellsOf 35 = 3 := by kernel_rfl
  have c0 : Try.prog.cellsOf 9 = 1 := by kernel_rfl
  have c1 : Try.prog.cellsOf 5 = 1 := by kernel_rfl
  have c2 : Try.prog.cellsOf 33 = 1 := by kernel_rfl
  rw [hc] at hlen
  refine ⟨⟨s.data.toList, a, b⟩, ⟨bounds_u8 wa, bounds_u16 wb, by simpa using hs⟩, ?_⟩
  match cs, hlen with
  | [x0, x1, x2], _ =>
    simp [c0, c1, c2] at e0 e1 e2
    subst e0 e1 e2
    rfl

/-- A slice of zones. -/
theorem opened_zones (hv : Value.okWide Try.prog W .any base 22 v) (h : DataW.Trod enc Try.prog W 0 (fun _ => true) true 22 v d p) :
    ∃ zs, ZRow W v zs ∧ zs.length ≤ maxLen ∧ ∀ z ∈ zs, z.FitsW := by
  obtain ⟨a, len, cap, rfl⟩ := okWide_slice Try.underlying22 hv
  obtain ⟨fuel, hf⟩ := h
  have hc3 : Try.prog.cellsOf 35 = 3 := by kernel_rfl
  rcases Deep.open_slice Try.underlying22 hf with ⟨hcs, _⟩ | ⟨x, l, c, m, n, D, Pl, hcs, _, hl, hm, hmm, _, hall⟩
  · simp [Value.cells] at hcs
    obtain ⟨rfl, rfl, rfl⟩ := hcs
    exact ⟨[], ⟨none, 0, rfl, Or.inl rfl⟩, by simp, by simp⟩
  · simp [Value.cells] at hcs
    obtain ⟨rfl, rfl, rfl⟩ := hcs
    simp at hmm
    have hel : ∀ i, i < len → ∃ z : Zn, z.FitsW ∧ ∀ j u, [strV z.name, .int .u8 z.pol, .int .u16 z.tru][j]? = some u → W.cell? (x.add (i * 3 + j)) = some u := by
      intro i hi
      obtain ⟨cs, h1, h2⟩ := hall i (by omega)
      obtain ⟨z, hz, rfl⟩ := trod_zone h2
      obtain ⟨_, _, hat⟩ := World.cells?_some h1
      refine ⟨z, hz, fun j u hj => ?_⟩
      have hj3 : j < 3 := by
        have := (List.getElem?_eq_some_iff.1 hj).1
        simpa using this
      rw [← Deep.add_add, ← hc3, hat j (by rw [hc3]; exact hj3), hj]
    obtain ⟨f, hf2⟩ := Deep.choose_lt hel
    have hlen : ((List.range len).map f).length = len := by simp
    refine ⟨(List.range len).map f, ⟨some x, cap, by rw [hlen], ?_⟩, by rw [hlen]; omega, ?_⟩
    · by_cases h0 : len = 0
      · left; subst h0; rfl
      · right
        have hc0 := (hf2 0 (by omega)).2 0 _ rfl
        obtain ⟨b, off, spot⟩ := x
        have hspot : spot = none := by simpa [Addr.add] using World.cell?_spot hc0
        subst hspot
        rw [add_mk] at hc0
        refine ⟨b, off, rfl, World.block_lt_of_cell? W _ hc0, fun i z hi => ?_⟩
        rw [List.getElem?_map, Option.map_eq_some_iff] at hi
        obtain ⟨k, hk, rfl⟩ := hi
        obtain ⟨hkl, hkk⟩ := List.getElem?_eq_some_iff.1 hk
        simp at hkl hkk
        subst hkk
        have g := (hf2 i hkl).2
        have g0 := g 0 _ rfl
        have g1 := g 1 _ rfl
        have g2 := g 2 _ rfl
        rw [add_mk] at g0 g1 g2
        exact ⟨g0, g1, g2⟩
    · intro z hz
      obtain ⟨k, hk, rfl⟩ := List.mem_map.1 hz
      exact (hf2 k (by simpa using hk)).1

/-- A zone by value. -/
theorem opened_zone (hv : Value.okWide Try.prog W .any base 35 v) (h : DataW.Trod enc Try.prog W 0 (fun _ => true) true 35 v d p) :
    ∃ z : Zn, v = z.val ∧ z.FitsW := by
  obtain ⟨cs, rfl, hsz⟩ := okWide_struct Try.underlying35 hv
  obtain ⟨fuel, hf⟩ := h
  obtain ⟨z, hz, hcs⟩ := trod_zone hf
  refine ⟨z, ?_, hz⟩
  obtain ⟨l⟩ := cs
  simp [Value.cells] at hcs
  unfold Zn.val
  rw [hcs]
end
end Go.Proofs.Ytoonclcppokdeaa
