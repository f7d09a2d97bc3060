/-
  A SLICE OF BYTES OPENED.
-/
import Derived.Test.YtoonclcppokdeaaOpS
import Derived.Test.YtoonclcppokdeaaTu
namespace Go.Proofs.Ytoonclcppokdeaa
open Go.ChangeShapes Go.WideShapes Go.ChangeAt Go.RowKit
open Go.ChangeMaps (open_string shut_string)
section
variable {H : Type} {enc : TypeId × Value → H} {W : World} {v : Value} {d : DataW H} {p : List MemPlace} {base : Nat}
theorem trod_u8 {n : Nat} {cs : List Value} {x : DataW H × List MemPlace} {held : Bool} (h : DataW.trod enc Try.prog W 0 (fun _ => true) held n 5 cs = some x) :
    ∃ c : UInt8, cs = [.int .u8 (c.toNat : Int)] := by
  obtain ⟨a, e1, _, wa⟩ := DataW.trod_int Try.underlying5 h
  have hb := bounds_u8 wa
  refine ⟨UInt8.ofNat a.toNat, ?_⟩
  rw [e1, UInt8.toNat_ofNat_of_lt' (by show a.toNat < 256; omega), Int.toNat_of_nonneg hb.1]
theorem cell_block {w : World} {b o : Nat} {u : Value} (h : w.cell? ⟨b, o, none⟩ = some u) : ∃ C te fr, w.heap[b]? = some (Obj.cells C te fr) ∧ C[o]? = some u := by
  unfold World.cell? at h
  split at h
  · next C te fr e => exact ⟨C, te, fr, e, by simpa using h⟩
  · cases h
/-- A slice of bytes. -/
theorem opened_bytes (hv : Value.okWide Try.prog W .any base 40 v) (h : DataW.Trod enc Try.prog W 0 (fun _ => true) true 40 v d p) :
    ∃ l : Nm.Bytes, ByteRow (allBlocks W) v l ∧ l.length ≤ maxLen := by
  obtain ⟨a, len, cap, rfl⟩ := okWide_slice Try.underlying40 hv
  obtain ⟨fuel, hf⟩ := h
  have hc1 : Try.prog.cellsOf 5 = 1 := by kernel_rfl
  rcases Deep.open_slice Try.underlying40 hf with ⟨hcs, _⟩ | ⟨x, l, c, m, n, D, Pl, hcs, _, hl, hm, hmm, _, hall⟩
  · simp [Value.cells] at hcs
    obtain ⟨rfl, rfl, rfl⟩ := hcs
    exact ⟨[], ⟨none, 0, rfl, Or.inl rfl⟩, by simp⟩
  · simp [Value.cells] at hcs
    obtain ⟨rfl, rfl, rfl⟩ := hcs
    simp at hmm
    have hel : ∀ i, i < len → ∃ c : UInt8, W.cell? (x.add (i * 1)) = some (.int .u8 (c.toNat : Int)) := by
      intro i hi
      obtain ⟨cs, h1, h2⟩ := hall i (by omega)
      obtain ⟨z, rfl⟩ := trod_u8 h2
      obtain ⟨_, _, hat⟩ := World.cells?_some h1
      refine ⟨z, ?_⟩
      have := hat 0 (by rw [hc1]; exact Nat.one_pos)
      rw [hc1, Deep.add_add, Nat.add_zero] at this
      rw [this]; rfl
    obtain ⟨f, hf2⟩ := Deep.choose_lt hel
    have hlen : ((List.range len).map f).length = len := by simp
    refine ⟨(List.range len).map f, ⟨some x, cap, by rw [hlen], ?_⟩, by rw [hlen]; omega⟩
    by_cases h0 : len = 0
    · left; subst h0; rfl
    · right
      have hc0 := hf2 0 (by omega)
      obtain ⟨b, off, spot⟩ := x
      have hspot : spot = none := by simpa [Addr.add] using World.cell?_spot hc0
      subst hspot
      rw [add_mk] at hc0
      obtain ⟨C, te, fr, hb, _⟩ := cell_block hc0
      refine ⟨b, off, C, te, fr, rfl, mem_all hb, fun i z hi => ?_⟩
      rw [List.getElem?_map, Option.map_eq_some_iff] at hi
      obtain ⟨k, hk, rfl⟩ := hi
      obtain ⟨hkl, hkk⟩ := List.getElem?_eq_some_iff.1 hk
      simp at hkl hkk
      subst hkk
      have g := hf2 i hkl
      rw [add_mk] at g
      obtain ⟨C', te', fr', hb', hg⟩ := cell_block g
      rw [hb] at hb'
      cases hb'
      exact hg
end
end Go.Proofs.Ytoonclcppokdeaa
