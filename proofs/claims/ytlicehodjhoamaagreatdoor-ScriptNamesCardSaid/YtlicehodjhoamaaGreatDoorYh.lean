/-
  THE TYPES lie as their rows say.
-/
import Derived.Test.YtlicehodjhoamaaGreatDoorRows
import Derived.JoinedOf
import Derived.OpenShut
import Derived.KernelRfl
namespace Go.Proofs.YtlicehodjhoamaaGreatDoor
open Go
set_option linter.unusedVariables false
set_option linter.unusedSimpArgs false
set_option maxRecDepth 100000
theorem chunkF {p : Nat → Bool} {a n : Nat} (h : (List.range' a n).all p = true) : ∀ u, a ≤ u → u < a + n → p u = true := fun u h1 h2 => List.all_eq_true.1 h u (List.mem_range'_1.2 ⟨h1, h2⟩)
theorem lo_0 : (List.range' 0 100).all (rowFine Tryz.pinned.checked.prog) = true := by kernel_rfl
theorem lo_1 : (List.range' 100 100).all (rowFine Tryz.pinned.checked.prog) = true := by kernel_rfl
theorem lo_2 : (List.range' 200 100).all (rowFine Tryz.pinned.checked.prog) = true := by kernel_rfl
theorem lo_3 : (List.range' 300 100).all (rowFine Tryz.pinned.checked.prog) = true := by kernel_rfl
theorem lo_4 : (List.range' 400 100).all (rowFine Tryz.pinned.checked.prog) = true := by kernel_rfl
theorem lo_5 : (List.range' 500 100).all (rowFine Tryz.pinned.checked.prog) = true := by kernel_rfl
theorem lo_6 : (List.range' 600 100).all (rowFine Tryz.pinned.checked.prog) = true := by kernel_rfl
theorem lo_7 : (List.range' 700 100).all (rowFine Tryz.pinned.checked.prog) = true := by kernel_rfl
theorem lo_8 : (List.range' 800 51).all (rowFine Tryz.pinned.checked.prog) = true := by kernel_rfl
theorem lo_size : Tryz.pinned.checked.prog.types.size = 851 := by kernel_rfl
theorem lo_all : ∀ u : Nat, u < 851 → rowFine Tryz.pinned.checked.prog u = true := fun u hu => by
  by_cases h0 : u < 100
  · exact chunkF lo_0 u (by omega) (by omega)
  by_cases h1 : u < 200
  · exact chunkF lo_1 u (by omega) (by omega)
  by_cases h2 : u < 300
  · exact chunkF lo_2 u (by omega) (by omega)
  by_cases h3 : u < 400
  · exact chunkF lo_3 u (by omega) (by omega)
  by_cases h4 : u < 500
  · exact chunkF lo_4 u (by omega) (by omega)
  by_cases h5 : u < 600
  · exact chunkF lo_5 u (by omega) (by omega)
  by_cases h6 : u < 700
  · exact chunkF lo_6 u (by omega) (by omega)
  by_cases h7 : u < 800
  · exact chunkF lo_7 u (by omega) (by omega)
  by_cases h8 : u < 851
  · exact chunkF lo_8 u (by omega) (by omega)
  omega
theorem lo_globals : Tryz.pinned.checked.prog.globals.all (fun g => decide (g.type < Tryz.pinned.checked.prog.types.size)) = true := by kernel_rfl
theorem lo_funcs : Tryz.pinned.checked.prog.funcs.all (fun f => f.params.all fun t => decide (t < Tryz.pinned.checked.prog.types.size)) = true := by kernel_rfl
theorem jf_lo : laidOutB Tryz.pinned.checked.prog = true := by
  unfold laidOutB
  rw [lo_globals, lo_funcs, Bool.and_true, Bool.and_true]
  refine List.all_eq_true.2 fun u hu => lo_all u ?_
  rw [← lo_size]
  exact List.mem_range.1 hu
end Go.Proofs.YtlicehodjhoamaaGreatDoor
