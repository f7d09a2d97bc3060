/-
 THE TYPES lie as their rows say.
-/
import Derived.Test.YtkpblofmoalnoaaGreatDoorRows
import Derived.JoinedOf
import Derived.OpenShut
import Derived.KernelRfl
set_option linter.unusedVariables false
set_option linter.unusedSimpArgs false
namespace Go.Proofs.YtkpblofmoalnoaaGreatDoor
open Go
set_option maxRecDepth 100000
theorem J8 {p : Nat → Bool} {a n : Nat} (h : (List.range' a n).all p = true) : ∀ u, a ≤ u → u < a + n → p u = true := fun u h1 h2 => List.all_eq_true.1 h u (List.mem_range'_1.2 ⟨h1, h2⟩)
theorem ala : (List.range' 0 100).all (rowFine Tryz.pinned.checked.prog) = true := by kernel_rfl
theorem alb : (List.range' 100 100).all (rowFine Tryz.pinned.checked.prog) = true := by kernel_rfl
theorem alc : (List.range' 200 100).all (rowFine Tryz.pinned.checked.prog) = true := by kernel_rfl
theorem ald : (List.range' 300 100).all (rowFine Tryz.pinned.checked.prog) = true := by kernel_rfl
theorem ale : (List.range' 400 100).all (rowFine Tryz.pinned.checked.prog) = true := by kernel_rfl
theorem alf : (List.range' 500 100).all (rowFine Tryz.pinned.checked.prog) = true := by kernel_rfl
theorem alg : (List.range' 600 95).all (rowFine Tryz.pinned.checked.prog) = true := by kernel_rfl
theorem aht : Tryz.pinned.checked.prog.types.size = 695 := by kernel_rfl
theorem aiV : ∀ u : Nat, u < 695 → rowFine Tryz.pinned.checked.prog u = true := fun u hu => by
 by_cases h0 : u < 100
 · exact J8 ala u (by omega) (by omega)
 by_cases h1 : u < 200
 · exact J8 alb u (by omega) (by omega)
 by_cases h2 : u < 300
 · exact J8 alc u (by omega) (by omega)
 by_cases h3 : u < 400
 · exact J8 ald u (by omega) (by omega)
 by_cases h4 : u < 500
 · exact J8 ale u (by omega) (by omega)
 by_cases h5 : u < 600
 · exact J8 alf u (by omega) (by omega)
 by_cases h6 : u < 695
 · exact J8 alg u (by omega) (by omega)
 omega
theorem abx : Tryz.pinned.checked.prog.globals.all (fun g => decide (g.type < Tryz.pinned.checked.prog.types.size)) = true := by kernel_rfl
theorem af1 : Tryz.pinned.checked.prog.funcs.all (fun f => f.params.all fun t => decide (t < Tryz.pinned.checked.prog.types.size)) = true := by kernel_rfl
theorem ahJ : laidOutB Tryz.pinned.checked.prog = true := by
 unfold laidOutB
 rw [abx, af1, Bool.and_true, Bool.and_true]
 refine List.all_eq_true.2 fun u hu => aiV u ?_
 rw [← aht]
 exact List.mem_range.1 hu
end Go.Proofs.YtkpblofmoalnoaaGreatDoor
