/-
 THE TYPES lie as their rows say.
-/
import Derived.Test.YtgjlbilcnlffgaaGreatDoorRows
import Derived.JoinedOf
import Derived.OpenShut
import Derived.KernelRfl
set_option linter.unusedVariables false
set_option linter.unusedSimpArgs false
namespace Go.Proofs.YtgjlbilcnlffgaaGreatDoor
open Go
set_option maxRecDepth 100000
theorem zy {p : Nat → Bool} {a n : Nat} (h : (List.range' a n).all p = true) : ∀ u, a ≤ u → u < a + n → p u = true := fun u h1 h2 => List.all_eq_true.1 h u (List.mem_range'_1.2 ⟨h1, h2⟩)
theorem aiV : (List.range' 0 100).all (rowFine Tryz.pinned.checked.prog) = true := by kernel_rfl
theorem aiW : (List.range' 100 100).all (rowFine Tryz.pinned.checked.prog) = true := by kernel_rfl
theorem aiX : (List.range' 200 100).all (rowFine Tryz.pinned.checked.prog) = true := by kernel_rfl
theorem aiY : (List.range' 300 100).all (rowFine Tryz.pinned.checked.prog) = true := by kernel_rfl
theorem aiZ : (List.range' 400 100).all (rowFine Tryz.pinned.checked.prog) = true := by kernel_rfl
theorem ai0 : (List.range' 500 100).all (rowFine Tryz.pinned.checked.prog) = true := by kernel_rfl
theorem ai1 : (List.range' 600 96).all (rowFine Tryz.pinned.checked.prog) = true := by kernel_rfl
theorem afK : Tryz.pinned.checked.prog.types.size = 696 := by kernel_rfl
theorem agU : ∀ u : Nat, u < 696 → rowFine Tryz.pinned.checked.prog u = true := fun u hu => by
 by_cases h0 : u < 100
 · exact zy aiV u (by omega) (by omega)
 by_cases h1 : u < 200
 · exact zy aiW u (by omega) (by omega)
 by_cases h2 : u < 300
 · exact zy aiX u (by omega) (by omega)
 by_cases h3 : u < 400
 · exact zy aiY u (by omega) (by omega)
 by_cases h4 : u < 500
 · exact zy aiZ u (by omega) (by omega)
 by_cases h5 : u < 600
 · exact zy ai0 u (by omega) (by omega)
 by_cases h6 : u < 696
 · exact zy ai1 u (by omega) (by omega)
 omega
theorem Z2 : Tryz.pinned.checked.prog.globals.all (fun g => decide (g.type < Tryz.pinned.checked.prog.types.size)) = true := by kernel_rfl
theorem aer : Tryz.pinned.checked.prog.funcs.all (fun f => f.params.all fun t => decide (t < Tryz.pinned.checked.prog.types.size)) = true := by kernel_rfl
theorem afW : laidOutB Tryz.pinned.checked.prog = true := by
 unfold laidOutB
 rw [Z2, aer, Bool.and_true, Bool.and_true]
 refine List.all_eq_true.2 fun u hu => agU u ?_
 rw [← afK]
 exact List.mem_range.1 hu
end Go.Proofs.YtgjlbilcnlffgaaGreatDoor
