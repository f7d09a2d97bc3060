/-
 WHICH type bears a name: the pointer to errors.errorString.
-/
import Derived.Test.YtgjlbilcnlffgaaGreatDoorProg
import Derived.LaidLaws
import Derived.KernelRfl
set_option linter.unusedVariables false
set_option linter.unusedSimpArgs false
namespace Go.Proofs.YtgjlbilcnlffgaaGreatDoor
open Go
theorem YP : "*" ++ "errors.errorString" = "*errors.errorString" := by decide
noncomputable def rowP (u : Nat) : Bool := Tryz.prog.typeName? 3 u != some "*errors.errorString" || u == 477
def afT (P : Program) (nm : String) (e : Nat) : Bool := P.typeName? 2 e != some nm || (match (P.info? e).map (·.desc) with | some (TypeDesc.named _ _) => true | _ => false)
theorem afI {P : Program} {nm : String} {tp : TypeId} (h1 : ∀ u, u < P.types.size → (P.typeName? 3 u != some ("*" ++ nm) || u == tp) = true) (h2 : ∀ u, u < P.types.size → afT P nm u = true) (h3 : nm.toList.head? ≠ some (Char.ofNat 42)) (u : TypeId) (hu : P.typeName? 3 u = some ("*" ++ nm)) : u = tp :=
 typeName_ptr_named (List.all_eq_true.2 fun u hu => h1 u (List.mem_range.1 hu)) (List.all_eq_true.2 fun u hu => h2 u (List.mem_range.1 hu)) h3 u hu
noncomputable def nmdP (e : Nat) : Bool := afT Tryz.prog "errors.errorString" e
theorem qF {p : Nat → Bool} {a n : Nat} (h : (List.range' a n).all p = true) : ∀ u, a ≤ u → u < a + n → p u = true := fun u h1 h2 => List.all_eq_true.1 h u (List.mem_range'_1.2 ⟨h1, h2⟩)
theorem agu : (List.range' 0 100).all rowP = true := by kernel_rfl
theorem agv : (List.range' 0 100).all nmdP = true := by kernel_rfl
theorem agw : (List.range' 100 100).all rowP = true := by kernel_rfl
theorem agx : (List.range' 100 100).all nmdP = true := by kernel_rfl
theorem agy : (List.range' 200 100).all rowP = true := by kernel_rfl
theorem agz : (List.range' 200 100).all nmdP = true := by kernel_rfl
theorem agA : (List.range' 300 100).all rowP = true := by kernel_rfl
theorem agB : (List.range' 300 100).all nmdP = true := by kernel_rfl
theorem agC : (List.range' 400 100).all rowP = true := by kernel_rfl
theorem agD : (List.range' 400 100).all nmdP = true := by kernel_rfl
theorem agE : (List.range' 500 100).all rowP = true := by kernel_rfl
theorem agF : (List.range' 500 100).all nmdP = true := by kernel_rfl
theorem agG : (List.range' 600 100).all rowP = true := by kernel_rfl
theorem agH : (List.range' 600 100).all nmdP = true := by kernel_rfl
theorem agI : (List.range' 700 100).all rowP = true := by kernel_rfl
theorem agJ : (List.range' 700 100).all nmdP = true := by kernel_rfl
theorem agK : (List.range' 800 100).all rowP = true := by kernel_rfl
theorem agL : (List.range' 800 100).all nmdP = true := by kernel_rfl
theorem aaX : Tryz.prog.types.size < 900 := of_decide_eq_true (by kernel_rfl)
theorem aeh : ∀ u, u < 900 → rowP u = true := fun u hu => by
 by_cases h0 : u < 100
 · exact qF agu u (by omega) (by omega)
 by_cases h1 : u < 200
 · exact qF agw u (by omega) (by omega)
 by_cases h2 : u < 300
 · exact qF agy u (by omega) (by omega)
 by_cases h3 : u < 400
 · exact qF agA u (by omega) (by omega)
 by_cases h4 : u < 500
 · exact qF agC u (by omega) (by omega)
 by_cases h5 : u < 600
 · exact qF agE u (by omega) (by omega)
 by_cases h6 : u < 700
 · exact qF agG u (by omega) (by omega)
 by_cases h7 : u < 800
 · exact qF agI u (by omega) (by omega)
 by_cases h8 : u < 900
 · exact qF agK u (by omega) (by omega)
 omega
theorem aei : ∀ u, u < 900 → nmdP u = true := fun u hu => by
 by_cases h0 : u < 100
 · exact qF agv u (by omega) (by omega)
 by_cases h1 : u < 200
 · exact qF agx u (by omega) (by omega)
 by_cases h2 : u < 300
 · exact qF agz u (by omega) (by omega)
 by_cases h3 : u < 400
 · exact qF agB u (by omega) (by omega)
 by_cases h4 : u < 500
 · exact qF agD u (by omega) (by omega)
 by_cases h5 : u < 600
 · exact qF agF u (by omega) (by omega)
 by_cases h6 : u < 700
 · exact qF agH u (by omega) (by omega)
 by_cases h7 : u < 800
 · exact qF agJ u (by omega) (by omega)
 by_cases h8 : u < 900
 · exact qF agL u (by omega) (by omega)
 omega
theorem Qg (u : TypeId) (h : Tryz.prog.typeName? 3 u = some "*errors.errorString") : u = 477 :=
 afI (nm := "errors.errorString") (fun u hu => by
  rw [YP]
  exact aeh u (Nat.lt_trans hu aaX)) (fun u hu => aei u (Nat.lt_trans hu aaX)) (by decide) u (by rw [YP]; exact h)
end Go.Proofs.YtgjlbilcnlffgaaGreatDoor
