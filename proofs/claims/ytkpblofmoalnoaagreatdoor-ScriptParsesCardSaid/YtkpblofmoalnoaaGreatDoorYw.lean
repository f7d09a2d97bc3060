/-
 WHICH type bears a name: the pointer to errors.errorString.
-/
import Derived.Test.YtkpblofmoalnoaaGreatDoorProg
import Derived.LaidLaws
import Derived.KernelRfl
set_option linter.unusedVariables false
set_option linter.unusedSimpArgs false
namespace Go.Proofs.YtkpblofmoalnoaaGreatDoor
open Go
theorem aad : "*" ++ "errors.errorString" = "*errors.errorString" := by decide
noncomputable def rowP (u : Nat) : Bool := Tryz.prog.typeName? 3 u != some "*errors.errorString" || u == 476
def ahH (P : Program) (nm : String) (e : Nat) : Bool := P.typeName? 2 e != some nm || (match (P.info? e).map (·.desc) with | some (TypeDesc.named _ _) => true | _ => false)
theorem ahr {P : Program} {nm : String} {tp : TypeId} (h1 : ∀ u, u < P.types.size → (P.typeName? 3 u != some ("*" ++ nm) || u == tp) = true) (h2 : ∀ u, u < P.types.size → ahH P nm u = true) (h3 : nm.toList.head? ≠ some (Char.ofNat 42)) (u : TypeId) (hu : P.typeName? 3 u = some ("*" ++ nm)) : u = tp :=
 typeName_ptr_named (List.all_eq_true.2 fun u hu => h1 u (List.mem_range.1 hu)) (List.all_eq_true.2 fun u hu => h2 u (List.mem_range.1 hu)) h3 u hu
noncomputable def nmdP (e : Nat) : Bool := ahH Tryz.prog "errors.errorString" e
theorem ug {p : Nat → Bool} {a n : Nat} (h : (List.range' a n).all p = true) : ∀ u, a ≤ u → u < a + n → p u = true := fun u h1 h2 => List.all_eq_true.1 h u (List.mem_range'_1.2 ⟨h1, h2⟩)
theorem aiv : (List.range' 0 100).all rowP = true := by kernel_rfl
theorem aiw : (List.range' 0 100).all nmdP = true := by kernel_rfl
theorem aix : (List.range' 100 100).all rowP = true := by kernel_rfl
theorem aiy : (List.range' 100 100).all nmdP = true := by kernel_rfl
theorem aiz : (List.range' 200 100).all rowP = true := by kernel_rfl
theorem aiA : (List.range' 200 100).all nmdP = true := by kernel_rfl
theorem aiB : (List.range' 300 100).all rowP = true := by kernel_rfl
theorem aiC : (List.range' 300 100).all nmdP = true := by kernel_rfl
theorem aiD : (List.range' 400 100).all rowP = true := by kernel_rfl
theorem aiE : (List.range' 400 100).all nmdP = true := by kernel_rfl
theorem aiF : (List.range' 500 100).all rowP = true := by kernel_rfl
theorem aiG : (List.range' 500 100).all nmdP = true := by kernel_rfl
theorem aiH : (List.range' 600 100).all rowP = true := by kernel_rfl
theorem aiI : (List.range' 600 100).all nmdP = true := by kernel_rfl
theorem aiJ : (List.range' 700 100).all rowP = true := by kernel_rfl
theorem aiK : (List.range' 700 100).all nmdP = true := by kernel_rfl
theorem aiL : (List.range' 800 100).all rowP = true := by kernel_rfl
theorem aiM : (List.range' 800 100).all nmdP = true := by kernel_rfl
theorem act : Tryz.prog.types.size < 900 := of_decide_eq_true (by kernel_rfl)
theorem afR : ∀ u, u < 900 → rowP u = true := fun u hu => by
 by_cases h0 : u < 100
 · exact ug aiv u (by omega) (by omega)
 by_cases h1 : u < 200
 · exact ug aix u (by omega) (by omega)
 by_cases h2 : u < 300
 · exact ug aiz u (by omega) (by omega)
 by_cases h3 : u < 400
 · exact ug aiB u (by omega) (by omega)
 by_cases h4 : u < 500
 · exact ug aiD u (by omega) (by omega)
 by_cases h5 : u < 600
 · exact ug aiF u (by omega) (by omega)
 by_cases h6 : u < 700
 · exact ug aiH u (by omega) (by omega)
 by_cases h7 : u < 800
 · exact ug aiJ u (by omega) (by omega)
 by_cases h8 : u < 900
 · exact ug aiL u (by omega) (by omega)
 omega
theorem afS : ∀ u, u < 900 → nmdP u = true := fun u hu => by
 by_cases h0 : u < 100
 · exact ug aiw u (by omega) (by omega)
 by_cases h1 : u < 200
 · exact ug aiy u (by omega) (by omega)
 by_cases h2 : u < 300
 · exact ug aiA u (by omega) (by omega)
 by_cases h3 : u < 400
 · exact ug aiC u (by omega) (by omega)
 by_cases h4 : u < 500
 · exact ug aiE u (by omega) (by omega)
 by_cases h5 : u < 600
 · exact ug aiG u (by omega) (by omega)
 by_cases h6 : u < 700
 · exact ug aiI u (by omega) (by omega)
 by_cases h7 : u < 800
 · exact ug aiK u (by omega) (by omega)
 by_cases h8 : u < 900
 · exact ug aiM u (by omega) (by omega)
 omega
theorem Uf (u : TypeId) (h : Tryz.prog.typeName? 3 u = some "*errors.errorString") : u = 476 :=
 ahr (nm := "errors.errorString") (fun u hu => by
  rw [aad]
  exact afR u (Nat.lt_trans hu act)) (fun u hu => afS u (Nat.lt_trans hu act)) (by decide) u (by rw [aad]; exact h)
end Go.Proofs.YtkpblofmoalnoaaGreatDoor
