/-
  WHICH type bears a name: the pointer to errors.errorString.
-/
import Derived.Test.YtlicehodjhoamaaGreatDoorProg
import Derived.LaidLaws
import Derived.KernelRfl
namespace Go.Proofs.YtlicehodjhoamaaGreatDoor
open Go
set_option linter.unusedVariables false
set_option linter.unusedSimpArgs false
theorem star_err : "*" ++ "errors.errorString" = "*errors.errorString" := by decide
noncomputable def rowP (u : Nat) : Bool := Tryz.prog.typeName? 3 u != some "*errors.errorString" || u == 683
def isNmd (P : Program) (nm : String) (e : Nat) : Bool := P.typeName? 2 e != some nm || (match (P.info? e).map (·.desc) with | some (TypeDesc.named _ _) => true | _ => false)
theorem row_gen {P : Program} {nm : String} {tp : TypeId} (h1 : ∀ u, u < P.types.size → (P.typeName? 3 u != some ("*" ++ nm) || u == tp) = true) (h2 : ∀ u, u < P.types.size → isNmd P nm u = true) (h3 : nm.toList.head? ≠ some (Char.ofNat 42)) (u : TypeId) (hu : P.typeName? 3 u = some ("*" ++ nm)) : u = tp :=
  typeName_ptr_named (List.all_eq_true.2 fun u hu => h1 u (List.mem_range.1 hu)) (List.all_eq_true.2 fun u hu => h2 u (List.mem_range.1 hu)) h3 u hu
noncomputable def nmdP (e : Nat) : Bool := isNmd Tryz.prog "errors.errorString" e
theorem chunk {p : Nat → Bool} {a n : Nat} (h : (List.range' a n).all p = true) : ∀ u, a ≤ u → u < a + n → p u = true := fun u h1 h2 => List.all_eq_true.1 h u (List.mem_range'_1.2 ⟨h1, h2⟩)
theorem rowP_0 : (List.range' 0 100).all rowP = true := by kernel_rfl
theorem nmdP_0 : (List.range' 0 100).all nmdP = true := by kernel_rfl
theorem rowP_1 : (List.range' 100 100).all rowP = true := by kernel_rfl
theorem nmdP_1 : (List.range' 100 100).all nmdP = true := by kernel_rfl
theorem rowP_2 : (List.range' 200 100).all rowP = true := by kernel_rfl
theorem nmdP_2 : (List.range' 200 100).all nmdP = true := by kernel_rfl
theorem rowP_3 : (List.range' 300 100).all rowP = true := by kernel_rfl
theorem nmdP_3 : (List.range' 300 100).all nmdP = true := by kernel_rfl
theorem rowP_4 : (List.range' 400 100).all rowP = true := by kernel_rfl
theorem nmdP_4 : (List.range' 400 100).all nmdP = true := by kernel_rfl
theorem rowP_5 : (List.range' 500 100).all rowP = true := by kernel_rfl
theorem nmdP_5 : (List.range' 500 100).all nmdP = true := by kernel_rfl
theorem rowP_6 : (List.range' 600 100).all rowP = true := by kernel_rfl
theorem nmdP_6 : (List.range' 600 100).all nmdP = true := by kernel_rfl
theorem rowP_7 : (List.range' 700 100).all rowP = true := by kernel_rfl
theorem nmdP_7 : (List.range' 700 100).all nmdP = true := by kernel_rfl
theorem rowP_8 : (List.range' 800 100).all rowP = true := by kernel_rfl
theorem nmdP_8 : (List.range' 800 100).all nmdP = true := by kernel_rfl
theorem size_lt : Tryz.prog.types.size < 900 := of_decide_eq_true (by kernel_rfl)
theorem rowP_all : ∀ u, u < 900 → rowP u = true := fun u hu => by
  by_cases h0 : u < 100
  · exact chunk rowP_0 u (by omega) (by omega)
  by_cases h1 : u < 200
  · exact chunk rowP_1 u (by omega) (by omega)
  by_cases h2 : u < 300
  · exact chunk rowP_2 u (by omega) (by omega)
  by_cases h3 : u < 400
  · exact chunk rowP_3 u (by omega) (by omega)
  by_cases h4 : u < 500
  · exact chunk rowP_4 u (by omega) (by omega)
  by_cases h5 : u < 600
  · exact chunk rowP_5 u (by omega) (by omega)
  by_cases h6 : u < 700
  · exact chunk rowP_6 u (by omega) (by omega)
  by_cases h7 : u < 800
  · exact chunk rowP_7 u (by omega) (by omega)
  by_cases h8 : u < 900
  · exact chunk rowP_8 u (by omega) (by omega)
  omega
theorem nmdP_all : ∀ u, u < 900 → nmdP u = true := fun u hu => by
  by_cases h0 : u < 100
  · exact chunk nmdP_0 u (by omega) (by omega)
  by_cases h1 : u < 200
  · exact chunk nmdP_1 u (by omega) (by omega)
  by_cases h2 : u < 300
  · exact chunk nmdP_2 u (by omega) (by omega)
  by_cases h3 : u < 400
  · exact chunk nmdP_3 u (by omega) (by omega)
  by_cases h4 : u < 500
  · exact chunk nmdP_4 u (by omega) (by omega)
  by_cases h5 : u < 600
  · exact chunk nmdP_5 u (by omega) (by omega)
  by_cases h6 : u < 700
  · exact chunk nmdP_6 u (by omega) (by omega)
  by_cases h7 : u < 800
  · exact chunk nmdP_7 u (by omega) (by omega)
  by_cases h8 : u < 900
  · exact chunk nmdP_8 u (by omega) (by omega)
  omega
theorem row_err (u : TypeId) (h : Tryz.prog.typeName? 3 u = some "*errors.errorString") : u = 683 :=
  row_gen (nm := "errors.errorString") (fun u hu => by
    rw [star_err]
    exact rowP_all u (Nat.lt_trans hu size_lt)) (fun u hu => nmdP_all u (Nat.lt_trans hu size_lt)) (by decide) u (by rw [star_err]; exact h)
end Go.Proofs.YtlicehodjhoamaaGreatDoor
