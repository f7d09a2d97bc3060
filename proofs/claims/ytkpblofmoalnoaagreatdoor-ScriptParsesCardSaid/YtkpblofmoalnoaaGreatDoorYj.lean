/-
 NOTHING goes on its own.
-/
import Derived.Test.YtkpblofmoalnoaaGreatDoorRows
import GoSem.ClaimGoes
import Derived.JoinedOf
import Derived.OpenShut
import Derived.KernelRfl
set_option linter.unusedVariables false
set_option linter.unusedSimpArgs false
namespace Go.Proofs.YtkpblofmoalnoaaGreatDoor
open Go
set_option maxRecDepth 100000
theorem Qq {p : Nat → Bool} {a n : Nat} (h : (List.range' a n).all p = true) : ∀ u, a ≤ u → u < a + n → p u = true := fun u h1 h2 => List.all_eq_true.1 h u (List.mem_range'_1.2 ⟨h1, h2⟩)
noncomputable def stays (i : Nat) : Bool := (Tryz.pinned.checked.prog.funcs[i]?).elim true fun fn => !fn.goes
theorem alh : (List.range' 0 100).all stays = true := by kernel_rfl
theorem ali : (List.range' 100 100).all stays = true := by kernel_rfl
theorem alj : (List.range' 200 100).all stays = true := by kernel_rfl
theorem alk : (List.range' 300 100).all stays = true := by kernel_rfl
theorem alm : (List.range' 400 100).all stays = true := by kernel_rfl
theorem aln : (List.range' 500 34).all stays = true := by kernel_rfl
theorem ahu : Tryz.pinned.checked.prog.funcs.size = 534 := by kernel_rfl
theorem aiW : ∀ u, u < 534 → stays u = true := fun u hu => by
 by_cases h0 : u < 100
 · exact Qq alh u (by omega) (by omega)
 by_cases h1 : u < 200
 · exact Qq ali u (by omega) (by omega)
 by_cases h2 : u < 300
 · exact Qq alj u (by omega) (by omega)
 by_cases h3 : u < 400
 · exact Qq alk u (by omega) (by omega)
 by_cases h4 : u < 500
 · exact Qq alm u (by omega) (by omega)
 by_cases h5 : u < 534
 · exact Qq aln u (by omega) (by omega)
 omega
theorem ahv {i : Nat} {fn : Func} (h : Tryz.pinned.checked.prog.funcs[i]? = some fn) : fn.goes = false := by
 have hi : i < 534 := by
  rw [← ahu]
  exact (Array.getElem?_eq_some_iff.1 h).1
 have := aiW i hi
 unfold stays at this
 rw [h] at this
 simpa using this
theorem af2 {P : Program} (h : ∀ (i : Nat) (fn : Func), P.funcs[i]? = some fn → fn.goes = false) (f : FuncId) : P.goes f = false := by
 unfold Program.goes
 rw [Bool.or_eq_false_iff]
 constructor
 · rw [List.any_eq_false]
   intro g _
   cases hg : P.funcs[g]? with
   | none => simp
   | some fn => simp [h g fn hg]
 · have : P.funcs.any Func.goes = false := by
    rw [Array.any_eq_false]
    intro i hi
    have := h i _ (Array.getElem?_eq_getElem hi)
    simpa using this
   rw [this, Bool.and_false]
theorem aby {P : Program} (h : ∀ (i : Nat) (fn : Func), P.funcs[i]? = some fn → fn.goes = false) {c : OpenClaim} (hs : c.start = .entering) : false = c.goesBy P := by
 have h1 : P.goesFrom c.func = false := by
  unfold Program.goesFrom
  cases hf : P.funcNamed c.func with
  | none => rfl
  | some f => exact af2 h f
 unfold OpenClaim.goesBy Program.goesAt
 rw [h1, hs]
 rfl
theorem akb : false = Rows.scriptParsesRow.goesBy Tryz.pinned.checked.prog := aby (fun i fn h => ahv h) rfl
end Go.Proofs.YtkpblofmoalnoaaGreatDoor
