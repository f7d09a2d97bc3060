/-
  NOTHING goes on its own.
-/
import Derived.Test.YtlicehodjhoamaaGreatDoorRows
import GoSem.ClaimGoes
import Derived.JoinedOf
import Derived.OpenShut
import Derived.KernelRfl
namespace Go.Proofs.YtlicehodjhoamaaGreatDoor
open Go
set_option linter.unusedVariables false
set_option linter.unusedSimpArgs false
set_option maxRecDepth 100000
theorem chunkG {p : Nat → Bool} {a n : Nat} (h : (List.range' a n).all p = true) : ∀ u, a ≤ u → u < a + n → p u = true := fun u h1 h2 => List.all_eq_true.1 h u (List.mem_range'_1.2 ⟨h1, h2⟩)
noncomputable def stays (i : Nat) : Bool := (Tryz.pinned.checked.prog.funcs[i]?).elim true fun fn => !fn.goes
theorem go_0 : (List.range' 0 100).all stays = true := by kernel_rfl
theorem go_1 : (List.range' 100 100).all stays = true := by kernel_rfl
theorem go_2 : (List.range' 200 100).all stays = true := by kernel_rfl
theorem go_3 : (List.range' 300 100).all stays = true := by kernel_rfl
theorem go_4 : (List.range' 400 100).all stays = true := by kernel_rfl
theorem go_5 : (List.range' 500 100).all stays = true := by kernel_rfl
theorem go_6 : (List.range' 600 93).all stays = true := by kernel_rfl
theorem go_size : Tryz.pinned.checked.prog.funcs.size = 693 := by kernel_rfl
theorem go_all : ∀ u, u < 693 → stays u = true := fun u hu => by
  by_cases h0 : u < 100
  · exact chunkG go_0 u (by omega) (by omega)
  by_cases h1 : u < 200
  · exact chunkG go_1 u (by omega) (by omega)
  by_cases h2 : u < 300
  · exact chunkG go_2 u (by omega) (by omega)
  by_cases h3 : u < 400
  · exact chunkG go_3 u (by omega) (by omega)
  by_cases h4 : u < 500
  · exact chunkG go_4 u (by omega) (by omega)
  by_cases h5 : u < 600
  · exact chunkG go_5 u (by omega) (by omega)
  by_cases h6 : u < 693
  · exact chunkG go_6 u (by omega) (by omega)
  omega
theorem no_goes {i : Nat} {fn : Func} (h : Tryz.pinned.checked.prog.funcs[i]? = some fn) : fn.goes = false := by
  have hi : i < 693 := by
    rw [← go_size]
    exact (Array.getElem?_eq_some_iff.1 h).1
  have := go_all i hi
  unfold stays at this
  rw [h] at this
  simpa using this
theorem goes_gen {P : Program} (h : ∀ (i : Nat) (fn : Func), P.funcs[i]? = some fn → fn.goes = false) (f : FuncId) : P.goes f = false := by
  unfold Program.goes
  rw [Bool.or_eq_false_iff]
  constructor
  · rw [List.any_eq_false]
    intro g _
    cases hg : P.funcs[g]? with
    | none => simp
    | some fn => simp [h g fn hg]
  · have : P.funcs.any Func.goes = false := by
      rw [Array.any_eq_false]
      intro i hi
      have := h i _ (Array.getElem?_eq_getElem hi)
      simpa using this
    rw [this, Bool.and_false]
theorem goesBy_gen {P : Program} (h : ∀ (i : Nat) (fn : Func), P.funcs[i]? = some fn → fn.goes = false) {c : OpenClaim} (hs : c.start = .entering) : false = c.goesBy P := by
  have h1 : P.goesFrom c.func = false := by
    unfold Program.goesFrom
    cases hf : P.funcNamed c.func with
    | none => rfl
    | some f => exact goes_gen h f
  unfold OpenClaim.goesBy Program.goesAt
  rw [h1, hs]
  rfl
theorem jg_hg : false = Rows.scriptNamesRow.goesBy Tryz.pinned.checked.prog := goesBy_gen (fun i fn h => no_goes h) rfl
end Go.Proofs.YtlicehodjhoamaaGreatDoor
