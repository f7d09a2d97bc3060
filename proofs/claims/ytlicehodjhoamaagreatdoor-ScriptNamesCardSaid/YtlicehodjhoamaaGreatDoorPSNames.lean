/-
  hustingslaw32.ScriptNames: for every input the call returns true, and each argument reads afterwards as it read before; the listed variables hold what the program's text lays: the card ties them.
-/
import Derived.Test.YtlicehodjhoamaaGreatDoorYv
import Derived.Test.YtlicehodjhoamaaGreatDoorCards
import Derived.Test.YtlicehodjhoamaaGreatDoorTi
import Derived.Test.YtlicehodjhoamaaGreatDoorYj
import Derived.Test.YtlicehodjhoamaaGreatDoorYn
import Derived.WalkKit
import Derived.ProofKit
import Derived.OpenShut
import Derived.ShutString
import Derived.Deep.DeepWitnessRowRef
import Derived.ChangeOld
import Derived.Below
import Derived.Deep.DeepHandedRow
namespace Go.Proofs.YtlicehodjhoamaaGreatDoor
open Go.ChangeShapes Go.WideShapes Go.ChangeAt Go.RowKit
open Go.ChangeMaps (open_string shut_string)
set_option linter.unusedVariables false
set_option linter.unusedSimpArgs false
theorem below_of {f : FuncId} {args : Array Value} {w : World} {v : Value} (h : Spec Tryz.prog w f args (allBlocks w) fun u M => u = v ∧ ∀ p ∈ allBlocks w, p ∈ M) :
    Calls Tryz.prog f args w fun e w' => e = .returned v ∧ Below w.heap.size w w' :=
  (h.out w (Heap.all w)).mono fun e w' ⟨u, M, h1, ⟨h2, h3⟩, h4⟩ => by
    subst h2
    refine ⟨h1, h4.still.os, h4.still.tape, h4.still.output, h4.still.size, fun k hk => ?_⟩
    have hg : w.heap[k]? = some w.heap[k] := Array.getElem?_eq_getElem hk
    rw [hg]
    exact h4.get _ (h3 _ (mem_all hg))
set_option maxRecDepth 100000 in
theorem scriptNames_contract (H : Type) (enc : TypeId × Value → H) (W : World) (base : Nat) (args : Array Value) (ds gs : List (DataW H)) (before : List MemPlace)
    (hval0 : ∀ (j : Nat) t v, Tryz.f4.params[j]? = some t → args[j]? = some v → Value.okWide Tryz.prog W .any base t v)
    (hW : DataW.Whole enc Tryz.prog Tryz.f4.params.toList Rows.scriptNamesSpec.vars false W args.toList ds gs before) (hL : laidMetH Tryz.prog laidL W) (hsh : W.ShapedOpen Tryz.prog) :
    Calls Tryz.prog 4 args W fun e W' => ∃ v, e = .returned v ∧ Rows.scriptNamesSpec.post enc Tryz.prog Tryz.f4 false true false false W args v W' := by
  have hval : ∀ (j : Nat) t v, Tryz.f4.params[j]? = some t → args[j]? = some v → Value.okWide Tryz.prog W .any base t v := hval0
  have hW' := hW
  have hglob := laid_of hL hsh
  obtain ⟨p, q, hA0, hV, rfl, hfz, hnd⟩ := hW
  have hA : DataW.TrodAll enc Tryz.prog W 0 (fun _ => true) true Tryz.f4.params.toList args.toList ds p := hA0
  rw [Tryz.params4] at hA hval
  obtain ⟨hargs, rfl, rfl⟩ := trodAll_nil hA
  obtain rfl : args = #[] := by cases args; simp_all
  obtain ⟨rfl, rfl⟩ := trodVars_none hV
  clear hA0 hval0
  refine (below_of (Ev.whole_S (G := W) (L := allBlocks W) hglob)).mono fun e W' ⟨he, bel⟩ => ?_
  subst he
  exact ⟨_, rfl, _, _, _, [], _, [], hW', trodAll_mk1 (shut_bool Tryz.underlying4 _), trodAll_mk0, rfl, bel.frame _, fun h => by cases h⟩
theorem scriptNames_reads (os : Os) {H : Type} (enc : TypeId × Value → H) : ∃ ds places, DataW.whole enc Tryz.prog ((laidWorld os).forCall (fun _ _ => 0) ⟨#[], #[], []⟩).memory Tryz.f4.params.toList Rows.scriptNamesSpec.vars false (#[] : Array Value).toList 8 = some (ds, [], places) :=
  ⟨[], [], by kernel_rfl⟩
set_option maxRecDepth 100000 in
theorem scriptNames_lifted (os : Os) (started : os.Started) (H : Type) (enc : TypeId × Value → H) (F : Stop.Interp) :
    ReturnsInHanded {} Tryz.checked os 4 .any ((OpenSpec.ofChange Rows.scriptNamesSpec).preRow enc Tryz.prog Tryz.f4 Rows.scriptNamesRow.domain false Rows.scriptNamesRow.laid) (((OpenSpec.ofChange Rows.scriptNamesSpec).at F).post enc Tryz.prog Tryz.f4 false true false false) := by
  obtain ⟨ds, places, hx⟩ := scriptNames_reads os enc
  refine returnsInHanded_of_row (C := Tryz.checked) (s := OpenSpec.ofChange Rows.scriptNamesSpec) own started (by kernel_rfl) Tryz.func4
    (witness_row_atRef (enc := enc) (C := Tryz.checked) false (laidWorld os) #[] rfl (by kernel_rfl) (by kernel_rfl) (by kernel_rfl)
      (OpenSpec.preRow_of_cond 8 hx (by kernel_rfl) (fun k hk => by cases hk) (by kernel_rfl) (met os))) ?_
  intro W base args ds gs before hval hW _ _ _ hL hsh _
  exact scriptNames_contract H enc W base args ds gs before hval hW hL hsh
theorem scriptNames_named : Tryz.pinned.checked.prog.funcNamed "hustings/hustingslaw32.ScriptNames" = some 4 := by kernel_rfl
theorem scriptNames_inst : Tryz.f4.isInstance Tryz.pinned.checked.prog Rows.scriptNamesRow.origin Rows.scriptNamesRow.targs := of_decide_eq_true (by kernel_rfl)
theorem scriptNames_wrap : Tryz.f4.isWrapper Tryz.pinned.checked.prog Rows.scriptNamesRow.wrapper Rows.scriptNamesRow.mainSum := by
  unfold Func.isWrapper; first | (rw [if_pos (by decide +kernel)]; kernel_rfl) | (rw [if_neg (by decide +kernel)]; exact ⟨rfl, rfl⟩)
theorem scriptNames_said : Rows.ScriptNamesSaid :=
  OpenClaim.holds_of_cond 4 Tryz.f4 rfl rfl rfl rfl rfl rfl rfl ⟨rfl, rfl, rfl, rfl, rfl⟩ rfl rfl rfl rfl rfl scriptNames_named Tryz.func4 scriptNames_closed scriptNames_inst scriptNames_wrap
    (fun os started H enc _ F => by rw [OpenClaim.pre_eq_preRow]; exact scriptNames_lifted os started H enc F)
theorem scriptNames_plain (f : FuncId) (fn : Func) (hf : Tryz.pinned.checked.prog.funcNamed "hustings/hustingslaw32.ScriptNames" = some f) (hfn : Tryz.pinned.checked.prog.funcs[f]? = some fn) :
    true = Tryz.pinned.checked.prog.looks [] ∧ ∀ (j : Nat) t, fn.params[j]? = some t → Tryz.pinned.checked.prog.wantsStandIn t = false := by
  obtain rfl : f = 4 := Option.some.inj (scriptNames_named.symm.trans hf) |>.symm
  obtain rfl : fn = Tryz.f4 := (Option.some.inj (Tryz.func4.symm.trans hfn)).symm
  refine ⟨by kernel_rfl, fun j t ht => ?_⟩
  rw [Tryz.params4] at ht
  simp at ht
theorem scriptNames_wf : Rows.scriptNamesRow.wfByText (OpenSpec.ofChange Rows.scriptNamesSpec) = true := by kernel_rfl
theorem scriptNames_main : Tryz.pinned.checked.prog.mainIs = some (((true, "e21a680e1c367a1360042f29aee5953c5449bcdc94ebab13681cbce52bb15d9c") : Bool × String).1, ((true, "e21a680e1c367a1360042f29aee5953c5449bcdc94ebab13681cbce52bb15d9c") : Bool × String).2.toList) := by kernel_rfl
/-- THE CARD. -/
theorem scriptNames_holds : Rows.ScriptNamesCardSaid :=
  Claim7.holds_tied_plain_at .later [] _ _ _ _ scriptNames_said (fun _ h => by cases h) scriptNames_wf (fun _ h => by cases h) scriptNames_row_tie rfl ⟨rfl, rfl⟩ scriptNames_main rfl scriptNames_plain jg_hg
#print axioms scriptNames_holds
end Go.Proofs.YtlicehodjhoamaaGreatDoor
