/-
 hustingslaw32.ScriptParses: for every input the call returns true, and each argument reads afterwards as it read before; the listed variables hold what the program's text lays: the card ties them.
-/
import Derived.Test.YtkpblofmoalnoaaGreatDoorZt7
import Derived.Test.YtkpblofmoalnoaaGreatDoorCards
import Derived.Test.YtkpblofmoalnoaaGreatDoorTi
import Derived.Test.YtkpblofmoalnoaaGreatDoorYj
import Derived.Test.YtkpblofmoalnoaaGreatDoorYh
import Derived.Test.YtkpblofmoalnoaaGreatDoorYn
import Derived.WalkKit
import Derived.ProofKit
import Derived.OpenShut
import Derived.ShutString
import Derived.Deep.DeepWitnessRowRef
import Derived.ChangeOld
import Derived.Below
import Derived.Deep.DeepHandedRow
set_option maxRecDepth 100000
set_option linter.unusedVariables false
set_option linter.unusedSimpArgs false
namespace Go.Proofs.YtkpblofmoalnoaaGreatDoor
open Go.ChangeShapes Go.WideShapes Go.ChangeAt Go.RowKit
open Go.ChangeMaps (open_string shut_string)
theorem ahw : laidOutB Tryz.prog = true := ahJ
section
variable {H : Type} {enc : TypeId × Value → H} {W : World} {v : Value} {d : DataW H} {p : List MemPlace} {base : Nat}
theorem aal (hv : Value.okWide Tryz.prog W .any base 9 v) (h : DataW.Trod enc Tryz.prog W 0 (fun _ => true) true 9 v d p) : ∃ s : Nm.Bytes, v = .string (bs s) ∧ s.length ≤ maxLen := by
 obtain ⟨s, rfl, _, _, hw⟩ := open_string Tryz.underlying9 hv h
 exact ⟨s.data.toList, rfl, by simpa using hw⟩
end
theorem zd (H : Type) (enc : TypeId × Value → H) (W : World) (base : Nat) (args : Array Value) (ds gs : List (DataW H)) (before : List MemPlace)
 (hval0 : ∀ (j : Nat) t v, Tryz.f3.params[j]? = some t → args[j]? = some v → Value.okWide Tryz.prog W .any base t v)
 (hW : DataW.Whole enc Tryz.prog Tryz.f3.params.toList Rows.scriptParsesSpec.vars false W args.toList ds gs before) (hL : laidMetH Tryz.prog laidL W) (hsh : W.ShapedOpen Tryz.prog) :
 Calls Tryz.prog 3 args W fun e W' => ∃ v, e = .returned v ∧ Rows.scriptParsesSpec.post enc Tryz.prog Tryz.f3 false true false false W args v W' := by
 have hval : ∀ (j : Nat) t v, Tryz.f3.params[j]? = some t → args[j]? = some v → Value.okWide Tryz.prog W .any base t v := hval0
 have hW' := hW
 have hglob := afZ hL hsh
 obtain ⟨p, q, hA0, hV, rfl, hfz, hnd⟩ := hW
 have hA : DataW.TrodAll enc Tryz.prog W 0 (fun _ => true) true Tryz.f3.params.toList args.toList ds p := hA0
 rw [Tryz.params3] at hA hval
 obtain ⟨v0, vs0, d0, ds0, p0, q0, hargs, rfl, rfl, h0, tr0⟩ := trodAll_cons hA
 obtain ⟨rfl, rfl, rfl⟩ := trodAll_nil tr0
 obtain rfl : args = #[v0] := by cases args; simp_all
 obtain ⟨rfl, rfl⟩ := trodVars_none hV
 have k0 := h0
 have lt0 : ∀ x ∈ p0, x.block < W.heap.size := by obtain ⟨m, hm⟩ := k0; exact DataW.trod_lt m _ _ _ hm
 obtain ⟨t0, rfl, l0⟩ := aal (hval 0 9 v0 rfl rfl) h0
 clear hA0 hval0
 refine (Spec.below (adI (G := W) (L := qG W) t0 l0 hglob)).mono fun e W' ⟨he, bel⟩ => ?_
 subst he
 exact ⟨_, rfl, _, _, _, [], _, [], hW', trodAll_mk1 (shut_bool Tryz.underlying4 _), (trodAll_cons_mk (Below.trod ahw (by kernel_rfl) (of_decide_eq_true (by kernel_rfl)) k0 bel lt0) trodAll_mk0), rfl, bel.frame _, fun h => by cases h⟩
theorem alp (os : Os) : laidMetH Tryz.prog laidL ((laidWorld os).forCall (fun _ _ => 0) ⟨#[], #[(Value.string ByteArray.empty)], []⟩).memory :=
 laidMetH_of_parts (laidMet_of_run' 8 (by kernel_rfl) (by kernel_rfl)) (by kernel_rfl)
theorem J9 (os : Os) {H : Type} (enc : TypeId × Value → H) : ∃ ds places, DataW.whole enc Tryz.prog ((laidWorld os).forCall (fun _ _ => 0) ⟨#[], #[(Value.string ByteArray.empty)], []⟩).memory Tryz.f3.params.toList Rows.scriptParsesSpec.vars false (#[(Value.string ByteArray.empty)] : Array Value).toList 8 = some (ds, [], places) :=
 ⟨[.lit (.string [])], [], by kernel_rfl⟩
theorem zY (os : Os) (started : os.Started) (H : Type) (enc : TypeId × Value → H) (F : Stop.Interp) :
 ReturnsInHanded {} Tryz.checked os 3 .any ((OpenSpec.ofChange Rows.scriptParsesSpec).preRow enc Tryz.prog Tryz.f3 Rows.scriptParsesRow.domain false Rows.scriptParsesRow.laid) (((OpenSpec.ofChange Rows.scriptParsesSpec).at F).post enc Tryz.prog Tryz.f3 false true false false) := by
 obtain ⟨ds, places, hx⟩ := J9 os enc
 refine returnsInHanded_of_row (C := Tryz.checked) (s := OpenSpec.ofChange Rows.scriptParsesSpec) own started (by kernel_rfl) Tryz.func3
  (witness_row_atRef (enc := enc) (C := Tryz.checked) false (laidWorld os) #[(Value.string ByteArray.empty)] rfl (by kernel_rfl) (by kernel_rfl) (by kernel_rfl)
    (OpenSpec.preRow_of_cond 8 hx (by kernel_rfl) (fun k hk => by cases hk) (by kernel_rfl) (alp os))) ?_
 intro W base args ds gs before hval hW _ _ _ hL hsh _
 exact zd H enc W base args ds gs before hval hW hL hsh
theorem scriptParses_named : Tryz.pinned.checked.prog.funcNamed "hustings/hustingslaw32.ScriptParses" = some 3 := by kernel_rfl
theorem KQ : Tryz.f3.isInstance Tryz.pinned.checked.prog Rows.scriptParsesRow.origin Rows.scriptParsesRow.targs := of_decide_eq_true (by kernel_rfl)
theorem KR : Tryz.f3.isWrapper Tryz.pinned.checked.prog Rows.scriptParsesRow.wrapper Rows.scriptParsesRow.mainSum := by
 unfold Func.isWrapper; first | (rw [if_pos (by decide +kernel)]; kernel_rfl) | (rw [if_neg (by decide +kernel)]; exact ⟨rfl, rfl⟩)
theorem KS : Rows.ScriptParsesSaid :=
 OpenClaim.holds_of_cond 3 Tryz.f3 rfl rfl rfl rfl rfl rfl rfl ⟨rfl, rfl, rfl, rfl, rfl⟩ rfl rfl rfl rfl rfl scriptParses_named Tryz.func3 zX KQ KR
  (fun os started H enc _ F => by rw [OpenClaim.pre_eq_preRow]; exact zY os started H enc F)
theorem Ka (f : FuncId) (fn : Func) (hf : Tryz.pinned.checked.prog.funcNamed "hustings/hustingslaw32.ScriptParses" = some f) (hfn : Tryz.pinned.checked.prog.funcs[f]? = some fn) :
 true = Tryz.pinned.checked.prog.looks [] ∧ ∀ (j : Nat) t, fn.params[j]? = some t → Tryz.pinned.checked.prog.wantsStandIn t = false := by
 obtain rfl : f = 3 := Option.some.inj (scriptParses_named.symm.trans hf) |>.symm
 obtain rfl : fn = Tryz.f3 := (Option.some.inj (Tryz.func3.symm.trans hfn)).symm
 refine ⟨by kernel_rfl, fun j t ht => ?_⟩
 rw [Tryz.params3] at ht
 have hm := Array.mem_of_getElem? ht
 simp only [List.mem_toArray, List.mem_cons, List.not_mem_nil, or_false] at hm
 rcases hm with rfl
 · exact (show Tryz.prog.wantsStandIn 9 = false by kernel_rfl)
theorem QU : Rows.scriptParsesRow.wfByText (OpenSpec.ofChange Rows.scriptParsesSpec) = true := by kernel_rfl
theorem KT : Tryz.pinned.checked.prog.mainIs = some (((true, "bfb773d7195aec40d478b3891d7cd23bdf626a5cb7df7a7c1b3ac55d3e47d2c1") : Bool × String).1, ((true, "bfb773d7195aec40d478b3891d7cd23bdf626a5cb7df7a7c1b3ac55d3e47d2c1") : Bool × String).2.toList) := by kernel_rfl
theorem scriptParses_holds : Rows.ScriptParsesCardSaid :=
 Claim7.holds_tied_plain_at .later [] _ _ _ _ KS (fun _ h => by cases h) QU (fun _ h => by cases h) zB rfl ⟨rfl, rfl⟩ KT rfl Ka akb
#print axioms scriptParses_holds
end Go.Proofs.YtkpblofmoalnoaaGreatDoor
