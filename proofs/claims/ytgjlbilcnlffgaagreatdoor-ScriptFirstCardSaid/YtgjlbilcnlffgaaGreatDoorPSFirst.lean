/-
 hustingslaw32.ScriptFirst: for every input the call returns true, and each argument reads afterwards as it read before; the listed variables hold what the program's text lays: the card ties them.
-/
import Derived.Test.YtgjlbilcnlffgaaGreatDoorZt7
import Derived.Test.YtgjlbilcnlffgaaGreatDoorCards
import Derived.Test.YtgjlbilcnlffgaaGreatDoorTi
import Derived.Test.YtgjlbilcnlffgaaGreatDoorYj
import Derived.Test.YtgjlbilcnlffgaaGreatDoorYh
import Derived.Test.YtgjlbilcnlffgaaGreatDoorYn
import Derived.WalkKit
import Derived.ProofKit
import Derived.OpenShut
import Derived.ShutString
import Derived.Deep.DeepWitnessRowRef
import Derived.ChangeOld
import Derived.Below
import Derived.Deep.DeepHandedRow
set_option maxRecDepth 100000
set_option linter.unusedVariables false
set_option linter.unusedSimpArgs false
namespace Go.Proofs.YtgjlbilcnlffgaaGreatDoor
open Go.ChangeShapes Go.WideShapes Go.ChangeAt Go.RowKit
open Go.ChangeMaps (open_string shut_string)
theorem aaZ : laidOutB Tryz.prog = true := afW
section
variable {H : Type} {enc : TypeId × Value → H} {W : World} {v : Value} {d : DataW H} {p : List MemPlace} {base : Nat}
theorem KR (hv : Value.okWide Tryz.prog W .any base 9 v) (h : DataW.Trod enc Tryz.prog W 0 (fun _ => true) true 9 v d p) : ∃ s : Nm.Bytes, v = .string (bs s) ∧ s.length ≤ maxLen := by
 obtain ⟨s, rfl, _, _, hw⟩ := open_string Tryz.underlying9 hv h
 exact ⟨s.data.toList, rfl, by simpa using hw⟩
end
theorem yF (H : Type) (enc : TypeId × Value → H) (W : World) (base : Nat) (args : Array Value) (ds gs : List (DataW H)) (before : List MemPlace)
 (hval0 : ∀ (j : Nat) t v, Tryz.f4.params[j]? = some t → args[j]? = some v → Value.okWide Tryz.prog W .any base t v)
 (hW : DataW.Whole enc Tryz.prog Tryz.f4.params.toList Rows.scriptFirstSpec.vars false W args.toList ds gs before) (hL : laidMetH Tryz.prog laidL W) (hsh : W.ShapedOpen Tryz.prog) :
 Calls Tryz.prog 4 args W fun e W' => ∃ v, e = .returned v ∧ Rows.scriptFirstSpec.post enc Tryz.prog Tryz.f4 false true false false W args v W' := by
 have hval : ∀ (j : Nat) t v, Tryz.f4.params[j]? = some t → args[j]? = some v → Value.okWide Tryz.prog W .any base t v := hval0
 have hW' := hW
 have hglob := aep hL hsh
 obtain ⟨p, q, hA0, hV, rfl, hfz, hnd⟩ := hW
 have hA : DataW.TrodAll enc Tryz.prog W 0 (fun _ => true) true Tryz.f4.params.toList args.toList ds p := hA0
 rw [Tryz.params4] at hA hval
 obtain ⟨v0, vs0, d0, ds0, p0, q0, hargs, rfl, rfl, h0, tr0⟩ := trodAll_cons hA
 obtain ⟨v1, vs1, d1, ds1, p1, q1, rfl, rfl, rfl, h1, tr1⟩ := trodAll_cons tr0
 obtain ⟨rfl, rfl, rfl⟩ := trodAll_nil tr1
 obtain rfl : args = #[v0, v1] := by cases args; simp_all
 obtain ⟨rfl, rfl⟩ := trodVars_none hV
 have k0 := h0
 have lt0 : ∀ x ∈ p0, x.block < W.heap.size := by obtain ⟨m, hm⟩ := k0; exact DataW.trod_lt m _ _ _ hm
 have k1 := h1
 have lt1 : ∀ x ∈ p1, x.block < W.heap.size := by obtain ⟨m, hm⟩ := k1; exact DataW.trod_lt m _ _ _ hm
 obtain ⟨t0, rfl, l0⟩ := KR (hval 0 9 v0 rfl rfl) h0
 obtain ⟨t1, rfl, l1⟩ := KR (hval 1 9 v1 rfl rfl) h1
 clear hA0 hval0
 refine (Spec.below (aec (G := W) (L := qb W) t0 t1 l0 l1 hglob)).mono fun e W' ⟨he, bel⟩ => ?_
 subst he
 exact ⟨_, rfl, _, _, _, [], _, [], hW', trodAll_mk1 (shut_bool Tryz.underlying4 _), (trodAll_cons_mk (Below.trod aaZ (by kernel_rfl) (of_decide_eq_true (by kernel_rfl)) k0 bel lt0) (trodAll_cons_mk (Below.trod aaZ (by kernel_rfl) (of_decide_eq_true (by kernel_rfl)) k1 bel lt1) trodAll_mk0)), rfl, bel.frame _, fun h => by cases h⟩
theorem ai9 (os : Os) : laidMetH Tryz.prog laidL ((laidWorld os).forCall (fun _ _ => 0) ⟨#[], #[(Value.string ByteArray.empty), (Value.string ByteArray.empty)], []⟩).memory :=
 laidMetH_of_parts (laidMet_of_run' 8 (by kernel_rfl) (by kernel_rfl)) (by kernel_rfl)
theorem J1 (os : Os) {H : Type} (enc : TypeId × Value → H) : ∃ ds places, DataW.whole enc Tryz.prog ((laidWorld os).forCall (fun _ _ => 0) ⟨#[], #[(Value.string ByteArray.empty), (Value.string ByteArray.empty)], []⟩).memory Tryz.f4.params.toList Rows.scriptFirstSpec.vars false (#[(Value.string ByteArray.empty), (Value.string ByteArray.empty)] : Array Value).toList 8 = some (ds, [], places) :=
 ⟨[.lit (.string []), .lit (.string [])], [], by kernel_rfl⟩
theorem zA (os : Os) (started : os.Started) (H : Type) (enc : TypeId × Value → H) (F : Stop.Interp) :
 ReturnsInHanded {} Tryz.checked os 4 .any ((OpenSpec.ofChange Rows.scriptFirstSpec).preRow enc Tryz.prog Tryz.f4 Rows.scriptFirstRow.domain false Rows.scriptFirstRow.laid) (((OpenSpec.ofChange Rows.scriptFirstSpec).at F).post enc Tryz.prog Tryz.f4 false true false false) := by
 obtain ⟨ds, places, hx⟩ := J1 os enc
 refine returnsInHanded_of_row (C := Tryz.checked) (s := OpenSpec.ofChange Rows.scriptFirstSpec) own started (by kernel_rfl) Tryz.func4
  (witness_row_atRef (enc := enc) (C := Tryz.checked) false (laidWorld os) #[(Value.string ByteArray.empty), (Value.string ByteArray.empty)] rfl (by kernel_rfl) (by kernel_rfl) (by kernel_rfl)
    (OpenSpec.preRow_of_cond 8 hx (by kernel_rfl) (fun k hk => by cases hk) (by kernel_rfl) (ai9 os))) ?_
 intro W base args ds gs before hval hW _ _ _ hL hsh _
 exact yF H enc W base args ds gs before hval hW hL hsh
theorem scriptFirst_named : Tryz.pinned.checked.prog.funcNamed "hustings/hustingslaw32.ScriptFirst" = some 4 := by kernel_rfl
theorem Ks : Tryz.f4.isInstance Tryz.pinned.checked.prog Rows.scriptFirstRow.origin Rows.scriptFirstRow.targs := of_decide_eq_true (by kernel_rfl)
theorem Kt : Tryz.f4.isWrapper Tryz.pinned.checked.prog Rows.scriptFirstRow.wrapper Rows.scriptFirstRow.mainSum := by
 unfold Func.isWrapper; first | (rw [if_pos (by decide +kernel)]; kernel_rfl) | (rw [if_neg (by decide +kernel)]; exact ⟨rfl, rfl⟩)
theorem Ku : Rows.ScriptFirstSaid :=
 OpenClaim.holds_of_cond 4 Tryz.f4 rfl rfl rfl rfl rfl rfl rfl ⟨rfl, rfl, rfl, rfl, rfl⟩ rfl rfl rfl rfl rfl scriptFirst_named Tryz.func4 zz Ks Kt
  (fun os started H enc _ F => by rw [OpenClaim.pre_eq_preRow]; exact zA os started H enc F)
theorem J2 (f : FuncId) (fn : Func) (hf : Tryz.pinned.checked.prog.funcNamed "hustings/hustingslaw32.ScriptFirst" = some f) (hfn : Tryz.pinned.checked.prog.funcs[f]? = some fn) :
 true = Tryz.pinned.checked.prog.looks [] ∧ ∀ (j : Nat) t, fn.params[j]? = some t → Tryz.pinned.checked.prog.wantsStandIn t = false := by
 obtain rfl : f = 4 := Option.some.inj (scriptFirst_named.symm.trans hf) |>.symm
 obtain rfl : fn = Tryz.f4 := (Option.some.inj (Tryz.func4.symm.trans hfn)).symm
 refine ⟨by kernel_rfl, fun j t ht => ?_⟩
 rw [Tryz.params4] at ht
 have hm := Array.mem_of_getElem? ht
 simp only [List.mem_toArray, List.mem_cons, List.not_mem_nil, or_false] at hm
 rcases hm with rfl | rfl
 · exact (show Tryz.prog.wantsStandIn 9 = false by kernel_rfl)
 · exact (show Tryz.prog.wantsStandIn 9 = false by kernel_rfl)
theorem Ud : Rows.scriptFirstRow.wfByText (OpenSpec.ofChange Rows.scriptFirstSpec) = true := by kernel_rfl
theorem Kv : Tryz.pinned.checked.prog.mainIs = some (((true, "99677211de3b2824bd63a6ed52a86816314a6038bf1cfeb60f3e227bab959cf6") : Bool × String).1, ((true, "99677211de3b2824bd63a6ed52a86816314a6038bf1cfeb60f3e227bab959cf6") : Bool × String).2.toList) := by kernel_rfl
theorem scriptFirst_holds : Rows.ScriptFirstCardSaid :=
 Claim7.holds_tied_plain_at .later [] _ _ _ _ Ku (fun _ h => by cases h) Ud (fun _ h => by cases h) zg rfl ⟨rfl, rfl⟩ Kv rfl J2 ah2
#print axioms scriptFirst_holds
end Go.Proofs.YtgjlbilcnlffgaaGreatDoor
