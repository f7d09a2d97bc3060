/-
  WHAT the row's condition gives: the variables' cells; a world that meets it.
-/
import Derived.Test.YtjhgapeehhbkbaaGreatDoorNq
import Derived.Test.YtjhgapeehhbkbaaGreatDoorRows
import Derived.Lib.LaidTab
import Derived.Stop.LaidErr
import Derived.Stop.ErrReads
import Derived.LaidHandle
import Derived.LaidSub
import Derived.LaidLaws
import Derived.RowKit
import Derived.RowKitTokens
namespace Go.Proofs.YtjhgapeehhbkbaaGreatDoor
open Go.ChangeShapes Go.WideShapes Go.RowKit
set_option linter.unusedVariables false
set_option linter.unusedSimpArgs false
/-- The list of the row. -/
def laidL : List (String × DataW Unit) := [("errors.errorType", Rows.laid_errors_errorType), ("hustings/head.bits", Rows.laid_hustings_head_bits), ("hustings/heard.errBad", Rows.laid_hustings_heard_errBad), ("hustings/heard.errPass", Rows.laid_hustings_heard_errPass)]
theorem glob_bad : Tryz.prog.globalNamed "hustings/heard.errBad" = some 0 := by kernel_rfl
theorem glob_pass : Tryz.prog.globalNamed "hustings/heard.errPass" = some 1 := by kernel_rfl
theorem glob_bits : Tryz.prog.globalNamed "hustings/head.bits" = some 2 := by kernel_rfl
theorem type_bad : (Tryz.prog.globals[0]?).map (·.type) = some 233 := by kernel_rfl
theorem type_pass : (Tryz.prog.globals[1]?).map (·.type) = some 233 := by kernel_rfl
theorem type_bits : (Tryz.prog.globals[2]?).map (·.type) = some 388 := by kernel_rfl
theorem star_err : "*" ++ "errors.errorString" = "*errors.errorString" := by decide
theorem row_err (u : TypeId) (h : Tryz.prog.typeName? 3 u = some "*errors.errorString") : u = 552 :=
  typeName_ptr_named (nm := "errors.errorString") (by rw [star_err]; kernel_rfl) (by kernel_rfl) (by decide) u (by rw [star_err]; exact h)
theorem var_block {P : Program} {w : World} {n : String} {g : Nat} {cs : Array Value} (hg : P.globalNamed n = some g) (h : w.var? P n = some cs) : ∃ t fr, w.heap[g]? = some (.cells cs t fr) := by
  unfold World.var? at h
  rw [hg, Option.bind_some] at h
  split at h
  · rename_i cs' t fr hh
    cases h
    exact ⟨t, fr, hh⟩
  · cases h
theorem addr_none {W : World} {a : Addr} {v : Value} (h : W.cell? a = some v) : a = ⟨a.block, a.off, none⟩ := by
  obtain ⟨b, o, s⟩ := a
  unfold World.cell? at h
  split at h
  · cases s with
    | none => rfl
    | some x => simp at h
  · cases h
theorem laid_of {W : World} (h : laidMetH Tryz.prog laidL W) (hs : W.ShapedOpen Tryz.prog) : Ev.Laid (allBlocks W) := by
  have h1 := (laidMetH_iff.1 h).1
  have e1 : (laidL.filter fun x => x.2.handleName?.isNone) = [("hustings/head.bits", Rows.laid_hustings_head_bits), ("hustings/heard.errBad", Rows.laid_hustings_heard_errBad), ("hustings/heard.errPass", Rows.laid_hustings_heard_errPass)] := by kernel_rfl
  rw [e1] at h1
  have hbits : Lib.TabIs Tryz.prog W "hustings/head.bits" .u16 [32768, 1024, 512, 256, 128, 64, 32, 16] := Lib.tabIs_of_head (rest := _) glob_bits type_bits Tryz.underlying388 Tryz.underlying61 (by kernel_rfl) (by kernel_rfl) h1
  obtain ⟨t2, fr2, hp⟩ := var_block glob_bits hbits
  obtain ⟨a0, s0, hv0, hc0, _, _⟩ := laid_sentinel h1.tail glob_bad type_bad Tryz.underlying233 row_err Tryz.underlying552 Tryz.underlying599 rfl rfl Tryz.underlying9 (by kernel_rfl) (by kernel_rfl)
  obtain ⟨a1, s1, hv1, hc1, _, _⟩ := laid_sentinel h1.tail.tail glob_pass type_pass Tryz.underlying233 row_err Tryz.underlying552 Tryz.underlying599 rfl rfl Tryz.underlying9 (by kernel_rfl) (by kernel_rfl)
  obtain ⟨t0, fr0, hb0⟩ := var_block glob_bad hv0
  obtain ⟨t1, fr1, hb1⟩ := var_block glob_pass hv1
  obtain ⟨c0, g0, _, _⟩ := hs.1 0 #[.nilIface] 233 (of_decide_eq_true (by kernel_rfl)) (by kernel_rfl)
  obtain ⟨c1, g1, _, _⟩ := hs.1 1 #[.nilIface] 233 (of_decide_eq_true (by kernel_rfl)) (by kernel_rfl)
  obtain ⟨c2, g2, _, _⟩ := hs.1 2 #[.int .u16 0, .int .u16 0, .int .u16 0, .int .u16 0, .int .u16 0, .int .u16 0, .int .u16 0, .int .u16 0] 388 (of_decide_eq_true (by kernel_rfl)) (by kernel_rfl)
  rw [hb0] at g0
  rw [hb1] at g1
  rw [hp] at g2
  cases g0
  cases g1
  cases g2
  refine ⟨(a0.block, a0.off), (a1.block, a1.off), ?_, ?_, mem_all hp⟩
  · rw [addr_none hc0] at hb0
    exact mem_all hb0
  · rw [addr_none hc1] at hb1
    exact mem_all hb1
def setC (c : Array Value) : Obj → Obj
  | .cells _ t fr => .cells c t fr
  | o => o
/-- A world for the witness: the settled one, the listed variables holding what their text lays. -/
noncomputable def laidWorld (os : Os) : World :=
  { World.holding Tryz.prog os ⟨#[], #[], []⟩ with heap := ((((((World.holding Tryz.prog os ⟨#[], #[], []⟩).heap.modify 0 (setC #[.iface 552 (.pointer (some ⟨(World.holding Tryz.prog os ⟨#[], #[], []⟩).heap.size, 0, none⟩))])).modify 1 (setC #[.iface 552 (.pointer (some ⟨(World.holding Tryz.prog os ⟨#[], #[], []⟩).heap.size + 1, 0, none⟩))])).modify 2
    (setC #[.int .u16 32768, .int .u16 1024, .int .u16 512, .int .u16 256, .int .u16 128, .int .u16 64, .int .u16 32, .int .u16 16])).modify 3 (setC #[.iface (((Tryz.prog.cutTypes.find? (·.1 == "internal/reflectlite.rtype")).map (·.2)).getD 0) (.agg #[typeHandle Tryz.prog 233])])).push
    (.cells #[.string ⟨#[116, 104, 101, 32, 114, 101, 112, 108, 121, 32, 105, 115, 32, 98, 97, 100]⟩] 599)).push (.cells #[.string ⟨#[116, 104, 101, 32, 114, 101, 112, 108, 121, 32, 105, 115, 32, 97, 32, 112, 97, 115, 115]⟩] 599) }
theorem own : ownKnob Tryz.prog.godebug = none := by kernel_rfl
theorem met (os : Os) : laidMetH Tryz.prog laidL ((laidWorld os).forCall (fun _ _ => 0) ⟨#[], #[], []⟩).memory :=
  laidMetH_of_parts (laidMet_of_run' 8 (by kernel_rfl) (by kernel_rfl)) (by kernel_rfl)
end Go.Proofs.YtjhgapeehhbkbaaGreatDoor
