/-
  STRUCTS in the walk: a load of all cells, a row of one struct.
-/
import Derived.Test.YtoonclcppokdeaaSlTy
import Derived.Test.YtoonclcppokdeaaSlMore
import Derived.Laws.Cells
namespace Go.Proofs.Ytoonclcppokdeaa
open Go.RowKit
set_option linter.unusedVariables false
section
variable {G : World} {P : Program} {n : Nat} {ρ : Slots} {L : Blocks} {ty : TypeId} {Q : Exit → Act → World → Prop}
/-- A struct's type: how many cells. -/
def structTy (P : Program) (t : TypeId) (k : Nat) : Bool := (match P.underlying t with | some (.struct _) => true | _ => false) && (match P.info? t with | some i => i.size == k | none => false)
theorem op_ldA {x : Operand} {b off : Nat} {t : TypeId} {C : Array Value} {te : TypeId} {fr : Nat × Nat} (cs : List Value) (hx : ev ρ x = some (.pointer (some ⟨b, off, none⟩)))
    (ht : structTy P t cs.length = true) (hm : (b, Obj.cells C te fr) ∈ L) (hv : ∀ j v, cs[j]? = some v → C[off + j]? = some v) : OpQ P ρ L (.load t x) ty (.agg cs.toArray) :=
  ⟨fun r hr w hw o ho _ => by
    unfold structTy at ht
    cases hu : P.underlying t with
    | none => simp [hu] at ht
    | some d =>
      cases hi : P.info? t with
      | none => simp [hi] at ht
      | some i =>
        cases d with
        | struct fs =>
          simp [hu, hi] at ht
          have ha : (isAgg t).run P w = .ok true w := by
            unfold isAgg
            simp [run_underlying hu]
          have hc := run_loadCells_list (P := P) (w := w) ⟨b, off, none⟩ cs (fun j v hj => by rw [addr_add]; exact hw.cell hm (hv j v hj))
          simp [execOp, ho, hr _ _ hx, Instr.loadAt, Instr.sureAddr, loadVar, ha, sizeOf, typeInfo, hi, ht, hc]
        | _ => simp [hu] at ht⟩
theorem rowLitA3 {t e : TypeId} {z v0 v1 v2 : Value} {bytes : Nat} (E : ElemTy P t e 3 bytes z) (h0 : v0.oneCell' = true) (h1 : v1.oneCell' = true) (h2 : v2.oneCell' = true) : RowLit P t 1 [(0, .agg #[v0, v1, v2])] e #[v0, v1, v2] :=
  ⟨fun w => by
    obtain ⟨i, q2, q3, q4, q5⟩ := E.info
    have hr3 : Array.range 3 = #[0, 1, 2] := by decide
    simp [Instr.buildSlice, run_underlying E.und, sizeOf, typeInfo, q2, q4, zeroValue, q3, Instr.fill, Value.cells, newRow, hr3]⟩
end
end Go.Proofs.Ytoonclcppokdeaa
