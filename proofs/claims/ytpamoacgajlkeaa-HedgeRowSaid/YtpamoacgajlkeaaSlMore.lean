/-
  MORE STEPS (Sl). No program in sight.
-/
import Derived.Test.YtpamoacgajlkeaaSlTy
namespace Go.Proofs.Ytpamoacgajlkeaa
open Go.RowKit
set_option linter.unusedVariables false
variable {G : World} {P : Program} {n : Nat} {ρ : Slots} {L : Blocks} {ty : TypeId} {Q : Exit → Act → World → Prop}
/-- A guard whose own operation was not wanted. -/
theorem TL_gundef {ops : Array Oper} {d j dj : Nat} {op : Op} {pos : String} {after : Array Edge} {rest : List Oper} {want : Bool}
    (hs : guardSlot ops j = some dj) (hv : ρ.lookup dj = some undef) (hd : Nat.blt d n = true) (hr : TL P G ops n ((d, undef) :: ρ) L rest Q) : TL P G ops n ρ L (⟨some d, op, ty, pos, after, some (j, want)⟩ :: rest) Q :=
  ⟨fun a w he hw => wpList_step fun K hK => by
    have h1 := he.get dj _ hv
    have h2 : Region.wanted (⟨some d, op, ty, pos, after, some (j, want)⟩ : Oper) (yielded ops a.tmps) = false := by
      unfold guardSlot at hs
      simp [Region.wanted, yielded, hs, h1, undef]
    rw [h2, if_neg (by simp)]
    exact hK _ _ (hr.out _ _ (he.put d (by simpa using hd) undef) hw)⟩
/-- An array's type: how many, of how many cells each. -/
def arrTy (P : Program) (t : TypeId) : Option (Nat × Nat) := match P.underlying t with
  | some (.array len e) => match P.info? e with
    | some i => some (len, i.size)
    | none => none
  | _ => none
theorem op_idxA {x y : Operand} {b off len sz : Nat} {k : IntKind} {i : Int} {t : TypeId} (h : arrTy P t = some (len, sz)) (hx : ev ρ x = some (.pointer (some ⟨b, off, none⟩))) (hy : ev ρ y = some (.int k i)) (h0 : 0 ≤ i) (h1 : i < len) :
    OpQ P ρ L (.indexAddr t x y) ty (.pointer (some ⟨b, off + i.toNat * sz, none⟩)) := by
  unfold arrTy at h
  cases hu : P.underlying t with
  | none => simp [hu] at h
  | some d =>
    cases d <;> simp [hu] at h
    rename_i l e
    cases hi : P.info? e with
    | none => simp [hi] at h
    | some ti =>
      simp [hi] at h
      obtain ⟨rfl, rfl⟩ := h
      exact ⟨fun r hr w hw o ho _ => by simp [execOp, ho, hr _ _ hx, hr _ _ hy, Instr.indexAt, asIntOf, run_underlying hu, Instr.sureAddr, h0, h1, sizeOf, typeInfo, hi, addr_add]⟩
end Go.Proofs.Ytpamoacgajlkeaa
