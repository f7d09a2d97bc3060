/-
  MORE STEPS (Sl). No program in sight.
-/
import Derived.Test.YtoonclcppokdeaaSlTy
namespace Go.Proofs.Ytoonclcppokdeaa
open Go.RowKit
set_option linter.unusedVariables false
variable {G : World} {P : Program} {n : Nat} {ρ : Slots} {L : Blocks} {ty : TypeId} {Q : Exit → Act → World → Prop}
/-- A guard whose own operation was not wanted. -/
theorem TL_gundef {ops : Array Oper} {d j dj : Nat} {op : Op} {pos : String} {after : Array Edge} {rest : List Oper} {want : Bool}
    (hs : guardSlot ops j = some dj) (hv : ρ.lookup dj = some undef) (hd : Nat.blt d n = true) (hr : TL P G ops n ((d, undef) :: ρ) L rest Q) : TL P G ops n ρ L (⟨some d, op, ty, pos, after, some (j, want)⟩ :: rest) Q :=
  ⟨fun a w he hw => wpList_step fun K hK => by
    have h1 := he.get dj _ hv
    have h2 : Region.wanted (⟨some d, op, ty, pos, after, some (j, want)⟩ : Oper) (yielded ops a.tmps) = false := by
      unfold guardSlot at hs
      simp [Region.wanted, yielded, hs, h1, undef]
    rw [h2, if_neg (by simp)]
    exact hK _ _ (hr.out _ _ (he.put d (by simpa using hd) undef) hw)⟩
end Go.Proofs.Ytoonclcppokdeaa
