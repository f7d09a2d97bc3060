/-
  WHAT HOLDS BETWEEN TWO PARTS (Sl). No program in sight.
-/
import Derived.Test.YtpamoacgajlkeaaHs
namespace Go.Proofs.Ytpamoacgajlkeaa
open Go.RowKit
set_option linter.unusedVariables false
variable {G : World} {P : Program} {n : Nat} {ρ : Slots} {L : Blocks} {ty : TypeId} {Q : Exit → Act → World → Prop}
def Mid {σ : Type} (G : World) (n : Nat) (I : σ → Prop) (ρI : σ → Slots) (LI : σ → Blocks) (a : Act) (w : World) : Prop := ∃ x, I x ∧ Env n (ρI x) a ∧ Heap G w (LI x)
theorem T_mid {σ : Type} {x y : Code} (I : σ → Prop) (ρI : σ → Slots) (LI : σ → Blocks) (hx : T P G n ρ L x (Exit.then (Mid G n I ρI LI) Q)) (hy : ∀ s, I s → T P G n (ρI s) (LI s) y Q) : T P G n ρ L (.seq x y) Q :=
  T_seq (T_mono hx fun e a w h => by
    cases e with
    | normal =>
      obtain ⟨s, h1, h2, h3⟩ := h
      exact (hy s h1).out a w h2 h3
    | _ => exact h)
theorem TQ_mid {σ : Type} {I : σ → Prop} {ρI : σ → Slots} {LI : σ → Blocks} (x : σ) (hI : I x) (hs : Sub (ρI x) ρ) (hl : ∀ w, Heap G w L → Heap G w (LI x)) : TQ G n ρ L .normal (Exit.then (Mid G n I ρI LI) Q) :=
  ⟨fun a w he hw => ⟨x, hI, he.weak hs.get, hl w hw⟩⟩
end Go.Proofs.Ytpamoacgajlkeaa
