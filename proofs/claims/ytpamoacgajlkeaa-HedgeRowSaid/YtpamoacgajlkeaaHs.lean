/-
  STEPS that hedge wants: min, max, stores into the second block, arrays by pointer, jumps back to a label (Sl). No program in sight.
-/
import Derived.Test.YtpamoacgajlkeaaSlTy
import Derived.Test.YtpamoacgajlkeaaSlMore
import Derived.Lib.MinMax
import Derived.ScopeJumps
namespace Go.Proofs.Ytpamoacgajlkeaa
open Go.RowKit
set_option linter.unusedVariables false
variable {G : World} {P : Program} {n : Nat} {ρ : Slots} {L : Blocks} {ty : TypeId} {Q : Exit → Act → World → Prop}
theorem op_min {x y : Operand} {k k' : IntKind} {a b : Int} {ts : Array TypeId} (hx : ev ρ x = some (.int k a)) (hy : ev ρ y = some (.int k' b)) : OpQ P ρ L (.call ⟨.builtin .min, #[x, y], ts⟩) ty (.int k (min a b)) :=
  ⟨fun r hr w hw o ho _ => by simp [execOp, ho, hr _ _ hx, hr _ _ hy, resolve, invoke, builtin, Lib.run_min_ints, Result.andThen]⟩
theorem op_max {x y : Operand} {k k' : IntKind} {a b : Int} {ts : Array TypeId} (hx : ev ρ x = some (.int k a)) (hy : ev ρ y = some (.int k' b)) : OpQ P ρ L (.call ⟨.builtin .max, #[x, y], ts⟩) ty (.int k (max a b)) :=
  ⟨fun r hr w hw o ho _ => by simp [execOp, ho, hr _ _ hx, hr _ _ hy, resolve, invoke, builtin, Lib.run_max_ints, Result.andThen]⟩
/-- A store into the second block. -/
theorem TL_st2 {ops : Array Oper} {x y : Operand} {pos : String} {after : Array Edge} {rest : List Oper} {b off : Nat} {t : TypeId} {C C' : Array Value} {te : TypeId} {v u : Value} {p : Nat × Obj} (hx : ev ρ x = some (.pointer (some ⟨b, off, none⟩))) (hy : ev ρ y = some v)
    (h1 : oneTy P t = true) (hone : v.oneCell' = true) (hv : C[off]? = some u) (hC : C.setIfInBounds off v = C') (h : TL P G ops n ρ (p :: (b, Obj.cells C' te (0, 0)) :: L) rest Q) :
    TL P G ops n ρ (p :: (b, Obj.cells C te (0, 0)) :: L) (⟨none, .store t x y, ty, pos, after, none⟩ :: rest) Q :=
  TL_perm (List.Perm.swap _ _ _) (TL_st hx hy h1 hone hv hC (TL_perm (List.Perm.swap _ _ _) h))
theorem T_mono {c : Code} {Q' : Exit → Act → World → Prop} (h : T P G n ρ L c Q) (hi : ∀ e a w, Q e a w → Q' e a w) : T P G n ρ L c Q' := ⟨fun a w he hw b k cs => by
  obtain ⟨e, a', w', hq, h2⟩ := h.out a w he hw b k cs
  exact ⟨e, a', w', hi _ _ _ hq, h2⟩⟩
theorem TQ_jump_ret {l : Nat} {J : Act → World → Prop} (h : TQ G n ρ L .ret Q) : TQ G n ρ L .ret (Exit.jump l J Q) := ⟨fun a w he hw => h.out a w he hw⟩
theorem TQ_jump_normal {l : Nat} {J : Act → World → Prop} (h : TQ G n ρ L .normal Q) : TQ G n ρ L .normal (Exit.jump l J Q) := ⟨fun a w he hw => h.out a w he hw⟩
theorem TQ_jump {σ : Type} {l m : Nat} {I : σ → Prop} {ρI : σ → Slots} {LI : σ → Blocks} {μ : σ → Nat} (x : σ) (hI : I x) (hs : Sub (ρI x) ρ) (hl : ∀ w, Heap G w L → Heap G w (LI x)) (hm : μ x < m) : TQ G n ρ L (.goto l) (Exit.jump l (LoopInv G n I ρI LI μ m) Q) :=
  ⟨fun a w he hw => ⟨rfl, x, hI, he.weak hs.get, hl w hw, hm⟩⟩
theorem least {S : Nat → Prop} (h : ∃ m, S m) : ∃ m, S m ∧ ∀ k, S k → m ≤ k := by
  obtain ⟨m, hm⟩ := h
  induction m using Nat.strongRecOn with
  | _ m ih =>
    by_cases hk : ∃ k, k < m ∧ S k
    · obtain ⟨k, h1, h2⟩ := hk
      exact ih k h1 h2
    · exact ⟨m, hm, fun k hk' => Nat.le_of_not_lt fun hlt => hk ⟨k, hlt, hk'⟩⟩
open Classical in
noncomputable def leastOf (S : Nat → Prop) : Nat := if h : ∃ m, S m then Classical.choose (least h) else 0
theorem leastOf_mem {S : Nat → Prop} (h : ∃ m, S m) : S (leastOf S) := by
  unfold leastOf
  rw [dif_pos h]
  exact (Classical.choose_spec (least h)).1
theorem leastOf_le {S : Nat → Prop} {k : Nat} (hk : S k) : leastOf S ≤ k := by
  unfold leastOf
  rw [dif_pos ⟨k, hk⟩]
  exact (Classical.choose_spec (least ⟨k, hk⟩)).2 k hk
/-- A scope with jumps back to one label. -/
theorem T_scope {σ : Type} {c rest : Code} (l : Nat) (hf : findLabel c l = some rest) (I : σ → Prop) (ρI : σ → Slots) (LI : σ → Blocks) (μ : σ → Nat)
    (first : (∀ x, I x → T P G n (ρI x) (LI x) rest (Exit.jump l (fun a w => ∃ x, I x ∧ Env n (ρI x) a ∧ Heap G w (LI x)) Q)) → T P G n ρ L c (Exit.jump l (fun a w => ∃ x, I x ∧ Env n (ρI x) a ∧ Heap G w (LI x)) Q))
    (pass : ∀ x, I x → T P G n (ρI x) (LI x) rest (Exit.jump l (LoopInv G n I ρI LI μ (μ x)) Q)) : T P G n ρ L (.scope c) Q := by
  have first' := first fun x hx => T_mono (pass x hx) fun e a w h => by
    cases e <;> first | exact h | exact ⟨h.1, by obtain ⟨y, h1, h2, h3, _⟩ := h.2; exact ⟨y, h1, h2, h3⟩⟩
  have hex : ∀ a w, (∃ x, I x ∧ Env n (ρI x) a ∧ Heap G w (LI x)) → ∃ m, ∃ x, I x ∧ Env n (ρI x) a ∧ Heap G w (LI x) ∧ μ x = m := fun a w ⟨x, h1, h2, h3⟩ => ⟨_, x, h1, h2, h3, rfl⟩
  refine ⟨fun a w he hw => wp_scope_jumps l (fun a w => ∃ x, I x ∧ Env n (ρI x) a ∧ Heap G w (LI x)) (fun a w => leastOf fun m => ∃ x, I x ∧ Env n (ρI x) a ∧ Heap G w (LI x) ∧ μ x = m) hf (first'.out a w he hw) fun a w hJ => ?_⟩
  obtain ⟨x, hI, h2, h3, hm⟩ := leastOf_mem (hex a w hJ)
  refine fun b k cs => ?_
  obtain ⟨e, a', w', hq, harr⟩ := (pass x hI).out a w h2 h3 b k cs
  refine ⟨e, a', w', ?_, harr⟩
  cases e with
  | goto l' =>
    obtain ⟨hl, y, g1, g2, g3, g4⟩ := hq
    exact ⟨hl, ⟨y, g1, g2, g3⟩, Nat.lt_of_le_of_lt (leastOf_le ⟨y, g1, g2, g3, rfl⟩) (hm ▸ g4)⟩
  | _ => exact hq
end Go.Proofs.Ytpamoacgajlkeaa
