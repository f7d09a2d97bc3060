/-
  THE WHOLE: true, whatever the world, where the variables hold what they are laid with.
-/
import Derived.Test.YtjhgapeehhbkbaaGreatDoorNp
namespace Go.Proofs.YtjhgapeehhbkbaaGreatDoor.Ev
open Go Go.RowKit
set_option linter.unusedVariables false
set_option linter.unusedSimpArgs false
set_option maxRecDepth 100000
noncomputable def laid0 : List (Nat × AO) := [(0, .cells [.ifc 552 (.ptrK 100)] 233), (1, .cells [.ifc 552 (.ptrK 101)] 233), (2, .cells [.int .u16 32768, .int .u16 1024, .int .u16 512, .int .u16 256, .int .u16 128, .int .u16 64, .int .u16 32, .int .u16 16] 388)]
noncomputable def endB (E : FunE) : Bool := toTrK laid0 .leaf fun t => Option.rec false (fun q => Bool.rec false (hasO laid0 q.2) (beqV (.bool true) q.1)) (E 3 [] ⟨t, 102⟩)
theorem end_ok : endB EZ = true := by kernel_rfl
/-- What the variables hold. -/
def Laid (L : Blocks) : Prop := ∃ (b c : Nat × Nat), (0, Obj.cells #[.iface 552 (.pointer (some ⟨b.1, b.2, none⟩))] 233 (0, 0)) ∈ L ∧ (1, Obj.cells #[.iface 552 (.pointer (some ⟨c.1, c.2, none⟩))] 233 (0, 0)) ∈ L ∧
  (2, Obj.cells #[.int .u16 32768, .int .u16 1024, .int .u16 512, .int .u16 256, .int .u16 128, .int .u16 64, .int .u16 32, .int .u16 16] 388 (0, 0)) ∈ L
theorem look_laid {i : Nat} {o : AO} (h : look laid0 i = some o) : i = 0 ∧ o = .cells [.ifc 552 (.ptrK 100)] 233 ∨ i = 1 ∧ o = .cells [.ifc 552 (.ptrK 101)] 233 ∨
    i = 2 ∧ o = .cells [.int .u16 32768, .int .u16 1024, .int .u16 512, .int .u16 256, .int .u16 128, .int .u16 64, .int .u16 32, .int .u16 16] 388 := by
  unfold laid0 at h
  rw [look_cons, look_cons, look_cons] at h
  split at h
  · cases h; exact Or.inl ⟨by assumption, rfl⟩
  · split at h
    · cases h; exact Or.inr (Or.inl ⟨by assumption, rfl⟩)
    · split at h
      · cases h; exact Or.inr (Or.inr ⟨by assumption, rfl⟩)
      · cases h
/-- The first numbers are blocks; two more are the errors' places. -/
def sg0 (b c : Nat × Nat) : Sg := fun i => if i < 100 then some (i, 0) else if i = 100 then some b else if i = 101 then some c else none
theorem den_err {σ : Sg} {n e : Nat} {b : Nat × Nat} (h : σ n = some b) {κ : Nat} {O : Obj} : DenO σ κ (.cells [.ifc 552 (.ptrK n)] e) O ↔ O = .cells #[.iface 552 (.pointer (some ⟨b.1, b.2, none⟩))] e (0, 0) := by
  constructor
  · rintro ⟨M, h1, rfl⟩
    obtain ⟨V, N, rfl, h2, h3⟩ := h1.inv
    rw [h3.inv0]
    simp only [Den] at h2
    obtain ⟨U, ⟨x, hx, rfl⟩, rfl⟩ := h2
    rw [h] at hx
    cases hx
    rfl
  · rintro rfl
    exact ⟨[_], .cons (by simp only [Den]; exact ⟨_, ⟨b, h, rfl⟩, rfl⟩) .nil, rfl⟩
theorem den_bits {σ : Sg} {e : Nat} {κ : Nat} {O : Obj} : DenO σ κ (.cells [.int .u16 32768, .int .u16 1024, .int .u16 512, .int .u16 256, .int .u16 128, .int .u16 64, .int .u16 32, .int .u16 16] e) O ↔ O = .cells #[.int .u16 32768, .int .u16 1024, .int .u16 512, .int .u16 256, .int .u16 128, .int .u16 64, .int .u16 32, .int .u16 16] e (0, 0) := by
  constructor
  · rintro ⟨M, h, rfl⟩
    simp only [DenL, Den] at h
    obtain ⟨_, _, rfl, rfl, _, _, rfl, rfl, _, _, rfl, rfl, _, _, rfl, rfl, _, _, rfl, rfl, _, _, rfl, rfl, _, _, rfl, rfl, _, _, rfl, rfl, rfl⟩ := h
    rfl
  · rintro rfl
    exact ⟨[.int .u16 32768, .int .u16 1024, .int .u16 512, .int .u16 256, .int .u16 128, .int .u16 64, .int .u16 32, .int .u16 16], by simp only [DenL, Den]; exact ⟨_, _, rfl, rfl, _, _, rfl, rfl, _, _, rfl, rfl, _, _, rfl, rfl, _, _, rfl, rfl, _, _, rfl, rfl, _, _, rfl, rfl, _, _, rfl, rfl, rfl⟩, rfl⟩
theorem whole_S {G : World} {L : Blocks} (h : Laid L) : Spec Tryz.prog G 3 #[] L fun u M => u = .bool true ∧ ∀ p ∈ L, p ∈ M := by
  obtain ⟨b, c, h0, h1, h2⟩ := h
  refine ⟨fun w hw => ?_⟩
  have hnd := hw.nodup
  let σ := sg0 b c
  have s100 : σ 100 = some b := rfl
  have s101 : σ 101 = some c := rfl
  have slow : ∀ i, i < 100 → σ i = some (i, 0) := fun i hi => if_pos hi
  let F : Fm := ⟨L.filter fun p => decide (3 ≤ p.1), fun _ => none, fun _ => False⟩
  have hF : ∀ p, p ∈ F.b ↔ p ∈ L ∧ 3 ≤ p.1 := fun p => by
    show p ∈ L.filter _ ↔ _
    rw [List.mem_filter]
    simp
  have hsm : smallL laid0 = true := by kernel_rfl
  have hget : ∀ i, (toTr laid0 .leaf).get i = look laid0 i := fun i => by
    rw [toTr_get hsm]
    cases look laid0 i <;> rfl
  have hm : MemR σ ⟨toTr laid0 .leaf, 102⟩ F L := by
    refine ⟨fun i o x e ex => ?_, fun i j o o' x y e e' ex ey exy => ?_, fun p hp => ((hF p).1 hp).1, fun i o x e ex p hp => ?_, fun i o e => (by cases e), fun i hi => ?_, fun i o e => ?_, fun g hg => slow g hg, fun i e => e.elim⟩
    · rw [hget] at e
      rcases look_laid e with ⟨rfl, rfl⟩ | ⟨rfl, rfl⟩ | ⟨rfl, rfl⟩
      · rw [slow 0 (by omega)] at ex; cases ex; exact ⟨_, (den_err s100).2 rfl, h0⟩
      · rw [slow 1 (by omega)] at ex; cases ex; exact ⟨_, (den_err s101).2 rfl, h1⟩
      · rw [slow 2 (by omega)] at ex; cases ex; exact ⟨_, den_bits.2 rfl, h2⟩
    · rw [hget] at e e'
      have hi : i < 100 := by rcases look_laid e with ⟨rfl, _⟩ | ⟨rfl, _⟩ | ⟨rfl, _⟩ <;> omega
      have hj : j < 100 := by rcases look_laid e' with ⟨rfl, _⟩ | ⟨rfl, _⟩ | ⟨rfl, _⟩ <;> omega
      rw [slow i hi] at ex
      rw [slow j hj] at ey
      cases ex
      cases ey
      exact exy
    · rw [hget] at e
      have hi : i < 3 := by rcases look_laid e with ⟨rfl, _⟩ | ⟨rfl, _⟩ | ⟨rfl, _⟩ <;> omega
      rw [slow i (by omega)] at ex
      cases ex
      have := ((hF p).1 hp).2
      dsimp only
      omega
    · show sg0 b c i = none
      have hi : 102 ≤ i := hi
      unfold sg0
      rw [if_neg (by omega), if_neg (by omega), if_neg (by omega)]
    · rw [hget] at e
      rcases look_laid e with ⟨rfl, _⟩ | ⟨rfl, _⟩ | ⟨rfl, _⟩ <;> (dsimp only; omega)
  have hend := end_ok
  unfold endB at hend
  rw [toTrK_eq] at hend
  cases hq : EZ 3 [] ⟨toTr laid0 .leaf, 102⟩ with
  | none => rw [hq] at hend; cases hend
  | some q =>
    rw [hq] at hend
    obtain ⟨v, m'⟩ := q
    obtain ⟨hv, hh⟩ := and_rec hend
    obtain rfl : AV.bool true = v := beqV_eq _ _ hv
    have hsp := EZ_ok (G := G) hq (.nil (σ := σ)) hm
    refine (hsp.out w hw).mono fun e w' ⟨u, M, he, ⟨σ', k1, k2, k3⟩, hM⟩ => ⟨u, M, he, ⟨by simpa [Den] using k2, fun p hp => ?_⟩, hM⟩
    by_cases hp3 : 3 ≤ p.1
    · exact k3.frame p ((hF p).2 ⟨hp, hp3⟩)
    · have uniq : ∀ q ∈ L, q.1 = p.1 → q = p := fun q hq e => by
        obtain ⟨A, B, rfl⟩ := List.append_of_mem hp
        rw [List.map_append, List.map_cons, List.nodup_append, List.nodup_cons] at hnd
        rcases List.mem_append.1 hq with h | h
        · exact absurd e (hnd.2.2 q.1 (List.mem_map.2 ⟨q, h, rfl⟩) p.1 (List.mem_cons_self ..))
        · rcases List.mem_cons.1 h with h | h
          · exact h
          · exact absurd (List.mem_map.2 ⟨q, h, e⟩) hnd.2.1.1
      have hcase : p.1 = 0 ∨ p.1 = 1 ∨ p.1 = 2 := by omega
      rcases hcase with e | e | e
      · obtain rfl := uniq _ h0 e.symm
        obtain ⟨O, g1, g2⟩ := k3.get 0 _ (0, 0) (hasO_look hh 0 _ (by unfold laid0; rw [look_cons]; rfl)) (k1 _ _ (slow 0 (by omega)))
        rw [(den_err (k1 _ _ s100)).1 g1] at g2
        exact g2
      · obtain rfl := uniq _ h1 e.symm
        obtain ⟨O, g1, g2⟩ := k3.get 1 _ (1, 0) (hasO_look hh 1 _ (by unfold laid0; rw [look_cons, look_cons]; rfl)) (k1 _ _ (slow 1 (by omega)))
        rw [(den_err (k1 _ _ s101)).1 g1] at g2
        exact g2
      · obtain rfl := uniq _ h2 e.symm
        obtain ⟨O, g1, g2⟩ := k3.get 2 _ (2, 0) (hasO_look hh 2 _ (by unfold laid0; rw [look_cons, look_cons, look_cons]; rfl)) (k1 _ _ (slow 2 (by omega)))
        rw [den_bits.1 g1] at g2
        exact g2
theorem below_of {f : FuncId} {args : Array Value} {w : World} {v : Value} (h : Spec Tryz.prog w f args (allBlocks w) fun u M => u = v ∧ ∀ p ∈ allBlocks w, p ∈ M) :
    Calls Tryz.prog f args w fun e w' => e = .returned v ∧ Below w.heap.size w w' :=
  (h.out w (Heap.all w)).mono fun e w' ⟨u, M, h1, ⟨h2, h3⟩, h4⟩ => by
    subst h2
    refine ⟨h1, h4.still.os, h4.still.tape, h4.still.output, h4.still.size, fun k hk => ?_⟩
    have hg : w.heap[k]? = some w.heap[k] := Array.getElem?_eq_getElem hk
    rw [hg]
    exact h4.get _ (h3 _ (mem_all hg))
end Go.Proofs.YtjhgapeehhbkbaaGreatDoor.Ev
