/-
  PLAIN: the order of names is an order; what is within a zone stands together.
-/
import Derived.Test.YtoonclcppokdeaaCmp
namespace Go.Proofs.Ytoonclcppokdeaa
open Go.RowKit

/-- Something that compares. -/
structure Cmps {α : Type} (c : α → α → Int) : Prop where
  zero : ∀ a b, c a b = 0 ↔ a = b
  anti : ∀ a b, c b a = - c a b
  lo : ∀ a b, -1 ≤ c a b
  trans : ∀ a b d, c a b ≤ 0 → c b d ≤ 0 → c a d ≤ 0
theorem Cmps.self {α : Type} {c : α → α → Int} (h : Cmps c) (a : α) : c a a = 0 := (h.zero a a).2 rfl
theorem Cmps.hi {α : Type} {c : α → α → Int} (h : Cmps c) (a b : α) : c a b ≤ 1 := by have := h.anti b a; have := h.lo b a; omega
theorem Cmps.strict {α : Type} {c : α → α → Int} (h : Cmps c) {a b d : α} (h1 : c a b ≤ 0) (h2 : c b d ≤ 0) : c a d < 0 ↔ (c a b < 0 ∨ c b d < 0) := by
  have h3 := h.trans a b d h1 h2
  constructor
  · intro h4
    by_cases h5 : c a b = 0
    · have := (h.zero a b).1 h5; subst this; exact Or.inr h4
    · left; omega
  · intro h4
    by_cases h5 : c a d = 0
    · have := (h.zero a d).1 h5
      subst this
      have h6 := h.anti a b
      omega
    · omega

def lexC {α : Type} (c : α → α → Int) : List α → List α → Int
  | [], [] => 0
  | [], _ :: _ => -1
  | _ :: _, [] => 1
  | x :: xs, y :: ys => if c x y = 0 then lexC c xs ys else c x y
theorem lexC_cmps {α : Type} {c : α → α → Int} (h : Cmps c) : Cmps (lexC c) := by
  have zero : ∀ a b, lexC c a b = 0 ↔ a = b := by
    intro a
    induction a with
    | nil => intro b; cases b <;> simp [lexC]
    | cons x xs ih =>
      intro b
      cases b with
      | nil => simp [lexC]
      | cons y ys =>
        simp only [lexC]
        split
        · rename_i h0; rw [ih]; have := (h.zero x y).1 h0; subst this; simp
        · rename_i h0
          constructor
          · intro h1; exact absurd h1 h0
          · intro h1; cases h1; exact absurd (h.self x) h0
  have anti : ∀ a b, lexC c b a = - lexC c a b := by
    intro a
    induction a with
    | nil => intro b; cases b <;> simp [lexC]
    | cons x xs ih =>
      intro b
      cases b with
      | nil => simp [lexC]
      | cons y ys =>
        simp only [lexC]
        have ha := h.anti x y
        by_cases h0 : c x y = 0
        · rw [if_pos h0, if_pos (by omega), ih]
        · rw [if_neg h0, if_neg (by omega), ha]
  refine ⟨zero, anti, ?_, ?_⟩
  · intro a
    induction a with
    | nil => intro b; cases b <;> simp [lexC]
    | cons x xs ih =>
      intro b
      cases b with
      | nil => simp [lexC]
      | cons y ys =>
        simp only [lexC]
        split
        · exact ih ys
        · exact h.lo x y
  · intro a
    induction a with
    | nil => intro b d _ _; cases d <;> simp [lexC]
    | cons x xs ih =>
      intro b d h1 h2
      cases b with
      | nil => simp [lexC] at h1
      | cons y ys =>
        cases d with
        | nil => simp [lexC] at h2
        | cons z zs =>
          simp only [lexC] at h1 h2 ⊢
          have hxy := h.zero x y
          have hyz := h.zero y z
          have hxz := h.zero x z
          by_cases k1 : c x y = 0
          · have e := hxy.1 k1
            subst e
            rw [if_pos k1] at h1
            by_cases k2 : c x z = 0
            · rw [if_pos k2] at h2 ⊢; exact ih ys zs h1 h2
            · rw [if_neg k2] at h2 ⊢; exact h2
          · rw [if_neg k1] at h1
            by_cases k2 : c y z = 0
            · have e := hyz.1 k2
              subst e
              rw [if_neg k1]
              exact h1
            · rw [if_neg k2] at h2
              have h3 := h.trans x y z h1 h2
              have h4 := (h.strict h1 h2).2 (Or.inl (by omega))
              rw [if_neg (by omega)]
              exact h3
def byteC (a b : UInt8) : Int := if a < b then -1 else if b < a then 1 else 0
theorem byteC_cmps : Cmps byteC := by
  have key : ∀ a b : UInt8, (a < b ↔ a.toNat < b.toNat) := fun a b => UInt8.lt_iff_toNat_lt
  have val : ∀ a b : UInt8, byteC a b = if a.toNat < b.toNat then -1 else if b.toNat < a.toNat then 1 else 0 := fun a b => by unfold byteC; simp only [key]
  refine ⟨fun a b => ?_, fun a b => ?_, fun a b => ?_, fun a b d => ?_⟩
  · rw [val, ← UInt8.toNat_inj]; split <;> (try split) <;> omega
  · rw [val, val]; split <;> split <;> (try split) <;> omega
  · rw [val]; split <;> (try split) <;> omega
  · rw [val, val, val]; intro h1 h2; split at h1 <;> split at h2 <;> split <;> (try split) <;> (try split at h1) <;> (try split at h2) <;> omega
theorem compareBytes_lex : ∀ a b, Lib.compareBytes a b = lexC byteC a b
  | [], [] => by simp [Lib.compareBytes, lexC]
  | [], _ :: _ => by simp [Lib.compareBytes, lexC]
  | _ :: _, [] => by simp [Lib.compareBytes, lexC]
  | a :: r, b :: t => by
    have ih := compareBytes_lex r t
    rw [Lib.compareBytes, lexC]
    by_cases h1 : a < b
    · simp [byteC, h1]
    · by_cases h2 : b < a
      · simp [byteC, h1, h2]
      · rw [if_neg h1, if_neg h2, if_pos (by simp [byteC, h1, h2]), ih]
theorem compareBytes_cmps : Cmps Lib.compareBytes := by
  have : Lib.compareBytes = lexC byteC := funext fun a => funext fun b => compareBytes_lex a b
  rw [this]; exact lexC_cmps byteC_cmps
theorem cmpR_lex : ∀ a b, cmpR a b = lexC Lib.compareBytes a b
  | [], [] => rfl
  | [], _ :: _ => rfl
  | _ :: _, [] => rfl
  | x :: xs, y :: ys => by simp only [cmpR, lexC]; rw [cmpR_lex xs ys]
theorem cmpR_cmps : Cmps cmpR := by
  have : cmpR = lexC Lib.compareBytes := funext fun a => funext fun b => cmpR_lex a b
  rw [this]; exact lexC_cmps compareBytes_cmps

/-- The labels, folded, the last one first. -/
def revL (n : Nm.Bytes) : List Nm.Bytes := (Nm.lowL (Nm.labels n)).reverse
theorem cmpN_rev {a b : Nm.Bytes} (ha : Nm.may a = true) (hb : Nm.may b = true) : cmpN a b = cmpR (revL a) (revL b) := by
  obtain ⟨x, hx⟩ := Nm.nm_of_may ha
  obtain ⟨y, hy⟩ := Nm.nm_of_may hb
  simp [cmpN, revL, Nm.labels, hx, hy, cmpL]
theorem cmpN_no {a b : Nm.Bytes} (h : Nm.may a = false ∨ Nm.may b = false) : cmpN a b = 0 := by
  unfold cmpN
  rcases h with h | h
  · rw [Nm.nm_of_not h]
  · rw [Nm.nm_of_not h]; cases Nm.nm a <;> rfl
theorem same_rev {a b : Nm.Bytes} (ha : Nm.may a = true) (hb : Nm.may b = true) : Nm.same a b = true ↔ revL a = revL b := by
  obtain ⟨x, hx⟩ := Nm.nm_of_may ha
  obtain ⟨y, hy⟩ := Nm.nm_of_may hb
  obtain ⟨hx1, hx2, _⟩ := Nm.nm_iff.1 hx
  obtain ⟨hy1, hy2, _⟩ := Nm.nm_iff.1 hy
  simp only [Nm.same, ha, hb, Bool.true_and, beq_iff_eq, revL, Nm.labels, hx, hy, Option.getD_some]
  constructor
  · intro h
    rw [hx1, hy1, Nm.low_enc _ hx2, Nm.low_enc _ hy2] at h
    rw [Nm.enc_inj (Nm.lowL_ok hx2) (Nm.lowL_ok hy2) h]
  · intro h
    have h' : Nm.lowL x = Nm.lowL y := by simpa using congrArg List.reverse h
    rw [hx1, hy1, Nm.low_enc _ hx2, Nm.low_enc _ hy2, h']
theorem within_rev {a z : Nm.Bytes} (ha : Nm.may a = true) (hz : Nm.may z = true) : Nm.within a z = true ↔ revL z <+: revL a := by
  obtain ⟨x, hx⟩ := Nm.nm_of_may ha
  obtain ⟨y, hy⟩ := Nm.nm_of_may hz
  simp [Nm.within, revL, Nm.labels, hx, hy, List.isSuffixOf_iff_suffix]
theorem within_may {a z : Nm.Bytes} (h : Nm.within a z = true) : Nm.may a = true ∧ Nm.may z = true := by
  unfold Nm.within at h
  cases hx : Nm.nm a with
  | none => rw [hx] at h; simp at h
  | some x => cases hy : Nm.nm z with
    | none => rw [hx, hy] at h; simp at h
    | some y => exact ⟨Nm.may_some hx, Nm.may_some hy⟩
theorem lex_prefix {α : Type} {c : α → α → Int} (h : Cmps c) : ∀ {p x : List α}, p <+: x → lexC c p x ≤ 0
  | [], x, _ => by cases x <;> simp [lexC]
  | a :: p, x, hp => by
    obtain ⟨t, rfl⟩ := hp
    simp only [List.cons_append, lexC, h.self a, if_true]
    exact lex_prefix h ⟨t, rfl⟩
theorem lex_between {α : Type} {c : α → α → Int} (h : Cmps c) : ∀ {p x y z : List α}, p <+: x → p <+: z → lexC c x y ≤ 0 → lexC c y z ≤ 0 → p <+: y
  | [], _, _, _, _, _, _, _ => List.nil_prefix
  | a :: p, x, y, z, hx, hz, h1, h2 => by
    obtain ⟨s, rfl⟩ := hx
    obtain ⟨t, rfl⟩ := hz
    cases y with
    | nil => simp [lexC] at h1
    | cons b y =>
      simp only [List.cons_append, lexC] at h1 h2
      have hab : c a b = 0 := by
        by_cases k : c a b = 0
        · exact k
        · rw [if_neg k] at h1
          have hba := h.anti a b
          rw [if_neg (by omega)] at h2
          omega
      have e := (h.zero a b).1 hab
      subst e
      rw [if_pos hab] at h1
      rw [if_pos hab] at h2
      exact (List.cons_prefix_cons).2 ⟨rfl, lex_between h ⟨s, rfl⟩ ⟨t, rfl⟩ h1 h2⟩
end Go.Proofs.Ytoonclcppokdeaa
