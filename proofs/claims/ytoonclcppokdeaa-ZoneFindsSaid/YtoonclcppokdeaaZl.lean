/-
  PLAIN: what a table of zones finds.
-/
import Derived.Test.YtoonclcppokdeaaWFind
namespace Go.Proofs.Ytoonclcppokdeaa
open Go.RowKit

/-- Zones that are a table. -/
structure Good (zs : List Zn) : Prop where
  few : zs.length ≤ 16
  ok : ∀ z ∈ zs, okZ z = true
  apart : zs.Pairwise fun x y => x.name ≠ y.name

theorem chk_zero : ∀ (rest seen : List Zn), chk seen rest = 0 → (∀ z ∈ rest, okZ z = true) ∧ rest.Pairwise (fun x y => x.name ≠ y.name) ∧ ∀ x ∈ seen, ∀ y ∈ rest, x.name ≠ y.name
  | [], _, _ => ⟨by simp, by simp, by simp⟩
  | z :: rest, seen, h => by
    unfold chk at h
    split at h
    · rename_i hok
      split at h
      · cases h
      · rename_i hany
        obtain ⟨h1, h2, h3⟩ := chk_zero rest (seen ++ [z]) h
        refine ⟨?_, ?_, ?_⟩
        · intro y hy
          rcases List.mem_cons.1 hy with rfl | hy
          · exact hok
          · exact h1 y hy
        · refine List.pairwise_cons.2 ⟨fun y hy => h3 z (by simp) y hy, h2⟩
        · intro x hx y hy
          rcases List.mem_cons.1 hy with rfl | hy
          · simp at hany
            exact hany x hx
          · exact h3 x (List.mem_append_left _ hx) y hy
    · cases h
theorem chk_of : ∀ (rest seen : List Zn), (∀ z ∈ rest, okZ z = true) → rest.Pairwise (fun x y => x.name ≠ y.name) → (∀ x ∈ seen, ∀ y ∈ rest, x.name ≠ y.name) → chk seen rest = 0
  | [], _, _, _, _ => rfl
  | z :: rest, seen, h1, h2, h3 => by
    obtain ⟨h4, h5⟩ := List.pairwise_cons.1 h2
    have hany : seen.any (fun y => y.name == z.name) = false := by
      rw [List.any_eq_false]
      intro x hx
      simpa using h3 x hx z (by simp)
    rw [chk_ok (h1 z (by simp)) hany]
    refine chk_of rest _ (fun y hy => h1 y (by simp [hy])) h5 fun x hx y hy => ?_
    rcases List.mem_append.1 hx with hx | hx
    · exact h3 x hx y (by simp [hy])
    · simp at hx; subst hx; exact h4 y hy

theorem good_iff (zs : List Zn) : newE zs = 0 ↔ Good zs := by
  unfold newE
  constructor
  · intro h
    split at h
    · cases h
    · rename_i hl
      obtain ⟨h1, h2, _⟩ := chk_zero zs [] h
      exact ⟨by omega, h1, h2⟩
  · intro h
    rw [if_neg (by have := h.few; omega)]
    exact chk_of zs [] h.ok h.apart (by simp)

theorem ok_labels {z : Zn} (h : okZ z = true) : ∃ b, Nm.nm z.name = some b ∧ Nm.lowL b = b ∧ z.name = Nm.enc b ∧ Nm.Ok b := by
  simp [okZ] at h
  obtain ⟨⟨h1, h2⟩, _⟩ := h
  obtain ⟨b, hb⟩ := Nm.nm_of_may h1
  obtain ⟨e1, e2, e3⟩ := Nm.nm_iff.1 hb
  refine ⟨b, hb, ?_, e1, e2⟩
  unfold Nm.fold at h2
  rw [if_pos h1, e1, Nm.low_enc b e2] at h2
  exact Nm.enc_inj (Nm.lowL_ok e2) e2 h2

theorem cnt_enc {ls : List Nm.Bytes} (h : Nm.Ok ls) (hl : (Nm.enc ls).length ≤ 255) : cnt (Nm.enc ls) = ls.length := by
  have : Nm.nm (Nm.enc ls) = some ls := Nm.nm_iff.2 ⟨rfl, h, hl⟩
  unfold cnt Nm.labels
  rw [this]
  rfl

theorem zfind_none {zs : List Zn} {ls : List Nm.Bytes} (hok : Nm.Ok ls) (hl : (Nm.enc ls).length ≤ 255) (h : zfind zs ls.length (Nm.enc ls) = none) : ∀ y ∈ zs, y.name ≠ Nm.enc ls := by
  intro y hy e
  unfold zfind at h
  rw [List.find?_eq_none] at h
  have := h y hy
  rw [e, cnt_enc hok hl] at this
  simp at this
theorem zfind_some {zs : List Zn} {k : Nat} {n : Nm.Bytes} {z : Zn} (h : zfind zs k n = some z) : z ∈ zs ∧ z.name = n := by
  unfold zfind at h
  refine ⟨List.mem_of_find?_eq_some h, ?_⟩
  have := List.find?_some h
  simp at this
  exact this.1

/-- What is found. -/
def Found (zs : List Zn) (ls : List Nm.Bytes) (z : Zn) : Prop :=
  (∃ s, s <:+ ls ∧ z ∈ zs ∧ z.name = Nm.enc s ∧ ∀ s', s' <:+ ls → s.length < s'.length → ∀ y ∈ zs, y.name ≠ Nm.enc s') ∨
  (z = rootZ ∧ ∀ s', s' <:+ ls → ∀ y ∈ zs, y.name ≠ Nm.enc s')

theorem suffix_cons {α : Type} {s : List α} {l : α} {ls : List α} (h : s <:+ l :: ls) : s = l :: ls ∨ s <:+ ls := List.suffix_cons_iff.1 h

theorem findS_found (zs : List Zn) : ∀ ls, Nm.Ok ls → (Nm.enc ls).length ≤ 255 → Found zs ls (findS zs ls)
  | [], hok, hl => by
    unfold findS
    cases h : zfind zs 0 (Nm.enc []) with
    | none =>
      right
      refine ⟨rfl, fun s' hs' y hy => ?_⟩
      have : s' = [] := List.suffix_nil.1 hs'
      subst this
      exact zfind_none hok hl h y hy
    | some z =>
      obtain ⟨h1, h2⟩ := zfind_some h
      left
      refine ⟨[], List.suffix_refl _, h1, h2, fun s' hs' hlt => ?_⟩
      have : s' = [] := List.suffix_nil.1 hs'
      subst this
      simp at hlt
  | l :: ls, hok, hl => by
    have hok' := (Nm.ok_cons.1 hok).2
    have hl' : (Nm.enc ls).length ≤ 255 := by simp [Nm.enc] at hl; omega
    have ih := findS_found zs ls hok' hl'
    unfold findS
    cases h : zfind zs (ls.length + 1) (Nm.enc (l :: ls)) with
    | none =>
      have hno := zfind_none hok hl h
      show Found zs (l :: ls) (findS zs ls)
      rcases ih with ⟨s, h1, h2, h3, h4⟩ | ⟨h1, h2⟩
      · left
        refine ⟨s, h1.trans (List.suffix_cons l ls), h2, h3, fun s' hs' hlt y hy => ?_⟩
        rcases suffix_cons hs' with rfl | hs'
        · exact hno y hy
        · exact h4 s' hs' hlt y hy
      · right
        refine ⟨h1, fun s' hs' y hy => ?_⟩
        rcases suffix_cons hs' with rfl | hs'
        · exact hno y hy
        · exact h2 s' hs' y hy
    | some z =>
      obtain ⟨h1, h2⟩ := zfind_some h
      left
      refine ⟨l :: ls, List.suffix_refl _, h1, h2, fun s' hs' hlt => ?_⟩
      have := hs'.length_le
      omega

theorem findZ_found {zs : List Zn} {n : Nm.Bytes} {a : List Nm.Bytes} (h : Nm.nm n = some a) : Found zs (Nm.lowL a) (findZ zs n) := by
  have h2 := Nm.nm_iff.1 (Nm.nm_low h)
  have : findZ zs n = findS zs (Nm.lowL a) := by simp [findZ, h]
  rw [this]
  exact findS_found zs _ h2.2.1 (by rw [← h2.1]; exact h2.2.2)

/-- A name is within a zone's: by labels. -/
theorem within_iff {n z : Nm.Bytes} {a b : List Nm.Bytes} (ha : Nm.nm n = some a) (hb : Nm.nm z = some b) (hl : Nm.lowL b = b) : Nm.within n z = true ↔ b <:+ Nm.lowL a := by
  unfold Nm.within
  rw [ha, hb]
  simp only []
  rw [List.isSuffixOf_iff_suffix, hl]

theorem cnt_of {n : Nm.Bytes} {b : List Nm.Bytes} (h : Nm.nm n = some b) : cnt n = b.length := by
  unfold cnt Nm.labels; rw [h]; rfl

theorem enc_of_name {z : Zn} {b s : List Nm.Bytes} (hz : z.name = Nm.enc s) (hs : Nm.Ok s) (hb : Nm.nm z.name = some b) : s = b :=
  Nm.enc_inj hs (Nm.nm_iff.1 hb).2.1 (hz.symm.trans (Nm.nm_iff.1 hb).1)

theorem suffix_ok {s ls : List Nm.Bytes} (h : s <:+ ls) (hok : Nm.Ok ls) : Nm.Ok s := fun l hl => hok l (h.subset hl)

/-- ZoneInner's law. -/
theorem inner_law {zs : List Zn} {n : Nm.Bytes} (hg : Good zs) :
    (∀ y ∈ zs, Nm.within n y.name = true → cnt y.name ≤ cnt (findZ zs n).name) ∧ ((findZ zs n ∈ zs ∧ Nm.within n (findZ zs n).name = true) ∨ findZ zs n = rootZ) := by
  cases ha : Nm.nm n with
  | none =>
    refine ⟨fun y _ h => ?_, Or.inr (findZ_none ha)⟩
    simp [Nm.within, ha] at h
  | some a =>
    have hok := Nm.lowL_ok (Nm.nm_iff.1 ha).2.1
    rcases findZ_found (zs := zs) ha with ⟨s, h1, h2, h3, h4⟩ | ⟨h1, h2⟩
    · obtain ⟨b, hb1, hb2, hb3, hb4⟩ := ok_labels (hg.ok _ h2)
      have hsb := enc_of_name h3 (suffix_ok h1 hok) hb1
      subst hsb
      refine ⟨fun y hy hw => ?_, Or.inl ⟨h2, (within_iff ha hb1 hb2).2 h1⟩⟩
      obtain ⟨c, hc1, hc2, hc3, hc4⟩ := ok_labels (hg.ok y hy)
      have hsuf := (within_iff ha hc1 hc2).1 hw
      rw [cnt_of hc1, cnt_of hb1]
      rcases Nat.lt_or_ge s.length c.length with hlt | hge
      · exact absurd hc3 (h4 c hsuf hlt y hy)
      · exact hge
    · refine ⟨fun y hy hw => ?_, Or.inr h1⟩
      obtain ⟨c, hc1, hc2, hc3, hc4⟩ := ok_labels (hg.ok y hy)
      exact absurd hc3 (h2 c ((within_iff ha hc1 hc2).1 hw) y hy)

end Go.Proofs.Ytoonclcppokdeaa
