/-
  PLAIN: a zone more.
-/
import Derived.Test.YtoonclcppokdeaaZl2
namespace Go.Proofs.Ytoonclcppokdeaa
open Go.RowKit

theorem Good.front {zs : List Zn} {z : Zn} (h : Good (zs ++ [z])) : Good zs :=
  ⟨by have := h.few; simp at this; omega, fun y hy => h.ok y (List.mem_append_left _ hy), (List.pairwise_append.1 h.apart).1⟩

/-- Is the name within some zone of these? -/
def someIn (zs : List Zn) (n : Nm.Bytes) : Bool := zs.any fun y => Nm.within n y.name
/-- Is the zone of the name the one more? -/
def isMore (zs : List Zn) (z : Zn) (n : Nm.Bytes) : Bool := Nm.within n z.name && (!someIn zs n || decide (cnt (findZ zs n).name < cnt z.name))

theorem more_law {zs : List Zn} {z : Zn} {n : Nm.Bytes} (hg : Good (zs ++ [z])) : findZ (zs ++ [z]) n = if isMore zs z n then z else findZ zs n := by
  have hg0 := hg.front
  cases ha : Nm.nm n with
  | none =>
    have hw : Nm.within n z.name = false := by simp [Nm.within, ha]
    rw [findZ_none ha, findZ_none ha]
    simp [isMore, hw]
  | some a =>
    have hok := Nm.lowL_ok (Nm.nm_iff.1 ha).2.1
    obtain ⟨b, b1, b2, b3, b4⟩ := ok_labels (hg.ok z (by simp))
    apply Found.unique hg (findZ_found ha)
    have hfz := findZ_found (zs := zs) ha
    -- any zone of zs named by a suffix: the name is within it
    have hin : ∀ s, s <:+ Nm.lowL a → ∀ y ∈ zs, y.name = Nm.enc s → Nm.within n y.name = true ∧ cnt y.name = s.length := by
      intro s hs y hy he
      obtain ⟨c, c1, c2, c3, c4⟩ := ok_labels (hg0.ok y hy)
      have hsc : s = c := Nm.enc_inj (suffix_ok hs hok) c4 (he.symm.trans c3)
      subst hsc
      exact ⟨(within_iff ha c1 c2).2 hs, cnt_of c1⟩
    by_cases hm : isMore zs z n = true
    · rw [if_pos hm]
      simp only [isMore, Bool.and_eq_true, Bool.or_eq_true, Bool.not_eq_true', decide_eq_true_eq] at hm
      obtain ⟨hw, hlt⟩ := hm
      have hsuf := (within_iff ha b1 b2).1 hw
      left
      refine ⟨b, hsuf, by simp, b3, fun s' hs' hl y hy he => ?_⟩
      rcases List.mem_append.1 hy with hy | hy
      · obtain ⟨h1, h2⟩ := hin s' hs' y hy he
        rcases hlt with h | h
        · have : someIn zs n = true := List.any_eq_true.2 ⟨y, hy, h1⟩
          rw [h] at this
          cases this
        · have h3 := (inner_law (n := n) hg0).1 y hy h1
          rw [cnt_of b1] at h
          omega
      · simp at hy
        subst hy
        have := Nm.enc_inj b4 (suffix_ok hs' hok) (b3.symm.trans he)
        subst this
        omega
    · rw [if_neg hm]
      have hzno : ∀ s', s' <:+ Nm.lowL a → z.name = Nm.enc s' → Nm.within n z.name = true ∧ b = s' := by
        intro s' hs' he
        have := Nm.enc_inj b4 (suffix_ok hs' hok) (b3.symm.trans he)
        subst this
        exact ⟨(within_iff ha b1 b2).2 hs', rfl⟩
      simp only [isMore, Bool.and_eq_true, Bool.or_eq_true, Bool.not_eq_true', decide_eq_true_eq, not_and, not_or] at hm
      rcases hfz with ⟨s, h1, h2, h3, h4⟩ | ⟨h1, h2⟩
      · left
        refine ⟨s, h1, List.mem_append_left _ h2, h3, fun s' hs' hl y hy he => ?_⟩
        rcases List.mem_append.1 hy with hy | hy
        · exact h4 s' hs' hl y hy he
        · simp at hy
          subst hy
          obtain ⟨hw, rfl⟩ := hzno s' hs' he
          have := (hm hw).2
          obtain ⟨_, hcs⟩ := hin s h1 _ h2 h3
          rw [cnt_of b1, hcs] at this
          omega
      · right
        refine ⟨h1, fun s' hs' y hy he => ?_⟩
        rcases List.mem_append.1 hy with hy | hy
        · exact h2 s' hs' y hy he
        · simp at hy
          subst hy
          obtain ⟨hw, rfl⟩ := hzno s' hs' he
          have h5 := (hm hw).1
          have h6 : someIn zs n = true := by simpa using h5
          obtain ⟨y, hy, hyw⟩ := List.any_eq_true.1 h6
          obtain ⟨c, c1, c2, c3, c4⟩ := ok_labels (hg0.ok y hy)
          exact h2 c ((within_iff ha c1 c2).1 hyw) y hy c3

end Go.Proofs.Ytoonclcppokdeaa
