/-
  WHEN EACH ONE IS ASKED FIRST, AND GIVEN UP, as functions of the upstream. No program in sight.
-/
import Derived.Test.YtpamoacgajlkeaaGl
namespace Go.Proofs.Ytpamoacgajlkeaa.Hg
set_option linter.unusedVariables false
section
variable {l : List Int} {want every wait tries : Nat} {st : Int} {t : Nat}
def gU (l : List Int) (want every : Nat) (u : Int) : Nat := gOf want every (l.idxOf u)
theorem gU_at (hn : l.Nodup) {i : Nat} {u : Int} (h : l[i]? = some u) : gU l want every u = gOf want every i := by
  obtain ⟨hi, rfl⟩ := List.getElem?_eq_some_iff.1 h
  have h1 : l.idxOf l[i] < l.length := List.idxOf_lt_length_of_mem (List.getElem_mem hi)
  have h2 := List.getElem_idxOf h1
  have h3 := (List.getElem_inj hn).1 h2
  rw [gU, h3]
theorem ex_at (hn : l.Nodup) {u : Int} {q : Nat → Prop} : (∃ i, l[i]? = some u ∧ q (gOf want every i)) ↔ u ∈ l ∧ q (gU l want every u) := by
  constructor
  · rintro ⟨i, h1, h2⟩
    exact ⟨List.mem_of_getElem? h1, by rw [gU_at hn h1]; exact h2⟩
  · rintro ⟨h1, h2⟩
    obtain ⟨i, hi, rfl⟩ := List.getElem_of_mem h1
    refine ⟨i, List.getElem?_eq_getElem hi, ?_⟩
    rw [gU_at hn (List.getElem?_eq_getElem hi)] at h2
    exact h2
def firstF (l : List Int) (want every : Nat) (st : Int) (t : Nat) (u : Int) : Int := if u ∈ l ∧ gU l want every u ≤ t then st + (gU l want every u : Nat) else -1
def goneF (l : List Int) (want every wait tries : Nat) (st : Int) (t : Nat) (u : Int) : Int := if u ∈ l ∧ gU l want every u + tries * wait ≤ t then st + ((gU l want every u + tries * wait : Nat) : Int) else -1
def firstJ (l : List Int) (want every : Nat) (st : Int) (t : Nat) (s : List Int) (u : Int) : Int := if firstF l want every st t u < 0 ∧ u ∈ s then st + ((t + 1 : Nat) : Int) else firstF l want every st t u
def goneJ (l : List Int) (want every wait tries : Nat) (st : Int) (t : Nat) (s : List Int) (u : Int) : Int := if u ∈ s then st + ((t + 1 : Nat) : Int) else goneF l want every wait tries st t u
theorem firstF_yes {u : Int} (h : u ∈ l) (hg : gU l want every u ≤ t) : firstF l want every st t u = st + (gU l want every u : Nat) := by unfold firstF; rw [if_pos ⟨h, hg⟩]
theorem firstF_no {u : Int} (h : ¬ (u ∈ l ∧ gU l want every u ≤ t)) : firstF l want every st t u = -1 := by unfold firstF; rw [if_neg h]
/-- All that the law asks of one tick. -/
theorem sp_law (hn : l.Nodup) (h0 : 0 ≤ st) (he : 1 ≤ every) (hw : 1 ≤ wait) (ht : 1 ≤ tries) (htop : st + (t + 1 : Nat) ≤ top) :
    (tick (SP l want every wait tries st t) (st + (t + 1 : Nat))).1 = SP l want every wait tries st (t + 1) ∧
    (∀ u ∈ (tick (SP l want every wait tries st t) (st + (t + 1 : Nat))).2.2, u ∈ l) ∧ (∀ u ∈ (tick (SP l want every wait tries st t) (st + (t + 1 : Nat))).2.1, u ∈ l ∧ goneF l want every wait tries st t u = -1) ∧
    (tick (SP l want every wait tries st t) (st + (t + 1 : Nat))).2.1.Nodup ∧
    (∀ u, firstJ l want every st t (tick (SP l want every wait tries st t) (st + (t + 1 : Nat))).2.2 u = firstF l want every st (t + 1) u) ∧
    (∀ u, goneJ l want every wait tries st t (tick (SP l want every wait tries st t) (st + (t + 1 : Nat))).2.1 u = goneF l want every wait tries st (t + 1) u) := by
  obtain ⟨h1, h2, r, h3, h4⟩ := sp_tick (l := l) (want := want) (t := t) he hw ht htop
  have h4' : ∀ u, u ∈ r ↔ u ∈ l ∧ gU l want every u = t + 1 := fun u => (h4 u).trans (ex_at (q := fun g => g = t + 1) hn)
  have hs : ∀ u, u ∈ (SP l want every wait tries st t).list.flatMap (sendE (st + (t + 1 : Nat)) wait tries) → u ∈ l ∧ gU l want every u ≤ t := fun u hu => (ex_at (q := fun g => g ≤ t) hn).1 (mem_send hw ht u hu)
  have hg : ∀ u, u ∈ (SP l want every wait tries st t).list.flatMap (goneE (st + (t + 1 : Nat)) wait tries) ↔ u ∈ l ∧ gU l want every u + tries * wait = t + 1 := fun u => (mem_gone hw ht u).trans (ex_at (q := fun g => g + tries * wait = t + 1) hn)
  refine ⟨h1, fun u hu => ?_, fun u hu => ?_, ?_, fun u => ?_, fun u => ?_⟩
  · rw [h3] at hu
    rcases List.mem_append.1 hu with hu | hu
    · exact (hs u hu).1
    · exact ((h4' u).1 hu).1
  · rw [h2] at hu
    obtain ⟨k1, k2⟩ := (hg u).1 hu
    refine ⟨k1, ?_⟩
    unfold goneF
    rw [if_neg (by omega)]
  · rw [h2]
    exact nodup_gone hn
  · rw [h3]
    unfold firstJ
    by_cases hu : u ∈ l
    · by_cases k1 : gU l want every u ≤ t
      · rw [firstF_yes hu k1, firstF_yes hu (show _ ≤ t + 1 by omega), if_neg (by omega)]
      · by_cases k2 : gU l want every u = t + 1
        · rw [firstF_no (fun h => k1 h.2), firstF_yes hu (show _ ≤ t + 1 by omega), if_pos ⟨by omega, List.mem_append_right _ ((h4' u).2 ⟨hu, k2⟩)⟩, k2]
        · rw [firstF_no (fun h => k1 h.2), firstF_no (t := t + 1) (by omega), if_neg]
          intro h
          rcases List.mem_append.1 h.2 with q | q
          · exact k1 (hs u q).2
          · exact k2 ((h4' u).1 q).2
    · rw [firstF_no (fun h => hu h.1), firstF_no (fun h => hu h.1), if_neg]
      intro h
      rcases List.mem_append.1 h.2 with q | q
      · exact hu (hs u q).1
      · exact hu ((h4' u).1 q).1
  · rw [h2]
    unfold goneJ goneF
    by_cases k : u ∈ l ∧ gU l want every u + tries * wait = t + 1
    · rw [if_pos ((hg u).2 k), if_pos ⟨k.1, by omega⟩, k.2]
    · rw [if_neg (fun h => k ((hg u).1 h))]
      by_cases hu : u ∈ l
      · by_cases k1 : gU l want every u + tries * wait ≤ t
        · rw [if_pos ⟨hu, k1⟩, if_pos ⟨hu, by omega⟩]
        · rw [if_neg (fun h => k1 h.2), if_neg (fun h => k ⟨hu, by omega⟩)]
      · rw [if_neg (fun h => hu h.1), if_neg (fun h => hu h.1)]
theorem first_zero (hn : l.Nodup) (he : 1 ≤ every) (u : Int) : (if u ∈ l.take want then st else -1) = firstF l want every st 0 u := by
  unfold firstF
  by_cases h : u ∈ l.take want
  · rw [if_pos h]
    obtain ⟨i, hi, rfl⟩ := List.getElem_of_mem h
    rw [List.length_take] at hi
    have hi2 : l[i]? = some (l.take want)[i] := by rw [List.getElem_take]; exact List.getElem?_eq_getElem (by omega)
    have hg : gOf want every i = 0 := by unfold gOf; rw [if_pos (by omega)]
    rw [if_pos ⟨List.mem_of_getElem? hi2, by rw [gU_at hn hi2, hg]; omega⟩, gU_at hn hi2, hg]
    simp
  · rw [if_neg h, if_neg]
    rintro ⟨h1, h2⟩
    obtain ⟨i, hi, rfl⟩ := List.getElem_of_mem h1
    rw [gU_at hn (List.getElem?_eq_getElem hi), gle _ _ _ _ he, Nat.zero_div] at h2
    exact h (List.mem_iff_getElem.2 ⟨i, by rw [List.length_take]; omega, by rw [List.getElem_take]⟩)
theorem gOf_le {i : Nat} (hw : 1 ≤ want) (he : every ≤ 20) (hi : i < 9) : gOf want every i ≤ 160 := by
  unfold gOf
  split
  · omega
  · have : (i - want + 1) * every ≤ 8 * 20 := Nat.mul_le_mul (by omega) he
    omega
theorem gone_zero (hw : 1 ≤ wait) (ht : 1 ≤ tries) (u : Int) : goneF l want every wait tries st 0 u = -1 := by
  have : 1 ≤ tries * wait := Nat.mul_pos ht hw
  unfold goneF
  rw [if_neg (by omega)]
/-- The end. -/
theorem sp_end (hn : l.Nodup) (h9 : l.length ≤ 9) (hwn : 1 ≤ want) (he1 : 1 ≤ every) (he : every ≤ 20) (hw1 : 1 ≤ wait) (hw : wait ≤ 20) (ht : tries ≤ 4) :
    opens (SP l want every wait tries st 265) = 0 ∧ left (SP l want every wait tries st 265) = 0 ∧
    ∀ i u, l[i]? = some u → firstF l want every st 265 u = st + (gOf want every i : Nat) ∧ goneF l want every wait tries st 265 u = st + (gOf want every i : Nat) + ((tries : Nat) : Int) * ((wait : Nat) : Int) := by
  have htw : tries * wait ≤ 4 * 20 := Nat.mul_le_mul ht hw
  refine ⟨?_, ?_, fun i u hu => ?_⟩
  · unfold opens
    rw [List.filter_eq_nil_iff.2]
    · rfl
    · intro x hx
      simp only [SP, List.mem_map] at hx
      obtain ⟨⟨v, i⟩, hv, rfl⟩ := hx
      have hvi := List.mem_zipIdx_iff_getElem?.1 hv
      have hil : i < l.length := (List.getElem?_eq_some_iff.1 hvi).1
      have hg := gOf_le (i := i) hwn he (by omega)
      unfold entA
      dsimp only
      rw [ent_pos (by omega), if_neg]
      · simp
      · rw [Nat.not_lt, Nat.le_div_iff_mul_le hw1]
        omega
  · have h1 : 13 ≤ 265 / every := by rw [Nat.le_div_iff_mul_le he1]; omega
    simp only [left, SP, List.length_map, List.length_zipIdx]
    omega
  · have hil : i < l.length := (List.getElem?_eq_some_iff.1 hu).1
    have hg := gOf_le (i := i) hwn he (by omega)
    have hm := List.mem_of_getElem? hu
    have e := gU_at (want := want) (every := every) hn hu
    unfold firstF goneF
    rw [e, if_pos ⟨hm, by omega⟩, if_pos ⟨hm, by omega⟩]
    refine ⟨rfl, ?_⟩
    rw [Int.natCast_add, Int.natCast_mul]
    omega
end
end Go.Proofs.Ytpamoacgajlkeaa.Hg
