/-
  PLAIN: the text of a name, read, is the name.
-/
import Derived.Test.YtoonclcppokdeaaTx
namespace Go.Proofs.Ytoonclcppokdeaa
open Go.RowKit
set_option linter.unusedVariables false

theorem run_wr (s : Scan) (he : s.esc = 0) (c : UInt8) : ∃ v, runS s (wr c) = some { s with label := s.label ++ [c], val := v } := by
  obtain ⟨ls, lb, esc, val⟩ := s
  simp only at he
  subst he
  have hc := c.toNat_lt
  have t92 : ∀ (ls : List Nm.Bytes) (lb : Nm.Bytes) (v : Nat), takeS ⟨ls, lb, 0, v⟩ 92 = (true, ⟨ls, lb, 1, 0⟩) := fun ls lb v => by simp [takeS]
  unfold wr
  split
  · rename_i h
    have hn : isDig c.toNat = false := by simp [isDig]; omega
    have t2 : takeS ⟨ls, lb, 1, 0⟩ c.toNat = (true, ⟨ls, lb ++ [c], 0, 0⟩) := by
      unfold takeS
      rw [if_neg (by omega), if_pos (by simp)]
      simp [escS, hn]
    refine ⟨0, ?_⟩
    simp only [runS]
    rw [show ((92 : UInt8).toNat) = 92 from rfl, t92]
    simp only [if_true]
    rw [t2]
    simp
  · rename_i h
    split
    · rename_i h2
      obtain ⟨d1, hd1⟩ : ∃ d, d = c.toNat / 100 := ⟨_, rfl⟩
      obtain ⟨d2, hd2⟩ : ∃ d, d = c.toNat / 10 % 10 := ⟨_, rfl⟩
      obtain ⟨d3, hd3⟩ : ∃ d, d = c.toNat % 10 := ⟨_, rfl⟩
      have hsum : (d1 * 10 + d2) * 10 + d3 = c.toNat := by omega
      have b1 : d1 ≤ 2 := by omega
      have b2 : d2 ≤ 9 := by omega
      have b3 : d3 ≤ 9 := by omega
      rw [← hd1, ← hd2, ← hd3]
      have e : ∀ d, d ≤ 9 → (UInt8.ofNat (48 + d)).toNat = 48 + d := fun d hd => by simp; omega
      have dg : ∀ d, d ≤ 9 → isDig (48 + d) = true := fun d hd => by simp [isDig]; omega
      have tk : ∀ (d : Nat) (hd : d ≤ 9) (s : Scan), 0 < s.esc → takeS s (48 + d) = escS s (48 + d) := fun d hd s hs => by
        unfold takeS; rw [if_neg (by omega), if_pos hs]
      refine ⟨c.toNat, ?_⟩
      simp only [runS]
      rw [show ((92 : UInt8).toNat) = 92 from rfl, t92]
      simp only [if_true]
      rw [e d1 (by omega), tk d1 (by omega) _ (by simp)]
      have x1 : escS ⟨ls, lb, 1, 0⟩ (48 + d1) = (true, ⟨ls, lb, 2, d1⟩) := by simp [escS, dg d1 (by omega)]
      rw [x1]
      simp only [if_true]
      rw [e d2 b2, tk d2 b2 _ (by simp)]
      have x2 : escS ⟨ls, lb, 2, d1⟩ (48 + d2) = (true, ⟨ls, lb, 3, d1 * 10 + d2⟩) := by simp [escS, dg d2 b2]
      rw [x2]
      simp only [if_true]
      rw [e d3 b3, tk d3 b3 _ (by simp)]
      have x3 : escS ⟨ls, lb, 3, d1 * 10 + d2⟩ (48 + d3) = (true, ⟨ls, lb ++ [c], 0, c.toNat⟩) := by
        unfold escS
        rw [if_pos (dg d3 b3), if_neg (by simp), if_neg (by simp; omega)]
        have : (d1 * 10 + d2) * 10 + (48 + d3 - 48) = c.toNat := by omega
        simp only [this]
        simp
      rw [x3]
      simp
    · rename_i h2
      refine ⟨val, ?_⟩
      have t1 : takeS ⟨ls, lb, 0, val⟩ c.toNat = (true, ⟨ls, lb ++ [c], 0, val⟩) := by
        unfold takeS
        rw [if_neg h2, if_neg (by simp), if_neg (by omega), if_neg (by omega)]
        simp
      simp only [runS]
      rw [t1]
      simp
theorem run_label : ∀ (l : Nm.Bytes) (s : Scan), s.esc = 0 → ∃ v, runS s (l.flatMap wr) = some { s with label := s.label ++ l, val := v }
  | [], s, h => ⟨s.val, by simp [runS]⟩
  | c :: l, s, h => by
    obtain ⟨v, hv⟩ := run_wr s h c
    obtain ⟨v2, hv2⟩ := run_label l { s with label := s.label ++ [c], val := v } h
    refine ⟨v2, ?_⟩
    rw [List.flatMap_cons, runS_append, hv]
    simp only [Option.bind_some]
    rw [hv2]
    simp
theorem run_text : ∀ (ls : List Nm.Bytes) (acc : List Nm.Bytes) (v : Nat), (∀ l ∈ ls, l ≠ []) → ∃ v', runS ⟨acc, [], 0, v⟩ (txtOf ls) = some ⟨acc ++ ls, [], 0, v'⟩
  | [], acc, v, _ => ⟨v, by simp [txtOf, runS]⟩
  | l :: ls, acc, v, h => by
    obtain ⟨v1, h1⟩ := run_label l ⟨acc, [], 0, v⟩ rfl
    obtain ⟨v2, h2⟩ := run_text ls (acc ++ [l]) v1 (fun x hx => h x (List.mem_cons_of_mem _ hx))
    refine ⟨v2, ?_⟩
    have hl : l ≠ [] := h l (List.mem_cons_self ..)
    have t46 : takeS ⟨acc, l, 0, v1⟩ 46 = (true, ⟨acc ++ [l], [], 0, v1⟩) := by simp [takeS, hl]
    have e : txtOf (l :: ls) = l.flatMap wr ++ (46 :: txtOf ls) := by simp [txtOf, txtL]
    rw [e, runS_append, h1]
    simp only [Option.bind_some, List.nil_append, runS]
    rw [show ((46 : UInt8).toNat) = 46 from rfl, t46]
    simp only [if_true]
    rw [h2]
    simp
theorem textL_text {ls : List Nm.Bytes} (h : ∀ l ∈ ls, l ≠ []) (h0 : ls ≠ []) : textL (txtOf ls) = some ls := by
  obtain ⟨v, hv⟩ := run_text ls [] 0 h
  unfold textL
  rw [show scan0 = ⟨[], [], 0, 0⟩ from rfl, hv]
  simp [endS, h0]
theorem ok_all {ls : List Nm.Bytes} (h : Nm.Ok ls) : ls.all okLbl = true := List.all_eq_true.2 fun l hl => by have := h l hl; simp [okLbl]; omega
theorem all_ok {ls : List Nm.Bytes} (h : ls.all okLbl = true) : Nm.Ok ls := fun l hl => by have := List.all_eq_true.1 h l hl; simp [okLbl] at this; omega
theorem join_name {n : Nm.Bytes} {ls : List Nm.Bytes} (h : Nm.nm n = some ls) : joinE ls = 0 ∧ joinV ls = n := by
  obtain ⟨h1, h2, h3⟩ := Nm.nm_iff.1 h
  have hs := nm_sum h
  have hE : joinE ls = 0 := by unfold joinE; rw [if_pos (ok_all h2), if_neg (by omega)]
  exact ⟨hE, by unfold joinV; rw [if_pos hE, h1]⟩
theorem name_join {ls : List Nm.Bytes} (h : joinE ls = 0) : Nm.nm (Nm.enc ls) = some ls := by
  unfold joinE at h
  split at h
  · rename_i h1
    split at h
    · simp at h
    · rename_i h2
      refine Nm.nm_iff.2 ⟨rfl, all_ok h1, ?_⟩
      rw [Nm.enc_length]
      unfold lblSum at h2
      omega
  · simp at h
theorem last46 : ∀ {ls : List Nm.Bytes}, ls ≠ [] → ∃ t, txtOf ls = t ++ [46]
  | [], h => absurd rfl h
  | [l], _ => ⟨l.flatMap wr, by simp [txtOf, txtL]⟩
  | l :: x :: ls, _ => by
    obtain ⟨t, ht⟩ := last46 (ls := x :: ls) (by simp)
    refine ⟨txtL l ++ t, ?_⟩
    have : txtOf (l :: x :: ls) = txtL l ++ txtOf (x :: ls) := by simp [txtOf]
    rw [this, ht, List.append_assoc]
theorem text_name {n : Nm.Bytes} {l : Nm.Bytes} {ls : List Nm.Bytes} (h : Nm.nm n = some (l :: ls)) : textN n = txtOf (l :: ls) := by simp [textN, h]
/-- **Parse of Text is the name.** -/
theorem parse_text {n : Nm.Bytes} (h : Nm.may n = true) : parseV (textN n) = n ∧ parseE (textN n) = 0 ∧ (textN n).length ≤ 2000 ∧ ∃ t, textN n = t ++ [46] := by
  obtain ⟨ls, hls⟩ := Nm.nm_of_may h
  cases ls with
  | nil =>
    have e : textN n = [46] := by simp [textN, hls]
    have := nm_root hls
    rw [e]
    exact ⟨by rw [this]; rfl, rfl, by decide, [], rfl⟩
  | cons l r =>
    have e := text_name hls
    have hne : ∀ x ∈ l :: r, x ≠ [] := fun x hx e => by have := ((Nm.nm_iff.1 hls).2.1 x hx).1; rw [e] at this; simp at this
    have hT := textL_text hne (by simp)
    have hnot : txtOf (l :: r) ≠ [46] := by
      intro e1
      rw [e1] at hT
      have : textL [46] = none := by decide
      rw [this] at hT
      cases hT
    have hany : (l :: r).any (fun l => decide (63 < l.length)) = false := List.any_eq_false.2 fun x hx => by have := ((Nm.nm_iff.1 hls).2.1 x hx).2; simp; omega
    obtain ⟨j1, j2⟩ := join_name hls
    have hlen := txtOf_len (l :: r)
    have hs := nm_sum hls
    rw [e]
    refine ⟨?_, ?_, by omega, last46 (by simp)⟩
    · unfold parseV; rw [if_neg hnot, hT]; simp only [hany]; exact j2
    · unfold parseE; rw [if_neg hnot, hT]; simp only [hany]; exact j1
/-- What is read is a name, or nothing. -/
theorem parse_may {t : Nm.Bytes} (h : parseE t = 0) : Nm.may (parseV t) = true := by
  unfold parseE at h
  unfold parseV
  split
  · decide
  · rename_i h1
    rw [if_neg h1] at h
    cases hT : textL t with
    | none => rw [hT] at h; simp at h
    | some ls =>
      rw [hT] at h
      simp only at h ⊢
      split
      · rename_i h2; rw [if_pos h2] at h; simp at h
      · rename_i h2
        rw [if_neg h2] at h
        unfold joinV
        rw [if_pos h]
        exact Nm.may_some (name_join h)
theorem parse_no {t : Nm.Bytes} (h : parseE t ≠ 0) : parseV t = [] := by
  unfold parseE at h
  unfold parseV
  split
  · rename_i h1; rw [if_pos h1] at h; exact absurd rfl h
  · rename_i h1
    rw [if_neg h1] at h
    cases hT : textL t with
    | none => rfl
    | some ls =>
      rw [hT] at h
      simp only at h ⊢
      split
      · rfl
      · rename_i h2
        rw [if_neg h2] at h
        exact joinV_bad h
end Go.Proofs.Ytoonclcppokdeaa
