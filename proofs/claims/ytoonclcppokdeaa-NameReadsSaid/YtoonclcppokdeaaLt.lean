/-
  THE WALK of hustingsref01.digit, hustingsref01.letter, and what they say of a scanner.
-/
import Derived.Test.YtoonclcppokdeaaTp
namespace Go.Proofs.Ytoonclcppokdeaa
open Go.RowKit
set_option linter.unusedVariables false

theorem dropc {t : Nm.Bytes} {k : Nat} {c : UInt8} (h : t[k]? = some c) : t.drop k = c :: t.drop (k + 1) := by
  obtain ⟨hl, hc⟩ := List.getElem?_eq_some_iff.1 h
  rw [List.drop_eq_getElem_cons hl, hc]
theorem drop_end {t : Nm.Bytes} {k : Nat} (h : t.length ≤ k) : t.drop k = [] := List.drop_eq_nil_of_le h
theorem take_out (s : Scan) (c : Nat) (h : c < 33 ∨ 126 < c) : (takeS s c).1 = false := by unfold takeS; rw [if_pos h]
theorem take_92 (s : Scan) (h : s.esc = 0) : takeS s 92 = (true, { s with esc := 1, val := 0 }) := by
  obtain ⟨ls, lb, esc, val⟩ := s; simp only at h; subst h; simp [takeS]
theorem take_esc (s : Scan) (c : Nat) (h : 0 < s.esc) (h1 : 33 ≤ c) (h2 : c ≤ 126) : takeS s c = escS s c := by
  unfold takeS; rw [if_neg (by omega), if_pos h]
theorem esc_dig (s : Scan) (c : Nat) (h : isDig c = true) (h3 : s.esc < 3) : escS s c = (true, { s with val := s.val * 10 + (c - 48), esc := s.esc + 1 }) := by
  unfold escS; rw [if_pos h, if_pos h3]
theorem esc_no (s : Scan) (c : Nat) (h : isDig c = false) (h3 : 1 < s.esc) : escS s c = (false, s) := by
  unfold escS; rw [if_neg (by simp [h]), if_pos h3]
theorem dig_in {c : Nat} (h : isDig c = true) : 48 ≤ c ∧ c ≤ 57 := by simpa [isDig] using h
/-- What the reference's letter says. -/
def LetterOut (t : Nm.Bytes) (k : Nat) (c : UInt8) (n : Nat) : Prop :=
  (n = 0 ∧ ∀ s : Scan, s.esc = 0 → ∀ s', runS s (t.drop k) = some s' → 0 < s'.esc) ∨
  (1 ≤ n ∧ k + n ≤ t.length ∧ ∀ s : Scan, s.esc = 0 → ∃ v, runS s ((t.drop k).take n) = some { s with label := s.label ++ [c], val := v })
section
variable {t : Nm.Bytes} {k : Nat} {c d d2 d3 : UInt8}
theorem lo_out (h : t[k]? = some c) (hc : c.toNat < 33 ∨ 126 < c.toNat) : LetterOut t k 0 0 := Or.inl ⟨rfl, fun s hs s' hr => by
  rw [dropc h] at hr; simp [runS, take_out s c.toNat hc] at hr⟩
theorem lo_one (h : t[k]? = some c) (h1 : 33 ≤ c.toNat) (h2 : c.toNat ≤ 126) (h3 : c.toNat ≠ 92) (h4 : c.toNat ≠ 46) : LetterOut t k c 1 := Or.inr ⟨Nat.le_refl _, (List.getElem?_eq_some_iff.1 h).1, fun s hs => ⟨s.val, by
  rw [dropc h]
  have : takeS s c.toNat = (true, { s with label := s.label ++ [c] }) := by
    unfold takeS; rw [if_neg (by omega), if_neg (by omega), if_neg h3, if_neg h4]; simp
  simp [runS, this]⟩⟩
theorem lo_end (h : t[k]? = some 92) (hl : t.length ≤ k + 1) : LetterOut t k 0 0 := Or.inl ⟨rfl, fun s hs s' hr => by
  rw [dropc h, drop_end hl] at hr
  simp [runS, take_92 s hs] at hr
  rw [← hr]; exact Nat.one_pos⟩
theorem lo_two (h : t[k]? = some 92) (hd : t[k + 1]? = some d) (h1 : 33 ≤ d.toNat) (h2 : d.toNat ≤ 126) (h3 : isDig d.toNat = false) : LetterOut t k d 2 := Or.inr ⟨by decide, (List.getElem?_eq_some_iff.1 hd).1, fun s hs => ⟨0, by
  rw [dropc h, dropc hd]
  have e2 : takeS { s with esc := 1, val := 0 } d.toNat = (true, { s with label := s.label ++ [d], val := 0 }) := by
    rw [take_esc _ _ Nat.one_pos h1 h2]
    unfold escS
    rw [if_neg (by simp [h3]), if_neg (by simp)]
    obtain ⟨ls, lb, esc, val⟩ := s; simp only at hs; subst hs
    simp
  simp [runS, take_92 s hs, e2]⟩⟩
theorem lo_two_out (h : t[k]? = some 92) (hd : t[k + 1]? = some d) (h1 : d.toNat < 33 ∨ 126 < d.toNat) : LetterOut t k 0 0 := Or.inl ⟨rfl, fun s hs s' hr => by
  rw [dropc h, dropc hd] at hr
  simp [runS, take_92 s hs, take_out _ d.toNat h1] at hr⟩
theorem run_dig (s : Scan) (c : UInt8) (r : Nm.Bytes) (h : isDig c.toNat = true) (h0 : 0 < s.esc) (h3 : s.esc < 3) : runS s (c :: r) = runS { s with val := s.val * 10 + (c.toNat - 48), esc := s.esc + 1 } r := by
  have := dig_in h
  simp [runS, take_esc s c.toNat h0 (by omega) (by omega), esc_dig s c.toNat h h3]
theorem run_nodig (s : Scan) (c : UInt8) (r : Nm.Bytes) (h : isDig c.toNat = false) (h0 : 1 < s.esc) : runS s (c :: r) = none := by
  by_cases hc : c.toNat < 33 ∨ 126 < c.toNat
  · simp [runS, take_out s c.toNat hc]
  · simp [runS, take_esc s c.toNat (by omega) (by omega) (by omega), esc_no s c.toNat h h0]
theorem run_92 (s : Scan) (r : Nm.Bytes) (hs : s.esc = 0) : runS s (92 :: r) = runS { s with esc := 1, val := 0 } r := by
  have := take_92 s hs
  simp [runS, this]
theorem lo_short (h : t[k]? = some 92) (hd : t[k + 1]? = some d) (h1 : isDig d.toNat = true) (hl : t.length ≤ k + 3) : LetterOut t k 0 0 := Or.inl ⟨rfl, fun s hs s' hr => by
  rw [dropc h, dropc hd, run_92 s _ hs, run_dig _ _ _ h1 (by simp) (by simp)] at hr
  cases e : t[k + 2]? with
  | none =>
    rw [drop_end (by simpa using e)] at hr
    simp [runS] at hr
    rw [← hr]; exact Nat.succ_pos _
  | some x =>
    rw [dropc e, drop_end hl] at hr
    cases hx : isDig x.toNat with
    | true =>
      rw [run_dig _ _ _ hx (by simp) (by simp)] at hr
      simp [runS] at hr
      rw [← hr]; exact Nat.succ_pos _
    | false => rw [run_nodig _ _ _ hx (by simp)] at hr; cases hr⟩
theorem lo_no2 (h : t[k]? = some 92) (hd : t[k + 1]? = some d) (h1 : isDig d.toNat = true) (hd2 : t[k + 2]? = some d2) (h2 : isDig d2.toNat = false) : LetterOut t k 0 0 := Or.inl ⟨rfl, fun s hs s' hr => by
  rw [dropc h, dropc hd, run_92 s _ hs, run_dig _ _ _ h1 (by simp) (by simp), dropc hd2, run_nodig _ _ _ h2 (by simp)] at hr
  cases hr⟩
theorem lo_no3 (h : t[k]? = some 92) (hd : t[k + 1]? = some d) (h1 : isDig d.toNat = true) (hd2 : t[k + 2]? = some d2) (h2 : isDig d2.toNat = true) (hd3 : t[k + 3]? = some d3) (h3 : isDig d3.toNat = false) : LetterOut t k 0 0 := Or.inl ⟨rfl, fun s hs s' hr => by
  rw [dropc h, dropc hd, run_92 s _ hs, run_dig _ _ _ h1 (by simp) (by simp), dropc hd2, run_dig _ _ _ h2 (by simp) (by simp), dropc hd3, run_nodig _ _ _ h3 (by simp)] at hr
  cases hr⟩
theorem run_dig3 (s : Scan) (c : UInt8) (r : Nm.Bytes) (h : isDig c.toNat = true) (h3 : s.esc = 3) (m : Nat) (hm : s.val * 10 + (c.toNat - 48) = m) : runS s (c :: r) = if 255 < m then none else runS { s with label := s.label ++ [UInt8.ofNat m], val := m, esc := 0 } r := by
  have := dig_in h
  have e : takeS s c.toNat = if 255 < m then (false, { s with val := m }) else (true, { s with label := s.label ++ [UInt8.ofNat m], val := m, esc := 0 }) := by
    rw [take_esc s c.toNat (by omega) (by omega) (by omega)]
    unfold escS
    rw [if_pos h, if_neg (by omega), hm]
  by_cases hb : 255 < m
  · rw [if_pos hb] at e ⊢
    simp [runS, e]
  · rw [if_neg hb] at e ⊢
    simp [runS, e]
theorem lo_big (h : t[k]? = some 92) (hd : t[k + 1]? = some d) (h1 : isDig d.toNat = true) (hd2 : t[k + 2]? = some d2) (h2 : isDig d2.toNat = true) (hd3 : t[k + 3]? = some d3) (h3 : isDig d3.toNat = true) (hb : 255 < 100 * (d.toNat - 48) + 10 * (d2.toNat - 48) + (d3.toNat - 48)) : LetterOut t k 0 0 := Or.inl ⟨rfl, fun s hs s' hr => by
  rw [dropc h, dropc hd, run_92 s _ hs, run_dig _ _ _ h1 (by simp) (by simp), dropc hd2, run_dig _ _ _ h2 (by simp) (by simp), dropc hd3, run_dig3 _ _ _ h3 rfl (100 * (d.toNat - 48) + 10 * (d2.toNat - 48) + (d3.toNat - 48)) (by dsimp only; omega), if_pos hb] at hr
  cases hr⟩
theorem lo_four (h : t[k]? = some 92) (hd : t[k + 1]? = some d) (h1 : isDig d.toNat = true) (hd2 : t[k + 2]? = some d2) (h2 : isDig d2.toNat = true) (hd3 : t[k + 3]? = some d3) (h3 : isDig d3.toNat = true) {n : Nat} (hn : n = 100 * (d.toNat - 48) + 10 * (d2.toNat - 48) + (d3.toNat - 48)) (hb : n ≤ 255) : LetterOut t k (UInt8.ofNat n) 4 := Or.inr ⟨by decide, (List.getElem?_eq_some_iff.1 hd3).1, fun s hs => ⟨n, by
  rw [dropc h, dropc hd, dropc hd2, dropc hd3]
  simp only [List.take_succ_cons, List.take_zero]
  rw [run_92 s _ hs, run_dig _ _ _ h1 (by simp) (by simp), run_dig _ _ _ h2 (by simp) (by simp), run_dig3 _ _ _ h3 rfl n (by dsimp only; omega), if_neg (by omega)]
  obtain ⟨ls, lb, esc, val⟩ := s; simp only at hs; subst hs
  simp [runS]⟩⟩
end
theorem digit_S {G : World} {L : Blocks} (c : UInt8) : Spec Try.prog G 68 #[.int .u8 (c.toNat : Int)] L fun u M => u = .bool (isDig c.toNat) ∧ M = L := by
  by_cases h1 : 48 ≤ c.toNat
  · have e1 : decide ((48 : Int) ≤ (c.toNat : Int)) = true := decide_eq_true (by omega)
    refine Spec_of (n := 9) Try.func68 rfl rfl rfl ?_
    repeat (first | with_reducible refine T_seq ?_ | with_reducible refine T_block ?_ | with_reducible refine T_region ?_ | with_reducible refine TL_nil ?_ | with_reducible refine TQ_then ?_ | with_reducible refine TQ_block ?_ | with_reducible refine T_skip ?_ | with_reducible refine T_label ?_ | with_reducible refine T_exit ?_ | with_reducible refine T_ret ?_ | with_reducible refine TQ_then_exit ?_ | with_reducible refine TQ_then_ret ?_ | with_reducible refine TQ_then_goto ?_ | with_reducible refine TQ_block_exit ?_ | with_reducible refine TQ_block_ret ?_ | with_reducible refine TQ_block_goto ?_ | with_reducible refine TQ_fall ?_ | (refine TQ_block_past ?_ ?_; (· decide)) | refine TL_q (op_move rfl) rfl ?_ | refine TL_q (op_assign rfl) rfl ?_ | (refine' TL_q (op_bin rfl rfl ?_) rfl ?_; rotate_left 1; (· first | exact bin_leq | exact bin_geq)) | (refine' TL_q (op_pickT rfl ?_ rfl) rfl ?_; (· first | with_reducible rfl | assumption | exact Bool.not_false | exact Bool.not_true)) | (refine' TL_q (op_pickF rfl ?_ rfl) rfl ?_; (· first | with_reducible rfl | assumption | exact Bool.not_false | exact Bool.not_true)) | (refine TL_gpre rfl rfl ?_ ?_; (· first | with_reducible rfl | assumption | exact Bool.not_false | exact Bool.not_true)) | refine TL_gq2 (op_move rfl) rfl ?_ | refine TL_gq2 (op_assign rfl) rfl ?_ | (refine' TL_gq2 (op_bin rfl rfl ?_) rfl ?_; rotate_left 1; (· first | exact bin_leq | exact bin_geq)) | (refine' TL_gq2 (op_pickT rfl ?_ rfl) rfl ?_; (· first | with_reducible rfl | assumption | exact Bool.not_false | exact Bool.not_true)) | (refine' TL_gq2 (op_pickF rfl ?_ rfl) rfl ?_; (· first | with_reducible rfl | assumption | exact Bool.not_false | exact Bool.not_true)) | (refine TL_gno rfl rfl ?_ rfl ?_; (· first | with_reducible rfl | assumption | exact Bool.not_false | exact Bool.not_true)) | refine TL_gundef rfl rfl rfl ?_ | (refine T_yes rfl ?_ ?_; (· first | with_reducible rfl | assumption | exact Bool.not_false | exact Bool.not_true)) | (refine T_no rfl ?_ ?_; (· first | with_reducible rfl | assumption | exact Bool.not_false | exact Bool.not_true)))
    refine TQ_ret1 2 _ rfl rfl ?_
    exact ⟨by
      have : decide ((c.toNat : Int) ≤ 57) = isDig c.toNat := by
        simp only [isDig, decide_eq_true h1, Bool.true_and]; congr 1; exact propext ⟨fun _ => by omega, fun _ => by omega⟩
      rw [this], rfl⟩
  · have e1 : decide ((48 : Int) ≤ (c.toNat : Int)) = false := decide_eq_false (by omega)
    refine Spec_of (n := 9) Try.func68 rfl rfl rfl ?_
    repeat (first | with_reducible refine T_seq ?_ | with_reducible refine T_block ?_ | with_reducible refine T_region ?_ | with_reducible refine TL_nil ?_ | with_reducible refine TQ_then ?_ | with_reducible refine TQ_block ?_ | with_reducible refine T_skip ?_ | with_reducible refine T_label ?_ | with_reducible refine T_exit ?_ | with_reducible refine T_ret ?_ | with_reducible refine TQ_then_exit ?_ | with_reducible refine TQ_then_ret ?_ | with_reducible refine TQ_then_goto ?_ | with_reducible refine TQ_block_exit ?_ | with_reducible refine TQ_block_ret ?_ | with_reducible refine TQ_block_goto ?_ | with_reducible refine TQ_fall ?_ | (refine TQ_block_past ?_ ?_; (· decide)) | refine TL_q (op_move rfl) rfl ?_ | refine TL_q (op_assign rfl) rfl ?_ | (refine' TL_q (op_bin rfl rfl ?_) rfl ?_; rotate_left 1; (· first | exact bin_leq | exact bin_geq)) | (refine' TL_q (op_pickT rfl ?_ rfl) rfl ?_; (· first | with_reducible rfl | assumption | exact Bool.not_false | exact Bool.not_true)) | (refine' TL_q (op_pickF rfl ?_ rfl) rfl ?_; (· first | with_reducible rfl | assumption | exact Bool.not_false | exact Bool.not_true)) | (refine TL_gpre rfl rfl ?_ ?_; (· first | with_reducible rfl | assumption | exact Bool.not_false | exact Bool.not_true)) | refine TL_gq2 (op_move rfl) rfl ?_ | refine TL_gq2 (op_assign rfl) rfl ?_ | (refine' TL_gq2 (op_bin rfl rfl ?_) rfl ?_; rotate_left 1; (· first | exact bin_leq | exact bin_geq)) | (refine' TL_gq2 (op_pickT rfl ?_ rfl) rfl ?_; (· first | with_reducible rfl | assumption | exact Bool.not_false | exact Bool.not_true)) | (refine' TL_gq2 (op_pickF rfl ?_ rfl) rfl ?_; (· first | with_reducible rfl | assumption | exact Bool.not_false | exact Bool.not_true)) | (refine TL_gno rfl rfl ?_ rfl ?_; (· first | with_reducible rfl | assumption | exact Bool.not_false | exact Bool.not_true)) | refine TL_gundef rfl rfl rfl ?_ | (refine T_yes rfl ?_ ?_; (· first | with_reducible rfl | assumption | exact Bool.not_false | exact Bool.not_true)) | (refine T_no rfl ?_ ?_; (· first | with_reducible rfl | assumption | exact Bool.not_false | exact Bool.not_true)))
    refine TQ_ret1 2 _ rfl rfl ?_
    exact ⟨by simp [isDig, h1], rfl⟩
end Go.Proofs.Ytoonclcppokdeaa
