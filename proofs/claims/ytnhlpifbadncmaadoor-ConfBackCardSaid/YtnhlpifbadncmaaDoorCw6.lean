/-
  Part 6: Cx.
-/
import Derived.Test.YtnhlpifbadncmaaDoorCw5
namespace Go.Proofs.YtnhlpifbadncmaaDoor
open Go.RowKit
open Cn (Zo Cf)
set_option linter.unusedVariables false
set_option linter.unusedSimpArgs false
--auto
variable {G : World} {L : Blocks}
set_option maxRecDepth 100000 in
set_option maxHeartbeats 16000000 in
theorem back_S (c : Cf) (v : Value) (s : Nm.Bytes) (hz : sliceR 3 zoR L [v] c.zs) (hsm : s.length ≤ maxLen) (hg : Glob L) : Spec Tryd.prog G 6 #[.agg (cfCells c v).toArray, .string (bs s)] L fun u M => u = .bool true ∧ M = L := by
  unfold maxLen at hsm
  refine Spec_of (n := 97) Tryd.func6 rfl rfl rfl ?_
  refine T_seq (T_region (TL_new (op_boxA rfl) rfl ?_))
  intro b2
  have g0 : (cfCells (c) (v)).toArray[0 + 0]? = some (.int .i64 (c).ups) := rfl
  have g1 : (cfCells (c) (v)).toArray[0 + 1]? = some (.int .i64 (c).ded) := rfl
  have g2 : (cfCells (c) (v)).toArray[0 + 2]? = some (.int .i64 (c).hdg) := rfl
  have g3 : (cfCells (c) (v)).toArray[0 + 3]? = some (.int .i64 (c).wai) := rfl
  have g4 : (cfCells (c) (v)).toArray[0 + 4]? = some (.int .i64 (c).tri) := rfl
  have g5 : (cfCells (c) (v)).toArray[0 + 5]? = some (.int .i64 (c).res) := rfl
  have g6 : (cfCells (c) (v)).toArray[0 + 6]? = some (.int .i64 (c).lim) := rfl
  have g7 : (cfCells (c) (v)).toArray[0 + 7]? = some (.int .i64 (c).cac) := rfl
  have g8 : (cfCells (c) (v)).toArray[0 + 8]? = some (.int .i64 (c).fli) := rfl
  have g9 : (cfCells (c) (v)).toArray[0 + 9]? = some (.int .i64 (c).wtr) := rfl
  have g10 : (cfCells (c) (v)).toArray[0 + 10]? = some (.int .i64 (c).ttl) := rfl
  have g11 : (cfCells (c) (v)).toArray[0 + 11]? = some (.int .i64 (c).siz) := rfl
  have g12 : (cfCells (c) (v)).toArray[0 + 12]? = some (v) := rfl
  repeat ((first | with_reducible refine T_seq ?_ | with_reducible refine T_region ?_ | with_reducible refine TL_nil ?_ | with_reducible refine TQ_then ?_ | refine TL_q (op_assign rfl) rfl ?_ | (refine' TL_q (op_ldAll rfl st_25 ?_ ?_) rfl ?_; rotate_left 3; (· repeat ((exact List.mem_cons_self))); (· (rfl)))))
  refine TL_op (op_call hb_16 rfl (large_S c v (mono_slice mono_zo _ _ _ _ (mem_of_cnt (by intro p; (try simp only [cnt_append, cnt_cons, cnt_nil]) <;> omega)) hz))) rfl ?_
  cases hl : largeB c with
  | true =>
    repeat ((first | with_reducible refine T_seq ?_ | with_reducible refine T_region ?_ | with_reducible refine TL_nil ?_ | with_reducible refine TQ_then ?_ | refine TL_q (op_move rfl) rfl ?_ | (refine' TL_q (op_pickT rfl ?_ rfl) rfl ?_; (· (with_reducible rfl))) | (refine TL_gno rfl rfl ?_ rfl ?_; (· (exact Bool.not_false))) | (refine T_yes rfl ?_ ?_; (· (with_reducible rfl)))))
    refine TL_op (op_call hb_10 rfl (awake_S (hg.mono (mem_of_cnt (by intro p; (try simp only [cnt_append, cnt_cons, cnt_nil]) <;> omega))))) rfl ?_
    repeat ((first | with_reducible refine TL_nil ?_ | with_reducible refine TQ_then ?_ | with_reducible refine T_ret ?_ | with_reducible refine TQ_then_ret ?_ | refine TL_q (op_assign rfl) rfl ?_))
    refine TQ_heap (fun w h => h.tail) ?_
    refine TQ_ret1 4 _ rfl rfl ?_
    exact ⟨rfl, rfl⟩
  | false =>
    obtain ⟨hcl, hlen⟩ := not_large hz hl
    by_cases hs : 5000 < s.length
    · repeat ((first | with_reducible refine T_seq ?_ | with_reducible refine T_region ?_ | with_reducible refine TL_nil ?_ | with_reducible refine TQ_then ?_ | refine TL_q (op_move rfl) rfl ?_ | (refine' TL_q (op_pickT rfl ?_ rfl) rfl ?_; (· (exact dT (by (first | assumption | omega))))) | (refine' TL_q (op_pickF rfl ?_ rfl) rfl ?_; (· (with_reducible rfl))) | (refine TL_gpre rfl rfl ?_ ?_; (· (with_reducible rfl))) | refine TL_gq2 (op_move rfl) rfl ?_ | (refine' TL_gq2 (op_bin rfl rfl ?_) rfl ?_; rotate_left 1; (· (exact bin_gtr))) | refine TL_gq2 (op_len_str rfl Tryd.underlying9) rfl ?_ | (refine TL_gno rfl rfl ?_ rfl ?_; (· (exact dT (by (omega))))) | (refine T_yes rfl ?_ ?_; (· (with_reducible rfl)))))
      refine TL_op (op_call hb_10 rfl (awake_S (hg.mono (mem_of_cnt (by intro p; (try simp only [cnt_append, cnt_cons, cnt_nil]) <;> omega))))) rfl ?_
      repeat ((first | with_reducible refine TL_nil ?_ | with_reducible refine TQ_then ?_ | with_reducible refine T_ret ?_ | with_reducible refine TQ_then_ret ?_ | refine TL_q (op_assign rfl) rfl ?_))
      refine TQ_heap (fun w h => h.tail) ?_
      refine TQ_ret1 4 _ rfl rfl ?_
      exact ⟨rfl, rfl⟩
    repeat ((first | refine TL_q (op_move rfl) rfl ?_ | (refine' TL_q (op_pickF rfl ?_ rfl) rfl ?_; (· (with_reducible rfl))) | (refine TL_gpre rfl rfl ?_ ?_; (· (first | with_reducible rfl | exact dF (by (omega))))) | refine TL_gq2 (op_move rfl) rfl ?_ | (refine' TL_gq2 (op_bin rfl rfl ?_) rfl ?_; rotate_left 1; (· (exact bin_gtr))) | refine TL_gq2 (op_len_str rfl Tryd.underlying9) rfl ?_))
    refine TG_op (op_call hb_10 rfl (awake_S (hg.mono (mem_of_cnt (by intro p; (try simp only [cnt_append, cnt_cons, cnt_nil]) <;> omega))))) rfl ?_
    repeat ((first | with_reducible refine T_seq ?_ | with_reducible refine T_region ?_ | with_reducible refine TL_nil ?_ | with_reducible refine TQ_then ?_ | with_reducible refine T_skip ?_ | (refine' TL_q (op_pickF rfl ?_ rfl) rfl ?_; (· (exact dF (by (omega))))) | (refine' TL_q (op_ldAll rfl st_25 ?_ ?_) rfl ?_; rotate_left 3; (· repeat ((exact List.mem_cons_self))); (· (rfl))) | (refine TL_gpre rfl rfl ?_ ?_; (· (exact dF (by (omega))))) | refine TL_gq2 (op_not rfl) rfl ?_ | (refine T_no rfl ?_ ?_; (· (exact Bool.not_true)))))
    refine TL_op (op_call hb_13 rfl (pShow_S c v (hcl.mono (mem_of_cnt (by intro p; (try simp only [cnt_append, cnt_cons, cnt_nil]) <;> omega))) (hg.mono (mem_of_cnt (by intro p; (try simp only [cnt_append, cnt_cons, cnt_nil]) <;> omega))))) rfl ?_
    have hsp := Cn.show_parse theT_ok s
    cases hm : Cn.mayP c with
    | false =>
      have hs0 : showV c = .tuple #[.string (bs []), .int .i64 1] := by unfold showV Cn.showP; rw [hm]; rfl
      rw [hs0]
      repeat ((first | with_reducible refine T_seq ?_ | with_reducible refine T_region ?_ | with_reducible refine TL_nil ?_ | with_reducible refine TQ_then ?_ | refine TL_q (op_move rfl) rfl ?_ | refine TL_q (op_assign rfl) rfl ?_ | (refine' TL_q (op_bin rfl rfl ?_) rfl ?_; rotate_left 1; (· (exact bin_eql))) | refine TL_q (op_extract rfl rfl) rfl ?_ | (refine' TL_q (op_ldAll rfl st_25 ?_ ?_) rfl ?_; rotate_left 3; (· repeat ((exact List.mem_cons_self))); (· (rfl)))))
      refine TL_op (op_call hb_11 rfl (pMay_S c v (hcl.mono (mem_of_cnt (by intro p; (try simp only [cnt_append, cnt_cons, cnt_nil]) <;> omega))))) rfl ?_
      rw [mayE1_no hm]
      repeat ((first | with_reducible refine T_seq ?_ | with_reducible refine T_region ?_ | with_reducible refine TL_nil ?_ | with_reducible refine TQ_then ?_ | with_reducible refine T_skip ?_ | refine TL_q (op_move rfl) rfl ?_ | (refine' TL_q (op_bin rfl rfl ?_) rfl ?_; rotate_left 1; (· (first | exact bin_eql | exact bbin_neq Tryd.underlying4))) | (refine T_no rfl ?_ ?_; (· (exact Bool.not_true)))))
      refine TL_opT (op_call hb_23 rfl (pParse_S s (by omega) (Or.inr (by omega)) (hg.mono (mem_of_cnt (by intro p; (try simp only [cnt_append, cnt_cons, cnt_nil]) <;> omega))))) rfl ?_
      rintro _ _ ⟨a3, cap3, B3, rfl, hB3, rfl⟩
      obtain ⟨⟨d, line, e⟩, hr⟩ : ∃ r, Cn.parseP theT s = r := ⟨_, rfl⟩
      rw [hr] at hsp hB3
      simp only [hr]
      dsimp only at hsp hB3 ⊢
      rcases hsp with ⟨p1, p2, p3, p4⟩ | ⟨p1, p2, p3⟩ | ⟨p1, p2, p3⟩
      · subst p1 p2
        have hdl : ∀ L' : Blocks, (∀ p ∈ B3, p ∈ L') → CfL L' d (.slice a3 d.zs.length cap3) := fun L' hp => ⟨ORow.sliceR mono_zo hB3 (by simp) hp, fun z hz => by have := may_255 ((Cn.mayP_zones p3).2 z hz).1; omega⟩
        have hsd : showV d = .tuple #[.string (bs s), .int .i64 0] := by unfold showV Cn.showP; rw [if_pos p3, p4]
        repeat ((first | with_reducible refine T_seq ?_ | with_reducible refine T_region ?_ | with_reducible refine TL_nil ?_ | with_reducible refine TQ_then ?_ | with_reducible refine T_skip ?_ | refine TL_q (op_move rfl) rfl ?_ | refine TL_q (op_assign rfl) rfl ?_ | (refine' TL_q (op_bin rfl rfl ?_) rfl ?_; rotate_left 1; (· (exact bin_neq))) | refine TL_q (op_extract rfl rfl) rfl ?_ | (refine' TL_q (op_ldAll rfl st_25 ?_ ?_) rfl ?_; rotate_left 3; (· repeat ((exact List.mem_cons_self))); (· (rfl))) | (refine TL_stAll rfl rfl st_25 rfl rfl rfl ?_) | (refine TL_new (op_alloc (C := #[(.int .i64 0), (.int .i64 0), (.int .i64 0), (.int .i64 0), (.int .i64 0), (.int .i64 0), (.int .i64 0), (.int .i64 0), (.int .i64 0), (.int .i64 0), (.int .i64 0), (.int .i64 0), (.slice none 0 0)]) zero_25 rfl) rfl ?_; intro bNew) | (refine T_no rfl ?_ ?_; (· (exact Bool.not_true)))))
        refine TL_op (op_call hb_13 rfl (pShow_S d _ (hdl _ (mem_of_cnt (by intro p; (try simp only [cnt_append, cnt_cons, cnt_nil]) <;> omega))) (hg.mono (mem_of_cnt (by intro p; (try simp only [cnt_append, cnt_cons, cnt_nil]) <;> omega))))) rfl ?_
        rw [hsd]
        repeat ((first | with_reducible refine T_seq ?_ | with_reducible refine T_region ?_ | with_reducible refine TL_nil ?_ | with_reducible refine TQ_then ?_ | refine TL_q (op_move rfl) rfl ?_ | refine TL_q (op_assign rfl) rfl ?_ | (refine' TL_q (op_bin rfl rfl ?_) rfl ?_; rotate_left 1; (· (exact bin_eql))) | refine TL_q (op_extract rfl rfl) rfl ?_ | (refine' TL_q (op_pickT rfl ?_ rfl) rfl ?_; (· (exact Bool.not_false))) | (refine TL_gpre rfl rfl ?_ ?_; (· (first | exact Bool.not_false | exact eT (by (with_reducible rfl))))) | refine TL_gq2 (op_move rfl) rfl ?_ | (refine' TL_gq2 (op_bin rfl rfl ?_) rfl ?_; rotate_left 1; (· (first | exact bin_eql | exact sbin_eql))) | (refine' TL_gq2 (op_ldAll rfl st_25 ?_ ?_) rfl ?_; rotate_left 3; (· repeat ((exact List.mem_cons_self))); (· (rfl)))))
        refine TG_op (op_call hb_11 rfl (pMay_S d _ (hdl _ (mem_of_cnt (by intro p; (try simp only [cnt_append, cnt_cons, cnt_nil]) <;> omega))))) rfl ?_
        rw [mayE1_yes p3]
        repeat ((first | with_reducible refine TL_nil ?_ | with_reducible refine TQ_then ?_ | with_reducible refine T_ret ?_ | refine TL_q (op_assign rfl) rfl ?_ | (refine' TL_q (op_pickT rfl ?_ rfl) rfl ?_; (· (exact eT (by (with_reducible rfl))))) | (refine TL_gpre rfl rfl ?_ ?_; (· (exact eT (by (with_reducible rfl))))) | (refine' TL_gq2 (op_bin rfl rfl ?_) rfl ?_; rotate_left 1; (· (exact bin_eql)))))
        refine TQ_cnt (L' := L) ?_ (by intro p; (try simp only [cnt_append, cnt_cons, cnt_nil]) <;> omega)
        refine TQ_ret1 4 _ rfl rfl ?_
        exact ⟨rfl, rfl⟩
      · subst p1 p3
        have hd0 : (decide ((0 : Int) < line) == ((3 : Int) == 3)) = true := by rw [decide_eq_true (by omega : (0 : Int) < line)]; rfl
        repeat ((first | with_reducible refine T_seq ?_ | with_reducible refine T_region ?_ | with_reducible refine TL_nil ?_ | with_reducible refine TQ_then ?_ | refine TL_q (op_move rfl) rfl ?_ | refine TL_q (op_assign rfl) rfl ?_ | (refine' TL_q (op_bin rfl rfl ?_) rfl ?_; rotate_left 1; (· (first | exact bin_eql | exact bin_neq | exact bin_gtr | exact bbin_eql Tryd.underlying4))) | refine TL_q (op_extract rfl rfl) rfl ?_ | (refine TL_gpre rfl rfl ?_ ?_; (· (assumption))) | (refine' TL_gq2 (op_ldAll rfl st_25 ?_ ?_) rfl ?_; rotate_left 3; (· repeat ((exact List.mem_cons_self))); (· (rfl))) | (refine TL_stAll rfl rfl st_25 rfl rfl rfl ?_) | (refine TL_new (op_alloc (C := #[(.int .i64 0), (.int .i64 0), (.int .i64 0), (.int .i64 0), (.int .i64 0), (.int .i64 0), (.int .i64 0), (.int .i64 0), (.int .i64 0), (.int .i64 0), (.int .i64 0), (.int .i64 0), (.slice none 0 0)]) zero_25 rfl) rfl ?_; intro bNew) | refine TL_gq2 (op_build rfl (bl_25_ )) rfl ?_ | (refine T_yes rfl ?_ ?_; (· (exact Bool.not_false)))))
        refine TG_op (op_call hb_21 rfl (rSame_S Cn.zeroC Cn.zeroC _ _ (ORow.sliceR mono_zo hB3 (by simp) (mem_of_cnt (by intro p; (try simp only [cnt_append, cnt_cons, cnt_nil]) <;> omega))) sliceR.nil)) rfl ?_
        rw [show sameC Cn.zeroC Cn.zeroC = true from by decide +kernel]
        repeat ((first | with_reducible refine TL_nil ?_ | with_reducible refine TQ_then ?_ | with_reducible refine T_ret ?_ | with_reducible refine TQ_then_ret ?_ | refine TL_q (op_assign rfl) rfl ?_ | (refine' TL_q (op_pickT rfl ?_ rfl) rfl ?_; (· (assumption)))))
        refine TQ_cnt (L' := L) ?_ (by intro p; (try simp only [cnt_append, cnt_cons, cnt_nil]) <;> omega)
        refine TQ_ret1 4 _ rfl rfl ?_
        refine ⟨?_, rfl⟩
        (rfl)
      · subst p2 p3
        rcases p1 with rfl | rfl
        all_goals
          repeat ((first | with_reducible refine T_seq ?_ | with_reducible refine T_region ?_ | with_reducible refine TL_nil ?_ | with_reducible refine TQ_then ?_ | refine TL_q (op_move rfl) rfl ?_ | refine TL_q (op_assign rfl) rfl ?_ | (refine' TL_q (op_bin rfl rfl ?_) rfl ?_; rotate_left 1; (· (first | exact bin_eql | exact bin_neq | exact bin_gtr | exact bbin_eql Tryd.underlying4))) | refine TL_q (op_extract rfl rfl) rfl ?_ | (refine TL_gpre rfl rfl ?_ ?_; (· (exact Bool.not_false))) | (refine' TL_gq2 (op_ldAll rfl st_25 ?_ ?_) rfl ?_; rotate_left 3; (· repeat ((exact List.mem_cons_self))); (· (rfl))) | (refine TL_stAll rfl rfl st_25 rfl rfl rfl ?_) | (refine TL_new (op_alloc (C := #[(.int .i64 0), (.int .i64 0), (.int .i64 0), (.int .i64 0), (.int .i64 0), (.int .i64 0), (.int .i64 0), (.int .i64 0), (.int .i64 0), (.int .i64 0), (.int .i64 0), (.int .i64 0), (.slice none 0 0)]) zero_25 rfl) rfl ?_; intro bNew) | refine TL_gq2 (op_build rfl (bl_25_ )) rfl ?_ | (refine T_yes rfl ?_ ?_; (· (exact Bool.not_false)))))
          refine TG_op (op_call hb_21 rfl (rSame_S Cn.zeroC Cn.zeroC _ _ (ORow.sliceR mono_zo hB3 (by simp) (mem_of_cnt (by intro p; (try simp only [cnt_append, cnt_cons, cnt_nil]) <;> omega))) sliceR.nil)) rfl ?_
          rw [show sameC Cn.zeroC Cn.zeroC = true from by decide +kernel]
          repeat ((first | with_reducible refine TL_nil ?_ | with_reducible refine TQ_then ?_ | with_reducible refine T_ret ?_ | with_reducible refine TQ_then_ret ?_ | refine TL_q (op_assign rfl) rfl ?_ | (refine' TL_q (op_pickT rfl ?_ rfl) rfl ?_; (· (exact Bool.not_false)))))
          refine TQ_cnt (L' := L) ?_ (by intro p; (try simp only [cnt_append, cnt_cons, cnt_nil]) <;> omega)
          refine TQ_ret1 4 _ rfl rfl ?_
          refine ⟨?_, rfl⟩
          first | rfl | (congr 1; simp; omega)
    | true =>
      have hs0 : showV c = .tuple #[.string (bs (Cn.textC theT c)), .int .i64 0] := by unfold showV Cn.showP; rw [if_pos hm]
      have htl := Cn.textC_len theT_ok hm
      rw [hs0]
      repeat ((first | with_reducible refine T_seq ?_ | with_reducible refine T_region ?_ | with_reducible refine TL_nil ?_ | with_reducible refine TQ_then ?_ | refine TL_q (op_move rfl) rfl ?_ | refine TL_q (op_assign rfl) rfl ?_ | (refine' TL_q (op_bin rfl rfl ?_) rfl ?_; rotate_left 1; (· (exact bin_eql))) | refine TL_q (op_extract rfl rfl) rfl ?_ | (refine' TL_q (op_ldAll rfl st_25 ?_ ?_) rfl ?_; rotate_left 3; (· repeat ((exact List.mem_cons_self))); (· (rfl)))))
      refine TL_op (op_call hb_11 rfl (pMay_S c v (hcl.mono (mem_of_cnt (by intro p; (try simp only [cnt_append, cnt_cons, cnt_nil]) <;> omega))))) rfl ?_
      rw [mayE1_yes hm]
      repeat ((first | with_reducible refine T_seq ?_ | with_reducible refine T_region ?_ | with_reducible refine TL_nil ?_ | with_reducible refine TQ_then ?_ | with_reducible refine T_skip ?_ | refine TL_q (op_move rfl) rfl ?_ | (refine' TL_q (op_bin rfl rfl ?_) rfl ?_; rotate_left 1; (· (first | exact bin_eql | exact bbin_neq Tryd.underlying4))) | (refine T_yes rfl ?_ ?_; (· (exact Bool.not_false))) | (refine T_no rfl ?_ ?_; (· (exact Bool.not_true)))))
      refine TL_opT (op_call hb_23 rfl (pParse_S (Cn.textC theT c) (by omega) (Or.inr (by omega)) (hg.mono (mem_of_cnt (by intro p; (try simp only [cnt_append, cnt_cons, cnt_nil]) <;> omega))))) rfl ?_
      rintro _ _ ⟨a1, cap1, B1, rfl, hB1, rfl⟩
      rw [Cn.parse_show theT_ok hm] at hB1 ⊢
      dsimp only at hB1 ⊢
      repeat ((first | with_reducible refine T_seq ?_ | with_reducible refine T_region ?_ | with_reducible refine TL_nil ?_ | with_reducible refine TQ_then ?_ | refine TL_q (op_move rfl) rfl ?_ | refine TL_q (op_assign rfl) rfl ?_ | (refine' TL_q (op_bin rfl rfl ?_) rfl ?_; rotate_left 1; (· (exact bin_neq))) | refine TL_q (op_extract rfl rfl) rfl ?_ | (refine' TL_q (op_pickF rfl ?_ rfl) rfl ?_; (· (exact Bool.not_true))) | (refine TL_gpre rfl rfl ?_ ?_; (· (exact Bool.not_true))) | refine TL_gq2 (op_move rfl) rfl ?_ | (refine' TL_gq2 (op_bin rfl rfl ?_) rfl ?_; rotate_left 1; (· (exact bin_neq))) | (refine' TL_gq2 (op_ldAll rfl st_25 ?_ ?_) rfl ?_; rotate_left 3; (· repeat ((first | exact List.mem_cons_self | apply List.mem_cons_of_mem | apply List.mem_append_right))); (· (rfl))) | (refine TL_stAll rfl rfl st_25 rfl rfl rfl ?_) | (refine TL_new (op_alloc (C := #[(.int .i64 0), (.int .i64 0), (.int .i64 0), (.int .i64 0), (.int .i64 0), (.int .i64 0), (.int .i64 0), (.int .i64 0), (.int .i64 0), (.int .i64 0), (.int .i64 0), (.int .i64 0), (.slice none 0 0)]) zero_25 rfl) rfl ?_; intro bNew)))
      refine TG_op (op_call hb_21 rfl (rSame_S c c _ _ (mono_slice mono_zo _ _ _ _ (mem_of_cnt (by intro p; (try simp only [cnt_append, cnt_cons, cnt_nil]) <;> omega)) hz) (ORow.sliceR mono_zo hB1 (by simp) (mem_of_cnt (by intro p; (try simp only [cnt_append, cnt_cons, cnt_nil]) <;> omega))))) rfl ?_
      rw [show sameC c c = true from by rw [sameC_eq]; exact decide_eq_true rfl]
      repeat ((first | with_reducible refine T_seq ?_ | with_reducible refine T_region ?_ | with_reducible refine TL_nil ?_ | with_reducible refine TQ_then ?_ | with_reducible refine T_skip ?_ | refine TL_q (op_move rfl) rfl ?_ | (refine' TL_q (op_pickF rfl ?_ rfl) rfl ?_; (· (exact Bool.not_true))) | (refine TL_gpre rfl rfl ?_ ?_; (· (exact Bool.not_true))) | refine TL_gq2 (op_not rfl) rfl ?_ | (refine T_no rfl ?_ ?_; (· (exact Bool.not_true)))))
      refine TL_opT (op_call hb_23 rfl (pParse_S s (by omega) (Or.inr (by omega)) (hg.mono (mem_of_cnt (by intro p; (try simp only [cnt_append, cnt_cons, cnt_nil]) <;> omega))))) rfl ?_
      rintro _ _ ⟨a3, cap3, B3, rfl, hB3, rfl⟩
      obtain ⟨⟨d, line, e⟩, hr⟩ : ∃ r, Cn.parseP theT s = r := ⟨_, rfl⟩
      rw [hr] at hsp hB3
      simp only [hr]
      dsimp only at hsp hB3 ⊢
      rcases hsp with ⟨p1, p2, p3, p4⟩ | ⟨p1, p2, p3⟩ | ⟨p1, p2, p3⟩
      · subst p1 p2
        have hdl : ∀ L' : Blocks, (∀ p ∈ B3, p ∈ L') → CfL L' d (.slice a3 d.zs.length cap3) := fun L' hp => ⟨ORow.sliceR mono_zo hB3 (by simp) hp, fun z hz => by have := may_255 ((Cn.mayP_zones p3).2 z hz).1; omega⟩
        have hsd : showV d = .tuple #[.string (bs s), .int .i64 0] := by unfold showV Cn.showP; rw [if_pos p3, p4]
        repeat ((first | with_reducible refine T_seq ?_ | with_reducible refine T_region ?_ | with_reducible refine TL_nil ?_ | with_reducible refine TQ_then ?_ | with_reducible refine T_skip ?_ | refine TL_q (op_move rfl) rfl ?_ | refine TL_q (op_assign rfl) rfl ?_ | (refine' TL_q (op_bin rfl rfl ?_) rfl ?_; rotate_left 1; (· (exact bin_neq))) | refine TL_q (op_extract rfl rfl) rfl ?_ | (refine' TL_q (op_ldAll rfl st_25 ?_ ?_) rfl ?_; rotate_left 3; (· repeat ((exact List.mem_cons_self))); (· (rfl))) | (refine TL_stAll rfl rfl st_25 rfl rfl rfl ?_) | (refine TL_new (op_alloc (C := #[(.int .i64 0), (.int .i64 0), (.int .i64 0), (.int .i64 0), (.int .i64 0), (.int .i64 0), (.int .i64 0), (.int .i64 0), (.int .i64 0), (.int .i64 0), (.int .i64 0), (.int .i64 0), (.slice none 0 0)]) zero_25 rfl) rfl ?_; intro bNew) | (refine T_no rfl ?_ ?_; (· (exact Bool.not_true)))))
        refine TL_op (op_call hb_13 rfl (pShow_S d _ (hdl _ (mem_of_cnt (by intro p; (try simp only [cnt_append, cnt_cons, cnt_nil]) <;> omega))) (hg.mono (mem_of_cnt (by intro p; (try simp only [cnt_append, cnt_cons, cnt_nil]) <;> omega))))) rfl ?_
        rw [hsd]
        repeat ((first | with_reducible refine T_seq ?_ | with_reducible refine T_region ?_ | with_reducible refine TL_nil ?_ | with_reducible refine TQ_then ?_ | refine TL_q (op_move rfl) rfl ?_ | refine TL_q (op_assign rfl) rfl ?_ | (refine' TL_q (op_bin rfl rfl ?_) rfl ?_; rotate_left 1; (· (exact bin_eql))) | refine TL_q (op_extract rfl rfl) rfl ?_ | (refine' TL_q (op_pickT rfl ?_ rfl) rfl ?_; (· (exact Bool.not_false))) | (refine TL_gpre rfl rfl ?_ ?_; (· (first | exact Bool.not_false | exact eT (by (with_reducible rfl))))) | refine TL_gq2 (op_move rfl) rfl ?_ | (refine' TL_gq2 (op_bin rfl rfl ?_) rfl ?_; rotate_left 1; (· (first | exact bin_eql | exact sbin_eql))) | (refine' TL_gq2 (op_ldAll rfl st_25 ?_ ?_) rfl ?_; rotate_left 3; (· repeat ((exact List.mem_cons_self))); (· (rfl)))))
        refine TG_op (op_call hb_11 rfl (pMay_S d _ (hdl _ (mem_of_cnt (by intro p; (try simp only [cnt_append, cnt_cons, cnt_nil]) <;> omega))))) rfl ?_
        rw [mayE1_yes p3]
        repeat ((first | with_reducible refine TL_nil ?_ | with_reducible refine TQ_then ?_ | with_reducible refine T_ret ?_ | refine TL_q (op_assign rfl) rfl ?_ | (refine' TL_q (op_pickT rfl ?_ rfl) rfl ?_; (· (exact eT (by (with_reducible rfl))))) | (refine TL_gpre rfl rfl ?_ ?_; (· (exact eT (by (with_reducible rfl))))) | (refine' TL_gq2 (op_bin rfl rfl ?_) rfl ?_; rotate_left 1; (· (exact bin_eql)))))
        refine TQ_cnt (L' := L) ?_ (by intro p; (try simp only [cnt_append, cnt_cons, cnt_nil]) <;> omega)
        refine TQ_ret1 4 _ rfl rfl ?_
        exact ⟨rfl, rfl⟩
      · subst p1 p3
        have hd0 : (decide ((0 : Int) < line) == ((3 : Int) == 3)) = true := by rw [decide_eq_true (by omega : (0 : Int) < line)]; rfl
        repeat ((first | with_reducible refine T_seq ?_ | with_reducible refine T_region ?_ | with_reducible refine TL_nil ?_ | with_reducible refine TQ_then ?_ | refine TL_q (op_move rfl) rfl ?_ | refine TL_q (op_assign rfl) rfl ?_ | (refine' TL_q (op_bin rfl rfl ?_) rfl ?_; rotate_left 1; (· (first | exact bin_eql | exact bin_neq | exact bin_gtr | exact bbin_eql Tryd.underlying4))) | refine TL_q (op_extract rfl rfl) rfl ?_ | (refine TL_gpre rfl rfl ?_ ?_; (· (assumption))) | (refine' TL_gq2 (op_ldAll rfl st_25 ?_ ?_) rfl ?_; rotate_left 3; (· repeat ((exact List.mem_cons_self))); (· (rfl))) | (refine TL_stAll rfl rfl st_25 rfl rfl rfl ?_) | (refine TL_new (op_alloc (C := #[(.int .i64 0), (.int .i64 0), (.int .i64 0), (.int .i64 0), (.int .i64 0), (.int .i64 0), (.int .i64 0), (.int .i64 0), (.int .i64 0), (.int .i64 0), (.int .i64 0), (.int .i64 0), (.slice none 0 0)]) zero_25 rfl) rfl ?_; intro bNew) | refine TL_gq2 (op_build rfl (bl_25_ )) rfl ?_ | (refine T_yes rfl ?_ ?_; (· (exact Bool.not_false)))))
        refine TG_op (op_call hb_21 rfl (rSame_S Cn.zeroC Cn.zeroC _ _ (ORow.sliceR mono_zo hB3 (by simp) (mem_of_cnt (by intro p; (try simp only [cnt_append, cnt_cons, cnt_nil]) <;> omega))) sliceR.nil)) rfl ?_
        rw [show sameC Cn.zeroC Cn.zeroC = true from by decide +kernel]
        repeat ((first | with_reducible refine TL_nil ?_ | with_reducible refine TQ_then ?_ | with_reducible refine T_ret ?_ | with_reducible refine TQ_then_ret ?_ | refine TL_q (op_assign rfl) rfl ?_ | (refine' TL_q (op_pickT rfl ?_ rfl) rfl ?_; (· (assumption)))))
        refine TQ_cnt (L' := L) ?_ (by intro p; (try simp only [cnt_append, cnt_cons, cnt_nil]) <;> omega)
        refine TQ_ret1 4 _ rfl rfl ?_
        refine ⟨?_, rfl⟩
        (rfl)
      · subst p2 p3
        rcases p1 with rfl | rfl
        all_goals
          repeat ((first | with_reducible refine T_seq ?_ | with_reducible refine T_region ?_ | with_reducible refine TL_nil ?_ | with_reducible refine TQ_then ?_ | refine TL_q (op_move rfl) rfl ?_ | refine TL_q (op_assign rfl) rfl ?_ | (refine' TL_q (op_bin rfl rfl ?_) rfl ?_; rotate_left 1; (· (first | exact bin_eql | exact bin_neq | exact bin_gtr | exact bbin_eql Tryd.underlying4))) | refine TL_q (op_extract rfl rfl) rfl ?_ | (refine TL_gpre rfl rfl ?_ ?_; (· (exact Bool.not_false))) | (refine' TL_gq2 (op_ldAll rfl st_25 ?_ ?_) rfl ?_; rotate_left 3; (· repeat ((exact List.mem_cons_self))); (· (rfl))) | (refine TL_stAll rfl rfl st_25 rfl rfl rfl ?_) | (refine TL_new (op_alloc (C := #[(.int .i64 0), (.int .i64 0), (.int .i64 0), (.int .i64 0), (.int .i64 0), (.int .i64 0), (.int .i64 0), (.int .i64 0), (.int .i64 0), (.int .i64 0), (.int .i64 0), (.int .i64 0), (.slice none 0 0)]) zero_25 rfl) rfl ?_; intro bNew) | refine TL_gq2 (op_build rfl (bl_25_ )) rfl ?_ | (refine T_yes rfl ?_ ?_; (· (exact Bool.not_false)))))
          refine TG_op (op_call hb_21 rfl (rSame_S Cn.zeroC Cn.zeroC _ _ (ORow.sliceR mono_zo hB3 (by simp) (mem_of_cnt (by intro p; (try simp only [cnt_append, cnt_cons, cnt_nil]) <;> omega))) sliceR.nil)) rfl ?_
          rw [show sameC Cn.zeroC Cn.zeroC = true from by decide +kernel]
          repeat ((first | with_reducible refine TL_nil ?_ | with_reducible refine TQ_then ?_ | with_reducible refine T_ret ?_ | with_reducible refine TQ_then_ret ?_ | refine TL_q (op_assign rfl) rfl ?_ | (refine' TL_q (op_pickT rfl ?_ rfl) rfl ?_; (· (exact Bool.not_false)))))
          refine TQ_cnt (L' := L) ?_ (by intro p; (try simp only [cnt_append, cnt_cons, cnt_nil]) <;> omega)
          refine TQ_ret1 4 _ rfl rfl ?_
          refine ⟨?_, rfl⟩
          (rfl)
end Go.Proofs.YtnhlpifbadncmaaDoor
