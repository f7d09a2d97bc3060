/-
  Part 10: Kx Ky Ta OpM OpT.
-/
import Derived.Test.YtdflhdfapnhjjaaTx9
import Derived.Test.YtdflhdfapnhjjaaTx7
import Derived.Test.YtdflhdfapnhjjaaTx1
namespace Go.Proofs.Ytdflhdfapnhjjaa
open Go.RowKit
open Vd (RSet Vdt Vote Rec Quest Piece Ballot)
set_option linter.unusedVariables false
set_option linter.unusedSimpArgs false
--auto
variable {G : World} {L : Blocks}
set_option maxRecDepth 100000 in
set_option maxHeartbeats 4000000 in
theorem long21_S (v : Value) (l : List TAct) (hl : sliceR 30 actR L [v] l) : Spec Try.prog G 31 #[v] L fun u M => ∃ b, u = .bool b ∧ M = L ∧ (b = false → l.length ≤ 125 ∧ ∀ x ∈ l, x.Small) := by
  obtain ⟨al, cl, e1, hl⟩ := hl.val
  simp only [List.cons.injEq, and_true] at e1
  subst e1
  obtain ⟨_, ka1, ka2, hl⟩ := sliceR.cut hl
  unfold maxLen at ka2
  refine Spec_of (n := 116) Try.func31 rfl rfl rfl ?_
  repeat ((first | with_reducible refine T_seq ?_ | with_reducible refine T_block ?_ | with_reducible refine T_region ?_ | with_reducible refine TL_nil ?_ | with_reducible refine TQ_then ?_ | refine TL_q (op_assign rfl) rfl ?_))
  refine T_loopS (σ := Nat × Int) (fun y => y.1 ≤ l.length ∧ (0 ≤ y.2 ∧ y.2 ≤ 30000) ∧ 40 * y.1 ≤ y.2 ∧ (y.2 < 5000 → ∀ x ∈ l.take y.1, x.Small)) (fun y => [(0, .slice al l.length cl), (3, .int .i64 y.2), (4, .int .i64 (y.1 : Nat))]) (fun y => L) (fun y => l.length - y.1) (0, 0) ⟨Nat.zero_le _, by simp, by simp, by simp⟩ ?_ (fun w h => h) ?_
  (repeat ((first | exact trivial | refine ⟨rfl, ?_⟩)))
  rintro ⟨i, n⟩ ⟨hi, ⟨hn0, hn00⟩, hn40, hall⟩
  dsimp only at hi hn0 hn00 hn40 hall ⊢
  by_cases hgo : i < l.length ∧ n < 5000
  · obtain ⟨hil, hn5⟩ := hgo
    obtain ⟨s, hs⟩ : ∃ s, l[i]? = some s := ⟨_, List.getElem?_eq_getElem hil⟩
    rcases hl with rfl | ⟨b1, o1, C1, t1, f1, rfl, m1, q1⟩
    · simp at hil
    obtain ⟨cx, _, ⟨vc, va0, vb0, cm, rfl, ⟨_, hqm, _⟩, hsm, _⟩, hcx⟩ := q1 i s hs
    unfold maxLen at hqm
    obtain ⟨h0, h1, h2, h3, h4, h5, h6, h7, h8, h9, qs, va, vb, xx, kk, e0, e1, e2, e3, e4, rfl, hma, hmb, hcode, _⟩ := hsm
    obtain ⟨aA, cA, ea, hma⟩ := hma.val
    obtain ⟨aB, cB, eb, hmb⟩ := hmb.val
    simp only [List.cons.injEq, and_true] at ea eb
    subst ea eb
    have hAc := (sliceR.cut hma).2
    have hBc := (sliceR.cut hmb).2
    unfold maxLen at hAc hBc
    obtain ⟨hAc1, hAc2, _⟩ := hAc
    obtain ⟨hBc1, hBc2, _⟩ := hBc
    have gq : C1[o1 + i * 30 + 6 + 0]? = some (.string (bs s.q.name)) := by rw [Nat.add_assoc]; exact hcx 6 _ rfl
    have hA : C1[o1 + i * 30 + 9 + 12]? = some (.slice aA s.m.answers.length cA) := by rw [Nat.add_assoc]; exact hcx (9 + 12) _ rfl
    have hB : C1[o1 + i * 30 + 9 + 13]? = some (.slice aB s.m.auth.length cB) := by rw [Nat.add_assoc]; exact hcx (9 + 13) _ rfl
    obtain ⟨n1, hn1⟩ : ∃ x, x = n + 40 + min 5000 (s.q.name.length : Int) := ⟨_, rfl⟩
    skip
    refine T_seq ?_
    skip
    refine T_seq ?_
    repeat ((first | with_reducible refine T_region ?_ | with_reducible refine TL_nil ?_ | with_reducible refine TQ_then ?_ | with_reducible refine T_skip ?_ | refine TL_q (op_move rfl) rfl ?_ | (refine' TL_q (op_bin rfl rfl ?_) rfl ?_; rotate_left 1; (· (exact bin_lss))) | (refine' TL_q (op_pickT rfl ?_ rfl) rfl ?_; (· (exact dT (by (omega))))) | refine TL_q (op_len_slice rfl Try.underlying69) rfl ?_ | (refine TL_gpre rfl rfl ?_ ?_; (· (exact dT (by (omega))))) | refine TL_gq2 (op_move rfl) rfl ?_ | (refine' TL_gq2 (op_bin rfl rfl ?_) rfl ?_; rotate_left 1; (· (exact bin_lss))) | (refine T_yes rfl ?_ ?_; (· (exact dT (by (assumption)))))))
    refine T_seq ?_
    repeat ((with_reducible refine T_block ?_))
    refine T_seq ?_
    repeat ((first | with_reducible refine T_region ?_ | with_reducible refine TL_nil ?_ | with_reducible refine TQ_then ?_ | refine TL_q (op_move rfl) rfl ?_ | refine TL_q (op_assign rfl) rfl ?_ | (refine' TL_q (op_bin rfl rfl ?_) rfl ?_; rotate_left 1; (· (exact bin_add ⟨by omega, by omega⟩))) | refine TL_q (op_len_str rfl Try.underlying9) rfl ?_ | refine TL_q (op_min rfl rfl) rfl ?_ | (refine' TL_q (op_idx ety_69 rfl rfl ?_) rfl ?_; (· omega)) | refine TL_q (op_fld rfl fld_34_0) rfl ?_ | refine TL_q (op_fld rfl fld_73_2) rfl ?_ | (refine' TL_q (op_ld rfl pl_9 ?_ ?_) rfl ?_; rotate_left 4; (· repeat ((assumption))); (· (assumption)))))
    refine T_mid (σ := Int) (fun nA => (n1 ≤ nA ∧ nA ≤ 30000) ∧ (nA < 5000 → s.m.answers.length ≤ 420 ∧ ∀ x ∈ s.m.answers, x.name.length ≤ 5000 ∧ x.data.length ≤ 5000)) (fun nA => [(0, .slice (some ⟨b1, o1, none⟩) l.length cl), (3, .int .i64 nA), (4, .int .i64 (i : Nat))]) (fun _ => L) ?_ ?_
    · rw [← hn1]
      repeat ((first | with_reducible refine T_seq ?_ | with_reducible refine T_block ?_ | with_reducible refine T_region ?_ | with_reducible refine TL_nil ?_ | with_reducible refine TQ_then ?_ | refine TL_q (op_assign rfl) rfl ?_))
      refine T_loopS (σ := Nat × Int) (fun y => y.1 ≤ s.m.answers.length ∧ (n1 ≤ y.2 ∧ y.2 ≤ 30000) ∧ 12 * y.1 ≤ y.2 ∧ (y.2 < 5000 → ∀ x ∈ s.m.answers.take y.1, x.name.length ≤ 5000 ∧ x.data.length ≤ 5000)) (fun y => [(0, .slice (some ⟨b1, o1, none⟩) l.length cl), (3, .int .i64 y.2), (4, .int .i64 (i : Nat)), (5, .int .i64 (y.1 : Nat))]) (fun y => L) (fun y => s.m.answers.length - y.1) (0, n1) ⟨Nat.zero_le _, by dsimp only; omega, by dsimp only; omega, by simp⟩ ?_ (fun w h => h) ?_
      (repeat ((first | exact trivial | refine ⟨rfl, ?_⟩)))
      rintro ⟨k, n2⟩ ⟨hk, ⟨hn21, hn2⟩, hn3, hfit⟩
      dsimp only at hk hn21 hn2 hn3 hfit ⊢
      by_cases hgo : k < s.m.answers.length ∧ n2 < 5000
      · obtain ⟨hkl, hn5⟩ := hgo
        obtain ⟨x, hx⟩ : ∃ x, s.m.answers[k]? = some x := ⟨_, List.getElem?_eq_getElem hkl⟩
        obtain ⟨b2, o2, C2, t2, f2, rfl, m2, cs, _, ⟨rfl, hxn, hxd, _⟩, hcs⟩ := sliceR.at hma hx
        unfold maxLen at hxn hxd
        have e0' : C2[o2 + k * 5 + 0]? = some (.string (bs x.name)) := hcs 0 _ rfl
        have e4' : C2[o2 + k * 5 + 4]? = some (.string (bs x.data)) := hcs 4 _ rfl
        have hKm : ∀ z ∈ [(b1, Obj.cells C1 t1 f1), (b2, Obj.cells C2 t2 f2)], z ∈ L := by
          intro z hz
          simp only [List.mem_cons, List.not_mem_nil, or_false] at hz
          rcases hz with rfl | rfl <;> assumption
        repeat ((first | with_reducible refine T_seq ?_ | with_reducible refine T_block ?_ | with_reducible refine T_region ?_ | with_reducible refine TL_nil ?_ | with_reducible refine TQ_then ?_ | with_reducible refine T_skip ?_ | refine TL_q (op_move rfl) rfl ?_ | (refine' TL_q (op_bin rfl rfl ?_) rfl ?_; rotate_left 1; (· (exact bin_lss))) | (refine' TL_q (op_pickT rfl ?_ rfl) rfl ?_; (· (exact dT (by (omega))))) | refine TL_q (op_len_slice rfl Try.underlying27) rfl ?_ | (refine' TL_q (op_idx ety_69 rfl rfl ?_) rfl ?_; (· omega)) | refine TL_q (op_fld rfl fld_32_2) rfl ?_ | refine TL_q (op_fld rfl fld_73_3) rfl ?_ | (refine' TL_q (op_ld rfl pl_9 ?_ ?_) rfl ?_; rotate_left 4; (· repeat ((assumption))); (· (assumption))) | (refine TL_gpre rfl rfl ?_ ?_; (· (exact dT (by (omega))))) | refine TL_gq2 (op_move rfl) rfl ?_ | (refine' TL_gq2 (op_bin rfl rfl ?_) rfl ?_; rotate_left 1; (· (exact bin_lss))) | (refine T_yes rfl ?_ ?_; (· (exact dT (by (assumption)))))))
        refine T_draw follows_mixed ([(b1, Obj.cells C1 t1 f1), (b2, Obj.cells C2 t2 f2)]) [] ?_
        (refine' TA_take 0 rfl rfl (by kernel_rfl) (quiet_q (op_move rfl)) ?_ ?_; (· (assumption)))
        (refine' TA_take 1 rfl rfl (by kernel_rfl) (quiet_q (op_bin rfl rfl ?_)) ?_ ?_; rotate_left 1; (· (exact bin_add ⟨by omega, by omega⟩)); (· (assumption)))
        (refine' TA_take 2 rfl rfl (by kernel_rfl) (quiet_q (op_move rfl)) ?_ ?_; (· (assumption)))
        (refine' TA_take 3 rfl rfl (by kernel_rfl) (quiet_q (op_move rfl)) ?_ ?_; (· (assumption)))
        (refine' TA_take 4 rfl rfl (by kernel_rfl) (quiet_q (op_idx ety_69 rfl rfl ?_)) ?_ ?_; (· omega); (· (assumption)))
        (refine' TA_take 5 rfl rfl (by kernel_rfl) (quiet_q (op_fld rfl fld_73_3)) ?_ ?_; (· (assumption)))
        (refine' TA_take 6 rfl rfl (by kernel_rfl) (quiet_q (op_fld rfl fld_32_2)) ?_ ?_; (· (assumption)))
        (refine' TA_take 7 rfl rfl (by kernel_rfl) (quiet_q (op_ld rfl pl_27 ?_ ?_)) ?_ ?_; rotate_left 4; (· repeat ((exact List.mem_cons_self))); (· (assumption)); (· (assumption)))
        (refine' TA_take 8 rfl rfl (by kernel_rfl) (quiet_q (op_move rfl)) ?_ ?_; (· (assumption)))
        (refine' TA_take 9 rfl rfl (by kernel_rfl) (quiet_q (op_idx ety_27 rfl rfl ?_)) ?_ ?_; (· omega); (· (assumption)))
        (refine' TA_take 10 rfl rfl (by kernel_rfl) (quiet_q (op_fld rfl fld_112_0)) ?_ ?_; (· (assumption)))
        (refine' TA_take 11 rfl rfl (by kernel_rfl) (quiet_q (op_ld rfl pl_9 ?_ ?_)) ?_ ?_; rotate_left 4; (· repeat ((first | exact List.mem_cons_self | apply List.mem_cons_of_mem))); (· (assumption)); (· (assumption)))
        (refine' TA_take 12 rfl rfl (by kernel_rfl) (quiet_q (op_len_str rfl Try.underlying9)) ?_ ?_; (· (assumption)))
        (refine' TA_take 13 rfl rfl (by kernel_rfl) (quiet_q (op_min rfl rfl)) ?_ ?_; (· (assumption)))
        (refine' TA_take 14 rfl rfl (by kernel_rfl) (quiet_q (op_bin rfl rfl ?_)) ?_ ?_; rotate_left 1; (· (exact bin_add ⟨by omega, by omega⟩)); (· (assumption)))
        (refine' TA_take 15 rfl rfl (by kernel_rfl) (quiet_q (op_move rfl)) ?_ ?_; (· (assumption)))
        (refine' TA_take 16 rfl rfl (by kernel_rfl) (quiet_q (op_move rfl)) ?_ ?_; (· (assumption)))
        (refine' TA_take 17 rfl rfl (by kernel_rfl) (quiet_q (op_idx ety_69 rfl rfl ?_)) ?_ ?_; (· omega); (· (assumption)))
        (refine' TA_take 18 rfl rfl (by kernel_rfl) (quiet_q (op_fld rfl fld_73_3)) ?_ ?_; (· (assumption)))
        (refine' TA_take 19 rfl rfl (by kernel_rfl) (quiet_q (op_fld rfl fld_32_2)) ?_ ?_; (· (assumption)))
        (refine' TA_take 20 rfl rfl (by kernel_rfl) (quiet_q (op_ld rfl pl_27 ?_ ?_)) ?_ ?_; rotate_left 4; (· repeat ((exact List.mem_cons_self))); (· (assumption)); (· (assumption)))
        (refine' TA_take 21 rfl rfl (by kernel_rfl) (quiet_q (op_move rfl)) ?_ ?_; (· (assumption)))
        (refine' TA_take 22 rfl rfl (by kernel_rfl) (quiet_q (op_idx ety_27 rfl rfl ?_)) ?_ ?_; (· omega); (· (assumption)))
        (refine' TA_take 23 rfl rfl (by kernel_rfl) (quiet_q (op_fld rfl fld_112_4)) ?_ ?_; (· (assumption)))
        (refine' TA_take 24 rfl rfl (by kernel_rfl) (quiet_q (op_ld rfl pl_9 ?_ ?_)) ?_ ?_; rotate_left 4; (· repeat ((first | exact List.mem_cons_self | apply List.mem_cons_of_mem))); (· (assumption)); (· (assumption)))
        (refine' TA_take 25 rfl rfl (by kernel_rfl) (quiet_q (op_len_str rfl Try.underlying9)) ?_ ?_; (· (assumption)))
        (refine' TA_take 26 rfl rfl (by kernel_rfl) (quiet_q (op_min rfl rfl)) ?_ ?_; (· (assumption)))
        (refine' TA_take 27 rfl rfl (by kernel_rfl) (quiet_q (op_bin rfl rfl ?_)) ?_ ?_; rotate_left 1; (· (exact bin_add ⟨by omega, by omega⟩)); (· (assumption)))
        (refine' TA_take 28 rfl rfl (by kernel_rfl) (quiet_q (op_assign rfl)) ?_ ?_; (· (assumption)))
        refine TA_done (by kernel_rfl) ?_
        repeat ((first | with_reducible refine T_region ?_ | with_reducible refine TL_nil ?_ | with_reducible refine TQ_then ?_ | with_reducible refine TQ_block ?_ | refine TL_q (op_move rfl) rfl ?_ | refine TL_q (op_assign rfl) rfl ?_ | (refine' TL_q (op_bin rfl rfl ?_) rfl ?_; rotate_left 1; (· (exact bin_add ⟨by omega, by omega⟩)))))
        refine TQ_roundS (k + 1, n2 + 12 + min 5000 (x.name.length : Int) + min 5000 (x.data.length : Int)) ⟨hkl, by dsimp only; omega, by dsimp only; omega, fun h y hy => ?_⟩ ?_ (fun w h => h) (by dsimp only; omega)
        · dsimp only at h
          rw [List.take_add_one, hx] at hy
          rcases List.mem_append.1 hy with hy | hy
          · exact hfit hn5 y hy
          · have : y = x := by simpa using hy
            subst this
            omega
        (repeat ((first | exact trivial | refine ⟨rfl, ?_⟩)))
      · have hfin : n2 < 5000 → s.m.answers.length ≤ 420 ∧ ∀ x ∈ s.m.answers, x.name.length ≤ 5000 ∧ x.data.length ≤ 5000 := fun h => by
          have hke : k = s.m.answers.length := by omega
          have := hfit h
          rw [hke, List.take_length] at this
          exact ⟨by omega, this⟩
        by_cases hkl : k < s.m.answers.length
        · have hn5 : ¬ n2 < 5000 := fun h => hgo ⟨hkl, h⟩
          repeat ((first | with_reducible refine T_seq ?_ | with_reducible refine T_region ?_ | with_reducible refine TL_nil ?_ | with_reducible refine TQ_then ?_ | with_reducible refine T_exit ?_ | with_reducible refine TQ_then_exit ?_ | with_reducible refine TQ_block_exit ?_ | refine TL_q (op_move rfl) rfl ?_ | (refine' TL_q (op_bin rfl rfl ?_) rfl ?_; rotate_left 1; (· (exact bin_lss))) | (refine' TL_q (op_pickT rfl ?_ rfl) rfl ?_; (· (exact dT (by (omega))))) | refine TL_q (op_len_slice rfl Try.underlying27) rfl ?_ | (refine' TL_q (op_idx ety_69 rfl rfl ?_) rfl ?_; (· omega)) | refine TL_q (op_fld rfl fld_32_2) rfl ?_ | refine TL_q (op_fld rfl fld_73_3) rfl ?_ | (refine' TL_q (op_ld rfl pl_9 ?_ ?_) rfl ?_; rotate_left 4; (· repeat ((assumption))); (· (assumption))) | (refine TL_gpre rfl rfl ?_ ?_; (· (exact dT (by (omega))))) | refine TL_gq2 (op_move rfl) rfl ?_ | (refine' TL_gq2 (op_bin rfl rfl ?_) rfl ?_; rotate_left 1; (· (exact bin_lss))) | (refine T_no rfl ?_ ?_; (· (exact dF (by (assumption)))))))
          refine TQ_mid n2 ⟨⟨hn21, hn2⟩, hfin⟩ ?_ (fun w h => h)
          (repeat ((first | exact trivial | refine ⟨rfl, ?_⟩)))
        · repeat ((first | with_reducible refine T_seq ?_ | with_reducible refine T_region ?_ | with_reducible refine TL_nil ?_ | with_reducible refine TQ_then ?_ | with_reducible refine T_exit ?_ | with_reducible refine TQ_then_exit ?_ | with_reducible refine TQ_block_exit ?_ | refine TL_q (op_move rfl) rfl ?_ | (refine' TL_q (op_bin rfl rfl ?_) rfl ?_; rotate_left 1; (· (exact bin_lss))) | (refine' TL_q (op_pickF rfl ?_ rfl) rfl ?_; (· (exact dF (by (omega))))) | refine TL_q (op_len_slice rfl Try.underlying27) rfl ?_ | (refine' TL_q (op_idx ety_69 rfl rfl ?_) rfl ?_; (· omega)) | refine TL_q (op_fld rfl fld_32_2) rfl ?_ | refine TL_q (op_fld rfl fld_73_3) rfl ?_ | (refine' TL_q (op_ld rfl pl_9 ?_ ?_) rfl ?_; rotate_left 4; (· repeat ((assumption))); (· (assumption))) | (refine TL_gno rfl rfl ?_ rfl ?_; (· (exact dF (by (omega))))) | (refine T_no rfl ?_ ?_; (· (with_reducible rfl)))))
          refine TQ_mid n2 ⟨⟨hn21, hn2⟩, hfin⟩ ?_ (fun w h => h)
          (repeat ((first | exact trivial | refine ⟨rfl, ?_⟩)))
    · rintro nA ⟨⟨hnA1, hnA2⟩, hfinA⟩
      repeat ((first | with_reducible refine T_seq ?_ | with_reducible refine T_block ?_ | with_reducible refine T_region ?_ | with_reducible refine TL_nil ?_ | with_reducible refine TQ_then ?_ | refine TL_q (op_assign rfl) rfl ?_))
      refine T_loopS (σ := Nat × Int) (fun y => y.1 ≤ s.m.auth.length ∧ (nA ≤ y.2 ∧ y.2 ≤ 30000) ∧ 12 * y.1 ≤ y.2 ∧ (y.2 < 5000 → ∀ x ∈ s.m.auth.take y.1, x.name.length ≤ 5000 ∧ x.data.length ≤ 5000)) (fun y => [(0, .slice (some ⟨b1, o1, none⟩) l.length cl), (3, .int .i64 y.2), (4, .int .i64 (i : Nat)), (6, .int .i64 (y.1 : Nat))]) (fun y => L) (fun y => s.m.auth.length - y.1) (0, nA) ⟨Nat.zero_le _, by dsimp only; omega, by dsimp only; omega, by simp⟩ ?_ (fun w h => h) ?_
      (repeat ((first | exact trivial | refine ⟨rfl, ?_⟩)))
      rintro ⟨k, n2⟩ ⟨hk, ⟨hn21, hn2⟩, hn3, hfit⟩
      dsimp only at hk hn21 hn2 hn3 hfit ⊢
      by_cases hgo : k < s.m.auth.length ∧ n2 < 5000
      · obtain ⟨hkl, hn5⟩ := hgo
        obtain ⟨x, hx⟩ : ∃ x, s.m.auth[k]? = some x := ⟨_, List.getElem?_eq_getElem hkl⟩
        obtain ⟨b2, o2, C2, t2, f2, rfl, m2, cs, _, ⟨rfl, hxn, hxd, _⟩, hcs⟩ := sliceR.at hmb hx
        unfold maxLen at hxn hxd
        have e0' : C2[o2 + k * 5 + 0]? = some (.string (bs x.name)) := hcs 0 _ rfl
        have e4' : C2[o2 + k * 5 + 4]? = some (.string (bs x.data)) := hcs 4 _ rfl
        have hKm : ∀ z ∈ [(b1, Obj.cells C1 t1 f1), (b2, Obj.cells C2 t2 f2)], z ∈ L := by
          intro z hz
          simp only [List.mem_cons, List.not_mem_nil, or_false] at hz
          rcases hz with rfl | rfl <;> assumption
        repeat ((first | with_reducible refine T_seq ?_ | with_reducible refine T_block ?_ | with_reducible refine T_region ?_ | with_reducible refine TL_nil ?_ | with_reducible refine TQ_then ?_ | with_reducible refine T_skip ?_ | refine TL_q (op_move rfl) rfl ?_ | (refine' TL_q (op_bin rfl rfl ?_) rfl ?_; rotate_left 1; (· (exact bin_lss))) | (refine' TL_q (op_pickT rfl ?_ rfl) rfl ?_; (· (exact dT (by (omega))))) | refine TL_q (op_len_slice rfl Try.underlying27) rfl ?_ | (refine' TL_q (op_idx ety_69 rfl rfl ?_) rfl ?_; (· omega)) | refine TL_q (op_fld rfl fld_32_3) rfl ?_ | refine TL_q (op_fld rfl fld_73_3) rfl ?_ | (refine' TL_q (op_ld rfl pl_9 ?_ ?_) rfl ?_; rotate_left 4; (· repeat ((assumption))); (· (assumption))) | (refine TL_gpre rfl rfl ?_ ?_; (· (exact dT (by (omega))))) | refine TL_gq2 (op_move rfl) rfl ?_ | (refine' TL_gq2 (op_bin rfl rfl ?_) rfl ?_; rotate_left 1; (· (exact bin_lss))) | (refine T_yes rfl ?_ ?_; (· (exact dT (by (assumption)))))))
        refine T_draw follows_mixed ([(b1, Obj.cells C1 t1 f1), (b2, Obj.cells C2 t2 f2)]) [] ?_
        (refine' TA_take 0 rfl rfl (by kernel_rfl) (quiet_q (op_move rfl)) ?_ ?_; (· (assumption)))
        (refine' TA_take 1 rfl rfl (by kernel_rfl) (quiet_q (op_bin rfl rfl ?_)) ?_ ?_; rotate_left 1; (· (exact bin_add ⟨by omega, by omega⟩)); (· (assumption)))
        (refine' TA_take 2 rfl rfl (by kernel_rfl) (quiet_q (op_move rfl)) ?_ ?_; (· (assumption)))
        (refine' TA_take 3 rfl rfl (by kernel_rfl) (quiet_q (op_move rfl)) ?_ ?_; (· (assumption)))
        (refine' TA_take 4 rfl rfl (by kernel_rfl) (quiet_q (op_idx ety_69 rfl rfl ?_)) ?_ ?_; (· omega); (· (assumption)))
        (refine' TA_take 5 rfl rfl (by kernel_rfl) (quiet_q (op_fld rfl fld_73_3)) ?_ ?_; (· (assumption)))
        (refine' TA_take 6 rfl rfl (by kernel_rfl) (quiet_q (op_fld rfl fld_32_3)) ?_ ?_; (· (assumption)))
        (refine' TA_take 7 rfl rfl (by kernel_rfl) (quiet_q (op_ld rfl pl_27 ?_ ?_)) ?_ ?_; rotate_left 4; (· repeat ((exact List.mem_cons_self))); (· (assumption)); (· (assumption)))
        (refine' TA_take 8 rfl rfl (by kernel_rfl) (quiet_q (op_move rfl)) ?_ ?_; (· (assumption)))
        (refine' TA_take 9 rfl rfl (by kernel_rfl) (quiet_q (op_idx ety_27 rfl rfl ?_)) ?_ ?_; (· omega); (· (assumption)))
        (refine' TA_take 10 rfl rfl (by kernel_rfl) (quiet_q (op_fld rfl fld_112_0)) ?_ ?_; (· (assumption)))
        (refine' TA_take 11 rfl rfl (by kernel_rfl) (quiet_q (op_ld rfl pl_9 ?_ ?_)) ?_ ?_; rotate_left 4; (· repeat ((first | exact List.mem_cons_self | apply List.mem_cons_of_mem))); (· (assumption)); (· (assumption)))
        (refine' TA_take 12 rfl rfl (by kernel_rfl) (quiet_q (op_len_str rfl Try.underlying9)) ?_ ?_; (· (assumption)))
        (refine' TA_take 13 rfl rfl (by kernel_rfl) (quiet_q (op_min rfl rfl)) ?_ ?_; (· (assumption)))
        (refine' TA_take 14 rfl rfl (by kernel_rfl) (quiet_q (op_bin rfl rfl ?_)) ?_ ?_; rotate_left 1; (· (exact bin_add ⟨by omega, by omega⟩)); (· (assumption)))
        (refine' TA_take 15 rfl rfl (by kernel_rfl) (quiet_q (op_move rfl)) ?_ ?_; (· (assumption)))
        (refine' TA_take 16 rfl rfl (by kernel_rfl) (quiet_q (op_move rfl)) ?_ ?_; (· (assumption)))
        (refine' TA_take 17 rfl rfl (by kernel_rfl) (quiet_q (op_idx ety_69 rfl rfl ?_)) ?_ ?_; (· omega); (· (assumption)))
        (refine' TA_take 18 rfl rfl (by kernel_rfl) (quiet_q (op_fld rfl fld_73_3)) ?_ ?_; (· (assumption)))
        (refine' TA_take 19 rfl rfl (by kernel_rfl) (quiet_q (op_fld rfl fld_32_3)) ?_ ?_; (· (assumption)))
        (refine' TA_take 20 rfl rfl (by kernel_rfl) (quiet_q (op_ld rfl pl_27 ?_ ?_)) ?_ ?_; rotate_left 4; (· repeat ((exact List.mem_cons_self))); (· (assumption)); (· (assumption)))
        (refine' TA_take 21 rfl rfl (by kernel_rfl) (quiet_q (op_move rfl)) ?_ ?_; (· (assumption)))
        (refine' TA_take 22 rfl rfl (by kernel_rfl) (quiet_q (op_idx ety_27 rfl rfl ?_)) ?_ ?_; (· omega); (· (assumption)))
        (refine' TA_take 23 rfl rfl (by kernel_rfl) (quiet_q (op_fld rfl fld_112_4)) ?_ ?_; (· (assumption)))
        (refine' TA_take 24 rfl rfl (by kernel_rfl) (quiet_q (op_ld rfl pl_9 ?_ ?_)) ?_ ?_; rotate_left 4; (· repeat ((first | exact List.mem_cons_self | apply List.mem_cons_of_mem))); (· (assumption)); (· (assumption)))
        (refine' TA_take 25 rfl rfl (by kernel_rfl) (quiet_q (op_len_str rfl Try.underlying9)) ?_ ?_; (· (assumption)))
        (refine' TA_take 26 rfl rfl (by kernel_rfl) (quiet_q (op_min rfl rfl)) ?_ ?_; (· (assumption)))
        (refine' TA_take 27 rfl rfl (by kernel_rfl) (quiet_q (op_bin rfl rfl ?_)) ?_ ?_; rotate_left 1; (· (exact bin_add ⟨by omega, by omega⟩)); (· (assumption)))
        (refine' TA_take 28 rfl rfl (by kernel_rfl) (quiet_q (op_assign rfl)) ?_ ?_; (· (assumption)))
        refine TA_done (by kernel_rfl) ?_
        repeat ((first | with_reducible refine T_region ?_ | with_reducible refine TL_nil ?_ | with_reducible refine TQ_then ?_ | with_reducible refine TQ_block ?_ | refine TL_q (op_move rfl) rfl ?_ | refine TL_q (op_assign rfl) rfl ?_ | (refine' TL_q (op_bin rfl rfl ?_) rfl ?_; rotate_left 1; (· (exact bin_add ⟨by omega, by omega⟩)))))
        refine TQ_roundS (k + 1, n2 + 12 + min 5000 (x.name.length : Int) + min 5000 (x.data.length : Int)) ⟨hkl, by dsimp only; omega, by dsimp only; omega, fun h y hy => ?_⟩ ?_ (fun w h => h) (by dsimp only; omega)
        · dsimp only at h
          rw [List.take_add_one, hx] at hy
          rcases List.mem_append.1 hy with hy | hy
          · exact hfit hn5 y hy
          · have : y = x := by simpa using hy
            subst this
            omega
        (repeat ((first | exact trivial | refine ⟨rfl, ?_⟩)))
      · have hfin : n2 < 5000 → s.m.auth.length ≤ 420 ∧ ∀ x ∈ s.m.auth, x.name.length ≤ 5000 ∧ x.data.length ≤ 5000 := fun h => by
          have hke : k = s.m.auth.length := by omega
          have := hfit h
          rw [hke, List.take_length] at this
          exact ⟨by omega, this⟩
        have hend : n2 < 5000 → ∀ y ∈ l.take (i + 1), y.Small := fun h y hy => by
          rw [List.take_add_one, hs] at hy
          rcases List.mem_append.1 hy with hy | hy
          · exact hall hn5 y hy
          · have : y = s := by simpa using hy
            subst this
            exact ⟨by omega, hfinA (by omega), hfin h⟩
        by_cases hkl : k < s.m.auth.length
        · have hn5 : ¬ n2 < 5000 := fun h => hgo ⟨hkl, h⟩
          repeat ((first | with_reducible refine T_seq ?_ | with_reducible refine T_region ?_ | with_reducible refine TL_nil ?_ | with_reducible refine TQ_then ?_ | with_reducible refine TQ_block ?_ | with_reducible refine T_exit ?_ | with_reducible refine TQ_then_exit ?_ | with_reducible refine TQ_block_exit ?_ | refine TL_q (op_move rfl) rfl ?_ | refine TL_q (op_assign rfl) rfl ?_ | (refine' TL_q (op_bin rfl rfl ?_) rfl ?_; rotate_left 1; (· (first | exact bin_add ⟨by omega, by omega⟩ | exact bin_lss))) | (refine' TL_q (op_pickT rfl ?_ rfl) rfl ?_; (· (exact dT (by (omega))))) | refine TL_q (op_len_slice rfl Try.underlying27) rfl ?_ | (refine' TL_q (op_idx ety_69 rfl rfl ?_) rfl ?_; (· omega)) | refine TL_q (op_fld rfl fld_32_3) rfl ?_ | refine TL_q (op_fld rfl fld_73_3) rfl ?_ | (refine' TL_q (op_ld rfl pl_9 ?_ ?_) rfl ?_; rotate_left 4; (· repeat ((assumption))); (· (assumption))) | (refine TL_gpre rfl rfl ?_ ?_; (· (exact dT (by (omega))))) | refine TL_gq2 (op_move rfl) rfl ?_ | (refine' TL_gq2 (op_bin rfl rfl ?_) rfl ?_; rotate_left 1; (· (exact bin_lss))) | (refine T_no rfl ?_ ?_; (· (exact dF (by (assumption)))))))
          refine TQ_roundS (i + 1, n2) ⟨hil, by dsimp only; omega, by dsimp only; omega, hend⟩ ?_ (fun w h => h) (by dsimp only; omega)
          (repeat ((first | exact trivial | refine ⟨rfl, ?_⟩)))
        · repeat ((first | with_reducible refine T_seq ?_ | with_reducible refine T_region ?_ | with_reducible refine TL_nil ?_ | with_reducible refine TQ_then ?_ | with_reducible refine TQ_block ?_ | with_reducible refine T_exit ?_ | with_reducible refine TQ_then_exit ?_ | with_reducible refine TQ_block_exit ?_ | refine TL_q (op_move rfl) rfl ?_ | refine TL_q (op_assign rfl) rfl ?_ | (refine' TL_q (op_bin rfl rfl ?_) rfl ?_; rotate_left 1; (· (first | exact bin_add ⟨by omega, by omega⟩ | exact bin_lss))) | (refine' TL_q (op_pickF rfl ?_ rfl) rfl ?_; (· (exact dF (by (omega))))) | refine TL_q (op_len_slice rfl Try.underlying27) rfl ?_ | (refine' TL_q (op_idx ety_69 rfl rfl ?_) rfl ?_; (· omega)) | refine TL_q (op_fld rfl fld_32_3) rfl ?_ | refine TL_q (op_fld rfl fld_73_3) rfl ?_ | (refine' TL_q (op_ld rfl pl_9 ?_ ?_) rfl ?_; rotate_left 4; (· repeat ((assumption))); (· (assumption))) | (refine TL_gno rfl rfl ?_ rfl ?_; (· (exact dF (by (omega))))) | (refine T_no rfl ?_ ?_; (· (with_reducible rfl)))))
          refine TQ_roundS (i + 1, n2) ⟨hil, by dsimp only; omega, by dsimp only; omega, hend⟩ ?_ (fun w h => h) (by dsimp only; omega)
          (repeat ((first | exact trivial | refine ⟨rfl, ?_⟩)))
  · by_cases hil : i < l.length
    · have hn5 : ¬ n < 5000 := fun h => hgo ⟨hil, h⟩
      repeat ((first | with_reducible refine T_seq ?_ | with_reducible refine T_region ?_ | with_reducible refine TL_nil ?_ | with_reducible refine TQ_then ?_ | with_reducible refine T_exit ?_ | with_reducible refine T_ret ?_ | with_reducible refine TQ_then_exit ?_ | with_reducible refine TQ_block_exit ?_ | refine TL_q (op_move rfl) rfl ?_ | refine TL_q (op_assign rfl) rfl ?_ | (refine' TL_q (op_bin rfl rfl ?_) rfl ?_; rotate_left 1; (· (first | exact bin_lss | exact bin_geq))) | (refine' TL_q (op_pickT rfl ?_ rfl) rfl ?_; (· (exact dT (by (omega))))) | refine TL_q (op_len_slice rfl Try.underlying69) rfl ?_ | (refine TL_gpre rfl rfl ?_ ?_; (· (exact dT (by (omega))))) | refine TL_gq2 (op_move rfl) rfl ?_ | (refine' TL_gq2 (op_bin rfl rfl ?_) rfl ?_; rotate_left 1; (· (exact bin_lss))) | (refine T_no rfl ?_ ?_; (· (exact dF (by (assumption)))))))
      refine TQ_ret1 2 _ rfl rfl ?_
      exact ⟨_, rfl, rfl, fun h => by simp at h; omega⟩
    · have hie : i = l.length := by omega
      subst hie
      rw [List.take_length] at hall
      repeat ((first | with_reducible refine T_seq ?_ | with_reducible refine T_region ?_ | with_reducible refine TL_nil ?_ | with_reducible refine TQ_then ?_ | with_reducible refine T_exit ?_ | with_reducible refine T_ret ?_ | with_reducible refine TQ_then_exit ?_ | with_reducible refine TQ_block_exit ?_ | refine TL_q (op_move rfl) rfl ?_ | refine TL_q (op_assign rfl) rfl ?_ | (refine' TL_q (op_bin rfl rfl ?_) rfl ?_; rotate_left 1; (· (first | exact bin_lss | exact bin_geq))) | (refine' TL_q (op_pickF rfl ?_ rfl) rfl ?_; (· (exact dF (by (omega))))) | refine TL_q (op_len_slice rfl Try.underlying69) rfl ?_ | (refine TL_gno rfl rfl ?_ rfl ?_; (· (exact dF (by (omega))))) | (refine T_no rfl ?_ ?_; (· (with_reducible rfl)))))
      refine TQ_ret1 2 _ rfl rfl ?_
      exact ⟨_, rfl, rfl, fun h => by have h5 : n < 5000 := by simpa using h
                                      exact ⟨by omega, hall h5⟩⟩
end Go.Proofs.Ytdflhdfapnhjjaa
namespace Go.Proofs.Ytdflhdfapnhjjaa
open Go.RowKit
open Vd (RSet Vdt Vote Rec Quest Piece Ballot)
set_option linter.unusedVariables false
set_option linter.unusedSimpArgs false
--auto
section
variable {G : World} {P : Program} {n : Nat} {ρ : Slots} {L : Blocks} {ty : TypeId} {Q : Exit → Act → World → Prop} {ops : Array Oper} {K : Blocks} {W : List Nat} {fuel : Nat} {listed : Array Bool}
theorem Up_ofGd {i d j dj : Nat} {want b : Bool} {op : Op} {pos : String} {after : Array Edge} {Φ : Value → Blocks → Prop} (hi : ops[i]? = some ⟨some d, op, ty, pos, after, some (j, want)⟩) (hdn : Nat.blt d n = true)
    (hs : guardSlot ops j = some dj) (hv : ρ.lookup dj = some (.bool b)) (hb : b = want)
    (hO : OpT P G ρ L op ty Φ) (h : ∀ v L', Φ v L' → (i ∈ W ∨ ∀ p ∈ K, p ∈ L') ∧ TA P G ops n K W Q fuel (listed.setIfInBounds i true) ((d, v) :: ρ) L') : Up P G ops n K W Q fuel listed ρ L i :=
  ⟨_, hi, fun d' e => by cases e; simpa using hdn, true, ⟨dj, _, hs, hv, by simp [gsay, hb]⟩, Or.inl ⟨rfl, Φ, hO, h⟩⟩
end
variable {G : World} {L : Blocks}
/-- A verdict of one set, of one datum. -/
def saidV (s : Vd.Bytes) : Vdt := ⟨0, [⟨[0], 16, 1, 0, [s]⟩], []⟩
/-- Such a verdict in new memory. -/
def SaidOut (L : Blocks) (s : Vd.Bytes) (u : Value) (M : Blocks) : Prop := ∃ a B N, u = .agg #[.int .u8 0, .slice a (saidV s).sets.length 1, .slice none (saidV s).soa.length 0] ∧ ORow rsR 60 5 N a 1 (saidV s).sets B ∧ Wr N ∧ M = B ++ (N ++ L)
theorem said_sm (s : Vd.Bytes) : SmV (saidV s) := ⟨⟨by simp [saidV], fun x hx => by rw [show x = _ from List.mem_singleton.1 hx]; simp⟩, ⟨by simp [saidV], fun x hx => by simp [saidV] at hx⟩⟩
theorem said_one {s : Vd.Bytes} {v : Value} (hv : v ∈ ([.string (bs s)] : List Value)) : v.oneCell' = true := by rw [List.mem_singleton.1 hv]; rfl
set_option maxRecDepth 100000 in
theorem said_S (s : Vd.Bytes) (hs : s.length ≤ 1000) : Spec Try.prog G 44 #[.string (bs s)] L (SaidOut L s) := by
  refine Spec_of (n := 8) Try.func44 rfl rfl rfl ?_
  refine T_seq (T_region (TL_new (op_alloc (C := #[.int .u8 0, .slice none 0 0, .slice none 0 0]) zero_42 rfl) rfl ?_))
  intro b2
  repeat ((first | with_reducible refine T_seq ?_ | with_reducible refine T_region ?_ | with_reducible refine TL_nil ?_ | with_reducible refine TQ_then ?_ | refine TL_q (op_move rfl) rfl ?_ | refine TL_q (op_build rfl (bl_42_1 _ _ _)) rfl ?_ | refine TL_q (op_build rfl (bl_60_0_1_2_4 _ _ _ _ _ _)) rfl ?_ | (refine TL_new (op_litN ety_40 rfl rfl (by decide)) rfl ?_; intro bLit) | (refine TL_new (op_lit1 ety_58 rfl rfl) rfl ?_; intro bLit)))
  rename_i bD
  refine TL_cnt (L' := (b2, Obj.cells #[.int .u8 0, .slice none 0 0, .slice none 0 0] 42 (0, 0)) :: ([(bLit, Obj.cells #[.string ⟨#[0]⟩, .int .u16 16, .int .u16 1, .int .u32 0, .slice (some ⟨bD, 0, none⟩) 1 1] 60 (0, 0))] ++ ([(bD, Obj.cells #[.string (bs s)] 9 (0, 0))] ++ L))) ?_ (by intro p; (try simp only [cnt_append, cnt_cons, cnt_nil]) <;> omega)
  repeat ((first | with_reducible refine TL_nil ?_ | with_reducible refine TQ_then ?_ | with_reducible refine T_ret ?_ | (refine TL_stAll rfl rfl st_42 rfl rfl rfl ?_)))
  refine TQ_retC 2 42  rfl rfl  st_42 (by repeat ((exact List.mem_cons_self))) rfl (fun w h => h.tail) ?_
  have hD : ORow strR 9 1 [] (some ⟨bD, 0, none⟩) 1 [s] [(bD, Obj.cells #[.string (bs s)] 9 (0, 0))] := ORow.lit1 rfl ⟨rfl, by unfold maxLen; omega⟩ (fun v hv => said_one hv)
  refine ⟨_, _, _, rfl, ORow.lit1 (sz := 5) (cs := [.string (bs [0]), .int .u16 16, .int .u16 1, .int .u32 0, .slice (some ⟨bD, 0, none⟩) 1 1]) rfl ⟨_, rfl, hD.sliceR mono_str (by simp) (fun p h => h), by show (1 : Nat) ≤ maxLen; decide, by show (0 : Int) ≤ 16 ∧ (16 : Int) ≤ 65535; decide, by show (0 : Int) ≤ 1 ∧ (1 : Int) ≤ 65535; decide, by show (0 : Int) ≤ 0 ∧ (0 : Int) ≤ 4294967295; decide⟩ (fun v hv => ?_), hD.wr, rfl⟩
  simp only [List.mem_cons, List.not_mem_nil, or_false] at hv
  rcases hv with rfl | rfl | rfl | rfl | rfl <;> rfl
/-- A vote of a verdict of one set. -/
theorem said_vote {K B N : Blocks} {s : Vd.Bytes} {a : Option Addr} {up t : Int} (hB : ORow rsR 60 5 N a 1 (saidV s).sets B) (h1 : ∀ p ∈ B, p ∈ K) (h2 : ∀ p ∈ N, p ∈ K) (hu : -9223372036854775808 ≤ up ∧ up ≤ 9223372036854775807) (ht : 0 ≤ t ∧ t ≤ 4294967295) :
    voteR K [.int .i64 up, .int .u8 0, .slice a (saidV s).sets.length 1, .slice none (saidV s).soa.length 0, .int .u32 t] ⟨up, saidV s, t⟩ :=
  ⟨_, _, rfl, hB.sliceR mono_set h2 h1, sliceR.nil, by show (0 : Int) ≤ 0 ∧ (0 : Int) ≤ 255; decide, ht, hu⟩
theorem said_vd {K B N : Blocks} {s : Vd.Bytes} {a : Option Addr} (hB : ORow rsR 60 5 N a 1 (saidV s).sets B) (h1 : ∀ p ∈ B, p ∈ K) (h2 : ∀ p ∈ N, p ∈ K) :
    vdR K [.int .u8 0, .slice a (saidV s).sets.length 1, .slice none (saidV s).soa.length 0] (saidV s) :=
  ⟨_, _, rfl, hB.sliceR mono_set h2 h1, sliceR.nil, by show (0 : Int) ≤ 0 ∧ (0 : Int) ≤ 255; decide⟩
def saidB (up : Int) (s : Vd.Bytes) (t : Int) : Ballot := ⟨⟨up, saidV s, t⟩, false⟩
theorem aw1 : Vd.putB [] (saidB 0 [120] 9) = ([saidB 0 [120] 9], 0) := rfl
theorem aw2 : Vd.putB [saidB 0 [120] 9] (saidB 1 [121] 3) = ([saidB 0 [120] 9, saidB 1 [121] 3], 0) := rfl
theorem aw3 : Vd.putB [saidB 0 [120] 9, saidB 1 [121] 3] (saidB 2 [120] 5) = ([saidB 0 [120] 9, saidB 1 [121] 3, saidB 2 [120] 5], 0) := rfl
theorem aw4 : Vd.putB [saidB 0 [120] 9, saidB 1 [121] 3, saidB 2 [120] 5] (saidB 1 [120] 0) = ([saidB 0 [120] 9, saidB 1 [121] 3, saidB 2 [120] 5], 7) := rfl
theorem aw5 : wonP 2 (Vd.votesB [saidB 0 [120] 9, saidB 1 [121] 3, saidB 2 [120] 5]) = (saidV [120], 5, [0, 2], true) := by decide +kernel
theorem aw6 : (if (2 : Int) < 1 then [] else againstR 2 (Vd.votesB [saidB 0 [120] 9, saidB 1 [121] 3, saidB 2 [120] 5])) = [1] := by decide +kernel
theorem aw7 : mostR (Vd.votesB [saidB 0 [120] 9, saidB 1 [121] 3, saidB 2 [120] 5]) = 2 := by decide +kernel
theorem ints1 {K : Blocks} {b : Nat} {x : Int} (h : (b, Obj.cells #[.int .i64 x] 3 (0, 0)) ∈ K) (hx : InLit .i64 x) : sliceR 1 (intR .i64) K [.slice (some ⟨b, 0, none⟩) 1 1] [x] :=
  (ORow.lit1 (r := intR .i64) (L := []) (e := 3) (b := b) (cs := [.int .i64 x]) rfl ⟨rfl, hx⟩ (fun v hv => by rw [List.mem_singleton.1 hv]; rfl)).sliceR (mono_int _) (by simp) (fun p hp => by rw [List.mem_singleton.1 hp]; exact h)
theorem ints2 {K : Blocks} {b : Nat} {x y : Int} (h : (b, Obj.cells #[.int .i64 x, .int .i64 y] 3 (0, 0)) ∈ K) (hx : InLit .i64 x) (hy : InLit .i64 y) : sliceR 1 (intR .i64) K [.slice (some ⟨b, 0, none⟩) 2 2] [x, y] := by
  refine ⟨_, 2, rfl, by simp, by unfold maxLen; omega, Or.inr ⟨b, 0, _, _, _, rfl, h, fun i z hz => ?_⟩⟩
  match i, hz with
  | 0, hz =>
    obtain rfl := Option.some.inj hz
    exact ⟨[.int .i64 x], rfl, ⟨rfl, hx⟩, fun j v hj => by match j, hj with | 0, hj => exact hj⟩
  | 1, hz =>
    obtain rfl := Option.some.inj hz
    exact ⟨[.int .i64 y], rfl, ⟨rfl, hy⟩, fun j v hj => by match j, hj with | 0, hj => exact hj⟩
set_option maxRecDepth 100000 in
set_option maxHeartbeats 4000000 in
theorem awake21_S : Spec Try.prog G 32 #[] L fun u M => u = .bool true ∧ M = L := by
  refine Spec_of (n := 74) Try.func32 rfl rfl rfl ?_
  repeat ((first | with_reducible refine T_seq ?_ | with_reducible refine T_region ?_ | with_reducible refine TL_nil ?_ | with_reducible refine TQ_then ?_ | refine TL_q (op_assign rfl) rfl ?_))
  refine TL_opT (op_call hb_41 rfl (pNew_B 2)) rfl ?_
  intro u0 M0 h0
  rcases h0 with ⟨_, _, bb, X0, rfl, hX0, rfl⟩ | ⟨h0, _⟩
  · repeat ((first | with_reducible refine T_seq ?_ | with_reducible refine T_region ?_ | with_reducible refine TL_nil ?_ | with_reducible refine TQ_then ?_ | refine TL_q (op_move rfl) rfl ?_ | refine TL_q (op_assign rfl) rfl ?_ | (refine' TL_q (op_bin rfl rfl ?_) rfl ?_; rotate_left 1; (· (exact bin_neq))) | refine TL_q (op_extract rfl rfl) rfl ?_ | (refine TL_gpre rfl rfl ?_ ?_; (· (exact Bool.not_true))) | refine TL_gq2 (op_move rfl) rfl ?_))
    refine TG_opT (op_call hb_44 rfl (said_S [120] (by decide))) rfl ?_
    rintro _ _ ⟨a1, B1, N1, rfl, hB1, hN1, rfl⟩
    repeat ((first | (refine TL_gpre rfl rfl ?_ ?_; (· (exact Bool.not_true))) | refine TL_gq2 (op_build rfl (bl_46_0_1_2 _ _ _ _ _)) rfl ?_))
    refine TG_opT (OpT.heap (L' := X0 ++ (B1 ++ (N1 ++ L))) (fun w h => h.cnt (by intro p; (try simp only [cnt_append, cnt_cons, cnt_nil]) <;> omega)) (op_call hb_42 rfl (pCast_B hX0 (said_vote (up := 0) (t := 9) hB1 (mem_of_cnt (by intro p; (try simp only [cnt_append, cnt_cons, cnt_nil]) <;> omega)) (mem_of_cnt (by intro p; (try simp only [cnt_append, cnt_cons, cnt_nil]) <;> omega)) (by decide) (by decide)) (said_sm _)))) rfl ?_
    rintro _ _ ⟨rfl, X1, hX1, rfl⟩
    rw [show Vd.putB [] ⟨⟨0, saidV [120], 9⟩, false⟩ = _ from aw1] at hX1 ⊢
    refine TL_cnt (L' := X1 ++ L) ?_ (by intro p; (try simp only [cnt_append, cnt_cons, cnt_nil]) <;> omega)
    repeat ((first | refine TL_q (op_move rfl) rfl ?_ | (refine' TL_q (op_pickF rfl ?_ rfl) rfl ?_; (· (exact Bool.not_true))) | (refine TL_gpre rfl rfl ?_ ?_; (· (exact Bool.not_true))) | refine TL_gq2 (op_move rfl) rfl ?_ | (refine' TL_gq2 (op_bin rfl rfl ?_) rfl ?_; rotate_left 1; (· (exact bin_neq)))))
    refine TG_opT (op_call hb_44 rfl (said_S [121] (by decide))) rfl ?_
    rintro _ _ ⟨a2, B2, N2, rfl, hB2, hN2, rfl⟩
    repeat ((first | (refine TL_gpre rfl rfl ?_ ?_; (· (exact Bool.not_true))) | refine TL_gq2 (op_build rfl (bl_46_0_1_2 _ _ _ _ _)) rfl ?_))
    refine TG_opT (OpT.heap (L' := X1 ++ (B2 ++ (N2 ++ L))) (fun w h => h.cnt (by intro p; (try simp only [cnt_append, cnt_cons, cnt_nil]) <;> omega)) (op_call hb_42 rfl (pCast_B hX1 (said_vote (up := 1) (t := 3) hB2 (mem_of_cnt (by intro p; (try simp only [cnt_append, cnt_cons, cnt_nil]) <;> omega)) (mem_of_cnt (by intro p; (try simp only [cnt_append, cnt_cons, cnt_nil]) <;> omega)) (by decide) (by decide)) (said_sm _)))) rfl ?_
    rintro _ _ ⟨rfl, X2, hX2, rfl⟩
    rw [show Vd.putB _ ⟨⟨1, saidV [121], 3⟩, false⟩ = _ from aw2] at hX2 ⊢
    refine TL_cnt (L' := X2 ++ L) ?_ (by intro p; (try simp only [cnt_append, cnt_cons, cnt_nil]) <;> omega)
    repeat ((first | refine TL_q (op_move rfl) rfl ?_ | (refine' TL_q (op_pickF rfl ?_ rfl) rfl ?_; (· (exact Bool.not_true))) | (refine TL_gpre rfl rfl ?_ ?_; (· (exact Bool.not_true))) | refine TL_gq2 (op_move rfl) rfl ?_ | (refine' TL_gq2 (op_bin rfl rfl ?_) rfl ?_; rotate_left 1; (· (exact bin_neq)))))
    refine TG_opT (op_call hb_44 rfl (said_S [120] (by decide))) rfl ?_
    rintro _ _ ⟨a3, B3, N3, rfl, hB3, hN3, rfl⟩
    repeat ((first | (refine TL_gpre rfl rfl ?_ ?_; (· (exact Bool.not_true))) | refine TL_gq2 (op_build rfl (bl_46_0_1_2 _ _ _ _ _)) rfl ?_))
    refine TG_opT (OpT.heap (L' := X2 ++ (B3 ++ (N3 ++ L))) (fun w h => h.cnt (by intro p; (try simp only [cnt_append, cnt_cons, cnt_nil]) <;> omega)) (op_call hb_42 rfl (pCast_B hX2 (said_vote (up := 2) (t := 5) hB3 (mem_of_cnt (by intro p; (try simp only [cnt_append, cnt_cons, cnt_nil]) <;> omega)) (mem_of_cnt (by intro p; (try simp only [cnt_append, cnt_cons, cnt_nil]) <;> omega)) (by decide) (by decide)) (said_sm _)))) rfl ?_
    rintro _ _ ⟨rfl, X3, hX3, rfl⟩
    rw [show Vd.putB _ ⟨⟨2, saidV [120], 5⟩, false⟩ = _ from aw3] at hX3 ⊢
    refine TL_cnt (L' := X3 ++ L) ?_ (by intro p; (try simp only [cnt_append, cnt_cons, cnt_nil]) <;> omega)
    repeat ((first | refine TL_q (op_move rfl) rfl ?_ | (refine' TL_q (op_pickF rfl ?_ rfl) rfl ?_; (· (exact Bool.not_true))) | (refine TL_gpre rfl rfl ?_ ?_; (· (exact Bool.not_true))) | refine TL_gq2 (op_move rfl) rfl ?_ | (refine' TL_gq2 (op_bin rfl rfl ?_) rfl ?_; rotate_left 1; (· (exact bin_neq)))))
    refine TG_opT (op_call hb_44 rfl (said_S [120] (by decide))) rfl ?_
    rintro _ _ ⟨a4, B4, N4, rfl, hB4, hN4, rfl⟩
    repeat ((first | (refine TL_gpre rfl rfl ?_ ?_; (· (exact Bool.not_true))) | refine TL_gq2 (op_build rfl (bl_46_0_1 _ _ _ _)) rfl ?_))
    refine TG_opT (OpT.heap (L' := X3 ++ (B4 ++ (N4 ++ L))) (fun w h => h.cnt (by intro p; (try simp only [cnt_append, cnt_cons, cnt_nil]) <;> omega)) (op_call hb_42 rfl (pCast_B hX3 (said_vote (up := 1) (t := 0) hB4 (mem_of_cnt (by intro p; (try simp only [cnt_append, cnt_cons, cnt_nil]) <;> omega)) (mem_of_cnt (by intro p; (try simp only [cnt_append, cnt_cons, cnt_nil]) <;> omega)) (by decide) (by decide)) (said_sm _)))) rfl ?_
    rintro _ _ ⟨rfl, X4, hX4, rfl⟩
    rw [show Vd.putB _ ⟨⟨1, saidV [120], 0⟩, false⟩ = _ from aw4] at hX4 ⊢
    refine TL_cnt (L' := X4 ++ L) ?_ (by intro p; (try simp only [cnt_append, cnt_cons, cnt_nil]) <;> omega)
    repeat ((first | with_reducible refine T_seq ?_ | with_reducible refine T_region ?_ | with_reducible refine TL_nil ?_ | with_reducible refine TQ_then ?_ | with_reducible refine T_skip ?_ | refine TL_q (op_move rfl) rfl ?_ | (refine' TL_q (op_pickF rfl ?_ rfl) rfl ?_; (· (exact Bool.not_true))) | (refine TL_gpre rfl rfl ?_ ?_; (· (exact Bool.not_true))) | (refine' TL_gq2 (op_bin rfl rfl ?_) rfl ?_; rotate_left 1; (· (exact bin_neq))) | (refine T_no rfl ?_ ?_; (· (exact Bool.not_true)))))
    have hWon := pWon_B (G := G) (L := X4 ++ L) hX4 (mem_of_cnt (by intro p; (try simp only [cnt_append, cnt_cons, cnt_nil]) <;> omega))
    rw [aw5] at hWon
    refine TL_opT (op_call hb_35 rfl hWon) rfl ?_
    rintro _ _ ⟨a, c, B, a6, c6, B6, a5, c5, B5, N, rfl, hB, hB6, hB5, hN, rfl⟩
    dsimp only at hB hB6 hB5 ⊢
    repeat ((first | with_reducible refine T_seq ?_ | with_reducible refine TL_nil ?_ | with_reducible refine TQ_then ?_ | refine TL_q (op_move rfl) rfl ?_ | refine TL_q (op_assign rfl) rfl ?_ | refine TL_q (op_extract rfl rfl) rfl ?_ | (refine TL_stAll rfl rfl st_42 rfl rfl rfl ?_) | (refine TL_new (op_alloc (C := #[(.int .u8 0), (.slice none 0 0), (.slice none 0 0)]) zero_42 rfl) rfl ?_; intro bNew)))
    obtain ⟨b3, hb3⟩ : ∃ b, bNew = b := ⟨_, rfl⟩
    rw [hb3]
    clear hb3 bNew
    have hvdW : ∀ {D : Blocks}, (∀ p ∈ B, p ∈ D) → (∀ p ∈ B6, p ∈ D) → (∀ p ∈ N, p ∈ D) → vdR D [.int .u8 (saidV [120]).code, .slice a (saidV [120]).sets.length c, .slice a6 (saidV [120]).soa.length c6] (saidV [120]) := fun h1 h2 h3 => ⟨_, _, rfl, hB.sliceR mono_set h3 h1, hB6.sliceR mono_set h3 h2, by show (0 : Int) ≤ 0 ∧ (0 : Int) ≤ 255; decide⟩
    have e0 : decide (saidV [120] = saidV [120]) = true := by simp
    have e1 : decide (([0, 2] : List Int) = [0, 2]) = true := by decide
    have e2 : decide (([1] : List Int) = [1]) = true := by decide
    have hKm : ∀ z ∈ [(b3, Obj.cells #[.int .u8 (saidV [120]).code, .slice a (saidV [120]).sets.length c, .slice a6 (saidV [120]).soa.length c6] 42 (0, 0))], z ∈ (b3, Obj.cells #[.int .u8 (saidV [120]).code, .slice a (saidV [120]).sets.length c, .slice a6 (saidV [120]).soa.length c6] 42 (0, 0)) :: (B5 ++ (B6 ++ (B ++ (N ++ (X4 ++ L))))) := by
      intro z hz
      rw [List.mem_singleton.1 hz]
      exact List.mem_cons_self ..
    skip
    refine T_midK (σ := Unit) (fun _ => True) (fun _ => [(0, .bool true)]) (fun _ => L) ?_ ?_
    · skip
      refine T_draw follows_mixed ([(b3, Obj.cells #[.int .u8 (saidV [120]).code, .slice a (saidV [120]).sets.length c, .slice a6 (saidV [120]).soa.length c6] 42 (0, 0))]) [] ?_
      (refine' TA_take 0 rfl rfl (by kernel_rfl) (quiet_q (op_move rfl)) ?_ ?_; (· (assumption)))
      (refine' TA_take 1 rfl rfl (by kernel_rfl) (quiet_q (op_move rfl)) ?_ ?_; (· (assumption)))
      (refine' TA_take 2 rfl rfl (by kernel_rfl) (quiet_g2 rfl rfl (by (with_reducible rfl)) (op_ldAll rfl st_42 ?_ ?_)) ?_ ?_; rotate_left 3; (· repeat ((exact List.mem_cons_self))); (· (rfl)); (· (assumption)))
      refine TA_oneGd 3 (by kernel_rfl) rfl rfl rfl rfl (by (with_reducible rfl)) (op_call hb_44 rfl (said_S [120] (by decide))) ?_
      rintro _ _ ⟨aS, BS, NS, rfl, hBS, hNS, rfl⟩
      refine ⟨Or.inr (by (exact (fun z hz => mem_of_cnt (by intro p; (try simp only [cnt_append, cnt_cons, cnt_nil]) <;> omega) z (hKm z hz)))), ?_⟩
      refine TA_oneGd 4 (by kernel_rfl) rfl rfl rfl rfl (by (with_reducible rfl)) (op_call hb_23 rfl (vSame_S [.int .u8 (saidV [120]).code, .slice a (saidV [120]).sets.length c, .slice a6 (saidV [120]).soa.length c6] [.int .u8 0, .slice aS (saidV [120]).sets.length 1, .slice none (saidV [120]).soa.length 0] (saidV [120]) (saidV [120]) (hvdW (mem_of_cnt (by intro p; (try simp only [cnt_append, cnt_cons, cnt_nil]) <;> omega)) (mem_of_cnt (by intro p; (try simp only [cnt_append, cnt_cons, cnt_nil]) <;> omega)) (mem_of_cnt (by intro p; (try simp only [cnt_append, cnt_cons, cnt_nil]) <;> omega))) (said_vd hBS (mem_of_cnt (by intro p; (try simp only [cnt_append, cnt_cons, cnt_nil]) <;> omega)) (mem_of_cnt (by intro p; (try simp only [cnt_append, cnt_cons, cnt_nil]) <;> omega))))) ?_
      rintro _ _ ⟨rfl, rfl⟩
      refine ⟨Or.inr (by (exact (fun z hz => mem_of_cnt (by intro p; (try simp only [cnt_append, cnt_cons, cnt_nil]) <;> omega) z (hKm z hz)))), ?_⟩
      (refine' TA_take 5 rfl rfl (by kernel_rfl) (quiet_q (op_pickT rfl ?_ rfl)) ?_ ?_; (· (with_reducible rfl)); (· (intro p hp; grind)))
      (refine' TA_take 6 rfl rfl (by kernel_rfl) (quiet_q (op_move rfl)) ?_ ?_; (· (intro p hp; grind)))
      (refine' TA_take 7 rfl rfl (by kernel_rfl) (quiet_g2 rfl rfl (by (assumption)) (op_move rfl)) ?_ ?_; (· (intro p hp; grind)))
      (refine' TA_take 8 rfl rfl (by kernel_rfl) (quiet_g2 rfl rfl (by (assumption)) (op_bin rfl rfl ?_)) ?_ ?_; rotate_left 1; (· (exact bin_eql)); (· (intro p hp; grind)))
      (refine' TA_take 9 rfl rfl (by kernel_rfl) (quiet_q (op_pickT rfl ?_ rfl)) ?_ ?_; (· (assumption)); (· (intro p hp; grind)))
      (refine' TA_take 10 rfl rfl (by kernel_rfl) (quiet_q (op_move rfl)) ?_ ?_; (· (intro p hp; grind)))
      (refine' TA_take 11 rfl rfl (by kernel_rfl) (quiet_g2 rfl rfl (by (assumption)) (op_move rfl)) ?_ ?_; (· (intro p hp; grind)))
      refine TA_oneGd 12 (by kernel_rfl) rfl rfl rfl rfl (by (assumption)) (op_buildSlice (C := #[.int .i64 0, .int .i64 2]) (vs := [(0, .int .i64 0), (1, .int .i64 2)]) rfl (rowLitG ety_79 [.int .i64 0, .int .i64 2] rfl (by intro v hv; simp only [List.mem_cons, List.not_mem_nil, or_false] at hv; rcases hv with rfl | rfl <;> rfl) (by decide) rfl)) ?_
      rintro _ _ ⟨bI, rfl, rfl⟩
      refine ⟨Or.inr (by (exact (fun z hz => mem_of_cnt (by intro p; (try simp only [cnt_append, cnt_cons, cnt_nil]) <;> omega) z (hKm z hz)))), ?_⟩
      refine TA_oneGd 13 (by kernel_rfl) rfl rfl rfl rfl (by (assumption)) (op_call hb_38 rfl (Ints_S _ _ [0, 2] [0, 2] (hB5.sliceR (mono_int _) (by simp) (mem_of_cnt (by intro p; (try simp only [cnt_append, cnt_cons, cnt_nil]) <;> omega))) (ints2 (List.mem_cons_self ..) (up_lit (by decide)) (up_lit (by decide))))) ?_
      rintro _ _ ⟨rfl, rfl⟩
      refine ⟨Or.inr (by (exact (fun z hz => mem_of_cnt (by intro p; (try simp only [cnt_append, cnt_cons, cnt_nil]) <;> omega) z (hKm z hz)))), ?_⟩
      (refine' TA_take 14 rfl rfl (by kernel_rfl) (quiet_q (op_pickT rfl ?_ rfl)) ?_ ?_; (· (assumption)); (· (intro p hp; grind)))
      (refine' TA_take 15 rfl rfl (by kernel_rfl) (quiet_q (op_move rfl)) ?_ ?_; (· (intro p hp; grind)))
      (refine' TA_take 16 rfl rfl (by kernel_rfl) (quiet_g2 rfl rfl (by (assumption)) (op_move rfl)) ?_ ?_; (· (intro p hp; grind)))
      refine TA_two 17 18 (by kernel_rfl) ?_ ?_
      · refine Up_ofGd rfl rfl rfl rfl (by (assumption)) (op_call hb_40 rfl (pAgainst_B hX4 (mem_of_cnt (by intro p; (try simp only [cnt_append, cnt_cons, cnt_nil]) <;> omega)))) ?_
        rintro _ _ ⟨aA, cA, BA, rfl, hBA, rfl⟩; rw [aw6] at hBA ⊢
        refine ⟨Or.inr (by (exact (fun z hz => mem_of_cnt (by intro p; (try simp only [cnt_append, cnt_cons, cnt_nil]) <;> omega) z (hKm z hz)))), ?_⟩
        refine TA_oneGd 18 (by kernel_rfl) rfl rfl rfl rfl (by (assumption)) (op_buildSlice (C := #[.int .i64 1]) (vs := [(0, .int .i64 1)]) rfl (rowLitG ety_79 [.int .i64 1] rfl (by intro v hv; rw [List.mem_singleton.1 hv]; rfl) (by decide) rfl)) ?_
        rintro _ _ ⟨bJ, rfl, rfl⟩
        refine ⟨Or.inr (by (exact (fun z hz => mem_of_cnt (by intro p; (try simp only [cnt_append, cnt_cons, cnt_nil]) <;> omega) z (hKm z hz)))), ?_⟩
        refine TA_oneGd 19 (by kernel_rfl) rfl rfl rfl rfl (by (assumption)) (op_call hb_38 rfl (Ints_S _ _ [1] [1] (hBA.sliceR (mono_int _) (by simp) (mem_of_cnt (by intro p; (try simp only [cnt_append, cnt_cons, cnt_nil]) <;> omega))) (ints1 (by simp) (up_lit (by decide))))) ?_
        rintro _ _ ⟨rfl, rfl⟩
        refine ⟨Or.inr (by (exact (fun z hz => mem_of_cnt (by intro p; (try simp only [cnt_append, cnt_cons, cnt_nil]) <;> omega) z (hKm z hz)))), ?_⟩
        (refine' TA_take 20 rfl rfl (by kernel_rfl) (quiet_q (op_pickT rfl ?_ rfl)) ?_ ?_; (· (assumption)); (· (intro p hp; grind)))
        (refine' TA_take 21 rfl rfl (by kernel_rfl) (quiet_q (op_move rfl)) ?_ ?_; (· (intro p hp; grind)))
        (refine' TA_take 22 rfl rfl (by kernel_rfl) (quiet_g2 rfl rfl (by (assumption)) (op_move rfl)) ?_ ?_; (· (intro p hp; grind)))
        refine TA_oneGd 23 (by kernel_rfl) rfl rfl rfl rfl (by (assumption)) (op_call hb_36 rfl (pMost_B hX4 (mem_of_cnt (by intro p; (try simp only [cnt_append, cnt_cons, cnt_nil]) <;> omega)))) ?_
        rintro _ _ ⟨rfl, rfl⟩; rw [aw7]
        refine ⟨Or.inr (by (exact (fun z hz => mem_of_cnt (by intro p; (try simp only [cnt_append, cnt_cons, cnt_nil]) <;> omega) z (hKm z hz)))), ?_⟩
        (refine' TA_take 24 rfl rfl (by kernel_rfl) (quiet_g2 rfl rfl (by (assumption)) (op_bin rfl rfl ?_)) ?_ ?_; rotate_left 1; (· (exact bin_eql)); (· (intro p hp; grind)))
        (refine' TA_take 25 rfl rfl (by kernel_rfl) (quiet_q (op_pickT rfl ?_ rfl)) ?_ ?_; (· (assumption)); (· (intro p hp; grind)))
        (refine' TA_take 26 rfl rfl (by kernel_rfl) (quiet_q (op_assign rfl)) ?_ ?_; (· (intro p hp; grind)))
        refine TA_done (by kernel_rfl) ?_
        refine TQ_mid () trivial ?_ (fun w h => h.cnt (by intro p; (try simp only [cnt_append, cnt_cons, cnt_nil]) <;> omega))
        (repeat ((first | exact trivial | refine ⟨rfl, ?_⟩)))
      · refine Up_ofGd rfl rfl rfl rfl (by (assumption)) (op_buildSlice (C := #[.int .i64 1]) (vs := [(0, .int .i64 1)]) rfl (rowLitG ety_79 [.int .i64 1] rfl (by intro v hv; rw [List.mem_singleton.1 hv]; rfl) (by decide) rfl)) ?_
        rintro _ _ ⟨bJ, rfl, rfl⟩
        refine ⟨Or.inr (by (exact (fun z hz => mem_of_cnt (by intro p; (try simp only [cnt_append, cnt_cons, cnt_nil]) <;> omega) z (hKm z hz)))), ?_⟩
        refine TA_oneGd 17 (by kernel_rfl) rfl rfl rfl rfl (by (assumption)) (op_call hb_40 rfl (pAgainst_B hX4 (mem_of_cnt (by intro p; (try simp only [cnt_append, cnt_cons, cnt_nil]) <;> omega)))) ?_
        rintro _ _ ⟨aA, cA, BA, rfl, hBA, rfl⟩; rw [aw6] at hBA ⊢
        refine ⟨Or.inr (by (exact (fun z hz => mem_of_cnt (by intro p; (try simp only [cnt_append, cnt_cons, cnt_nil]) <;> omega) z (hKm z hz)))), ?_⟩
        refine TA_oneGd 19 (by kernel_rfl) rfl rfl rfl rfl (by (assumption)) (op_call hb_38 rfl (Ints_S _ _ [1] [1] (hBA.sliceR (mono_int _) (by simp) (mem_of_cnt (by intro p; (try simp only [cnt_append, cnt_cons, cnt_nil]) <;> omega))) (ints1 (by simp) (up_lit (by decide))))) ?_
        rintro _ _ ⟨rfl, rfl⟩
        refine ⟨Or.inr (by (exact (fun z hz => mem_of_cnt (by intro p; (try simp only [cnt_append, cnt_cons, cnt_nil]) <;> omega) z (hKm z hz)))), ?_⟩
        (refine' TA_take 20 rfl rfl (by kernel_rfl) (quiet_q (op_pickT rfl ?_ rfl)) ?_ ?_; (· (assumption)); (· (intro p hp; grind)))
        (refine' TA_take 21 rfl rfl (by kernel_rfl) (quiet_q (op_move rfl)) ?_ ?_; (· (intro p hp; grind)))
        (refine' TA_take 22 rfl rfl (by kernel_rfl) (quiet_g2 rfl rfl (by (assumption)) (op_move rfl)) ?_ ?_; (· (intro p hp; grind)))
        refine TA_oneGd 23 (by kernel_rfl) rfl rfl rfl rfl (by (assumption)) (op_call hb_36 rfl (pMost_B hX4 (mem_of_cnt (by intro p; (try simp only [cnt_append, cnt_cons, cnt_nil]) <;> omega)))) ?_
        rintro _ _ ⟨rfl, rfl⟩; rw [aw7]
        refine ⟨Or.inr (by (exact (fun z hz => mem_of_cnt (by intro p; (try simp only [cnt_append, cnt_cons, cnt_nil]) <;> omega) z (hKm z hz)))), ?_⟩
        (refine' TA_take 24 rfl rfl (by kernel_rfl) (quiet_g2 rfl rfl (by (assumption)) (op_bin rfl rfl ?_)) ?_ ?_; rotate_left 1; (· (exact bin_eql)); (· (intro p hp; grind)))
        (refine' TA_take 25 rfl rfl (by kernel_rfl) (quiet_q (op_pickT rfl ?_ rfl)) ?_ ?_; (· (assumption)); (· (intro p hp; grind)))
        (refine' TA_take 26 rfl rfl (by kernel_rfl) (quiet_q (op_assign rfl)) ?_ ?_; (· (intro p hp; grind)))
        refine TA_done (by kernel_rfl) ?_
        refine TQ_mid () trivial ?_ (fun w h => h.cnt (by intro p; (try simp only [cnt_append, cnt_cons, cnt_nil]) <;> omega))
        (repeat ((first | exact trivial | refine ⟨rfl, ?_⟩)))
    · rintro _ _
      repeat ((with_reducible refine T_ret ?_))
      refine TQ_ret1 0 _ rfl rfl ?_
      exact ⟨rfl, rfl⟩
  · omega
end Go.Proofs.Ytdflhdfapnhjjaa
namespace Go.Proofs.Ytdflhdfapnhjjaa
open Go.RowKit
open Vd (RSet Vdt Vote Rec Quest Piece Ballot)
set_option linter.unusedVariables false
set_option linter.unusedSimpArgs false
--auto
variable {G : World} {L : Blocks}
theorem none_vote {K : Blocks} {u : Int} (hu : -9223372036854775808 ≤ u ∧ u ≤ 9223372036854775807) : voteR K [.int .i64 u, .int .u8 0, .slice none 0 0, .slice none 0 0, .int .u32 0] ⟨u, Vdt.none, 0⟩ :=
  ⟨_, _, rfl, sliceR.nil, sliceR.nil, by show (0 : Int) ≤ 0 ∧ (0 : Int) ≤ 255; decide, by show (0 : Int) ≤ 0 ∧ (0 : Int) ≤ 4294967295; decide, hu⟩
set_option maxRecDepth 100000 in
set_option maxHeartbeats 4000000 in
theorem tallyPlays_S (want : Int) (v : Value) (l : List TAct) (hl : sliceR 30 actR L [v] l) : Spec Try.prog G 12 #[.int .i64 want, v] L fun u M => u = .bool true ∧ M = L := by
  obtain ⟨al, cl, e1, hl0⟩ := hl.val
  simp only [List.cons.injEq, and_true] at e1
  subst e1
  obtain ⟨_, ka1, ka2, hlc⟩ := sliceR.cut hl0
  unfold maxLen at ka2
  refine Spec_of (n := 116) Try.func12 rfl rfl rfl ?_
  repeat ((first | with_reducible refine T_seq ?_ | with_reducible refine T_region ?_ | with_reducible refine TL_nil ?_ | with_reducible refine TQ_then ?_ | refine TL_q (op_move rfl) rfl ?_ | refine TL_q (op_assign rfl) rfl ?_))
  refine TL_opT (op_call hb_31 rfl (long21_S _ l hl0)) rfl ?_
  rintro _ _ ⟨b, rfl, hM, hb⟩
  rw [hM]
  clear hM
  cases b with
  | true =>
    repeat ((first | with_reducible refine T_seq ?_ | with_reducible refine T_region ?_ | with_reducible refine TL_nil ?_ | with_reducible refine TQ_then ?_ | with_reducible refine T_ret ?_ | with_reducible refine TQ_then_ret ?_ | refine TL_q (op_assign rfl) rfl ?_ | (refine' TL_op (op_call hb_32 rfl (awake21_S )) rfl ?_) | (refine T_yes rfl ?_ ?_; (· (with_reducible rfl)))))
    refine TQ_ret1 4 _ rfl rfl ?_
    exact ⟨rfl, rfl⟩
  | false =>
  obtain ⟨hn, hsm⟩ := hb rfl
  repeat ((first | with_reducible refine T_seq ?_ | with_reducible refine T_region ?_ | with_reducible refine TL_nil ?_ | with_reducible refine TQ_then ?_ | with_reducible refine T_skip ?_ | refine TL_q (op_move rfl) rfl ?_ | (refine T_no rfl ?_ ?_; (· (with_reducible rfl)))))
  refine TL_opT (op_call hb_41 rfl (pNew_B want)) rfl ?_
  intro u0 M0 h0
  rcases h0 with ⟨hw1, hw9, bp0, X0, rfl, hX0, rfl⟩ | ⟨hw, rfl, hM⟩
  · repeat ((first | with_reducible refine T_seq ?_ | with_reducible refine T_region ?_ | with_reducible refine TL_nil ?_ | with_reducible refine TQ_then ?_ | refine TL_q (op_move rfl) rfl ?_ | refine TL_q (op_assign rfl) rfl ?_ | refine TL_q (op_extract rfl rfl) rfl ?_))
    refine TL_opT (op_call hb_47 rfl (rNew_B want)) rfl ?_
    intro u1 M1 h1
    rcases h1 with ⟨_, _, bd0, Y0, rfl, hY0, rfl⟩ | ⟨hw, _⟩
    · repeat ((first | with_reducible refine T_seq ?_ | with_reducible refine T_block ?_ | with_reducible refine T_region ?_ | with_reducible refine TL_nil ?_ | with_reducible refine TQ_then ?_ | with_reducible refine T_skip ?_ | refine TL_q (op_move rfl) rfl ?_ | refine TL_q (op_assign rfl) rfl ?_ | (refine' TL_q (op_bin rfl rfl ?_) rfl ?_; rotate_left 1; (· (exact bin_neq))) | refine TL_q (op_extract rfl rfl) rfl ?_ | (refine' TL_q (op_pickF rfl ?_ rfl) rfl ?_; (· (exact Bool.not_true))) | (refine TL_gpre rfl rfl ?_ ?_; (· (exact Bool.not_true))) | refine TL_gq2 (op_move rfl) rfl ?_ | (refine' TL_gq2 (op_bin rfl rfl ?_) rfl ?_; rotate_left 1; (· (first | exact bin_neq | exact bbin_neq Try.underlying4 | exact pbin_eql Try.underlying76))) | (refine T_no rfl ?_ ?_; (· (exact Bool.not_true)))))
      refine T_loopS (σ := Nat × Nat × Nat × Blocks × Blocks) (fun y => y.1 ≤ l.length ∧ PBox y.2.1 want ((l.take y.1).foldl doesB []) y.2.2.2.1 ∧ DBox y.2.2.1 want ((l.take y.1).foldl doesB []) y.2.2.2.2) (fun y => [(1, .slice al l.length cl), (5, .pointer (some ⟨y.2.1, 0, none⟩)), (7, .pointer (some ⟨y.2.2.1, 0, none⟩)), (9, .int .i64 (y.1 : Nat))]) (fun y => y.2.2.2.1 ++ (y.2.2.2.2 ++ L)) (fun y => l.length - y.1) (0, bp0, bd0, X0, Y0) ⟨Nat.zero_le _, hX0, hY0⟩ ?_ (fun w h => h.cnt (by intro p; (try simp only [cnt_append, cnt_cons, cnt_nil]) <;> omega)) ?_
      (repeat ((first | exact trivial | refine ⟨rfl, ?_⟩)))
      rintro ⟨i, bp, bd, X, Y⟩ ⟨hi, hX, hY⟩
      dsimp only at hi hX hY ⊢
      by_cases hil : i < l.length
      · obtain ⟨x, hx⟩ : ∃ x, l[i]? = some x := ⟨_, List.getElem?_eq_getElem hil⟩
        have htk : (l.take (i + 1)).foldl doesB [] = doesB ((l.take i).foldl doesB []) x := by
          rw [List.take_add_one, hx, List.foldl_append]; rfl
        obtain ⟨bal, hbal⟩ : ∃ b, (l.take i).foldl doesB [] = b := ⟨_, rfl⟩
        rw [hbal] at hX hY htk
        have hxs := hsm x (List.mem_of_getElem? hx)
        rcases hlc with rfl | ⟨b1, o1, C1, t1, f1, rfl, m1, q1⟩
        · simp at hil
        obtain ⟨cx, hcl, hxr, hcx⟩ := q1 i x hx
        have hxr0 := hxr
        obtain ⟨hbd1, hbd2, hbd3⟩ := hxr.vote_bd
        obtain ⟨vc, va, vb, cm, rfl, hq, hmm, hone, hk, ht, hu⟩ := hxr
        have m1' : (b1, Obj.cells C1 t1 f1) ∈ X ++ (Y ++ L) := List.mem_append_right _ (List.mem_append_right _ m1)
        have g0 : (x.head vc va vb ++ cm).toArray[0 + 0]? = some (.int .u8 x.kind) := rfl
        have g1 : (x.head vc va vb ++ cm).toArray[0 + 1 + 0]? = some (.int .i64 x.up) := rfl
        have gsz : (x.head vc va vb ++ cm).toArray.size = 30 := by simpa using hcl
        have hall1 : allOne (x.head vc va vb ++ cm).toArray = true := List.all_eq_true.2 fun v hv => hxr0.one v hv
        repeat ((first | with_reducible refine T_seq ?_ | with_reducible refine T_block ?_ | with_reducible refine T_region ?_ | with_reducible refine TL_nil ?_ | with_reducible refine TQ_then ?_ | with_reducible refine T_skip ?_ | refine TL_q (op_move rfl) rfl ?_ | (refine' TL_q (op_bin rfl rfl ?_) rfl ?_; rotate_left 1; (· (exact bin_lss))) | refine TL_q (op_len_slice rfl Try.underlying69) rfl ?_ | (refine' TL_q (op_idx ety_69 rfl rfl ?_) rfl ?_; (· omega)) | (refine T_yes rfl ?_ ?_; (· (exact dT (by (omega)))))))
        refine TL_q (op_ldA (x.head vc va vb ++ cm) rfl (by rw [hcl]; exact st_73) m1' hcx) rfl ?_
        repeat ((refine TL_new (op_alloc (C := #[(.int .u8 0), (.int .i64 0), (.int .u8 0), (.slice none 0 0), (.slice none 0 0), (.int .u32 0), (.string (bs [])), (.int .u16 0), (.int .u16 0), (.int .u16 0), (.bool false), (.int .u8 0), (.bool false), (.bool false), (.bool false), (.bool false), (.bool false), (.bool false), (.bool false), (.int .u8 0), (.slice none 0 0), (.slice none 0 0), (.slice none 0 0), (.slice none 0 0), (.bool false), (.int .u16 0), (.int .u8 0), (.int .u8 0), (.int .u16 0), (.slice none 0 0)]) zero_73 rfl) rfl ?_; intro bNew))
        obtain ⟨b10, hb10⟩ : ∃ b, bNew = b := ⟨_, rfl⟩
        rw [hb10]
        clear hb10 bNew
        refine TL_stAll rfl rfl st_73 rfl gsz hall1 ?_
        repeat ((first | with_reducible refine T_seq ?_ | with_reducible refine T_region ?_ | with_reducible refine TL_nil ?_ | with_reducible refine TQ_then ?_ | (refine' TL_q (op_ldAll rfl st_73 ?_ ?_) rfl ?_; rotate_left 3; (· repeat ((exact List.mem_cons_self))); (· (assumption)))))
        refine TL_opT (op_call hb_33 rfl (vote21_S _ x (mono_act _ _ _ _ (mem_of_cnt (by intro p; (try simp only [cnt_append, cnt_cons, cnt_nil]) <;> omega)) hxr0) hxs)) rfl ?_
        rintro _ _ ⟨cv, rfl, hov⟩
        obtain ⟨D, hD, rfl⟩ := hov.is hbd1 hbd2 hbd3
        obtain ⟨y1, yc1, y2, yc2, rfl, _⟩ := hD.vals
        have hsv := hxs.sm
        obtain ⟨ok, hok⟩ : ∃ b, x.ok = b := ⟨_, rfl⟩
        have hdoes : doesB bal x = if x.kind = 0 ∧ ok = true then (Vd.putB bal ⟨x.vote, false⟩).1 else if x.kind = 1 then (Vd.putB bal ⟨⟨x.up, Vdt.none, 0⟩, true⟩).1 else bal := by unfold doesB; rw [hok]
        rw [hok]
        repeat ((first | with_reducible refine TL_nil ?_ | with_reducible refine TQ_then ?_ | refine TL_q (op_move rfl) rfl ?_ | refine TL_q (op_assign rfl) rfl ?_ | refine TL_q (op_extract rfl rfl) rfl ?_ | (refine TL_stAll rfl rfl st_63 rfl rfl rfl ?_) | (refine TL_new (op_alloc (C := #[(.int .i64 0), (.int .u8 0), (.slice none 0 0), (.slice none 0 0), (.int .u32 0)]) zero_63 rfl) rfl ?_; intro bNew)))
        obtain ⟨b11, hb11⟩ : ∃ b, bNew = b := ⟨_, rfl⟩
        rw [hb11]
        clear hb11 bNew
        refine T_mid (σ := Nat × Nat × Blocks × Blocks) (fun y => PBox y.1 want (doesB bal x) y.2.2.1 ∧ DBox y.2.1 want (doesB bal x) y.2.2.2) (fun y => [(1, .slice (some ⟨b1, o1, none⟩) l.length cl), (5, .pointer (some ⟨y.1, 0, none⟩)), (7, .pointer (some ⟨y.2.1, 0, none⟩)), (9, .int .i64 (i : Nat))]) (fun y => y.2.2.1 ++ (y.2.2.2 ++ L)) ?_ ?_
        · rw [hdoes]
          by_cases h0 : x.kind = 0 ∧ ok = true
          · obtain ⟨hk0, rfl⟩ := h0
            rw [if_pos ⟨hk0, rfl⟩]
            repeat ((first | with_reducible refine T_seq ?_ | with_reducible refine T_block ?_ | with_reducible refine T_region ?_ | with_reducible refine TL_nil ?_ | with_reducible refine TQ_then ?_ | refine TL_q (op_move rfl) rfl ?_ | refine TL_q (op_assign rfl) rfl ?_ | (refine' TL_q (op_bin rfl rfl ?_) rfl ?_; rotate_left 1; (· (exact bin_eql))) | (refine' TL_q (op_pickT rfl ?_ rfl) rfl ?_; (· (exact dT (by (assumption))))) | refine TL_q (op_fld rfl fld_63_0) rfl ?_ | (refine' TL_q (op_ld rfl pl_3 ?_ ?_) rfl ?_; rotate_left 4; (· repeat ((first | exact List.mem_cons_self | apply List.mem_cons_of_mem | apply List.mem_append_right))); (· (assumption))) | (refine' TL_q (op_ldAll rfl st_73 ?_ ?_) rfl ?_; rotate_left 3; (· repeat ((first | exact List.mem_cons_self | apply List.mem_cons_of_mem | apply List.mem_append_right))); (· (assumption))) | (refine TL_gpre rfl rfl ?_ ?_; (· (exact dT (by (assumption))))) | refine TL_gq2 (op_move rfl) rfl ?_ | (refine T_yes rfl ?_ ?_; (· (with_reducible rfl)))))
            refine TL_opT (op_call hb_33 rfl (vote21_S _ x (mono_act _ _ _ _ (mem_of_cnt (by intro p; (try simp only [cnt_append, cnt_cons, cnt_nil]) <;> omega)) hxr0) hxs)) rfl ?_
            rintro _ _ ⟨cw, rfl, how⟩
            obtain ⟨wa, wc, WB, wa2, wc2, WB2, WN, rfl, hWB, hWB2, hWN, rfl⟩ := how
            repeat ((first | with_reducible refine T_seq ?_ | with_reducible refine TL_nil ?_ | with_reducible refine TQ_then ?_ | refine TL_q (op_move rfl) rfl ?_ | refine TL_q (op_assign rfl) rfl ?_ | refine TL_q (op_extract rfl rfl) rfl ?_ | (refine TL_stAll rfl rfl st_63 rfl rfl rfl ?_) | (refine TL_new (op_alloc (C := #[(.int .i64 0), (.int .u8 0), (.slice none 0 0), (.slice none 0 0), (.int .u32 0)]) zero_63 rfl) rfl ?_; intro bNew)))
            obtain ⟨b13, hb13⟩ : ∃ b, bNew = b := ⟨_, rfl⟩
            rw [hb13]
            clear hb13 bNew
            have hwv : ∀ {M : Blocks}, (∀ p ∈ WB, p ∈ M) → (∀ p ∈ WB2, p ∈ M) → (∀ p ∈ WN, p ∈ M) → voteR M [.int .i64 x.vote.up, .int .u8 x.vote.vd.code, .slice wa x.vote.vd.sets.length wc, .slice wa2 x.vote.vd.soa.length wc2, .int .u32 x.vote.time] x.vote := fun h1 h2 h3 => ⟨_, _, rfl, hWB.sliceR mono_set h3 h1, hWB2.sliceR mono_set h3 h2, hbd1, hbd2, hbd3⟩
            have hKm : ∀ z ∈ [(b13, Obj.cells #[.int .i64 x.vote.up, .int .u8 x.vote.vd.code, .slice wa x.vote.vd.sets.length wc, .slice wa2 x.vote.vd.soa.length wc2, .int .u32 x.vote.time] 63 (0, 0)), (b11, Obj.cells #[.int .i64 x.vote.up, .int .u8 x.vote.vd.code, .slice y1 x.vote.vd.sets.length yc1, .slice y2 x.vote.vd.soa.length yc2, .int .u32 x.vote.time] 63 (0, 0))], z ∈ (b13, Obj.cells #[.int .i64 x.vote.up, .int .u8 x.vote.vd.code, .slice wa x.vote.vd.sets.length wc, .slice wa2 x.vote.vd.soa.length wc2, .int .u32 x.vote.time] 63 (0, 0)) :: (WB ++ (WB2 ++ (WN ++ ((b11, Obj.cells #[.int .i64 x.vote.up, .int .u8 x.vote.vd.code, .slice y1 x.vote.vd.sets.length yc1, .slice y2 x.vote.vd.soa.length yc2, .int .u32 x.vote.time] 63 (0, 0)) :: (D ++ ((b10, Obj.cells (x.head vc va vb ++ cm).toArray 73 (0, 0)) :: (Y ++ L))))))) := by
              intro z hz
              simp only [List.mem_cons, List.not_mem_nil, or_false] at hz
              rcases hz with rfl | rfl <;> simp
            have hKm2 : ∀ A, ∀ z ∈ [(b13, Obj.cells #[.int .i64 x.vote.up, .int .u8 x.vote.vd.code, .slice wa x.vote.vd.sets.length wc, .slice wa2 x.vote.vd.soa.length wc2, .int .u32 x.vote.time] 63 (0, 0)), (b11, Obj.cells #[.int .i64 x.vote.up, .int .u8 x.vote.vd.code, .slice y1 x.vote.vd.sets.length yc1, .slice y2 x.vote.vd.soa.length yc2, .int .u32 x.vote.time] 63 (0, 0))], z ∈ A ++ ((b13, Obj.cells #[.int .i64 x.vote.up, .int .u8 x.vote.vd.code, .slice wa x.vote.vd.sets.length wc, .slice wa2 x.vote.vd.soa.length wc2, .int .u32 x.vote.time] 63 (0, 0)) :: (WB ++ (WB2 ++ (WN ++ ((b11, Obj.cells #[.int .i64 x.vote.up, .int .u8 x.vote.vd.code, .slice y1 x.vote.vd.sets.length yc1, .slice y2 x.vote.vd.soa.length yc2, .int .u32 x.vote.time] 63 (0, 0)) :: (D ++ ((b10, Obj.cells (x.head vc va vb ++ cm).toArray 73 (0, 0)) :: (Y ++ L)))))))) := fun A z hz => List.mem_append_right _ (hKm z hz)
            have hKm3 : ∀ (A : Blocks) X', ∀ z ∈ [(b13, Obj.cells #[.int .i64 x.vote.up, .int .u8 x.vote.vd.code, .slice wa x.vote.vd.sets.length wc, .slice wa2 x.vote.vd.soa.length wc2, .int .u32 x.vote.time] 63 (0, 0)), (b11, Obj.cells #[.int .i64 x.vote.up, .int .u8 x.vote.vd.code, .slice y1 x.vote.vd.sets.length yc1, .slice y2 x.vote.vd.soa.length yc2, .int .u32 x.vote.time] 63 (0, 0))], z ∈ A ++ ((b13, Obj.cells #[.int .i64 x.vote.up, .int .u8 x.vote.vd.code, .slice wa x.vote.vd.sets.length wc, .slice wa2 x.vote.vd.soa.length wc2, .int .u32 x.vote.time] 63 (0, 0)) :: (WB ++ (WB2 ++ (WN ++ ((b11, Obj.cells #[.int .i64 x.vote.up, .int .u8 x.vote.vd.code, .slice y1 x.vote.vd.sets.length yc1, .slice y2 x.vote.vd.soa.length yc2, .int .u32 x.vote.time] 63 (0, 0)) :: ((b10, Obj.cells (x.head vc va vb ++ cm).toArray 73 (0, 0)) :: (X' ++ L))))))) := by
              intro A X' z hz
              simp only [List.mem_cons, List.not_mem_nil, or_false] at hz
              rcases hz with rfl | rfl <;> simp
            refine T_cnt (L' := X ++ ((b13, Obj.cells #[.int .i64 x.vote.up, .int .u8 x.vote.vd.code, .slice wa x.vote.vd.sets.length wc, .slice wa2 x.vote.vd.soa.length wc2, .int .u32 x.vote.time] 63 (0, 0)) :: (WB ++ (WB2 ++ (WN ++ ((b11, Obj.cells #[.int .i64 x.vote.up, .int .u8 x.vote.vd.code, .slice y1 x.vote.vd.sets.length yc1, .slice y2 x.vote.vd.soa.length yc2, .int .u32 x.vote.time] 63 (0, 0)) :: (D ++ ((b10, Obj.cells (x.head vc va vb ++ cm).toArray 73 (0, 0)) :: (Y ++ L))))))))) ?_ (by intro p; (try simp only [cnt_append, cnt_cons, cnt_nil]) <;> omega)
            have hKmX := hKm2 X
            refine T_draw follows_mixed ([(b13, Obj.cells #[.int .i64 x.vote.up, .int .u8 x.vote.vd.code, .slice wa x.vote.vd.sets.length wc, .slice wa2 x.vote.vd.soa.length wc2, .int .u32 x.vote.time] 63 (0, 0)), (b11, Obj.cells #[.int .i64 x.vote.up, .int .u8 x.vote.vd.code, .slice y1 x.vote.vd.sets.length yc1, .slice y2 x.vote.vd.soa.length yc2, .int .u32 x.vote.time] 63 (0, 0))]) [] ?_
            (refine' TA_take 0 rfl rfl (by kernel_rfl) (quiet_q (op_move rfl)) ?_ ?_; (· (assumption)))
            (refine' TA_take 1 rfl rfl (by kernel_rfl) (quiet_q (op_ldAll rfl st_63 ?_ ?_)) ?_ ?_; rotate_left 3; (· repeat ((exact List.mem_cons_self))); (· (rfl)); (· (assumption)))
            (refine' TA_take 3 rfl rfl (by kernel_rfl) (quiet_q (op_move rfl)) ?_ ?_; (· (assumption)))
            (refine' TA_take 4 rfl rfl (by kernel_rfl) (quiet_q (op_ldAll rfl st_63 ?_ ?_)) ?_ ?_; rotate_left 3; (· repeat ((first | exact List.mem_cons_self | apply List.mem_cons_of_mem))); (· (rfl)); (· (assumption)))
            refine TA_oneD 2 (by kernel_rfl) rfl rfl rfl rfl (op_call hb_42 rfl (pCast_B hX (hwv (mem_of_cnt (by intro p; (try simp only [cnt_append, cnt_cons, cnt_nil]) <;> omega)) (mem_of_cnt (by intro p; (try simp only [cnt_append, cnt_cons, cnt_nil]) <;> omega)) (mem_of_cnt (by intro p; (try simp only [cnt_append, cnt_cons, cnt_nil]) <;> omega))) hsv)) ?_; rintro _ _ ⟨rfl, X', hX', rfl⟩; refine ⟨Or.inr (hKm2 X'), ?_⟩
            refine TA_cnt (L' := Y ++ (D ++ ((b13, Obj.cells #[.int .i64 x.vote.up, .int .u8 x.vote.vd.code, .slice wa x.vote.vd.sets.length wc, .slice wa2 x.vote.vd.soa.length wc2, .int .u32 x.vote.time] 63 (0, 0)) :: (WB ++ (WB2 ++ (WN ++ ((b11, Obj.cells #[.int .i64 x.vote.up, .int .u8 x.vote.vd.code, .slice y1 x.vote.vd.sets.length yc1, .slice y2 x.vote.vd.soa.length yc2, .int .u32 x.vote.time] 63 (0, 0)) :: ((b10, Obj.cells (x.head vc va vb ++ cm).toArray 73 (0, 0)) :: (X' ++ L))))))))) ?_ (by intro p; (try simp only [cnt_append, cnt_cons, cnt_nil]) <;> omega); refine TA_oneD 5 (by kernel_rfl) rfl rfl rfl rfl (op_call hb_48 rfl (dCast_B hY hD)) ?_; rintro _ _ ⟨rfl, Y', hY', rfl⟩; refine ⟨Or.inr (hKm3 Y' X'), ?_⟩
            (refine' TA_take 6 rfl rfl (by kernel_rfl) (quiet_q (op_bin rfl rfl ?_)) ?_ ?_; rotate_left 1; (· (exact bin_neq)); (· (intro p hp; grind)))
            refine TA_done (by kernel_rfl) ?_
            repeat ((first | with_reducible refine T_region ?_ | with_reducible refine TQ_then ?_ | with_reducible refine T_skip ?_ | refine TL_q (op_fld rfl fld_63_1) rfl ?_ | (refine T_no rfl ?_ ?_; (· (exact nF (by (with_reducible rfl)))))))
            refine TL_q (op_ldA [.int .u8 x.vote.vd.code, .slice wa x.vote.vd.sets.length wc, .slice wa2 x.vote.vd.soa.length wc2] rfl st_42 (List.mem_append_right _ (List.mem_cons_self ..)) (fun j v hj => ?_)) rfl ?_
            · match j, hj with
              | 0, hj => exact hj
              | 1, hj => exact hj
              | 2, hj => exact hj
            refine TL_opT (OpT.heap (L' := WB ++ (WB2 ++ (WN ++ (X' ++ (Y' ++ L))))) (fun w h => h.cnt (by intro p; (try simp only [cnt_append, cnt_cons, cnt_nil]) <;> omega)) (op_call hb_49 rfl (spoil21_S _ wa wa2 _ _ wc wc2 (keysOf WN) WB WB2 WN (rowS_of hWB hWN) (rowS_of hWB2 hWN) (dataIs_wr hWN) (Nat.le_trans hsv.1.1 (by omega)) (Nat.le_trans hsv.2.1 (by omega))))) rfl ?_
            rintro _ _ ⟨Z, rfl⟩
            repeat ((first | with_reducible refine TL_nil ?_ | with_reducible refine TQ_block ?_))
            refine TQ_mid (bp, bd, X', Y') ⟨hX', hY'⟩ ?_ (fun w h => h.cnt (by intro p; (try simp only [cnt_append, cnt_cons, cnt_nil]) <;> omega))
            (repeat ((first | exact trivial | refine ⟨rfl, ?_⟩)))
          · rw [if_neg h0]
            have hgo : ¬ x.kind = 0 ∨ ok = false := by
              by_cases hk0 : x.kind = 0
              · right
                cases ok with
                | true => exact absurd ⟨hk0, rfl⟩ h0
                | false => rfl
              · exact Or.inl hk0
            repeat ((with_reducible refine T_block ?_))
            refine T_mid (σ := Unit) (fun _ => True) (fun _ => [(1, .slice (some ⟨b1, o1, none⟩) l.length cl), (5, .pointer (some ⟨bp, 0, none⟩)), (7, .pointer (some ⟨bd, 0, none⟩)), (9, .int .i64 (i : Nat)), (10, .pointer (some ⟨b10, 0, none⟩)), (57, .bool false)]) (fun _ => (b10, Obj.cells (x.head vc va vb ++ cm).toArray 73 (0, 0)) :: (X ++ (Y ++ L))) ?_ ?_
            · by_cases hk0 : x.kind = 0
              · have hok2 : ok = false := hgo.resolve_left (fun h => h hk0)
                subst hok2
                repeat ((first | with_reducible refine T_region ?_ | with_reducible refine TL_nil ?_ | refine TL_q (op_move rfl) rfl ?_ | refine TL_q (op_assign rfl) rfl ?_ | (refine' TL_q (op_bin rfl rfl ?_) rfl ?_; rotate_left 1; (· (exact bin_eql))) | (refine' TL_q (op_pickT rfl ?_ rfl) rfl ?_; (· (exact dT (by (assumption))))) | refine TL_q (op_fld rfl fld_63_0) rfl ?_ | (refine' TL_q (op_ld rfl pl_3 ?_ ?_) rfl ?_; rotate_left 4; (· repeat ((first | exact List.mem_cons_self | apply List.mem_cons_of_mem | apply List.mem_append_right))); (· (assumption))) | (refine TL_gpre rfl rfl ?_ ?_; (· (exact dT (by (assumption))))) | refine TL_gq2 (op_move rfl) rfl ?_))
                refine TQ_mid () trivial ?_ (fun w h => h.cnt (by intro p; (try simp only [cnt_append, cnt_cons, cnt_nil]) <;> omega))
                (repeat ((first | exact trivial | refine ⟨rfl, ?_⟩)))
              · repeat ((first | with_reducible refine T_region ?_ | with_reducible refine TL_nil ?_ | refine TL_q (op_move rfl) rfl ?_ | refine TL_q (op_assign rfl) rfl ?_ | (refine' TL_q (op_bin rfl rfl ?_) rfl ?_; rotate_left 1; (· (exact bin_eql))) | (refine' TL_q (op_pickF rfl ?_ rfl) rfl ?_; (· (exact dF (by (assumption))))) | refine TL_q (op_fld rfl fld_63_0) rfl ?_ | (refine' TL_q (op_ld rfl pl_3 ?_ ?_) rfl ?_; rotate_left 4; (· repeat ((first | exact List.mem_cons_self | apply List.mem_cons_of_mem | apply List.mem_append_right))); (· (assumption))) | (refine TL_gno rfl rfl ?_ rfl ?_; (· (exact dF (by (assumption)))))))
                refine TQ_mid () trivial ?_ (fun w h => h.cnt (by intro p; (try simp only [cnt_append, cnt_cons, cnt_nil]) <;> omega))
                (repeat ((first | exact trivial | refine ⟨rfl, ?_⟩)))
            · rintro _ _
              by_cases hk1 : x.kind = 1
              · rw [if_pos hk1]
                have hKm : ∀ z ∈ [(b10, Obj.cells (x.head vc va vb ++ cm).toArray 73 (0, 0))], z ∈ X ++ ((b10, Obj.cells (x.head vc va vb ++ cm).toArray 73 (0, 0)) :: (Y ++ L)) := by
                  intro z hz
                  rw [List.mem_singleton.1 hz]
                  simp
                refine T_heap (L' := (b10, Obj.cells (x.head vc va vb ++ cm).toArray 73 (0, 0)) :: (X ++ (Y ++ L))) (fun w h => h) ?_
                repeat ((first | with_reducible refine T_seq ?_ | with_reducible refine T_region ?_ | with_reducible refine TL_nil ?_ | with_reducible refine TQ_then ?_ | refine TL_q (op_assign rfl) rfl ?_ | (refine' TL_q (op_bin rfl rfl ?_) rfl ?_; rotate_left 1; (· (exact bin_eql))) | refine TL_q (op_fld rfl fld_63_0) rfl ?_ | (refine' TL_q (op_ld rfl pl_3 ?_ ?_) rfl ?_; rotate_left 4; (· repeat ((exact List.mem_cons_self))); (· (assumption))) | (refine T_yes rfl ?_ ?_; (· (exact dT (by (assumption))))) | (refine T_no rfl ?_ ?_; (· (with_reducible rfl)))))
                refine T_cnt (L' := X ++ ((b10, Obj.cells (x.head vc va vb ++ cm).toArray 73 (0, 0)) :: (Y ++ L))) ?_ (by intro p; (try simp only [cnt_append, cnt_cons, cnt_nil]) <;> omega)
                refine T_draw follows_mixed ([(b10, Obj.cells (x.head vc va vb ++ cm).toArray 73 (0, 0))]) [] ?_
                (refine' TA_take 0 rfl rfl (by kernel_rfl) (quiet_q (op_move rfl)) ?_ ?_; (· (assumption)))
                (refine' TA_take 1 rfl rfl (by kernel_rfl) (quiet_q (op_fld rfl fld_73_1)) ?_ ?_; (· (assumption)))
                (refine' TA_take 2 rfl rfl (by kernel_rfl) (quiet_q (op_fld rfl fld_63_0)) ?_ ?_; (· (assumption)))
                (refine' TA_take 3 rfl rfl (by kernel_rfl) (quiet_q (op_ld rfl pl_3 ?_ ?_)) ?_ ?_; rotate_left 4; (· repeat ((exact List.mem_cons_self))); (· (assumption)); (· (assumption)))
                (refine' TA_take 5 rfl rfl (by kernel_rfl) (quiet_q (op_move rfl)) ?_ ?_; (· (assumption)))
                (refine' TA_take 6 rfl rfl (by kernel_rfl) (quiet_q (op_fld rfl fld_73_1)) ?_ ?_; (· (assumption)))
                (refine' TA_take 7 rfl rfl (by kernel_rfl) (quiet_q (op_fld rfl fld_63_0)) ?_ ?_; (· (assumption)))
                (refine' TA_take 8 rfl rfl (by kernel_rfl) (quiet_q (op_ld rfl pl_3 ?_ ?_)) ?_ ?_; rotate_left 4; (· repeat ((exact List.mem_cons_self))); (· (assumption)); (· (assumption)))
                refine TA_oneD 4 (by kernel_rfl) rfl rfl rfl rfl (op_call hb_43 rfl (pPass_B x.up hX)) ?_; rintro _ _ ⟨rfl, X', hX', rfl⟩; refine ⟨Or.inr (by intro z hz; rw [List.mem_singleton.1 hz]; simp), ?_⟩
                refine TA_cnt (L' := Y ++ ((b10, Obj.cells (x.head vc va vb ++ cm).toArray 73 (0, 0)) :: (X' ++ L))) ?_ (by intro p; (try simp only [cnt_append, cnt_cons, cnt_nil]) <;> omega); refine TA_oneD 9 (by kernel_rfl) rfl rfl rfl rfl (op_call hb_50 rfl (dPass_B x.up hu hY)) ?_; rintro _ _ ⟨rfl, Y', hY', rfl⟩; refine ⟨Or.inr (by intro z hz; rw [List.mem_singleton.1 hz]; simp), ?_⟩
                (refine' TA_take 10 rfl rfl (by kernel_rfl) (quiet_q (op_bin rfl rfl ?_)) ?_ ?_; rotate_left 1; (· (exact bin_neq)); (· (intro p hp; grind)))
                refine TA_done (by kernel_rfl) ?_
                repeat ((first | with_reducible refine TQ_then ?_ | with_reducible refine TQ_block ?_ | with_reducible refine T_skip ?_ | (refine T_no rfl ?_ ?_; (· (exact nF (by (with_reducible rfl)))))))
                refine TQ_mid (bp, bd, X', Y') ⟨hX', hY'⟩ ?_ (fun w h => h.cnt (by intro p; (try simp only [cnt_append, cnt_cons, cnt_nil]) <;> omega))
                (repeat ((first | exact trivial | refine ⟨rfl, ?_⟩)))
              · rw [if_neg hk1]
                by_cases hk2 : 1 < x.kind
                · repeat ((first | with_reducible refine T_seq ?_ | with_reducible refine T_region ?_ | with_reducible refine TL_nil ?_ | with_reducible refine TQ_then ?_ | refine TL_q (op_move rfl) rfl ?_ | refine TL_q (op_assign rfl) rfl ?_ | (refine' TL_q (op_bin rfl rfl ?_) rfl ?_; rotate_left 1; (· (first | exact bin_eql | exact bin_gtr))) | refine TL_q (op_fld rfl fld_63_0) rfl ?_ | (refine' TL_q (op_ld rfl pl_3 ?_ ?_) rfl ?_; rotate_left 4; (· repeat ((exact List.mem_cons_self))); (· (assumption))) | (refine T_yes rfl ?_ ?_; (· (exact dT (by (assumption))))) | (refine T_no rfl ?_ ?_; (· (first | with_reducible rfl | exact dF (by (assumption)))))))
                  refine TL_cnt (L' := X ++ (Y ++ L)) ?_ (by intro p; (try simp only [cnt_append, cnt_cons, cnt_nil]) <;> omega)
                  refine TL_opT (op_call hb_46 rfl (pCopy_B hX)) rfl ?_
                  rintro _ _ ⟨bp2, X2, rfl, hX2, rfl⟩
                  repeat ((first | with_reducible refine T_seq ?_ | with_reducible refine T_region ?_ | with_reducible refine TL_nil ?_ | with_reducible refine TQ_then ?_ | refine TL_q (op_move rfl) rfl ?_ | refine TL_q (op_assign rfl) rfl ?_))
                  refine TL_opT (OpT.heap (L' := X ++ (X2 ++ (Y ++ L))) (fun w h => h.cnt (by intro p; (try simp only [cnt_append, cnt_cons, cnt_nil]) <;> omega)) (op_call hb_43 rfl (pPass_B 0 hX))) rfl ?_
                  rintro _ _ ⟨rfl, X3, hX3, rfl⟩
                  repeat ((first | with_reducible refine T_seq ?_ | with_reducible refine T_region ?_ | with_reducible refine TL_nil ?_ | with_reducible refine TQ_then ?_ | refine TL_q (op_move rfl) rfl ?_ | refine TL_q (op_build rfl (bl_46_0 _)) rfl ?_))
                  refine TL_opT (op_call hb_42 rfl (pCast_B (cs := [.int .i64 1, .int .u8 0, .slice none 0 0, .slice none 0 0, .int .u32 0]) (x := ⟨1, Vdt.none, 0⟩) hX3 (none_vote (by decide)) smV_none)) rfl ?_
                  rintro _ _ ⟨rfl, X4, hX4, rfl⟩
                  repeat ((first | with_reducible refine T_seq ?_ | with_reducible refine T_region ?_ | with_reducible refine TL_nil ?_ | with_reducible refine TQ_then ?_ | refine TL_q (op_move rfl) rfl ?_ | refine TL_q (op_build rfl (bl_46_0 _)) rfl ?_))
                  refine TL_opT (op_call hb_42 rfl (pCast_B (cs := [.int .i64 2, .int .u8 0, .slice none 0 0, .slice none 0 0, .int .u32 0]) (x := ⟨2, Vdt.none, 0⟩) hX4 (none_vote (by decide)) smV_none)) rfl ?_
                  rintro _ _ ⟨rfl, X5, hX5, rfl⟩
                  repeat ((first | with_reducible refine T_seq ?_ | with_reducible refine T_region ?_ | with_reducible refine TL_nil ?_ | with_reducible refine TQ_then ?_ | refine TL_q (op_move rfl) rfl ?_ | refine TL_q (op_assign rfl) rfl ?_))
                  refine TL_opT (OpT.heap (L' := Y ++ (X2 ++ L)) (fun w h => h.cnt (by intro p; (try simp only [cnt_append, cnt_cons, cnt_nil]) <;> omega)) (op_call hb_51 rfl (dCopy_B hY))) rfl ?_
                  rintro _ _ ⟨bd2, Y2, rfl, hY2, rfl⟩
                  repeat ((first | with_reducible refine TL_nil ?_ | with_reducible refine TQ_block ?_ | refine TL_q (op_assign rfl) rfl ?_))
                  refine TQ_mid (bp2, bd2, X2, Y2) ⟨hX2, hY2⟩ ?_ (fun w h => h.cnt (by intro p; (try simp only [cnt_append, cnt_cons, cnt_nil]) <;> omega))
                  (repeat ((first | exact trivial | refine ⟨rfl, ?_⟩)))
                · repeat ((first | with_reducible refine T_seq ?_ | with_reducible refine T_region ?_ | with_reducible refine TL_nil ?_ | with_reducible refine TQ_then ?_ | with_reducible refine TQ_block ?_ | with_reducible refine T_skip ?_ | refine TL_q (op_assign rfl) rfl ?_ | (refine' TL_q (op_bin rfl rfl ?_) rfl ?_; rotate_left 1; (· (first | exact bin_eql | exact bin_gtr))) | refine TL_q (op_fld rfl fld_63_0) rfl ?_ | (refine' TL_q (op_ld rfl pl_3 ?_ ?_) rfl ?_; rotate_left 4; (· repeat ((exact List.mem_cons_self))); (· (assumption))) | (refine T_no rfl ?_ ?_; (· (first | with_reducible rfl | exact dF (by (assumption)))))))
                  refine TQ_mid (bp, bd, X, Y) ⟨hX, hY⟩ ?_ (fun w h => h.cnt (by intro p; (try simp only [cnt_append, cnt_cons, cnt_nil]) <;> omega))
                  (repeat ((first | exact trivial | refine ⟨rfl, ?_⟩)))
        · rintro ⟨bp', bd', X', Y'⟩ ⟨hX', hY'⟩
          dsimp only
          repeat ((first | with_reducible refine T_seq ?_ | with_reducible refine T_region ?_ | refine TL_q (op_move rfl) rfl ?_))
          refine TL_op (op_call hb_52 rfl (alike21_S hw1 hX' hY')) rfl ?_
          repeat ((first | with_reducible refine T_region ?_ | with_reducible refine TL_nil ?_ | with_reducible refine TQ_then ?_ | with_reducible refine TQ_block ?_ | with_reducible refine T_skip ?_ | refine TL_q (op_move rfl) rfl ?_ | refine TL_q (op_assign rfl) rfl ?_ | (refine' TL_q (op_bin rfl rfl ?_) rfl ?_; rotate_left 1; (· (exact bin_add ⟨by omega, by omega⟩))) | refine TL_q (op_not rfl) rfl ?_ | (refine T_no rfl ?_ ?_; (· (exact Bool.not_true)))))
          refine TQ_roundS (i + 1, bp', bd', X', Y') ⟨hil, by dsimp only; rw [htk]; exact hX', by dsimp only; rw [htk]; exact hY'⟩ ?_ (fun w h => h) (by dsimp only; omega)
          (repeat ((first | exact trivial | refine ⟨rfl, ?_⟩)))
      · have hie : i = l.length := by omega
        subst hie
        repeat ((first | with_reducible refine T_seq ?_ | with_reducible refine T_region ?_ | with_reducible refine TL_nil ?_ | with_reducible refine TQ_then ?_ | with_reducible refine T_exit ?_ | with_reducible refine T_ret ?_ | with_reducible refine TQ_then_exit ?_ | with_reducible refine TQ_block_exit ?_ | refine TL_q (op_move rfl) rfl ?_ | refine TL_q (op_assign rfl) rfl ?_ | (refine' TL_q (op_bin rfl rfl ?_) rfl ?_; rotate_left 1; (· (exact bin_lss))) | refine TL_q (op_len_slice rfl Try.underlying69) rfl ?_ | (refine' TL_op (op_call hb_32 rfl (awake21_S )) rfl ?_) | (refine T_no rfl ?_ ?_; (· (exact dF (by (omega)))))))
        refine TQ_cnt (L' := L) ?_ (by intro p; (try simp only [cnt_append, cnt_cons, cnt_nil]) <;> omega)
        refine TQ_ret1 4 _ rfl rfl ?_
        exact ⟨rfl, rfl⟩
    · omega
  · rw [hM]
    clear hM
    repeat ((first | with_reducible refine T_seq ?_ | with_reducible refine T_region ?_ | with_reducible refine TL_nil ?_ | with_reducible refine TQ_then ?_ | refine TL_q (op_move rfl) rfl ?_ | refine TL_q (op_assign rfl) rfl ?_ | refine TL_q (op_extract rfl rfl) rfl ?_))
    refine TL_opT (op_call hb_47 rfl (rNew_B want)) rfl ?_
    intro u1 M1 h1
    rcases h1 with ⟨_, _, bd0, Y0, rfl, hY0, rfl⟩ | ⟨_, rfl, hM⟩
    · omega
    · rw [hM]
      clear hM
      repeat ((first | with_reducible refine T_seq ?_ | with_reducible refine T_region ?_ | with_reducible refine TL_nil ?_ | with_reducible refine TQ_then ?_ | with_reducible refine T_skip ?_ | with_reducible refine T_ret ?_ | with_reducible refine TQ_then_ret ?_ | refine TL_q (op_move rfl) rfl ?_ | refine TL_q (op_assign rfl) rfl ?_ | (refine' TL_q (op_bin rfl rfl ?_) rfl ?_; rotate_left 1; (· (exact bin_neq))) | refine TL_q (op_extract rfl rfl) rfl ?_ | (refine' TL_q (op_pickF rfl ?_ rfl) rfl ?_; (· (exact Bool.not_true))) | (refine' TL_op (op_call hb_32 rfl (awake21_S )) rfl ?_) | (refine TL_gpre rfl rfl ?_ ?_; (· (exact Bool.not_true))) | refine TL_gq2 (op_move rfl) rfl ?_ | (refine' TL_gq2 (op_bin rfl rfl ?_) rfl ?_; rotate_left 1; (· (first | exact bin_neq | exact bbin_neq Try.underlying4 | exact pbin_eql Try.underlying76))) | (refine T_yes rfl ?_ ?_; (· (exact Bool.not_false))) | (refine T_no rfl ?_ ?_; (· (exact Bool.not_true)))))
      refine TQ_ret1 4 _ rfl rfl ?_
      exact ⟨rfl, rfl⟩
theorem tallyPlays_walk (want : Int) (v : Value) (l : List TAct) (W : World) (hw : -9223372036854775808 ≤ want ∧ want ≤ 9223372036854775807) (hl : sliceR 30 actR (allBlocks W) [v] l) : Calls Try.prog 12 #[.int .i64 want, v] W fun e w' => e = .returned (.bool true) ∧ Below W.heap.size W w' :=
  Spec.below (tallyPlays_S want v l hl)
end Go.Proofs.Ytdflhdfapnhjjaa
namespace Go.Proofs.Ytdflhdfapnhjjaa
open Go.ChangeShapes Go.WideShapes Go.ChangeAt Go.RowKit
open Vd (RSet Vdt Vote Rec Quest Piece Ballot Said)
set_option linter.unusedVariables false
set_option linter.unusedSimpArgs false
theorem own : ownKnob Try.prog.godebug = none := by kernel_rfl
theorem laidOut : laidOutB Try.prog = true := by kernel_rfl
section
variable {H : Type} {enc : TypeId × Value → H} {W : World} {v : Value} {d : DataW H} {p : List MemPlace} {base : Nat}
theorem opens_any {t e : TypeId} (hu : Try.prog.underlying t = some (.slice e)) : Opens enc Try.prog W t 1 (fun _ cs (a : Option Addr) => ∃ n m, cs = [.slice a n m]) := fun fuel cs x hf => by
  rcases Deep.open_slice hu hf with ⟨hcs, _⟩ | ⟨x, len, cap, m, n, D, Pl, hcs, _⟩
  · subst hcs; exact ⟨rfl, none, 0, 0, rfl⟩
  · subst hcs; exact ⟨rfl, some x, len, cap, rfl⟩
theorem bd16 {n : Int} (h : InLit .u16 n) : 0 ≤ n ∧ n ≤ 65535 := by unfold InLit Lit.wf at h; simp [IntKind.min, IntKind.max, IntKind.bits, IntKind.signed] at h; omega
theorem bd32 {n : Int} (h : InLit .u32 n) : 0 ≤ n ∧ n ≤ 4294967295 := by unfold InLit Lit.wf at h; simp [IntKind.min, IntKind.max, IntKind.bits, IntKind.signed] at h; omega
theorem bd8 {n : Int} (h : InLit .u8 n) : 0 ≤ n ∧ n ≤ 255 := by unfold InLit Lit.wf at h; simp [IntKind.min, IntKind.max, IntKind.bits, IntKind.signed] at h; omega
theorem bd64 {n : Int} (h : InLit .i64 n) : -9223372036854775808 ≤ n ∧ n ≤ 9223372036854775807 := by unfold InLit Lit.wf at h; simp [IntKind.min, IntKind.max, IntKind.bits, IntKind.signed] at h; omega

set_option maxRecDepth 100000 in
theorem opens_rec : Opens enc Try.prog W 112 5 recR := fun fuel cs x hf => by
  obtain ⟨hlen, hfs⟩ := opens_fields Try.underlying112 hf
  have hc : Try.prog.cellsOf 112 = 5 := by kernel_rfl
  rw [hc] at hlen
  have c0 : Try.prog.cellsOf 9 = 1 := by kernel_rfl
  have c1 : Try.prog.cellsOf 23 = 1 := by kernel_rfl
  have c2 : Try.prog.cellsOf 36 = 1 := by kernel_rfl
  obtain ⟨n0, y0, g0⟩ := hfs 0 _ rfl
  have g0 : DataW.trod enc Try.prog W 0 (fun _ => true) true n0 9 ((cs.drop 0).take (Try.prog.cellsOf 9)) = some y0 := g0
  rw [c0] at g0
  obtain ⟨a0, k0, w0⟩ := (opens_string Try.underlying9).at g0
  obtain ⟨n1, y1, g1⟩ := hfs 1 _ rfl
  have g1 : DataW.trod enc Try.prog W 0 (fun _ => true) true n1 23 ((cs.drop 1).take (Try.prog.cellsOf 23)) = some y1 := g1
  rw [c1] at g1
  obtain ⟨a1, k1, w1⟩ := (opens_int Try.underlying23).at g1
  obtain ⟨n2, y2, g2⟩ := hfs 2 _ rfl
  have g2 : DataW.trod enc Try.prog W 0 (fun _ => true) true n2 23 ((cs.drop 2).take (Try.prog.cellsOf 23)) = some y2 := g2
  rw [c1] at g2
  obtain ⟨a2, k2, w2⟩ := (opens_int Try.underlying23).at g2
  obtain ⟨n3, y3, g3⟩ := hfs 3 _ rfl
  have g3 : DataW.trod enc Try.prog W 0 (fun _ => true) true n3 36 ((cs.drop 3).take (Try.prog.cellsOf 36)) = some y3 := g3
  rw [c2] at g3
  obtain ⟨a3, k3, w3⟩ := (opens_int Try.underlying36).at g3
  obtain ⟨n4, y4, g4⟩ := hfs 4 _ rfl
  have g4 : DataW.trod enc Try.prog W 0 (fun _ => true) true n4 9 ((cs.drop 4).take (Try.prog.cellsOf 9)) = some y4 := g4
  rw [c0] at g4
  obtain ⟨a4, k4, w4⟩ := (opens_string Try.underlying9).at g4
  refine ⟨hlen, ⟨a0, a1, a2, a3, a4⟩, ?_⟩
  match cs, hlen with
  | [x0, x1, x2, x3, x4], _ =>
    obtain rfl : x0 = _ := by simpa using k0
    obtain rfl : x1 = _ := by simpa using k1
    obtain rfl : x2 = _ := by simpa using k2
    obtain rfl : x3 = _ := by simpa using k3
    obtain rfl : x4 = _ := by simpa using k4
    exact ⟨rfl, w0, w4, bd16 w1, bd16 w2, bd32 w3⟩
set_option maxRecDepth 100000 in
theorem opens_quest : Opens enc Try.prog W 34 3 questR := fun fuel cs x hf => by
  obtain ⟨hlen, hfs⟩ := opens_fields Try.underlying34 hf
  have hc : Try.prog.cellsOf 34 = 3 := by kernel_rfl
  rw [hc] at hlen
  have c0 : Try.prog.cellsOf 9 = 1 := by kernel_rfl
  have c1 : Try.prog.cellsOf 23 = 1 := by kernel_rfl
  obtain ⟨n0, y0, g0⟩ := hfs 0 _ rfl
  have g0 : DataW.trod enc Try.prog W 0 (fun _ => true) true n0 9 ((cs.drop 0).take (Try.prog.cellsOf 9)) = some y0 := g0
  rw [c0] at g0
  obtain ⟨a0, k0, w0⟩ := (opens_string Try.underlying9).at g0
  obtain ⟨n1, y1, g1⟩ := hfs 1 _ rfl
  have g1 : DataW.trod enc Try.prog W 0 (fun _ => true) true n1 23 ((cs.drop 1).take (Try.prog.cellsOf 23)) = some y1 := g1
  rw [c1] at g1
  obtain ⟨a1, k1, w1⟩ := (opens_int Try.underlying23).at g1
  obtain ⟨n2, y2, g2⟩ := hfs 2 _ rfl
  have g2 : DataW.trod enc Try.prog W 0 (fun _ => true) true n2 23 ((cs.drop 2).take (Try.prog.cellsOf 23)) = some y2 := g2
  rw [c1] at g2
  obtain ⟨a2, k2, w2⟩ := (opens_int Try.underlying23).at g2
  refine ⟨hlen, ⟨a0, a1, a2⟩, ?_⟩
  match cs, hlen with
  | [x0, x1, x2], _ =>
    obtain rfl : x0 = _ := by simpa using k0
    obtain rfl : x1 = _ := by simpa using k1
    obtain rfl : x2 = _ := by simpa using k2
    exact ⟨rfl, w0, bd16 w1, bd16 w2⟩
def headR : Rp Int := fun _ cs c => ∃ h0 h1 h2 h3 h4 h5 h6 h7 h8 h9, cs = [h0, h1, h2, h3, h4, h5, h6, h7, h8, h9, .int .u8 c] ∧ (0 ≤ c ∧ c ≤ 255) ∧ ∀ v ∈ cs, v.oneCell' = true
set_option maxRecDepth 100000 in
theorem opens_head : Opens enc Try.prog W 25 11 headR := fun fuel cs x hf => by
  obtain ⟨hlen, hfs⟩ := opens_fields Try.underlying25 hf
  have hc : Try.prog.cellsOf 25 = 11 := by kernel_rfl
  rw [hc] at hlen
  have c0 : Try.prog.cellsOf 23 = 1 := by kernel_rfl
  have c1 : Try.prog.cellsOf 4 = 1 := by kernel_rfl
  have c2 : Try.prog.cellsOf 5 = 1 := by kernel_rfl
  obtain ⟨n0, y0, g0⟩ := hfs 0 _ rfl
  have g0 : DataW.trod enc Try.prog W 0 (fun _ => true) true n0 23 ((cs.drop 0).take (Try.prog.cellsOf 23)) = some y0 := g0
  rw [c0] at g0
  obtain ⟨a0, k0, w0⟩ := (opens_int Try.underlying23).at g0
  obtain ⟨n1, y1, g1⟩ := hfs 1 _ rfl
  have g1 : DataW.trod enc Try.prog W 0 (fun _ => true) true n1 4 ((cs.drop 1).take (Try.prog.cellsOf 4)) = some y1 := g1
  rw [c1] at g1
  obtain ⟨a1, k1⟩ := (opens_bool Try.underlying4).at g1
  obtain ⟨n2, y2, g2⟩ := hfs 2 _ rfl
  have g2 : DataW.trod enc Try.prog W 0 (fun _ => true) true n2 5 ((cs.drop 2).take (Try.prog.cellsOf 5)) = some y2 := g2
  rw [c2] at g2
  obtain ⟨a2, k2, w2⟩ := (opens_int Try.underlying5).at g2
  obtain ⟨n3, y3, g3⟩ := hfs 3 _ rfl
  have g3 : DataW.trod enc Try.prog W 0 (fun _ => true) true n3 4 ((cs.drop 3).take (Try.prog.cellsOf 4)) = some y3 := g3
  rw [c1] at g3
  obtain ⟨a3, k3⟩ := (opens_bool Try.underlying4).at g3
  obtain ⟨n4, y4, g4⟩ := hfs 4 _ rfl
  have g4 : DataW.trod enc Try.prog W 0 (fun _ => true) true n4 4 ((cs.drop 4).take (Try.prog.cellsOf 4)) = some y4 := g4
  rw [c1] at g4
  obtain ⟨a4, k4⟩ := (opens_bool Try.underlying4).at g4
  obtain ⟨n5, y5, g5⟩ := hfs 5 _ rfl
  have g5 : DataW.trod enc Try.prog W 0 (fun _ => true) true n5 4 ((cs.drop 5).take (Try.prog.cellsOf 4)) = some y5 := g5
  rw [c1] at g5
  obtain ⟨a5, k5⟩ := (opens_bool Try.underlying4).at g5
  obtain ⟨n6, y6, g6⟩ := hfs 6 _ rfl
  have g6 : DataW.trod enc Try.prog W 0 (fun _ => true) true n6 4 ((cs.drop 6).take (Try.prog.cellsOf 4)) = some y6 := g6
  rw [c1] at g6
  obtain ⟨a6, k6⟩ := (opens_bool Try.underlying4).at g6
  obtain ⟨n7, y7, g7⟩ := hfs 7 _ rfl
  have g7 : DataW.trod enc Try.prog W 0 (fun _ => true) true n7 4 ((cs.drop 7).take (Try.prog.cellsOf 4)) = some y7 := g7
  rw [c1] at g7
  obtain ⟨a7, k7⟩ := (opens_bool Try.underlying4).at g7
  obtain ⟨n8, y8, g8⟩ := hfs 8 _ rfl
  have g8 : DataW.trod enc Try.prog W 0 (fun _ => true) true n8 4 ((cs.drop 8).take (Try.prog.cellsOf 4)) = some y8 := g8
  rw [c1] at g8
  obtain ⟨a8, k8⟩ := (opens_bool Try.underlying4).at g8
  obtain ⟨n9, y9, g9⟩ := hfs 9 _ rfl
  have g9 : DataW.trod enc Try.prog W 0 (fun _ => true) true n9 4 ((cs.drop 9).take (Try.prog.cellsOf 4)) = some y9 := g9
  rw [c1] at g9
  obtain ⟨a9, k9⟩ := (opens_bool Try.underlying4).at g9
  obtain ⟨n10, y10, g10⟩ := hfs 10 _ rfl
  have g10 : DataW.trod enc Try.prog W 0 (fun _ => true) true n10 5 ((cs.drop 10).take (Try.prog.cellsOf 5)) = some y10 := g10
  rw [c2] at g10
  obtain ⟨a10, k10, w10⟩ := (opens_int Try.underlying5).at g10
  refine ⟨hlen, a10, ?_⟩
  match cs, hlen with
  | [x0, x1, x2, x3, x4, x5, x6, x7, x8, x9, x10], _ =>
    obtain rfl : x0 = _ := by simpa using k0
    obtain rfl : x1 = _ := by simpa [boolR] using k1
    obtain rfl : x2 = _ := by simpa using k2
    obtain rfl : x3 = _ := by simpa [boolR] using k3
    obtain rfl : x4 = _ := by simpa [boolR] using k4
    obtain rfl : x5 = _ := by simpa [boolR] using k5
    obtain rfl : x6 = _ := by simpa [boolR] using k6
    obtain rfl : x7 = _ := by simpa [boolR] using k7
    obtain rfl : x8 = _ := by simpa [boolR] using k8
    obtain rfl : x9 = _ := by simpa [boolR] using k9
    obtain rfl : x10 = _ := by simpa using k10
    refine ⟨_, _, _, _, _, _, _, _, _, _, rfl, bd8 w10, ?_⟩
    intro v hv
    simp only [List.mem_cons, List.not_mem_nil, or_false] at hv
    rcases hv with rfl | rfl | rfl | rfl | rfl | rfl | rfl | rfl | rfl | rfl | rfl <;> rfl
def ednsR : Rp Int := fun _ cs _ => ∃ e0 e1 e2 e3 e4, cs = [e0, e1, e2, e3, e4] ∧ ∀ v ∈ cs, v.oneCell' = true
set_option maxRecDepth 100000 in
theorem opens_edns : Opens enc Try.prog W 30 5 ednsR := fun fuel cs x hf => by
  obtain ⟨hlen, hfs⟩ := opens_fields Try.underlying30 hf
  have hc : Try.prog.cellsOf 30 = 5 := by kernel_rfl
  rw [hc] at hlen
  have c0 : Try.prog.cellsOf 23 = 1 := by kernel_rfl
  have c1 : Try.prog.cellsOf 5 = 1 := by kernel_rfl
  have c2 : Try.prog.cellsOf 28 = 1 := by kernel_rfl
  obtain ⟨n0, y0, g0⟩ := hfs 0 _ rfl
  have g0 : DataW.trod enc Try.prog W 0 (fun _ => true) true n0 23 ((cs.drop 0).take (Try.prog.cellsOf 23)) = some y0 := g0
  rw [c0] at g0
  obtain ⟨a0, k0, w0⟩ := (opens_int Try.underlying23).at g0
  obtain ⟨n1, y1, g1⟩ := hfs 1 _ rfl
  have g1 : DataW.trod enc Try.prog W 0 (fun _ => true) true n1 5 ((cs.drop 1).take (Try.prog.cellsOf 5)) = some y1 := g1
  rw [c1] at g1
  obtain ⟨a1, k1, w1⟩ := (opens_int Try.underlying5).at g1
  obtain ⟨n2, y2, g2⟩ := hfs 2 _ rfl
  have g2 : DataW.trod enc Try.prog W 0 (fun _ => true) true n2 5 ((cs.drop 2).take (Try.prog.cellsOf 5)) = some y2 := g2
  rw [c1] at g2
  obtain ⟨a2, k2, w2⟩ := (opens_int Try.underlying5).at g2
  obtain ⟨n3, y3, g3⟩ := hfs 3 _ rfl
  have g3 : DataW.trod enc Try.prog W 0 (fun _ => true) true n3 23 ((cs.drop 3).take (Try.prog.cellsOf 23)) = some y3 := g3
  rw [c0] at g3
  obtain ⟨a3, k3, w3⟩ := (opens_int Try.underlying23).at g3
  obtain ⟨n4, y4, g4⟩ := hfs 4 _ rfl
  have g4 : DataW.trod enc Try.prog W 0 (fun _ => true) true n4 28 ((cs.drop 4).take (Try.prog.cellsOf 28)) = some y4 := g4
  rw [c2] at g4
  obtain ⟨a4, k4⟩ := (opens_any Try.underlying28).at g4
  refine ⟨hlen, 0, ?_⟩
  match cs, hlen with
  | [x0, x1, x2, x3, x4], _ =>
    obtain rfl : x0 = _ := by simpa using k0
    obtain rfl : x1 = _ := by simpa using k1
    obtain rfl : x2 = _ := by simpa using k2
    obtain rfl : x3 = _ := by simpa using k3
    obtain ⟨n4, m4, k4⟩ := k4
    obtain rfl : x4 = _ := by simpa using k4
    refine ⟨_, _, _, _, _, rfl, ?_⟩
    intro v hv
    simp only [List.mem_cons, List.not_mem_nil, or_false] at hv
    rcases hv with rfl | rfl | rfl | rfl | rfl <;> rfl
set_option maxRecDepth 100000 in
theorem opens_msg : Opens enc Try.prog W 32 21 msgR := fun fuel cs x hf => by
  obtain ⟨hlen, hfs⟩ := opens_fields Try.underlying32 hf
  have hc : Try.prog.cellsOf 32 = 21 := by kernel_rfl
  rw [hc] at hlen
  have c0 : Try.prog.cellsOf 25 = 11 := by kernel_rfl
  have c1 : Try.prog.cellsOf 26 = 1 := by kernel_rfl
  have c2 : Try.prog.cellsOf 27 = 1 := by kernel_rfl
  have c3 : Try.prog.cellsOf 4 = 1 := by kernel_rfl
  have c4 : Try.prog.cellsOf 30 = 5 := by kernel_rfl
  obtain ⟨n0, y0, g0⟩ := hfs 0 _ rfl
  have g0 : DataW.trod enc Try.prog W 0 (fun _ => true) true n0 25 ((cs.drop 0).take (Try.prog.cellsOf 25)) = some y0 := g0
  rw [c0] at g0
  obtain ⟨a0, k0⟩ := opens_head.at g0
  obtain ⟨n1, y1, g1⟩ := hfs 1 _ rfl
  have g1 : DataW.trod enc Try.prog W 0 (fun _ => true) true n1 26 ((cs.drop 11).take (Try.prog.cellsOf 26)) = some y1 := g1
  rw [c1] at g1
  obtain ⟨a1, k1⟩ := (opens_any Try.underlying26).at g1
  obtain ⟨n2, y2, g2⟩ := hfs 2 _ rfl
  have g2 : DataW.trod enc Try.prog W 0 (fun _ => true) true n2 27 ((cs.drop 12).take (Try.prog.cellsOf 27)) = some y2 := g2
  rw [c2] at g2
  obtain ⟨a2, k2⟩ := (opens_slice Try.underlying27 (by kernel_rfl) (by decide) (opens_rec (enc := enc))).at g2
  obtain ⟨n3, y3, g3⟩ := hfs 3 _ rfl
  have g3 : DataW.trod enc Try.prog W 0 (fun _ => true) true n3 27 ((cs.drop 13).take (Try.prog.cellsOf 27)) = some y3 := g3
  rw [c2] at g3
  obtain ⟨a3, k3⟩ := (opens_slice Try.underlying27 (by kernel_rfl) (by decide) (opens_rec (enc := enc))).at g3
  obtain ⟨n4, y4, g4⟩ := hfs 4 _ rfl
  have g4 : DataW.trod enc Try.prog W 0 (fun _ => true) true n4 27 ((cs.drop 14).take (Try.prog.cellsOf 27)) = some y4 := g4
  rw [c2] at g4
  obtain ⟨a4, k4⟩ := (opens_any Try.underlying27).at g4
  obtain ⟨n5, y5, g5⟩ := hfs 5 _ rfl
  have g5 : DataW.trod enc Try.prog W 0 (fun _ => true) true n5 4 ((cs.drop 15).take (Try.prog.cellsOf 4)) = some y5 := g5
  rw [c3] at g5
  obtain ⟨a5, k5⟩ := (opens_bool Try.underlying4).at g5
  obtain ⟨n6, y6, g6⟩ := hfs 6 _ rfl
  have g6 : DataW.trod enc Try.prog W 0 (fun _ => true) true n6 30 ((cs.drop 16).take (Try.prog.cellsOf 30)) = some y6 := g6
  rw [c4] at g6
  obtain ⟨a6, k6⟩ := opens_edns.at g6
  refine ⟨hlen, ⟨a0, a2, a3⟩, ?_⟩
  match cs, hlen with
  | [x0, x1, x2, x3, x4, x5, x6, x7, x8, x9, x10, x11, x12, x13, x14, x15, x16, x17, x18, x19, x20], _ =>
    obtain ⟨n1, m1, k1⟩ := k1
    obtain rfl : x11 = _ := by simpa using k1
    obtain ⟨n4, m4, k4⟩ := k4
    obtain rfl : x14 = _ := by simpa using k4
    obtain rfl : x15 = _ := by simpa [boolR] using k5
    obtain ⟨h0, h1, h2, h3, h4, h5, h6, h7, h8, h9, q0, hcode, hone⟩ := k0
    obtain ⟨e0', e1', e2', e3', e4', q6, hone6⟩ := k6
    simp only [List.drop_zero, List.take_succ_cons, List.take_zero, List.drop_succ_cons, List.cons.injEq, and_true] at q0 q6
    obtain ⟨rfl, rfl, rfl, rfl, rfl, rfl, rfl, rfl, rfl, rfl, rfl⟩ := q0
    obtain ⟨rfl, rfl, rfl, rfl, rfl⟩ := q6
    refine ⟨_, _, _, _, _, _, _, _, _, _, _, _, _, _, _, _, _, _, _, _, rfl, k2, k3, hcode, ?_⟩
    have s2 : ∀ v, sliceR 5 recR (allBlocks W) [v] a2 → v.oneCell' = true := fun v h => by obtain ⟨a, c, e, _⟩ := h; simp only [List.cons.injEq, and_true] at e; rw [e]; rfl
    have s3 : ∀ v, sliceR 5 recR (allBlocks W) [v] a3 → v.oneCell' = true := fun v h => by obtain ⟨a, c, e, _⟩ := h; simp only [List.cons.injEq, and_true] at e; rw [e]; rfl
    intro v hv
    have hv' : v ∈ [x0, x1, x2, x3, x4, x5, x6, x7, x8, x9, .int .u8 a0] ++ (_ :: x12 :: x13 :: _ :: _ :: [x16, x17, x18, x19, x20]) := hv
    rcases List.mem_append.1 hv' with hv | hv
    · exact hone v hv
    · simp only [List.mem_cons, List.not_mem_nil, or_false] at hv
      rcases hv with rfl | rfl | rfl | rfl | rfl | hv
      · rfl
      · exact s2 _ k2
      · exact s3 _ k3
      · rfl
      · rfl
      · exact hone6 v (by simpa using hv)
instance : Inhabited Vd.Msg := ⟨⟨0, [], []⟩⟩
instance : Inhabited Said := ⟨⟨0, default, 0⟩⟩
set_option maxRecDepth 100000 in
theorem opened_int (hv : Value.okWide Try.prog W .any base 3 v) (h : DataW.Trod enc Try.prog W 0 (fun _ => true) true 3 v d p) : ∃ n, v = .int .i64 n ∧ (-9223372036854775808 ≤ n ∧ n ≤ 9223372036854775807) := by
  obtain ⟨x, rfl, _, _, wx⟩ := open_int Try.underlying3 hv h
  exact ⟨x, rfl, bd64 wx⟩
end
end Go.Proofs.Ytdflhdfapnhjjaa
namespace Go.Proofs.Ytdflhdfapnhjjaa
open Go.ChangeShapes Go.WideShapes Go.ChangeAt Go.RowKit
open Vd (RSet Vdt Vote Rec Quest Piece Ballot Said)
set_option linter.unusedVariables false
set_option linter.unusedSimpArgs false
section
variable {H : Type} {enc : TypeId × Value → H} {W : World} {v : Value} {d : DataW H} {p : List MemPlace} {base : Nat}
def vdAny : Rp Int := fun _ cs _ => ∃ vc va vb, cs = [vc, va, vb] ∧ vc.oneCell' = true ∧ va.oneCell' = true ∧ vb.oneCell' = true
def voteAny : Rp (Int × Int) := fun _ cs p => ∃ vc va vb, cs = [.int .i64 p.1, vc, va, vb, .int .u32 p.2] ∧ (vc.oneCell' = true ∧ va.oneCell' = true ∧ vb.oneCell' = true) ∧ (0 ≤ p.2 ∧ p.2 ≤ 4294967295) ∧ (-9223372036854775808 ≤ p.1 ∧ p.1 ≤ 9223372036854775807)

set_option maxRecDepth 100000 in
theorem opens_vdAny : Opens enc Try.prog W 42 3 vdAny := fun fuel cs x hf => by
  obtain ⟨hlen, hfs⟩ := opens_fields Try.underlying42 hf
  have hc : Try.prog.cellsOf 42 = 3 := by kernel_rfl
  rw [hc] at hlen
  have c0 : Try.prog.cellsOf 5 = 1 := by kernel_rfl
  have c1 : Try.prog.cellsOf 40 = 1 := by kernel_rfl
  obtain ⟨n0, y0, g0⟩ := hfs 0 _ rfl
  have g0 : DataW.trod enc Try.prog W 0 (fun _ => true) true n0 5 ((cs.drop 0).take (Try.prog.cellsOf 5)) = some y0 := g0
  rw [c0] at g0
  obtain ⟨a0, k0, w0⟩ := (opens_int Try.underlying5).at g0
  obtain ⟨n1, y1, g1⟩ := hfs 1 _ rfl
  have g1 : DataW.trod enc Try.prog W 0 (fun _ => true) true n1 40 ((cs.drop 1).take (Try.prog.cellsOf 40)) = some y1 := g1
  rw [c1] at g1
  obtain ⟨a1, k1⟩ := (opens_any Try.underlying40).at g1
  obtain ⟨n2, y2, g2⟩ := hfs 2 _ rfl
  have g2 : DataW.trod enc Try.prog W 0 (fun _ => true) true n2 40 ((cs.drop 2).take (Try.prog.cellsOf 40)) = some y2 := g2
  rw [c1] at g2
  obtain ⟨a2, k2⟩ := (opens_any Try.underlying40).at g2
  refine ⟨hlen, 0, ?_⟩
  match cs, hlen with
  | [x0, x1, x2], _ =>
    obtain rfl : x0 = _ := by simpa using k0
    obtain ⟨n1, m1, k1⟩ := k1
    obtain rfl : x1 = _ := by simpa using k1
    obtain ⟨n2, m2, k2⟩ := k2
    obtain rfl : x2 = _ := by simpa using k2
    exact ⟨_, _, _, rfl, rfl, rfl, rfl⟩
set_option maxRecDepth 100000 in
theorem opens_voteAny : Opens enc Try.prog W 63 5 voteAny := fun fuel cs x hf => by
  obtain ⟨hlen, hfs⟩ := opens_fields Try.underlying63 hf
  have hc : Try.prog.cellsOf 63 = 5 := by kernel_rfl
  rw [hc] at hlen
  have c0 : Try.prog.cellsOf 3 = 1 := by kernel_rfl
  have c1 : Try.prog.cellsOf 42 = 3 := by kernel_rfl
  have c2 : Try.prog.cellsOf 36 = 1 := by kernel_rfl
  obtain ⟨n0, y0, g0⟩ := hfs 0 _ rfl
  have g0 : DataW.trod enc Try.prog W 0 (fun _ => true) true n0 3 ((cs.drop 0).take (Try.prog.cellsOf 3)) = some y0 := g0
  rw [c0] at g0
  obtain ⟨a0, k0, w0⟩ := (opens_int Try.underlying3).at g0
  obtain ⟨n1, y1, g1⟩ := hfs 1 _ rfl
  have g1 : DataW.trod enc Try.prog W 0 (fun _ => true) true n1 42 ((cs.drop 1).take (Try.prog.cellsOf 42)) = some y1 := g1
  rw [c1] at g1
  obtain ⟨a1, k1⟩ := (opens_vdAny (enc := enc)).at g1
  obtain ⟨n2, y2, g2⟩ := hfs 2 _ rfl
  have g2 : DataW.trod enc Try.prog W 0 (fun _ => true) true n2 36 ((cs.drop 4).take (Try.prog.cellsOf 36)) = some y2 := g2
  rw [c2] at g2
  obtain ⟨a2, k2, w2⟩ := (opens_int Try.underlying36).at g2
  refine ⟨hlen, (a0, a2), ?_⟩
  match cs, hlen with
  | [x0, x1, x2, x3, x4], _ =>
    obtain rfl : x0 = _ := by simpa using k0
    obtain rfl : x4 = _ := by simpa using k2
    obtain ⟨vc, va, vb, e, h1, h2, h3⟩ := k1
    simp only [List.drop_zero, List.take_succ_cons, List.take_zero, List.drop_succ_cons, List.cons.injEq, and_true] at e
    obtain ⟨rfl, rfl, rfl⟩ := e
    exact ⟨_, _, _, rfl, ⟨h1, h2, h3⟩, bd32 w2, bd64 w0⟩
instance : Inhabited TAct := ⟨⟨0, 0, 0, ⟨[], 0, 0⟩, default⟩⟩
set_option maxRecDepth 100000 in
theorem opens_act : Opens enc Try.prog W 73 30 actR := fun fuel cs x hf => by
  obtain ⟨hlen, hfs⟩ := opens_fields Try.underlying73 hf
  have hc : Try.prog.cellsOf 73 = 30 := by kernel_rfl
  rw [hc] at hlen
  have c0 : Try.prog.cellsOf 5 = 1 := by kernel_rfl
  have c1 : Try.prog.cellsOf 63 = 5 := by kernel_rfl
  have c2 : Try.prog.cellsOf 34 = 3 := by kernel_rfl
  have c3 : Try.prog.cellsOf 32 = 21 := by kernel_rfl
  obtain ⟨n0, y0, g0⟩ := hfs 0 _ rfl
  have g0 : DataW.trod enc Try.prog W 0 (fun _ => true) true n0 5 ((cs.drop 0).take (Try.prog.cellsOf 5)) = some y0 := g0
  rw [c0] at g0
  obtain ⟨a0, k0, w0⟩ := (opens_int Try.underlying5).at g0
  obtain ⟨n1, y1, g1⟩ := hfs 1 _ rfl
  have g1 : DataW.trod enc Try.prog W 0 (fun _ => true) true n1 63 ((cs.drop 1).take (Try.prog.cellsOf 63)) = some y1 := g1
  rw [c1] at g1
  obtain ⟨a1, k1⟩ := (opens_voteAny (enc := enc)).at g1
  obtain ⟨n2, y2, g2⟩ := hfs 2 _ rfl
  have g2 : DataW.trod enc Try.prog W 0 (fun _ => true) true n2 34 ((cs.drop 6).take (Try.prog.cellsOf 34)) = some y2 := g2
  rw [c2] at g2
  obtain ⟨a2, k2⟩ := (opens_quest (enc := enc)).at g2
  obtain ⟨n3, y3, g3⟩ := hfs 3 _ rfl
  have g3 : DataW.trod enc Try.prog W 0 (fun _ => true) true n3 32 ((cs.drop 9).take (Try.prog.cellsOf 32)) = some y3 := g3
  rw [c3] at g3
  obtain ⟨a3, k3⟩ := (opens_msg (enc := enc)).at g3
  refine ⟨hlen, ⟨a0, a1.1, a1.2, a2, a3⟩, ?_⟩
  match cs, hlen with
  | [x0, x1, x2, x3, x4, x5, x6, x7, x8, x9, x10, x11, x12, x13, x14, x15, x16, x17, x18, x19, x20, x21, x22, x23, x24, x25, x26, x27, x28, x29], _ =>
    obtain rfl : x0 = _ := by simpa using k0
    obtain ⟨vc, va, vb, e, h1, h2, h3⟩ := k1
    obtain ⟨e2, hq⟩ := k2
    simp only [List.drop_zero, List.take_succ_cons, List.take_zero, List.drop_succ_cons, List.cons.injEq, and_true] at e e2
    obtain ⟨rfl, rfl, rfl, rfl, rfl⟩ := e
    obtain ⟨rfl, rfl, rfl⟩ := e2
    exact ⟨_, _, _, _, rfl, ⟨rfl, hq⟩, k3, h1, bd8 w0, h2, h3⟩
set_option maxRecDepth 100000 in
theorem opened_acts (hv : Value.okWide Try.prog W .any base 69 v) (h : DataW.Trod enc Try.prog W 0 (fun _ => true) true 69 v d p) : ∃ l, sliceR 30 actR (allBlocks W) [v] l := by
  obtain ⟨a, len, cap, rfl⟩ := okWide_slice Try.underlying69 hv
  obtain ⟨fuel, hf⟩ := h
  obtain ⟨l, k0⟩ := (opens_slice Try.underlying69 (by kernel_rfl) (by decide) (opens_act (enc := enc))).at hf
  exact ⟨l, k0⟩
end
end Go.Proofs.Ytdflhdfapnhjjaa
