/-
  Part 9: Kq Kr Gv Gw Qe Qg Gx Qh Ks Kt Ku Gy Kv Kw.
-/
import Derived.Test.YtdflhdfapnhjjaaTx8
import Derived.Test.YtdflhdfapnhjjaaTx7
import Derived.Test.YtdflhdfapnhjjaaTx2
import Derived.Sort.Walk0
import Derived.Lib.SlicesCompact
namespace Go.Proofs.Ytdflhdfapnhjjaa
open Go.RowKit
open Vd (RSet Vdt Vote Rec Quest Piece Ballot)
set_option linter.unusedVariables false
set_option linter.unusedSimpArgs false
--auto
variable {G : World} {L : Blocks}
theorem most_foldB {l : List Ballot} {i : Nat} {y : Ballot} (hy : l[i]? = some y) (vs : List Vote) : (Vd.votesB (l.take (i + 1))).foldl (fun m x => max m ((withV vs x.vd).length : Int)) 0 = if y.pass then (Vd.votesB (l.take i)).foldl (fun m x => max m ((withV vs x.vd).length : Int)) 0 else max ((Vd.votesB (l.take i)).foldl (fun m x => max m ((withV vs x.vd).length : Int)) 0) ((withV vs y.v.vd).length : Int) := by
  rw [votesB_take1 hy]
  split
  · rfl
  · rw [List.foldl_append]; rfl
set_option maxRecDepth 100000 in
set_option maxHeartbeats 4000000 in
theorem rMost_S {K : Blocks} (bb : Nat) (want : Int) (a : Option Addr) (c : Nat) (l : List Ballot) (hm : (bb, Obj.cells #[.int .i64 want, .slice a l.length c] 124 (0, 0)) ∈ L) (hl : sliceR 6 (fun _ => ballotR K) L [.slice a l.length c] l) (hK : ∀ p ∈ K, p ∈ L) (hn : l.length ≤ 1000) :
    Spec Try.prog G 75 #[.pointer (some ⟨bb, 0, none⟩)] L fun u M => u = .int .i64 (mostR (Vd.votesB l)) ∧ M = L := by
  have hcap := (sliceR.cut hl).2
  unfold maxLen at hcap
  obtain ⟨hcap1, hcap2, _⟩ := hcap
  obtain ⟨vs, hvs⟩ : ∃ vs, Vd.votesB l = vs := ⟨_, rfl⟩
  have hvl := votesB_len l
  rw [hvs] at hvl ⊢
  obtain ⟨F, hF⟩ : ∃ F : Nat → Int, ∀ i, (Vd.votesB (l.take i)).foldl (fun m x => max m ((withV vs x.vd).length : Int)) 0 = F i := ⟨_, fun _ => rfl⟩
  have hFb : ∀ i, 0 ≤ F i ∧ F i ≤ 1000 := fun i => by
    rw [← hF i]
    have h1 := (most_le (vs := vs) (ws := Vd.votesB (l.take i)) (n := 0)).1 (Int.le_refl _)
    refine ⟨h1.1, most_le.2 ⟨by omega, fun x _ => ?_⟩⟩
    have := List.length_filter_le (fun y => decide (y.vd = x.vd)) vs
    have h2 : (withV vs x.vd).length ≤ vs.length := this
    omega
  refine Spec_of (n := 72) Try.func75 rfl rfl rfl ?_
  repeat ((first | with_reducible refine T_seq ?_ | with_reducible refine T_block ?_ | with_reducible refine T_region ?_ | with_reducible refine TL_nil ?_ | with_reducible refine TQ_then ?_ | refine TL_q (op_assign rfl) rfl ?_))
  refine T_loopS (σ := Nat) (fun i => i ≤ l.length) (fun i => [(0, .pointer (some ⟨bb, 0, none⟩)), (3, .int .i64 (F i)), (4, .int .i64 (i : Nat))]) (fun _ => L) (fun i => l.length - i) 0 (Nat.zero_le _) ?_ (fun w h => h) ?_
  · rw [← hF 0]
    (repeat ((first | exact trivial | refine ⟨rfl, ?_⟩)))
  rintro i hi
  by_cases hil : i < l.length
  · obtain ⟨y, hy⟩ : ∃ y, l[i]? = some y := ⟨_, List.getElem?_eq_getElem hil⟩
    obtain ⟨b1, o1, C1, t1, f1, rfl, m1, q1⟩ := ball_cut hl (by intro e; rw [e] at hil; simp at hil)
    obtain ⟨y1, yc1, y2, yc2, hyB⟩ := q1 i y hy
    have g5 := hyB.pass
    have hmf := most_foldB hy vs
    rw [hF, hF] at hmf
    obtain ⟨hF0, hF1⟩ := hFb i
    obtain ⟨hF2, hF3⟩ := hFb (i + 1)
    obtain ⟨N, hN⟩ : ∃ N : Nat → Nat, ∀ k, (if y.pass then 0 else (withV (Vd.votesB (l.take k)) y.v.vd).length) = N k := ⟨_, fun _ => rfl⟩
    have hNk : ∀ k, N k ≤ k := fun k => by
      rw [← hN k]
      split
      · omega
      · refine Nat.le_trans (List.length_filter_le _ _) (Nat.le_trans (votesB_len _) ?_)
        rw [List.length_take]
        omega
    repeat ((first | with_reducible refine T_seq ?_ | with_reducible refine T_block ?_ | with_reducible refine T_region ?_ | with_reducible refine TL_nil ?_ | with_reducible refine TQ_then ?_ | with_reducible refine T_skip ?_ | refine TL_q (op_move rfl) rfl ?_ | refine TL_q (op_assign rfl) rfl ?_ | (refine' TL_q (op_bin rfl rfl ?_) rfl ?_; rotate_left 1; (· (exact bin_lss))) | refine TL_q (op_nilCheck rfl) rfl ?_ | refine TL_q (op_len_slice rfl Try.underlying122) rfl ?_ | refine TL_q (op_fld rfl fld_63_1) rfl ?_ | (refine' TL_q (op_ld rfl pl_4 ?_ ?_) rfl ?_; rotate_left 4; (· repeat ((assumption))); (· (rfl))) | (refine T_yes rfl ?_ ?_; (· (exact dT (by (omega)))))))
    refine T_loopS (σ := Nat) (fun k => k ≤ l.length) (fun k => [(0, .pointer (some ⟨bb, 0, none⟩)), (3, .int .i64 (F i)), (4, .int .i64 (i : Nat)), (5, .int .i64 (N k : Nat)), (6, .int .i64 (k : Nat))]) (fun _ => L) (fun k => l.length - k) 0 (Nat.zero_le _) ?_ (fun w h => h) ?_
    · have h0 : N 0 = 0 := by have := hNk 0; omega
      rw [h0]
      (repeat ((first | exact trivial | refine ⟨rfl, ?_⟩)))
    rintro k hk
    have hNk1 := hNk k
    by_cases hkl : k < l.length
    · obtain ⟨z, hz⟩ : ∃ z, l[k]? = some z := ⟨_, List.getElem?_eq_getElem hkl⟩
      obtain ⟨z1, zc1, z2, zc2, hzB⟩ := q1 k z hz
      have gz5 := hzB.pass
      have htz := votesB_take1 hz
      have hKm : ∀ q ∈ [(bb, Obj.cells #[.int .i64 want, .slice (some ⟨b1, o1, none⟩) l.length c] 124 (0, 0)), (b1, Obj.cells C1 t1 f1)], q ∈ L := by
        intro q hq
        simp only [List.mem_cons, List.not_mem_nil, or_false] at hq
        rcases hq with rfl | rfl
        · exact hm
        · exact m1
      cases hp : y.pass with
      | true =>
        rw [hp] at g5
        have hNe : N (k + 1) = N k := by rw [← hN, ← hN, hp]; rfl
        repeat ((first | with_reducible refine T_seq ?_ | with_reducible refine T_block ?_ | with_reducible refine T_region ?_ | with_reducible refine TL_nil ?_ | with_reducible refine TQ_then ?_ | with_reducible refine T_skip ?_ | refine TL_q (op_move rfl) rfl ?_ | (refine' TL_q (op_bin rfl rfl ?_) rfl ?_; rotate_left 1; (· (exact bin_lss))) | refine TL_q (op_nilCheck rfl) rfl ?_ | refine TL_q (op_len_slice rfl Try.underlying122) rfl ?_ | refine TL_q (op_fld rfl fld_63_1) rfl ?_ | (refine' TL_q (op_ld rfl pl_4 ?_ ?_) rfl ?_; rotate_left 4; (· repeat ((assumption))); (· (rfl))) | (refine T_yes rfl ?_ ?_; (· (exact dT (by (omega)))))))
        refine T_draw follows_mixed ([(bb, Obj.cells #[.int .i64 want, .slice (some ⟨b1, o1, none⟩) l.length c] 124 (0, 0)), (b1, Obj.cells C1 t1 f1)]) [] ?_
        (refine' TA_take 0 rfl rfl (by kernel_rfl) (quiet_q (op_move rfl)) ?_ ?_; (· (assumption)))
        (refine' TA_take 1 rfl rfl (by kernel_rfl) (quiet_q (op_nilCheck rfl)) ?_ ?_; (· (assumption)))
        (refine' TA_take 2 rfl rfl (by kernel_rfl) (quiet_q (op_fld rfl fld_124_1)) ?_ ?_; (· (assumption)))
        (refine' TA_take 3 rfl rfl (by kernel_rfl) (quiet_q (op_ld rfl pl_122 ?_ ?_)) ?_ ?_; rotate_left 4; (· repeat ((exact List.mem_cons_self))); (· (rfl)); (· (assumption)))
        (refine' TA_take 4 rfl rfl (by kernel_rfl) (quiet_q (op_move rfl)) ?_ ?_; (· (assumption)))
        (refine' TA_take 5 rfl rfl (by kernel_rfl) (quiet_q (op_idx ety_122 rfl rfl ?_)) ?_ ?_; (· omega); (· (assumption)))
        (refine' TA_take 6 rfl rfl (by kernel_rfl) (quiet_q (op_fld rfl fld_141_1)) ?_ ?_; (· (assumption)))
        (refine' TA_take 7 rfl rfl (by kernel_rfl) (quiet_q (op_ld rfl pl_4 ?_ ?_)) ?_ ?_; rotate_left 4; (· repeat ((first | exact List.mem_cons_self | apply List.mem_cons_of_mem))); (· (assumption)); (· (assumption)))
        (refine' TA_take 8 rfl rfl (by kernel_rfl) (quiet_q (op_not rfl)) ?_ ?_; (· (assumption)))
        (refine' TA_take 9 rfl rfl (by kernel_rfl) (quiet_q (op_move rfl)) ?_ ?_; (· (assumption)))
        (refine TA_take 10 rfl rfl (by kernel_rfl) (quiet_no2 rfl rfl ?_) ?_ ?_; (· (with_reducible rfl)); (· (assumption)))
        (refine TA_take 11 rfl rfl (by kernel_rfl) (quiet_no2 rfl rfl ?_) ?_ ?_; (· (with_reducible rfl)); (· (assumption)))
        (refine TA_take 12 rfl rfl (by kernel_rfl) (quiet_no2 rfl rfl ?_) ?_ ?_; (· (with_reducible rfl)); (· (assumption)))
        (refine TA_take 13 rfl rfl (by kernel_rfl) (quiet_no2 rfl rfl ?_) ?_ ?_; (· (with_reducible rfl)); (· (assumption)))
        (refine TA_take 14 rfl rfl (by kernel_rfl) (quiet_no2 rfl rfl ?_) ?_ ?_; (· (with_reducible rfl)); (· (assumption)))
        (refine TA_take 15 rfl rfl (by kernel_rfl) (quiet_no2 rfl rfl ?_) ?_ ?_; (· (with_reducible rfl)); (· (assumption)))
        (refine TA_take 16 rfl rfl (by kernel_rfl) (quiet_no2 rfl rfl ?_) ?_ ?_; (· (with_reducible rfl)); (· (assumption)))
        (refine TA_take 17 rfl rfl (by kernel_rfl) (quiet_no2 rfl rfl ?_) ?_ ?_; (· (with_reducible rfl)); (· (assumption)))
        (refine TA_take 18 rfl rfl (by kernel_rfl) (quiet_no2 rfl rfl ?_) ?_ ?_; (· (with_reducible rfl)); (· (assumption)))
        (refine' TA_take 19 rfl rfl (by kernel_rfl) (quiet_q (op_pickF rfl ?_ rfl)) ?_ ?_; (· (exact Bool.not_true)); (· (assumption)))
        (refine' TA_take 20 rfl rfl (by kernel_rfl) (quiet_q (op_move rfl)) ?_ ?_; (· (assumption)))
        (refine TA_take 21 rfl rfl (by kernel_rfl) (quiet_no2 rfl rfl ?_) ?_ ?_; (· (exact Bool.not_true)); (· (assumption)))
        (refine TA_take 22 rfl rfl (by kernel_rfl) (quiet_no2 rfl rfl ?_) ?_ ?_; (· (exact Bool.not_true)); (· (assumption)))
        (refine TA_take 23 rfl rfl (by kernel_rfl) (quiet_no2 rfl rfl ?_) ?_ ?_; (· (exact Bool.not_true)); (· (assumption)))
        (refine TA_take 24 rfl rfl (by kernel_rfl) (quiet_no2 rfl rfl ?_) ?_ ?_; (· (exact Bool.not_true)); (· (assumption)))
        (refine TA_take 25 rfl rfl (by kernel_rfl) (quiet_no2 rfl rfl ?_) ?_ ?_; (· (exact Bool.not_true)); (· (assumption)))
        (refine TA_take 26 rfl rfl (by kernel_rfl) (quiet_no2 rfl rfl ?_) ?_ ?_; (· (exact Bool.not_true)); (· (assumption)))
        (refine TA_take 27 rfl rfl (by kernel_rfl) (quiet_no2 rfl rfl ?_) ?_ ?_; (· (exact Bool.not_true)); (· (assumption)))
        (refine TA_take 28 rfl rfl (by kernel_rfl) (quiet_no2 rfl rfl ?_) ?_ ?_; (· (exact Bool.not_true)); (· (assumption)))
        (refine TA_take 30 rfl rfl (by kernel_rfl) (quiet_no2 rfl rfl ?_) ?_ ?_; (· (exact Bool.not_true)); (· (assumption)))
        (refine TA_take 31 rfl rfl (by kernel_rfl) (quiet_no2 rfl rfl ?_) ?_ ?_; (· (exact Bool.not_true)); (· (assumption)))
        (refine TA_take 32 rfl rfl (by kernel_rfl) (quiet_no2 rfl rfl ?_) ?_ ?_; (· (exact Bool.not_true)); (· (assumption)))
        (refine TA_take 33 rfl rfl (by kernel_rfl) (quiet_no2 rfl rfl ?_) ?_ ?_; (· (exact Bool.not_true)); (· (assumption)))
        (refine TA_take 34 rfl rfl (by kernel_rfl) (quiet_no2 rfl rfl ?_) ?_ ?_; (· (exact Bool.not_true)); (· (assumption)))
        (refine TA_take 35 rfl rfl (by kernel_rfl) (quiet_no2 rfl rfl ?_) ?_ ?_; (· (exact Bool.not_true)); (· (assumption)))
        (refine TA_take 36 rfl rfl (by kernel_rfl) (quiet_no2 rfl rfl ?_) ?_ ?_; (· (exact Bool.not_true)); (· (assumption)))
        (refine TA_take 37 rfl rfl (by kernel_rfl) (quiet_no2 rfl rfl ?_) ?_ ?_; (· (exact Bool.not_true)); (· (assumption)))
        -- SEVERAL: [29, 38]
        (refine TA_take 29 rfl rfl (by kernel_rfl) (quiet_no2 rfl rfl ?_) ?_ ?_; (· (exact Bool.not_true)); (· exact hKm))
        (refine TA_take 38 rfl rfl (by kernel_rfl) (quiet_no2 rfl rfl ?_) ?_ ?_; (· (exact Bool.not_true)); (· exact hKm))
        (refine TA_take 39 rfl rfl (by kernel_rfl) (quiet_no2 rfl rfl ?_) ?_ ?_; (· (exact Bool.not_true)); (· exact hKm))
        (refine' TA_take 40 rfl rfl (by kernel_rfl) (quiet_q (op_pickF rfl ?_ rfl)) ?_ ?_; (· (with_reducible rfl)); (· (assumption)))
        refine TA_done (by kernel_rfl) ?_
        repeat ((first | with_reducible refine T_region ?_ | with_reducible refine TL_nil ?_ | with_reducible refine TQ_then ?_ | with_reducible refine TQ_block ?_ | with_reducible refine T_skip ?_ | refine TL_q (op_move rfl) rfl ?_ | refine TL_q (op_assign rfl) rfl ?_ | (refine' TL_q (op_bin rfl rfl ?_) rfl ?_; rotate_left 1; (· (exact bin_add ⟨by omega, by omega⟩))) | (refine T_no rfl ?_ ?_; (· (with_reducible rfl)))))
        refine TQ_roundS (k + 1) hkl ?_ (fun w h => h) (by omega)
        rw [hNe]
        (repeat (first | exact trivial | refine ⟨rfl, ?_⟩))
      | false =>
        rw [hp] at g5
        cases hzp : z.pass with
        | true =>
          rw [hzp] at gz5
          rw [hzp, if_pos rfl] at htz
          have hNe : N (k + 1) = N k := by rw [← hN, ← hN, htz]
          repeat ((first | with_reducible refine T_seq ?_ | with_reducible refine T_block ?_ | with_reducible refine T_region ?_ | with_reducible refine TL_nil ?_ | with_reducible refine TQ_then ?_ | with_reducible refine T_skip ?_ | refine TL_q (op_move rfl) rfl ?_ | (refine' TL_q (op_bin rfl rfl ?_) rfl ?_; rotate_left 1; (· (exact bin_lss))) | refine TL_q (op_nilCheck rfl) rfl ?_ | refine TL_q (op_len_slice rfl Try.underlying122) rfl ?_ | refine TL_q (op_fld rfl fld_63_1) rfl ?_ | (refine' TL_q (op_ld rfl pl_4 ?_ ?_) rfl ?_; rotate_left 4; (· repeat ((assumption))); (· (rfl))) | (refine T_yes rfl ?_ ?_; (· (exact dT (by (omega)))))))
          refine T_draw follows_mixed ([(bb, Obj.cells #[.int .i64 want, .slice (some ⟨b1, o1, none⟩) l.length c] 124 (0, 0)), (b1, Obj.cells C1 t1 f1)]) [] ?_
          (refine' TA_take 0 rfl rfl (by kernel_rfl) (quiet_q (op_move rfl)) ?_ ?_; (· (assumption)))
          (refine' TA_take 1 rfl rfl (by kernel_rfl) (quiet_q (op_nilCheck rfl)) ?_ ?_; (· (assumption)))
          (refine' TA_take 2 rfl rfl (by kernel_rfl) (quiet_q (op_fld rfl fld_124_1)) ?_ ?_; (· (assumption)))
          (refine' TA_take 3 rfl rfl (by kernel_rfl) (quiet_q (op_ld rfl pl_122 ?_ ?_)) ?_ ?_; rotate_left 4; (· repeat ((exact List.mem_cons_self))); (· (rfl)); (· (assumption)))
          (refine' TA_take 4 rfl rfl (by kernel_rfl) (quiet_q (op_move rfl)) ?_ ?_; (· (assumption)))
          (refine' TA_take 5 rfl rfl (by kernel_rfl) (quiet_q (op_idx ety_122 rfl rfl ?_)) ?_ ?_; (· omega); (· (assumption)))
          (refine' TA_take 6 rfl rfl (by kernel_rfl) (quiet_q (op_fld rfl fld_141_1)) ?_ ?_; (· (assumption)))
          (refine' TA_take 7 rfl rfl (by kernel_rfl) (quiet_q (op_ld rfl pl_4 ?_ ?_)) ?_ ?_; rotate_left 4; (· repeat ((first | exact List.mem_cons_self | apply List.mem_cons_of_mem))); (· (assumption)); (· (assumption)))
          (refine' TA_take 8 rfl rfl (by kernel_rfl) (quiet_q (op_not rfl)) ?_ ?_; (· (assumption)))
          (refine' TA_take 9 rfl rfl (by kernel_rfl) (quiet_q (op_move rfl)) ?_ ?_; (· (assumption)))
          (refine' TA_take 10 rfl rfl (by kernel_rfl) (quiet_g2 rfl rfl (by (exact Bool.not_false)) (op_move rfl)) ?_ ?_; (· (assumption)))
          (refine' TA_take 11 rfl rfl (by kernel_rfl) (quiet_g2 rfl rfl (by (exact Bool.not_false)) (op_nilCheck rfl)) ?_ ?_; (· (assumption)))
          (refine' TA_take 12 rfl rfl (by kernel_rfl) (quiet_g2 rfl rfl (by (exact Bool.not_false)) (op_fld rfl fld_124_1)) ?_ ?_; (· (assumption)))
          (refine' TA_take 13 rfl rfl (by kernel_rfl) (quiet_g2 rfl rfl (by (exact Bool.not_false)) (op_ld rfl pl_122 ?_ ?_)) ?_ ?_; rotate_left 4; (· repeat ((exact List.mem_cons_self))); (· (rfl)); (· (assumption)))
          (refine' TA_take 14 rfl rfl (by kernel_rfl) (quiet_g2 rfl rfl (by (exact Bool.not_false)) (op_move rfl)) ?_ ?_; (· (assumption)))
          (refine' TA_take 15 rfl rfl (by kernel_rfl) (quiet_g2 rfl rfl (by (exact Bool.not_false)) (op_idx ety_122 rfl rfl ?_)) ?_ ?_; (· omega); (· (assumption)))
          (refine' TA_take 16 rfl rfl (by kernel_rfl) (quiet_g2 rfl rfl (by (exact Bool.not_false)) (op_fld rfl fld_141_1)) ?_ ?_; (· (assumption)))
          (refine' TA_take 17 rfl rfl (by kernel_rfl) (quiet_g2 rfl rfl (by (exact Bool.not_false)) (op_ld rfl pl_4 ?_ ?_)) ?_ ?_; rotate_left 4; (· repeat ((first | exact List.mem_cons_self | apply List.mem_cons_of_mem))); (· (assumption)); (· (assumption)))
          (refine' TA_take 18 rfl rfl (by kernel_rfl) (quiet_g2 rfl rfl (by (exact Bool.not_false)) (op_not rfl)) ?_ ?_; (· (assumption)))
          (refine' TA_take 19 rfl rfl (by kernel_rfl) (quiet_q (op_pickT rfl ?_ rfl)) ?_ ?_; (· (exact Bool.not_false)); (· (assumption)))
          (refine' TA_take 20 rfl rfl (by kernel_rfl) (quiet_q (op_move rfl)) ?_ ?_; (· (assumption)))
          (refine TA_take 21 rfl rfl (by kernel_rfl) (quiet_no2 rfl rfl ?_) ?_ ?_; (· (with_reducible rfl)); (· (assumption)))
          (refine TA_take 22 rfl rfl (by kernel_rfl) (quiet_no2 rfl rfl ?_) ?_ ?_; (· (with_reducible rfl)); (· (assumption)))
          (refine TA_take 23 rfl rfl (by kernel_rfl) (quiet_no2 rfl rfl ?_) ?_ ?_; (· (with_reducible rfl)); (· (assumption)))
          (refine TA_take 24 rfl rfl (by kernel_rfl) (quiet_no2 rfl rfl ?_) ?_ ?_; (· (with_reducible rfl)); (· (assumption)))
          (refine TA_take 25 rfl rfl (by kernel_rfl) (quiet_no2 rfl rfl ?_) ?_ ?_; (· (with_reducible rfl)); (· (assumption)))
          (refine TA_take 26 rfl rfl (by kernel_rfl) (quiet_no2 rfl rfl ?_) ?_ ?_; (· (with_reducible rfl)); (· (assumption)))
          (refine TA_take 27 rfl rfl (by kernel_rfl) (quiet_no2 rfl rfl ?_) ?_ ?_; (· (with_reducible rfl)); (· (assumption)))
          (refine TA_take 28 rfl rfl (by kernel_rfl) (quiet_no2 rfl rfl ?_) ?_ ?_; (· (with_reducible rfl)); (· (assumption)))
          (refine TA_take 30 rfl rfl (by kernel_rfl) (quiet_no2 rfl rfl ?_) ?_ ?_; (· (with_reducible rfl)); (· (assumption)))
          (refine TA_take 31 rfl rfl (by kernel_rfl) (quiet_no2 rfl rfl ?_) ?_ ?_; (· (with_reducible rfl)); (· (assumption)))
          (refine TA_take 32 rfl rfl (by kernel_rfl) (quiet_no2 rfl rfl ?_) ?_ ?_; (· (with_reducible rfl)); (· (assumption)))
          (refine TA_take 33 rfl rfl (by kernel_rfl) (quiet_no2 rfl rfl ?_) ?_ ?_; (· (with_reducible rfl)); (· (assumption)))
          (refine TA_take 34 rfl rfl (by kernel_rfl) (quiet_no2 rfl rfl ?_) ?_ ?_; (· (with_reducible rfl)); (· (assumption)))
          (refine TA_take 35 rfl rfl (by kernel_rfl) (quiet_no2 rfl rfl ?_) ?_ ?_; (· (with_reducible rfl)); (· (assumption)))
          (refine TA_take 36 rfl rfl (by kernel_rfl) (quiet_no2 rfl rfl ?_) ?_ ?_; (· (with_reducible rfl)); (· (assumption)))
          (refine TA_take 37 rfl rfl (by kernel_rfl) (quiet_no2 rfl rfl ?_) ?_ ?_; (· (with_reducible rfl)); (· (assumption)))
          -- SEVERAL: [29, 38]
          (refine TA_take 29 rfl rfl (by kernel_rfl) (quiet_no2 rfl rfl ?_) ?_ ?_; (· (with_reducible rfl)); (· exact hKm))
          (refine TA_take 38 rfl rfl (by kernel_rfl) (quiet_no2 rfl rfl ?_) ?_ ?_; (· (with_reducible rfl)); (· exact hKm))
          (refine TA_take 39 rfl rfl (by kernel_rfl) (quiet_no2 rfl rfl ?_) ?_ ?_; (· (with_reducible rfl)); (· exact hKm))
          (refine' TA_take 40 rfl rfl (by kernel_rfl) (quiet_q (op_pickF rfl ?_ rfl)) ?_ ?_; (· (exact Bool.not_true)); (· (assumption)))
          refine TA_done (by kernel_rfl) ?_
          repeat ((first | with_reducible refine T_region ?_ | with_reducible refine TL_nil ?_ | with_reducible refine TQ_then ?_ | with_reducible refine TQ_block ?_ | with_reducible refine T_skip ?_ | refine TL_q (op_move rfl) rfl ?_ | refine TL_q (op_assign rfl) rfl ?_ | (refine' TL_q (op_bin rfl rfl ?_) rfl ?_; rotate_left 1; (· (exact bin_add ⟨by omega, by omega⟩))) | (refine T_no rfl ?_ ?_; (· (with_reducible rfl)))))
          refine TQ_roundS (k + 1) hkl ?_ (fun w h => h) (by omega)
          rw [hNe]
          (repeat (first | exact trivial | refine ⟨rfl, ?_⟩))
        | false =>
          rw [hzp] at gz5
          rw [hzp, if_neg (by simp)] at htz
          have hws := withV_snoc (Vd.votesB (l.take k)) z.v y.v.vd
          rw [← htz] at hws
          by_cases hyz : y.v.vd = z.v.vd
          · rw [if_pos hyz.symm] at hws
            have hNe : ((N (k + 1) : Nat) : Int) = (N k : Nat) + 1 := by rw [← hN, ← hN, hp, hws]; simp
            have hd0 : decide (y.v.vd = z.v.vd) = true := decide_eq_true hyz
            repeat ((first | with_reducible refine T_seq ?_ | with_reducible refine T_block ?_ | with_reducible refine T_region ?_ | with_reducible refine TL_nil ?_ | with_reducible refine TQ_then ?_ | with_reducible refine T_skip ?_ | refine TL_q (op_move rfl) rfl ?_ | (refine' TL_q (op_bin rfl rfl ?_) rfl ?_; rotate_left 1; (· (exact bin_lss))) | refine TL_q (op_nilCheck rfl) rfl ?_ | refine TL_q (op_len_slice rfl Try.underlying122) rfl ?_ | refine TL_q (op_fld rfl fld_63_1) rfl ?_ | (refine' TL_q (op_ld rfl pl_4 ?_ ?_) rfl ?_; rotate_left 4; (· repeat ((assumption))); (· (rfl))) | (refine T_yes rfl ?_ ?_; (· (exact dT (by (omega)))))))
            refine T_draw follows_mixed ([(bb, Obj.cells #[.int .i64 want, .slice (some ⟨b1, o1, none⟩) l.length c] 124 (0, 0)), (b1, Obj.cells C1 t1 f1)]) [] ?_
            (refine' TA_take 0 rfl rfl (by kernel_rfl) (quiet_q (op_move rfl)) ?_ ?_; (· (assumption)))
            (refine' TA_take 1 rfl rfl (by kernel_rfl) (quiet_q (op_nilCheck rfl)) ?_ ?_; (· (assumption)))
            (refine' TA_take 2 rfl rfl (by kernel_rfl) (quiet_q (op_fld rfl fld_124_1)) ?_ ?_; (· (assumption)))
            (refine' TA_take 3 rfl rfl (by kernel_rfl) (quiet_q (op_ld rfl pl_122 ?_ ?_)) ?_ ?_; rotate_left 4; (· repeat ((exact List.mem_cons_self))); (· (rfl)); (· (assumption)))
            (refine' TA_take 4 rfl rfl (by kernel_rfl) (quiet_q (op_move rfl)) ?_ ?_; (· (assumption)))
            (refine' TA_take 5 rfl rfl (by kernel_rfl) (quiet_q (op_idx ety_122 rfl rfl ?_)) ?_ ?_; (· omega); (· (assumption)))
            (refine' TA_take 6 rfl rfl (by kernel_rfl) (quiet_q (op_fld rfl fld_141_1)) ?_ ?_; (· (assumption)))
            (refine' TA_take 7 rfl rfl (by kernel_rfl) (quiet_q (op_ld rfl pl_4 ?_ ?_)) ?_ ?_; rotate_left 4; (· repeat ((first | exact List.mem_cons_self | apply List.mem_cons_of_mem))); (· (assumption)); (· (assumption)))
            (refine' TA_take 8 rfl rfl (by kernel_rfl) (quiet_q (op_not rfl)) ?_ ?_; (· (assumption)))
            (refine' TA_take 9 rfl rfl (by kernel_rfl) (quiet_q (op_move rfl)) ?_ ?_; (· (assumption)))
            (refine' TA_take 10 rfl rfl (by kernel_rfl) (quiet_g2 rfl rfl (by (exact Bool.not_false)) (op_move rfl)) ?_ ?_; (· (assumption)))
            (refine' TA_take 11 rfl rfl (by kernel_rfl) (quiet_g2 rfl rfl (by (exact Bool.not_false)) (op_nilCheck rfl)) ?_ ?_; (· (assumption)))
            (refine' TA_take 12 rfl rfl (by kernel_rfl) (quiet_g2 rfl rfl (by (exact Bool.not_false)) (op_fld rfl fld_124_1)) ?_ ?_; (· (assumption)))
            (refine' TA_take 13 rfl rfl (by kernel_rfl) (quiet_g2 rfl rfl (by (exact Bool.not_false)) (op_ld rfl pl_122 ?_ ?_)) ?_ ?_; rotate_left 4; (· repeat ((exact List.mem_cons_self))); (· (rfl)); (· (assumption)))
            (refine' TA_take 14 rfl rfl (by kernel_rfl) (quiet_g2 rfl rfl (by (exact Bool.not_false)) (op_move rfl)) ?_ ?_; (· (assumption)))
            (refine' TA_take 15 rfl rfl (by kernel_rfl) (quiet_g2 rfl rfl (by (exact Bool.not_false)) (op_idx ety_122 rfl rfl ?_)) ?_ ?_; (· omega); (· (assumption)))
            (refine' TA_take 16 rfl rfl (by kernel_rfl) (quiet_g2 rfl rfl (by (exact Bool.not_false)) (op_fld rfl fld_141_1)) ?_ ?_; (· (assumption)))
            (refine' TA_take 17 rfl rfl (by kernel_rfl) (quiet_g2 rfl rfl (by (exact Bool.not_false)) (op_ld rfl pl_4 ?_ ?_)) ?_ ?_; rotate_left 4; (· repeat ((first | exact List.mem_cons_self | apply List.mem_cons_of_mem))); (· (assumption)); (· (assumption)))
            (refine' TA_take 18 rfl rfl (by kernel_rfl) (quiet_g2 rfl rfl (by (exact Bool.not_false)) (op_not rfl)) ?_ ?_; (· (assumption)))
            (refine' TA_take 19 rfl rfl (by kernel_rfl) (quiet_q (op_pickT rfl ?_ rfl)) ?_ ?_; (· (exact Bool.not_false)); (· (assumption)))
            (refine' TA_take 20 rfl rfl (by kernel_rfl) (quiet_q (op_move rfl)) ?_ ?_; (· (assumption)))
            (refine' TA_take 21 rfl rfl (by kernel_rfl) (quiet_g2 rfl rfl (by (exact Bool.not_false)) (op_move rfl)) ?_ ?_; (· (assumption)))
            (refine' TA_take 22 rfl rfl (by kernel_rfl) (quiet_g2 rfl rfl (by (exact Bool.not_false)) (op_nilCheck rfl)) ?_ ?_; (· (assumption)))
            (refine' TA_take 23 rfl rfl (by kernel_rfl) (quiet_g2 rfl rfl (by (exact Bool.not_false)) (op_fld rfl fld_124_1)) ?_ ?_; (· (assumption)))
            (refine' TA_take 24 rfl rfl (by kernel_rfl) (quiet_g2 rfl rfl (by (exact Bool.not_false)) (op_ld rfl pl_122 ?_ ?_)) ?_ ?_; rotate_left 4; (· repeat ((exact List.mem_cons_self))); (· (rfl)); (· (assumption)))
            (refine' TA_take 25 rfl rfl (by kernel_rfl) (quiet_g2 rfl rfl (by (exact Bool.not_false)) (op_move rfl)) ?_ ?_; (· (assumption)))
            (refine' TA_take 26 rfl rfl (by kernel_rfl) (quiet_g2 rfl rfl (by (exact Bool.not_false)) (op_idx ety_122 rfl rfl ?_)) ?_ ?_; (· omega); (· (assumption)))
            (refine' TA_take 27 rfl rfl (by kernel_rfl) (quiet_g2 rfl rfl (by (exact Bool.not_false)) (op_fld rfl fld_141_0)) ?_ ?_; (· (assumption)))
            (refine' TA_take 28 rfl rfl (by kernel_rfl) (quiet_g2 rfl rfl (by (exact Bool.not_false)) (op_fld rfl fld_63_1)) ?_ ?_; (· (assumption)))
            (refine' TA_take 30 rfl rfl (by kernel_rfl) (quiet_g2 rfl rfl (by (exact Bool.not_false)) (op_move rfl)) ?_ ?_; (· (assumption)))
            (refine' TA_take 31 rfl rfl (by kernel_rfl) (quiet_g2 rfl rfl (by (exact Bool.not_false)) (op_nilCheck rfl)) ?_ ?_; (· (assumption)))
            (refine' TA_take 32 rfl rfl (by kernel_rfl) (quiet_g2 rfl rfl (by (exact Bool.not_false)) (op_fld rfl fld_124_1)) ?_ ?_; (· (assumption)))
            (refine' TA_take 33 rfl rfl (by kernel_rfl) (quiet_g2 rfl rfl (by (exact Bool.not_false)) (op_ld rfl pl_122 ?_ ?_)) ?_ ?_; rotate_left 4; (· repeat ((exact List.mem_cons_self))); (· (rfl)); (· (assumption)))
            (refine' TA_take 34 rfl rfl (by kernel_rfl) (quiet_g2 rfl rfl (by (exact Bool.not_false)) (op_move rfl)) ?_ ?_; (· (assumption)))
            (refine' TA_take 35 rfl rfl (by kernel_rfl) (quiet_g2 rfl rfl (by (exact Bool.not_false)) (op_idx ety_122 rfl rfl ?_)) ?_ ?_; (· omega); (· (assumption)))
            (refine' TA_take 36 rfl rfl (by kernel_rfl) (quiet_g2 rfl rfl (by (exact Bool.not_false)) (op_fld rfl fld_141_0)) ?_ ?_; (· (assumption)))
            (refine' TA_take 37 rfl rfl (by kernel_rfl) (quiet_g2 rfl rfl (by (exact Bool.not_false)) (op_fld rfl fld_63_1)) ?_ ?_; (· (assumption)))
            -- SEVERAL: [29, 38]
            (refine TA_take 29 rfl rfl (by kernel_rfl) (quiet_g2 rfl rfl (by (exact Bool.not_false)) (op_ldA [.int .u8 y.v.vd.code, .slice y1 y.v.vd.sets.length yc1, .slice y2 y.v.vd.soa.length yc2] rfl st_42 (List.mem_cons_of_mem _ (List.mem_cons_self ..)) hyB.vd)) ?_ ?_; (· exact hKm))
            (refine TA_take 38 rfl rfl (by kernel_rfl) (quiet_g2 rfl rfl (by (exact Bool.not_false)) (op_ldA [.int .u8 z.v.vd.code, .slice z1 z.v.vd.sets.length zc1, .slice z2 z.v.vd.soa.length zc2] rfl st_42 (List.mem_cons_of_mem _ (List.mem_cons_self ..)) hzB.vd)) ?_ ?_; (· exact hKm))
            (refine TA_oneGd 39 (by kernel_rfl) rfl rfl rfl rfl (by (exact Bool.not_false)) (op_call hb_23 rfl (vSame_S [.int .u8 y.v.vd.code, .slice y1 y.v.vd.sets.length yc1, .slice y2 y.v.vd.soa.length yc2] [.int .u8 z.v.vd.code, .slice z1 z.v.vd.sets.length zc1, .slice z2 z.v.vd.soa.length zc2] y.v.vd z.v.vd (mono_vd _ _ _ _ hK hyB.is) (mono_vd _ _ _ _ hK hzB.is))) ?_; rintro _ _ ⟨rfl, rfl⟩; refine ⟨Or.inr hKm, ?_⟩)
            (refine' TA_take 40 rfl rfl (by kernel_rfl) (quiet_q (op_pickT rfl ?_ rfl)) ?_ ?_; (· (exact Bool.not_false)); (· (assumption)))
            refine TA_done (by kernel_rfl) ?_
            repeat ((first | with_reducible refine T_region ?_ | with_reducible refine TL_nil ?_ | with_reducible refine TQ_then ?_ | with_reducible refine TQ_block ?_ | refine TL_q (op_move rfl) rfl ?_ | refine TL_q (op_assign rfl) rfl ?_ | (refine' TL_q (op_bin rfl rfl ?_) rfl ?_; rotate_left 1; (· (exact bin_add ⟨by omega, by omega⟩))) | (refine T_yes rfl ?_ ?_; (· (assumption)))))
            refine TQ_roundS (k + 1) hkl ?_ (fun w h => h) (by omega)
            rw [hNe]
            (repeat ((first | exact trivial | refine ⟨rfl, ?_⟩)))
          · rw [if_neg (fun e => hyz e.symm)] at hws
            have hNe : N (k + 1) = N k := by rw [← hN, ← hN, hws]
            have hd0 : decide (y.v.vd = z.v.vd) = false := decide_eq_false hyz
            repeat ((first | with_reducible refine T_seq ?_ | with_reducible refine T_block ?_ | with_reducible refine T_region ?_ | with_reducible refine TL_nil ?_ | with_reducible refine TQ_then ?_ | with_reducible refine T_skip ?_ | refine TL_q (op_move rfl) rfl ?_ | (refine' TL_q (op_bin rfl rfl ?_) rfl ?_; rotate_left 1; (· (exact bin_lss))) | refine TL_q (op_nilCheck rfl) rfl ?_ | refine TL_q (op_len_slice rfl Try.underlying122) rfl ?_ | refine TL_q (op_fld rfl fld_63_1) rfl ?_ | (refine' TL_q (op_ld rfl pl_4 ?_ ?_) rfl ?_; rotate_left 4; (· repeat ((assumption))); (· (rfl))) | (refine T_yes rfl ?_ ?_; (· (exact dT (by (omega)))))))
            refine T_draw follows_mixed ([(bb, Obj.cells #[.int .i64 want, .slice (some ⟨b1, o1, none⟩) l.length c] 124 (0, 0)), (b1, Obj.cells C1 t1 f1)]) [] ?_
            (refine' TA_take 0 rfl rfl (by kernel_rfl) (quiet_q (op_move rfl)) ?_ ?_; (· (assumption)))
            (refine' TA_take 1 rfl rfl (by kernel_rfl) (quiet_q (op_nilCheck rfl)) ?_ ?_; (· (assumption)))
            (refine' TA_take 2 rfl rfl (by kernel_rfl) (quiet_q (op_fld rfl fld_124_1)) ?_ ?_; (· (assumption)))
            (refine' TA_take 3 rfl rfl (by kernel_rfl) (quiet_q (op_ld rfl pl_122 ?_ ?_)) ?_ ?_; rotate_left 4; (· repeat ((exact List.mem_cons_self))); (· (rfl)); (· (assumption)))
            (refine' TA_take 4 rfl rfl (by kernel_rfl) (quiet_q (op_move rfl)) ?_ ?_; (· (assumption)))
            (refine' TA_take 5 rfl rfl (by kernel_rfl) (quiet_q (op_idx ety_122 rfl rfl ?_)) ?_ ?_; (· omega); (· (assumption)))
            (refine' TA_take 6 rfl rfl (by kernel_rfl) (quiet_q (op_fld rfl fld_141_1)) ?_ ?_; (· (assumption)))
            (refine' TA_take 7 rfl rfl (by kernel_rfl) (quiet_q (op_ld rfl pl_4 ?_ ?_)) ?_ ?_; rotate_left 4; (· repeat ((first | exact List.mem_cons_self | apply List.mem_cons_of_mem))); (· (assumption)); (· (assumption)))
            (refine' TA_take 8 rfl rfl (by kernel_rfl) (quiet_q (op_not rfl)) ?_ ?_; (· (assumption)))
            (refine' TA_take 9 rfl rfl (by kernel_rfl) (quiet_q (op_move rfl)) ?_ ?_; (· (assumption)))
            (refine' TA_take 10 rfl rfl (by kernel_rfl) (quiet_g2 rfl rfl (by (exact Bool.not_false)) (op_move rfl)) ?_ ?_; (· (assumption)))
            (refine' TA_take 11 rfl rfl (by kernel_rfl) (quiet_g2 rfl rfl (by (exact Bool.not_false)) (op_nilCheck rfl)) ?_ ?_; (· (assumption)))
            (refine' TA_take 12 rfl rfl (by kernel_rfl) (quiet_g2 rfl rfl (by (exact Bool.not_false)) (op_fld rfl fld_124_1)) ?_ ?_; (· (assumption)))
            (refine' TA_take 13 rfl rfl (by kernel_rfl) (quiet_g2 rfl rfl (by (exact Bool.not_false)) (op_ld rfl pl_122 ?_ ?_)) ?_ ?_; rotate_left 4; (· repeat ((exact List.mem_cons_self))); (· (rfl)); (· (assumption)))
            (refine' TA_take 14 rfl rfl (by kernel_rfl) (quiet_g2 rfl rfl (by (exact Bool.not_false)) (op_move rfl)) ?_ ?_; (· (assumption)))
            (refine' TA_take 15 rfl rfl (by kernel_rfl) (quiet_g2 rfl rfl (by (exact Bool.not_false)) (op_idx ety_122 rfl rfl ?_)) ?_ ?_; (· omega); (· (assumption)))
            (refine' TA_take 16 rfl rfl (by kernel_rfl) (quiet_g2 rfl rfl (by (exact Bool.not_false)) (op_fld rfl fld_141_1)) ?_ ?_; (· (assumption)))
            (refine' TA_take 17 rfl rfl (by kernel_rfl) (quiet_g2 rfl rfl (by (exact Bool.not_false)) (op_ld rfl pl_4 ?_ ?_)) ?_ ?_; rotate_left 4; (· repeat ((first | exact List.mem_cons_self | apply List.mem_cons_of_mem))); (· (assumption)); (· (assumption)))
            (refine' TA_take 18 rfl rfl (by kernel_rfl) (quiet_g2 rfl rfl (by (exact Bool.not_false)) (op_not rfl)) ?_ ?_; (· (assumption)))
            (refine' TA_take 19 rfl rfl (by kernel_rfl) (quiet_q (op_pickT rfl ?_ rfl)) ?_ ?_; (· (exact Bool.not_false)); (· (assumption)))
            (refine' TA_take 20 rfl rfl (by kernel_rfl) (quiet_q (op_move rfl)) ?_ ?_; (· (assumption)))
            (refine' TA_take 21 rfl rfl (by kernel_rfl) (quiet_g2 rfl rfl (by (exact Bool.not_false)) (op_move rfl)) ?_ ?_; (· (assumption)))
            (refine' TA_take 22 rfl rfl (by kernel_rfl) (quiet_g2 rfl rfl (by (exact Bool.not_false)) (op_nilCheck rfl)) ?_ ?_; (· (assumption)))
            (refine' TA_take 23 rfl rfl (by kernel_rfl) (quiet_g2 rfl rfl (by (exact Bool.not_false)) (op_fld rfl fld_124_1)) ?_ ?_; (· (assumption)))
            (refine' TA_take 24 rfl rfl (by kernel_rfl) (quiet_g2 rfl rfl (by (exact Bool.not_false)) (op_ld rfl pl_122 ?_ ?_)) ?_ ?_; rotate_left 4; (· repeat ((exact List.mem_cons_self))); (· (rfl)); (· (assumption)))
            (refine' TA_take 25 rfl rfl (by kernel_rfl) (quiet_g2 rfl rfl (by (exact Bool.not_false)) (op_move rfl)) ?_ ?_; (· (assumption)))
            (refine' TA_take 26 rfl rfl (by kernel_rfl) (quiet_g2 rfl rfl (by (exact Bool.not_false)) (op_idx ety_122 rfl rfl ?_)) ?_ ?_; (· omega); (· (assumption)))
            (refine' TA_take 27 rfl rfl (by kernel_rfl) (quiet_g2 rfl rfl (by (exact Bool.not_false)) (op_fld rfl fld_141_0)) ?_ ?_; (· (assumption)))
            (refine' TA_take 28 rfl rfl (by kernel_rfl) (quiet_g2 rfl rfl (by (exact Bool.not_false)) (op_fld rfl fld_63_1)) ?_ ?_; (· (assumption)))
            (refine' TA_take 30 rfl rfl (by kernel_rfl) (quiet_g2 rfl rfl (by (exact Bool.not_false)) (op_move rfl)) ?_ ?_; (· (assumption)))
            (refine' TA_take 31 rfl rfl (by kernel_rfl) (quiet_g2 rfl rfl (by (exact Bool.not_false)) (op_nilCheck rfl)) ?_ ?_; (· (assumption)))
            (refine' TA_take 32 rfl rfl (by kernel_rfl) (quiet_g2 rfl rfl (by (exact Bool.not_false)) (op_fld rfl fld_124_1)) ?_ ?_; (· (assumption)))
            (refine' TA_take 33 rfl rfl (by kernel_rfl) (quiet_g2 rfl rfl (by (exact Bool.not_false)) (op_ld rfl pl_122 ?_ ?_)) ?_ ?_; rotate_left 4; (· repeat ((exact List.mem_cons_self))); (· (rfl)); (· (assumption)))
            (refine' TA_take 34 rfl rfl (by kernel_rfl) (quiet_g2 rfl rfl (by (exact Bool.not_false)) (op_move rfl)) ?_ ?_; (· (assumption)))
            (refine' TA_take 35 rfl rfl (by kernel_rfl) (quiet_g2 rfl rfl (by (exact Bool.not_false)) (op_idx ety_122 rfl rfl ?_)) ?_ ?_; (· omega); (· (assumption)))
            (refine' TA_take 36 rfl rfl (by kernel_rfl) (quiet_g2 rfl rfl (by (exact Bool.not_false)) (op_fld rfl fld_141_0)) ?_ ?_; (· (assumption)))
            (refine' TA_take 37 rfl rfl (by kernel_rfl) (quiet_g2 rfl rfl (by (exact Bool.not_false)) (op_fld rfl fld_63_1)) ?_ ?_; (· (assumption)))
            -- SEVERAL: [29, 38]
            (refine TA_take 29 rfl rfl (by kernel_rfl) (quiet_g2 rfl rfl (by (exact Bool.not_false)) (op_ldA [.int .u8 y.v.vd.code, .slice y1 y.v.vd.sets.length yc1, .slice y2 y.v.vd.soa.length yc2] rfl st_42 (List.mem_cons_of_mem _ (List.mem_cons_self ..)) hyB.vd)) ?_ ?_; (· exact hKm))
            (refine TA_take 38 rfl rfl (by kernel_rfl) (quiet_g2 rfl rfl (by (exact Bool.not_false)) (op_ldA [.int .u8 z.v.vd.code, .slice z1 z.v.vd.sets.length zc1, .slice z2 z.v.vd.soa.length zc2] rfl st_42 (List.mem_cons_of_mem _ (List.mem_cons_self ..)) hzB.vd)) ?_ ?_; (· exact hKm))
            (refine TA_oneGd 39 (by kernel_rfl) rfl rfl rfl rfl (by (exact Bool.not_false)) (op_call hb_23 rfl (vSame_S [.int .u8 y.v.vd.code, .slice y1 y.v.vd.sets.length yc1, .slice y2 y.v.vd.soa.length yc2] [.int .u8 z.v.vd.code, .slice z1 z.v.vd.sets.length zc1, .slice z2 z.v.vd.soa.length zc2] y.v.vd z.v.vd (mono_vd _ _ _ _ hK hyB.is) (mono_vd _ _ _ _ hK hzB.is))) ?_; rintro _ _ ⟨rfl, rfl⟩; refine ⟨Or.inr hKm, ?_⟩)
            (refine' TA_take 40 rfl rfl (by kernel_rfl) (quiet_q (op_pickT rfl ?_ rfl)) ?_ ?_; (· (exact Bool.not_false)); (· (assumption)))
            refine TA_done (by kernel_rfl) ?_
            repeat ((first | with_reducible refine T_region ?_ | with_reducible refine TL_nil ?_ | with_reducible refine TQ_then ?_ | with_reducible refine TQ_block ?_ | with_reducible refine T_skip ?_ | refine TL_q (op_move rfl) rfl ?_ | refine TL_q (op_assign rfl) rfl ?_ | (refine' TL_q (op_bin rfl rfl ?_) rfl ?_; rotate_left 1; (· (exact bin_add ⟨by omega, by omega⟩))) | (refine T_no rfl ?_ ?_; (· (assumption)))))
            refine TQ_roundS (k + 1) hkl ?_ (fun w h => h) (by omega)
            rw [hNe]
            (repeat ((first | exact trivial | refine ⟨rfl, ?_⟩)))
    · have hke : k = l.length := by omega
      subst hke
      have hFe : F (i + 1) = max (F i) (N l.length : Nat) := by
        rw [hmf, ← hN, List.take_length, hvs]
        split
        · simp; omega
        · rfl
      repeat ((first | with_reducible refine T_seq ?_ | with_reducible refine T_region ?_ | with_reducible refine TL_nil ?_ | with_reducible refine TQ_then ?_ | with_reducible refine TQ_block ?_ | with_reducible refine T_exit ?_ | with_reducible refine TQ_then_exit ?_ | with_reducible refine TQ_block_exit ?_ | refine TL_q (op_move rfl) rfl ?_ | refine TL_q (op_assign rfl) rfl ?_ | (refine' TL_q (op_bin rfl rfl ?_) rfl ?_; rotate_left 1; (· (first | exact bin_add ⟨by omega, by omega⟩ | exact bin_lss))) | refine TL_q (op_nilCheck rfl) rfl ?_ | refine TL_q (op_len_slice rfl Try.underlying122) rfl ?_ | refine TL_q (op_max rfl rfl) rfl ?_ | refine TL_q (op_fld rfl fld_63_1) rfl ?_ | (refine' TL_q (op_ld rfl pl_4 ?_ ?_) rfl ?_; rotate_left 4; (· repeat ((assumption))); (· (rfl))) | (refine T_no rfl ?_ ?_; (· (exact dF (by (omega)))))))
      refine TQ_roundS (i + 1) hil ?_ (fun w h => h) (by omega)
      rw [hFe]
      (repeat ((first | exact trivial | refine ⟨rfl, ?_⟩)))
  · have hie : i = l.length := by omega
    subst hie
    have hR : F l.length = mostR vs := by rw [← hF, List.take_length, hvs]; rfl
    rw [hR]
    repeat ((first | with_reducible refine T_seq ?_ | with_reducible refine T_region ?_ | with_reducible refine TL_nil ?_ | with_reducible refine TQ_then ?_ | with_reducible refine T_exit ?_ | with_reducible refine T_ret ?_ | with_reducible refine TQ_then_exit ?_ | with_reducible refine TQ_block_exit ?_ | refine TL_q (op_move rfl) rfl ?_ | refine TL_q (op_assign rfl) rfl ?_ | (refine' TL_q (op_bin rfl rfl ?_) rfl ?_; rotate_left 1; (· (exact bin_lss))) | refine TL_q (op_nilCheck rfl) rfl ?_ | refine TL_q (op_len_slice rfl Try.underlying122) rfl ?_ | refine TL_q (op_fld rfl fld_63_1) rfl ?_ | (refine' TL_q (op_ld rfl pl_4 ?_ ?_) rfl ?_; rotate_left 4; (· repeat ((assumption))); (· (rfl))) | (refine T_no rfl ?_ ?_; (· (exact dF (by (omega)))))))
    refine TQ_ret1 2 _ rfl rfl ?_
    exact ⟨rfl, rfl⟩
set_option maxRecDepth 100000 in
set_option maxHeartbeats 2000000 in
theorem rPass_S {K : Blocks} (bb : Nat) (want : Int) (a : Option Addr) (c : Nat) (l : List Ballot) (B : Blocks) (u : Int) (hB : ORow ballotR 141 6 K a c l B) (hu : -9223372036854775808 ≤ u ∧ u ≤ 9223372036854775807) (hn : l.length ≤ 100000) :
    Spec Try.prog G 50 #[.pointer (some ⟨bb, 0, none⟩), .int .i64 u] ((bb, Obj.cells #[.int .i64 want, .slice a l.length c] 124 (0, 0)) :: (B ++ L)) fun w M => w = .int .i64 (Vd.putB l ⟨⟨u, Vdt.none, 0⟩, true⟩).2 ∧ ∃ a' c' B', ORow ballotR 141 6 K a' c' (Vd.putB l ⟨⟨u, Vdt.none, 0⟩, true⟩).1 B' ∧ M = (bb, Obj.cells #[.int .i64 want, .slice a' (Vd.putB l ⟨⟨u, Vdt.none, 0⟩, true⟩).1.length c'] 124 (0, 0)) :: (B' ++ L) := by
  refine Spec_of (n := 10) Try.func50 rfl rfl rfl ?_
  repeat ((first | with_reducible refine T_seq ?_ | with_reducible refine T_region ?_ | with_reducible refine TL_nil ?_ | with_reducible refine TQ_then ?_ | refine TL_q (op_move rfl) rfl ?_ | refine TL_q (op_assign rfl) rfl ?_ | refine TL_q (op_build rfl (bl_63_0 _)) rfl ?_ | refine TL_q (op_build rfl (bl_141_0_1 _ _ _ _ _ _)) rfl ?_))
  refine TL_opT (op_call hb_73 rfl (rPut_S bb want a c l B [.int .i64 u, .int .u8 0, .slice none 0 0, .slice none 0 0, .int .u32 0, .bool true] ⟨⟨u, Vdt.none, 0⟩, true⟩ hB ⟨none, 0, none, 0, rfl, ⟨_, _, rfl, sliceR.nil, sliceR.nil, ⟨Int.le_refl _, by show (0 : Int) ≤ 255; decide⟩, ⟨Int.le_refl _, by show (0 : Int) ≤ 4294967295; decide⟩, hu⟩⟩ hn)) rfl ?_
  rintro _ _ ⟨rfl, a', c', B', hB', rfl⟩
  repeat ((first | with_reducible refine TL_nil ?_ | with_reducible refine TQ_then ?_ | with_reducible refine T_ret ?_ | refine TL_q (op_assign rfl) rfl ?_))
  refine TQ_ret1 4 _ rfl rfl ?_
  exact ⟨rfl, a', c', B', hB', rfl⟩
set_option maxRecDepth 100000 in
set_option maxHeartbeats 2000000 in
theorem rNew_S (want : Int) : Spec Try.prog G 47 #[.int .i64 want] L fun u M => (1 ≤ want ∧ want ≤ 9 ∧ ∃ bb, u = .tuple #[.pointer (some ⟨bb, 0, none⟩), .int .i64 0] ∧ M = (bb, Obj.cells #[.int .i64 want, .slice none ([] : List Ballot).length 0] 124 (0, 0)) :: L) ∨ ((want < 1 ∨ 9 < want) ∧ u = .tuple #[.pointer none, .int .i64 1] ∧ M = L) := by
  refine Spec_of (n := 13) Try.func47 rfl rfl rfl ?_
  by_cases h1 : want < 1
  · repeat ((first | with_reducible refine T_seq ?_ | with_reducible refine T_region ?_ | with_reducible refine TL_nil ?_ | with_reducible refine TQ_then ?_ | with_reducible refine T_ret ?_ | with_reducible refine TQ_then_ret ?_ | refine TL_q (op_move rfl) rfl ?_ | refine TL_q (op_assign rfl) rfl ?_ | (refine' TL_q (op_bin rfl rfl ?_) rfl ?_; rotate_left 1; (· (exact bin_lss))) | (refine' TL_q (op_pickT rfl ?_ rfl) rfl ?_; (· (exact dT (by (assumption))))) | (refine TL_gno rfl rfl ?_ rfl ?_; (· (exact dT (by (assumption))))) | (refine T_yes rfl ?_ ?_; (· (with_reducible rfl)))))
    refine TQ_ret2 2 3 _ _ rfl rfl rfl ?_
    exact Or.inr ⟨Or.inl h1, rfl, rfl⟩
  · by_cases h9 : 9 < want
    · repeat ((first | with_reducible refine T_seq ?_ | with_reducible refine T_region ?_ | with_reducible refine TL_nil ?_ | with_reducible refine TQ_then ?_ | with_reducible refine T_ret ?_ | with_reducible refine TQ_then_ret ?_ | refine TL_q (op_move rfl) rfl ?_ | refine TL_q (op_assign rfl) rfl ?_ | (refine' TL_q (op_bin rfl rfl ?_) rfl ?_; rotate_left 1; (· (exact bin_lss))) | (refine' TL_q (op_pickF rfl ?_ rfl) rfl ?_; (· (exact dF (by (assumption))))) | (refine TL_gpre rfl rfl ?_ ?_; (· (exact dF (by (assumption))))) | refine TL_gq2 (op_move rfl) rfl ?_ | (refine' TL_gq2 (op_bin rfl rfl ?_) rfl ?_; rotate_left 1; (· (exact bin_gtr))) | (refine T_yes rfl ?_ ?_; (· (exact dT (by (assumption)))))))
      refine TQ_ret2 2 3 _ _ rfl rfl rfl ?_
      exact Or.inr ⟨Or.inr h9, rfl, rfl⟩
    · repeat ((first | with_reducible refine T_seq ?_ | with_reducible refine T_region ?_ | with_reducible refine TL_nil ?_ | with_reducible refine TQ_then ?_ | with_reducible refine T_skip ?_ | with_reducible refine T_ret ?_ | refine TL_q (op_move rfl) rfl ?_ | refine TL_q (op_assign rfl) rfl ?_ | (refine' TL_q (op_bin rfl rfl ?_) rfl ?_; rotate_left 1; (· (exact bin_lss))) | (refine' TL_q (op_pickF rfl ?_ rfl) rfl ?_; (· (exact dF (by (assumption))))) | (refine TL_gpre rfl rfl ?_ ?_; (· (exact dF (by (assumption))))) | refine TL_gq2 (op_move rfl) rfl ?_ | (refine' TL_gq2 (op_bin rfl rfl ?_) rfl ?_; rotate_left 1; (· (exact bin_gtr))) | (refine TL_new (op_boxA rfl) rfl ?_; intro bBox) | refine TL_q (op_build rfl (bl_124_0 _)) rfl ?_ | (refine T_no rfl ?_ ?_; (· (exact dF (by (assumption)))))))
      refine TQ_ret2 2 3 _ _ rfl rfl rfl ?_
      exact Or.inl ⟨by omega, by omega, _, rfl, rfl⟩
set_option maxRecDepth 100000 in
set_option maxHeartbeats 2000000 in
theorem pNew_S (want : Int) : Spec Try.prog G 41 #[.int .i64 want] L fun u M => (1 ≤ want ∧ want ≤ 9 ∧ ∃ bb, u = .tuple #[.pointer (some ⟨bb, 0, none⟩), .int .i64 0] ∧ M = (bb, Obj.cells (boxC want (slipOf []) (.slice none (Vd.votesB []).length 0)).toArray 100 (0, 0)) :: L) ∨ ((want < 1 ∨ 9 < want) ∧ u = .tuple #[.pointer none, .int .i64 1] ∧ M = L) := by
  refine Spec_of (n := 13) Try.func41 rfl rfl rfl ?_
  by_cases h1 : want < 1
  · repeat ((first | with_reducible refine T_seq ?_ | with_reducible refine T_region ?_ | with_reducible refine TL_nil ?_ | with_reducible refine TQ_then ?_ | with_reducible refine T_ret ?_ | with_reducible refine TQ_then_ret ?_ | refine TL_q (op_move rfl) rfl ?_ | refine TL_q (op_assign rfl) rfl ?_ | (refine' TL_q (op_bin rfl rfl ?_) rfl ?_; rotate_left 1; (· (exact bin_lss))) | (refine' TL_q (op_pickT rfl ?_ rfl) rfl ?_; (· (exact dT (by (assumption))))) | (refine TL_gno rfl rfl ?_ rfl ?_; (· (exact dT (by (assumption))))) | (refine T_yes rfl ?_ ?_; (· (with_reducible rfl)))))
    refine TQ_ret2 2 3 _ _ rfl rfl rfl ?_
    exact Or.inr ⟨Or.inl h1, rfl, rfl⟩
  · by_cases h9 : 9 < want
    · repeat ((first | with_reducible refine T_seq ?_ | with_reducible refine T_region ?_ | with_reducible refine TL_nil ?_ | with_reducible refine TQ_then ?_ | with_reducible refine T_ret ?_ | with_reducible refine TQ_then_ret ?_ | refine TL_q (op_move rfl) rfl ?_ | refine TL_q (op_assign rfl) rfl ?_ | (refine' TL_q (op_bin rfl rfl ?_) rfl ?_; rotate_left 1; (· (exact bin_lss))) | (refine' TL_q (op_pickF rfl ?_ rfl) rfl ?_; (· (exact dF (by (assumption))))) | (refine TL_gpre rfl rfl ?_ ?_; (· (exact dF (by (assumption))))) | refine TL_gq2 (op_move rfl) rfl ?_ | (refine' TL_gq2 (op_bin rfl rfl ?_) rfl ?_; rotate_left 1; (· (exact bin_gtr))) | (refine T_yes rfl ?_ ?_; (· (exact dT (by (assumption)))))))
      refine TQ_ret2 2 3 _ _ rfl rfl rfl ?_
      exact Or.inr ⟨Or.inr h9, rfl, rfl⟩
    · repeat ((first | with_reducible refine T_seq ?_ | with_reducible refine T_region ?_ | with_reducible refine TL_nil ?_ | with_reducible refine TQ_then ?_ | with_reducible refine T_skip ?_ | with_reducible refine T_ret ?_ | refine TL_q (op_move rfl) rfl ?_ | refine TL_q (op_assign rfl) rfl ?_ | (refine' TL_q (op_bin rfl rfl ?_) rfl ?_; rotate_left 1; (· (exact bin_lss))) | (refine' TL_q (op_pickF rfl ?_ rfl) rfl ?_; (· (exact dF (by (assumption))))) | (refine TL_gpre rfl rfl ?_ ?_; (· (exact dF (by (assumption))))) | refine TL_gq2 (op_move rfl) rfl ?_ | (refine' TL_gq2 (op_bin rfl rfl ?_) rfl ?_; rotate_left 1; (· (exact bin_gtr))) | (refine TL_new (op_boxA rfl) rfl ?_; intro bBox) | refine TL_q (op_build rfl (bl_100_0 _)) rfl ?_ | (refine T_no rfl ?_ ?_; (· (exact dF (by (assumption)))))))
      refine TQ_ret2 2 3 _ _ rfl rfl rfl ?_
      exact Or.inl ⟨by omega, by omega, _, rfl, rfl⟩
end Go.Proofs.Ytdflhdfapnhjjaa
namespace Go.Proofs.Ytdflhdfapnhjjaa
open Go.RowKit
open Vd (RSet Vdt Vote Rec Quest Piece Ballot)
set_option linter.unusedVariables false
set_option linter.unusedSimpArgs false
--auto
variable {G : World} {L : Blocks}
set_option maxRecDepth 100000 in
set_option maxHeartbeats 2000000 in
theorem rCopy_S {K : Blocks} (bb : Nat) (want : Int) (a : Option Addr) (c : Nat) (l : List Ballot) (hm : (bb, Obj.cells #[.int .i64 want, .slice a l.length c] 124 (0, 0)) ∈ L) (hl : sliceR 6 (fun _ => ballotR K) L [.slice a l.length c] l) (hn : l.length ≤ 1000) :
    Spec Try.prog G 51 #[.pointer (some ⟨bb, 0, none⟩)] L fun u M => ∃ b2 a' c' B', u = .pointer (some ⟨b2, 0, none⟩) ∧ ORow ballotR 141 6 K a' c' l B' ∧ M = (b2, Obj.cells #[.int .i64 want, .slice a' l.length c'] 124 (0, 0)) :: (B' ++ L) := by
  have hKm : ∀ q ∈ [(bb, Obj.cells #[.int .i64 want, .slice a l.length c] 124 (0, 0))], q ∈ L := by
    intro q hq
    rw [List.mem_singleton.1 hq]
    exact hm
  refine Spec_of (n := 15) Try.func51 rfl rfl rfl ?_
  repeat ((first | with_reducible refine T_seq ?_ | with_reducible refine T_region ?_ | with_reducible refine TL_nil ?_ | with_reducible refine TQ_then ?_ | refine TL_q (op_assign rfl) rfl ?_))
  refine T_draw follows_mixed ([(bb, Obj.cells #[.int .i64 want, .slice a l.length c] 124 (0, 0))]) [] ?_
  (refine' TA_take 0 rfl rfl (by kernel_rfl) (quiet_q (op_move rfl)) ?_ ?_; (· (assumption)))
  (refine' TA_take 1 rfl rfl (by kernel_rfl) (quiet_q (op_nilCheck rfl)) ?_ ?_; (· (assumption)))
  (refine' TA_take 2 rfl rfl (by kernel_rfl) (quiet_q (op_fld rfl fld_124_0)) ?_ ?_; (· (assumption)))
  (refine' TA_take 3 rfl rfl (by kernel_rfl) (quiet_q (op_ld rfl pl_3 ?_ ?_)) ?_ ?_; rotate_left 4; (· repeat ((exact List.mem_cons_self))); (· (rfl)); (· (assumption)))
  (refine' TA_take 5 rfl rfl (by kernel_rfl) (quiet_q (op_move rfl)) ?_ ?_; (· (assumption)))
  (refine' TA_take 6 rfl rfl (by kernel_rfl) (quiet_q (op_nilCheck rfl)) ?_ ?_; (· (assumption)))
  (refine' TA_take 7 rfl rfl (by kernel_rfl) (quiet_q (op_fld rfl fld_124_1)) ?_ ?_; (· (assumption)))
  (refine' TA_take 8 rfl rfl (by kernel_rfl) (quiet_q (op_ld rfl pl_122 ?_ ?_)) ?_ ?_; rotate_left 4; (· repeat ((exact List.mem_cons_self))); (· (rfl)); (· (assumption)))
  refine TA_oneD 4 (by kernel_rfl) rfl rfl rfl rfl (op_lit0 ety_122) ?_; rintro _ _ ⟨b0, rfl, rfl⟩; refine ⟨Or.inr (fun q hq => List.mem_cons_of_mem _ (hKm q hq)), ?_⟩
  refine TA_cnt (L' := [(b0, Obj.cells #[] 141 (0, 0))] ++ L) ?_ (by intro p; (try simp only [cnt_append, cnt_cons, cnt_nil]) <;> omega); refine TA_oneD 9 (by kernel_rfl) rfl rfl rfl rfl (op_appendG2 (r := fun _ => ballotR K) (L0 := L) (l := []) (m := l) ety_122 rfl rfl rfl rfl ORow.made hl (fun q hq => hq) mono_const (fun cs y h => ballotR.one h) (by simp; omega) (by decide)) ?_; rintro _ _ ⟨a3, c3, B3, rfl, hB3, rfl⟩; refine ⟨Or.inr (fun q hq => List.mem_append_right _ (hKm q hq)), ?_⟩
  (refine' TA_take 10 rfl rfl (by kernel_rfl) (quiet_q (op_build rfl (bl_124_0_1 _ _ _ _))) ?_ ?_; (· (intro p hp; grind)))
  refine TA_oneD 11 (by kernel_rfl) rfl rfl rfl rfl (op_boxA rfl) ?_; rintro _ _ ⟨b2, rfl, rfl⟩; refine ⟨Or.inr (fun q hq => List.mem_cons_of_mem _ (List.mem_append_right _ (hKm q hq))), ?_⟩
  (refine' TA_take 12 rfl rfl (by kernel_rfl) (quiet_q (op_assign rfl)) ?_ ?_; (· (intro p hp; grind)))
  refine TA_done (by kernel_rfl) ?_
  repeat ((first | with_reducible refine TQ_then ?_ | with_reducible refine T_ret ?_))
  rw [List.nil_append] at hB3 ⊢
  refine TQ_ret1 2 _ rfl rfl ?_
  exact ⟨b2, a3, c3, B3, rfl, hB3.imp (fun cs x _ h => h), rfl⟩
theorem built_box {w : Int} {m c : Nat} {ad : Option Addr} {v0 v1 v2 v3 v4 v5 v6 v7 v8 v9 v10 v11 v12 v13 v14 v15 v16 v17 : Value} : Built Try.prog 100 [(0, .int .i64 w), (1, .agg #[v0, v1, v2, v3, v4, v5, v6, v7, v8, v9, v10, v11, v12, v13, v14, v15, v16, v17]), (2, .slice ad m c)] (.agg #[.int .i64 w, v0, v1, v2, v3, v4, v5, v6, v7, v8, v9, v10, v11, v12, v13, v14, v15, v16, v17, .slice ad m c]) := ⟨fun w => by kernel_rfl⟩
set_option maxRecDepth 100000 in
set_option maxHeartbeats 2000000 in
theorem pCopy_S {K : Blocks} (bb : Nat) (want : Int) (l : List Ballot) (M0 : Blocks) (hb : TBox K bb want l M0) (hK : ∀ p ∈ K, p ∈ L) (hn : l.length ≤ 9) (hs : ∀ x ∈ Vd.votesB l, SmV x.vd) :
    Spec Try.prog G 46 #[.pointer (some ⟨bb, 0, none⟩)] (M0 ++ L) fun u M => ∃ b2 M2 N, u = .pointer (some ⟨b2, 0, none⟩) ∧ TBox N b2 want l M2 ∧ Wr N ∧ M = M2 ++ (N ++ (M0 ++ L)) := by
  obtain ⟨a, c, B, hB, rfl⟩ := hb
  have hvl := votesB_len l
  have g0 : (boxC want (slipOf l) (.slice a (Vd.votesB l).length c)).toArray[0 + 0]? = some (.int .i64 want) := rfl
  have g19 : (boxC want (slipOf l) (.slice a (Vd.votesB l).length c)).toArray[0 + 19]? = some (.slice a (Vd.votesB l).length c) := rfl
  have hv : sliceR 5 voteR ((bb, Obj.cells (boxC want (slipOf l) (.slice a (Vd.votesB l).length c)).toArray 100 (0, 0)) :: (B ++ L)) [.slice a (Vd.votesB l).length c] (Vd.votesB l) := (hB.mono mono_vote (fun p hp => List.mem_cons_of_mem _ (List.mem_append_right _ (hK p hp)))).sliceR mono_vote (fun p h => h) (mem_of_cnt (by intro p; (try simp only [cnt_append, cnt_cons, cnt_nil]) <;> omega))
  have hKm : ∀ q ∈ [(bb, Obj.cells (boxC want (slipOf l) (.slice a (Vd.votesB l).length c)).toArray 100 (0, 0))], q ∈ ((bb, Obj.cells (boxC want (slipOf l) (.slice a (Vd.votesB l).length c)).toArray 100 (0, 0)) :: B) ++ L := by
    intro q hq
    rw [List.mem_singleton.1 hq]
    simp
  refine Spec_of (n := 20) Try.func46 rfl rfl rfl ?_
  repeat ((first | with_reducible refine T_seq ?_ | with_reducible refine T_region ?_ | with_reducible refine TL_nil ?_ | with_reducible refine TQ_then ?_ | with_reducible refine T_skip ?_ | refine TL_q (op_move rfl) rfl ?_ | refine TL_q (op_assign rfl) rfl ?_ | (refine' TL_q (op_bin rfl rfl ?_) rfl ?_; rotate_left 1; (· (exact pbin_eql Try.underlying76))) | (refine T_no rfl ?_ ?_; (· (exact Bool.not_true)))))
  refine T_draw follows_mixed ([(bb, Obj.cells (boxC want (slipOf l) (.slice a (Vd.votesB l).length c)).toArray 100 (0, 0))]) [] ?_
  (refine' TA_take 0 rfl rfl (by kernel_rfl) (quiet_q (op_move rfl)) ?_ ?_; (· (assumption)))
  (refine' TA_take 1 rfl rfl (by kernel_rfl) (quiet_q (op_nilCheck rfl)) ?_ ?_; (· (assumption)))
  (refine' TA_take 2 rfl rfl (by kernel_rfl) (quiet_q (op_fld rfl fld_100_0)) ?_ ?_; (· (assumption)))
  (refine' TA_take 3 rfl rfl (by kernel_rfl) (quiet_q (op_ld rfl pl_3 ?_ ?_)) ?_ ?_; rotate_left 4; (· repeat ((exact List.mem_cons_self))); (· (assumption)); (· (assumption)))
  (refine' TA_take 4 rfl rfl (by kernel_rfl) (quiet_q (op_move rfl)) ?_ ?_; (· (assumption)))
  (refine' TA_take 5 rfl rfl (by kernel_rfl) (quiet_q (op_nilCheck rfl)) ?_ ?_; (· (assumption)))
  (refine' TA_take 6 rfl rfl (by kernel_rfl) (quiet_q (op_fld rfl fld_100_1)) ?_ ?_; (· (assumption)))
  (refine' TA_take 7 rfl rfl (by kernel_rfl) (quiet_q (op_ldArr (slipCells (slipOf l)) rfl Try.underlying98 (by kernel_rfl) (List.mem_cons_self ..) slips_in)) ?_ ?_; (· (assumption)))
  (refine' TA_take 8 rfl rfl (by kernel_rfl) (quiet_q (op_move rfl)) ?_ ?_; (· (assumption)))
  (refine' TA_take 9 rfl rfl (by kernel_rfl) (quiet_q (op_nilCheck rfl)) ?_ ?_; (· (assumption)))
  (refine' TA_take 10 rfl rfl (by kernel_rfl) (quiet_q (op_fld rfl fld_100_2)) ?_ ?_; (· (assumption)))
  (refine' TA_take 11 rfl rfl (by kernel_rfl) (quiet_q (op_ld rfl pl_47 ?_ ?_)) ?_ ?_; rotate_left 4; (· repeat ((exact List.mem_cons_self))); (· (assumption)); (· (assumption)))
  refine TA_oneD 12 (by kernel_rfl) rfl rfl rfl rfl (op_call hb_70 rfl (pCopyVotes_S _ (Vd.votesB l) hv (by omega) hs)) ?_; rintro _ _ ⟨a2, c2, B2, N, rfl, hB2, hN, rfl⟩; refine ⟨Or.inr (fun q hq => List.mem_append_right _ (List.mem_append_right _ (hKm q hq))), ?_⟩
  (refine' TA_take 13 rfl rfl (by kernel_rfl) (quiet_q (op_build rfl built_box)) ?_ ?_; (· (intro p hp; grind)))
  refine TA_oneD 14 (by kernel_rfl) rfl rfl rfl rfl (op_boxA rfl) ?_; rintro _ _ ⟨b2, rfl, rfl⟩; refine ⟨Or.inr (fun q hq => List.mem_cons_of_mem _ (List.mem_append_right _ (List.mem_append_right _ (hKm q hq)))), ?_⟩
  (refine' TA_take 15 rfl rfl (by kernel_rfl) (quiet_q (op_assign rfl)) ?_ ?_; (· (intro p hp; grind)))
  refine TA_done (by kernel_rfl) ?_
  repeat ((first | with_reducible refine TQ_then ?_ | with_reducible refine T_ret ?_))
  refine TQ_ret1 2 _ rfl rfl ?_
  exact ⟨b2, _, N, rfl, ⟨a2, c2, B2, hB2, rfl⟩, hN, rfl⟩
end Go.Proofs.Ytdflhdfapnhjjaa
namespace Go.Proofs.Ytdflhdfapnhjjaa
open Go.RowKit
open Vd (RSet Vdt Vote Rec Quest Piece Ballot Said)
set_option linter.unusedVariables false
set_option linter.unusedSimpArgs false
--auto
/-- A vote with its end. -/
def endedR (q : Quest) (K D : Blocks) : List Value → Vote → Prop := fun cs x => ∃ a1 c1 a2 c2 a3 c3, cs = [.int .i64 x.up, .int .u8 x.vd.code, .slice a1 x.vd.sets.length c1, .slice a2 x.vd.soa.length c2, .int .u32 x.time, .string (bs (Vd.endV q x.vd).1.name), .int .u16 (Vd.endV q x.vd).1.kind, .int .u16 (Vd.endV q x.vd).1.cls, .int .u32 (Vd.endV q x.vd).1.ttl, .slice a3 (Vd.endV q x.vd).1.data.length c3, .bool (Vd.endV q x.vd).2] ∧
  voteR K [.int .i64 x.up, .int .u8 x.vd.code, .slice a1 x.vd.sets.length c1, .slice a2 x.vd.soa.length c2, .int .u32 x.time] x ∧ rsR D [.string (bs (Vd.endV q x.vd).1.name), .int .u16 (Vd.endV q x.vd).1.kind, .int .u16 (Vd.endV q x.vd).1.cls, .int .u32 (Vd.endV q x.vd).1.ttl, .slice a3 (Vd.endV q x.vd).1.data.length c3] (Vd.endV q x.vd).1
def endData (q : Quest) (x : Vote) : List Vd.Bytes := if (Vd.endV q x.vd).2 then (Vd.endV q x.vd).1.data else []
def endsAll (q : Quest) (l : List Vote) : List Vd.Bytes := l.flatMap (endData q)
variable {G : World} {L : Blocks}
end Go.Proofs.Ytdflhdfapnhjjaa
namespace Go.Proofs.Ytdflhdfapnhjjaa
open Go.RowKit
open Vd (RSet Vdt Vote Rec Quest Piece Ballot Said)
set_option linter.unusedVariables false
set_option linter.unusedSimpArgs false
--auto
/-- What the program makes of votes. -/
def someEnd (q : Quest) (l : List Vote) : Bool := l.any fun x => (Vd.endV q x.vd).2
def unionP (q : Quest) (l : List Vote) : Vdt × Int × Bool :=
  match l with
  | [] => (Vdt.none, 0, false)
  | w :: r =>
    if !Nm.may q.name then (Vdt.none, 0, false)
    else if !Vd.alikeV (w :: r) w.vd && someEnd q (w :: r) then (⟨0, [⟨Nm.fold q.name, q.kind, q.cls, 0, Lib.compact ((endsAll q (w :: r)).mergeSort fun x y => decide (x ≤ y))⟩], []⟩, Vd.minTime (w :: r) w.time, true)
    else (match (w :: r)[Vd.firstAt (w :: r) (w :: r).length]? with | some x => x.vd | none => Vdt.none, Vd.minTime (w :: r) w.time, true)
/-- A verdict in new memory, a time, whether there is one. -/
def UnOut (L : Blocks) (r : Vdt × Int × Bool) (u : Value) (M : Blocks) : Prop := ∃ a c B a2 c2 B2 N, u = .tuple #[.agg #[.int .u8 r.1.code, .slice a r.1.sets.length c, .slice a2 r.1.soa.length c2], .int .u32 r.2.1, .bool r.2.2] ∧
  ORow rsR 60 5 N a c r.1.sets B ∧ ORow rsR 60 5 N a2 c2 r.1.soa B2 ∧ Wr N ∧ M = B2 ++ (B ++ (N ++ L))
variable {G : World} {L : Blocks}
theorem UnOut.no : UnOut L (Vdt.none, 0, false) (.tuple #[.agg #[.int .u8 0, .slice none 0 0, .slice none 0 0], .int .u32 0, .bool false]) L := ⟨none, 0, [], none, 0, [], [], rfl, ORow.nil _, ORow.nil _, Wr.nil, rfl⟩
theorem endedR.mono {q : Quest} {K D D' : Blocks} {cs : List Value} {x : Vote} (hD : ∀ p ∈ D, p ∈ D') (h : endedR q K D cs x) : endedR q K D' cs x := by
  obtain ⟨a1, c1, a2, c2, a3, c3, h1, h2, h3⟩ := h
  exact ⟨a1, c1, a2, c2, a3, c3, h1, h2, mono_set _ _ _ _ hD h3⟩
theorem endedR.one {q : Quest} {K D : Blocks} {cs : List Value} {x : Vote} (h : endedR q K D cs x) : ∀ v ∈ cs, v.oneCell' = true := by
  obtain ⟨a1, c1, a2, c2, a3, c3, rfl, _⟩ := h
  intro v hv
  simp only [List.mem_cons, List.not_mem_nil, or_false] at hv
  rcases hv with rfl | rfl | rfl | rfl | rfl | rfl | rfl | rfl | rfl | rfl | rfl <;> rfl
end Go.Proofs.Ytdflhdfapnhjjaa
namespace Go.Proofs.Ytdflhdfapnhjjaa
namespace Vd
def Rising (l : List Bytes) : Prop := l.Pairwise fun a b => a < b
end Vd
end Go.Proofs.Ytdflhdfapnhjjaa
namespace Go.Proofs.Ytdflhdfapnhjjaa
open Go.RowKit
open Vd (RSet Vdt Vote Rec Quest Piece Ballot Said)
/-- What all sets of a verdict are. -/
def AllS (p : RSet → Prop) (v : Vdt) : Prop := (∀ s ∈ v.sets, p s) ∧ ∀ s ∈ v.soa, p s
theorem ofM_sets (q : Quest) (m : Vd.Msg) (p : RSet → Prop) (hp : ∀ s, p s → p (Vd.bare s)) (h1 : ∀ s ∈ Vd.group m.answers, p s) (h2 : ∀ s ∈ Vd.group m.auth, p s) : AllS p (Vd.ofM q m).1 := by
  have hnone : AllS p Vdt.none := ⟨by simp [Vdt.none], by simp [Vdt.none]⟩
  obtain ⟨f1, f2, _, _, _⟩ := follow_in q (Vd.group m.answers)
  unfold Vd.ofM
  split
  · exact hnone
  · revert f1 f2
    generalize Vd.follow q (Vd.group m.answers) = t
    obtain ⟨l, pos, last, e⟩ := t
    intro f1 f2
    dsimp only at f1 f2 ⊢
    have hall : ∀ s ∈ (l ++ last).map Vd.bare, p s := fun s hs => by
      obtain ⟨t, ht, rfl⟩ := List.mem_map.1 hs
      rcases List.mem_append.1 ht with ht | ht
      · exact hp t (h1 t (f1 t ht))
      · exact hp t (h1 t (f2 t ht))
    split
    · exact hnone
    split
    · exact hnone
    split
    · exact ⟨hall, by simp⟩
    have hf := findSoa_in (l := Vd.group m.auth) (n := pos) (c := q.cls)
    revert hf
    generalize Vd.findSoa (Vd.group m.auth) pos q.cls = r
    obtain ⟨s, is, e2⟩ := r
    intro hf
    dsimp only at hf ⊢
    split
    · exact hnone
    split
    · exact ⟨hall, by simp⟩
    · rename_i hi
      refine ⟨hall, fun t ht => ?_⟩
      rw [List.mem_singleton.1 ht]
      exact hp s (h2 s (hf (by simpa using hi)))
theorem ofM_len (q : Quest) (m : Vd.Msg) : (Vd.ofM q m).1.sets.length ≤ 10 ∧ (Vd.ofM q m).1.soa.length ≤ 1 := by
  obtain ⟨_, _, f3, f4, _⟩ := follow_in q (Vd.group m.answers)
  unfold Vd.ofM
  split
  · simp [Vdt.none]
  · revert f3 f4
    generalize Vd.follow q (Vd.group m.answers) = t
    obtain ⟨l, pos, last, e⟩ := t
    intro f3 f4
    dsimp only at f3 f4 ⊢
    split
    · simp [Vdt.none]
    split
    · simp [Vdt.none]
    split
    · simp; omega
    split
    · simp [Vdt.none]
    split
    · simp; omega
    · simp; omega
end Go.Proofs.Ytdflhdfapnhjjaa
namespace Go.Proofs.Ytdflhdfapnhjjaa
open Go.RowKit
open Vd (RSet Vdt Vote Rec Quest Piece Ballot Said)
set_option linter.unusedVariables false
set_option linter.unusedSimpArgs false
--auto
variable {G : World} {L : Blocks}
/-- What a statement goes over. -/
def MsgSmall (m : Vd.Msg) : Prop := (m.answers.length ≤ 420 ∧ ∀ x ∈ m.answers, x.name.length ≤ 5000 ∧ x.data.length ≤ 5000) ∧ (m.auth.length ≤ 420 ∧ ∀ x ∈ m.auth, x.name.length ≤ 5000 ∧ x.data.length ≤ 5000)
end Go.Proofs.Ytdflhdfapnhjjaa
namespace Go.Proofs.Ytdflhdfapnhjjaa
open Go.RowKit
open Vd (RSet Vdt Vote Rec Quest Piece Ballot Said)
set_option linter.unusedVariables false
set_option linter.unusedSimpArgs false
/-- Ballots of votes alone, each of another upstream. -/
structure BalOk (p : Vote → Prop) (l : List Ballot) : Prop where
  nd : (l.map fun b => b.v.up).Nodup
  ok : ∀ b ∈ l, b.pass = false ∧ (0 ≤ b.v.up ∧ b.v.up < 9) ∧ p b.v
theorem hasB_iff (l : List Ballot) (u : Int) : Vd.hasB l u = true ↔ u ∈ l.map fun b => b.v.up := by
  unfold Vd.hasB
  rw [List.any_eq_true, List.mem_map]
  simp only [beq_iff_eq]
theorem BalOk.put {p : Vote → Prop} {l : List Ballot} (h : BalOk p l) {x : Vote} (hx : p x) : BalOk p (Vd.putB l ⟨x, false⟩).1 := by
  unfold Vd.putB
  split
  · exact h
  split
  · exact h
  · rename_i h1 h2
    refine ⟨?_, fun b hb => ?_⟩
    · rw [List.map_append]
      refine List.nodup_append.2 ⟨h.nd, by simp, fun a ha b hb => ?_⟩
      rw [List.map_singleton, List.mem_singleton] at hb
      intro e
      refine h2 ((hasB_iff _ _).2 ?_)
      dsimp only at hb ⊢
      rw [← hb, ← e]
      exact ha
    · rcases List.mem_append.1 hb with hb | hb
      · exact h.ok b hb
      · rw [List.mem_singleton.1 hb]
        dsimp only at h1 ⊢
        exact ⟨rfl, by omega, hx⟩
theorem BalOk.cast {p : Vote → Prop} {q : Quest} {l : List Ballot} (h : BalOk p l) {s : Said} (hs : p ⟨s.up, (Vd.ofM q s.m).1, s.time⟩) : BalOk p (Vd.castSaid q l s) := by
  unfold Vd.castSaid
  split
  · exact h.put hs
  · exact h
theorem BalOk.all {p : Vote → Prop} {q : Quest} : ∀ (l : List Said) {b : List Ballot}, BalOk p b → (∀ s ∈ l, p ⟨s.up, (Vd.ofM q s.m).1, s.time⟩) → BalOk p (l.foldl (Vd.castSaid q) b)
  | [], b, h, _ => h
  | s :: l, b, h, hl => BalOk.all l (h.cast (hl s (List.mem_cons_self ..))) fun t ht => hl t (List.mem_cons_of_mem _ ht)
/-- What sets of a reply that a statement goes over are. -/
def SetSm (s : RSet) : Prop := s.name.length ≤ 255 ∧ s.data.length ≤ 420 ∧ s.data ≠ [] ∧ ∀ d ∈ s.data, d.length ≤ 5000
theorem MsgSmall.sets {m : Vd.Msg} (h : MsgSmall m) (q : Quest) : AllS SetSm (Vd.ofM q m).1 := by
  obtain ⟨⟨a1, a2⟩, b1, b2⟩ := h
  have ga := (group_bd (D := 5000) m.answers fun x hx => (a2 x hx).2).2
  have gb := (group_bd (D := 5000) m.auth fun x hx => (b2 x hx).2).2
  refine ofM_sets q m SetSm (fun s hs => hs) (fun s hs => ?_) (fun s hs => ?_)
  · obtain ⟨h1, h2, h3, h4⟩ := ga s hs
    exact ⟨h1, by omega, h3, h4⟩
  · obtain ⟨h1, h2, h3, h4⟩ := gb s hs
    exact ⟨h1, by omega, h3, h4⟩
theorem MsgSmall.fits {m : Vd.Msg} (h : MsgSmall m) : MsgFits m := by
  obtain ⟨⟨a1, a2⟩, b1, b2⟩ := h
  exact ⟨by omega, fun x hx => ⟨by have := (a2 x hx).1; omega, by have := (a2 x hx).2; omega⟩, by omega, fun x hx => ⟨by have := (b2 x hx).1; omega, by have := (b2 x hx).2; omega⟩⟩
/-- A vote of a reply that a statement goes over. -/
def VoteSm (v : Vote) : Prop := AllS SetSm v.vd ∧ v.vd.sets.length ≤ 10 ∧ v.vd.soa.length ≤ 1
theorem VoteSm.smV {v : Vote} (h : VoteSm v) : SmV v.vd := by
  obtain ⟨⟨h1, h2⟩, h3, h4⟩ := h
  exact ⟨⟨by omega, fun s hs => by have := (h1 s hs).2.1; omega⟩, ⟨by omega, fun s hs => by have := (h2 s hs).2.1; omega⟩⟩
/-! ### the row -/
end Go.Proofs.Ytdflhdfapnhjjaa
namespace Go.Proofs.Ytdflhdfapnhjjaa
open Go.RowKit
open Vd (RSet Vdt Vote Rec Quest Piece Ballot)
set_option linter.unusedVariables false
set_option linter.unusedSimpArgs false
--auto
variable {G : World} {L : Blocks}
theorem Spec.drop {P : Program} {f : FuncId} {args : Array Value} {Φ Ψ : Value → Blocks → Prop} (h : Spec P G f args L Φ) (hi : ∀ v M, Φ v M → ∃ M', Ψ v M' ∧ ∀ p, cnt p M' ≤ cnt p M) : Spec P G f args L Ψ :=
  ⟨fun w hw => (h.out w hw).mono fun e w' ⟨v, M, e1, h1, h2⟩ => by
    obtain ⟨M', k1, k2⟩ := hi v M h1
    exact ⟨v, M', e1, k1, h2.cnt k2⟩⟩
theorem BoxOk.len {l : List Ballot} (h : BoxOk l) : l.length ≤ 9 := by
  have h1 : (l.map fun b => b.v.up).length ≤ 9 := nodup_bound 9 _ h.nd fun u hu => by
    obtain ⟨b, hb, rfl⟩ := List.mem_map.1 hu
    have := h.up b hb
    omega
  rw [List.length_map] at h1
  exact h1
/-- Ballots that a box holds: each of another upstream, none too large. -/
structure BoxSm (l : List Ballot) : Prop where
  ok : BoxOk l
  sm : ∀ x ∈ Vd.votesB l, SmV x.vd
theorem BoxSm.nil : BoxSm [] := ⟨BoxOk.nil, by simp [Vd.votesB]⟩
theorem BoxSm.put {l : List Ballot} (h : BoxSm l) {x : Ballot} (hx : SmV x.v.vd) : BoxSm (Vd.putB l x).1 := by
  refine ⟨h.ok.put x, fun y hy => ?_⟩
  by_cases h0 : mayE l x.v.up = 0
  · rw [(putB_yes h0).1, votesB_snoc] at hy
    split at hy
    · exact h.sm y hy
    · rcases List.mem_append.1 hy with hy | hy
      · exact h.sm y hy
      · rw [List.mem_singleton.1 hy]; exact hx
  · rw [putB_no h0] at hy
    exact h.sm y hy
theorem smV_none : SmV Vdt.none := ⟨⟨by decide, by simp [Vdt.none]⟩, ⟨by decide, by simp [Vdt.none]⟩⟩
/-- The program's box: all its memory. -/
def PBox (bb : Nat) (want : Int) (l : List Ballot) (X : Blocks) : Prop := BoxSm l ∧ ∃ M0 N, TBox N bb want l M0 ∧ Wr N ∧ X = M0 ++ N
/-- The document's box: all its memory. -/
def DBox (bb : Nat) (want : Int) (l : List Ballot) (X : Blocks) : Prop := BoxOk l ∧ ∃ M0 N, RBox N bb want l M0 ∧ X = M0 ++ N
theorem pNew_B (want : Int) : Spec Try.prog G 41 #[.int .i64 want] L fun u M => (1 ≤ want ∧ want ≤ 9 ∧ ∃ bb X, u = .tuple #[.pointer (some ⟨bb, 0, none⟩), .int .i64 0] ∧ PBox bb want [] X ∧ M = X ++ L) ∨ ((want < 1 ∨ 9 < want) ∧ u = .tuple #[.pointer none, .int .i64 1] ∧ M = L) := by
  refine (pNew_S want).mono fun u M h => ?_
  rcases h with ⟨h1, h2, bb, h3, h4⟩ | h
  · exact Or.inl ⟨h1, h2, bb, _, h3, ⟨BoxSm.nil, _, [], ⟨none, 0, [], ORow.nil _, rfl⟩, Wr.nil, rfl⟩, h4⟩
  · exact Or.inr h
theorem rNew_B (want : Int) : Spec Try.prog G 47 #[.int .i64 want] L fun u M => (1 ≤ want ∧ want ≤ 9 ∧ ∃ bb X, u = .tuple #[.pointer (some ⟨bb, 0, none⟩), .int .i64 0] ∧ DBox bb want [] X ∧ M = X ++ L) ∨ ((want < 1 ∨ 9 < want) ∧ u = .tuple #[.pointer none, .int .i64 1] ∧ M = L) := by
  refine (rNew_S want).mono fun u M h => ?_
  rcases h with ⟨h1, h2, bb, h3, h4⟩ | h
  · exact Or.inl ⟨h1, h2, bb, _, h3, ⟨BoxOk.nil, _, [], ⟨none, 0, [], ORow.nil _, rfl⟩, rfl⟩, h4⟩
  · exact Or.inr h
theorem pHas_B {bb : Nat} {want : Int} {l : List Ballot} {X : Blocks} (u : Int) (h : PBox bb want l X) (hX : ∀ p ∈ X, p ∈ L) : Spec Try.prog G 45 #[.pointer (some ⟨bb, 0, none⟩), .int .i64 u] L fun w M => w = .bool (Vd.hasB l u) ∧ M = L := by
  obtain ⟨hs, _, N, ⟨a, c, B, hB, rfl⟩, hN, rfl⟩ := h
  exact pHas_S bb want u l _ (hX _ (List.mem_append_left _ (List.mem_cons_self ..))) hs.ok
theorem pMost_B {bb : Nat} {want : Int} {l : List Ballot} {X : Blocks} (h : PBox bb want l X) (hX : ∀ p ∈ X, p ∈ L) : Spec Try.prog G 36 #[.pointer (some ⟨bb, 0, none⟩)] L fun w M => w = .int .i64 (mostR (Vd.votesB l)) ∧ M = L := by
  obtain ⟨hs, _, N, ⟨a, c, B, hB, rfl⟩, hN, rfl⟩ := h
  exact pMost_S bb want l _ (hX _ (List.mem_append_left _ (List.mem_cons_self ..))) hs.ok
theorem pWon_B {bb : Nat} {want : Int} {l : List Ballot} {X : Blocks} (h : PBox bb want l X) (hX : ∀ p ∈ X, p ∈ L) : Spec Try.prog G 35 #[.pointer (some ⟨bb, 0, none⟩)] L (WonOut L (wonP want (Vd.votesB l))) := by
  obtain ⟨hs, _, N, ⟨a, c, B, hB, rfl⟩, hN, rfl⟩ := h
  exact pWon_S (K := N) bb want l a c (hX _ (List.mem_append_left _ (List.mem_cons_self ..))) ((hB.imp (r' := fun _ => voteR N) (L' := []) (fun cs x _ h => h)).sliceR mono_const (by simp) (fun p hp => hX p (by simp [hp]))) (fun p hp => hX p (by simp [hp])) hs.ok hs.ok.len hs.sm
theorem pAgainst_B {bb : Nat} {want : Int} {l : List Ballot} {X : Blocks} (h : PBox bb want l X) (hX : ∀ p ∈ X, p ∈ L) : Spec Try.prog G 40 #[.pointer (some ⟨bb, 0, none⟩)] L fun u M => ∃ a3 c3 B3, u = .slice a3 (if want < 1 then [] else againstR want (Vd.votesB l)).length c3 ∧ ORow (intR .i64) 3 1 [] a3 c3 (if want < 1 then [] else againstR want (Vd.votesB l)) B3 ∧ M = B3 ++ L := by
  obtain ⟨hs, _, N, ⟨a, c, B, hB, rfl⟩, hN, rfl⟩ := h
  exact pAgainst_S (K := N) bb want l a c (hX _ (List.mem_append_left _ (List.mem_cons_self ..))) ((hB.imp (r' := fun _ => voteR N) (L' := []) (fun cs x _ h => h)).sliceR mono_const (by simp) (fun p hp => hX p (by simp [hp]))) hs.ok hs.ok.len
theorem pCast_B {bb : Nat} {want : Int} {l : List Ballot} {X : Blocks} {cs : List Value} {x : Vote} (h : PBox bb want l X) (hx : voteR L cs x) (hsx : SmV x.vd) : Spec Try.prog G 42 #[.pointer (some ⟨bb, 0, none⟩), .agg cs.toArray] (X ++ L) fun w M => w = .int .i64 (Vd.putB l ⟨x, false⟩).2 ∧ ∃ X', PBox bb want (Vd.putB l ⟨x, false⟩).1 X' ∧ M = X' ++ L := by
  obtain ⟨hs, M0, N, hb, hN, rfl⟩ := h
  have h1 := pCast_S (G := G) (L := N ++ L) (K := N) bb want l M0 cs x hb hs.ok (by simp +contextual) (mono_vote _ _ _ _ (by simp +contextual) hx) hsx hs.ok.len
  rw [← List.append_assoc] at h1
  refine h1.mono fun w M ⟨e, M', N', hb', hN', hM⟩ => ⟨e, M' ++ (N' ++ N), ⟨hs.put hsx, M', N' ++ N, hb', hN'.append hN, rfl⟩, ?_⟩
  rw [hM]
  simp only [List.append_assoc]
theorem pPass_B {bb : Nat} {want : Int} {l : List Ballot} {X : Blocks} (u : Int) (h : PBox bb want l X) : Spec Try.prog G 43 #[.pointer (some ⟨bb, 0, none⟩), .int .i64 u] (X ++ L) fun w M => w = .int .i64 (Vd.putB l ⟨⟨u, Vdt.none, 0⟩, true⟩).2 ∧ ∃ X', PBox bb want (Vd.putB l ⟨⟨u, Vdt.none, 0⟩, true⟩).1 X' ∧ M = X' ++ L := by
  obtain ⟨hs, M0, N, hb, hN, rfl⟩ := h
  have h1 := pPass_S (G := G) (L := N ++ L) (K := N) bb want u l M0 hb hs.ok
  rw [← List.append_assoc] at h1
  refine h1.mono fun w M ⟨e, M', hb', hM⟩ => ⟨e, M' ++ N, ⟨hs.put smV_none, M', N, hb', hN, rfl⟩, ?_⟩
  rw [hM]
  simp only [List.append_assoc]
theorem pCopy_B {bb : Nat} {want : Int} {l : List Ballot} {X : Blocks} (h : PBox bb want l X) : Spec Try.prog G 46 #[.pointer (some ⟨bb, 0, none⟩)] (X ++ L) fun u M => ∃ b2 X2, u = .pointer (some ⟨b2, 0, none⟩) ∧ PBox b2 want l X2 ∧ M = X2 ++ (X ++ L) := by
  obtain ⟨hs, M0, N, hb, hN, rfl⟩ := h
  have h1 := pCopy_S (G := G) (L := N ++ L) (K := N) bb want l M0 hb (by simp +contextual) hs.ok.len hs.sm
  rw [← List.append_assoc] at h1
  refine h1.mono fun w M ⟨b2, M2, N2, e, hb2, hN2, hM⟩ => ⟨b2, M2 ++ N2, e, ⟨hs, M2, N2, hb2, hN2, rfl⟩, ?_⟩
  rw [hM]
  simp only [List.append_assoc]
/-! ### the document's -/
theorem DBox.row {bb : Nat} {want : Int} {l : List Ballot} {X : Blocks} (h : DBox bb want l X) : ∃ a c B N, ORow ballotR 141 6 N a c l B ∧ X = (bb, Obj.cells #[.int .i64 want, .slice a l.length c] 124 (0, 0)) :: (B ++ N) := by
  obtain ⟨_, _, N, ⟨a, c, B, hB, rfl⟩, rfl⟩ := h
  exact ⟨a, c, B, N, hB, rfl⟩
theorem dHas_B {bb : Nat} {want : Int} {l : List Ballot} {X : Blocks} (u : Int) (h : DBox bb want l X) : Spec Try.prog G 78 #[.pointer (some ⟨bb, 0, none⟩), .int .i64 u] (X ++ L) fun w M => w = .bool (Vd.hasB l u) ∧ M = X ++ L := by
  obtain ⟨a, c, B, N, hB, rfl⟩ := h.row
  have := rHas_S (G := G) (L := N ++ L) bb want a c l B u hB
  simpa only [List.cons_append, List.append_assoc] using this
theorem dMost_B {bb : Nat} {want : Int} {l : List Ballot} {X : Blocks} (h : DBox bb want l X) (hX : ∀ p ∈ X, p ∈ L) : Spec Try.prog G 75 #[.pointer (some ⟨bb, 0, none⟩)] L fun w M => w = .int .i64 (mostR (Vd.votesB l)) ∧ M = L := by
  have hn := h.1.len
  obtain ⟨a, c, B, N, hB, rfl⟩ := h.row
  exact rMost_S (K := N) bb want a c l (hX _ (List.mem_cons_self ..)) ((hB.imp (r' := fun _ => ballotR N) (L' := []) (fun cs x _ h => h)).sliceR mono_const (by simp) (fun p hp => hX p (by simp [hp]))) (fun p hp => hX p (by simp [hp])) (by omega)
theorem dWon_B {bb : Nat} {want : Int} {l : List Ballot} {X : Blocks} (h : DBox bb want l X) (hX : ∀ p ∈ X, p ∈ L) : Spec Try.prog G 74 #[.pointer (some ⟨bb, 0, none⟩)] L (RWonOut L L (wonR want (Vd.votesB l))) := by
  have hn := h.1.len
  obtain ⟨a, c, B, N, hB, rfl⟩ := h.row
  have hN : ∀ p ∈ N, p ∈ L := fun p hp => hX p (by simp [hp])
  refine (rWon_S (K := N) bb want a c l (hX _ (List.mem_cons_self ..)) ((hB.imp (r' := fun _ => ballotR N) (L' := []) (fun cs x _ h => h)).sliceR mono_const (by simp) (fun p hp => hX p (by simp [hp]))) hN (by omega)).mono fun u M ⟨cs, a3, c3, B3, e, h1, h2, h3⟩ => ⟨cs, a3, c3, B3, e, mono_vd _ _ _ _ hN h1, h2, h3⟩
theorem dAgainst_B {bb : Nat} {want : Int} {l : List Ballot} {X : Blocks} (h : DBox bb want l X) (hX : ∀ p ∈ X, p ∈ L) : Spec Try.prog G 76 #[.pointer (some ⟨bb, 0, none⟩)] L fun u M => ∃ a3 c3 B3, u = .slice a3 (againstR want (Vd.votesB l)).length c3 ∧ ORow (intR .i64) 3 1 [] a3 c3 (againstR want (Vd.votesB l)) B3 ∧ M = B3 ++ L := by
  have hn := h.1.len
  obtain ⟨a, c, B, N, hB, rfl⟩ := h.row
  exact rAgainst_S (K := N) bb want a c l (hX _ (List.mem_cons_self ..)) ((hB.imp (r' := fun _ => ballotR N) (L' := []) (fun cs x _ h => h)).sliceR mono_const (by simp) (fun p hp => hX p (by simp [hp]))) (fun p hp => hX p (by simp [hp])) (by omega)
theorem dVotes_B {bb : Nat} {want : Int} {l : List Ballot} {X : Blocks} (h : DBox bb want l X) : Spec Try.prog G 57 #[.pointer (some ⟨bb, 0, none⟩)] (X ++ L) fun w M => ∃ av cv Bv, w = .slice av (Vd.votesB l).length cv ∧ ORow voteR 63 5 (X ++ L) av cv (Vd.votesB l) Bv ∧ M = Bv ++ (X ++ L) := by
  have hn := h.1.len
  obtain ⟨a, c, B, N, hB, rfl⟩ := h.row
  have h1 := rVotes_S (G := G) (L := N ++ L) bb want a c l B hB (by omega)
  have e : ((bb, Obj.cells #[.int .i64 want, .slice a l.length c] 124 (0, 0)) :: (B ++ N)) ++ L = (bb, Obj.cells #[.int .i64 want, .slice a l.length c] 124 (0, 0)) :: (B ++ (N ++ L)) := by simp only [List.cons_append, List.append_assoc]
  rw [e]
  exact h1.mono fun w M ⟨av, cv, Bv, e1, e2, e3⟩ => ⟨av, cv, Bv, e1, e2.mono mono_vote (mem_of_cnt (by intro p; (try simp only [cnt_append, cnt_cons, cnt_nil]) <;> omega)), e3⟩
theorem dCast_B {bb : Nat} {want : Int} {l : List Ballot} {X D : Blocks} {cs : List Value} {x : Vote} (h : DBox bb want l X) (hx : voteR D cs x) : Spec Try.prog G 48 #[.pointer (some ⟨bb, 0, none⟩), .agg cs.toArray] (X ++ (D ++ L)) fun w M => w = .int .i64 (Vd.putB l ⟨x, false⟩).2 ∧ ∃ X', DBox bb want (Vd.putB l ⟨x, false⟩).1 X' ∧ M = X' ++ L := by
  have hok := h.1
  have hn := h.1.len
  obtain ⟨a, c, B, N, hB, rfl⟩ := h.row
  have h1 := rCast_S (G := G) (L := N ++ (D ++ L)) (K := N ++ D) bb want a c l B cs x (hB.mono mono_ballot (by simp +contextual)) (mono_vote _ _ _ _ (by simp +contextual) hx) (by omega)
  have e : ((bb, Obj.cells #[.int .i64 want, .slice a l.length c] 124 (0, 0)) :: (B ++ N)) ++ (D ++ L) = (bb, Obj.cells #[.int .i64 want, .slice a l.length c] 124 (0, 0)) :: (B ++ (N ++ (D ++ L))) := by simp only [List.cons_append, List.append_assoc]
  rw [e]
  refine h1.mono fun w M ⟨e1, a', c', B', hB', e3⟩ => ⟨e1, _, ⟨hok.put _, _, N ++ D, ⟨a', c', B', hB', rfl⟩, rfl⟩, ?_⟩
  rw [e3]
  simp only [List.cons_append, List.append_assoc]
theorem dPass_B {bb : Nat} {want : Int} {l : List Ballot} {X : Blocks} (u : Int) (hu : -9223372036854775808 ≤ u ∧ u ≤ 9223372036854775807) (h : DBox bb want l X) : Spec Try.prog G 50 #[.pointer (some ⟨bb, 0, none⟩), .int .i64 u] (X ++ L) fun w M => w = .int .i64 (Vd.putB l ⟨⟨u, Vdt.none, 0⟩, true⟩).2 ∧ ∃ X', DBox bb want (Vd.putB l ⟨⟨u, Vdt.none, 0⟩, true⟩).1 X' ∧ M = X' ++ L := by
  have hok := h.1
  have hn := h.1.len
  obtain ⟨a, c, B, N, hB, rfl⟩ := h.row
  have h1 := rPass_S (G := G) (L := N ++ L) (K := N) bb want a c l B u hB hu (by omega)
  have e : ((bb, Obj.cells #[.int .i64 want, .slice a l.length c] 124 (0, 0)) :: (B ++ N)) ++ L = (bb, Obj.cells #[.int .i64 want, .slice a l.length c] 124 (0, 0)) :: (B ++ (N ++ L)) := by simp only [List.cons_append, List.append_assoc]
  rw [e]
  refine h1.mono fun w M ⟨e1, a', c', B', hB', e3⟩ => ⟨e1, _, ⟨hok.put _, _, N, ⟨a', c', B', hB', rfl⟩, rfl⟩, ?_⟩
  rw [e3]
  simp only [List.cons_append, List.append_assoc]
theorem dCopy_B {bb : Nat} {want : Int} {l : List Ballot} {X : Blocks} (h : DBox bb want l X) : Spec Try.prog G 51 #[.pointer (some ⟨bb, 0, none⟩)] (X ++ L) fun u M => ∃ b2 X2, u = .pointer (some ⟨b2, 0, none⟩) ∧ DBox b2 want l X2 ∧ M = X2 ++ L := by
  have hok := h.1
  have hn := h.1.len
  obtain ⟨a, c, B, N, hB, rfl⟩ := h.row
  refine (rCopy_S (G := G) (L := ((bb, Obj.cells #[.int .i64 want, .slice a l.length c] 124 (0, 0)) :: (B ++ N)) ++ L) (K := N) bb want a c l (List.mem_append_left _ (List.mem_cons_self ..)) ((hB.imp (r' := fun _ => ballotR N) (L' := []) (fun cs x _ h => h)).sliceR mono_const (by simp) (by simp +contextual)) (by omega)).drop fun u M ⟨b2, a', c', B', e, hB', hM⟩ => ?_
  subst hM
  exact ⟨((b2, Obj.cells #[.int .i64 want, .slice a' l.length c'] 124 (0, 0)) :: (B' ++ N)) ++ L, ⟨b2, _, e, ⟨hok, _, N, ⟨a', c', B', hB', rfl⟩, rfl⟩, rfl⟩, (by intro p; (try simp only [cnt_append, cnt_cons, cnt_nil]) <;> omega)⟩
end Go.Proofs.Ytdflhdfapnhjjaa
namespace Go.Proofs.Ytdflhdfapnhjjaa
open Go.RowKit
open Vd (RSet Vdt Vote Rec Quest Piece Ballot)
set_option linter.unusedVariables false
set_option linter.unusedSimpArgs false
--auto
/-- Something that is done to a box. -/
structure TAct where
  kind : Int
  up : Int
  time : Int
  q : Quest
  m : Vd.Msg
def TAct.head (x : TAct) (vc va vb : Value) : List Value := [.int .u8 x.kind, .int .i64 x.up, vc, va, vb, .int .u32 x.time, .string (bs x.q.name), .int .u16 x.q.kind, .int .u16 x.q.cls]
def actR : Rp TAct := fun L cs x => ∃ vc va vb cm, cs = x.head vc va vb ++ cm ∧ questR L [.string (bs x.q.name), .int .u16 x.q.kind, .int .u16 x.q.cls] x.q ∧ msgR L cm x.m ∧ (vc.oneCell' = true ∧ va.oneCell' = true ∧ vb.oneCell' = true) ∧ (0 ≤ x.kind ∧ x.kind ≤ 255) ∧ (0 ≤ x.time ∧ x.time ≤ 4294967295) ∧ (-9223372036854775808 ≤ x.up ∧ x.up ≤ 9223372036854775807)
theorem mono_act : Mono actR := by
  rintro L L' cs x hL ⟨vc, va, vb, cm, e, h1, h2, h3⟩
  exact ⟨vc, va, vb, cm, e, h1, mono_msg _ _ _ _ hL h2, h3⟩
theorem actR.len {L : Blocks} {cs : List Value} {x : TAct} (h : actR L cs x) : cs.length = 30 := by
  obtain ⟨vc, va, vb, cm, rfl, h1, h2, h3⟩ := h
  rw [List.length_append, h2.len]
  rfl
theorem actR.one {L : Blocks} {cs : List Value} {x : TAct} (h : actR L cs x) : ∀ v ∈ cs, v.oneCell' = true := by
  obtain ⟨vc, va, vb, cm, rfl, h1, ⟨_, _, _, _, _, _, _, _, _, _, _, _, _, _, _, _, _, _, _, _, _, _, _, _, hone⟩, ⟨q1, q2, q3⟩, _⟩ := h
  intro v hv
  rcases List.mem_append.1 hv with hv | hv
  · simp only [TAct.head, List.mem_cons, List.not_mem_nil, or_false] at hv
    rcases hv with rfl | rfl | rfl | rfl | rfl | rfl | rfl | rfl | rfl <;> (first | rfl | assumption)
  · exact hone v hv
/-- What a statement goes over. -/
def TAct.Small (x : TAct) : Prop := x.q.name.length ≤ 5000 ∧ MsgSmall x.m
def TAct.vote (x : TAct) : Vote := ⟨x.up, (Vd.ofM x.q x.m).1, x.time⟩
def TAct.ok (x : TAct) : Bool := (Vd.ofM x.q x.m).2.2 == 0
theorem TAct.Small.sm {x : TAct} (h : x.Small) : SmV x.vote.vd := VoteSm.smV (v := x.vote) ⟨h.2.sets x.q, ofM_len x.q x.m⟩
variable {G : World} {L : Blocks}
/-- A vote of one's own. -/
def OwnVote (L : Blocks) (x : Vote) (cs : List Value) (M : Blocks) : Prop := ∃ a c B a2 c2 B2 N, cs = [.int .i64 x.up, .int .u8 x.vd.code, .slice a x.vd.sets.length c, .slice a2 x.vd.soa.length c2, .int .u32 x.time] ∧
  ORow rsR 60 5 N a c x.vd.sets B ∧ ORow rsR 60 5 N a2 c2 x.vd.soa B2 ∧ Wr N ∧ M = B ++ (B2 ++ (N ++ L))
set_option maxRecDepth 100000 in
set_option maxHeartbeats 2000000 in
theorem vote21_S (cs : List Value) (x : TAct) (hx : actR L cs x) (hs : x.Small) : Spec Try.prog G 33 #[.agg cs.toArray] L fun u M => ∃ cv, u = .tuple #[.agg cv.toArray, .bool x.ok] ∧ OwnVote L x.vote cv M := by
  obtain ⟨vc, va, vb, cm, rfl, hq, hmm, _, hk, ht, hu⟩ := hx
  have hml := hmm.len
  have hfit := hs.2.fits
  refine Spec_of (n := 23) Try.func33 rfl rfl rfl ?_
  refine T_seq (T_region (TL_new (op_boxA rfl) rfl ?_))
  intro b1
  repeat ((first | with_reducible refine T_seq ?_ | with_reducible refine T_region ?_ | with_reducible refine TL_nil ?_ | with_reducible refine TQ_then ?_ | refine TL_q (op_assign rfl) rfl ?_ | refine TL_q (op_fld rfl fld_73_2) rfl ?_ | (refine TL_new (op_alloc (C := #[(.int .i64 0), (.int .u8 0), (.slice none 0 0), (.slice none 0 0), (.int .u32 0)]) zero_63 rfl) rfl ?_; intro bNew)))
  obtain ⟨b2, hb2⟩ : ∃ b, bNew = b := ⟨_, rfl⟩
  rw [hb2]
  clear hb2 bNew
  have hcm : ∀ j v, cm[j]? = some v → (x.head vc va vb ++ cm).toArray[0 + 9 + j]? = some v := fun j v hj => by
    rw [List.getElem?_toArray, List.getElem?_append_right (by show 9 ≤ _; omega)]
    show cm[0 + 9 + j - 9]? = some v
    rw [show 0 + 9 + j - 9 = j by omega]
    exact hj
  refine TL_q (op_ldA [.string (bs x.q.name), .int .u16 x.q.kind, .int .u16 x.q.cls] rfl st_34 (List.mem_cons_of_mem _ (List.mem_cons_self ..)) (fun j v hj => ?_)) rfl ?_
  · match j, hj with
    | 0, hj => exact hj
    | 1, hj => exact hj
    | 2, hj => exact hj
  repeat ((refine TL_q (op_fld rfl fld_73_3) rfl ?_))
  refine TL_q (op_ldA cm rfl (by rw [hml]; exact st_32) (List.mem_cons_of_mem _ (List.mem_cons_self ..)) hcm) rfl ?_
  refine TL_opT (op_call hb_56 rfl (Of_S _ _ x.q x.m hq (mono_msg _ _ _ _ (mem_of_cnt (by intro p; (try simp only [cnt_append, cnt_cons, cnt_nil]) <;> omega)) hmm) (by have := hs.1; omega) hfit.1 hfit.2.1 hfit.2.2.1 hfit.2.2.2)) rfl ?_
  rintro _ _ ⟨a, c, B, a2, c2, B2, N, rfl, hB, hB2, hN, rfl⟩
  repeat ((first | with_reducible refine T_seq ?_ | with_reducible refine T_region ?_ | with_reducible refine TL_nil ?_ | with_reducible refine TQ_then ?_ | refine TL_q (op_move rfl) rfl ?_ | refine TL_q (op_assign rfl) rfl ?_ | refine TL_q (op_extract rfl rfl) rfl ?_ | refine TL_q (op_fld rfl fld_63_1) rfl ?_ | (refine' TL_q (op_ldAll rfl st_34 ?_ ?_) rfl ?_; rotate_left 3; (· repeat ((exact List.mem_cons_self))); (· (rfl))) | (refine TL_stAll rfl rfl st_42 rfl rfl rfl ?_) | (refine TL_new (op_alloc (C := #[(.int .u8 0), (.slice none 0 0), (.slice none 0 0)]) zero_42 rfl) rfl ?_; intro bNew)))
  obtain ⟨b4, hb4⟩ : ∃ b, bNew = b := ⟨_, rfl⟩
  rw [hb4]
  clear hb4 bNew
  obtain ⟨r, hr⟩ : ∃ r, Vd.ofM x.q x.m = r := ⟨_, rfl⟩
  have hok : x.ok = (r.2.2 == 0) := by unfold TAct.ok; rw [hr]
  have hvt : x.vote = ⟨x.up, r.1, x.time⟩ := by unfold TAct.vote; rw [hr]
  rw [hok, hvt]
  rw [hr] at hB hB2 ⊢
  have hstore : ∀ Y : Blocks, (b1, Obj.cells (putAt (x.head vc va vb ++ cm).toArray (0 + 1 + 1) [.int .u8 r.1.code, .slice a r.1.sets.length c, .slice a2 r.1.soa.length c2]) 73 (0, 0)) :: Y = (b1, Obj.cells (x.head (.int .u8 r.1.code) (.slice a r.1.sets.length c) (.slice a2 r.1.soa.length c2) ++ cm).toArray 73 (0, 0)) :: Y := fun Y => rfl
  refine TL_cnt (L' := (b1, Obj.cells (x.head vc va vb ++ cm).toArray 73 (0, 0)) :: ((b2, Obj.cells #[.int .i64 0, .int .u8 0, .slice none 0 0, .slice none 0 0, .int .u32 0] 63 (0, 0)) :: (B ++ (B2 ++ (N ++ L))))) ?_ (by intro p; (try simp only [cnt_append, cnt_cons, cnt_nil]) <;> omega)
  refine TL_opN (op_stA (cs := [.int .u8 r.1.code, .slice a r.1.sets.length c, .slice a2 r.1.soa.length c2]) rfl rfl st_42 (by intro v hv; simp only [List.mem_cons, List.not_mem_nil, or_false] at hv; rcases hv with rfl | rfl | rfl <;> rfl) (by simp [TAct.head, hml])) ?_
  rw [hstore]
  repeat ((first | with_reducible refine T_seq ?_ | with_reducible refine T_region ?_ | with_reducible refine TL_nil ?_ | with_reducible refine TQ_then ?_ | refine TL_q (op_fld rfl fld_63_1) rfl ?_))
  refine TL_q (op_ldA [.int .i64 x.up, .int .u8 r.1.code, .slice a r.1.sets.length c, .slice a2 r.1.soa.length c2, .int .u32 x.time] rfl st_63 (List.mem_cons_self ..) (fun j v hj => ?_)) rfl ?_
  · match j, hj with
    | 0, hj => exact hj
    | 1, hj => exact hj
    | 2, hj => exact hj
    | 3, hj => exact hj
    | 4, hj => exact hj
  refine TL_cnt (L' := (b2, Obj.cells #[.int .i64 0, .int .u8 0, .slice none 0 0, .slice none 0 0, .int .u32 0] 63 (0, 0)) :: (B ++ (B2 ++ (N ++ L)))) ?_ (by intro p; (try simp only [cnt_append, cnt_cons, cnt_nil]) <;> omega)
  repeat ((first | with_reducible refine TL_nil ?_ | with_reducible refine TQ_then ?_ | with_reducible refine T_ret ?_ | refine TL_q (op_move rfl) rfl ?_ | refine TL_q (op_assign rfl) rfl ?_ | (refine' TL_q (op_bin rfl rfl ?_) rfl ?_; rotate_left 1; (· (exact bin_eql))) | (refine TL_stAll rfl rfl st_63 rfl rfl rfl ?_)))
  refine TQ_retC2 2 63 3 rfl rfl rfl st_63 (by repeat ((exact List.mem_cons_self))) rfl (fun w h => Heap.cnt (L' := B ++ (B2 ++ (N ++ L))) h (by intro p; (try simp only [cnt_append, cnt_cons, cnt_nil]) <;> omega)) ?_
  exact ⟨[.int .i64 x.up, .int .u8 r.1.code, .slice a r.1.sets.length c, .slice a2 r.1.soa.length c2, .int .u32 x.time], rfl, a, c, B, a2, c2, B2, N, rfl, hB, hB2, hN, rfl⟩
end Go.Proofs.Ytdflhdfapnhjjaa
namespace Go.Proofs.Ytdflhdfapnhjjaa
open Go.RowKit
open Vd (RSet Vdt Vote Rec Quest Piece Ballot)
set_option linter.unusedVariables false
set_option linter.unusedSimpArgs false
--auto
variable {G : World} {L : Blocks}
theorem OwnVote.is {x : Vote} {cs : List Value} {M : Blocks} (h : OwnVote L x cs M) (hc : 0 ≤ x.vd.code ∧ x.vd.code ≤ 255) (ht : 0 ≤ x.time ∧ x.time ≤ 4294967295) (hu : -9223372036854775808 ≤ x.up ∧ x.up ≤ 9223372036854775807) : ∃ D, voteR D cs x ∧ M = D ++ L := by
  obtain ⟨a, c, B, a2, c2, B2, N, rfl, hB, hB2, hN, rfl⟩ := h
  exact ⟨B ++ (B2 ++ N), ⟨_, _, rfl, hB.sliceR mono_set (mem_of_cnt (by intro p; (try simp only [cnt_append, cnt_cons, cnt_nil]) <;> omega)) (mem_of_cnt (by intro p; (try simp only [cnt_append, cnt_cons, cnt_nil]) <;> omega)), hB2.sliceR mono_set (mem_of_cnt (by intro p; (try simp only [cnt_append, cnt_cons, cnt_nil]) <;> omega)) (mem_of_cnt (by intro p; (try simp only [cnt_append, cnt_cons, cnt_nil]) <;> omega)), hc, ht, hu⟩, by simp only [List.append_assoc]⟩
theorem actR.vote_bd {K : Blocks} {cs : List Value} {x : TAct} (h : actR K cs x) : (0 ≤ x.vote.vd.code ∧ x.vote.vd.code ≤ 255) ∧ (0 ≤ x.vote.time ∧ x.vote.time ≤ 4294967295) ∧ (-9223372036854775808 ≤ x.vote.up ∧ x.vote.up ≤ 9223372036854775807) := by
  obtain ⟨vc, va, vb, cm, rfl, hq, hmm, _, hk, ht, hu⟩ := h
  obtain ⟨h0, h1, h2, h3, h4, h5, h6, h7, h8, h9, _, _, _, _, _, _, _, _, _, _, _, _, _, hc, _⟩ := hmm
  exact ⟨ofM_code x.q x.m hc, ht, hu⟩
/-- What an act makes of ballots. -/
def doesB (l : List Ballot) (x : TAct) : List Ballot :=
  if x.kind = 0 ∧ x.ok = true then (Vd.putB l ⟨x.vote, false⟩).1 else if x.kind = 1 then (Vd.putB l ⟨⟨x.up, Vdt.none, 0⟩, true⟩).1 else l
/-- How many are wanted. -/
def wantOf (w : Int) : Int := 1 + IntKind.u64.wrap w % 9
set_option maxRecDepth 100000 in
set_option maxHeartbeats 2000000 in
theorem told21_S {K : Blocks} (v : Value) (l : List Vote) (hl : sliceR 5 (fun _ => voteR K) L [v] l) (hn : l.length ≤ 100000) :
    Spec Try.prog G 77 #[v] L fun w M => ∃ av cv Bv, w = .slice av l.length cv ∧ ORow voteR 63 5 K av cv l Bv ∧ M = Bv ++ L := by
  obtain ⟨a, c, e1, hl⟩ := hl.val
  simp only [List.cons.injEq, and_true] at e1
  subst e1
  obtain ⟨_, k1, k2, hl⟩ := sliceR.cut hl
  unfold maxLen at k2
  refine Spec_of (n := 19) Try.func77 rfl rfl rfl ?_
  repeat ((first | with_reducible refine T_seq ?_ | with_reducible refine T_block ?_ | with_reducible refine T_region ?_ | with_reducible refine TL_nil ?_ | with_reducible refine TQ_then ?_ | refine TL_q (op_assign rfl) rfl ?_))
  refine T_loopS (σ := Nat × Option Addr × Nat × Blocks) (fun x => x.1 ≤ l.length ∧ ORow voteR 63 5 K x.2.1 x.2.2.1 (l.take x.1) x.2.2.2) (fun x => [(0, .slice a l.length c), (3, .slice x.2.1 (l.take x.1).length x.2.2.1), (4, .int .i64 (x.1 : Nat))]) (fun x => x.2.2.2 ++ L) (fun x => l.length - x.1) (0, none, 0, []) ⟨Nat.zero_le _, ORow.nil _⟩ ?_ (fun w h => h) ?_
  (repeat ((first | exact trivial | refine ⟨rfl, ?_⟩)))
  rintro ⟨k, av, cv, Bv⟩ ⟨hk, hV⟩
  dsimp only at hk hV ⊢
  by_cases hlt : k < l.length
  · obtain ⟨y, hy⟩ : ∃ y, l[k]? = some y := ⟨_, List.getElem?_eq_getElem hlt⟩
    have htk : l.take (k + 1) = l.take k ++ [y] := by rw [List.take_add_one, hy]; rfl
    have htl : (l.take k).length ≤ 100000 := by rw [List.length_take]; omega
    rcases hl with rfl | ⟨b1, o1, C1, t1, f1, rfl, m1, q1⟩
    · simp at hlt
    obtain ⟨cs, _, hyv, hcs⟩ := q1 k y hy
    obtain ⟨a1, c1, a2, c2, rfl, _⟩ := hyv.vals
    have m1' : (b1, Obj.cells C1 t1 f1) ∈ Bv ++ L := List.mem_append_right _ m1
    repeat ((first | with_reducible refine T_seq ?_ | with_reducible refine T_block ?_ | with_reducible refine T_region ?_ | with_reducible refine TL_nil ?_ | with_reducible refine TQ_then ?_ | with_reducible refine T_skip ?_ | refine TL_q (op_move rfl) rfl ?_ | (refine' TL_q (op_bin rfl rfl ?_) rfl ?_; rotate_left 1; (· (exact bin_lss))) | refine TL_q (op_len_slice rfl Try.underlying47) rfl ?_ | (refine' TL_q (op_idx ety_47 rfl rfl ?_) rfl ?_; (· omega)) | (refine T_yes rfl ?_ ?_; (· (exact dT (by (omega)))))))
    refine TL_q (op_ldA [.int .i64 y.up, .int .u8 y.vd.code, .slice a1 y.vd.sets.length c1, .slice a2 y.vd.soa.length c2, .int .u32 y.time] rfl st_46 m1' hcs) rfl ?_
    repeat ((refine TL_new (op_litN ety_50 rfl rfl (by decide)) rfl ?_; intro bLit))
    refine TL_opT (op_pushK (L0 := []) (r := voteR K) (cs := [.int .i64 y.up, .int .u8 y.vd.code, .slice a1 y.vd.sets.length c1, .slice a2 y.vd.soa.length c2, .int .u32 y.time]) (y := y) ety_50 rfl rfl (hV.imp (L' := []) (fun cs x _ h => h)) rfl (fun v hv => voteR.one hyv v hv) hyv (by omega) (by decide)) rfl ?_
    rintro _ _ ⟨a', c', B', rfl, hB', rfl⟩
    repeat ((first | with_reducible refine T_region ?_ | with_reducible refine TL_nil ?_ | with_reducible refine TQ_then ?_ | with_reducible refine TQ_block ?_ | refine TL_q (op_move rfl) rfl ?_ | refine TL_q (op_assign rfl) rfl ?_ | (refine' TL_q (op_bin rfl rfl ?_) rfl ?_; rotate_left 1; (· (exact bin_add ⟨by omega, by omega⟩)))))
    refine TQ_roundS (k + 1, a', c', B') ⟨hlt, by dsimp only; rw [htk]; exact hB'.imp (r' := voteR) (L' := K) (fun cs x _ h => h)⟩ ?_ (fun w h => h) (by dsimp only; omega)
    dsimp only
    rw [htk]
    (repeat ((first | exact trivial | refine ⟨rfl, ?_⟩)))
  · have hkn : k = l.length := by omega
    subst hkn
    rw [List.take_length] at hV ⊢
    repeat ((first | with_reducible refine T_seq ?_ | with_reducible refine T_region ?_ | with_reducible refine TL_nil ?_ | with_reducible refine TQ_then ?_ | with_reducible refine T_exit ?_ | with_reducible refine T_ret ?_ | with_reducible refine TQ_then_exit ?_ | with_reducible refine TQ_block_exit ?_ | refine TL_q (op_move rfl) rfl ?_ | refine TL_q (op_assign rfl) rfl ?_ | (refine' TL_q (op_bin rfl rfl ?_) rfl ?_; rotate_left 1; (· (exact bin_lss))) | refine TL_q (op_len_slice rfl Try.underlying47) rfl ?_ | (refine T_no rfl ?_ ?_; (· (exact dF (by (omega)))))))
    refine TQ_ret1 2 _ rfl rfl ?_
    exact ⟨av, cv, Bv, rfl, hV, rfl⟩
end Go.Proofs.Ytdflhdfapnhjjaa
namespace Go.Proofs.Ytdflhdfapnhjjaa
open Go.RowKit
open Vd (RSet Vdt Vote Rec Quest Piece Ballot Said)
set_option linter.unusedVariables false
set_option linter.unusedSimpArgs false
--auto
/-- Where data may lie that are written over. -/
def keysOf (N : Blocks) : List (Nat × Nat) := N.map fun p => (p.1, match p.2 with | .cells C _ _ => C.size | _ => 0)
theorem dataIs_wr {N : Blocks} (h : Wr N) : DataIs (keysOf N) N := fun k hk => by
  obtain ⟨p, hp, rfl⟩ := List.mem_map.1 hk
  obtain ⟨C, te, he⟩ := h p hp
  obtain ⟨b, o⟩ := p
  dsimp only at he
  subst he
  exact ⟨C, te, hp, Nat.le_refl _⟩
theorem ds_of {N : Blocks} {a : Option Addr} {m c : Nat} {l : List Vd.Bytes} (h : sliceR 1 strR N [.slice a m c] l) (hN : Wr N) : DS (keysOf N) a m := by
  obtain ⟨rfl, k1, k2, h⟩ := sliceR.cut h
  rcases h with rfl | ⟨b, off, C, te, fr, rfl, hm, hc⟩
  · exact Or.inl rfl
  · by_cases h0 : l.length = 0
    · exact Or.inl h0
    · refine Or.inr ⟨b, off, C.size, rfl, ?_, ?_, by unfold maxLen at k2; omega⟩
      · refine List.mem_map.2 ⟨_, hm, ?_⟩
        obtain ⟨C', te', e⟩ := hN _ hm
        dsimp only at e
        obtain ⟨rfl, rfl, rfl⟩ := Obj.cells.inj e
        rfl
      · obtain ⟨x, hx⟩ : ∃ x, l[l.length - 1]? = some x := ⟨_, List.getElem?_eq_getElem (by omega)⟩
        obtain ⟨cs, h1, h2, h3⟩ := hc _ x hx
        obtain ⟨v, hv⟩ : ∃ v, cs[0]? = some v := ⟨_, List.getElem?_eq_getElem (by omega)⟩
        have := (Array.getElem?_eq_some_iff.1 (h3 0 v hv)).1
        omega
theorem rowS_of {N B : Blocks} {a : Option Addr} {c : Nat} {l : List RSet} (h : ORow rsR 60 5 N a c l B) (hN : Wr N) : RowS (keysOf N) B a l.length := by
  rcases h.one with ⟨_, e2, e3, _⟩ | ⟨b0, cur0, e1, e2, hsz, hlc⟩
  · exact Or.inl ⟨by rw [e3]; rfl, e2⟩
  · refine Or.inr ⟨b0, cur0, e1, e2, by rw [hsz]; exact Nat.mul_le_mul_right _ hlc, fun i hi => ?_⟩
    obtain ⟨b, cur, k1, k2, _, _, _, hcur⟩ := h.block (fun e => by rw [e] at hi; simp at hi)
    rw [e2] at k2
    simp only [List.cons.injEq, Prod.mk.injEq, Obj.cells.injEq, and_true] at k2
    obtain ⟨rfl, rfl⟩ := k2
    obtain ⟨x, hx⟩ : ∃ x, l[i]? = some x := ⟨_, List.getElem?_eq_getElem hi⟩
    obtain ⟨cs, _, hx2, _, hcs⟩ := hcur i x hx
    obtain ⟨xa, xc, rfl, hxd, _⟩ := hx2.vals
    exact ⟨xa, _, xc, hcs 4 _ rfl, ds_of hxd hN⟩
section
variable {G : World} {L : Blocks}
/-- The cells of a message of one's own. -/
def msgC (code : Int) (a : Option Addr) (n c : Nat) : List Value := [.int .u16 0, .bool false, .int .u8 0, .bool false, .bool false, .bool false, .bool false, .bool false, .bool false, .bool false, .int .u8 code, .slice none 0 0, .slice a n c, .slice none 0 0, .slice none 0 0, .bool false, .int .u16 0, .int .u8 0, .int .u8 0, .int .u16 0, .slice none 0 0]
theorem msgC.one {code : Int} {a : Option Addr} {n c : Nat} : ∀ v ∈ msgC code a n c, v.oneCell' = true := by
  intro v hv
  simp only [msgC, List.mem_cons, List.not_mem_nil, or_false] at hv
  rcases hv with rfl | rfl | rfl | rfl | rfl | rfl | rfl | rfl | rfl | rfl | rfl | rfl | rfl | rfl | rfl | rfl | rfl | rfl | rfl | rfl | rfl <;> rfl
theorem msgC.is {K : Blocks} {code : Int} {a : Option Addr} {c : Nat} {l : List Rec} (h : sliceR 5 recR K [.slice a l.length c] l) (hc : 0 ≤ code ∧ code ≤ 255) : msgR K (msgC code a l.length c) ⟨code, l, []⟩ :=
  ⟨_, _, _, _, _, _, _, _, _, _, _, _, _, _, _, _, _, _, _, _, rfl, h, sliceR.nil, hc, msgC.one⟩
/-- A reply with an address of a name. -/
def saysM (n : Vd.Bytes) (c : UInt8) : Vd.Msg := ⟨0, [⟨n, 1, 1, 9, [10, 0, 0, c]⟩], []⟩
end
end Go.Proofs.Ytdflhdfapnhjjaa
namespace Go.Proofs.Ytdflhdfapnhjjaa
open Go.RowKit
open Vd (RSet Vdt Vote Rec Quest Piece Ballot)
set_option linter.unusedVariables false
set_option linter.unusedSimpArgs false
--auto
variable {G : World} {L : Blocks}
/-- Blocks that a vote's verdict alone lies in. -/
def VOwn (X : Blocks) (cs : List Value) : Prop := ∃ up code t a n c a2 n2 c2 B B2 N, cs = [up, .int .u8 code, .slice a n c, .slice a2 n2 c2, t] ∧ RowS (keysOf N) B a n ∧ RowS (keysOf N) B2 a2 n2 ∧ n ≤ 100000 ∧ n2 ≤ 100000 ∧ Wr N ∧ X = B ++ (B2 ++ N)
def ownR : Rp (Vote × Blocks) := fun L cs y => voteR L cs y.1 ∧ VOwn y.2 cs
theorem mono_own : Mono ownR := fun L L' cs y hL h => ⟨mono_vote L L' _ _ hL h.1, h.2⟩
theorem Laid.map {α β : Type} {r : Rp α} {r' : Rp β} {sz : Nat} {L : Blocks} (f : α → β) (hr : ∀ cs x, r L cs x → r' L cs (f x)) : ∀ {l : List α} {xs : List Value}, Laid r sz L xs l → Laid r' sz L xs (l.map f)
  | [], xs, h => h
  | x :: l, xs, ⟨c, ys, h1, h2, h3, h4⟩ => ⟨c, ys, h1, h2, hr c x h3, Laid.map f hr h4⟩
theorem ORow.map {α β : Type} {r : Rp α} {r' : Rp β} {sz : Nat} {L : Blocks} {e : TypeId} {a : Option Addr} {c : Nat} {l : List α} {B : Blocks} (f : α → β) (hr : ∀ cs x, r L cs x → r' L cs (f x)) (h : ORow r e sz L a c l B) : ORow r' e sz L a c (l.map f) B := by
  obtain ⟨xs, h1, h2, h3⟩ := h.ex
  exact ⟨xs, by rw [List.length_map]; exact h1, h2.map f hr, h3⟩
/-- Votes in new memory, each in its own. -/
def VotesOwn (L : Blocks) (vs : List Vote) (u : Value) (M : Blocks) : Prop := ∃ a c B zl, u = .slice a vs.length c ∧ zl.map (·.1) = vs ∧ ORow ownR 46 5 (zl.flatMap (·.2)) a c zl B ∧ M = B ++ (zl.flatMap (·.2) ++ L)
set_option maxRecDepth 100000 in
set_option maxHeartbeats 2000000 in
theorem pCopyVotes2_S (v : Value) (vs : List Vote) (hv : sliceR 5 voteR L [v] vs) (hn : vs.length ≤ 100) (hs : ∀ x ∈ vs, SmV x.vd) : Spec Try.prog G 70 #[v] L (VotesOwn L vs) := by
  obtain ⟨a0, c0, e1, hv⟩ := hv.val
  simp only [List.cons.injEq, and_true] at e1
  subst e1
  obtain ⟨_, ka1, ka2, hv⟩ := sliceR.cut hv
  refine Spec_of (n := 19) Try.func70 rfl rfl rfl ?_
  repeat ((first | with_reducible refine T_seq ?_ | with_reducible refine T_block ?_ | with_reducible refine T_region ?_ | with_reducible refine TL_nil ?_ | with_reducible refine TQ_then ?_ | refine TL_q (op_move rfl) rfl ?_ | refine TL_q (op_assign rfl) rfl ?_ | refine TL_q (op_len_slice rfl Try.underlying47) rfl ?_))
  refine T_loopS (σ := Nat × Option Addr × Nat × Blocks × List (Vote × Blocks)) (fun x => x.1 ≤ vs.length ∧ x.2.2.2.2.map (·.1) = vs.take x.1 ∧ ORow ownR 46 5 (x.2.2.2.2.flatMap (·.2)) x.2.1 x.2.2.1 x.2.2.2.2 x.2.2.2.1) (fun x => [(3, .slice x.2.1 x.2.2.2.2.length x.2.2.1), (6, .slice a0 vs.length c0), (7, .int .i64 (vs.length : Nat)), (8, .int .i64 (x.1 : Nat))]) (fun x => x.2.2.2.1 ++ (x.2.2.2.2.flatMap (·.2) ++ L)) (fun x => vs.length - x.1) (0, none, 0, [], []) ⟨Nat.zero_le _, rfl, ORow.nil _⟩ ?_ (fun w h => h) ?_
  (repeat ((first | exact trivial | refine ⟨rfl, ?_⟩)))
  rintro ⟨k, a, c, B, zl⟩ ⟨hk, hz, hB⟩
  dsimp only at hk hz hB ⊢
  have hzl : zl.length ≤ 100 := by
    have : (zl.map (·.1)).length = (vs.take k).length := by rw [hz]
    rw [List.length_map, List.length_take] at this
    omega
  by_cases hlt : k < vs.length
  · obtain ⟨x, hx⟩ : ∃ x, vs[k]? = some x := ⟨_, List.getElem?_eq_getElem hlt⟩
    have htk : vs.take (k + 1) = vs.take k ++ [x] := by rw [List.take_add_one, hx]; rfl
    rcases hv with rfl | ⟨b1, o1, C1, t1, f1, rfl, m1, q1⟩
    · simp at hlt
    obtain ⟨cx, _, hx2, hcx⟩ := q1 k x hx
    have hx0 := hx2
    have hsx := hs x (List.mem_of_getElem? hx)
    obtain ⟨x1, xc1, x2, xc2, rfl, hx3, hx4, hcode, htm, hup⟩ := hx0.vals
    have m1' : (b1, Obj.cells C1 t1 f1) ∈ B ++ (zl.flatMap (·.2) ++ L) := List.mem_append_right _ (List.mem_append_right _ m1)
    repeat ((first | with_reducible refine T_seq ?_ | with_reducible refine T_block ?_ | with_reducible refine T_region ?_ | with_reducible refine TL_nil ?_ | with_reducible refine TQ_then ?_ | with_reducible refine T_skip ?_ | (refine' TL_q (op_bin rfl rfl ?_) rfl ?_; rotate_left 1; (· (exact bin_lss))) | (refine' TL_q (op_idx ety_47 rfl rfl ?_) rfl ?_; (· omega)) | (refine T_yes rfl ?_ ?_; (· (exact dT (by (omega)))))))
    refine TL_q (op_ldA [.int .i64 x.up, .int .u8 x.vd.code, .slice x1 x.vd.sets.length xc1, .slice x2 x.vd.soa.length xc2, .int .u32 x.time] rfl st_46 m1' hcx) rfl ?_
    repeat ((first | with_reducible refine T_region ?_ | with_reducible refine TL_nil ?_ | with_reducible refine TQ_then ?_ | refine TL_q (op_move rfl) rfl ?_ | (refine' TL_q (op_ldAll rfl st_46 ?_ ?_) rfl ?_; rotate_left 3; (· repeat ((exact List.mem_cons_self))); (· (assumption))) | (refine TL_stAll rfl rfl st_46 rfl rfl rfl ?_) | (refine TL_new (op_alloc (C := #[(.int .i64 0), (.int .u8 0), (.slice none 0 0), (.slice none 0 0), (.int .u32 0)]) zero_46 rfl) rfl ?_; intro bNew)))
    refine TL_opT (op_call hb_72 rfl (pCopyVote_S _ x (mono_vote _ _ _ _ (mem_of_cnt (by intro p; (try simp only [cnt_append, cnt_cons, cnt_nil]) <;> omega)) hx2) hsx)) rfl ?_
    rintro _ _ ⟨a6, c6, B6, a7, c7, B7, N6, rfl, h6, h7, hN6, rfl⟩
    repeat ((refine TL_new (op_litN ety_47 rfl rfl (by decide)) rfl ?_; intro bLit))
    have hfl : (zl ++ [(x, B6 ++ (B7 ++ N6))]).flatMap (·.2) = zl.flatMap (·.2) ++ (B6 ++ (B7 ++ N6)) := by rw [List.flatMap_append]; simp
    have hown : VOwn (B6 ++ (B7 ++ N6)) [.int .i64 x.up, .int .u8 x.vd.code, .slice a6 x.vd.sets.length c6, .slice a7 x.vd.soa.length c7, .int .u32 x.time] := ⟨_, _, _, _, _, _, _, _, _, B6, B7, N6, rfl, rowS_of h6 hN6, rowS_of h7 hN6, hsx.1.1, hsx.2.1, hN6, rfl⟩
    refine TL_cnt (L' := (bLit, Obj.cells #[.int .i64 x.up, .int .u8 x.vd.code, .slice a6 x.vd.sets.length c6, .slice a7 x.vd.soa.length c7, .int .u32 x.time] 46 (0, 0)) :: (B ++ ((zl.flatMap (·.2) ++ (B6 ++ (B7 ++ N6))) ++ L))) ?_ (by intro p; (try simp only [cnt_append, cnt_cons, cnt_nil]) <;> omega)
    refine TL_opT (op_push (L0 := zl.flatMap (·.2) ++ (B6 ++ (B7 ++ N6))) (cs := [.int .i64 x.up, .int .u8 x.vd.code, .slice a6 x.vd.sets.length c6, .slice a7 x.vd.soa.length c7, .int .u32 x.time]) (y := (x, B6 ++ (B7 ++ N6))) ety_47 rfl rfl (hB.mono mono_own (mem_of_cnt (by intro p; (try simp only [cnt_append, cnt_cons, cnt_nil]) <;> omega))) rfl (fun v hv => by simp only [List.mem_cons, List.not_mem_nil, or_false] at hv; rcases hv with rfl | rfl | rfl | rfl | rfl <;> rfl) ⟨⟨_, _, rfl, h6.sliceR mono_set (mem_of_cnt (by intro p; (try simp only [cnt_append, cnt_cons, cnt_nil]) <;> omega)) (mem_of_cnt (by intro p; (try simp only [cnt_append, cnt_cons, cnt_nil]) <;> omega)), h7.sliceR mono_set (mem_of_cnt (by intro p; (try simp only [cnt_append, cnt_cons, cnt_nil]) <;> omega)) (mem_of_cnt (by intro p; (try simp only [cnt_append, cnt_cons, cnt_nil]) <;> omega)), hcode, htm, hup⟩, hown⟩ (by unfold maxLen; omega) (by omega)) rfl ?_
    rintro _ _ ⟨a', c', B', rfl, hB', rfl⟩
    rw [← hfl] at hB'
    repeat ((first | with_reducible refine T_region ?_ | with_reducible refine TL_nil ?_ | with_reducible refine TQ_then ?_ | with_reducible refine TQ_block ?_ | refine TL_q (op_move rfl) rfl ?_ | refine TL_q (op_assign rfl) rfl ?_ | (refine' TL_q (op_bin rfl rfl ?_) rfl ?_; rotate_left 1; (· (exact bin_add ⟨by omega, by omega⟩)))))
    refine TQ_roundS (k + 1, a', c', B', zl ++ [(x, B6 ++ (B7 ++ N6))]) ⟨hlt, by dsimp only; rw [List.map_append, hz, htk]; rfl, hB'⟩ ?_ (fun w h => by dsimp only; rw [hfl]; exact h) (by dsimp only; omega)
    (repeat ((first | exact trivial | refine ⟨rfl, ?_⟩)))
  · have hkn : k = vs.length := by omega
    subst hkn
    rw [List.take_length] at hz
    have hzn : zl.length = vs.length := by rw [← hz, List.length_map]
    rw [hzn]
    repeat ((first | with_reducible refine T_seq ?_ | with_reducible refine T_region ?_ | with_reducible refine TL_nil ?_ | with_reducible refine TQ_then ?_ | with_reducible refine T_exit ?_ | with_reducible refine T_ret ?_ | with_reducible refine TQ_then_exit ?_ | with_reducible refine TQ_block_exit ?_ | refine TL_q (op_move rfl) rfl ?_ | refine TL_q (op_assign rfl) rfl ?_ | (refine' TL_q (op_bin rfl rfl ?_) rfl ?_; rotate_left 1; (· (exact bin_lss))) | (refine T_no rfl ?_ ?_; (· (exact dF (by (omega)))))))
    refine TQ_ret1 2 _ rfl rfl ?_
    exact ⟨a, c, B, zl, rfl, hz, hB, rfl⟩
set_option maxRecDepth 100000 in
set_option maxHeartbeats 2000000 in
theorem pVotes2_B {bb : Nat} {want : Int} {l : List Ballot} {X : Blocks} (h : PBox bb want l X) (hX : ∀ p ∈ X, p ∈ L) : Spec Try.prog G 39 #[.pointer (some ⟨bb, 0, none⟩)] L (VotesOwn L (Vd.votesB l)) := by
  obtain ⟨hs, _, N, ⟨a, c, B, hB, rfl⟩, hN, rfl⟩ := h
  have hl1 := votesB_len l
  have hl2 := hs.ok.len
  have hm : (bb, Obj.cells (boxC want (slipOf l) (.slice a (Vd.votesB l).length c)).toArray 100 (0, 0)) ∈ L := hX _ (List.mem_append_left _ (List.mem_cons_self ..))
  have hv : sliceR 5 voteR L [.slice a (Vd.votesB l).length c] (Vd.votesB l) := (hB.mono mono_vote (fun p hp => hX p (by simp [hp]))).sliceR mono_vote (fun p h => h) (fun p hp => hX p (by simp [hp]))
  have g19 : (boxC want (slipOf l) (.slice a (Vd.votesB l).length c)).toArray[0 + 19]? = some (.slice a (Vd.votesB l).length c) := rfl
  refine Spec_of (n := 10) Try.func39 rfl rfl rfl ?_
  repeat ((first | with_reducible refine T_seq ?_ | with_reducible refine T_region ?_ | with_reducible refine TL_nil ?_ | with_reducible refine TQ_then ?_ | with_reducible refine T_skip ?_ | refine TL_q (op_move rfl) rfl ?_ | refine TL_q (op_assign rfl) rfl ?_ | (refine' TL_q (op_bin rfl rfl ?_) rfl ?_; rotate_left 1; (· (exact pbin_eql Try.underlying76))) | refine TL_q (op_nilCheck rfl) rfl ?_ | refine TL_q (op_fld rfl fld_100_2) rfl ?_ | (refine' TL_q (op_ld rfl pl_47 ?_ ?_) rfl ?_; rotate_left 4; (· repeat ((assumption))); (· (assumption))) | (refine T_no rfl ?_ ?_; (· (exact Bool.not_true)))))
  refine TL_opT (op_call hb_70 rfl (pCopyVotes2_S _ _ hv (by omega) hs.sm)) rfl ?_
  rintro _ _ ⟨a1, c1, B, zl, rfl, hz, hB, rfl⟩
  repeat ((first | with_reducible refine TL_nil ?_ | with_reducible refine TQ_then ?_ | with_reducible refine T_ret ?_ | refine TL_q (op_assign rfl) rfl ?_))
  refine TQ_ret1 2 _ rfl rfl ?_
  exact ⟨a1, c1, B, zl, rfl, hz, hB, rfl⟩
/-- A row of numbers of one's own may be written over. -/
theorem wonR_sm {want : Int} {vs : List Vote} (h : ∀ x ∈ vs, SmV x.vd) : SmV (wonR want vs).1 := by
  unfold wonR
  cases wonAt want vs vs.length with
  | none => exact smV_none
  | some j =>
    dsimp only
    cases hj : vs[j]? with
    | none => exact smV_none
    | some x => exact h x (List.mem_of_getElem? hj)
end Go.Proofs.Ytdflhdfapnhjjaa
namespace Go.Proofs.Ytdflhdfapnhjjaa
open Go.RowKit
open Vd (RSet Vdt Vote Rec Quest Piece Ballot)
set_option linter.unusedVariables false
set_option linter.unusedSimpArgs false
--auto
variable {G : World} {L : Blocks}
set_option maxRecDepth 100000 in
set_option maxHeartbeats 4000000 in
theorem alike21_S {bp bd : Nat} {want : Int} {l : List Ballot} {X Y : Blocks} (hw : 1 ≤ want) (hp : PBox bp want l X) (hd : DBox bd want l Y) : Spec Try.prog G 52 #[.pointer (some ⟨bp, 0, none⟩), .pointer (some ⟨bd, 0, none⟩)] (X ++ (Y ++ L)) fun u M => u = .bool true ∧ M = X ++ (Y ++ L) := by
  have hsm := hp.1.sm
  have hvl := votesB_len l
  have hl9 := hd.1.len
  obtain ⟨vs, hvs⟩ : ∃ vs, Vd.votesB l = vs := ⟨_, rfl⟩
  obtain ⟨r, hr⟩ : ∃ r, wonR want vs = r := ⟨_, rfl⟩
  have hsr := wonR_sm (want := want) hsm
  have hwp : wonP want vs = r := by unfold wonP; rw [if_neg (by omega), hr]
  have hag : (if want < 1 then [] else againstR want vs) = againstR want vs := if_neg (by omega)
  have hpW := pWon_B (G := G) (L := X ++ (Y ++ L)) hp (mem_of_cnt (by intro p; (try simp only [cnt_append, cnt_cons, cnt_nil]) <;> omega))
  rw [hvs] at hvl hsr hsm hpW
  rw [hr] at hsr
  rw [hwp] at hpW
  have hrun : (wonR want vs).2.2.1.length ≤ 9 := by
    rcases won_or hw vs with ⟨_, h⟩ | ⟨j, x, h⟩
    · rw [h]; simp
    · rw [h.is]
      have hup : Vup (withV (vs.take (j + 1)) x.vd) := by rw [← hvs]; exact ((hd.1.vup).take _).filter _
      rw [rising_len hup.nd hup.ups, List.length_map]
      exact hup.len
  rw [hr] at hrun
  refine Spec_of (n := 111) Try.func52 rfl rfl rfl ?_
  repeat ((first | with_reducible refine T_seq ?_ | with_reducible refine T_region ?_ | with_reducible refine TL_nil ?_ | with_reducible refine TQ_then ?_ | refine TL_q (op_move rfl) rfl ?_ | refine TL_q (op_assign rfl) rfl ?_))
  refine TL_opT (op_call hb_35 rfl hpW) rfl ?_
  rintro _ _ ⟨a, c, B, a2, c2, B2, a3, c3, B3, N, rfl, hB, hB2, hB3, hN, rfl⟩
  repeat ((first | with_reducible refine T_seq ?_ | with_reducible refine T_region ?_ | with_reducible refine TL_nil ?_ | with_reducible refine TQ_then ?_ | refine TL_q (op_move rfl) rfl ?_ | refine TL_q (op_assign rfl) rfl ?_ | refine TL_q (op_extract rfl rfl) rfl ?_ | (refine TL_stAll rfl rfl st_42 rfl rfl rfl ?_) | (refine TL_new (op_alloc (C := #[(.int .u8 0), (.slice none 0 0), (.slice none 0 0)]) zero_42 rfl) rfl ?_; intro bNew)))
  obtain ⟨b5, hb5⟩ : ∃ b, bNew = b := ⟨_, rfl⟩
  rw [hb5]
  clear hb5 bNew
  refine TL_opT (op_call hb_74 rfl (dWon_B hd (mem_of_cnt (by intro p; (try simp only [cnt_append, cnt_cons, cnt_nil]) <;> omega)))) rfl ?_
  rw [hvs, hr]
  rintro _ _ ⟨cs, a4, c4, B4, rfl, hvd, hB4, rfl⟩
  obtain ⟨x1, xc1, x2, xc2, rfl, hx1, hx2, hx3⟩ := hvd.vals
  repeat ((first | with_reducible refine T_seq ?_ | with_reducible refine T_region ?_ | with_reducible refine TL_nil ?_ | with_reducible refine TQ_then ?_ | refine TL_q (op_move rfl) rfl ?_ | refine TL_q (op_assign rfl) rfl ?_ | refine TL_q (op_extract rfl rfl) rfl ?_ | (refine TL_stAll rfl rfl st_42 rfl rfl rfl ?_) | (refine TL_new (op_alloc (C := #[(.int .u8 0), (.slice none 0 0), (.slice none 0 0)]) zero_42 rfl) rfl ?_; intro bNew)))
  obtain ⟨b9, hb9⟩ : ∃ b, bNew = b := ⟨_, rfl⟩
  rw [hb9]
  clear hb9 bNew
  refine TL_opT (op_call hb_39 rfl (pVotes2_B hp (mem_of_cnt (by intro p; (try simp only [cnt_append, cnt_cons, cnt_nil]) <;> omega)))) rfl ?_
  rw [hvs]
  rintro _ _ ⟨av, cv, Bv, zl, rfl, hz, hV, rfl⟩
  have hV1 : ORow voteR 46 5 (zl.flatMap (·.2)) av cv vs Bv := by
    have := hV.map (r' := voteR) (·.1) (fun cs x h => h.1)
    rwa [hz] at this
  have d1 : decide (r.1 = r.1) = true := by simp
  have d2 : decide (r.2.2.1 = r.2.2.1) = true := by simp
  have d3 : decide (againstR want vs = againstR want vs) = true := by simp
  have d4 : decide (vs = vs) = true := by simp
  obtain ⟨F, hF⟩ : ∃ F, zl.flatMap (·.2) = F := ⟨_, rfl⟩
  rw [hF] at hV1 ⊢
  repeat ((first | with_reducible refine T_seq ?_ | with_reducible refine T_region ?_ | with_reducible refine TL_nil ?_ | with_reducible refine TQ_then ?_ | refine TL_q (op_assign rfl) rfl ?_ | (refine' TL_q (op_ldAll rfl st_42 ?_ ?_) rfl ?_; rotate_left 3; (· repeat ((first | exact List.mem_cons_self | apply List.mem_cons_of_mem | apply List.mem_append_right))); (· (rfl)))))
  refine TL_op (op_call hb_23 rfl (vSame_S [.int .u8 r.1.code, .slice a r.1.sets.length c, .slice a2 r.1.soa.length c2] [.int .u8 r.1.code, .slice x1 r.1.sets.length xc1, .slice x2 r.1.soa.length xc2] r.1 r.1 ⟨_, _, rfl, hB.sliceR mono_set (mem_of_cnt (by intro p; (try simp only [cnt_append, cnt_cons, cnt_nil]) <;> omega)) (mem_of_cnt (by intro p; (try simp only [cnt_append, cnt_cons, cnt_nil]) <;> omega)), hB2.sliceR mono_set (mem_of_cnt (by intro p; (try simp only [cnt_append, cnt_cons, cnt_nil]) <;> omega)) (mem_of_cnt (by intro p; (try simp only [cnt_append, cnt_cons, cnt_nil]) <;> omega)), hx3⟩ (mono_vd _ _ _ _ (mem_of_cnt (by intro p; (try simp only [cnt_append, cnt_cons, cnt_nil]) <;> omega)) hvd))) rfl ?_
  repeat ((first | refine TL_q (op_move rfl) rfl ?_ | (refine' TL_q (op_pickT rfl ?_ rfl) rfl ?_; (· (assumption))) | (refine TL_gpre rfl rfl ?_ ?_; (· (first | assumption | exact dT (by (with_reducible rfl))))) | refine TL_gq2 (op_move rfl) rfl ?_ | (refine' TL_gq2 (op_bin rfl rfl ?_) rfl ?_; rotate_left 1; (· (exact bin_eql)))))
  refine TG_op (op_call hb_38 rfl (Ints_S _ _ r.2.2.1 r.2.2.1 (hB3.sliceR (mono_int _) (by simp) (mem_of_cnt (by intro p; (try simp only [cnt_append, cnt_cons, cnt_nil]) <;> omega))) (hB4.sliceR (mono_int _) (by simp) (mem_of_cnt (by intro p; (try simp only [cnt_append, cnt_cons, cnt_nil]) <;> omega))))) rfl ?_
  repeat ((first | refine TL_q (op_move rfl) rfl ?_ | (refine' TL_q (op_pickT rfl ?_ rfl) rfl ?_; (· (first | assumption | exact dT (by (with_reducible rfl))))) | (refine TL_gpre rfl rfl ?_ ?_; (· (first | assumption | exact dT (by (with_reducible rfl))))) | refine TL_gq2 (op_move rfl) rfl ?_ | (refine' TL_gq2 (op_bin rfl rfl ?_) rfl ?_; rotate_left 1; (· (exact bbin_eql Try.underlying4)))))
  refine TG_op (op_call hb_36 rfl (pMost_B hp (mem_of_cnt (by intro p; (try simp only [cnt_append, cnt_cons, cnt_nil]) <;> omega)))) rfl ?_
  repeat ((first | (refine TL_gpre rfl rfl ?_ ?_; (· (exact dT (by (with_reducible rfl))))) | refine TL_gq2 (op_move rfl) rfl ?_))
  refine TG_op (op_call hb_75 rfl (dMost_B hd (mem_of_cnt (by intro p; (try simp only [cnt_append, cnt_cons, cnt_nil]) <;> omega)))) rfl ?_
  repeat ((first | refine TL_q (op_move rfl) rfl ?_ | (refine' TL_q (op_pickT rfl ?_ rfl) rfl ?_; (· (exact dT (by (with_reducible rfl))))) | (refine TL_gpre rfl rfl ?_ ?_; (· (exact dT (by (with_reducible rfl))))) | refine TL_gq2 (op_move rfl) rfl ?_ | (refine' TL_gq2 (op_bin rfl rfl ?_) rfl ?_; rotate_left 1; (· (exact bin_eql)))))
  refine TG_opT (op_call hb_40 rfl (pAgainst_B hp (mem_of_cnt (by intro p; (try simp only [cnt_append, cnt_cons, cnt_nil]) <;> omega)))) rfl ?_
  rw [hvs, hag]
  rintro _ _ ⟨aA, cA, BA, rfl, hBA, rfl⟩
  repeat ((first | (refine TL_gpre rfl rfl ?_ ?_; (· (exact dT (by (with_reducible rfl))))) | refine TL_gq2 (op_move rfl) rfl ?_))
  refine TG_opT (op_call hb_76 rfl (dAgainst_B hd (mem_of_cnt (by intro p; (try simp only [cnt_append, cnt_cons, cnt_nil]) <;> omega)))) rfl ?_
  rw [hvs]
  rintro _ _ ⟨aE, cE, BE, rfl, hBE, rfl⟩
  repeat ((refine TL_gpre rfl rfl ?_ ?_; (· (exact dT (by (with_reducible rfl))))))
  refine TG_op (op_call hb_38 rfl (Ints_S _ _ (againstR want vs) (againstR want vs) (hBA.sliceR (mono_int _) (by simp) (mem_of_cnt (by intro p; (try simp only [cnt_append, cnt_cons, cnt_nil]) <;> omega))) (hBE.sliceR (mono_int _) (by simp) (mem_of_cnt (by intro p; (try simp only [cnt_append, cnt_cons, cnt_nil]) <;> omega))))) rfl ?_
  repeat ((first | refine TL_q (op_move rfl) rfl ?_ | (refine' TL_q (op_pickT rfl ?_ rfl) rfl ?_; (· (exact dT (by (with_reducible rfl))))) | (refine TL_gpre rfl rfl ?_ ?_; (· (assumption))) | refine TL_gq2 (op_move rfl) rfl ?_))
  refine TG_opT (op_call hb_77 rfl (told21_S (K := F) _ vs ((hV1.imp (r' := fun _ => voteR F) (L' := []) (fun cs x _ h => h)).sliceR mono_const (by simp) (mem_of_cnt (by intro p; (try simp only [cnt_append, cnt_cons, cnt_nil]) <;> omega))) (by omega))) rfl ?_
  rintro _ _ ⟨aT, cT, BT, rfl, hBT, rfl⟩
  repeat ((first | (refine TL_gpre rfl rfl ?_ ?_; (· (assumption))) | refine TL_gq2 (op_move rfl) rfl ?_))
  refine TG_opT (OpT.heap (L' := Y ++ (BT ++ (BE ++ (BA ++ (Bv ++ (F ++ ((b9, Obj.cells #[.int .u8 r.1.code, .slice x1 r.1.sets.length xc1, .slice x2 r.1.soa.length xc2] 42 (0, 0)) :: (B4 ++ ((b5, Obj.cells #[.int .u8 r.1.code, .slice a r.1.sets.length c, .slice a2 r.1.soa.length c2] 42 (0, 0)) :: (B3 ++ (B2 ++ (B ++ (N ++ (X ++ L)))))))))))))) (fun w h => h.cnt (by intro p; (try simp only [cnt_append, cnt_cons, cnt_nil]) <;> omega)) (op_call hb_57 rfl (dVotes_B hd))) rfl ?_
  rw [hvs]
  rintro _ _ ⟨aS, cS, BS, rfl, hBS, rfl⟩
  repeat ((refine TL_gpre rfl rfl ?_ ?_; (· (assumption))))
  refine TG_op (op_call hb_25 rfl (rSameV_S _ _ vs vs (hBT.sliceR mono_vote (mem_of_cnt (by intro p; (try simp only [cnt_append, cnt_cons, cnt_nil]) <;> omega)) (mem_of_cnt (by intro p; (try simp only [cnt_append, cnt_cons, cnt_nil]) <;> omega))) (hBS.sliceR mono_vote (mem_of_cnt (by intro p; (try simp only [cnt_append, cnt_cons, cnt_nil]) <;> omega)) (mem_of_cnt (by intro p; (try simp only [cnt_append, cnt_cons, cnt_nil]) <;> omega))))) rfl ?_
  repeat ((first | with_reducible refine T_seq ?_ | with_reducible refine T_region ?_ | with_reducible refine TL_nil ?_ | with_reducible refine TQ_then ?_ | refine TL_q (op_assign rfl) rfl ?_ | (refine' TL_q (op_pickT rfl ?_ rfl) rfl ?_; (· (assumption))) | (refine' TL_q (op_ldAll rfl st_42 ?_ ?_) rfl ?_; rotate_left 3; (· repeat ((first | exact List.mem_cons_self | apply List.mem_cons_of_mem | apply List.mem_append_right))); (· (rfl)))))
  refine TL_opT (OpT.heap (L' := B ++ (B2 ++ (N ++ (B3 ++ (Bv ++ (F ++ (X ++ (Y ++ L)))))))) (fun w h => h.cnt (by intro p; (try simp only [cnt_append, cnt_cons, cnt_nil]) <;> omega)) (op_call hb_49 rfl (spoil21_S _ a a2 _ _ c c2 (keysOf N) B B2 N (rowS_of hB hN) (rowS_of hB2 hN) (dataIs_wr hN) (Nat.le_trans hsr.1.1 (by omega)) (Nat.le_trans hsr.2.1 (by omega))))) rfl ?_
  rintro _ _ ⟨Z, rfl⟩
  refine TL_cnt (L' := B3 ++ (Bv ++ (F ++ (X ++ (Y ++ L))))) ?_ (by intro p; (try simp only [cnt_append, cnt_cons, cnt_nil]) <;> omega)
  rw [d4]
  repeat ((first | with_reducible refine TL_nil ?_ | with_reducible refine TQ_then ?_))
  refine T_mid (σ := Unit) (fun _ => True) (fun _ => [(0, .pointer (some ⟨bp, 0, none⟩)), (1, .pointer (some ⟨bd, 0, none⟩)), (13, .slice av vs.length cv), (14, .bool true)]) (fun _ => Bv ++ (F ++ (X ++ (Y ++ L)))) ?_ ?_
  · rcases hB3.one with ⟨ha3, _, h0, _⟩ | ⟨b3, cur3, rfl, rfl, hsz, hlc⟩
    · rw [h0]
      repeat ((first | with_reducible refine T_seq ?_ | with_reducible refine T_block ?_ | with_reducible refine T_region ?_ | with_reducible refine TL_nil ?_ | with_reducible refine TQ_then ?_ | refine TL_q (op_assign rfl) rfl ?_))
      refine T_loopS (σ := Nat) (fun k => True) (fun k => [(0, .pointer (some ⟨bp, 0, none⟩)), (1, .pointer (some ⟨bd, 0, none⟩)), (7, .slice a3 ([] : List Int).length c3), (13, .slice av vs.length cv), (14, .bool true), (15, .int .i64 (k : Nat))]) (fun _ => Bv ++ (F ++ (X ++ (Y ++ L)))) (fun k => 0) 0 trivial ?_ (fun w h => h.cnt (by intro p; (try simp only [cnt_append, cnt_cons, cnt_nil]) <;> omega)) ?_
      (repeat ((first | exact trivial | refine ⟨rfl, ?_⟩)))
      rintro k _
      have h00 : ¬ ((k : Nat) : Int) < (([] : List Int).length : Nat) := by simp
      repeat ((first | with_reducible refine T_seq ?_ | with_reducible refine T_region ?_ | with_reducible refine TL_nil ?_ | with_reducible refine TQ_then ?_ | with_reducible refine T_exit ?_ | with_reducible refine TQ_then_exit ?_ | with_reducible refine TQ_block_exit ?_ | refine TL_q (op_move rfl) rfl ?_ | (refine' TL_q (op_bin rfl rfl ?_) rfl ?_; rotate_left 1; (· (exact bin_lss))) | refine TL_q (op_len_slice rfl Try.underlying79) rfl ?_ | (refine T_no rfl ?_ ?_; (· (exact Bool.not_true)))))
      refine TQ_mid () trivial ?_ (fun w h => h)
      (repeat ((first | exact trivial | refine ⟨rfl, ?_⟩)))
    · repeat ((first | with_reducible refine T_seq ?_ | with_reducible refine T_block ?_ | with_reducible refine T_region ?_ | with_reducible refine TL_nil ?_ | with_reducible refine TQ_then ?_ | refine TL_q (op_assign rfl) rfl ?_))
      refine T_loopS (σ := Nat × Array Value) (fun k => k.1 ≤ r.2.2.1.length ∧ k.2.size = c3 * 1) (fun k => [(0, .pointer (some ⟨bp, 0, none⟩)), (1, .pointer (some ⟨bd, 0, none⟩)), (7, .slice (some ⟨b3, 0, none⟩) r.2.2.1.length c3), (13, .slice av vs.length cv), (14, .bool true), (15, .int .i64 (k.1 : Nat))]) (fun k => (b3, Obj.cells k.2 3 (0, 0)) :: (Bv ++ (F ++ (X ++ (Y ++ L))))) (fun k => r.2.2.1.length - k.1) (0, cur3) ⟨Nat.zero_le _, hsz⟩ ?_ (fun w h => h) ?_
      (repeat ((first | exact trivial | refine ⟨rfl, ?_⟩)))
      rintro ⟨k, cur⟩ ⟨hk, hsz⟩
      dsimp only at hk hsz ⊢
      by_cases hkl : k < r.2.2.1.length
      · obtain ⟨u, hu⟩ : ∃ u, cur[0 + k * 1]? = some u := ⟨_, Array.getElem?_eq_getElem (by omega)⟩
        repeat ((first | with_reducible refine T_seq ?_ | with_reducible refine T_block ?_ | with_reducible refine T_region ?_ | with_reducible refine TL_nil ?_ | with_reducible refine TQ_then ?_ | with_reducible refine T_skip ?_ | refine TL_q (op_move rfl) rfl ?_ | (refine' TL_q (op_bin rfl rfl ?_) rfl ?_; rotate_left 1; (· (exact bin_lss))) | refine TL_q (op_len_slice rfl Try.underlying79) rfl ?_ | (refine' TL_q (op_idx ety_79 rfl rfl ?_) rfl ?_; (· omega)) | (refine T_yes rfl ?_ ?_; (· (exact dT (by (omega)))))))
        refine TL_st (C' := cur.setIfInBounds (0 + k * 1) (.int .i64 (-9))) rfl rfl one_3 rfl hu rfl ?_
        repeat ((first | with_reducible refine T_region ?_ | with_reducible refine TL_nil ?_ | with_reducible refine TQ_then ?_ | with_reducible refine TQ_block ?_ | refine TL_q (op_move rfl) rfl ?_ | refine TL_q (op_assign rfl) rfl ?_ | (refine' TL_q (op_bin rfl rfl ?_) rfl ?_; rotate_left 1; (· (exact bin_add ⟨by omega, by omega⟩)))))
        refine TQ_roundS (k + 1, cur.setIfInBounds (0 + k * 1) (.int .i64 (-9))) ⟨hkl, by dsimp only; rw [Array.size_setIfInBounds]; exact hsz⟩ ?_ (fun w h => h) (by dsimp only; omega)
        (repeat ((first | exact trivial | refine ⟨rfl, ?_⟩)))
      · repeat ((first | with_reducible refine T_seq ?_ | with_reducible refine T_region ?_ | with_reducible refine TL_nil ?_ | with_reducible refine TQ_then ?_ | with_reducible refine T_exit ?_ | with_reducible refine TQ_then_exit ?_ | with_reducible refine TQ_block_exit ?_ | refine TL_q (op_move rfl) rfl ?_ | (refine' TL_q (op_bin rfl rfl ?_) rfl ?_; rotate_left 1; (· (exact bin_lss))) | refine TL_q (op_len_slice rfl Try.underlying79) rfl ?_ | (refine T_no rfl ?_ ?_; (· (exact dF (by (omega)))))))
        refine TQ_mid () trivial ?_ (fun w h => h.tail)
        (repeat ((first | exact trivial | refine ⟨rfl, ?_⟩)))
  · rintro _ _
    have hzn : zl.length = vs.length := by rw [← hz, List.length_map]
    rw [← hF]
    repeat ((first | with_reducible refine T_seq ?_ | with_reducible refine T_block ?_ | with_reducible refine T_region ?_ | with_reducible refine TL_nil ?_ | with_reducible refine TQ_then ?_ | refine TL_q (op_assign rfl) rfl ?_))
    refine T_loopS (σ := Nat) (fun k => k ≤ vs.length) (fun k => [(0, .pointer (some ⟨bp, 0, none⟩)), (1, .pointer (some ⟨bd, 0, none⟩)), (13, .slice av vs.length cv), (14, .bool true), (16, .int .i64 (k : Nat))]) (fun k => Bv ++ ((zl.drop k).flatMap (·.2) ++ (X ++ (Y ++ L)))) (fun k => vs.length - k) 0 (Nat.zero_le _) ?_ (fun w h => h) ?_
    (repeat ((first | exact trivial | refine ⟨rfl, ?_⟩)))
    rintro k hk
    by_cases hkl : k < vs.length
    · obtain ⟨y, hy⟩ : ∃ y, zl[k]? = some y := ⟨_, List.getElem?_eq_getElem (by omega)⟩
      obtain ⟨bv, cur, rfl, rfl, _, _, _, hcur⟩ := hV.block (fun e => by rw [e] at hzn; simp at hzn; omega)
      obtain ⟨csy, _, ⟨_, up, code, t, va, vn, vc, va2, vn2, vc2, VB, VB2, VN, rfl, hr1, hr2, hn1, hn2, hVN, hye⟩, _, hcy⟩ := hcur k y hy
      have hdr : (zl.drop k).flatMap (·.2) = (VB ++ (VB2 ++ VN)) ++ (zl.drop (k + 1)).flatMap (·.2) := by
        have hdk : zl.drop k = y :: zl.drop (k + 1) := by
          rw [List.drop_eq_getElem_cons (by omega)]
          congr 1
          rw [List.getElem?_eq_getElem (by omega)] at hy
          exact Option.some.inj hy
        rw [hdk, List.flatMap_cons, hye]
      rw [hdr]
      have gy : ∀ j v, ([.int .u8 code, .slice va vn vc, .slice va2 vn2 vc2] : List Value)[j]? = some v → cur[0 + k * 5 + 1 + j]? = some v := fun j v hj => by
        rw [Nat.zero_add, Nat.add_assoc]
        match j, hj with
        | 0, hj => exact hcy 1 v hj
        | 1, hj => exact hcy 2 v hj
        | 2, hj => exact hcy 3 v hj
      repeat ((first | with_reducible refine T_seq ?_ | with_reducible refine T_block ?_ | with_reducible refine T_region ?_ | with_reducible refine TL_nil ?_ | with_reducible refine TQ_then ?_ | with_reducible refine T_skip ?_ | refine TL_q (op_move rfl) rfl ?_ | (refine' TL_q (op_bin rfl rfl ?_) rfl ?_; rotate_left 1; (· (exact bin_lss))) | refine TL_q (op_len_slice rfl Try.underlying47) rfl ?_ | (refine' TL_q (op_idx ety_47 rfl rfl ?_) rfl ?_; (· omega)) | refine TL_q (op_fld rfl fld_46_1) rfl ?_ | (refine T_yes rfl ?_ ?_; (· (exact dT (by (omega)))))))
      refine TL_q (op_ldA [.int .u8 code, .slice va vn vc, .slice va2 vn2 vc2] rfl st_42 (List.mem_append_left _ (List.mem_cons_self ..)) gy) rfl ?_
      refine TL_opT (OpT.heap (L' := VB ++ (VB2 ++ (VN ++ ([(bv, Obj.cells cur 46 (0, 0))] ++ ((zl.drop (k + 1)).flatMap (·.2) ++ (X ++ (Y ++ L))))))) (fun w h => h.cnt (by intro p; (try simp only [cnt_append, cnt_cons, cnt_nil]) <;> omega)) (op_call hb_49 rfl (spoil21_S _ va va2 _ _ vc vc2 (keysOf VN) VB VB2 VN hr1 hr2 (dataIs_wr hVN) (by omega) (by omega)))) rfl ?_
      rintro _ _ ⟨Z, rfl⟩
      repeat ((first | with_reducible refine T_region ?_ | with_reducible refine TL_nil ?_ | with_reducible refine TQ_then ?_ | with_reducible refine TQ_block ?_ | refine TL_q (op_move rfl) rfl ?_ | refine TL_q (op_assign rfl) rfl ?_ | (refine' TL_q (op_bin rfl rfl ?_) rfl ?_; rotate_left 1; (· (exact bin_add ⟨by omega, by omega⟩)))))
      refine TQ_roundS (k + 1) hkl ?_ (fun w h => h.cnt (by intro p; (try simp only [cnt_append, cnt_cons, cnt_nil]) <;> omega)) (by omega)
      (repeat ((first | exact trivial | refine ⟨rfl, ?_⟩)))
    · repeat ((first | with_reducible refine T_seq ?_ | with_reducible refine T_block ?_ | with_reducible refine T_region ?_ | with_reducible refine TL_nil ?_ | with_reducible refine TQ_then ?_ | with_reducible refine T_exit ?_ | with_reducible refine TQ_then_exit ?_ | with_reducible refine TQ_block_exit ?_ | refine TL_q (op_move rfl) rfl ?_ | refine TL_q (op_assign rfl) rfl ?_ | (refine' TL_q (op_bin rfl rfl ?_) rfl ?_; rotate_left 1; (· (exact bin_lss))) | refine TL_q (op_len_slice rfl Try.underlying47) rfl ?_ | (refine T_no rfl ?_ ?_; (· (exact dF (by (omega)))))))
      refine T_loopS (σ := Nat) (fun k => k ≤ 11) (fun k => [(0, .pointer (some ⟨bp, 0, none⟩)), (1, .pointer (some ⟨bd, 0, none⟩)), (14, .bool true), (17, .int .i64 ((k : Nat) - 1))]) (fun _ => X ++ (Y ++ L)) (fun k => 11 - k) 0 (Nat.zero_le _) ?_ (fun w h => h.cnt (by intro p; (try simp only [cnt_append, cnt_cons, cnt_nil]) <;> omega)) ?_
      (repeat ((first | exact trivial | refine ⟨rfl, ?_⟩)))
      rintro k hk
      by_cases hkl : k < 11
      · cases hh : Vd.hasB l ((k : Nat) - 1) with
        | true =>
          have hcast : (((k + 1 : Nat) : Int) - 1) = ((k : Nat) : Int) - 1 + 1 := by omega
          repeat ((first | with_reducible refine T_seq ?_ | with_reducible refine T_block ?_ | with_reducible refine T_region ?_ | with_reducible refine TL_nil ?_ | with_reducible refine TQ_then ?_ | with_reducible refine T_skip ?_ | refine TL_q (op_move rfl) rfl ?_ | (refine' TL_q (op_bin rfl rfl ?_) rfl ?_; rotate_left 1; (· (exact bin_leq))) | (refine TL_gpre rfl rfl ?_ ?_; (· (with_reducible rfl))) | refine TL_gq2 (op_move rfl) rfl ?_ | (refine T_yes rfl ?_ ?_; (· (exact dT (by (omega)))))))
          refine TG_op (op_call hb_45 rfl (pHas_B ((k : Nat) - 1) hp (mem_of_cnt (by intro p; (try simp only [cnt_append, cnt_cons, cnt_nil]) <;> omega)))) rfl ?_
          rw [hh]
          repeat ((first | (refine TL_gpre rfl rfl ?_ ?_; (· (with_reducible rfl))) | refine TL_gq2 (op_move rfl) rfl ?_))
          refine TG_opT (OpT.heap (L' := Y ++ (X ++ L)) (fun w h => h.cnt (by intro p; (try simp only [cnt_append, cnt_cons, cnt_nil]) <;> omega)) (op_call hb_78 rfl (dHas_B ((k : Nat) - 1) hd))) rfl ?_
          rintro _ _ ⟨rfl, rfl⟩
          rw [hh]
          repeat ((first | with_reducible refine T_region ?_ | with_reducible refine TL_nil ?_ | with_reducible refine TQ_then ?_ | with_reducible refine TQ_block ?_ | refine TL_q (op_move rfl) rfl ?_ | refine TL_q (op_assign rfl) rfl ?_ | (refine' TL_q (op_bin rfl rfl ?_) rfl ?_; rotate_left 1; (· (exact bin_add ⟨by omega, by omega⟩))) | (refine' TL_q (op_pickT rfl ?_ rfl) rfl ?_; (· (with_reducible rfl))) | (refine TL_gpre rfl rfl ?_ ?_; (· (with_reducible rfl))) | (refine' TL_gq2 (op_bin rfl rfl ?_) rfl ?_; rotate_left 1; (· (exact bbin_eql Try.underlying4)))))
          refine TQ_roundS (k + 1) (by omega) ?_ (fun w h => h.cnt (by intro p; (try simp only [cnt_append, cnt_cons, cnt_nil]) <;> omega)) (by omega)
          rw [hcast]
          (repeat (first | exact trivial | refine ⟨rfl, ?_⟩))
        | false =>
          have hcast : (((k + 1 : Nat) : Int) - 1) = ((k : Nat) : Int) - 1 + 1 := by omega
          repeat ((first | with_reducible refine T_seq ?_ | with_reducible refine T_block ?_ | with_reducible refine T_region ?_ | with_reducible refine TL_nil ?_ | with_reducible refine TQ_then ?_ | with_reducible refine T_skip ?_ | refine TL_q (op_move rfl) rfl ?_ | (refine' TL_q (op_bin rfl rfl ?_) rfl ?_; rotate_left 1; (· (exact bin_leq))) | (refine TL_gpre rfl rfl ?_ ?_; (· (with_reducible rfl))) | refine TL_gq2 (op_move rfl) rfl ?_ | (refine T_yes rfl ?_ ?_; (· (exact dT (by (omega)))))))
          refine TG_op (op_call hb_45 rfl (pHas_B ((k : Nat) - 1) hp (mem_of_cnt (by intro p; (try simp only [cnt_append, cnt_cons, cnt_nil]) <;> omega)))) rfl ?_
          rw [hh]
          repeat ((first | (refine TL_gpre rfl rfl ?_ ?_; (· (with_reducible rfl))) | refine TL_gq2 (op_move rfl) rfl ?_))
          refine TG_opT (OpT.heap (L' := Y ++ (X ++ L)) (fun w h => h.cnt (by intro p; (try simp only [cnt_append, cnt_cons, cnt_nil]) <;> omega)) (op_call hb_78 rfl (dHas_B ((k : Nat) - 1) hd))) rfl ?_
          rintro _ _ ⟨rfl, rfl⟩
          rw [hh]
          repeat ((first | with_reducible refine T_region ?_ | with_reducible refine TL_nil ?_ | with_reducible refine TQ_then ?_ | with_reducible refine TQ_block ?_ | refine TL_q (op_move rfl) rfl ?_ | refine TL_q (op_assign rfl) rfl ?_ | (refine' TL_q (op_bin rfl rfl ?_) rfl ?_; rotate_left 1; (· (exact bin_add ⟨by omega, by omega⟩))) | (refine' TL_q (op_pickT rfl ?_ rfl) rfl ?_; (· (with_reducible rfl))) | (refine TL_gpre rfl rfl ?_ ?_; (· (with_reducible rfl))) | (refine' TL_gq2 (op_bin rfl rfl ?_) rfl ?_; rotate_left 1; (· (exact bbin_eql Try.underlying4)))))
          refine TQ_roundS (k + 1) (by omega) ?_ (fun w h => h.cnt (by intro p; (try simp only [cnt_append, cnt_cons, cnt_nil]) <;> omega)) (by omega)
          rw [hcast]
          (repeat ((first | exact trivial | refine ⟨rfl, ?_⟩)))
      · have hke : k = 11 := by omega
        subst hke
        repeat ((first | with_reducible refine T_seq ?_ | with_reducible refine T_region ?_ | with_reducible refine TL_nil ?_ | with_reducible refine TQ_then ?_ | with_reducible refine T_exit ?_ | with_reducible refine T_ret ?_ | with_reducible refine TQ_then_exit ?_ | with_reducible refine TQ_block_exit ?_ | refine TL_q (op_move rfl) rfl ?_ | refine TL_q (op_assign rfl) rfl ?_ | (refine' TL_q (op_bin rfl rfl ?_) rfl ?_; rotate_left 1; (· (exact bin_leq))) | (refine T_no rfl ?_ ?_; (· (exact Bool.not_true)))))
        refine TQ_ret1 4 _ rfl rfl ?_
        exact ⟨rfl, rfl⟩
end Go.Proofs.Ytdflhdfapnhjjaa
