/-
  Part 4: Ch Vd Vc Fs Ck Cl Cm Cn Co.
-/
import Derived.Test.YtnhlpifbadncmaaDoorCz3
import Derived.Test.YtnhlpifbadncmaaDoorCz1
namespace Go.Proofs.YtnhlpifbadncmaaDoor
open Go.RowKit
open Cn (Zo Cf)
set_option linter.unusedVariables false
set_option linter.unusedSimpArgs false
--auto
variable {G : World} {L : Blocks}
def mayK (c : Cf) : Prop := (1 ≤ c.ups ∧ c.ups ≤ 9 ∧ c.ups % 2 = 1) ∧ (1 ≤ c.hdg ∧ c.hdg ≤ 1000) ∧ (1 ≤ c.wai ∧ c.wai ≤ 1000) ∧ (1 ≤ c.tri ∧ c.tri ≤ 4) ∧
  (c.ups / 2 * c.hdg + c.tri * c.wai ≤ c.ded ∧ c.ded ≤ 100000) ∧ (1 ≤ c.res ∧ c.res ≤ 100000) ∧ (1 ≤ c.lim ∧ c.lim ≤ 100) ∧ (0 ≤ c.cac ∧ c.cac ≤ 256) ∧ (1 ≤ c.fli ∧ c.fli ≤ 32) ∧
  (1 ≤ c.wtr ∧ c.wtr ≤ 16) ∧ (0 ≤ c.ttl ∧ c.ttl ≤ 2147483647) ∧ (512 ≤ c.siz ∧ c.siz ≤ 4096)
instance (c : Cf) : Decidable (mayK c) := by unfold mayK; infer_instance
set_option maxRecDepth 100000 in
set_option maxHeartbeats 8000000 in
theorem mayNum_S (c : Cf) (v : Value) : Spec Tryd.prog G 26 #[.agg (cfCells c v).toArray] L fun u M => u = .bool (Cn.mayNum c) ∧ M = L := by
  refine Spec_of (n := 81) Tryd.func26 rfl rfl rfl ?_
  refine T_seq (T_region (TL_new (op_boxA rfl) rfl ?_))
  intro b1
  have g0 : (cfCells (c) (v)).toArray[0 + 0]? = some (.int .i64 (c).ups) := rfl
  have g1 : (cfCells (c) (v)).toArray[0 + 1]? = some (.int .i64 (c).ded) := rfl
  have g2 : (cfCells (c) (v)).toArray[0 + 2]? = some (.int .i64 (c).hdg) := rfl
  have g3 : (cfCells (c) (v)).toArray[0 + 3]? = some (.int .i64 (c).wai) := rfl
  have g4 : (cfCells (c) (v)).toArray[0 + 4]? = some (.int .i64 (c).tri) := rfl
  have g5 : (cfCells (c) (v)).toArray[0 + 5]? = some (.int .i64 (c).res) := rfl
  have g6 : (cfCells (c) (v)).toArray[0 + 6]? = some (.int .i64 (c).lim) := rfl
  have g7 : (cfCells (c) (v)).toArray[0 + 7]? = some (.int .i64 (c).cac) := rfl
  have g8 : (cfCells (c) (v)).toArray[0 + 8]? = some (.int .i64 (c).fli) := rfl
  have g9 : (cfCells (c) (v)).toArray[0 + 9]? = some (.int .i64 (c).wtr) := rfl
  have g10 : (cfCells (c) (v)).toArray[0 + 10]? = some (.int .i64 (c).ttl) := rfl
  have g11 : (cfCells (c) (v)).toArray[0 + 11]? = some (.int .i64 (c).siz) := rfl
  have g12 : (cfCells (c) (v)).toArray[0 + 12]? = some (v) := rfl
  have no : ¬ mayK c → false = Cn.mayNum c := fun k => (decide_eq_false k).symm
  by_cases h1 : 1 ≤ c.ups ∧ c.ups ≤ 9
  rotate_left
  · repeat ((first | with_reducible refine T_seq ?_ | with_reducible refine T_region ?_ | with_reducible refine TL_nil ?_ | with_reducible refine TQ_then ?_ | with_reducible refine T_ret ?_ | with_reducible refine TQ_then_ret ?_ | refine TL_q (op_move rfl) rfl ?_ | refine TL_q (op_assign rfl) rfl ?_ | refine TL_q (op_not rfl) rfl ?_ | (refine' TL_q (op_pickT rfl ?_ rfl) rfl ?_; (· (exact xT (by (exact dF (by (assumption))))))) | refine TL_q (op_fld rfl fld_25_0) rfl ?_ | (refine' TL_q (op_ld rfl pl_3 ?_ ?_) rfl ?_; rotate_left 4; (· repeat ((exact List.mem_cons_self))); (· (assumption))) | (refine' TL_op (op_call hb_50 rfl (between_S _ _ _ )) rfl ?_) | (refine TL_gno rfl rfl ?_ rfl ?_; (· (exact xT (by (exact dF (by (assumption))))))) | (refine T_yes rfl ?_ ?_; (· (with_reducible rfl)))))
    refine TQ_heap (fun w h => h.tail) ?_
    refine TQ_ret1 2 _ rfl rfl ?_
    exact ⟨congrArg Value.bool (no fun k => h1 (by unfold mayK at k; omega)), rfl⟩
  by_cases he : c.ups % 2 = 1
  rotate_left
  · repeat ((first | with_reducible refine T_seq ?_ | with_reducible refine T_region ?_ | with_reducible refine TL_nil ?_ | with_reducible refine TQ_then ?_ | with_reducible refine T_ret ?_ | with_reducible refine TQ_then_ret ?_ | refine TL_q (op_move rfl) rfl ?_ | refine TL_q (op_assign rfl) rfl ?_ | refine TL_q (op_not rfl) rfl ?_ | (refine' TL_q (op_pickF rfl ?_ rfl) rfl ?_; (· (exact xF (by (exact dT (by (assumption))))))) | refine TL_q (op_fld rfl fld_25_0) rfl ?_ | (refine' TL_q (op_ld rfl pl_3 ?_ ?_) rfl ?_; rotate_left 4; (· repeat ((exact List.mem_cons_self))); (· (assumption))) | (refine' TL_op (op_call hb_50 rfl (between_S _ _ _ )) rfl ?_) | (refine TL_gpre rfl rfl ?_ ?_; (· (exact xF (by (exact dT (by (assumption))))))) | (refine' TL_gq2 (op_bin rfl rfl ?_) rfl ?_; rotate_left 1; (· (first | exact bin_rem (by omega) (by omega) | exact bin_eql))) | refine TL_gq2 (op_fld rfl fld_25_0) rfl ?_ | (refine' TL_gq2 (op_ld rfl pl_3 ?_ ?_) rfl ?_; rotate_left 4; (· repeat ((exact List.mem_cons_self))); (· (assumption))) | (refine T_yes rfl ?_ ?_; (· (exact dT (by (omega)))))))
    refine TQ_heap (fun w h => h.tail) ?_
    refine TQ_ret1 2 _ rfl rfl ?_
    exact ⟨congrArg Value.bool (no fun k => he (by unfold mayK at k; omega)), rfl⟩
  by_cases h2 : 1 ≤ c.hdg ∧ c.hdg ≤ 1000
  rotate_left
  · repeat ((first | with_reducible refine T_seq ?_ | with_reducible refine T_region ?_ | with_reducible refine TL_nil ?_ | with_reducible refine TQ_then ?_ | with_reducible refine T_skip ?_ | with_reducible refine T_ret ?_ | with_reducible refine TQ_then_ret ?_ | refine TL_q (op_move rfl) rfl ?_ | refine TL_q (op_assign rfl) rfl ?_ | refine TL_q (op_not rfl) rfl ?_ | (refine' TL_q (op_pickT rfl ?_ rfl) rfl ?_; (· (first | with_reducible rfl | exact xT (by (exact dF (by (assumption))))))) | (refine' TL_q (op_pickF rfl ?_ rfl) rfl ?_; (· (exact xF (by (exact dT (by (assumption))))))) | refine TL_q (op_fld rfl fld_25_0) rfl ?_ | refine TL_q (op_fld rfl fld_25_2) rfl ?_ | (refine' TL_q (op_ld rfl pl_3 ?_ ?_) rfl ?_; rotate_left 4; (· repeat ((exact List.mem_cons_self))); (· (assumption))) | (refine' TL_op (op_call hb_50 rfl (between_S _ _ _ )) rfl ?_) | (refine TL_gpre rfl rfl ?_ ?_; (· (exact xF (by (exact dT (by (assumption))))))) | (refine' TL_gq2 (op_bin rfl rfl ?_) rfl ?_; rotate_left 1; (· (first | exact bin_rem (by omega) (by omega) | exact bin_eql))) | refine TL_gq2 (op_fld rfl fld_25_0) rfl ?_ | (refine' TL_gq2 (op_ld rfl pl_3 ?_ ?_) rfl ?_; rotate_left 4; (· repeat ((exact List.mem_cons_self))); (· (assumption))) | (refine TL_gno rfl rfl ?_ rfl ?_; (· (first | exact Bool.not_false | exact xT (by (exact dF (by (assumption))))))) | (refine T_yes rfl ?_ ?_; (· (with_reducible rfl))) | (refine T_no rfl ?_ ?_; (· (exact dF (by (omega)))))))
    refine TQ_heap (fun w h => h.tail) ?_
    refine TQ_ret1 2 _ rfl rfl ?_
    exact ⟨congrArg Value.bool (no fun k => h2 (by unfold mayK at k; omega)), rfl⟩
  by_cases h3 : 1 ≤ c.wai ∧ c.wai ≤ 1000
  rotate_left
  · repeat ((first | with_reducible refine T_seq ?_ | with_reducible refine T_region ?_ | with_reducible refine TL_nil ?_ | with_reducible refine TQ_then ?_ | with_reducible refine T_skip ?_ | with_reducible refine T_ret ?_ | with_reducible refine TQ_then_ret ?_ | refine TL_q (op_move rfl) rfl ?_ | refine TL_q (op_assign rfl) rfl ?_ | refine TL_q (op_not rfl) rfl ?_ | (refine' TL_q (op_pickT rfl ?_ rfl) rfl ?_; (· (exact xT (by (exact dF (by (assumption))))))) | (refine' TL_q (op_pickF rfl ?_ rfl) rfl ?_; (· (exact xF (by (exact dT (by (assumption))))))) | refine TL_q (op_fld rfl fld_25_0) rfl ?_ | refine TL_q (op_fld rfl fld_25_2) rfl ?_ | (refine' TL_q (op_ld rfl pl_3 ?_ ?_) rfl ?_; rotate_left 4; (· repeat ((exact List.mem_cons_self))); (· (assumption))) | (refine' TL_op (op_call hb_50 rfl (between_S _ _ _ )) rfl ?_) | (refine' TG_op (op_call hb_50 rfl (between_S _ _ _ )) rfl ?_) | (refine TL_gpre rfl rfl ?_ ?_; (· (exact xF (by (exact dT (by (assumption))))))) | (refine' TL_gq2 (op_bin rfl rfl ?_) rfl ?_; rotate_left 1; (· (first | exact bin_rem (by omega) (by omega) | exact bin_eql))) | refine TL_gq2 (op_not rfl) rfl ?_ | refine TL_gq2 (op_fld rfl fld_25_0) rfl ?_ | refine TL_gq2 (op_fld rfl fld_25_3) rfl ?_ | (refine' TL_gq2 (op_ld rfl pl_3 ?_ ?_) rfl ?_; rotate_left 4; (· repeat ((exact List.mem_cons_self))); (· (assumption))) | (refine TL_gno rfl rfl ?_ rfl ?_; (· (exact xT (by (exact dF (by (assumption))))))) | (refine T_yes rfl ?_ ?_; (· (with_reducible rfl))) | (refine T_no rfl ?_ ?_; (· (exact dF (by (omega)))))))
    refine TQ_heap (fun w h => h.tail) ?_
    refine TQ_ret1 2 _ rfl rfl ?_
    exact ⟨congrArg Value.bool (no fun k => h3 (by unfold mayK at k; omega)), rfl⟩
  by_cases h4 : 1 ≤ c.tri ∧ c.tri ≤ 4
  rotate_left
  · repeat ((first | with_reducible refine T_seq ?_ | with_reducible refine T_region ?_ | with_reducible refine TL_nil ?_ | with_reducible refine TQ_then ?_ | with_reducible refine T_skip ?_ | with_reducible refine T_ret ?_ | with_reducible refine TQ_then_ret ?_ | refine TL_q (op_move rfl) rfl ?_ | refine TL_q (op_assign rfl) rfl ?_ | refine TL_q (op_not rfl) rfl ?_ | (refine' TL_q (op_pickF rfl ?_ rfl) rfl ?_; (· (exact xF (by (exact dT (by (assumption))))))) | refine TL_q (op_fld rfl fld_25_0) rfl ?_ | refine TL_q (op_fld rfl fld_25_2) rfl ?_ | (refine' TL_q (op_ld rfl pl_3 ?_ ?_) rfl ?_; rotate_left 4; (· repeat ((exact List.mem_cons_self))); (· (assumption))) | (refine' TL_op (op_call hb_50 rfl (between_S _ _ _ )) rfl ?_) | (refine' TG_op (op_call hb_50 rfl (between_S _ _ _ )) rfl ?_) | (refine TL_gpre rfl rfl ?_ ?_; (· (exact xF (by (exact dT (by (assumption))))))) | (refine' TL_gq2 (op_bin rfl rfl ?_) rfl ?_; rotate_left 1; (· (first | exact bin_rem (by omega) (by omega) | exact bin_eql))) | refine TL_gq2 (op_not rfl) rfl ?_ | refine TL_gq2 (op_fld rfl fld_25_0) rfl ?_ | refine TL_gq2 (op_fld rfl fld_25_3) rfl ?_ | refine TL_gq2 (op_fld rfl fld_25_4) rfl ?_ | (refine' TL_gq2 (op_ld rfl pl_3 ?_ ?_) rfl ?_; rotate_left 4; (· repeat ((exact List.mem_cons_self))); (· (assumption))) | (refine T_yes rfl ?_ ?_; (· (exact xT (by (exact dF (by (assumption))))))) | (refine T_no rfl ?_ ?_; (· (exact dF (by (omega)))))))
    refine TQ_heap (fun w h => h.tail) ?_
    refine TQ_ret1 2 _ rfl rfl ?_
    exact ⟨congrArg Value.bool (no fun k => h4 (by unfold mayK at k; omega)), rfl⟩
  have m1 : 0 ≤ c.ups / 2 * c.hdg ∧ c.ups / 2 * c.hdg ≤ 4000 := ⟨Int.mul_nonneg (by omega) (by omega), Int.le_trans (Int.mul_le_mul (show c.ups / 2 ≤ 4 by omega) h2.2 (by omega) (by omega)) (by decide)⟩
  have m2 : 0 ≤ c.tri * c.wai ∧ c.tri * c.wai ≤ 4000 := ⟨Int.mul_nonneg (by omega) (by omega), Int.le_trans (Int.mul_le_mul h4.2 h3.2 (by omega) (by omega)) (by decide)⟩
  by_cases h5 : c.ups / 2 * c.hdg + c.tri * c.wai ≤ c.ded ∧ c.ded ≤ 100000
  rotate_left
  · repeat ((first | with_reducible refine T_seq ?_ | with_reducible refine T_region ?_ | with_reducible refine TL_nil ?_ | with_reducible refine TQ_then ?_ | with_reducible refine T_skip ?_ | with_reducible refine T_ret ?_ | refine TL_q (op_move rfl) rfl ?_ | refine TL_q (op_assign rfl) rfl ?_ | (refine' TL_q (op_bin rfl rfl ?_) rfl ?_; rotate_left 1; (· (first | exact bin_add ⟨by omega, by omega⟩ | exact bin_mul ⟨by omega, by omega⟩ | exact bin_quo (by omega) (by omega) ⟨by omega, by omega⟩))) | refine TL_q (op_not rfl) rfl ?_ | (refine' TL_q (op_pickF rfl ?_ rfl) rfl ?_; (· (first | with_reducible rfl | exact dF (by (assumption)) | exact xF (by (exact dT (by (assumption))))))) | refine TL_q (op_fld rfl fld_25_0) rfl ?_ | refine TL_q (op_fld rfl fld_25_1) rfl ?_ | refine TL_q (op_fld rfl fld_25_2) rfl ?_ | refine TL_q (op_fld rfl fld_25_3) rfl ?_ | refine TL_q (op_fld rfl fld_25_4) rfl ?_ | (refine' TL_q (op_ld rfl pl_3 ?_ ?_) rfl ?_; rotate_left 4; (· repeat ((exact List.mem_cons_self))); (· (assumption))) | (refine' TL_op (op_call hb_50 rfl (between_S _ _ _ )) rfl ?_) | (refine' TG_op (op_call hb_50 rfl (between_S _ _ _ )) rfl ?_) | (refine TL_gpre rfl rfl ?_ ?_; (· (exact xF (by (exact dT (by (assumption))))))) | (refine' TL_gq2 (op_bin rfl rfl ?_) rfl ?_; rotate_left 1; (· (first | exact bin_rem (by omega) (by omega) | exact bin_eql))) | refine TL_gq2 (op_not rfl) rfl ?_ | refine TL_gq2 (op_fld rfl fld_25_0) rfl ?_ | refine TL_gq2 (op_fld rfl fld_25_3) rfl ?_ | refine TL_gq2 (op_fld rfl fld_25_4) rfl ?_ | (refine' TL_gq2 (op_ld rfl pl_3 ?_ ?_) rfl ?_; rotate_left 4; (· repeat ((exact List.mem_cons_self))); (· (assumption))) | (refine TL_gno rfl rfl ?_ rfl ?_; (· (first | exact Bool.not_true | exact dF (by (assumption))))) | (refine T_no rfl ?_ ?_; (· (first | exact dF (by (first | assumption | omega)) | exact xF (by (exact dT (by (assumption)))))))))
    refine TQ_heap (fun w h => h.tail) ?_
    refine TQ_ret1 2 _ rfl rfl ?_
    exact ⟨congrArg Value.bool (no fun k => h5 (by unfold mayK at k; omega)), rfl⟩
  by_cases h6 : 1 ≤ c.res ∧ c.res ≤ 100000
  rotate_left
  · repeat ((first | with_reducible refine T_seq ?_ | with_reducible refine T_region ?_ | with_reducible refine TL_nil ?_ | with_reducible refine TQ_then ?_ | with_reducible refine T_skip ?_ | with_reducible refine T_ret ?_ | refine TL_q (op_move rfl) rfl ?_ | refine TL_q (op_assign rfl) rfl ?_ | (refine' TL_q (op_bin rfl rfl ?_) rfl ?_; rotate_left 1; (· (first | exact bin_add ⟨by omega, by omega⟩ | exact bin_mul ⟨by omega, by omega⟩ | exact bin_quo (by omega) (by omega) ⟨by omega, by omega⟩))) | refine TL_q (op_not rfl) rfl ?_ | (refine' TL_q (op_pickT rfl ?_ rfl) rfl ?_; (· (exact dT (by (assumption))))) | (refine' TL_q (op_pickF rfl ?_ rfl) rfl ?_; (· (first | with_reducible rfl | exact dF (by (assumption)) | exact xF (by (exact dT (by (assumption))))))) | refine TL_q (op_fld rfl fld_25_0) rfl ?_ | refine TL_q (op_fld rfl fld_25_1) rfl ?_ | refine TL_q (op_fld rfl fld_25_2) rfl ?_ | refine TL_q (op_fld rfl fld_25_3) rfl ?_ | refine TL_q (op_fld rfl fld_25_4) rfl ?_ | (refine' TL_q (op_ld rfl pl_3 ?_ ?_) rfl ?_; rotate_left 4; (· repeat ((exact List.mem_cons_self))); (· (assumption))) | (refine' TL_op (op_call hb_50 rfl (between_S _ _ _ )) rfl ?_) | (refine' TG_op (op_call hb_50 rfl (between_S _ _ _ )) rfl ?_) | (refine TL_gpre rfl rfl ?_ ?_; (· (first | exact dT (by (assumption)) | exact xF (by (exact dT (by (assumption))))))) | (refine' TL_gq2 (op_bin rfl rfl ?_) rfl ?_; rotate_left 1; (· (first | exact bin_rem (by omega) (by omega) | exact bin_eql))) | refine TL_gq2 (op_not rfl) rfl ?_ | refine TL_gq2 (op_fld rfl fld_25_0) rfl ?_ | refine TL_gq2 (op_fld rfl fld_25_3) rfl ?_ | refine TL_gq2 (op_fld rfl fld_25_4) rfl ?_ | refine TL_gq2 (op_fld rfl fld_25_5) rfl ?_ | (refine' TL_gq2 (op_ld rfl pl_3 ?_ ?_) rfl ?_; rotate_left 4; (· repeat ((exact List.mem_cons_self))); (· (assumption))) | (refine TL_gno rfl rfl ?_ rfl ?_; (· (first | exact Bool.not_true | exact dF (by (assumption))))) | (refine T_no rfl ?_ ?_; (· (first | exact dF (by (first | assumption | omega)) | exact xF (by (exact dT (by (assumption)))))))))
    refine TQ_heap (fun w h => h.tail) ?_
    refine TQ_ret1 2 _ rfl rfl ?_
    exact ⟨congrArg Value.bool (no fun k => h6 (by unfold mayK at k; omega)), rfl⟩
  by_cases h7 : 1 ≤ c.lim ∧ c.lim ≤ 100
  rotate_left
  · repeat ((first | with_reducible refine T_seq ?_ | with_reducible refine T_region ?_ | with_reducible refine TL_nil ?_ | with_reducible refine TQ_then ?_ | with_reducible refine T_skip ?_ | with_reducible refine T_ret ?_ | refine TL_q (op_move rfl) rfl ?_ | refine TL_q (op_assign rfl) rfl ?_ | (refine' TL_q (op_bin rfl rfl ?_) rfl ?_; rotate_left 1; (· (first | exact bin_add ⟨by omega, by omega⟩ | exact bin_mul ⟨by omega, by omega⟩ | exact bin_quo (by omega) (by omega) ⟨by omega, by omega⟩))) | refine TL_q (op_not rfl) rfl ?_ | (refine' TL_q (op_pickT rfl ?_ rfl) rfl ?_; (· (exact dT (by (assumption))))) | (refine' TL_q (op_pickF rfl ?_ rfl) rfl ?_; (· (first | with_reducible rfl | exact dF (by (assumption)) | exact xF (by (exact dT (by (assumption))))))) | refine TL_q (op_fld rfl fld_25_0) rfl ?_ | refine TL_q (op_fld rfl fld_25_1) rfl ?_ | refine TL_q (op_fld rfl fld_25_2) rfl ?_ | refine TL_q (op_fld rfl fld_25_3) rfl ?_ | refine TL_q (op_fld rfl fld_25_4) rfl ?_ | (refine' TL_q (op_ld rfl pl_3 ?_ ?_) rfl ?_; rotate_left 4; (· repeat ((exact List.mem_cons_self))); (· (assumption))) | (refine' TL_op (op_call hb_50 rfl (between_S _ _ _ )) rfl ?_) | (refine' TG_op (op_call hb_50 rfl (between_S _ _ _ )) rfl ?_) | (refine TL_gpre rfl rfl ?_ ?_; (· (first | exact dT (by (assumption)) | exact xF (by (exact dT (by (assumption))))))) | (refine' TL_gq2 (op_bin rfl rfl ?_) rfl ?_; rotate_left 1; (· (first | exact bin_rem (by omega) (by omega) | exact bin_eql))) | refine TL_gq2 (op_not rfl) rfl ?_ | refine TL_gq2 (op_fld rfl fld_25_0) rfl ?_ | refine TL_gq2 (op_fld rfl fld_25_3) rfl ?_ | refine TL_gq2 (op_fld rfl fld_25_4) rfl ?_ | refine TL_gq2 (op_fld rfl fld_25_5) rfl ?_ | refine TL_gq2 (op_fld rfl fld_25_6) rfl ?_ | (refine' TL_gq2 (op_ld rfl pl_3 ?_ ?_) rfl ?_; rotate_left 4; (· repeat ((exact List.mem_cons_self))); (· (assumption))) | (refine TL_gno rfl rfl ?_ rfl ?_; (· (first | exact Bool.not_true | exact dF (by (assumption))))) | (refine T_no rfl ?_ ?_; (· (first | exact dF (by (first | assumption | omega)) | exact xF (by (exact dT (by (assumption)))))))))
    refine TQ_heap (fun w h => h.tail) ?_
    refine TQ_ret1 2 _ rfl rfl ?_
    exact ⟨congrArg Value.bool (no fun k => h7 (by unfold mayK at k; omega)), rfl⟩
  by_cases h8 : 0 ≤ c.cac ∧ c.cac ≤ 256
  rotate_left
  · repeat ((first | with_reducible refine T_seq ?_ | with_reducible refine T_region ?_ | with_reducible refine TL_nil ?_ | with_reducible refine TQ_then ?_ | with_reducible refine T_skip ?_ | with_reducible refine T_ret ?_ | refine TL_q (op_move rfl) rfl ?_ | refine TL_q (op_assign rfl) rfl ?_ | (refine' TL_q (op_bin rfl rfl ?_) rfl ?_; rotate_left 1; (· (first | exact bin_add ⟨by omega, by omega⟩ | exact bin_mul ⟨by omega, by omega⟩ | exact bin_quo (by omega) (by omega) ⟨by omega, by omega⟩))) | refine TL_q (op_not rfl) rfl ?_ | (refine' TL_q (op_pickT rfl ?_ rfl) rfl ?_; (· (exact dT (by (assumption))))) | (refine' TL_q (op_pickF rfl ?_ rfl) rfl ?_; (· (first | with_reducible rfl | exact dF (by (assumption)) | exact xF (by (exact dT (by (assumption))))))) | refine TL_q (op_fld rfl fld_25_0) rfl ?_ | refine TL_q (op_fld rfl fld_25_1) rfl ?_ | refine TL_q (op_fld rfl fld_25_2) rfl ?_ | refine TL_q (op_fld rfl fld_25_3) rfl ?_ | refine TL_q (op_fld rfl fld_25_4) rfl ?_ | (refine' TL_q (op_ld rfl pl_3 ?_ ?_) rfl ?_; rotate_left 4; (· repeat ((exact List.mem_cons_self))); (· (assumption))) | (refine' TL_op (op_call hb_50 rfl (between_S _ _ _ )) rfl ?_) | (refine' TG_op (op_call hb_50 rfl (between_S _ _ _ )) rfl ?_) | (refine TL_gpre rfl rfl ?_ ?_; (· (first | exact dT (by (assumption)) | exact xF (by (exact dT (by (assumption))))))) | (refine' TL_gq2 (op_bin rfl rfl ?_) rfl ?_; rotate_left 1; (· (first | exact bin_rem (by omega) (by omega) | exact bin_eql))) | refine TL_gq2 (op_not rfl) rfl ?_ | refine TL_gq2 (op_fld rfl fld_25_0) rfl ?_ | refine TL_gq2 (op_fld rfl fld_25_3) rfl ?_ | refine TL_gq2 (op_fld rfl fld_25_4) rfl ?_ | refine TL_gq2 (op_fld rfl fld_25_5) rfl ?_ | refine TL_gq2 (op_fld rfl fld_25_6) rfl ?_ | refine TL_gq2 (op_fld rfl fld_25_7) rfl ?_ | (refine' TL_gq2 (op_ld rfl pl_3 ?_ ?_) rfl ?_; rotate_left 4; (· repeat ((exact List.mem_cons_self))); (· (assumption))) | (refine TL_gno rfl rfl ?_ rfl ?_; (· (first | exact Bool.not_true | exact dF (by (assumption))))) | (refine T_no rfl ?_ ?_; (· (first | exact dF (by (first | assumption | omega)) | exact xF (by (exact dT (by (assumption)))))))))
    refine TQ_heap (fun w h => h.tail) ?_
    refine TQ_ret1 2 _ rfl rfl ?_
    exact ⟨congrArg Value.bool (no fun k => h8 (by unfold mayK at k; omega)), rfl⟩
  by_cases h9 : 1 ≤ c.fli ∧ c.fli ≤ 32
  rotate_left
  · repeat ((first | with_reducible refine T_seq ?_ | with_reducible refine T_region ?_ | with_reducible refine TL_nil ?_ | with_reducible refine TQ_then ?_ | with_reducible refine T_skip ?_ | with_reducible refine T_ret ?_ | refine TL_q (op_move rfl) rfl ?_ | refine TL_q (op_assign rfl) rfl ?_ | (refine' TL_q (op_bin rfl rfl ?_) rfl ?_; rotate_left 1; (· (first | exact bin_add ⟨by omega, by omega⟩ | exact bin_mul ⟨by omega, by omega⟩ | exact bin_quo (by omega) (by omega) ⟨by omega, by omega⟩))) | refine TL_q (op_not rfl) rfl ?_ | (refine' TL_q (op_pickT rfl ?_ rfl) rfl ?_; (· (exact dT (by (assumption))))) | (refine' TL_q (op_pickF rfl ?_ rfl) rfl ?_; (· (first | with_reducible rfl | exact dF (by (assumption)) | exact xF (by (exact dT (by (assumption))))))) | refine TL_q (op_fld rfl fld_25_0) rfl ?_ | refine TL_q (op_fld rfl fld_25_1) rfl ?_ | refine TL_q (op_fld rfl fld_25_2) rfl ?_ | refine TL_q (op_fld rfl fld_25_3) rfl ?_ | refine TL_q (op_fld rfl fld_25_4) rfl ?_ | (refine' TL_q (op_ld rfl pl_3 ?_ ?_) rfl ?_; rotate_left 4; (· repeat ((exact List.mem_cons_self))); (· (assumption))) | (refine' TL_op (op_call hb_50 rfl (between_S _ _ _ )) rfl ?_) | (refine' TG_op (op_call hb_50 rfl (between_S _ _ _ )) rfl ?_) | (refine TL_gpre rfl rfl ?_ ?_; (· (first | exact dT (by (assumption)) | exact xF (by (exact dT (by (assumption))))))) | (refine' TL_gq2 (op_bin rfl rfl ?_) rfl ?_; rotate_left 1; (· (first | exact bin_rem (by omega) (by omega) | exact bin_eql))) | refine TL_gq2 (op_not rfl) rfl ?_ | refine TL_gq2 (op_fld rfl fld_25_0) rfl ?_ | refine TL_gq2 (op_fld rfl fld_25_3) rfl ?_ | refine TL_gq2 (op_fld rfl fld_25_4) rfl ?_ | refine TL_gq2 (op_fld rfl fld_25_5) rfl ?_ | refine TL_gq2 (op_fld rfl fld_25_6) rfl ?_ | refine TL_gq2 (op_fld rfl fld_25_7) rfl ?_ | refine TL_gq2 (op_fld rfl fld_25_8) rfl ?_ | (refine' TL_gq2 (op_ld rfl pl_3 ?_ ?_) rfl ?_; rotate_left 4; (· repeat ((exact List.mem_cons_self))); (· (assumption))) | (refine TL_gno rfl rfl ?_ rfl ?_; (· (first | exact Bool.not_true | exact dF (by (assumption))))) | (refine T_no rfl ?_ ?_; (· (first | exact dF (by (first | assumption | omega)) | exact xF (by (exact dT (by (assumption)))))))))
    refine TQ_heap (fun w h => h.tail) ?_
    refine TQ_ret1 2 _ rfl rfl ?_
    exact ⟨congrArg Value.bool (no fun k => h9 (by unfold mayK at k; omega)), rfl⟩
  by_cases h10 : 1 ≤ c.wtr ∧ c.wtr ≤ 16
  rotate_left
  · repeat ((first | with_reducible refine T_seq ?_ | with_reducible refine T_region ?_ | with_reducible refine TL_nil ?_ | with_reducible refine TQ_then ?_ | with_reducible refine T_skip ?_ | with_reducible refine T_ret ?_ | refine TL_q (op_move rfl) rfl ?_ | refine TL_q (op_assign rfl) rfl ?_ | (refine' TL_q (op_bin rfl rfl ?_) rfl ?_; rotate_left 1; (· (first | exact bin_add ⟨by omega, by omega⟩ | exact bin_mul ⟨by omega, by omega⟩ | exact bin_quo (by omega) (by omega) ⟨by omega, by omega⟩))) | refine TL_q (op_not rfl) rfl ?_ | (refine' TL_q (op_pickT rfl ?_ rfl) rfl ?_; (· (exact dT (by (assumption))))) | (refine' TL_q (op_pickF rfl ?_ rfl) rfl ?_; (· (first | with_reducible rfl | exact dF (by (assumption)) | exact xF (by (exact dT (by (assumption))))))) | refine TL_q (op_fld rfl fld_25_0) rfl ?_ | refine TL_q (op_fld rfl fld_25_1) rfl ?_ | refine TL_q (op_fld rfl fld_25_2) rfl ?_ | refine TL_q (op_fld rfl fld_25_3) rfl ?_ | refine TL_q (op_fld rfl fld_25_4) rfl ?_ | (refine' TL_q (op_ld rfl pl_3 ?_ ?_) rfl ?_; rotate_left 4; (· repeat ((exact List.mem_cons_self))); (· (assumption))) | (refine' TL_op (op_call hb_50 rfl (between_S _ _ _ )) rfl ?_) | (refine' TG_op (op_call hb_50 rfl (between_S _ _ _ )) rfl ?_) | (refine TL_gpre rfl rfl ?_ ?_; (· (first | exact dT (by (assumption)) | exact xF (by (exact dT (by (assumption))))))) | (refine' TL_gq2 (op_bin rfl rfl ?_) rfl ?_; rotate_left 1; (· (first | exact bin_rem (by omega) (by omega) | exact bin_eql))) | refine TL_gq2 (op_not rfl) rfl ?_ | refine TL_gq2 (op_fld rfl fld_25_0) rfl ?_ | refine TL_gq2 (op_fld rfl fld_25_3) rfl ?_ | refine TL_gq2 (op_fld rfl fld_25_4) rfl ?_ | refine TL_gq2 (op_fld rfl fld_25_5) rfl ?_ | refine TL_gq2 (op_fld rfl fld_25_6) rfl ?_ | refine TL_gq2 (op_fld rfl fld_25_7) rfl ?_ | refine TL_gq2 (op_fld rfl fld_25_8) rfl ?_ | refine TL_gq2 (op_fld rfl fld_25_9) rfl ?_ | (refine' TL_gq2 (op_ld rfl pl_3 ?_ ?_) rfl ?_; rotate_left 4; (· repeat ((exact List.mem_cons_self))); (· (assumption))) | (refine TL_gno rfl rfl ?_ rfl ?_; (· (first | exact Bool.not_true | exact dF (by (assumption))))) | (refine T_no rfl ?_ ?_; (· (first | exact dF (by (first | assumption | omega)) | exact xF (by (exact dT (by (assumption)))))))))
    refine TQ_heap (fun w h => h.tail) ?_
    refine TQ_ret1 2 _ rfl rfl ?_
    exact ⟨congrArg Value.bool (no fun k => h10 (by unfold mayK at k; omega)), rfl⟩
  by_cases h11 : 0 ≤ c.ttl ∧ c.ttl ≤ 2147483647
  rotate_left
  · repeat ((first | with_reducible refine T_seq ?_ | with_reducible refine T_region ?_ | with_reducible refine TL_nil ?_ | with_reducible refine TQ_then ?_ | with_reducible refine T_skip ?_ | with_reducible refine T_ret ?_ | refine TL_q (op_move rfl) rfl ?_ | refine TL_q (op_assign rfl) rfl ?_ | (refine' TL_q (op_bin rfl rfl ?_) rfl ?_; rotate_left 1; (· (first | exact bin_add ⟨by omega, by omega⟩ | exact bin_mul ⟨by omega, by omega⟩ | exact bin_quo (by omega) (by omega) ⟨by omega, by omega⟩))) | refine TL_q (op_not rfl) rfl ?_ | (refine' TL_q (op_pickT rfl ?_ rfl) rfl ?_; (· (exact dT (by (assumption))))) | (refine' TL_q (op_pickF rfl ?_ rfl) rfl ?_; (· (first | exact dF (by (assumption)) | exact xF (by (exact dT (by (assumption))))))) | refine TL_q (op_fld rfl fld_25_0) rfl ?_ | refine TL_q (op_fld rfl fld_25_1) rfl ?_ | refine TL_q (op_fld rfl fld_25_2) rfl ?_ | refine TL_q (op_fld rfl fld_25_3) rfl ?_ | refine TL_q (op_fld rfl fld_25_4) rfl ?_ | (refine' TL_q (op_ld rfl pl_3 ?_ ?_) rfl ?_; rotate_left 4; (· repeat ((exact List.mem_cons_self))); (· (assumption))) | (refine' TL_op (op_call hb_50 rfl (between_S _ _ _ )) rfl ?_) | (refine' TG_op (op_call hb_50 rfl (between_S _ _ _ )) rfl ?_) | (refine TL_gpre rfl rfl ?_ ?_; (· (first | exact dT (by (assumption)) | exact xF (by (exact dT (by (assumption))))))) | (refine' TL_gq2 (op_bin rfl rfl ?_) rfl ?_; rotate_left 1; (· (first | exact bin_rem (by omega) (by omega) | exact bin_eql))) | refine TL_gq2 (op_not rfl) rfl ?_ | refine TL_gq2 (op_fld rfl fld_25_0) rfl ?_ | refine TL_gq2 (op_fld rfl fld_25_3) rfl ?_ | refine TL_gq2 (op_fld rfl fld_25_4) rfl ?_ | refine TL_gq2 (op_fld rfl fld_25_5) rfl ?_ | refine TL_gq2 (op_fld rfl fld_25_6) rfl ?_ | refine TL_gq2 (op_fld rfl fld_25_7) rfl ?_ | refine TL_gq2 (op_fld rfl fld_25_8) rfl ?_ | refine TL_gq2 (op_fld rfl fld_25_9) rfl ?_ | refine TL_gq2 (op_fld rfl fld_25_10) rfl ?_ | (refine' TL_gq2 (op_ld rfl pl_3 ?_ ?_) rfl ?_; rotate_left 4; (· repeat ((exact List.mem_cons_self))); (· (assumption))) | (refine TL_gno rfl rfl ?_ rfl ?_; (· (exact dF (by (assumption))))) | (refine T_no rfl ?_ ?_; (· (first | exact dF (by (first | assumption | omega)) | exact xF (by (exact dT (by (assumption)))))))))
    refine TQ_heap (fun w h => h.tail) ?_
    refine TQ_ret1 2 _ rfl rfl ?_
    exact ⟨congrArg Value.bool (no fun k => h11 (by unfold mayK at k; omega)), rfl⟩
  by_cases h12 : 512 ≤ c.siz ∧ c.siz ≤ 4096
  rotate_left
  · repeat ((first | with_reducible refine T_seq ?_ | with_reducible refine T_region ?_ | with_reducible refine TL_nil ?_ | with_reducible refine TQ_then ?_ | with_reducible refine T_skip ?_ | with_reducible refine T_ret ?_ | refine TL_q (op_move rfl) rfl ?_ | refine TL_q (op_assign rfl) rfl ?_ | (refine' TL_q (op_bin rfl rfl ?_) rfl ?_; rotate_left 1; (· (first | exact bin_add ⟨by omega, by omega⟩ | exact bin_mul ⟨by omega, by omega⟩ | exact bin_quo (by omega) (by omega) ⟨by omega, by omega⟩))) | refine TL_q (op_not rfl) rfl ?_ | (refine' TL_q (op_pickT rfl ?_ rfl) rfl ?_; (· (exact dT (by (assumption))))) | (refine' TL_q (op_pickF rfl ?_ rfl) rfl ?_; (· (exact xF (by (exact dT (by (assumption))))))) | refine TL_q (op_fld rfl fld_25_0) rfl ?_ | refine TL_q (op_fld rfl fld_25_1) rfl ?_ | refine TL_q (op_fld rfl fld_25_2) rfl ?_ | refine TL_q (op_fld rfl fld_25_3) rfl ?_ | refine TL_q (op_fld rfl fld_25_4) rfl ?_ | (refine' TL_q (op_ld rfl pl_3 ?_ ?_) rfl ?_; rotate_left 4; (· repeat ((exact List.mem_cons_self))); (· (assumption))) | (refine' TL_op (op_call hb_50 rfl (between_S _ _ _ )) rfl ?_) | (refine' TG_op (op_call hb_50 rfl (between_S _ _ _ )) rfl ?_) | (refine TL_gpre rfl rfl ?_ ?_; (· (first | exact dT (by (assumption)) | exact xF (by (exact dT (by (assumption))))))) | (refine' TL_gq2 (op_bin rfl rfl ?_) rfl ?_; rotate_left 1; (· (first | exact bin_rem (by omega) (by omega) | exact bin_eql))) | refine TL_gq2 (op_not rfl) rfl ?_ | refine TL_gq2 (op_fld rfl fld_25_0) rfl ?_ | refine TL_gq2 (op_fld rfl fld_25_3) rfl ?_ | refine TL_gq2 (op_fld rfl fld_25_4) rfl ?_ | refine TL_gq2 (op_fld rfl fld_25_5) rfl ?_ | refine TL_gq2 (op_fld rfl fld_25_6) rfl ?_ | refine TL_gq2 (op_fld rfl fld_25_7) rfl ?_ | refine TL_gq2 (op_fld rfl fld_25_8) rfl ?_ | refine TL_gq2 (op_fld rfl fld_25_9) rfl ?_ | refine TL_gq2 (op_fld rfl fld_25_10) rfl ?_ | refine TL_gq2 (op_fld rfl fld_25_11) rfl ?_ | (refine' TL_gq2 (op_ld rfl pl_3 ?_ ?_) rfl ?_; rotate_left 4; (· repeat ((exact List.mem_cons_self))); (· (assumption))) | (refine T_no rfl ?_ ?_; (· (first | exact dF (by (first | assumption | omega)) | exact xF (by (exact dT (by (assumption)))))))))
    refine TQ_heap (fun w h => h.tail) ?_
    refine TQ_ret1 2 _ rfl rfl ?_
    exact ⟨congrArg Value.bool ((decide_eq_false h12).trans <| no fun k => h12 (by unfold mayK at k; omega)), rfl⟩
  have yes : true = Cn.mayNum c := (decide_eq_true (show mayK c from ⟨⟨h1.1, h1.2, he⟩, h2, h3, h4, h5, h6, h7, h8, h9, h10, h11, h12⟩)).symm
  repeat ((first | with_reducible refine T_seq ?_ | with_reducible refine T_region ?_ | with_reducible refine TL_nil ?_ | with_reducible refine TQ_then ?_ | with_reducible refine T_skip ?_ | with_reducible refine T_ret ?_ | refine TL_q (op_move rfl) rfl ?_ | refine TL_q (op_assign rfl) rfl ?_ | (refine' TL_q (op_bin rfl rfl ?_) rfl ?_; rotate_left 1; (· (first | exact bin_add ⟨by omega, by omega⟩ | exact bin_mul ⟨by omega, by omega⟩ | exact bin_quo (by omega) (by omega) ⟨by omega, by omega⟩))) | refine TL_q (op_not rfl) rfl ?_ | (refine' TL_q (op_pickT rfl ?_ rfl) rfl ?_; (· (exact dT (by (assumption))))) | (refine' TL_q (op_pickF rfl ?_ rfl) rfl ?_; (· (exact xF (by (exact dT (by (assumption))))))) | refine TL_q (op_fld rfl fld_25_0) rfl ?_ | refine TL_q (op_fld rfl fld_25_1) rfl ?_ | refine TL_q (op_fld rfl fld_25_2) rfl ?_ | refine TL_q (op_fld rfl fld_25_3) rfl ?_ | refine TL_q (op_fld rfl fld_25_4) rfl ?_ | (refine' TL_q (op_ld rfl pl_3 ?_ ?_) rfl ?_; rotate_left 4; (· repeat ((exact List.mem_cons_self))); (· (assumption))) | (refine' TL_op (op_call hb_50 rfl (between_S _ _ _ )) rfl ?_) | (refine' TG_op (op_call hb_50 rfl (between_S _ _ _ )) rfl ?_) | (refine TL_gpre rfl rfl ?_ ?_; (· (first | exact dT (by (assumption)) | exact xF (by (exact dT (by (assumption))))))) | (refine' TL_gq2 (op_bin rfl rfl ?_) rfl ?_; rotate_left 1; (· (first | exact bin_rem (by omega) (by omega) | exact bin_eql))) | refine TL_gq2 (op_not rfl) rfl ?_ | refine TL_gq2 (op_fld rfl fld_25_0) rfl ?_ | refine TL_gq2 (op_fld rfl fld_25_3) rfl ?_ | refine TL_gq2 (op_fld rfl fld_25_4) rfl ?_ | refine TL_gq2 (op_fld rfl fld_25_5) rfl ?_ | refine TL_gq2 (op_fld rfl fld_25_6) rfl ?_ | refine TL_gq2 (op_fld rfl fld_25_7) rfl ?_ | refine TL_gq2 (op_fld rfl fld_25_8) rfl ?_ | refine TL_gq2 (op_fld rfl fld_25_9) rfl ?_ | refine TL_gq2 (op_fld rfl fld_25_10) rfl ?_ | refine TL_gq2 (op_fld rfl fld_25_11) rfl ?_ | (refine' TL_gq2 (op_ld rfl pl_3 ?_ ?_) rfl ?_; rotate_left 4; (· repeat ((exact List.mem_cons_self))); (· (assumption))) | (refine T_no rfl ?_ ?_; (· (first | exact dF (by (omega)) | exact xF (by (exact dT (by (assumption)))))))))
  refine TQ_heap (fun w h => h.tail) ?_
  refine TQ_ret1 2 _ rfl rfl ?_
  exact ⟨congrArg Value.bool ((decide_eq_true h12).trans yes), rfl⟩
end Go.Proofs.YtnhlpifbadncmaaDoor
namespace Go.Proofs.YtnhlpifbadncmaaDoor
open Go.RowKit
set_option linter.unusedVariables false
set_option linter.unusedSimpArgs false
namespace Vd
abbrev Bytes := List UInt8
structure RSet where
  name : Bytes
  kind : Int
  cls : Int
  ttl : Int
  data : List Bytes
deriving DecidableEq
structure Vdt where
  code : Int
  sets : List RSet
  soa : List RSet
deriving DecidableEq
structure Vote where
  up : Int
  vd : Vdt
  time : Int
deriving DecidableEq
structure Rec where
  name : Bytes
  kind : Int
  cls : Int
  ttl : Int
  data : Bytes
deriving DecidableEq
structure Quest where
  name : Bytes
  kind : Int
  cls : Int
deriving DecidableEq
def RSet.none : RSet := ⟨[], 0, 0, 0, []⟩
def Vdt.none : Vdt := ⟨0, [], []⟩
instance : Inhabited RSet := ⟨RSet.none⟩
instance : Inhabited Vdt := ⟨Vdt.none⟩
instance : Inhabited Vote := ⟨⟨0, Vdt.none, 0⟩⟩
instance : Inhabited Rec := ⟨⟨[], 0, 0, 0, []⟩⟩
end Vd
open Vd (RSet Vdt Vote Rec Quest)
def rsR : Rp RSet := fun L cs s => ∃ d, cs = [.string (bs s.name), .int .u16 s.kind, .int .u16 s.cls, .int .u32 s.ttl, d] ∧ sliceR 1 strR L [d] s.data ∧ s.name.length ≤ maxLen ∧ (0 ≤ s.kind ∧ s.kind ≤ 65535) ∧ (0 ≤ s.cls ∧ s.cls ≤ 65535) ∧ (0 ≤ s.ttl ∧ s.ttl ≤ 4294967295)
def vdR : Rp Vdt := fun L cs v => ∃ a b, cs = [.int .u8 v.code, a, b] ∧ sliceR 5 rsR L [a] v.sets ∧ sliceR 5 rsR L [b] v.soa ∧ (0 ≤ v.code ∧ v.code ≤ 255)
def voteR : Rp Vote := fun L cs x => ∃ a b, cs = [.int .i64 x.up, .int .u8 x.vd.code, a, b, .int .u32 x.time] ∧ sliceR 5 rsR L [a] x.vd.sets ∧ sliceR 5 rsR L [b] x.vd.soa ∧ (0 ≤ x.vd.code ∧ x.vd.code ≤ 255) ∧ (0 ≤ x.time ∧ x.time ≤ 4294967295) ∧ (-9223372036854775808 ≤ x.up ∧ x.up ≤ 9223372036854775807)
def recR : Rp Rec := fun L cs x => cs = [.string (bs x.name), .int .u16 x.kind, .int .u16 x.cls, .int .u32 x.ttl, .string (bs x.data)] ∧ x.name.length ≤ maxLen ∧ x.data.length ≤ maxLen ∧ (0 ≤ x.kind ∧ x.kind ≤ 65535) ∧ (0 ≤ x.cls ∧ x.cls ≤ 65535) ∧ (0 ≤ x.ttl ∧ x.ttl ≤ 4294967295)
theorem rsR.len {L : Blocks} {cs : List Value} {s : RSet} (h : rsR L cs s) : cs.length = 5 := by obtain ⟨d, rfl, _⟩ := h; rfl
theorem rsR.one {L : Blocks} {cs : List Value} {s : RSet} (h : rsR L cs s) : ∀ v ∈ cs, v.oneCell' = true := by
  obtain ⟨d, rfl, hd, _⟩ := h
  obtain ⟨a, c, e, _⟩ := hd
  simp only [List.cons.injEq, and_true] at e
  subst e
  intro v hv
  simp only [List.mem_cons, List.not_mem_nil, or_false] at hv
  rcases hv with rfl | rfl | rfl | rfl | rfl <;> rfl
end Go.Proofs.YtnhlpifbadncmaaDoor
namespace Go.Proofs.YtnhlpifbadncmaaDoor
open Go.RowKit
open Vd (RSet Vdt Vote Rec Quest)
set_option linter.unusedVariables false
set_option linter.unusedSimpArgs false
section
variable {P : Program}
end
section
variable {α : Type} {r : Rp α} {sz : Nat} {G : World} {P : Program} {ρ : Slots} {L : Blocks} {ty : TypeId}
/-- What lies somewhere, in one list of cells. -/
theorem laid_of {C : Array Value} : ∀ (m : List α) (off : Nat), (∀ i x, m[i]? = some x → ∃ cs', cs'.length = sz ∧ r L cs' x ∧ ∀ j v, cs'[j]? = some v → C[off + i * sz + j]? = some v) → ∃ news, Laid r sz L news m ∧ ∀ j v, news[j]? = some v → C[off + j]? = some v
  | [], off, _ => ⟨[], rfl, fun j v h => by simp at h⟩
  | x :: m, off, h => by
    obtain ⟨c, h1, h2, h3⟩ := h 0 x rfl
    obtain ⟨news, k1, k2⟩ := laid_of m (off + sz) (fun i y hy => by
      obtain ⟨d, q1, q2, q3⟩ := h (i + 1) y (by simpa using hy)
      refine ⟨d, q1, q2, fun j v hj => ?_⟩
      rw [← q3 j v hj]
      congr 1
      rw [Nat.succ_mul]
      omega)
    refine ⟨c ++ news, ⟨c, news, rfl, h1, h2, k1⟩, fun j v hj => ?_⟩
    by_cases hlt : j < c.length
    · rw [List.getElem?_append_left hlt] at hj
      have := h3 j v hj
      rwa [Nat.zero_mul, Nat.add_zero] at this
    · rw [List.getElem?_append_right (by omega)] at hj
      rw [← k2 _ v hj]
      congr 1
      omega
theorem op_append0 {s x : Operand} {t e : TypeId} {sz bytes : Nat} {z v : Value} {m c : Nat} {a : Option Addr} {xs : List Value} {B : Blocks} (E : ElemTy P t e sz bytes z) (hs : ev ρ s = some v) (hx : ev ρ x = some (.slice a 0 c))
    (hrow : Row e sz v m xs B) (h63 : m + 0 ≤ maxLen) (hby : (m + 0) * bytes ≤ 140737488355328) :
    OpT P G ρ (B ++ L) (.call ⟨.builtin .append, #[s, x], #[t, t]⟩) ty fun v' L' => ∃ B', Row e sz v' (m + 0) (xs ++ []) B' ∧ L' = B' ++ L :=
  ⟨fun r hr w hw o ho _ => by
    obtain ⟨i, hi, hz0, hz1, hz2⟩ := E.info
    have hown := hrow.owns hw
    have key : ∃ v' w', (Builtin.append_ #[t, t] o.type #[v, .slice a 0 c]).run P w = .ok v' w' ∧ w'.ownsRow 0 e sz v' (m + 0) (xs ++ []) ∧ w.grownBy w' v.ownBlock ∧ (v'.ownBlock = v.ownBlock ∨ v'.ownBlock = some w.heap.size) := by
      cases a with
      | none => exact ⟨v, w, run_app0 w t o.type e i c E.und hi 0 sz v m xs hown, by simpa using hown, ⟨rfl, rfl, rfl, Nat.le_refl _, fun _ _ _ => rfl⟩, Or.inl rfl⟩
      | some x =>
        obtain ⟨v', w', q1, q2, q3, _, q5⟩ := run_append_own_at w 0 t o.type e i z sz bytes E.und hi hz0 hz1 hz2 E.cells E.pos v m xs hown x 0 c [] (by simp)
          (fun j y hj => by simp at hj) (by simp) h63 hby (Nat.zero_le _)
        exact ⟨v', w', q1, q2, q3, q5⟩
    obtain ⟨v', w', hrun, q2, q3, q4⟩ := key
    obtain ⟨B', hB, hH⟩ := hrow.after hw q2 q3 q4
    have : (execOp r o).run P w = .ok (.value v') w' := by
      simp [execOp, ho, hr _ _ hs, hr _ _ hx, resolve, invoke, builtin, hrun, Result.andThen]
    rw [this]
    exact ⟨_, ⟨B', hB, rfl⟩, hH⟩⟩
end
end Go.Proofs.YtnhlpifbadncmaaDoor
namespace Go.Proofs.YtnhlpifbadncmaaDoor
open Go.RowKit
set_option linter.unusedVariables false
set_option linter.unusedSimpArgs false
variable {G : World} {P : Program} {n : Nat} {ρ : Slots} {L : Blocks} {ty : TypeId} {Q : Exit → Act → World → Prop}
/-- Where a cut begins. -/
def cutA (a : Option Addr) (c k sz : Nat) : Option Addr := if c = k then a else a.map (·.add (k * sz))
theorem op_cutFrom {x lo : Operand} {a : Option Addr} {m c : Nat} {k : IntKind} {i : Int} {t e : TypeId} {sz bytes : Nat} {z : Value} (E : ElemTy P t e sz bytes z) (hx : ev ρ x = some (.slice a m c)) (hlo : ev ρ lo = some (.int k i)) (h0 : 0 ≤ i) (h1 : i ≤ m) :
    OpQ P ρ L (.slice t x (some lo) none none) ty (.slice (cutA a c i.toNat sz) (m - i.toNat) (c - i.toNat)) :=
  ⟨fun r hr w hw o ho _ => by
    obtain ⟨inf, q2, q3, q4, q5⟩ := E.info
    simp [execOp, ho, hr _ _ hx, hr _ _ hlo, Instr.sliceAt, run_underlying E.und, Instr.slice, Instr.sliceBounds, Instr.sliceBound, asIntOf, h0, h1, sizeOf, typeInfo, q2, q4, cutA]⟩
section
variable {α : Type} {r : Rp α} {sz : Nat}
theorem sliceR.take {a : Option Addr} {m c : Nat} {l : List α} (h : sliceR sz r L [.slice a m c] l) {k : Nat} (hk : k ≤ l.length) : sliceR sz r L [.slice a k c] (l.take k) := by
  obtain ⟨h1, h2, h3, h4⟩ := sliceR.cut h
  refine ⟨a, c, by rw [List.length_take, Nat.min_eq_left hk], by rw [List.length_take]; omega, h3, ?_⟩
  rcases h4 with rfl | ⟨b, off, C, te, fr, rfl, q2, q3⟩
  · left; simp
  · right
    refine ⟨b, off, C, te, fr, rfl, q2, fun i x hx => ?_⟩
    refine q3 i x ?_
    rw [List.getElem?_take] at hx
    split at hx
    · exact hx
    · cases hx
theorem sliceR.drop {a : Option Addr} {m c : Nat} {l : List α} (h : sliceR sz r L [.slice a m c] l) {k : Nat} (hk : k ≤ l.length) : sliceR sz r L [.slice (cutA a c k sz) (m - k) (c - k)] (l.drop k) := by
  obtain ⟨h1, h2, h3, h4⟩ := sliceR.cut h
  refine ⟨cutA a c k sz, c - k, by rw [List.length_drop, h1], by rw [List.length_drop]; omega, by omega, ?_⟩
  by_cases hkl : k = l.length
  · left; rw [hkl, List.drop_length]
  · rcases h4 with rfl | ⟨b, off, C, te, fr, rfl, q2, q3⟩
    · left; simp
    · right
      have hc : ¬ c = k := by omega
      refine ⟨b, off + k * sz, C, te, fr, by unfold cutA; rw [if_neg hc]; simp [addr_add], q2, fun i x hx => ?_⟩
      rw [List.getElem?_drop] at hx
      obtain ⟨cs', k1, k2, k3⟩ := q3 (k + i) x hx
      refine ⟨cs', k1, k2, fun j v hj => ?_⟩
      rw [← k3 j v hj]
      congr 1
      rw [Nat.add_mul]
      omega
/-- The cells of one of a row that lies somewhere. -/
theorem sliceR.at {a : Option Addr} {m c : Nat} {l : List α} (h : sliceR sz r L [.slice a m c] l) {i : Nat} {x : α} (hx : l[i]? = some x) : ∃ b off C te fr, a = some ⟨b, off, none⟩ ∧ (b, Obj.cells C te fr) ∈ L ∧ ∃ cs, cs.length = sz ∧ r L cs x ∧ ∀ j v, cs[j]? = some v → C[off + i * sz + j]? = some v := by
  obtain ⟨_, _, _, h4⟩ := sliceR.cut h
  rcases h4 with rfl | ⟨b, off, C, te, fr, rfl, q2, q3⟩
  · simp at hx
  · exact ⟨b, off, C, te, fr, rfl, q2, q3 i x hx⟩
theorem sliceR.imp {r' : Rp α} {L' : Blocks} {cs : List Value} {l : List α} (h : sliceR sz r L cs l) (hL : ∀ p ∈ L, p ∈ L') (hr : ∀ cs x, x ∈ l → r L cs x → r' L' cs x) : sliceR sz r' L' cs l := by
  obtain ⟨a, cap, h1, h2, h3, h4⟩ := h
  refine ⟨a, cap, h1, h2, h3, h4.imp id ?_⟩
  rintro ⟨b, off, C, te, fr, q1, q2, q3⟩
  refine ⟨b, off, C, te, fr, q1, hL _ q2, fun i x hx => ?_⟩
  obtain ⟨cs', k1, k2, k3⟩ := q3 i x hx
  exact ⟨cs', k1, hr cs' x (List.mem_of_getElem? hx) k2, k3⟩
theorem Laid.imp {r' : Rp α} {L' : Blocks} : ∀ {l : List α} {xs : List Value}, Laid r sz L xs l → (∀ cs x, x ∈ l → r L cs x → r' L' cs x) → Laid r' sz L' xs l
  | [], _, h, _ => h
  | x :: l, _, ⟨c, ys, h1, h2, h3, h4⟩, hr => ⟨c, ys, h1, h2, hr c x (List.mem_cons_self ..) h3, Laid.imp h4 fun cs y hy => hr cs y (List.mem_cons_of_mem _ hy)⟩
theorem ORow.imp {r' : Rp α} {L' : Blocks} {e : TypeId} {a : Option Addr} {c : Nat} {l : List α} {B : Blocks} (h : ORow r e sz L a c l B) (hr : ∀ cs x, x ∈ l → r L cs x → r' L' cs x) : ORow r' e sz L' a c l B := by
  obtain ⟨xs, h1, h2, h3⟩ := h.ex
  exact ⟨xs, h1, h2.imp hr, h3⟩
/-- A row of one's own begins anew in the same memory. -/
theorem ORow.cut0 {e : TypeId} {a : Option Addr} {c : Nat} {l : List α} {B : Blocks} (h : ORow r e sz L a c l B) : ORow r e sz L a c [] B := by
  obtain ⟨xs, h1, h2, h3⟩ := h.ex
  exact ⟨[], by simpa using h1.cut0, rfl, by simp⟩
theorem ORow.one {e : TypeId} {a : Option Addr} {c : Nat} {l : List α} {B : Blocks} (h : ORow r e sz L a c l B) : (a = none ∧ B = [] ∧ l = [] ∧ c = 0) ∨ ∃ b cur, a = some ⟨b, 0, none⟩ ∧ B = [(b, .cells cur e (0, 0))] ∧ cur.size = c * sz ∧ l.length ≤ c := by
  obtain ⟨xs, h1, h2, h3⟩ := h.ex
  rcases h1.is with ⟨q1, q2, q3⟩ | ⟨b, cap, cur, q1, q2, q3, q4, q5, q6⟩
  · obtain ⟨rfl, _, rfl⟩ := Value.slice.inj q1
    exact Or.inl ⟨rfl, q3, List.eq_nil_of_length_eq_zero q2, rfl⟩
  · obtain ⟨rfl, _, rfl⟩ := Value.slice.inj q1
    exact Or.inr ⟨b, cur, rfl, q2, q5, q3⟩
theorem ORow.cap {e : TypeId} {a : Option Addr} {c : Nat} {l : List α} {B : Blocks} (h : ORow r e sz L a c l B) : l.length ≤ c ∧ c ≤ maxLen := by
  obtain ⟨xs, h1, h2, h3⟩ := h.ex
  rcases h1.is with ⟨q1, q2, q3⟩ | ⟨b, cap, cur, q1, q2, q3, q4, q5, q6⟩
  · obtain ⟨rfl, _, rfl⟩ := Value.slice.inj q1
    exact ⟨by omega, by unfold maxLen; omega⟩
  · obtain ⟨rfl, _, rfl⟩ := Value.slice.inj q1
    exact ⟨q3, q4⟩
end
/-- Memory that may be written. -/
def Wr (N : Blocks) : Prop := ∀ p ∈ N, ∃ C te, p.2 = Obj.cells C te (0, 0)
theorem Wr.nil : Wr [] := fun p hp => absurd hp (by simp)
theorem Wr.append {A B : Blocks} (h : Wr A) (k : Wr B) : Wr (A ++ B) := fun p hp => (List.mem_append.1 hp).elim (h p) (k p)
theorem Wr.cons {b : Nat} {C : Array Value} {te : TypeId} {B : Blocks} (k : Wr B) : Wr ((b, .cells C te (0, 0)) :: B) := fun p hp => by
  rcases List.mem_cons.1 hp with rfl | hp
  · exact ⟨C, te, rfl⟩
  · exact k p hp
theorem ORow.wr {α : Type} {r : Rp α} {sz : Nat} {e : TypeId} {a : Option Addr} {c : Nat} {l : List α} {B : Blocks} (h : ORow r e sz L a c l B) : Wr B := by
  rcases h.one with ⟨_, rfl, _⟩ | ⟨b, cur, _, rfl, _⟩
  · exact Wr.nil
  · exact Wr.cons Wr.nil
/-- The blocks in another row. -/
theorem TL_cnt {ops : Array Oper} {l : List Oper} {L' : Blocks} (h : TL P G ops n ρ L' l Q) (hc : ∀ p, cnt p L' ≤ cnt p L) : TL P G ops n ρ L l Q := TL_heap (fun w hw => hw.cnt hc) h
theorem TQ_cnt {e : Exit} {L' : Blocks} (h : TQ G n ρ L' e Q) (hc : ∀ p, cnt p L' ≤ cnt p L) : TQ G n ρ L e Q := TQ_heap (fun w hw => hw.cnt hc) h
/-- 'append(s, l...)', whatever the lengths are called. -/
theorem op_appendG2 {α : Type} {r : Rp α} {sz : Nat} {s x : Operand} {t e : TypeId} {bytes j k : Nat} {z : Value} {a a2 : Option Addr} {c c2 : Nat} {l m : List α} {B L0 : Blocks} (E : ElemTy P t e sz bytes z) (hs : ev ρ s = some (.slice a j c)) (hx : ev ρ x = some (.slice a2 k c2)) (hj : j = l.length) (hk : k = m.length)
    (hrow : ORow r e sz L0 a c l B) (hr : sliceR sz r L0 [.slice a2 m.length c2] m) (hr2 : ∀ q ∈ L0, q ∈ L) (hm : Mono r) (hone : ∀ cs y, r L0 cs y → ∀ v ∈ cs, v.oneCell' = true) (h63 : l.length + m.length ≤ 1000000) (hb : bytes ≤ 1000) :
    OpT P G ρ (B ++ L) (.call ⟨.builtin .append, #[s, x], #[t, t]⟩) ty fun v' L' => ∃ a' c' B', v' = .slice a' (l ++ m).length c' ∧ ORow r e sz L0 a' c' (l ++ m) B' ∧ L' = B' ++ L := by
  subst hj hk
  obtain ⟨xs, h1, h2, h3⟩ := hrow.ex
  have hlen : (l ++ m).length = l.length + m.length := by simp
  have h63' : l.length + m.length ≤ maxLen := by unfold maxLen; omega
  have hby : (l.length + m.length) * bytes ≤ 140737488355328 := Nat.le_trans (Nat.mul_le_mul h63 hb) (by decide)
  have laid_one : ∀ (m : List α) (news : List Value), Laid r sz L0 news m → ∀ v ∈ news, v.oneCell' = true := by
    intro m
    induction m with
    | nil => intro news h v hv; rw [show news = [] from h] at hv; simp at hv
    | cons y m ih =>
      rintro _ ⟨d, ys, rfl, _, q2, q3⟩ v hv
      rcases List.mem_append.1 hv with hv | hv
      · exact hone d y q2 v hv
      · exact ih ys q3 v hv
  obtain ⟨_, _, _, hc⟩ := sliceR.cut hr
  rcases hc with rfl | ⟨b, off, C, te, fr, rfl, q2, q3⟩
  · refine (op_append0 E hs hx h1 h63' hby).post fun v' M ⟨B', k1, k2⟩ => ?_
    obtain ⟨a', c', rfl⟩ := k1.slice
    refine ⟨M, ⟨a', c', B', by rw [hlen]; rfl, ⟨xs, ?_, by simpa using h2, h3⟩, k2⟩, fun w hw => hw⟩
    simpa using k1
  · obtain ⟨news, n1, n2⟩ := laid_of m off q3
    refine (op_append E hs hx h1 ⟨n1.len, laid_one m news n1, Or.inr ⟨b, off, c2, C, te, fr, rfl, hr2 _ q2, n2⟩⟩ h63' hby).post fun v' M ⟨B', k1, k2⟩ => ?_
    obtain ⟨a', c', rfl⟩ := k1.slice
    refine ⟨M, ⟨a', c', B', by rw [hlen], ⟨xs ++ news, by rw [hlen]; exact k1, h2.append n1, fun v hv => ?_⟩, k2⟩, fun w hw => hw⟩
    rcases List.mem_append.1 hv with hv | hv
    · exact h3 v hv
    · exact laid_one m news n1 v hv
end Go.Proofs.YtnhlpifbadncmaaDoor
namespace Go.Proofs.YtnhlpifbadncmaaDoor
open Go.RowKit
open Cn (Zo Cf)
set_option linter.unusedVariables false
set_option linter.unusedSimpArgs false
--auto
variable {G : World} {L : Blocks}
theorem mayZs_no {ups : Int} {zs : List Zo} {i : Nat} (hi : i < zs.length) (h : Cn.goodAt ups zs i = false) : Cn.mayZs ups zs = false := by
  unfold Cn.mayZs
  rw [Bool.and_eq_false_iff]
  right
  rw [List.all_eq_false]
  exact ⟨i, List.mem_range.2 hi, by rw [h]; decide⟩
theorem mayZs_yes {ups : Int} {zs : List Zo} (h16 : zs.length ≤ 16) (h : ∀ j < zs.length, Cn.goodAt ups zs j = true) : Cn.mayZs ups zs = true := by
  unfold Cn.mayZs
  rw [decide_eq_true h16, Bool.true_and, List.all_eq_true]
  exact fun i hi => h i (List.mem_range.1 hi)
theorem mayZs_many {ups : Int} {zs : List Zo} (h : 16 < zs.length) : Cn.mayZs ups zs = false := by
  unfold Cn.mayZs
  rw [decide_eq_false (by omega)]
  rfl
theorem good_eq {ups : Int} {zs : List Zo} {i : Nat} {z : Zo} (h : zs[i]? = some z) : Cn.goodAt ups zs i = (Cn.okZo ups z && !(zs.take i).any (fun y => y.name == z.name)) := by unfold Cn.goodAt; rw [h]
set_option maxRecDepth 100000 in
set_option maxHeartbeats 4000000 in
theorem mayZones_S (c : Cf) (v : Value) (hz : sliceR 3 zoR L [v] c.zs) (hu : 1 ≤ c.ups ∧ c.ups ≤ 9) (hs : ∀ z ∈ c.zs, z.name.length ≤ 1000000) :
    Spec Tryd.prog G 27 #[.agg (cfCells c v).toArray] L fun u M => u = .bool (Cn.mayZs c.ups c.zs) ∧ M = L := by
  obtain ⟨a, cap, e, hz⟩ := hz.val
  obtain rfl := (List.cons.inj e).1
  clear e
  have hcap := (sliceR.cut hz).2.1
  have hmax := (sliceR.cut hz).2.2.1
  unfold maxLen at hmax
  refine Spec_of (n := 69) Tryd.func27 rfl rfl rfl ?_
  refine T_seq (T_region (TL_new (op_boxA rfl) rfl ?_))
  intro b1
  have g0 : (cfCells (c) (.slice a c.zs.length cap)).toArray[0 + 0]? = some (.int .i64 (c).ups) := rfl
  have g1 : (cfCells (c) (.slice a c.zs.length cap)).toArray[0 + 1]? = some (.int .i64 (c).ded) := rfl
  have g2 : (cfCells (c) (.slice a c.zs.length cap)).toArray[0 + 2]? = some (.int .i64 (c).hdg) := rfl
  have g3 : (cfCells (c) (.slice a c.zs.length cap)).toArray[0 + 3]? = some (.int .i64 (c).wai) := rfl
  have g4 : (cfCells (c) (.slice a c.zs.length cap)).toArray[0 + 4]? = some (.int .i64 (c).tri) := rfl
  have g5 : (cfCells (c) (.slice a c.zs.length cap)).toArray[0 + 5]? = some (.int .i64 (c).res) := rfl
  have g6 : (cfCells (c) (.slice a c.zs.length cap)).toArray[0 + 6]? = some (.int .i64 (c).lim) := rfl
  have g7 : (cfCells (c) (.slice a c.zs.length cap)).toArray[0 + 7]? = some (.int .i64 (c).cac) := rfl
  have g8 : (cfCells (c) (.slice a c.zs.length cap)).toArray[0 + 8]? = some (.int .i64 (c).fli) := rfl
  have g9 : (cfCells (c) (.slice a c.zs.length cap)).toArray[0 + 9]? = some (.int .i64 (c).wtr) := rfl
  have g10 : (cfCells (c) (.slice a c.zs.length cap)).toArray[0 + 10]? = some (.int .i64 (c).ttl) := rfl
  have g11 : (cfCells (c) (.slice a c.zs.length cap)).toArray[0 + 11]? = some (.int .i64 (c).siz) := rfl
  have g12 : (cfCells (c) (.slice a c.zs.length cap)).toArray[0 + 12]? = some (.slice a c.zs.length cap) := rfl
  by_cases h16 : 16 < c.zs.length
  · rw [mayZs_many h16]
    repeat ((first | with_reducible refine T_seq ?_ | with_reducible refine T_region ?_ | with_reducible refine TL_nil ?_ | with_reducible refine TQ_then ?_ | with_reducible refine T_ret ?_ | with_reducible refine TQ_then_ret ?_ | refine TL_q (op_assign rfl) rfl ?_ | (refine' TL_q (op_bin rfl rfl ?_) rfl ?_; rotate_left 1; (· (exact bin_gtr))) | refine TL_q (op_len_slice rfl Tryd.underlying23) rfl ?_ | refine TL_q (op_fld rfl fld_25_12) rfl ?_ | (refine' TL_q (op_ld rfl pl_3 ?_ ?_) rfl ?_; rotate_left 4; (· repeat ((exact List.mem_cons_self))); (· (assumption))) | (refine T_yes rfl ?_ ?_; (· (exact dT (by (omega)))))))
    refine TQ_heap (fun w h => h.tail) ?_
    refine TQ_ret1 2 _ rfl rfl ?_
    exact ⟨rfl, rfl⟩
  repeat ((first | with_reducible refine T_seq ?_ | with_reducible refine T_block ?_ | with_reducible refine T_region ?_ | with_reducible refine TL_nil ?_ | with_reducible refine TQ_then ?_ | with_reducible refine T_skip ?_ | refine TL_q (op_move rfl) rfl ?_ | refine TL_q (op_assign rfl) rfl ?_ | (refine' TL_q (op_bin rfl rfl ?_) rfl ?_; rotate_left 1; (· (exact bin_gtr))) | refine TL_q (op_len_slice rfl Tryd.underlying23) rfl ?_ | refine TL_q (op_fld rfl fld_25_12) rfl ?_ | (refine' TL_q (op_ld rfl pl_3 ?_ ?_) rfl ?_; rotate_left 4; (· repeat ((exact List.mem_cons_self))); (· (assumption))) | (refine T_no rfl ?_ ?_; (· (exact dF (by (omega)))))))
  refine T_loopS (σ := Nat) (fun i => i ≤ c.zs.length ∧ ∀ j < i, Cn.goodAt c.ups c.zs j = true) (fun i => [(1, .pointer (some ⟨b1, 0, none⟩)), (12, .slice a c.zs.length cap), (13, .int .i64 (c.zs.length : Nat)), (14, .int .i64 (i : Nat))]) (fun _ => (b1, Obj.cells (cfCells c (.slice a c.zs.length cap)).toArray 25 (0, 0)) :: L) (fun i => c.zs.length - i) 0 ⟨by omega, fun j hj => by omega⟩ ?_ (fun _ h => h) ?_
  (repeat ((first | exact trivial | refine ⟨rfl, ?_⟩)))
  rintro i ⟨hi, hall⟩
  by_cases hlt : i < c.zs.length
  · obtain ⟨z, hzi⟩ : ∃ z, c.zs[i]? = some z := ⟨_, List.getElem?_eq_getElem hlt⟩
    obtain ⟨b2, o2, C2, t2, f2, rfl, m2, cs, _, ⟨rfl, hzn, hzp, hzt⟩, hcs⟩ := sliceR.at hz hzi
    have hzs := hs z (List.mem_of_getElem? hzi)
    have e0 : C2[o2 + i * 3 + 0]? = some (.string (bs z.name)) := hcs 0 _ rfl
    have hgood := good_eq (ups := c.ups) hzi
    repeat ((first | with_reducible refine T_seq ?_ | with_reducible refine T_block ?_ | with_reducible refine T_region ?_ | with_reducible refine TL_nil ?_ | with_reducible refine TQ_then ?_ | with_reducible refine T_skip ?_ | refine TL_q (op_move rfl) rfl ?_ | (refine' TL_q (op_bin rfl rfl ?_) rfl ?_; rotate_left 1; (· (exact bin_lss))) | (refine' TL_q (op_idx ety_23 rfl rfl ?_) rfl ?_; (· omega)) | (refine T_yes rfl ?_ ?_; (· (exact dT (by (omega)))))))
    refine TL_q (op_ldA [.string (bs z.name), .int .u8 (z.pol : Nat), .int .u16 (z.tru : Nat)] rfl st_38 (List.mem_cons_of_mem _ m2) hcs) rfl ?_
    repeat ((first | with_reducible refine T_seq ?_ | with_reducible refine TL_nil ?_ | with_reducible refine TQ_then ?_ | refine TL_q (op_assign rfl) rfl ?_ | (refine TL_stAll rfl rfl st_38 rfl rfl rfl ?_) | (refine TL_new (op_alloc (C := #[(.string (bs [])), (.int .u8 0), (.int .u16 0)]) zero_38 rfl) rfl ?_; intro bNew)))
    obtain ⟨b4, hb4⟩ : ∃ b, bNew = b := ⟨_, rfl⟩
    rw [hb4]
    clear hb4 bNew
    have k0 : ([.string (bs z.name), .int .u8 (z.pol : Nat), .int .u16 (z.tru : Nat)] : List Value).toArray[0 + 0]? = some (.string (bs z.name)) := rfl
    have k1 : ([.string (bs z.name), .int .u8 (z.pol : Nat), .int .u16 (z.tru : Nat)] : List Value).toArray[0 + 1]? = some (.int .u8 (z.pol : Nat)) := rfl
    have k2 : ([.string (bs z.name), .int .u8 (z.pol : Nat), .int .u16 (z.tru : Nat)] : List Value).toArray[0 + 2]? = some (.int .u16 (z.tru : Nat)) := rfl
    have hKm : ∀ p ∈ [(b4, Obj.cells ([.string (bs z.name), .int .u8 (z.pol : Nat), .int .u16 (z.tru : Nat)] : List Value).toArray 38 (0, 0))], p ∈ (b4, Obj.cells ([.string (bs z.name), .int .u8 (z.pol : Nat), .int .u16 (z.tru : Nat)] : List Value).toArray 38 (0, 0)) :: (b1, Obj.cells (cfCells c (.slice (some ⟨b2, o2, none⟩) c.zs.length cap)).toArray 25 (0, 0)) :: L := by
      intro p hp
      simp only [List.mem_cons, List.not_mem_nil, or_false] at hp
      subst hp
      exact List.mem_cons_self ..
    cases hmay : Nm.may z.name with
    | false =>
      have hno : Cn.okZo c.ups z = false := by unfold Cn.okZo Cn.okName; rw [hmay]; rfl
      rw [mayZs_no hlt (by rw [hgood, hno]; rfl)]
      refine T_draw follows_mixed ([(b4, Obj.cells ([.string (bs z.name), .int .u8 (z.pol : Nat), .int .u16 (z.tru : Nat)] : List Value).toArray 38 (0, 0))]) [] ?_
      (refine' TA_take 0 rfl rfl (by kernel_rfl) (quiet_q (op_fld rfl fld_38_0)) ?_ ?_; (· (assumption)))
      (refine' TA_take 1 rfl rfl (by kernel_rfl) (quiet_q (op_ld rfl pl_9 ?_ ?_)) ?_ ?_; rotate_left 4; (· repeat ((exact List.mem_cons_self))); (· (assumption)); (· (assumption)))
      refine' TA_take 2 rfl rfl (by kernel_rfl) (quiet_call hb_51 rfl (fun _ _ => May_S _ ?_)) ?_ ?_; (· (omega)); (· (assumption))
      (refine' TA_take 3 rfl rfl (by kernel_rfl) (quiet_q (op_not rfl)) ?_ ?_; (· (assumption)))
      (refine' TA_take 4 rfl rfl (by kernel_rfl) (quiet_q (op_move rfl)) ?_ ?_; (· (assumption)))
      (refine TA_take 5 rfl rfl (by kernel_rfl) (quiet_no2 rfl rfl ?_) ?_ ?_; (· (exact xT (by (assumption)))); (· (assumption)))
      (refine TA_take 6 rfl rfl (by kernel_rfl) (quiet_no2 rfl rfl ?_) ?_ ?_; (· (exact xT (by (assumption)))); (· (assumption)))
      (refine TA_take 7 rfl rfl (by kernel_rfl) (quiet_no2 rfl rfl ?_) ?_ ?_; (· (exact xT (by (assumption)))); (· (assumption)))
      (refine TA_take 8 rfl rfl (by kernel_rfl) (quiet_no2 rfl rfl ?_) ?_ ?_; (· (exact xT (by (assumption)))); (· (assumption)))
      (refine TA_take 9 rfl rfl (by kernel_rfl) (quiet_no2 rfl rfl ?_) ?_ ?_; (· (exact xT (by (assumption)))); (· (assumption)))
      (refine TA_take 10 rfl rfl (by kernel_rfl) (quiet_no2 rfl rfl ?_) ?_ ?_; (· (exact xT (by (assumption)))); (· (assumption)))
      (refine' TA_take 11 rfl rfl (by kernel_rfl) (quiet_q (op_pickT rfl ?_ rfl)) ?_ ?_; (· (exact xT (by (assumption)))); (· (assumption)))
      refine TA_done (by kernel_rfl) ?_
      repeat ((first | with_reducible refine T_seq ?_ | with_reducible refine T_region ?_ | with_reducible refine TL_nil ?_ | with_reducible refine TQ_then ?_ | with_reducible refine T_ret ?_ | with_reducible refine TQ_then_ret ?_ | with_reducible refine TQ_block_ret ?_ | refine TL_q (op_assign rfl) rfl ?_ | (refine T_yes rfl ?_ ?_; (· (with_reducible rfl)))))
      refine TQ_heap (fun w h => h.tail.tail) ?_
      refine TQ_ret1 2 _ rfl rfl ?_
      exact ⟨rfl, rfl⟩
    | true =>
      by_cases hf : Nm.fold z.name = z.name
      rotate_left
      · have hno : Cn.okZo c.ups z = false := by unfold Cn.okZo Cn.okName; rw [beq_false_of_ne hf, Bool.and_false, Bool.false_and]
        rw [mayZs_no hlt (by rw [hgood, hno]; rfl)]
        refine T_draw follows_mixed ([(b4, Obj.cells ([.string (bs z.name), .int .u8 (z.pol : Nat), .int .u16 (z.tru : Nat)] : List Value).toArray 38 (0, 0))]) [] ?_
        (refine' TA_take 0 rfl rfl (by kernel_rfl) (quiet_q (op_fld rfl fld_38_0)) ?_ ?_; (· (assumption)))
        (refine' TA_take 1 rfl rfl (by kernel_rfl) (quiet_q (op_ld rfl pl_9 ?_ ?_)) ?_ ?_; rotate_left 4; (· repeat ((exact List.mem_cons_self))); (· (assumption)); (· (assumption)))
        refine' TA_take 2 rfl rfl (by kernel_rfl) (quiet_call hb_51 rfl (fun _ _ => May_S _ ?_)) ?_ ?_; (· (omega)); (· (assumption))
        (refine' TA_take 3 rfl rfl (by kernel_rfl) (quiet_q (op_not rfl)) ?_ ?_; (· (assumption)))
        (refine' TA_take 4 rfl rfl (by kernel_rfl) (quiet_q (op_move rfl)) ?_ ?_; (· (assumption)))
        (refine' TA_take 5 rfl rfl (by kernel_rfl) (quiet_g2 rfl rfl (by (exact xF (by (assumption)))) (op_fld rfl fld_38_0)) ?_ ?_; (· (assumption)))
        (refine' TA_take 6 rfl rfl (by kernel_rfl) (quiet_g2 rfl rfl (by (exact xF (by (assumption)))) (op_ld rfl pl_9 ?_ ?_)) ?_ ?_; rotate_left 4; (· repeat ((exact List.mem_cons_self))); (· (assumption)); (· (assumption)))
        (refine' TA_take 7 rfl rfl (by kernel_rfl) (quiet_callG2 rfl rfl (by (exact xF (by (assumption)))) hb_52 rfl (fun _ _ => Fold_S _ ?_)) ?_ ?_; (· (omega)); (· (assumption)))
        (refine' TA_take 8 rfl rfl (by kernel_rfl) (quiet_g2 rfl rfl (by (exact xF (by (assumption)))) (op_fld rfl fld_38_0)) ?_ ?_; (· (assumption)))
        (refine' TA_take 9 rfl rfl (by kernel_rfl) (quiet_g2 rfl rfl (by (exact xF (by (assumption)))) (op_ld rfl pl_9 ?_ ?_)) ?_ ?_; rotate_left 4; (· repeat ((exact List.mem_cons_self))); (· (assumption)); (· (assumption)))
        (refine' TA_take 10 rfl rfl (by kernel_rfl) (quiet_g2 rfl rfl (by (exact xF (by (assumption)))) (op_bin rfl rfl ?_)) ?_ ?_; rotate_left 1; (· (exact sbin_neq)); (· (assumption)))
        (refine' TA_take 11 rfl rfl (by kernel_rfl) (quiet_q (op_pickF rfl ?_ rfl)) ?_ ?_; (· (exact xF (by (assumption)))); (· (assumption)))
        refine TA_done (by kernel_rfl) ?_
        repeat ((first | with_reducible refine T_seq ?_ | with_reducible refine T_region ?_ | with_reducible refine TL_nil ?_ | with_reducible refine TQ_then ?_ | with_reducible refine T_ret ?_ | with_reducible refine TQ_then_ret ?_ | with_reducible refine TQ_block_ret ?_ | refine TL_q (op_assign rfl) rfl ?_ | (refine T_yes rfl ?_ ?_; (· (exact nT (by (assumption)))))))
        refine TQ_heap (fun w h => h.tail.tail) ?_
        refine TQ_ret1 2 _ rfl rfl ?_
        exact ⟨rfl, rfl⟩
      have hokn : Cn.okName z = true := by unfold Cn.okName; rw [hmay, beq_iff_eq.2 hf]; rfl
      refine T_draw follows_mixed ([(b4, Obj.cells ([.string (bs z.name), .int .u8 (z.pol : Nat), .int .u16 (z.tru : Nat)] : List Value).toArray 38 (0, 0))]) [] ?_
      (refine' TA_take 0 rfl rfl (by kernel_rfl) (quiet_q (op_fld rfl fld_38_0)) ?_ ?_; (· (assumption)))
      (refine' TA_take 1 rfl rfl (by kernel_rfl) (quiet_q (op_ld rfl pl_9 ?_ ?_)) ?_ ?_; rotate_left 4; (· repeat ((exact List.mem_cons_self))); (· (assumption)); (· (assumption)))
      refine' TA_take 2 rfl rfl (by kernel_rfl) (quiet_call hb_51 rfl (fun _ _ => May_S _ ?_)) ?_ ?_; (· (omega)); (· (assumption))
      (refine' TA_take 3 rfl rfl (by kernel_rfl) (quiet_q (op_not rfl)) ?_ ?_; (· (assumption)))
      (refine' TA_take 4 rfl rfl (by kernel_rfl) (quiet_q (op_move rfl)) ?_ ?_; (· (assumption)))
      (refine' TA_take 5 rfl rfl (by kernel_rfl) (quiet_g2 rfl rfl (by (exact xF (by (assumption)))) (op_fld rfl fld_38_0)) ?_ ?_; (· (assumption)))
      (refine' TA_take 6 rfl rfl (by kernel_rfl) (quiet_g2 rfl rfl (by (exact xF (by (assumption)))) (op_ld rfl pl_9 ?_ ?_)) ?_ ?_; rotate_left 4; (· repeat ((exact List.mem_cons_self))); (· (assumption)); (· (assumption)))
      (refine' TA_take 7 rfl rfl (by kernel_rfl) (quiet_callG2 rfl rfl (by (exact xF (by (assumption)))) hb_52 rfl (fun _ _ => Fold_S _ ?_)) ?_ ?_; (· (omega)); (· (assumption)))
      (refine' TA_take 8 rfl rfl (by kernel_rfl) (quiet_g2 rfl rfl (by (exact xF (by (assumption)))) (op_fld rfl fld_38_0)) ?_ ?_; (· (assumption)))
      (refine' TA_take 9 rfl rfl (by kernel_rfl) (quiet_g2 rfl rfl (by (exact xF (by (assumption)))) (op_ld rfl pl_9 ?_ ?_)) ?_ ?_; rotate_left 4; (· repeat ((exact List.mem_cons_self))); (· (assumption)); (· (assumption)))
      (refine' TA_take 10 rfl rfl (by kernel_rfl) (quiet_g2 rfl rfl (by (exact xF (by (assumption)))) (op_bin rfl rfl ?_)) ?_ ?_; rotate_left 1; (· (exact sbin_neq)); (· (assumption)))
      (refine' TA_take 11 rfl rfl (by kernel_rfl) (quiet_q (op_pickF rfl ?_ rfl)) ?_ ?_; (· (exact xF (by (assumption)))); (· (assumption)))
      refine TA_done (by kernel_rfl) ?_
      repeat ((first | with_reducible refine T_seq ?_ | with_reducible refine T_block ?_ | with_reducible refine T_region ?_ | with_reducible refine TL_nil ?_ | with_reducible refine TQ_then ?_ | with_reducible refine T_skip ?_ | refine TL_q (op_move rfl) rfl ?_ | refine TL_q (op_len_slice rfl Tryd.underlying23) rfl ?_ | (refine' TL_q (op_slice_to ety_23 rfl rfl ?_ ?_) rfl ?_; (· omega); (· omega)) | refine TL_q (op_fld rfl fld_25_12) rfl ?_ | (refine' TL_q (op_ld rfl pl_3 ?_ ?_) rfl ?_; rotate_left 4; (· repeat ((first | exact List.mem_cons_self | apply List.mem_cons_of_mem))); (· (assumption))) | (refine T_no rfl ?_ ?_; (· (exact nF (by (assumption)))))))
      refine T_loopS (σ := Nat) (fun k => k ≤ i ∧ (c.zs.take k).any (fun y => y.name == z.name) = false) (fun k => [(1, .pointer (some ⟨b1, 0, none⟩)), (3, .int .i64 (i : Nat)), (4, .pointer (some ⟨b4, 0, none⟩)), (12, .slice (some ⟨b2, o2, none⟩) c.zs.length cap), (13, .int .i64 (c.zs.length : Nat)), (14, .int .i64 (i : Nat)), (34, .slice (some ⟨b2, o2, none⟩) i cap), (35, .int .i64 (i : Nat)), (36, .int .i64 (k : Nat))]) (fun _ => (b4, Obj.cells ([.string (bs z.name), .int .u8 (z.pol : Nat), .int .u16 (z.tru : Nat)] : List Value).toArray 38 (0, 0)) :: (b1, Obj.cells (cfCells c (.slice (some ⟨b2, o2, none⟩) c.zs.length cap)).toArray 25 (0, 0)) :: L) (fun k => i - k) 0 ⟨by omega, by simp⟩ ?_ (fun _ h => h) ?_
      (repeat ((first | exact trivial | refine ⟨rfl, ?_⟩)))
      rintro k ⟨hk, hany⟩
      by_cases hki : k < i
      · obtain ⟨y, hyk⟩ : ∃ y, c.zs[k]? = some y := ⟨_, List.getElem?_eq_getElem (by omega)⟩
        obtain ⟨b5, o5, C5, t5, f5, e5, m5, cs5, _, ⟨rfl, hyn, hyp, hyt⟩, hcs5⟩ := sliceR.at hz hyk
        cases e5
        repeat ((first | with_reducible refine T_seq ?_ | with_reducible refine T_block ?_ | with_reducible refine T_region ?_ | with_reducible refine TL_nil ?_ | with_reducible refine TQ_then ?_ | with_reducible refine T_skip ?_ | (refine' TL_q (op_bin rfl rfl ?_) rfl ?_; rotate_left 1; (· (exact bin_lss))) | (refine' TL_q (op_idx ety_23 rfl rfl ?_) rfl ?_; (· omega)) | (refine T_yes rfl ?_ ?_; (· (exact dT (by (omega)))))))
        refine TL_q (op_ldA [.string (bs y.name), .int .u8 (y.pol : Nat), .int .u16 (y.tru : Nat)] rfl st_38 (List.mem_cons_of_mem _ (List.mem_cons_of_mem _ m5)) hcs5) rfl ?_
        repeat ((first | with_reducible refine T_seq ?_ | with_reducible refine T_region ?_ | with_reducible refine TL_nil ?_ | with_reducible refine TQ_then ?_ | (refine' TL_q (op_bin rfl rfl ?_) rfl ?_; rotate_left 1; (· (exact sbin_eql))) | refine TL_q (op_fld rfl fld_25_0) rfl ?_ | (refine' TL_q (op_ld rfl pl_3 ?_ ?_) rfl ?_; rotate_left 4; (· repeat ((first | exact List.mem_cons_self | apply List.mem_cons_of_mem))); (· (first | assumption | rfl))) | (refine TL_stAll rfl rfl st_38 rfl rfl rfl ?_) | (refine TL_new (op_alloc (C := #[(.string (bs [])), (.int .u8 0), (.int .u16 0)]) zero_38 rfl) rfl ?_; intro bNew)))
        obtain ⟨b6, hb6⟩ : ∃ b, bNew = b := ⟨_, rfl⟩
        rw [hb6]
        clear hb6 bNew
        have l0 : ([.string (bs y.name), .int .u8 (y.pol : Nat), .int .u16 (y.tru : Nat)] : List Value).toArray[0 + 0]? = some (.string (bs y.name)) := rfl
        by_cases hyz : y.name = z.name
        · have hbad : Cn.goodAt c.ups c.zs i = false := by
            rw [hgood, Bool.and_eq_false_iff]
            right
            rw [Bool.not_eq_false', List.any_eq_true]
            exact ⟨y, List.mem_take_iff_getElem.2 ⟨k, by omega, (List.getElem?_eq_some_iff.1 hyk).2⟩, beq_iff_eq.2 hyz⟩
          rw [mayZs_no hlt hbad]
          repeat ((first | with_reducible refine T_seq ?_ | with_reducible refine T_region ?_ | with_reducible refine TL_nil ?_ | with_reducible refine TQ_then ?_ | with_reducible refine T_ret ?_ | with_reducible refine TQ_then_ret ?_ | with_reducible refine TQ_block_ret ?_ | refine TL_q (op_assign rfl) rfl ?_ | (refine T_yes rfl ?_ ?_; (· (exact eT (by (assumption)))))))
          refine TQ_heap (fun w h => h.tail.tail.tail) ?_
          refine TQ_ret1 2 _ rfl rfl ?_
          exact ⟨rfl, rfl⟩
        · repeat ((first | with_reducible refine T_region ?_ | with_reducible refine TL_nil ?_ | with_reducible refine TQ_then ?_ | with_reducible refine TQ_block ?_ | with_reducible refine T_skip ?_ | refine TL_q (op_move rfl) rfl ?_ | (refine' TL_q (op_bin rfl rfl ?_) rfl ?_; rotate_left 1; (· (exact bin_add ⟨by omega, by omega⟩))) | (refine T_no rfl ?_ ?_; (· (exact eF (by (assumption)))))))
          refine TQ_roundS (k + 1) ⟨by omega, ?_⟩ ?_ (fun _ h => h.tail) (by omega)
          · rw [List.take_add_one, hyk, List.any_append, hany]
            simp [hyz]
          (repeat ((first | exact trivial | refine ⟨rfl, ?_⟩)))
      · have hkie : k = i := by omega
        subst hkie
        rw [hany, Bool.not_false, Bool.and_true] at hgood
        unfold Cn.okZo at hgood
        rw [hokn, Bool.true_and] at hgood
        obtain ⟨n, hn⟩ : ∃ n : Nat, c.ups = (n : Nat) := ⟨c.ups.toNat, by omega⟩
        have hn2 : c.ups.toNat = n := by omega
        have fin : ∀ b, Cn.okPol c.ups z = b → Cn.goodAt c.ups c.zs k = b := fun b h => hgood.trans h
        have nxt : Cn.okPol c.ups z = true → ∀ j < k + 1, Cn.goodAt c.ups c.zs j = true := fun h j hj => by
          rcases Nat.lt_or_ge j k with q | q
          · exact hall j q
          · have : j = k := by omega
            subst this
            exact fin true h
        have pol : Cn.okPol c.ups z = decide (((z.pol = 1 ∨ z.pol = 2 ∨ z.pol = 4) ∧ z.tru = 0) ∨ (z.pol = 3 ∧ z.tru ≠ 0 ∧ z.tru / 2 ^ n = 0)) := by unfold Cn.okPol; rw [hn2]
        rw [hn] at g0
        obtain ⟨q, hq⟩ : ∃ q, z.tru / 2 ^ n = q := ⟨_, rfl⟩
        have hsh := bin_shr16 (P := Tryd.prog) (t := 36) (k := .i64) (a := z.tru) (u := n) (by omega)
        rw [hq] at pol hsh
        by_cases p1 : z.pol = 1
        · by_cases t0 : z.tru = 0
          · skip
            have hy : Cn.okPol c.ups z = true := by rw [pol]; exact decide_eq_true (by omega)
            repeat ((first | with_reducible refine T_seq ?_ | with_reducible refine T_block ?_ | with_reducible refine T_region ?_ | with_reducible refine TL_nil ?_ | with_reducible refine TQ_then ?_ | with_reducible refine TQ_block ?_ | with_reducible refine T_skip ?_ | with_reducible refine T_exit ?_ | with_reducible refine TQ_then_exit ?_ | with_reducible refine TQ_block_exit ?_ | refine TL_q (op_move rfl) rfl ?_ | refine TL_q (op_assign rfl) rfl ?_ | (refine' TL_q (op_bin rfl rfl ?_) rfl ?_; rotate_left 1; (· (first | exact bin_add ⟨by omega, by omega⟩ | exact bin_eql | exact bin_neq | exact bin_lss))) | refine TL_q (op_fld rfl fld_38_1) rfl ?_ | refine TL_q (op_fld rfl fld_38_2) rfl ?_ | (refine' TL_q (op_ld rfl pl_3 ?_ ?_) rfl ?_; rotate_left 4; (· repeat ((exact List.mem_cons_self))); (· (assumption))) | (refine T_yes rfl ?_ ?_; (· (exact dT (by (first | assumption | omega))))) | (refine T_no rfl ?_ ?_; (· (first | exact dF (by (first | assumption | omega)) | exact nF (by (omega)))))))
            refine TQ_roundS (k + 1) ⟨by omega, nxt hy⟩ ?_ (fun _ h => h.tail) (by omega)
            (repeat ((first | exact trivial | refine ⟨rfl, ?_⟩)))
          · skip
            rw [mayZs_no hlt (fin false (by rw [pol]; exact decide_eq_false (by omega)))]
            repeat ((first | with_reducible refine T_seq ?_ | with_reducible refine T_block ?_ | with_reducible refine T_region ?_ | with_reducible refine TL_nil ?_ | with_reducible refine TQ_then ?_ | with_reducible refine T_skip ?_ | with_reducible refine T_exit ?_ | with_reducible refine T_ret ?_ | with_reducible refine TQ_then_exit ?_ | with_reducible refine TQ_then_ret ?_ | with_reducible refine TQ_block_exit ?_ | with_reducible refine TQ_block_ret ?_ | refine TL_q (op_assign rfl) rfl ?_ | (refine' TL_q (op_bin rfl rfl ?_) rfl ?_; rotate_left 1; (· (first | exact bin_eql | exact bin_neq | exact bin_lss))) | refine TL_q (op_fld rfl fld_38_1) rfl ?_ | refine TL_q (op_fld rfl fld_38_2) rfl ?_ | (refine' TL_q (op_ld rfl pl_3 ?_ ?_) rfl ?_; rotate_left 4; (· repeat ((exact List.mem_cons_self))); (· (assumption))) | (refine T_yes rfl ?_ ?_; (· (first | exact dT (by (first | assumption | omega)) | exact nT (by (first | assumption | omega))))) | (refine T_no rfl ?_ ?_; (· (exact dF (by (omega)))))))
            refine TQ_heap (fun w h => h.tail.tail) ?_
            refine TQ_ret1 2 _ rfl rfl ?_
            exact ⟨rfl, rfl⟩
        by_cases p2 : z.pol = 2
        · by_cases t0 : z.tru = 0
          · skip
            have hy : Cn.okPol c.ups z = true := by rw [pol]; exact decide_eq_true (by omega)
            repeat ((first | with_reducible refine T_seq ?_ | with_reducible refine T_block ?_ | with_reducible refine T_region ?_ | with_reducible refine TL_nil ?_ | with_reducible refine TQ_then ?_ | with_reducible refine TQ_block ?_ | with_reducible refine T_skip ?_ | with_reducible refine T_exit ?_ | with_reducible refine TQ_then_exit ?_ | with_reducible refine TQ_block_exit ?_ | refine TL_q (op_move rfl) rfl ?_ | refine TL_q (op_assign rfl) rfl ?_ | (refine' TL_q (op_bin rfl rfl ?_) rfl ?_; rotate_left 1; (· (first | exact bin_add ⟨by omega, by omega⟩ | exact bin_eql | exact bin_neq | exact bin_lss))) | refine TL_q (op_fld rfl fld_38_1) rfl ?_ | refine TL_q (op_fld rfl fld_38_2) rfl ?_ | (refine' TL_q (op_ld rfl pl_3 ?_ ?_) rfl ?_; rotate_left 4; (· repeat ((exact List.mem_cons_self))); (· (assumption))) | (refine T_yes rfl ?_ ?_; (· (exact dT (by (first | assumption | omega))))) | (refine T_no rfl ?_ ?_; (· (first | exact dF (by (first | assumption | omega)) | exact nF (by (omega)))))))
            refine TQ_roundS (k + 1) ⟨by omega, nxt hy⟩ ?_ (fun _ h => h.tail) (by omega)
            (repeat ((first | exact trivial | refine ⟨rfl, ?_⟩)))
          · skip
            rw [mayZs_no hlt (fin false (by rw [pol]; exact decide_eq_false (by omega)))]
            repeat ((first | with_reducible refine T_seq ?_ | with_reducible refine T_block ?_ | with_reducible refine T_region ?_ | with_reducible refine TL_nil ?_ | with_reducible refine TQ_then ?_ | with_reducible refine T_skip ?_ | with_reducible refine T_exit ?_ | with_reducible refine T_ret ?_ | with_reducible refine TQ_then_exit ?_ | with_reducible refine TQ_then_ret ?_ | with_reducible refine TQ_block_exit ?_ | with_reducible refine TQ_block_ret ?_ | refine TL_q (op_assign rfl) rfl ?_ | (refine' TL_q (op_bin rfl rfl ?_) rfl ?_; rotate_left 1; (· (first | exact bin_eql | exact bin_neq | exact bin_lss))) | refine TL_q (op_fld rfl fld_38_1) rfl ?_ | refine TL_q (op_fld rfl fld_38_2) rfl ?_ | (refine' TL_q (op_ld rfl pl_3 ?_ ?_) rfl ?_; rotate_left 4; (· repeat ((exact List.mem_cons_self))); (· (assumption))) | (refine T_yes rfl ?_ ?_; (· (first | exact dT (by (first | assumption | omega)) | exact nT (by (first | assumption | omega))))) | (refine T_no rfl ?_ ?_; (· (exact dF (by (omega)))))))
            refine TQ_heap (fun w h => h.tail.tail) ?_
            refine TQ_ret1 2 _ rfl rfl ?_
            exact ⟨rfl, rfl⟩
        by_cases p4 : z.pol = 4
        · by_cases t0 : z.tru = 0
          · skip
            have hy : Cn.okPol c.ups z = true := by rw [pol]; exact decide_eq_true (by omega)
            repeat ((first | with_reducible refine T_seq ?_ | with_reducible refine T_block ?_ | with_reducible refine T_region ?_ | with_reducible refine TL_nil ?_ | with_reducible refine TQ_then ?_ | with_reducible refine TQ_block ?_ | with_reducible refine T_skip ?_ | with_reducible refine T_exit ?_ | with_reducible refine TQ_then_exit ?_ | with_reducible refine TQ_block_exit ?_ | refine TL_q (op_move rfl) rfl ?_ | refine TL_q (op_assign rfl) rfl ?_ | (refine' TL_q (op_bin rfl rfl ?_) rfl ?_; rotate_left 1; (· (first | exact bin_add ⟨by omega, by omega⟩ | exact bin_eql | exact bin_neq | exact bin_lss))) | refine TL_q (op_fld rfl fld_38_1) rfl ?_ | refine TL_q (op_fld rfl fld_38_2) rfl ?_ | (refine' TL_q (op_ld rfl pl_3 ?_ ?_) rfl ?_; rotate_left 4; (· repeat ((exact List.mem_cons_self))); (· (assumption))) | (refine T_yes rfl ?_ ?_; (· (exact dT (by (first | assumption | omega))))) | (refine T_no rfl ?_ ?_; (· (first | exact dF (by (first | assumption | omega)) | exact nF (by (omega)))))))
            refine TQ_roundS (k + 1) ⟨by omega, nxt hy⟩ ?_ (fun _ h => h.tail) (by omega)
            (repeat ((first | exact trivial | refine ⟨rfl, ?_⟩)))
          · skip
            rw [mayZs_no hlt (fin false (by rw [pol]; exact decide_eq_false (by omega)))]
            repeat ((first | with_reducible refine T_seq ?_ | with_reducible refine T_block ?_ | with_reducible refine T_region ?_ | with_reducible refine TL_nil ?_ | with_reducible refine TQ_then ?_ | with_reducible refine T_exit ?_ | with_reducible refine T_ret ?_ | with_reducible refine TQ_then_exit ?_ | with_reducible refine TQ_then_ret ?_ | with_reducible refine TQ_block_exit ?_ | with_reducible refine TQ_block_ret ?_ | refine TL_q (op_assign rfl) rfl ?_ | (refine' TL_q (op_bin rfl rfl ?_) rfl ?_; rotate_left 1; (· (first | exact bin_eql | exact bin_neq | exact bin_lss))) | refine TL_q (op_fld rfl fld_38_1) rfl ?_ | refine TL_q (op_fld rfl fld_38_2) rfl ?_ | (refine' TL_q (op_ld rfl pl_3 ?_ ?_) rfl ?_; rotate_left 4; (· repeat ((exact List.mem_cons_self))); (· (assumption))) | (refine T_yes rfl ?_ ?_; (· (first | exact dT (by (first | assumption | omega)) | exact nT (by (first | assumption | omega))))) | (refine T_no rfl ?_ ?_; (· (exact dF (by (omega)))))))
            refine TQ_heap (fun w h => h.tail.tail) ?_
            refine TQ_ret1 2 _ rfl rfl ?_
            exact ⟨rfl, rfl⟩
        by_cases p3 : z.pol = 3
        · by_cases t0 : z.tru = 0
          · skip
            rw [mayZs_no hlt (fin false (by rw [pol]; exact decide_eq_false (by omega)))]
            repeat ((first | with_reducible refine T_seq ?_ | with_reducible refine T_block ?_ | with_reducible refine T_region ?_ | with_reducible refine TL_nil ?_ | with_reducible refine TQ_then ?_ | with_reducible refine T_exit ?_ | with_reducible refine T_ret ?_ | with_reducible refine TQ_then_exit ?_ | with_reducible refine TQ_then_ret ?_ | with_reducible refine TQ_block_exit ?_ | with_reducible refine TQ_block_ret ?_ | refine TL_q (op_move rfl) rfl ?_ | refine TL_q (op_assign rfl) rfl ?_ | (refine' TL_q (op_bin rfl rfl ?_) rfl ?_; rotate_left 1; (· (first | exact bin_eql | exact bin_lss))) | (refine' TL_q (op_pickT rfl ?_ rfl) rfl ?_; (· (exact dT (by (omega))))) | refine TL_q (op_fld rfl fld_38_1) rfl ?_ | refine TL_q (op_fld rfl fld_38_2) rfl ?_ | (refine' TL_q (op_ld rfl pl_3 ?_ ?_) rfl ?_; rotate_left 4; (· repeat ((exact List.mem_cons_self))); (· (assumption))) | (refine TL_gno rfl rfl ?_ rfl ?_; (· (exact dT (by (omega))))) | (refine T_yes rfl ?_ ?_; (· (first | with_reducible rfl | exact dT (by (omega))))) | (refine T_no rfl ?_ ?_; (· (exact dF (by (omega)))))))
            refine TQ_heap (fun w h => h.tail.tail) ?_
            refine TQ_ret1 2 _ rfl rfl ?_
            exact ⟨rfl, rfl⟩
          · by_cases q0 : q = 0
            · skip
              repeat ((first | with_reducible refine T_seq ?_ | with_reducible refine T_block ?_ | with_reducible refine T_region ?_ | with_reducible refine TL_nil ?_ | with_reducible refine TQ_then ?_ | with_reducible refine T_exit ?_ | with_reducible refine TQ_then_exit ?_ | with_reducible refine TQ_block_exit ?_ | refine TL_q (op_move rfl) rfl ?_ | refine TL_q (op_assign rfl) rfl ?_ | (refine' TL_q (op_bin rfl rfl ?_) rfl ?_; rotate_left 1; (· (first | exact bin_eql | exact bin_lss))) | refine TL_q (op_fld rfl fld_38_1) rfl ?_ | refine TL_q (op_fld rfl fld_38_2) rfl ?_ | (refine' TL_q (op_ld rfl pl_3 ?_ ?_) rfl ?_; rotate_left 4; (· repeat ((exact List.mem_cons_self))); (· (assumption))) | (refine TL_gpre rfl rfl ?_ ?_; (· (exact dF (by (omega))))) | refine TL_gq2 (op_fld rfl fld_25_0) rfl ?_ | refine TL_gq2 (op_fld rfl fld_38_2) rfl ?_ | (refine' TL_gq2 (op_ld rfl pl_3 ?_ ?_) rfl ?_; rotate_left 4; (· repeat ((first | exact List.mem_cons_self | apply List.mem_cons_of_mem))); (· (assumption))) | (refine T_yes rfl ?_ ?_; (· (exact dT (by (omega))))) | (refine T_no rfl ?_ ?_; (· (exact dF (by (omega)))))))
              refine TL_gq2 (op_bin rfl rfl hsh) rfl ?_
              have hy : Cn.okPol c.ups z = true := by rw [pol]; exact decide_eq_true (by omega)
              repeat ((first | with_reducible refine T_region ?_ | with_reducible refine TL_nil ?_ | with_reducible refine TQ_then ?_ | with_reducible refine TQ_block ?_ | with_reducible refine T_skip ?_ | refine TL_q (op_move rfl) rfl ?_ | (refine' TL_q (op_bin rfl rfl ?_) rfl ?_; rotate_left 1; (· (exact bin_add ⟨by omega, by omega⟩))) | (refine' TL_q (op_pickF rfl ?_ rfl) rfl ?_; (· (exact dF (by (omega))))) | (refine TL_gpre rfl rfl ?_ ?_; (· (exact dF (by (omega))))) | (refine' TL_gq2 (op_bin rfl rfl ?_) rfl ?_; rotate_left 1; (· (exact bin_neq))) | (refine T_no rfl ?_ ?_; (· (exact nF (by (omega)))))))
              refine TQ_roundS (k + 1) ⟨by omega, nxt hy⟩ ?_ (fun _ h => h.tail) (by omega)
              (repeat ((first | exact trivial | refine ⟨rfl, ?_⟩)))
            · skip
              rw [mayZs_no hlt (fin false (by rw [pol]; exact decide_eq_false (by omega)))]
              repeat ((first | with_reducible refine T_seq ?_ | with_reducible refine T_block ?_ | with_reducible refine T_region ?_ | with_reducible refine TL_nil ?_ | with_reducible refine TQ_then ?_ | with_reducible refine T_exit ?_ | with_reducible refine TQ_then_exit ?_ | with_reducible refine TQ_block_exit ?_ | refine TL_q (op_move rfl) rfl ?_ | refine TL_q (op_assign rfl) rfl ?_ | (refine' TL_q (op_bin rfl rfl ?_) rfl ?_; rotate_left 1; (· (first | exact bin_eql | exact bin_lss))) | refine TL_q (op_fld rfl fld_38_1) rfl ?_ | refine TL_q (op_fld rfl fld_38_2) rfl ?_ | (refine' TL_q (op_ld rfl pl_3 ?_ ?_) rfl ?_; rotate_left 4; (· repeat ((exact List.mem_cons_self))); (· (assumption))) | (refine TL_gpre rfl rfl ?_ ?_; (· (exact dF (by (omega))))) | refine TL_gq2 (op_fld rfl fld_25_0) rfl ?_ | refine TL_gq2 (op_fld rfl fld_38_2) rfl ?_ | (refine' TL_gq2 (op_ld rfl pl_3 ?_ ?_) rfl ?_; rotate_left 4; (· repeat ((first | exact List.mem_cons_self | apply List.mem_cons_of_mem))); (· (assumption))) | (refine T_yes rfl ?_ ?_; (· (exact dT (by (omega))))) | (refine T_no rfl ?_ ?_; (· (exact dF (by (omega)))))))
              refine TL_gq2 (op_bin rfl rfl hsh) rfl ?_
              repeat ((first | with_reducible refine T_seq ?_ | with_reducible refine T_region ?_ | with_reducible refine TL_nil ?_ | with_reducible refine TQ_then ?_ | with_reducible refine T_ret ?_ | with_reducible refine TQ_then_ret ?_ | with_reducible refine TQ_block_ret ?_ | refine TL_q (op_assign rfl) rfl ?_ | (refine' TL_q (op_pickF rfl ?_ rfl) rfl ?_; (· (exact dF (by (omega))))) | (refine TL_gpre rfl rfl ?_ ?_; (· (exact dF (by (omega))))) | (refine' TL_gq2 (op_bin rfl rfl ?_) rfl ?_; rotate_left 1; (· (exact bin_neq))) | (refine T_yes rfl ?_ ?_; (· (exact nT (by (omega)))))))
              refine TQ_heap (fun w h => h.tail.tail) ?_
              refine TQ_ret1 2 _ rfl rfl ?_
              exact ⟨rfl, rfl⟩
        rw [mayZs_no hlt (fin false (by rw [pol]; exact decide_eq_false (by omega)))]
        repeat ((first | with_reducible refine T_seq ?_ | with_reducible refine T_block ?_ | with_reducible refine T_region ?_ | with_reducible refine TL_nil ?_ | with_reducible refine TQ_then ?_ | with_reducible refine T_exit ?_ | with_reducible refine T_ret ?_ | with_reducible refine TQ_then_exit ?_ | with_reducible refine TQ_then_ret ?_ | with_reducible refine TQ_block_exit ?_ | with_reducible refine TQ_block_ret ?_ | refine TL_q (op_assign rfl) rfl ?_ | (refine' TL_q (op_bin rfl rfl ?_) rfl ?_; rotate_left 1; (· (first | exact bin_eql | exact bin_lss))) | refine TL_q (op_fld rfl fld_38_1) rfl ?_ | (refine' TL_q (op_ld rfl pl_3 ?_ ?_) rfl ?_; rotate_left 4; (· repeat ((exact List.mem_cons_self))); (· (assumption))) | (refine T_no rfl ?_ ?_; (· (exact dF (by (omega)))))))
        refine TQ_heap (fun w h => h.tail.tail) ?_
        refine TQ_ret1 2 _ rfl rfl ?_
        exact ⟨rfl, rfl⟩
  · have hil : i = c.zs.length := by omega
    subst hil
    rw [mayZs_yes (by omega) hall]
    repeat ((first | with_reducible refine T_seq ?_ | with_reducible refine T_region ?_ | with_reducible refine TL_nil ?_ | with_reducible refine TQ_then ?_ | with_reducible refine T_exit ?_ | with_reducible refine T_ret ?_ | with_reducible refine TQ_then_exit ?_ | with_reducible refine TQ_block_exit ?_ | refine TL_q (op_assign rfl) rfl ?_ | (refine' TL_q (op_bin rfl rfl ?_) rfl ?_; rotate_left 1; (· (exact bin_lss))) | (refine T_no rfl ?_ ?_; (· (exact dF (by (omega)))))))
    refine TQ_heap (fun w h => h.tail) ?_
    refine TQ_ret1 2 _ rfl rfl ?_
    exact ⟨rfl, rfl⟩
end Go.Proofs.YtnhlpifbadncmaaDoor
namespace Go.Proofs.YtnhlpifbadncmaaDoor
open Go.RowKit
open Cn (Zo Cf)
set_option linter.unusedVariables false
set_option linter.unusedSimpArgs false
--auto
variable {G : World} {L : Blocks}
/-- What may be told of a configuration. -/
structure CfL (L : Blocks) (c : Cf) (v : Value) : Prop where
  row : sliceR 3 zoR L [v] c.zs
  small : ∀ z ∈ c.zs, z.name.length ≤ 1000000
theorem CfL.mono {L' : Blocks} {c : Cf} {v : Value} (h : CfL L c v) (hs : ∀ p ∈ L, p ∈ L') : CfL L' c v := ⟨mono_slice mono_zo _ _ _ _ hs h.row, h.small⟩
theorem mayNum_ups {c : Cf} (h : Cn.mayNum c = true) : 1 ≤ c.ups ∧ c.ups ≤ 9 := by
  have := of_decide_eq_true h
  omega
def mayE1 (c : Cf) : Int := if Cn.mayP c then 0 else 1
set_option maxRecDepth 100000 in
set_option maxHeartbeats 4000000 in
theorem pMay_S (c : Cf) (v : Value) (h : CfL L c v) : Spec Tryd.prog G 11 #[.agg (cfCells c v).toArray] L fun u M => u = .int .i64 (mayE1 c) ∧ M = L := by
  refine Spec_of (n := 11) Tryd.func11 rfl rfl rfl ?_
  refine T_seq (T_region (TL_new (op_boxA rfl) rfl ?_))
  intro b1
  repeat ((first | with_reducible refine T_seq ?_ | with_reducible refine T_region ?_ | with_reducible refine TL_nil ?_ | with_reducible refine TQ_then ?_ | refine TL_q (op_assign rfl) rfl ?_ | (refine' TL_q (op_ldAll rfl st_25 ?_ ?_) rfl ?_; rotate_left 3; (· repeat ((exact List.mem_cons_self))); (· (rfl)))))
  refine TL_op (op_call hb_26 rfl (mayNum_S c v)) rfl ?_
  cases hn : Cn.mayNum c with
  | false =>
    have hm : mayE1 c = 1 := by unfold mayE1 Cn.mayP; rw [hn]; rfl
    rw [hm]
    repeat ((first | with_reducible refine T_seq ?_ | with_reducible refine T_region ?_ | with_reducible refine TL_nil ?_ | with_reducible refine TQ_then ?_ | with_reducible refine T_ret ?_ | with_reducible refine TQ_then_ret ?_ | refine TL_q (op_move rfl) rfl ?_ | refine TL_q (op_assign rfl) rfl ?_ | refine TL_q (op_not rfl) rfl ?_ | (refine' TL_q (op_pickT rfl ?_ rfl) rfl ?_; (· (exact Bool.not_false))) | (refine TL_gno rfl rfl ?_ rfl ?_; (· (with_reducible rfl))) | (refine T_yes rfl ?_ ?_; (· (with_reducible rfl)))))
    refine TQ_heap (fun w h => h.tail) ?_
    refine TQ_ret1 2 _ rfl rfl ?_
    exact ⟨rfl, rfl⟩
  | true =>
    repeat ((first | refine TL_q (op_move rfl) rfl ?_ | refine TL_q (op_not rfl) rfl ?_ | (refine TL_gpre rfl rfl ?_ ?_; (· (exact Bool.not_true))) | (refine' TL_gq2 (op_ldAll rfl st_25 ?_ ?_) rfl ?_; rotate_left 3; (· repeat ((exact List.mem_cons_self))); (· (rfl)))))
    refine TG_op (op_call hb_27 rfl (mayZones_S c v (mono_slice mono_zo _ _ _ _ (mem_of_cnt (by intro p; (try simp only [cnt_append, cnt_cons, cnt_nil]) <;> omega)) h.row) (mayNum_ups hn) h.small)) rfl ?_
    cases hz : Cn.mayZs c.ups c.zs with
    | false =>
      have hm : mayE1 c = 1 := by unfold mayE1 Cn.mayP; rw [hn, hz]; rfl
      rw [hm]
      repeat ((first | with_reducible refine T_seq ?_ | with_reducible refine T_region ?_ | with_reducible refine TL_nil ?_ | with_reducible refine TQ_then ?_ | with_reducible refine T_ret ?_ | with_reducible refine TQ_then_ret ?_ | refine TL_q (op_assign rfl) rfl ?_ | (refine' TL_q (op_pickF rfl ?_ rfl) rfl ?_; (· (exact Bool.not_true))) | (refine TL_gpre rfl rfl ?_ ?_; (· (exact Bool.not_true))) | refine TL_gq2 (op_not rfl) rfl ?_ | (refine T_yes rfl ?_ ?_; (· (exact Bool.not_false)))))
      refine TQ_heap (fun w h => h.tail) ?_
      refine TQ_ret1 2 _ rfl rfl ?_
      exact ⟨rfl, rfl⟩
    | true =>
      have hm : mayE1 c = 0 := by unfold mayE1 Cn.mayP; rw [hn, hz]; rfl
      rw [hm]
      repeat ((first | with_reducible refine T_seq ?_ | with_reducible refine T_region ?_ | with_reducible refine TL_nil ?_ | with_reducible refine TQ_then ?_ | with_reducible refine T_skip ?_ | with_reducible refine T_ret ?_ | refine TL_q (op_assign rfl) rfl ?_ | (refine' TL_q (op_pickF rfl ?_ rfl) rfl ?_; (· (exact Bool.not_true))) | (refine TL_gpre rfl rfl ?_ ?_; (· (exact Bool.not_true))) | refine TL_gq2 (op_not rfl) rfl ?_ | (refine T_no rfl ?_ ?_; (· (exact Bool.not_true)))))
      refine TQ_heap (fun w h => h.tail) ?_
      refine TQ_ret1 2 _ rfl rfl ?_
      exact ⟨rfl, rfl⟩
theorem mayE1_yes {c : Cf} (h : Cn.mayP c = true) : mayE1 c = 0 := if_pos h
theorem mayE1_no {c : Cf} (h : Cn.mayP c = false) : mayE1 c = 1 := if_neg (by rw [h]; decide)
set_option maxRecDepth 100000 in
set_option maxHeartbeats 4000000 in
theorem pLies_S (c : Cf) (v : Value) (h : CfL L c v) : Spec Tryd.prog G 12 #[.agg (cfCells c v).toArray] L fun u M => u = .int .i64 (Cn.liesP c) ∧ M = L := by
  refine Spec_of (n := 9) Tryd.func12 rfl rfl rfl ?_
  refine T_seq (T_region (TL_new (op_boxA rfl) rfl ?_))
  intro b1
  have g0 : (cfCells (c) (v)).toArray[0 + 0]? = some (.int .i64 (c).ups) := rfl
  have g1 : (cfCells (c) (v)).toArray[0 + 1]? = some (.int .i64 (c).ded) := rfl
  have g2 : (cfCells (c) (v)).toArray[0 + 2]? = some (.int .i64 (c).hdg) := rfl
  have g3 : (cfCells (c) (v)).toArray[0 + 3]? = some (.int .i64 (c).wai) := rfl
  have g4 : (cfCells (c) (v)).toArray[0 + 4]? = some (.int .i64 (c).tri) := rfl
  have g5 : (cfCells (c) (v)).toArray[0 + 5]? = some (.int .i64 (c).res) := rfl
  have g6 : (cfCells (c) (v)).toArray[0 + 6]? = some (.int .i64 (c).lim) := rfl
  have g7 : (cfCells (c) (v)).toArray[0 + 7]? = some (.int .i64 (c).cac) := rfl
  have g8 : (cfCells (c) (v)).toArray[0 + 8]? = some (.int .i64 (c).fli) := rfl
  have g9 : (cfCells (c) (v)).toArray[0 + 9]? = some (.int .i64 (c).wtr) := rfl
  have g10 : (cfCells (c) (v)).toArray[0 + 10]? = some (.int .i64 (c).ttl) := rfl
  have g11 : (cfCells (c) (v)).toArray[0 + 11]? = some (.int .i64 (c).siz) := rfl
  have g12 : (cfCells (c) (v)).toArray[0 + 12]? = some (v) := rfl
  repeat ((first | with_reducible refine T_seq ?_ | with_reducible refine T_region ?_ | with_reducible refine TL_nil ?_ | with_reducible refine TQ_then ?_ | refine TL_q (op_assign rfl) rfl ?_ | (refine' TL_q (op_ldAll rfl st_25 ?_ ?_) rfl ?_; rotate_left 3; (· repeat ((exact List.mem_cons_self))); (· (rfl)))))
  refine TL_op (op_call hb_11 rfl (pMay_S c v (h.mono (mem_of_cnt (by intro p; (try simp only [cnt_append, cnt_cons, cnt_nil]) <;> omega))))) rfl ?_
  cases hm : Cn.mayP c with
  | true =>
    have he : mayE1 c = 0 := mayE1_yes hm
    have hu := mayNum_ups (Bool.and_eq_true_iff.1 hm).1
    have hl : Cn.liesP c = c.ups / 2 := by unfold Cn.liesP; rw [if_pos hm]
    rw [he, hl]
    repeat ((first | with_reducible refine T_seq ?_ | with_reducible refine T_region ?_ | with_reducible refine TL_nil ?_ | with_reducible refine TQ_then ?_ | with_reducible refine T_skip ?_ | with_reducible refine T_ret ?_ | refine TL_q (op_assign rfl) rfl ?_ | (refine' TL_q (op_bin rfl rfl ?_) rfl ?_; rotate_left 1; (· (first | exact bin_quo (by omega) (by omega) ⟨by omega, by omega⟩ | exact bin_neq))) | refine TL_q (op_fld rfl fld_25_0) rfl ?_ | (refine' TL_q (op_ld rfl pl_3 ?_ ?_) rfl ?_; rotate_left 4; (· repeat ((exact List.mem_cons_self))); (· (assumption))) | (refine T_no rfl ?_ ?_; (· (exact Bool.not_true)))))
    refine TQ_heap (fun w h => h.tail) ?_
    refine TQ_ret1 2 _ rfl rfl ?_
    exact ⟨rfl, rfl⟩
  | false =>
    have he : mayE1 c = 1 := mayE1_no hm
    have hl : Cn.liesP c = 0 := by unfold Cn.liesP; rw [hm]; rfl
    rw [he, hl]
    repeat ((first | with_reducible refine T_seq ?_ | with_reducible refine T_region ?_ | with_reducible refine TL_nil ?_ | with_reducible refine TQ_then ?_ | with_reducible refine T_ret ?_ | with_reducible refine TQ_then_ret ?_ | refine TL_q (op_assign rfl) rfl ?_ | (refine' TL_q (op_bin rfl rfl ?_) rfl ?_; rotate_left 1; (· (exact bin_neq))) | (refine T_yes rfl ?_ ?_; (· (exact Bool.not_false)))))
    refine TQ_heap (fun w h => h.tail) ?_
    refine TQ_ret1 2 _ rfl rfl ?_
    exact ⟨rfl, rfl⟩
end Go.Proofs.YtnhlpifbadncmaaDoor
namespace Go.Proofs.YtnhlpifbadncmaaDoor
open Go.RowKit
open Cn (Zo Cf)
set_option linter.unusedVariables false
set_option linter.unusedSimpArgs false
--auto
variable {G : World} {L : Blocks}
set_option maxRecDepth 100000 in
set_option maxHeartbeats 1000000 in
theorem WriteString_spec (b : Nat) (l t : Nm.Bytes) (B : Blocks) (h : BuildRep b l B) (hl : l.length ≤ 10000000) (ht : t.length ≤ 10000000) :
    Spec Tryd.prog G 29 #[.pointer (some ⟨b, 0, none⟩), .string (bs t)] (B ++ L) fun u M => ∃ B', BuildRep b (l ++ t) B' ∧ M = B' ++ L := by
  obtain ⟨p, v, B1, hp, hR, rfl⟩ := h.is
  obtain ⟨a1, c1, rfl⟩ := hR.slice
  refine Spec_of (n := 19) Tryd.func29 rfl rfl rfl ?_
  repeat ((first | with_reducible refine T_seq ?_ | with_reducible refine T_region ?_ | with_reducible refine TL_nil ?_ | with_reducible refine TQ_then ?_ | refine TL_q (op_move rfl) rfl ?_ | refine TL_q (op_assign rfl) rfl ?_))
  refine TL_opT (op_call hb_53 rfl (copyCheck_spec b p _ hp)) rfl ?_
  rintro u8 _ rfl
  repeat ((first | with_reducible refine T_seq ?_ | with_reducible refine T_region ?_ | with_reducible refine TL_nil ?_ | with_reducible refine TQ_then ?_ | refine TL_q (op_move rfl) rfl ?_ | refine TL_q (op_nilCheck rfl) rfl ?_ | refine TL_q (op_fld rfl fld_50_1) rfl ?_ | (refine' TL_q (op_ld rfl pl_48 ?_ ?_) rfl ?_; rotate_left 4; (· repeat ((exact List.mem_cons_self))); (· (rfl)))))
  refine TL_perm List.perm_middle.symm ?_
  refine TL_appS ety_48 Tryd.underlying9 rfl rfl hR (by omega) rfl ?_
  intro v8 B8 hR8
  obtain ⟨a8, c8, rfl⟩ := hR8.slice
  refine TL_perm List.perm_middle ?_
  repeat ((first | with_reducible refine T_seq ?_ | with_reducible refine T_region ?_ | with_reducible refine TL_nil ?_ | with_reducible refine TQ_then ?_ | with_reducible refine T_ret ?_ | refine TL_q (op_move rfl) rfl ?_ | refine TL_q (op_assign rfl) rfl ?_ | refine TL_q (op_nilCheck rfl) rfl ?_ | refine TL_q (op_len_str rfl Tryd.underlying9) rfl ?_ | refine TL_q (op_fld rfl fld_50_1) rfl ?_ | (refine' TL_st rfl rfl one_48 rfl ?_ rfl ?_; rotate_left 1; (· (rfl)))))
  refine TQ_ret2 4 5 _ _ rfl rfl rfl ?_
  exact ⟨_, ⟨_, _, B8, Or.inr rfl, by simpa using hR8, rfl⟩, rfl⟩
end Go.Proofs.YtnhlpifbadncmaaDoor
namespace Go.Proofs.YtnhlpifbadncmaaDoor
open Go.RowKit
open Cn (Zo Cf)
set_option linter.unusedVariables false
set_option linter.unusedSimpArgs false
theorem wr_clean (c : UInt8) : ∀ x ∈ wr c, 33 ≤ x.toNat := by
  intro x hx
  unfold wr at hx
  have dg : ∀ k : Nat, k ≤ 9 → (UInt8.ofNat (48 + k)).toNat = 48 + k := fun k hk => by simp; omega
  have hb := c.toNat_lt
  split at hx
  · rename_i h
    simp only [List.mem_cons, List.not_mem_nil, or_false] at hx
    rcases hx with rfl | rfl
    · decide
    · omega
  · split at hx
    · simp only [List.mem_cons, List.not_mem_nil, or_false] at hx
      rcases hx with rfl | rfl | rfl | rfl
      · decide
      · rw [dg _ (by omega)]; omega
      · rw [dg _ (by omega)]; omega
      · rw [dg _ (by omega)]; omega
    · simp only [List.mem_cons, List.not_mem_nil, or_false] at hx
      subst hx
      omega
theorem txtOf_clean (ls : List Nm.Bytes) : ∀ x ∈ txtOf ls, 33 ≤ x.toNat := by
  intro x hx
  obtain ⟨l, _, hl⟩ := List.mem_flatMap.1 hx
  rcases List.mem_append.1 hl with hl | hl
  · obtain ⟨c, _, hc⟩ := List.mem_flatMap.1 hl
    exact wr_clean c x hc
  · simp only [List.mem_cons, List.not_mem_nil, or_false] at hl
    subst hl
    decide
def theT : Cn.Names := ⟨textN, fun t => (parseV t, parseE t)⟩
theorem theT_ok : theT.Ok where
  back n h := by
    obtain ⟨h1, h2, _⟩ := parse_text h
    show (parseV (textN n), parseE (textN n)) = (n, 0)
    rw [h1, h2]
  may t n h := by
    have h1 : parseV t = n := congrArg Prod.fst h
    have h2 : parseE t = 0 := congrArg Prod.snd h
    rw [← h1]
    exact parse_may h2
  clean n h := by
    show ∀ c ∈ textN n, 33 ≤ c.toNat
    cases hn : Nm.nm n with
    | none => unfold Nm.may at h; rw [hn] at h; cases h
    | some ls =>
      cases ls with
      | nil =>
        intro c hc
        unfold textN at hc
        rw [hn] at hc
        simp only [List.mem_cons, List.not_mem_nil, or_false] at hc
        subst hc
        decide
      | cons l ls => rw [text_name hn]; exact txtOf_clean _
  len n h := (parse_text h).2.2.1
/-- A text's first lines. -/
def pre (ls : List Nm.Bytes) (k : Nat) : Nm.Bytes := Cn.unlines (ls.take k) []
theorem pre_succ {ls : List Nm.Bytes} {k : Nat} {l : Nm.Bytes} (h : ls[k]? = some l) : pre ls (k + 1) = pre ls k ++ (l ++ [10]) := by
  unfold pre Cn.unlines
  rw [List.take_add_one, h]
  simp
theorem pre_all (ls : List Nm.Bytes) : pre ls ls.length = Cn.unlines ls [] := by unfold pre; rw [List.take_length]
theorem pre_len {c : Cf} (h : Cn.mayP c = true) (k : Nat) : (pre (Cn.lineL theT c) k).length ≤ 40000 := by
  have h1 := Cn.unlines_take (Cn.lineL theT c) k
  have h2 := Cn.textC_len theT_ok h
  unfold Cn.textC at h2
  unfold pre
  omega
theorem lineL_num (c : Cf) {k : Nat} {w : Nm.Bytes} {v : Int} (hw : Cn.words12[k]? = some w) (hv : c.nums[k]? = some v) : (Cn.lineL theT c)[k]? = some (Cn.numLine w v) := by
  have hk := (List.getElem?_eq_some_iff.1 hw).1
  have h12 : (List.zipWith Cn.numLine Cn.words12 c.nums).length = 12 := rfl
  unfold Cn.lineL
  rw [List.getElem?_append_left (by rw [h12]; exact hk), List.getElem?_zipWith, hw, hv]
theorem lineL_zone (c : Cf) {i : Nat} {z : Zo} (h : c.zs[i]? = some z) : (Cn.lineL theT c)[12 + i]? = some (Cn.zoneLine theT z) := by
  have h12 : (List.zipWith Cn.numLine Cn.words12 c.nums).length = 12 := rfl
  unfold Cn.lineL
  rw [List.getElem?_append_right (by rw [h12]; omega), h12, Nat.add_sub_cancel_left, List.getElem?_map, h]
  rfl
theorem lineL_len (c : Cf) : (Cn.lineL theT c).length = 12 + c.zs.length := by
  unfold Cn.lineL
  rw [List.length_append, List.length_map]
  rfl
/-- The numerals of the first upstreams. -/
def tb (t u : Nat) : Nm.Bytes := ((List.range u).filter fun u => t.testBit u).flatMap fun u => 32 :: Lib.decDigits u
theorem tb_zero (t : Nat) : tb t 0 = [] := rfl
theorem tb_yes {t u : Nat} (h : t.testBit u = true) : tb t (u + 1) = tb t u ++ (32 :: Lib.decDigits u) := by
  unfold tb
  rw [List.range_succ, List.filter_append]
  simp [h]
theorem tb_no {t u : Nat} (h : t.testBit u = false) : tb t (u + 1) = tb t u := by
  unfold tb
  rw [List.range_succ, List.filter_append]
  simp [h]
theorem tb_all (t : Nat) : tb t 16 = Cn.trustB t := rfl
theorem tb_len (t : Nat) : ∀ u, u ≤ 16 → (tb t u).length ≤ 3 * u
  | 0, _ => by rw [tb_zero]; simp
  | u + 1, h => by
    have := tb_len t u (by omega)
    cases hb : t.testBit u with
    | false => rw [tb_no hb]; omega
    | true =>
      rw [tb_yes hb, List.length_append, List.length_cons]
      have := Cn.dec_len16 (show u ≤ 15 by omega)
      omega
end Go.Proofs.YtnhlpifbadncmaaDoor
namespace Go.Proofs.YtnhlpifbadncmaaDoor
open Go.RowKit
open Cn (Zo Cf)
set_option linter.unusedVariables false
set_option linter.unusedSimpArgs false
--auto
variable {G : World} {L : Blocks}
/-- A number of an array that is a value. -/
theorem op_idxN {P : Program} {ρ : Slots} {ty : TypeId} {x y : Operand} {C : Array Value} {t e : TypeId} {len : Nat} {k k2 : IntKind} {i : Int} {v : Value} (hx : ev ρ x = some (.agg C)) (hy : ev ρ y = some (.int k i)) (hu : P.underlying t = some (.array len e)) (he : P.underlying e = some (.int k2)) (hs : (P.info? e).map (·.size) = some 1)
    (h0 : 0 ≤ i) (h1 : i < len) (hv : C[i.toNat]? = some v) : OpQ P ρ L (.index t x y) ty v :=
  ⟨fun r hr w hw o ho _ => by
    cases hi : P.info? e with
    | none => simp [hi] at hs
    | some ti =>
      simp [hi] at hs
      have ha : (isAgg e).run P w = .ok false w := by
        unfold isAgg
        simp [run_underlying he]
      have hlt : i.toNat < C.size := (Array.getElem?_eq_some_iff.1 hv).1
      simp [execOp, ho, hr _ _ hx, hr _ _ hy, Instr.index, asIntOf, run_underlying hu, h0, h1, part, ha, sizeOf, typeInfo, hi, hs, hv]⟩
theorem hbWS : hasBody Tryd.prog 29 = true := by kernel_rfl
theorem hbIt : hasBody Tryd.prog 31 = true := by kernel_rfl
theorem hbCut : hasBody Tryd.prog 47 = true := by kernel_rfl
theorem hbSp : hasBody Tryd.prog 63 = true := by kernel_rfl
def showV (c : Cf) : Value := .tuple #[.string (bs (Cn.showP theT c).1), .int .i64 (Cn.showP theT c).2]
set_option maxRecDepth 100000 in
set_option maxHeartbeats 8000000 in
theorem pShow_S (c : Cf) (v : Value) (h : CfL L c v) (hg : Glob L) : Spec Tryd.prog G 13 #[.agg (cfCells c v).toArray] L fun u M => u = showV c ∧ M = L := by
  have hz := h.row
  obtain ⟨a, cap, e, hz⟩ := hz.val
  obtain rfl := (List.cons.inj e).1
  clear e
  have hmax := (sliceR.cut hz).2.2.1
  have hcap := (sliceR.cut hz).2.1
  unfold maxLen at hmax
  refine Spec_of (n := 63) Tryd.func13 rfl rfl rfl ?_
  refine T_seq (T_region (TL_new (op_boxA rfl) rfl ?_))
  intro b1
  have g0 : (cfCells (c) (.slice a c.zs.length cap)).toArray[0 + 0]? = some (.int .i64 (c).ups) := rfl
  have g1 : (cfCells (c) (.slice a c.zs.length cap)).toArray[0 + 1]? = some (.int .i64 (c).ded) := rfl
  have g2 : (cfCells (c) (.slice a c.zs.length cap)).toArray[0 + 2]? = some (.int .i64 (c).hdg) := rfl
  have g3 : (cfCells (c) (.slice a c.zs.length cap)).toArray[0 + 3]? = some (.int .i64 (c).wai) := rfl
  have g4 : (cfCells (c) (.slice a c.zs.length cap)).toArray[0 + 4]? = some (.int .i64 (c).tri) := rfl
  have g5 : (cfCells (c) (.slice a c.zs.length cap)).toArray[0 + 5]? = some (.int .i64 (c).res) := rfl
  have g6 : (cfCells (c) (.slice a c.zs.length cap)).toArray[0 + 6]? = some (.int .i64 (c).lim) := rfl
  have g7 : (cfCells (c) (.slice a c.zs.length cap)).toArray[0 + 7]? = some (.int .i64 (c).cac) := rfl
  have g8 : (cfCells (c) (.slice a c.zs.length cap)).toArray[0 + 8]? = some (.int .i64 (c).fli) := rfl
  have g9 : (cfCells (c) (.slice a c.zs.length cap)).toArray[0 + 9]? = some (.int .i64 (c).wtr) := rfl
  have g10 : (cfCells (c) (.slice a c.zs.length cap)).toArray[0 + 10]? = some (.int .i64 (c).ttl) := rfl
  have g11 : (cfCells (c) (.slice a c.zs.length cap)).toArray[0 + 11]? = some (.int .i64 (c).siz) := rfl
  have g12 : (cfCells (c) (.slice a c.zs.length cap)).toArray[0 + 12]? = some (.slice a c.zs.length cap) := rfl
  repeat ((first | with_reducible refine T_seq ?_ | with_reducible refine T_region ?_ | with_reducible refine TL_nil ?_ | with_reducible refine TQ_then ?_ | refine TL_q (op_assign rfl) rfl ?_ | (refine' TL_q (op_ldAll rfl st_25 ?_ ?_) rfl ?_; rotate_left 3; (· repeat ((exact List.mem_cons_self))); (· (rfl)))))
  refine TL_op (op_call hb_11 rfl (pMay_S c _ (h.mono (mem_of_cnt (by intro p; (try simp only [cnt_append, cnt_cons, cnt_nil]) <;> omega))))) rfl ?_
  cases hm : Cn.mayP c with
  | false =>
    have hs : showV c = .tuple #[.string (bs []), .int .i64 1] := by unfold showV Cn.showP; rw [hm]; rfl
    rw [mayE1_no hm, hs]
    repeat ((first | with_reducible refine T_seq ?_ | with_reducible refine T_region ?_ | with_reducible refine TL_nil ?_ | with_reducible refine TQ_then ?_ | with_reducible refine T_ret ?_ | with_reducible refine TQ_then_ret ?_ | refine TL_q (op_assign rfl) rfl ?_ | (refine' TL_q (op_bin rfl rfl ?_) rfl ?_; rotate_left 1; (· (exact bin_neq))) | (refine T_yes rfl ?_ ?_; (· (exact Bool.not_false)))))
    refine TQ_heap (fun w h => h.tail) ?_
    refine TQ_ret2 2 3 _ _ rfl rfl rfl ?_
    exact ⟨rfl, rfl⟩
  | true =>
    have hs : showV c = .tuple #[.string (bs (pre (Cn.lineL theT c) (Cn.lineL theT c).length)), .int .i64 0] := by
      unfold showV Cn.showP
      rw [hm, pre_all]
      rfl
    rw [mayE1_yes hm, hs]
    have hrange := Cn.mayNum_range (Bool.and_eq_true_iff.1 hm).1
    have hzones := Cn.mayP_zones hm
    repeat ((first | with_reducible refine T_seq ?_ | with_reducible refine T_region ?_ | with_reducible refine TL_nil ?_ | with_reducible refine TQ_then ?_ | with_reducible refine T_skip ?_ | (refine' TL_q (op_bin rfl rfl ?_) rfl ?_; rotate_left 1; (· (exact bin_neq))) | (refine' TL_q (op_ldAll rfl st_25 ?_ ?_) rfl ?_; rotate_left 3; (· repeat ((first | exact List.mem_cons_self | apply List.mem_cons_of_mem))); (· (rfl))) | (refine TL_new (op_alloc (C := #[(.pointer none), (.slice none 0 0)]) zero_50 rfl) rfl ?_; intro bNew) | (refine T_no rfl ?_ ?_; (· (exact Bool.not_true)))))
    obtain ⟨b4, hb4⟩ : ∃ b, bNew = b := ⟨_, rfl⟩
    rw [hb4]
    clear hb4 bNew
    refine TL_op (op_call hb_28 rfl (values_S c _)) rfl ?_
    obtain ⟨tw, frw, hgw⟩ := hg.words
    repeat ((first | with_reducible refine T_block ?_ | with_reducible refine TL_nil ?_ | with_reducible refine TQ_then ?_ | refine TL_q (op_move rfl) rfl ?_))
    refine T_loopS (σ := Nat × Blocks) (fun x => x.1 ≤ 12 ∧ BuildRep b4 (pre (Cn.lineL theT c) x.1) x.2) (fun x => [(1, .pointer (some ⟨b1, 0, none⟩)), (4, .pointer (some ⟨b4, 0, none⟩)), (14, .agg (c.nums.map (Value.int .i64)).toArray), (15, .int .i64 (x.1 : Nat))]) (fun x => x.2 ++ ((b1, Obj.cells (cfCells c (.slice a c.zs.length cap)).toArray 25 (0, 0)) :: L)) (fun x => 12 - x.1) (0, [(b4, .cells #[.pointer none, .slice none 0 0] 50 (0, 0))]) ⟨Nat.zero_le _, ⟨_, _, [], Or.inl rfl, Row.nil _ _, rfl⟩⟩ ?_ (fun _ h => h) ?_
    (repeat ((first | exact trivial | refine ⟨rfl, ?_⟩)))
    rintro ⟨k, B⟩ ⟨hk, hB⟩
    dsimp only at hk hB ⊢
    by_cases hlt : k < 12
    · obtain ⟨w, hw⟩ : ∃ w, Cn.words12[k]? = some w := ⟨_, List.getElem?_eq_getElem hlt⟩
      obtain ⟨x, hx⟩ : ∃ x, c.nums[k]? = some x := ⟨_, List.getElem?_eq_getElem hlt⟩
      have hline := lineL_num c hw hx
      have hpl := pre_len hm k
      have hx0 := hrange x (List.mem_of_getElem? hx)
      have hwl : w.length ≤ 8 := (by decide : ∀ w ∈ Cn.words12, w.length ≤ 8) w (List.mem_of_getElem? hw)
      obtain ⟨n, rfl⟩ : ∃ n : Nat, x = (n : Nat) := ⟨x.toNat, by omega⟩
      have hdl := Cn.decD_len n (by omega)
      have hgm : (0, Obj.cells (Cn.words12.map txtV).toArray tw frw) ∈ B ++ ((b1, Obj.cells (cfCells c (.slice a c.zs.length cap)).toArray 25 (0, 0)) :: L) := List.mem_append_right _ (List.mem_cons_of_mem _ hgw)
      have hword : (Cn.words12.map txtV).toArray[0 + k * 1]? = some (.string (bs w)) := by
        rw [List.getElem?_toArray, Nat.zero_add, Nat.mul_one, List.getElem?_map, hw]; rfl
      have hnum : (c.nums.map (Value.int .i64)).toArray[((k : Nat) : Int).toNat]? = some (.int .i64 (n : Nat)) := by
        rw [List.getElem?_toArray, Int.toNat_natCast, List.getElem?_map, hx]; rfl
      repeat ((first | with_reducible refine T_seq ?_ | with_reducible refine T_block ?_ | with_reducible refine T_region ?_ | with_reducible refine TL_nil ?_ | with_reducible refine TQ_then ?_ | with_reducible refine T_skip ?_ | refine TL_q (op_move rfl) rfl ?_ | (refine' TL_q (op_bin rfl rfl ?_) rfl ?_; rotate_left 1; (· (exact bin_lss))) | (refine T_yes rfl ?_ ?_; (· (exact dT (by (omega)))))))
      refine TL_q (op_idxN rfl rfl Tryd.underlying51 Tryd.underlying3 (by kernel_rfl) (by omega) (by omega) hnum) rfl ?_
      repeat ((first | with_reducible refine T_seq ?_ | with_reducible refine T_region ?_ | with_reducible refine TL_nil ?_ | with_reducible refine TQ_then ?_ | refine TL_q (op_move rfl) rfl ?_ | refine TL_q (op_assign rfl) rfl ?_ | (refine' TL_q (op_idxA arr_57 rfl rfl ?_ ?_) rfl ?_; (· omega); (· omega)) | (refine' TL_q (op_ld rfl pl_5 ?_ ?_) rfl ?_; rotate_left 4; (· repeat ((assumption))); (· (assumption)))))
      refine TL_opT (op_call hbWS rfl (WriteString_spec b4 _ w _ hB (by (try simp only [List.length_append, List.length_cons, List.length_nil]); omega) (by omega))) rfl ?_
      rintro _ _ ⟨B2, hB2, rfl⟩
      repeat ((first | with_reducible refine T_seq ?_ | with_reducible refine T_region ?_ | with_reducible refine TL_nil ?_ | with_reducible refine TQ_then ?_))
      refine TL_opT (op_call hb_30 rfl (WriteByte_spec b4 _ _ 32 hB2 (by (try simp only [List.length_append, List.length_cons, List.length_nil]); omega))) rfl ?_
      rintro _ _ ⟨rfl, B3, hB3, rfl⟩
      repeat ((first | with_reducible refine T_seq ?_ | with_reducible refine T_region ?_ | with_reducible refine TL_nil ?_ | with_reducible refine TQ_then ?_ | refine TL_q (op_move rfl) rfl ?_))
      refine TL_op (op_call hbIt rfl (Itoa_S n (by omega) (hg.mono (mem_of_cnt (by intro p; (try simp only [cnt_append, cnt_cons, cnt_nil]) <;> omega))))) rfl ?_
      skip
      refine TL_opT (op_call hbWS rfl (WriteString_spec b4 _ (Lib.decDigits n) _ hB3 (by (try simp only [List.length_append, List.length_cons, List.length_nil]); omega) (by omega))) rfl ?_
      rintro _ _ ⟨B4, hB4, rfl⟩
      repeat ((first | with_reducible refine T_region ?_ | with_reducible refine TL_nil ?_ | with_reducible refine TQ_then ?_))
      refine TL_opT (op_call hb_30 rfl (WriteByte_spec b4 _ _ 10 hB4 (by (try simp only [List.length_append, List.length_cons, List.length_nil]); omega))) rfl ?_
      rintro _ _ ⟨rfl, B5, hB5, rfl⟩
      repeat ((first | with_reducible refine T_region ?_ | with_reducible refine TL_nil ?_ | with_reducible refine TQ_then ?_ | with_reducible refine TQ_block ?_ | refine TL_q (op_move rfl) rfl ?_ | (refine' TL_q (op_bin rfl rfl ?_) rfl ?_; rotate_left 1; (· (exact bin_add ⟨by omega, by omega⟩)))))
      refine TQ_roundS (k + 1, B5) ⟨by dsimp only; omega, ?_⟩ ?_ (fun _ h => h) (by dsimp only; omega)
      · dsimp only
        rw [pre_succ hline]
        simpa [Cn.numLine] using hB5
      (repeat ((first | exact trivial | refine ⟨rfl, ?_⟩)))
    · have hk12 : k = 12 := by omega
      subst hk12
      repeat ((first | with_reducible refine T_seq ?_ | with_reducible refine T_block ?_ | with_reducible refine T_region ?_ | with_reducible refine TL_nil ?_ | with_reducible refine TQ_then ?_ | with_reducible refine T_exit ?_ | with_reducible refine TQ_then_exit ?_ | with_reducible refine TQ_block_exit ?_ | refine TL_q (op_move rfl) rfl ?_ | (refine' TL_q (op_bin rfl rfl ?_) rfl ?_; rotate_left 1; (· (exact bin_lss))) | refine TL_q (op_len_slice rfl Tryd.underlying23) rfl ?_ | refine TL_q (op_fld rfl fld_25_12) rfl ?_ | (refine' TL_q (op_ld rfl pl_5 ?_ ?_) rfl ?_; rotate_left 4; (· repeat ((first | exact List.mem_cons_self | apply List.mem_append_right))); (· (assumption))) | (refine T_no rfl ?_ ?_; (· (exact Bool.not_true)))))
      refine T_loopS (σ := Nat × Blocks) (fun x => x.1 ≤ c.zs.length ∧ BuildRep b4 (pre (Cn.lineL theT c) (12 + x.1)) x.2) (fun x => [(4, .pointer (some ⟨b4, 0, none⟩)), (30, .slice a c.zs.length cap), (31, .int .i64 (c.zs.length : Nat)), (32, .int .i64 (x.1 : Nat))]) (fun x => x.2 ++ ((b1, Obj.cells (cfCells c (.slice a c.zs.length cap)).toArray 25 (0, 0)) :: L)) (fun x => c.zs.length - x.1) (0, B) ⟨Nat.zero_le _, hB⟩ ?_ (fun _ h => h) ?_
      (repeat ((first | exact trivial | refine ⟨rfl, ?_⟩)))
      rintro ⟨i, B⟩ ⟨hi, hB⟩
      dsimp only at hi hB ⊢
      by_cases hin : i < c.zs.length
      · obtain ⟨z, hzi⟩ : ∃ z, c.zs[i]? = some z := ⟨_, List.getElem?_eq_getElem hin⟩
        obtain ⟨b2, o2, C2, t2, f2, rfl, m2, cs, _, ⟨rfl, hzn, hzp, hzt⟩, hcs⟩ := sliceR.at hz hzi
        have hzmay := hzones.2 z (List.mem_of_getElem? hzi)
        have hzs := h.small z (List.mem_of_getElem? hzi)
        have hline := lineL_zone c hzi
        have hpl := pre_len hm (12 + i)
        have htl := theT_ok.len z.name hzmay.1
        have htl2 : (textN z.name).length ≤ 2000 := htl
        have hpw := Cn.polW_len z.pol
        repeat ((first | with_reducible refine T_seq ?_ | with_reducible refine T_block ?_ | with_reducible refine T_region ?_ | with_reducible refine TL_nil ?_ | with_reducible refine TQ_then ?_ | with_reducible refine T_skip ?_ | (refine' TL_q (op_bin rfl rfl ?_) rfl ?_; rotate_left 1; (· (exact bin_lss))) | (refine' TL_q (op_idx ety_23 rfl rfl ?_) rfl ?_; (· omega)) | (refine T_yes rfl ?_ ?_; (· (exact dT (by (omega)))))))
        refine TL_q (op_ldA [.string (bs z.name), .int .u8 (z.pol : Nat), .int .u16 (z.tru : Nat)] rfl st_38 (List.mem_append_right _ (List.mem_cons_of_mem _ m2)) hcs) rfl ?_
        repeat ((first | with_reducible refine T_seq ?_ | with_reducible refine T_region ?_ | with_reducible refine TL_nil ?_ | with_reducible refine TQ_then ?_ | (refine TL_stAll rfl rfl st_38 rfl rfl rfl ?_) | (refine TL_new (op_alloc (C := #[(.string (bs [])), (.int .u8 0), (.int .u16 0)]) zero_38 rfl) rfl ?_; intro bNew)))
        obtain ⟨b8, hb8⟩ : ∃ b, bNew = b := ⟨_, rfl⟩
        rw [hb8]
        clear hb8 bNew
        have k0 : ([.string (bs z.name), .int .u8 (z.pol : Nat), .int .u16 (z.tru : Nat)] : List Value).toArray[0 + 0]? = some (.string (bs z.name)) := rfl
        have k1 : ([.string (bs z.name), .int .u8 (z.pol : Nat), .int .u16 (z.tru : Nat)] : List Value).toArray[0 + 1]? = some (.int .u8 (z.pol : Nat)) := rfl
        have k2 : ([.string (bs z.name), .int .u8 (z.pol : Nat), .int .u16 (z.tru : Nat)] : List Value).toArray[0 + 2]? = some (.int .u16 (z.tru : Nat)) := rfl
        have hz8 : ∀ B : Blocks, (b8, Obj.cells ([.string (bs z.name), .int .u8 (z.pol : Nat), .int .u16 (z.tru : Nat)] : List Value).toArray 38 (0, 0)) ∈ B ++ ((b8, Obj.cells ([.string (bs z.name), .int .u8 (z.pol : Nat), .int .u16 (z.tru : Nat)] : List Value).toArray 38 (0, 0)) :: (b1, Obj.cells (cfCells c (.slice (some ⟨b2, o2, none⟩) c.zs.length cap)).toArray 25 (0, 0)) :: L) := fun B => List.mem_append_right _ (List.mem_cons_self ..)
        refine TL_cnt (L' := B ++ ((b8, Obj.cells ([.string (bs z.name), .int .u8 (z.pol : Nat), .int .u16 (z.tru : Nat)] : List Value).toArray 38 (0, 0)) :: (b1, Obj.cells (cfCells c (.slice (some ⟨b2, o2, none⟩) c.zs.length cap)).toArray 25 (0, 0)) :: L)) ?_ (by intro p; (try simp only [cnt_append, cnt_cons, cnt_nil]) <;> omega)
        refine TL_opT (op_call hbWS rfl (WriteString_spec b4 _ [122, 111, 110, 101, 32] _ hB (by (try simp only [List.length_append, List.length_cons, List.length_nil]); omega) (by decide))) rfl ?_
        rintro _ _ ⟨B2, hB2, rfl⟩
        have hz82 := hz8 B2
        repeat ((first | with_reducible refine T_seq ?_ | with_reducible refine T_region ?_ | with_reducible refine TL_nil ?_ | with_reducible refine TQ_then ?_ | refine TL_q (op_fld rfl fld_38_0) rfl ?_ | (refine' TL_q (op_ld rfl pl_5 ?_ ?_) rfl ?_; rotate_left 4; (· repeat ((assumption))); (· (assumption)))))
        refine TL_op (op_call hb_32 rfl (Text_spec z.name (by omega))) rfl ?_
        skip
        refine TL_opT (op_call hbWS rfl (WriteString_spec b4 _ (textN z.name) _ hB2 (by (try simp only [List.length_append, List.length_cons, List.length_nil]); omega) (by omega))) rfl ?_
        rintro _ _ ⟨B3, hB3, rfl⟩
        repeat ((first | with_reducible refine T_seq ?_ | with_reducible refine T_region ?_ | with_reducible refine TL_nil ?_ | with_reducible refine TQ_then ?_))
        refine TL_opT (op_call hb_30 rfl (WriteByte_spec b4 _ _ 32 hB3 (by (try simp only [List.length_append, List.length_cons, List.length_nil]); omega))) rfl ?_
        rintro _ _ ⟨rfl, B4, hB4, rfl⟩
        have hz84 := hz8 B4
        repeat ((first | with_reducible refine T_seq ?_ | with_reducible refine T_region ?_ | with_reducible refine TL_nil ?_ | with_reducible refine TQ_then ?_ | refine TL_q (op_fld rfl fld_38_1) rfl ?_ | (refine' TL_q (op_ld rfl pl_5 ?_ ?_) rfl ?_; rotate_left 4; (· repeat ((assumption))); (· (assumption)))))
        refine TL_op (op_call hb_33 rfl (policyWord_S z.pol hzp)) rfl ?_
        skip
        refine TL_opT (op_call hbWS rfl (WriteString_spec b4 _ (Cn.polW z.pol) _ hB4 (by (try simp only [List.length_append, List.length_cons, List.length_nil]); omega) (by omega))) rfl ?_
        rintro _ _ ⟨B5, hB5, rfl⟩
        repeat ((first | with_reducible refine T_seq ?_ | with_reducible refine T_block ?_ | with_reducible refine T_region ?_ | with_reducible refine TL_nil ?_ | with_reducible refine TQ_then ?_ | refine TL_q (op_move rfl) rfl ?_))
        refine T_loopS (σ := Nat × Blocks) (fun x => x.1 ≤ 16 ∧ BuildRep b4 (pre (Cn.lineL theT c) (12 + i) ++ [122, 111, 110, 101, 32] ++ textN z.name ++ [32] ++ Cn.polW z.pol ++ tb z.tru x.1) x.2) (fun x => [(4, .pointer (some ⟨b4, 0, none⟩)), (8, .pointer (some ⟨b8, 0, none⟩)), (30, .slice (some ⟨b2, o2, none⟩) c.zs.length cap), (31, .int .i64 (c.zs.length : Nat)), (32, .int .i64 (i : Nat)), (46, .int .i64 (x.1 : Nat))]) (fun x => x.2 ++ ((b8, Obj.cells ([.string (bs z.name), .int .u8 (z.pol : Nat), .int .u16 (z.tru : Nat)] : List Value).toArray 38 (0, 0)) :: (b1, Obj.cells (cfCells c (.slice (some ⟨b2, o2, none⟩) c.zs.length cap)).toArray 25 (0, 0)) :: L)) (fun x => 16 - x.1) (0, B5) ⟨Nat.zero_le _, by dsimp only; rw [tb_zero, List.append_nil]; exact hB5⟩ ?_ (fun _ h => h) ?_
        (repeat ((first | exact trivial | refine ⟨rfl, ?_⟩)))
        rintro ⟨u, B⟩ ⟨hu, hB⟩
        dsimp only at hu hB ⊢
        have htb := tb_len z.tru u hu
        by_cases hu16 : u < 16
        · have hz85 := hz8 B
          have hbit := bit_of z.tru u
          have hdl := Cn.dec_len16 (show u ≤ 15 by omega)
          repeat ((first | with_reducible refine T_seq ?_ | with_reducible refine T_block ?_ | with_reducible refine T_region ?_ | with_reducible refine TL_nil ?_ | with_reducible refine TQ_then ?_ | with_reducible refine T_skip ?_ | refine TL_q (op_move rfl) rfl ?_ | refine TL_q (op_assign rfl) rfl ?_ | (refine' TL_q (op_bin rfl rfl ?_) rfl ?_; rotate_left 1; (· (exact bin_lss))) | refine TL_q (op_fld rfl fld_38_2) rfl ?_ | (refine' TL_q (op_ld rfl pl_5 ?_ ?_) rfl ?_; rotate_left 4; (· repeat ((assumption))); (· (assumption))) | (refine T_yes rfl ?_ ?_; (· (exact dT (by (omega)))))))
          refine TL_q (op_bin rfl rfl (bin_shr16 (by omega))) rfl ?_
          refine TL_q (op_bin rfl rfl (bin_and16 (Nat.lt_of_le_of_lt (Nat.div_le_self _ _) (by omega)))) rfl ?_
          obtain ⟨q, hq⟩ : ∃ q, z.tru / 2 ^ u % 2 = q := ⟨_, rfl⟩
          rw [hq] at hbit ⊢
          by_cases hq1 : q = 1
          · have hb1 : z.tru.testBit u = true := by rw [hbit]; exact decide_eq_true hq1
            repeat ((first | with_reducible refine T_seq ?_ | with_reducible refine T_region ?_ | with_reducible refine TL_nil ?_ | with_reducible refine TQ_then ?_ | (refine' TL_q (op_bin rfl rfl ?_) rfl ?_; rotate_left 1; (· (exact bin_eql))) | (refine T_yes rfl ?_ ?_; (· (exact dT (by (omega)))))))
            refine TL_opT (op_call hb_30 rfl (WriteByte_spec b4 _ _ 32 hB (by (try simp only [List.length_append, List.length_cons, List.length_nil]); omega))) rfl ?_
            rintro _ _ ⟨rfl, B6, hB6, rfl⟩
            repeat ((first | with_reducible refine T_region ?_ | with_reducible refine TL_nil ?_ | with_reducible refine TQ_then ?_ | refine TL_q (op_move rfl) rfl ?_))
            refine TL_op (op_call hbIt rfl (Itoa_S u (by omega) (hg.mono (mem_of_cnt (by intro p; (try simp only [cnt_append, cnt_cons, cnt_nil]) <;> omega))))) rfl ?_
            skip
            refine TL_opT (op_call hbWS rfl (WriteString_spec b4 _ (Lib.decDigits u) _ hB6 (by (try simp only [List.length_append, List.length_cons, List.length_nil]); omega) (by omega))) rfl ?_
            rintro _ _ ⟨B7, hB7, rfl⟩
            repeat ((first | with_reducible refine T_region ?_ | with_reducible refine TL_nil ?_ | with_reducible refine TQ_then ?_ | with_reducible refine TQ_block ?_ | refine TL_q (op_move rfl) rfl ?_ | (refine' TL_q (op_bin rfl rfl ?_) rfl ?_; rotate_left 1; (· (exact bin_add ⟨by omega, by omega⟩)))))
            refine TQ_roundS (u + 1, B7) ⟨by dsimp only; omega, ?_⟩ ?_ (fun _ h => h) (by dsimp only; omega)
            · dsimp only
              rw [tb_yes hb1]
              simpa using hB7
            (repeat ((first | exact trivial | refine ⟨rfl, ?_⟩)))
          · have hb0 : z.tru.testBit u = false := by rw [hbit]; exact decide_eq_false hq1
            repeat ((first | with_reducible refine T_region ?_ | with_reducible refine TL_nil ?_ | with_reducible refine TQ_then ?_ | with_reducible refine TQ_block ?_ | with_reducible refine T_skip ?_ | refine TL_q (op_move rfl) rfl ?_ | (refine' TL_q (op_bin rfl rfl ?_) rfl ?_; rotate_left 1; (· (first | exact bin_add ⟨by omega, by omega⟩ | exact bin_eql))) | (refine T_no rfl ?_ ?_; (· (exact dF (by (omega)))))))
            refine TQ_roundS (u + 1, B) ⟨by dsimp only; omega, ?_⟩ ?_ (fun _ h => h) (by dsimp only; omega)
            · dsimp only
              rw [tb_no hb0]
              exact hB
            (repeat ((first | exact trivial | refine ⟨rfl, ?_⟩)))
        · have hu6 : u = 16 := by omega
          subst hu6
          rw [tb_all] at hB
          rw [tb_all] at htb
          repeat ((first | with_reducible refine T_seq ?_ | with_reducible refine T_region ?_ | with_reducible refine TL_nil ?_ | with_reducible refine TQ_then ?_ | with_reducible refine T_exit ?_ | with_reducible refine TQ_then_exit ?_ | with_reducible refine TQ_block_exit ?_ | (refine' TL_q (op_bin rfl rfl ?_) rfl ?_; rotate_left 1; (· (exact bin_lss))) | (refine T_no rfl ?_ ?_; (· (exact Bool.not_true)))))
          refine TL_opT (op_call hb_30 rfl (WriteByte_spec b4 _ _ 10 hB (by (try simp only [List.length_append, List.length_cons, List.length_nil]); omega))) rfl ?_
          rintro _ _ ⟨rfl, B6, hB6, rfl⟩
          repeat ((first | with_reducible refine T_region ?_ | with_reducible refine TL_nil ?_ | with_reducible refine TQ_then ?_ | with_reducible refine TQ_block ?_ | refine TL_q (op_move rfl) rfl ?_ | (refine' TL_q (op_bin rfl rfl ?_) rfl ?_; rotate_left 1; (· (exact bin_add ⟨by omega, by omega⟩)))))
          refine TQ_roundS (i + 1, B6) ⟨by dsimp only; omega, ?_⟩ ?_ (fun _ h => Heap.cnt h (by intro p; (try simp only [cnt_append, cnt_cons, cnt_nil]) <;> omega)) (by dsimp only; omega)
          · dsimp only
            rw [← Nat.add_assoc, pre_succ hline]
            have e : Cn.zoneLine theT z = [122, 111, 110, 101, 32] ++ (textN z.name ++ ([32] ++ (Cn.polW z.pol ++ Cn.trustB z.tru))) := rfl
            rw [e]
            simpa [List.append_assoc] using hB6
          (repeat ((first | exact trivial | refine ⟨rfl, ?_⟩)))
      · have hil : i = c.zs.length := by omega
        subst hil
        have hll := lineL_len c
        have hne : pre (Cn.lineL theT c) (12 + c.zs.length) ≠ [] := by
          obtain ⟨l, hl⟩ : ∃ l, (Cn.lineL theT c)[11 + c.zs.length]? = some l := ⟨_, List.getElem?_eq_getElem (by omega)⟩
          rw [show 12 + c.zs.length = (11 + c.zs.length) + 1 by omega, pre_succ hl]
          simp
        rw [hll]
        repeat ((first | with_reducible refine T_seq ?_ | with_reducible refine T_region ?_ | with_reducible refine TL_nil ?_ | with_reducible refine TQ_then ?_ | with_reducible refine T_exit ?_ | with_reducible refine TQ_then_exit ?_ | with_reducible refine TQ_block_exit ?_ | (refine' TL_q (op_bin rfl rfl ?_) rfl ?_; rotate_left 1; (· (exact bin_lss))) | (refine T_no rfl ?_ ?_; (· (exact dF (by (omega)))))))
        refine TL_op (op_call hb_34 rfl (String_spec b4 _ B hB hne)) rfl ?_
        repeat ((first | with_reducible refine TL_nil ?_ | with_reducible refine TQ_then ?_ | with_reducible refine T_ret ?_ | refine TL_q (op_assign rfl) rfl ?_))
        refine TQ_heap (fun w h => h.tail) ?_
        refine TQ_ret2 2 3 _ _ rfl rfl rfl ?_
        exact ⟨rfl, rfl⟩
end Go.Proofs.YtnhlpifbadncmaaDoor
