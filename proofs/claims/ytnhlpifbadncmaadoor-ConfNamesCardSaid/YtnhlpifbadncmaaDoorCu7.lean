/-
  Part 7: CE CF CH.
-/
import Derived.Test.YtnhlpifbadncmaaDoorCu6
namespace Go.Proofs.YtnhlpifbadncmaaDoor
open Go.RowKit
open Cn (Zo Cf)
set_option linter.unusedVariables false
set_option linter.unusedSimpArgs false
--auto
variable {G : World} {L : Blocks}
section
variable {P : Program} {n : Nat} {ρ : Slots} {Q : Exit → Act → World → Prop} {ops : Array Oper} {rest : List Oper}
theorem TL_sub {ρ' : Slots} (h : TL P G ops n ρ' L rest Q) (hs : Sub ρ' ρ) : TL P G ops n ρ L rest Q := ⟨fun a w he hw => h.out a w (he.weak hs.get) hw⟩
theorem TL_cut4 {o1 o2 o3 o4 : Oper} (ρ' : Slots) (f : ∀ r, TL P G ops n ρ' L r Q → TL P G ops n ρ L (o1 :: o2 :: o3 :: o4 :: r) Q) (k : TL P G ops n ρ' L rest Q) : TL P G ops n ρ L (o1 :: o2 :: o3 :: o4 :: rest) Q := f _ k
theorem TL_cut5 {o1 o2 o3 o4 o5 : Oper} (ρ' : Slots) (f : ∀ r, TL P G ops n ρ' L r Q → TL P G ops n ρ L (o1 :: o2 :: o3 :: o4 :: o5 :: r) Q) (k : TL P G ops n ρ' L rest Q) : TL P G ops n ρ L (o1 :: o2 :: o3 :: o4 :: o5 :: rest) Q := f _ k
theorem TL_cut6 {o1 o2 o3 o4 o5 o6 : Oper} (ρ' : Slots) (f : ∀ r, TL P G ops n ρ' L r Q → TL P G ops n ρ L (o1 :: o2 :: o3 :: o4 :: o5 :: o6 :: r) Q) (k : TL P G ops n ρ' L rest Q) : TL P G ops n ρ L (o1 :: o2 :: o3 :: o4 :: o5 :: o6 :: rest) Q := f _ k
end
theorem rfMay_S (l : Nm.Bytes) (h : l.length ≤ 1000000) : Spec Tryd.prog G 41 #[.string (bs l)] L fun u M => u = .bool (Nm.may l) ∧ M = L := Spec.ofBelow fun w => refMay_any (bs l) w (bs_mil h)
def heldA (c : Cf) : Prop := (((((((((((1 ≤ c.ups) ∧ c.ups ≤ 9) ∧ c.ups % 2 = 1) ∧ 1 ≤ c.hdg) ∧ c.hdg ≤ 1000) ∧ 1 ≤ c.wai) ∧ c.wai ≤ 1000) ∧ 1 ≤ c.tri) ∧ c.tri ≤ 4) ∧ c.ded ≤ 100000) ∧ (c.ups - 1) / 2 * c.hdg + c.tri * c.wai ≤ c.ded)
def heldB (c : Cf) : Prop := (((((((((((((1 ≤ c.res) ∧ c.res ≤ 100000) ∧ 1 ≤ c.lim) ∧ c.lim ≤ 100) ∧ 0 ≤ c.cac) ∧ c.cac ≤ 256) ∧ 1 ≤ c.fli) ∧ c.fli ≤ 32) ∧ 1 ≤ c.wtr) ∧ c.wtr ≤ 16) ∧ 0 ≤ c.ttl) ∧ c.ttl ≤ 2147483647) ∧ 512 ≤ c.siz) ∧ c.siz ≤ 4096
theorem held_may {c : Cf} : mayK c ↔ heldA c ∧ heldB c := by
  unfold mayK heldA heldB
  constructor
  · intro h
    have e : (c.ups - 1) / 2 = c.ups / 2 := by omega
    rw [e]
    omega
  · intro h
    have e : (c.ups - 1) / 2 = c.ups / 2 := by omega
    rw [e] at h
    omega
theorem mayE1_num {c : Cf} (h : ¬ mayK c) : mayE1 c = 1 := mayE1_no (by unfold Cn.mayP; rw [show Cn.mayNum c = false from decide_eq_false h]; rfl)
theorem mayE1_zs {c : Cf} (h : Cn.mayZs c.ups c.zs = false) : mayE1 c = 1 := mayE1_no (by unfold Cn.mayP; rw [h, Bool.and_false])
theorem bits_hi {t n : Nat} (ht : t < 65536) (h : ∀ u, n ≤ u → u < 16 → t / 2 ^ u % 2 ≠ 1) : t / 2 ^ n = 0 := by
  refine Nat.div_eq_of_lt (Nat.lt_pow_two_of_testBit t fun u hu => ?_)
  rcases Nat.lt_or_ge u 16 with q | q
  · rw [bit_of]
    exact decide_eq_false (h u hu q)
  · exact Nat.testBit_lt_two_pow (Nat.lt_of_lt_of_le ht (by rw [show 65536 = 2 ^ 16 by decide]; exact Nat.pow_le_pow_right (by decide) q))
theorem bits_hi_no {t n u : Nat} (h : n ≤ u) (hb : t / 2 ^ u % 2 = 1) : t / 2 ^ n ≠ 0 := fun k => by
  have h1 : t / 2 ^ u ≤ t / 2 ^ n := Nat.div_le_div_left (Nat.pow_le_pow_right (by decide) h) (Nat.pos_of_ne_zero (by simp))
  rw [k] at h1
  rw [Nat.le_zero.1 h1] at hb
  simp at hb
theorem rPol_nil {p : Nat} (h : rPol p = []) : p ≠ 1 ∧ p ≠ 2 ∧ p ≠ 3 ∧ p ≠ 4 := by
  refine ⟨?_, ?_, ?_, ?_⟩ <;> (rintro rfl; exact absurd h (by decide))
theorem rPol_some {p : Nat} (h : rPol p ≠ []) : p = 1 ∨ p = 2 ∨ p = 3 ∨ p = 4 := by
  refine Decidable.byContradiction fun k => h ?_
  unfold rPol
  rw [if_neg (by omega), if_neg (by omega), if_neg (by omega), if_neg (by omega)]
set_option maxRecDepth 100000 in
set_option maxHeartbeats 8000000 in
theorem rMay_S (c : Cf) (v : Value) (h : CfL L c v) : Spec Tryd.prog G 19 #[.agg (cfCells c v).toArray] L fun u M => u = .int .i64 (mayE1 c) ∧ M = L := by
  have hz := h.row
  obtain ⟨a, cap, e, hz⟩ := hz.val
  obtain rfl := (List.cons.inj e).1
  clear e
  have hmax := (sliceR.cut hz).2.2.1
  have hcap := (sliceR.cut hz).2.1
  unfold maxLen at hmax
  refine Spec_of (n := 214) Tryd.func19 rfl rfl rfl ?_
  refine T_seq (T_region (TL_new (op_boxA rfl) rfl ?_))
  intro b1
  have g0 : (cfCells (c) (.slice a c.zs.length cap)).toArray[0 + 0]? = some (.int .i64 (c).ups) := rfl
  have g1 : (cfCells (c) (.slice a c.zs.length cap)).toArray[0 + 1]? = some (.int .i64 (c).ded) := rfl
  have g2 : (cfCells (c) (.slice a c.zs.length cap)).toArray[0 + 2]? = some (.int .i64 (c).hdg) := rfl
  have g3 : (cfCells (c) (.slice a c.zs.length cap)).toArray[0 + 3]? = some (.int .i64 (c).wai) := rfl
  have g4 : (cfCells (c) (.slice a c.zs.length cap)).toArray[0 + 4]? = some (.int .i64 (c).tri) := rfl
  have g5 : (cfCells (c) (.slice a c.zs.length cap)).toArray[0 + 5]? = some (.int .i64 (c).res) := rfl
  have g6 : (cfCells (c) (.slice a c.zs.length cap)).toArray[0 + 6]? = some (.int .i64 (c).lim) := rfl
  have g7 : (cfCells (c) (.slice a c.zs.length cap)).toArray[0 + 7]? = some (.int .i64 (c).cac) := rfl
  have g8 : (cfCells (c) (.slice a c.zs.length cap)).toArray[0 + 8]? = some (.int .i64 (c).fli) := rfl
  have g9 : (cfCells (c) (.slice a c.zs.length cap)).toArray[0 + 9]? = some (.int .i64 (c).wtr) := rfl
  have g10 : (cfCells (c) (.slice a c.zs.length cap)).toArray[0 + 10]? = some (.int .i64 (c).ttl) := rfl
  have g11 : (cfCells (c) (.slice a c.zs.length cap)).toArray[0 + 11]? = some (.int .i64 (c).siz) := rfl
  have g12 : (cfCells (c) (.slice a c.zs.length cap)).toArray[0 + 12]? = some (.slice a c.zs.length cap) := rfl
  repeat ((first | with_reducible refine TL_nil ?_ | with_reducible refine TQ_then ?_ | refine TL_q (op_assign rfl) rfl ?_))
  refine T_mid (σ := Unit) (fun _ => heldA c) (fun _ => [(1, .pointer (some ⟨b1, 0, none⟩))]) (fun _ => (b1, Obj.cells (cfCells c (.slice a c.zs.length cap)).toArray 25 (0, 0)) :: L) ?_ ?_
  · refine T_seq (T_region ?_)
    refine TL_cut4 [(1, .pointer (some ⟨b1, 0, none⟩)), (11, .bool (decide (¬ (1 ≤ c.ups))))] ?_ ?_
    · intro rest' key
      by_cases ht : 1 ≤ c.ups
      · rw [show decide (¬ (1 ≤ c.ups)) = false from decide_eq_false (by omega)] at key
        repeat ((first | refine TL_q (op_move rfl) rfl ?_ | (refine' TL_q (op_bin rfl rfl ?_) rfl ?_; rotate_left 1; (· (exact bin_lss))) | refine TL_q (op_fld rfl fld_25_0) rfl ?_ | (refine' TL_q (op_ld rfl pl_3 ?_ ?_) rfl ?_; rotate_left 4; (· repeat ((exact List.mem_cons_self))); (· (assumption)))))
        exact TL_sub key (by repeat ((first | exact trivial | refine ⟨rfl, ?_⟩ | refine ⟨show some (Value.bool _) = some (Value.bool _) from congrArg (fun b => some (Value.bool b)) (by (exact dF (by (omega)))), ?_⟩)))
      · rw [show decide (¬ (1 ≤ c.ups)) = true from decide_eq_true (by omega)] at key
        repeat ((first | refine TL_q (op_move rfl) rfl ?_ | (refine' TL_q (op_bin rfl rfl ?_) rfl ?_; rotate_left 1; (· (exact bin_lss))) | refine TL_q (op_fld rfl fld_25_0) rfl ?_ | (refine' TL_q (op_ld rfl pl_3 ?_ ?_) rfl ?_; rotate_left 4; (· repeat ((exact List.mem_cons_self))); (· (assumption)))))
        exact TL_sub key (by repeat ((first | exact trivial | refine ⟨rfl, ?_⟩ | refine ⟨show some (Value.bool _) = some (Value.bool _) from congrArg (fun b => some (Value.bool b)) (by (exact dT (by (omega)))), ?_⟩)))
    refine TL_cut5 [(1, .pointer (some ⟨b1, 0, none⟩)), (16, .bool (decide (¬ ((1 ≤ c.ups) ∧ c.ups ≤ 9))))] ?_ ?_
    · intro rest' key
      by_cases hh : 1 ≤ c.ups
      · rw [show decide (¬ (1 ≤ c.ups)) = false from decide_eq_false (fun k => k hh)]
        by_cases ht : c.ups ≤ 9
        · rw [show decide (¬ ((1 ≤ c.ups) ∧ c.ups ≤ 9)) = false from decide_eq_false (fun k => k ⟨hh, ht⟩)] at key
          repeat ((first | refine TL_q (op_move rfl) rfl ?_ | (refine' TL_q (op_pickF rfl ?_ rfl) rfl ?_; (· (with_reducible rfl))) | (refine TL_gpre rfl rfl ?_ ?_; (· (with_reducible rfl))) | (refine' TL_gq2 (op_bin rfl rfl ?_) rfl ?_; rotate_left 1; (· (exact bin_gtr))) | refine TL_gq2 (op_fld rfl fld_25_0) rfl ?_ | (refine' TL_gq2 (op_ld rfl pl_3 ?_ ?_) rfl ?_; rotate_left 4; (· repeat ((exact List.mem_cons_self))); (· (assumption)))))
          exact TL_sub key (by repeat ((first | exact trivial | refine ⟨rfl, ?_⟩ | refine ⟨show some (Value.bool _) = some (Value.bool _) from congrArg (fun b => some (Value.bool b)) (by (exact dF (by (omega)))), ?_⟩)))
        · rw [show decide (¬ ((1 ≤ c.ups) ∧ c.ups ≤ 9)) = true from decide_eq_true (fun k => ht k.2)] at key
          repeat ((first | refine TL_q (op_move rfl) rfl ?_ | (refine' TL_q (op_pickF rfl ?_ rfl) rfl ?_; (· (with_reducible rfl))) | (refine TL_gpre rfl rfl ?_ ?_; (· (with_reducible rfl))) | (refine' TL_gq2 (op_bin rfl rfl ?_) rfl ?_; rotate_left 1; (· (exact bin_gtr))) | refine TL_gq2 (op_fld rfl fld_25_0) rfl ?_ | (refine' TL_gq2 (op_ld rfl pl_3 ?_ ?_) rfl ?_; rotate_left 4; (· repeat ((exact List.mem_cons_self))); (· (assumption)))))
          exact TL_sub key (by repeat ((first | exact trivial | refine ⟨rfl, ?_⟩ | refine ⟨show some (Value.bool _) = some (Value.bool _) from congrArg (fun b => some (Value.bool b)) (by (exact dT (by (omega)))), ?_⟩)))
      · rw [show decide (¬ (1 ≤ c.ups)) = true from decide_eq_true hh]
        rw [show decide (¬ ((1 ≤ c.ups) ∧ c.ups ≤ 9)) = true from decide_eq_true (fun k => hh k.1)] at key
        repeat ((first | refine TL_q (op_move rfl) rfl ?_ | (refine' TL_q (op_pickT rfl ?_ rfl) rfl ?_; (· (with_reducible rfl))) | (refine TL_gno rfl rfl ?_ rfl ?_; (· (exact Bool.not_false)))))
        exact TL_sub key (by repeat ((first | exact trivial | refine ⟨rfl, ?_⟩)))
    refine TL_cut6 [(1, .pointer (some ⟨b1, 0, none⟩)), (22, .bool (decide (¬ (((1 ≤ c.ups) ∧ c.ups ≤ 9) ∧ c.ups % 2 = 1))))] ?_ ?_
    · intro rest' key
      by_cases hh : (1 ≤ c.ups) ∧ c.ups ≤ 9
      · rw [show decide (¬ ((1 ≤ c.ups) ∧ c.ups ≤ 9)) = false from decide_eq_false (fun k => k hh)]
        by_cases ht : c.ups % 2 = 1
        · rw [show decide (¬ (((1 ≤ c.ups) ∧ c.ups ≤ 9) ∧ c.ups % 2 = 1)) = false from decide_eq_false (fun k => k ⟨hh, ht⟩)] at key
          repeat ((first | refine TL_q (op_move rfl) rfl ?_ | (refine' TL_q (op_pickF rfl ?_ rfl) rfl ?_; (· (with_reducible rfl))) | (refine TL_gpre rfl rfl ?_ ?_; (· (with_reducible rfl))) | (refine' TL_gq2 (op_bin rfl rfl ?_) rfl ?_; rotate_left 1; (· (first | exact bin_rem (by omega) (by omega) | exact bin_neq))) | refine TL_gq2 (op_fld rfl fld_25_0) rfl ?_ | (refine' TL_gq2 (op_ld rfl pl_3 ?_ ?_) rfl ?_; rotate_left 4; (· repeat ((exact List.mem_cons_self))); (· (assumption)))))
          exact TL_sub key (by repeat ((first | exact trivial | refine ⟨rfl, ?_⟩ | refine ⟨show some (Value.bool _) = some (Value.bool _) from congrArg (fun b => some (Value.bool b)) (by (exact nF (by (assumption)))), ?_⟩)))
        · rw [show decide (¬ (((1 ≤ c.ups) ∧ c.ups ≤ 9) ∧ c.ups % 2 = 1)) = true from decide_eq_true (fun k => ht k.2)] at key
          repeat ((first | refine TL_q (op_move rfl) rfl ?_ | (refine' TL_q (op_pickF rfl ?_ rfl) rfl ?_; (· (with_reducible rfl))) | (refine TL_gpre rfl rfl ?_ ?_; (· (with_reducible rfl))) | (refine' TL_gq2 (op_bin rfl rfl ?_) rfl ?_; rotate_left 1; (· (first | exact bin_rem (by omega) (by omega) | exact bin_neq))) | refine TL_gq2 (op_fld rfl fld_25_0) rfl ?_ | (refine' TL_gq2 (op_ld rfl pl_3 ?_ ?_) rfl ?_; rotate_left 4; (· repeat ((exact List.mem_cons_self))); (· (assumption)))))
          exact TL_sub key (by repeat ((first | exact trivial | refine ⟨rfl, ?_⟩ | refine ⟨show some (Value.bool _) = some (Value.bool _) from congrArg (fun b => some (Value.bool b)) (by (exact nT (by (assumption)))), ?_⟩)))
      · rw [show decide (¬ ((1 ≤ c.ups) ∧ c.ups ≤ 9)) = true from decide_eq_true hh]
        rw [show decide (¬ (((1 ≤ c.ups) ∧ c.ups ≤ 9) ∧ c.ups % 2 = 1)) = true from decide_eq_true (fun k => hh k.1)] at key
        repeat ((first | refine TL_q (op_move rfl) rfl ?_ | (refine' TL_q (op_pickT rfl ?_ rfl) rfl ?_; (· (with_reducible rfl))) | (refine TL_gno rfl rfl ?_ rfl ?_; (· (exact Bool.not_false)))))
        exact TL_sub key (by repeat ((first | exact trivial | refine ⟨rfl, ?_⟩)))
    refine TL_cut5 [(1, .pointer (some ⟨b1, 0, none⟩)), (27, .bool (decide (¬ ((((1 ≤ c.ups) ∧ c.ups ≤ 9) ∧ c.ups % 2 = 1) ∧ 1 ≤ c.hdg))))] ?_ ?_
    · intro rest' key
      by_cases hh : ((1 ≤ c.ups) ∧ c.ups ≤ 9) ∧ c.ups % 2 = 1
      · rw [show decide (¬ (((1 ≤ c.ups) ∧ c.ups ≤ 9) ∧ c.ups % 2 = 1)) = false from decide_eq_false (fun k => k hh)]
        by_cases ht : 1 ≤ c.hdg
        · rw [show decide (¬ ((((1 ≤ c.ups) ∧ c.ups ≤ 9) ∧ c.ups % 2 = 1) ∧ 1 ≤ c.hdg)) = false from decide_eq_false (fun k => k ⟨hh, ht⟩)] at key
          repeat ((first | refine TL_q (op_move rfl) rfl ?_ | (refine' TL_q (op_pickF rfl ?_ rfl) rfl ?_; (· (with_reducible rfl))) | (refine TL_gpre rfl rfl ?_ ?_; (· (with_reducible rfl))) | (refine' TL_gq2 (op_bin rfl rfl ?_) rfl ?_; rotate_left 1; (· (exact bin_lss))) | refine TL_gq2 (op_fld rfl fld_25_2) rfl ?_ | (refine' TL_gq2 (op_ld rfl pl_3 ?_ ?_) rfl ?_; rotate_left 4; (· repeat ((exact List.mem_cons_self))); (· (assumption)))))
          exact TL_sub key (by repeat ((first | exact trivial | refine ⟨rfl, ?_⟩ | refine ⟨show some (Value.bool _) = some (Value.bool _) from congrArg (fun b => some (Value.bool b)) (by (exact dF (by (omega)))), ?_⟩)))
        · rw [show decide (¬ ((((1 ≤ c.ups) ∧ c.ups ≤ 9) ∧ c.ups % 2 = 1) ∧ 1 ≤ c.hdg)) = true from decide_eq_true (fun k => ht k.2)] at key
          repeat ((first | refine TL_q (op_move rfl) rfl ?_ | (refine' TL_q (op_pickF rfl ?_ rfl) rfl ?_; (· (with_reducible rfl))) | (refine TL_gpre rfl rfl ?_ ?_; (· (with_reducible rfl))) | (refine' TL_gq2 (op_bin rfl rfl ?_) rfl ?_; rotate_left 1; (· (exact bin_lss))) | refine TL_gq2 (op_fld rfl fld_25_2) rfl ?_ | (refine' TL_gq2 (op_ld rfl pl_3 ?_ ?_) rfl ?_; rotate_left 4; (· repeat ((exact List.mem_cons_self))); (· (assumption)))))
          exact TL_sub key (by repeat ((first | exact trivial | refine ⟨rfl, ?_⟩ | refine ⟨show some (Value.bool _) = some (Value.bool _) from congrArg (fun b => some (Value.bool b)) (by (exact dT (by (omega)))), ?_⟩)))
      · rw [show decide (¬ (((1 ≤ c.ups) ∧ c.ups ≤ 9) ∧ c.ups % 2 = 1)) = true from decide_eq_true hh]
        rw [show decide (¬ ((((1 ≤ c.ups) ∧ c.ups ≤ 9) ∧ c.ups % 2 = 1) ∧ 1 ≤ c.hdg)) = true from decide_eq_true (fun k => hh k.1)] at key
        repeat ((first | refine TL_q (op_move rfl) rfl ?_ | (refine' TL_q (op_pickT rfl ?_ rfl) rfl ?_; (· (with_reducible rfl))) | (refine TL_gno rfl rfl ?_ rfl ?_; (· (exact Bool.not_false)))))
        exact TL_sub key (by repeat ((first | exact trivial | refine ⟨rfl, ?_⟩)))
    refine TL_cut5 [(1, .pointer (some ⟨b1, 0, none⟩)), (32, .bool (decide (¬ (((((1 ≤ c.ups) ∧ c.ups ≤ 9) ∧ c.ups % 2 = 1) ∧ 1 ≤ c.hdg) ∧ c.hdg ≤ 1000))))] ?_ ?_
    · intro rest' key
      by_cases hh : (((1 ≤ c.ups) ∧ c.ups ≤ 9) ∧ c.ups % 2 = 1) ∧ 1 ≤ c.hdg
      · rw [show decide (¬ ((((1 ≤ c.ups) ∧ c.ups ≤ 9) ∧ c.ups % 2 = 1) ∧ 1 ≤ c.hdg)) = false from decide_eq_false (fun k => k hh)]
        by_cases ht : c.hdg ≤ 1000
        · rw [show decide (¬ (((((1 ≤ c.ups) ∧ c.ups ≤ 9) ∧ c.ups % 2 = 1) ∧ 1 ≤ c.hdg) ∧ c.hdg ≤ 1000)) = false from decide_eq_false (fun k => k ⟨hh, ht⟩)] at key
          repeat ((first | refine TL_q (op_move rfl) rfl ?_ | (refine' TL_q (op_pickF rfl ?_ rfl) rfl ?_; (· (with_reducible rfl))) | (refine TL_gpre rfl rfl ?_ ?_; (· (with_reducible rfl))) | (refine' TL_gq2 (op_bin rfl rfl ?_) rfl ?_; rotate_left 1; (· (exact bin_gtr))) | refine TL_gq2 (op_fld rfl fld_25_2) rfl ?_ | (refine' TL_gq2 (op_ld rfl pl_3 ?_ ?_) rfl ?_; rotate_left 4; (· repeat ((exact List.mem_cons_self))); (· (assumption)))))
          exact TL_sub key (by repeat ((first | exact trivial | refine ⟨rfl, ?_⟩ | refine ⟨show some (Value.bool _) = some (Value.bool _) from congrArg (fun b => some (Value.bool b)) (by (exact dF (by (omega)))), ?_⟩)))
        · rw [show decide (¬ (((((1 ≤ c.ups) ∧ c.ups ≤ 9) ∧ c.ups % 2 = 1) ∧ 1 ≤ c.hdg) ∧ c.hdg ≤ 1000)) = true from decide_eq_true (fun k => ht k.2)] at key
          repeat ((first | refine TL_q (op_move rfl) rfl ?_ | (refine' TL_q (op_pickF rfl ?_ rfl) rfl ?_; (· (with_reducible rfl))) | (refine TL_gpre rfl rfl ?_ ?_; (· (with_reducible rfl))) | (refine' TL_gq2 (op_bin rfl rfl ?_) rfl ?_; rotate_left 1; (· (exact bin_gtr))) | refine TL_gq2 (op_fld rfl fld_25_2) rfl ?_ | (refine' TL_gq2 (op_ld rfl pl_3 ?_ ?_) rfl ?_; rotate_left 4; (· repeat ((exact List.mem_cons_self))); (· (assumption)))))
          exact TL_sub key (by repeat ((first | exact trivial | refine ⟨rfl, ?_⟩ | refine ⟨show some (Value.bool _) = some (Value.bool _) from congrArg (fun b => some (Value.bool b)) (by (exact dT (by (omega)))), ?_⟩)))
      · rw [show decide (¬ ((((1 ≤ c.ups) ∧ c.ups ≤ 9) ∧ c.ups % 2 = 1) ∧ 1 ≤ c.hdg)) = true from decide_eq_true hh]
        rw [show decide (¬ (((((1 ≤ c.ups) ∧ c.ups ≤ 9) ∧ c.ups % 2 = 1) ∧ 1 ≤ c.hdg) ∧ c.hdg ≤ 1000)) = true from decide_eq_true (fun k => hh k.1)] at key
        repeat ((first | refine TL_q (op_move rfl) rfl ?_ | (refine' TL_q (op_pickT rfl ?_ rfl) rfl ?_; (· (with_reducible rfl))) | (refine TL_gno rfl rfl ?_ rfl ?_; (· (exact Bool.not_false)))))
        exact TL_sub key (by repeat ((first | exact trivial | refine ⟨rfl, ?_⟩)))
    refine TL_cut5 [(1, .pointer (some ⟨b1, 0, none⟩)), (37, .bool (decide (¬ ((((((1 ≤ c.ups) ∧ c.ups ≤ 9) ∧ c.ups % 2 = 1) ∧ 1 ≤ c.hdg) ∧ c.hdg ≤ 1000) ∧ 1 ≤ c.wai))))] ?_ ?_
    · intro rest' key
      by_cases hh : ((((1 ≤ c.ups) ∧ c.ups ≤ 9) ∧ c.ups % 2 = 1) ∧ 1 ≤ c.hdg) ∧ c.hdg ≤ 1000
      · rw [show decide (¬ (((((1 ≤ c.ups) ∧ c.ups ≤ 9) ∧ c.ups % 2 = 1) ∧ 1 ≤ c.hdg) ∧ c.hdg ≤ 1000)) = false from decide_eq_false (fun k => k hh)]
        by_cases ht : 1 ≤ c.wai
        · rw [show decide (¬ ((((((1 ≤ c.ups) ∧ c.ups ≤ 9) ∧ c.ups % 2 = 1) ∧ 1 ≤ c.hdg) ∧ c.hdg ≤ 1000) ∧ 1 ≤ c.wai)) = false from decide_eq_false (fun k => k ⟨hh, ht⟩)] at key
          repeat ((first | refine TL_q (op_move rfl) rfl ?_ | (refine' TL_q (op_pickF rfl ?_ rfl) rfl ?_; (· (with_reducible rfl))) | (refine TL_gpre rfl rfl ?_ ?_; (· (with_reducible rfl))) | (refine' TL_gq2 (op_bin rfl rfl ?_) rfl ?_; rotate_left 1; (· (exact bin_lss))) | refine TL_gq2 (op_fld rfl fld_25_3) rfl ?_ | (refine' TL_gq2 (op_ld rfl pl_3 ?_ ?_) rfl ?_; rotate_left 4; (· repeat ((exact List.mem_cons_self))); (· (assumption)))))
          exact TL_sub key (by repeat ((first | exact trivial | refine ⟨rfl, ?_⟩ | refine ⟨show some (Value.bool _) = some (Value.bool _) from congrArg (fun b => some (Value.bool b)) (by (exact dF (by (omega)))), ?_⟩)))
        · rw [show decide (¬ ((((((1 ≤ c.ups) ∧ c.ups ≤ 9) ∧ c.ups % 2 = 1) ∧ 1 ≤ c.hdg) ∧ c.hdg ≤ 1000) ∧ 1 ≤ c.wai)) = true from decide_eq_true (fun k => ht k.2)] at key
          repeat ((first | refine TL_q (op_move rfl) rfl ?_ | (refine' TL_q (op_pickF rfl ?_ rfl) rfl ?_; (· (with_reducible rfl))) | (refine TL_gpre rfl rfl ?_ ?_; (· (with_reducible rfl))) | (refine' TL_gq2 (op_bin rfl rfl ?_) rfl ?_; rotate_left 1; (· (exact bin_lss))) | refine TL_gq2 (op_fld rfl fld_25_3) rfl ?_ | (refine' TL_gq2 (op_ld rfl pl_3 ?_ ?_) rfl ?_; rotate_left 4; (· repeat ((exact List.mem_cons_self))); (· (assumption)))))
          exact TL_sub key (by repeat ((first | exact trivial | refine ⟨rfl, ?_⟩ | refine ⟨show some (Value.bool _) = some (Value.bool _) from congrArg (fun b => some (Value.bool b)) (by (exact dT (by (omega)))), ?_⟩)))
      · rw [show decide (¬ (((((1 ≤ c.ups) ∧ c.ups ≤ 9) ∧ c.ups % 2 = 1) ∧ 1 ≤ c.hdg) ∧ c.hdg ≤ 1000)) = true from decide_eq_true hh]
        rw [show decide (¬ ((((((1 ≤ c.ups) ∧ c.ups ≤ 9) ∧ c.ups % 2 = 1) ∧ 1 ≤ c.hdg) ∧ c.hdg ≤ 1000) ∧ 1 ≤ c.wai)) = true from decide_eq_true (fun k => hh k.1)] at key
        repeat ((first | refine TL_q (op_move rfl) rfl ?_ | (refine' TL_q (op_pickT rfl ?_ rfl) rfl ?_; (· (with_reducible rfl))) | (refine TL_gno rfl rfl ?_ rfl ?_; (· (exact Bool.not_false)))))
        exact TL_sub key (by repeat ((first | exact trivial | refine ⟨rfl, ?_⟩)))
    refine TL_cut5 [(1, .pointer (some ⟨b1, 0, none⟩)), (42, .bool (decide (¬ (((((((1 ≤ c.ups) ∧ c.ups ≤ 9) ∧ c.ups % 2 = 1) ∧ 1 ≤ c.hdg) ∧ c.hdg ≤ 1000) ∧ 1 ≤ c.wai) ∧ c.wai ≤ 1000))))] ?_ ?_
    · intro rest' key
      by_cases hh : (((((1 ≤ c.ups) ∧ c.ups ≤ 9) ∧ c.ups % 2 = 1) ∧ 1 ≤ c.hdg) ∧ c.hdg ≤ 1000) ∧ 1 ≤ c.wai
      · rw [show decide (¬ ((((((1 ≤ c.ups) ∧ c.ups ≤ 9) ∧ c.ups % 2 = 1) ∧ 1 ≤ c.hdg) ∧ c.hdg ≤ 1000) ∧ 1 ≤ c.wai)) = false from decide_eq_false (fun k => k hh)]
        by_cases ht : c.wai ≤ 1000
        · rw [show decide (¬ (((((((1 ≤ c.ups) ∧ c.ups ≤ 9) ∧ c.ups % 2 = 1) ∧ 1 ≤ c.hdg) ∧ c.hdg ≤ 1000) ∧ 1 ≤ c.wai) ∧ c.wai ≤ 1000)) = false from decide_eq_false (fun k => k ⟨hh, ht⟩)] at key
          repeat ((first | refine TL_q (op_move rfl) rfl ?_ | (refine' TL_q (op_pickF rfl ?_ rfl) rfl ?_; (· (with_reducible rfl))) | (refine TL_gpre rfl rfl ?_ ?_; (· (with_reducible rfl))) | (refine' TL_gq2 (op_bin rfl rfl ?_) rfl ?_; rotate_left 1; (· (exact bin_gtr))) | refine TL_gq2 (op_fld rfl fld_25_3) rfl ?_ | (refine' TL_gq2 (op_ld rfl pl_3 ?_ ?_) rfl ?_; rotate_left 4; (· repeat ((exact List.mem_cons_self))); (· (assumption)))))
          exact TL_sub key (by repeat ((first | exact trivial | refine ⟨rfl, ?_⟩ | refine ⟨show some (Value.bool _) = some (Value.bool _) from congrArg (fun b => some (Value.bool b)) (by (exact dF (by (omega)))), ?_⟩)))
        · rw [show decide (¬ (((((((1 ≤ c.ups) ∧ c.ups ≤ 9) ∧ c.ups % 2 = 1) ∧ 1 ≤ c.hdg) ∧ c.hdg ≤ 1000) ∧ 1 ≤ c.wai) ∧ c.wai ≤ 1000)) = true from decide_eq_true (fun k => ht k.2)] at key
          repeat ((first | refine TL_q (op_move rfl) rfl ?_ | (refine' TL_q (op_pickF rfl ?_ rfl) rfl ?_; (· (with_reducible rfl))) | (refine TL_gpre rfl rfl ?_ ?_; (· (with_reducible rfl))) | (refine' TL_gq2 (op_bin rfl rfl ?_) rfl ?_; rotate_left 1; (· (exact bin_gtr))) | refine TL_gq2 (op_fld rfl fld_25_3) rfl ?_ | (refine' TL_gq2 (op_ld rfl pl_3 ?_ ?_) rfl ?_; rotate_left 4; (· repeat ((exact List.mem_cons_self))); (· (assumption)))))
          exact TL_sub key (by repeat ((first | exact trivial | refine ⟨rfl, ?_⟩ | refine ⟨show some (Value.bool _) = some (Value.bool _) from congrArg (fun b => some (Value.bool b)) (by (exact dT (by (omega)))), ?_⟩)))
      · rw [show decide (¬ ((((((1 ≤ c.ups) ∧ c.ups ≤ 9) ∧ c.ups % 2 = 1) ∧ 1 ≤ c.hdg) ∧ c.hdg ≤ 1000) ∧ 1 ≤ c.wai)) = true from decide_eq_true hh]
        rw [show decide (¬ (((((((1 ≤ c.ups) ∧ c.ups ≤ 9) ∧ c.ups % 2 = 1) ∧ 1 ≤ c.hdg) ∧ c.hdg ≤ 1000) ∧ 1 ≤ c.wai) ∧ c.wai ≤ 1000)) = true from decide_eq_true (fun k => hh k.1)] at key
        repeat ((first | refine TL_q (op_move rfl) rfl ?_ | (refine' TL_q (op_pickT rfl ?_ rfl) rfl ?_; (· (with_reducible rfl))) | (refine TL_gno rfl rfl ?_ rfl ?_; (· (exact Bool.not_false)))))
        exact TL_sub key (by repeat ((first | exact trivial | refine ⟨rfl, ?_⟩)))
    refine TL_cut5 [(1, .pointer (some ⟨b1, 0, none⟩)), (47, .bool (decide (¬ ((((((((1 ≤ c.ups) ∧ c.ups ≤ 9) ∧ c.ups % 2 = 1) ∧ 1 ≤ c.hdg) ∧ c.hdg ≤ 1000) ∧ 1 ≤ c.wai) ∧ c.wai ≤ 1000) ∧ 1 ≤ c.tri))))] ?_ ?_
    · intro rest' key
      by_cases hh : ((((((1 ≤ c.ups) ∧ c.ups ≤ 9) ∧ c.ups % 2 = 1) ∧ 1 ≤ c.hdg) ∧ c.hdg ≤ 1000) ∧ 1 ≤ c.wai) ∧ c.wai ≤ 1000
      · rw [show decide (¬ (((((((1 ≤ c.ups) ∧ c.ups ≤ 9) ∧ c.ups % 2 = 1) ∧ 1 ≤ c.hdg) ∧ c.hdg ≤ 1000) ∧ 1 ≤ c.wai) ∧ c.wai ≤ 1000)) = false from decide_eq_false (fun k => k hh)]
        by_cases ht : 1 ≤ c.tri
        · rw [show decide (¬ ((((((((1 ≤ c.ups) ∧ c.ups ≤ 9) ∧ c.ups % 2 = 1) ∧ 1 ≤ c.hdg) ∧ c.hdg ≤ 1000) ∧ 1 ≤ c.wai) ∧ c.wai ≤ 1000) ∧ 1 ≤ c.tri)) = false from decide_eq_false (fun k => k ⟨hh, ht⟩)] at key
          repeat ((first | refine TL_q (op_move rfl) rfl ?_ | (refine' TL_q (op_pickF rfl ?_ rfl) rfl ?_; (· (with_reducible rfl))) | (refine TL_gpre rfl rfl ?_ ?_; (· (with_reducible rfl))) | (refine' TL_gq2 (op_bin rfl rfl ?_) rfl ?_; rotate_left 1; (· (exact bin_lss))) | refine TL_gq2 (op_fld rfl fld_25_4) rfl ?_ | (refine' TL_gq2 (op_ld rfl pl_3 ?_ ?_) rfl ?_; rotate_left 4; (· repeat ((exact List.mem_cons_self))); (· (assumption)))))
          exact TL_sub key (by repeat ((first | exact trivial | refine ⟨rfl, ?_⟩ | refine ⟨show some (Value.bool _) = some (Value.bool _) from congrArg (fun b => some (Value.bool b)) (by (exact dF (by (omega)))), ?_⟩)))
        · rw [show decide (¬ ((((((((1 ≤ c.ups) ∧ c.ups ≤ 9) ∧ c.ups % 2 = 1) ∧ 1 ≤ c.hdg) ∧ c.hdg ≤ 1000) ∧ 1 ≤ c.wai) ∧ c.wai ≤ 1000) ∧ 1 ≤ c.tri)) = true from decide_eq_true (fun k => ht k.2)] at key
          repeat ((first | refine TL_q (op_move rfl) rfl ?_ | (refine' TL_q (op_pickF rfl ?_ rfl) rfl ?_; (· (with_reducible rfl))) | (refine TL_gpre rfl rfl ?_ ?_; (· (with_reducible rfl))) | (refine' TL_gq2 (op_bin rfl rfl ?_) rfl ?_; rotate_left 1; (· (exact bin_lss))) | refine TL_gq2 (op_fld rfl fld_25_4) rfl ?_ | (refine' TL_gq2 (op_ld rfl pl_3 ?_ ?_) rfl ?_; rotate_left 4; (· repeat ((exact List.mem_cons_self))); (· (assumption)))))
          exact TL_sub key (by repeat ((first | exact trivial | refine ⟨rfl, ?_⟩ | refine ⟨show some (Value.bool _) = some (Value.bool _) from congrArg (fun b => some (Value.bool b)) (by (exact dT (by (omega)))), ?_⟩)))
      · rw [show decide (¬ (((((((1 ≤ c.ups) ∧ c.ups ≤ 9) ∧ c.ups % 2 = 1) ∧ 1 ≤ c.hdg) ∧ c.hdg ≤ 1000) ∧ 1 ≤ c.wai) ∧ c.wai ≤ 1000)) = true from decide_eq_true hh]
        rw [show decide (¬ ((((((((1 ≤ c.ups) ∧ c.ups ≤ 9) ∧ c.ups % 2 = 1) ∧ 1 ≤ c.hdg) ∧ c.hdg ≤ 1000) ∧ 1 ≤ c.wai) ∧ c.wai ≤ 1000) ∧ 1 ≤ c.tri)) = true from decide_eq_true (fun k => hh k.1)] at key
        repeat ((first | refine TL_q (op_move rfl) rfl ?_ | (refine' TL_q (op_pickT rfl ?_ rfl) rfl ?_; (· (with_reducible rfl))) | (refine TL_gno rfl rfl ?_ rfl ?_; (· (exact Bool.not_false)))))
        exact TL_sub key (by repeat ((first | exact trivial | refine ⟨rfl, ?_⟩)))
    refine TL_cut5 [(1, .pointer (some ⟨b1, 0, none⟩)), (52, .bool (decide (¬ (((((((((1 ≤ c.ups) ∧ c.ups ≤ 9) ∧ c.ups % 2 = 1) ∧ 1 ≤ c.hdg) ∧ c.hdg ≤ 1000) ∧ 1 ≤ c.wai) ∧ c.wai ≤ 1000) ∧ 1 ≤ c.tri) ∧ c.tri ≤ 4))))] ?_ ?_
    · intro rest' key
      by_cases hh : (((((((1 ≤ c.ups) ∧ c.ups ≤ 9) ∧ c.ups % 2 = 1) ∧ 1 ≤ c.hdg) ∧ c.hdg ≤ 1000) ∧ 1 ≤ c.wai) ∧ c.wai ≤ 1000) ∧ 1 ≤ c.tri
      · rw [show decide (¬ ((((((((1 ≤ c.ups) ∧ c.ups ≤ 9) ∧ c.ups % 2 = 1) ∧ 1 ≤ c.hdg) ∧ c.hdg ≤ 1000) ∧ 1 ≤ c.wai) ∧ c.wai ≤ 1000) ∧ 1 ≤ c.tri)) = false from decide_eq_false (fun k => k hh)]
        by_cases ht : c.tri ≤ 4
        · rw [show decide (¬ (((((((((1 ≤ c.ups) ∧ c.ups ≤ 9) ∧ c.ups % 2 = 1) ∧ 1 ≤ c.hdg) ∧ c.hdg ≤ 1000) ∧ 1 ≤ c.wai) ∧ c.wai ≤ 1000) ∧ 1 ≤ c.tri) ∧ c.tri ≤ 4)) = false from decide_eq_false (fun k => k ⟨hh, ht⟩)] at key
          repeat ((first | refine TL_q (op_move rfl) rfl ?_ | (refine' TL_q (op_pickF rfl ?_ rfl) rfl ?_; (· (with_reducible rfl))) | (refine TL_gpre rfl rfl ?_ ?_; (· (with_reducible rfl))) | (refine' TL_gq2 (op_bin rfl rfl ?_) rfl ?_; rotate_left 1; (· (exact bin_gtr))) | refine TL_gq2 (op_fld rfl fld_25_4) rfl ?_ | (refine' TL_gq2 (op_ld rfl pl_3 ?_ ?_) rfl ?_; rotate_left 4; (· repeat ((exact List.mem_cons_self))); (· (assumption)))))
          exact TL_sub key (by repeat ((first | exact trivial | refine ⟨rfl, ?_⟩ | refine ⟨show some (Value.bool _) = some (Value.bool _) from congrArg (fun b => some (Value.bool b)) (by (exact dF (by (omega)))), ?_⟩)))
        · rw [show decide (¬ (((((((((1 ≤ c.ups) ∧ c.ups ≤ 9) ∧ c.ups % 2 = 1) ∧ 1 ≤ c.hdg) ∧ c.hdg ≤ 1000) ∧ 1 ≤ c.wai) ∧ c.wai ≤ 1000) ∧ 1 ≤ c.tri) ∧ c.tri ≤ 4)) = true from decide_eq_true (fun k => ht k.2)] at key
          repeat ((first | refine TL_q (op_move rfl) rfl ?_ | (refine' TL_q (op_pickF rfl ?_ rfl) rfl ?_; (· (with_reducible rfl))) | (refine TL_gpre rfl rfl ?_ ?_; (· (with_reducible rfl))) | (refine' TL_gq2 (op_bin rfl rfl ?_) rfl ?_; rotate_left 1; (· (exact bin_gtr))) | refine TL_gq2 (op_fld rfl fld_25_4) rfl ?_ | (refine' TL_gq2 (op_ld rfl pl_3 ?_ ?_) rfl ?_; rotate_left 4; (· repeat ((exact List.mem_cons_self))); (· (assumption)))))
          exact TL_sub key (by repeat ((first | exact trivial | refine ⟨rfl, ?_⟩ | refine ⟨show some (Value.bool _) = some (Value.bool _) from congrArg (fun b => some (Value.bool b)) (by (exact dT (by (omega)))), ?_⟩)))
      · rw [show decide (¬ ((((((((1 ≤ c.ups) ∧ c.ups ≤ 9) ∧ c.ups % 2 = 1) ∧ 1 ≤ c.hdg) ∧ c.hdg ≤ 1000) ∧ 1 ≤ c.wai) ∧ c.wai ≤ 1000) ∧ 1 ≤ c.tri)) = true from decide_eq_true hh]
        rw [show decide (¬ (((((((((1 ≤ c.ups) ∧ c.ups ≤ 9) ∧ c.ups % 2 = 1) ∧ 1 ≤ c.hdg) ∧ c.hdg ≤ 1000) ∧ 1 ≤ c.wai) ∧ c.wai ≤ 1000) ∧ 1 ≤ c.tri) ∧ c.tri ≤ 4)) = true from decide_eq_true (fun k => hh k.1)] at key
        repeat ((first | refine TL_q (op_move rfl) rfl ?_ | (refine' TL_q (op_pickT rfl ?_ rfl) rfl ?_; (· (with_reducible rfl))) | (refine TL_gno rfl rfl ?_ rfl ?_; (· (exact Bool.not_false)))))
        exact TL_sub key (by repeat ((first | exact trivial | refine ⟨rfl, ?_⟩)))
    refine TL_cut5 [(1, .pointer (some ⟨b1, 0, none⟩)), (57, .bool (decide (¬ ((((((((((1 ≤ c.ups) ∧ c.ups ≤ 9) ∧ c.ups % 2 = 1) ∧ 1 ≤ c.hdg) ∧ c.hdg ≤ 1000) ∧ 1 ≤ c.wai) ∧ c.wai ≤ 1000) ∧ 1 ≤ c.tri) ∧ c.tri ≤ 4) ∧ c.ded ≤ 100000))))] ?_ ?_
    · intro rest' key
      by_cases hh : ((((((((1 ≤ c.ups) ∧ c.ups ≤ 9) ∧ c.ups % 2 = 1) ∧ 1 ≤ c.hdg) ∧ c.hdg ≤ 1000) ∧ 1 ≤ c.wai) ∧ c.wai ≤ 1000) ∧ 1 ≤ c.tri) ∧ c.tri ≤ 4
      · rw [show decide (¬ (((((((((1 ≤ c.ups) ∧ c.ups ≤ 9) ∧ c.ups % 2 = 1) ∧ 1 ≤ c.hdg) ∧ c.hdg ≤ 1000) ∧ 1 ≤ c.wai) ∧ c.wai ≤ 1000) ∧ 1 ≤ c.tri) ∧ c.tri ≤ 4)) = false from decide_eq_false (fun k => k hh)]
        by_cases ht : c.ded ≤ 100000
        · rw [show decide (¬ ((((((((((1 ≤ c.ups) ∧ c.ups ≤ 9) ∧ c.ups % 2 = 1) ∧ 1 ≤ c.hdg) ∧ c.hdg ≤ 1000) ∧ 1 ≤ c.wai) ∧ c.wai ≤ 1000) ∧ 1 ≤ c.tri) ∧ c.tri ≤ 4) ∧ c.ded ≤ 100000)) = false from decide_eq_false (fun k => k ⟨hh, ht⟩)] at key
          repeat ((first | refine TL_q (op_move rfl) rfl ?_ | (refine' TL_q (op_pickF rfl ?_ rfl) rfl ?_; (· (with_reducible rfl))) | (refine TL_gpre rfl rfl ?_ ?_; (· (with_reducible rfl))) | (refine' TL_gq2 (op_bin rfl rfl ?_) rfl ?_; rotate_left 1; (· (exact bin_gtr))) | refine TL_gq2 (op_fld rfl fld_25_1) rfl ?_ | (refine' TL_gq2 (op_ld rfl pl_3 ?_ ?_) rfl ?_; rotate_left 4; (· repeat ((exact List.mem_cons_self))); (· (assumption)))))
          exact TL_sub key (by repeat ((first | exact trivial | refine ⟨rfl, ?_⟩ | refine ⟨show some (Value.bool _) = some (Value.bool _) from congrArg (fun b => some (Value.bool b)) (by (exact dF (by (omega)))), ?_⟩)))
        · rw [show decide (¬ ((((((((((1 ≤ c.ups) ∧ c.ups ≤ 9) ∧ c.ups % 2 = 1) ∧ 1 ≤ c.hdg) ∧ c.hdg ≤ 1000) ∧ 1 ≤ c.wai) ∧ c.wai ≤ 1000) ∧ 1 ≤ c.tri) ∧ c.tri ≤ 4) ∧ c.ded ≤ 100000)) = true from decide_eq_true (fun k => ht k.2)] at key
          repeat ((first | refine TL_q (op_move rfl) rfl ?_ | (refine' TL_q (op_pickF rfl ?_ rfl) rfl ?_; (· (with_reducible rfl))) | (refine TL_gpre rfl rfl ?_ ?_; (· (with_reducible rfl))) | (refine' TL_gq2 (op_bin rfl rfl ?_) rfl ?_; rotate_left 1; (· (exact bin_gtr))) | refine TL_gq2 (op_fld rfl fld_25_1) rfl ?_ | (refine' TL_gq2 (op_ld rfl pl_3 ?_ ?_) rfl ?_; rotate_left 4; (· repeat ((exact List.mem_cons_self))); (· (assumption)))))
          exact TL_sub key (by repeat ((first | exact trivial | refine ⟨rfl, ?_⟩ | refine ⟨show some (Value.bool _) = some (Value.bool _) from congrArg (fun b => some (Value.bool b)) (by (exact dT (by (omega)))), ?_⟩)))
      · rw [show decide (¬ (((((((((1 ≤ c.ups) ∧ c.ups ≤ 9) ∧ c.ups % 2 = 1) ∧ 1 ≤ c.hdg) ∧ c.hdg ≤ 1000) ∧ 1 ≤ c.wai) ∧ c.wai ≤ 1000) ∧ 1 ≤ c.tri) ∧ c.tri ≤ 4)) = true from decide_eq_true hh]
        rw [show decide (¬ ((((((((((1 ≤ c.ups) ∧ c.ups ≤ 9) ∧ c.ups % 2 = 1) ∧ 1 ≤ c.hdg) ∧ c.hdg ≤ 1000) ∧ 1 ≤ c.wai) ∧ c.wai ≤ 1000) ∧ 1 ≤ c.tri) ∧ c.tri ≤ 4) ∧ c.ded ≤ 100000)) = true from decide_eq_true (fun k => hh k.1)] at key
        repeat ((first | refine TL_q (op_move rfl) rfl ?_ | (refine' TL_q (op_pickT rfl ?_ rfl) rfl ?_; (· (with_reducible rfl))) | (refine TL_gno rfl rfl ?_ rfl ?_; (· (exact Bool.not_false)))))
        exact TL_sub key (by repeat ((first | exact trivial | refine ⟨rfl, ?_⟩)))
    by_cases hh : (((((((((1 ≤ c.ups) ∧ c.ups ≤ 9) ∧ c.ups % 2 = 1) ∧ 1 ≤ c.hdg) ∧ c.hdg ≤ 1000) ∧ 1 ≤ c.wai) ∧ c.wai ≤ 1000) ∧ 1 ≤ c.tri) ∧ c.tri ≤ 4) ∧ c.ded ≤ 100000
    · rw [show decide (¬ ((((((((((1 ≤ c.ups) ∧ c.ups ≤ 9) ∧ c.ups % 2 = 1) ∧ 1 ≤ c.hdg) ∧ c.hdg ≤ 1000) ∧ 1 ≤ c.wai) ∧ c.wai ≤ 1000) ∧ 1 ≤ c.tri) ∧ c.tri ≤ 4) ∧ c.ded ≤ 100000)) = false from decide_eq_false (fun k => k hh)]
      have m1 : 0 ≤ (c.ups - 1) / 2 * c.hdg ∧ (c.ups - 1) / 2 * c.hdg ≤ 4000 := ⟨Int.mul_nonneg (by omega) (by omega), Int.le_trans (Int.mul_le_mul (show (c.ups - 1) / 2 ≤ 4 by omega) (show c.hdg ≤ 1000 by omega) (by omega) (by omega)) (by decide)⟩
      have m2 : 0 ≤ c.tri * c.wai ∧ c.tri * c.wai ≤ 4000 := ⟨Int.mul_nonneg (by omega) (by omega), Int.le_trans (Int.mul_le_mul (show c.tri ≤ 4 by omega) (show c.wai ≤ 1000 by omega) (by omega) (by omega)) (by decide)⟩
      by_cases h5 : (c.ups - 1) / 2 * c.hdg + c.tri * c.wai ≤ c.ded
      · repeat ((first | with_reducible refine TL_nil ?_ | with_reducible refine TQ_then ?_ | with_reducible refine T_skip ?_ | (refine' TL_q (op_pickF rfl ?_ rfl) rfl ?_; (· (with_reducible rfl))) | (refine TL_gpre rfl rfl ?_ ?_; (· (with_reducible rfl))) | (refine' TL_gq2 (op_bin rfl rfl ?_) rfl ?_; rotate_left 1; (· (first | exact bin_add ⟨by omega, by omega⟩ | exact bin_sub ⟨by omega, by omega⟩ | exact bin_mul ⟨by omega, by omega⟩ | exact bin_quo (by omega) (by omega) ⟨by omega, by omega⟩ | exact bin_lss))) | refine TL_gq2 (op_fld rfl fld_25_0) rfl ?_ | refine TL_gq2 (op_fld rfl fld_25_1) rfl ?_ | refine TL_gq2 (op_fld rfl fld_25_2) rfl ?_ | refine TL_gq2 (op_fld rfl fld_25_3) rfl ?_ | refine TL_gq2 (op_fld rfl fld_25_4) rfl ?_ | (refine' TL_gq2 (op_ld rfl pl_3 ?_ ?_) rfl ?_; rotate_left 4; (· repeat ((exact List.mem_cons_self))); (· (assumption))) | (refine T_no rfl ?_ ?_; (· (exact dF (by (omega)))))))
        refine TQ_mid () ⟨hh, h5⟩ ?_ (fun w h => h)
        (repeat ((first | exact trivial | refine ⟨rfl, ?_⟩)))
      · rw [mayE1_num (fun k => h5 (held_may.1 k).1.2)]
        repeat ((first | with_reducible refine T_seq ?_ | with_reducible refine T_region ?_ | with_reducible refine TL_nil ?_ | with_reducible refine TQ_then ?_ | with_reducible refine T_ret ?_ | with_reducible refine TQ_then_ret ?_ | refine TL_q (op_assign rfl) rfl ?_ | (refine' TL_q (op_pickF rfl ?_ rfl) rfl ?_; (· (with_reducible rfl))) | (refine TL_gpre rfl rfl ?_ ?_; (· (with_reducible rfl))) | (refine' TL_gq2 (op_bin rfl rfl ?_) rfl ?_; rotate_left 1; (· (first | exact bin_add ⟨by omega, by omega⟩ | exact bin_sub ⟨by omega, by omega⟩ | exact bin_mul ⟨by omega, by omega⟩ | exact bin_quo (by omega) (by omega) ⟨by omega, by omega⟩ | exact bin_lss))) | refine TL_gq2 (op_fld rfl fld_25_0) rfl ?_ | refine TL_gq2 (op_fld rfl fld_25_1) rfl ?_ | refine TL_gq2 (op_fld rfl fld_25_2) rfl ?_ | refine TL_gq2 (op_fld rfl fld_25_3) rfl ?_ | refine TL_gq2 (op_fld rfl fld_25_4) rfl ?_ | (refine' TL_gq2 (op_ld rfl pl_3 ?_ ?_) rfl ?_; rotate_left 4; (· repeat ((exact List.mem_cons_self))); (· (assumption))) | (refine T_yes rfl ?_ ?_; (· (exact dT (by (omega)))))))
        refine TQ_heap (fun w h => h.tail) ?_
        refine TQ_ret1 2 _ rfl rfl ?_
        exact ⟨rfl, rfl⟩
    · rw [show decide (¬ ((((((((((1 ≤ c.ups) ∧ c.ups ≤ 9) ∧ c.ups % 2 = 1) ∧ 1 ≤ c.hdg) ∧ c.hdg ≤ 1000) ∧ 1 ≤ c.wai) ∧ c.wai ≤ 1000) ∧ 1 ≤ c.tri) ∧ c.tri ≤ 4) ∧ c.ded ≤ 100000)) = true from decide_eq_true hh]
      rw [mayE1_num (fun k => hh (held_may.1 k).1.1)]
      repeat ((first | with_reducible refine T_seq ?_ | with_reducible refine T_region ?_ | with_reducible refine TL_nil ?_ | with_reducible refine TQ_then ?_ | with_reducible refine T_ret ?_ | with_reducible refine TQ_then_ret ?_ | refine TL_q (op_assign rfl) rfl ?_ | (refine' TL_q (op_pickT rfl ?_ rfl) rfl ?_; (· (with_reducible rfl))) | (refine TL_gno rfl rfl ?_ rfl ?_; (· (exact Bool.not_false))) | (refine T_yes rfl ?_ ?_; (· (with_reducible rfl)))))
      refine TQ_heap (fun w h => h.tail) ?_
      refine TQ_ret1 2 _ rfl rfl ?_
      exact ⟨rfl, rfl⟩
  rintro _ hA
  refine T_mid (σ := Unit) (fun _ => heldB c ∧ c.zs.length ≤ 16) (fun _ => [(1, .pointer (some ⟨b1, 0, none⟩))]) (fun _ => (b1, Obj.cells (cfCells c (.slice a c.zs.length cap)).toArray 25 (0, 0)) :: L) ?_ ?_
  · refine T_seq (T_region ?_)
    refine TL_cut4 [(1, .pointer (some ⟨b1, 0, none⟩)), (78, .bool (decide (¬ (1 ≤ c.res))))] ?_ ?_
    · intro rest' key
      by_cases ht : 1 ≤ c.res
      · rw [show decide (¬ (1 ≤ c.res)) = false from decide_eq_false (by omega)] at key
        repeat ((first | refine TL_q (op_move rfl) rfl ?_ | (refine' TL_q (op_bin rfl rfl ?_) rfl ?_; rotate_left 1; (· (exact bin_lss))) | refine TL_q (op_fld rfl fld_25_5) rfl ?_ | (refine' TL_q (op_ld rfl pl_3 ?_ ?_) rfl ?_; rotate_left 4; (· repeat ((exact List.mem_cons_self))); (· (assumption)))))
        exact TL_sub key (by repeat ((first | exact trivial | refine ⟨rfl, ?_⟩ | refine ⟨show some (Value.bool _) = some (Value.bool _) from congrArg (fun b => some (Value.bool b)) (by (exact dF (by (omega)))), ?_⟩)))
      · rw [show decide (¬ (1 ≤ c.res)) = true from decide_eq_true (by omega)] at key
        repeat ((first | refine TL_q (op_move rfl) rfl ?_ | (refine' TL_q (op_bin rfl rfl ?_) rfl ?_; rotate_left 1; (· (exact bin_lss))) | refine TL_q (op_fld rfl fld_25_5) rfl ?_ | (refine' TL_q (op_ld rfl pl_3 ?_ ?_) rfl ?_; rotate_left 4; (· repeat ((exact List.mem_cons_self))); (· (assumption)))))
        exact TL_sub key (by repeat ((first | exact trivial | refine ⟨rfl, ?_⟩ | refine ⟨show some (Value.bool _) = some (Value.bool _) from congrArg (fun b => some (Value.bool b)) (by (exact dT (by (omega)))), ?_⟩)))
    refine TL_cut5 [(1, .pointer (some ⟨b1, 0, none⟩)), (83, .bool (decide (¬ ((1 ≤ c.res) ∧ c.res ≤ 100000))))] ?_ ?_
    · intro rest' key
      by_cases hh : 1 ≤ c.res
      · rw [show decide (¬ (1 ≤ c.res)) = false from decide_eq_false (fun k => k hh)]
        by_cases ht : c.res ≤ 100000
        · rw [show decide (¬ ((1 ≤ c.res) ∧ c.res ≤ 100000)) = false from decide_eq_false (fun k => k ⟨hh, ht⟩)] at key
          repeat ((first | refine TL_q (op_move rfl) rfl ?_ | (refine' TL_q (op_pickF rfl ?_ rfl) rfl ?_; (· (with_reducible rfl))) | (refine TL_gpre rfl rfl ?_ ?_; (· (with_reducible rfl))) | (refine' TL_gq2 (op_bin rfl rfl ?_) rfl ?_; rotate_left 1; (· (exact bin_gtr))) | refine TL_gq2 (op_fld rfl fld_25_5) rfl ?_ | (refine' TL_gq2 (op_ld rfl pl_3 ?_ ?_) rfl ?_; rotate_left 4; (· repeat ((exact List.mem_cons_self))); (· (assumption)))))
          exact TL_sub key (by repeat ((first | exact trivial | refine ⟨rfl, ?_⟩ | refine ⟨show some (Value.bool _) = some (Value.bool _) from congrArg (fun b => some (Value.bool b)) (by (exact dF (by (omega)))), ?_⟩)))
        · rw [show decide (¬ ((1 ≤ c.res) ∧ c.res ≤ 100000)) = true from decide_eq_true (fun k => ht k.2)] at key
          repeat ((first | refine TL_q (op_move rfl) rfl ?_ | (refine' TL_q (op_pickF rfl ?_ rfl) rfl ?_; (· (with_reducible rfl))) | (refine TL_gpre rfl rfl ?_ ?_; (· (with_reducible rfl))) | (refine' TL_gq2 (op_bin rfl rfl ?_) rfl ?_; rotate_left 1; (· (exact bin_gtr))) | refine TL_gq2 (op_fld rfl fld_25_5) rfl ?_ | (refine' TL_gq2 (op_ld rfl pl_3 ?_ ?_) rfl ?_; rotate_left 4; (· repeat ((exact List.mem_cons_self))); (· (assumption)))))
          exact TL_sub key (by repeat ((first | exact trivial | refine ⟨rfl, ?_⟩ | refine ⟨show some (Value.bool _) = some (Value.bool _) from congrArg (fun b => some (Value.bool b)) (by (exact dT (by (omega)))), ?_⟩)))
      · rw [show decide (¬ (1 ≤ c.res)) = true from decide_eq_true hh]
        rw [show decide (¬ ((1 ≤ c.res) ∧ c.res ≤ 100000)) = true from decide_eq_true (fun k => hh k.1)] at key
        repeat ((first | refine TL_q (op_move rfl) rfl ?_ | (refine' TL_q (op_pickT rfl ?_ rfl) rfl ?_; (· (with_reducible rfl))) | (refine TL_gno rfl rfl ?_ rfl ?_; (· (exact Bool.not_false)))))
        exact TL_sub key (by repeat ((first | exact trivial | refine ⟨rfl, ?_⟩)))
    refine TL_cut5 [(1, .pointer (some ⟨b1, 0, none⟩)), (88, .bool (decide (¬ (((1 ≤ c.res) ∧ c.res ≤ 100000) ∧ 1 ≤ c.lim))))] ?_ ?_
    · intro rest' key
      by_cases hh : (1 ≤ c.res) ∧ c.res ≤ 100000
      · rw [show decide (¬ ((1 ≤ c.res) ∧ c.res ≤ 100000)) = false from decide_eq_false (fun k => k hh)]
        by_cases ht : 1 ≤ c.lim
        · rw [show decide (¬ (((1 ≤ c.res) ∧ c.res ≤ 100000) ∧ 1 ≤ c.lim)) = false from decide_eq_false (fun k => k ⟨hh, ht⟩)] at key
          repeat ((first | refine TL_q (op_move rfl) rfl ?_ | (refine' TL_q (op_pickF rfl ?_ rfl) rfl ?_; (· (with_reducible rfl))) | (refine TL_gpre rfl rfl ?_ ?_; (· (with_reducible rfl))) | (refine' TL_gq2 (op_bin rfl rfl ?_) rfl ?_; rotate_left 1; (· (exact bin_lss))) | refine TL_gq2 (op_fld rfl fld_25_6) rfl ?_ | (refine' TL_gq2 (op_ld rfl pl_3 ?_ ?_) rfl ?_; rotate_left 4; (· repeat ((exact List.mem_cons_self))); (· (assumption)))))
          exact TL_sub key (by repeat ((first | exact trivial | refine ⟨rfl, ?_⟩ | refine ⟨show some (Value.bool _) = some (Value.bool _) from congrArg (fun b => some (Value.bool b)) (by (exact dF (by (omega)))), ?_⟩)))
        · rw [show decide (¬ (((1 ≤ c.res) ∧ c.res ≤ 100000) ∧ 1 ≤ c.lim)) = true from decide_eq_true (fun k => ht k.2)] at key
          repeat ((first | refine TL_q (op_move rfl) rfl ?_ | (refine' TL_q (op_pickF rfl ?_ rfl) rfl ?_; (· (with_reducible rfl))) | (refine TL_gpre rfl rfl ?_ ?_; (· (with_reducible rfl))) | (refine' TL_gq2 (op_bin rfl rfl ?_) rfl ?_; rotate_left 1; (· (exact bin_lss))) | refine TL_gq2 (op_fld rfl fld_25_6) rfl ?_ | (refine' TL_gq2 (op_ld rfl pl_3 ?_ ?_) rfl ?_; rotate_left 4; (· repeat ((exact List.mem_cons_self))); (· (assumption)))))
          exact TL_sub key (by repeat ((first | exact trivial | refine ⟨rfl, ?_⟩ | refine ⟨show some (Value.bool _) = some (Value.bool _) from congrArg (fun b => some (Value.bool b)) (by (exact dT (by (omega)))), ?_⟩)))
      · rw [show decide (¬ ((1 ≤ c.res) ∧ c.res ≤ 100000)) = true from decide_eq_true hh]
        rw [show decide (¬ (((1 ≤ c.res) ∧ c.res ≤ 100000) ∧ 1 ≤ c.lim)) = true from decide_eq_true (fun k => hh k.1)] at key
        repeat ((first | refine TL_q (op_move rfl) rfl ?_ | (refine' TL_q (op_pickT rfl ?_ rfl) rfl ?_; (· (with_reducible rfl))) | (refine TL_gno rfl rfl ?_ rfl ?_; (· (exact Bool.not_false)))))
        exact TL_sub key (by repeat ((first | exact trivial | refine ⟨rfl, ?_⟩)))
    refine TL_cut5 [(1, .pointer (some ⟨b1, 0, none⟩)), (93, .bool (decide (¬ ((((1 ≤ c.res) ∧ c.res ≤ 100000) ∧ 1 ≤ c.lim) ∧ c.lim ≤ 100))))] ?_ ?_
    · intro rest' key
      by_cases hh : ((1 ≤ c.res) ∧ c.res ≤ 100000) ∧ 1 ≤ c.lim
      · rw [show decide (¬ (((1 ≤ c.res) ∧ c.res ≤ 100000) ∧ 1 ≤ c.lim)) = false from decide_eq_false (fun k => k hh)]
        by_cases ht : c.lim ≤ 100
        · rw [show decide (¬ ((((1 ≤ c.res) ∧ c.res ≤ 100000) ∧ 1 ≤ c.lim) ∧ c.lim ≤ 100)) = false from decide_eq_false (fun k => k ⟨hh, ht⟩)] at key
          repeat ((first | refine TL_q (op_move rfl) rfl ?_ | (refine' TL_q (op_pickF rfl ?_ rfl) rfl ?_; (· (with_reducible rfl))) | (refine TL_gpre rfl rfl ?_ ?_; (· (with_reducible rfl))) | (refine' TL_gq2 (op_bin rfl rfl ?_) rfl ?_; rotate_left 1; (· (exact bin_gtr))) | refine TL_gq2 (op_fld rfl fld_25_6) rfl ?_ | (refine' TL_gq2 (op_ld rfl pl_3 ?_ ?_) rfl ?_; rotate_left 4; (· repeat ((exact List.mem_cons_self))); (· (assumption)))))
          exact TL_sub key (by repeat ((first | exact trivial | refine ⟨rfl, ?_⟩ | refine ⟨show some (Value.bool _) = some (Value.bool _) from congrArg (fun b => some (Value.bool b)) (by (exact dF (by (omega)))), ?_⟩)))
        · rw [show decide (¬ ((((1 ≤ c.res) ∧ c.res ≤ 100000) ∧ 1 ≤ c.lim) ∧ c.lim ≤ 100)) = true from decide_eq_true (fun k => ht k.2)] at key
          repeat ((first | refine TL_q (op_move rfl) rfl ?_ | (refine' TL_q (op_pickF rfl ?_ rfl) rfl ?_; (· (with_reducible rfl))) | (refine TL_gpre rfl rfl ?_ ?_; (· (with_reducible rfl))) | (refine' TL_gq2 (op_bin rfl rfl ?_) rfl ?_; rotate_left 1; (· (exact bin_gtr))) | refine TL_gq2 (op_fld rfl fld_25_6) rfl ?_ | (refine' TL_gq2 (op_ld rfl pl_3 ?_ ?_) rfl ?_; rotate_left 4; (· repeat ((exact List.mem_cons_self))); (· (assumption)))))
          exact TL_sub key (by repeat ((first | exact trivial | refine ⟨rfl, ?_⟩ | refine ⟨show some (Value.bool _) = some (Value.bool _) from congrArg (fun b => some (Value.bool b)) (by (exact dT (by (omega)))), ?_⟩)))
      · rw [show decide (¬ (((1 ≤ c.res) ∧ c.res ≤ 100000) ∧ 1 ≤ c.lim)) = true from decide_eq_true hh]
        rw [show decide (¬ ((((1 ≤ c.res) ∧ c.res ≤ 100000) ∧ 1 ≤ c.lim) ∧ c.lim ≤ 100)) = true from decide_eq_true (fun k => hh k.1)] at key
        repeat ((first | refine TL_q (op_move rfl) rfl ?_ | (refine' TL_q (op_pickT rfl ?_ rfl) rfl ?_; (· (with_reducible rfl))) | (refine TL_gno rfl rfl ?_ rfl ?_; (· (exact Bool.not_false)))))
        exact TL_sub key (by repeat ((first | exact trivial | refine ⟨rfl, ?_⟩)))
    refine TL_cut5 [(1, .pointer (some ⟨b1, 0, none⟩)), (98, .bool (decide (¬ (((((1 ≤ c.res) ∧ c.res ≤ 100000) ∧ 1 ≤ c.lim) ∧ c.lim ≤ 100) ∧ 0 ≤ c.cac))))] ?_ ?_
    · intro rest' key
      by_cases hh : (((1 ≤ c.res) ∧ c.res ≤ 100000) ∧ 1 ≤ c.lim) ∧ c.lim ≤ 100
      · rw [show decide (¬ ((((1 ≤ c.res) ∧ c.res ≤ 100000) ∧ 1 ≤ c.lim) ∧ c.lim ≤ 100)) = false from decide_eq_false (fun k => k hh)]
        by_cases ht : 0 ≤ c.cac
        · rw [show decide (¬ (((((1 ≤ c.res) ∧ c.res ≤ 100000) ∧ 1 ≤ c.lim) ∧ c.lim ≤ 100) ∧ 0 ≤ c.cac)) = false from decide_eq_false (fun k => k ⟨hh, ht⟩)] at key
          repeat ((first | refine TL_q (op_move rfl) rfl ?_ | (refine' TL_q (op_pickF rfl ?_ rfl) rfl ?_; (· (with_reducible rfl))) | (refine TL_gpre rfl rfl ?_ ?_; (· (with_reducible rfl))) | (refine' TL_gq2 (op_bin rfl rfl ?_) rfl ?_; rotate_left 1; (· (exact bin_lss))) | refine TL_gq2 (op_fld rfl fld_25_7) rfl ?_ | (refine' TL_gq2 (op_ld rfl pl_3 ?_ ?_) rfl ?_; rotate_left 4; (· repeat ((exact List.mem_cons_self))); (· (assumption)))))
          exact TL_sub key (by repeat ((first | exact trivial | refine ⟨rfl, ?_⟩ | refine ⟨show some (Value.bool _) = some (Value.bool _) from congrArg (fun b => some (Value.bool b)) (by (exact dF (by (omega)))), ?_⟩)))
        · rw [show decide (¬ (((((1 ≤ c.res) ∧ c.res ≤ 100000) ∧ 1 ≤ c.lim) ∧ c.lim ≤ 100) ∧ 0 ≤ c.cac)) = true from decide_eq_true (fun k => ht k.2)] at key
          repeat ((first | refine TL_q (op_move rfl) rfl ?_ | (refine' TL_q (op_pickF rfl ?_ rfl) rfl ?_; (· (with_reducible rfl))) | (refine TL_gpre rfl rfl ?_ ?_; (· (with_reducible rfl))) | (refine' TL_gq2 (op_bin rfl rfl ?_) rfl ?_; rotate_left 1; (· (exact bin_lss))) | refine TL_gq2 (op_fld rfl fld_25_7) rfl ?_ | (refine' TL_gq2 (op_ld rfl pl_3 ?_ ?_) rfl ?_; rotate_left 4; (· repeat ((exact List.mem_cons_self))); (· (assumption)))))
          exact TL_sub key (by repeat ((first | exact trivial | refine ⟨rfl, ?_⟩ | refine ⟨show some (Value.bool _) = some (Value.bool _) from congrArg (fun b => some (Value.bool b)) (by (exact dT (by (omega)))), ?_⟩)))
      · rw [show decide (¬ ((((1 ≤ c.res) ∧ c.res ≤ 100000) ∧ 1 ≤ c.lim) ∧ c.lim ≤ 100)) = true from decide_eq_true hh]
        rw [show decide (¬ (((((1 ≤ c.res) ∧ c.res ≤ 100000) ∧ 1 ≤ c.lim) ∧ c.lim ≤ 100) ∧ 0 ≤ c.cac)) = true from decide_eq_true (fun k => hh k.1)] at key
        repeat ((first | refine TL_q (op_move rfl) rfl ?_ | (refine' TL_q (op_pickT rfl ?_ rfl) rfl ?_; (· (with_reducible rfl))) | (refine TL_gno rfl rfl ?_ rfl ?_; (· (exact Bool.not_false)))))
        exact TL_sub key (by repeat ((first | exact trivial | refine ⟨rfl, ?_⟩)))
    refine TL_cut5 [(1, .pointer (some ⟨b1, 0, none⟩)), (103, .bool (decide (¬ ((((((1 ≤ c.res) ∧ c.res ≤ 100000) ∧ 1 ≤ c.lim) ∧ c.lim ≤ 100) ∧ 0 ≤ c.cac) ∧ c.cac ≤ 256))))] ?_ ?_
    · intro rest' key
      by_cases hh : ((((1 ≤ c.res) ∧ c.res ≤ 100000) ∧ 1 ≤ c.lim) ∧ c.lim ≤ 100) ∧ 0 ≤ c.cac
      · rw [show decide (¬ (((((1 ≤ c.res) ∧ c.res ≤ 100000) ∧ 1 ≤ c.lim) ∧ c.lim ≤ 100) ∧ 0 ≤ c.cac)) = false from decide_eq_false (fun k => k hh)]
        by_cases ht : c.cac ≤ 256
        · rw [show decide (¬ ((((((1 ≤ c.res) ∧ c.res ≤ 100000) ∧ 1 ≤ c.lim) ∧ c.lim ≤ 100) ∧ 0 ≤ c.cac) ∧ c.cac ≤ 256)) = false from decide_eq_false (fun k => k ⟨hh, ht⟩)] at key
          repeat ((first | refine TL_q (op_move rfl) rfl ?_ | (refine' TL_q (op_pickF rfl ?_ rfl) rfl ?_; (· (with_reducible rfl))) | (refine TL_gpre rfl rfl ?_ ?_; (· (with_reducible rfl))) | (refine' TL_gq2 (op_bin rfl rfl ?_) rfl ?_; rotate_left 1; (· (exact bin_gtr))) | refine TL_gq2 (op_fld rfl fld_25_7) rfl ?_ | (refine' TL_gq2 (op_ld rfl pl_3 ?_ ?_) rfl ?_; rotate_left 4; (· repeat ((exact List.mem_cons_self))); (· (assumption)))))
          exact TL_sub key (by repeat ((first | exact trivial | refine ⟨rfl, ?_⟩ | refine ⟨show some (Value.bool _) = some (Value.bool _) from congrArg (fun b => some (Value.bool b)) (by (exact dF (by (omega)))), ?_⟩)))
        · rw [show decide (¬ ((((((1 ≤ c.res) ∧ c.res ≤ 100000) ∧ 1 ≤ c.lim) ∧ c.lim ≤ 100) ∧ 0 ≤ c.cac) ∧ c.cac ≤ 256)) = true from decide_eq_true (fun k => ht k.2)] at key
          repeat ((first | refine TL_q (op_move rfl) rfl ?_ | (refine' TL_q (op_pickF rfl ?_ rfl) rfl ?_; (· (with_reducible rfl))) | (refine TL_gpre rfl rfl ?_ ?_; (· (with_reducible rfl))) | (refine' TL_gq2 (op_bin rfl rfl ?_) rfl ?_; rotate_left 1; (· (exact bin_gtr))) | refine TL_gq2 (op_fld rfl fld_25_7) rfl ?_ | (refine' TL_gq2 (op_ld rfl pl_3 ?_ ?_) rfl ?_; rotate_left 4; (· repeat ((exact List.mem_cons_self))); (· (assumption)))))
          exact TL_sub key (by repeat ((first | exact trivial | refine ⟨rfl, ?_⟩ | refine ⟨show some (Value.bool _) = some (Value.bool _) from congrArg (fun b => some (Value.bool b)) (by (exact dT (by (omega)))), ?_⟩)))
      · rw [show decide (¬ (((((1 ≤ c.res) ∧ c.res ≤ 100000) ∧ 1 ≤ c.lim) ∧ c.lim ≤ 100) ∧ 0 ≤ c.cac)) = true from decide_eq_true hh]
        rw [show decide (¬ ((((((1 ≤ c.res) ∧ c.res ≤ 100000) ∧ 1 ≤ c.lim) ∧ c.lim ≤ 100) ∧ 0 ≤ c.cac) ∧ c.cac ≤ 256)) = true from decide_eq_true (fun k => hh k.1)] at key
        repeat ((first | refine TL_q (op_move rfl) rfl ?_ | (refine' TL_q (op_pickT rfl ?_ rfl) rfl ?_; (· (with_reducible rfl))) | (refine TL_gno rfl rfl ?_ rfl ?_; (· (exact Bool.not_false)))))
        exact TL_sub key (by repeat ((first | exact trivial | refine ⟨rfl, ?_⟩)))
    refine TL_cut5 [(1, .pointer (some ⟨b1, 0, none⟩)), (108, .bool (decide (¬ (((((((1 ≤ c.res) ∧ c.res ≤ 100000) ∧ 1 ≤ c.lim) ∧ c.lim ≤ 100) ∧ 0 ≤ c.cac) ∧ c.cac ≤ 256) ∧ 1 ≤ c.fli))))] ?_ ?_
    · intro rest' key
      by_cases hh : (((((1 ≤ c.res) ∧ c.res ≤ 100000) ∧ 1 ≤ c.lim) ∧ c.lim ≤ 100) ∧ 0 ≤ c.cac) ∧ c.cac ≤ 256
      · rw [show decide (¬ ((((((1 ≤ c.res) ∧ c.res ≤ 100000) ∧ 1 ≤ c.lim) ∧ c.lim ≤ 100) ∧ 0 ≤ c.cac) ∧ c.cac ≤ 256)) = false from decide_eq_false (fun k => k hh)]
        by_cases ht : 1 ≤ c.fli
        · rw [show decide (¬ (((((((1 ≤ c.res) ∧ c.res ≤ 100000) ∧ 1 ≤ c.lim) ∧ c.lim ≤ 100) ∧ 0 ≤ c.cac) ∧ c.cac ≤ 256) ∧ 1 ≤ c.fli)) = false from decide_eq_false (fun k => k ⟨hh, ht⟩)] at key
          repeat ((first | refine TL_q (op_move rfl) rfl ?_ | (refine' TL_q (op_pickF rfl ?_ rfl) rfl ?_; (· (with_reducible rfl))) | (refine TL_gpre rfl rfl ?_ ?_; (· (with_reducible rfl))) | (refine' TL_gq2 (op_bin rfl rfl ?_) rfl ?_; rotate_left 1; (· (exact bin_lss))) | refine TL_gq2 (op_fld rfl fld_25_8) rfl ?_ | (refine' TL_gq2 (op_ld rfl pl_3 ?_ ?_) rfl ?_; rotate_left 4; (· repeat ((exact List.mem_cons_self))); (· (assumption)))))
          exact TL_sub key (by repeat ((first | exact trivial | refine ⟨rfl, ?_⟩ | refine ⟨show some (Value.bool _) = some (Value.bool _) from congrArg (fun b => some (Value.bool b)) (by (exact dF (by (omega)))), ?_⟩)))
        · rw [show decide (¬ (((((((1 ≤ c.res) ∧ c.res ≤ 100000) ∧ 1 ≤ c.lim) ∧ c.lim ≤ 100) ∧ 0 ≤ c.cac) ∧ c.cac ≤ 256) ∧ 1 ≤ c.fli)) = true from decide_eq_true (fun k => ht k.2)] at key
          repeat ((first | refine TL_q (op_move rfl) rfl ?_ | (refine' TL_q (op_pickF rfl ?_ rfl) rfl ?_; (· (with_reducible rfl))) | (refine TL_gpre rfl rfl ?_ ?_; (· (with_reducible rfl))) | (refine' TL_gq2 (op_bin rfl rfl ?_) rfl ?_; rotate_left 1; (· (exact bin_lss))) | refine TL_gq2 (op_fld rfl fld_25_8) rfl ?_ | (refine' TL_gq2 (op_ld rfl pl_3 ?_ ?_) rfl ?_; rotate_left 4; (· repeat ((exact List.mem_cons_self))); (· (assumption)))))
          exact TL_sub key (by repeat ((first | exact trivial | refine ⟨rfl, ?_⟩ | refine ⟨show some (Value.bool _) = some (Value.bool _) from congrArg (fun b => some (Value.bool b)) (by (exact dT (by (omega)))), ?_⟩)))
      · rw [show decide (¬ ((((((1 ≤ c.res) ∧ c.res ≤ 100000) ∧ 1 ≤ c.lim) ∧ c.lim ≤ 100) ∧ 0 ≤ c.cac) ∧ c.cac ≤ 256)) = true from decide_eq_true hh]
        rw [show decide (¬ (((((((1 ≤ c.res) ∧ c.res ≤ 100000) ∧ 1 ≤ c.lim) ∧ c.lim ≤ 100) ∧ 0 ≤ c.cac) ∧ c.cac ≤ 256) ∧ 1 ≤ c.fli)) = true from decide_eq_true (fun k => hh k.1)] at key
        repeat ((first | refine TL_q (op_move rfl) rfl ?_ | (refine' TL_q (op_pickT rfl ?_ rfl) rfl ?_; (· (with_reducible rfl))) | (refine TL_gno rfl rfl ?_ rfl ?_; (· (exact Bool.not_false)))))
        exact TL_sub key (by repeat ((first | exact trivial | refine ⟨rfl, ?_⟩)))
    refine TL_cut5 [(1, .pointer (some ⟨b1, 0, none⟩)), (113, .bool (decide (¬ ((((((((1 ≤ c.res) ∧ c.res ≤ 100000) ∧ 1 ≤ c.lim) ∧ c.lim ≤ 100) ∧ 0 ≤ c.cac) ∧ c.cac ≤ 256) ∧ 1 ≤ c.fli) ∧ c.fli ≤ 32))))] ?_ ?_
    · intro rest' key
      by_cases hh : ((((((1 ≤ c.res) ∧ c.res ≤ 100000) ∧ 1 ≤ c.lim) ∧ c.lim ≤ 100) ∧ 0 ≤ c.cac) ∧ c.cac ≤ 256) ∧ 1 ≤ c.fli
      · rw [show decide (¬ (((((((1 ≤ c.res) ∧ c.res ≤ 100000) ∧ 1 ≤ c.lim) ∧ c.lim ≤ 100) ∧ 0 ≤ c.cac) ∧ c.cac ≤ 256) ∧ 1 ≤ c.fli)) = false from decide_eq_false (fun k => k hh)]
        by_cases ht : c.fli ≤ 32
        · rw [show decide (¬ ((((((((1 ≤ c.res) ∧ c.res ≤ 100000) ∧ 1 ≤ c.lim) ∧ c.lim ≤ 100) ∧ 0 ≤ c.cac) ∧ c.cac ≤ 256) ∧ 1 ≤ c.fli) ∧ c.fli ≤ 32)) = false from decide_eq_false (fun k => k ⟨hh, ht⟩)] at key
          repeat ((first | refine TL_q (op_move rfl) rfl ?_ | (refine' TL_q (op_pickF rfl ?_ rfl) rfl ?_; (· (with_reducible rfl))) | (refine TL_gpre rfl rfl ?_ ?_; (· (with_reducible rfl))) | (refine' TL_gq2 (op_bin rfl rfl ?_) rfl ?_; rotate_left 1; (· (exact bin_gtr))) | refine TL_gq2 (op_fld rfl fld_25_8) rfl ?_ | (refine' TL_gq2 (op_ld rfl pl_3 ?_ ?_) rfl ?_; rotate_left 4; (· repeat ((exact List.mem_cons_self))); (· (assumption)))))
          exact TL_sub key (by repeat ((first | exact trivial | refine ⟨rfl, ?_⟩ | refine ⟨show some (Value.bool _) = some (Value.bool _) from congrArg (fun b => some (Value.bool b)) (by (exact dF (by (omega)))), ?_⟩)))
        · rw [show decide (¬ ((((((((1 ≤ c.res) ∧ c.res ≤ 100000) ∧ 1 ≤ c.lim) ∧ c.lim ≤ 100) ∧ 0 ≤ c.cac) ∧ c.cac ≤ 256) ∧ 1 ≤ c.fli) ∧ c.fli ≤ 32)) = true from decide_eq_true (fun k => ht k.2)] at key
          repeat ((first | refine TL_q (op_move rfl) rfl ?_ | (refine' TL_q (op_pickF rfl ?_ rfl) rfl ?_; (· (with_reducible rfl))) | (refine TL_gpre rfl rfl ?_ ?_; (· (with_reducible rfl))) | (refine' TL_gq2 (op_bin rfl rfl ?_) rfl ?_; rotate_left 1; (· (exact bin_gtr))) | refine TL_gq2 (op_fld rfl fld_25_8) rfl ?_ | (refine' TL_gq2 (op_ld rfl pl_3 ?_ ?_) rfl ?_; rotate_left 4; (· repeat ((exact List.mem_cons_self))); (· (assumption)))))
          exact TL_sub key (by repeat ((first | exact trivial | refine ⟨rfl, ?_⟩ | refine ⟨show some (Value.bool _) = some (Value.bool _) from congrArg (fun b => some (Value.bool b)) (by (exact dT (by (omega)))), ?_⟩)))
      · rw [show decide (¬ (((((((1 ≤ c.res) ∧ c.res ≤ 100000) ∧ 1 ≤ c.lim) ∧ c.lim ≤ 100) ∧ 0 ≤ c.cac) ∧ c.cac ≤ 256) ∧ 1 ≤ c.fli)) = true from decide_eq_true hh]
        rw [show decide (¬ ((((((((1 ≤ c.res) ∧ c.res ≤ 100000) ∧ 1 ≤ c.lim) ∧ c.lim ≤ 100) ∧ 0 ≤ c.cac) ∧ c.cac ≤ 256) ∧ 1 ≤ c.fli) ∧ c.fli ≤ 32)) = true from decide_eq_true (fun k => hh k.1)] at key
        repeat ((first | refine TL_q (op_move rfl) rfl ?_ | (refine' TL_q (op_pickT rfl ?_ rfl) rfl ?_; (· (with_reducible rfl))) | (refine TL_gno rfl rfl ?_ rfl ?_; (· (exact Bool.not_false)))))
        exact TL_sub key (by repeat ((first | exact trivial | refine ⟨rfl, ?_⟩)))
    refine TL_cut5 [(1, .pointer (some ⟨b1, 0, none⟩)), (118, .bool (decide (¬ (((((((((1 ≤ c.res) ∧ c.res ≤ 100000) ∧ 1 ≤ c.lim) ∧ c.lim ≤ 100) ∧ 0 ≤ c.cac) ∧ c.cac ≤ 256) ∧ 1 ≤ c.fli) ∧ c.fli ≤ 32) ∧ 1 ≤ c.wtr))))] ?_ ?_
    · intro rest' key
      by_cases hh : (((((((1 ≤ c.res) ∧ c.res ≤ 100000) ∧ 1 ≤ c.lim) ∧ c.lim ≤ 100) ∧ 0 ≤ c.cac) ∧ c.cac ≤ 256) ∧ 1 ≤ c.fli) ∧ c.fli ≤ 32
      · rw [show decide (¬ ((((((((1 ≤ c.res) ∧ c.res ≤ 100000) ∧ 1 ≤ c.lim) ∧ c.lim ≤ 100) ∧ 0 ≤ c.cac) ∧ c.cac ≤ 256) ∧ 1 ≤ c.fli) ∧ c.fli ≤ 32)) = false from decide_eq_false (fun k => k hh)]
        by_cases ht : 1 ≤ c.wtr
        · rw [show decide (¬ (((((((((1 ≤ c.res) ∧ c.res ≤ 100000) ∧ 1 ≤ c.lim) ∧ c.lim ≤ 100) ∧ 0 ≤ c.cac) ∧ c.cac ≤ 256) ∧ 1 ≤ c.fli) ∧ c.fli ≤ 32) ∧ 1 ≤ c.wtr)) = false from decide_eq_false (fun k => k ⟨hh, ht⟩)] at key
          repeat ((first | refine TL_q (op_move rfl) rfl ?_ | (refine' TL_q (op_pickF rfl ?_ rfl) rfl ?_; (· (with_reducible rfl))) | (refine TL_gpre rfl rfl ?_ ?_; (· (with_reducible rfl))) | (refine' TL_gq2 (op_bin rfl rfl ?_) rfl ?_; rotate_left 1; (· (exact bin_lss))) | refine TL_gq2 (op_fld rfl fld_25_9) rfl ?_ | (refine' TL_gq2 (op_ld rfl pl_3 ?_ ?_) rfl ?_; rotate_left 4; (· repeat ((exact List.mem_cons_self))); (· (assumption)))))
          exact TL_sub key (by repeat ((first | exact trivial | refine ⟨rfl, ?_⟩ | refine ⟨show some (Value.bool _) = some (Value.bool _) from congrArg (fun b => some (Value.bool b)) (by (exact dF (by (omega)))), ?_⟩)))
        · rw [show decide (¬ (((((((((1 ≤ c.res) ∧ c.res ≤ 100000) ∧ 1 ≤ c.lim) ∧ c.lim ≤ 100) ∧ 0 ≤ c.cac) ∧ c.cac ≤ 256) ∧ 1 ≤ c.fli) ∧ c.fli ≤ 32) ∧ 1 ≤ c.wtr)) = true from decide_eq_true (fun k => ht k.2)] at key
          repeat ((first | refine TL_q (op_move rfl) rfl ?_ | (refine' TL_q (op_pickF rfl ?_ rfl) rfl ?_; (· (with_reducible rfl))) | (refine TL_gpre rfl rfl ?_ ?_; (· (with_reducible rfl))) | (refine' TL_gq2 (op_bin rfl rfl ?_) rfl ?_; rotate_left 1; (· (exact bin_lss))) | refine TL_gq2 (op_fld rfl fld_25_9) rfl ?_ | (refine' TL_gq2 (op_ld rfl pl_3 ?_ ?_) rfl ?_; rotate_left 4; (· repeat ((exact List.mem_cons_self))); (· (assumption)))))
          exact TL_sub key (by repeat ((first | exact trivial | refine ⟨rfl, ?_⟩ | refine ⟨show some (Value.bool _) = some (Value.bool _) from congrArg (fun b => some (Value.bool b)) (by (exact dT (by (omega)))), ?_⟩)))
      · rw [show decide (¬ ((((((((1 ≤ c.res) ∧ c.res ≤ 100000) ∧ 1 ≤ c.lim) ∧ c.lim ≤ 100) ∧ 0 ≤ c.cac) ∧ c.cac ≤ 256) ∧ 1 ≤ c.fli) ∧ c.fli ≤ 32)) = true from decide_eq_true hh]
        rw [show decide (¬ (((((((((1 ≤ c.res) ∧ c.res ≤ 100000) ∧ 1 ≤ c.lim) ∧ c.lim ≤ 100) ∧ 0 ≤ c.cac) ∧ c.cac ≤ 256) ∧ 1 ≤ c.fli) ∧ c.fli ≤ 32) ∧ 1 ≤ c.wtr)) = true from decide_eq_true (fun k => hh k.1)] at key
        repeat ((first | refine TL_q (op_move rfl) rfl ?_ | (refine' TL_q (op_pickT rfl ?_ rfl) rfl ?_; (· (with_reducible rfl))) | (refine TL_gno rfl rfl ?_ rfl ?_; (· (exact Bool.not_false)))))
        exact TL_sub key (by repeat ((first | exact trivial | refine ⟨rfl, ?_⟩)))
    refine TL_cut5 [(1, .pointer (some ⟨b1, 0, none⟩)), (123, .bool (decide (¬ ((((((((((1 ≤ c.res) ∧ c.res ≤ 100000) ∧ 1 ≤ c.lim) ∧ c.lim ≤ 100) ∧ 0 ≤ c.cac) ∧ c.cac ≤ 256) ∧ 1 ≤ c.fli) ∧ c.fli ≤ 32) ∧ 1 ≤ c.wtr) ∧ c.wtr ≤ 16))))] ?_ ?_
    · intro rest' key
      by_cases hh : ((((((((1 ≤ c.res) ∧ c.res ≤ 100000) ∧ 1 ≤ c.lim) ∧ c.lim ≤ 100) ∧ 0 ≤ c.cac) ∧ c.cac ≤ 256) ∧ 1 ≤ c.fli) ∧ c.fli ≤ 32) ∧ 1 ≤ c.wtr
      · rw [show decide (¬ (((((((((1 ≤ c.res) ∧ c.res ≤ 100000) ∧ 1 ≤ c.lim) ∧ c.lim ≤ 100) ∧ 0 ≤ c.cac) ∧ c.cac ≤ 256) ∧ 1 ≤ c.fli) ∧ c.fli ≤ 32) ∧ 1 ≤ c.wtr)) = false from decide_eq_false (fun k => k hh)]
        by_cases ht : c.wtr ≤ 16
        · rw [show decide (¬ ((((((((((1 ≤ c.res) ∧ c.res ≤ 100000) ∧ 1 ≤ c.lim) ∧ c.lim ≤ 100) ∧ 0 ≤ c.cac) ∧ c.cac ≤ 256) ∧ 1 ≤ c.fli) ∧ c.fli ≤ 32) ∧ 1 ≤ c.wtr) ∧ c.wtr ≤ 16)) = false from decide_eq_false (fun k => k ⟨hh, ht⟩)] at key
          repeat ((first | refine TL_q (op_move rfl) rfl ?_ | (refine' TL_q (op_pickF rfl ?_ rfl) rfl ?_; (· (with_reducible rfl))) | (refine TL_gpre rfl rfl ?_ ?_; (· (with_reducible rfl))) | (refine' TL_gq2 (op_bin rfl rfl ?_) rfl ?_; rotate_left 1; (· (exact bin_gtr))) | refine TL_gq2 (op_fld rfl fld_25_9) rfl ?_ | (refine' TL_gq2 (op_ld rfl pl_3 ?_ ?_) rfl ?_; rotate_left 4; (· repeat ((exact List.mem_cons_self))); (· (assumption)))))
          exact TL_sub key (by repeat ((first | exact trivial | refine ⟨rfl, ?_⟩ | refine ⟨show some (Value.bool _) = some (Value.bool _) from congrArg (fun b => some (Value.bool b)) (by (exact dF (by (omega)))), ?_⟩)))
        · rw [show decide (¬ ((((((((((1 ≤ c.res) ∧ c.res ≤ 100000) ∧ 1 ≤ c.lim) ∧ c.lim ≤ 100) ∧ 0 ≤ c.cac) ∧ c.cac ≤ 256) ∧ 1 ≤ c.fli) ∧ c.fli ≤ 32) ∧ 1 ≤ c.wtr) ∧ c.wtr ≤ 16)) = true from decide_eq_true (fun k => ht k.2)] at key
          repeat ((first | refine TL_q (op_move rfl) rfl ?_ | (refine' TL_q (op_pickF rfl ?_ rfl) rfl ?_; (· (with_reducible rfl))) | (refine TL_gpre rfl rfl ?_ ?_; (· (with_reducible rfl))) | (refine' TL_gq2 (op_bin rfl rfl ?_) rfl ?_; rotate_left 1; (· (exact bin_gtr))) | refine TL_gq2 (op_fld rfl fld_25_9) rfl ?_ | (refine' TL_gq2 (op_ld rfl pl_3 ?_ ?_) rfl ?_; rotate_left 4; (· repeat ((exact List.mem_cons_self))); (· (assumption)))))
          exact TL_sub key (by repeat ((first | exact trivial | refine ⟨rfl, ?_⟩ | refine ⟨show some (Value.bool _) = some (Value.bool _) from congrArg (fun b => some (Value.bool b)) (by (exact dT (by (omega)))), ?_⟩)))
      · rw [show decide (¬ (((((((((1 ≤ c.res) ∧ c.res ≤ 100000) ∧ 1 ≤ c.lim) ∧ c.lim ≤ 100) ∧ 0 ≤ c.cac) ∧ c.cac ≤ 256) ∧ 1 ≤ c.fli) ∧ c.fli ≤ 32) ∧ 1 ≤ c.wtr)) = true from decide_eq_true hh]
        rw [show decide (¬ ((((((((((1 ≤ c.res) ∧ c.res ≤ 100000) ∧ 1 ≤ c.lim) ∧ c.lim ≤ 100) ∧ 0 ≤ c.cac) ∧ c.cac ≤ 256) ∧ 1 ≤ c.fli) ∧ c.fli ≤ 32) ∧ 1 ≤ c.wtr) ∧ c.wtr ≤ 16)) = true from decide_eq_true (fun k => hh k.1)] at key
        repeat ((first | refine TL_q (op_move rfl) rfl ?_ | (refine' TL_q (op_pickT rfl ?_ rfl) rfl ?_; (· (with_reducible rfl))) | (refine TL_gno rfl rfl ?_ rfl ?_; (· (exact Bool.not_false)))))
        exact TL_sub key (by repeat ((first | exact trivial | refine ⟨rfl, ?_⟩)))
    refine TL_cut5 [(1, .pointer (some ⟨b1, 0, none⟩)), (128, .bool (decide (¬ (((((((((((1 ≤ c.res) ∧ c.res ≤ 100000) ∧ 1 ≤ c.lim) ∧ c.lim ≤ 100) ∧ 0 ≤ c.cac) ∧ c.cac ≤ 256) ∧ 1 ≤ c.fli) ∧ c.fli ≤ 32) ∧ 1 ≤ c.wtr) ∧ c.wtr ≤ 16) ∧ 0 ≤ c.ttl))))] ?_ ?_
    · intro rest' key
      by_cases hh : (((((((((1 ≤ c.res) ∧ c.res ≤ 100000) ∧ 1 ≤ c.lim) ∧ c.lim ≤ 100) ∧ 0 ≤ c.cac) ∧ c.cac ≤ 256) ∧ 1 ≤ c.fli) ∧ c.fli ≤ 32) ∧ 1 ≤ c.wtr) ∧ c.wtr ≤ 16
      · rw [show decide (¬ ((((((((((1 ≤ c.res) ∧ c.res ≤ 100000) ∧ 1 ≤ c.lim) ∧ c.lim ≤ 100) ∧ 0 ≤ c.cac) ∧ c.cac ≤ 256) ∧ 1 ≤ c.fli) ∧ c.fli ≤ 32) ∧ 1 ≤ c.wtr) ∧ c.wtr ≤ 16)) = false from decide_eq_false (fun k => k hh)]
        by_cases ht : 0 ≤ c.ttl
        · rw [show decide (¬ (((((((((((1 ≤ c.res) ∧ c.res ≤ 100000) ∧ 1 ≤ c.lim) ∧ c.lim ≤ 100) ∧ 0 ≤ c.cac) ∧ c.cac ≤ 256) ∧ 1 ≤ c.fli) ∧ c.fli ≤ 32) ∧ 1 ≤ c.wtr) ∧ c.wtr ≤ 16) ∧ 0 ≤ c.ttl)) = false from decide_eq_false (fun k => k ⟨hh, ht⟩)] at key
          repeat ((first | refine TL_q (op_move rfl) rfl ?_ | (refine' TL_q (op_pickF rfl ?_ rfl) rfl ?_; (· (with_reducible rfl))) | (refine TL_gpre rfl rfl ?_ ?_; (· (with_reducible rfl))) | (refine' TL_gq2 (op_bin rfl rfl ?_) rfl ?_; rotate_left 1; (· (exact bin_lss))) | refine TL_gq2 (op_fld rfl fld_25_10) rfl ?_ | (refine' TL_gq2 (op_ld rfl pl_3 ?_ ?_) rfl ?_; rotate_left 4; (· repeat ((exact List.mem_cons_self))); (· (assumption)))))
          exact TL_sub key (by repeat ((first | exact trivial | refine ⟨rfl, ?_⟩ | refine ⟨show some (Value.bool _) = some (Value.bool _) from congrArg (fun b => some (Value.bool b)) (by (exact dF (by (omega)))), ?_⟩)))
        · rw [show decide (¬ (((((((((((1 ≤ c.res) ∧ c.res ≤ 100000) ∧ 1 ≤ c.lim) ∧ c.lim ≤ 100) ∧ 0 ≤ c.cac) ∧ c.cac ≤ 256) ∧ 1 ≤ c.fli) ∧ c.fli ≤ 32) ∧ 1 ≤ c.wtr) ∧ c.wtr ≤ 16) ∧ 0 ≤ c.ttl)) = true from decide_eq_true (fun k => ht k.2)] at key
          repeat ((first | refine TL_q (op_move rfl) rfl ?_ | (refine' TL_q (op_pickF rfl ?_ rfl) rfl ?_; (· (with_reducible rfl))) | (refine TL_gpre rfl rfl ?_ ?_; (· (with_reducible rfl))) | (refine' TL_gq2 (op_bin rfl rfl ?_) rfl ?_; rotate_left 1; (· (exact bin_lss))) | refine TL_gq2 (op_fld rfl fld_25_10) rfl ?_ | (refine' TL_gq2 (op_ld rfl pl_3 ?_ ?_) rfl ?_; rotate_left 4; (· repeat ((exact List.mem_cons_self))); (· (assumption)))))
          exact TL_sub key (by repeat ((first | exact trivial | refine ⟨rfl, ?_⟩ | refine ⟨show some (Value.bool _) = some (Value.bool _) from congrArg (fun b => some (Value.bool b)) (by (exact dT (by (omega)))), ?_⟩)))
      · rw [show decide (¬ ((((((((((1 ≤ c.res) ∧ c.res ≤ 100000) ∧ 1 ≤ c.lim) ∧ c.lim ≤ 100) ∧ 0 ≤ c.cac) ∧ c.cac ≤ 256) ∧ 1 ≤ c.fli) ∧ c.fli ≤ 32) ∧ 1 ≤ c.wtr) ∧ c.wtr ≤ 16)) = true from decide_eq_true hh]
        rw [show decide (¬ (((((((((((1 ≤ c.res) ∧ c.res ≤ 100000) ∧ 1 ≤ c.lim) ∧ c.lim ≤ 100) ∧ 0 ≤ c.cac) ∧ c.cac ≤ 256) ∧ 1 ≤ c.fli) ∧ c.fli ≤ 32) ∧ 1 ≤ c.wtr) ∧ c.wtr ≤ 16) ∧ 0 ≤ c.ttl)) = true from decide_eq_true (fun k => hh k.1)] at key
        repeat ((first | refine TL_q (op_move rfl) rfl ?_ | (refine' TL_q (op_pickT rfl ?_ rfl) rfl ?_; (· (with_reducible rfl))) | (refine TL_gno rfl rfl ?_ rfl ?_; (· (exact Bool.not_false)))))
        exact TL_sub key (by repeat ((first | exact trivial | refine ⟨rfl, ?_⟩)))
    refine TL_cut5 [(1, .pointer (some ⟨b1, 0, none⟩)), (133, .bool (decide (¬ ((((((((((((1 ≤ c.res) ∧ c.res ≤ 100000) ∧ 1 ≤ c.lim) ∧ c.lim ≤ 100) ∧ 0 ≤ c.cac) ∧ c.cac ≤ 256) ∧ 1 ≤ c.fli) ∧ c.fli ≤ 32) ∧ 1 ≤ c.wtr) ∧ c.wtr ≤ 16) ∧ 0 ≤ c.ttl) ∧ c.ttl ≤ 2147483647))))] ?_ ?_
    · intro rest' key
      by_cases hh : ((((((((((1 ≤ c.res) ∧ c.res ≤ 100000) ∧ 1 ≤ c.lim) ∧ c.lim ≤ 100) ∧ 0 ≤ c.cac) ∧ c.cac ≤ 256) ∧ 1 ≤ c.fli) ∧ c.fli ≤ 32) ∧ 1 ≤ c.wtr) ∧ c.wtr ≤ 16) ∧ 0 ≤ c.ttl
      · rw [show decide (¬ (((((((((((1 ≤ c.res) ∧ c.res ≤ 100000) ∧ 1 ≤ c.lim) ∧ c.lim ≤ 100) ∧ 0 ≤ c.cac) ∧ c.cac ≤ 256) ∧ 1 ≤ c.fli) ∧ c.fli ≤ 32) ∧ 1 ≤ c.wtr) ∧ c.wtr ≤ 16) ∧ 0 ≤ c.ttl)) = false from decide_eq_false (fun k => k hh)]
        by_cases ht : c.ttl ≤ 2147483647
        · rw [show decide (¬ ((((((((((((1 ≤ c.res) ∧ c.res ≤ 100000) ∧ 1 ≤ c.lim) ∧ c.lim ≤ 100) ∧ 0 ≤ c.cac) ∧ c.cac ≤ 256) ∧ 1 ≤ c.fli) ∧ c.fli ≤ 32) ∧ 1 ≤ c.wtr) ∧ c.wtr ≤ 16) ∧ 0 ≤ c.ttl) ∧ c.ttl ≤ 2147483647)) = false from decide_eq_false (fun k => k ⟨hh, ht⟩)] at key
          repeat ((first | refine TL_q (op_move rfl) rfl ?_ | (refine' TL_q (op_pickF rfl ?_ rfl) rfl ?_; (· (with_reducible rfl))) | (refine TL_gpre rfl rfl ?_ ?_; (· (with_reducible rfl))) | (refine' TL_gq2 (op_bin rfl rfl ?_) rfl ?_; rotate_left 1; (· (exact bin_gtr))) | refine TL_gq2 (op_fld rfl fld_25_10) rfl ?_ | (refine' TL_gq2 (op_ld rfl pl_3 ?_ ?_) rfl ?_; rotate_left 4; (· repeat ((exact List.mem_cons_self))); (· (assumption)))))
          exact TL_sub key (by repeat ((first | exact trivial | refine ⟨rfl, ?_⟩ | refine ⟨show some (Value.bool _) = some (Value.bool _) from congrArg (fun b => some (Value.bool b)) (by (exact dF (by (omega)))), ?_⟩)))
        · rw [show decide (¬ ((((((((((((1 ≤ c.res) ∧ c.res ≤ 100000) ∧ 1 ≤ c.lim) ∧ c.lim ≤ 100) ∧ 0 ≤ c.cac) ∧ c.cac ≤ 256) ∧ 1 ≤ c.fli) ∧ c.fli ≤ 32) ∧ 1 ≤ c.wtr) ∧ c.wtr ≤ 16) ∧ 0 ≤ c.ttl) ∧ c.ttl ≤ 2147483647)) = true from decide_eq_true (fun k => ht k.2)] at key
          repeat ((first | refine TL_q (op_move rfl) rfl ?_ | (refine' TL_q (op_pickF rfl ?_ rfl) rfl ?_; (· (with_reducible rfl))) | (refine TL_gpre rfl rfl ?_ ?_; (· (with_reducible rfl))) | (refine' TL_gq2 (op_bin rfl rfl ?_) rfl ?_; rotate_left 1; (· (exact bin_gtr))) | refine TL_gq2 (op_fld rfl fld_25_10) rfl ?_ | (refine' TL_gq2 (op_ld rfl pl_3 ?_ ?_) rfl ?_; rotate_left 4; (· repeat ((exact List.mem_cons_self))); (· (assumption)))))
          exact TL_sub key (by repeat ((first | exact trivial | refine ⟨rfl, ?_⟩ | refine ⟨show some (Value.bool _) = some (Value.bool _) from congrArg (fun b => some (Value.bool b)) (by (exact dT (by (omega)))), ?_⟩)))
      · rw [show decide (¬ (((((((((((1 ≤ c.res) ∧ c.res ≤ 100000) ∧ 1 ≤ c.lim) ∧ c.lim ≤ 100) ∧ 0 ≤ c.cac) ∧ c.cac ≤ 256) ∧ 1 ≤ c.fli) ∧ c.fli ≤ 32) ∧ 1 ≤ c.wtr) ∧ c.wtr ≤ 16) ∧ 0 ≤ c.ttl)) = true from decide_eq_true hh]
        rw [show decide (¬ ((((((((((((1 ≤ c.res) ∧ c.res ≤ 100000) ∧ 1 ≤ c.lim) ∧ c.lim ≤ 100) ∧ 0 ≤ c.cac) ∧ c.cac ≤ 256) ∧ 1 ≤ c.fli) ∧ c.fli ≤ 32) ∧ 1 ≤ c.wtr) ∧ c.wtr ≤ 16) ∧ 0 ≤ c.ttl) ∧ c.ttl ≤ 2147483647)) = true from decide_eq_true (fun k => hh k.1)] at key
        repeat ((first | refine TL_q (op_move rfl) rfl ?_ | (refine' TL_q (op_pickT rfl ?_ rfl) rfl ?_; (· (with_reducible rfl))) | (refine TL_gno rfl rfl ?_ rfl ?_; (· (exact Bool.not_false)))))
        exact TL_sub key (by repeat ((first | exact trivial | refine ⟨rfl, ?_⟩)))
    refine TL_cut5 [(1, .pointer (some ⟨b1, 0, none⟩)), (138, .bool (decide (¬ (((((((((((((1 ≤ c.res) ∧ c.res ≤ 100000) ∧ 1 ≤ c.lim) ∧ c.lim ≤ 100) ∧ 0 ≤ c.cac) ∧ c.cac ≤ 256) ∧ 1 ≤ c.fli) ∧ c.fli ≤ 32) ∧ 1 ≤ c.wtr) ∧ c.wtr ≤ 16) ∧ 0 ≤ c.ttl) ∧ c.ttl ≤ 2147483647) ∧ 512 ≤ c.siz))))] ?_ ?_
    · intro rest' key
      by_cases hh : (((((((((((1 ≤ c.res) ∧ c.res ≤ 100000) ∧ 1 ≤ c.lim) ∧ c.lim ≤ 100) ∧ 0 ≤ c.cac) ∧ c.cac ≤ 256) ∧ 1 ≤ c.fli) ∧ c.fli ≤ 32) ∧ 1 ≤ c.wtr) ∧ c.wtr ≤ 16) ∧ 0 ≤ c.ttl) ∧ c.ttl ≤ 2147483647
      · rw [show decide (¬ ((((((((((((1 ≤ c.res) ∧ c.res ≤ 100000) ∧ 1 ≤ c.lim) ∧ c.lim ≤ 100) ∧ 0 ≤ c.cac) ∧ c.cac ≤ 256) ∧ 1 ≤ c.fli) ∧ c.fli ≤ 32) ∧ 1 ≤ c.wtr) ∧ c.wtr ≤ 16) ∧ 0 ≤ c.ttl) ∧ c.ttl ≤ 2147483647)) = false from decide_eq_false (fun k => k hh)]
        by_cases ht : 512 ≤ c.siz
        · rw [show decide (¬ (((((((((((((1 ≤ c.res) ∧ c.res ≤ 100000) ∧ 1 ≤ c.lim) ∧ c.lim ≤ 100) ∧ 0 ≤ c.cac) ∧ c.cac ≤ 256) ∧ 1 ≤ c.fli) ∧ c.fli ≤ 32) ∧ 1 ≤ c.wtr) ∧ c.wtr ≤ 16) ∧ 0 ≤ c.ttl) ∧ c.ttl ≤ 2147483647) ∧ 512 ≤ c.siz)) = false from decide_eq_false (fun k => k ⟨hh, ht⟩)] at key
          repeat ((first | refine TL_q (op_move rfl) rfl ?_ | (refine' TL_q (op_pickF rfl ?_ rfl) rfl ?_; (· (with_reducible rfl))) | (refine TL_gpre rfl rfl ?_ ?_; (· (with_reducible rfl))) | (refine' TL_gq2 (op_bin rfl rfl ?_) rfl ?_; rotate_left 1; (· (exact bin_lss))) | refine TL_gq2 (op_fld rfl fld_25_11) rfl ?_ | (refine' TL_gq2 (op_ld rfl pl_3 ?_ ?_) rfl ?_; rotate_left 4; (· repeat ((exact List.mem_cons_self))); (· (assumption)))))
          exact TL_sub key (by repeat ((first | exact trivial | refine ⟨rfl, ?_⟩ | refine ⟨show some (Value.bool _) = some (Value.bool _) from congrArg (fun b => some (Value.bool b)) (by (exact dF (by (omega)))), ?_⟩)))
        · rw [show decide (¬ (((((((((((((1 ≤ c.res) ∧ c.res ≤ 100000) ∧ 1 ≤ c.lim) ∧ c.lim ≤ 100) ∧ 0 ≤ c.cac) ∧ c.cac ≤ 256) ∧ 1 ≤ c.fli) ∧ c.fli ≤ 32) ∧ 1 ≤ c.wtr) ∧ c.wtr ≤ 16) ∧ 0 ≤ c.ttl) ∧ c.ttl ≤ 2147483647) ∧ 512 ≤ c.siz)) = true from decide_eq_true (fun k => ht k.2)] at key
          repeat ((first | refine TL_q (op_move rfl) rfl ?_ | (refine' TL_q (op_pickF rfl ?_ rfl) rfl ?_; (· (with_reducible rfl))) | (refine TL_gpre rfl rfl ?_ ?_; (· (with_reducible rfl))) | (refine' TL_gq2 (op_bin rfl rfl ?_) rfl ?_; rotate_left 1; (· (exact bin_lss))) | refine TL_gq2 (op_fld rfl fld_25_11) rfl ?_ | (refine' TL_gq2 (op_ld rfl pl_3 ?_ ?_) rfl ?_; rotate_left 4; (· repeat ((exact List.mem_cons_self))); (· (assumption)))))
          exact TL_sub key (by repeat ((first | exact trivial | refine ⟨rfl, ?_⟩ | refine ⟨show some (Value.bool _) = some (Value.bool _) from congrArg (fun b => some (Value.bool b)) (by (exact dT (by (omega)))), ?_⟩)))
      · rw [show decide (¬ ((((((((((((1 ≤ c.res) ∧ c.res ≤ 100000) ∧ 1 ≤ c.lim) ∧ c.lim ≤ 100) ∧ 0 ≤ c.cac) ∧ c.cac ≤ 256) ∧ 1 ≤ c.fli) ∧ c.fli ≤ 32) ∧ 1 ≤ c.wtr) ∧ c.wtr ≤ 16) ∧ 0 ≤ c.ttl) ∧ c.ttl ≤ 2147483647)) = true from decide_eq_true hh]
        rw [show decide (¬ (((((((((((((1 ≤ c.res) ∧ c.res ≤ 100000) ∧ 1 ≤ c.lim) ∧ c.lim ≤ 100) ∧ 0 ≤ c.cac) ∧ c.cac ≤ 256) ∧ 1 ≤ c.fli) ∧ c.fli ≤ 32) ∧ 1 ≤ c.wtr) ∧ c.wtr ≤ 16) ∧ 0 ≤ c.ttl) ∧ c.ttl ≤ 2147483647) ∧ 512 ≤ c.siz)) = true from decide_eq_true (fun k => hh k.1)] at key
        repeat ((first | refine TL_q (op_move rfl) rfl ?_ | (refine' TL_q (op_pickT rfl ?_ rfl) rfl ?_; (· (with_reducible rfl))) | (refine TL_gno rfl rfl ?_ rfl ?_; (· (exact Bool.not_false)))))
        exact TL_sub key (by repeat ((first | exact trivial | refine ⟨rfl, ?_⟩)))
    refine TL_cut5 [(1, .pointer (some ⟨b1, 0, none⟩)), (143, .bool (decide (¬ ((((((((((((((1 ≤ c.res) ∧ c.res ≤ 100000) ∧ 1 ≤ c.lim) ∧ c.lim ≤ 100) ∧ 0 ≤ c.cac) ∧ c.cac ≤ 256) ∧ 1 ≤ c.fli) ∧ c.fli ≤ 32) ∧ 1 ≤ c.wtr) ∧ c.wtr ≤ 16) ∧ 0 ≤ c.ttl) ∧ c.ttl ≤ 2147483647) ∧ 512 ≤ c.siz) ∧ c.siz ≤ 4096))))] ?_ ?_
    · intro rest' key
      by_cases hh : ((((((((((((1 ≤ c.res) ∧ c.res ≤ 100000) ∧ 1 ≤ c.lim) ∧ c.lim ≤ 100) ∧ 0 ≤ c.cac) ∧ c.cac ≤ 256) ∧ 1 ≤ c.fli) ∧ c.fli ≤ 32) ∧ 1 ≤ c.wtr) ∧ c.wtr ≤ 16) ∧ 0 ≤ c.ttl) ∧ c.ttl ≤ 2147483647) ∧ 512 ≤ c.siz
      · rw [show decide (¬ (((((((((((((1 ≤ c.res) ∧ c.res ≤ 100000) ∧ 1 ≤ c.lim) ∧ c.lim ≤ 100) ∧ 0 ≤ c.cac) ∧ c.cac ≤ 256) ∧ 1 ≤ c.fli) ∧ c.fli ≤ 32) ∧ 1 ≤ c.wtr) ∧ c.wtr ≤ 16) ∧ 0 ≤ c.ttl) ∧ c.ttl ≤ 2147483647) ∧ 512 ≤ c.siz)) = false from decide_eq_false (fun k => k hh)]
        by_cases ht : c.siz ≤ 4096
        · rw [show decide (¬ ((((((((((((((1 ≤ c.res) ∧ c.res ≤ 100000) ∧ 1 ≤ c.lim) ∧ c.lim ≤ 100) ∧ 0 ≤ c.cac) ∧ c.cac ≤ 256) ∧ 1 ≤ c.fli) ∧ c.fli ≤ 32) ∧ 1 ≤ c.wtr) ∧ c.wtr ≤ 16) ∧ 0 ≤ c.ttl) ∧ c.ttl ≤ 2147483647) ∧ 512 ≤ c.siz) ∧ c.siz ≤ 4096)) = false from decide_eq_false (fun k => k ⟨hh, ht⟩)] at key
          repeat ((first | refine TL_q (op_move rfl) rfl ?_ | (refine' TL_q (op_pickF rfl ?_ rfl) rfl ?_; (· (with_reducible rfl))) | (refine TL_gpre rfl rfl ?_ ?_; (· (with_reducible rfl))) | (refine' TL_gq2 (op_bin rfl rfl ?_) rfl ?_; rotate_left 1; (· (exact bin_gtr))) | refine TL_gq2 (op_fld rfl fld_25_11) rfl ?_ | (refine' TL_gq2 (op_ld rfl pl_3 ?_ ?_) rfl ?_; rotate_left 4; (· repeat ((exact List.mem_cons_self))); (· (assumption)))))
          exact TL_sub key (by repeat ((first | exact trivial | refine ⟨rfl, ?_⟩ | refine ⟨show some (Value.bool _) = some (Value.bool _) from congrArg (fun b => some (Value.bool b)) (by (exact dF (by (omega)))), ?_⟩)))
        · rw [show decide (¬ ((((((((((((((1 ≤ c.res) ∧ c.res ≤ 100000) ∧ 1 ≤ c.lim) ∧ c.lim ≤ 100) ∧ 0 ≤ c.cac) ∧ c.cac ≤ 256) ∧ 1 ≤ c.fli) ∧ c.fli ≤ 32) ∧ 1 ≤ c.wtr) ∧ c.wtr ≤ 16) ∧ 0 ≤ c.ttl) ∧ c.ttl ≤ 2147483647) ∧ 512 ≤ c.siz) ∧ c.siz ≤ 4096)) = true from decide_eq_true (fun k => ht k.2)] at key
          repeat ((first | refine TL_q (op_move rfl) rfl ?_ | (refine' TL_q (op_pickF rfl ?_ rfl) rfl ?_; (· (with_reducible rfl))) | (refine TL_gpre rfl rfl ?_ ?_; (· (with_reducible rfl))) | (refine' TL_gq2 (op_bin rfl rfl ?_) rfl ?_; rotate_left 1; (· (exact bin_gtr))) | refine TL_gq2 (op_fld rfl fld_25_11) rfl ?_ | (refine' TL_gq2 (op_ld rfl pl_3 ?_ ?_) rfl ?_; rotate_left 4; (· repeat ((exact List.mem_cons_self))); (· (assumption)))))
          exact TL_sub key (by repeat ((first | exact trivial | refine ⟨rfl, ?_⟩ | refine ⟨show some (Value.bool _) = some (Value.bool _) from congrArg (fun b => some (Value.bool b)) (by (exact dT (by (omega)))), ?_⟩)))
      · rw [show decide (¬ (((((((((((((1 ≤ c.res) ∧ c.res ≤ 100000) ∧ 1 ≤ c.lim) ∧ c.lim ≤ 100) ∧ 0 ≤ c.cac) ∧ c.cac ≤ 256) ∧ 1 ≤ c.fli) ∧ c.fli ≤ 32) ∧ 1 ≤ c.wtr) ∧ c.wtr ≤ 16) ∧ 0 ≤ c.ttl) ∧ c.ttl ≤ 2147483647) ∧ 512 ≤ c.siz)) = true from decide_eq_true hh]
        rw [show decide (¬ ((((((((((((((1 ≤ c.res) ∧ c.res ≤ 100000) ∧ 1 ≤ c.lim) ∧ c.lim ≤ 100) ∧ 0 ≤ c.cac) ∧ c.cac ≤ 256) ∧ 1 ≤ c.fli) ∧ c.fli ≤ 32) ∧ 1 ≤ c.wtr) ∧ c.wtr ≤ 16) ∧ 0 ≤ c.ttl) ∧ c.ttl ≤ 2147483647) ∧ 512 ≤ c.siz) ∧ c.siz ≤ 4096)) = true from decide_eq_true (fun k => hh k.1)] at key
        repeat ((first | refine TL_q (op_move rfl) rfl ?_ | (refine' TL_q (op_pickT rfl ?_ rfl) rfl ?_; (· (with_reducible rfl))) | (refine TL_gno rfl rfl ?_ rfl ?_; (· (exact Bool.not_false)))))
        exact TL_sub key (by repeat ((first | exact trivial | refine ⟨rfl, ?_⟩)))
    by_cases hh : (((((((((((((1 ≤ c.res) ∧ c.res ≤ 100000) ∧ 1 ≤ c.lim) ∧ c.lim ≤ 100) ∧ 0 ≤ c.cac) ∧ c.cac ≤ 256) ∧ 1 ≤ c.fli) ∧ c.fli ≤ 32) ∧ 1 ≤ c.wtr) ∧ c.wtr ≤ 16) ∧ 0 ≤ c.ttl) ∧ c.ttl ≤ 2147483647) ∧ 512 ≤ c.siz) ∧ c.siz ≤ 4096
    · rw [show decide (¬ ((((((((((((((1 ≤ c.res) ∧ c.res ≤ 100000) ∧ 1 ≤ c.lim) ∧ c.lim ≤ 100) ∧ 0 ≤ c.cac) ∧ c.cac ≤ 256) ∧ 1 ≤ c.fli) ∧ c.fli ≤ 32) ∧ 1 ≤ c.wtr) ∧ c.wtr ≤ 16) ∧ 0 ≤ c.ttl) ∧ c.ttl ≤ 2147483647) ∧ 512 ≤ c.siz) ∧ c.siz ≤ 4096)) = false from decide_eq_false (fun k => k hh)]
      by_cases h5 : c.zs.length ≤ 16
      · repeat ((first | with_reducible refine TL_nil ?_ | with_reducible refine TQ_then ?_ | with_reducible refine T_skip ?_ | (refine' TL_q (op_pickF rfl ?_ rfl) rfl ?_; (· (with_reducible rfl))) | (refine TL_gpre rfl rfl ?_ ?_; (· (with_reducible rfl))) | (refine' TL_gq2 (op_bin rfl rfl ?_) rfl ?_; rotate_left 1; (· (exact bin_gtr))) | refine TL_gq2 (op_len_slice rfl Tryd.underlying23) rfl ?_ | refine TL_gq2 (op_fld rfl fld_25_12) rfl ?_ | (refine' TL_gq2 (op_ld rfl pl_3 ?_ ?_) rfl ?_; rotate_left 4; (· repeat ((exact List.mem_cons_self))); (· (assumption))) | (refine T_no rfl ?_ ?_; (· (exact dF (by (omega)))))))
        refine TQ_mid () ⟨hh, h5⟩ ?_ (fun w h => h)
        (repeat ((first | exact trivial | refine ⟨rfl, ?_⟩)))
      · rw [mayE1_zs (mayZs_many (by omega))]
        repeat ((first | with_reducible refine T_seq ?_ | with_reducible refine T_region ?_ | with_reducible refine TL_nil ?_ | with_reducible refine TQ_then ?_ | with_reducible refine T_ret ?_ | with_reducible refine TQ_then_ret ?_ | refine TL_q (op_assign rfl) rfl ?_ | (refine' TL_q (op_pickF rfl ?_ rfl) rfl ?_; (· (with_reducible rfl))) | (refine TL_gpre rfl rfl ?_ ?_; (· (with_reducible rfl))) | (refine' TL_gq2 (op_bin rfl rfl ?_) rfl ?_; rotate_left 1; (· (exact bin_gtr))) | refine TL_gq2 (op_len_slice rfl Tryd.underlying23) rfl ?_ | refine TL_gq2 (op_fld rfl fld_25_12) rfl ?_ | (refine' TL_gq2 (op_ld rfl pl_3 ?_ ?_) rfl ?_; rotate_left 4; (· repeat ((exact List.mem_cons_self))); (· (assumption))) | (refine T_yes rfl ?_ ?_; (· (exact dT (by (omega)))))))
        refine TQ_heap (fun w h => h.tail) ?_
        refine TQ_ret1 2 _ rfl rfl ?_
        exact ⟨rfl, rfl⟩
    · rw [show decide (¬ ((((((((((((((1 ≤ c.res) ∧ c.res ≤ 100000) ∧ 1 ≤ c.lim) ∧ c.lim ≤ 100) ∧ 0 ≤ c.cac) ∧ c.cac ≤ 256) ∧ 1 ≤ c.fli) ∧ c.fli ≤ 32) ∧ 1 ≤ c.wtr) ∧ c.wtr ≤ 16) ∧ 0 ≤ c.ttl) ∧ c.ttl ≤ 2147483647) ∧ 512 ≤ c.siz) ∧ c.siz ≤ 4096)) = true from decide_eq_true hh]
      rw [mayE1_num (fun k => hh (held_may.1 k).2)]
      repeat ((first | with_reducible refine T_seq ?_ | with_reducible refine T_region ?_ | with_reducible refine TL_nil ?_ | with_reducible refine TQ_then ?_ | with_reducible refine T_ret ?_ | with_reducible refine TQ_then_ret ?_ | refine TL_q (op_assign rfl) rfl ?_ | (refine' TL_q (op_pickT rfl ?_ rfl) rfl ?_; (· (with_reducible rfl))) | (refine TL_gno rfl rfl ?_ rfl ?_; (· (exact Bool.not_false))) | (refine T_yes rfl ?_ ?_; (· (with_reducible rfl)))))
      refine TQ_heap (fun w h => h.tail) ?_
      refine TQ_ret1 2 _ rfl rfl ?_
      exact ⟨rfl, rfl⟩
  rintro _ ⟨hB, h16⟩
  have hnum : Cn.mayNum c = true := decide_eq_true (show mayK c from held_may.2 ⟨hA, hB⟩)
  have hups := mayNum_ups hnum
  obtain ⟨n, hn⟩ : ∃ n : Nat, c.ups = (n : Nat) := ⟨c.ups.toNat, by omega⟩
  have hn2 : c.ups.toNat = n := by omega
  rw [hn] at g0
  repeat ((first | with_reducible refine T_seq ?_ | with_reducible refine T_block ?_ | with_reducible refine T_region ?_ | with_reducible refine TL_nil ?_ | with_reducible refine TQ_then ?_ | refine TL_q (op_assign rfl) rfl ?_))
  refine T_loopS (σ := Nat) (fun i => i ≤ c.zs.length ∧ ∀ j < i, Cn.goodAt c.ups c.zs j = true) (fun i => [(1, .pointer (some ⟨b1, 0, none⟩)), (3, .int .i64 (i : Nat))]) (fun _ => (b1, Obj.cells (cfCells c (.slice a c.zs.length cap)).toArray 25 (0, 0)) :: L) (fun i => c.zs.length - i) 0 ⟨by omega, fun j hj => by omega⟩ ?_ (fun _ h => h) ?_
  (repeat ((first | exact trivial | refine ⟨rfl, ?_⟩)))
  rintro i ⟨hi, hall⟩
  by_cases hlt : i < c.zs.length
  · obtain ⟨z, hzi⟩ : ∃ z, c.zs[i]? = some z := ⟨_, List.getElem?_eq_getElem hlt⟩
    obtain ⟨b2, o2, C2, t2, f2, rfl, m2, cs, _, ⟨rfl, hzn, hzp, hzt⟩, hcs⟩ := sliceR.at hz hzi
    have hzs := h.small z (List.mem_of_getElem? hzi)
    have hgood := good_eq (ups := c.ups) hzi
    repeat ((first | with_reducible refine T_seq ?_ | with_reducible refine T_block ?_ | with_reducible refine T_region ?_ | with_reducible refine TL_nil ?_ | with_reducible refine TQ_then ?_ | with_reducible refine T_skip ?_ | refine TL_q (op_move rfl) rfl ?_ | (refine' TL_q (op_bin rfl rfl ?_) rfl ?_; rotate_left 1; (· (exact bin_lss))) | refine TL_q (op_len_slice rfl Tryd.underlying23) rfl ?_ | (refine' TL_q (op_idx ety_23 rfl rfl ?_) rfl ?_; (· omega)) | refine TL_q (op_fld rfl fld_25_12) rfl ?_ | (refine' TL_q (op_ld rfl pl_3 ?_ ?_) rfl ?_; rotate_left 4; (· repeat ((exact List.mem_cons_self))); (· (assumption))) | (refine T_yes rfl ?_ ?_; (· (exact dT (by (omega)))))))
    refine TL_q (op_ldA [.string (bs z.name), .int .u8 (z.pol : Nat), .int .u16 (z.tru : Nat)] rfl st_38 (List.mem_cons_of_mem _ m2) hcs) rfl ?_
    repeat ((first | with_reducible refine T_seq ?_ | with_reducible refine TL_nil ?_ | with_reducible refine TQ_then ?_ | (refine TL_stAll rfl rfl st_38 rfl rfl rfl ?_) | (refine TL_new (op_alloc (C := #[(.string (bs [])), (.int .u8 0), (.int .u16 0)]) zero_38 rfl) rfl ?_; intro bNew)))
    obtain ⟨b4, hb4⟩ : ∃ b, bNew = b := ⟨_, rfl⟩
    rw [hb4]
    clear hb4 bNew
    have k0 : ([.string (bs z.name), .int .u8 (z.pol : Nat), .int .u16 (z.tru : Nat)] : List Value).toArray[0 + 0]? = some (.string (bs z.name)) := rfl
    have k1 : ([.string (bs z.name), .int .u8 (z.pol : Nat), .int .u16 (z.tru : Nat)] : List Value).toArray[0 + 1]? = some (.int .u8 (z.pol : Nat)) := rfl
    have k2 : ([.string (bs z.name), .int .u8 (z.pol : Nat), .int .u16 (z.tru : Nat)] : List Value).toArray[0 + 2]? = some (.int .u16 (z.tru : Nat)) := rfl
    have hKm : ∀ p ∈ [(b4, Obj.cells ([.string (bs z.name), .int .u8 (z.pol : Nat), .int .u16 (z.tru : Nat)] : List Value).toArray 38 (0, 0))], p ∈ (b4, Obj.cells ([.string (bs z.name), .int .u8 (z.pol : Nat), .int .u16 (z.tru : Nat)] : List Value).toArray 38 (0, 0)) :: (b1, Obj.cells (cfCells c (.slice (some ⟨b2, o2, none⟩) c.zs.length cap)).toArray 25 (0, 0)) :: L := by
      intro p hp
      simp only [List.mem_cons, List.not_mem_nil, or_false] at hp
      subst hp
      exact List.mem_cons_self ..
    cases hmay : Nm.may z.name with
    | false =>
      have hno : Cn.okZo c.ups z = false := by unfold Cn.okZo Cn.okName; rw [hmay]; rfl
      rw [mayE1_zs (mayZs_no hlt (by rw [hgood, hno]; rfl))]
      refine T_draw follows_mixed ([(b4, Obj.cells ([.string (bs z.name), .int .u8 (z.pol : Nat), .int .u16 (z.tru : Nat)] : List Value).toArray 38 (0, 0))]) [] ?_
      (refine' TA_take 0 rfl rfl (by kernel_rfl) (quiet_q (op_fld rfl fld_38_0)) ?_ ?_; (· (assumption)))
      (refine' TA_take 1 rfl rfl (by kernel_rfl) (quiet_q (op_ld rfl pl_9 ?_ ?_)) ?_ ?_; rotate_left 4; (· repeat ((exact List.mem_cons_self))); (· (assumption)); (· (assumption)))
      refine' TA_take 2 rfl rfl (by kernel_rfl) (quiet_call hb_41 rfl (fun _ _ => rfMay_S _ ?_)) ?_ ?_; (· (omega)); (· (assumption))
      (refine' TA_take 3 rfl rfl (by kernel_rfl) (quiet_q (op_not rfl)) ?_ ?_; (· (assumption)))
      (refine' TA_take 4 rfl rfl (by kernel_rfl) (quiet_q (op_move rfl)) ?_ ?_; (· (assumption)))
      (refine TA_take 5 rfl rfl (by kernel_rfl) (quiet_no2 rfl rfl ?_) ?_ ?_; (· (exact xT (by (assumption)))); (· (assumption)))
      (refine TA_take 6 rfl rfl (by kernel_rfl) (quiet_no2 rfl rfl ?_) ?_ ?_; (· (exact xT (by (assumption)))); (· (assumption)))
      (refine TA_take 7 rfl rfl (by kernel_rfl) (quiet_no2 rfl rfl ?_) ?_ ?_; (· (exact xT (by (assumption)))); (· (assumption)))
      (refine TA_take 8 rfl rfl (by kernel_rfl) (quiet_no2 rfl rfl ?_) ?_ ?_; (· (exact xT (by (assumption)))); (· (assumption)))
      (refine TA_take 9 rfl rfl (by kernel_rfl) (quiet_no2 rfl rfl ?_) ?_ ?_; (· (exact xT (by (assumption)))); (· (assumption)))
      (refine TA_take 10 rfl rfl (by kernel_rfl) (quiet_no2 rfl rfl ?_) ?_ ?_; (· (exact xT (by (assumption)))); (· (assumption)))
      (refine' TA_take 11 rfl rfl (by kernel_rfl) (quiet_q (op_pickT rfl ?_ rfl)) ?_ ?_; (· (exact xT (by (assumption)))); (· (assumption)))
      (refine' TA_take 12 rfl rfl (by kernel_rfl) (quiet_q (op_move rfl)) ?_ ?_; (· (assumption)))
      (refine TA_take 13 rfl rfl (by kernel_rfl) (quiet_no2 rfl rfl ?_) ?_ ?_; (· (exact Bool.not_false)); (· (assumption)))
      (refine TA_take 14 rfl rfl (by kernel_rfl) (quiet_no2 rfl rfl ?_) ?_ ?_; (· (exact Bool.not_false)); (· (assumption)))
      (refine TA_take 15 rfl rfl (by kernel_rfl) (quiet_no2 rfl rfl ?_) ?_ ?_; (· (exact Bool.not_false)); (· (assumption)))
      (refine TA_take 16 rfl rfl (by kernel_rfl) (quiet_no2 rfl rfl ?_) ?_ ?_; (· (exact Bool.not_false)); (· (assumption)))
      (refine' TA_take 17 rfl rfl (by kernel_rfl) (quiet_q (op_pickT rfl ?_ rfl)) ?_ ?_; (· (with_reducible rfl)); (· (assumption)))
      refine TA_done (by kernel_rfl) ?_
      repeat ((first | with_reducible refine T_seq ?_ | with_reducible refine T_region ?_ | with_reducible refine TL_nil ?_ | with_reducible refine TQ_then ?_ | with_reducible refine T_ret ?_ | with_reducible refine TQ_then_ret ?_ | with_reducible refine TQ_block_ret ?_ | refine TL_q (op_assign rfl) rfl ?_ | (refine T_yes rfl ?_ ?_; (· (with_reducible rfl)))))
      refine TQ_heap (fun w h => h.tail.tail) ?_
      refine TQ_ret1 2 _ rfl rfl ?_
      exact ⟨rfl, rfl⟩
    | true =>
      by_cases hf : Nm.fold z.name = z.name
      rotate_left
      · have hno : Cn.okZo c.ups z = false := by unfold Cn.okZo Cn.okName; rw [beq_false_of_ne hf, Bool.and_false, Bool.false_and]
        rw [mayE1_zs (mayZs_no hlt (by rw [hgood, hno]; rfl))]
        refine T_draw follows_mixed ([(b4, Obj.cells ([.string (bs z.name), .int .u8 (z.pol : Nat), .int .u16 (z.tru : Nat)] : List Value).toArray 38 (0, 0))]) [] ?_
        (refine' TA_take 0 rfl rfl (by kernel_rfl) (quiet_q (op_fld rfl fld_38_0)) ?_ ?_; (· (assumption)))
        (refine' TA_take 1 rfl rfl (by kernel_rfl) (quiet_q (op_ld rfl pl_9 ?_ ?_)) ?_ ?_; rotate_left 4; (· repeat ((exact List.mem_cons_self))); (· (assumption)); (· (assumption)))
        refine' TA_take 2 rfl rfl (by kernel_rfl) (quiet_call hb_41 rfl (fun _ _ => rfMay_S _ ?_)) ?_ ?_; (· (omega)); (· (assumption))
        (refine' TA_take 3 rfl rfl (by kernel_rfl) (quiet_q (op_not rfl)) ?_ ?_; (· (assumption)))
        (refine' TA_take 4 rfl rfl (by kernel_rfl) (quiet_q (op_move rfl)) ?_ ?_; (· (assumption)))
        (refine' TA_take 5 rfl rfl (by kernel_rfl) (quiet_g2 rfl rfl (by (exact xF (by (assumption)))) (op_fld rfl fld_38_0)) ?_ ?_; (· (assumption)))
        (refine' TA_take 6 rfl rfl (by kernel_rfl) (quiet_g2 rfl rfl (by (exact xF (by (assumption)))) (op_ld rfl pl_9 ?_ ?_)) ?_ ?_; rotate_left 4; (· repeat ((exact List.mem_cons_self))); (· (assumption)); (· (assumption)))
        (refine' TA_take 7 rfl rfl (by kernel_rfl) (quiet_callG2 rfl rfl (by (exact xF (by (assumption)))) hb_42 rfl (fun _ _ => refFold_S _ ?_)) ?_ ?_; (· (omega)); (· (assumption)))
        (refine' TA_take 8 rfl rfl (by kernel_rfl) (quiet_g2 rfl rfl (by (exact xF (by (assumption)))) (op_fld rfl fld_38_0)) ?_ ?_; (· (assumption)))
        (refine' TA_take 9 rfl rfl (by kernel_rfl) (quiet_g2 rfl rfl (by (exact xF (by (assumption)))) (op_ld rfl pl_9 ?_ ?_)) ?_ ?_; rotate_left 4; (· repeat ((exact List.mem_cons_self))); (· (assumption)); (· (assumption)))
        (refine' TA_take 10 rfl rfl (by kernel_rfl) (quiet_g2 rfl rfl (by (exact xF (by (assumption)))) (op_bin rfl rfl ?_)) ?_ ?_; rotate_left 1; (· (exact sbin_neq)); (· (assumption)))
        (refine' TA_take 11 rfl rfl (by kernel_rfl) (quiet_q (op_pickF rfl ?_ rfl)) ?_ ?_; (· (exact xF (by (assumption)))); (· (assumption)))
        (refine' TA_take 12 rfl rfl (by kernel_rfl) (quiet_q (op_move rfl)) ?_ ?_; (· (assumption)))
        (refine TA_take 13 rfl rfl (by kernel_rfl) (quiet_no2 rfl rfl ?_) ?_ ?_; (· (exact nT (by (assumption)))); (· (assumption)))
        (refine TA_take 14 rfl rfl (by kernel_rfl) (quiet_no2 rfl rfl ?_) ?_ ?_; (· (exact nT (by (assumption)))); (· (assumption)))
        (refine TA_take 15 rfl rfl (by kernel_rfl) (quiet_no2 rfl rfl ?_) ?_ ?_; (· (exact nT (by (assumption)))); (· (assumption)))
        (refine TA_take 16 rfl rfl (by kernel_rfl) (quiet_no2 rfl rfl ?_) ?_ ?_; (· (exact nT (by (assumption)))); (· (assumption)))
        (refine' TA_take 17 rfl rfl (by kernel_rfl) (quiet_q (op_pickT rfl ?_ rfl)) ?_ ?_; (· (exact nT (by (assumption)))); (· (assumption)))
        refine TA_done (by kernel_rfl) ?_
        repeat ((first | with_reducible refine T_seq ?_ | with_reducible refine T_region ?_ | with_reducible refine TL_nil ?_ | with_reducible refine TQ_then ?_ | with_reducible refine T_ret ?_ | with_reducible refine TQ_then_ret ?_ | with_reducible refine TQ_block_ret ?_ | refine TL_q (op_assign rfl) rfl ?_ | (refine T_yes rfl ?_ ?_; (· (with_reducible rfl)))))
        refine TQ_heap (fun w h => h.tail.tail) ?_
        refine TQ_ret1 2 _ rfl rfl ?_
        exact ⟨rfl, rfl⟩
      have hokn : Cn.okName z = true := by unfold Cn.okName; rw [hmay, beq_iff_eq.2 hf]; rfl
      have hpol : Cn.okPol c.ups z = decide (((z.pol = 1 ∨ z.pol = 2 ∨ z.pol = 4) ∧ z.tru = 0) ∨ (z.pol = 3 ∧ z.tru ≠ 0 ∧ z.tru / 2 ^ n = 0)) := by unfold Cn.okPol; rw [hn2]
      obtain ⟨q, hq⟩ : ∃ q, z.tru / 2 ^ n = q := ⟨_, rfl⟩
      rw [hq] at hpol
      by_cases hpw : rPol z.pol = []
      · have hp := rPol_nil hpw
        have hno : Cn.okZo c.ups z = false := by unfold Cn.okZo; rw [hpol, decide_eq_false (by omega), Bool.and_false]
        rw [mayE1_zs (mayZs_no hlt (by rw [hgood, hno]; rfl))]
        refine T_draw follows_mixed ([(b4, Obj.cells ([.string (bs z.name), .int .u8 (z.pol : Nat), .int .u16 (z.tru : Nat)] : List Value).toArray 38 (0, 0))]) [] ?_
        (refine' TA_take 0 rfl rfl (by kernel_rfl) (quiet_q (op_fld rfl fld_38_0)) ?_ ?_; (· (assumption)))
        (refine' TA_take 1 rfl rfl (by kernel_rfl) (quiet_q (op_ld rfl pl_9 ?_ ?_)) ?_ ?_; rotate_left 4; (· repeat ((exact List.mem_cons_self))); (· (assumption)); (· (assumption)))
        refine' TA_take 2 rfl rfl (by kernel_rfl) (quiet_call hb_41 rfl (fun _ _ => rfMay_S _ ?_)) ?_ ?_; (· (omega)); (· (assumption))
        (refine' TA_take 3 rfl rfl (by kernel_rfl) (quiet_q (op_not rfl)) ?_ ?_; (· (assumption)))
        (refine' TA_take 4 rfl rfl (by kernel_rfl) (quiet_q (op_move rfl)) ?_ ?_; (· (assumption)))
        (refine' TA_take 5 rfl rfl (by kernel_rfl) (quiet_g2 rfl rfl (by (exact xF (by (assumption)))) (op_fld rfl fld_38_0)) ?_ ?_; (· (assumption)))
        (refine' TA_take 6 rfl rfl (by kernel_rfl) (quiet_g2 rfl rfl (by (exact xF (by (assumption)))) (op_ld rfl pl_9 ?_ ?_)) ?_ ?_; rotate_left 4; (· repeat ((exact List.mem_cons_self))); (· (assumption)); (· (assumption)))
        (refine' TA_take 7 rfl rfl (by kernel_rfl) (quiet_callG2 rfl rfl (by (exact xF (by (assumption)))) hb_42 rfl (fun _ _ => refFold_S _ ?_)) ?_ ?_; (· (omega)); (· (assumption)))
        (refine' TA_take 8 rfl rfl (by kernel_rfl) (quiet_g2 rfl rfl (by (exact xF (by (assumption)))) (op_fld rfl fld_38_0)) ?_ ?_; (· (assumption)))
        (refine' TA_take 9 rfl rfl (by kernel_rfl) (quiet_g2 rfl rfl (by (exact xF (by (assumption)))) (op_ld rfl pl_9 ?_ ?_)) ?_ ?_; rotate_left 4; (· repeat ((exact List.mem_cons_self))); (· (assumption)); (· (assumption)))
        (refine' TA_take 10 rfl rfl (by kernel_rfl) (quiet_g2 rfl rfl (by (exact xF (by (assumption)))) (op_bin rfl rfl ?_)) ?_ ?_; rotate_left 1; (· (exact sbin_neq)); (· (assumption)))
        (refine' TA_take 11 rfl rfl (by kernel_rfl) (quiet_q (op_pickF rfl ?_ rfl)) ?_ ?_; (· (exact xF (by (assumption)))); (· (assumption)))
        (refine' TA_take 12 rfl rfl (by kernel_rfl) (quiet_q (op_move rfl)) ?_ ?_; (· (assumption)))
        (refine' TA_take 13 rfl rfl (by kernel_rfl) (quiet_g2 rfl rfl (by (exact nF (by (assumption)))) (op_fld rfl fld_38_1)) ?_ ?_; (· (assumption)))
        (refine' TA_take 14 rfl rfl (by kernel_rfl) (quiet_g2 rfl rfl (by (exact nF (by (assumption)))) (op_ld rfl pl_5 ?_ ?_)) ?_ ?_; rotate_left 4; (· repeat ((exact List.mem_cons_self))); (· (assumption)); (· (assumption)))
        (refine' TA_take 15 rfl rfl (by kernel_rfl) (quiet_callG2 rfl rfl (by (exact nF (by (assumption)))) hb_40 rfl (fun _ _ => rPolicy_S _ ?_)) ?_ ?_; (· (omega)); (· (assumption)))
        (refine' TA_take 16 rfl rfl (by kernel_rfl) (quiet_g2 rfl rfl (by (exact nF (by (assumption)))) (op_bin rfl rfl ?_)) ?_ ?_; rotate_left 1; (· (exact sbin_eql)); (· (assumption)))
        (refine' TA_take 17 rfl rfl (by kernel_rfl) (quiet_q (op_pickF rfl ?_ rfl)) ?_ ?_; (· (exact nF (by (assumption)))); (· (assumption)))
        refine TA_done (by kernel_rfl) ?_
        repeat ((first | with_reducible refine T_seq ?_ | with_reducible refine T_region ?_ | with_reducible refine TL_nil ?_ | with_reducible refine TQ_then ?_ | with_reducible refine T_ret ?_ | with_reducible refine TQ_then_ret ?_ | with_reducible refine TQ_block_ret ?_ | refine TL_q (op_assign rfl) rfl ?_ | (refine T_yes rfl ?_ ?_; (· (exact eT (by (assumption)))))))
        refine TQ_heap (fun w h => h.tail.tail) ?_
        refine TQ_ret1 2 _ rfl rfl ?_
        exact ⟨rfl, rfl⟩
      have hp14 := rPol_some hpw
      refine T_draw follows_mixed ([(b4, Obj.cells ([.string (bs z.name), .int .u8 (z.pol : Nat), .int .u16 (z.tru : Nat)] : List Value).toArray 38 (0, 0))]) [] ?_
      (refine' TA_take 0 rfl rfl (by kernel_rfl) (quiet_q (op_fld rfl fld_38_0)) ?_ ?_; (· (assumption)))
      (refine' TA_take 1 rfl rfl (by kernel_rfl) (quiet_q (op_ld rfl pl_9 ?_ ?_)) ?_ ?_; rotate_left 4; (· repeat ((exact List.mem_cons_self))); (· (assumption)); (· (assumption)))
      refine' TA_take 2 rfl rfl (by kernel_rfl) (quiet_call hb_41 rfl (fun _ _ => rfMay_S _ ?_)) ?_ ?_; (· (omega)); (· (assumption))
      (refine' TA_take 3 rfl rfl (by kernel_rfl) (quiet_q (op_not rfl)) ?_ ?_; (· (assumption)))
      (refine' TA_take 4 rfl rfl (by kernel_rfl) (quiet_q (op_move rfl)) ?_ ?_; (· (assumption)))
      (refine' TA_take 5 rfl rfl (by kernel_rfl) (quiet_g2 rfl rfl (by (exact xF (by (assumption)))) (op_fld rfl fld_38_0)) ?_ ?_; (· (assumption)))
      (refine' TA_take 6 rfl rfl (by kernel_rfl) (quiet_g2 rfl rfl (by (exact xF (by (assumption)))) (op_ld rfl pl_9 ?_ ?_)) ?_ ?_; rotate_left 4; (· repeat ((exact List.mem_cons_self))); (· (assumption)); (· (assumption)))
      (refine' TA_take 7 rfl rfl (by kernel_rfl) (quiet_callG2 rfl rfl (by (exact xF (by (assumption)))) hb_42 rfl (fun _ _ => refFold_S _ ?_)) ?_ ?_; (· (omega)); (· (assumption)))
      (refine' TA_take 8 rfl rfl (by kernel_rfl) (quiet_g2 rfl rfl (by (exact xF (by (assumption)))) (op_fld rfl fld_38_0)) ?_ ?_; (· (assumption)))
      (refine' TA_take 9 rfl rfl (by kernel_rfl) (quiet_g2 rfl rfl (by (exact xF (by (assumption)))) (op_ld rfl pl_9 ?_ ?_)) ?_ ?_; rotate_left 4; (· repeat ((exact List.mem_cons_self))); (· (assumption)); (· (assumption)))
      (refine' TA_take 10 rfl rfl (by kernel_rfl) (quiet_g2 rfl rfl (by (exact xF (by (assumption)))) (op_bin rfl rfl ?_)) ?_ ?_; rotate_left 1; (· (exact sbin_neq)); (· (assumption)))
      (refine' TA_take 11 rfl rfl (by kernel_rfl) (quiet_q (op_pickF rfl ?_ rfl)) ?_ ?_; (· (exact xF (by (assumption)))); (· (assumption)))
      (refine' TA_take 12 rfl rfl (by kernel_rfl) (quiet_q (op_move rfl)) ?_ ?_; (· (assumption)))
      (refine' TA_take 13 rfl rfl (by kernel_rfl) (quiet_g2 rfl rfl (by (exact nF (by (assumption)))) (op_fld rfl fld_38_1)) ?_ ?_; (· (assumption)))
      (refine' TA_take 14 rfl rfl (by kernel_rfl) (quiet_g2 rfl rfl (by (exact nF (by (assumption)))) (op_ld rfl pl_5 ?_ ?_)) ?_ ?_; rotate_left 4; (· repeat ((exact List.mem_cons_self))); (· (assumption)); (· (assumption)))
      (refine' TA_take 15 rfl rfl (by kernel_rfl) (quiet_callG2 rfl rfl (by (exact nF (by (assumption)))) hb_40 rfl (fun _ _ => rPolicy_S _ ?_)) ?_ ?_; (· (omega)); (· (assumption)))
      (refine' TA_take 16 rfl rfl (by kernel_rfl) (quiet_g2 rfl rfl (by (exact nF (by (assumption)))) (op_bin rfl rfl ?_)) ?_ ?_; rotate_left 1; (· (exact sbin_eql)); (· (assumption)))
      (refine' TA_take 17 rfl rfl (by kernel_rfl) (quiet_q (op_pickF rfl ?_ rfl)) ?_ ?_; (· (exact nF (by (assumption)))); (· (assumption)))
      refine TA_done (by kernel_rfl) ?_
      clear hKm
      repeat ((first | with_reducible refine T_seq ?_ | with_reducible refine T_block ?_ | with_reducible refine T_region ?_ | with_reducible refine TL_nil ?_ | with_reducible refine TQ_then ?_ | with_reducible refine T_skip ?_ | refine TL_q (op_assign rfl) rfl ?_ | (refine T_no rfl ?_ ?_; (· (exact eF (by (assumption)))))))
      refine T_loopS (σ := Nat) (fun k => k ≤ i ∧ (c.zs.take k).any (fun y => y.name == z.name) = false) (fun k => [(1, .pointer (some ⟨b1, 0, none⟩)), (3, .int .i64 (i : Nat)), (4, .pointer (some ⟨b4, 0, none⟩)), (5, .int .i64 (k : Nat))]) (fun _ => (b4, Obj.cells ([.string (bs z.name), .int .u8 (z.pol : Nat), .int .u16 (z.tru : Nat)] : List Value).toArray 38 (0, 0)) :: (b1, Obj.cells (cfCells c (.slice (some ⟨b2, o2, none⟩) c.zs.length cap)).toArray 25 (0, 0)) :: L) (fun k => i - k) 0 ⟨by omega, by simp⟩ ?_ (fun _ h => h) ?_
      (repeat ((first | exact trivial | refine ⟨rfl, ?_⟩)))
      rintro k ⟨hk, hany⟩
      by_cases hki : k < i
      · obtain ⟨y, hyk⟩ : ∃ y, c.zs[k]? = some y := ⟨_, List.getElem?_eq_getElem (by omega)⟩
        obtain ⟨b5, o5, C5, t5, f5, e5, m5, cs5, _, ⟨rfl, hyn, hyp, hyt⟩, hcs5⟩ := sliceR.at hz hyk
        cases e5
        have l0 : C5[o2 + k * 3 + 0]? = some (.string (bs y.name)) := hcs5 0 _ rfl
        have hKm : ∀ p ∈ [(b4, Obj.cells ([.string (bs z.name), .int .u8 (z.pol : Nat), .int .u16 (z.tru : Nat)] : List Value).toArray 38 (0, 0)), (b1, Obj.cells (cfCells c (.slice (some ⟨b2, o2, none⟩) c.zs.length cap)).toArray 25 (0, 0)), (b2, Obj.cells C5 t5 f5)], p ∈ (b4, Obj.cells ([.string (bs z.name), .int .u8 (z.pol : Nat), .int .u16 (z.tru : Nat)] : List Value).toArray 38 (0, 0)) :: (b1, Obj.cells (cfCells c (.slice (some ⟨b2, o2, none⟩) c.zs.length cap)).toArray 25 (0, 0)) :: L := by
          intro p hp
          simp only [List.mem_cons, List.not_mem_nil, or_false] at hp
          rcases hp with rfl | rfl | rfl
          · exact List.mem_cons_self ..
          · exact List.mem_cons_of_mem _ (List.mem_cons_self ..)
          · exact List.mem_cons_of_mem _ (List.mem_cons_of_mem _ m5)
        by_cases hyz : y.name = z.name
        · have hbad : Cn.goodAt c.ups c.zs i = false := by
            rw [hgood, Bool.and_eq_false_iff]
            right
            rw [Bool.not_eq_false', List.any_eq_true]
            exact ⟨y, List.mem_take_iff_getElem.2 ⟨k, by omega, (List.getElem?_eq_some_iff.1 hyk).2⟩, beq_iff_eq.2 hyz⟩
          rw [mayE1_zs (mayZs_no hlt hbad)]
          repeat ((first | with_reducible refine T_seq ?_ | with_reducible refine T_block ?_ | with_reducible refine T_region ?_ | with_reducible refine TL_nil ?_ | with_reducible refine TQ_then ?_ | with_reducible refine T_skip ?_ | refine TL_q (op_move rfl) rfl ?_ | (refine' TL_q (op_bin rfl rfl ?_) rfl ?_; rotate_left 1; (· (exact bin_lss))) | (refine T_yes rfl ?_ ?_; (· (exact dT (by (omega)))))))
          refine T_draw follows_mixed ([(b4, Obj.cells ([.string (bs z.name), .int .u8 (z.pol : Nat), .int .u16 (z.tru : Nat)] : List Value).toArray 38 (0, 0)), (b1, Obj.cells (cfCells c (.slice (some ⟨b2, o2, none⟩) c.zs.length cap)).toArray 25 (0, 0)), (b2, Obj.cells C5 t5 f5)]) [] ?_
          (refine' TA_take 0 rfl rfl (by kernel_rfl) (quiet_q (op_fld rfl fld_25_12)) ?_ ?_; (· (assumption)))
          (refine' TA_take 1 rfl rfl (by kernel_rfl) (quiet_q (op_ld rfl pl_23 ?_ ?_)) ?_ ?_; rotate_left 4; (· repeat ((first | exact List.mem_cons_self | apply List.mem_cons_of_mem))); (· (assumption)); (· (assumption)))
          (refine' TA_take 2 rfl rfl (by kernel_rfl) (quiet_q (op_move rfl)) ?_ ?_; (· (assumption)))
          (refine' TA_take 3 rfl rfl (by kernel_rfl) (quiet_q (op_idx ety_23 rfl rfl ?_)) ?_ ?_; (· omega); (· (assumption)))
          (refine' TA_take 4 rfl rfl (by kernel_rfl) (quiet_q (op_fld rfl fld_38_0)) ?_ ?_; (· (assumption)))
          (refine' TA_take 5 rfl rfl (by kernel_rfl) (quiet_q (op_ld rfl pl_9 ?_ ?_)) ?_ ?_; rotate_left 4; (· repeat ((first | exact List.mem_cons_self | apply List.mem_cons_of_mem))); (· (assumption)); (· (assumption)))
          (refine' TA_take 6 rfl rfl (by kernel_rfl) (quiet_q (op_fld rfl fld_38_0)) ?_ ?_; (· (assumption)))
          (refine' TA_take 7 rfl rfl (by kernel_rfl) (quiet_q (op_ld rfl pl_9 ?_ ?_)) ?_ ?_; rotate_left 4; (· repeat ((exact List.mem_cons_self))); (· (assumption)); (· (assumption)))
          (refine' TA_take 8 rfl rfl (by kernel_rfl) (quiet_q (op_bin rfl rfl ?_)) ?_ ?_; rotate_left 1; (· (exact sbin_eql)); (· (assumption)))
          refine TA_done (by kernel_rfl) ?_
          repeat ((first | with_reducible refine T_seq ?_ | with_reducible refine T_region ?_ | with_reducible refine TL_nil ?_ | with_reducible refine TQ_then ?_ | with_reducible refine T_ret ?_ | with_reducible refine TQ_then_ret ?_ | with_reducible refine TQ_block_ret ?_ | refine TL_q (op_assign rfl) rfl ?_ | (refine T_yes rfl ?_ ?_; (· (exact eT (by (assumption)))))))
          refine TQ_heap (fun w h => h.tail.tail) ?_
          refine TQ_ret1 2 _ rfl rfl ?_
          exact ⟨rfl, rfl⟩
        · repeat ((first | with_reducible refine T_seq ?_ | with_reducible refine T_block ?_ | with_reducible refine T_region ?_ | with_reducible refine TL_nil ?_ | with_reducible refine TQ_then ?_ | with_reducible refine T_skip ?_ | refine TL_q (op_move rfl) rfl ?_ | (refine' TL_q (op_bin rfl rfl ?_) rfl ?_; rotate_left 1; (· (exact bin_lss))) | (refine T_yes rfl ?_ ?_; (· (exact dT (by (omega)))))))
          refine T_draw follows_mixed ([(b4, Obj.cells ([.string (bs z.name), .int .u8 (z.pol : Nat), .int .u16 (z.tru : Nat)] : List Value).toArray 38 (0, 0)), (b1, Obj.cells (cfCells c (.slice (some ⟨b2, o2, none⟩) c.zs.length cap)).toArray 25 (0, 0)), (b2, Obj.cells C5 t5 f5)]) [] ?_
          (refine' TA_take 0 rfl rfl (by kernel_rfl) (quiet_q (op_fld rfl fld_25_12)) ?_ ?_; (· (assumption)))
          (refine' TA_take 1 rfl rfl (by kernel_rfl) (quiet_q (op_ld rfl pl_23 ?_ ?_)) ?_ ?_; rotate_left 4; (· repeat ((first | exact List.mem_cons_self | apply List.mem_cons_of_mem))); (· (assumption)); (· (assumption)))
          (refine' TA_take 2 rfl rfl (by kernel_rfl) (quiet_q (op_move rfl)) ?_ ?_; (· (assumption)))
          (refine' TA_take 3 rfl rfl (by kernel_rfl) (quiet_q (op_idx ety_23 rfl rfl ?_)) ?_ ?_; (· omega); (· (assumption)))
          (refine' TA_take 4 rfl rfl (by kernel_rfl) (quiet_q (op_fld rfl fld_38_0)) ?_ ?_; (· (assumption)))
          (refine' TA_take 5 rfl rfl (by kernel_rfl) (quiet_q (op_ld rfl pl_9 ?_ ?_)) ?_ ?_; rotate_left 4; (· repeat ((first | exact List.mem_cons_self | apply List.mem_cons_of_mem))); (· (assumption)); (· (assumption)))
          (refine' TA_take 6 rfl rfl (by kernel_rfl) (quiet_q (op_fld rfl fld_38_0)) ?_ ?_; (· (assumption)))
          (refine' TA_take 7 rfl rfl (by kernel_rfl) (quiet_q (op_ld rfl pl_9 ?_ ?_)) ?_ ?_; rotate_left 4; (· repeat ((exact List.mem_cons_self))); (· (assumption)); (· (assumption)))
          (refine' TA_take 8 rfl rfl (by kernel_rfl) (quiet_q (op_bin rfl rfl ?_)) ?_ ?_; rotate_left 1; (· (exact sbin_eql)); (· (assumption)))
          refine TA_done (by kernel_rfl) ?_
          repeat ((first | with_reducible refine T_region ?_ | with_reducible refine TL_nil ?_ | with_reducible refine TQ_then ?_ | with_reducible refine TQ_block ?_ | with_reducible refine T_skip ?_ | refine TL_q (op_move rfl) rfl ?_ | refine TL_q (op_assign rfl) rfl ?_ | (refine' TL_q (op_bin rfl rfl ?_) rfl ?_; rotate_left 1; (· (exact bin_add ⟨by omega, by omega⟩))) | (refine T_no rfl ?_ ?_; (· (exact eF (by (assumption)))))))
          refine TQ_roundS (k + 1) ⟨by omega, ?_⟩ ?_ (fun _ h => h) (by omega)
          · rw [List.take_add_one, hyk, List.any_append, hany]
            simp [hyz]
          (repeat ((first | exact trivial | refine ⟨rfl, ?_⟩)))
      · have hkie : k = i := by omega
        subst hkie
        rw [hany, Bool.not_false, Bool.and_true] at hgood
        unfold Cn.okZo at hgood
        rw [hokn, Bool.true_and, hpol] at hgood
        by_cases hpt : (z.pol = 3) ↔ (z.tru ≠ 0)
        rotate_left
        · rw [mayE1_zs (mayZs_no hlt (by rw [hgood]; exact decide_eq_false (by omega)))]
          by_cases p3 : z.pol = 3
          · have t0 : z.tru = 0 := by omega
            have hb6 : (!((((z.pol : Nat) : Int) == 3) == decide ((0 : Int) < ((z.tru : Nat) : Int)))) = true := by rw [beq_iff_eq.2 (by omega : ((z.pol : Nat) : Int) = 3), decide_eq_false (by omega)]; rfl
            repeat ((first | with_reducible refine T_seq ?_ | with_reducible refine T_region ?_ | with_reducible refine TL_nil ?_ | with_reducible refine TQ_then ?_ | with_reducible refine T_exit ?_ | with_reducible refine T_ret ?_ | with_reducible refine TQ_then_exit ?_ | with_reducible refine TQ_then_ret ?_ | with_reducible refine TQ_block_exit ?_ | with_reducible refine TQ_block_ret ?_ | refine TL_q (op_move rfl) rfl ?_ | refine TL_q (op_assign rfl) rfl ?_ | (refine' TL_q (op_bin rfl rfl ?_) rfl ?_; rotate_left 1; (· (first | exact bin_eql | exact bin_lss | exact bin_gtr | exact bbin_neq Tryd.underlying4))) | refine TL_q (op_fld rfl fld_25_1) rfl ?_ | refine TL_q (op_fld rfl fld_25_2) rfl ?_ | (refine' TL_q (op_ld rfl pl_3 ?_ ?_) rfl ?_; rotate_left 4; (· repeat ((exact List.mem_cons_self))); (· (assumption))) | (refine T_yes rfl ?_ ?_; (· (assumption))) | (refine T_no rfl ?_ ?_; (· (exact dF (by (omega)))))))
            refine TQ_heap (fun w h => h.tail.tail) ?_
            refine TQ_ret1 2 _ rfl rfl ?_
            exact ⟨rfl, rfl⟩
          · have t0 : 0 < z.tru := by omega
            have hb6 : (!((((z.pol : Nat) : Int) == 3) == decide ((0 : Int) < ((z.tru : Nat) : Int)))) = true := by rw [beq_false_of_ne (by omega : ((z.pol : Nat) : Int) ≠ 3), decide_eq_true (by omega)]; rfl
            repeat ((first | with_reducible refine T_seq ?_ | with_reducible refine T_region ?_ | with_reducible refine TL_nil ?_ | with_reducible refine TQ_then ?_ | with_reducible refine T_exit ?_ | with_reducible refine T_ret ?_ | with_reducible refine TQ_then_exit ?_ | with_reducible refine TQ_then_ret ?_ | with_reducible refine TQ_block_exit ?_ | with_reducible refine TQ_block_ret ?_ | refine TL_q (op_move rfl) rfl ?_ | refine TL_q (op_assign rfl) rfl ?_ | (refine' TL_q (op_bin rfl rfl ?_) rfl ?_; rotate_left 1; (· (first | exact bin_eql | exact bin_lss | exact bin_gtr | exact bbin_neq Tryd.underlying4))) | refine TL_q (op_fld rfl fld_25_1) rfl ?_ | refine TL_q (op_fld rfl fld_25_2) rfl ?_ | (refine' TL_q (op_ld rfl pl_3 ?_ ?_) rfl ?_; rotate_left 4; (· repeat ((exact List.mem_cons_self))); (· (assumption))) | (refine T_yes rfl ?_ ?_; (· (assumption))) | (refine T_no rfl ?_ ?_; (· (exact dF (by (omega)))))))
            refine TQ_heap (fun w h => h.tail.tail) ?_
            refine TQ_ret1 2 _ rfl rfl ?_
            exact ⟨rfl, rfl⟩
        have hb6 : (!((((z.pol : Nat) : Int) == 3) == decide ((0 : Int) < ((z.tru : Nat) : Int)))) = false := by
          by_cases p3 : z.pol = 3
          · rw [beq_iff_eq.2 (by omega : ((z.pol : Nat) : Int) = 3), decide_eq_true (by omega)]; rfl
          · rw [beq_false_of_ne (by omega : ((z.pol : Nat) : Int) ≠ 3), decide_eq_false (by omega)]; rfl
        repeat ((first | with_reducible refine T_seq ?_ | with_reducible refine T_block ?_ | with_reducible refine T_region ?_ | with_reducible refine TL_nil ?_ | with_reducible refine TQ_then ?_ | with_reducible refine T_skip ?_ | with_reducible refine T_exit ?_ | with_reducible refine TQ_then_exit ?_ | with_reducible refine TQ_block_exit ?_ | refine TL_q (op_move rfl) rfl ?_ | refine TL_q (op_assign rfl) rfl ?_ | (refine' TL_q (op_bin rfl rfl ?_) rfl ?_; rotate_left 1; (· (first | exact bin_eql | exact bin_lss | exact bin_gtr | exact bbin_neq Tryd.underlying4))) | refine TL_q (op_fld rfl fld_25_0) rfl ?_ | refine TL_q (op_fld rfl fld_25_1) rfl ?_ | refine TL_q (op_fld rfl fld_25_2) rfl ?_ | (refine' TL_q (op_ld rfl pl_3 ?_ ?_) rfl ?_; rotate_left 4; (· repeat ((first | exact List.mem_cons_self | apply List.mem_cons_of_mem))); (· (assumption))) | (refine T_no rfl ?_ ?_; (· (first | assumption | exact dF (by (omega)))))))
        refine T_loopS (σ := Nat) (fun u => (n ≤ u ∧ u ≤ 16) ∧ ∀ j, n ≤ j → j < u → z.tru / 2 ^ j % 2 ≠ 1) (fun u => [(1, .pointer (some ⟨b1, 0, none⟩)), (3, .int .i64 (k : Nat)), (4, .pointer (some ⟨b4, 0, none⟩)), (7, .int .i64 (u : Nat))]) (fun _ => (b4, Obj.cells ([.string (bs z.name), .int .u8 (z.pol : Nat), .int .u16 (z.tru : Nat)] : List Value).toArray 38 (0, 0)) :: (b1, Obj.cells (cfCells c (.slice (some ⟨b2, o2, none⟩) c.zs.length cap)).toArray 25 (0, 0)) :: L) (fun u => 16 - u) n ⟨⟨by omega, by omega⟩, fun j h1 h2 => by omega⟩ ?_ (fun _ h => h) ?_
        (repeat ((first | exact trivial | refine ⟨rfl, ?_⟩)))
        rintro u ⟨⟨hnu, hu16⟩, hbits⟩
        by_cases hu : u < 16
        · obtain ⟨d, hd⟩ : ∃ d, z.tru / 2 ^ u = d := ⟨_, rfl⟩
          have hdl : d ≤ 65535 := by
            have := Nat.div_le_self z.tru (2 ^ u)
            omega
          by_cases h1 : d % 2 = 1
          · have hq0 : q ≠ 0 := hq ▸ bits_hi_no hnu (by rw [hd]; exact h1)
            have hq1 : z.tru = 0 → q = 0 := fun h => by rw [← hq, h]; simp
            rw [mayE1_zs (mayZs_no hlt (by rw [hgood]; exact decide_eq_false (by omega)))]
            repeat ((first | with_reducible refine T_seq ?_ | with_reducible refine T_block ?_ | with_reducible refine T_region ?_ | with_reducible refine TL_nil ?_ | with_reducible refine TQ_then ?_ | with_reducible refine T_skip ?_ | refine TL_q (op_move rfl) rfl ?_ | (refine' TL_q (op_bin rfl rfl ?_) rfl ?_; rotate_left 1; (· (exact bin_lss))) | (refine' TL_q (op_conv_int rfl Tryd.underlying3 Tryd.underlying44 ?_) rfl ?_; (· exact ⟨by omega, by omega⟩)) | refine TL_q (op_fld rfl fld_25_2) rfl ?_ | (refine' TL_q (op_ld rfl pl_3 ?_ ?_) rfl ?_; rotate_left 4; (· repeat ((exact List.mem_cons_self))); (· (assumption))) | (refine T_yes rfl ?_ ?_; (· (exact dT (by (omega)))))))
            refine TL_q (op_bin rfl rfl (bin_shr16 (by omega))) rfl ?_
            rw [hd]
            repeat ((first | with_reducible refine T_seq ?_ | with_reducible refine T_region ?_ | with_reducible refine TL_nil ?_ | with_reducible refine TQ_then ?_ | with_reducible refine T_ret ?_ | with_reducible refine TQ_then_ret ?_ | with_reducible refine TQ_block_ret ?_ | refine TL_q (op_assign rfl) rfl ?_ | (refine' TL_q (op_bin rfl rfl ?_) rfl ?_; rotate_left 1; (· (first | exact bin_rem (by omega) (by omega) | exact bin_eql))) | (refine T_yes rfl ?_ ?_; (· (exact dT (by (omega)))))))
            refine TQ_heap (fun w h => h.tail.tail) ?_
            refine TQ_ret1 2 _ rfl rfl ?_
            exact ⟨rfl, rfl⟩
          · repeat ((first | with_reducible refine T_seq ?_ | with_reducible refine T_block ?_ | with_reducible refine T_region ?_ | with_reducible refine TL_nil ?_ | with_reducible refine TQ_then ?_ | with_reducible refine T_skip ?_ | refine TL_q (op_move rfl) rfl ?_ | (refine' TL_q (op_bin rfl rfl ?_) rfl ?_; rotate_left 1; (· (exact bin_lss))) | (refine' TL_q (op_conv_int rfl Tryd.underlying3 Tryd.underlying44 ?_) rfl ?_; (· exact ⟨by omega, by omega⟩)) | refine TL_q (op_fld rfl fld_25_2) rfl ?_ | (refine' TL_q (op_ld rfl pl_3 ?_ ?_) rfl ?_; rotate_left 4; (· repeat ((exact List.mem_cons_self))); (· (assumption))) | (refine T_yes rfl ?_ ?_; (· (exact dT (by (omega)))))))
            refine TL_q (op_bin rfl rfl (bin_shr16 (by omega))) rfl ?_
            rw [hd]
            repeat ((first | with_reducible refine T_region ?_ | with_reducible refine TL_nil ?_ | with_reducible refine TQ_then ?_ | with_reducible refine TQ_block ?_ | with_reducible refine T_skip ?_ | refine TL_q (op_move rfl) rfl ?_ | refine TL_q (op_assign rfl) rfl ?_ | (refine' TL_q (op_bin rfl rfl ?_) rfl ?_; rotate_left 1; (· (first | exact bin_add ⟨by omega, by omega⟩ | exact bin_rem (by omega) (by omega) | exact bin_eql))) | (refine T_no rfl ?_ ?_; (· (exact dF (by (omega)))))))
            refine TQ_roundS (u + 1) ⟨⟨by omega, by omega⟩, ?_⟩ ?_ (fun _ h => h) (by omega)
            · intro j h2 h3
              rcases Nat.lt_or_ge j u with h4 | h4
              · exact hbits j h2 h4
              · rw [show j = u by omega, hd]
                exact h1
            (repeat ((first | exact trivial | refine ⟨rfl, ?_⟩)))
        · obtain rfl : u = 16 := by omega
          have hq3 : z.pol = 3 → q = 0 := fun _ => by
            rw [← hq]
            exact bits_hi (by omega) fun u h2 h3 => hbits u h2 h3
          have hok : Cn.goodAt c.ups c.zs k = true := by rw [hgood]; exact decide_eq_true (by omega)
          repeat ((first | with_reducible refine T_seq ?_ | with_reducible refine T_region ?_ | with_reducible refine TL_nil ?_ | with_reducible refine TQ_then ?_ | with_reducible refine TQ_block ?_ | with_reducible refine T_exit ?_ | with_reducible refine TQ_then_exit ?_ | with_reducible refine TQ_block_exit ?_ | refine TL_q (op_move rfl) rfl ?_ | refine TL_q (op_assign rfl) rfl ?_ | (refine' TL_q (op_bin rfl rfl ?_) rfl ?_; rotate_left 1; (· (first | exact bin_add ⟨by omega, by omega⟩ | exact bin_lss))) | (refine T_no rfl ?_ ?_; (· (exact Bool.not_true)))))
          refine TQ_roundS (k + 1) ⟨by omega, ?_⟩ ?_ (fun _ h => h.tail) (by omega)
          · intro j hj
            rcases Nat.lt_or_ge j k with h4 | h4
            · exact hall j h4
            · rw [show j = k by omega]
              exact hok
          (repeat ((first | exact trivial | refine ⟨rfl, ?_⟩)))
  · have hil : i = c.zs.length := by omega
    subst hil
    rw [mayE1_yes (by unfold Cn.mayP; rw [hnum, mayZs_yes (by omega) hall]; rfl)]
    repeat ((first | with_reducible refine T_seq ?_ | with_reducible refine T_region ?_ | with_reducible refine TL_nil ?_ | with_reducible refine TQ_then ?_ | with_reducible refine T_exit ?_ | with_reducible refine T_ret ?_ | with_reducible refine TQ_then_exit ?_ | with_reducible refine TQ_block_exit ?_ | refine TL_q (op_move rfl) rfl ?_ | refine TL_q (op_assign rfl) rfl ?_ | (refine' TL_q (op_bin rfl rfl ?_) rfl ?_; rotate_left 1; (· (exact bin_lss))) | refine TL_q (op_len_slice rfl Tryd.underlying23) rfl ?_ | refine TL_q (op_fld rfl fld_25_12) rfl ?_ | (refine' TL_q (op_ld rfl pl_3 ?_ ?_) rfl ?_; rotate_left 4; (· repeat ((exact List.mem_cons_self))); (· (assumption))) | (refine T_no rfl ?_ ?_; (· (exact dF (by (omega)))))))
    refine TQ_heap (fun w h => h.tail) ?_
    refine TQ_ret1 2 _ rfl rfl ?_
    exact ⟨rfl, rfl⟩
end Go.Proofs.YtnhlpifbadncmaaDoor
namespace Go.Proofs.YtnhlpifbadncmaaDoor
open Go.RowKit
open Cn (Zo Cf)
set_option linter.unusedVariables false
set_option linter.unusedSimpArgs false
--auto
variable {G : World} {L : Blocks}
set_option maxRecDepth 100000 in
set_option maxHeartbeats 4000000 in
theorem rLies_S (c : Cf) (v : Value) (h : CfL L c v) : Spec Tryd.prog G 20 #[.agg (cfCells c v).toArray] L fun u M => u = .int .i64 (Cn.liesP c) ∧ M = L := by
  refine Spec_of (n := 10) Tryd.func20 rfl rfl rfl ?_
  refine T_seq (T_region (TL_new (op_boxA rfl) rfl ?_))
  intro b1
  have g0 : (cfCells (c) (v)).toArray[0 + 0]? = some (.int .i64 (c).ups) := rfl
  have g1 : (cfCells (c) (v)).toArray[0 + 1]? = some (.int .i64 (c).ded) := rfl
  have g2 : (cfCells (c) (v)).toArray[0 + 2]? = some (.int .i64 (c).hdg) := rfl
  have g3 : (cfCells (c) (v)).toArray[0 + 3]? = some (.int .i64 (c).wai) := rfl
  have g4 : (cfCells (c) (v)).toArray[0 + 4]? = some (.int .i64 (c).tri) := rfl
  have g5 : (cfCells (c) (v)).toArray[0 + 5]? = some (.int .i64 (c).res) := rfl
  have g6 : (cfCells (c) (v)).toArray[0 + 6]? = some (.int .i64 (c).lim) := rfl
  have g7 : (cfCells (c) (v)).toArray[0 + 7]? = some (.int .i64 (c).cac) := rfl
  have g8 : (cfCells (c) (v)).toArray[0 + 8]? = some (.int .i64 (c).fli) := rfl
  have g9 : (cfCells (c) (v)).toArray[0 + 9]? = some (.int .i64 (c).wtr) := rfl
  have g10 : (cfCells (c) (v)).toArray[0 + 10]? = some (.int .i64 (c).ttl) := rfl
  have g11 : (cfCells (c) (v)).toArray[0 + 11]? = some (.int .i64 (c).siz) := rfl
  have g12 : (cfCells (c) (v)).toArray[0 + 12]? = some (v) := rfl
  repeat ((first | with_reducible refine T_seq ?_ | with_reducible refine T_region ?_ | with_reducible refine TL_nil ?_ | with_reducible refine TQ_then ?_ | refine TL_q (op_assign rfl) rfl ?_ | (refine' TL_q (op_ldAll rfl st_25 ?_ ?_) rfl ?_; rotate_left 3; (· repeat ((exact List.mem_cons_self))); (· (rfl)))))
  refine TL_op (op_call hb_19 rfl (rMay_S c v (h.mono (mem_of_cnt (by intro p; (try simp only [cnt_append, cnt_cons, cnt_nil]) <;> omega))))) rfl ?_
  cases hm : Cn.mayP c with
  | true =>
    have he : mayE1 c = 0 := mayE1_yes hm
    have hu := mayNum_ups (Bool.and_eq_true_iff.1 hm).1
    have hodd : c.ups % 2 = 1 := by
      have := of_decide_eq_true (Bool.and_eq_true_iff.1 hm).1
      omega
    have hl : Cn.liesP c = (c.ups - 1) / 2 := by
      unfold Cn.liesP
      rw [if_pos hm]
      omega
    rw [he, hl]
    repeat ((first | with_reducible refine T_seq ?_ | with_reducible refine T_region ?_ | with_reducible refine TL_nil ?_ | with_reducible refine TQ_then ?_ | with_reducible refine T_skip ?_ | with_reducible refine T_ret ?_ | refine TL_q (op_assign rfl) rfl ?_ | (refine' TL_q (op_bin rfl rfl ?_) rfl ?_; rotate_left 1; (· (first | exact bin_sub ⟨by omega, by omega⟩ | exact bin_quo (by omega) (by omega) ⟨by omega, by omega⟩ | exact bin_neq))) | refine TL_q (op_fld rfl fld_25_0) rfl ?_ | (refine' TL_q (op_ld rfl pl_3 ?_ ?_) rfl ?_; rotate_left 4; (· repeat ((exact List.mem_cons_self))); (· (assumption))) | (refine T_no rfl ?_ ?_; (· (exact Bool.not_true)))))
    refine TQ_heap (fun w h => h.tail) ?_
    refine TQ_ret1 2 _ rfl rfl ?_
    exact ⟨rfl, rfl⟩
  | false =>
    have he : mayE1 c = 1 := mayE1_no hm
    have hl : Cn.liesP c = 0 := by unfold Cn.liesP; rw [hm]; rfl
    rw [he, hl]
    repeat ((first | with_reducible refine T_seq ?_ | with_reducible refine T_region ?_ | with_reducible refine TL_nil ?_ | with_reducible refine TQ_then ?_ | with_reducible refine T_ret ?_ | with_reducible refine TQ_then_ret ?_ | refine TL_q (op_assign rfl) rfl ?_ | (refine' TL_q (op_bin rfl rfl ?_) rfl ?_; rotate_left 1; (· (exact bin_neq))) | (refine T_yes rfl ?_ ?_; (· (exact Bool.not_false)))))
    refine TQ_heap (fun w h => h.tail) ?_
    refine TQ_ret1 2 _ rfl rfl ?_
    exact ⟨rfl, rfl⟩
end Go.Proofs.YtnhlpifbadncmaaDoor
namespace Go.Proofs.YtnhlpifbadncmaaDoor
open Go.RowKit
open Cn (Zo Cf)
set_option linter.unusedVariables false
set_option linter.unusedSimpArgs false
--auto
variable {G : World} {L : Blocks}
theorem rPol_polW {p : Nat} (h : 1 ≤ p ∧ p ≤ 4) : rPol p = Cn.polW p := by
  rcases (by omega : p = 1 ∨ p = 2 ∨ p = 3 ∨ p = 4) with rfl | rfl | rfl | rfl <;> rfl
theorem len_app (a b : List UInt8) : (a ++ b).length = a.length + b.length := List.length_append
set_option maxRecDepth 100000 in
set_option maxHeartbeats 8000000 in
theorem rShow_S (c : Cf) (v : Value) (h : CfL L c v) : Spec Tryd.prog G 18 #[.agg (cfCells c v).toArray] L fun u M => u = showV c ∧ M = L := by
  have hz := h.row
  obtain ⟨a, cap, e, hz⟩ := hz.val
  obtain rfl := (List.cons.inj e).1
  clear e
  have hmax := (sliceR.cut hz).2.2.1
  have hcap := (sliceR.cut hz).2.1
  unfold maxLen at hmax
  refine Spec_of (n := 77) Tryd.func18 rfl rfl rfl ?_
  refine T_seq (T_region (TL_new (op_boxA rfl) rfl ?_))
  intro b1
  have g0 : (cfCells (c) (.slice a c.zs.length cap)).toArray[0 + 0]? = some (.int .i64 (c).ups) := rfl
  have g1 : (cfCells (c) (.slice a c.zs.length cap)).toArray[0 + 1]? = some (.int .i64 (c).ded) := rfl
  have g2 : (cfCells (c) (.slice a c.zs.length cap)).toArray[0 + 2]? = some (.int .i64 (c).hdg) := rfl
  have g3 : (cfCells (c) (.slice a c.zs.length cap)).toArray[0 + 3]? = some (.int .i64 (c).wai) := rfl
  have g4 : (cfCells (c) (.slice a c.zs.length cap)).toArray[0 + 4]? = some (.int .i64 (c).tri) := rfl
  have g5 : (cfCells (c) (.slice a c.zs.length cap)).toArray[0 + 5]? = some (.int .i64 (c).res) := rfl
  have g6 : (cfCells (c) (.slice a c.zs.length cap)).toArray[0 + 6]? = some (.int .i64 (c).lim) := rfl
  have g7 : (cfCells (c) (.slice a c.zs.length cap)).toArray[0 + 7]? = some (.int .i64 (c).cac) := rfl
  have g8 : (cfCells (c) (.slice a c.zs.length cap)).toArray[0 + 8]? = some (.int .i64 (c).fli) := rfl
  have g9 : (cfCells (c) (.slice a c.zs.length cap)).toArray[0 + 9]? = some (.int .i64 (c).wtr) := rfl
  have g10 : (cfCells (c) (.slice a c.zs.length cap)).toArray[0 + 10]? = some (.int .i64 (c).ttl) := rfl
  have g11 : (cfCells (c) (.slice a c.zs.length cap)).toArray[0 + 11]? = some (.int .i64 (c).siz) := rfl
  have g12 : (cfCells (c) (.slice a c.zs.length cap)).toArray[0 + 12]? = some (.slice a c.zs.length cap) := rfl
  repeat ((first | with_reducible refine T_seq ?_ | with_reducible refine T_region ?_ | with_reducible refine TL_nil ?_ | with_reducible refine TQ_then ?_ | refine TL_q (op_assign rfl) rfl ?_ | (refine' TL_q (op_ldAll rfl st_25 ?_ ?_) rfl ?_; rotate_left 3; (· repeat ((exact List.mem_cons_self))); (· (rfl)))))
  refine TL_op (op_call hb_19 rfl (rMay_S c _ (h.mono (mem_of_cnt (by intro p; (try simp only [cnt_append, cnt_cons, cnt_nil]) <;> omega))))) rfl ?_
  cases hm : Cn.mayP c with
  | false =>
    have hs : showV c = .tuple #[.string (bs []), .int .i64 1] := by unfold showV Cn.showP; rw [hm]; rfl
    rw [mayE1_no hm, hs]
    repeat ((first | with_reducible refine T_seq ?_ | with_reducible refine T_region ?_ | with_reducible refine TL_nil ?_ | with_reducible refine TQ_then ?_ | with_reducible refine T_ret ?_ | with_reducible refine TQ_then_ret ?_ | refine TL_q (op_assign rfl) rfl ?_ | (refine' TL_q (op_bin rfl rfl ?_) rfl ?_; rotate_left 1; (· (exact bin_neq))) | (refine T_yes rfl ?_ ?_; (· (exact Bool.not_false)))))
    refine TQ_heap (fun w h => h.tail) ?_
    refine TQ_ret2 2 3 _ _ rfl rfl rfl ?_
    exact ⟨rfl, rfl⟩
  | true =>
    have hs : showV c = .tuple #[.string (bs (pre (Cn.lineL theT c) (Cn.lineL theT c).length)), .int .i64 0] := by
      unfold showV Cn.showP
      rw [hm, pre_all]
      rfl
    rw [mayE1_yes hm, hs]
    have hrange := Cn.mayNum_range (Bool.and_eq_true_iff.1 hm).1
    have hzones := Cn.mayP_zones hm
    repeat ((first | with_reducible refine T_seq ?_ | with_reducible refine T_region ?_ | with_reducible refine TL_nil ?_ | with_reducible refine TQ_then ?_ | with_reducible refine T_skip ?_ | refine TL_q (op_assign rfl) rfl ?_ | (refine' TL_q (op_bin rfl rfl ?_) rfl ?_; rotate_left 1; (· (exact bin_neq))) | (refine' TL_q (op_ldAll rfl st_25 ?_ ?_) rfl ?_; rotate_left 3; (· repeat ((exact List.mem_cons_self))); (· (rfl))) | (refine T_no rfl ?_ ?_; (· (exact Bool.not_true)))))
    refine TL_opT (op_call hb_36 rfl (numbers_S c _)) rfl ?_
    rintro _ _ ⟨bn, rfl, rfl⟩
    repeat ((first | with_reducible refine T_seq ?_ | with_reducible refine T_block ?_ | with_reducible refine T_region ?_ | with_reducible refine TL_nil ?_ | with_reducible refine TQ_then ?_ | refine TL_q (op_assign rfl) rfl ?_))
    refine T_loopS (σ := Nat) (fun k => k ≤ 12) (fun k => [(1, .pointer (some ⟨b1, 0, none⟩)), (4, .string (bs (pre (Cn.lineL theT c) k))), (5, .slice (some ⟨bn, 0, none⟩) 12 12), (6, .int .i64 (k : Nat))]) (fun _ => (bn, Obj.cells (c.nums.map (Value.int .i64)).toArray 3 (0, 0)) :: (b1, Obj.cells (cfCells c (.slice a c.zs.length cap)).toArray 25 (0, 0)) :: L) (fun k => 12 - k) 0 (by omega) ?_ (fun _ h => h) ?_
    (repeat ((first | exact trivial | refine ⟨rfl, ?_⟩)))
    rintro k hk
    by_cases hlt : k < 12
    · obtain ⟨w, hw⟩ : ∃ w, Cn.words12[k]? = some w := ⟨_, List.getElem?_eq_getElem hlt⟩
      obtain ⟨x, hx⟩ : ∃ x, c.nums[k]? = some x := ⟨_, List.getElem?_eq_getElem hlt⟩
      have hline := lineL_num c hw hx
      have hpl := pre_len hm k
      have hx0 := hrange x (List.mem_of_getElem? hx)
      have hwl : w.length ≤ 8 := (by decide : ∀ w ∈ Cn.words12, w.length ≤ 8) w (List.mem_of_getElem? hw)
      obtain ⟨n, rfl⟩ : ∃ n : Nat, x = (n : Nat) := ⟨x.toNat, by omega⟩
      have hdl := Cn.decD_len n (by omega)
      have hword : (Cn.words12.map txtV).toArray[0 + k * 1]? = some (.string (bs w)) := by
        rw [List.getElem?_toArray, Nat.zero_add, Nat.mul_one, List.getElem?_map, hw]; rfl
      have hnum : (c.nums.map (Value.int .i64)).toArray[0 + k * 1]? = some (.int .i64 (n : Nat)) := by
        rw [List.getElem?_toArray, Nat.zero_add, Nat.mul_one, List.getElem?_map, hx]; rfl
      have hp : pre (Cn.lineL theT c) (k + 1) = (((pre (Cn.lineL theT c) k ++ w) ++ [32]) ++ Lib.decDigits n) ++ [10] := by
        rw [pre_succ hline]
        simp [Cn.numLine]
      obtain ⟨s, hs⟩ : ∃ s, pre (Cn.lineL theT c) k = s := ⟨_, rfl⟩
      rw [hs] at hp hpl ⊢
      have l1 := len_app s w
      have l2 := len_app (s ++ w) [32]
      have l3 := len_app ((s ++ w) ++ [32]) (Lib.decDigits n)
      have l4 := len_app (((s ++ w) ++ [32]) ++ Lib.decDigits n) [10]
      simp only [List.length_singleton] at l2 l4
      have hKm : ∀ p ∈ [(bn, Obj.cells (c.nums.map (Value.int .i64)).toArray 3 (0, 0))], p ∈ (bn, Obj.cells (c.nums.map (Value.int .i64)).toArray 3 (0, 0)) :: (b1, Obj.cells (cfCells c (.slice a c.zs.length cap)).toArray 25 (0, 0)) :: L := by
        intro p hp
        simp only [List.mem_cons, List.not_mem_nil, or_false] at hp
        subst hp
        exact List.mem_cons_self ..
      repeat ((first | with_reducible refine T_seq ?_ | with_reducible refine T_block ?_ | with_reducible refine T_region ?_ | with_reducible refine TL_nil ?_ | with_reducible refine TQ_then ?_ | with_reducible refine T_skip ?_ | refine TL_q (op_move rfl) rfl ?_ | (refine' TL_q (op_bin rfl rfl ?_) rfl ?_; rotate_left 1; (· (exact bin_lss))) | refine TL_q (op_len_slice rfl Tryd.underlying68) rfl ?_ | (refine T_yes rfl ?_ ?_; (· (exact dT (by (omega)))))))
      refine T_draw follows_mixed ([(bn, Obj.cells (c.nums.map (Value.int .i64)).toArray 3 (0, 0))]) [] ?_
      (refine' TA_take 0 rfl rfl (by kernel_rfl) (quiet_q (op_move rfl)) ?_ ?_; (· (assumption)))
      (refine' TA_take 2 rfl rfl (by kernel_rfl) (quiet_q (op_move rfl)) ?_ ?_; (· (assumption)))
      (refine' TA_take 7 rfl rfl (by kernel_rfl) (quiet_q (op_move rfl)) ?_ ?_; (· (assumption)))
      (refine' TA_take 8 rfl rfl (by kernel_rfl) (quiet_q (op_move rfl)) ?_ ?_; (· (assumption)))
      (refine' TA_take 9 rfl rfl (by kernel_rfl) (quiet_q (op_idx ety_68 rfl rfl ?_)) ?_ ?_; (· omega); (· (assumption)))
      (refine' TA_take 10 rfl rfl (by kernel_rfl) (quiet_q (op_ld rfl pl_3 ?_ ?_)) ?_ ?_; rotate_left 4; (· repeat ((exact List.mem_cons_self))); (· (assumption)); (· (assumption)))
      refine TA_oneD 1 (by kernel_rfl) rfl rfl rfl rfl (op_call hb_37 rfl rWord12_S) ?_
      rintro _ _ ⟨bW, rfl, rfl⟩
      refine ⟨Or.inr (by (exact (fun z hz => mem_of_cnt (by intro p; (try simp only [cnt_append, cnt_cons, cnt_nil]) <;> omega) z (hKm z hz)))), ?_⟩
      (refine' TA_take 3 rfl rfl (by kernel_rfl) (quiet_q (op_idx ety_70 rfl rfl ?_)) ?_ ?_; (· omega); (· (intro p hp; grind)))
      refine' TA_take 11 rfl rfl (by kernel_rfl) (quiet_call hb_38 rfl (fun _ _ => rDigits_S _ ?_)) ?_ ?_; (· (omega)); (· (intro p hp; grind))
      refine TA_oneD 4 (by kernel_rfl) rfl rfl rfl rfl ((op_ld (L := (bW, Obj.cells (Cn.words12.map txtV).toArray 9 (0, 0)) :: (bn, Obj.cells (c.nums.map (Value.int .i64)).toArray 3 (0, 0)) :: (b1, Obj.cells (cfCells c (.slice a c.zs.length cap)).toArray 25 (0, 0)) :: L) rfl pl_9 (List.mem_cons_self ..) hword).v) ?_
      rintro _ _ ⟨rfl, rfl⟩
      refine ⟨Or.inr (by (exact (fun z hz => mem_of_cnt (by intro p; (try simp only [cnt_append, cnt_cons, cnt_nil]) <;> omega) z (hKm z hz)))), ?_⟩
      (refine' TA_take 5 rfl rfl (by kernel_rfl) (quiet_q (op_bin rfl rfl ?_)) ?_ ?_; rotate_left 1; (· (exact sbin_add (by (omega)))); (· (intro p hp; grind)))
      (refine' TA_take 6 rfl rfl (by kernel_rfl) (quiet_q (op_bin rfl rfl ?_)) ?_ ?_; rotate_left 1; (· (exact sbin_add (by (simp only [List.length_cons, List.length_nil]; omega)))); (· (intro p hp; grind)))
      (refine' TA_take 12 rfl rfl (by kernel_rfl) (quiet_q (op_bin rfl rfl ?_)) ?_ ?_; rotate_left 1; (· (exact sbin_add (by (omega)))); (· (intro p hp; grind)))
      (refine' TA_take 13 rfl rfl (by kernel_rfl) (quiet_q (op_bin rfl rfl ?_)) ?_ ?_; rotate_left 1; (· (exact sbin_add (by (simp only [List.length_cons, List.length_nil]; omega)))); (· (intro p hp; grind)))
      (refine' TA_take 14 rfl rfl (by kernel_rfl) (quiet_q (op_assign rfl)) ?_ ?_; (· (intro p hp; grind)))
      refine TA_done (by kernel_rfl) ?_
      repeat ((first | with_reducible refine T_region ?_ | with_reducible refine TL_nil ?_ | with_reducible refine TQ_then ?_ | with_reducible refine TQ_block ?_ | refine TL_q (op_move rfl) rfl ?_ | refine TL_q (op_assign rfl) rfl ?_ | (refine' TL_q (op_bin rfl rfl ?_) rfl ?_; rotate_left 1; (· (exact bin_add ⟨by omega, by omega⟩)))))
      refine TQ_roundS (k + 1) (by omega) ?_ (fun _ h => h.tail) (by omega)
      rw [hp]
      (repeat ((first | exact trivial | refine ⟨rfl, ?_⟩)))
    · obtain rfl : k = 12 := by omega
      repeat ((first | with_reducible refine T_seq ?_ | with_reducible refine T_block ?_ | with_reducible refine T_region ?_ | with_reducible refine TL_nil ?_ | with_reducible refine TQ_then ?_ | with_reducible refine T_exit ?_ | with_reducible refine TQ_then_exit ?_ | with_reducible refine TQ_block_exit ?_ | refine TL_q (op_move rfl) rfl ?_ | refine TL_q (op_assign rfl) rfl ?_ | (refine' TL_q (op_bin rfl rfl ?_) rfl ?_; rotate_left 1; (· (exact bin_lss))) | refine TL_q (op_len_slice rfl Tryd.underlying68) rfl ?_ | (refine T_no rfl ?_ ?_; (· (exact Bool.not_true)))))
      refine T_loopS (σ := Nat) (fun i => i ≤ c.zs.length) (fun i => [(1, .pointer (some ⟨b1, 0, none⟩)), (4, .string (bs (pre (Cn.lineL theT c) (12 + i)))), (7, .int .i64 (i : Nat))]) (fun _ => (b1, Obj.cells (cfCells c (.slice a c.zs.length cap)).toArray 25 (0, 0)) :: L) (fun i => c.zs.length - i) 0 (by omega) ?_ (fun _ h => h.tail) ?_
      (repeat ((first | exact trivial | refine ⟨rfl, ?_⟩)))
      rintro i hi
      by_cases hin : i < c.zs.length
      · obtain ⟨z, hzi⟩ : ∃ z, c.zs[i]? = some z := ⟨_, List.getElem?_eq_getElem hin⟩
        obtain ⟨b2, o2, C2, t2, f2, rfl, m2, cs, _, ⟨rfl, hzn, hzp, hzt⟩, hcs⟩ := sliceR.at hz hzi
        have hzmay := hzones.2 z (List.mem_of_getElem? hzi)
        have hzs := h.small z (List.mem_of_getElem? hzi)
        have hline := lineL_zone c hzi
        have hpl := pre_len hm (12 + i)
        have htl := theT_ok.len z.name hzmay.1
        have htl2 : (textN z.name).length ≤ 2000 := htl
        have hpw := Cn.polW_len z.pol
        have hpe := rPol_polW hzmay.2.1.1
        have hp : pre (Cn.lineL theT c) (12 + (i + 1)) = (((((pre (Cn.lineL theT c) (12 + i) ++ [122, 111, 110, 101, 32]) ++ textN z.name) ++ [32]) ++ rPol z.pol) ++ tb z.tru 16) ++ [10] := by
          rw [← Nat.add_assoc, pre_succ hline, hpe, tb_all]
          have e : Cn.zoneLine theT z = [122, 111, 110, 101, 32] ++ (textN z.name ++ ([32] ++ (Cn.polW z.pol ++ Cn.trustB z.tru))) := rfl
          rw [e]
          simp [List.append_assoc]
        rw [← hpe] at hpw
        obtain ⟨s, hs⟩ : ∃ s, pre (Cn.lineL theT c) (12 + i) = s := ⟨_, rfl⟩
        rw [hs] at hp hpl ⊢
        have l1 := len_app s [122, 111, 110, 101, 32]
        have l2 := len_app (s ++ [122, 111, 110, 101, 32]) (textN z.name)
        have l3 := len_app ((s ++ [122, 111, 110, 101, 32]) ++ textN z.name) [32]
        have l4 := len_app (((s ++ [122, 111, 110, 101, 32]) ++ textN z.name) ++ [32]) (rPol z.pol)
        simp only [List.length_cons, List.length_nil] at l1 l3
        repeat ((first | with_reducible refine T_seq ?_ | with_reducible refine T_block ?_ | with_reducible refine T_region ?_ | with_reducible refine TL_nil ?_ | with_reducible refine TQ_then ?_ | with_reducible refine T_skip ?_ | refine TL_q (op_move rfl) rfl ?_ | (refine' TL_q (op_bin rfl rfl ?_) rfl ?_; rotate_left 1; (· (exact bin_lss))) | refine TL_q (op_len_slice rfl Tryd.underlying23) rfl ?_ | (refine' TL_q (op_idx ety_23 rfl rfl ?_) rfl ?_; (· omega)) | refine TL_q (op_fld rfl fld_25_12) rfl ?_ | (refine' TL_q (op_ld rfl pl_3 ?_ ?_) rfl ?_; rotate_left 4; (· repeat ((exact List.mem_cons_self))); (· (assumption))) | (refine T_yes rfl ?_ ?_; (· (exact dT (by (omega)))))))
        refine TL_q (op_ldA [.string (bs z.name), .int .u8 (z.pol : Nat), .int .u16 (z.tru : Nat)] rfl st_38 (List.mem_cons_of_mem _ m2) hcs) rfl ?_
        repeat ((first | with_reducible refine T_seq ?_ | with_reducible refine TL_nil ?_ | with_reducible refine TQ_then ?_ | (refine TL_stAll rfl rfl st_38 rfl rfl rfl ?_) | (refine TL_new (op_alloc (C := #[(.string (bs [])), (.int .u8 0), (.int .u16 0)]) zero_38 rfl) rfl ?_; intro bNew)))
        obtain ⟨b8, hb8⟩ : ∃ b, bNew = b := ⟨_, rfl⟩
        rw [hb8]
        clear hb8 bNew
        have k0 : ([.string (bs z.name), .int .u8 (z.pol : Nat), .int .u16 (z.tru : Nat)] : List Value).toArray[0 + 0]? = some (.string (bs z.name)) := rfl
        have k1 : ([.string (bs z.name), .int .u8 (z.pol : Nat), .int .u16 (z.tru : Nat)] : List Value).toArray[0 + 1]? = some (.int .u8 (z.pol : Nat)) := rfl
        have k2 : ([.string (bs z.name), .int .u8 (z.pol : Nat), .int .u16 (z.tru : Nat)] : List Value).toArray[0 + 2]? = some (.int .u16 (z.tru : Nat)) := rfl
        have hKm : ∀ p ∈ [(b8, Obj.cells ([.string (bs z.name), .int .u8 (z.pol : Nat), .int .u16 (z.tru : Nat)] : List Value).toArray 38 (0, 0))], p ∈ (b8, Obj.cells ([.string (bs z.name), .int .u8 (z.pol : Nat), .int .u16 (z.tru : Nat)] : List Value).toArray 38 (0, 0)) :: (b1, Obj.cells (cfCells c (.slice (some ⟨b2, o2, none⟩) c.zs.length cap)).toArray 25 (0, 0)) :: L := by
          intro p hp
          simp only [List.mem_cons, List.not_mem_nil, or_false] at hp
          subst hp
          exact List.mem_cons_self ..
        refine T_draw follows_mixed ([(b8, Obj.cells ([.string (bs z.name), .int .u8 (z.pol : Nat), .int .u16 (z.tru : Nat)] : List Value).toArray 38 (0, 0))]) [] ?_
        (refine' TA_take 0 rfl rfl (by kernel_rfl) (quiet_q (op_move rfl)) ?_ ?_; (· (assumption)))
        (refine' TA_take 1 rfl rfl (by kernel_rfl) (quiet_q (op_bin rfl rfl ?_)) ?_ ?_; rotate_left 1; (· (exact sbin_add (by (simp only [List.length_cons, List.length_nil]; omega)))); (· (assumption)))
        (refine' TA_take 2 rfl rfl (by kernel_rfl) (quiet_q (op_fld rfl fld_38_0)) ?_ ?_; (· (assumption)))
        (refine' TA_take 3 rfl rfl (by kernel_rfl) (quiet_q (op_ld rfl pl_9 ?_ ?_)) ?_ ?_; rotate_left 4; (· repeat ((exact List.mem_cons_self))); (· (assumption)); (· (assumption)))
        refine' TA_take 4 rfl rfl (by kernel_rfl) (quiet_call hb_39 rfl (fun _ _ => refText_S _ ?_)) ?_ ?_; (· (omega)); (· (assumption))
        (refine' TA_take 5 rfl rfl (by kernel_rfl) (quiet_q (op_bin rfl rfl ?_)) ?_ ?_; rotate_left 1; (· (exact sbin_add (by (omega)))); (· (assumption)))
        (refine' TA_take 6 rfl rfl (by kernel_rfl) (quiet_q (op_bin rfl rfl ?_)) ?_ ?_; rotate_left 1; (· (exact sbin_add (by (simp only [List.length_cons, List.length_nil]; omega)))); (· (assumption)))
        (refine' TA_take 7 rfl rfl (by kernel_rfl) (quiet_q (op_fld rfl fld_38_1)) ?_ ?_; (· (assumption)))
        (refine' TA_take 8 rfl rfl (by kernel_rfl) (quiet_q (op_ld rfl pl_5 ?_ ?_)) ?_ ?_; rotate_left 4; (· repeat ((exact List.mem_cons_self))); (· (assumption)); (· (assumption)))
        refine' TA_take 9 rfl rfl (by kernel_rfl) (quiet_call hb_40 rfl (fun _ _ => rPolicy_S _ ?_)) ?_ ?_; (· (omega)); (· (assumption))
        (refine' TA_take 10 rfl rfl (by kernel_rfl) (quiet_q (op_bin rfl rfl ?_)) ?_ ?_; rotate_left 1; (· (exact sbin_add (by (omega)))); (· (assumption)))
        (refine' TA_take 11 rfl rfl (by kernel_rfl) (quiet_q (op_assign rfl)) ?_ ?_; (· (assumption)))
        refine TA_done (by kernel_rfl) ?_
        clear hKm
        obtain ⟨s', hs'⟩ : ∃ s', (((s ++ [122, 111, 110, 101, 32]) ++ textN z.name) ++ [32]) ++ rPol z.pol = s' := ⟨_, rfl⟩
        rw [hs'] at hp l4 ⊢
        repeat ((first | with_reducible refine T_seq ?_ | with_reducible refine T_block ?_ | with_reducible refine T_region ?_ | with_reducible refine TL_nil ?_ | with_reducible refine TQ_then ?_ | refine TL_q (op_assign rfl) rfl ?_))
        refine T_loopS (σ := Nat) (fun u => u ≤ 16) (fun u => [(1, .pointer (some ⟨b1, 0, none⟩)), (4, .string (bs (s' ++ tb z.tru u))), (7, .int .i64 (i : Nat)), (8, .pointer (some ⟨b8, 0, none⟩)), (9, .int .i64 (u : Nat))]) (fun _ => (b8, Obj.cells ([.string (bs z.name), .int .u8 (z.pol : Nat), .int .u16 (z.tru : Nat)] : List Value).toArray 38 (0, 0)) :: (b1, Obj.cells (cfCells c (.slice (some ⟨b2, o2, none⟩) c.zs.length cap)).toArray 25 (0, 0)) :: L) (fun u => 16 - u) 0 (by omega) ?_ (fun _ h => h) ?_
        · rw [tb_zero, List.append_nil]
          (repeat ((first | exact trivial | refine ⟨rfl, ?_⟩)))
        rintro u hu
        have htb := tb_len z.tru u hu
        have l5 := len_app s' (tb z.tru u)
        by_cases hu16 : u < 16
        · have hbit := bit_of z.tru u
          have hdl := Cn.dec_len16 (show u ≤ 15 by omega)
          have l6 := len_app (s' ++ tb z.tru u) [32]
          have l7 := len_app ((s' ++ tb z.tru u) ++ [32]) (Lib.decDigits u)
          simp only [List.length_singleton] at l6
          repeat ((first | with_reducible refine T_seq ?_ | with_reducible refine T_block ?_ | with_reducible refine T_region ?_ | with_reducible refine TL_nil ?_ | with_reducible refine TQ_then ?_ | with_reducible refine T_skip ?_ | refine TL_q (op_move rfl) rfl ?_ | (refine' TL_q (op_bin rfl rfl ?_) rfl ?_; rotate_left 1; (· (exact bin_lss))) | (refine' TL_q (op_conv_int rfl Tryd.underlying3 Tryd.underlying44 ?_) rfl ?_; (· exact ⟨by omega, by omega⟩)) | refine TL_q (op_fld rfl fld_38_2) rfl ?_ | (refine' TL_q (op_ld rfl pl_3 ?_ ?_) rfl ?_; rotate_left 4; (· repeat ((exact List.mem_cons_self))); (· (assumption))) | (refine T_yes rfl ?_ ?_; (· (exact dT (by (omega)))))))
          refine TL_q (op_bin rfl rfl (bin_shr16 (by omega))) rfl ?_
          obtain ⟨q, hq⟩ : ∃ q, z.tru / 2 ^ u = q := ⟨_, rfl⟩
          rw [hq] at hbit ⊢
          have hql : q ≤ 65535 := by
            have := Nat.div_le_self z.tru (2 ^ u)
            omega
          by_cases hq1 : q % 2 = 1
          · have hb1 : z.tru.testBit u = true := by rw [hbit]; exact decide_eq_true hq1
            repeat ((first | with_reducible refine T_region ?_ | with_reducible refine TL_nil ?_ | with_reducible refine TQ_then ?_ | refine TL_q (op_move rfl) rfl ?_ | (refine' TL_q (op_bin rfl rfl ?_) rfl ?_; rotate_left 1; (· (first | exact bin_rem (by omega) (by omega) | exact bin_eql | exact sbin_add (by (simp only [List.length_cons, List.length_nil]; omega))))) | (refine T_yes rfl ?_ ?_; (· (exact dT (by (omega)))))))
            refine TL_op (op_call hb_38 rfl (rDigits_S u (by omega))) rfl ?_
            repeat ((first | with_reducible refine T_region ?_ | with_reducible refine TL_nil ?_ | with_reducible refine TQ_then ?_ | with_reducible refine TQ_block ?_ | refine TL_q (op_move rfl) rfl ?_ | refine TL_q (op_assign rfl) rfl ?_ | (refine' TL_q (op_bin rfl rfl ?_) rfl ?_; rotate_left 1; (· (first | exact bin_add ⟨by omega, by omega⟩ | exact sbin_add (by (omega)))))))
            refine TQ_roundS (u + 1) (by omega) ?_ (fun _ h => h) (by omega)
            rw [tb_yes hb1, show s' ++ (tb z.tru u ++ 32 :: Lib.decDigits u) = ((s' ++ tb z.tru u) ++ [32]) ++ Lib.decDigits u by simp]
            (repeat ((first | exact trivial | refine ⟨rfl, ?_⟩)))
          · have hb0 : z.tru.testBit u = false := by rw [hbit]; exact decide_eq_false hq1
            repeat ((first | with_reducible refine T_region ?_ | with_reducible refine TL_nil ?_ | with_reducible refine TQ_then ?_ | with_reducible refine TQ_block ?_ | with_reducible refine T_skip ?_ | refine TL_q (op_move rfl) rfl ?_ | refine TL_q (op_assign rfl) rfl ?_ | (refine' TL_q (op_bin rfl rfl ?_) rfl ?_; rotate_left 1; (· (first | exact bin_add ⟨by omega, by omega⟩ | exact bin_rem (by omega) (by omega) | exact bin_eql))) | (refine T_no rfl ?_ ?_; (· (exact dF (by (omega)))))))
            refine TQ_roundS (u + 1) (by omega) ?_ (fun _ h => h) (by omega)
            rw [tb_no hb0]
            (repeat ((first | exact trivial | refine ⟨rfl, ?_⟩)))
        · obtain rfl : u = 16 := by omega
          have l6 := len_app (s' ++ tb z.tru 16) [10]
          simp only [List.length_singleton] at l6
          repeat ((first | with_reducible refine T_seq ?_ | with_reducible refine T_region ?_ | with_reducible refine TL_nil ?_ | with_reducible refine TQ_then ?_ | with_reducible refine TQ_block ?_ | with_reducible refine T_exit ?_ | with_reducible refine TQ_then_exit ?_ | with_reducible refine TQ_block_exit ?_ | refine TL_q (op_move rfl) rfl ?_ | refine TL_q (op_assign rfl) rfl ?_ | (refine' TL_q (op_bin rfl rfl ?_) rfl ?_; rotate_left 1; (· (first | exact bin_add ⟨by omega, by omega⟩ | exact bin_lss | exact sbin_add (by (simp only [List.length_cons, List.length_nil]; omega))))) | (refine T_no rfl ?_ ?_; (· (exact Bool.not_true)))))
          refine TQ_roundS (i + 1) (by omega) ?_ (fun _ h => h.tail) (by omega)
          rw [hp]
          (repeat ((first | exact trivial | refine ⟨rfl, ?_⟩)))
      · obtain rfl : i = c.zs.length := by omega
        rw [lineL_len c]
        repeat ((first | with_reducible refine T_seq ?_ | with_reducible refine T_region ?_ | with_reducible refine TL_nil ?_ | with_reducible refine TQ_then ?_ | with_reducible refine T_exit ?_ | with_reducible refine T_ret ?_ | with_reducible refine TQ_then_exit ?_ | with_reducible refine TQ_block_exit ?_ | refine TL_q (op_move rfl) rfl ?_ | refine TL_q (op_assign rfl) rfl ?_ | (refine' TL_q (op_bin rfl rfl ?_) rfl ?_; rotate_left 1; (· (exact bin_lss))) | refine TL_q (op_len_slice rfl Tryd.underlying23) rfl ?_ | refine TL_q (op_fld rfl fld_25_12) rfl ?_ | (refine' TL_q (op_ld rfl pl_3 ?_ ?_) rfl ?_; rotate_left 4; (· repeat ((exact List.mem_cons_self))); (· (assumption))) | (refine T_no rfl ?_ ?_; (· (exact dF (by (omega)))))))
        refine TQ_heap (fun w h => h.tail) ?_
        refine TQ_ret2 2 3 _ _ rfl rfl rfl ?_
        exact ⟨rfl, rfl⟩
end Go.Proofs.YtnhlpifbadncmaaDoor
