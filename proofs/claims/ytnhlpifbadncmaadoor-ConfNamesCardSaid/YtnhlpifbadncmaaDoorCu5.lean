/-
  Part 5: Ck Cl Cm Cn Co Cp Cq Kl.
-/
import Derived.Test.YtnhlpifbadncmaaDoorCu4
import Derived.Test.YtnhlpifbadncmaaDoorCu1
namespace Go.Proofs.YtnhlpifbadncmaaDoor
open Go.RowKit
open Cn (Zo Cf)
set_option linter.unusedVariables false
set_option linter.unusedSimpArgs false
--auto
variable {G : World} {L : Blocks}
theorem mayZs_no {ups : Int} {zs : List Zo} {i : Nat} (hi : i < zs.length) (h : Cn.goodAt ups zs i = false) : Cn.mayZs ups zs = false := by
  unfold Cn.mayZs
  rw [Bool.and_eq_false_iff]
  right
  rw [List.all_eq_false]
  exact ⟨i, List.mem_range.2 hi, by rw [h]; decide⟩
theorem mayZs_yes {ups : Int} {zs : List Zo} (h16 : zs.length ≤ 16) (h : ∀ j < zs.length, Cn.goodAt ups zs j = true) : Cn.mayZs ups zs = true := by
  unfold Cn.mayZs
  rw [decide_eq_true h16, Bool.true_and, List.all_eq_true]
  exact fun i hi => h i (List.mem_range.1 hi)
theorem mayZs_many {ups : Int} {zs : List Zo} (h : 16 < zs.length) : Cn.mayZs ups zs = false := by
  unfold Cn.mayZs
  rw [decide_eq_false (by omega)]
  rfl
theorem good_eq {ups : Int} {zs : List Zo} {i : Nat} {z : Zo} (h : zs[i]? = some z) : Cn.goodAt ups zs i = (Cn.okZo ups z && !(zs.take i).any (fun y => y.name == z.name)) := by unfold Cn.goodAt; rw [h]
set_option maxRecDepth 100000 in
set_option maxHeartbeats 4000000 in
theorem mayZones_S (c : Cf) (v : Value) (hz : sliceR 3 zoR L [v] c.zs) (hu : 1 ≤ c.ups ∧ c.ups ≤ 9) (hs : ∀ z ∈ c.zs, z.name.length ≤ 1000000) :
    Spec Tryd.prog G 27 #[.agg (cfCells c v).toArray] L fun u M => u = .bool (Cn.mayZs c.ups c.zs) ∧ M = L := by
  obtain ⟨a, cap, e, hz⟩ := hz.val
  obtain rfl := (List.cons.inj e).1
  clear e
  have hcap := (sliceR.cut hz).2.1
  have hmax := (sliceR.cut hz).2.2.1
  unfold maxLen at hmax
  refine Spec_of (n := 69) Tryd.func27 rfl rfl rfl ?_
  refine T_seq (T_region (TL_new (op_boxA rfl) rfl ?_))
  intro b1
  have g0 : (cfCells (c) (.slice a c.zs.length cap)).toArray[0 + 0]? = some (.int .i64 (c).ups) := rfl
  have g1 : (cfCells (c) (.slice a c.zs.length cap)).toArray[0 + 1]? = some (.int .i64 (c).ded) := rfl
  have g2 : (cfCells (c) (.slice a c.zs.length cap)).toArray[0 + 2]? = some (.int .i64 (c).hdg) := rfl
  have g3 : (cfCells (c) (.slice a c.zs.length cap)).toArray[0 + 3]? = some (.int .i64 (c).wai) := rfl
  have g4 : (cfCells (c) (.slice a c.zs.length cap)).toArray[0 + 4]? = some (.int .i64 (c).tri) := rfl
  have g5 : (cfCells (c) (.slice a c.zs.length cap)).toArray[0 + 5]? = some (.int .i64 (c).res) := rfl
  have g6 : (cfCells (c) (.slice a c.zs.length cap)).toArray[0 + 6]? = some (.int .i64 (c).lim) := rfl
  have g7 : (cfCells (c) (.slice a c.zs.length cap)).toArray[0 + 7]? = some (.int .i64 (c).cac) := rfl
  have g8 : (cfCells (c) (.slice a c.zs.length cap)).toArray[0 + 8]? = some (.int .i64 (c).fli) := rfl
  have g9 : (cfCells (c) (.slice a c.zs.length cap)).toArray[0 + 9]? = some (.int .i64 (c).wtr) := rfl
  have g10 : (cfCells (c) (.slice a c.zs.length cap)).toArray[0 + 10]? = some (.int .i64 (c).ttl) := rfl
  have g11 : (cfCells (c) (.slice a c.zs.length cap)).toArray[0 + 11]? = some (.int .i64 (c).siz) := rfl
  have g12 : (cfCells (c) (.slice a c.zs.length cap)).toArray[0 + 12]? = some (.slice a c.zs.length cap) := rfl
  by_cases h16 : 16 < c.zs.length
  · rw [mayZs_many h16]
    repeat ((first | with_reducible refine T_seq ?_ | with_reducible refine T_region ?_ | with_reducible refine TL_nil ?_ | with_reducible refine TQ_then ?_ | with_reducible refine T_ret ?_ | with_reducible refine TQ_then_ret ?_ | refine TL_q (op_assign rfl) rfl ?_ | (refine' TL_q (op_bin rfl rfl ?_) rfl ?_; rotate_left 1; (· (exact bin_gtr))) | refine TL_q (op_len_slice rfl Tryd.underlying23) rfl ?_ | refine TL_q (op_fld rfl fld_25_12) rfl ?_ | (refine' TL_q (op_ld rfl pl_3 ?_ ?_) rfl ?_; rotate_left 4; (· repeat ((exact List.mem_cons_self))); (· (assumption))) | (refine T_yes rfl ?_ ?_; (· (exact dT (by (omega)))))))
    refine TQ_heap (fun w h => h.tail) ?_
    refine TQ_ret1 2 _ rfl rfl ?_
    exact ⟨rfl, rfl⟩
  repeat ((first | with_reducible refine T_seq ?_ | with_reducible refine T_block ?_ | with_reducible refine T_region ?_ | with_reducible refine TL_nil ?_ | with_reducible refine TQ_then ?_ | with_reducible refine T_skip ?_ | refine TL_q (op_move rfl) rfl ?_ | refine TL_q (op_assign rfl) rfl ?_ | (refine' TL_q (op_bin rfl rfl ?_) rfl ?_; rotate_left 1; (· (exact bin_gtr))) | refine TL_q (op_len_slice rfl Tryd.underlying23) rfl ?_ | refine TL_q (op_fld rfl fld_25_12) rfl ?_ | (refine' TL_q (op_ld rfl pl_3 ?_ ?_) rfl ?_; rotate_left 4; (· repeat ((exact List.mem_cons_self))); (· (assumption))) | (refine T_no rfl ?_ ?_; (· (exact dF (by (omega)))))))
  refine T_loopS (σ := Nat) (fun i => i ≤ c.zs.length ∧ ∀ j < i, Cn.goodAt c.ups c.zs j = true) (fun i => [(1, .pointer (some ⟨b1, 0, none⟩)), (12, .slice a c.zs.length cap), (13, .int .i64 (c.zs.length : Nat)), (14, .int .i64 (i : Nat))]) (fun _ => (b1, Obj.cells (cfCells c (.slice a c.zs.length cap)).toArray 25 (0, 0)) :: L) (fun i => c.zs.length - i) 0 ⟨by omega, fun j hj => by omega⟩ ?_ (fun _ h => h) ?_
  (repeat ((first | exact trivial | refine ⟨rfl, ?_⟩)))
  rintro i ⟨hi, hall⟩
  by_cases hlt : i < c.zs.length
  · obtain ⟨z, hzi⟩ : ∃ z, c.zs[i]? = some z := ⟨_, List.getElem?_eq_getElem hlt⟩
    obtain ⟨b2, o2, C2, t2, f2, rfl, m2, cs, _, ⟨rfl, hzn, hzp, hzt⟩, hcs⟩ := sliceR.at hz hzi
    have hzs := hs z (List.mem_of_getElem? hzi)
    have e0 : C2[o2 + i * 3 + 0]? = some (.string (bs z.name)) := hcs 0 _ rfl
    have hgood := good_eq (ups := c.ups) hzi
    repeat ((first | with_reducible refine T_seq ?_ | with_reducible refine T_block ?_ | with_reducible refine T_region ?_ | with_reducible refine TL_nil ?_ | with_reducible refine TQ_then ?_ | with_reducible refine T_skip ?_ | refine TL_q (op_move rfl) rfl ?_ | (refine' TL_q (op_bin rfl rfl ?_) rfl ?_; rotate_left 1; (· (exact bin_lss))) | (refine' TL_q (op_idx ety_23 rfl rfl ?_) rfl ?_; (· omega)) | (refine T_yes rfl ?_ ?_; (· (exact dT (by (omega)))))))
    refine TL_q (op_ldA [.string (bs z.name), .int .u8 (z.pol : Nat), .int .u16 (z.tru : Nat)] rfl st_38 (List.mem_cons_of_mem _ m2) hcs) rfl ?_
    repeat ((first | with_reducible refine T_seq ?_ | with_reducible refine TL_nil ?_ | with_reducible refine TQ_then ?_ | refine TL_q (op_assign rfl) rfl ?_ | (refine TL_stAll rfl rfl st_38 rfl rfl rfl ?_) | (refine TL_new (op_alloc (C := #[(.string (bs [])), (.int .u8 0), (.int .u16 0)]) zero_38 rfl) rfl ?_; intro bNew)))
    obtain ⟨b4, hb4⟩ : ∃ b, bNew = b := ⟨_, rfl⟩
    rw [hb4]
    clear hb4 bNew
    have k0 : ([.string (bs z.name), .int .u8 (z.pol : Nat), .int .u16 (z.tru : Nat)] : List Value).toArray[0 + 0]? = some (.string (bs z.name)) := rfl
    have k1 : ([.string (bs z.name), .int .u8 (z.pol : Nat), .int .u16 (z.tru : Nat)] : List Value).toArray[0 + 1]? = some (.int .u8 (z.pol : Nat)) := rfl
    have k2 : ([.string (bs z.name), .int .u8 (z.pol : Nat), .int .u16 (z.tru : Nat)] : List Value).toArray[0 + 2]? = some (.int .u16 (z.tru : Nat)) := rfl
    have hKm : ∀ p ∈ [(b4, Obj.cells ([.string (bs z.name), .int .u8 (z.pol : Nat), .int .u16 (z.tru : Nat)] : List Value).toArray 38 (0, 0))], p ∈ (b4, Obj.cells ([.string (bs z.name), .int .u8 (z.pol : Nat), .int .u16 (z.tru : Nat)] : List Value).toArray 38 (0, 0)) :: (b1, Obj.cells (cfCells c (.slice (some ⟨b2, o2, none⟩) c.zs.length cap)).toArray 25 (0, 0)) :: L := by
      intro p hp
      simp only [List.mem_cons, List.not_mem_nil, or_false] at hp
      subst hp
      exact List.mem_cons_self ..
    cases hmay : Nm.may z.name with
    | false =>
      have hno : Cn.okZo c.ups z = false := by unfold Cn.okZo Cn.okName; rw [hmay]; rfl
      rw [mayZs_no hlt (by rw [hgood, hno]; rfl)]
      refine T_draw follows_mixed ([(b4, Obj.cells ([.string (bs z.name), .int .u8 (z.pol : Nat), .int .u16 (z.tru : Nat)] : List Value).toArray 38 (0, 0))]) [] ?_
      (refine' TA_take 0 rfl rfl (by kernel_rfl) (quiet_q (op_fld rfl fld_38_0)) ?_ ?_; (· (assumption)))
      (refine' TA_take 1 rfl rfl (by kernel_rfl) (quiet_q (op_ld rfl pl_9 ?_ ?_)) ?_ ?_; rotate_left 4; (· repeat ((exact List.mem_cons_self))); (· (assumption)); (· (assumption)))
      refine' TA_take 2 rfl rfl (by kernel_rfl) (quiet_call hb_51 rfl (fun _ _ => May_S _ ?_)) ?_ ?_; (· (omega)); (· (assumption))
      (refine' TA_take 3 rfl rfl (by kernel_rfl) (quiet_q (op_not rfl)) ?_ ?_; (· (assumption)))
      (refine' TA_take 4 rfl rfl (by kernel_rfl) (quiet_q (op_move rfl)) ?_ ?_; (· (assumption)))
      (refine TA_take 5 rfl rfl (by kernel_rfl) (quiet_no2 rfl rfl ?_) ?_ ?_; (· (exact xT (by (assumption)))); (· (assumption)))
      (refine TA_take 6 rfl rfl (by kernel_rfl) (quiet_no2 rfl rfl ?_) ?_ ?_; (· (exact xT (by (assumption)))); (· (assumption)))
      (refine TA_take 7 rfl rfl (by kernel_rfl) (quiet_no2 rfl rfl ?_) ?_ ?_; (· (exact xT (by (assumption)))); (· (assumption)))
      (refine TA_take 8 rfl rfl (by kernel_rfl) (quiet_no2 rfl rfl ?_) ?_ ?_; (· (exact xT (by (assumption)))); (· (assumption)))
      (refine TA_take 9 rfl rfl (by kernel_rfl) (quiet_no2 rfl rfl ?_) ?_ ?_; (· (exact xT (by (assumption)))); (· (assumption)))
      (refine TA_take 10 rfl rfl (by kernel_rfl) (quiet_no2 rfl rfl ?_) ?_ ?_; (· (exact xT (by (assumption)))); (· (assumption)))
      (refine' TA_take 11 rfl rfl (by kernel_rfl) (quiet_q (op_pickT rfl ?_ rfl)) ?_ ?_; (· (exact xT (by (assumption)))); (· (assumption)))
      refine TA_done (by kernel_rfl) ?_
      repeat ((first | with_reducible refine T_seq ?_ | with_reducible refine T_region ?_ | with_reducible refine TL_nil ?_ | with_reducible refine TQ_then ?_ | with_reducible refine T_ret ?_ | with_reducible refine TQ_then_ret ?_ | with_reducible refine TQ_block_ret ?_ | refine TL_q (op_assign rfl) rfl ?_ | (refine T_yes rfl ?_ ?_; (· (with_reducible rfl)))))
      refine TQ_heap (fun w h => h.tail.tail) ?_
      refine TQ_ret1 2 _ rfl rfl ?_
      exact ⟨rfl, rfl⟩
    | true =>
      by_cases hf : Nm.fold z.name = z.name
      rotate_left
      · have hno : Cn.okZo c.ups z = false := by unfold Cn.okZo Cn.okName; rw [beq_false_of_ne hf, Bool.and_false, Bool.false_and]
        rw [mayZs_no hlt (by rw [hgood, hno]; rfl)]
        refine T_draw follows_mixed ([(b4, Obj.cells ([.string (bs z.name), .int .u8 (z.pol : Nat), .int .u16 (z.tru : Nat)] : List Value).toArray 38 (0, 0))]) [] ?_
        (refine' TA_take 0 rfl rfl (by kernel_rfl) (quiet_q (op_fld rfl fld_38_0)) ?_ ?_; (· (assumption)))
        (refine' TA_take 1 rfl rfl (by kernel_rfl) (quiet_q (op_ld rfl pl_9 ?_ ?_)) ?_ ?_; rotate_left 4; (· repeat ((exact List.mem_cons_self))); (· (assumption)); (· (assumption)))
        refine' TA_take 2 rfl rfl (by kernel_rfl) (quiet_call hb_51 rfl (fun _ _ => May_S _ ?_)) ?_ ?_; (· (omega)); (· (assumption))
        (refine' TA_take 3 rfl rfl (by kernel_rfl) (quiet_q (op_not rfl)) ?_ ?_; (· (assumption)))
        (refine' TA_take 4 rfl rfl (by kernel_rfl) (quiet_q (op_move rfl)) ?_ ?_; (· (assumption)))
        (refine' TA_take 5 rfl rfl (by kernel_rfl) (quiet_g2 rfl rfl (by (exact xF (by (assumption)))) (op_fld rfl fld_38_0)) ?_ ?_; (· (assumption)))
        (refine' TA_take 6 rfl rfl (by kernel_rfl) (quiet_g2 rfl rfl (by (exact xF (by (assumption)))) (op_ld rfl pl_9 ?_ ?_)) ?_ ?_; rotate_left 4; (· repeat ((exact List.mem_cons_self))); (· (assumption)); (· (assumption)))
        (refine' TA_take 7 rfl rfl (by kernel_rfl) (quiet_callG2 rfl rfl (by (exact xF (by (assumption)))) hb_52 rfl (fun _ _ => Fold_S _ ?_)) ?_ ?_; (· (omega)); (· (assumption)))
        (refine' TA_take 8 rfl rfl (by kernel_rfl) (quiet_g2 rfl rfl (by (exact xF (by (assumption)))) (op_fld rfl fld_38_0)) ?_ ?_; (· (assumption)))
        (refine' TA_take 9 rfl rfl (by kernel_rfl) (quiet_g2 rfl rfl (by (exact xF (by (assumption)))) (op_ld rfl pl_9 ?_ ?_)) ?_ ?_; rotate_left 4; (· repeat ((exact List.mem_cons_self))); (· (assumption)); (· (assumption)))
        (refine' TA_take 10 rfl rfl (by kernel_rfl) (quiet_g2 rfl rfl (by (exact xF (by (assumption)))) (op_bin rfl rfl ?_)) ?_ ?_; rotate_left 1; (· (exact sbin_neq)); (· (assumption)))
        (refine' TA_take 11 rfl rfl (by kernel_rfl) (quiet_q (op_pickF rfl ?_ rfl)) ?_ ?_; (· (exact xF (by (assumption)))); (· (assumption)))
        refine TA_done (by kernel_rfl) ?_
        repeat ((first | with_reducible refine T_seq ?_ | with_reducible refine T_region ?_ | with_reducible refine TL_nil ?_ | with_reducible refine TQ_then ?_ | with_reducible refine T_ret ?_ | with_reducible refine TQ_then_ret ?_ | with_reducible refine TQ_block_ret ?_ | refine TL_q (op_assign rfl) rfl ?_ | (refine T_yes rfl ?_ ?_; (· (exact nT (by (assumption)))))))
        refine TQ_heap (fun w h => h.tail.tail) ?_
        refine TQ_ret1 2 _ rfl rfl ?_
        exact ⟨rfl, rfl⟩
      have hokn : Cn.okName z = true := by unfold Cn.okName; rw [hmay, beq_iff_eq.2 hf]; rfl
      refine T_draw follows_mixed ([(b4, Obj.cells ([.string (bs z.name), .int .u8 (z.pol : Nat), .int .u16 (z.tru : Nat)] : List Value).toArray 38 (0, 0))]) [] ?_
      (refine' TA_take 0 rfl rfl (by kernel_rfl) (quiet_q (op_fld rfl fld_38_0)) ?_ ?_; (· (assumption)))
      (refine' TA_take 1 rfl rfl (by kernel_rfl) (quiet_q (op_ld rfl pl_9 ?_ ?_)) ?_ ?_; rotate_left 4; (· repeat ((exact List.mem_cons_self))); (· (assumption)); (· (assumption)))
      refine' TA_take 2 rfl rfl (by kernel_rfl) (quiet_call hb_51 rfl (fun _ _ => May_S _ ?_)) ?_ ?_; (· (omega)); (· (assumption))
      (refine' TA_take 3 rfl rfl (by kernel_rfl) (quiet_q (op_not rfl)) ?_ ?_; (· (assumption)))
      (refine' TA_take 4 rfl rfl (by kernel_rfl) (quiet_q (op_move rfl)) ?_ ?_; (· (assumption)))
      (refine' TA_take 5 rfl rfl (by kernel_rfl) (quiet_g2 rfl rfl (by (exact xF (by (assumption)))) (op_fld rfl fld_38_0)) ?_ ?_; (· (assumption)))
      (refine' TA_take 6 rfl rfl (by kernel_rfl) (quiet_g2 rfl rfl (by (exact xF (by (assumption)))) (op_ld rfl pl_9 ?_ ?_)) ?_ ?_; rotate_left 4; (· repeat ((exact List.mem_cons_self))); (· (assumption)); (· (assumption)))
      (refine' TA_take 7 rfl rfl (by kernel_rfl) (quiet_callG2 rfl rfl (by (exact xF (by (assumption)))) hb_52 rfl (fun _ _ => Fold_S _ ?_)) ?_ ?_; (· (omega)); (· (assumption)))
      (refine' TA_take 8 rfl rfl (by kernel_rfl) (quiet_g2 rfl rfl (by (exact xF (by (assumption)))) (op_fld rfl fld_38_0)) ?_ ?_; (· (assumption)))
      (refine' TA_take 9 rfl rfl (by kernel_rfl) (quiet_g2 rfl rfl (by (exact xF (by (assumption)))) (op_ld rfl pl_9 ?_ ?_)) ?_ ?_; rotate_left 4; (· repeat ((exact List.mem_cons_self))); (· (assumption)); (· (assumption)))
      (refine' TA_take 10 rfl rfl (by kernel_rfl) (quiet_g2 rfl rfl (by (exact xF (by (assumption)))) (op_bin rfl rfl ?_)) ?_ ?_; rotate_left 1; (· (exact sbin_neq)); (· (assumption)))
      (refine' TA_take 11 rfl rfl (by kernel_rfl) (quiet_q (op_pickF rfl ?_ rfl)) ?_ ?_; (· (exact xF (by (assumption)))); (· (assumption)))
      refine TA_done (by kernel_rfl) ?_
      repeat ((first | with_reducible refine T_seq ?_ | with_reducible refine T_block ?_ | with_reducible refine T_region ?_ | with_reducible refine TL_nil ?_ | with_reducible refine TQ_then ?_ | with_reducible refine T_skip ?_ | refine TL_q (op_move rfl) rfl ?_ | refine TL_q (op_len_slice rfl Tryd.underlying23) rfl ?_ | (refine' TL_q (op_slice_to ety_23 rfl rfl ?_ ?_) rfl ?_; (· omega); (· omega)) | refine TL_q (op_fld rfl fld_25_12) rfl ?_ | (refine' TL_q (op_ld rfl pl_3 ?_ ?_) rfl ?_; rotate_left 4; (· repeat ((first | exact List.mem_cons_self | apply List.mem_cons_of_mem))); (· (assumption))) | (refine T_no rfl ?_ ?_; (· (exact nF (by (assumption)))))))
      refine T_loopS (σ := Nat) (fun k => k ≤ i ∧ (c.zs.take k).any (fun y => y.name == z.name) = false) (fun k => [(1, .pointer (some ⟨b1, 0, none⟩)), (3, .int .i64 (i : Nat)), (4, .pointer (some ⟨b4, 0, none⟩)), (12, .slice (some ⟨b2, o2, none⟩) c.zs.length cap), (13, .int .i64 (c.zs.length : Nat)), (14, .int .i64 (i : Nat)), (34, .slice (some ⟨b2, o2, none⟩) i cap), (35, .int .i64 (i : Nat)), (36, .int .i64 (k : Nat))]) (fun _ => (b4, Obj.cells ([.string (bs z.name), .int .u8 (z.pol : Nat), .int .u16 (z.tru : Nat)] : List Value).toArray 38 (0, 0)) :: (b1, Obj.cells (cfCells c (.slice (some ⟨b2, o2, none⟩) c.zs.length cap)).toArray 25 (0, 0)) :: L) (fun k => i - k) 0 ⟨by omega, by simp⟩ ?_ (fun _ h => h) ?_
      (repeat ((first | exact trivial | refine ⟨rfl, ?_⟩)))
      rintro k ⟨hk, hany⟩
      by_cases hki : k < i
      · obtain ⟨y, hyk⟩ : ∃ y, c.zs[k]? = some y := ⟨_, List.getElem?_eq_getElem (by omega)⟩
        obtain ⟨b5, o5, C5, t5, f5, e5, m5, cs5, _, ⟨rfl, hyn, hyp, hyt⟩, hcs5⟩ := sliceR.at hz hyk
        cases e5
        repeat ((first | with_reducible refine T_seq ?_ | with_reducible refine T_block ?_ | with_reducible refine T_region ?_ | with_reducible refine TL_nil ?_ | with_reducible refine TQ_then ?_ | with_reducible refine T_skip ?_ | (refine' TL_q (op_bin rfl rfl ?_) rfl ?_; rotate_left 1; (· (exact bin_lss))) | (refine' TL_q (op_idx ety_23 rfl rfl ?_) rfl ?_; (· omega)) | (refine T_yes rfl ?_ ?_; (· (exact dT (by (omega)))))))
        refine TL_q (op_ldA [.string (bs y.name), .int .u8 (y.pol : Nat), .int .u16 (y.tru : Nat)] rfl st_38 (List.mem_cons_of_mem _ (List.mem_cons_of_mem _ m5)) hcs5) rfl ?_
        repeat ((first | with_reducible refine T_seq ?_ | with_reducible refine T_region ?_ | with_reducible refine TL_nil ?_ | with_reducible refine TQ_then ?_ | (refine' TL_q (op_bin rfl rfl ?_) rfl ?_; rotate_left 1; (· (exact sbin_eql))) | refine TL_q (op_fld rfl fld_25_0) rfl ?_ | (refine' TL_q (op_ld rfl pl_3 ?_ ?_) rfl ?_; rotate_left 4; (· repeat ((first | exact List.mem_cons_self | apply List.mem_cons_of_mem))); (· (first | assumption | rfl))) | (refine TL_stAll rfl rfl st_38 rfl rfl rfl ?_) | (refine TL_new (op_alloc (C := #[(.string (bs [])), (.int .u8 0), (.int .u16 0)]) zero_38 rfl) rfl ?_; intro bNew)))
        obtain ⟨b6, hb6⟩ : ∃ b, bNew = b := ⟨_, rfl⟩
        rw [hb6]
        clear hb6 bNew
        have l0 : ([.string (bs y.name), .int .u8 (y.pol : Nat), .int .u16 (y.tru : Nat)] : List Value).toArray[0 + 0]? = some (.string (bs y.name)) := rfl
        by_cases hyz : y.name = z.name
        · have hbad : Cn.goodAt c.ups c.zs i = false := by
            rw [hgood, Bool.and_eq_false_iff]
            right
            rw [Bool.not_eq_false', List.any_eq_true]
            exact ⟨y, List.mem_take_iff_getElem.2 ⟨k, by omega, (List.getElem?_eq_some_iff.1 hyk).2⟩, beq_iff_eq.2 hyz⟩
          rw [mayZs_no hlt hbad]
          repeat ((first | with_reducible refine T_seq ?_ | with_reducible refine T_region ?_ | with_reducible refine TL_nil ?_ | with_reducible refine TQ_then ?_ | with_reducible refine T_ret ?_ | with_reducible refine TQ_then_ret ?_ | with_reducible refine TQ_block_ret ?_ | refine TL_q (op_assign rfl) rfl ?_ | (refine T_yes rfl ?_ ?_; (· (exact eT (by (assumption)))))))
          refine TQ_heap (fun w h => h.tail.tail.tail) ?_
          refine TQ_ret1 2 _ rfl rfl ?_
          exact ⟨rfl, rfl⟩
        · repeat ((first | with_reducible refine T_region ?_ | with_reducible refine TL_nil ?_ | with_reducible refine TQ_then ?_ | with_reducible refine TQ_block ?_ | with_reducible refine T_skip ?_ | refine TL_q (op_move rfl) rfl ?_ | (refine' TL_q (op_bin rfl rfl ?_) rfl ?_; rotate_left 1; (· (exact bin_add ⟨by omega, by omega⟩))) | (refine T_no rfl ?_ ?_; (· (exact eF (by (assumption)))))))
          refine TQ_roundS (k + 1) ⟨by omega, ?_⟩ ?_ (fun _ h => h.tail) (by omega)
          · rw [List.take_add_one, hyk, List.any_append, hany]
            simp [hyz]
          (repeat ((first | exact trivial | refine ⟨rfl, ?_⟩)))
      · have hkie : k = i := by omega
        subst hkie
        rw [hany, Bool.not_false, Bool.and_true] at hgood
        unfold Cn.okZo at hgood
        rw [hokn, Bool.true_and] at hgood
        obtain ⟨n, hn⟩ : ∃ n : Nat, c.ups = (n : Nat) := ⟨c.ups.toNat, by omega⟩
        have hn2 : c.ups.toNat = n := by omega
        have fin : ∀ b, Cn.okPol c.ups z = b → Cn.goodAt c.ups c.zs k = b := fun b h => hgood.trans h
        have nxt : Cn.okPol c.ups z = true → ∀ j < k + 1, Cn.goodAt c.ups c.zs j = true := fun h j hj => by
          rcases Nat.lt_or_ge j k with q | q
          · exact hall j q
          · have : j = k := by omega
            subst this
            exact fin true h
        have pol : Cn.okPol c.ups z = decide (((z.pol = 1 ∨ z.pol = 2 ∨ z.pol = 4) ∧ z.tru = 0) ∨ (z.pol = 3 ∧ z.tru ≠ 0 ∧ z.tru / 2 ^ n = 0)) := by unfold Cn.okPol; rw [hn2]
        rw [hn] at g0
        obtain ⟨q, hq⟩ : ∃ q, z.tru / 2 ^ n = q := ⟨_, rfl⟩
        have hsh := bin_shr16 (P := Tryd.prog) (t := 36) (k := .i64) (a := z.tru) (u := n) (by omega)
        rw [hq] at pol hsh
        by_cases p1 : z.pol = 1
        · by_cases t0 : z.tru = 0
          · skip
            have hy : Cn.okPol c.ups z = true := by rw [pol]; exact decide_eq_true (by omega)
            repeat ((first | with_reducible refine T_seq ?_ | with_reducible refine T_block ?_ | with_reducible refine T_region ?_ | with_reducible refine TL_nil ?_ | with_reducible refine TQ_then ?_ | with_reducible refine TQ_block ?_ | with_reducible refine T_skip ?_ | with_reducible refine T_exit ?_ | with_reducible refine TQ_then_exit ?_ | with_reducible refine TQ_block_exit ?_ | refine TL_q (op_move rfl) rfl ?_ | refine TL_q (op_assign rfl) rfl ?_ | (refine' TL_q (op_bin rfl rfl ?_) rfl ?_; rotate_left 1; (· (first | exact bin_add ⟨by omega, by omega⟩ | exact bin_eql | exact bin_neq | exact bin_lss))) | refine TL_q (op_fld rfl fld_38_1) rfl ?_ | refine TL_q (op_fld rfl fld_38_2) rfl ?_ | (refine' TL_q (op_ld rfl pl_3 ?_ ?_) rfl ?_; rotate_left 4; (· repeat ((exact List.mem_cons_self))); (· (assumption))) | (refine T_yes rfl ?_ ?_; (· (exact dT (by (first | assumption | omega))))) | (refine T_no rfl ?_ ?_; (· (first | exact dF (by (first | assumption | omega)) | exact nF (by (omega)))))))
            refine TQ_roundS (k + 1) ⟨by omega, nxt hy⟩ ?_ (fun _ h => h.tail) (by omega)
            (repeat ((first | exact trivial | refine ⟨rfl, ?_⟩)))
          · skip
            rw [mayZs_no hlt (fin false (by rw [pol]; exact decide_eq_false (by omega)))]
            repeat ((first | with_reducible refine T_seq ?_ | with_reducible refine T_block ?_ | with_reducible refine T_region ?_ | with_reducible refine TL_nil ?_ | with_reducible refine TQ_then ?_ | with_reducible refine T_skip ?_ | with_reducible refine T_exit ?_ | with_reducible refine T_ret ?_ | with_reducible refine TQ_then_exit ?_ | with_reducible refine TQ_then_ret ?_ | with_reducible refine TQ_block_exit ?_ | with_reducible refine TQ_block_ret ?_ | refine TL_q (op_assign rfl) rfl ?_ | (refine' TL_q (op_bin rfl rfl ?_) rfl ?_; rotate_left 1; (· (first | exact bin_eql | exact bin_neq | exact bin_lss))) | refine TL_q (op_fld rfl fld_38_1) rfl ?_ | refine TL_q (op_fld rfl fld_38_2) rfl ?_ | (refine' TL_q (op_ld rfl pl_3 ?_ ?_) rfl ?_; rotate_left 4; (· repeat ((exact List.mem_cons_self))); (· (assumption))) | (refine T_yes rfl ?_ ?_; (· (first | exact dT (by (first | assumption | omega)) | exact nT (by (first | assumption | omega))))) | (refine T_no rfl ?_ ?_; (· (exact dF (by (omega)))))))
            refine TQ_heap (fun w h => h.tail.tail) ?_
            refine TQ_ret1 2 _ rfl rfl ?_
            exact ⟨rfl, rfl⟩
        by_cases p2 : z.pol = 2
        · by_cases t0 : z.tru = 0
          · skip
            have hy : Cn.okPol c.ups z = true := by rw [pol]; exact decide_eq_true (by omega)
            repeat ((first | with_reducible refine T_seq ?_ | with_reducible refine T_block ?_ | with_reducible refine T_region ?_ | with_reducible refine TL_nil ?_ | with_reducible refine TQ_then ?_ | with_reducible refine TQ_block ?_ | with_reducible refine T_skip ?_ | with_reducible refine T_exit ?_ | with_reducible refine TQ_then_exit ?_ | with_reducible refine TQ_block_exit ?_ | refine TL_q (op_move rfl) rfl ?_ | refine TL_q (op_assign rfl) rfl ?_ | (refine' TL_q (op_bin rfl rfl ?_) rfl ?_; rotate_left 1; (· (first | exact bin_add ⟨by omega, by omega⟩ | exact bin_eql | exact bin_neq | exact bin_lss))) | refine TL_q (op_fld rfl fld_38_1) rfl ?_ | refine TL_q (op_fld rfl fld_38_2) rfl ?_ | (refine' TL_q (op_ld rfl pl_3 ?_ ?_) rfl ?_; rotate_left 4; (· repeat ((exact List.mem_cons_self))); (· (assumption))) | (refine T_yes rfl ?_ ?_; (· (exact dT (by (first | assumption | omega))))) | (refine T_no rfl ?_ ?_; (· (first | exact dF (by (first | assumption | omega)) | exact nF (by (omega)))))))
            refine TQ_roundS (k + 1) ⟨by omega, nxt hy⟩ ?_ (fun _ h => h.tail) (by omega)
            (repeat ((first | exact trivial | refine ⟨rfl, ?_⟩)))
          · skip
            rw [mayZs_no hlt (fin false (by rw [pol]; exact decide_eq_false (by omega)))]
            repeat ((first | with_reducible refine T_seq ?_ | with_reducible refine T_block ?_ | with_reducible refine T_region ?_ | with_reducible refine TL_nil ?_ | with_reducible refine TQ_then ?_ | with_reducible refine T_skip ?_ | with_reducible refine T_exit ?_ | with_reducible refine T_ret ?_ | with_reducible refine TQ_then_exit ?_ | with_reducible refine TQ_then_ret ?_ | with_reducible refine TQ_block_exit ?_ | with_reducible refine TQ_block_ret ?_ | refine TL_q (op_assign rfl) rfl ?_ | (refine' TL_q (op_bin rfl rfl ?_) rfl ?_; rotate_left 1; (· (first | exact bin_eql | exact bin_neq | exact bin_lss))) | refine TL_q (op_fld rfl fld_38_1) rfl ?_ | refine TL_q (op_fld rfl fld_38_2) rfl ?_ | (refine' TL_q (op_ld rfl pl_3 ?_ ?_) rfl ?_; rotate_left 4; (· repeat ((exact List.mem_cons_self))); (· (assumption))) | (refine T_yes rfl ?_ ?_; (· (first | exact dT (by (first | assumption | omega)) | exact nT (by (first | assumption | omega))))) | (refine T_no rfl ?_ ?_; (· (exact dF (by (omega)))))))
            refine TQ_heap (fun w h => h.tail.tail) ?_
            refine TQ_ret1 2 _ rfl rfl ?_
            exact ⟨rfl, rfl⟩
        by_cases p4 : z.pol = 4
        · by_cases t0 : z.tru = 0
          · skip
            have hy : Cn.okPol c.ups z = true := by rw [pol]; exact decide_eq_true (by omega)
            repeat ((first | with_reducible refine T_seq ?_ | with_reducible refine T_block ?_ | with_reducible refine T_region ?_ | with_reducible refine TL_nil ?_ | with_reducible refine TQ_then ?_ | with_reducible refine TQ_block ?_ | with_reducible refine T_skip ?_ | with_reducible refine T_exit ?_ | with_reducible refine TQ_then_exit ?_ | with_reducible refine TQ_block_exit ?_ | refine TL_q (op_move rfl) rfl ?_ | refine TL_q (op_assign rfl) rfl ?_ | (refine' TL_q (op_bin rfl rfl ?_) rfl ?_; rotate_left 1; (· (first | exact bin_add ⟨by omega, by omega⟩ | exact bin_eql | exact bin_neq | exact bin_lss))) | refine TL_q (op_fld rfl fld_38_1) rfl ?_ | refine TL_q (op_fld rfl fld_38_2) rfl ?_ | (refine' TL_q (op_ld rfl pl_3 ?_ ?_) rfl ?_; rotate_left 4; (· repeat ((exact List.mem_cons_self))); (· (assumption))) | (refine T_yes rfl ?_ ?_; (· (exact dT (by (first | assumption | omega))))) | (refine T_no rfl ?_ ?_; (· (first | exact dF (by (first | assumption | omega)) | exact nF (by (omega)))))))
            refine TQ_roundS (k + 1) ⟨by omega, nxt hy⟩ ?_ (fun _ h => h.tail) (by omega)
            (repeat ((first | exact trivial | refine ⟨rfl, ?_⟩)))
          · skip
            rw [mayZs_no hlt (fin false (by rw [pol]; exact decide_eq_false (by omega)))]
            repeat ((first | with_reducible refine T_seq ?_ | with_reducible refine T_block ?_ | with_reducible refine T_region ?_ | with_reducible refine TL_nil ?_ | with_reducible refine TQ_then ?_ | with_reducible refine T_exit ?_ | with_reducible refine T_ret ?_ | with_reducible refine TQ_then_exit ?_ | with_reducible refine TQ_then_ret ?_ | with_reducible refine TQ_block_exit ?_ | with_reducible refine TQ_block_ret ?_ | refine TL_q (op_assign rfl) rfl ?_ | (refine' TL_q (op_bin rfl rfl ?_) rfl ?_; rotate_left 1; (· (first | exact bin_eql | exact bin_neq | exact bin_lss))) | refine TL_q (op_fld rfl fld_38_1) rfl ?_ | refine TL_q (op_fld rfl fld_38_2) rfl ?_ | (refine' TL_q (op_ld rfl pl_3 ?_ ?_) rfl ?_; rotate_left 4; (· repeat ((exact List.mem_cons_self))); (· (assumption))) | (refine T_yes rfl ?_ ?_; (· (first | exact dT (by (first | assumption | omega)) | exact nT (by (first | assumption | omega))))) | (refine T_no rfl ?_ ?_; (· (exact dF (by (omega)))))))
            refine TQ_heap (fun w h => h.tail.tail) ?_
            refine TQ_ret1 2 _ rfl rfl ?_
            exact ⟨rfl, rfl⟩
        by_cases p3 : z.pol = 3
        · by_cases t0 : z.tru = 0
          · skip
            rw [mayZs_no hlt (fin false (by rw [pol]; exact decide_eq_false (by omega)))]
            repeat ((first | with_reducible refine T_seq ?_ | with_reducible refine T_block ?_ | with_reducible refine T_region ?_ | with_reducible refine TL_nil ?_ | with_reducible refine TQ_then ?_ | with_reducible refine T_exit ?_ | with_reducible refine T_ret ?_ | with_reducible refine TQ_then_exit ?_ | with_reducible refine TQ_then_ret ?_ | with_reducible refine TQ_block_exit ?_ | with_reducible refine TQ_block_ret ?_ | refine TL_q (op_move rfl) rfl ?_ | refine TL_q (op_assign rfl) rfl ?_ | (refine' TL_q (op_bin rfl rfl ?_) rfl ?_; rotate_left 1; (· (first | exact bin_eql | exact bin_lss))) | (refine' TL_q (op_pickT rfl ?_ rfl) rfl ?_; (· (exact dT (by (omega))))) | refine TL_q (op_fld rfl fld_38_1) rfl ?_ | refine TL_q (op_fld rfl fld_38_2) rfl ?_ | (refine' TL_q (op_ld rfl pl_3 ?_ ?_) rfl ?_; rotate_left 4; (· repeat ((exact List.mem_cons_self))); (· (assumption))) | (refine TL_gno rfl rfl ?_ rfl ?_; (· (exact dT (by (omega))))) | (refine T_yes rfl ?_ ?_; (· (first | with_reducible rfl | exact dT (by (omega))))) | (refine T_no rfl ?_ ?_; (· (exact dF (by (omega)))))))
            refine TQ_heap (fun w h => h.tail.tail) ?_
            refine TQ_ret1 2 _ rfl rfl ?_
            exact ⟨rfl, rfl⟩
          · by_cases q0 : q = 0
            · skip
              repeat ((first | with_reducible refine T_seq ?_ | with_reducible refine T_block ?_ | with_reducible refine T_region ?_ | with_reducible refine TL_nil ?_ | with_reducible refine TQ_then ?_ | with_reducible refine T_exit ?_ | with_reducible refine TQ_then_exit ?_ | with_reducible refine TQ_block_exit ?_ | refine TL_q (op_move rfl) rfl ?_ | refine TL_q (op_assign rfl) rfl ?_ | (refine' TL_q (op_bin rfl rfl ?_) rfl ?_; rotate_left 1; (· (first | exact bin_eql | exact bin_lss))) | refine TL_q (op_fld rfl fld_38_1) rfl ?_ | refine TL_q (op_fld rfl fld_38_2) rfl ?_ | (refine' TL_q (op_ld rfl pl_3 ?_ ?_) rfl ?_; rotate_left 4; (· repeat ((exact List.mem_cons_self))); (· (assumption))) | (refine TL_gpre rfl rfl ?_ ?_; (· (exact dF (by (omega))))) | refine TL_gq2 (op_fld rfl fld_25_0) rfl ?_ | refine TL_gq2 (op_fld rfl fld_38_2) rfl ?_ | (refine' TL_gq2 (op_ld rfl pl_3 ?_ ?_) rfl ?_; rotate_left 4; (· repeat ((first | exact List.mem_cons_self | apply List.mem_cons_of_mem))); (· (assumption))) | (refine T_yes rfl ?_ ?_; (· (exact dT (by (omega))))) | (refine T_no rfl ?_ ?_; (· (exact dF (by (omega)))))))
              refine TL_gq2 (op_bin rfl rfl hsh) rfl ?_
              have hy : Cn.okPol c.ups z = true := by rw [pol]; exact decide_eq_true (by omega)
              repeat ((first | with_reducible refine T_region ?_ | with_reducible refine TL_nil ?_ | with_reducible refine TQ_then ?_ | with_reducible refine TQ_block ?_ | with_reducible refine T_skip ?_ | refine TL_q (op_move rfl) rfl ?_ | (refine' TL_q (op_bin rfl rfl ?_) rfl ?_; rotate_left 1; (· (exact bin_add ⟨by omega, by omega⟩))) | (refine' TL_q (op_pickF rfl ?_ rfl) rfl ?_; (· (exact dF (by (omega))))) | (refine TL_gpre rfl rfl ?_ ?_; (· (exact dF (by (omega))))) | (refine' TL_gq2 (op_bin rfl rfl ?_) rfl ?_; rotate_left 1; (· (exact bin_neq))) | (refine T_no rfl ?_ ?_; (· (exact nF (by (omega)))))))
              refine TQ_roundS (k + 1) ⟨by omega, nxt hy⟩ ?_ (fun _ h => h.tail) (by omega)
              (repeat ((first | exact trivial | refine ⟨rfl, ?_⟩)))
            · skip
              rw [mayZs_no hlt (fin false (by rw [pol]; exact decide_eq_false (by omega)))]
              repeat ((first | with_reducible refine T_seq ?_ | with_reducible refine T_block ?_ | with_reducible refine T_region ?_ | with_reducible refine TL_nil ?_ | with_reducible refine TQ_then ?_ | with_reducible refine T_exit ?_ | with_reducible refine TQ_then_exit ?_ | with_reducible refine TQ_block_exit ?_ | refine TL_q (op_move rfl) rfl ?_ | refine TL_q (op_assign rfl) rfl ?_ | (refine' TL_q (op_bin rfl rfl ?_) rfl ?_; rotate_left 1; (· (first | exact bin_eql | exact bin_lss))) | refine TL_q (op_fld rfl fld_38_1) rfl ?_ | refine TL_q (op_fld rfl fld_38_2) rfl ?_ | (refine' TL_q (op_ld rfl pl_3 ?_ ?_) rfl ?_; rotate_left 4; (· repeat ((exact List.mem_cons_self))); (· (assumption))) | (refine TL_gpre rfl rfl ?_ ?_; (· (exact dF (by (omega))))) | refine TL_gq2 (op_fld rfl fld_25_0) rfl ?_ | refine TL_gq2 (op_fld rfl fld_38_2) rfl ?_ | (refine' TL_gq2 (op_ld rfl pl_3 ?_ ?_) rfl ?_; rotate_left 4; (· repeat ((first | exact List.mem_cons_self | apply List.mem_cons_of_mem))); (· (assumption))) | (refine T_yes rfl ?_ ?_; (· (exact dT (by (omega))))) | (refine T_no rfl ?_ ?_; (· (exact dF (by (omega)))))))
              refine TL_gq2 (op_bin rfl rfl hsh) rfl ?_
              repeat ((first | with_reducible refine T_seq ?_ | with_reducible refine T_region ?_ | with_reducible refine TL_nil ?_ | with_reducible refine TQ_then ?_ | with_reducible refine T_ret ?_ | with_reducible refine TQ_then_ret ?_ | with_reducible refine TQ_block_ret ?_ | refine TL_q (op_assign rfl) rfl ?_ | (refine' TL_q (op_pickF rfl ?_ rfl) rfl ?_; (· (exact dF (by (omega))))) | (refine TL_gpre rfl rfl ?_ ?_; (· (exact dF (by (omega))))) | (refine' TL_gq2 (op_bin rfl rfl ?_) rfl ?_; rotate_left 1; (· (exact bin_neq))) | (refine T_yes rfl ?_ ?_; (· (exact nT (by (omega)))))))
              refine TQ_heap (fun w h => h.tail.tail) ?_
              refine TQ_ret1 2 _ rfl rfl ?_
              exact ⟨rfl, rfl⟩
        rw [mayZs_no hlt (fin false (by rw [pol]; exact decide_eq_false (by omega)))]
        repeat ((first | with_reducible refine T_seq ?_ | with_reducible refine T_block ?_ | with_reducible refine T_region ?_ | with_reducible refine TL_nil ?_ | with_reducible refine TQ_then ?_ | with_reducible refine T_exit ?_ | with_reducible refine T_ret ?_ | with_reducible refine TQ_then_exit ?_ | with_reducible refine TQ_then_ret ?_ | with_reducible refine TQ_block_exit ?_ | with_reducible refine TQ_block_ret ?_ | refine TL_q (op_assign rfl) rfl ?_ | (refine' TL_q (op_bin rfl rfl ?_) rfl ?_; rotate_left 1; (· (first | exact bin_eql | exact bin_lss))) | refine TL_q (op_fld rfl fld_38_1) rfl ?_ | (refine' TL_q (op_ld rfl pl_3 ?_ ?_) rfl ?_; rotate_left 4; (· repeat ((exact List.mem_cons_self))); (· (assumption))) | (refine T_no rfl ?_ ?_; (· (exact dF (by (omega)))))))
        refine TQ_heap (fun w h => h.tail.tail) ?_
        refine TQ_ret1 2 _ rfl rfl ?_
        exact ⟨rfl, rfl⟩
  · have hil : i = c.zs.length := by omega
    subst hil
    rw [mayZs_yes (by omega) hall]
    repeat ((first | with_reducible refine T_seq ?_ | with_reducible refine T_region ?_ | with_reducible refine TL_nil ?_ | with_reducible refine TQ_then ?_ | with_reducible refine T_exit ?_ | with_reducible refine T_ret ?_ | with_reducible refine TQ_then_exit ?_ | with_reducible refine TQ_block_exit ?_ | refine TL_q (op_assign rfl) rfl ?_ | (refine' TL_q (op_bin rfl rfl ?_) rfl ?_; rotate_left 1; (· (exact bin_lss))) | (refine T_no rfl ?_ ?_; (· (exact dF (by (omega)))))))
    refine TQ_heap (fun w h => h.tail) ?_
    refine TQ_ret1 2 _ rfl rfl ?_
    exact ⟨rfl, rfl⟩
end Go.Proofs.YtnhlpifbadncmaaDoor
namespace Go.Proofs.YtnhlpifbadncmaaDoor
open Go.RowKit
open Cn (Zo Cf)
set_option linter.unusedVariables false
set_option linter.unusedSimpArgs false
--auto
variable {G : World} {L : Blocks}
/-- What may be told of a configuration. -/
structure CfL (L : Blocks) (c : Cf) (v : Value) : Prop where
  row : sliceR 3 zoR L [v] c.zs
  small : ∀ z ∈ c.zs, z.name.length ≤ 1000000
theorem CfL.mono {L' : Blocks} {c : Cf} {v : Value} (h : CfL L c v) (hs : ∀ p ∈ L, p ∈ L') : CfL L' c v := ⟨mono_slice mono_zo _ _ _ _ hs h.row, h.small⟩
theorem mayNum_ups {c : Cf} (h : Cn.mayNum c = true) : 1 ≤ c.ups ∧ c.ups ≤ 9 := by
  have := of_decide_eq_true h
  omega
def mayE1 (c : Cf) : Int := if Cn.mayP c then 0 else 1
set_option maxRecDepth 100000 in
set_option maxHeartbeats 4000000 in
theorem pMay_S (c : Cf) (v : Value) (h : CfL L c v) : Spec Tryd.prog G 11 #[.agg (cfCells c v).toArray] L fun u M => u = .int .i64 (mayE1 c) ∧ M = L := by
  refine Spec_of (n := 11) Tryd.func11 rfl rfl rfl ?_
  refine T_seq (T_region (TL_new (op_boxA rfl) rfl ?_))
  intro b1
  repeat ((first | with_reducible refine T_seq ?_ | with_reducible refine T_region ?_ | with_reducible refine TL_nil ?_ | with_reducible refine TQ_then ?_ | refine TL_q (op_assign rfl) rfl ?_ | (refine' TL_q (op_ldAll rfl st_25 ?_ ?_) rfl ?_; rotate_left 3; (· repeat ((exact List.mem_cons_self))); (· (rfl)))))
  refine TL_op (op_call hb_26 rfl (mayNum_S c v)) rfl ?_
  cases hn : Cn.mayNum c with
  | false =>
    have hm : mayE1 c = 1 := by unfold mayE1 Cn.mayP; rw [hn]; rfl
    rw [hm]
    repeat ((first | with_reducible refine T_seq ?_ | with_reducible refine T_region ?_ | with_reducible refine TL_nil ?_ | with_reducible refine TQ_then ?_ | with_reducible refine T_ret ?_ | with_reducible refine TQ_then_ret ?_ | refine TL_q (op_move rfl) rfl ?_ | refine TL_q (op_assign rfl) rfl ?_ | refine TL_q (op_not rfl) rfl ?_ | (refine' TL_q (op_pickT rfl ?_ rfl) rfl ?_; (· (exact Bool.not_false))) | (refine TL_gno rfl rfl ?_ rfl ?_; (· (with_reducible rfl))) | (refine T_yes rfl ?_ ?_; (· (with_reducible rfl)))))
    refine TQ_heap (fun w h => h.tail) ?_
    refine TQ_ret1 2 _ rfl rfl ?_
    exact ⟨rfl, rfl⟩
  | true =>
    repeat ((first | refine TL_q (op_move rfl) rfl ?_ | refine TL_q (op_not rfl) rfl ?_ | (refine TL_gpre rfl rfl ?_ ?_; (· (exact Bool.not_true))) | (refine' TL_gq2 (op_ldAll rfl st_25 ?_ ?_) rfl ?_; rotate_left 3; (· repeat ((exact List.mem_cons_self))); (· (rfl)))))
    refine TG_op (op_call hb_27 rfl (mayZones_S c v (mono_slice mono_zo _ _ _ _ (mem_of_cnt (by intro p; (try simp only [cnt_append, cnt_cons, cnt_nil]) <;> omega)) h.row) (mayNum_ups hn) h.small)) rfl ?_
    cases hz : Cn.mayZs c.ups c.zs with
    | false =>
      have hm : mayE1 c = 1 := by unfold mayE1 Cn.mayP; rw [hn, hz]; rfl
      rw [hm]
      repeat ((first | with_reducible refine T_seq ?_ | with_reducible refine T_region ?_ | with_reducible refine TL_nil ?_ | with_reducible refine TQ_then ?_ | with_reducible refine T_ret ?_ | with_reducible refine TQ_then_ret ?_ | refine TL_q (op_assign rfl) rfl ?_ | (refine' TL_q (op_pickF rfl ?_ rfl) rfl ?_; (· (exact Bool.not_true))) | (refine TL_gpre rfl rfl ?_ ?_; (· (exact Bool.not_true))) | refine TL_gq2 (op_not rfl) rfl ?_ | (refine T_yes rfl ?_ ?_; (· (exact Bool.not_false)))))
      refine TQ_heap (fun w h => h.tail) ?_
      refine TQ_ret1 2 _ rfl rfl ?_
      exact ⟨rfl, rfl⟩
    | true =>
      have hm : mayE1 c = 0 := by unfold mayE1 Cn.mayP; rw [hn, hz]; rfl
      rw [hm]
      repeat ((first | with_reducible refine T_seq ?_ | with_reducible refine T_region ?_ | with_reducible refine TL_nil ?_ | with_reducible refine TQ_then ?_ | with_reducible refine T_skip ?_ | with_reducible refine T_ret ?_ | refine TL_q (op_assign rfl) rfl ?_ | (refine' TL_q (op_pickF rfl ?_ rfl) rfl ?_; (· (exact Bool.not_true))) | (refine TL_gpre rfl rfl ?_ ?_; (· (exact Bool.not_true))) | refine TL_gq2 (op_not rfl) rfl ?_ | (refine T_no rfl ?_ ?_; (· (exact Bool.not_true)))))
      refine TQ_heap (fun w h => h.tail) ?_
      refine TQ_ret1 2 _ rfl rfl ?_
      exact ⟨rfl, rfl⟩
theorem mayE1_yes {c : Cf} (h : Cn.mayP c = true) : mayE1 c = 0 := if_pos h
theorem mayE1_no {c : Cf} (h : Cn.mayP c = false) : mayE1 c = 1 := if_neg (by rw [h]; decide)
set_option maxRecDepth 100000 in
set_option maxHeartbeats 4000000 in
theorem pLies_S (c : Cf) (v : Value) (h : CfL L c v) : Spec Tryd.prog G 12 #[.agg (cfCells c v).toArray] L fun u M => u = .int .i64 (Cn.liesP c) ∧ M = L := by
  refine Spec_of (n := 9) Tryd.func12 rfl rfl rfl ?_
  refine T_seq (T_region (TL_new (op_boxA rfl) rfl ?_))
  intro b1
  have g0 : (cfCells (c) (v)).toArray[0 + 0]? = some (.int .i64 (c).ups) := rfl
  have g1 : (cfCells (c) (v)).toArray[0 + 1]? = some (.int .i64 (c).ded) := rfl
  have g2 : (cfCells (c) (v)).toArray[0 + 2]? = some (.int .i64 (c).hdg) := rfl
  have g3 : (cfCells (c) (v)).toArray[0 + 3]? = some (.int .i64 (c).wai) := rfl
  have g4 : (cfCells (c) (v)).toArray[0 + 4]? = some (.int .i64 (c).tri) := rfl
  have g5 : (cfCells (c) (v)).toArray[0 + 5]? = some (.int .i64 (c).res) := rfl
  have g6 : (cfCells (c) (v)).toArray[0 + 6]? = some (.int .i64 (c).lim) := rfl
  have g7 : (cfCells (c) (v)).toArray[0 + 7]? = some (.int .i64 (c).cac) := rfl
  have g8 : (cfCells (c) (v)).toArray[0 + 8]? = some (.int .i64 (c).fli) := rfl
  have g9 : (cfCells (c) (v)).toArray[0 + 9]? = some (.int .i64 (c).wtr) := rfl
  have g10 : (cfCells (c) (v)).toArray[0 + 10]? = some (.int .i64 (c).ttl) := rfl
  have g11 : (cfCells (c) (v)).toArray[0 + 11]? = some (.int .i64 (c).siz) := rfl
  have g12 : (cfCells (c) (v)).toArray[0 + 12]? = some (v) := rfl
  repeat ((first | with_reducible refine T_seq ?_ | with_reducible refine T_region ?_ | with_reducible refine TL_nil ?_ | with_reducible refine TQ_then ?_ | refine TL_q (op_assign rfl) rfl ?_ | (refine' TL_q (op_ldAll rfl st_25 ?_ ?_) rfl ?_; rotate_left 3; (· repeat ((exact List.mem_cons_self))); (· (rfl)))))
  refine TL_op (op_call hb_11 rfl (pMay_S c v (h.mono (mem_of_cnt (by intro p; (try simp only [cnt_append, cnt_cons, cnt_nil]) <;> omega))))) rfl ?_
  cases hm : Cn.mayP c with
  | true =>
    have he : mayE1 c = 0 := mayE1_yes hm
    have hu := mayNum_ups (Bool.and_eq_true_iff.1 hm).1
    have hl : Cn.liesP c = c.ups / 2 := by unfold Cn.liesP; rw [if_pos hm]
    rw [he, hl]
    repeat ((first | with_reducible refine T_seq ?_ | with_reducible refine T_region ?_ | with_reducible refine TL_nil ?_ | with_reducible refine TQ_then ?_ | with_reducible refine T_skip ?_ | with_reducible refine T_ret ?_ | refine TL_q (op_assign rfl) rfl ?_ | (refine' TL_q (op_bin rfl rfl ?_) rfl ?_; rotate_left 1; (· (first | exact bin_quo (by omega) (by omega) ⟨by omega, by omega⟩ | exact bin_neq))) | refine TL_q (op_fld rfl fld_25_0) rfl ?_ | (refine' TL_q (op_ld rfl pl_3 ?_ ?_) rfl ?_; rotate_left 4; (· repeat ((exact List.mem_cons_self))); (· (assumption))) | (refine T_no rfl ?_ ?_; (· (exact Bool.not_true)))))
    refine TQ_heap (fun w h => h.tail) ?_
    refine TQ_ret1 2 _ rfl rfl ?_
    exact ⟨rfl, rfl⟩
  | false =>
    have he : mayE1 c = 1 := mayE1_no hm
    have hl : Cn.liesP c = 0 := by unfold Cn.liesP; rw [hm]; rfl
    rw [he, hl]
    repeat ((first | with_reducible refine T_seq ?_ | with_reducible refine T_region ?_ | with_reducible refine TL_nil ?_ | with_reducible refine TQ_then ?_ | with_reducible refine T_ret ?_ | with_reducible refine TQ_then_ret ?_ | refine TL_q (op_assign rfl) rfl ?_ | (refine' TL_q (op_bin rfl rfl ?_) rfl ?_; rotate_left 1; (· (exact bin_neq))) | (refine T_yes rfl ?_ ?_; (· (exact Bool.not_false)))))
    refine TQ_heap (fun w h => h.tail) ?_
    refine TQ_ret1 2 _ rfl rfl ?_
    exact ⟨rfl, rfl⟩
end Go.Proofs.YtnhlpifbadncmaaDoor
namespace Go.Proofs.YtnhlpifbadncmaaDoor
open Go.RowKit
open Cn (Zo Cf)
set_option linter.unusedVariables false
set_option linter.unusedSimpArgs false
--auto
variable {G : World} {L : Blocks}
set_option maxRecDepth 100000 in
set_option maxHeartbeats 1000000 in
theorem WriteString_spec (b : Nat) (l t : Nm.Bytes) (B : Blocks) (h : BuildRep b l B) (hl : l.length ≤ 10000000) (ht : t.length ≤ 10000000) :
    Spec Tryd.prog G 29 #[.pointer (some ⟨b, 0, none⟩), .string (bs t)] (B ++ L) fun u M => ∃ B', BuildRep b (l ++ t) B' ∧ M = B' ++ L := by
  obtain ⟨p, v, B1, hp, hR, rfl⟩ := h.is
  obtain ⟨a1, c1, rfl⟩ := hR.slice
  refine Spec_of (n := 19) Tryd.func29 rfl rfl rfl ?_
  repeat ((first | with_reducible refine T_seq ?_ | with_reducible refine T_region ?_ | with_reducible refine TL_nil ?_ | with_reducible refine TQ_then ?_ | refine TL_q (op_move rfl) rfl ?_ | refine TL_q (op_assign rfl) rfl ?_))
  refine TL_opT (op_call hb_53 rfl (copyCheck_spec b p _ hp)) rfl ?_
  rintro u8 _ rfl
  repeat ((first | with_reducible refine T_seq ?_ | with_reducible refine T_region ?_ | with_reducible refine TL_nil ?_ | with_reducible refine TQ_then ?_ | refine TL_q (op_move rfl) rfl ?_ | refine TL_q (op_nilCheck rfl) rfl ?_ | refine TL_q (op_fld rfl fld_50_1) rfl ?_ | (refine' TL_q (op_ld rfl pl_48 ?_ ?_) rfl ?_; rotate_left 4; (· repeat ((exact List.mem_cons_self))); (· (rfl)))))
  refine TL_perm List.perm_middle.symm ?_
  refine TL_appS ety_48 Tryd.underlying9 rfl rfl hR (by omega) rfl ?_
  intro v8 B8 hR8
  obtain ⟨a8, c8, rfl⟩ := hR8.slice
  refine TL_perm List.perm_middle ?_
  repeat ((first | with_reducible refine T_seq ?_ | with_reducible refine T_region ?_ | with_reducible refine TL_nil ?_ | with_reducible refine TQ_then ?_ | with_reducible refine T_ret ?_ | refine TL_q (op_move rfl) rfl ?_ | refine TL_q (op_assign rfl) rfl ?_ | refine TL_q (op_nilCheck rfl) rfl ?_ | refine TL_q (op_len_str rfl Tryd.underlying9) rfl ?_ | refine TL_q (op_fld rfl fld_50_1) rfl ?_ | (refine' TL_st rfl rfl one_48 rfl ?_ rfl ?_; rotate_left 1; (· (rfl)))))
  refine TQ_ret2 4 5 _ _ rfl rfl rfl ?_
  exact ⟨_, ⟨_, _, B8, Or.inr rfl, by simpa using hR8, rfl⟩, rfl⟩
end Go.Proofs.YtnhlpifbadncmaaDoor
namespace Go.Proofs.YtnhlpifbadncmaaDoor
open Go.RowKit
open Cn (Zo Cf)
set_option linter.unusedVariables false
set_option linter.unusedSimpArgs false
theorem wr_clean (c : UInt8) : ∀ x ∈ wr c, 33 ≤ x.toNat := by
  intro x hx
  unfold wr at hx
  have dg : ∀ k : Nat, k ≤ 9 → (UInt8.ofNat (48 + k)).toNat = 48 + k := fun k hk => by simp; omega
  have hb := c.toNat_lt
  split at hx
  · rename_i h
    simp only [List.mem_cons, List.not_mem_nil, or_false] at hx
    rcases hx with rfl | rfl
    · decide
    · omega
  · split at hx
    · simp only [List.mem_cons, List.not_mem_nil, or_false] at hx
      rcases hx with rfl | rfl | rfl | rfl
      · decide
      · rw [dg _ (by omega)]; omega
      · rw [dg _ (by omega)]; omega
      · rw [dg _ (by omega)]; omega
    · simp only [List.mem_cons, List.not_mem_nil, or_false] at hx
      subst hx
      omega
theorem txtOf_clean (ls : List Nm.Bytes) : ∀ x ∈ txtOf ls, 33 ≤ x.toNat := by
  intro x hx
  obtain ⟨l, _, hl⟩ := List.mem_flatMap.1 hx
  rcases List.mem_append.1 hl with hl | hl
  · obtain ⟨c, _, hc⟩ := List.mem_flatMap.1 hl
    exact wr_clean c x hc
  · simp only [List.mem_cons, List.not_mem_nil, or_false] at hl
    subst hl
    decide
def theT : Cn.Names := ⟨textN, fun t => (parseV t, parseE t)⟩
theorem theT_ok : theT.Ok where
  back n h := by
    obtain ⟨h1, h2, _⟩ := parse_text h
    show (parseV (textN n), parseE (textN n)) = (n, 0)
    rw [h1, h2]
  may t n h := by
    have h1 : parseV t = n := congrArg Prod.fst h
    have h2 : parseE t = 0 := congrArg Prod.snd h
    rw [← h1]
    exact parse_may h2
  clean n h := by
    show ∀ c ∈ textN n, 33 ≤ c.toNat
    cases hn : Nm.nm n with
    | none => unfold Nm.may at h; rw [hn] at h; cases h
    | some ls =>
      cases ls with
      | nil =>
        intro c hc
        unfold textN at hc
        rw [hn] at hc
        simp only [List.mem_cons, List.not_mem_nil, or_false] at hc
        subst hc
        decide
      | cons l ls => rw [text_name hn]; exact txtOf_clean _
  len n h := (parse_text h).2.2.1
/-- A text's first lines. -/
def pre (ls : List Nm.Bytes) (k : Nat) : Nm.Bytes := Cn.unlines (ls.take k) []
theorem pre_succ {ls : List Nm.Bytes} {k : Nat} {l : Nm.Bytes} (h : ls[k]? = some l) : pre ls (k + 1) = pre ls k ++ (l ++ [10]) := by
  unfold pre Cn.unlines
  rw [List.take_add_one, h]
  simp
theorem pre_all (ls : List Nm.Bytes) : pre ls ls.length = Cn.unlines ls [] := by unfold pre; rw [List.take_length]
theorem pre_len {c : Cf} (h : Cn.mayP c = true) (k : Nat) : (pre (Cn.lineL theT c) k).length ≤ 40000 := by
  have h1 := Cn.unlines_take (Cn.lineL theT c) k
  have h2 := Cn.textC_len theT_ok h
  unfold Cn.textC at h2
  unfold pre
  omega
theorem lineL_num (c : Cf) {k : Nat} {w : Nm.Bytes} {v : Int} (hw : Cn.words12[k]? = some w) (hv : c.nums[k]? = some v) : (Cn.lineL theT c)[k]? = some (Cn.numLine w v) := by
  have hk := (List.getElem?_eq_some_iff.1 hw).1
  have h12 : (List.zipWith Cn.numLine Cn.words12 c.nums).length = 12 := rfl
  unfold Cn.lineL
  rw [List.getElem?_append_left (by rw [h12]; exact hk), List.getElem?_zipWith, hw, hv]
theorem lineL_zone (c : Cf) {i : Nat} {z : Zo} (h : c.zs[i]? = some z) : (Cn.lineL theT c)[12 + i]? = some (Cn.zoneLine theT z) := by
  have h12 : (List.zipWith Cn.numLine Cn.words12 c.nums).length = 12 := rfl
  unfold Cn.lineL
  rw [List.getElem?_append_right (by rw [h12]; omega), h12, Nat.add_sub_cancel_left, List.getElem?_map, h]
  rfl
theorem lineL_len (c : Cf) : (Cn.lineL theT c).length = 12 + c.zs.length := by
  unfold Cn.lineL
  rw [List.length_append, List.length_map]
  rfl
/-- The numerals of the first upstreams. -/
def tb (t u : Nat) : Nm.Bytes := ((List.range u).filter fun u => t.testBit u).flatMap fun u => 32 :: Lib.decDigits u
theorem tb_zero (t : Nat) : tb t 0 = [] := rfl
theorem tb_yes {t u : Nat} (h : t.testBit u = true) : tb t (u + 1) = tb t u ++ (32 :: Lib.decDigits u) := by
  unfold tb
  rw [List.range_succ, List.filter_append]
  simp [h]
theorem tb_no {t u : Nat} (h : t.testBit u = false) : tb t (u + 1) = tb t u := by
  unfold tb
  rw [List.range_succ, List.filter_append]
  simp [h]
theorem tb_all (t : Nat) : tb t 16 = Cn.trustB t := rfl
theorem tb_len (t : Nat) : ∀ u, u ≤ 16 → (tb t u).length ≤ 3 * u
  | 0, _ => by rw [tb_zero]; simp
  | u + 1, h => by
    have := tb_len t u (by omega)
    cases hb : t.testBit u with
    | false => rw [tb_no hb]; omega
    | true =>
      rw [tb_yes hb, List.length_append, List.length_cons]
      have := Cn.dec_len16 (show u ≤ 15 by omega)
      omega
end Go.Proofs.YtnhlpifbadncmaaDoor
namespace Go.Proofs.YtnhlpifbadncmaaDoor
open Go.RowKit
open Cn (Zo Cf)
set_option linter.unusedVariables false
set_option linter.unusedSimpArgs false
--auto
variable {G : World} {L : Blocks}
/-- A number of an array that is a value. -/
theorem op_idxN {P : Program} {ρ : Slots} {ty : TypeId} {x y : Operand} {C : Array Value} {t e : TypeId} {len : Nat} {k k2 : IntKind} {i : Int} {v : Value} (hx : ev ρ x = some (.agg C)) (hy : ev ρ y = some (.int k i)) (hu : P.underlying t = some (.array len e)) (he : P.underlying e = some (.int k2)) (hs : (P.info? e).map (·.size) = some 1)
    (h0 : 0 ≤ i) (h1 : i < len) (hv : C[i.toNat]? = some v) : OpQ P ρ L (.index t x y) ty v :=
  ⟨fun r hr w hw o ho _ => by
    cases hi : P.info? e with
    | none => simp [hi] at hs
    | some ti =>
      simp [hi] at hs
      have ha : (isAgg e).run P w = .ok false w := by
        unfold isAgg
        simp [run_underlying he]
      have hlt : i.toNat < C.size := (Array.getElem?_eq_some_iff.1 hv).1
      simp [execOp, ho, hr _ _ hx, hr _ _ hy, Instr.index, asIntOf, run_underlying hu, h0, h1, part, ha, sizeOf, typeInfo, hi, hs, hv]⟩
theorem hbWS : hasBody Tryd.prog 29 = true := by kernel_rfl
theorem hbIt : hasBody Tryd.prog 31 = true := by kernel_rfl
theorem hbCut : hasBody Tryd.prog 47 = true := by kernel_rfl
theorem hbSp : hasBody Tryd.prog 63 = true := by kernel_rfl
def showV (c : Cf) : Value := .tuple #[.string (bs (Cn.showP theT c).1), .int .i64 (Cn.showP theT c).2]
set_option maxRecDepth 100000 in
set_option maxHeartbeats 8000000 in
theorem pShow_S (c : Cf) (v : Value) (h : CfL L c v) (hg : Glob L) : Spec Tryd.prog G 13 #[.agg (cfCells c v).toArray] L fun u M => u = showV c ∧ M = L := by
  have hz := h.row
  obtain ⟨a, cap, e, hz⟩ := hz.val
  obtain rfl := (List.cons.inj e).1
  clear e
  have hmax := (sliceR.cut hz).2.2.1
  have hcap := (sliceR.cut hz).2.1
  unfold maxLen at hmax
  refine Spec_of (n := 63) Tryd.func13 rfl rfl rfl ?_
  refine T_seq (T_region (TL_new (op_boxA rfl) rfl ?_))
  intro b1
  have g0 : (cfCells (c) (.slice a c.zs.length cap)).toArray[0 + 0]? = some (.int .i64 (c).ups) := rfl
  have g1 : (cfCells (c) (.slice a c.zs.length cap)).toArray[0 + 1]? = some (.int .i64 (c).ded) := rfl
  have g2 : (cfCells (c) (.slice a c.zs.length cap)).toArray[0 + 2]? = some (.int .i64 (c).hdg) := rfl
  have g3 : (cfCells (c) (.slice a c.zs.length cap)).toArray[0 + 3]? = some (.int .i64 (c).wai) := rfl
  have g4 : (cfCells (c) (.slice a c.zs.length cap)).toArray[0 + 4]? = some (.int .i64 (c).tri) := rfl
  have g5 : (cfCells (c) (.slice a c.zs.length cap)).toArray[0 + 5]? = some (.int .i64 (c).res) := rfl
  have g6 : (cfCells (c) (.slice a c.zs.length cap)).toArray[0 + 6]? = some (.int .i64 (c).lim) := rfl
  have g7 : (cfCells (c) (.slice a c.zs.length cap)).toArray[0 + 7]? = some (.int .i64 (c).cac) := rfl
  have g8 : (cfCells (c) (.slice a c.zs.length cap)).toArray[0 + 8]? = some (.int .i64 (c).fli) := rfl
  have g9 : (cfCells (c) (.slice a c.zs.length cap)).toArray[0 + 9]? = some (.int .i64 (c).wtr) := rfl
  have g10 : (cfCells (c) (.slice a c.zs.length cap)).toArray[0 + 10]? = some (.int .i64 (c).ttl) := rfl
  have g11 : (cfCells (c) (.slice a c.zs.length cap)).toArray[0 + 11]? = some (.int .i64 (c).siz) := rfl
  have g12 : (cfCells (c) (.slice a c.zs.length cap)).toArray[0 + 12]? = some (.slice a c.zs.length cap) := rfl
  repeat ((first | with_reducible refine T_seq ?_ | with_reducible refine T_region ?_ | with_reducible refine TL_nil ?_ | with_reducible refine TQ_then ?_ | refine TL_q (op_assign rfl) rfl ?_ | (refine' TL_q (op_ldAll rfl st_25 ?_ ?_) rfl ?_; rotate_left 3; (· repeat ((exact List.mem_cons_self))); (· (rfl)))))
  refine TL_op (op_call hb_11 rfl (pMay_S c _ (h.mono (mem_of_cnt (by intro p; (try simp only [cnt_append, cnt_cons, cnt_nil]) <;> omega))))) rfl ?_
  cases hm : Cn.mayP c with
  | false =>
    have hs : showV c = .tuple #[.string (bs []), .int .i64 1] := by unfold showV Cn.showP; rw [hm]; rfl
    rw [mayE1_no hm, hs]
    repeat ((first | with_reducible refine T_seq ?_ | with_reducible refine T_region ?_ | with_reducible refine TL_nil ?_ | with_reducible refine TQ_then ?_ | with_reducible refine T_ret ?_ | with_reducible refine TQ_then_ret ?_ | refine TL_q (op_assign rfl) rfl ?_ | (refine' TL_q (op_bin rfl rfl ?_) rfl ?_; rotate_left 1; (· (exact bin_neq))) | (refine T_yes rfl ?_ ?_; (· (exact Bool.not_false)))))
    refine TQ_heap (fun w h => h.tail) ?_
    refine TQ_ret2 2 3 _ _ rfl rfl rfl ?_
    exact ⟨rfl, rfl⟩
  | true =>
    have hs : showV c = .tuple #[.string (bs (pre (Cn.lineL theT c) (Cn.lineL theT c).length)), .int .i64 0] := by
      unfold showV Cn.showP
      rw [hm, pre_all]
      rfl
    rw [mayE1_yes hm, hs]
    have hrange := Cn.mayNum_range (Bool.and_eq_true_iff.1 hm).1
    have hzones := Cn.mayP_zones hm
    repeat ((first | with_reducible refine T_seq ?_ | with_reducible refine T_region ?_ | with_reducible refine TL_nil ?_ | with_reducible refine TQ_then ?_ | with_reducible refine T_skip ?_ | (refine' TL_q (op_bin rfl rfl ?_) rfl ?_; rotate_left 1; (· (exact bin_neq))) | (refine' TL_q (op_ldAll rfl st_25 ?_ ?_) rfl ?_; rotate_left 3; (· repeat ((first | exact List.mem_cons_self | apply List.mem_cons_of_mem))); (· (rfl))) | (refine TL_new (op_alloc (C := #[(.pointer none), (.slice none 0 0)]) zero_50 rfl) rfl ?_; intro bNew) | (refine T_no rfl ?_ ?_; (· (exact Bool.not_true)))))
    obtain ⟨b4, hb4⟩ : ∃ b, bNew = b := ⟨_, rfl⟩
    rw [hb4]
    clear hb4 bNew
    refine TL_op (op_call hb_28 rfl (values_S c _)) rfl ?_
    obtain ⟨tw, frw, hgw⟩ := hg.words
    repeat ((first | with_reducible refine T_block ?_ | with_reducible refine TL_nil ?_ | with_reducible refine TQ_then ?_ | refine TL_q (op_move rfl) rfl ?_))
    refine T_loopS (σ := Nat × Blocks) (fun x => x.1 ≤ 12 ∧ BuildRep b4 (pre (Cn.lineL theT c) x.1) x.2) (fun x => [(1, .pointer (some ⟨b1, 0, none⟩)), (4, .pointer (some ⟨b4, 0, none⟩)), (14, .agg (c.nums.map (Value.int .i64)).toArray), (15, .int .i64 (x.1 : Nat))]) (fun x => x.2 ++ ((b1, Obj.cells (cfCells c (.slice a c.zs.length cap)).toArray 25 (0, 0)) :: L)) (fun x => 12 - x.1) (0, [(b4, .cells #[.pointer none, .slice none 0 0] 50 (0, 0))]) ⟨Nat.zero_le _, ⟨_, _, [], Or.inl rfl, Row.nil _ _, rfl⟩⟩ ?_ (fun _ h => h) ?_
    (repeat ((first | exact trivial | refine ⟨rfl, ?_⟩)))
    rintro ⟨k, B⟩ ⟨hk, hB⟩
    dsimp only at hk hB ⊢
    by_cases hlt : k < 12
    · obtain ⟨w, hw⟩ : ∃ w, Cn.words12[k]? = some w := ⟨_, List.getElem?_eq_getElem hlt⟩
      obtain ⟨x, hx⟩ : ∃ x, c.nums[k]? = some x := ⟨_, List.getElem?_eq_getElem hlt⟩
      have hline := lineL_num c hw hx
      have hpl := pre_len hm k
      have hx0 := hrange x (List.mem_of_getElem? hx)
      have hwl : w.length ≤ 8 := (by decide : ∀ w ∈ Cn.words12, w.length ≤ 8) w (List.mem_of_getElem? hw)
      obtain ⟨n, rfl⟩ : ∃ n : Nat, x = (n : Nat) := ⟨x.toNat, by omega⟩
      have hdl := Cn.decD_len n (by omega)
      have hgm : (0, Obj.cells (Cn.words12.map txtV).toArray tw frw) ∈ B ++ ((b1, Obj.cells (cfCells c (.slice a c.zs.length cap)).toArray 25 (0, 0)) :: L) := List.mem_append_right _ (List.mem_cons_of_mem _ hgw)
      have hword : (Cn.words12.map txtV).toArray[0 + k * 1]? = some (.string (bs w)) := by
        rw [List.getElem?_toArray, Nat.zero_add, Nat.mul_one, List.getElem?_map, hw]; rfl
      have hnum : (c.nums.map (Value.int .i64)).toArray[((k : Nat) : Int).toNat]? = some (.int .i64 (n : Nat)) := by
        rw [List.getElem?_toArray, Int.toNat_natCast, List.getElem?_map, hx]; rfl
      repeat ((first | with_reducible refine T_seq ?_ | with_reducible refine T_block ?_ | with_reducible refine T_region ?_ | with_reducible refine TL_nil ?_ | with_reducible refine TQ_then ?_ | with_reducible refine T_skip ?_ | refine TL_q (op_move rfl) rfl ?_ | (refine' TL_q (op_bin rfl rfl ?_) rfl ?_; rotate_left 1; (· (exact bin_lss))) | (refine T_yes rfl ?_ ?_; (· (exact dT (by (omega)))))))
      refine TL_q (op_idxN rfl rfl Tryd.underlying51 Tryd.underlying3 (by kernel_rfl) (by omega) (by omega) hnum) rfl ?_
      repeat ((first | with_reducible refine T_seq ?_ | with_reducible refine T_region ?_ | with_reducible refine TL_nil ?_ | with_reducible refine TQ_then ?_ | refine TL_q (op_move rfl) rfl ?_ | refine TL_q (op_assign rfl) rfl ?_ | (refine' TL_q (op_idxA arr_57 rfl rfl ?_ ?_) rfl ?_; (· omega); (· omega)) | (refine' TL_q (op_ld rfl pl_5 ?_ ?_) rfl ?_; rotate_left 4; (· repeat ((assumption))); (· (assumption)))))
      refine TL_opT (op_call hbWS rfl (WriteString_spec b4 _ w _ hB (by (try simp only [List.length_append, List.length_cons, List.length_nil]); omega) (by omega))) rfl ?_
      rintro _ _ ⟨B2, hB2, rfl⟩
      repeat ((first | with_reducible refine T_seq ?_ | with_reducible refine T_region ?_ | with_reducible refine TL_nil ?_ | with_reducible refine TQ_then ?_))
      refine TL_opT (op_call hb_30 rfl (WriteByte_spec b4 _ _ 32 hB2 (by (try simp only [List.length_append, List.length_cons, List.length_nil]); omega))) rfl ?_
      rintro _ _ ⟨rfl, B3, hB3, rfl⟩
      repeat ((first | with_reducible refine T_seq ?_ | with_reducible refine T_region ?_ | with_reducible refine TL_nil ?_ | with_reducible refine TQ_then ?_ | refine TL_q (op_move rfl) rfl ?_))
      refine TL_op (op_call hbIt rfl (Itoa_S n (by omega) (hg.mono (mem_of_cnt (by intro p; (try simp only [cnt_append, cnt_cons, cnt_nil]) <;> omega))))) rfl ?_
      skip
      refine TL_opT (op_call hbWS rfl (WriteString_spec b4 _ (Lib.decDigits n) _ hB3 (by (try simp only [List.length_append, List.length_cons, List.length_nil]); omega) (by omega))) rfl ?_
      rintro _ _ ⟨B4, hB4, rfl⟩
      repeat ((first | with_reducible refine T_region ?_ | with_reducible refine TL_nil ?_ | with_reducible refine TQ_then ?_))
      refine TL_opT (op_call hb_30 rfl (WriteByte_spec b4 _ _ 10 hB4 (by (try simp only [List.length_append, List.length_cons, List.length_nil]); omega))) rfl ?_
      rintro _ _ ⟨rfl, B5, hB5, rfl⟩
      repeat ((first | with_reducible refine T_region ?_ | with_reducible refine TL_nil ?_ | with_reducible refine TQ_then ?_ | with_reducible refine TQ_block ?_ | refine TL_q (op_move rfl) rfl ?_ | (refine' TL_q (op_bin rfl rfl ?_) rfl ?_; rotate_left 1; (· (exact bin_add ⟨by omega, by omega⟩)))))
      refine TQ_roundS (k + 1, B5) ⟨by dsimp only; omega, ?_⟩ ?_ (fun _ h => h) (by dsimp only; omega)
      · dsimp only
        rw [pre_succ hline]
        simpa [Cn.numLine] using hB5
      (repeat ((first | exact trivial | refine ⟨rfl, ?_⟩)))
    · have hk12 : k = 12 := by omega
      subst hk12
      repeat ((first | with_reducible refine T_seq ?_ | with_reducible refine T_block ?_ | with_reducible refine T_region ?_ | with_reducible refine TL_nil ?_ | with_reducible refine TQ_then ?_ | with_reducible refine T_exit ?_ | with_reducible refine TQ_then_exit ?_ | with_reducible refine TQ_block_exit ?_ | refine TL_q (op_move rfl) rfl ?_ | (refine' TL_q (op_bin rfl rfl ?_) rfl ?_; rotate_left 1; (· (exact bin_lss))) | refine TL_q (op_len_slice rfl Tryd.underlying23) rfl ?_ | refine TL_q (op_fld rfl fld_25_12) rfl ?_ | (refine' TL_q (op_ld rfl pl_5 ?_ ?_) rfl ?_; rotate_left 4; (· repeat ((first | exact List.mem_cons_self | apply List.mem_append_right))); (· (assumption))) | (refine T_no rfl ?_ ?_; (· (exact Bool.not_true)))))
      refine T_loopS (σ := Nat × Blocks) (fun x => x.1 ≤ c.zs.length ∧ BuildRep b4 (pre (Cn.lineL theT c) (12 + x.1)) x.2) (fun x => [(4, .pointer (some ⟨b4, 0, none⟩)), (30, .slice a c.zs.length cap), (31, .int .i64 (c.zs.length : Nat)), (32, .int .i64 (x.1 : Nat))]) (fun x => x.2 ++ ((b1, Obj.cells (cfCells c (.slice a c.zs.length cap)).toArray 25 (0, 0)) :: L)) (fun x => c.zs.length - x.1) (0, B) ⟨Nat.zero_le _, hB⟩ ?_ (fun _ h => h) ?_
      (repeat ((first | exact trivial | refine ⟨rfl, ?_⟩)))
      rintro ⟨i, B⟩ ⟨hi, hB⟩
      dsimp only at hi hB ⊢
      by_cases hin : i < c.zs.length
      · obtain ⟨z, hzi⟩ : ∃ z, c.zs[i]? = some z := ⟨_, List.getElem?_eq_getElem hin⟩
        obtain ⟨b2, o2, C2, t2, f2, rfl, m2, cs, _, ⟨rfl, hzn, hzp, hzt⟩, hcs⟩ := sliceR.at hz hzi
        have hzmay := hzones.2 z (List.mem_of_getElem? hzi)
        have hzs := h.small z (List.mem_of_getElem? hzi)
        have hline := lineL_zone c hzi
        have hpl := pre_len hm (12 + i)
        have htl := theT_ok.len z.name hzmay.1
        have htl2 : (textN z.name).length ≤ 2000 := htl
        have hpw := Cn.polW_len z.pol
        repeat ((first | with_reducible refine T_seq ?_ | with_reducible refine T_block ?_ | with_reducible refine T_region ?_ | with_reducible refine TL_nil ?_ | with_reducible refine TQ_then ?_ | with_reducible refine T_skip ?_ | (refine' TL_q (op_bin rfl rfl ?_) rfl ?_; rotate_left 1; (· (exact bin_lss))) | (refine' TL_q (op_idx ety_23 rfl rfl ?_) rfl ?_; (· omega)) | (refine T_yes rfl ?_ ?_; (· (exact dT (by (omega)))))))
        refine TL_q (op_ldA [.string (bs z.name), .int .u8 (z.pol : Nat), .int .u16 (z.tru : Nat)] rfl st_38 (List.mem_append_right _ (List.mem_cons_of_mem _ m2)) hcs) rfl ?_
        repeat ((first | with_reducible refine T_seq ?_ | with_reducible refine T_region ?_ | with_reducible refine TL_nil ?_ | with_reducible refine TQ_then ?_ | (refine TL_stAll rfl rfl st_38 rfl rfl rfl ?_) | (refine TL_new (op_alloc (C := #[(.string (bs [])), (.int .u8 0), (.int .u16 0)]) zero_38 rfl) rfl ?_; intro bNew)))
        obtain ⟨b8, hb8⟩ : ∃ b, bNew = b := ⟨_, rfl⟩
        rw [hb8]
        clear hb8 bNew
        have k0 : ([.string (bs z.name), .int .u8 (z.pol : Nat), .int .u16 (z.tru : Nat)] : List Value).toArray[0 + 0]? = some (.string (bs z.name)) := rfl
        have k1 : ([.string (bs z.name), .int .u8 (z.pol : Nat), .int .u16 (z.tru : Nat)] : List Value).toArray[0 + 1]? = some (.int .u8 (z.pol : Nat)) := rfl
        have k2 : ([.string (bs z.name), .int .u8 (z.pol : Nat), .int .u16 (z.tru : Nat)] : List Value).toArray[0 + 2]? = some (.int .u16 (z.tru : Nat)) := rfl
        have hz8 : ∀ B : Blocks, (b8, Obj.cells ([.string (bs z.name), .int .u8 (z.pol : Nat), .int .u16 (z.tru : Nat)] : List Value).toArray 38 (0, 0)) ∈ B ++ ((b8, Obj.cells ([.string (bs z.name), .int .u8 (z.pol : Nat), .int .u16 (z.tru : Nat)] : List Value).toArray 38 (0, 0)) :: (b1, Obj.cells (cfCells c (.slice (some ⟨b2, o2, none⟩) c.zs.length cap)).toArray 25 (0, 0)) :: L) := fun B => List.mem_append_right _ (List.mem_cons_self ..)
        refine TL_cnt (L' := B ++ ((b8, Obj.cells ([.string (bs z.name), .int .u8 (z.pol : Nat), .int .u16 (z.tru : Nat)] : List Value).toArray 38 (0, 0)) :: (b1, Obj.cells (cfCells c (.slice (some ⟨b2, o2, none⟩) c.zs.length cap)).toArray 25 (0, 0)) :: L)) ?_ (by intro p; (try simp only [cnt_append, cnt_cons, cnt_nil]) <;> omega)
        refine TL_opT (op_call hbWS rfl (WriteString_spec b4 _ [122, 111, 110, 101, 32] _ hB (by (try simp only [List.length_append, List.length_cons, List.length_nil]); omega) (by decide))) rfl ?_
        rintro _ _ ⟨B2, hB2, rfl⟩
        have hz82 := hz8 B2
        repeat ((first | with_reducible refine T_seq ?_ | with_reducible refine T_region ?_ | with_reducible refine TL_nil ?_ | with_reducible refine TQ_then ?_ | refine TL_q (op_fld rfl fld_38_0) rfl ?_ | (refine' TL_q (op_ld rfl pl_5 ?_ ?_) rfl ?_; rotate_left 4; (· repeat ((assumption))); (· (assumption)))))
        refine TL_op (op_call hb_32 rfl (Text_spec z.name (by omega))) rfl ?_
        skip
        refine TL_opT (op_call hbWS rfl (WriteString_spec b4 _ (textN z.name) _ hB2 (by (try simp only [List.length_append, List.length_cons, List.length_nil]); omega) (by omega))) rfl ?_
        rintro _ _ ⟨B3, hB3, rfl⟩
        repeat ((first | with_reducible refine T_seq ?_ | with_reducible refine T_region ?_ | with_reducible refine TL_nil ?_ | with_reducible refine TQ_then ?_))
        refine TL_opT (op_call hb_30 rfl (WriteByte_spec b4 _ _ 32 hB3 (by (try simp only [List.length_append, List.length_cons, List.length_nil]); omega))) rfl ?_
        rintro _ _ ⟨rfl, B4, hB4, rfl⟩
        have hz84 := hz8 B4
        repeat ((first | with_reducible refine T_seq ?_ | with_reducible refine T_region ?_ | with_reducible refine TL_nil ?_ | with_reducible refine TQ_then ?_ | refine TL_q (op_fld rfl fld_38_1) rfl ?_ | (refine' TL_q (op_ld rfl pl_5 ?_ ?_) rfl ?_; rotate_left 4; (· repeat ((assumption))); (· (assumption)))))
        refine TL_op (op_call hb_33 rfl (policyWord_S z.pol hzp)) rfl ?_
        skip
        refine TL_opT (op_call hbWS rfl (WriteString_spec b4 _ (Cn.polW z.pol) _ hB4 (by (try simp only [List.length_append, List.length_cons, List.length_nil]); omega) (by omega))) rfl ?_
        rintro _ _ ⟨B5, hB5, rfl⟩
        repeat ((first | with_reducible refine T_seq ?_ | with_reducible refine T_block ?_ | with_reducible refine T_region ?_ | with_reducible refine TL_nil ?_ | with_reducible refine TQ_then ?_ | refine TL_q (op_move rfl) rfl ?_))
        refine T_loopS (σ := Nat × Blocks) (fun x => x.1 ≤ 16 ∧ BuildRep b4 (pre (Cn.lineL theT c) (12 + i) ++ [122, 111, 110, 101, 32] ++ textN z.name ++ [32] ++ Cn.polW z.pol ++ tb z.tru x.1) x.2) (fun x => [(4, .pointer (some ⟨b4, 0, none⟩)), (8, .pointer (some ⟨b8, 0, none⟩)), (30, .slice (some ⟨b2, o2, none⟩) c.zs.length cap), (31, .int .i64 (c.zs.length : Nat)), (32, .int .i64 (i : Nat)), (46, .int .i64 (x.1 : Nat))]) (fun x => x.2 ++ ((b8, Obj.cells ([.string (bs z.name), .int .u8 (z.pol : Nat), .int .u16 (z.tru : Nat)] : List Value).toArray 38 (0, 0)) :: (b1, Obj.cells (cfCells c (.slice (some ⟨b2, o2, none⟩) c.zs.length cap)).toArray 25 (0, 0)) :: L)) (fun x => 16 - x.1) (0, B5) ⟨Nat.zero_le _, by dsimp only; rw [tb_zero, List.append_nil]; exact hB5⟩ ?_ (fun _ h => h) ?_
        (repeat ((first | exact trivial | refine ⟨rfl, ?_⟩)))
        rintro ⟨u, B⟩ ⟨hu, hB⟩
        dsimp only at hu hB ⊢
        have htb := tb_len z.tru u hu
        by_cases hu16 : u < 16
        · have hz85 := hz8 B
          have hbit := bit_of z.tru u
          have hdl := Cn.dec_len16 (show u ≤ 15 by omega)
          repeat ((first | with_reducible refine T_seq ?_ | with_reducible refine T_block ?_ | with_reducible refine T_region ?_ | with_reducible refine TL_nil ?_ | with_reducible refine TQ_then ?_ | with_reducible refine T_skip ?_ | refine TL_q (op_move rfl) rfl ?_ | refine TL_q (op_assign rfl) rfl ?_ | (refine' TL_q (op_bin rfl rfl ?_) rfl ?_; rotate_left 1; (· (exact bin_lss))) | refine TL_q (op_fld rfl fld_38_2) rfl ?_ | (refine' TL_q (op_ld rfl pl_5 ?_ ?_) rfl ?_; rotate_left 4; (· repeat ((assumption))); (· (assumption))) | (refine T_yes rfl ?_ ?_; (· (exact dT (by (omega)))))))
          refine TL_q (op_bin rfl rfl (bin_shr16 (by omega))) rfl ?_
          refine TL_q (op_bin rfl rfl (bin_and16 (Nat.lt_of_le_of_lt (Nat.div_le_self _ _) (by omega)))) rfl ?_
          obtain ⟨q, hq⟩ : ∃ q, z.tru / 2 ^ u % 2 = q := ⟨_, rfl⟩
          rw [hq] at hbit ⊢
          by_cases hq1 : q = 1
          · have hb1 : z.tru.testBit u = true := by rw [hbit]; exact decide_eq_true hq1
            repeat ((first | with_reducible refine T_seq ?_ | with_reducible refine T_region ?_ | with_reducible refine TL_nil ?_ | with_reducible refine TQ_then ?_ | (refine' TL_q (op_bin rfl rfl ?_) rfl ?_; rotate_left 1; (· (exact bin_eql))) | (refine T_yes rfl ?_ ?_; (· (exact dT (by (omega)))))))
            refine TL_opT (op_call hb_30 rfl (WriteByte_spec b4 _ _ 32 hB (by (try simp only [List.length_append, List.length_cons, List.length_nil]); omega))) rfl ?_
            rintro _ _ ⟨rfl, B6, hB6, rfl⟩
            repeat ((first | with_reducible refine T_region ?_ | with_reducible refine TL_nil ?_ | with_reducible refine TQ_then ?_ | refine TL_q (op_move rfl) rfl ?_))
            refine TL_op (op_call hbIt rfl (Itoa_S u (by omega) (hg.mono (mem_of_cnt (by intro p; (try simp only [cnt_append, cnt_cons, cnt_nil]) <;> omega))))) rfl ?_
            skip
            refine TL_opT (op_call hbWS rfl (WriteString_spec b4 _ (Lib.decDigits u) _ hB6 (by (try simp only [List.length_append, List.length_cons, List.length_nil]); omega) (by omega))) rfl ?_
            rintro _ _ ⟨B7, hB7, rfl⟩
            repeat ((first | with_reducible refine T_region ?_ | with_reducible refine TL_nil ?_ | with_reducible refine TQ_then ?_ | with_reducible refine TQ_block ?_ | refine TL_q (op_move rfl) rfl ?_ | (refine' TL_q (op_bin rfl rfl ?_) rfl ?_; rotate_left 1; (· (exact bin_add ⟨by omega, by omega⟩)))))
            refine TQ_roundS (u + 1, B7) ⟨by dsimp only; omega, ?_⟩ ?_ (fun _ h => h) (by dsimp only; omega)
            · dsimp only
              rw [tb_yes hb1]
              simpa using hB7
            (repeat ((first | exact trivial | refine ⟨rfl, ?_⟩)))
          · have hb0 : z.tru.testBit u = false := by rw [hbit]; exact decide_eq_false hq1
            repeat ((first | with_reducible refine T_region ?_ | with_reducible refine TL_nil ?_ | with_reducible refine TQ_then ?_ | with_reducible refine TQ_block ?_ | with_reducible refine T_skip ?_ | refine TL_q (op_move rfl) rfl ?_ | (refine' TL_q (op_bin rfl rfl ?_) rfl ?_; rotate_left 1; (· (first | exact bin_add ⟨by omega, by omega⟩ | exact bin_eql))) | (refine T_no rfl ?_ ?_; (· (exact dF (by (omega)))))))
            refine TQ_roundS (u + 1, B) ⟨by dsimp only; omega, ?_⟩ ?_ (fun _ h => h) (by dsimp only; omega)
            · dsimp only
              rw [tb_no hb0]
              exact hB
            (repeat ((first | exact trivial | refine ⟨rfl, ?_⟩)))
        · have hu6 : u = 16 := by omega
          subst hu6
          rw [tb_all] at hB
          rw [tb_all] at htb
          repeat ((first | with_reducible refine T_seq ?_ | with_reducible refine T_region ?_ | with_reducible refine TL_nil ?_ | with_reducible refine TQ_then ?_ | with_reducible refine T_exit ?_ | with_reducible refine TQ_then_exit ?_ | with_reducible refine TQ_block_exit ?_ | (refine' TL_q (op_bin rfl rfl ?_) rfl ?_; rotate_left 1; (· (exact bin_lss))) | (refine T_no rfl ?_ ?_; (· (exact Bool.not_true)))))
          refine TL_opT (op_call hb_30 rfl (WriteByte_spec b4 _ _ 10 hB (by (try simp only [List.length_append, List.length_cons, List.length_nil]); omega))) rfl ?_
          rintro _ _ ⟨rfl, B6, hB6, rfl⟩
          repeat ((first | with_reducible refine T_region ?_ | with_reducible refine TL_nil ?_ | with_reducible refine TQ_then ?_ | with_reducible refine TQ_block ?_ | refine TL_q (op_move rfl) rfl ?_ | (refine' TL_q (op_bin rfl rfl ?_) rfl ?_; rotate_left 1; (· (exact bin_add ⟨by omega, by omega⟩)))))
          refine TQ_roundS (i + 1, B6) ⟨by dsimp only; omega, ?_⟩ ?_ (fun _ h => Heap.cnt h (by intro p; (try simp only [cnt_append, cnt_cons, cnt_nil]) <;> omega)) (by dsimp only; omega)
          · dsimp only
            rw [← Nat.add_assoc, pre_succ hline]
            have e : Cn.zoneLine theT z = [122, 111, 110, 101, 32] ++ (textN z.name ++ ([32] ++ (Cn.polW z.pol ++ Cn.trustB z.tru))) := rfl
            rw [e]
            simpa [List.append_assoc] using hB6
          (repeat ((first | exact trivial | refine ⟨rfl, ?_⟩)))
      · have hil : i = c.zs.length := by omega
        subst hil
        have hll := lineL_len c
        have hne : pre (Cn.lineL theT c) (12 + c.zs.length) ≠ [] := by
          obtain ⟨l, hl⟩ : ∃ l, (Cn.lineL theT c)[11 + c.zs.length]? = some l := ⟨_, List.getElem?_eq_getElem (by omega)⟩
          rw [show 12 + c.zs.length = (11 + c.zs.length) + 1 by omega, pre_succ hl]
          simp
        rw [hll]
        repeat ((first | with_reducible refine T_seq ?_ | with_reducible refine T_region ?_ | with_reducible refine TL_nil ?_ | with_reducible refine TQ_then ?_ | with_reducible refine T_exit ?_ | with_reducible refine TQ_then_exit ?_ | with_reducible refine TQ_block_exit ?_ | (refine' TL_q (op_bin rfl rfl ?_) rfl ?_; rotate_left 1; (· (exact bin_lss))) | (refine T_no rfl ?_ ?_; (· (exact dF (by (omega)))))))
        refine TL_op (op_call hb_34 rfl (String_spec b4 _ B hB hne)) rfl ?_
        repeat ((first | with_reducible refine TL_nil ?_ | with_reducible refine TQ_then ?_ | with_reducible refine T_ret ?_ | refine TL_q (op_assign rfl) rfl ?_))
        refine TQ_heap (fun w h => h.tail) ?_
        refine TQ_ret2 2 3 _ _ rfl rfl rfl ?_
        exact ⟨rfl, rfl⟩
end Go.Proofs.YtnhlpifbadncmaaDoor
namespace Go.Proofs.YtnhlpifbadncmaaDoor
open Go.RowKit
open Cn (Zo Cf)
set_option linter.unusedVariables false
set_option linter.unusedSimpArgs false
--auto
variable {G : World} {L : Blocks}
section
variable {P : Program} {ρ : Slots} {ty : TypeId}
theorem op_iface {x : Operand} {t : TypeId} {fs : Array Field} {v : Value} (hx : ev ρ x = some v) (hu : P.underlying t = some (.struct fs)) : OpQ P ρ L (.makeInterface t x) ty (.iface t v) :=
  ⟨fun r hr w hw o ho _ => by simp [execOp, ho, hr _ _ hx, Instr.makeInterface, run_underlying hu]⟩
theorem op_isYes {x : Operand} {t xt : TypeId} {fs : Array Field} {v : Value} (hx : ev ρ x = some (.iface t v)) (hu : P.underlying t = some (.struct fs)) : OpQ P ρ L (.typeAssert x xt t true) ty (.tuple #[v, .bool true]) :=
  ⟨fun r hr w hw o ho _ => by simp [execOp, ho, hr _ _ hx, Instr.typeAssert, run_underlying hu]⟩
theorem op_isNo {x : Operand} {t t2 xt : TypeId} {fs : Array Field} {v z : Value} (hx : ev ρ x = some (.iface t2 v)) (hu : P.underlying t = some (.struct fs)) (hne : t2 ≠ t) (hz : ∀ w, (zeroValue t).run P w = .ok z w) : OpQ P ρ L (.typeAssert x xt t true) ty (.tuple #[z, .bool false]) :=
  ⟨fun r hr w hw o ho _ => by simp [execOp, ho, hr _ _ hx, Instr.typeAssert, run_underlying hu, hne, hz]⟩
theorem op_isNil {x : Operand} {t xt : TypeId} {fs : Array Field} {z : Value} (hx : ev ρ x = some .nilIface) (hu : P.underlying t = some (.struct fs)) (hz : ∀ w, (zeroValue t).run P w = .ok z w) : OpQ P ρ L (.typeAssert x xt t true) ty (.tuple #[z, .bool false]) :=
  ⟨fun r hr w hw o ho _ => by simp [execOp, ho, hr _ _ hx, Instr.typeAssert, run_underlying hu, hz]⟩
end
theorem spl_len (c : UInt8) : ∀ (l : List UInt8), ∀ w ∈ Cn.spl c l, w.length ≤ l.length
  | [], w, h => by simp [Cn.spl] at h; simp [h]
  | a :: t, w, h => by
    have ih := spl_len c t
    unfold Cn.spl at h
    split at h
    · rcases List.mem_cons.1 h with rfl | h
      · simp
      · have := ih w h; simp; omega
    · cases hs : Cn.spl c t with
      | nil => exact absurd hs (Cn.spl_ne c t)
      | cons v vs =>
        rw [hs] at h ih
        rcases List.mem_cons.1 h with rfl | h
        · have := ih v (by simp); simp; omega
        · have := ih w (by simp [h]); simp; omega
theorem spl_count (c : UInt8) : ∀ (l : List UInt8), (Cn.spl c l).length ≤ l.length + 1
  | [] => by simp [Cn.spl]
  | a :: t => by
    have ih := spl_count c t
    unfold Cn.spl
    split
    · simp; omega
    · cases hs : Cn.spl c t with
      | nil => simp
      | cons v vs => rw [hs] at ih; simp at ih ⊢; omega
theorem may_255 {n : Nm.Bytes} (h : Nm.may n = true) : n.length ≤ 255 := by
  unfold Nm.may at h
  cases hn : Nm.nm n with
  | none => rw [hn] at h; cases h
  | some ls => exact (Nm.nm_iff.1 hn).2.2
def zoV (z : Zo) : Value := .agg #[.string (bs z.name), .int .u8 (z.pol : Nat), .int .u16 (z.tru : Nat)]
/-- What a line says. -/
def itemV (l : Nm.Bytes) : Value := match Cn.spl 32 l with
  | [w, n] => match Cn.numP n 2147483647 with
    | some k => .iface 82 (.agg #[.string (bs w), .int .i64 (k : Nat)])
    | none => .nilIface
  | _ => match Cn.readZone theT l with
    | some z => .iface 85 (zoV z)
    | none => .nilIface
section
variable {l x1 x2 x3 : Nm.Bytes} {t : List Nm.Bytes} {n : Nm.Bytes} {p tr : Nat}
theorem rz_word (h : Cn.spl 32 l = x1 :: x2 :: x3 :: t) (h1 : x1 ≠ Cn.zoneW) : Cn.readZone theT l = none := by
  unfold Cn.readZone; rw [h]; dsimp only; rw [if_neg h1]
theorem rz_name (h : Cn.spl 32 l = Cn.zoneW :: x2 :: x3 :: t) (h1 : Cn.readName theT x2 = none) : Cn.readZone theT l = none := by
  unfold Cn.readZone; rw [h]; dsimp only; rw [if_pos rfl, h1]
theorem rz_pol (h : Cn.spl 32 l = Cn.zoneW :: x2 :: x3 :: t) (h1 : Cn.polP x3 = none) : Cn.readZone theT l = none := by
  unfold Cn.readZone; rw [h]; dsimp only; rw [if_pos rfl, h1]
  cases Cn.readName theT x2 <;> rfl
theorem rz_bits (h : Cn.spl 32 l = Cn.zoneW :: x2 :: x3 :: t) (h1 : Cn.bitsGo (-1) 0 t = none) : Cn.readZone theT l = none := by
  unfold Cn.readZone; rw [h]; dsimp only; rw [if_pos rfl, h1]
  cases Cn.readName theT x2 <;> cases Cn.polP x3 <;> rfl
theorem rz_bad (h : Cn.spl 32 l = Cn.zoneW :: x2 :: x3 :: t) (h1 : Cn.polP x3 = some p) (h2 : Cn.bitsGo (-1) 0 t = some tr) (h3 : ¬ (decide (p = 3)) = (decide (tr ≠ 0))) : Cn.readZone theT l = none := by
  unfold Cn.readZone; rw [h]; dsimp only; rw [if_pos rfl, h1, h2]
  cases Cn.readName theT x2 with
  | none => rfl
  | some n => dsimp only; rw [if_neg h3]
theorem rz_ok (h : Cn.spl 32 l = Cn.zoneW :: x2 :: x3 :: t) (h0 : Cn.readName theT x2 = some n) (h1 : Cn.polP x3 = some p) (h2 : Cn.bitsGo (-1) 0 t = some tr) (h3 : (decide (p = 3)) = (decide (tr ≠ 0))) : Cn.readZone theT l = some ⟨n, p, tr⟩ := by
  unfold Cn.readZone; rw [h]; dsimp only; rw [if_pos rfl, h0, h1, h2]; dsimp only; rw [if_pos h3]
theorem rz_one (h : Cn.spl 32 l = [x1]) : Cn.readZone theT l = none := by unfold Cn.readZone; rw [h]
theorem item_few (h : Cn.spl 32 l = [x1]) : itemV l = .nilIface := by unfold itemV; rw [h, rz_one h]
theorem item_many (h : Cn.spl 32 l = x1 :: x2 :: x3 :: t) : itemV l = match Cn.readZone theT l with
    | some z => .iface 85 (zoV z)
    | none => .nilIface := by unfold itemV; rw [h]
theorem item_no (h : Cn.spl 32 l = x1 :: x2 :: x3 :: t) (hz : Cn.readZone theT l = none) : itemV l = .nilIface := by rw [item_many h, hz]
end
theorem StrRow.tail3 {L : Blocks} {b : Nat} {x1 x2 x3 : Nm.Bytes} {t : List Nm.Bytes} (hm : (b, Obj.cells ((x1 :: x2 :: x3 :: t : List Nm.Bytes).map txtV).toArray 9 (0, 0)) ∈ L) :
    StrRow L (.slice (cutA (some ⟨b, 0, none⟩) (t.length + 3) 3 1) t.length t.length) t := by
  refine ⟨_, _, rfl, ?_⟩
  cases t with
  | nil => exact Or.inl rfl
  | cons y ys =>
    right
    refine ⟨b, 3, _, _, _, ?_, hm, fun i l hi => ?_⟩
    · unfold cutA
      rw [if_neg (by simp)]
      rfl
    · rw [List.getElem?_toArray, List.getElem?_map, show 3 + i * 1 = i + 1 + 1 + 1 by omega, List.getElem?_cons_succ, List.getElem?_cons_succ, List.getElem?_cons_succ, hi]
      rfl
set_option maxRecDepth 100000 in
set_option maxHeartbeats 8000000 in
theorem read_S (l : Nm.Bytes) (hl : l.length ≤ 100000) (hg : Glob L) : Spec Tryd.prog G 48 #[.string (bs l)] L fun u M => u = itemV l ∧ M = L := by
  have hlen := spl_len 32 l
  refine Spec_of (n := 95) Tryd.func48 rfl rfl rfl ?_
  repeat ((first | with_reducible refine T_seq ?_ | with_reducible refine T_region ?_ | with_reducible refine TL_nil ?_ | with_reducible refine TQ_then ?_ | refine TL_q (op_move rfl) rfl ?_ | refine TL_q (op_assign rfl) rfl ?_))
  refine TL_opT (op_call hbSp rfl (Split_S l (by omega) hg)) rfl ?_
  rintro _ _ ⟨b, rfl, rfl⟩
  obtain ⟨ws, hws⟩ : ∃ ws, Cn.spl 32 l = ws := ⟨_, rfl⟩
  have hne := Cn.spl_ne 32 l
  rw [hws] at hne hlen ⊢
  match ws, hne with
  | [], hne => exact absurd rfl hne
  | [x1], _ =>
    rw [item_few hws]
    repeat ((first | with_reducible refine T_seq ?_ | with_reducible refine T_region ?_ | with_reducible refine TL_nil ?_ | with_reducible refine TQ_then ?_ | with_reducible refine T_skip ?_ | with_reducible refine T_ret ?_ | with_reducible refine TQ_then_ret ?_ | refine TL_q (op_move rfl) rfl ?_ | refine TL_q (op_assign rfl) rfl ?_ | (refine' TL_q (op_bin rfl rfl ?_) rfl ?_; rotate_left 1; (· (first | exact bin_eql | exact bin_lss))) | (refine' TL_q (op_pickT rfl ?_ rfl) rfl ?_; (· (exact Bool.not_false))) | refine TL_q (op_len_slice rfl Tryd.underlying70) rfl ?_ | (refine TL_gno rfl rfl ?_ rfl ?_; (· (exact Bool.not_false))) | (refine T_yes rfl ?_ ?_; (· (with_reducible rfl))) | (refine T_no rfl ?_ ?_; (· (exact Bool.not_true)))))
    refine TQ_heap (fun w h => h.tail) ?_
    refine TQ_ret1 2 _ rfl rfl ?_
    exact ⟨rfl, rfl⟩
  | [x1, x2], _ =>
    have h1 := hlen x1 (by simp)
    have h2 := hlen x2 (by simp)
    have c0 : (([x1, x2] : List Nm.Bytes).map txtV).toArray[0 + 0 * 1]? = some (.string (bs x1)) := rfl
    have c1 : (([x1, x2] : List Nm.Bytes).map txtV).toArray[0 + 1 * 1]? = some (.string (bs x2)) := rfl
    have hit : itemV l = match Cn.numP x2 2147483647 with
        | some k => .iface 82 (.agg #[.string (bs x1), .int .i64 (k : Nat)])
        | none => .nilIface := by unfold itemV; rw [hws]
    rw [hit]
    rw [show ([x1, x2] : List Nm.Bytes).length = 2 from rfl]
    cases hnp : Cn.numP x2 2147483647 with
    | none =>
      have hnv : numV x2 2147483647 = .tuple #[.int .i64 0, .bool false] := by unfold numV; rw [hnp]
      repeat ((first | with_reducible refine T_seq ?_ | with_reducible refine T_region ?_ | with_reducible refine TL_nil ?_ | with_reducible refine TQ_then ?_ | refine TL_q (op_move rfl) rfl ?_ | refine TL_q (op_assign rfl) rfl ?_ | (refine' TL_q (op_bin rfl rfl ?_) rfl ?_; rotate_left 1; (· (exact bin_eql))) | refine TL_q (op_len_slice rfl Tryd.underlying70) rfl ?_ | (refine' TL_q (op_idxI ety_70 rfl rfl ?_ ?_) rfl ?_; (· omega); (· omega)) | (refine' TL_q (op_ld rfl pl_5 ?_ ?_) rfl ?_; rotate_left 4; (· repeat ((exact List.mem_cons_self))); (· (assumption))) | (refine' TL_op (op_call hb_64 rfl (number_S _ _ ?_ ?_)) rfl ?_; (· (omega)); (· (decide))) | (refine T_yes rfl ?_ ?_; (· (exact Bool.not_false)))))
      rw [hnv]
      repeat ((first | with_reducible refine T_seq ?_ | with_reducible refine T_region ?_ | with_reducible refine TL_nil ?_ | with_reducible refine TQ_then ?_ | with_reducible refine T_ret ?_ | with_reducible refine TQ_then_ret ?_ | refine TL_q (op_move rfl) rfl ?_ | refine TL_q (op_assign rfl) rfl ?_ | refine TL_q (op_not rfl) rfl ?_ | refine TL_q (op_extract rfl rfl) rfl ?_ | (refine T_yes rfl ?_ ?_; (· (exact Bool.not_false)))))
      refine TQ_heap (fun w h => h.tail) ?_
      refine TQ_ret1 2 _ rfl rfl ?_
      exact ⟨rfl, rfl⟩
    | some k =>
      have hnv : numV x2 2147483647 = .tuple #[.int .i64 (k : Nat), .bool true] := by unfold numV; rw [hnp]
      repeat ((first | with_reducible refine T_seq ?_ | with_reducible refine T_region ?_ | with_reducible refine TL_nil ?_ | with_reducible refine TQ_then ?_ | refine TL_q (op_move rfl) rfl ?_ | refine TL_q (op_assign rfl) rfl ?_ | (refine' TL_q (op_bin rfl rfl ?_) rfl ?_; rotate_left 1; (· (exact bin_eql))) | refine TL_q (op_len_slice rfl Tryd.underlying70) rfl ?_ | (refine' TL_q (op_idxI ety_70 rfl rfl ?_ ?_) rfl ?_; (· omega); (· omega)) | (refine' TL_q (op_ld rfl pl_5 ?_ ?_) rfl ?_; rotate_left 4; (· repeat ((exact List.mem_cons_self))); (· (assumption))) | (refine' TL_op (op_call hb_64 rfl (number_S _ _ ?_ ?_)) rfl ?_; (· (omega)); (· (decide))) | (refine T_yes rfl ?_ ?_; (· (exact Bool.not_false)))))
      rw [hnv]
      repeat ((first | with_reducible refine T_seq ?_ | with_reducible refine T_region ?_ | with_reducible refine TL_nil ?_ | with_reducible refine TQ_then ?_ | with_reducible refine T_skip ?_ | refine TL_q (op_move rfl) rfl ?_ | refine TL_q (op_assign rfl) rfl ?_ | refine TL_q (op_not rfl) rfl ?_ | refine TL_q (op_extract rfl rfl) rfl ?_ | (refine' TL_q (op_idxI ety_70 rfl rfl ?_ ?_) rfl ?_; (· omega); (· omega)) | (refine' TL_q (op_ld rfl pl_5 ?_ ?_) rfl ?_; rotate_left 4; (· repeat ((exact List.mem_cons_self))); (· (assumption))) | refine TL_q (op_build rfl (bl_82_0_1 _ _)) rfl ?_ | (refine T_no rfl ?_ ?_; (· (exact Bool.not_true)))))
      refine TL_q (op_iface rfl Tryd.underlying82) rfl ?_
      repeat ((first | with_reducible refine TL_nil ?_ | with_reducible refine TQ_then ?_ | with_reducible refine T_ret ?_ | with_reducible refine TQ_then_ret ?_ | refine TL_q (op_assign rfl) rfl ?_))
      refine TQ_heap (fun w h => h.tail) ?_
      refine TQ_ret1 2 _ rfl rfl ?_
      exact ⟨rfl, rfl⟩
  | x1 :: x2 :: x3 :: t, _ =>
    rw [show (x1 :: x2 :: x3 :: t : List Nm.Bytes).length = t.length + 3 from rfl]
    have h1 := hlen x1 (by simp)
    have h2 := hlen x2 (by simp)
    have h3 := hlen x3 (by simp)
    have hct := spl_count 32 l
    rw [hws, show (x1 :: x2 :: x3 :: t : List Nm.Bytes).length = t.length + 3 from rfl] at hct
    have c0 : ((x1 :: x2 :: x3 :: t : List Nm.Bytes).map txtV).toArray[0 + 0 * 1]? = some (.string (bs x1)) := rfl
    have c1 : ((x1 :: x2 :: x3 :: t : List Nm.Bytes).map txtV).toArray[0 + 1 * 1]? = some (.string (bs x2)) := rfl
    have c2 : ((x1 :: x2 :: x3 :: t : List Nm.Bytes).map txtV).toArray[0 + 2 * 1]? = some (.string (bs x3)) := rfl
    by_cases hz : x1 = Cn.zoneW
    rotate_left
    · rw [item_no hws (rz_word hws hz)]
      unfold Cn.zoneW at hz
      repeat ((first | with_reducible refine T_seq ?_ | with_reducible refine T_region ?_ | with_reducible refine TL_nil ?_ | with_reducible refine TQ_then ?_ | with_reducible refine T_skip ?_ | with_reducible refine T_ret ?_ | with_reducible refine TQ_then_ret ?_ | refine TL_q (op_move rfl) rfl ?_ | refine TL_q (op_assign rfl) rfl ?_ | (refine' TL_q (op_bin rfl rfl ?_) rfl ?_; rotate_left 1; (· (first | exact bin_eql | exact bin_lss))) | (refine' TL_q (op_pickF rfl ?_ rfl) rfl ?_; (· (exact Bool.not_true))) | refine TL_q (op_len_slice rfl Tryd.underlying70) rfl ?_ | (refine TL_gpre rfl rfl ?_ ?_; (· (exact Bool.not_true))) | refine TL_gq2 (op_move rfl) rfl ?_ | (refine' TL_gq2 (op_bin rfl rfl ?_) rfl ?_; rotate_left 1; (· (exact sbin_neq))) | (refine' TL_gq2 (op_idxI ety_70 rfl rfl ?_ ?_) rfl ?_; (· omega); (· omega)) | (refine' TL_gq2 (op_ld rfl pl_5 ?_ ?_) rfl ?_; rotate_left 4; (· repeat ((exact List.mem_cons_self))); (· (assumption))) | (refine T_yes rfl ?_ ?_; (· (exact nT (by (assumption))))) | (refine T_no rfl ?_ ?_; (· (exact Bool.not_true)))))
      refine TQ_heap (fun w h => h.tail) ?_
      refine TQ_ret1 2 _ rfl rfl ?_
      exact ⟨rfl, rfl⟩
    subst hz
    have c0' : ((Cn.zoneW :: x2 :: x3 :: t : List Nm.Bytes).map txtV).toArray[0 + 0 * 1]? = some (.string (bs [122, 111, 110, 101])) := rfl
    clear c0
    repeat ((first | with_reducible refine T_seq ?_ | with_reducible refine T_region ?_ | with_reducible refine TL_nil ?_ | with_reducible refine TQ_then ?_ | with_reducible refine T_skip ?_ | refine TL_q (op_move rfl) rfl ?_ | refine TL_q (op_assign rfl) rfl ?_ | (refine' TL_q (op_bin rfl rfl ?_) rfl ?_; rotate_left 1; (· (first | exact bin_eql | exact bin_lss))) | (refine' TL_q (op_pickF rfl ?_ rfl) rfl ?_; (· (exact Bool.not_true))) | refine TL_q (op_len_slice rfl Tryd.underlying70) rfl ?_ | (refine' TL_q (op_idxI ety_70 rfl rfl ?_ ?_) rfl ?_; (· omega); (· omega)) | (refine' TL_q (op_ld rfl pl_5 ?_ ?_) rfl ?_; rotate_left 4; (· repeat ((exact List.mem_cons_self))); (· (assumption))) | (refine TL_gpre rfl rfl ?_ ?_; (· (exact Bool.not_true))) | refine TL_gq2 (op_move rfl) rfl ?_ | (refine' TL_gq2 (op_bin rfl rfl ?_) rfl ?_; rotate_left 1; (· (exact sbin_neq))) | (refine' TL_gq2 (op_idxI ety_70 rfl rfl ?_ ?_) rfl ?_; (· omega); (· omega)) | (refine' TL_gq2 (op_ld rfl pl_5 ?_ ?_) rfl ?_; rotate_left 4; (· repeat ((exact List.mem_cons_self))); (· (assumption))) | (refine T_no rfl ?_ ?_; (· (exact Bool.not_true)))))
    refine TL_op (op_call hb_65 rfl (Parse_spec x2 (by omega))) rfl ?_
    unfold parseOut
    repeat ((first | with_reducible refine T_seq ?_ | with_reducible refine TL_nil ?_ | with_reducible refine TQ_then ?_ | refine TL_q (op_move rfl) rfl ?_ | refine TL_q (op_assign rfl) rfl ?_ | refine TL_q (op_extract rfl rfl) rfl ?_))
    have hKm : ∀ p ∈ [(b, Obj.cells ((Cn.zoneW :: x2 :: x3 :: t : List Nm.Bytes).map txtV).toArray 9 (0, 0))], p ∈ (b, Obj.cells ((Cn.zoneW :: x2 :: x3 :: t : List Nm.Bytes).map txtV).toArray 9 (0, 0)) :: L := by
      intro p hp
      simp only [List.mem_cons, List.not_mem_nil, or_false] at hp
      subst hp
      exact List.mem_cons_self ..
    refine T_cut [(3, .slice (some ⟨b, 0, none⟩) (t.length + 3) (t.length + 3)), (6, .string (bs (parseV x2))), (7, .int .i64 (parseE x2))] ((b, Obj.cells ((Cn.zoneW :: x2 :: x3 :: t : List Nm.Bytes).map txtV).toArray 9 (0, 0)) :: L) ?_ (fun w h => h) ?_
    (repeat ((first | exact trivial | refine ⟨rfl, ?_⟩)))
    by_cases he : parseE x2 = 0
    rotate_left
    · have hrn : Cn.readName theT x2 = none := if_neg fun k => he k.1
      rw [item_no hws (rz_name hws hrn)]
      refine T_draw follows_mixed ([(b, Obj.cells ((Cn.zoneW :: x2 :: x3 :: t : List Nm.Bytes).map txtV).toArray 9 (0, 0))]) [] ?_
      (refine' TA_take 0 rfl rfl (by kernel_rfl) (quiet_q (op_move rfl)) ?_ ?_; (· (assumption)))
      (refine' TA_take 1 rfl rfl (by kernel_rfl) (quiet_q (op_bin rfl rfl ?_)) ?_ ?_; rotate_left 1; (· (exact bin_neq)); (· (assumption)))
      (refine' TA_take 2 rfl rfl (by kernel_rfl) (quiet_q (op_move rfl)) ?_ ?_; (· (assumption)))
      (refine TA_take 3 rfl rfl (by kernel_rfl) (quiet_no2 rfl rfl ?_) ?_ ?_; (· (exact nT (by (assumption)))); (· (assumption)))
      (refine TA_take 4 rfl rfl (by kernel_rfl) (quiet_no2 rfl rfl ?_) ?_ ?_; (· (exact nT (by (assumption)))); (· (assumption)))
      (refine TA_take 5 rfl rfl (by kernel_rfl) (quiet_no2 rfl rfl ?_) ?_ ?_; (· (exact nT (by (assumption)))); (· (assumption)))
      (refine TA_take 6 rfl rfl (by kernel_rfl) (quiet_no2 rfl rfl ?_) ?_ ?_; (· (exact nT (by (assumption)))); (· (assumption)))
      (refine TA_take 7 rfl rfl (by kernel_rfl) (quiet_no2 rfl rfl ?_) ?_ ?_; (· (exact nT (by (assumption)))); (· (assumption)))
      (refine TA_take 8 rfl rfl (by kernel_rfl) (quiet_no2 rfl rfl ?_) ?_ ?_; (· (exact nT (by (assumption)))); (· (assumption)))
      (refine' TA_take 9 rfl rfl (by kernel_rfl) (quiet_q (op_pickT rfl ?_ rfl)) ?_ ?_; (· (exact nT (by (assumption)))); (· (assumption)))
      refine TA_done (by kernel_rfl) ?_
      repeat ((first | with_reducible refine T_seq ?_ | with_reducible refine T_region ?_ | with_reducible refine TL_nil ?_ | with_reducible refine TQ_then ?_ | with_reducible refine T_ret ?_ | with_reducible refine TQ_then_ret ?_ | refine TL_q (op_assign rfl) rfl ?_ | (refine T_yes rfl ?_ ?_; (· (with_reducible rfl)))))
      refine TQ_heap (fun w h => h.tail) ?_
      refine TQ_ret1 2 _ rfl rfl ?_
      exact ⟨rfl, rfl⟩
    have hmay := parse_may he
    have hpv := may_255 hmay
    by_cases ht : textN (parseV x2) = x2
    rotate_left
    · have hrn : Cn.readName theT x2 = none := if_neg fun k => ht k.2
      rw [item_no hws (rz_name hws hrn)]
      refine T_draw follows_mixed ([(b, Obj.cells ((Cn.zoneW :: x2 :: x3 :: t : List Nm.Bytes).map txtV).toArray 9 (0, 0))]) [] ?_
      (refine' TA_take 0 rfl rfl (by kernel_rfl) (quiet_q (op_move rfl)) ?_ ?_; (· (assumption)))
      (refine' TA_take 1 rfl rfl (by kernel_rfl) (quiet_q (op_bin rfl rfl ?_)) ?_ ?_; rotate_left 1; (· (exact bin_neq)); (· (assumption)))
      (refine' TA_take 2 rfl rfl (by kernel_rfl) (quiet_q (op_move rfl)) ?_ ?_; (· (assumption)))
      (refine' TA_take 3 rfl rfl (by kernel_rfl) (quiet_g2 rfl rfl (by (exact nF (by (assumption)))) (op_move rfl)) ?_ ?_; (· (assumption)))
      (refine' TA_take 4 rfl rfl (by kernel_rfl) (quiet_callG2 rfl rfl (by (exact nF (by (assumption)))) hb_32 rfl (fun _ _ => Text_spec _ ?_)) ?_ ?_; (· (omega)); (· (assumption)))
      (refine' TA_take 5 rfl rfl (by kernel_rfl) (quiet_g2 rfl rfl (by (exact nF (by (assumption)))) (op_move rfl)) ?_ ?_; (· (assumption)))
      (refine' TA_take 6 rfl rfl (by kernel_rfl) (quiet_g2 rfl rfl (by (exact nF (by (assumption)))) (op_idxI ety_70 rfl rfl ?_ ?_)) ?_ ?_; (· omega); (· omega); (· (assumption)))
      (refine' TA_take 7 rfl rfl (by kernel_rfl) (quiet_g2 rfl rfl (by (exact nF (by (assumption)))) (op_ld rfl pl_9 ?_ ?_)) ?_ ?_; rotate_left 4; (· repeat ((exact List.mem_cons_self))); (· (assumption)); (· (assumption)))
      (refine' TA_take 8 rfl rfl (by kernel_rfl) (quiet_g2 rfl rfl (by (exact nF (by (assumption)))) (op_bin rfl rfl ?_)) ?_ ?_; rotate_left 1; (· (exact sbin_neq)); (· (assumption)))
      (refine' TA_take 9 rfl rfl (by kernel_rfl) (quiet_q (op_pickF rfl ?_ rfl)) ?_ ?_; (· (exact nF (by (assumption)))); (· (assumption)))
      refine TA_done (by kernel_rfl) ?_
      repeat ((first | with_reducible refine T_seq ?_ | with_reducible refine T_region ?_ | with_reducible refine TL_nil ?_ | with_reducible refine TQ_then ?_ | with_reducible refine T_ret ?_ | with_reducible refine TQ_then_ret ?_ | refine TL_q (op_assign rfl) rfl ?_ | (refine T_yes rfl ?_ ?_; (· (exact nT (by (assumption)))))))
      refine TQ_heap (fun w h => h.tail) ?_
      refine TQ_ret1 2 _ rfl rfl ?_
      exact ⟨rfl, rfl⟩
    have hrn : Cn.readName theT x2 = some (parseV x2) := if_pos ⟨he, ht⟩
    refine T_draw follows_mixed ([(b, Obj.cells ((Cn.zoneW :: x2 :: x3 :: t : List Nm.Bytes).map txtV).toArray 9 (0, 0))]) [] ?_
    (refine' TA_take 0 rfl rfl (by kernel_rfl) (quiet_q (op_move rfl)) ?_ ?_; (· (assumption)))
    (refine' TA_take 1 rfl rfl (by kernel_rfl) (quiet_q (op_bin rfl rfl ?_)) ?_ ?_; rotate_left 1; (· (exact bin_neq)); (· (assumption)))
    (refine' TA_take 2 rfl rfl (by kernel_rfl) (quiet_q (op_move rfl)) ?_ ?_; (· (assumption)))
    (refine' TA_take 3 rfl rfl (by kernel_rfl) (quiet_g2 rfl rfl (by (exact nF (by (assumption)))) (op_move rfl)) ?_ ?_; (· (assumption)))
    (refine' TA_take 4 rfl rfl (by kernel_rfl) (quiet_callG2 rfl rfl (by (exact nF (by (assumption)))) hb_32 rfl (fun _ _ => Text_spec _ ?_)) ?_ ?_; (· (omega)); (· (assumption)))
    (refine' TA_take 5 rfl rfl (by kernel_rfl) (quiet_g2 rfl rfl (by (exact nF (by (assumption)))) (op_move rfl)) ?_ ?_; (· (assumption)))
    (refine' TA_take 6 rfl rfl (by kernel_rfl) (quiet_g2 rfl rfl (by (exact nF (by (assumption)))) (op_idxI ety_70 rfl rfl ?_ ?_)) ?_ ?_; (· omega); (· omega); (· (assumption)))
    (refine' TA_take 7 rfl rfl (by kernel_rfl) (quiet_g2 rfl rfl (by (exact nF (by (assumption)))) (op_ld rfl pl_9 ?_ ?_)) ?_ ?_; rotate_left 4; (· repeat ((exact List.mem_cons_self))); (· (assumption)); (· (assumption)))
    (refine' TA_take 8 rfl rfl (by kernel_rfl) (quiet_g2 rfl rfl (by (exact nF (by (assumption)))) (op_bin rfl rfl ?_)) ?_ ?_; rotate_left 1; (· (exact sbin_neq)); (· (assumption)))
    (refine' TA_take 9 rfl rfl (by kernel_rfl) (quiet_q (op_pickF rfl ?_ rfl)) ?_ ?_; (· (exact nF (by (assumption)))); (· (assumption)))
    refine TA_done (by kernel_rfl) ?_
    cases hpp : Cn.polP x3 with
    | none =>
      have hpp' := hpp
      unfold Cn.polP Cn.strictW Cn.unionW Cn.refuseW Cn.trustedW at hpp'
      have q1 : x3 ≠ [115, 116, 114, 105, 99, 116] := fun k => by rw [if_pos k] at hpp'; cases hpp'
      rw [if_neg q1] at hpp'
      have q2 : x3 ≠ [117, 110, 105, 111, 110] := fun k => by rw [if_pos k] at hpp'; cases hpp'
      rw [if_neg q2] at hpp'
      have q4 : x3 ≠ [114, 101, 102, 117, 115, 101] := fun k => by rw [if_pos k] at hpp'; cases hpp'
      rw [if_neg q4] at hpp'
      have q3 : x3 ≠ [116, 114, 117, 115, 116, 101, 100] := fun k => by rw [if_pos k] at hpp'; cases hpp'
      rw [item_no hws (rz_pol hws hpp)]
      repeat ((first | with_reducible refine T_seq ?_ | with_reducible refine T_block ?_ | with_reducible refine T_region ?_ | with_reducible refine TL_nil ?_ | with_reducible refine TQ_then ?_ | with_reducible refine T_skip ?_ | with_reducible refine T_ret ?_ | with_reducible refine TQ_then_ret ?_ | with_reducible refine TQ_block_ret ?_ | refine TL_q (op_move rfl) rfl ?_ | refine TL_q (op_assign rfl) rfl ?_ | (refine' TL_q (op_bin rfl rfl ?_) rfl ?_; rotate_left 1; (· (exact sbin_eql))) | (refine' TL_q (op_idxI ety_70 rfl rfl ?_ ?_) rfl ?_; (· omega); (· omega)) | (refine' TL_q (op_ld rfl pl_5 ?_ ?_) rfl ?_; rotate_left 4; (· repeat ((first | exact List.mem_cons_self | apply List.mem_cons_of_mem))); (· (assumption))) | (refine TL_stAll rfl rfl st_38 rfl rfl rfl ?_) | (refine TL_new (op_alloc (C := #[(.string (bs [])), (.int .u8 0), (.int .u16 0)]) zero_38 rfl) rfl ?_; intro bNew) | refine TL_q (op_build rfl (bl_38_0 _)) rfl ?_ | (refine T_no rfl ?_ ?_; (· (first | exact eF (by (assumption)) | exact nF (by (assumption)))))))
      refine TQ_heap (fun w h => h.tail.tail) ?_
      refine TQ_ret1 2 _ rfl rfl ?_
      exact ⟨rfl, rfl⟩
    | some p =>
      obtain ⟨hx3, hp1, hp4⟩ := Cn.polP_some hpp
      rcases (by omega : p = 1 ∨ p = 2 ∨ p = 3 ∨ p = 4) with rfl | rfl | rfl | rfl
      · obtain rfl : x3 = [115, 116, 114, 105, 99, 116] := hx3
        repeat ((first | with_reducible refine T_seq ?_ | with_reducible refine T_block ?_ | with_reducible refine T_region ?_ | with_reducible refine TL_nil ?_ | with_reducible refine TQ_then ?_ | with_reducible refine TQ_block ?_ | with_reducible refine T_skip ?_ | refine TL_q (op_move rfl) rfl ?_ | refine TL_q (op_assign rfl) rfl ?_ | (refine' TL_q (op_bin rfl rfl ?_) rfl ?_; rotate_left 1; (· (exact sbin_eql))) | (refine' TL_q (op_idxI ety_70 rfl rfl ?_ ?_) rfl ?_; (· omega); (· omega)) | (refine' TL_q (op_cutFrom ety_70 rfl rfl ?_ ?_) rfl ?_; (· omega); (· omega)) | refine TL_q (op_fld rfl fld_38_1) rfl ?_ | (refine' TL_q (op_ld rfl pl_5 ?_ ?_) rfl ?_; rotate_left 4; (· repeat ((first | exact List.mem_cons_self | apply List.mem_cons_of_mem))); (· (assumption))) | (refine' TL_st rfl rfl one_5 rfl ?_ rfl ?_; rotate_left 1; (· (rfl))) | (refine TL_stAll rfl rfl st_38 rfl rfl rfl ?_) | (refine TL_new (op_alloc (C := #[(.string (bs [])), (.int .u8 0), (.int .u16 0)]) zero_38 rfl) rfl ?_; intro bNew) | refine TL_q (op_build rfl (bl_38_0 _)) rfl ?_ | (refine T_yes rfl ?_ ?_; (· (exact Bool.not_false))) | (refine T_no rfl ?_ ?_; (· (exact nF (by (assumption)))))))
        obtain ⟨b8, hb8⟩ : ∃ b, bNew = b := ⟨_, rfl⟩
        rw [hb8]
        clear hb8 bNew
        have hst : ∀ Y : Blocks, (b8, Obj.cells ((#[.string (bs (parseV x2)), .int .u8 0, .int .u16 0] : Array Value).setIfInBounds (0 + 1) (.int .u8 1)) 38 (0, 0)) :: Y = (b8, Obj.cells #[.string (bs (parseV x2)), .int .u8 1, .int .u16 0] 38 (0, 0)) :: Y := fun Y => rfl
        rw [hst]
        have hrow : StrRow ((b8, Obj.cells #[.string (bs (parseV x2)), .int .u8 1, .int .u16 0] 38 (0, 0)) :: (b, Obj.cells ((Cn.zoneW :: x2 :: [115, 116, 114, 105, 99, 116] :: t : List Nm.Bytes).map txtV).toArray 9 (0, 0)) :: L) (.slice (cutA (some ⟨b, 0, none⟩) (t.length + 3) (Int.toNat 3) 1) (t.length + 3 - Int.toNat 3) (t.length + 3 - Int.toNat 3)) t := by
          show StrRow _ (.slice (cutA _ _ 3 1) (t.length + 3 - 3) (t.length + 3 - 3)) t
          rw [Nat.add_sub_cancel]
          exact StrRow.tail3 (List.mem_cons_of_mem _ (List.mem_cons_self ..))
        refine TL_op (op_call hb_66 rfl (bits_S _ t hrow (by omega) (fun w hw => by have := hlen w (by simp [hw]); omega))) rfl ?_
        have z0 : (#[.string (bs (parseV x2)), .int .u8 1, .int .u16 0] : Array Value)[0 + 1]? = some (.int .u8 1) := rfl
        cases hbt : Cn.bitsGo (-1) 0 t with
        | none =>
          have hbv : bitsV t = .tuple #[.int .u16 0, .bool false] := by unfold bitsV; rw [hbt]
          rw [hbv, item_no hws (rz_bits hws hbt)]
          repeat ((first | with_reducible refine T_seq ?_ | with_reducible refine T_region ?_ | with_reducible refine TL_nil ?_ | with_reducible refine TQ_then ?_ | with_reducible refine T_ret ?_ | with_reducible refine TQ_then_ret ?_ | refine TL_q (op_move rfl) rfl ?_ | refine TL_q (op_assign rfl) rfl ?_ | refine TL_q (op_not rfl) rfl ?_ | refine TL_q (op_extract rfl rfl) rfl ?_ | (refine' TL_q (op_pickT rfl ?_ rfl) rfl ?_; (· (exact Bool.not_false))) | (refine TL_gno rfl rfl ?_ rfl ?_; (· (with_reducible rfl))) | (refine T_yes rfl ?_ ?_; (· (with_reducible rfl)))))
          refine TQ_heap (fun w h => h.tail.tail) ?_
          refine TQ_ret1 2 _ rfl rfl ?_
          exact ⟨rfl, rfl⟩
        | some tr =>
          have hbv : bitsV t = .tuple #[.int .u16 (tr : Nat), .bool true] := by unfold bitsV; rw [hbt]
          have htr := (Cn.bits_back hbt).2
          rw [hbv]
          by_cases h0 : tr = 0
          · skip
            have hd : (!(((1 : Int) == 3) == (((tr : Nat) : Int) != 0))) = false := by simp [h0]
            rw [item_many hws, rz_ok hws hrn hpp hbt (by simp [h0])]
            dsimp only
            repeat ((first | with_reducible refine T_seq ?_ | with_reducible refine T_region ?_ | with_reducible refine TL_nil ?_ | with_reducible refine TQ_then ?_ | with_reducible refine T_skip ?_ | refine TL_q (op_move rfl) rfl ?_ | refine TL_q (op_assign rfl) rfl ?_ | refine TL_q (op_not rfl) rfl ?_ | refine TL_q (op_extract rfl rfl) rfl ?_ | (refine' TL_q (op_pickF rfl ?_ rfl) rfl ?_; (· (exact Bool.not_true))) | refine TL_q (op_fld rfl fld_38_2) rfl ?_ | (refine' TL_q (op_ldAll rfl st_38 ?_ ?_) rfl ?_; rotate_left 3; (· repeat ((exact List.mem_cons_self))); (· (rfl))) | (refine TL_gpre rfl rfl ?_ ?_; (· (exact Bool.not_true))) | refine TL_gq2 (op_move rfl) rfl ?_ | (refine' TL_gq2 (op_bin rfl rfl ?_) rfl ?_; rotate_left 1; (· (first | exact bin_eql | exact bin_neq | exact bbin_neq Tryd.underlying4))) | refine TL_gq2 (op_fld rfl fld_38_1) rfl ?_ | (refine' TL_gq2 (op_ld rfl pl_5 ?_ ?_) rfl ?_; rotate_left 4; (· repeat ((exact List.mem_cons_self))); (· (assumption))) | (refine' TL_st rfl rfl one_5 rfl ?_ rfl ?_; rotate_left 1; (· (rfl))) | refine TL_q (op_build rfl (bl_85_0 _ _ _)) rfl ?_ | (refine T_no rfl ?_ ?_; (· (assumption)))))
            refine TL_q (op_iface rfl Tryd.underlying85) rfl ?_
            repeat ((first | with_reducible refine TL_nil ?_ | with_reducible refine TQ_then ?_ | with_reducible refine T_ret ?_ | refine TL_q (op_assign rfl) rfl ?_))
            refine TQ_heap (fun w h => h.tail.tail) ?_
            refine TQ_ret1 2 _ rfl rfl ?_
            exact ⟨rfl, rfl⟩
          · skip
            have hd : (!(((1 : Int) == 3) == (((tr : Nat) : Int) != 0))) = true := by simp [h0]
            rw [item_no hws (rz_bad hws hpp hbt (by simp [h0]))]
            repeat ((first | with_reducible refine T_seq ?_ | with_reducible refine T_region ?_ | with_reducible refine TL_nil ?_ | with_reducible refine TQ_then ?_ | with_reducible refine T_ret ?_ | with_reducible refine TQ_then_ret ?_ | refine TL_q (op_move rfl) rfl ?_ | refine TL_q (op_assign rfl) rfl ?_ | refine TL_q (op_not rfl) rfl ?_ | refine TL_q (op_extract rfl rfl) rfl ?_ | (refine' TL_q (op_pickF rfl ?_ rfl) rfl ?_; (· (exact Bool.not_true))) | (refine TL_gpre rfl rfl ?_ ?_; (· (exact Bool.not_true))) | refine TL_gq2 (op_move rfl) rfl ?_ | (refine' TL_gq2 (op_bin rfl rfl ?_) rfl ?_; rotate_left 1; (· (first | exact bin_eql | exact bin_neq | exact bbin_neq Tryd.underlying4))) | refine TL_gq2 (op_fld rfl fld_38_1) rfl ?_ | (refine' TL_gq2 (op_ld rfl pl_5 ?_ ?_) rfl ?_; rotate_left 4; (· repeat ((exact List.mem_cons_self))); (· (assumption))) | (refine T_yes rfl ?_ ?_; (· (assumption)))))
            refine TQ_heap (fun w h => h.tail.tail) ?_
            refine TQ_ret1 2 _ rfl rfl ?_
            exact ⟨rfl, rfl⟩
      · obtain rfl : x3 = [117, 110, 105, 111, 110] := hx3
        repeat ((first | with_reducible refine T_seq ?_ | with_reducible refine T_block ?_ | with_reducible refine T_region ?_ | with_reducible refine TL_nil ?_ | with_reducible refine TQ_then ?_ | with_reducible refine TQ_block ?_ | with_reducible refine T_skip ?_ | refine TL_q (op_move rfl) rfl ?_ | refine TL_q (op_assign rfl) rfl ?_ | (refine' TL_q (op_bin rfl rfl ?_) rfl ?_; rotate_left 1; (· (exact sbin_eql))) | (refine' TL_q (op_idxI ety_70 rfl rfl ?_ ?_) rfl ?_; (· omega); (· omega)) | (refine' TL_q (op_cutFrom ety_70 rfl rfl ?_ ?_) rfl ?_; (· omega); (· omega)) | refine TL_q (op_fld rfl fld_38_1) rfl ?_ | (refine' TL_q (op_ld rfl pl_5 ?_ ?_) rfl ?_; rotate_left 4; (· repeat ((first | exact List.mem_cons_self | apply List.mem_cons_of_mem))); (· (assumption))) | (refine' TL_st rfl rfl one_5 rfl ?_ rfl ?_; rotate_left 1; (· (rfl))) | (refine TL_stAll rfl rfl st_38 rfl rfl rfl ?_) | (refine TL_new (op_alloc (C := #[(.string (bs [])), (.int .u8 0), (.int .u16 0)]) zero_38 rfl) rfl ?_; intro bNew) | refine TL_q (op_build rfl (bl_38_0 _)) rfl ?_ | (refine T_yes rfl ?_ ?_; (· (exact Bool.not_false))) | (refine T_no rfl ?_ ?_; (· (first | exact Bool.not_true | exact nF (by (assumption)))))))
        obtain ⟨b8, hb8⟩ : ∃ b, bNew = b := ⟨_, rfl⟩
        rw [hb8]
        clear hb8 bNew
        have hst : ∀ Y : Blocks, (b8, Obj.cells ((#[.string (bs (parseV x2)), .int .u8 0, .int .u16 0] : Array Value).setIfInBounds (0 + 1) (.int .u8 2)) 38 (0, 0)) :: Y = (b8, Obj.cells #[.string (bs (parseV x2)), .int .u8 2, .int .u16 0] 38 (0, 0)) :: Y := fun Y => rfl
        rw [hst]
        have hrow : StrRow ((b8, Obj.cells #[.string (bs (parseV x2)), .int .u8 2, .int .u16 0] 38 (0, 0)) :: (b, Obj.cells ((Cn.zoneW :: x2 :: [117, 110, 105, 111, 110] :: t : List Nm.Bytes).map txtV).toArray 9 (0, 0)) :: L) (.slice (cutA (some ⟨b, 0, none⟩) (t.length + 3) (Int.toNat 3) 1) (t.length + 3 - Int.toNat 3) (t.length + 3 - Int.toNat 3)) t := by
          show StrRow _ (.slice (cutA _ _ 3 1) (t.length + 3 - 3) (t.length + 3 - 3)) t
          rw [Nat.add_sub_cancel]
          exact StrRow.tail3 (List.mem_cons_of_mem _ (List.mem_cons_self ..))
        refine TL_op (op_call hb_66 rfl (bits_S _ t hrow (by omega) (fun w hw => by have := hlen w (by simp [hw]); omega))) rfl ?_
        have z0 : (#[.string (bs (parseV x2)), .int .u8 2, .int .u16 0] : Array Value)[0 + 1]? = some (.int .u8 2) := rfl
        cases hbt : Cn.bitsGo (-1) 0 t with
        | none =>
          have hbv : bitsV t = .tuple #[.int .u16 0, .bool false] := by unfold bitsV; rw [hbt]
          rw [hbv, item_no hws (rz_bits hws hbt)]
          repeat ((first | with_reducible refine T_seq ?_ | with_reducible refine T_region ?_ | with_reducible refine TL_nil ?_ | with_reducible refine TQ_then ?_ | with_reducible refine T_ret ?_ | with_reducible refine TQ_then_ret ?_ | refine TL_q (op_move rfl) rfl ?_ | refine TL_q (op_assign rfl) rfl ?_ | refine TL_q (op_not rfl) rfl ?_ | refine TL_q (op_extract rfl rfl) rfl ?_ | (refine' TL_q (op_pickT rfl ?_ rfl) rfl ?_; (· (exact Bool.not_false))) | (refine TL_gno rfl rfl ?_ rfl ?_; (· (with_reducible rfl))) | (refine T_yes rfl ?_ ?_; (· (with_reducible rfl)))))
          refine TQ_heap (fun w h => h.tail.tail) ?_
          refine TQ_ret1 2 _ rfl rfl ?_
          exact ⟨rfl, rfl⟩
        | some tr =>
          have hbv : bitsV t = .tuple #[.int .u16 (tr : Nat), .bool true] := by unfold bitsV; rw [hbt]
          have htr := (Cn.bits_back hbt).2
          rw [hbv]
          by_cases h0 : tr = 0
          · skip
            have hd : (!(((2 : Int) == 3) == (((tr : Nat) : Int) != 0))) = false := by simp [h0]
            rw [item_many hws, rz_ok hws hrn hpp hbt (by simp [h0])]
            dsimp only
            repeat ((first | with_reducible refine T_seq ?_ | with_reducible refine T_region ?_ | with_reducible refine TL_nil ?_ | with_reducible refine TQ_then ?_ | with_reducible refine T_skip ?_ | refine TL_q (op_move rfl) rfl ?_ | refine TL_q (op_assign rfl) rfl ?_ | refine TL_q (op_not rfl) rfl ?_ | refine TL_q (op_extract rfl rfl) rfl ?_ | (refine' TL_q (op_pickF rfl ?_ rfl) rfl ?_; (· (exact Bool.not_true))) | refine TL_q (op_fld rfl fld_38_2) rfl ?_ | (refine' TL_q (op_ldAll rfl st_38 ?_ ?_) rfl ?_; rotate_left 3; (· repeat ((exact List.mem_cons_self))); (· (rfl))) | (refine TL_gpre rfl rfl ?_ ?_; (· (exact Bool.not_true))) | refine TL_gq2 (op_move rfl) rfl ?_ | (refine' TL_gq2 (op_bin rfl rfl ?_) rfl ?_; rotate_left 1; (· (first | exact bin_eql | exact bin_neq | exact bbin_neq Tryd.underlying4))) | refine TL_gq2 (op_fld rfl fld_38_1) rfl ?_ | (refine' TL_gq2 (op_ld rfl pl_5 ?_ ?_) rfl ?_; rotate_left 4; (· repeat ((exact List.mem_cons_self))); (· (assumption))) | (refine' TL_st rfl rfl one_5 rfl ?_ rfl ?_; rotate_left 1; (· (rfl))) | refine TL_q (op_build rfl (bl_85_0 _ _ _)) rfl ?_ | (refine T_no rfl ?_ ?_; (· (assumption)))))
            refine TL_q (op_iface rfl Tryd.underlying85) rfl ?_
            repeat ((first | with_reducible refine TL_nil ?_ | with_reducible refine TQ_then ?_ | with_reducible refine T_ret ?_ | refine TL_q (op_assign rfl) rfl ?_))
            refine TQ_heap (fun w h => h.tail.tail) ?_
            refine TQ_ret1 2 _ rfl rfl ?_
            exact ⟨rfl, rfl⟩
          · skip
            have hd : (!(((2 : Int) == 3) == (((tr : Nat) : Int) != 0))) = true := by simp [h0]
            rw [item_no hws (rz_bad hws hpp hbt (by simp [h0]))]
            repeat ((first | with_reducible refine T_seq ?_ | with_reducible refine T_region ?_ | with_reducible refine TL_nil ?_ | with_reducible refine TQ_then ?_ | with_reducible refine T_ret ?_ | with_reducible refine TQ_then_ret ?_ | refine TL_q (op_move rfl) rfl ?_ | refine TL_q (op_assign rfl) rfl ?_ | refine TL_q (op_not rfl) rfl ?_ | refine TL_q (op_extract rfl rfl) rfl ?_ | (refine' TL_q (op_pickF rfl ?_ rfl) rfl ?_; (· (exact Bool.not_true))) | (refine TL_gpre rfl rfl ?_ ?_; (· (exact Bool.not_true))) | refine TL_gq2 (op_move rfl) rfl ?_ | (refine' TL_gq2 (op_bin rfl rfl ?_) rfl ?_; rotate_left 1; (· (first | exact bin_eql | exact bin_neq | exact bbin_neq Tryd.underlying4))) | refine TL_gq2 (op_fld rfl fld_38_1) rfl ?_ | (refine' TL_gq2 (op_ld rfl pl_5 ?_ ?_) rfl ?_; rotate_left 4; (· repeat ((exact List.mem_cons_self))); (· (assumption))) | (refine T_yes rfl ?_ ?_; (· (assumption)))))
            refine TQ_heap (fun w h => h.tail.tail) ?_
            refine TQ_ret1 2 _ rfl rfl ?_
            exact ⟨rfl, rfl⟩
      · obtain rfl : x3 = [116, 114, 117, 115, 116, 101, 100] := hx3
        repeat ((first | with_reducible refine T_seq ?_ | with_reducible refine T_block ?_ | with_reducible refine T_region ?_ | with_reducible refine TL_nil ?_ | with_reducible refine TQ_then ?_ | with_reducible refine TQ_block ?_ | with_reducible refine T_skip ?_ | refine TL_q (op_move rfl) rfl ?_ | refine TL_q (op_assign rfl) rfl ?_ | (refine' TL_q (op_bin rfl rfl ?_) rfl ?_; rotate_left 1; (· (exact sbin_eql))) | (refine' TL_q (op_idxI ety_70 rfl rfl ?_ ?_) rfl ?_; (· omega); (· omega)) | (refine' TL_q (op_cutFrom ety_70 rfl rfl ?_ ?_) rfl ?_; (· omega); (· omega)) | refine TL_q (op_fld rfl fld_38_1) rfl ?_ | (refine' TL_q (op_ld rfl pl_5 ?_ ?_) rfl ?_; rotate_left 4; (· repeat ((first | exact List.mem_cons_self | apply List.mem_cons_of_mem))); (· (assumption))) | (refine' TL_st rfl rfl one_5 rfl ?_ rfl ?_; rotate_left 1; (· (rfl))) | (refine TL_stAll rfl rfl st_38 rfl rfl rfl ?_) | (refine TL_new (op_alloc (C := #[(.string (bs [])), (.int .u8 0), (.int .u16 0)]) zero_38 rfl) rfl ?_; intro bNew) | refine TL_q (op_build rfl (bl_38_0 _)) rfl ?_ | (refine T_yes rfl ?_ ?_; (· (exact Bool.not_false))) | (refine T_no rfl ?_ ?_; (· (first | exact Bool.not_true | exact nF (by (assumption)))))))
        obtain ⟨b8, hb8⟩ : ∃ b, bNew = b := ⟨_, rfl⟩
        rw [hb8]
        clear hb8 bNew
        have hst : ∀ Y : Blocks, (b8, Obj.cells ((#[.string (bs (parseV x2)), .int .u8 0, .int .u16 0] : Array Value).setIfInBounds (0 + 1) (.int .u8 3)) 38 (0, 0)) :: Y = (b8, Obj.cells #[.string (bs (parseV x2)), .int .u8 3, .int .u16 0] 38 (0, 0)) :: Y := fun Y => rfl
        rw [hst]
        have hrow : StrRow ((b8, Obj.cells #[.string (bs (parseV x2)), .int .u8 3, .int .u16 0] 38 (0, 0)) :: (b, Obj.cells ((Cn.zoneW :: x2 :: [116, 114, 117, 115, 116, 101, 100] :: t : List Nm.Bytes).map txtV).toArray 9 (0, 0)) :: L) (.slice (cutA (some ⟨b, 0, none⟩) (t.length + 3) (Int.toNat 3) 1) (t.length + 3 - Int.toNat 3) (t.length + 3 - Int.toNat 3)) t := by
          show StrRow _ (.slice (cutA _ _ 3 1) (t.length + 3 - 3) (t.length + 3 - 3)) t
          rw [Nat.add_sub_cancel]
          exact StrRow.tail3 (List.mem_cons_of_mem _ (List.mem_cons_self ..))
        refine TL_op (op_call hb_66 rfl (bits_S _ t hrow (by omega) (fun w hw => by have := hlen w (by simp [hw]); omega))) rfl ?_
        have z0 : (#[.string (bs (parseV x2)), .int .u8 3, .int .u16 0] : Array Value)[0 + 1]? = some (.int .u8 3) := rfl
        cases hbt : Cn.bitsGo (-1) 0 t with
        | none =>
          have hbv : bitsV t = .tuple #[.int .u16 0, .bool false] := by unfold bitsV; rw [hbt]
          rw [hbv, item_no hws (rz_bits hws hbt)]
          repeat ((first | with_reducible refine T_seq ?_ | with_reducible refine T_region ?_ | with_reducible refine TL_nil ?_ | with_reducible refine TQ_then ?_ | with_reducible refine T_ret ?_ | with_reducible refine TQ_then_ret ?_ | refine TL_q (op_move rfl) rfl ?_ | refine TL_q (op_assign rfl) rfl ?_ | refine TL_q (op_not rfl) rfl ?_ | refine TL_q (op_extract rfl rfl) rfl ?_ | (refine' TL_q (op_pickT rfl ?_ rfl) rfl ?_; (· (exact Bool.not_false))) | (refine TL_gno rfl rfl ?_ rfl ?_; (· (with_reducible rfl))) | (refine T_yes rfl ?_ ?_; (· (with_reducible rfl)))))
          refine TQ_heap (fun w h => h.tail.tail) ?_
          refine TQ_ret1 2 _ rfl rfl ?_
          exact ⟨rfl, rfl⟩
        | some tr =>
          have hbv : bitsV t = .tuple #[.int .u16 (tr : Nat), .bool true] := by unfold bitsV; rw [hbt]
          have htr := (Cn.bits_back hbt).2
          rw [hbv]
          by_cases h0 : tr = 0
          · skip
            have hd : (!(((3 : Int) == 3) == (((tr : Nat) : Int) != 0))) = true := by simp [h0]
            rw [item_no hws (rz_bad hws hpp hbt (by simp [h0]))]
            repeat ((first | with_reducible refine T_seq ?_ | with_reducible refine T_region ?_ | with_reducible refine TL_nil ?_ | with_reducible refine TQ_then ?_ | with_reducible refine T_ret ?_ | with_reducible refine TQ_then_ret ?_ | refine TL_q (op_move rfl) rfl ?_ | refine TL_q (op_assign rfl) rfl ?_ | refine TL_q (op_not rfl) rfl ?_ | refine TL_q (op_extract rfl rfl) rfl ?_ | (refine' TL_q (op_pickF rfl ?_ rfl) rfl ?_; (· (exact Bool.not_true))) | (refine TL_gpre rfl rfl ?_ ?_; (· (exact Bool.not_true))) | refine TL_gq2 (op_move rfl) rfl ?_ | (refine' TL_gq2 (op_bin rfl rfl ?_) rfl ?_; rotate_left 1; (· (first | exact bin_eql | exact bin_neq | exact bbin_neq Tryd.underlying4))) | refine TL_gq2 (op_fld rfl fld_38_1) rfl ?_ | (refine' TL_gq2 (op_ld rfl pl_5 ?_ ?_) rfl ?_; rotate_left 4; (· repeat ((exact List.mem_cons_self))); (· (assumption))) | (refine T_yes rfl ?_ ?_; (· (assumption)))))
            refine TQ_heap (fun w h => h.tail.tail) ?_
            refine TQ_ret1 2 _ rfl rfl ?_
            exact ⟨rfl, rfl⟩
          · skip
            have hd : (!(((3 : Int) == 3) == (((tr : Nat) : Int) != 0))) = false := by simp [h0]
            rw [item_many hws, rz_ok hws hrn hpp hbt (by simp [h0])]
            dsimp only
            repeat ((first | with_reducible refine T_seq ?_ | with_reducible refine T_region ?_ | with_reducible refine TL_nil ?_ | with_reducible refine TQ_then ?_ | with_reducible refine T_skip ?_ | refine TL_q (op_move rfl) rfl ?_ | refine TL_q (op_assign rfl) rfl ?_ | refine TL_q (op_not rfl) rfl ?_ | refine TL_q (op_extract rfl rfl) rfl ?_ | (refine' TL_q (op_pickF rfl ?_ rfl) rfl ?_; (· (exact Bool.not_true))) | refine TL_q (op_fld rfl fld_38_2) rfl ?_ | (refine' TL_q (op_ldAll rfl st_38 ?_ ?_) rfl ?_; rotate_left 3; (· repeat ((exact List.mem_cons_self))); (· (rfl))) | (refine TL_gpre rfl rfl ?_ ?_; (· (exact Bool.not_true))) | refine TL_gq2 (op_move rfl) rfl ?_ | (refine' TL_gq2 (op_bin rfl rfl ?_) rfl ?_; rotate_left 1; (· (first | exact bin_eql | exact bin_neq | exact bbin_neq Tryd.underlying4))) | refine TL_gq2 (op_fld rfl fld_38_1) rfl ?_ | (refine' TL_gq2 (op_ld rfl pl_5 ?_ ?_) rfl ?_; rotate_left 4; (· repeat ((exact List.mem_cons_self))); (· (assumption))) | (refine' TL_st rfl rfl one_5 rfl ?_ rfl ?_; rotate_left 1; (· (rfl))) | refine TL_q (op_build rfl (bl_85_0 _ _ _)) rfl ?_ | (refine T_no rfl ?_ ?_; (· (assumption)))))
            refine TL_q (op_iface rfl Tryd.underlying85) rfl ?_
            repeat ((first | with_reducible refine TL_nil ?_ | with_reducible refine TQ_then ?_ | with_reducible refine T_ret ?_ | refine TL_q (op_assign rfl) rfl ?_))
            refine TQ_heap (fun w h => h.tail.tail) ?_
            refine TQ_ret1 2 _ rfl rfl ?_
            exact ⟨rfl, rfl⟩
      · obtain rfl : x3 = [114, 101, 102, 117, 115, 101] := hx3
        repeat ((first | with_reducible refine T_seq ?_ | with_reducible refine T_block ?_ | with_reducible refine T_region ?_ | with_reducible refine TL_nil ?_ | with_reducible refine TQ_then ?_ | with_reducible refine TQ_block ?_ | with_reducible refine T_skip ?_ | refine TL_q (op_move rfl) rfl ?_ | refine TL_q (op_assign rfl) rfl ?_ | (refine' TL_q (op_bin rfl rfl ?_) rfl ?_; rotate_left 1; (· (exact sbin_eql))) | (refine' TL_q (op_idxI ety_70 rfl rfl ?_ ?_) rfl ?_; (· omega); (· omega)) | (refine' TL_q (op_cutFrom ety_70 rfl rfl ?_ ?_) rfl ?_; (· omega); (· omega)) | refine TL_q (op_fld rfl fld_38_1) rfl ?_ | (refine' TL_q (op_ld rfl pl_5 ?_ ?_) rfl ?_; rotate_left 4; (· repeat ((first | exact List.mem_cons_self | apply List.mem_cons_of_mem))); (· (assumption))) | (refine' TL_st rfl rfl one_5 rfl ?_ rfl ?_; rotate_left 1; (· (rfl))) | (refine TL_stAll rfl rfl st_38 rfl rfl rfl ?_) | (refine TL_new (op_alloc (C := #[(.string (bs [])), (.int .u8 0), (.int .u16 0)]) zero_38 rfl) rfl ?_; intro bNew) | refine TL_q (op_build rfl (bl_38_0 _)) rfl ?_ | (refine T_yes rfl ?_ ?_; (· (exact Bool.not_false))) | (refine T_no rfl ?_ ?_; (· (first | exact Bool.not_true | exact nF (by (assumption)))))))
        obtain ⟨b8, hb8⟩ : ∃ b, bNew = b := ⟨_, rfl⟩
        rw [hb8]
        clear hb8 bNew
        have hst : ∀ Y : Blocks, (b8, Obj.cells ((#[.string (bs (parseV x2)), .int .u8 0, .int .u16 0] : Array Value).setIfInBounds (0 + 1) (.int .u8 4)) 38 (0, 0)) :: Y = (b8, Obj.cells #[.string (bs (parseV x2)), .int .u8 4, .int .u16 0] 38 (0, 0)) :: Y := fun Y => rfl
        rw [hst]
        have hrow : StrRow ((b8, Obj.cells #[.string (bs (parseV x2)), .int .u8 4, .int .u16 0] 38 (0, 0)) :: (b, Obj.cells ((Cn.zoneW :: x2 :: [114, 101, 102, 117, 115, 101] :: t : List Nm.Bytes).map txtV).toArray 9 (0, 0)) :: L) (.slice (cutA (some ⟨b, 0, none⟩) (t.length + 3) (Int.toNat 3) 1) (t.length + 3 - Int.toNat 3) (t.length + 3 - Int.toNat 3)) t := by
          show StrRow _ (.slice (cutA _ _ 3 1) (t.length + 3 - 3) (t.length + 3 - 3)) t
          rw [Nat.add_sub_cancel]
          exact StrRow.tail3 (List.mem_cons_of_mem _ (List.mem_cons_self ..))
        refine TL_op (op_call hb_66 rfl (bits_S _ t hrow (by omega) (fun w hw => by have := hlen w (by simp [hw]); omega))) rfl ?_
        have z0 : (#[.string (bs (parseV x2)), .int .u8 4, .int .u16 0] : Array Value)[0 + 1]? = some (.int .u8 4) := rfl
        cases hbt : Cn.bitsGo (-1) 0 t with
        | none =>
          have hbv : bitsV t = .tuple #[.int .u16 0, .bool false] := by unfold bitsV; rw [hbt]
          rw [hbv, item_no hws (rz_bits hws hbt)]
          repeat ((first | with_reducible refine T_seq ?_ | with_reducible refine T_region ?_ | with_reducible refine TL_nil ?_ | with_reducible refine TQ_then ?_ | with_reducible refine T_ret ?_ | with_reducible refine TQ_then_ret ?_ | refine TL_q (op_move rfl) rfl ?_ | refine TL_q (op_assign rfl) rfl ?_ | refine TL_q (op_not rfl) rfl ?_ | refine TL_q (op_extract rfl rfl) rfl ?_ | (refine' TL_q (op_pickT rfl ?_ rfl) rfl ?_; (· (exact Bool.not_false))) | (refine TL_gno rfl rfl ?_ rfl ?_; (· (with_reducible rfl))) | (refine T_yes rfl ?_ ?_; (· (with_reducible rfl)))))
          refine TQ_heap (fun w h => h.tail.tail) ?_
          refine TQ_ret1 2 _ rfl rfl ?_
          exact ⟨rfl, rfl⟩
        | some tr =>
          have hbv : bitsV t = .tuple #[.int .u16 (tr : Nat), .bool true] := by unfold bitsV; rw [hbt]
          have htr := (Cn.bits_back hbt).2
          rw [hbv]
          by_cases h0 : tr = 0
          · skip
            have hd : (!(((4 : Int) == 3) == (((tr : Nat) : Int) != 0))) = false := by simp [h0]
            rw [item_many hws, rz_ok hws hrn hpp hbt (by simp [h0])]
            dsimp only
            repeat ((first | with_reducible refine T_seq ?_ | with_reducible refine T_region ?_ | with_reducible refine TL_nil ?_ | with_reducible refine TQ_then ?_ | with_reducible refine T_skip ?_ | refine TL_q (op_move rfl) rfl ?_ | refine TL_q (op_assign rfl) rfl ?_ | refine TL_q (op_not rfl) rfl ?_ | refine TL_q (op_extract rfl rfl) rfl ?_ | (refine' TL_q (op_pickF rfl ?_ rfl) rfl ?_; (· (exact Bool.not_true))) | refine TL_q (op_fld rfl fld_38_2) rfl ?_ | (refine' TL_q (op_ldAll rfl st_38 ?_ ?_) rfl ?_; rotate_left 3; (· repeat ((exact List.mem_cons_self))); (· (rfl))) | (refine TL_gpre rfl rfl ?_ ?_; (· (exact Bool.not_true))) | refine TL_gq2 (op_move rfl) rfl ?_ | (refine' TL_gq2 (op_bin rfl rfl ?_) rfl ?_; rotate_left 1; (· (first | exact bin_eql | exact bin_neq | exact bbin_neq Tryd.underlying4))) | refine TL_gq2 (op_fld rfl fld_38_1) rfl ?_ | (refine' TL_gq2 (op_ld rfl pl_5 ?_ ?_) rfl ?_; rotate_left 4; (· repeat ((exact List.mem_cons_self))); (· (assumption))) | (refine' TL_st rfl rfl one_5 rfl ?_ rfl ?_; rotate_left 1; (· (rfl))) | refine TL_q (op_build rfl (bl_85_0 _ _ _)) rfl ?_ | (refine T_no rfl ?_ ?_; (· (assumption)))))
            refine TL_q (op_iface rfl Tryd.underlying85) rfl ?_
            repeat ((first | with_reducible refine TL_nil ?_ | with_reducible refine TQ_then ?_ | with_reducible refine T_ret ?_ | refine TL_q (op_assign rfl) rfl ?_))
            refine TQ_heap (fun w h => h.tail.tail) ?_
            refine TQ_ret1 2 _ rfl rfl ?_
            exact ⟨rfl, rfl⟩
          · skip
            have hd : (!(((4 : Int) == 3) == (((tr : Nat) : Int) != 0))) = true := by simp [h0]
            rw [item_no hws (rz_bad hws hpp hbt (by simp [h0]))]
            repeat ((first | with_reducible refine T_seq ?_ | with_reducible refine T_region ?_ | with_reducible refine TL_nil ?_ | with_reducible refine TQ_then ?_ | with_reducible refine T_ret ?_ | with_reducible refine TQ_then_ret ?_ | refine TL_q (op_move rfl) rfl ?_ | refine TL_q (op_assign rfl) rfl ?_ | refine TL_q (op_not rfl) rfl ?_ | refine TL_q (op_extract rfl rfl) rfl ?_ | (refine' TL_q (op_pickF rfl ?_ rfl) rfl ?_; (· (exact Bool.not_true))) | (refine TL_gpre rfl rfl ?_ ?_; (· (exact Bool.not_true))) | refine TL_gq2 (op_move rfl) rfl ?_ | (refine' TL_gq2 (op_bin rfl rfl ?_) rfl ?_; rotate_left 1; (· (first | exact bin_eql | exact bin_neq | exact bbin_neq Tryd.underlying4))) | refine TL_gq2 (op_fld rfl fld_38_1) rfl ?_ | (refine' TL_gq2 (op_ld rfl pl_5 ?_ ?_) rfl ?_; rotate_left 4; (· repeat ((exact List.mem_cons_self))); (· (assumption))) | (refine T_yes rfl ?_ ?_; (· (assumption)))))
            refine TQ_heap (fun w h => h.tail.tail) ?_
            refine TQ_ret1 2 _ rfl rfl ?_
            exact ⟨rfl, rfl⟩
end Go.Proofs.YtnhlpifbadncmaaDoor
namespace Go.Proofs.YtnhlpifbadncmaaDoor
open Go.RowKit
open Cn (Zo Cf)
set_option linter.unusedVariables false
set_option linter.unusedSimpArgs false
/-- So many lines of a text are read. -/
structure PInv (s : Nm.Bytes) (k : Nat) (rest : Nm.Bytes) (vs : List Int) (zs : List Zo) : Prop where
  go : Cn.goP theT 0 (Cn.linesP s).1 [] [] = Cn.goP theT k (Cn.linesP rest).1 vs zs
  len : (Cn.linesP s).1.length = k + (Cn.linesP rest).1.length
  fin : (Cn.linesP s).2 = (Cn.linesP rest).2
  size : k + rest.length ≤ s.length
  vl : vs.length = min k 12
  zl : zs.length ≤ k
  vr : ∀ v ∈ vs, 0 ≤ v ∧ v ≤ 2147483647
  zr : ∀ z ∈ zs, z.name.length ≤ 255 ∧ z.pol ≤ 4 ∧ z.tru ≤ 65535
theorem PInv.zero (s : Nm.Bytes) : PInv s 0 s [] [] := ⟨rfl, by omega, rfl, by omega, rfl, by simp, by simp, by simp⟩
theorem readZone_rng {l : Nm.Bytes} {z : Zo} (h : Cn.readZone theT l = some z) : z.name.length ≤ 255 ∧ z.pol ≤ 4 ∧ z.tru ≤ 65535 := by
  obtain ⟨_, h1, h2⟩ := Cn.readZone_some theT_ok h
  refine ⟨may_255 h1, ?_, by omega⟩
  unfold Cn.readZone at h
  split at h
  · split at h
    · split at h
      · rename_i n p t _ hp _
        split at h
        · cases h
          exact (Cn.polP_some hp).2.2
        · cases h
      · cases h
    · cases h
  · cases h
section
variable {s rest : Nm.Bytes} {k : Nat} {vs : List Int} {zs : List Zo}
theorem PInv.end' (h : PInv s k [] vs zs) (hs : s.length ≤ 131072) (hk : 12 ≤ k) : Cn.parseP theT s = if Cn.mayP (Cn.ofN vs zs) then (Cn.ofN vs zs, 0, 0) else (Cn.zeroC, 0, 1) := by
  have h0 : Cn.linesP [] = ([], []) := rfl
  have hg := h.go
  have hl := h.len
  have hf := h.fin
  rw [h0] at hg hl hf
  rw [Cn.goP] at hg
  have := Cn.parse_inr (T := theT) (s := s) (ls := (Cn.linesP s).1) (r := (Cn.linesP s).2) rfl hs hg
  rw [this, if_neg (by rw [hf, hl]; simp; omega)]
theorem PInv.open' (h : PInv s k rest vs zs) (hs : s.length ≤ 131072) (hr : (10 : UInt8) ∉ rest) (hk : k < 12 ∨ rest ≠ []) : Cn.parseP theT s = (Cn.zeroC, (k : Int) + 1, 3) := by
  have h0 := Cn.linesP_end rest hr
  have hg := h.go
  have hl := h.len
  have hf := h.fin
  rw [h0] at hg hl hf
  rw [Cn.goP] at hg
  have := Cn.parse_inr (T := theT) (s := s) (ls := (Cn.linesP s).1) (r := (Cn.linesP s).2) rfl hs hg
  rw [List.length_nil, Nat.add_zero] at hl
  rw [this, if_pos (by rw [hf, hl]; dsimp only; exact hk.symm), hl]
theorem PInv.bad {l r : Nm.Bytes} (h : PInv s k (l ++ 10 :: r) vs zs) (hs : s.length ≤ 131072) (hl10 : (10 : UInt8) ∉ l) (hb : (k < 12 ∧ Cn.readNum k l = none) ∨ (12 ≤ k ∧ Cn.readZone theT l = none)) : Cn.parseP theT s = (Cn.zeroC, (k : Int) + 1, 3) := by
  have h0 := Cn.linesP_line l r hl10
  have hg := h.go
  rw [h0, Cn.goP] at hg
  refine Cn.parse_inl (T := theT) (s := s) (ls := (Cn.linesP s).1) (r := (Cn.linesP s).2) rfl hs (hg.trans ?_)
  rcases hb with ⟨h1, h2⟩ | ⟨h1, h2⟩
  · rw [if_pos h1, h2]
  · rw [if_neg (by omega), h2]
theorem PInv.num {l r : Nm.Bytes} {v : Int} (h : PInv s k (l ++ 10 :: r) vs zs) (hl10 : (10 : UInt8) ∉ l) (hk : k < 12) (hv : Cn.readNum k l = some v) : PInv s (k + 1) r (vs ++ [v]) zs := by
  have h0 := Cn.linesP_line l r hl10
  obtain ⟨hg, hl, hf, hz, h5, h6, h7, h8⟩ := h
  rw [h0] at hg hl hf
  rw [Cn.goP, if_pos hk, hv] at hg
  refine ⟨hg, by rw [hl, List.length_cons]; omega, hf, ?_, by rw [List.length_append, h5]; simp; omega, by omega, ?_, h8⟩
  · simp only [List.length_append, List.length_cons] at hz; omega
  · intro x hx
    rcases List.mem_append.1 hx with hx | hx
    · exact h7 x hx
    · obtain ⟨_, _, _, q1, q2⟩ := Cn.readNum_some hv
      simp only [List.mem_cons, List.not_mem_nil, or_false] at hx
      subst hx
      exact ⟨q1, q2⟩
theorem PInv.zone {l r : Nm.Bytes} {z : Zo} (h : PInv s k (l ++ 10 :: r) vs zs) (hl10 : (10 : UInt8) ∉ l) (hk : 12 ≤ k) (hv : Cn.readZone theT l = some z) : PInv s (k + 1) r vs (zs ++ [z]) := by
  have h0 := Cn.linesP_line l r hl10
  obtain ⟨hg, hl, hf, hz, h5, h6, h7, h8⟩ := h
  rw [h0] at hg hl hf
  rw [Cn.goP, if_neg (by omega), hv] at hg
  refine ⟨hg, by rw [hl, List.length_cons]; omega, hf, ?_, by rw [h5]; omega, by simp; omega, h7, ?_⟩
  · simp only [List.length_append, List.length_cons] at hz; omega
  · intro x hx
    rcases List.mem_append.1 hx with hx | hx
    · exact h8 x hx
    · simp only [List.mem_cons, List.not_mem_nil, or_false] at hx
      subst hx
      exact readZone_rng hv
end
theorem parseP_long {s : Nm.Bytes} (h : 131072 < s.length) : Cn.parseP theT s = (Cn.zeroC, 0, 5) := by unfold Cn.parseP; rw [if_pos h]
/-- What a line may say. -/
theorem item_cases (l : Nm.Bytes) : (∃ w n, itemV l = .iface 82 (.agg #[.string (bs w), .int .i64 (n : Nat)]) ∧ n ≤ 2147483647 ∧ (∀ k, Cn.readNum k l = if some w = Cn.words12[k]? then some (n : Int) else none) ∧ Cn.readZone theT l = none) ∨
    (∃ z, itemV l = .iface 85 (zoV z) ∧ (∀ k, Cn.readNum k l = none) ∧ Cn.readZone theT l = some z) ∨
    (itemV l = .nilIface ∧ (∀ k, Cn.readNum k l = none) ∧ Cn.readZone theT l = none) := by
  obtain ⟨ws, hws⟩ : ∃ ws, Cn.spl 32 l = ws := ⟨_, rfl⟩
  have hne := Cn.spl_ne 32 l
  rw [hws] at hne
  match ws, hne with
  | [], hne => exact absurd rfl hne
  | [x1], _ => exact Or.inr (Or.inr ⟨item_few hws, fun k => by unfold Cn.readNum; rw [hws], rz_one hws⟩)
  | [x1, x2], _ =>
    have hz : Cn.readZone theT l = none := by unfold Cn.readZone; rw [hws]
    cases hn : Cn.numP x2 2147483647 with
    | none => exact Or.inr (Or.inr ⟨by unfold itemV; rw [hws]; dsimp only; rw [hn], fun k => by unfold Cn.readNum; rw [hws]; dsimp only; rw [hn]; split <;> rfl, hz⟩)
    | some n => exact Or.inl ⟨x1, n, by unfold itemV; rw [hws]; dsimp only; rw [hn], (Cn.numP_some hn).2, fun k => by unfold Cn.readNum; rw [hws]; dsimp only; rw [hn]; rfl, hz⟩
  | x1 :: x2 :: x3 :: t, _ =>
    have hr : ∀ k, Cn.readNum k l = none := fun k => by unfold Cn.readNum; rw [hws]
    have hi := item_many hws
    cases hz : Cn.readZone theT l with
    | none => rw [hz] at hi; exact Or.inr (Or.inr ⟨hi, hr, rfl⟩)
    | some z => rw [hz] at hi; exact Or.inr (Or.inl ⟨z, hi, hr, rfl⟩)
end Go.Proofs.YtnhlpifbadncmaaDoor
namespace Go.Proofs.YtnhlpifbadncmaaDoor
open Go.RowKit
set_option linter.unusedVariables false
set_option linter.unusedSimpArgs false
section
variable {G : World} {P : Program} {n : Nat} {ρ : Slots} {L : Blocks} {ty : TypeId} {Q : Exit → Act → World → Prop}
theorem op_ldArr {x : Operand} {b off len : Nat} {t e : TypeId} {C : Array Value} {te : TypeId} {fr : Nat × Nat} (cs : List Value) (hx : ev ρ x = some (.pointer (some ⟨b, off, none⟩)))
    (hu : P.underlying t = some (.array len e)) (ht : (P.info? t).map (·.size) = some cs.length) (hm : (b, Obj.cells C te fr) ∈ L) (hv : ∀ j v, cs[j]? = some v → C[off + j]? = some v) : OpQ P ρ L (.load t x) ty (.agg cs.toArray) :=
  ⟨fun r hr w hw o ho _ => by
    cases hi : P.info? t with
    | none => simp [hi] at ht
    | some i =>
      simp [hi] at ht
      have ha : (isAgg t).run P w = .ok true w := by
        unfold isAgg
        simp [run_underlying hu]
      have hc := run_loadCells_list (P := P) (w := w) ⟨b, off, none⟩ cs (fun j v hj => by rw [addr_add]; exact hw.cell hm (hv j v hj))
      simp [execOp, ho, hr _ _ hx, Instr.loadAt, Instr.sureAddr, loadVar, ha, sizeOf, typeInfo, hi, ht, hc]⟩
end
end Go.Proofs.YtnhlpifbadncmaaDoor
