/-
  Pt14: Uc Ud.
-/
import Derived.Test.YtdflhdfapnhjjaaPt10
namespace Go.Proofs.Ytdflhdfapnhjjaa
open Go.RowKit
open Vd (RSet Vdt Vote Rec Quest Piece Ballot Said)
set_option linter.unusedVariables false
set_option linter.unusedSimpArgs false
--auto
variable {G : World} {L : Blocks}
theorem union_len (q : Quest) {l : List Vote} (h : ∀ v ∈ l, VoteSm v) : (Vd.union q l).1.sets.length ≤ 10 ∧ (Vd.union q l).1.soa.length ≤ 1 := by
  cases l with
  | nil => simp [Vd.union, Vdt.none]
  | cons w r =>
    unfold Vd.union
    dsimp only
    split
    · simp [Vdt.none]
    split
    · cases hx : (w :: r)[Vd.firstAt (w :: r) (w :: r).length]? with
      | none => simp [Vdt.none]
      | some x =>
        have := h x (List.mem_of_getElem? hx)
        exact ⟨this.2.1, this.2.2⟩
    · simp
set_option maxRecDepth 100000 in
set_option maxHeartbeats 4000000 in
theorem mergeTells_S (cq : List Value) (q : Quest) (v : Value) (l : List Said) (hq : questR L cq q) (hl : sliceR 23 saidR L [v] l) : Spec Try.prog G 4 #[.agg cq.toArray, v] L fun u M => u = .bool true ∧ M = L := by
  obtain ⟨rfl, hqm, hk0, hc0⟩ := hq
  obtain ⟨al, cl, e1, hl0⟩ := hl.val
  simp only [List.cons.injEq, and_true] at e1
  subst e1
  refine Spec_of (n := 70) Try.func4 rfl rfl rfl ?_
  refine T_seq (T_region (TL_new (op_boxA rfl) rfl ?_))
  intro bQ
  repeat ((first | with_reducible refine T_seq ?_ | with_reducible refine T_region ?_ | with_reducible refine TL_nil ?_ | with_reducible refine TQ_then ?_ | refine TL_q (op_move rfl) rfl ?_ | refine TL_q (op_assign rfl) rfl ?_))
  refine TL_opT (op_call hb_19 rfl (long23_S _ l (mono_slice mono_said _ _ _ _ (mem_of_cnt (by intro p; (try simp only [cnt_append, cnt_cons, cnt_nil]) <;> omega)) hl0))) rfl ?_
  rintro _ _ ⟨b, rfl, rfl, hb⟩
  cases b with
  | true =>
    repeat ((first | with_reducible refine T_seq ?_ | with_reducible refine T_region ?_ | with_reducible refine TL_nil ?_ | with_reducible refine TQ_then ?_ | with_reducible refine T_ret ?_ | with_reducible refine TQ_then_ret ?_ | refine TL_q (op_move rfl) rfl ?_ | refine TL_q (op_assign rfl) rfl ?_ | (refine' TL_q (op_pickT rfl ?_ rfl) rfl ?_; (· (with_reducible rfl))) | (refine' TL_op (op_call hb_14 rfl (awake23_S )) rfl ?_) | (refine TL_gno rfl rfl ?_ rfl ?_; (· (exact Bool.not_false))) | (refine T_yes rfl ?_ ?_; (· (with_reducible rfl)))))
    refine TQ_cnt (L' := L) ?_ (by intro p; (try simp only [cnt_append, cnt_cons, cnt_nil]) <;> omega)
    refine TQ_ret1 4 _ rfl rfl ?_
    exact ⟨rfl, rfl⟩
  | false =>
  obtain ⟨hn, hsm⟩ := hb rfl
  by_cases hbig : 1000 < q.name.length
  · repeat ((first | with_reducible refine T_seq ?_ | with_reducible refine T_region ?_ | with_reducible refine TL_nil ?_ | with_reducible refine TQ_then ?_ | with_reducible refine T_ret ?_ | with_reducible refine TQ_then_ret ?_ | refine TL_q (op_move rfl) rfl ?_ | refine TL_q (op_assign rfl) rfl ?_ | (refine' TL_q (op_pickF rfl ?_ rfl) rfl ?_; (· (with_reducible rfl))) | (refine' TL_op (op_call hb_14 rfl (awake23_S )) rfl ?_) | (refine TL_gpre rfl rfl ?_ ?_; (· (with_reducible rfl))) | (refine' TL_gq2 (op_bin rfl rfl ?_) rfl ?_; rotate_left 1; (· (exact bin_gtr))) | refine TL_gq2 (op_len_str rfl Try.underlying9) rfl ?_ | refine TL_gq2 (op_fld rfl fld_34_0) rfl ?_ | (refine' TL_gq2 (op_ld rfl pl_9 ?_ ?_) rfl ?_; rotate_left 4; (· repeat ((exact List.mem_cons_self))); (· (rfl))) | (refine T_yes rfl ?_ ?_; (· (exact dT (by (omega)))))))
    refine TQ_cnt (L' := L) ?_ (by intro p; (try simp only [cnt_append, cnt_cons, cnt_nil]) <;> omega)
    refine TQ_ret1 4 _ rfl rfl ?_
    exact ⟨rfl, rfl⟩
  have hqn : q.name.length ≤ 1000 := by omega
  have hfits : ∀ s ∈ l, MsgFits s.m := fun s hs => (hsm s hs).fits
  obtain ⟨_, hvs, hvl⟩ := votesOf_sm q l hsm
  have hUU := unionP_law q (Vd.votesOf q l) fun v hv => (hvs v hv).2
  repeat ((first | with_reducible refine T_seq ?_ | with_reducible refine T_region ?_ | with_reducible refine TL_nil ?_ | with_reducible refine TQ_then ?_ | with_reducible refine T_skip ?_ | refine TL_q (op_move rfl) rfl ?_ | (refine' TL_q (op_pickF rfl ?_ rfl) rfl ?_; (· (with_reducible rfl))) | (refine' TL_q (op_ldAll rfl st_34 ?_ ?_) rfl ?_; rotate_left 3; (· repeat ((exact List.mem_cons_self))); (· (rfl))) | (refine TL_gpre rfl rfl ?_ ?_; (· (with_reducible rfl))) | (refine' TL_gq2 (op_bin rfl rfl ?_) rfl ?_; rotate_left 1; (· (exact bin_gtr))) | refine TL_gq2 (op_len_str rfl Try.underlying9) rfl ?_ | refine TL_gq2 (op_fld rfl fld_34_0) rfl ?_ | (refine' TL_gq2 (op_ld rfl pl_9 ?_ ?_) rfl ?_; rotate_left 4; (· repeat ((exact List.mem_cons_self))); (· (rfl))) | (refine T_no rfl ?_ ?_; (· (exact dF (by (omega)))))))
  refine TL_opT (op_call hb_20 rfl (votes_S _ q _ l ⟨rfl, hqm, hk0, hc0⟩ (mono_slice mono_said _ _ _ _ (mem_of_cnt (by intro p; (try simp only [cnt_append, cnt_cons, cnt_nil]) <;> omega)) hl0) (by omega) (by omega) hfits)) rfl ?_
  rintro _ _ ⟨av, cv, Bv, Kv, rfl, hV, rfl⟩
  repeat ((first | with_reducible refine T_seq ?_ | with_reducible refine T_region ?_ | with_reducible refine TL_nil ?_ | with_reducible refine TQ_then ?_ | refine TL_q (op_move rfl) rfl ?_ | refine TL_q (op_assign rfl) rfl ?_ | (refine' TL_q (op_ldAll rfl st_34 ?_ ?_) rfl ?_; rotate_left 3; (· repeat ((first | exact List.mem_cons_self | apply List.mem_append_right))); (· (rfl)))))
  refine TL_opT (op_call hb_20 rfl (votes_S _ q _ l ⟨rfl, hqm, hk0, hc0⟩ (mono_slice mono_said _ _ _ _ (mem_of_cnt (by intro p; (try simp only [cnt_append, cnt_cons, cnt_nil]) <;> omega)) hl0) (by omega) (by omega) hfits)) rfl ?_
  rintro _ _ ⟨aw, cw, Bw, Kw, rfl, hW, rfl⟩
  repeat ((first | with_reducible refine T_seq ?_ | with_reducible refine T_region ?_ | with_reducible refine TL_nil ?_ | with_reducible refine TQ_then ?_ | refine TL_q (op_move rfl) rfl ?_ | refine TL_q (op_assign rfl) rfl ?_ | (refine' TL_q (op_ldAll rfl st_34 ?_ ?_) rfl ?_; rotate_left 3; (· repeat ((first | exact List.mem_cons_self | apply List.mem_append_right))); (· (rfl)))))
  obtain ⟨vs, hvs0⟩ : ∃ vs, Vd.votesOf q l = vs := ⟨_, rfl⟩
  obtain ⟨r, hr⟩ : ∃ r, Vd.union q vs = r := ⟨_, rfl⟩
  rw [hvs0] at hvs hvl hUU hV hW ⊢
  have hul := union_len q (l := vs) fun v hv => (hvs v hv).2
  rw [hr] at hUU hul
  refine TL_opT (op_call hb_21 rfl (rUnion_S (K := Kw) _ q vs (mem_of_cnt (by intro p; (try simp only [cnt_append, cnt_cons, cnt_nil]) <;> omega)) (by omega) hk0 hc0 ((hW.imp (r' := fun _ => voteR Kw) (L' := []) (fun cs x _ h => h)).sliceR mono_const (by simp) (mem_of_cnt (by intro p; (try simp only [cnt_append, cnt_cons, cnt_nil]) <;> omega))) (by omega) (fun x hx => ⟨by have := ((hvs x hx).2.ends q).1; omega, fun d hd => by have := ((hvs x hx).2.ends q).2.1 d hd; omega⟩))) rfl ?_
  rintro _ _ ⟨cs, X, rfl, hvd, rfl⟩
  rw [hr] at hvd ⊢
  obtain ⟨x1, y1, x2, y2, rfl, hx1, hx2, hcode⟩ := hvd.vals
  repeat ((first | with_reducible refine T_seq ?_ | with_reducible refine T_block ?_ | with_reducible refine T_region ?_ | with_reducible refine TL_nil ?_ | with_reducible refine TQ_then ?_ | refine TL_q (op_move rfl) rfl ?_ | refine TL_q (op_assign rfl) rfl ?_ | refine TL_q (op_extract rfl rfl) rfl ?_ | (refine TL_stAll rfl rfl st_42 rfl rfl rfl ?_) | (refine TL_new (op_alloc (C := #[(.int .u8 0), (.slice none 0 0), (.slice none 0 0)]) zero_42 rfl) rfl ?_; intro bNew)))
  obtain ⟨b7, hb7⟩ : ∃ b, bNew = b := ⟨_, rfl⟩
  rw [hb7]
  clear hb7 bNew
  refine T_loopS (σ := Nat) (fun k => k ≤ 2) (fun k => [(2, .pointer (some ⟨bQ, 0, none⟩)), (5, .slice av vs.length cv), (6, .slice aw vs.length cw), (7, .pointer (some ⟨b7, 0, none⟩)), (8, .int .u32 r.2.1), (9, .bool r.2.2), (10, .int .i64 (k : Nat))]) (fun _ => (b7, Obj.cells #[.int .u8 r.1.code, .slice x1 r.1.sets.length y1, .slice x2 r.1.soa.length y2] 42 (0, 0)) :: (X ++ (Bw ++ (Kw ++ (Bv ++ (Kv ++ ((bQ, Obj.cells #[.string (bs q.name), .int .u16 q.kind, .int .u16 q.cls] 34 (0, 0)) :: L))))))) (fun k => 2 - k) 0 (Nat.zero_le _) ?_ (fun w h => h) ?_
  (repeat ((first | exact trivial | refine ⟨rfl, ?_⟩)))
  rintro k hk
  by_cases hlt : k < 2
  · have hKm : ∀ z ∈ [(bQ, Obj.cells #[.string (bs q.name), .int .u16 q.kind, .int .u16 q.cls] 34 (0, 0))], z ∈ (b7, Obj.cells #[.int .u8 r.1.code, .slice x1 r.1.sets.length y1, .slice x2 r.1.soa.length y2] 42 (0, 0)) :: (X ++ (Bw ++ (Kw ++ (Bv ++ (Kv ++ ((bQ, Obj.cells #[.string (bs q.name), .int .u16 q.kind, .int .u16 q.cls] 34 (0, 0)) :: L)))))) := by
      intro z hz
      rw [List.mem_singleton.1 hz]
      simp
    repeat ((first | with_reducible refine T_seq ?_ | with_reducible refine T_block ?_ | with_reducible refine T_region ?_ | with_reducible refine TL_nil ?_ | with_reducible refine TQ_then ?_ | with_reducible refine T_skip ?_ | refine TL_q (op_move rfl) rfl ?_ | (refine' TL_q (op_bin rfl rfl ?_) rfl ?_; rotate_left 1; (· (exact bin_lss))) | (refine T_yes rfl ?_ ?_; (· (exact dT (by (omega)))))))
    refine T_midK (σ := Option Addr × Nat × Blocks × Option Addr × Nat × Blocks × Blocks × Nat) (fun y => ORow rsR 60 5 y.2.2.2.2.2.2.1 y.1 y.2.1 r.1.sets y.2.2.1 ∧ ORow rsR 60 5 y.2.2.2.2.2.2.1 y.2.2.2.1 y.2.2.2.2.1 r.1.soa y.2.2.2.2.2.1 ∧ Wr y.2.2.2.2.2.2.1)
      (fun y => [(2, .pointer (some ⟨bQ, 0, none⟩)), (5, .slice av vs.length cv), (6, .slice aw vs.length cw), (7, .pointer (some ⟨b7, 0, none⟩)), (8, .int .u32 r.2.1), (9, .bool r.2.2), (10, .int .i64 (k : Nat)), (11, .pointer (some ⟨y.2.2.2.2.2.2.2, 0, none⟩)), (12, .int .u32 r.2.1), (13, .bool r.2.2)])
      (fun y => (y.2.2.2.2.2.2.2, Obj.cells #[.int .u8 r.1.code, .slice y.1 r.1.sets.length y.2.1, .slice y.2.2.2.1 r.1.soa.length y.2.2.2.2.1] 42 (0, 0)) :: (y.2.2.2.2.2.1 ++ (y.2.2.1 ++ (y.2.2.2.2.2.2.1 ++ ((b7, Obj.cells #[.int .u8 r.1.code, .slice x1 r.1.sets.length y1, .slice x2 r.1.soa.length y2] 42 (0, 0)) :: (X ++ (Bw ++ (Kw ++ (Bv ++ (Kv ++ ((bQ, Obj.cells #[.string (bs q.name), .int .u16 q.kind, .int .u16 q.cls] 34 (0, 0)) :: L))))))))))) ?_ ?_
    · skip
      refine T_draw follows_mixed ([(bQ, Obj.cells #[.string (bs q.name), .int .u16 q.kind, .int .u16 q.cls] 34 (0, 0))]) [] ?_
      (refine' TA_take 0 rfl rfl (by kernel_rfl) (quiet_q (op_ldAll rfl st_34 ?_ ?_)) ?_ ?_; rotate_left 3; (· repeat ((exact List.mem_cons_self))); (· (rfl)); (· (assumption)))
      (refine' TA_take 1 rfl rfl (by kernel_rfl) (quiet_q (op_move rfl)) ?_ ?_; (· (assumption)))
      refine TA_two 2 8 (by kernel_rfl) ?_ ?_
      · refine Up_ofD rfl rfl rfl rfl (op_call hb_22 rfl (given_S (K := Kv) _ vs ((hV.imp (r' := fun _ => voteR Kv) (L' := []) (fun cs x _ h => h)).sliceR mono_const (by simp) (mem_of_cnt (by intro p; (try simp only [cnt_append, cnt_cons, cnt_nil]) <;> omega))) (by omega))) ?_
        rintro _ _ ⟨ag, cg, Bg, rfl, hG, rfl⟩
        refine ⟨Or.inr (by (exact (fun z hz => mem_of_cnt (by intro p; (try simp only [cnt_append, cnt_cons, cnt_nil]) <;> omega) z (hKm z hz)))), ?_⟩
        refine TA_two 3 8 (by kernel_rfl) ?_ ?_
        · refine Up_ofD rfl rfl rfl rfl (op_call hb_18 rfl (pUnion_S (K := Kv) _ q vs (mem_of_cnt (by intro p; (try simp only [cnt_append, cnt_cons, cnt_nil]) <;> omega)) (by omega) hk0 hc0 ((hG.imp (r' := fun _ => voteR Kv) (L' := []) (fun cs x _ h => h)).sliceR mono_const (by simp) (mem_of_cnt (by intro p; (try simp only [cnt_append, cnt_cons, cnt_nil]) <;> omega))) (by omega) (fun x hx => by have := ((hvs x hx).2.ends q).1; omega) (fun x hx => (hvs x hx).2.smV))) ?_
          rintro _ _ ⟨a1, c1, B1, a2, c2, B2, N, rfl, hB1, hB2, hN, rfl⟩; rw [hUU] at hB1 hB2 ⊢
          refine ⟨Or.inr (by (exact (fun z hz => mem_of_cnt (by intro p; (try simp only [cnt_append, cnt_cons, cnt_nil]) <;> omega) z (hKm z hz)))), ?_⟩
          (refine' TA_take 4 rfl rfl (by kernel_rfl) (quiet_q (op_move rfl)) ?_ ?_; (· (intro p hp; grind)))
          (refine' TA_take 5 rfl rfl (by kernel_rfl) (quiet_q (op_extract rfl rfl)) ?_ ?_; (· (intro p hp; grind)))
          (refine' TA_take 6 rfl rfl (by kernel_rfl) (quiet_q (op_extract rfl rfl)) ?_ ?_; (· (intro p hp; grind)))
          (refine' TA_take 7 rfl rfl (by kernel_rfl) (quiet_q (op_extract rfl rfl)) ?_ ?_; (· (intro p hp; grind)))
          refine TA_oneD 8 (by kernel_rfl) rfl rfl rfl rfl (op_alloc (C := #[.int .u8 0, .slice none 0 0, .slice none 0 0]) zero_42 rfl) ?_
          rintro _ _ ⟨b11, rfl, rfl⟩
          refine ⟨Or.inr (by (exact (fun z hz => mem_of_cnt (by intro p; (try simp only [cnt_append, cnt_cons, cnt_nil]) <;> omega) z (hKm z hz)))), ?_⟩
          refine TA_cnt (L' := (b11, Obj.cells #[.int .u8 0, .slice none 0 0, .slice none 0 0] 42 (0, 0)) :: (B2 ++ (B1 ++ (N ++ (Bg ++ ((b7, Obj.cells #[.int .u8 r.1.code, .slice x1 r.1.sets.length y1, .slice x2 r.1.soa.length y2] 42 (0, 0)) :: (X ++ (Bw ++ (Kw ++ (Bv ++ (Kv ++ ((bQ, Obj.cells #[.string (bs q.name), .int .u16 q.kind, .int .u16 q.cls] 34 (0, 0)) :: L)))))))))))) ?_ (by intro p; (try simp only [cnt_append, cnt_cons, cnt_nil]) <;> omega)
          refine TA_oneN 9 (by kernel_rfl) rfl rfl rfl (op_stAll rfl rfl st_42 rfl rfl rfl) ?_
          rintro _ _ ⟨_, rfl⟩
          refine ⟨Or.inr (by (exact (fun z hz => mem_of_cnt (by intro p; (try simp only [cnt_append, cnt_cons, cnt_nil]) <;> omega) z (hKm z hz)))), ?_⟩
          (refine' TA_take 10 rfl rfl (by kernel_rfl) (quiet_q (op_assign rfl)) ?_ ?_; (· (intro p hp; grind)))
          (refine' TA_take 11 rfl rfl (by kernel_rfl) (quiet_q (op_assign rfl)) ?_ ?_; (· (intro p hp; grind)))
          refine TA_done (by kernel_rfl) ?_
          refine TQ_mid (a1, c1, B1, a2, c2, B2, N, b11) ⟨hB1, hB2, hN⟩ ?_ (fun w h => h.cnt (by intro p; (try simp only [cnt_append, cnt_cons, cnt_nil]) <;> omega))
          (repeat ((first | exact trivial | refine ⟨rfl, ?_⟩)))
        · refine Up_ofD rfl rfl rfl rfl (op_alloc (C := #[.int .u8 0, .slice none 0 0, .slice none 0 0]) zero_42 rfl) ?_
          rintro _ _ ⟨b11, rfl, rfl⟩
          refine ⟨Or.inr (by (exact (fun z hz => mem_of_cnt (by intro p; (try simp only [cnt_append, cnt_cons, cnt_nil]) <;> omega) z (hKm z hz)))), ?_⟩
          refine TA_oneD 3 (by kernel_rfl) rfl rfl rfl rfl (op_call hb_18 rfl (pUnion_S (K := Kv) _ q vs (mem_of_cnt (by intro p; (try simp only [cnt_append, cnt_cons, cnt_nil]) <;> omega)) (by omega) hk0 hc0 ((hG.imp (r' := fun _ => voteR Kv) (L' := []) (fun cs x _ h => h)).sliceR mono_const (by simp) (mem_of_cnt (by intro p; (try simp only [cnt_append, cnt_cons, cnt_nil]) <;> omega))) (by omega) (fun x hx => by have := ((hvs x hx).2.ends q).1; omega) (fun x hx => (hvs x hx).2.smV))) ?_
          rintro _ _ ⟨a1, c1, B1, a2, c2, B2, N, rfl, hB1, hB2, hN, rfl⟩; rw [hUU] at hB1 hB2 ⊢
          refine ⟨Or.inr (by (exact (fun z hz => mem_of_cnt (by intro p; (try simp only [cnt_append, cnt_cons, cnt_nil]) <;> omega) z (hKm z hz)))), ?_⟩
          (refine' TA_take 4 rfl rfl (by kernel_rfl) (quiet_q (op_move rfl)) ?_ ?_; (· (intro p hp; grind)))
          (refine' TA_take 5 rfl rfl (by kernel_rfl) (quiet_q (op_extract rfl rfl)) ?_ ?_; (· (intro p hp; grind)))
          (refine' TA_take 6 rfl rfl (by kernel_rfl) (quiet_q (op_extract rfl rfl)) ?_ ?_; (· (intro p hp; grind)))
          (refine' TA_take 7 rfl rfl (by kernel_rfl) (quiet_q (op_extract rfl rfl)) ?_ ?_; (· (intro p hp; grind)))
          refine TA_cnt (L' := (b11, Obj.cells #[.int .u8 0, .slice none 0 0, .slice none 0 0] 42 (0, 0)) :: (B2 ++ (B1 ++ (N ++ (Bg ++ ((b7, Obj.cells #[.int .u8 r.1.code, .slice x1 r.1.sets.length y1, .slice x2 r.1.soa.length y2] 42 (0, 0)) :: (X ++ (Bw ++ (Kw ++ (Bv ++ (Kv ++ ((bQ, Obj.cells #[.string (bs q.name), .int .u16 q.kind, .int .u16 q.cls] 34 (0, 0)) :: L)))))))))))) ?_ (by intro p; (try simp only [cnt_append, cnt_cons, cnt_nil]) <;> omega)
          refine TA_oneN 9 (by kernel_rfl) rfl rfl rfl (op_stAll rfl rfl st_42 rfl rfl rfl) ?_
          rintro _ _ ⟨_, rfl⟩
          refine ⟨Or.inr (by (exact (fun z hz => mem_of_cnt (by intro p; (try simp only [cnt_append, cnt_cons, cnt_nil]) <;> omega) z (hKm z hz)))), ?_⟩
          (refine' TA_take 10 rfl rfl (by kernel_rfl) (quiet_q (op_assign rfl)) ?_ ?_; (· (intro p hp; grind)))
          (refine' TA_take 11 rfl rfl (by kernel_rfl) (quiet_q (op_assign rfl)) ?_ ?_; (· (intro p hp; grind)))
          refine TA_done (by kernel_rfl) ?_
          refine TQ_mid (a1, c1, B1, a2, c2, B2, N, b11) ⟨hB1, hB2, hN⟩ ?_ (fun w h => h.cnt (by intro p; (try simp only [cnt_append, cnt_cons, cnt_nil]) <;> omega))
          (repeat ((first | exact trivial | refine ⟨rfl, ?_⟩)))
      · refine Up_ofD rfl rfl rfl rfl (op_alloc (C := #[.int .u8 0, .slice none 0 0, .slice none 0 0]) zero_42 rfl) ?_
        rintro _ _ ⟨b11, rfl, rfl⟩
        refine ⟨Or.inr (by (exact (fun z hz => mem_of_cnt (by intro p; (try simp only [cnt_append, cnt_cons, cnt_nil]) <;> omega) z (hKm z hz)))), ?_⟩
        refine TA_oneD 2 (by kernel_rfl) rfl rfl rfl rfl (op_call hb_22 rfl (given_S (K := Kv) _ vs ((hV.imp (r' := fun _ => voteR Kv) (L' := []) (fun cs x _ h => h)).sliceR mono_const (by simp) (mem_of_cnt (by intro p; (try simp only [cnt_append, cnt_cons, cnt_nil]) <;> omega))) (by omega))) ?_
        rintro _ _ ⟨ag, cg, Bg, rfl, hG, rfl⟩
        refine ⟨Or.inr (by (exact (fun z hz => mem_of_cnt (by intro p; (try simp only [cnt_append, cnt_cons, cnt_nil]) <;> omega) z (hKm z hz)))), ?_⟩
        refine TA_oneD 3 (by kernel_rfl) rfl rfl rfl rfl (op_call hb_18 rfl (pUnion_S (K := Kv) _ q vs (mem_of_cnt (by intro p; (try simp only [cnt_append, cnt_cons, cnt_nil]) <;> omega)) (by omega) hk0 hc0 ((hG.imp (r' := fun _ => voteR Kv) (L' := []) (fun cs x _ h => h)).sliceR mono_const (by simp) (mem_of_cnt (by intro p; (try simp only [cnt_append, cnt_cons, cnt_nil]) <;> omega))) (by omega) (fun x hx => by have := ((hvs x hx).2.ends q).1; omega) (fun x hx => (hvs x hx).2.smV))) ?_
        rintro _ _ ⟨a1, c1, B1, a2, c2, B2, N, rfl, hB1, hB2, hN, rfl⟩; rw [hUU] at hB1 hB2 ⊢
        refine ⟨Or.inr (by (exact (fun z hz => mem_of_cnt (by intro p; (try simp only [cnt_append, cnt_cons, cnt_nil]) <;> omega) z (hKm z hz)))), ?_⟩
        (refine' TA_take 4 rfl rfl (by kernel_rfl) (quiet_q (op_move rfl)) ?_ ?_; (· (intro p hp; grind)))
        (refine' TA_take 5 rfl rfl (by kernel_rfl) (quiet_q (op_extract rfl rfl)) ?_ ?_; (· (intro p hp; grind)))
        (refine' TA_take 6 rfl rfl (by kernel_rfl) (quiet_q (op_extract rfl rfl)) ?_ ?_; (· (intro p hp; grind)))
        (refine' TA_take 7 rfl rfl (by kernel_rfl) (quiet_q (op_extract rfl rfl)) ?_ ?_; (· (intro p hp; grind)))
        refine TA_cnt (L' := (b11, Obj.cells #[.int .u8 0, .slice none 0 0, .slice none 0 0] 42 (0, 0)) :: (B2 ++ (B1 ++ (N ++ (Bg ++ ((b7, Obj.cells #[.int .u8 r.1.code, .slice x1 r.1.sets.length y1, .slice x2 r.1.soa.length y2] 42 (0, 0)) :: (X ++ (Bw ++ (Kw ++ (Bv ++ (Kv ++ ((bQ, Obj.cells #[.string (bs q.name), .int .u16 q.kind, .int .u16 q.cls] 34 (0, 0)) :: L)))))))))))) ?_ (by intro p; (try simp only [cnt_append, cnt_cons, cnt_nil]) <;> omega)
        refine TA_oneN 9 (by kernel_rfl) rfl rfl rfl (op_stAll rfl rfl st_42 rfl rfl rfl) ?_
        rintro _ _ ⟨_, rfl⟩
        refine ⟨Or.inr (by (exact (fun z hz => mem_of_cnt (by intro p; (try simp only [cnt_append, cnt_cons, cnt_nil]) <;> omega) z (hKm z hz)))), ?_⟩
        (refine' TA_take 10 rfl rfl (by kernel_rfl) (quiet_q (op_assign rfl)) ?_ ?_; (· (intro p hp; grind)))
        (refine' TA_take 11 rfl rfl (by kernel_rfl) (quiet_q (op_assign rfl)) ?_ ?_; (· (intro p hp; grind)))
        refine TA_done (by kernel_rfl) ?_
        refine TQ_mid (a1, c1, B1, a2, c2, B2, N, b11) ⟨hB1, hB2, hN⟩ ?_ (fun w h => h.cnt (by intro p; (try simp only [cnt_append, cnt_cons, cnt_nil]) <;> omega))
        (repeat ((first | exact trivial | refine ⟨rfl, ?_⟩)))
    · rintro ⟨a1, c1, B1, a2, c2, B2, N, b11⟩ ⟨hB1, hB2, hN⟩
      dsimp only at hB1 hB2 hN ⊢
      have hdd : (!decide (r.1 = r.1)) = false := by simp
      repeat ((first | with_reducible refine T_seq ?_ | with_reducible refine T_region ?_ | refine TL_q (op_move rfl) rfl ?_ | (refine' TL_q (op_bin rfl rfl ?_) rfl ?_; rotate_left 1; (· (exact bbin_neq Try.underlying4))) | (refine' TL_q (op_pickF rfl ?_ rfl) rfl ?_; (· (exact nF (by (with_reducible rfl))))) | (refine TL_gpre rfl rfl ?_ ?_; (· (exact nF (by (with_reducible rfl))))) | refine TL_gq2 (op_move rfl) rfl ?_ | (refine' TL_gq2 (op_bin rfl rfl ?_) rfl ?_; rotate_left 1; (· (exact bin_neq))) | (refine' TL_gq2 (op_ldAll rfl st_34 ?_ ?_) rfl ?_; rotate_left 3; (· repeat ((first | exact List.mem_cons_self | apply List.mem_cons_of_mem | apply List.mem_append_right))); (· (rfl)))))
      refine TG_op (op_call hb_23 rfl (vSame_S [.int .u8 r.1.code, .slice a1 r.1.sets.length c1, .slice a2 r.1.soa.length c2] [.int .u8 r.1.code, .slice x1 r.1.sets.length y1, .slice x2 r.1.soa.length y2] r.1 r.1 ⟨_, _, rfl, hB1.sliceR mono_set (mem_of_cnt (by intro p; (try simp only [cnt_append, cnt_cons, cnt_nil]) <;> omega)) (mem_of_cnt (by intro p; (try simp only [cnt_append, cnt_cons, cnt_nil]) <;> omega)), hB2.sliceR mono_set (mem_of_cnt (by intro p; (try simp only [cnt_append, cnt_cons, cnt_nil]) <;> omega)) (mem_of_cnt (by intro p; (try simp only [cnt_append, cnt_cons, cnt_nil]) <;> omega)), hcode⟩ ⟨_, _, rfl, mono_slice mono_set _ _ _ _ (mem_of_cnt (by intro p; (try simp only [cnt_append, cnt_cons, cnt_nil]) <;> omega)) hx1, mono_slice mono_set _ _ _ _ (mem_of_cnt (by intro p; (try simp only [cnt_append, cnt_cons, cnt_nil]) <;> omega)) hx2, hcode⟩)) rfl ?_
      repeat ((first | with_reducible refine T_region ?_ | with_reducible refine TL_nil ?_ | with_reducible refine TQ_then ?_ | with_reducible refine T_skip ?_ | (refine' TL_q (op_pickF rfl ?_ rfl) rfl ?_; (· (exact nF (by (with_reducible rfl))))) | (refine' TL_q (op_ldAll rfl st_34 ?_ ?_) rfl ?_; rotate_left 3; (· repeat ((exact List.mem_cons_self))); (· (rfl))) | (refine TL_gpre rfl rfl ?_ ?_; (· (exact nF (by (with_reducible rfl))))) | refine TL_gq2 (op_not rfl) rfl ?_ | (refine T_no rfl ?_ ?_; (· (assumption)))))
      refine TL_cnt (L' := B1 ++ (B2 ++ (N ++ ((b11, Obj.cells #[.int .u8 r.1.code, .slice a1 r.1.sets.length c1, .slice a2 r.1.soa.length c2] 42 (0, 0)) :: ((b7, Obj.cells #[.int .u8 r.1.code, .slice x1 r.1.sets.length y1, .slice x2 r.1.soa.length y2] 42 (0, 0)) :: (X ++ (Bw ++ (Kw ++ (Bv ++ (Kv ++ ((bQ, Obj.cells #[.string (bs q.name), .int .u16 q.kind, .int .u16 q.cls] 34 (0, 0)) :: L))))))))))) ?_ (by intro p; (try simp only [cnt_append, cnt_cons, cnt_nil]) <;> omega)
      refine TL_opT (op_call hb_24 rfl (spoil23_S _ a1 a2 _ _ c1 c2 (keysOf N) B1 B2 N (rowS_of hB1 hN) (rowS_of hB2 hN) (dataIs_wr hN) (by omega) (by omega))) rfl ?_
      rintro _ _ ⟨Y, rfl⟩
      repeat ((first | with_reducible refine T_region ?_ | with_reducible refine TL_nil ?_ | with_reducible refine TQ_then ?_ | with_reducible refine TQ_block ?_ | refine TL_q (op_move rfl) rfl ?_ | refine TL_q (op_assign rfl) rfl ?_ | (refine' TL_q (op_bin rfl rfl ?_) rfl ?_; rotate_left 1; (· (exact bin_add ⟨by omega, by omega⟩)))))
      refine TQ_roundS (k + 1) hlt ?_ (fun w h => h.cnt (by intro p; (try simp only [cnt_append, cnt_cons, cnt_nil]) <;> omega)) (by omega)
      (repeat ((first | exact trivial | refine ⟨rfl, ?_⟩)))
  · have hk2 : k = 2 := by omega
    subst hk2
    repeat ((first | with_reducible refine T_seq ?_ | with_reducible refine T_region ?_ | with_reducible refine TL_nil ?_ | with_reducible refine TQ_then ?_ | with_reducible refine T_exit ?_ | with_reducible refine TQ_then_exit ?_ | with_reducible refine TQ_block_exit ?_ | refine TL_q (op_move rfl) rfl ?_ | (refine' TL_q (op_bin rfl rfl ?_) rfl ?_; rotate_left 1; (· (exact bin_lss))) | (refine T_no rfl ?_ ?_; (· (exact Bool.not_true)))))
    refine TL_op (op_call hb_25 rfl (rSameV_S _ _ vs vs ((hV.mono mono_vote (L' := Kv) (fun p h => h)).sliceR mono_vote (mem_of_cnt (by intro p; (try simp only [cnt_append, cnt_cons, cnt_nil]) <;> omega)) (mem_of_cnt (by intro p; (try simp only [cnt_append, cnt_cons, cnt_nil]) <;> omega))) (hW.sliceR mono_vote (mem_of_cnt (by intro p; (try simp only [cnt_append, cnt_cons, cnt_nil]) <;> omega)) (mem_of_cnt (by intro p; (try simp only [cnt_append, cnt_cons, cnt_nil]) <;> omega))))) rfl ?_
    repeat ((first | with_reducible refine TL_nil ?_ | with_reducible refine TQ_then ?_ | with_reducible refine T_ret ?_ | refine TL_q (op_move rfl) rfl ?_ | refine TL_q (op_assign rfl) rfl ?_ | (refine' TL_q (op_pickT rfl ?_ rfl) rfl ?_; (· (exact dT (by (with_reducible rfl))))) | (refine' TG_op (op_call hb_14 rfl (awake23_S )) rfl ?_) | (refine TL_gpre rfl rfl ?_ ?_; (· (exact dT (by (with_reducible rfl)))))))
    refine TQ_cnt (L' := L) ?_ (by intro p; (try simp only [cnt_append, cnt_cons, cnt_nil]) <;> omega)
    refine TQ_ret1 4 _ rfl rfl ?_
    refine ⟨?_, rfl⟩
    simp
theorem mergeTells_walk (cq : List Value) (q : Quest) (v : Value) (l : List Said) (W : World) (hq : questR (allBlocks W) cq q) (hl : sliceR 23 saidR (allBlocks W) [v] l) : Calls Try.prog 4 #[.agg cq.toArray, v] W fun e w' => e = .returned (.bool true) ∧ Below W.heap.size W w' :=
  Spec.below (mergeTells_S cq q v l hq hl)
end Go.Proofs.Ytdflhdfapnhjjaa
namespace Go.Proofs.Ytdflhdfapnhjjaa
open Go.RowKit
open Vd (RSet Vdt Vote Rec Quest Piece Ballot Said)
set_option linter.unusedVariables false
set_option linter.unusedSimpArgs false
--auto
variable {G : World} {L : Blocks}
/-- Turned about. -/
def turned {α : Type} (l : List α) (k : Nat) : List α := l.drop k ++ l.take k
theorem turned_mem {α : Type} (l : List α) (k : Nat) (x : α) : x ∈ l ↔ x ∈ turned l k := by
  unfold turned
  rw [List.mem_append, or_comm, ← List.mem_append, List.take_append_drop]
theorem union_code (q : Quest) {l : List Vote} (h : ∀ v ∈ l, 0 ≤ v.vd.code ∧ v.vd.code ≤ 255) : 0 ≤ (Vd.union q l).1.code ∧ (Vd.union q l).1.code ≤ 255 := by
  cases l with
  | nil => show (0 : Int) ≤ 0 ∧ (0 : Int) ≤ 255; exact ⟨by decide, by decide⟩
  | cons w r =>
    unfold Vd.union
    dsimp only
    split
    · show (0 : Int) ≤ 0 ∧ (0 : Int) ≤ 255; exact ⟨by decide, by decide⟩
    split
    · cases hx : (w :: r)[Vd.firstAt (w :: r) (w :: r).length]? with
      | none => show (0 : Int) ≤ 0 ∧ (0 : Int) ≤ 255; exact ⟨by decide, by decide⟩
      | some x => exact h x (List.mem_of_getElem? hx)
    · show (0 : Int) ≤ 0 ∧ (0 : Int) ≤ 255; exact ⟨by decide, by decide⟩
theorem votes_code {e : TypeId} {K : Blocks} {a : Option Addr} {c : Nat} {l : List Vote} {B : Blocks} (h : ORow voteR e 5 K a c l B) : ∀ x ∈ l, 0 ≤ x.vd.code ∧ x.vd.code ≤ 255 := fun x hx => by
  obtain ⟨b, cur, _, _, _, _, _, hcur⟩ := h.block (fun e => by rw [e] at hx; simp at hx)
  obtain ⟨i, hi⟩ := List.getElem?_of_mem hx
  obtain ⟨cs, _, hv, _⟩ := hcur i x hi
  obtain ⟨_, _, _, _, _, _, _, k, _⟩ := hv.vals
  exact k
set_option maxRecDepth 100000 in
set_option maxHeartbeats 4000000 in
theorem mergeRow_S (cq : List Value) (q : Quest) (v : Value) (l : List Said) (turn : Int) (hq : questR L cq q) (hl : sliceR 23 saidR L [v] l) (ht : -9223372036854775808 ≤ turn ∧ turn ≤ 9223372036854775807) : Spec Try.prog G 6 #[.agg cq.toArray, v, .int .i64 turn] L fun u M => u = .bool true ∧ M = L := by
  obtain ⟨rfl, hqm, hk0, hc0⟩ := hq
  obtain ⟨al, cl, e1, hl0⟩ := hl.val
  simp only [List.cons.injEq, and_true] at e1
  subst e1
  refine Spec_of (n := 80) Try.func6 rfl rfl rfl ?_
  refine T_seq (T_region (TL_new (op_boxA rfl) rfl ?_))
  intro bQ
  repeat ((first | with_reducible refine T_seq ?_ | with_reducible refine T_region ?_ | with_reducible refine TL_nil ?_ | with_reducible refine TQ_then ?_ | refine TL_q (op_move rfl) rfl ?_ | refine TL_q (op_assign rfl) rfl ?_))
  refine TL_opT (op_call hb_19 rfl (long23_S _ l (mono_slice mono_said _ _ _ _ (mem_of_cnt (by intro p; (try simp only [cnt_append, cnt_cons, cnt_nil]) <;> omega)) hl0))) rfl ?_
  rintro _ _ ⟨b, rfl, rfl, hb⟩
  cases b with
  | true =>
    repeat ((first | with_reducible refine T_seq ?_ | with_reducible refine T_region ?_ | with_reducible refine TL_nil ?_ | with_reducible refine TQ_then ?_ | with_reducible refine T_ret ?_ | with_reducible refine TQ_then_ret ?_ | refine TL_q (op_move rfl) rfl ?_ | refine TL_q (op_assign rfl) rfl ?_ | (refine' TL_q (op_pickT rfl ?_ rfl) rfl ?_; (· (with_reducible rfl))) | (refine' TL_op (op_call hb_14 rfl (awake23_S )) rfl ?_) | (refine TL_gno rfl rfl ?_ rfl ?_; (· (exact Bool.not_false))) | (refine T_yes rfl ?_ ?_; (· (with_reducible rfl)))))
    refine TQ_cnt (L' := L) ?_ (by intro p; (try simp only [cnt_append, cnt_cons, cnt_nil]) <;> omega)
    refine TQ_ret1 6 _ rfl rfl ?_
    exact ⟨rfl, rfl⟩
  | false =>
  obtain ⟨hn, hsm⟩ := hb rfl
  by_cases hbig : 1000 < q.name.length
  · repeat ((first | with_reducible refine T_seq ?_ | with_reducible refine T_region ?_ | with_reducible refine TL_nil ?_ | with_reducible refine TQ_then ?_ | with_reducible refine T_ret ?_ | with_reducible refine TQ_then_ret ?_ | refine TL_q (op_move rfl) rfl ?_ | refine TL_q (op_assign rfl) rfl ?_ | (refine' TL_q (op_pickT rfl ?_ rfl) rfl ?_; (· (exact dT (by (first | assumption | omega))))) | (refine' TL_q (op_pickF rfl ?_ rfl) rfl ?_; (· (with_reducible rfl))) | (refine' TL_op (op_call hb_14 rfl (awake23_S )) rfl ?_) | (refine TL_gpre rfl rfl ?_ ?_; (· (with_reducible rfl))) | (refine' TL_gq2 (op_bin rfl rfl ?_) rfl ?_; rotate_left 1; (· (exact bin_gtr))) | refine TL_gq2 (op_len_str rfl Try.underlying9) rfl ?_ | refine TL_gq2 (op_fld rfl fld_34_0) rfl ?_ | (refine' TL_gq2 (op_ld rfl pl_9 ?_ ?_) rfl ?_; rotate_left 4; (· repeat ((exact List.mem_cons_self))); (· (rfl))) | (refine TL_gno rfl rfl ?_ rfl ?_; (· (exact dT (by (omega))))) | (refine T_yes rfl ?_ ?_; (· (with_reducible rfl)))))
    refine TQ_cnt (L' := L) ?_ (by intro p; (try simp only [cnt_append, cnt_cons, cnt_nil]) <;> omega)
    refine TQ_ret1 6 _ rfl rfl ?_
    exact ⟨rfl, rfl⟩
  have hqn : q.name.length ≤ 1000 := by omega
  have hfits : ∀ s ∈ l, MsgFits s.m := fun s hs => (hsm s hs).fits
  obtain ⟨hnd, hvs, hvl⟩ := votesOf_sm q l hsm
  repeat ((first | with_reducible refine T_seq ?_ | with_reducible refine T_region ?_ | with_reducible refine TL_nil ?_ | with_reducible refine TQ_then ?_ | with_reducible refine T_skip ?_ | refine TL_q (op_move rfl) rfl ?_ | (refine' TL_q (op_pickF rfl ?_ rfl) rfl ?_; (· (first | with_reducible rfl | exact dF (by (omega))))) | (refine' TL_q (op_ldAll rfl st_34 ?_ ?_) rfl ?_; rotate_left 3; (· repeat ((exact List.mem_cons_self))); (· (rfl))) | (refine' TG_op (op_call hb_14 rfl (awake23_S )) rfl ?_) | (refine TL_gpre rfl rfl ?_ ?_; (· (first | with_reducible rfl | exact dF (by (omega))))) | (refine' TL_gq2 (op_bin rfl rfl ?_) rfl ?_; rotate_left 1; (· (exact bin_gtr))) | refine TL_gq2 (op_not rfl) rfl ?_ | refine TL_gq2 (op_len_str rfl Try.underlying9) rfl ?_ | refine TL_gq2 (op_fld rfl fld_34_0) rfl ?_ | (refine' TL_gq2 (op_ld rfl pl_9 ?_ ?_) rfl ?_; rotate_left 4; (· repeat ((exact List.mem_cons_self))); (· (rfl))) | (refine T_no rfl ?_ ?_; (· (exact Bool.not_true)))))
  refine TL_opT (op_call hb_20 rfl (votes_S _ q _ l ⟨rfl, hqm, hk0, hc0⟩ (mono_slice mono_said _ _ _ _ (mem_of_cnt (by intro p; (try simp only [cnt_append, cnt_cons, cnt_nil]) <;> omega)) hl0) (by omega) (by omega) hfits)) rfl ?_
  rintro _ _ ⟨av, cv, Bv, Kv, rfl, hV, rfl⟩
  obtain ⟨vs, hvs0⟩ : ∃ vs, Vd.votesOf q l = vs := ⟨_, rfl⟩
  rw [hvs0] at hvs hvl hnd hV ⊢
  obtain ⟨r, hr⟩ : ∃ r, unionP q vs = r := ⟨_, rfl⟩
  by_cases h0 : vs.length = 0
  · have h0' : ((vs.length : Nat) : Int) = 0 := by omega
    repeat ((first | with_reducible refine T_seq ?_ | with_reducible refine T_region ?_ | with_reducible refine TL_nil ?_ | with_reducible refine TQ_then ?_ | with_reducible refine T_ret ?_ | with_reducible refine TQ_then_ret ?_ | refine TL_q (op_move rfl) rfl ?_ | refine TL_q (op_assign rfl) rfl ?_ | (refine' TL_q (op_bin rfl rfl ?_) rfl ?_; rotate_left 1; (· (exact bin_eql))) | refine TL_q (op_len_slice rfl Try.underlying50) rfl ?_ | (refine T_yes rfl ?_ ?_; (· (exact dT (by (assumption)))))))
    refine TQ_cnt (L' := L) ?_ (by intro p; (try simp only [cnt_append, cnt_cons, cnt_nil]) <;> omega)
    refine TQ_ret1 6 _ rfl rfl ?_
    exact ⟨rfl, rfl⟩
  have h0' : ¬ ((vs.length : Nat) : Int) = 0 := by omega
  have hw := wrap_u64_nonneg turn
  have hmod : 0 ≤ IntKind.u64.wrap turn % (vs.length : Int) ∧ IntKind.u64.wrap turn % (vs.length : Int) < vs.length := ⟨Int.emod_nonneg _ h0', Int.emod_lt_of_pos _ (by omega)⟩
  obtain ⟨k, hk⟩ : ∃ k : Nat, IntKind.u64.wrap turn % (vs.length : Int) = (k : Int) := ⟨(IntKind.u64.wrap turn % (vs.length : Int)).toNat, by omega⟩
  have hkl : k < vs.length := by omega
  have htl : (turned vs k).length = vs.length := by unfold turned; rw [List.length_append, List.length_drop, List.length_take]; omega
  have hvm : ∀ x ∈ vs, VoteSm x := fun x hx => (hvs x hx).2
  have hvt : ∀ x ∈ turned vs k, VoteSm x := fun x hx => hvm x ((turned_mem vs k x).2 hx)
  have hr2 : unionP q (turned vs k) = r := by rw [← hr]; exact (unionP_ext q hnd (fun e => h0 (by rw [e]; rfl)) (turned_mem vs k)).symm
  have hsl : sliceR 5 (fun _ => voteR Kv) Bv [.slice av vs.length cv] vs := (hV.imp (r' := fun _ => voteR Kv) (L' := []) (fun cs x _ h => h)).sliceR mono_const (by simp) (fun p h => h)
  have htake : sliceR 5 (fun _ => voteR Kv) Bv [.slice av (vs.take k).length cv] (vs.take k) := by
    have h := hsl.take (k := k) (by omega)
    have e : (vs.take k).length = k := by rw [List.length_take]; omega
    rw [e]
    exact h
  have hdrop := hsl.drop (k := k) (by omega)
  rw [show vs.length - k = (vs.drop k).length by rw [List.length_drop]] at hdrop
  have hcv := hV.cap
  unfold maxLen at hcv
  repeat ((first | with_reducible refine T_seq ?_ | with_reducible refine T_region ?_ | with_reducible refine TL_nil ?_ | with_reducible refine TQ_then ?_ | with_reducible refine T_skip ?_ | refine TL_q (op_move rfl) rfl ?_ | refine TL_q (op_assign rfl) rfl ?_ | (refine' TL_q (op_bin rfl rfl ?_) rfl ?_; rotate_left 1; (· (first | exact bin_rem (by omega) (by omega) | exact bin_eql))) | (refine' TL_q (op_conv_int rfl Try.underlying3 Try.underlying67 ?_) rfl ?_; (· exact ⟨by omega, by omega⟩)) | (refine' TL_q (op_conv_int rfl Try.underlying67 Try.underlying3 ?_) rfl ?_; (· exact ⟨by omega, by omega⟩)) | refine TL_q (op_conv_intW rfl Try.underlying3 Try.underlying67) rfl ?_ | refine TL_q (op_len_slice rfl Try.underlying50) rfl ?_ | (refine T_no rfl ?_ ?_; (· (exact dF (by (assumption)))))))
  rw [hk]
  have hKm : ∀ z ∈ [(bQ, Obj.cells #[.string (bs q.name), .int .u16 q.kind, .int .u16 q.cls] 34 (0, 0))], z ∈ Bv ++ (Kv ++ ((bQ, Obj.cells #[.string (bs q.name), .int .u16 q.kind, .int .u16 q.cls] 34 (0, 0)) :: L)) := by
    intro z hz
    rw [List.mem_singleton.1 hz]
    simp
  refine T_midK (σ := Option Addr × Nat × Blocks × Option Addr × Nat × Blocks × Blocks × Nat) (fun y => ORow rsR 60 5 y.2.2.2.2.2.2.1 y.1 y.2.1 r.1.sets y.2.2.1 ∧ ORow rsR 60 5 y.2.2.2.2.2.2.1 y.2.2.2.1 y.2.2.2.2.1 r.1.soa y.2.2.2.2.2.1 ∧ Wr y.2.2.2.2.2.2.1)
    (fun y => [(3, .pointer (some ⟨bQ, 0, none⟩)), (7, .slice av vs.length cv), (8, .int .i64 (k : Nat)), (9, .pointer (some ⟨y.2.2.2.2.2.2.2, 0, none⟩)), (10, .int .u32 r.2.1), (11, .bool r.2.2)])
    (fun y => (y.2.2.2.2.2.2.2, Obj.cells #[.int .u8 r.1.code, .slice y.1 r.1.sets.length y.2.1, .slice y.2.2.2.1 r.1.soa.length y.2.2.2.2.1] 42 (0, 0)) :: (y.2.2.2.2.2.1 ++ (y.2.2.1 ++ (y.2.2.2.2.2.2.1 ++ (Bv ++ (Kv ++ ((bQ, Obj.cells #[.string (bs q.name), .int .u16 q.kind, .int .u16 q.cls] 34 (0, 0)) :: L))))))) ?_ ?_
  · skip
    refine T_draw follows_mixed ([(bQ, Obj.cells #[.string (bs q.name), .int .u16 q.kind, .int .u16 q.cls] 34 (0, 0))]) [] ?_
    (refine' TA_take 0 rfl rfl (by kernel_rfl) (quiet_q (op_ldAll rfl st_34 ?_ ?_)) ?_ ?_; rotate_left 3; (· repeat ((exact List.mem_cons_self))); (· (rfl)); (· (assumption)))
    (refine' TA_take 1 rfl rfl (by kernel_rfl) (quiet_q (op_move rfl)) ?_ ?_; (· (assumption)))
    refine TA_two 2 8 (by kernel_rfl) ?_ ?_
    · refine Up_ofD rfl rfl rfl rfl (op_call hb_22 rfl (given_S (K := Kv) _ vs ((hV.imp (r' := fun _ => voteR Kv) (L' := []) (fun cs x _ h => h)).sliceR mono_const (by simp) (mem_of_cnt (by intro p; (try simp only [cnt_append, cnt_cons, cnt_nil]) <;> omega))) (by omega))) ?_
      rintro _ _ ⟨agP, cgP, BgP, rfl, hGP, rfl⟩
      refine ⟨Or.inr (by (exact (fun z hz => mem_of_cnt (by intro p; (try simp only [cnt_append, cnt_cons, cnt_nil]) <;> omega) z (hKm z hz)))), ?_⟩
      refine TA_two 3 8 (by kernel_rfl) ?_ ?_
      · refine Up_ofD rfl rfl rfl rfl (op_call hb_18 rfl (pUnion_S (K := Kv) _ q vs (mem_of_cnt (by intro p; (try simp only [cnt_append, cnt_cons, cnt_nil]) <;> omega)) (by omega) hk0 hc0 ((hGP.imp (r' := fun _ => voteR Kv) (L' := []) (fun cs x _ h => h)).sliceR mono_const (by simp) (mem_of_cnt (by intro p; (try simp only [cnt_append, cnt_cons, cnt_nil]) <;> omega))) (by omega) (fun x hx => by have := ((hvm x hx).ends q).1; omega) (fun x hx => (hvm x hx).smV))) ?_
        rintro _ _ ⟨a1P, c1P, B1P, a2P, c2P, B2P, NP, rfl, hB1P, hB2P, hNP, rfl⟩; rw [hr] at hB1P hB2P ⊢
        refine ⟨Or.inr (by (exact (fun z hz => mem_of_cnt (by intro p; (try simp only [cnt_append, cnt_cons, cnt_nil]) <;> omega) z (hKm z hz)))), ?_⟩
        (refine' TA_take 4 rfl rfl (by kernel_rfl) (quiet_q (op_move rfl)) ?_ ?_; (· (intro p hp; grind)))
        (refine' TA_take 5 rfl rfl (by kernel_rfl) (quiet_q (op_extract rfl rfl)) ?_ ?_; (· (intro p hp; grind)))
        (refine' TA_take 6 rfl rfl (by kernel_rfl) (quiet_q (op_extract rfl rfl)) ?_ ?_; (· (intro p hp; grind)))
        (refine' TA_take 7 rfl rfl (by kernel_rfl) (quiet_q (op_extract rfl rfl)) ?_ ?_; (· (intro p hp; grind)))
        refine TA_oneD 8 (by kernel_rfl) rfl rfl rfl rfl (op_alloc (C := #[.int .u8 0, .slice none 0 0, .slice none 0 0]) zero_42 rfl) ?_
        rintro _ _ ⟨bP, rfl, rfl⟩
        refine ⟨Or.inr (by (exact (fun z hz => mem_of_cnt (by intro p; (try simp only [cnt_append, cnt_cons, cnt_nil]) <;> omega) z (hKm z hz)))), ?_⟩
        refine TA_cnt (L' := (bP, Obj.cells #[.int .u8 0, .slice none 0 0, .slice none 0 0] 42 (0, 0)) :: (B2P ++ (B1P ++ (NP ++ (BgP ++ (Bv ++ (Kv ++ ((bQ, Obj.cells #[.string (bs q.name), .int .u16 q.kind, .int .u16 q.cls] 34 (0, 0)) :: L)))))))) ?_ (by intro p; (try simp only [cnt_append, cnt_cons, cnt_nil]) <;> omega)
        refine TA_oneN 9 (by kernel_rfl) rfl rfl rfl (op_stAll rfl rfl st_42 rfl rfl rfl) ?_
        rintro _ _ ⟨_, rfl⟩
        refine ⟨Or.inr (by (exact (fun z hz => mem_of_cnt (by intro p; (try simp only [cnt_append, cnt_cons, cnt_nil]) <;> omega) z (hKm z hz)))), ?_⟩
        (refine' TA_take 10 rfl rfl (by kernel_rfl) (quiet_q (op_assign rfl)) ?_ ?_; (· (intro p hp; grind)))
        (refine' TA_take 11 rfl rfl (by kernel_rfl) (quiet_q (op_assign rfl)) ?_ ?_; (· (intro p hp; grind)))
        refine TA_done (by kernel_rfl) ?_
        refine TQ_mid (a1P, c1P, B1P, a2P, c2P, B2P, NP, bP) ⟨hB1P, hB2P, hNP⟩ ?_ (fun w h => h.cnt (by intro p; (try simp only [cnt_append, cnt_cons, cnt_nil]) <;> omega))
        (repeat ((first | exact trivial | refine ⟨rfl, ?_⟩)))
      · refine Up_ofD rfl rfl rfl rfl (op_alloc (C := #[.int .u8 0, .slice none 0 0, .slice none 0 0]) zero_42 rfl) ?_
        rintro _ _ ⟨bP, rfl, rfl⟩
        refine ⟨Or.inr (by (exact (fun z hz => mem_of_cnt (by intro p; (try simp only [cnt_append, cnt_cons, cnt_nil]) <;> omega) z (hKm z hz)))), ?_⟩
        refine TA_oneD 3 (by kernel_rfl) rfl rfl rfl rfl (op_call hb_18 rfl (pUnion_S (K := Kv) _ q vs (mem_of_cnt (by intro p; (try simp only [cnt_append, cnt_cons, cnt_nil]) <;> omega)) (by omega) hk0 hc0 ((hGP.imp (r' := fun _ => voteR Kv) (L' := []) (fun cs x _ h => h)).sliceR mono_const (by simp) (mem_of_cnt (by intro p; (try simp only [cnt_append, cnt_cons, cnt_nil]) <;> omega))) (by omega) (fun x hx => by have := ((hvm x hx).ends q).1; omega) (fun x hx => (hvm x hx).smV))) ?_
        rintro _ _ ⟨a1P, c1P, B1P, a2P, c2P, B2P, NP, rfl, hB1P, hB2P, hNP, rfl⟩; rw [hr] at hB1P hB2P ⊢
        refine ⟨Or.inr (by (exact (fun z hz => mem_of_cnt (by intro p; (try simp only [cnt_append, cnt_cons, cnt_nil]) <;> omega) z (hKm z hz)))), ?_⟩
        (refine' TA_take 4 rfl rfl (by kernel_rfl) (quiet_q (op_move rfl)) ?_ ?_; (· (intro p hp; grind)))
        (refine' TA_take 5 rfl rfl (by kernel_rfl) (quiet_q (op_extract rfl rfl)) ?_ ?_; (· (intro p hp; grind)))
        (refine' TA_take 6 rfl rfl (by kernel_rfl) (quiet_q (op_extract rfl rfl)) ?_ ?_; (· (intro p hp; grind)))
        (refine' TA_take 7 rfl rfl (by kernel_rfl) (quiet_q (op_extract rfl rfl)) ?_ ?_; (· (intro p hp; grind)))
        refine TA_cnt (L' := (bP, Obj.cells #[.int .u8 0, .slice none 0 0, .slice none 0 0] 42 (0, 0)) :: (B2P ++ (B1P ++ (NP ++ (BgP ++ (Bv ++ (Kv ++ ((bQ, Obj.cells #[.string (bs q.name), .int .u16 q.kind, .int .u16 q.cls] 34 (0, 0)) :: L)))))))) ?_ (by intro p; (try simp only [cnt_append, cnt_cons, cnt_nil]) <;> omega)
        refine TA_oneN 9 (by kernel_rfl) rfl rfl rfl (op_stAll rfl rfl st_42 rfl rfl rfl) ?_
        rintro _ _ ⟨_, rfl⟩
        refine ⟨Or.inr (by (exact (fun z hz => mem_of_cnt (by intro p; (try simp only [cnt_append, cnt_cons, cnt_nil]) <;> omega) z (hKm z hz)))), ?_⟩
        (refine' TA_take 10 rfl rfl (by kernel_rfl) (quiet_q (op_assign rfl)) ?_ ?_; (· (intro p hp; grind)))
        (refine' TA_take 11 rfl rfl (by kernel_rfl) (quiet_q (op_assign rfl)) ?_ ?_; (· (intro p hp; grind)))
        refine TA_done (by kernel_rfl) ?_
        refine TQ_mid (a1P, c1P, B1P, a2P, c2P, B2P, NP, bP) ⟨hB1P, hB2P, hNP⟩ ?_ (fun w h => h.cnt (by intro p; (try simp only [cnt_append, cnt_cons, cnt_nil]) <;> omega))
        (repeat ((first | exact trivial | refine ⟨rfl, ?_⟩)))
    · refine Up_ofD rfl rfl rfl rfl (op_alloc (C := #[.int .u8 0, .slice none 0 0, .slice none 0 0]) zero_42 rfl) ?_
      rintro _ _ ⟨bP, rfl, rfl⟩
      refine ⟨Or.inr (by (exact (fun z hz => mem_of_cnt (by intro p; (try simp only [cnt_append, cnt_cons, cnt_nil]) <;> omega) z (hKm z hz)))), ?_⟩
      refine TA_oneD 2 (by kernel_rfl) rfl rfl rfl rfl (op_call hb_22 rfl (given_S (K := Kv) _ vs ((hV.imp (r' := fun _ => voteR Kv) (L' := []) (fun cs x _ h => h)).sliceR mono_const (by simp) (mem_of_cnt (by intro p; (try simp only [cnt_append, cnt_cons, cnt_nil]) <;> omega))) (by omega))) ?_
      rintro _ _ ⟨agP, cgP, BgP, rfl, hGP, rfl⟩
      refine ⟨Or.inr (by (exact (fun z hz => mem_of_cnt (by intro p; (try simp only [cnt_append, cnt_cons, cnt_nil]) <;> omega) z (hKm z hz)))), ?_⟩
      refine TA_oneD 3 (by kernel_rfl) rfl rfl rfl rfl (op_call hb_18 rfl (pUnion_S (K := Kv) _ q vs (mem_of_cnt (by intro p; (try simp only [cnt_append, cnt_cons, cnt_nil]) <;> omega)) (by omega) hk0 hc0 ((hGP.imp (r' := fun _ => voteR Kv) (L' := []) (fun cs x _ h => h)).sliceR mono_const (by simp) (mem_of_cnt (by intro p; (try simp only [cnt_append, cnt_cons, cnt_nil]) <;> omega))) (by omega) (fun x hx => by have := ((hvm x hx).ends q).1; omega) (fun x hx => (hvm x hx).smV))) ?_
      rintro _ _ ⟨a1P, c1P, B1P, a2P, c2P, B2P, NP, rfl, hB1P, hB2P, hNP, rfl⟩; rw [hr] at hB1P hB2P ⊢
      refine ⟨Or.inr (by (exact (fun z hz => mem_of_cnt (by intro p; (try simp only [cnt_append, cnt_cons, cnt_nil]) <;> omega) z (hKm z hz)))), ?_⟩
      (refine' TA_take 4 rfl rfl (by kernel_rfl) (quiet_q (op_move rfl)) ?_ ?_; (· (intro p hp; grind)))
      (refine' TA_take 5 rfl rfl (by kernel_rfl) (quiet_q (op_extract rfl rfl)) ?_ ?_; (· (intro p hp; grind)))
      (refine' TA_take 6 rfl rfl (by kernel_rfl) (quiet_q (op_extract rfl rfl)) ?_ ?_; (· (intro p hp; grind)))
      (refine' TA_take 7 rfl rfl (by kernel_rfl) (quiet_q (op_extract rfl rfl)) ?_ ?_; (· (intro p hp; grind)))
      refine TA_cnt (L' := (bP, Obj.cells #[.int .u8 0, .slice none 0 0, .slice none 0 0] 42 (0, 0)) :: (B2P ++ (B1P ++ (NP ++ (BgP ++ (Bv ++ (Kv ++ ((bQ, Obj.cells #[.string (bs q.name), .int .u16 q.kind, .int .u16 q.cls] 34 (0, 0)) :: L)))))))) ?_ (by intro p; (try simp only [cnt_append, cnt_cons, cnt_nil]) <;> omega)
      refine TA_oneN 9 (by kernel_rfl) rfl rfl rfl (op_stAll rfl rfl st_42 rfl rfl rfl) ?_
      rintro _ _ ⟨_, rfl⟩
      refine ⟨Or.inr (by (exact (fun z hz => mem_of_cnt (by intro p; (try simp only [cnt_append, cnt_cons, cnt_nil]) <;> omega) z (hKm z hz)))), ?_⟩
      (refine' TA_take 10 rfl rfl (by kernel_rfl) (quiet_q (op_assign rfl)) ?_ ?_; (· (intro p hp; grind)))
      (refine' TA_take 11 rfl rfl (by kernel_rfl) (quiet_q (op_assign rfl)) ?_ ?_; (· (intro p hp; grind)))
      refine TA_done (by kernel_rfl) ?_
      refine TQ_mid (a1P, c1P, B1P, a2P, c2P, B2P, NP, bP) ⟨hB1P, hB2P, hNP⟩ ?_ (fun w h => h.cnt (by intro p; (try simp only [cnt_append, cnt_cons, cnt_nil]) <;> omega))
      (repeat ((first | exact trivial | refine ⟨rfl, ?_⟩)))
  rintro ⟨a1P, c1P, B1P, a2P, c2P, B2P, NP, bP⟩ ⟨hB1P, hB2P, hNP⟩
  dsimp only at hB1P hB2P hNP ⊢
  clear hKm
  repeat ((with_reducible refine T_seq ?_))
  refine T_draw follows_mixed ([]) [] ?_
  (refine' TA_take 1 rfl rfl (by kernel_rfl) (quiet_q (op_move rfl)) ?_ ?_; (· (intro p hp; grind)))
  (refine' TA_take 2 rfl rfl (by kernel_rfl) (quiet_q (op_move rfl)) ?_ ?_; (· (intro p hp; grind)))
  (refine' TA_take 3 rfl rfl (by kernel_rfl) (quiet_q (op_cutFrom ety_50 rfl rfl ?_ ?_)) ?_ ?_; (· omega); (· omega); (· (intro p hp; grind)))
  (refine' TA_take 5 rfl rfl (by kernel_rfl) (quiet_q (op_move rfl)) ?_ ?_; (· (intro p hp; grind)))
  (refine' TA_take 6 rfl rfl (by kernel_rfl) (quiet_q (op_move rfl)) ?_ ?_; (· (intro p hp; grind)))
  (refine' TA_take 7 rfl rfl (by kernel_rfl) (quiet_q (op_slice_to ety_50 rfl rfl ?_ ?_)) ?_ ?_; (· omega); (· omega); (· (intro p hp; grind)))
  refine TA_oneD 0 (by kernel_rfl) rfl rfl rfl rfl (op_lit0 ety_50) ?_
  rintro _ _ ⟨b0, rfl, rfl⟩
  refine ⟨Or.inr (by (simp)), ?_⟩
  refine TA_cnt (L' := [(b0, Obj.cells #[] 63 (0, 0))] ++ ((bP, Obj.cells #[.int .u8 r.1.code, .slice a1P r.1.sets.length c1P, .slice a2P r.1.soa.length c2P] 42 (0, 0)) :: (B2P ++ (B1P ++ (NP ++ (Bv ++ (Kv ++ ((bQ, Obj.cells #[.string (bs q.name), .int .u16 q.kind, .int .u16 q.cls] 34 (0, 0)) :: L)))))))) ?_ (by intro p; (try simp only [cnt_append, cnt_cons, cnt_nil]) <;> omega)
  refine TA_oneD 4 (by kernel_rfl) rfl rfl rfl rfl (op_appendG2 (r := fun _ => voteR Kv) (L0 := Bv) (l := []) (m := vs.drop k) ety_50 rfl rfl rfl (by rw [List.length_drop]; omega) ORow.made hdrop (mem_of_cnt (by intro p; (try simp only [cnt_append, cnt_cons, cnt_nil]) <;> omega)) mono_const (fun cs y h => voteR.one h) (by simp; omega) (by decide)) ?_
  rintro _ _ ⟨a3, c3, B3, rfl, hB3, rfl⟩
  refine ⟨Or.inr (by (simp)), ?_⟩
  refine TA_oneD 8 (by kernel_rfl) rfl rfl rfl rfl (op_appendG2 (r := fun _ => voteR Kv) (L0 := Bv) (l := [] ++ vs.drop k) (m := vs.take k) ety_50 rfl rfl rfl (by rw [List.length_take]; omega) hB3 htake (mem_of_cnt (by intro p; (try simp only [cnt_append, cnt_cons, cnt_nil]) <;> omega)) mono_const (fun cs y h => voteR.one h) (by simp; omega) (by decide)) ?_
  rintro _ _ ⟨a4, c4, B4, rfl, hB4', rfl⟩
  refine ⟨Or.inr (by (simp)), ?_⟩
  (refine' TA_take 9 rfl rfl (by kernel_rfl) (quiet_q (op_assign rfl)) ?_ ?_; (· (intro p hp; grind)))
  refine TA_done (by kernel_rfl) ?_
  have hB4 : ORow (fun _ => voteR Kv) 63 5 Bv a4 c4 (turned vs k) B4 := hB4'
  have e4 : (([] : List Vote) ++ vs.drop k ++ vs.take k) = turned vs k := rfl
  rw [e4]
  repeat ((first | with_reducible refine T_seq ?_ | with_reducible refine TQ_then ?_))
  have hKm : ∀ z ∈ [(bQ, Obj.cells #[.string (bs q.name), .int .u16 q.kind, .int .u16 q.cls] 34 (0, 0))], z ∈ B4 ++ ((bP, Obj.cells #[.int .u8 r.1.code, .slice a1P r.1.sets.length c1P, .slice a2P r.1.soa.length c2P] 42 (0, 0)) :: (B2P ++ (B1P ++ (NP ++ (Bv ++ (Kv ++ ((bQ, Obj.cells #[.string (bs q.name), .int .u16 q.kind, .int .u16 q.cls] 34 (0, 0)) :: L))))))) := by
    intro z hz
    rw [List.mem_singleton.1 hz]
    simp
  refine T_midK (σ := Option Addr × Nat × Blocks × Option Addr × Nat × Blocks × Blocks × Nat) (fun y => ORow rsR 60 5 y.2.2.2.2.2.2.1 y.1 y.2.1 r.1.sets y.2.2.1 ∧ ORow rsR 60 5 y.2.2.2.2.2.2.1 y.2.2.2.1 y.2.2.2.2.1 r.1.soa y.2.2.2.2.2.1 ∧ Wr y.2.2.2.2.2.2.1)
    (fun y => [(3, .pointer (some ⟨bQ, 0, none⟩)), (9, .pointer (some ⟨bP, 0, none⟩)), (10, .int .u32 r.2.1), (11, .bool r.2.2), (13, .pointer (some ⟨y.2.2.2.2.2.2.2, 0, none⟩)), (14, .int .u32 r.2.1), (15, .bool r.2.2)])
    (fun y => (y.2.2.2.2.2.2.2, Obj.cells #[.int .u8 r.1.code, .slice y.1 r.1.sets.length y.2.1, .slice y.2.2.2.1 r.1.soa.length y.2.2.2.2.1] 42 (0, 0)) :: (y.2.2.2.2.2.1 ++ (y.2.2.1 ++ (y.2.2.2.2.2.2.1 ++ (B4 ++ ((bP, Obj.cells #[.int .u8 r.1.code, .slice a1P r.1.sets.length c1P, .slice a2P r.1.soa.length c2P] 42 (0, 0)) :: (B2P ++ (B1P ++ (NP ++ (Bv ++ (Kv ++ ((bQ, Obj.cells #[.string (bs q.name), .int .u16 q.kind, .int .u16 q.cls] 34 (0, 0)) :: L)))))))))))) ?_ ?_
  · skip
    refine T_draw follows_mixed ([(bQ, Obj.cells #[.string (bs q.name), .int .u16 q.kind, .int .u16 q.cls] 34 (0, 0))]) [] ?_
    (refine' TA_take 0 rfl rfl (by kernel_rfl) (quiet_q (op_ldAll rfl st_34 ?_ ?_)) ?_ ?_; rotate_left 3; (· repeat ((exact List.mem_cons_self))); (· (rfl)); (· (assumption)))
    (refine' TA_take 1 rfl rfl (by kernel_rfl) (quiet_q (op_move rfl)) ?_ ?_; (· (assumption)))
    refine TA_two 2 8 (by kernel_rfl) ?_ ?_
    · refine Up_ofD rfl rfl rfl rfl (op_call hb_22 rfl (given_S (K := Kv) _ (turned vs k) ((hB4.imp (r' := fun _ => voteR Kv) (L' := []) (fun cs x _ h => h)).sliceR mono_const (by simp) (mem_of_cnt (by intro p; (try simp only [cnt_append, cnt_cons, cnt_nil]) <;> omega))) (by omega))) ?_
      rintro _ _ ⟨agR, cgR, BgR, rfl, hGR, rfl⟩
      refine ⟨Or.inr (by (exact (fun z hz => mem_of_cnt (by intro p; (try simp only [cnt_append, cnt_cons, cnt_nil]) <;> omega) z (hKm z hz)))), ?_⟩
      refine TA_two 3 8 (by kernel_rfl) ?_ ?_
      · refine Up_ofD rfl rfl rfl rfl (op_call hb_18 rfl (pUnion_S (K := Kv) _ q (turned vs k) (mem_of_cnt (by intro p; (try simp only [cnt_append, cnt_cons, cnt_nil]) <;> omega)) (by omega) hk0 hc0 ((hGR.imp (r' := fun _ => voteR Kv) (L' := []) (fun cs x _ h => h)).sliceR mono_const (by simp) (mem_of_cnt (by intro p; (try simp only [cnt_append, cnt_cons, cnt_nil]) <;> omega))) (by omega) (fun x hx => by have := ((hvt x hx).ends q).1; omega) (fun x hx => (hvt x hx).smV))) ?_
        rintro _ _ ⟨a1R, c1R, B1R, a2R, c2R, B2R, NR, rfl, hB1R, hB2R, hNR, rfl⟩; rw [hr2] at hB1R hB2R ⊢
        refine ⟨Or.inr (by (exact (fun z hz => mem_of_cnt (by intro p; (try simp only [cnt_append, cnt_cons, cnt_nil]) <;> omega) z (hKm z hz)))), ?_⟩
        (refine' TA_take 4 rfl rfl (by kernel_rfl) (quiet_q (op_move rfl)) ?_ ?_; (· (intro p hp; grind)))
        (refine' TA_take 5 rfl rfl (by kernel_rfl) (quiet_q (op_extract rfl rfl)) ?_ ?_; (· (intro p hp; grind)))
        (refine' TA_take 6 rfl rfl (by kernel_rfl) (quiet_q (op_extract rfl rfl)) ?_ ?_; (· (intro p hp; grind)))
        (refine' TA_take 7 rfl rfl (by kernel_rfl) (quiet_q (op_extract rfl rfl)) ?_ ?_; (· (intro p hp; grind)))
        refine TA_oneD 8 (by kernel_rfl) rfl rfl rfl rfl (op_alloc (C := #[.int .u8 0, .slice none 0 0, .slice none 0 0]) zero_42 rfl) ?_
        rintro _ _ ⟨bR, rfl, rfl⟩
        refine ⟨Or.inr (by (exact (fun z hz => mem_of_cnt (by intro p; (try simp only [cnt_append, cnt_cons, cnt_nil]) <;> omega) z (hKm z hz)))), ?_⟩
        refine TA_cnt (L' := (bR, Obj.cells #[.int .u8 0, .slice none 0 0, .slice none 0 0] 42 (0, 0)) :: (B2R ++ (B1R ++ (NR ++ (BgR ++ (B4 ++ ((bP, Obj.cells #[.int .u8 r.1.code, .slice a1P r.1.sets.length c1P, .slice a2P r.1.soa.length c2P] 42 (0, 0)) :: (B2P ++ (B1P ++ (NP ++ (Bv ++ (Kv ++ ((bQ, Obj.cells #[.string (bs q.name), .int .u16 q.kind, .int .u16 q.cls] 34 (0, 0)) :: L))))))))))))) ?_ (by intro p; (try simp only [cnt_append, cnt_cons, cnt_nil]) <;> omega)
        refine TA_oneN 9 (by kernel_rfl) rfl rfl rfl (op_stAll rfl rfl st_42 rfl rfl rfl) ?_
        rintro _ _ ⟨_, rfl⟩
        refine ⟨Or.inr (by (exact (fun z hz => mem_of_cnt (by intro p; (try simp only [cnt_append, cnt_cons, cnt_nil]) <;> omega) z (hKm z hz)))), ?_⟩
        (refine' TA_take 10 rfl rfl (by kernel_rfl) (quiet_q (op_assign rfl)) ?_ ?_; (· (intro p hp; grind)))
        (refine' TA_take 11 rfl rfl (by kernel_rfl) (quiet_q (op_assign rfl)) ?_ ?_; (· (intro p hp; grind)))
        refine TA_done (by kernel_rfl) ?_
        refine TQ_mid (a1R, c1R, B1R, a2R, c2R, B2R, NR, bR) ⟨hB1R, hB2R, hNR⟩ ?_ (fun w h => h.cnt (by intro p; (try simp only [cnt_append, cnt_cons, cnt_nil]) <;> omega))
        (repeat ((first | exact trivial | refine ⟨rfl, ?_⟩)))
      · refine Up_ofD rfl rfl rfl rfl (op_alloc (C := #[.int .u8 0, .slice none 0 0, .slice none 0 0]) zero_42 rfl) ?_
        rintro _ _ ⟨bR, rfl, rfl⟩
        refine ⟨Or.inr (by (exact (fun z hz => mem_of_cnt (by intro p; (try simp only [cnt_append, cnt_cons, cnt_nil]) <;> omega) z (hKm z hz)))), ?_⟩
        refine TA_oneD 3 (by kernel_rfl) rfl rfl rfl rfl (op_call hb_18 rfl (pUnion_S (K := Kv) _ q (turned vs k) (mem_of_cnt (by intro p; (try simp only [cnt_append, cnt_cons, cnt_nil]) <;> omega)) (by omega) hk0 hc0 ((hGR.imp (r' := fun _ => voteR Kv) (L' := []) (fun cs x _ h => h)).sliceR mono_const (by simp) (mem_of_cnt (by intro p; (try simp only [cnt_append, cnt_cons, cnt_nil]) <;> omega))) (by omega) (fun x hx => by have := ((hvt x hx).ends q).1; omega) (fun x hx => (hvt x hx).smV))) ?_
        rintro _ _ ⟨a1R, c1R, B1R, a2R, c2R, B2R, NR, rfl, hB1R, hB2R, hNR, rfl⟩; rw [hr2] at hB1R hB2R ⊢
        refine ⟨Or.inr (by (exact (fun z hz => mem_of_cnt (by intro p; (try simp only [cnt_append, cnt_cons, cnt_nil]) <;> omega) z (hKm z hz)))), ?_⟩
        (refine' TA_take 4 rfl rfl (by kernel_rfl) (quiet_q (op_move rfl)) ?_ ?_; (· (intro p hp; grind)))
        (refine' TA_take 5 rfl rfl (by kernel_rfl) (quiet_q (op_extract rfl rfl)) ?_ ?_; (· (intro p hp; grind)))
        (refine' TA_take 6 rfl rfl (by kernel_rfl) (quiet_q (op_extract rfl rfl)) ?_ ?_; (· (intro p hp; grind)))
        (refine' TA_take 7 rfl rfl (by kernel_rfl) (quiet_q (op_extract rfl rfl)) ?_ ?_; (· (intro p hp; grind)))
        refine TA_cnt (L' := (bR, Obj.cells #[.int .u8 0, .slice none 0 0, .slice none 0 0] 42 (0, 0)) :: (B2R ++ (B1R ++ (NR ++ (BgR ++ (B4 ++ ((bP, Obj.cells #[.int .u8 r.1.code, .slice a1P r.1.sets.length c1P, .slice a2P r.1.soa.length c2P] 42 (0, 0)) :: (B2P ++ (B1P ++ (NP ++ (Bv ++ (Kv ++ ((bQ, Obj.cells #[.string (bs q.name), .int .u16 q.kind, .int .u16 q.cls] 34 (0, 0)) :: L))))))))))))) ?_ (by intro p; (try simp only [cnt_append, cnt_cons, cnt_nil]) <;> omega)
        refine TA_oneN 9 (by kernel_rfl) rfl rfl rfl (op_stAll rfl rfl st_42 rfl rfl rfl) ?_
        rintro _ _ ⟨_, rfl⟩
        refine ⟨Or.inr (by (exact (fun z hz => mem_of_cnt (by intro p; (try simp only [cnt_append, cnt_cons, cnt_nil]) <;> omega) z (hKm z hz)))), ?_⟩
        (refine' TA_take 10 rfl rfl (by kernel_rfl) (quiet_q (op_assign rfl)) ?_ ?_; (· (intro p hp; grind)))
        (refine' TA_take 11 rfl rfl (by kernel_rfl) (quiet_q (op_assign rfl)) ?_ ?_; (· (intro p hp; grind)))
        refine TA_done (by kernel_rfl) ?_
        refine TQ_mid (a1R, c1R, B1R, a2R, c2R, B2R, NR, bR) ⟨hB1R, hB2R, hNR⟩ ?_ (fun w h => h.cnt (by intro p; (try simp only [cnt_append, cnt_cons, cnt_nil]) <;> omega))
        (repeat ((first | exact trivial | refine ⟨rfl, ?_⟩)))
    · refine Up_ofD rfl rfl rfl rfl (op_alloc (C := #[.int .u8 0, .slice none 0 0, .slice none 0 0]) zero_42 rfl) ?_
      rintro _ _ ⟨bR, rfl, rfl⟩
      refine ⟨Or.inr (by (exact (fun z hz => mem_of_cnt (by intro p; (try simp only [cnt_append, cnt_cons, cnt_nil]) <;> omega) z (hKm z hz)))), ?_⟩
      refine TA_oneD 2 (by kernel_rfl) rfl rfl rfl rfl (op_call hb_22 rfl (given_S (K := Kv) _ (turned vs k) ((hB4.imp (r' := fun _ => voteR Kv) (L' := []) (fun cs x _ h => h)).sliceR mono_const (by simp) (mem_of_cnt (by intro p; (try simp only [cnt_append, cnt_cons, cnt_nil]) <;> omega))) (by omega))) ?_
      rintro _ _ ⟨agR, cgR, BgR, rfl, hGR, rfl⟩
      refine ⟨Or.inr (by (exact (fun z hz => mem_of_cnt (by intro p; (try simp only [cnt_append, cnt_cons, cnt_nil]) <;> omega) z (hKm z hz)))), ?_⟩
      refine TA_oneD 3 (by kernel_rfl) rfl rfl rfl rfl (op_call hb_18 rfl (pUnion_S (K := Kv) _ q (turned vs k) (mem_of_cnt (by intro p; (try simp only [cnt_append, cnt_cons, cnt_nil]) <;> omega)) (by omega) hk0 hc0 ((hGR.imp (r' := fun _ => voteR Kv) (L' := []) (fun cs x _ h => h)).sliceR mono_const (by simp) (mem_of_cnt (by intro p; (try simp only [cnt_append, cnt_cons, cnt_nil]) <;> omega))) (by omega) (fun x hx => by have := ((hvt x hx).ends q).1; omega) (fun x hx => (hvt x hx).smV))) ?_
      rintro _ _ ⟨a1R, c1R, B1R, a2R, c2R, B2R, NR, rfl, hB1R, hB2R, hNR, rfl⟩; rw [hr2] at hB1R hB2R ⊢
      refine ⟨Or.inr (by (exact (fun z hz => mem_of_cnt (by intro p; (try simp only [cnt_append, cnt_cons, cnt_nil]) <;> omega) z (hKm z hz)))), ?_⟩
      (refine' TA_take 4 rfl rfl (by kernel_rfl) (quiet_q (op_move rfl)) ?_ ?_; (· (intro p hp; grind)))
      (refine' TA_take 5 rfl rfl (by kernel_rfl) (quiet_q (op_extract rfl rfl)) ?_ ?_; (· (intro p hp; grind)))
      (refine' TA_take 6 rfl rfl (by kernel_rfl) (quiet_q (op_extract rfl rfl)) ?_ ?_; (· (intro p hp; grind)))
      (refine' TA_take 7 rfl rfl (by kernel_rfl) (quiet_q (op_extract rfl rfl)) ?_ ?_; (· (intro p hp; grind)))
      refine TA_cnt (L' := (bR, Obj.cells #[.int .u8 0, .slice none 0 0, .slice none 0 0] 42 (0, 0)) :: (B2R ++ (B1R ++ (NR ++ (BgR ++ (B4 ++ ((bP, Obj.cells #[.int .u8 r.1.code, .slice a1P r.1.sets.length c1P, .slice a2P r.1.soa.length c2P] 42 (0, 0)) :: (B2P ++ (B1P ++ (NP ++ (Bv ++ (Kv ++ ((bQ, Obj.cells #[.string (bs q.name), .int .u16 q.kind, .int .u16 q.cls] 34 (0, 0)) :: L))))))))))))) ?_ (by intro p; (try simp only [cnt_append, cnt_cons, cnt_nil]) <;> omega)
      refine TA_oneN 9 (by kernel_rfl) rfl rfl rfl (op_stAll rfl rfl st_42 rfl rfl rfl) ?_
      rintro _ _ ⟨_, rfl⟩
      refine ⟨Or.inr (by (exact (fun z hz => mem_of_cnt (by intro p; (try simp only [cnt_append, cnt_cons, cnt_nil]) <;> omega) z (hKm z hz)))), ?_⟩
      (refine' TA_take 10 rfl rfl (by kernel_rfl) (quiet_q (op_assign rfl)) ?_ ?_; (· (intro p hp; grind)))
      (refine' TA_take 11 rfl rfl (by kernel_rfl) (quiet_q (op_assign rfl)) ?_ ?_; (· (intro p hp; grind)))
      refine TA_done (by kernel_rfl) ?_
      refine TQ_mid (a1R, c1R, B1R, a2R, c2R, B2R, NR, bR) ⟨hB1R, hB2R, hNR⟩ ?_ (fun w h => h.cnt (by intro p; (try simp only [cnt_append, cnt_cons, cnt_nil]) <;> omega))
      (repeat ((first | exact trivial | refine ⟨rfl, ?_⟩)))
  rintro ⟨a1R, c1R, B1R, a2R, c2R, B2R, NR, bR⟩ ⟨hB1R, hB2R, hNR⟩
  dsimp only at hB1R hB2R hNR ⊢
  clear hKm
  have hcode : 0 ≤ r.1.code ∧ r.1.code ≤ 255 := by
    have := union_code q (l := vs) fun x hx => votes_code hV x hx
    rw [← hr, unionP_law q vs hvm]
    exact this
  repeat ((first | with_reducible refine T_seq ?_ | with_reducible refine T_region ?_ | refine TL_q (op_move rfl) rfl ?_ | (refine' TL_q (op_bin rfl rfl ?_) rfl ?_; rotate_left 1; (· (exact bbin_eql Try.underlying4))) | (refine' TL_q (op_pickT rfl ?_ rfl) rfl ?_; (· (exact dT (by (with_reducible rfl))))) | (refine TL_gpre rfl rfl ?_ ?_; (· (exact dT (by (with_reducible rfl))))) | refine TL_gq2 (op_move rfl) rfl ?_ | (refine' TL_gq2 (op_bin rfl rfl ?_) rfl ?_; rotate_left 1; (· (exact bin_eql))) | (refine' TL_gq2 (op_ldAll rfl st_34 ?_ ?_) rfl ?_; rotate_left 3; (· repeat ((first | exact List.mem_cons_self | apply List.mem_cons_of_mem | apply List.mem_append_right))); (· (rfl)))))
  refine TG_op (op_call hb_23 rfl (vSame_S [.int .u8 r.1.code, .slice a1P r.1.sets.length c1P, .slice a2P r.1.soa.length c2P] [.int .u8 r.1.code, .slice a1R r.1.sets.length c1R, .slice a2R r.1.soa.length c2R] r.1 r.1 ⟨_, _, rfl, hB1P.sliceR mono_set (mem_of_cnt (by intro p; (try simp only [cnt_append, cnt_cons, cnt_nil]) <;> omega)) (mem_of_cnt (by intro p; (try simp only [cnt_append, cnt_cons, cnt_nil]) <;> omega)), hB2P.sliceR mono_set (mem_of_cnt (by intro p; (try simp only [cnt_append, cnt_cons, cnt_nil]) <;> omega)) (mem_of_cnt (by intro p; (try simp only [cnt_append, cnt_cons, cnt_nil]) <;> omega)), hcode⟩ ⟨_, _, rfl, hB1R.sliceR mono_set (mem_of_cnt (by intro p; (try simp only [cnt_append, cnt_cons, cnt_nil]) <;> omega)) (mem_of_cnt (by intro p; (try simp only [cnt_append, cnt_cons, cnt_nil]) <;> omega)), hB2R.sliceR mono_set (mem_of_cnt (by intro p; (try simp only [cnt_append, cnt_cons, cnt_nil]) <;> omega)) (mem_of_cnt (by intro p; (try simp only [cnt_append, cnt_cons, cnt_nil]) <;> omega)), hcode⟩)) rfl ?_
  repeat ((first | with_reducible refine TL_nil ?_ | with_reducible refine TQ_then ?_ | with_reducible refine T_ret ?_ | refine TL_q (op_assign rfl) rfl ?_ | (refine' TL_q (op_pickT rfl ?_ rfl) rfl ?_; (· (exact dT (by (with_reducible rfl)))))))
  refine TQ_cnt (L' := L) ?_ (by intro p; (try simp only [cnt_append, cnt_cons, cnt_nil]) <;> omega)
  refine TQ_ret1 6 _ rfl rfl ?_
  refine ⟨?_, rfl⟩
  simp
theorem mergeRow_walk (cq : List Value) (q : Quest) (v : Value) (l : List Said) (n : Int) (W : World) (hq : questR (allBlocks W) cq q) (hl : sliceR 23 saidR (allBlocks W) [v] l) (hn : -9223372036854775808 ≤ n ∧ n ≤ 9223372036854775807) : Calls Try.prog 6 #[.agg cq.toArray, v, .int .i64 n] W fun e w' => e = .returned (.bool true) ∧ Below W.heap.size W w' :=
  Spec.below (mergeRow_S cq q v l n hq hl hn)
end Go.Proofs.Ytdflhdfapnhjjaa
