/-
  Pt15: Uf.
-/
import Derived.Test.YtdflhdfapnhjjaaPt14
namespace Go.Proofs.Ytdflhdfapnhjjaa
open Go.RowKit
open Vd (RSet Vdt Vote Rec Quest Piece Ballot Said)
set_option linter.unusedVariables false
set_option linter.unusedSimpArgs false
--auto
variable {G : World} {L : Blocks}
theorem count_take {l : List Vote} {i : Nat} {x : Vote} (h : l[i]? = some x) (p : Vote → Bool) : (l.take (i + 1)).countP p = (l.take i).countP p + (if p x then 1 else 0) := by
  rw [List.take_add_one, h]
  simp only [Option.toList_some, List.countP_append, List.countP_cons, List.countP_nil]
  omega
theorem sbin_leq {P : Program} {t : TypeId} {a b : List UInt8} : Bin P .leq t (.string (bs a)) (.string (bs b)) (.bool (Op.bytesLess a b || a == b)) := ⟨fun x y w => by simp [eqGuard, binOp, Op.stringOp]⟩
set_option maxRecDepth 100000 in
set_option maxHeartbeats 4000000 in
theorem mergeAll_S (cq : List Value) (q : Quest) (v : Value) (l : List Said) (hq : questR L cq q) (hl : sliceR 23 saidR L [v] l) : Spec Try.prog G 5 #[.agg cq.toArray, v] L fun u M => u = .bool true ∧ M = L := by
  obtain ⟨rfl, hqm, hk0, hc0⟩ := hq
  obtain ⟨al, cl, e1, hl0⟩ := hl.val
  simp only [List.cons.injEq, and_true] at e1
  subst e1
  refine Spec_of (n := 225) Try.func5 rfl rfl rfl ?_
  refine T_seq (T_region (TL_new (op_boxA rfl) rfl ?_))
  intro bQ
  repeat ((first | with_reducible refine T_seq ?_ | with_reducible refine T_region ?_ | with_reducible refine TL_nil ?_ | with_reducible refine TQ_then ?_ | refine TL_q (op_move rfl) rfl ?_ | refine TL_q (op_assign rfl) rfl ?_))
  refine TL_opT (op_call hb_19 rfl (long23_S _ l (mono_slice mono_said _ _ _ _ (mem_of_cnt (by intro p; (try simp only [cnt_append, cnt_cons, cnt_nil]) <;> omega)) hl0))) rfl ?_
  rintro _ _ ⟨b, rfl, rfl, hb⟩
  cases b with
  | true =>
    repeat ((first | with_reducible refine T_seq ?_ | with_reducible refine T_region ?_ | with_reducible refine TL_nil ?_ | with_reducible refine TQ_then ?_ | with_reducible refine T_ret ?_ | with_reducible refine TQ_then_ret ?_ | refine TL_q (op_move rfl) rfl ?_ | refine TL_q (op_assign rfl) rfl ?_ | (refine' TL_q (op_pickT rfl ?_ rfl) rfl ?_; (· (with_reducible rfl))) | (refine' TL_op (op_call hb_14 rfl (awake23_S )) rfl ?_) | (refine TL_gno rfl rfl ?_ rfl ?_; (· (exact Bool.not_false))) | (refine T_yes rfl ?_ ?_; (· (with_reducible rfl)))))
    refine TQ_cnt (L' := L) ?_ (by intro p; (try simp only [cnt_append, cnt_cons, cnt_nil]) <;> omega)
    refine TQ_ret1 4 _ rfl rfl ?_
    exact ⟨rfl, rfl⟩
  | false =>
  obtain ⟨hn, hsm⟩ := hb rfl
  by_cases hbig : 1000 < q.name.length
  · repeat ((first | with_reducible refine T_seq ?_ | with_reducible refine T_region ?_ | with_reducible refine TL_nil ?_ | with_reducible refine TQ_then ?_ | with_reducible refine T_ret ?_ | with_reducible refine TQ_then_ret ?_ | refine TL_q (op_move rfl) rfl ?_ | refine TL_q (op_assign rfl) rfl ?_ | (refine' TL_q (op_pickT rfl ?_ rfl) rfl ?_; (· (exact dT (by (first | assumption | omega))))) | (refine' TL_q (op_pickF rfl ?_ rfl) rfl ?_; (· (with_reducible rfl))) | (refine' TL_op (op_call hb_14 rfl (awake23_S )) rfl ?_) | (refine TL_gpre rfl rfl ?_ ?_; (· (with_reducible rfl))) | (refine' TL_gq2 (op_bin rfl rfl ?_) rfl ?_; rotate_left 1; (· (exact bin_gtr))) | refine TL_gq2 (op_len_str rfl Try.underlying9) rfl ?_ | refine TL_gq2 (op_fld rfl fld_34_0) rfl ?_ | (refine' TL_gq2 (op_ld rfl pl_5 ?_ ?_) rfl ?_; rotate_left 4; (· repeat ((exact List.mem_cons_self))); (· (rfl))) | (refine TL_gno rfl rfl ?_ rfl ?_; (· (exact dT (by (omega))))) | (refine T_yes rfl ?_ ?_; (· (with_reducible rfl)))))
    refine TQ_cnt (L' := L) ?_ (by intro p; (try simp only [cnt_append, cnt_cons, cnt_nil]) <;> omega)
    refine TQ_ret1 4 _ rfl rfl ?_
    exact ⟨rfl, rfl⟩
  have hqn : q.name.length ≤ 1000 := by omega
  have hfits : ∀ s ∈ l, MsgFits s.m := fun s hs => (hsm s hs).fits
  obtain ⟨hnd, hvs, hvl⟩ := votesOf_sm q l hsm
  repeat ((first | with_reducible refine T_seq ?_ | with_reducible refine T_region ?_ | with_reducible refine TL_nil ?_ | with_reducible refine TQ_then ?_ | with_reducible refine T_skip ?_ | refine TL_q (op_move rfl) rfl ?_ | (refine' TL_q (op_pickF rfl ?_ rfl) rfl ?_; (· (first | with_reducible rfl | exact dF (by (omega))))) | (refine' TL_q (op_ldAll rfl st_34 ?_ ?_) rfl ?_; rotate_left 3; (· repeat ((exact List.mem_cons_self))); (· (rfl))) | (refine' TG_op (op_call hb_14 rfl (awake23_S )) rfl ?_) | (refine TL_gpre rfl rfl ?_ ?_; (· (first | with_reducible rfl | exact dF (by (omega))))) | (refine' TL_gq2 (op_bin rfl rfl ?_) rfl ?_; rotate_left 1; (· (exact bin_gtr))) | refine TL_gq2 (op_not rfl) rfl ?_ | refine TL_gq2 (op_len_str rfl Try.underlying9) rfl ?_ | refine TL_gq2 (op_fld rfl fld_34_0) rfl ?_ | (refine' TL_gq2 (op_ld rfl pl_5 ?_ ?_) rfl ?_; rotate_left 4; (· repeat ((exact List.mem_cons_self))); (· (rfl))) | (refine T_no rfl ?_ ?_; (· (exact Bool.not_true)))))
  refine TL_opT (op_call hb_20 rfl (votes_S _ q _ l ⟨rfl, hqm, hk0, hc0⟩ (mono_slice mono_said _ _ _ _ (mem_of_cnt (by intro p; (try simp only [cnt_append, cnt_cons, cnt_nil]) <;> omega)) hl0) (by omega) (by omega) hfits)) rfl ?_
  rintro _ _ ⟨av, cv, Bv, Kv, rfl, hV, rfl⟩
  obtain ⟨vs, hvs0⟩ : ∃ vs, Vd.votesOf q l = vs := ⟨_, rfl⟩
  rw [hvs0] at hvs hvl hnd hV ⊢
  obtain ⟨r, hr⟩ : ∃ r, unionP q vs = r := ⟨_, rfl⟩
  have hvm : ∀ x ∈ vs, VoteSm x := fun x hx => (hvs x hx).2
  have his := unionP_is q vs
  rw [hr] at his
  have hcv := hV.cap
  unfold maxLen at hcv
  repeat ((first | with_reducible refine T_seq ?_ | with_reducible refine TL_nil ?_ | with_reducible refine TQ_then ?_ | refine TL_q (op_assign rfl) rfl ?_))
  have hKm : ∀ z ∈ [(bQ, Obj.cells #[.string (bs q.name), .int .u16 q.kind, .int .u16 q.cls] 34 (0, 0))], z ∈ Bv ++ (Kv ++ ((bQ, Obj.cells #[.string (bs q.name), .int .u16 q.kind, .int .u16 q.cls] 34 (0, 0)) :: L)) := by
    intro z hz
    rw [List.mem_singleton.1 hz]
    simp
  refine T_midK (σ := Option Addr × Nat × Blocks × Option Addr × Nat × Blocks × Blocks × Nat) (fun y => ORow rsR 60 5 y.2.2.2.2.2.2.1 y.1 y.2.1 r.1.sets y.2.2.1 ∧ ORow rsR 60 5 y.2.2.2.2.2.2.1 y.2.2.2.1 y.2.2.2.2.1 r.1.soa y.2.2.2.2.2.1 ∧ Wr y.2.2.2.2.2.2.1)
    (fun y => [(2, .pointer (some ⟨bQ, 0, none⟩)), (5, .slice av vs.length cv), (6, .pointer (some ⟨y.2.2.2.2.2.2.2, 0, none⟩)), (7, .int .u32 r.2.1), (8, .bool r.2.2)])
    (fun y => (y.2.2.2.2.2.2.2, Obj.cells #[.int .u8 r.1.code, .slice y.1 r.1.sets.length y.2.1, .slice y.2.2.2.1 r.1.soa.length y.2.2.2.2.1] 42 (0, 0)) :: (y.2.2.2.2.2.1 ++ (y.2.2.1 ++ (y.2.2.2.2.2.2.1 ++ (Bv ++ (Kv ++ ((bQ, Obj.cells #[.string (bs q.name), .int .u16 q.kind, .int .u16 q.cls] 34 (0, 0)) :: L))))))) ?_ ?_
  · skip
    refine T_draw follows_mixed ([(bQ, Obj.cells #[.string (bs q.name), .int .u16 q.kind, .int .u16 q.cls] 34 (0, 0))]) [] ?_
    (refine' TA_take 0 rfl rfl (by kernel_rfl) (quiet_q (op_ldAll rfl st_34 ?_ ?_)) ?_ ?_; rotate_left 3; (· repeat ((exact List.mem_cons_self))); (· (rfl)); (· (assumption)))
    (refine' TA_take 1 rfl rfl (by kernel_rfl) (quiet_q (op_move rfl)) ?_ ?_; (· (assumption)))
    refine TA_two 2 8 (by kernel_rfl) ?_ ?_
    · refine Up_ofD rfl rfl rfl rfl (op_call hb_22 rfl (given_S (K := Kv) _ vs ((hV.imp (r' := fun _ => voteR Kv) (L' := []) (fun cs x _ h => h)).sliceR mono_const (by simp) (mem_of_cnt (by intro p; (try simp only [cnt_append, cnt_cons, cnt_nil]) <;> omega))) (by omega))) ?_
      rintro _ _ ⟨agP, cgP, BgP, rfl, hGP, rfl⟩
      refine ⟨Or.inr (by (exact (fun z hz => mem_of_cnt (by intro p; (try simp only [cnt_append, cnt_cons, cnt_nil]) <;> omega) z (hKm z hz)))), ?_⟩
      refine TA_two 3 8 (by kernel_rfl) ?_ ?_
      · refine Up_ofD rfl rfl rfl rfl (op_call hb_18 rfl (pUnion_S (K := Kv) _ q vs (mem_of_cnt (by intro p; (try simp only [cnt_append, cnt_cons, cnt_nil]) <;> omega)) (by omega) hk0 hc0 ((hGP.imp (r' := fun _ => voteR Kv) (L' := []) (fun cs x _ h => h)).sliceR mono_const (by simp) (mem_of_cnt (by intro p; (try simp only [cnt_append, cnt_cons, cnt_nil]) <;> omega))) (by omega) (fun x hx => by have := ((hvm x hx).ends q).1; omega) (fun x hx => (hvm x hx).smV))) ?_
        rintro _ _ ⟨a1P, c1P, B1P, a2P, c2P, B2P, NP, rfl, hB1P, hB2P, hNP, rfl⟩; rw [hr] at hB1P hB2P ⊢
        refine ⟨Or.inr (by (exact (fun z hz => mem_of_cnt (by intro p; (try simp only [cnt_append, cnt_cons, cnt_nil]) <;> omega) z (hKm z hz)))), ?_⟩
        (refine' TA_take 4 rfl rfl (by kernel_rfl) (quiet_q (op_move rfl)) ?_ ?_; (· (intro p hp; grind)))
        (refine' TA_take 5 rfl rfl (by kernel_rfl) (quiet_q (op_extract rfl rfl)) ?_ ?_; (· (intro p hp; grind)))
        (refine' TA_take 6 rfl rfl (by kernel_rfl) (quiet_q (op_extract rfl rfl)) ?_ ?_; (· (intro p hp; grind)))
        (refine' TA_take 7 rfl rfl (by kernel_rfl) (quiet_q (op_extract rfl rfl)) ?_ ?_; (· (intro p hp; grind)))
        refine TA_oneD 8 (by kernel_rfl) rfl rfl rfl rfl (op_alloc (C := #[.int .u8 0, .slice none 0 0, .slice none 0 0]) zero_42 rfl) ?_
        rintro _ _ ⟨bP, rfl, rfl⟩
        refine ⟨Or.inr (by (exact (fun z hz => mem_of_cnt (by intro p; (try simp only [cnt_append, cnt_cons, cnt_nil]) <;> omega) z (hKm z hz)))), ?_⟩
        refine TA_cnt (L' := (bP, Obj.cells #[.int .u8 0, .slice none 0 0, .slice none 0 0] 42 (0, 0)) :: (B2P ++ (B1P ++ (NP ++ (BgP ++ (Bv ++ (Kv ++ ((bQ, Obj.cells #[.string (bs q.name), .int .u16 q.kind, .int .u16 q.cls] 34 (0, 0)) :: L)))))))) ?_ (by intro p; (try simp only [cnt_append, cnt_cons, cnt_nil]) <;> omega)
        refine TA_oneN 9 (by kernel_rfl) rfl rfl rfl (op_stAll rfl rfl st_42 rfl rfl rfl) ?_
        rintro _ _ ⟨_, rfl⟩
        refine ⟨Or.inr (by (exact (fun z hz => mem_of_cnt (by intro p; (try simp only [cnt_append, cnt_cons, cnt_nil]) <;> omega) z (hKm z hz)))), ?_⟩
        (refine' TA_take 10 rfl rfl (by kernel_rfl) (quiet_q (op_assign rfl)) ?_ ?_; (· (intro p hp; grind)))
        (refine' TA_take 11 rfl rfl (by kernel_rfl) (quiet_q (op_assign rfl)) ?_ ?_; (· (intro p hp; grind)))
        refine TA_done (by kernel_rfl) ?_
        refine TQ_mid (a1P, c1P, B1P, a2P, c2P, B2P, NP, bP) ⟨hB1P, hB2P, hNP⟩ ?_ (fun w h => h.cnt (by intro p; (try simp only [cnt_append, cnt_cons, cnt_nil]) <;> omega))
        (repeat ((first | exact trivial | refine ⟨rfl, ?_⟩)))
      · refine Up_ofD rfl rfl rfl rfl (op_alloc (C := #[.int .u8 0, .slice none 0 0, .slice none 0 0]) zero_42 rfl) ?_
        rintro _ _ ⟨bP, rfl, rfl⟩
        refine ⟨Or.inr (by (exact (fun z hz => mem_of_cnt (by intro p; (try simp only [cnt_append, cnt_cons, cnt_nil]) <;> omega) z (hKm z hz)))), ?_⟩
        refine TA_oneD 3 (by kernel_rfl) rfl rfl rfl rfl (op_call hb_18 rfl (pUnion_S (K := Kv) _ q vs (mem_of_cnt (by intro p; (try simp only [cnt_append, cnt_cons, cnt_nil]) <;> omega)) (by omega) hk0 hc0 ((hGP.imp (r' := fun _ => voteR Kv) (L' := []) (fun cs x _ h => h)).sliceR mono_const (by simp) (mem_of_cnt (by intro p; (try simp only [cnt_append, cnt_cons, cnt_nil]) <;> omega))) (by omega) (fun x hx => by have := ((hvm x hx).ends q).1; omega) (fun x hx => (hvm x hx).smV))) ?_
        rintro _ _ ⟨a1P, c1P, B1P, a2P, c2P, B2P, NP, rfl, hB1P, hB2P, hNP, rfl⟩; rw [hr] at hB1P hB2P ⊢
        refine ⟨Or.inr (by (exact (fun z hz => mem_of_cnt (by intro p; (try simp only [cnt_append, cnt_cons, cnt_nil]) <;> omega) z (hKm z hz)))), ?_⟩
        (refine' TA_take 4 rfl rfl (by kernel_rfl) (quiet_q (op_move rfl)) ?_ ?_; (· (intro p hp; grind)))
        (refine' TA_take 5 rfl rfl (by kernel_rfl) (quiet_q (op_extract rfl rfl)) ?_ ?_; (· (intro p hp; grind)))
        (refine' TA_take 6 rfl rfl (by kernel_rfl) (quiet_q (op_extract rfl rfl)) ?_ ?_; (· (intro p hp; grind)))
        (refine' TA_take 7 rfl rfl (by kernel_rfl) (quiet_q (op_extract rfl rfl)) ?_ ?_; (· (intro p hp; grind)))
        refine TA_cnt (L' := (bP, Obj.cells #[.int .u8 0, .slice none 0 0, .slice none 0 0] 42 (0, 0)) :: (B2P ++ (B1P ++ (NP ++ (BgP ++ (Bv ++ (Kv ++ ((bQ, Obj.cells #[.string (bs q.name), .int .u16 q.kind, .int .u16 q.cls] 34 (0, 0)) :: L)))))))) ?_ (by intro p; (try simp only [cnt_append, cnt_cons, cnt_nil]) <;> omega)
        refine TA_oneN 9 (by kernel_rfl) rfl rfl rfl (op_stAll rfl rfl st_42 rfl rfl rfl) ?_
        rintro _ _ ⟨_, rfl⟩
        refine ⟨Or.inr (by (exact (fun z hz => mem_of_cnt (by intro p; (try simp only [cnt_append, cnt_cons, cnt_nil]) <;> omega) z (hKm z hz)))), ?_⟩
        (refine' TA_take 10 rfl rfl (by kernel_rfl) (quiet_q (op_assign rfl)) ?_ ?_; (· (intro p hp; grind)))
        (refine' TA_take 11 rfl rfl (by kernel_rfl) (quiet_q (op_assign rfl)) ?_ ?_; (· (intro p hp; grind)))
        refine TA_done (by kernel_rfl) ?_
        refine TQ_mid (a1P, c1P, B1P, a2P, c2P, B2P, NP, bP) ⟨hB1P, hB2P, hNP⟩ ?_ (fun w h => h.cnt (by intro p; (try simp only [cnt_append, cnt_cons, cnt_nil]) <;> omega))
        (repeat ((first | exact trivial | refine ⟨rfl, ?_⟩)))
    · refine Up_ofD rfl rfl rfl rfl (op_alloc (C := #[.int .u8 0, .slice none 0 0, .slice none 0 0]) zero_42 rfl) ?_
      rintro _ _ ⟨bP, rfl, rfl⟩
      refine ⟨Or.inr (by (exact (fun z hz => mem_of_cnt (by intro p; (try simp only [cnt_append, cnt_cons, cnt_nil]) <;> omega) z (hKm z hz)))), ?_⟩
      refine TA_oneD 2 (by kernel_rfl) rfl rfl rfl rfl (op_call hb_22 rfl (given_S (K := Kv) _ vs ((hV.imp (r' := fun _ => voteR Kv) (L' := []) (fun cs x _ h => h)).sliceR mono_const (by simp) (mem_of_cnt (by intro p; (try simp only [cnt_append, cnt_cons, cnt_nil]) <;> omega))) (by omega))) ?_
      rintro _ _ ⟨agP, cgP, BgP, rfl, hGP, rfl⟩
      refine ⟨Or.inr (by (exact (fun z hz => mem_of_cnt (by intro p; (try simp only [cnt_append, cnt_cons, cnt_nil]) <;> omega) z (hKm z hz)))), ?_⟩
      refine TA_oneD 3 (by kernel_rfl) rfl rfl rfl rfl (op_call hb_18 rfl (pUnion_S (K := Kv) _ q vs (mem_of_cnt (by intro p; (try simp only [cnt_append, cnt_cons, cnt_nil]) <;> omega)) (by omega) hk0 hc0 ((hGP.imp (r' := fun _ => voteR Kv) (L' := []) (fun cs x _ h => h)).sliceR mono_const (by simp) (mem_of_cnt (by intro p; (try simp only [cnt_append, cnt_cons, cnt_nil]) <;> omega))) (by omega) (fun x hx => by have := ((hvm x hx).ends q).1; omega) (fun x hx => (hvm x hx).smV))) ?_
      rintro _ _ ⟨a1P, c1P, B1P, a2P, c2P, B2P, NP, rfl, hB1P, hB2P, hNP, rfl⟩; rw [hr] at hB1P hB2P ⊢
      refine ⟨Or.inr (by (exact (fun z hz => mem_of_cnt (by intro p; (try simp only [cnt_append, cnt_cons, cnt_nil]) <;> omega) z (hKm z hz)))), ?_⟩
      (refine' TA_take 4 rfl rfl (by kernel_rfl) (quiet_q (op_move rfl)) ?_ ?_; (· (intro p hp; grind)))
      (refine' TA_take 5 rfl rfl (by kernel_rfl) (quiet_q (op_extract rfl rfl)) ?_ ?_; (· (intro p hp; grind)))
      (refine' TA_take 6 rfl rfl (by kernel_rfl) (quiet_q (op_extract rfl rfl)) ?_ ?_; (· (intro p hp; grind)))
      (refine' TA_take 7 rfl rfl (by kernel_rfl) (quiet_q (op_extract rfl rfl)) ?_ ?_; (· (intro p hp; grind)))
      refine TA_cnt (L' := (bP, Obj.cells #[.int .u8 0, .slice none 0 0, .slice none 0 0] 42 (0, 0)) :: (B2P ++ (B1P ++ (NP ++ (BgP ++ (Bv ++ (Kv ++ ((bQ, Obj.cells #[.string (bs q.name), .int .u16 q.kind, .int .u16 q.cls] 34 (0, 0)) :: L)))))))) ?_ (by intro p; (try simp only [cnt_append, cnt_cons, cnt_nil]) <;> omega)
      refine TA_oneN 9 (by kernel_rfl) rfl rfl rfl (op_stAll rfl rfl st_42 rfl rfl rfl) ?_
      rintro _ _ ⟨_, rfl⟩
      refine ⟨Or.inr (by (exact (fun z hz => mem_of_cnt (by intro p; (try simp only [cnt_append, cnt_cons, cnt_nil]) <;> omega) z (hKm z hz)))), ?_⟩
      (refine' TA_take 10 rfl rfl (by kernel_rfl) (quiet_q (op_assign rfl)) ?_ ?_; (· (intro p hp; grind)))
      (refine' TA_take 11 rfl rfl (by kernel_rfl) (quiet_q (op_assign rfl)) ?_ ?_; (· (intro p hp; grind)))
      refine TA_done (by kernel_rfl) ?_
      refine TQ_mid (a1P, c1P, B1P, a2P, c2P, B2P, NP, bP) ⟨hB1P, hB2P, hNP⟩ ?_ (fun w h => h.cnt (by intro p; (try simp only [cnt_append, cnt_cons, cnt_nil]) <;> omega))
      (repeat ((first | exact trivial | refine ⟨rfl, ?_⟩)))
  rintro ⟨a1P, c1P, B1P, a2P, c2P, B2P, NP, bP⟩ ⟨hB1P, hB2P, hNP⟩
  dsimp only at hB1P hB2P hNP ⊢
  clear hKm
  by_cases h0 : vs = []
  · subst h0
    have his' : r.2.2 = false := by rw [his]; rfl
    rw [his']
    repeat ((first | with_reducible refine T_seq ?_ | with_reducible refine T_block ?_ | with_reducible refine T_region ?_ | with_reducible refine TL_nil ?_ | with_reducible refine TQ_then ?_ | refine TL_q (op_assign rfl) rfl ?_))
    refine T_loopS (σ := Unit) (fun _ => True) (fun _ => [(2, .pointer (some ⟨bQ, 0, none⟩)), (5, .slice av ([] : List Vote).length cv), (6, .pointer (some ⟨bP, 0, none⟩)), (8, .bool false), (9, .bool true), (10, .int .i64 0), (11, .int .i64 0)]) (fun _ => ((bP, Obj.cells #[.int .u8 r.1.code, .slice a1P r.1.sets.length c1P, .slice a2P r.1.soa.length c2P] 42 (0, 0)) :: (B2P ++ (B1P ++ (NP ++ (Bv ++ (Kv ++ ((bQ, Obj.cells #[.string (bs q.name), .int .u16 q.kind, .int .u16 q.cls] 34 (0, 0)) :: L)))))))) (fun _ => 0) () trivial ?_ (fun w h => h) ?_
    (repeat ((first | exact trivial | refine ⟨rfl, ?_⟩)))
    rintro _ _
    have hz : ¬ (0 : Int) < (([] : List Vote).length : Nat) := by simp
    repeat ((first | with_reducible refine T_seq ?_ | with_reducible refine T_region ?_ | with_reducible refine TL_nil ?_ | with_reducible refine TQ_then ?_ | with_reducible refine T_exit ?_ | with_reducible refine T_ret ?_ | with_reducible refine TQ_then_exit ?_ | with_reducible refine TQ_then_ret ?_ | with_reducible refine TQ_block_exit ?_ | refine TL_q (op_move rfl) rfl ?_ | refine TL_q (op_assign rfl) rfl ?_ | (refine' TL_q (op_bin rfl rfl ?_) rfl ?_; rotate_left 1; (· (first | exact bin_lss | exact bin_gtr | exact bbin_eql Try.underlying4))) | refine TL_q (op_not rfl) rfl ?_ | (refine' TL_q (op_pickT rfl ?_ rfl) rfl ?_; (· (first | with_reducible rfl | exact Bool.not_false))) | (refine' TL_q (op_pickF rfl ?_ rfl) rfl ?_; (· (exact Bool.not_true))) | refine TL_q (op_len_slice rfl Try.underlying50) rfl ?_ | (refine TL_gno rfl rfl ?_ rfl ?_; (· (first | with_reducible rfl | exact Bool.not_false | exact Bool.not_true))) | (refine T_yes rfl ?_ ?_; (· (with_reducible rfl))) | (refine T_no rfl ?_ ?_; (· (exact Bool.not_true)))))
    refine TQ_cnt (L' := L) ?_ (by intro p; (try simp only [cnt_append, cnt_cons, cnt_nil]) <;> omega)
    refine TQ_ret1 4 _ rfl rfl ?_
    exact ⟨rfl, rfl⟩
  obtain ⟨w, hw0⟩ : ∃ w, vs[0]? = some w := ⟨_, List.getElem?_eq_getElem (by rcases vs with _ | ⟨a, b⟩ <;> simp_all)⟩
  obtain ⟨bv, cur, rfl, rfl, hcv1, hcv2, _, hcur⟩ := hV.block h0
  obtain ⟨csw, _, hwv, _, hcw⟩ := hcur 0 w hw0
  obtain ⟨w1, wc1, w2, wc2, rfl, hw1, hw2, hw3, hw4, hw5⟩ := hwv.vals
  have gw : ∀ j v, ([.int .u8 w.vd.code, .slice w1 w.vd.sets.length wc1, .slice w2 w.vd.soa.length wc2] : List Value)[j]? = some v → cur[0 + (0 : Int).toNat * 5 + 1 + j]? = some v := fun j v hj => by
    match j, hj with
    | 0, hj => exact hcw 1 v hj
    | 1, hj => exact hcw 2 v hj
    | 2, hj => exact hcw 3 v hj
  have hget : ∀ (i : Nat) (x : Vote), vs[i]? = some x → ∃ x1 xc1 x2 xc2, (∀ j v, ([.int .u8 x.vd.code, .slice x1 x.vd.sets.length xc1, .slice x2 x.vd.soa.length xc2] : List Value)[j]? = some v → cur[0 + i * 5 + 1 + j]? = some v) ∧ sliceR 5 rsR Kv [.slice x1 x.vd.sets.length xc1] x.vd.sets ∧ sliceR 5 rsR Kv [.slice x2 x.vd.soa.length xc2] x.vd.soa ∧ (0 ≤ x.vd.code ∧ x.vd.code ≤ 255) ∧ (∀ s ∈ x.vd.sets, s.data.length ≤ 420) := fun i x hx => by
    obtain ⟨csx, _, hxv, _, hcx⟩ := hcur i x hx
    obtain ⟨x1, xc1, x2, xc2, rfl, hx1, hx2, hx3, hx4, hx5⟩ := hxv.vals
    refine ⟨x1, xc1, x2, xc2, fun j v hj => ?_, hx1, hx2, hx3, fun s hs => ((hvm x (List.mem_of_getElem? hx)).1.1 s hs).2.1⟩
    rw [Nat.zero_add, Nat.add_assoc]
    match j, hj with
    | 0, hj => exact hcx 1 v hj
    | 1, hj => exact hcx 2 v hj
    | 2, hj => exact hcx 3 v hj
  repeat ((first | with_reducible refine T_seq ?_ | with_reducible refine T_block ?_ | with_reducible refine T_region ?_ | with_reducible refine TL_nil ?_ | with_reducible refine TQ_then ?_ | refine TL_q (op_assign rfl) rfl ?_))
  refine T_loopS (σ := Nat) (fun i => i ≤ vs.length) (fun i => [(2, .pointer (some ⟨bQ, 0, none⟩)), (5, .slice (some ⟨bv, 0, none⟩) vs.length cv), (6, .pointer (some ⟨bP, 0, none⟩)), (8, .bool r.2.2), (9, .bool (Vd.alikeV (vs.take i) w.vd)), (10, .int .i64 (((vs.take i).countP fun x => (Vd.endV q x.vd).2 : Nat))), (11, .int .i64 (i : Nat))]) (fun _ => (bP, Obj.cells #[.int .u8 r.1.code, .slice a1P r.1.sets.length c1P, .slice a2P r.1.soa.length c2P] 42 (0, 0)) :: (B2P ++ (B1P ++ (NP ++ ([(bv, Obj.cells cur 63 (0, 0))] ++ (Kv ++ ((bQ, Obj.cells #[.string (bs q.name), .int .u16 q.kind, .int .u16 q.cls] 34 (0, 0)) :: L))))))) (fun i => vs.length - i) 0 (Nat.zero_le _) ?_ (fun w h => h) ?_
  (repeat ((first | exact trivial | refine ⟨rfl, ?_⟩)))
  rintro i hi
  have hcnt : (vs.take i).countP (fun x => (Vd.endV q x.vd).2) ≤ 60 := Nat.le_trans List.countP_le_length (by rw [List.length_take]; omega)
  by_cases hil : i < vs.length
  · obtain ⟨x, hx⟩ : ∃ x, vs[i]? = some x := ⟨_, List.getElem?_eq_getElem hil⟩
    have htk : vs.take (i + 1) = vs.take i ++ [x] := by rw [List.take_add_one, hx]; rfl
    have hal : Vd.alikeV (vs.take (i + 1)) w.vd = (Vd.alikeV (vs.take i) w.vd && decide (x.vd = w.vd)) := by rw [htk]; exact alikeV_snoc _ _ _
    have hct := count_take hx (fun x => (Vd.endV q x.vd).2)
    obtain ⟨x1, xc1, x2, xc2, gx, hx1, hx2, hx3, hxd⟩ := hget i x hx
    repeat ((first | with_reducible refine T_seq ?_ | with_reducible refine T_block ?_ | with_reducible refine T_region ?_ | with_reducible refine TL_nil ?_ | with_reducible refine TQ_then ?_ | with_reducible refine T_skip ?_ | refine TL_q (op_move rfl) rfl ?_ | (refine' TL_q (op_bin rfl rfl ?_) rfl ?_; rotate_left 1; (· (exact bin_lss))) | refine TL_q (op_len_slice rfl Try.underlying50) rfl ?_ | (refine T_yes rfl ?_ ?_; (· (exact dT (by (omega)))))))
    have hKm : ∀ z ∈ [(bQ, Obj.cells #[.string (bs q.name), .int .u16 q.kind, .int .u16 q.cls] 34 (0, 0)), (bv, Obj.cells cur 63 (0, 0))], z ∈ (bP, Obj.cells #[.int .u8 r.1.code, .slice a1P r.1.sets.length c1P, .slice a2P r.1.soa.length c2P] 42 (0, 0)) :: (B2P ++ (B1P ++ (NP ++ ([(bv, Obj.cells cur 63 (0, 0))] ++ (Kv ++ ((bQ, Obj.cells #[.string (bs q.name), .int .u16 q.kind, .int .u16 q.cls] 34 (0, 0)) :: L)))))) := by
      intro z hz
      simp only [List.mem_cons, List.not_mem_nil, or_false] at hz
      rcases hz with rfl | rfl <;> simp
    refine T_midK (σ := Option Addr × Nat × Blocks × Nat) (fun y => ORow strR 9 1 [] y.1 y.2.1 (Vd.endV q x.vd).1.data y.2.2.1 ∧ rsR y.2.2.1 [.string (bs (Vd.endV q x.vd).1.name), .int .u16 (Vd.endV q x.vd).1.kind, .int .u16 (Vd.endV q x.vd).1.cls, .int .u32 (Vd.endV q x.vd).1.ttl, .slice y.1 (Vd.endV q x.vd).1.data.length y.2.1] (Vd.endV q x.vd).1)
      (fun y => [(2, .pointer (some ⟨bQ, 0, none⟩)), (5, .slice (some ⟨bv, 0, none⟩) vs.length cv), (6, .pointer (some ⟨bP, 0, none⟩)), (8, .bool r.2.2), (9, .bool (Vd.alikeV (vs.take i) w.vd)), (10, .int .i64 (((vs.take i).countP fun x => (Vd.endV q x.vd).2 : Nat))), (11, .int .i64 (i : Nat)), (12, .pointer (some ⟨y.2.2.2, 0, none⟩)), (13, .bool (Vd.endV q x.vd).2)])
      (fun y => (y.2.2.2, Obj.cells #[.string (bs (Vd.endV q x.vd).1.name), .int .u16 (Vd.endV q x.vd).1.kind, .int .u16 (Vd.endV q x.vd).1.cls, .int .u32 (Vd.endV q x.vd).1.ttl, .slice y.1 (Vd.endV q x.vd).1.data.length y.2.1] 60 (0, 0)) :: (y.2.2.1 ++ ((bP, Obj.cells #[.int .u8 r.1.code, .slice a1P r.1.sets.length c1P, .slice a2P r.1.soa.length c2P] 42 (0, 0)) :: (B2P ++ (B1P ++ (NP ++ ([(bv, Obj.cells cur 63 (0, 0))] ++ (Kv ++ ((bQ, Obj.cells #[.string (bs q.name), .int .u16 q.kind, .int .u16 q.cls] 34 (0, 0)) :: L))))))))) ?_ ?_
    · skip
      refine T_draw follows_mixed ([(bQ, Obj.cells #[.string (bs q.name), .int .u16 q.kind, .int .u16 q.cls] 34 (0, 0)), (bv, Obj.cells cur 63 (0, 0))]) [] ?_
      (refine' TA_take 0 rfl rfl (by kernel_rfl) (quiet_q (op_ldAll rfl st_34 ?_ ?_)) ?_ ?_; rotate_left 3; (· repeat ((exact List.mem_cons_self))); (· (rfl)); (· (assumption)))
      (refine' TA_take 1 rfl rfl (by kernel_rfl) (quiet_q (op_move rfl)) ?_ ?_; (· (assumption)))
      (refine' TA_take 2 rfl rfl (by kernel_rfl) (quiet_q (op_move rfl)) ?_ ?_; (· (assumption)))
      (refine' TA_take 3 rfl rfl (by kernel_rfl) (quiet_q (op_idx ety_50 rfl rfl ?_)) ?_ ?_; (· omega); (· (assumption)))
      (refine' TA_take 4 rfl rfl (by kernel_rfl) (quiet_q (op_fld rfl fld_63_1)) ?_ ?_; (· (assumption)))
      (refine' TA_take 5 rfl rfl (by kernel_rfl) (quiet_q (op_ldA [.int .u8 x.vd.code, .slice x1 x.vd.sets.length xc1, .slice x2 x.vd.soa.length xc2] rfl st_42 (List.mem_cons_of_mem _ (List.mem_cons_self ..)) gx)) ?_ ?_; (· (assumption)))
      refine TA_two 6 10 (by kernel_rfl) ?_ ?_
      · refine Up_ofD rfl rfl rfl rfl (op_call hb_26 rfl (pEnd_S x.vd q x1 x2 xc1 xc2 (mono_slice mono_set _ _ _ _ (mem_of_cnt (by intro p; (try simp only [cnt_append, cnt_cons, cnt_nil]) <;> omega)) hx1) (fun s hs => Nat.le_trans (hxd s hs) (by decide)))) ?_
        rintro _ _ ⟨aeE, ceE, BeE, rfl, hEE, rfl, hE2E⟩
        refine ⟨Or.inr (by (exact (fun z hz => mem_of_cnt (by intro p; (try simp only [cnt_append, cnt_cons, cnt_nil]) <;> omega) z (hKm z hz)))), ?_⟩
        (refine' TA_take 7 rfl rfl (by kernel_rfl) (quiet_q (op_move rfl)) ?_ ?_; (· (intro p hp; grind)))
        (refine' TA_take 8 rfl rfl (by kernel_rfl) (quiet_q (op_extract rfl rfl)) ?_ ?_; (· (intro p hp; grind)))
        (refine' TA_take 9 rfl rfl (by kernel_rfl) (quiet_q (op_extract rfl rfl)) ?_ ?_; (· (intro p hp; grind)))
        refine TA_oneD 10 (by kernel_rfl) rfl rfl rfl rfl (op_alloc (C := #[.string (bs []), .int .u16 0, .int .u16 0, .int .u32 0, .slice none 0 0]) zero_60 rfl) ?_
        rintro _ _ ⟨beE, rfl, rfl⟩
        refine ⟨Or.inr (by (exact (fun z hz => mem_of_cnt (by intro p; (try simp only [cnt_append, cnt_cons, cnt_nil]) <;> omega) z (hKm z hz)))), ?_⟩
        refine TA_cnt (L' := (beE, Obj.cells #[.string (bs []), .int .u16 0, .int .u16 0, .int .u32 0, .slice none 0 0] 60 (0, 0)) :: (BeE ++ ((bP, Obj.cells #[.int .u8 r.1.code, .slice a1P r.1.sets.length c1P, .slice a2P r.1.soa.length c2P] 42 (0, 0)) :: (B2P ++ (B1P ++ (NP ++ ([(bv, Obj.cells cur 63 (0, 0))] ++ (Kv ++ ((bQ, Obj.cells #[.string (bs q.name), .int .u16 q.kind, .int .u16 q.cls] 34 (0, 0)) :: L))))))))) ?_ (by intro p; (try simp only [cnt_append, cnt_cons, cnt_nil]) <;> omega)
        refine TA_oneN 11 (by kernel_rfl) rfl rfl rfl (op_stAll rfl rfl st_60 rfl rfl rfl) ?_
        rintro _ _ ⟨_, rfl⟩
        refine ⟨Or.inr (by (exact (fun z hz => mem_of_cnt (by intro p; (try simp only [cnt_append, cnt_cons, cnt_nil]) <;> omega) z (hKm z hz)))), ?_⟩
        (refine' TA_take 12 rfl rfl (by kernel_rfl) (quiet_q (op_assign rfl)) ?_ ?_; (· (intro p hp; grind)))
        refine TA_done (by kernel_rfl) ?_
        refine TQ_mid (aeE, ceE, BeE, beE) ⟨hEE, hE2E⟩ ?_ (fun w h => h)
        (repeat ((first | exact trivial | refine ⟨rfl, ?_⟩)))
      · refine Up_ofD rfl rfl rfl rfl (op_alloc (C := #[.string (bs []), .int .u16 0, .int .u16 0, .int .u32 0, .slice none 0 0]) zero_60 rfl) ?_
        rintro _ _ ⟨beE, rfl, rfl⟩
        refine ⟨Or.inr (by (exact (fun z hz => mem_of_cnt (by intro p; (try simp only [cnt_append, cnt_cons, cnt_nil]) <;> omega) z (hKm z hz)))), ?_⟩
        refine TA_oneD 6 (by kernel_rfl) rfl rfl rfl rfl (op_call hb_26 rfl (pEnd_S x.vd q x1 x2 xc1 xc2 (mono_slice mono_set _ _ _ _ (mem_of_cnt (by intro p; (try simp only [cnt_append, cnt_cons, cnt_nil]) <;> omega)) hx1) (fun s hs => Nat.le_trans (hxd s hs) (by decide)))) ?_
        rintro _ _ ⟨aeE, ceE, BeE, rfl, hEE, rfl, hE2E⟩
        refine ⟨Or.inr (by (exact (fun z hz => mem_of_cnt (by intro p; (try simp only [cnt_append, cnt_cons, cnt_nil]) <;> omega) z (hKm z hz)))), ?_⟩
        (refine' TA_take 7 rfl rfl (by kernel_rfl) (quiet_q (op_move rfl)) ?_ ?_; (· (intro p hp; grind)))
        (refine' TA_take 8 rfl rfl (by kernel_rfl) (quiet_q (op_extract rfl rfl)) ?_ ?_; (· (intro p hp; grind)))
        (refine' TA_take 9 rfl rfl (by kernel_rfl) (quiet_q (op_extract rfl rfl)) ?_ ?_; (· (intro p hp; grind)))
        refine TA_cnt (L' := (beE, Obj.cells #[.string (bs []), .int .u16 0, .int .u16 0, .int .u32 0, .slice none 0 0] 60 (0, 0)) :: (BeE ++ ((bP, Obj.cells #[.int .u8 r.1.code, .slice a1P r.1.sets.length c1P, .slice a2P r.1.soa.length c2P] 42 (0, 0)) :: (B2P ++ (B1P ++ (NP ++ ([(bv, Obj.cells cur 63 (0, 0))] ++ (Kv ++ ((bQ, Obj.cells #[.string (bs q.name), .int .u16 q.kind, .int .u16 q.cls] 34 (0, 0)) :: L))))))))) ?_ (by intro p; (try simp only [cnt_append, cnt_cons, cnt_nil]) <;> omega)
        refine TA_oneN 11 (by kernel_rfl) rfl rfl rfl (op_stAll rfl rfl st_60 rfl rfl rfl) ?_
        rintro _ _ ⟨_, rfl⟩
        refine ⟨Or.inr (by (exact (fun z hz => mem_of_cnt (by intro p; (try simp only [cnt_append, cnt_cons, cnt_nil]) <;> omega) z (hKm z hz)))), ?_⟩
        (refine' TA_take 12 rfl rfl (by kernel_rfl) (quiet_q (op_assign rfl)) ?_ ?_; (· (intro p hp; grind)))
        refine TA_done (by kernel_rfl) ?_
        refine TQ_mid (aeE, ceE, BeE, beE) ⟨hEE, hE2E⟩ ?_ (fun w h => h)
        (repeat ((first | exact trivial | refine ⟨rfl, ?_⟩)))
    rintro ⟨aeE, ceE, BeE, beE⟩ ⟨hEE, hE2E⟩
    dsimp only at hEE hE2E ⊢
    clear hKm
    have hvX : vdR ((beE, Obj.cells #[.string (bs (Vd.endV q x.vd).1.name), .int .u16 (Vd.endV q x.vd).1.kind, .int .u16 (Vd.endV q x.vd).1.cls, .int .u32 (Vd.endV q x.vd).1.ttl, .slice aeE (Vd.endV q x.vd).1.data.length ceE] 60 (0, 0)) :: (BeE ++ ((bP, Obj.cells #[.int .u8 r.1.code, .slice a1P r.1.sets.length c1P, .slice a2P r.1.soa.length c2P] 42 (0, 0)) :: (B2P ++ (B1P ++ (NP ++ ([(bv, Obj.cells cur 63 (0, 0))] ++ (Kv ++ ((bQ, Obj.cells #[.string (bs q.name), .int .u16 q.kind, .int .u16 q.cls] 34 (0, 0)) :: L))))))))) [.int .u8 x.vd.code, .slice x1 x.vd.sets.length xc1, .slice x2 x.vd.soa.length xc2] x.vd := ⟨_, _, rfl, mono_slice mono_set _ _ _ _ (mem_of_cnt (by intro p; (try simp only [cnt_append, cnt_cons, cnt_nil]) <;> omega)) hx1, mono_slice mono_set _ _ _ _ (mem_of_cnt (by intro p; (try simp only [cnt_append, cnt_cons, cnt_nil]) <;> omega)) hx2, hx3⟩
    have hvW : vdR ((beE, Obj.cells #[.string (bs (Vd.endV q x.vd).1.name), .int .u16 (Vd.endV q x.vd).1.kind, .int .u16 (Vd.endV q x.vd).1.cls, .int .u32 (Vd.endV q x.vd).1.ttl, .slice aeE (Vd.endV q x.vd).1.data.length ceE] 60 (0, 0)) :: (BeE ++ ((bP, Obj.cells #[.int .u8 r.1.code, .slice a1P r.1.sets.length c1P, .slice a2P r.1.soa.length c2P] 42 (0, 0)) :: (B2P ++ (B1P ++ (NP ++ ([(bv, Obj.cells cur 63 (0, 0))] ++ (Kv ++ ((bQ, Obj.cells #[.string (bs q.name), .int .u16 q.kind, .int .u16 q.cls] 34 (0, 0)) :: L))))))))) [.int .u8 w.vd.code, .slice w1 w.vd.sets.length wc1, .slice w2 w.vd.soa.length wc2] w.vd := ⟨_, _, rfl, mono_slice mono_set _ _ _ _ (mem_of_cnt (by intro p; (try simp only [cnt_append, cnt_cons, cnt_nil]) <;> omega)) hw1, mono_slice mono_set _ _ _ _ (mem_of_cnt (by intro p; (try simp only [cnt_append, cnt_cons, cnt_nil]) <;> omega)) hw2, hw3⟩
    have hK : ∀ z ∈ (beE, Obj.cells #[.string (bs (Vd.endV q x.vd).1.name), .int .u16 (Vd.endV q x.vd).1.kind, .int .u16 (Vd.endV q x.vd).1.cls, .int .u32 (Vd.endV q x.vd).1.ttl, .slice aeE (Vd.endV q x.vd).1.data.length ceE] 60 (0, 0)) :: (BeE ++ ((bP, Obj.cells #[.int .u8 r.1.code, .slice a1P r.1.sets.length c1P, .slice a2P r.1.soa.length c2P] 42 (0, 0)) :: (B2P ++ (B1P ++ (NP ++ ([(bv, Obj.cells cur 63 (0, 0))] ++ (Kv ++ ((bQ, Obj.cells #[.string (bs q.name), .int .u16 q.kind, .int .u16 q.cls] 34 (0, 0)) :: L)))))))), z ∈ (beE, Obj.cells #[.string (bs (Vd.endV q x.vd).1.name), .int .u16 (Vd.endV q x.vd).1.kind, .int .u16 (Vd.endV q x.vd).1.cls, .int .u32 (Vd.endV q x.vd).1.ttl, .slice aeE (Vd.endV q x.vd).1.data.length ceE] 60 (0, 0)) :: (BeE ++ ((bP, Obj.cells #[.int .u8 r.1.code, .slice a1P r.1.sets.length c1P, .slice a2P r.1.soa.length c2P] 42 (0, 0)) :: (B2P ++ (B1P ++ (NP ++ ([(bv, Obj.cells cur 63 (0, 0))] ++ (Kv ++ ((bQ, Obj.cells #[.string (bs q.name), .int .u16 q.kind, .int .u16 q.cls] 34 (0, 0)) :: L)))))))) := fun z h => h
    repeat ((with_reducible refine T_seq ?_))
    refine T_midK (σ := Unit) (fun _ => True) (fun _ => [(2, .pointer (some ⟨bQ, 0, none⟩)), (5, .slice (some ⟨bv, 0, none⟩) vs.length cv), (6, .pointer (some ⟨bP, 0, none⟩)), (8, .bool r.2.2), (9, .bool (Vd.alikeV (vs.take i) w.vd && decide (x.vd = w.vd))), (10, .int .i64 (((vs.take i).countP fun x => (Vd.endV q x.vd).2 : Nat))), (11, .int .i64 (i : Nat)), (13, .bool (Vd.endV q x.vd).2)]) (fun _ => (bP, Obj.cells #[.int .u8 r.1.code, .slice a1P r.1.sets.length c1P, .slice a2P r.1.soa.length c2P] 42 (0, 0)) :: (B2P ++ (B1P ++ (NP ++ ([(bv, Obj.cells cur 63 (0, 0))] ++ (Kv ++ ((bQ, Obj.cells #[.string (bs q.name), .int .u16 q.kind, .int .u16 q.cls] 34 (0, 0)) :: L))))))) ?_ ?_
    · cases hA : Vd.alikeV (vs.take i) w.vd with
      | true =>
        refine T_draw follows_mixed ((beE, Obj.cells #[.string (bs (Vd.endV q x.vd).1.name), .int .u16 (Vd.endV q x.vd).1.kind, .int .u16 (Vd.endV q x.vd).1.cls, .int .u32 (Vd.endV q x.vd).1.ttl, .slice aeE (Vd.endV q x.vd).1.data.length ceE] 60 (0, 0)) :: (BeE ++ ((bP, Obj.cells #[.int .u8 r.1.code, .slice a1P r.1.sets.length c1P, .slice a2P r.1.soa.length c2P] 42 (0, 0)) :: (B2P ++ (B1P ++ (NP ++ ([(bv, Obj.cells cur 63 (0, 0))] ++ (Kv ++ ((bQ, Obj.cells #[.string (bs q.name), .int .u16 q.kind, .int .u16 q.cls] 34 (0, 0)) :: L))))))))) [] ?_
        (refine' TA_take 0 rfl rfl (by kernel_rfl) (quiet_q (op_move rfl)) ?_ ?_; (· (assumption)))
        (refine' TA_take 1 rfl rfl (by kernel_rfl) (quiet_q (op_move rfl)) ?_ ?_; (· (assumption)))
        (refine' TA_take 2 rfl rfl (by kernel_rfl) (quiet_g2 rfl rfl (by (with_reducible rfl)) (op_move rfl)) ?_ ?_; (· (assumption)))
        (refine' TA_take 3 rfl rfl (by kernel_rfl) (quiet_g2 rfl rfl (by (with_reducible rfl)) (op_move rfl)) ?_ ?_; (· (assumption)))
        (refine' TA_take 4 rfl rfl (by kernel_rfl) (quiet_g2 rfl rfl (by (with_reducible rfl)) (op_idx ety_50 rfl rfl ?_)) ?_ ?_; (· omega); (· (assumption)))
        (refine' TA_take 5 rfl rfl (by kernel_rfl) (quiet_g2 rfl rfl (by (with_reducible rfl)) (op_fld rfl fld_63_1)) ?_ ?_; (· (assumption)))
        (refine' TA_take 7 rfl rfl (by kernel_rfl) (quiet_g2 rfl rfl (by (with_reducible rfl)) (op_move rfl)) ?_ ?_; (· (assumption)))
        (refine' TA_take 8 rfl rfl (by kernel_rfl) (quiet_g2 rfl rfl (by (with_reducible rfl)) (op_idxI ety_50 rfl rfl ?_ ?_)) ?_ ?_; (· omega); (· omega); (· (assumption)))
        (refine' TA_take 9 rfl rfl (by kernel_rfl) (quiet_g2 rfl rfl (by (with_reducible rfl)) (op_fld rfl fld_63_1)) ?_ ?_; (· (assumption)))
        -- SEVERAL: [6, 10]
        (refine TA_take 6 rfl rfl (by kernel_rfl) (quiet_g2 rfl rfl (by (with_reducible rfl)) (op_ldA [.int .u8 x.vd.code, .slice x1 x.vd.sets.length xc1, .slice x2 x.vd.soa.length xc2] rfl st_42 (by repeat ((first | exact List.mem_cons_self | apply List.mem_cons_of_mem | apply List.mem_append_right))) gx)) ?_ ?_; (· exact hK))
        (refine TA_take 10 rfl rfl (by kernel_rfl) (quiet_g2 rfl rfl (by (with_reducible rfl)) (op_ldA [.int .u8 w.vd.code, .slice w1 w.vd.sets.length wc1, .slice w2 w.vd.soa.length wc2] rfl st_42 (by repeat ((first | exact List.mem_cons_self | apply List.mem_cons_of_mem | apply List.mem_append_right))) gw)) ?_ ?_; (· exact hK))
        (refine TA_take 11 rfl rfl (by kernel_rfl) (quiet_callG2 rfl rfl (by (with_reducible rfl)) hb_27 rfl (fun _ hk => pSame_S _ _ _ _ (mono_vd _ _ _ _ hk hvX) (mono_vd _ _ _ _ hk hvW))) ?_ ?_; (· exact hK))
        (refine' TA_take 12 rfl rfl (by kernel_rfl) (quiet_q (op_pickT rfl ?_ rfl)) ?_ ?_; (· (with_reducible rfl)); (· (assumption)))
        (refine' TA_take 13 rfl rfl (by kernel_rfl) (quiet_q (op_assign rfl)) ?_ ?_; (· (assumption)))
        refine TA_done (by kernel_rfl) ?_
        refine TQ_mid () trivial ?_ (fun w h => h.cnt (by intro p; (try simp only [cnt_append, cnt_cons, cnt_nil]) <;> omega))
        (repeat (first | exact trivial | refine ⟨rfl, ?_⟩))
      | false =>
        refine T_draw follows_mixed ((beE, Obj.cells #[.string (bs (Vd.endV q x.vd).1.name), .int .u16 (Vd.endV q x.vd).1.kind, .int .u16 (Vd.endV q x.vd).1.cls, .int .u32 (Vd.endV q x.vd).1.ttl, .slice aeE (Vd.endV q x.vd).1.data.length ceE] 60 (0, 0)) :: (BeE ++ ((bP, Obj.cells #[.int .u8 r.1.code, .slice a1P r.1.sets.length c1P, .slice a2P r.1.soa.length c2P] 42 (0, 0)) :: (B2P ++ (B1P ++ (NP ++ ([(bv, Obj.cells cur 63 (0, 0))] ++ (Kv ++ ((bQ, Obj.cells #[.string (bs q.name), .int .u16 q.kind, .int .u16 q.cls] 34 (0, 0)) :: L))))))))) [] ?_
        (refine' TA_take 0 rfl rfl (by kernel_rfl) (quiet_q (op_move rfl)) ?_ ?_; (· (assumption)))
        (refine' TA_take 1 rfl rfl (by kernel_rfl) (quiet_q (op_move rfl)) ?_ ?_; (· (assumption)))
        (refine TA_take 2 rfl rfl (by kernel_rfl) (quiet_no2 rfl rfl ?_) ?_ ?_; (· (exact Bool.not_true)); (· (assumption)))
        (refine TA_take 3 rfl rfl (by kernel_rfl) (quiet_no2 rfl rfl ?_) ?_ ?_; (· (exact Bool.not_true)); (· (assumption)))
        (refine TA_take 4 rfl rfl (by kernel_rfl) (quiet_no2 rfl rfl ?_) ?_ ?_; (· (exact Bool.not_true)); (· (assumption)))
        (refine TA_take 5 rfl rfl (by kernel_rfl) (quiet_no2 rfl rfl ?_) ?_ ?_; (· (exact Bool.not_true)); (· (assumption)))
        (refine TA_take 7 rfl rfl (by kernel_rfl) (quiet_no2 rfl rfl ?_) ?_ ?_; (· (exact Bool.not_true)); (· (assumption)))
        (refine TA_take 8 rfl rfl (by kernel_rfl) (quiet_no2 rfl rfl ?_) ?_ ?_; (· (exact Bool.not_true)); (· (assumption)))
        (refine TA_take 9 rfl rfl (by kernel_rfl) (quiet_no2 rfl rfl ?_) ?_ ?_; (· (exact Bool.not_true)); (· (assumption)))
        -- SEVERAL: [6, 10]
        (refine TA_take 6 rfl rfl (by kernel_rfl) (quiet_no2 rfl rfl ?_) ?_ ?_; (· (exact Bool.not_true)); (· exact hK))
        (refine TA_take 10 rfl rfl (by kernel_rfl) (quiet_no2 rfl rfl ?_) ?_ ?_; (· (exact Bool.not_true)); (· exact hK))
        (refine TA_take 11 rfl rfl (by kernel_rfl) (quiet_no2 rfl rfl ?_) ?_ ?_; (· (exact Bool.not_true)); (· exact hK))
        (refine' TA_take 12 rfl rfl (by kernel_rfl) (quiet_q (op_pickF rfl ?_ rfl)) ?_ ?_; (· (with_reducible rfl)); (· (assumption)))
        (refine' TA_take 13 rfl rfl (by kernel_rfl) (quiet_q (op_assign rfl)) ?_ ?_; (· (assumption)))
        refine TA_done (by kernel_rfl) ?_
        refine TQ_mid () trivial ?_ (fun w h => h.cnt (by intro p; (try simp only [cnt_append, cnt_cons, cnt_nil]) <;> omega))
        (repeat ((first | exact trivial | refine ⟨rfl, ?_⟩)))
    rintro _ _
    clear hK hvX hvW
    cases he : (Vd.endV q x.vd).2 with
    | true =>
      rw [he] at hct
      repeat ((first | with_reducible refine T_seq ?_ | with_reducible refine T_region ?_ | with_reducible refine TL_nil ?_ | with_reducible refine TQ_then ?_ | with_reducible refine TQ_block ?_ | refine TL_q (op_move rfl) rfl ?_ | refine TL_q (op_assign rfl) rfl ?_ | (refine' TL_q (op_bin rfl rfl ?_) rfl ?_; rotate_left 1; (· (exact bin_add ⟨by omega, by omega⟩))) | (refine T_yes rfl ?_ ?_; (· (with_reducible rfl)))))
      refine TQ_roundS (i + 1) hil ?_ (fun w h => h) (by omega)
      rw [hal, hct]
      (repeat (first | exact trivial | refine ⟨rfl, ?_⟩))
    | false =>
      rw [he] at hct
      repeat ((first | with_reducible refine T_seq ?_ | with_reducible refine T_region ?_ | with_reducible refine TL_nil ?_ | with_reducible refine TQ_then ?_ | with_reducible refine TQ_block ?_ | with_reducible refine T_skip ?_ | refine TL_q (op_move rfl) rfl ?_ | refine TL_q (op_assign rfl) rfl ?_ | (refine' TL_q (op_bin rfl rfl ?_) rfl ?_; rotate_left 1; (· (exact bin_add ⟨by omega, by omega⟩))) | (refine T_no rfl ?_ ?_; (· (with_reducible rfl)))))
      refine TQ_roundS (i + 1) hil ?_ (fun w h => h) (by omega)
      rw [hal, hct]
      (repeat ((first | exact trivial | refine ⟨rfl, ?_⟩)))
  · have hie : i = vs.length := by omega
    subst hie
    rw [List.take_length] at hcnt ⊢
    have hsome : someEnd q vs = !decide (vs.countP (fun x => (Vd.endV q x.vd).2) = 0) := by
      unfold someEnd
      rw [Bool.eq_iff_iff, List.any_eq_true]
      simp only [Bool.not_eq_true', decide_eq_false_iff_not]
      rw [show (¬ vs.countP (fun x => (Vd.endV q x.vd).2) = 0) ↔ 0 < vs.countP (fun x => (Vd.endV q x.vd).2) from Nat.pos_iff_ne_zero.symm, List.countP_pos_iff]
    have hlen0 : vs.length ≠ 0 := fun e => h0 (List.eq_nil_of_length_eq_zero e)
    have hmay : r.2.2 = Nm.may q.name := by rw [his]; simp [hlen0]
    by_cases hgo : r.2.2 = true ∧ Vd.alikeV vs w.vd = false ∧ vs.countP (fun x => (Vd.endV q x.vd).2) ≠ 0
    · obtain ⟨hg1, hg2, hg3⟩ := hgo
      rw [hg1, hg2]
      have hg3' : ¬ ((vs.countP (fun x => (Vd.endV q x.vd).2) : Nat) : Int) = 0 := by omega
      obtain ⟨D, hD⟩ : ∃ D, Lib.compact ((endsAll q vs).mergeSort fun x y => decide (x ≤ y)) = D := ⟨_, rfl⟩
      obtain ⟨hrise, hmemD⟩ := ends_data q vs
      have hDlen := compact_len ((endsAll q vs).mergeSort fun x y => decide (x ≤ y))
      rw [List.length_mergeSort] at hDlen
      have hel := endsAll_len q 420 vs (fun x hx => ((hvm x hx).ends q).1) vs.length (Nat.le_refl _)
      rw [List.take_length] at hel
      have hel2 : (endsAll q vs).length ≤ 25200 := Nat.le_trans hel (Nat.mul_le_mul_right 420 (show vs.length ≤ 60 by omega))
      rw [hD] at hrise hmemD hDlen
      have hr1 : r.1 = ⟨0, [⟨Nm.fold q.name, q.kind, q.cls, 0, D⟩], []⟩ := by rw [← hr, ← hD]; exact unionP_ends q (by rw [List.head?_eq_getElem?]; exact hw0) (by rw [← hmay]; exact hg1) hg2 (by rw [hsome]; simpa using hg3)
      have hEnd : Vd.endV q r.1 = (⟨Nm.fold q.name, q.kind, q.cls, 0, D⟩, true) := by rw [hr1]; unfold Vd.endV; simp
      repeat ((first | with_reducible refine T_seq ?_ | with_reducible refine T_region ?_ | with_reducible refine TL_nil ?_ | with_reducible refine TQ_then ?_ | with_reducible refine T_skip ?_ | with_reducible refine T_exit ?_ | with_reducible refine TQ_then_exit ?_ | with_reducible refine TQ_block_exit ?_ | refine TL_q (op_move rfl) rfl ?_ | (refine' TL_q (op_bin rfl rfl ?_) rfl ?_; rotate_left 1; (· (exact bin_lss))) | refine TL_q (op_not rfl) rfl ?_ | (refine' TL_q (op_pickF rfl ?_ rfl) rfl ?_; (· (first | with_reducible rfl | exact Bool.not_true))) | refine TL_q (op_len_slice rfl Try.underlying50) rfl ?_ | (refine' TL_q (op_ldAll rfl st_34 ?_ ?_) rfl ?_; rotate_left 3; (· repeat ((first | exact List.mem_cons_self | apply List.mem_cons_of_mem | apply List.mem_append_right))); (· (rfl))) | (refine TL_gpre rfl rfl ?_ ?_; (· (first | with_reducible rfl | exact Bool.not_true))) | refine TL_gq2 (op_move rfl) rfl ?_ | (refine' TL_gq2 (op_bin rfl rfl ?_) rfl ?_; rotate_left 1; (· (exact bin_eql))) | (refine T_no rfl ?_ ?_; (· (exact dF (by (first | assumption | omega)))))))
      refine TL_opT (op_call hb_26 rfl (pEnd_S r.1 q a1P a2P c1P c2P (hB1P.sliceR mono_set (mem_of_cnt (by intro p; (try simp only [cnt_append, cnt_cons, cnt_nil]) <;> omega)) (mem_of_cnt (by intro p; (try simp only [cnt_append, cnt_cons, cnt_nil]) <;> omega))) (fun s hs => by rw [hr1] at hs; rw [List.mem_singleton.1 hs]; show D.length ≤ 100000; omega))) rfl ?_
      rintro _ _ ⟨aD, cD, BD, rfl, hDr, rfl, hDs⟩
      rw [hEnd] at hDr hDs ⊢
      dsimp only at hDr hDs ⊢
      repeat ((first | with_reducible refine T_seq ?_ | with_reducible refine TL_nil ?_ | with_reducible refine TQ_then ?_ | refine TL_q (op_move rfl) rfl ?_ | refine TL_q (op_assign rfl) rfl ?_ | refine TL_q (op_extract rfl rfl) rfl ?_ | (refine TL_stAll rfl rfl st_60 rfl rfl rfl ?_) | (refine TL_new (op_alloc (C := #[(.string (bs [])), (.int .u16 0), (.int .u16 0), (.int .u32 0), (.slice none 0 0)]) zero_60 rfl) rfl ?_; intro bNew)))
      obtain ⟨bS, hbS⟩ : ∃ b, bNew = b := ⟨_, rfl⟩
      rw [hbS]
      clear hbS bNew
      have c1 : r.1.code = 0 := by rw [hr1]
      have c2 : r.1.sets.length = 1 := by rw [hr1]; rfl
      have c3 : r.1.soa.length = 0 := by rw [hr1]; rfl
      have c2' : ((r.1.sets.length : Nat) : Int) = 1 := by omega
      have c3' : ((r.1.soa.length : Nat) : Int) = 0 := by omega
      have hK : ∀ z ∈ (bS, Obj.cells #[.string (bs (Nm.fold q.name)), .int .u16 q.kind, .int .u16 q.cls, .int .u32 0, .slice aD D.length cD] 60 (0, 0)) :: (BD ++ ((bP, Obj.cells #[.int .u8 r.1.code, .slice a1P r.1.sets.length c1P, .slice a2P r.1.soa.length c2P] 42 (0, 0)) :: (B2P ++ (B1P ++ (NP ++ ([(bv, Obj.cells cur 63 (0, 0))] ++ (Kv ++ ((bQ, Obj.cells #[.string (bs q.name), .int .u16 q.kind, .int .u16 q.cls] 34 (0, 0)) :: L)))))))), z ∈ (bS, Obj.cells #[.string (bs (Nm.fold q.name)), .int .u16 q.kind, .int .u16 q.cls, .int .u32 0, .slice aD D.length cD] 60 (0, 0)) :: (BD ++ ((bP, Obj.cells #[.int .u8 r.1.code, .slice a1P r.1.sets.length c1P, .slice a2P r.1.soa.length c2P] 42 (0, 0)) :: (B2P ++ (B1P ++ (NP ++ ([(bv, Obj.cells cur 63 (0, 0))] ++ (Kv ++ ((bQ, Obj.cells #[.string (bs q.name), .int .u16 q.kind, .int .u16 q.cls] 34 (0, 0)) :: L)))))))) := fun z h => h
      have hq1000 : q.name.length ≤ 1000000 := by omega
      refine T_draw follows_mixed ((bS, Obj.cells #[.string (bs (Nm.fold q.name)), .int .u16 q.kind, .int .u16 q.cls, .int .u32 0, .slice aD D.length cD] 60 (0, 0)) :: (BD ++ ((bP, Obj.cells #[.int .u8 r.1.code, .slice a1P r.1.sets.length c1P, .slice a2P r.1.soa.length c2P] 42 (0, 0)) :: (B2P ++ (B1P ++ (NP ++ ([(bv, Obj.cells cur 63 (0, 0))] ++ (Kv ++ ((bQ, Obj.cells #[.string (bs q.name), .int .u16 q.kind, .int .u16 q.cls] 34 (0, 0)) :: L))))))))) [] ?_
      (refine' TA_take 0 rfl rfl (by kernel_rfl) (quiet_q (op_move rfl)) ?_ ?_; (· (assumption)))
      (refine' TA_take 1 rfl rfl (by kernel_rfl) (quiet_q (op_not rfl)) ?_ ?_; (· (assumption)))
      (refine' TA_take 2 rfl rfl (by kernel_rfl) (quiet_q (op_move rfl)) ?_ ?_; (· (assumption)))
      (refine' TA_take 3 rfl rfl (by kernel_rfl) (quiet_g2 rfl rfl (by (exact Bool.not_true)) (op_fld rfl fld_42_0)) ?_ ?_; (· (assumption)))
      (refine' TA_take 4 rfl rfl (by kernel_rfl) (quiet_g2 rfl rfl (by (exact Bool.not_true)) (op_ld rfl pl_5 ?_ ?_)) ?_ ?_; rotate_left 4; (· repeat ((first | exact List.mem_cons_self | apply List.mem_cons_of_mem | apply List.mem_append_right))); (· (rfl)); (· (assumption)))
      (refine' TA_take 5 rfl rfl (by kernel_rfl) (quiet_g2 rfl rfl (by (exact Bool.not_true)) (op_bin rfl rfl ?_)) ?_ ?_; rotate_left 1; (· (exact bin_neq)); (· (assumption)))
      (refine' TA_take 6 rfl rfl (by kernel_rfl) (quiet_q (op_pickF rfl ?_ rfl)) ?_ ?_; (· (exact Bool.not_true)); (· (assumption)))
      (refine' TA_take 7 rfl rfl (by kernel_rfl) (quiet_q (op_move rfl)) ?_ ?_; (· (assumption)))
      (refine' TA_take 8 rfl rfl (by kernel_rfl) (quiet_g2 rfl rfl (by (exact nF (by (assumption)))) (op_fld rfl fld_42_1)) ?_ ?_; (· (assumption)))
      (refine' TA_take 9 rfl rfl (by kernel_rfl) (quiet_g2 rfl rfl (by (exact nF (by (assumption)))) (op_ld rfl pl_40 ?_ ?_)) ?_ ?_; rotate_left 4; (· repeat ((first | exact List.mem_cons_self | apply List.mem_cons_of_mem | apply List.mem_append_right))); (· (rfl)); (· (assumption)))
      (refine' TA_take 10 rfl rfl (by kernel_rfl) (quiet_g2 rfl rfl (by (exact nF (by (assumption)))) (op_len_slice rfl Try.underlying40)) ?_ ?_; (· (assumption)))
      (refine' TA_take 11 rfl rfl (by kernel_rfl) (quiet_g2 rfl rfl (by (exact nF (by (assumption)))) (op_bin rfl rfl ?_)) ?_ ?_; rotate_left 1; (· (exact bin_neq)); (· (assumption)))
      (refine' TA_take 12 rfl rfl (by kernel_rfl) (quiet_q (op_pickF rfl ?_ rfl)) ?_ ?_; (· (exact nF (by (assumption)))); (· (assumption)))
      (refine' TA_take 13 rfl rfl (by kernel_rfl) (quiet_q (op_move rfl)) ?_ ?_; (· (assumption)))
      (refine' TA_take 14 rfl rfl (by kernel_rfl) (quiet_g2 rfl rfl (by (exact nF (by (assumption)))) (op_fld rfl fld_42_2)) ?_ ?_; (· (assumption)))
      (refine' TA_take 15 rfl rfl (by kernel_rfl) (quiet_g2 rfl rfl (by (exact nF (by (assumption)))) (op_ld rfl pl_40 ?_ ?_)) ?_ ?_; rotate_left 4; (· repeat ((first | exact List.mem_cons_self | apply List.mem_cons_of_mem | apply List.mem_append_right))); (· (rfl)); (· (assumption)))
      (refine' TA_take 16 rfl rfl (by kernel_rfl) (quiet_g2 rfl rfl (by (exact nF (by (assumption)))) (op_len_slice rfl Try.underlying40)) ?_ ?_; (· (assumption)))
      (refine' TA_take 17 rfl rfl (by kernel_rfl) (quiet_g2 rfl rfl (by (exact nF (by (assumption)))) (op_bin rfl rfl ?_)) ?_ ?_; rotate_left 1; (· (exact bin_neq)); (· (assumption)))
      (refine' TA_take 18 rfl rfl (by kernel_rfl) (quiet_q (op_pickF rfl ?_ rfl)) ?_ ?_; (· (exact nF (by (assumption)))); (· (assumption)))
      (refine' TA_take 19 rfl rfl (by kernel_rfl) (quiet_q (op_move rfl)) ?_ ?_; (· (assumption)))
      (refine' TA_take 20 rfl rfl (by kernel_rfl) (quiet_g2 rfl rfl (by (exact nF (by (assumption)))) (op_fld rfl fld_60_0)) ?_ ?_; (· (assumption)))
      (refine' TA_take 21 rfl rfl (by kernel_rfl) (quiet_g2 rfl rfl (by (exact nF (by (assumption)))) (op_ld rfl pl_9 ?_ ?_)) ?_ ?_; rotate_left 4; (· repeat ((exact List.mem_cons_self))); (· (rfl)); (· (assumption)))
      (refine' TA_take 22 rfl rfl (by kernel_rfl) (quiet_g2 rfl rfl (by (exact nF (by (assumption)))) (op_fld rfl fld_34_0)) ?_ ?_; (· (assumption)))
      (refine' TA_take 23 rfl rfl (by kernel_rfl) (quiet_g2 rfl rfl (by (exact nF (by (assumption)))) (op_ld rfl pl_9 ?_ ?_)) ?_ ?_; rotate_left 4; (· repeat ((first | exact List.mem_cons_self | apply List.mem_cons_of_mem | apply List.mem_append_right))); (· (rfl)); (· (assumption)))
      (refine' TA_take 24 rfl rfl (by kernel_rfl) (quiet_callG2 rfl rfl (by (exact nF (by (assumption)))) hb_29 rfl (fun _ _ => Fold_S _ ?_)) ?_ ?_; (· (omega)); (· (assumption)))
      (refine' TA_take 25 rfl rfl (by kernel_rfl) (quiet_g2 rfl rfl (by (exact nF (by (assumption)))) (op_bin rfl rfl ?_)) ?_ ?_; rotate_left 1; (· (exact sbin_neq)); (· (assumption)))
      (refine' TA_take 26 rfl rfl (by kernel_rfl) (quiet_q (op_pickF rfl ?_ rfl)) ?_ ?_; (· (exact nF (by (assumption)))); (· (assumption)))
      (refine' TA_take 27 rfl rfl (by kernel_rfl) (quiet_q (op_move rfl)) ?_ ?_; (· (assumption)))
      (refine' TA_take 28 rfl rfl (by kernel_rfl) (quiet_g2 rfl rfl (by (exact nF (by (with_reducible rfl)))) (op_fld rfl fld_60_1)) ?_ ?_; (· (assumption)))
      (refine' TA_take 29 rfl rfl (by kernel_rfl) (quiet_g2 rfl rfl (by (exact nF (by (with_reducible rfl)))) (op_ld rfl pl_23 ?_ ?_)) ?_ ?_; rotate_left 4; (· repeat ((exact List.mem_cons_self))); (· (rfl)); (· (assumption)))
      (refine' TA_take 30 rfl rfl (by kernel_rfl) (quiet_g2 rfl rfl (by (exact nF (by (with_reducible rfl)))) (op_fld rfl fld_34_1)) ?_ ?_; (· (assumption)))
      (refine' TA_take 31 rfl rfl (by kernel_rfl) (quiet_g2 rfl rfl (by (exact nF (by (with_reducible rfl)))) (op_ld rfl pl_23 ?_ ?_)) ?_ ?_; rotate_left 4; (· repeat ((first | exact List.mem_cons_self | apply List.mem_cons_of_mem | apply List.mem_append_right))); (· (rfl)); (· (assumption)))
      (refine' TA_take 32 rfl rfl (by kernel_rfl) (quiet_g2 rfl rfl (by (exact nF (by (with_reducible rfl)))) (op_bin rfl rfl ?_)) ?_ ?_; rotate_left 1; (· (exact bin_neq)); (· (assumption)))
      (refine' TA_take 33 rfl rfl (by kernel_rfl) (quiet_q (op_pickF rfl ?_ rfl)) ?_ ?_; (· (exact nF (by (with_reducible rfl)))); (· (assumption)))
      (refine' TA_take 34 rfl rfl (by kernel_rfl) (quiet_q (op_move rfl)) ?_ ?_; (· (assumption)))
      (refine' TA_take 35 rfl rfl (by kernel_rfl) (quiet_g2 rfl rfl (by (exact nF (by (with_reducible rfl)))) (op_fld rfl fld_60_2)) ?_ ?_; (· (assumption)))
      (refine' TA_take 36 rfl rfl (by kernel_rfl) (quiet_g2 rfl rfl (by (exact nF (by (with_reducible rfl)))) (op_ld rfl pl_23 ?_ ?_)) ?_ ?_; rotate_left 4; (· repeat ((exact List.mem_cons_self))); (· (rfl)); (· (assumption)))
      (refine' TA_take 37 rfl rfl (by kernel_rfl) (quiet_g2 rfl rfl (by (exact nF (by (with_reducible rfl)))) (op_fld rfl fld_34_2)) ?_ ?_; (· (assumption)))
      (refine' TA_take 38 rfl rfl (by kernel_rfl) (quiet_g2 rfl rfl (by (exact nF (by (with_reducible rfl)))) (op_ld rfl pl_23 ?_ ?_)) ?_ ?_; rotate_left 4; (· repeat ((first | exact List.mem_cons_self | apply List.mem_cons_of_mem | apply List.mem_append_right))); (· (rfl)); (· (assumption)))
      (refine' TA_take 39 rfl rfl (by kernel_rfl) (quiet_g2 rfl rfl (by (exact nF (by (with_reducible rfl)))) (op_bin rfl rfl ?_)) ?_ ?_; rotate_left 1; (· (exact bin_neq)); (· (assumption)))
      (refine' TA_take 40 rfl rfl (by kernel_rfl) (quiet_q (op_pickF rfl ?_ rfl)) ?_ ?_; (· (exact nF (by (with_reducible rfl)))); (· (assumption)))
      (refine' TA_take 41 rfl rfl (by kernel_rfl) (quiet_q (op_move rfl)) ?_ ?_; (· (assumption)))
      (refine' TA_take 42 rfl rfl (by kernel_rfl) (quiet_g2 rfl rfl (by (exact nF (by (with_reducible rfl)))) (op_fld rfl fld_60_3)) ?_ ?_; (· (assumption)))
      (refine' TA_take 43 rfl rfl (by kernel_rfl) (quiet_g2 rfl rfl (by (exact nF (by (with_reducible rfl)))) (op_ld rfl pl_36 ?_ ?_)) ?_ ?_; rotate_left 4; (· repeat ((exact List.mem_cons_self))); (· (rfl)); (· (assumption)))
      (refine' TA_take 44 rfl rfl (by kernel_rfl) (quiet_g2 rfl rfl (by (exact nF (by (with_reducible rfl)))) (op_bin rfl rfl ?_)) ?_ ?_; rotate_left 1; (· (exact bin_neq)); (· (assumption)))
      (refine' TA_take 45 rfl rfl (by kernel_rfl) (quiet_q (op_pickF rfl ?_ rfl)) ?_ ?_; (· (exact nF (by (with_reducible rfl)))); (· (assumption)))
      refine TA_done (by kernel_rfl) ?_
      repeat ((first | with_reducible refine T_seq ?_ | with_reducible refine T_block ?_ | with_reducible refine T_region ?_ | with_reducible refine TL_nil ?_ | with_reducible refine TQ_then ?_ | with_reducible refine T_skip ?_ | refine TL_q (op_assign rfl) rfl ?_ | (refine T_no rfl ?_ ?_; (· (exact Bool.not_true)))))
      refine T_loopS (σ := Nat × Option Addr × Nat × Blocks) (fun y => y.1 ≤ vs.length ∧ ORow strR 9 1 [] y.2.1 y.2.2.1 (endsAll q (vs.take y.1)) y.2.2.2) (fun y => [(2, .pointer (some ⟨bQ, 0, none⟩)), (5, .slice (some ⟨bv, 0, none⟩) vs.length cv), (14, .pointer (some ⟨bS, 0, none⟩)), (16, .slice y.2.1 (endsAll q (vs.take y.1)).length y.2.2.1), (17, .int .i64 (y.1 : Nat))]) (fun y => y.2.2.2 ++ ((bS, Obj.cells #[.string (bs (Nm.fold q.name)), .int .u16 q.kind, .int .u16 q.cls, .int .u32 0, .slice aD D.length cD] 60 (0, 0)) :: (BD ++ ((bP, Obj.cells #[.int .u8 r.1.code, .slice a1P r.1.sets.length c1P, .slice a2P r.1.soa.length c2P] 42 (0, 0)) :: (B2P ++ (B1P ++ (NP ++ ([(bv, Obj.cells cur 63 (0, 0))] ++ (Kv ++ ((bQ, Obj.cells #[.string (bs q.name), .int .u16 q.kind, .int .u16 q.cls] 34 (0, 0)) :: L)))))))))) (fun y => vs.length - y.1) (0, none, 0, []) ⟨Nat.zero_le _, ORow.nil _⟩ ?_ (fun w h => h.cnt (by intro p; (try simp only [cnt_append, cnt_cons, cnt_nil]) <;> omega)) ?_
      (repeat ((first | exact trivial | refine ⟨rfl, ?_⟩)))
      rintro ⟨i, aO, cO, BO⟩ ⟨hi, hO⟩
      dsimp only at hi hO ⊢
      have hel3 := endsAll_len q 420 vs (fun x hx => ((hvm x hx).ends q).1) i hi
      have hel4 : (endsAll q (vs.take i)).length ≤ 25200 := Nat.le_trans hel3 (Nat.mul_le_mul_right 420 (show i ≤ 60 by omega))
      by_cases hil : i < vs.length
      · obtain ⟨x, hx⟩ : ∃ x, vs[i]? = some x := ⟨_, List.getElem?_eq_getElem hil⟩
        have htk := endsAll_take (q := q) hx
        have hxm := List.mem_of_getElem? hx
        obtain ⟨x1, xc1, x2, xc2, gx, hx1, hx2, hx3, hxd⟩ := hget i x hx
        have hxe := ((hvm x hxm).ends q)
        have hin : ∀ d ∈ endData q x, d ∈ D := fun d hd => (hmemD d).2 (List.mem_flatMap.2 ⟨x, hxm, hd⟩)
        have hdat : endData q x = (Vd.endV q x.vd).1.data := by
          unfold endData
          cases he : (Vd.endV q x.vd).2 with
          | true => rfl
          | false => rw [endV_no he]; rfl
        rw [hdat] at htk hin
        · skip
          repeat ((first | with_reducible refine T_seq ?_ | with_reducible refine T_block ?_ | with_reducible refine T_region ?_ | with_reducible refine TL_nil ?_ | with_reducible refine TQ_then ?_ | with_reducible refine T_skip ?_ | refine TL_q (op_move rfl) rfl ?_ | (refine' TL_q (op_bin rfl rfl ?_) rfl ?_; rotate_left 1; (· (exact bin_lss))) | refine TL_q (op_len_slice rfl Try.underlying50) rfl ?_ | (refine T_yes rfl ?_ ?_; (· (exact dT (by (omega)))))))
          have hKm : ∀ z ∈ [(bQ, Obj.cells #[.string (bs q.name), .int .u16 q.kind, .int .u16 q.cls] 34 (0, 0)), (bv, Obj.cells cur 63 (0, 0))], z ∈ BO ++ ((bS, Obj.cells #[.string (bs (Nm.fold q.name)), .int .u16 q.kind, .int .u16 q.cls, .int .u32 0, .slice aD D.length cD] 60 (0, 0)) :: (BD ++ ((bP, Obj.cells #[.int .u8 r.1.code, .slice a1P r.1.sets.length c1P, .slice a2P r.1.soa.length c2P] 42 (0, 0)) :: (B2P ++ (B1P ++ (NP ++ ([(bv, Obj.cells cur 63 (0, 0))] ++ (Kv ++ ((bQ, Obj.cells #[.string (bs q.name), .int .u16 q.kind, .int .u16 q.cls] 34 (0, 0)) :: L))))))))) := by
            intro z hz
            simp only [List.mem_cons, List.not_mem_nil, or_false] at hz
            rcases hz with rfl | rfl <;> simp
          refine T_midK (σ := Option Addr × Nat × Blocks × Nat) (fun y => ORow strR 9 1 [] y.1 y.2.1 (Vd.endV q x.vd).1.data y.2.2.1 ∧ rsR y.2.2.1 [.string (bs (Vd.endV q x.vd).1.name), .int .u16 (Vd.endV q x.vd).1.kind, .int .u16 (Vd.endV q x.vd).1.cls, .int .u32 (Vd.endV q x.vd).1.ttl, .slice y.1 (Vd.endV q x.vd).1.data.length y.2.1] (Vd.endV q x.vd).1)
            (fun y => [(2, .pointer (some ⟨bQ, 0, none⟩)), (5, .slice (some ⟨bv, 0, none⟩) vs.length cv), (14, .pointer (some ⟨bS, 0, none⟩)), (16, .slice aO (endsAll q (vs.take i)).length cO), (17, .int .i64 (i : Nat)), (18, .pointer (some ⟨y.2.2.2, 0, none⟩)), (19, .bool (Vd.endV q x.vd).2)])
            (fun y => (y.2.2.2, Obj.cells #[.string (bs (Vd.endV q x.vd).1.name), .int .u16 (Vd.endV q x.vd).1.kind, .int .u16 (Vd.endV q x.vd).1.cls, .int .u32 (Vd.endV q x.vd).1.ttl, .slice y.1 (Vd.endV q x.vd).1.data.length y.2.1] 60 (0, 0)) :: (y.2.2.1 ++ (BO ++ ((bS, Obj.cells #[.string (bs (Nm.fold q.name)), .int .u16 q.kind, .int .u16 q.cls, .int .u32 0, .slice aD D.length cD] 60 (0, 0)) :: (BD ++ ((bP, Obj.cells #[.int .u8 r.1.code, .slice a1P r.1.sets.length c1P, .slice a2P r.1.soa.length c2P] 42 (0, 0)) :: (B2P ++ (B1P ++ (NP ++ ([(bv, Obj.cells cur 63 (0, 0))] ++ (Kv ++ ((bQ, Obj.cells #[.string (bs q.name), .int .u16 q.kind, .int .u16 q.cls] 34 (0, 0)) :: L)))))))))))) ?_ ?_
          · skip
            refine T_draw follows_mixed ([(bQ, Obj.cells #[.string (bs q.name), .int .u16 q.kind, .int .u16 q.cls] 34 (0, 0)), (bv, Obj.cells cur 63 (0, 0))]) [] ?_
            (refine' TA_take 0 rfl rfl (by kernel_rfl) (quiet_q (op_ldAll rfl st_34 ?_ ?_)) ?_ ?_; rotate_left 3; (· repeat ((exact List.mem_cons_self))); (· (rfl)); (· (assumption)))
            (refine' TA_take 1 rfl rfl (by kernel_rfl) (quiet_q (op_move rfl)) ?_ ?_; (· (assumption)))
            (refine' TA_take 2 rfl rfl (by kernel_rfl) (quiet_q (op_move rfl)) ?_ ?_; (· (assumption)))
            (refine' TA_take 3 rfl rfl (by kernel_rfl) (quiet_q (op_idx ety_50 rfl rfl ?_)) ?_ ?_; (· omega); (· (assumption)))
            (refine' TA_take 4 rfl rfl (by kernel_rfl) (quiet_q (op_fld rfl fld_63_1)) ?_ ?_; (· (assumption)))
            (refine' TA_take 5 rfl rfl (by kernel_rfl) (quiet_q (op_ldA [.int .u8 x.vd.code, .slice x1 x.vd.sets.length xc1, .slice x2 x.vd.soa.length xc2] rfl st_42 (List.mem_cons_of_mem _ (List.mem_cons_self ..)) gx)) ?_ ?_; (· (assumption)))
            refine TA_two 6 10 (by kernel_rfl) ?_ ?_
            · refine Up_ofD rfl rfl rfl rfl (op_call hb_26 rfl (pEnd_S x.vd q x1 x2 xc1 xc2 (mono_slice mono_set _ _ _ _ (mem_of_cnt (by intro p; (try simp only [cnt_append, cnt_cons, cnt_nil]) <;> omega)) hx1) (fun s hs => Nat.le_trans (hxd s hs) (by decide)))) ?_
              rintro _ _ ⟨aeF, ceF, BeF, rfl, hEF, rfl, hE2F⟩
              refine ⟨Or.inr (by (exact (fun z hz => mem_of_cnt (by intro p; (try simp only [cnt_append, cnt_cons, cnt_nil]) <;> omega) z (hKm z hz)))), ?_⟩
              (refine' TA_take 7 rfl rfl (by kernel_rfl) (quiet_q (op_move rfl)) ?_ ?_; (· (intro p hp; grind)))
              (refine' TA_take 8 rfl rfl (by kernel_rfl) (quiet_q (op_extract rfl rfl)) ?_ ?_; (· (intro p hp; grind)))
              (refine' TA_take 9 rfl rfl (by kernel_rfl) (quiet_q (op_extract rfl rfl)) ?_ ?_; (· (intro p hp; grind)))
              refine TA_oneD 10 (by kernel_rfl) rfl rfl rfl rfl (op_alloc (C := #[.string (bs []), .int .u16 0, .int .u16 0, .int .u32 0, .slice none 0 0]) zero_60 rfl) ?_
              rintro _ _ ⟨beF, rfl, rfl⟩
              refine ⟨Or.inr (by (exact (fun z hz => mem_of_cnt (by intro p; (try simp only [cnt_append, cnt_cons, cnt_nil]) <;> omega) z (hKm z hz)))), ?_⟩
              refine TA_cnt (L' := (beF, Obj.cells #[.string (bs []), .int .u16 0, .int .u16 0, .int .u32 0, .slice none 0 0] 60 (0, 0)) :: (BeF ++ (BO ++ ((bS, Obj.cells #[.string (bs (Nm.fold q.name)), .int .u16 q.kind, .int .u16 q.cls, .int .u32 0, .slice aD D.length cD] 60 (0, 0)) :: (BD ++ ((bP, Obj.cells #[.int .u8 r.1.code, .slice a1P r.1.sets.length c1P, .slice a2P r.1.soa.length c2P] 42 (0, 0)) :: (B2P ++ (B1P ++ (NP ++ ([(bv, Obj.cells cur 63 (0, 0))] ++ (Kv ++ ((bQ, Obj.cells #[.string (bs q.name), .int .u16 q.kind, .int .u16 q.cls] 34 (0, 0)) :: L)))))))))))) ?_ (by intro p; (try simp only [cnt_append, cnt_cons, cnt_nil]) <;> omega)
              refine TA_oneN 11 (by kernel_rfl) rfl rfl rfl (op_stAll rfl rfl st_60 rfl rfl rfl) ?_
              rintro _ _ ⟨_, rfl⟩
              refine ⟨Or.inr (by (exact (fun z hz => mem_of_cnt (by intro p; (try simp only [cnt_append, cnt_cons, cnt_nil]) <;> omega) z (hKm z hz)))), ?_⟩
              (refine' TA_take 12 rfl rfl (by kernel_rfl) (quiet_q (op_assign rfl)) ?_ ?_; (· (intro p hp; grind)))
              refine TA_done (by kernel_rfl) ?_
              refine TQ_mid (aeF, ceF, BeF, beF) ⟨hEF, hE2F⟩ ?_ (fun w h => h)
              (repeat ((first | exact trivial | refine ⟨rfl, ?_⟩)))
            · refine Up_ofD rfl rfl rfl rfl (op_alloc (C := #[.string (bs []), .int .u16 0, .int .u16 0, .int .u32 0, .slice none 0 0]) zero_60 rfl) ?_
              rintro _ _ ⟨beF, rfl, rfl⟩
              refine ⟨Or.inr (by (exact (fun z hz => mem_of_cnt (by intro p; (try simp only [cnt_append, cnt_cons, cnt_nil]) <;> omega) z (hKm z hz)))), ?_⟩
              refine TA_oneD 6 (by kernel_rfl) rfl rfl rfl rfl (op_call hb_26 rfl (pEnd_S x.vd q x1 x2 xc1 xc2 (mono_slice mono_set _ _ _ _ (mem_of_cnt (by intro p; (try simp only [cnt_append, cnt_cons, cnt_nil]) <;> omega)) hx1) (fun s hs => Nat.le_trans (hxd s hs) (by decide)))) ?_
              rintro _ _ ⟨aeF, ceF, BeF, rfl, hEF, rfl, hE2F⟩
              refine ⟨Or.inr (by (exact (fun z hz => mem_of_cnt (by intro p; (try simp only [cnt_append, cnt_cons, cnt_nil]) <;> omega) z (hKm z hz)))), ?_⟩
              (refine' TA_take 7 rfl rfl (by kernel_rfl) (quiet_q (op_move rfl)) ?_ ?_; (· (intro p hp; grind)))
              (refine' TA_take 8 rfl rfl (by kernel_rfl) (quiet_q (op_extract rfl rfl)) ?_ ?_; (· (intro p hp; grind)))
              (refine' TA_take 9 rfl rfl (by kernel_rfl) (quiet_q (op_extract rfl rfl)) ?_ ?_; (· (intro p hp; grind)))
              refine TA_cnt (L' := (beF, Obj.cells #[.string (bs []), .int .u16 0, .int .u16 0, .int .u32 0, .slice none 0 0] 60 (0, 0)) :: (BeF ++ (BO ++ ((bS, Obj.cells #[.string (bs (Nm.fold q.name)), .int .u16 q.kind, .int .u16 q.cls, .int .u32 0, .slice aD D.length cD] 60 (0, 0)) :: (BD ++ ((bP, Obj.cells #[.int .u8 r.1.code, .slice a1P r.1.sets.length c1P, .slice a2P r.1.soa.length c2P] 42 (0, 0)) :: (B2P ++ (B1P ++ (NP ++ ([(bv, Obj.cells cur 63 (0, 0))] ++ (Kv ++ ((bQ, Obj.cells #[.string (bs q.name), .int .u16 q.kind, .int .u16 q.cls] 34 (0, 0)) :: L)))))))))))) ?_ (by intro p; (try simp only [cnt_append, cnt_cons, cnt_nil]) <;> omega)
              refine TA_oneN 11 (by kernel_rfl) rfl rfl rfl (op_stAll rfl rfl st_60 rfl rfl rfl) ?_
              rintro _ _ ⟨_, rfl⟩
              refine ⟨Or.inr (by (exact (fun z hz => mem_of_cnt (by intro p; (try simp only [cnt_append, cnt_cons, cnt_nil]) <;> omega) z (hKm z hz)))), ?_⟩
              (refine' TA_take 12 rfl rfl (by kernel_rfl) (quiet_q (op_assign rfl)) ?_ ?_; (· (intro p hp; grind)))
              refine TA_done (by kernel_rfl) ?_
              refine TQ_mid (aeF, ceF, BeF, beF) ⟨hEF, hE2F⟩ ?_ (fun w h => h)
              (repeat ((first | exact trivial | refine ⟨rfl, ?_⟩)))
          rintro ⟨aeF, ceF, BeF, beF⟩ ⟨hEF, hE2F⟩
          dsimp only at hEF hE2F ⊢
          clear hKm
          obtain ⟨E, hE0⟩ : ∃ E, (Vd.endV q x.vd).1.data = E := ⟨_, rfl⟩
          rw [hE0] at hEF hxe htk hin hdat ⊢
          have hel5 : (endsAll q (vs.take i) ++ E).length ≤ 25620 := by rw [List.length_append]; omega
          repeat ((first | with_reducible refine T_seq ?_ | with_reducible refine T_block ?_ | with_reducible refine T_region ?_ | with_reducible refine TL_nil ?_ | with_reducible refine TQ_then ?_ | refine TL_q (op_assign rfl) rfl ?_))
          refine T_loopS (σ := Nat × Option Addr × Nat × Blocks) (fun y => y.1 ≤ E.length ∧ ORow strR 9 1 [] y.2.1 y.2.2.1 (endsAll q (vs.take i) ++ E.take y.1) y.2.2.2) (fun y => [(2, .pointer (some ⟨bQ, 0, none⟩)), (5, .slice (some ⟨bv, 0, none⟩) vs.length cv), (14, .pointer (some ⟨bS, 0, none⟩)), (17, .int .i64 (i : Nat)), (18, .pointer (some ⟨beF, 0, none⟩)), (19, .bool (Vd.endV q x.vd).2), (16, .slice y.2.1 (endsAll q (vs.take i) ++ E.take y.1).length y.2.2.1), (20, .int .i64 (y.1 : Nat))]) (fun y => y.2.2.2 ++ ((beF, Obj.cells #[.string (bs (Vd.endV q x.vd).1.name), .int .u16 (Vd.endV q x.vd).1.kind, .int .u16 (Vd.endV q x.vd).1.cls, .int .u32 (Vd.endV q x.vd).1.ttl, .slice aeF E.length ceF] 60 (0, 0)) :: (BeF ++ ((bS, Obj.cells #[.string (bs (Nm.fold q.name)), .int .u16 q.kind, .int .u16 q.cls, .int .u32 0, .slice aD D.length cD] 60 (0, 0)) :: (BD ++ ((bP, Obj.cells #[.int .u8 r.1.code, .slice a1P r.1.sets.length c1P, .slice a2P r.1.soa.length c2P] 42 (0, 0)) :: (B2P ++ (B1P ++ (NP ++ ([(bv, Obj.cells cur 63 (0, 0))] ++ (Kv ++ ((bQ, Obj.cells #[.string (bs q.name), .int .u16 q.kind, .int .u16 q.cls] 34 (0, 0)) :: L)))))))))))) (fun y => E.length - y.1) (0, aO, cO, BO) ⟨Nat.zero_le _, by simpa using hO⟩ ?_ (fun w h => h.cnt (by intro p; (try simp only [cnt_append, cnt_cons, cnt_nil]) <;> omega)) ?_
          · dsimp only
            rw [List.take_zero, List.append_nil]
            (repeat ((first | exact trivial | refine ⟨rfl, ?_⟩)))
          rintro ⟨k, aO2, cO2, BO2⟩ ⟨hk, hO2⟩
          dsimp only at hk hO2 ⊢
          have hl2 : (endsAll q (vs.take i) ++ E.take k).length ≤ 25620 := by rw [List.length_append, List.length_take] at *; omega
          by_cases hkl : k < E.length
          · have he : (Vd.endV q x.vd).2 = true := by
              cases he : (Vd.endV q x.vd).2 with
              | true => rfl
              | false => rw [endV_no he] at hE0; rw [← hE0] at hkl; exact absurd hkl (by simp [RSet.none])
            obtain ⟨d, hd⟩ : ∃ d, E[k]? = some d := ⟨_, List.getElem?_eq_getElem hkl⟩
            have htk3 : endsAll q (vs.take i) ++ E.take (k + 1) = (endsAll q (vs.take i) ++ E.take k) ++ [d] := by rw [List.take_add_one, hd, List.append_assoc]; rfl
            have hany : (D.any fun y => decide (y = d)) = true := List.any_eq_true.2 ⟨d, hin d (List.mem_of_getElem? hd), by simp⟩
            have hEsl : sliceR 1 strR BeF [.slice aeF E.length ceF] E := hEF.sliceR mono_str (by simp) (fun p h => h)
            have hdl := hxe.2.1 d (List.mem_of_getElem? hd)
            obtain ⟨_, ke1, ke2, hEc⟩ := strs_cut hEsl
            rcases hEc with h1 | ⟨bE, oE, CE, tE, fE, rfl, mE, qE⟩
            · rw [h1] at hkl; simp at hkl
            have re := qE k d hd
            have hDK : sliceR 1 strR (BO2 ++ ((beF, Obj.cells #[.string (bs (Vd.endV q x.vd).1.name), .int .u16 (Vd.endV q x.vd).1.kind, .int .u16 (Vd.endV q x.vd).1.cls, .int .u32 (Vd.endV q x.vd).1.ttl, .slice (some ⟨bE, oE, none⟩) E.length ceF] 60 (0, 0)) :: (BeF ++ ((bS, Obj.cells #[.string (bs (Nm.fold q.name)), .int .u16 q.kind, .int .u16 q.cls, .int .u32 0, .slice aD D.length cD] 60 (0, 0)) :: (BD ++ ((bP, Obj.cells #[.int .u8 r.1.code, .slice a1P r.1.sets.length c1P, .slice a2P r.1.soa.length c2P] 42 (0, 0)) :: (B2P ++ (B1P ++ (NP ++ ([(bv, Obj.cells cur 63 (0, 0))] ++ (Kv ++ ((bQ, Obj.cells #[.string (bs q.name), .int .u16 q.kind, .int .u16 q.cls] 34 (0, 0)) :: L)))))))))))) [.slice aD D.length cD] D := hDr.sliceR mono_str (by simp) (mem_of_cnt (by intro p; (try simp only [cnt_append, cnt_cons, cnt_nil]) <;> omega))
            have hK : ∀ z ∈ BO2 ++ ((beF, Obj.cells #[.string (bs (Vd.endV q x.vd).1.name), .int .u16 (Vd.endV q x.vd).1.kind, .int .u16 (Vd.endV q x.vd).1.cls, .int .u32 (Vd.endV q x.vd).1.ttl, .slice (some ⟨bE, oE, none⟩) E.length ceF] 60 (0, 0)) :: (BeF ++ ((bS, Obj.cells #[.string (bs (Nm.fold q.name)), .int .u16 q.kind, .int .u16 q.cls, .int .u32 0, .slice aD D.length cD] 60 (0, 0)) :: (BD ++ ((bP, Obj.cells #[.int .u8 r.1.code, .slice a1P r.1.sets.length c1P, .slice a2P r.1.soa.length c2P] 42 (0, 0)) :: (B2P ++ (B1P ++ (NP ++ ([(bv, Obj.cells cur 63 (0, 0))] ++ (Kv ++ ((bQ, Obj.cells #[.string (bs q.name), .int .u16 q.kind, .int .u16 q.cls] 34 (0, 0)) :: L))))))))))), z ∈ BO2 ++ ((beF, Obj.cells #[.string (bs (Vd.endV q x.vd).1.name), .int .u16 (Vd.endV q x.vd).1.kind, .int .u16 (Vd.endV q x.vd).1.cls, .int .u32 (Vd.endV q x.vd).1.ttl, .slice (some ⟨bE, oE, none⟩) E.length ceF] 60 (0, 0)) :: (BeF ++ ((bS, Obj.cells #[.string (bs (Nm.fold q.name)), .int .u16 q.kind, .int .u16 q.cls, .int .u32 0, .slice aD D.length cD] 60 (0, 0)) :: (BD ++ ((bP, Obj.cells #[.int .u8 r.1.code, .slice a1P r.1.sets.length c1P, .slice a2P r.1.soa.length c2P] 42 (0, 0)) :: (B2P ++ (B1P ++ (NP ++ ([(bv, Obj.cells cur 63 (0, 0))] ++ (Kv ++ ((bQ, Obj.cells #[.string (bs q.name), .int .u16 q.kind, .int .u16 q.cls] 34 (0, 0)) :: L))))))))))) := fun z h => h
            repeat ((first | with_reducible refine T_seq ?_ | with_reducible refine T_block ?_ | with_reducible refine T_region ?_ | with_reducible refine TL_nil ?_ | with_reducible refine TQ_then ?_ | with_reducible refine T_skip ?_ | refine TL_q (op_move rfl) rfl ?_ | (refine' TL_q (op_bin rfl rfl ?_) rfl ?_; rotate_left 1; (· (exact bin_lss))) | (refine' TL_q (op_pickT rfl ?_ rfl) rfl ?_; (· (exact dT (by (omega))))) | refine TL_q (op_len_slice rfl Try.underlying58) rfl ?_ | refine TL_q (op_fld rfl fld_60_4) rfl ?_ | (refine' TL_q (op_ld rfl pl_5 ?_ ?_) rfl ?_; rotate_left 4; (· repeat ((first | exact List.mem_cons_self | apply List.mem_append_right))); (· (rfl))) | (refine TL_gpre rfl rfl ?_ ?_; (· (exact dT (by (omega))))) | refine TL_gq2 (op_move rfl) rfl ?_ | (refine T_yes rfl ?_ ?_; (· (assumption)))))
            refine T_draw follows_mixed (BO2 ++ ((beF, Obj.cells #[.string (bs (Vd.endV q x.vd).1.name), .int .u16 (Vd.endV q x.vd).1.kind, .int .u16 (Vd.endV q x.vd).1.cls, .int .u32 (Vd.endV q x.vd).1.ttl, .slice (some ⟨bE, oE, none⟩) E.length ceF] 60 (0, 0)) :: (BeF ++ ((bS, Obj.cells #[.string (bs (Nm.fold q.name)), .int .u16 q.kind, .int .u16 q.cls, .int .u32 0, .slice aD D.length cD] 60 (0, 0)) :: (BD ++ ((bP, Obj.cells #[.int .u8 r.1.code, .slice a1P r.1.sets.length c1P, .slice a2P r.1.soa.length c2P] 42 (0, 0)) :: (B2P ++ (B1P ++ (NP ++ ([(bv, Obj.cells cur 63 (0, 0))] ++ (Kv ++ ((bQ, Obj.cells #[.string (bs q.name), .int .u16 q.kind, .int .u16 q.cls] 34 (0, 0)) :: L)))))))))))) [] ?_
            (refine' TA_take 0 rfl rfl (by kernel_rfl) (quiet_q (op_fld rfl fld_60_4)) ?_ ?_; (· (assumption)))
            (refine' TA_take 1 rfl rfl (by kernel_rfl) (quiet_q (op_ld rfl pl_58 ?_ ?_)) ?_ ?_; rotate_left 4; (· repeat ((first | exact List.mem_cons_self | apply List.mem_cons_of_mem | apply List.mem_append_right))); (· (rfl)); (· (assumption)))
            (refine' TA_take 2 rfl rfl (by kernel_rfl) (quiet_q (op_fld rfl fld_60_4)) ?_ ?_; (· (assumption)))
            (refine' TA_take 3 rfl rfl (by kernel_rfl) (quiet_q (op_ld rfl pl_58 ?_ ?_)) ?_ ?_; rotate_left 4; (· repeat ((first | exact List.mem_cons_self | apply List.mem_append_right))); (· (rfl)); (· (assumption)))
            (refine' TA_take 4 rfl rfl (by kernel_rfl) (quiet_q (op_move rfl)) ?_ ?_; (· (assumption)))
            (refine' TA_take 5 rfl rfl (by kernel_rfl) (quiet_q (op_idx ety_58 rfl rfl ?_)) ?_ ?_; (· omega); (· (assumption)))
            (refine' TA_take 6 rfl rfl (by kernel_rfl) (quiet_q (op_ld rfl pl_9 ?_ ?_)) ?_ ?_; rotate_left 4; (· repeat ((first | (apply List.mem_append_left; (assumption)) | apply List.mem_cons_of_mem | apply List.mem_append_right))); (· (assumption)); (· (assumption)))
            refine TA_take 7 rfl rfl (by kernel_rfl) (quiet_call hb_30 rfl (fun _ hk => in_S _ D d (mono_slice mono_str _ _ _ _ hk hDK))) ?_ ?_; (· exact hK)
            (refine' TA_take 8 rfl rfl (by kernel_rfl) (quiet_q (op_not rfl)) ?_ ?_; (· (assumption)))
            refine TA_done (by kernel_rfl) ?_
            repeat ((first | with_reducible refine T_region ?_ | with_reducible refine TQ_then ?_ | with_reducible refine T_skip ?_ | refine TL_q (op_move rfl) rfl ?_ | (refine' TL_q (op_idx ety_58 rfl rfl ?_) rfl ?_; (· omega)) | refine TL_q (op_fld rfl fld_60_4) rfl ?_ | (refine' TL_q (op_ld rfl pl_5 ?_ ?_) rfl ?_; rotate_left 4; (· repeat ((first | exact List.mem_cons_self | (apply List.mem_append_left; (assumption)) | apply List.mem_cons_of_mem | apply List.mem_append_right))); (· (first | assumption | rfl))) | (refine TL_new (op_lit1 ety_58 rfl rfl) rfl ?_; intro bLit) | (refine T_no rfl ?_ ?_; (· (exact xF (by (assumption)))))))
            refine TL_cnt (L' := (bLit, Obj.cells #[.string (bs d)] 9 (0, 0)) :: (BO2 ++ ((beF, Obj.cells #[.string (bs (Vd.endV q x.vd).1.name), .int .u16 (Vd.endV q x.vd).1.kind, .int .u16 (Vd.endV q x.vd).1.cls, .int .u32 (Vd.endV q x.vd).1.ttl, .slice (some ⟨bE, oE, none⟩) E.length ceF] 60 (0, 0)) :: (BeF ++ ((bS, Obj.cells #[.string (bs (Nm.fold q.name)), .int .u16 q.kind, .int .u16 q.cls, .int .u32 0, .slice aD D.length cD] 60 (0, 0)) :: (BD ++ ((bP, Obj.cells #[.int .u8 r.1.code, .slice a1P r.1.sets.length c1P, .slice a2P r.1.soa.length c2P] 42 (0, 0)) :: (B2P ++ (B1P ++ (NP ++ ([(bv, Obj.cells cur 63 (0, 0))] ++ (Kv ++ ((bQ, Obj.cells #[.string (bs q.name), .int .u16 q.kind, .int .u16 q.cls] 34 (0, 0)) :: L))))))))))))) ?_ (by intro p; (try simp only [cnt_append, cnt_cons, cnt_nil]) <;> omega)
            refine TL_opT (op_pushS (y := d) ety_58 rfl rfl hO2 (by unfold maxLen; omega) (by omega) (by decide)) rfl ?_
            rintro _ _ ⟨a', c', B', rfl, hB', rfl⟩
            repeat ((first | with_reducible refine T_region ?_ | with_reducible refine TL_nil ?_ | with_reducible refine TQ_then ?_ | with_reducible refine TQ_block ?_ | refine TL_q (op_move rfl) rfl ?_ | refine TL_q (op_assign rfl) rfl ?_ | (refine' TL_q (op_bin rfl rfl ?_) rfl ?_; rotate_left 1; (· (exact bin_add ⟨by omega, by omega⟩)))))
            refine TQ_roundS (k + 1, a', c', B') ⟨hkl, by dsimp only; rw [htk3]; exact hB'⟩ ?_ (fun w h => h.cnt (by intro p; (try simp only [cnt_append, cnt_cons, cnt_nil]) <;> omega)) (by dsimp only; omega)
            dsimp only
            rw [htk3]
            (repeat ((first | exact trivial | refine ⟨rfl, ?_⟩)))
          · have hke : k = E.length := by omega
            subst hke
            rw [List.take_length] at hO2 ⊢
            repeat ((first | with_reducible refine T_seq ?_ | with_reducible refine T_region ?_ | with_reducible refine TL_nil ?_ | with_reducible refine TQ_then ?_ | with_reducible refine TQ_block ?_ | with_reducible refine T_exit ?_ | with_reducible refine TQ_then_exit ?_ | with_reducible refine TQ_block_exit ?_ | refine TL_q (op_move rfl) rfl ?_ | refine TL_q (op_assign rfl) rfl ?_ | (refine' TL_q (op_bin rfl rfl ?_) rfl ?_; rotate_left 1; (· (first | exact bin_add ⟨by omega, by omega⟩ | exact bin_lss))) | (refine' TL_q (op_pickF rfl ?_ rfl) rfl ?_; (· (exact dF (by (omega))))) | refine TL_q (op_len_slice rfl Try.underlying58) rfl ?_ | refine TL_q (op_fld rfl fld_60_4) rfl ?_ | (refine' TL_q (op_ld rfl pl_5 ?_ ?_) rfl ?_; rotate_left 4; (· repeat ((first | exact List.mem_cons_self | apply List.mem_append_right))); (· (rfl))) | (refine TL_gno rfl rfl ?_ rfl ?_; (· (exact dF (by (omega))))) | (refine T_no rfl ?_ ?_; (· (with_reducible rfl)))))
            refine TQ_roundS (i + 1, aO2, cO2, BO2) ⟨hil, by dsimp only; rw [htk]; exact hO2⟩ ?_ (fun w h => h.cnt (by intro p; (try simp only [cnt_append, cnt_cons, cnt_nil]) <;> omega)) (by dsimp only; omega)
            dsimp only
            rw [htk]
            (repeat ((first | exact trivial | refine ⟨rfl, ?_⟩)))
      · have hie : i = vs.length := by omega
        subst hie
        rw [List.take_length] at hO ⊢
        repeat ((first | with_reducible refine T_seq ?_ | with_reducible refine T_block ?_ | with_reducible refine T_region ?_ | with_reducible refine TL_nil ?_ | with_reducible refine TQ_then ?_ | with_reducible refine T_exit ?_ | with_reducible refine TQ_then_exit ?_ | with_reducible refine TQ_block_exit ?_ | refine TL_q (op_move rfl) rfl ?_ | refine TL_q (op_assign rfl) rfl ?_ | (refine' TL_q (op_bin rfl rfl ?_) rfl ?_; rotate_left 1; (· (exact bin_lss))) | refine TL_q (op_len_slice rfl Try.underlying50) rfl ?_ | (refine T_no rfl ?_ ?_; (· (exact dF (by (omega)))))))
        have hDsl : sliceR 1 strR BD [.slice aD D.length cD] D := hDr.sliceR mono_str (by simp) (fun p h => h)
        obtain ⟨_, kd1, kd2, hDc⟩ := strs_cut hDsl
        unfold maxLen at kd2
        refine T_loopS (σ := Nat) (fun k => k ≤ D.length) (fun k => [(14, .pointer (some ⟨bS, 0, none⟩)), (16, .slice aO (endsAll q vs).length cO), (21, .int .i64 (k : Nat))]) (fun _ => BO ++ ((bS, Obj.cells #[.string (bs (Nm.fold q.name)), .int .u16 q.kind, .int .u16 q.cls, .int .u32 0, .slice aD D.length cD] 60 (0, 0)) :: (BD ++ ((bP, Obj.cells #[.int .u8 r.1.code, .slice a1P r.1.sets.length c1P, .slice a2P r.1.soa.length c2P] 42 (0, 0)) :: (B2P ++ (B1P ++ (NP ++ ([(bv, Obj.cells cur 63 (0, 0))] ++ (Kv ++ ((bQ, Obj.cells #[.string (bs q.name), .int .u16 q.kind, .int .u16 q.cls] 34 (0, 0)) :: L)))))))))) (fun k => D.length - k) 0 (Nat.zero_le _) ?_ (fun w h => h) ?_
        (repeat ((first | exact trivial | refine ⟨rfl, ?_⟩)))
        rintro k hk
        by_cases hkl : k < D.length
        · obtain ⟨d, hd⟩ : ∃ d, D[k]? = some d := ⟨_, List.getElem?_eq_getElem hkl⟩
          rcases hDc with h1 | ⟨bD, oD, CD, tD, fD, rfl, mD, qD⟩
          · rw [h1] at hkl; simp at hkl
          have re := qD k d hd
          have hany : ((endsAll q vs).any fun y => decide (y = d)) = true := List.any_eq_true.2 ⟨d, (hmemD d).1 (List.mem_of_getElem? hd), by simp⟩
          have hOK : sliceR 1 strR (BO ++ ((bS, Obj.cells #[.string (bs (Nm.fold q.name)), .int .u16 q.kind, .int .u16 q.cls, .int .u32 0, .slice (some ⟨bD, oD, none⟩) D.length cD] 60 (0, 0)) :: (BD ++ ((bP, Obj.cells #[.int .u8 r.1.code, .slice a1P r.1.sets.length c1P, .slice a2P r.1.soa.length c2P] 42 (0, 0)) :: (B2P ++ (B1P ++ (NP ++ ([(bv, Obj.cells cur 63 (0, 0))] ++ (Kv ++ ((bQ, Obj.cells #[.string (bs q.name), .int .u16 q.kind, .int .u16 q.cls] 34 (0, 0)) :: L)))))))))) [.slice aO (endsAll q vs).length cO] (endsAll q vs) := hO.sliceR mono_str (by simp) (mem_of_cnt (by intro p; (try simp only [cnt_append, cnt_cons, cnt_nil]) <;> omega))
          have hK : ∀ z ∈ BO ++ ((bS, Obj.cells #[.string (bs (Nm.fold q.name)), .int .u16 q.kind, .int .u16 q.cls, .int .u32 0, .slice (some ⟨bD, oD, none⟩) D.length cD] 60 (0, 0)) :: (BD ++ ((bP, Obj.cells #[.int .u8 r.1.code, .slice a1P r.1.sets.length c1P, .slice a2P r.1.soa.length c2P] 42 (0, 0)) :: (B2P ++ (B1P ++ (NP ++ ([(bv, Obj.cells cur 63 (0, 0))] ++ (Kv ++ ((bQ, Obj.cells #[.string (bs q.name), .int .u16 q.kind, .int .u16 q.cls] 34 (0, 0)) :: L))))))))), z ∈ BO ++ ((bS, Obj.cells #[.string (bs (Nm.fold q.name)), .int .u16 q.kind, .int .u16 q.cls, .int .u32 0, .slice (some ⟨bD, oD, none⟩) D.length cD] 60 (0, 0)) :: (BD ++ ((bP, Obj.cells #[.int .u8 r.1.code, .slice a1P r.1.sets.length c1P, .slice a2P r.1.soa.length c2P] 42 (0, 0)) :: (B2P ++ (B1P ++ (NP ++ ([(bv, Obj.cells cur 63 (0, 0))] ++ (Kv ++ ((bQ, Obj.cells #[.string (bs q.name), .int .u16 q.kind, .int .u16 q.cls] 34 (0, 0)) :: L))))))))) := fun z h => h
          by_cases hk0 : k = 0
          · have hk1 : ¬ 0 < (k : Int) := by omega
            repeat ((first | with_reducible refine T_seq ?_ | with_reducible refine T_block ?_ | with_reducible refine T_region ?_ | with_reducible refine TL_nil ?_ | with_reducible refine TQ_then ?_ | with_reducible refine T_skip ?_ | refine TL_q (op_move rfl) rfl ?_ | (refine' TL_q (op_bin rfl rfl ?_) rfl ?_; rotate_left 1; (· (exact bin_lss))) | refine TL_q (op_len_slice rfl Try.underlying58) rfl ?_ | refine TL_q (op_fld rfl fld_60_4) rfl ?_ | (refine' TL_q (op_ld rfl pl_5 ?_ ?_) rfl ?_; rotate_left 4; (· repeat ((first | exact List.mem_cons_self | apply List.mem_append_right))); (· (rfl))) | (refine T_yes rfl ?_ ?_; (· (exact dT (by (omega)))))))
            refine T_draw follows_mixed (BO ++ ((bS, Obj.cells #[.string (bs (Nm.fold q.name)), .int .u16 q.kind, .int .u16 q.cls, .int .u32 0, .slice (some ⟨bD, oD, none⟩) D.length cD] 60 (0, 0)) :: (BD ++ ((bP, Obj.cells #[.int .u8 r.1.code, .slice a1P r.1.sets.length c1P, .slice a2P r.1.soa.length c2P] 42 (0, 0)) :: (B2P ++ (B1P ++ (NP ++ ([(bv, Obj.cells cur 63 (0, 0))] ++ (Kv ++ ((bQ, Obj.cells #[.string (bs q.name), .int .u16 q.kind, .int .u16 q.cls] 34 (0, 0)) :: L)))))))))) [] ?_
            (refine' TA_take 0 rfl rfl (by kernel_rfl) (quiet_q (op_move rfl)) ?_ ?_; (· (assumption)))
            (refine' TA_take 1 rfl rfl (by kernel_rfl) (quiet_q (op_fld rfl fld_60_4)) ?_ ?_; (· (assumption)))
            (refine' TA_take 2 rfl rfl (by kernel_rfl) (quiet_q (op_ld rfl pl_58 ?_ ?_)) ?_ ?_; rotate_left 4; (· repeat ((first | exact List.mem_cons_self | apply List.mem_append_right))); (· (rfl)); (· (assumption)))
            (refine' TA_take 3 rfl rfl (by kernel_rfl) (quiet_q (op_move rfl)) ?_ ?_; (· (assumption)))
            (refine' TA_take 4 rfl rfl (by kernel_rfl) (quiet_q (op_idx ety_58 rfl rfl ?_)) ?_ ?_; (· omega); (· (assumption)))
            (refine' TA_take 5 rfl rfl (by kernel_rfl) (quiet_q (op_ld rfl pl_9 ?_ ?_)) ?_ ?_; rotate_left 4; (· repeat ((first | (apply List.mem_append_left; (assumption)) | apply List.mem_cons_of_mem | apply List.mem_append_right))); (· (assumption)); (· (assumption)))
            refine TA_take 6 rfl rfl (by kernel_rfl) (quiet_call hb_30 rfl (fun _ hk => in_S _ (endsAll q vs) d (mono_slice mono_str _ _ _ _ hk hOK))) ?_ ?_; (· exact hK)
            (refine' TA_take 7 rfl rfl (by kernel_rfl) (quiet_q (op_not rfl)) ?_ ?_; (· (assumption)))
            (refine' TA_take 8 rfl rfl (by kernel_rfl) (quiet_q (op_move rfl)) ?_ ?_; (· (assumption)))
            (refine' TA_take 9 rfl rfl (by kernel_rfl) (quiet_g2 rfl rfl (by (exact xF (by (assumption)))) (op_move rfl)) ?_ ?_; (· (assumption)))
            (refine' TA_take 10 rfl rfl (by kernel_rfl) (quiet_g2 rfl rfl (by (exact xF (by (assumption)))) (op_bin rfl rfl ?_)) ?_ ?_; rotate_left 1; (· (exact bin_gtr)); (· (assumption)))
            (refine' TA_take 11 rfl rfl (by kernel_rfl) (quiet_g2 rfl rfl (by (exact xF (by (assumption)))) (op_move rfl)) ?_ ?_; (· (assumption)))
            (refine TA_take 12 rfl rfl (by kernel_rfl) (quiet_no2 rfl rfl ?_) ?_ ?_; (· (exact dF (by (assumption)))); (· (assumption)))
            (refine TA_take 13 rfl rfl (by kernel_rfl) (quiet_no2 rfl rfl ?_) ?_ ?_; (· (exact dF (by (assumption)))); (· (assumption)))
            (refine TA_take 14 rfl rfl (by kernel_rfl) (quiet_no2 rfl rfl ?_) ?_ ?_; (· (exact dF (by (assumption)))); (· (assumption)))
            (refine TA_take 15 rfl rfl (by kernel_rfl) (quiet_no2 rfl rfl ?_) ?_ ?_; (· (exact dF (by (assumption)))); (· (assumption)))
            (refine TA_take 16 rfl rfl (by kernel_rfl) (quiet_no2 rfl rfl ?_) ?_ ?_; (· (exact dF (by (assumption)))); (· (assumption)))
            (refine TA_take 17 rfl rfl (by kernel_rfl) (quiet_no2 rfl rfl ?_) ?_ ?_; (· (exact dF (by (assumption)))); (· (assumption)))
            (refine TA_take 18 rfl rfl (by kernel_rfl) (quiet_no2 rfl rfl ?_) ?_ ?_; (· (exact dF (by (assumption)))); (· (assumption)))
            (refine TA_take 19 rfl rfl (by kernel_rfl) (quiet_no2 rfl rfl ?_) ?_ ?_; (· (exact dF (by (assumption)))); (· (assumption)))
            (refine TA_take 20 rfl rfl (by kernel_rfl) (quiet_no2 rfl rfl ?_) ?_ ?_; (· (exact dF (by (assumption)))); (· (assumption)))
            (refine TA_take 21 rfl rfl (by kernel_rfl) (quiet_no2 rfl rfl ?_) ?_ ?_; (· (exact dF (by (assumption)))); (· (assumption)))
            (refine TA_take 22 rfl rfl (by kernel_rfl) (quiet_no2 rfl rfl ?_) ?_ ?_; (· (exact dF (by (assumption)))); (· (assumption)))
            (refine TA_take 23 rfl rfl (by kernel_rfl) (quiet_no2 rfl rfl ?_) ?_ ?_; (· (exact dF (by (assumption)))); (· exact hK))
            (refine' TA_take 24 rfl rfl (by kernel_rfl) (quiet_g2 rfl rfl (by (exact xF (by (assumption)))) (op_pickF rfl ?_ rfl)) ?_ ?_; (· (exact dF (by (assumption)))); (· (assumption)))
            (refine' TA_take 25 rfl rfl (by kernel_rfl) (quiet_q (op_pickF rfl ?_ rfl)) ?_ ?_; (· (exact xF (by (assumption)))); (· (assumption)))
            refine TA_done (by kernel_rfl) ?_
            repeat ((first | with_reducible refine T_region ?_ | with_reducible refine TL_nil ?_ | with_reducible refine TQ_then ?_ | with_reducible refine TQ_block ?_ | with_reducible refine T_skip ?_ | refine TL_q (op_move rfl) rfl ?_ | refine TL_q (op_assign rfl) rfl ?_ | (refine' TL_q (op_bin rfl rfl ?_) rfl ?_; rotate_left 1; (· (exact bin_add ⟨by omega, by omega⟩))) | (refine T_no rfl ?_ ?_; (· (with_reducible rfl)))))
            refine TQ_roundS (k + 1) hkl ?_ (fun w h => h) (by omega)
            (repeat ((first | exact trivial | refine ⟨rfl, ?_⟩)))
          · have hk1 : 0 < (k : Int) := by omega
            obtain ⟨d1, hd1⟩ : ∃ d1, D[k - 1]? = some d1 := ⟨_, List.getElem?_eq_getElem (by omega)⟩
            have hkk : ((k : Int) - 1).toNat = k - 1 := by omega
            have re1 : CD[oD + ((k : Int) - 1).toNat * 1]? = some (.string (bs d1)) := by rw [hkk]; exact qD (k - 1) d1 hd1
            have hlt : d1 < d := by
              have := List.pairwise_iff_getElem.1 hrise (k - 1) k (by omega) hkl (by omega)
              rw [List.getElem?_eq_getElem (by omega)] at hd1 hd
              rw [Option.some.inj hd1, Option.some.inj hd] at this
              exact this
            have hng : (Op.bytesLess d d1 || d == d1) = false := by
              have := (Vd.gtB_iff d d1).2 hlt
              unfold Vd.gtB at this
              simpa using this
            repeat ((first | with_reducible refine T_seq ?_ | with_reducible refine T_block ?_ | with_reducible refine T_region ?_ | with_reducible refine TL_nil ?_ | with_reducible refine TQ_then ?_ | with_reducible refine T_skip ?_ | refine TL_q (op_move rfl) rfl ?_ | (refine' TL_q (op_bin rfl rfl ?_) rfl ?_; rotate_left 1; (· (exact bin_lss))) | refine TL_q (op_len_slice rfl Try.underlying58) rfl ?_ | refine TL_q (op_fld rfl fld_60_4) rfl ?_ | (refine' TL_q (op_ld rfl pl_5 ?_ ?_) rfl ?_; rotate_left 4; (· repeat ((first | exact List.mem_cons_self | apply List.mem_append_right))); (· (rfl))) | (refine T_yes rfl ?_ ?_; (· (exact dT (by (omega)))))))
            refine T_draw follows_mixed (BO ++ ((bS, Obj.cells #[.string (bs (Nm.fold q.name)), .int .u16 q.kind, .int .u16 q.cls, .int .u32 0, .slice (some ⟨bD, oD, none⟩) D.length cD] 60 (0, 0)) :: (BD ++ ((bP, Obj.cells #[.int .u8 r.1.code, .slice a1P r.1.sets.length c1P, .slice a2P r.1.soa.length c2P] 42 (0, 0)) :: (B2P ++ (B1P ++ (NP ++ ([(bv, Obj.cells cur 63 (0, 0))] ++ (Kv ++ ((bQ, Obj.cells #[.string (bs q.name), .int .u16 q.kind, .int .u16 q.cls] 34 (0, 0)) :: L)))))))))) [] ?_
            (refine' TA_take 0 rfl rfl (by kernel_rfl) (quiet_q (op_move rfl)) ?_ ?_; (· (assumption)))
            (refine' TA_take 1 rfl rfl (by kernel_rfl) (quiet_q (op_fld rfl fld_60_4)) ?_ ?_; (· (assumption)))
            (refine' TA_take 2 rfl rfl (by kernel_rfl) (quiet_q (op_ld rfl pl_58 ?_ ?_)) ?_ ?_; rotate_left 4; (· repeat ((first | exact List.mem_cons_self | apply List.mem_append_right))); (· (rfl)); (· (assumption)))
            (refine' TA_take 3 rfl rfl (by kernel_rfl) (quiet_q (op_move rfl)) ?_ ?_; (· (assumption)))
            (refine' TA_take 4 rfl rfl (by kernel_rfl) (quiet_q (op_idx ety_58 rfl rfl ?_)) ?_ ?_; (· omega); (· (assumption)))
            (refine' TA_take 5 rfl rfl (by kernel_rfl) (quiet_q (op_ld rfl pl_9 ?_ ?_)) ?_ ?_; rotate_left 4; (· repeat ((first | (apply List.mem_append_left; (assumption)) | apply List.mem_cons_of_mem | apply List.mem_append_right))); (· (assumption)); (· (assumption)))
            refine TA_take 6 rfl rfl (by kernel_rfl) (quiet_call hb_30 rfl (fun _ hk => in_S _ (endsAll q vs) d (mono_slice mono_str _ _ _ _ hk hOK))) ?_ ?_; (· exact hK)
            (refine' TA_take 7 rfl rfl (by kernel_rfl) (quiet_q (op_not rfl)) ?_ ?_; (· (assumption)))
            (refine' TA_take 8 rfl rfl (by kernel_rfl) (quiet_q (op_move rfl)) ?_ ?_; (· (assumption)))
            (refine' TA_take 9 rfl rfl (by kernel_rfl) (quiet_g2 rfl rfl (by (exact xF (by (assumption)))) (op_move rfl)) ?_ ?_; (· (assumption)))
            (refine' TA_take 10 rfl rfl (by kernel_rfl) (quiet_g2 rfl rfl (by (exact xF (by (assumption)))) (op_bin rfl rfl ?_)) ?_ ?_; rotate_left 1; (· (exact bin_gtr)); (· (assumption)))
            (refine' TA_take 11 rfl rfl (by kernel_rfl) (quiet_g2 rfl rfl (by (exact xF (by (assumption)))) (op_move rfl)) ?_ ?_; (· (assumption)))
            (refine' TA_take 12 rfl rfl (by kernel_rfl) (quiet_g2 rfl rfl (by (exact dT (by (assumption)))) (op_fld rfl fld_60_4)) ?_ ?_; (· (assumption)))
            (refine' TA_take 13 rfl rfl (by kernel_rfl) (quiet_g2 rfl rfl (by (exact dT (by (assumption)))) (op_ld rfl pl_58 ?_ ?_)) ?_ ?_; rotate_left 4; (· repeat ((first | exact List.mem_cons_self | apply List.mem_append_right))); (· (rfl)); (· (assumption)))
            (refine' TA_take 14 rfl rfl (by kernel_rfl) (quiet_g2 rfl rfl (by (exact dT (by (assumption)))) (op_move rfl)) ?_ ?_; (· (assumption)))
            (refine' TA_take 15 rfl rfl (by kernel_rfl) (quiet_g2 rfl rfl (by (exact dT (by (assumption)))) (op_idx ety_58 rfl rfl ?_)) ?_ ?_; (· omega); (· (assumption)))
            (refine' TA_take 16 rfl rfl (by kernel_rfl) (quiet_g2 rfl rfl (by (exact dT (by (assumption)))) (op_ld rfl pl_9 ?_ ?_)) ?_ ?_; rotate_left 4; (· repeat ((first | (apply List.mem_append_left; (assumption)) | apply List.mem_cons_of_mem | apply List.mem_append_right))); (· (assumption)); (· (assumption)))
            (refine' TA_take 17 rfl rfl (by kernel_rfl) (quiet_g2 rfl rfl (by (exact dT (by (assumption)))) (op_fld rfl fld_60_4)) ?_ ?_; (· (assumption)))
            (refine' TA_take 18 rfl rfl (by kernel_rfl) (quiet_g2 rfl rfl (by (exact dT (by (assumption)))) (op_ld rfl pl_58 ?_ ?_)) ?_ ?_; rotate_left 4; (· repeat ((first | exact List.mem_cons_self | apply List.mem_append_right))); (· (rfl)); (· (assumption)))
            (refine' TA_take 19 rfl rfl (by kernel_rfl) (quiet_g2 rfl rfl (by (exact dT (by (assumption)))) (op_move rfl)) ?_ ?_; (· (assumption)))
            (refine' TA_take 20 rfl rfl (by kernel_rfl) (quiet_g2 rfl rfl (by (exact dT (by (assumption)))) (op_bin rfl rfl ?_)) ?_ ?_; rotate_left 1; (· (exact bin_sub ⟨by omega, by omega⟩)); (· (assumption)))
            (refine' TA_take 21 rfl rfl (by kernel_rfl) (quiet_g2 rfl rfl (by (exact dT (by (assumption)))) (op_idxI ety_58 rfl rfl ?_ ?_)) ?_ ?_; (· omega); (· omega); (· (assumption)))
            (refine' TA_take 22 rfl rfl (by kernel_rfl) (quiet_g2 rfl rfl (by (exact dT (by (assumption)))) (op_ld rfl pl_9 ?_ ?_)) ?_ ?_; rotate_left 4; (· repeat ((first | (apply List.mem_append_left; (assumption)) | apply List.mem_cons_of_mem | apply List.mem_append_right))); (· (assumption)); (· (assumption)))
            (refine TA_take 23 rfl rfl (by kernel_rfl) (quiet_g2 rfl rfl (by (exact dT (by (assumption)))) (op_bin rfl rfl sbin_leq)) ?_ ?_; (· exact hK))
            (refine' TA_take 24 rfl rfl (by kernel_rfl) (quiet_g2 rfl rfl (by (exact xF (by (assumption)))) (op_pickT rfl ?_ rfl)) ?_ ?_; (· (exact dT (by (assumption)))); (· (assumption)))
            (refine' TA_take 25 rfl rfl (by kernel_rfl) (quiet_q (op_pickF rfl ?_ rfl)) ?_ ?_; (· (exact xF (by (assumption)))); (· (assumption)))
            refine TA_done (by kernel_rfl) ?_
            repeat ((first | with_reducible refine T_region ?_ | with_reducible refine TL_nil ?_ | with_reducible refine TQ_then ?_ | with_reducible refine TQ_block ?_ | with_reducible refine T_skip ?_ | refine TL_q (op_move rfl) rfl ?_ | refine TL_q (op_assign rfl) rfl ?_ | (refine' TL_q (op_bin rfl rfl ?_) rfl ?_; rotate_left 1; (· (exact bin_add ⟨by omega, by omega⟩))) | (refine T_no rfl ?_ ?_; (· (assumption)))))
            refine TQ_roundS (k + 1) hkl ?_ (fun w h => h) (by omega)
            (repeat ((first | exact trivial | refine ⟨rfl, ?_⟩)))
        · have hke : k = D.length := by omega
          subst hke
          repeat ((first | with_reducible refine T_seq ?_ | with_reducible refine T_region ?_ | with_reducible refine TL_nil ?_ | with_reducible refine TQ_then ?_ | with_reducible refine T_exit ?_ | with_reducible refine T_ret ?_ | with_reducible refine TQ_then_exit ?_ | with_reducible refine TQ_block_exit ?_ | refine TL_q (op_move rfl) rfl ?_ | refine TL_q (op_assign rfl) rfl ?_ | (refine' TL_q (op_bin rfl rfl ?_) rfl ?_; rotate_left 1; (· (exact bin_lss))) | refine TL_q (op_len_slice rfl Try.underlying58) rfl ?_ | refine TL_q (op_fld rfl fld_60_4) rfl ?_ | (refine' TL_q (op_ld rfl pl_5 ?_ ?_) rfl ?_; rotate_left 4; (· repeat ((first | exact List.mem_cons_self | apply List.mem_append_right))); (· (rfl))) | (refine T_no rfl ?_ ?_; (· (exact dF (by (omega)))))))
          refine TQ_cnt (L' := L) ?_ (by intro p; (try simp only [cnt_append, cnt_cons, cnt_nil]) <;> omega)
          refine TQ_ret1 4 _ rfl rfl ?_
          exact ⟨rfl, rfl⟩
    · have hlp : 0 < (vs.length : Int) := by omega
      cases hi1 : r.2.2 with
      | false =>
        rw [hi1] at hmay
        have hmay' := hmay.symm
        repeat ((first | with_reducible refine T_seq ?_ | with_reducible refine T_region ?_ | with_reducible refine TL_nil ?_ | with_reducible refine TQ_then ?_ | with_reducible refine T_exit ?_ | with_reducible refine T_ret ?_ | with_reducible refine TQ_then_exit ?_ | with_reducible refine TQ_then_ret ?_ | with_reducible refine TQ_block_exit ?_ | refine TL_q (op_move rfl) rfl ?_ | refine TL_q (op_assign rfl) rfl ?_ | (refine' TL_q (op_bin rfl rfl ?_) rfl ?_; rotate_left 1; (· (first | exact bin_lss | exact bin_gtr | exact bbin_eql Try.underlying4))) | refine TL_q (op_not rfl) rfl ?_ | (refine' TL_q (op_pickT rfl ?_ rfl) rfl ?_; (· (first | with_reducible rfl | exact Bool.not_false | exact dT (by (assumption))))) | refine TL_q (op_len_slice rfl Try.underlying50) rfl ?_ | (refine' TG_op (op_call hb_28 rfl (May_S _ ?_)) rfl ?_; (· (omega))) | (refine TL_gpre rfl rfl ?_ ?_; (· (exact dT (by (assumption))))) | refine TL_gq2 (op_fld rfl fld_34_0) rfl ?_ | (refine' TL_gq2 (op_ld rfl pl_5 ?_ ?_) rfl ?_; rotate_left 4; (· repeat ((first | exact List.mem_cons_self | apply List.mem_cons_of_mem | apply List.mem_append_right))); (· (rfl))) | (refine TL_gno rfl rfl ?_ rfl ?_; (· (first | with_reducible rfl | exact Bool.not_false))) | (refine T_yes rfl ?_ ?_; (· (with_reducible rfl))) | (refine T_no rfl ?_ ?_; (· (exact dF (by (omega)))))))
        refine TQ_cnt (L' := L) ?_ (by intro p; (try simp only [cnt_append, cnt_cons, cnt_nil]) <;> omega)
        refine TQ_ret1 4 _ rfl rfl ?_
        refine ⟨?_, rfl⟩
        rw [hmay']
        rfl
      | true =>
        rw [hi1] at hmay
        have hmay' := hmay.symm
        cases hi2 : Vd.alikeV vs w.vd with
        | true =>
          repeat ((first | with_reducible refine T_seq ?_ | with_reducible refine T_region ?_ | with_reducible refine TL_nil ?_ | with_reducible refine TQ_then ?_ | with_reducible refine T_exit ?_ | with_reducible refine T_ret ?_ | with_reducible refine TQ_then_exit ?_ | with_reducible refine TQ_then_ret ?_ | with_reducible refine TQ_block_exit ?_ | refine TL_q (op_move rfl) rfl ?_ | refine TL_q (op_assign rfl) rfl ?_ | (refine' TL_q (op_bin rfl rfl ?_) rfl ?_; rotate_left 1; (· (first | exact bin_lss | exact bin_gtr | exact bbin_eql Try.underlying4))) | refine TL_q (op_not rfl) rfl ?_ | (refine' TL_q (op_pickT rfl ?_ rfl) rfl ?_; (· (first | with_reducible rfl | exact dT (by (assumption))))) | (refine' TL_q (op_pickF rfl ?_ rfl) rfl ?_; (· (exact Bool.not_true))) | refine TL_q (op_len_slice rfl Try.underlying50) rfl ?_ | (refine' TG_op (op_call hb_28 rfl (May_S _ ?_)) rfl ?_; (· (omega))) | (refine TL_gpre rfl rfl ?_ ?_; (· (first | exact Bool.not_true | exact dT (by (assumption))))) | refine TL_gq2 (op_move rfl) rfl ?_ | refine TL_gq2 (op_fld rfl fld_34_0) rfl ?_ | (refine' TL_gq2 (op_ld rfl pl_5 ?_ ?_) rfl ?_; rotate_left 4; (· repeat ((first | exact List.mem_cons_self | apply List.mem_cons_of_mem | apply List.mem_append_right))); (· (rfl))) | (refine TL_gno rfl rfl ?_ rfl ?_; (· (exact Bool.not_false))) | (refine T_yes rfl ?_ ?_; (· (with_reducible rfl))) | (refine T_no rfl ?_ ?_; (· (exact dF (by (omega)))))))
          refine TQ_cnt (L' := L) ?_ (by intro p; (try simp only [cnt_append, cnt_cons, cnt_nil]) <;> omega)
          refine TQ_ret1 4 _ rfl rfl ?_
          refine ⟨?_, rfl⟩
          rw [hmay']
          rfl
        | false =>
          have hc0 : ((vs.countP (fun x => (Vd.endV q x.vd).2) : Nat) : Int) = 0 := by
            have : vs.countP (fun x => (Vd.endV q x.vd).2) = 0 := by
              by_cases h : vs.countP (fun x => (Vd.endV q x.vd).2) = 0
              · exact h
              · exact absurd ⟨hi1, hi2, h⟩ hgo
            omega
          repeat ((first | with_reducible refine T_seq ?_ | with_reducible refine T_region ?_ | with_reducible refine TL_nil ?_ | with_reducible refine TQ_then ?_ | with_reducible refine T_exit ?_ | with_reducible refine T_ret ?_ | with_reducible refine TQ_then_exit ?_ | with_reducible refine TQ_then_ret ?_ | with_reducible refine TQ_block_exit ?_ | refine TL_q (op_move rfl) rfl ?_ | refine TL_q (op_assign rfl) rfl ?_ | (refine' TL_q (op_bin rfl rfl ?_) rfl ?_; rotate_left 1; (· (first | exact bin_lss | exact bin_gtr | exact bbin_eql Try.underlying4))) | refine TL_q (op_not rfl) rfl ?_ | (refine' TL_q (op_pickT rfl ?_ rfl) rfl ?_; (· (exact dT (by (assumption))))) | (refine' TL_q (op_pickF rfl ?_ rfl) rfl ?_; (· (first | with_reducible rfl | exact Bool.not_true))) | refine TL_q (op_len_slice rfl Try.underlying50) rfl ?_ | (refine' TG_op (op_call hb_28 rfl (May_S _ ?_)) rfl ?_; (· (omega))) | (refine TL_gpre rfl rfl ?_ ?_; (· (first | with_reducible rfl | exact Bool.not_true | exact dT (by (assumption))))) | refine TL_gq2 (op_move rfl) rfl ?_ | (refine' TL_gq2 (op_bin rfl rfl ?_) rfl ?_; rotate_left 1; (· (exact bin_eql))) | refine TL_gq2 (op_fld rfl fld_34_0) rfl ?_ | (refine' TL_gq2 (op_ld rfl pl_5 ?_ ?_) rfl ?_; rotate_left 4; (· repeat ((first | exact List.mem_cons_self | apply List.mem_cons_of_mem | apply List.mem_append_right))); (· (rfl))) | (refine T_yes rfl ?_ ?_; (· (exact dT (by (assumption))))) | (refine T_no rfl ?_ ?_; (· (exact dF (by (omega)))))))
          refine TQ_cnt (L' := L) ?_ (by intro p; (try simp only [cnt_append, cnt_cons, cnt_nil]) <;> omega)
          refine TQ_ret1 4 _ rfl rfl ?_
          refine ⟨?_, rfl⟩
          rw [hmay']
          rfl
theorem mergeAll_walk (cq : List Value) (q : Quest) (v : Value) (l : List Said) (W : World) (hq : questR (allBlocks W) cq q) (hl : sliceR 23 saidR (allBlocks W) [v] l) : Calls Try.prog 5 #[.agg cq.toArray, v] W fun e w' => e = .returned (.bool true) ∧ Below W.heap.size W w' :=
  Spec.below (mergeAll_S cq q v l hq hl)
end Go.Proofs.Ytdflhdfapnhjjaa
