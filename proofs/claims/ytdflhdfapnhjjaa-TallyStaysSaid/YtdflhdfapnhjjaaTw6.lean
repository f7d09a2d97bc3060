/-
  Part 6: Gl Gm Gn Go Gp Kb Kc Kd Ke Kf.
-/
import Derived.Test.YtdflhdfapnhjjaaTw5
import Derived.Test.YtdflhdfapnhjjaaTw2
namespace Go.Proofs.Ytdflhdfapnhjjaa
open Go.RowKit
open Vd (RSet Vdt Vote Rec Quest Piece)
set_option linter.unusedVariables false
set_option linter.unusedSimpArgs false
--auto
variable {G : World} {L : Blocks}
/-- A verdict in new memory, a time, an error. -/
def OfOut (L : Blocks) (r : Vdt × Int × Int) (u : Value) (M : Blocks) : Prop := ∃ a c B a2 c2 B2 N, u = .tuple #[.agg #[.int .u8 r.1.code, .slice a r.1.sets.length c, .slice a2 r.1.soa.length c2], .int .u32 r.2.1, .int .i64 r.2.2] ∧
  ORow rsR 60 5 N a c r.1.sets B ∧ ORow rsR 60 5 N a2 c2 r.1.soa B2 ∧ Wr N ∧ M = B2 ++ (B ++ (N ++ L))
theorem OfOut.bad (e : Int) : OfOut L (Vdt.none, 0, e) (.tuple #[.agg #[.int .u8 0, .slice none 0 0, .slice none 0 0], .int .u32 0, .int .i64 e]) L := ⟨none, 0, [], none, 0, [], [], rfl, ORow.nil _, ORow.nil _, Wr.nil, rfl⟩
theorem rs_bare {N : Blocks} {s : RSet} {a : Option Addr} {c : Nat} (h : rsR N [.string (bs s.name), .int .u16 s.kind, .int .u16 s.cls, .int .u32 s.ttl, .slice a s.data.length c] s) : rsR N [.string (bs s.name), .int .u16 s.kind, .int .u16 s.cls, .int .u32 0, .slice a s.data.length c] (Vd.bare s) := by
  obtain ⟨d, e, h1, h2, h3, h4, h5⟩ := h
  simp only [List.cons.injEq, true_and, and_true] at e
  subst e
  exact ⟨_, rfl, h1, h2, h3, h4, by simp [Vd.bare]⟩
theorem T_midK {P : Program} {n : Nat} {ρ : Slots} {Q : Exit → Act → World → Prop} {σ : Type} {x y : Code} (I : σ → Prop) (ρI : σ → Slots) (LI : σ → Blocks) (hx : T P G n ρ L x (Exit.then (Mid G n I ρI LI) Q)) (hy : ∀ s, I s → T P G n (ρI s) (LI s) y Q) : T P G n ρ L x (Exit.then (y.wp P Q) Q) :=
  T_mono hx fun e a w h => by
    cases e with
    | normal =>
      obtain ⟨s, h1, h2, h3⟩ := h
      exact (hy s h1).out a w h2 h3
    | _ => exact h
theorem Up_ofD {P : Program} {n : Nat} {ρ : Slots} {Q : Exit → Act → World → Prop} {ops : Array Oper} {K : Blocks} {W : List Nat} {fuel : Nat} {listed : Array Bool} {i d : Nat} {oi : Oper} {Φ : Value → Blocks → Prop} (hi : ops[i]? = some oi) (hd : oi.dst = some d) (hdn : Nat.blt d n = true) (hg : oi.guard = none)
    (hO : OpT P G ρ L oi.op oi.type Φ) (h : ∀ v L', Φ v L' → (i ∈ W ∨ ∀ p ∈ K, p ∈ L') ∧ TA P G ops n K W Q fuel (listed.setIfInBounds i true) ((d, v) :: ρ) L') : Up P G ops n K W Q fuel listed ρ L i :=
  Up_of hi (by rw [hd]; exact hdn) hg hO (by rw [hd]; exact h)
theorem op_stAll {P : Program} {ρ : Slots} {ty : TypeId} {x y : Operand} {b k : Nat} {t : TypeId} {C D : Array Value} {te : TypeId} (hx : ev ρ x = some (.pointer (some ⟨b, 0, none⟩))) (hy : ev ρ y = some (.agg D))
    (ht : structTy P t k = true) (hC : C.size = k) (hD : D.size = k) (hone : allOne D = true) : OpV P G ρ ((b, Obj.cells C te (0, 0)) :: L) (.store t x y) ty undef ((b, Obj.cells D te (0, 0)) :: L) := by
  have h1 := op_stA (G := G) (P := P) (ρ := ρ) (L := L) (ty := ty) (b := b) (C := C) (te := te) (t := t) (cs := D.toList) hx (by simpa using hy) (by rw [Array.length_toList, hD]; exact ht) (fun v hv => List.all_eq_true.1 hone v hv) (by rw [Array.length_toList, hD, hC]; omega)
  have h2 : putAt C 0 D.toList = D := by
    unfold putAt
    rw [List.drop_eq_nil_of_le (by simp; omega)]
    simp
  rw [h2] at h1
  exact h1
set_option maxRecDepth 100000 in
set_option maxHeartbeats 4000000 in
theorem Of_S (cq cm : List Value) (q : Quest) (m : Vd.Msg) (hq : questR L cq q) (hm : msgR L cm m) (hqn : q.name.length ≤ 1000000) (hA1 : m.answers.length ≤ 10000) (hA2 : ∀ x ∈ m.answers, x.name.length ≤ 1000000 ∧ x.data.length ≤ 1000000)
    (hB1 : m.auth.length ≤ 10000) (hB2 : ∀ x ∈ m.auth, x.name.length ≤ 1000000 ∧ x.data.length ≤ 1000000) : Spec Try.prog G 56 #[.agg cq.toArray, .agg cm.toArray] L (OfOut L (Vd.ofM q m)) := by
  have hq0 := hq
  obtain ⟨rfl, _, hk0, hc0⟩ := hq
  obtain ⟨h0, h1, h2, h3, h4, h5, h6, h7, h8, h9, qs, va, vb, x, k, e0, e1, e2, e3, e4, rfl, hma, hmb, hcode, _⟩ := hm
  obtain ⟨aA, cA, ea, hma⟩ := hma.val
  obtain ⟨aB, cB, eb, hmb⟩ := hmb.val
  simp only [List.cons.injEq, and_true] at ea eb
  subst ea eb
  obtain ⟨gl1, gb1⟩ := group_bd m.answers (fun x hx => (hA2 x hx).2)
  obtain ⟨gl2, gb2⟩ := group_bd m.auth (fun x hx => (hB2 x hx).2)
  have hOf : Vd.ofM q m = if !Nm.may q.name || (m.code != 0 && m.code != 3) then (Vdt.none, 0, 1) else match Vd.follow q (Vd.group m.answers) with
    | ⟨l, pos, last, e⟩ =>
      if e ≠ 0 then (Vdt.none, 0, e)
      else if m.code = 3 ∧ last ≠ [] then (Vdt.none, 0, 3)
      else if last ≠ [] then (⟨m.code, (l ++ last).map Vd.bare, []⟩, Vd.leastT (l ++ last) 2147483647, 0)
      else match Vd.findSoa (Vd.group m.auth) pos q.cls with
        | (s, is, e) =>
          if e ≠ 0 then (Vdt.none, 0, e)
          else if !is then (⟨m.code, (l ++ last).map Vd.bare, []⟩, 0, 0)
          else (⟨m.code, (l ++ last).map Vd.bare, [Vd.bare s]⟩, min (Vd.leastT (l ++ last) 2147483647) (Vd.soaTime s), 0) := rfl
  have hAt : ∀ y ∈ m.answers, 0 ≤ y.ttl ∧ y.ttl ≤ 4294967295 := recs_ttl hma
  have hfi := follow_in q (Vd.group m.answers)
  have g10 : (#[h0, h1, h2, h3, h4, h5, h6, h7, h8, h9, .int .u8 m.code, qs, .slice aA m.answers.length cA, .slice aB m.auth.length cB, x, k, e0, e1, e2, e3, e4] : Array Value)[0 + 0 + 10]? = some (.int .u8 m.code) := rfl
  have hqm : q.name.length ≤ maxLen := by unfold maxLen; omega
  refine Spec_of (n := 131) Try.func56 rfl rfl rfl ?_
  refine T_seq (T_region (TL_new (op_boxA rfl) rfl ?_))
  intro bQ
  refine TL_new (op_boxA rfl) rfl ?_
  intro bM
  refine TL_new (op_alloc zero_42 rfl) rfl ?_
  intro bV
  cases hmay : Nm.may q.name with
  | false =>
    rw [hOf, hmay]
    repeat ((first | with_reducible refine T_seq ?_ | with_reducible refine T_region ?_ | with_reducible refine TL_nil ?_ | with_reducible refine TQ_then ?_ | with_reducible refine T_ret ?_ | with_reducible refine TQ_then_ret ?_ | refine TL_q (op_move rfl) rfl ?_ | refine TL_q (op_assign rfl) rfl ?_ | refine TL_q (op_not rfl) rfl ?_ | (refine' TL_q (op_pickT rfl ?_ rfl) rfl ?_; (· (exact xT (by (assumption))))) | refine TL_q (op_fld rfl fld_32_0) rfl ?_ | (refine' TL_q (op_ld rfl pl_5 ?_ ?_) rfl ?_; rotate_left 4; (· repeat ((first | exact List.mem_cons_self | apply List.mem_cons_of_mem))); (· (rfl))) | (refine' TL_op (op_call hb_58 rfl (refMay_S _ ?_)) rfl ?_; (· (omega))) | (refine TL_gno rfl rfl ?_ rfl ?_; (· (exact xT (by (assumption))))) | refine TL_gundef rfl rfl rfl ?_ | (refine TL_stAll rfl rfl st_42 rfl rfl rfl ?_) | refine TL_q (op_build rfl (bl_42_ )) rfl ?_ | (refine T_yes rfl ?_ ?_; (· (with_reducible rfl)))))
    refine TQ_retC3 4 42 5 6 rfl rfl rfl rfl st_42 (by repeat ((exact List.mem_cons_self))) rfl (fun w h => Heap.cnt (L' := L) h (by intro p; (try simp only [cnt_append, cnt_cons, cnt_nil]) <;> omega)) ?_
    exact OfOut.bad _
  | true =>
  by_cases hc3 : m.code = 0 ∨ m.code = 3
  · have hOf2 : Vd.ofM q m = match Vd.follow q (Vd.group m.answers) with
      | ⟨l, pos, last, e⟩ =>
        if e ≠ 0 then (Vdt.none, 0, e)
        else if m.code = 3 ∧ last ≠ [] then (Vdt.none, 0, 3)
        else if last ≠ [] then (⟨m.code, (l ++ last).map Vd.bare, []⟩, Vd.leastT (l ++ last) 2147483647, 0)
        else match Vd.findSoa (Vd.group m.auth) pos q.cls with
          | (s, is, e) =>
            if e ≠ 0 then (Vdt.none, 0, e)
            else if !is then (⟨m.code, (l ++ last).map Vd.bare, []⟩, 0, 0)
            else (⟨m.code, (l ++ last).map Vd.bare, [Vd.bare s]⟩, min (Vd.leastT (l ++ last) 2147483647) (Vd.soaTime s), 0) := by
      rw [hOf, hmay, if_neg (by rcases hc3 with h | h <;> simp [h])]
    rw [hOf2]
    clear hOf hOf2
    have hKm : ∀ z ∈ [(bQ, Obj.cells #[.string (bs q.name), .int .u16 q.kind, .int .u16 q.cls] 34 (0, 0)), (bM, Obj.cells #[h0, h1, h2, h3, h4, h5, h6, h7, h8, h9, .int .u8 m.code, qs, .slice aA m.answers.length cA, .slice aB m.auth.length cB, x, k, e0, e1, e2, e3, e4] 32 (0, 0))], z ∈ (bV, Obj.cells #[.int .u8 0, .slice none 0 0, .slice none 0 0] 42 (0, 0)) :: ((bM, Obj.cells #[h0, h1, h2, h3, h4, h5, h6, h7, h8, h9, .int .u8 m.code, qs, .slice aA m.answers.length cA, .slice aB m.auth.length cB, x, k, e0, e1, e2, e3, e4] 32 (0, 0)) :: ((bQ, Obj.cells #[.string (bs q.name), .int .u16 q.kind, .int .u16 q.cls] 34 (0, 0)) :: L)) := (mem_of_cnt (by intro p; (try simp only [cnt_append, cnt_cons, cnt_nil]) <;> omega))
    repeat ((first | with_reducible refine TL_nil ?_ | with_reducible refine TQ_then ?_ | refine TL_q (op_assign rfl) rfl ?_))
    refine T_mid (σ := Unit) (fun _ => True) (fun _ => [(2, .pointer (some ⟨bQ, 0, none⟩)), (3, .pointer (some ⟨bM, 0, none⟩)), (4, .pointer (some ⟨bV, 0, none⟩))]) (fun _ => (bV, Obj.cells #[.int .u8 0, .slice none 0 0, .slice none 0 0] 42 (0, 0)) :: ((bM, Obj.cells #[h0, h1, h2, h3, h4, h5, h6, h7, h8, h9, .int .u8 m.code, qs, .slice aA m.answers.length cA, .slice aB m.auth.length cB, x, k, e0, e1, e2, e3, e4] 32 (0, 0)) :: ((bQ, Obj.cells #[.string (bs q.name), .int .u16 q.kind, .int .u16 q.cls] 34 (0, 0)) :: L))) ?_ ?_
    · rcases hc3 with hc3 | hc3
      · repeat ((first | with_reducible refine T_seq ?_ | with_reducible refine T_region ?_ | with_reducible refine TL_nil ?_ | with_reducible refine TQ_then ?_ | with_reducible refine T_skip ?_ | refine TL_q (op_move rfl) rfl ?_ | refine TL_q (op_not rfl) rfl ?_ | (refine' TL_q (op_pickF rfl ?_ rfl) rfl ?_; (· (exact xF (by (assumption))))) | refine TL_q (op_fld rfl fld_32_0) rfl ?_ | (refine' TL_q (op_ld rfl pl_5 ?_ ?_) rfl ?_; rotate_left 4; (· repeat ((first | exact List.mem_cons_self | apply List.mem_cons_of_mem))); (· (rfl))) | (refine' TL_op (op_call hb_58 rfl (refMay_S _ ?_)) rfl ?_; (· (omega))) | (refine TL_gpre rfl rfl ?_ ?_; (· (exact xF (by (assumption))))) | refine TL_gq2 (op_move rfl) rfl ?_ | (refine' TL_gq2 (op_bin rfl rfl ?_) rfl ?_; rotate_left 1; (· (exact bin_neq))) | (refine' TL_gq2 (op_pickF rfl ?_ rfl) rfl ?_; (· (exact nF (by (assumption))))) | refine TL_gq2 (op_fld rfl fld_25_10) rfl ?_ | refine TL_gq2 (op_fld rfl fld_32_0) rfl ?_ | (refine' TL_gq2 (op_ld rfl pl_5 ?_ ?_) rfl ?_; rotate_left 4; (· repeat ((first | exact List.mem_cons_self | apply List.mem_cons_of_mem))); (· (assumption))) | (refine TL_gno rfl rfl ?_ rfl ?_; (· (exact nF (by (assumption))))) | (refine T_no rfl ?_ ?_; (· (with_reducible rfl)))))
        refine TQ_mid () trivial ?_ (fun w h => h)
        (repeat ((first | exact trivial | refine ⟨rfl, ?_⟩)))
      · repeat ((first | with_reducible refine T_seq ?_ | with_reducible refine T_region ?_ | with_reducible refine TL_nil ?_ | with_reducible refine TQ_then ?_ | with_reducible refine T_skip ?_ | refine TL_q (op_move rfl) rfl ?_ | refine TL_q (op_not rfl) rfl ?_ | (refine' TL_q (op_pickF rfl ?_ rfl) rfl ?_; (· (exact xF (by (assumption))))) | refine TL_q (op_fld rfl fld_32_0) rfl ?_ | (refine' TL_q (op_ld rfl pl_5 ?_ ?_) rfl ?_; rotate_left 4; (· repeat ((first | exact List.mem_cons_self | apply List.mem_cons_of_mem))); (· (rfl))) | (refine' TL_op (op_call hb_58 rfl (refMay_S _ ?_)) rfl ?_; (· (omega))) | (refine TL_gpre rfl rfl ?_ ?_; (· (first | exact nT (by (omega)) | exact xF (by (assumption))))) | refine TL_gq2 (op_move rfl) rfl ?_ | (refine' TL_gq2 (op_bin rfl rfl ?_) rfl ?_; rotate_left 1; (· (exact bin_neq))) | (refine' TL_gq2 (op_pickT rfl ?_ rfl) rfl ?_; (· (exact nT (by (omega))))) | refine TL_gq2 (op_fld rfl fld_25_10) rfl ?_ | refine TL_gq2 (op_fld rfl fld_32_0) rfl ?_ | (refine' TL_gq2 (op_ld rfl pl_5 ?_ ?_) rfl ?_; rotate_left 4; (· repeat ((first | exact List.mem_cons_self | apply List.mem_cons_of_mem))); (· (assumption))) | (refine T_no rfl ?_ ?_; (· (exact nF (by (assumption)))))))
        refine TQ_mid () trivial ?_ (fun w h => h)
        (repeat ((first | exact trivial | refine ⟨rfl, ?_⟩)))
    intro _ _
    repeat ((with_reducible refine T_seq ?_))
    refine T_draw follows_mixed ([(bQ, Obj.cells #[.string (bs q.name), .int .u16 q.kind, .int .u16 q.cls] 34 (0, 0)), (bM, Obj.cells #[h0, h1, h2, h3, h4, h5, h6, h7, h8, h9, .int .u8 m.code, qs, .slice aA m.answers.length cA, .slice aB m.auth.length cB, x, k, e0, e1, e2, e3, e4] 32 (0, 0))]) [] ?_
    (refine' TA_take 0 rfl rfl (by kernel_rfl) (quiet_q (op_ldAll rfl st_34 ?_ ?_)) ?_ ?_; rotate_left 3; (· repeat ((exact List.mem_cons_self))); (· (rfl)); (· (assumption)))
    (refine' TA_take 1 rfl rfl (by kernel_rfl) (quiet_q (op_fld rfl fld_32_2)) ?_ ?_; (· (assumption)))
    (refine' TA_take 2 rfl rfl (by kernel_rfl) (quiet_q (op_ld rfl pl_27 ?_ ?_)) ?_ ?_; rotate_left 4; (· repeat ((first | exact List.mem_cons_self | apply List.mem_cons_of_mem))); (· (rfl)); (· (assumption)))
    refine TA_oneD 3 (by kernel_rfl) rfl rfl rfl rfl (op_call hb_83 rfl (Group_S _ m.answers (mono_slice mono_rec _ _ _ _ (mem_of_cnt (by intro p; (try simp only [cnt_append, cnt_cons, cnt_nil]) <;> omega)) hma) hA1 (fun x hx => (hA2 x hx).1) (fun x hx => (hA2 x hx).2))) ?_; rintro _ _ ⟨aG, cG, BG, N, rfl, hG, hN, rfl⟩; refine ⟨Or.inr (mem_of_cnt (by intro p; (try simp only [cnt_append, cnt_cons, cnt_nil]) <;> omega)), ?_⟩
    refine TA_oneD 4 (by kernel_rfl) rfl rfl rfl rfl (op_call hb_82 rfl (Follow_S (K := BG) (N := N) _ q _ (Vd.group m.answers) ⟨rfl, hqm, hk0, hc0⟩ hqn (mem_of_cnt (by intro p; (try simp only [cnt_append, cnt_cons, cnt_nil]) <;> omega)) (mem_of_cnt (by intro p; (try simp only [cnt_append, cnt_cons, cnt_nil]) <;> omega)) ((hG.imp (r' := fun _ => rsR N) (L' := []) (fun cs x _ h => h)).sliceR mono_const (mem_of_cnt (by intro p; (try simp only [cnt_append, cnt_cons, cnt_nil]) <;> omega)) (mem_of_cnt (by intro p; (try simp only [cnt_append, cnt_cons, cnt_nil]) <;> omega))) (fun s hs => Nat.le_trans (gb1 s hs).1 (by omega)) (fun s hs => (gb1 s hs).2.2.2))) ?_; rintro _ _ ⟨aC, cC, BC, aE, cE, BE, rfl, hC, hE, rfl⟩; refine ⟨Or.inr (mem_of_cnt (by intro p; (try simp only [cnt_append, cnt_cons, cnt_nil]) <;> omega)), ?_⟩
    (refine' TA_take 5 rfl rfl (by kernel_rfl) (quiet_q (op_move rfl)) ?_ ?_; (· (intro p hp; grind)))
    (refine' TA_take 6 rfl rfl (by kernel_rfl) (quiet_q (op_extract rfl rfl)) ?_ ?_; (· (intro p hp; grind)))
    (refine' TA_take 7 rfl rfl (by kernel_rfl) (quiet_q (op_extract rfl rfl)) ?_ ?_; (· (intro p hp; grind)))
    (refine' TA_take 8 rfl rfl (by kernel_rfl) (quiet_q (op_extract rfl rfl)) ?_ ?_; (· (intro p hp; grind)))
    (refine' TA_take 9 rfl rfl (by kernel_rfl) (quiet_q (op_extract rfl rfl)) ?_ ?_; (· (intro p hp; grind)))
    (refine' TA_take 10 rfl rfl (by kernel_rfl) (quiet_q (op_assign rfl)) ?_ ?_; (· (intro p hp; grind)))
    (refine' TA_take 11 rfl rfl (by kernel_rfl) (quiet_q (op_assign rfl)) ?_ ?_; (· (intro p hp; grind)))
    (refine' TA_take 12 rfl rfl (by kernel_rfl) (quiet_q (op_assign rfl)) ?_ ?_; (· (intro p hp; grind)))
    (refine' TA_take 13 rfl rfl (by kernel_rfl) (quiet_q (op_assign rfl)) ?_ ?_; (· (intro p hp; grind)))
    refine TA_done (by kernel_rfl) ?_
    obtain ⟨⟨chain, pos, last, e⟩, hT⟩ : ∃ t, Vd.follow q (Vd.group m.answers) = t := ⟨_, rfl⟩
    rw [hT] at hC hE hfi ⊢
    dsimp only at hC hE hfi ⊢
    obtain ⟨hi1, hi2, hi3, hi4, hi5⟩ := hfi
    refine TQ_cnt (L' := ((bV, Obj.cells #[.int .u8 0, .slice none 0 0, .slice none 0 0] 42 (0, 0)) :: ((bM, Obj.cells #[h0, h1, h2, h3, h4, h5, h6, h7, h8, h9, .int .u8 m.code, qs, .slice aA m.answers.length cA, .slice aB m.auth.length cB, x, k, e0, e1, e2, e3, e4] 32 (0, 0)) :: ((bQ, Obj.cells #[.string (bs q.name), .int .u16 q.kind, .int .u16 q.cls] 34 (0, 0)) :: (BE ++ (BC ++ (BG ++ (N ++ L)))))))) ?_ (by intro p; (try simp only [cnt_append, cnt_cons, cnt_nil]) <;> omega)
    by_cases he : e = 0
    · rw [if_neg (by simpa using he)]
      by_cases h3e : m.code = 3 ∧ last ≠ []
      · rw [if_pos h3e]
        obtain ⟨h3c, h3l⟩ := h3e
        have hlp : 0 < last.length := List.length_pos_iff.2 h3l
        repeat ((first | with_reducible refine T_seq ?_ | with_reducible refine T_region ?_ | with_reducible refine TL_nil ?_ | with_reducible refine TQ_then ?_ | with_reducible refine T_skip ?_ | with_reducible refine T_ret ?_ | with_reducible refine TQ_then_ret ?_ | refine TL_q (op_move rfl) rfl ?_ | refine TL_q (op_assign rfl) rfl ?_ | (refine' TL_q (op_bin rfl rfl ?_) rfl ?_; rotate_left 1; (· (first | exact bin_eql | exact bin_neq))) | (refine' TL_q (op_pickT rfl ?_ rfl) rfl ?_; (· (exact dT (by (assumption))))) | refine TL_q (op_fld rfl fld_25_10) rfl ?_ | refine TL_q (op_fld rfl fld_32_0) rfl ?_ | (refine' TL_q (op_ld rfl pl_5 ?_ ?_) rfl ?_; rotate_left 4; (· repeat ((first | exact List.mem_cons_self | apply List.mem_cons_of_mem))); (· (assumption))) | (refine TL_gpre rfl rfl ?_ ?_; (· (exact dT (by (assumption))))) | refine TL_gq2 (op_move rfl) rfl ?_ | (refine' TL_gq2 (op_bin rfl rfl ?_) rfl ?_; rotate_left 1; (· (exact bin_gtr))) | refine TL_gq2 (op_len_slice rfl Try.underlying40) rfl ?_ | (refine TL_stAll rfl rfl st_42 rfl rfl rfl ?_) | refine TL_q (op_build rfl (bl_42_ )) rfl ?_ | (refine T_yes rfl ?_ ?_; (· (exact dT (by (first | assumption | omega))))) | (refine T_no rfl ?_ ?_; (· (exact nF (by (assumption)))))))
        refine TQ_retC3 4 42 5 6 rfl rfl rfl rfl st_42 (by repeat ((exact List.mem_cons_self))) rfl (fun w h => Heap.cnt (L' := L) h (by intro p; (try simp only [cnt_append, cnt_cons, cnt_nil]) <;> omega)) ?_
        exact OfOut.bad _
      rw [if_neg h3e]
      repeat ((with_reducible refine TQ_then ?_))
      refine T_seq (T_seq ?_)
      repeat ((first | with_reducible refine T_region ?_ | with_reducible refine TL_nil ?_ | with_reducible refine TQ_then ?_ | with_reducible refine T_skip ?_ | refine TL_q (op_move rfl) rfl ?_ | (refine' TL_q (op_bin rfl rfl ?_) rfl ?_; rotate_left 1; (· (exact bin_neq))) | (refine T_no rfl ?_ ?_; (· (exact nF (by (assumption)))))))
      refine T_mid (σ := Unit) (fun _ => True) (fun _ => [(2, .pointer (some ⟨bQ, 0, none⟩)), (3, .pointer (some ⟨bM, 0, none⟩)), (4, .pointer (some ⟨bV, 0, none⟩)), (7, .slice aC chain.length cC), (8, .string (bs pos)), (9, .slice aE last.length cE)]) (fun _ => ((bV, Obj.cells #[.int .u8 0, .slice none 0 0, .slice none 0 0] 42 (0, 0)) :: ((bM, Obj.cells #[h0, h1, h2, h3, h4, h5, h6, h7, h8, h9, .int .u8 m.code, qs, .slice aA m.answers.length cA, .slice aB m.auth.length cB, x, k, e0, e1, e2, e3, e4] 32 (0, 0)) :: ((bQ, Obj.cells #[.string (bs q.name), .int .u16 q.kind, .int .u16 q.cls] 34 (0, 0)) :: (BE ++ (BC ++ (BG ++ (N ++ L)))))))) ?_ ?_
      · by_cases h3 : m.code = 3
        · have hl0 : last.length = 0 := by
            cases last with
            | nil => rfl
            | cons y r => exact absurd ⟨h3, by simp⟩ h3e
          repeat ((first | with_reducible refine T_seq ?_ | with_reducible refine T_region ?_ | with_reducible refine TL_nil ?_ | with_reducible refine TQ_then ?_ | with_reducible refine T_skip ?_ | refine TL_q (op_move rfl) rfl ?_ | (refine' TL_q (op_bin rfl rfl ?_) rfl ?_; rotate_left 1; (· (exact bin_eql))) | (refine' TL_q (op_pickT rfl ?_ rfl) rfl ?_; (· (exact dT (by (assumption))))) | refine TL_q (op_fld rfl fld_25_10) rfl ?_ | refine TL_q (op_fld rfl fld_32_0) rfl ?_ | (refine' TL_q (op_ld rfl pl_5 ?_ ?_) rfl ?_; rotate_left 4; (· repeat ((first | exact List.mem_cons_self | apply List.mem_cons_of_mem))); (· (assumption))) | (refine TL_gpre rfl rfl ?_ ?_; (· (exact dT (by (assumption))))) | refine TL_gq2 (op_move rfl) rfl ?_ | (refine' TL_gq2 (op_bin rfl rfl ?_) rfl ?_; rotate_left 1; (· (exact bin_gtr))) | refine TL_gq2 (op_len_slice rfl Try.underlying40) rfl ?_ | (refine T_no rfl ?_ ?_; (· (exact dF (by (omega)))))))
          refine TQ_mid () trivial ?_ (fun w h => h)
          (repeat ((first | exact trivial | refine ⟨rfl, ?_⟩)))
        · repeat ((first | with_reducible refine T_seq ?_ | with_reducible refine T_region ?_ | with_reducible refine TL_nil ?_ | with_reducible refine TQ_then ?_ | with_reducible refine T_skip ?_ | refine TL_q (op_move rfl) rfl ?_ | (refine' TL_q (op_bin rfl rfl ?_) rfl ?_; rotate_left 1; (· (exact bin_eql))) | (refine' TL_q (op_pickF rfl ?_ rfl) rfl ?_; (· (exact dF (by (assumption))))) | refine TL_q (op_fld rfl fld_25_10) rfl ?_ | refine TL_q (op_fld rfl fld_32_0) rfl ?_ | (refine' TL_q (op_ld rfl pl_5 ?_ ?_) rfl ?_; rotate_left 4; (· repeat ((first | exact List.mem_cons_self | apply List.mem_cons_of_mem))); (· (assumption))) | (refine TL_gno rfl rfl ?_ rfl ?_; (· (exact dF (by (assumption))))) | (refine T_no rfl ?_ ?_; (· (with_reducible rfl)))))
          refine TQ_mid () trivial ?_ (fun w h => h)
          (repeat ((first | exact trivial | refine ⟨rfl, ?_⟩)))
      intro _ _
      obtain ⟨tl, htl⟩ : ∃ l, chain ++ last = l := ⟨_, rfl⟩
      have htll : tl.length = chain.length + last.length := by rw [← htl, List.length_append]
      rw [htl]
      have htlg : ∀ s ∈ tl, s ∈ Vd.group m.answers := fun s hs => by
        rw [← htl] at hs
        rcases List.mem_append.1 hs with hs | hs
        · exact hi1 s hs
        · exact hi2 s hs
      have hlt : ∀ i, i ≤ tl.length → 0 ≤ Vd.leastT (tl.take i) 2147483647 ∧ Vd.leastT (tl.take i) 2147483647 ≤ 4294967295 := fun i _ => leastT_bd _ _ (fun s hs => group_ttl m.answers (fun y hy => hAt y hy) s (htlg s (List.mem_of_mem_take hs))) (by omega)
      have hcapC := hC.cap
      have hcapE := hE.cap
      repeat ((first | with_reducible refine T_seq ?_ | with_reducible refine T_block ?_ | with_reducible refine T_region ?_ | with_reducible refine TL_nil ?_ | with_reducible refine TQ_then ?_ | refine TL_q (op_assign rfl) rfl ?_ | refine TL_q (op_fld rfl fld_25_10) rfl ?_ | refine TL_q (op_fld rfl fld_32_0) rfl ?_ | (refine' TL_q (op_ld rfl pl_5 ?_ ?_) rfl ?_; rotate_left 4; (· repeat ((first | exact List.mem_cons_self | apply List.mem_cons_of_mem))); (· (assumption))) | (refine TL_stAll rfl rfl st_42 rfl rfl rfl ?_) | (refine TL_new (op_alloc (C := #[(.int .u8 0), (.slice none 0 0), (.slice none 0 0)]) zero_42 rfl) rfl ?_; intro bNew) | refine TL_q (op_build rfl (bl_42_0 _)) rfl ?_))
      revert bNew
      intro b11
      refine T_loopS (σ := Nat × Option Addr × Nat × Blocks) (fun y => y.1 ≤ tl.length ∧ ORow rsR 60 5 N y.2.1 y.2.2.1 ((tl.take y.1).map Vd.bare) y.2.2.2) (fun y => [(2, .pointer (some ⟨bQ, 0, none⟩)), (3, .pointer (some ⟨bM, 0, none⟩)), (4, .pointer (some ⟨bV, 0, none⟩)), (7, .slice aC chain.length cC), (8, .string (bs pos)), (9, .slice aE last.length cE), (11, .pointer (some ⟨b11, 0, none⟩)), (12, .int .u32 (Vd.leastT (tl.take y.1) 2147483647)), (13, .int .i64 (y.1 : Nat))])
        (fun y => (b11, Obj.cells #[.int .u8 m.code, .slice y.2.1 ((tl.take y.1).map Vd.bare).length y.2.2.1, .slice none 0 0] 42 (0, 0)) :: (y.2.2.2 ++ ((bV, Obj.cells #[.int .u8 0, .slice none 0 0, .slice none 0 0] 42 (0, 0)) :: ((bM, Obj.cells #[h0, h1, h2, h3, h4, h5, h6, h7, h8, h9, .int .u8 m.code, qs, .slice aA m.answers.length cA, .slice aB m.auth.length cB, x, k, e0, e1, e2, e3, e4] 32 (0, 0)) :: ((bQ, Obj.cells #[.string (bs q.name), .int .u16 q.kind, .int .u16 q.cls] 34 (0, 0)) :: (BE ++ (BC ++ (BG ++ (N ++ L))))))))) (fun y => tl.length - y.1) (0, none, 0, []) ⟨Nat.zero_le _, ORow.nil _⟩ ?_ (fun w h => h) ?_
      (repeat ((first | exact trivial | refine ⟨rfl, ?_⟩)))
      rintro ⟨i, a, c, B⟩ ⟨hi, hB⟩
      dsimp only at hi hB ⊢
      have hlti := hlt i hi
      by_cases hil : i < tl.length
      · obtain ⟨s, hs⟩ : ∃ s, tl[i]? = some s := ⟨_, List.getElem?_eq_getElem hil⟩
        have hmap : (tl.take (i + 1)).map Vd.bare = (tl.take i).map Vd.bare ++ [Vd.bare s] := by rw [List.take_add_one, hs]; simp
        have hlst : Vd.leastT (tl.take (i + 1)) 2147483647 = min (Vd.leastT (tl.take i) 2147483647) s.ttl := by rw [List.take_add_one, hs]; exact leastT_snoc _ _ _
        obtain ⟨sa, sc, hs2, hload⟩ : ∃ sa sc, rsR N [.string (bs s.name), .int .u16 s.kind, .int .u16 s.cls, .int .u32 s.ttl, .slice sa s.data.length sc] s ∧ ((i < chain.length ∧ ∃ bb cur, aC = some ⟨bb, 0, none⟩ ∧ (bb, Obj.cells cur 60 (0, 0)) ∈ (b11, Obj.cells #[.int .u8 m.code, .slice a ((tl.take i).map Vd.bare).length c, .slice none 0 0] 42 (0, 0)) :: (B ++ ((bV, Obj.cells #[.int .u8 0, .slice none 0 0, .slice none 0 0] 42 (0, 0)) :: ((bM, Obj.cells #[h0, h1, h2, h3, h4, h5, h6, h7, h8, h9, .int .u8 m.code, qs, .slice aA m.answers.length cA, .slice aB m.auth.length cB, x, k, e0, e1, e2, e3, e4] 32 (0, 0)) :: ((bQ, Obj.cells #[.string (bs q.name), .int .u16 q.kind, .int .u16 q.cls] 34 (0, 0)) :: (BE ++ (BC ++ (BG ++ (N ++ L)))))))) ∧ ∀ j v, ([.string (bs s.name), .int .u16 s.kind, .int .u16 s.cls, .int .u32 s.ttl, .slice sa s.data.length sc] : List Value)[j]? = some v → cur[0 + i * 5 + j]? = some v) ∨
            (¬ i < chain.length ∧ ∃ bb cur, aE = some ⟨bb, 0, none⟩ ∧ (bb, Obj.cells cur 60 (0, 0)) ∈ (b11, Obj.cells #[.int .u8 m.code, .slice a ((tl.take i).map Vd.bare).length c, .slice none 0 0] 42 (0, 0)) :: (B ++ ((bV, Obj.cells #[.int .u8 0, .slice none 0 0, .slice none 0 0] 42 (0, 0)) :: ((bM, Obj.cells #[h0, h1, h2, h3, h4, h5, h6, h7, h8, h9, .int .u8 m.code, qs, .slice aA m.answers.length cA, .slice aB m.auth.length cB, x, k, e0, e1, e2, e3, e4] 32 (0, 0)) :: ((bQ, Obj.cells #[.string (bs q.name), .int .u16 q.kind, .int .u16 q.cls] 34 (0, 0)) :: (BE ++ (BC ++ (BG ++ (N ++ L)))))))) ∧ ∀ j v, ([.string (bs s.name), .int .u16 s.kind, .int .u16 s.cls, .int .u32 s.ttl, .slice sa s.data.length sc] : List Value)[j]? = some v → cur[0 + ((i : Int) - (chain.length : Nat)).toNat * 5 + j]? = some v)) := by
          by_cases hic : i < chain.length
          · obtain ⟨bb, cur, q1, q2, _, _, _, q3⟩ := hC.block (fun e => by rw [e] at hic; simp at hic)
            obtain ⟨cs, _, r2, _, r3⟩ := q3 i s (by rw [← htl, List.getElem?_append_left hic] at hs; exact hs)
            obtain ⟨sa, sc, rfl, _⟩ := r2.vals
            exact ⟨sa, sc, r2, Or.inl ⟨hic, bb, cur, q1, by rw [q2]; simp, by simpa only [Nat.zero_add] using r3⟩⟩
          · obtain ⟨bb, cur, q1, q2, _, _, _, q3⟩ := hE.block (fun e => by rw [e] at htll; simp at htll; omega)
            obtain ⟨cs, _, r2, _, r3⟩ := q3 (i - chain.length) s (by rw [← htl, List.getElem?_append_right (by omega)] at hs; exact hs)
            obtain ⟨sa, sc, rfl, _⟩ := r2.vals
            refine ⟨sa, sc, r2, Or.inr ⟨hic, bb, cur, q1, by rw [q2]; simp, ?_⟩⟩
            rw [show ((i : Int) - (chain.length : Nat)).toNat = i - chain.length by omega]
            simpa only [Nat.zero_add] using r3
        have hsT : 0 ≤ s.ttl ∧ s.ttl ≤ 4294967295 := by obtain ⟨_, _, _, _, _, _, _, h⟩ := hs2.vals; exact h
        have hBn : rsR N [.string (bs s.name), .int .u16 s.kind, .int .u16 s.cls, .int .u32 0, .slice sa s.data.length sc] (Vd.bare s) := rs_bare hs2
        rcases hload with ⟨hic, bb, cur, rfl, hmem, hcur⟩ | ⟨hic, bb, cur, rfl, hmem, hcur⟩
        · repeat ((first | with_reducible refine T_seq ?_ | with_reducible refine T_block ?_ | with_reducible refine T_region ?_ | with_reducible refine TL_nil ?_ | with_reducible refine TQ_then ?_ | with_reducible refine T_skip ?_ | refine TL_q (op_move rfl) rfl ?_ | (refine' TL_q (op_bin rfl rfl ?_) rfl ?_; rotate_left 1; (· (first | exact bin_add ⟨by omega, by omega⟩ | exact bin_lss))) | refine TL_q (op_len_slice rfl Try.underlying40) rfl ?_ | (refine' TL_q (op_idx ety_40 rfl rfl ?_) rfl ?_; (· omega)) | (refine TL_stAll rfl rfl st_60 rfl rfl rfl ?_) | (refine TL_new (op_alloc (C := #[(.string (bs [])), (.int .u16 0), (.int .u16 0), (.int .u32 0), (.slice none 0 0)]) zero_60 rfl) rfl ?_; intro bNew) | refine TL_q (op_build rfl (bl_60_ )) rfl ?_ | (refine T_yes rfl ?_ ?_; (· (exact dT (by (omega)))))))
          refine TL_q (op_ldA [.string (bs s.name), .int .u16 s.kind, .int .u16 s.cls, .int .u32 s.ttl, .slice sa s.data.length sc] rfl st_60 (List.mem_cons_of_mem _ hmem) hcur) rfl ?_
          repeat ((first | with_reducible refine T_seq ?_ | with_reducible refine T_region ?_ | with_reducible refine TL_nil ?_ | with_reducible refine TQ_then ?_ | refine TL_q (op_move rfl) rfl ?_ | refine TL_q (op_assign rfl) rfl ?_ | refine TL_q (op_min rfl rfl) rfl ?_ | refine TL_q (op_fld rfl fld_60_3) rfl ?_ | (refine' TL_q (op_ld rfl pl_5 ?_ ?_) rfl ?_; rotate_left 4; (· repeat ((exact List.mem_cons_self))); (· (rfl))) | (refine TL_stAll rfl rfl st_60 rfl rfl rfl ?_)))
          refine TL_st (C' := #[.string (bs s.name), .int .u16 s.kind, .int .u16 s.cls, .int .u32 0, .slice sa s.data.length sc]) rfl rfl one_36 rfl rfl rfl ?_
          repeat ((first | with_reducible refine T_region ?_ | with_reducible refine TL_nil ?_ | with_reducible refine TQ_then ?_ | refine TL_q (op_fld rfl fld_42_1) rfl ?_ | (refine' TL_q (op_ld rfl pl_5 ?_ ?_) rfl ?_; rotate_left 4; (· repeat ((first | exact List.mem_cons_self | apply List.mem_cons_of_mem))); (· (rfl))) | (refine' TL_q (op_ldAll rfl st_60 ?_ ?_) rfl ?_; rotate_left 3; (· repeat ((exact List.mem_cons_self))); (· (rfl))) | (refine TL_new (op_litN ety_40 rfl rfl (by decide)) rfl ?_; intro bLit)))
          refine TL_cnt (L' := (bLit, Obj.cells #[.string (bs s.name), .int .u16 s.kind, .int .u16 s.cls, .int .u32 0, .slice sa s.data.length sc] 60 (0, 0)) :: (B ++ ((bNew, Obj.cells #[.string (bs s.name), .int .u16 s.kind, .int .u16 s.cls, .int .u32 0, .slice sa s.data.length sc] 60 (0, 0)) :: ((b11, Obj.cells #[.int .u8 m.code, .slice a ((tl.take i).map Vd.bare).length c, .slice none 0 0] 42 (0, 0)) :: ((bV, Obj.cells #[.int .u8 0, .slice none 0 0, .slice none 0 0] 42 (0, 0)) :: ((bM, Obj.cells #[h0, h1, h2, h3, h4, h5, h6, h7, h8, h9, .int .u8 m.code, qs, .slice aA m.answers.length cA, .slice aB m.auth.length cB, x, k, e0, e1, e2, e3, e4] 32 (0, 0)) :: ((bQ, Obj.cells #[.string (bs q.name), .int .u16 q.kind, .int .u16 q.cls] 34 (0, 0)) :: (BE ++ (BC ++ (BG ++ (N ++ L))))))))))) ?_ (by intro p; (try simp only [cnt_append, cnt_cons, cnt_nil]) <;> omega)
          refine TL_opT (op_pushR (L0 := N) (y := Vd.bare s) ety_40 rfl rfl hB hBn (by rw [List.length_map, List.length_take]; omega) (by decide)) rfl ?_
          rintro _ _ ⟨a', c', B', rfl, hB', rfl⟩
          refine TL_cnt (L' := (b11, Obj.cells #[.int .u8 m.code, .slice a ((tl.take i).map Vd.bare).length c, .slice none 0 0] 42 (0, 0)) :: (B' ++ ((bV, Obj.cells #[.int .u8 0, .slice none 0 0, .slice none 0 0] 42 (0, 0)) :: ((bM, Obj.cells #[h0, h1, h2, h3, h4, h5, h6, h7, h8, h9, .int .u8 m.code, qs, .slice aA m.answers.length cA, .slice aB m.auth.length cB, x, k, e0, e1, e2, e3, e4] 32 (0, 0)) :: ((bQ, Obj.cells #[.string (bs q.name), .int .u16 q.kind, .int .u16 q.cls] 34 (0, 0)) :: (BE ++ (BC ++ (BG ++ (N ++ L))))))))) ?_ (by intro p; (try simp only [cnt_append, cnt_cons, cnt_nil]) <;> omega)
          repeat ((refine TL_q (op_fld rfl fld_42_1) rfl ?_))
          refine TL_st (C' := #[.int .u8 m.code, .slice a' ((tl.take i).map Vd.bare ++ [Vd.bare s]).length c', .slice none 0 0]) rfl rfl one_40 rfl rfl rfl ?_
          repeat ((first | with_reducible refine T_region ?_ | with_reducible refine TL_nil ?_ | with_reducible refine TQ_then ?_ | with_reducible refine TQ_block ?_ | refine TL_q (op_move rfl) rfl ?_ | refine TL_q (op_assign rfl) rfl ?_ | (refine' TL_q (op_bin rfl rfl ?_) rfl ?_; rotate_left 1; (· (exact bin_add ⟨by omega, by omega⟩)))))
          refine TQ_roundS (i + 1, a', c', B') ⟨hil, by dsimp only; rw [hmap]; exact hB'⟩ ?_ (fun w h => by dsimp only; rw [hmap]; exact h) (by dsimp only; omega)
          dsimp only
          rw [hlst]
          (repeat ((first | exact trivial | refine ⟨rfl, ?_⟩)))
        · repeat ((first | with_reducible refine T_seq ?_ | with_reducible refine T_block ?_ | with_reducible refine T_region ?_ | with_reducible refine TL_nil ?_ | with_reducible refine TQ_then ?_ | with_reducible refine T_skip ?_ | refine TL_q (op_move rfl) rfl ?_ | (refine' TL_q (op_bin rfl rfl ?_) rfl ?_; rotate_left 1; (· (first | exact bin_add ⟨by omega, by omega⟩ | exact bin_sub ⟨by omega, by omega⟩ | exact bin_lss))) | refine TL_q (op_len_slice rfl Try.underlying40) rfl ?_ | (refine' TL_q (op_idxI ety_40 rfl rfl ?_ ?_) rfl ?_; (· omega); (· omega)) | (refine TL_stAll rfl rfl st_60 rfl rfl rfl ?_) | (refine TL_new (op_alloc (C := #[(.string (bs [])), (.int .u16 0), (.int .u16 0), (.int .u32 0), (.slice none 0 0)]) zero_60 rfl) rfl ?_; intro bNew) | refine TL_q (op_build rfl (bl_60_ )) rfl ?_ | (refine T_yes rfl ?_ ?_; (· (exact dT (by (omega))))) | (refine T_no rfl ?_ ?_; (· (exact dF (by (omega)))))))
          refine TL_q (op_ldA [.string (bs s.name), .int .u16 s.kind, .int .u16 s.cls, .int .u32 s.ttl, .slice sa s.data.length sc] rfl st_60 (List.mem_cons_of_mem _ hmem) hcur) rfl ?_
          repeat ((first | with_reducible refine T_seq ?_ | with_reducible refine T_region ?_ | with_reducible refine TL_nil ?_ | with_reducible refine TQ_then ?_ | refine TL_q (op_move rfl) rfl ?_ | refine TL_q (op_assign rfl) rfl ?_ | refine TL_q (op_min rfl rfl) rfl ?_ | refine TL_q (op_fld rfl fld_60_3) rfl ?_ | (refine' TL_q (op_ld rfl pl_5 ?_ ?_) rfl ?_; rotate_left 4; (· repeat ((exact List.mem_cons_self))); (· (rfl))) | (refine TL_stAll rfl rfl st_60 rfl rfl rfl ?_)))
          refine TL_st (C' := #[.string (bs s.name), .int .u16 s.kind, .int .u16 s.cls, .int .u32 0, .slice sa s.data.length sc]) rfl rfl one_36 rfl rfl rfl ?_
          repeat ((first | with_reducible refine T_region ?_ | with_reducible refine TL_nil ?_ | with_reducible refine TQ_then ?_ | refine TL_q (op_fld rfl fld_42_1) rfl ?_ | (refine' TL_q (op_ld rfl pl_5 ?_ ?_) rfl ?_; rotate_left 4; (· repeat ((first | exact List.mem_cons_self | apply List.mem_cons_of_mem))); (· (rfl))) | (refine' TL_q (op_ldAll rfl st_60 ?_ ?_) rfl ?_; rotate_left 3; (· repeat ((exact List.mem_cons_self))); (· (rfl))) | (refine TL_new (op_litN ety_40 rfl rfl (by decide)) rfl ?_; intro bLit)))
          refine TL_cnt (L' := (bLit, Obj.cells #[.string (bs s.name), .int .u16 s.kind, .int .u16 s.cls, .int .u32 0, .slice sa s.data.length sc] 60 (0, 0)) :: (B ++ ((bNew, Obj.cells #[.string (bs s.name), .int .u16 s.kind, .int .u16 s.cls, .int .u32 0, .slice sa s.data.length sc] 60 (0, 0)) :: ((b11, Obj.cells #[.int .u8 m.code, .slice a ((tl.take i).map Vd.bare).length c, .slice none 0 0] 42 (0, 0)) :: ((bV, Obj.cells #[.int .u8 0, .slice none 0 0, .slice none 0 0] 42 (0, 0)) :: ((bM, Obj.cells #[h0, h1, h2, h3, h4, h5, h6, h7, h8, h9, .int .u8 m.code, qs, .slice aA m.answers.length cA, .slice aB m.auth.length cB, x, k, e0, e1, e2, e3, e4] 32 (0, 0)) :: ((bQ, Obj.cells #[.string (bs q.name), .int .u16 q.kind, .int .u16 q.cls] 34 (0, 0)) :: (BE ++ (BC ++ (BG ++ (N ++ L))))))))))) ?_ (by intro p; (try simp only [cnt_append, cnt_cons, cnt_nil]) <;> omega)
          refine TL_opT (op_pushR (L0 := N) (y := Vd.bare s) ety_40 rfl rfl hB hBn (by rw [List.length_map, List.length_take]; omega) (by decide)) rfl ?_
          rintro _ _ ⟨a', c', B', rfl, hB', rfl⟩
          refine TL_cnt (L' := (b11, Obj.cells #[.int .u8 m.code, .slice a ((tl.take i).map Vd.bare).length c, .slice none 0 0] 42 (0, 0)) :: (B' ++ ((bV, Obj.cells #[.int .u8 0, .slice none 0 0, .slice none 0 0] 42 (0, 0)) :: ((bM, Obj.cells #[h0, h1, h2, h3, h4, h5, h6, h7, h8, h9, .int .u8 m.code, qs, .slice aA m.answers.length cA, .slice aB m.auth.length cB, x, k, e0, e1, e2, e3, e4] 32 (0, 0)) :: ((bQ, Obj.cells #[.string (bs q.name), .int .u16 q.kind, .int .u16 q.cls] 34 (0, 0)) :: (BE ++ (BC ++ (BG ++ (N ++ L))))))))) ?_ (by intro p; (try simp only [cnt_append, cnt_cons, cnt_nil]) <;> omega)
          repeat ((refine TL_q (op_fld rfl fld_42_1) rfl ?_))
          refine TL_st (C' := #[.int .u8 m.code, .slice a' ((tl.take i).map Vd.bare ++ [Vd.bare s]).length c', .slice none 0 0]) rfl rfl one_40 rfl rfl rfl ?_
          repeat ((first | with_reducible refine T_region ?_ | with_reducible refine TL_nil ?_ | with_reducible refine TQ_then ?_ | with_reducible refine TQ_block ?_ | refine TL_q (op_move rfl) rfl ?_ | refine TL_q (op_assign rfl) rfl ?_ | (refine' TL_q (op_bin rfl rfl ?_) rfl ?_; rotate_left 1; (· (exact bin_add ⟨by omega, by omega⟩)))))
          refine TQ_roundS (i + 1, a', c', B') ⟨hil, by dsimp only; rw [hmap]; exact hB'⟩ ?_ (fun w h => by dsimp only; rw [hmap]; exact h) (by dsimp only; omega)
          dsimp only
          rw [hlst]
          (repeat ((first | exact trivial | refine ⟨rfl, ?_⟩)))
      · have hie : i = tl.length := by omega
        subst hie
        rw [List.take_length] at hB hlti ⊢
        by_cases hle : last = []
        · rw [if_neg (by simpa using hle)]
          have hl0 : last.length = 0 := by rw [hle]; rfl
          obtain ⟨⟨s, is, er⟩, hS⟩ : ∃ x, Vd.findSoa (Vd.group m.auth) pos q.cls = x := ⟨_, rfl⟩
          rw [hS]
          dsimp only
          repeat ((first | with_reducible refine T_seq ?_ | with_reducible refine T_region ?_ | with_reducible refine TL_nil ?_ | with_reducible refine TQ_then ?_ | with_reducible refine T_skip ?_ | with_reducible refine T_exit ?_ | with_reducible refine TQ_then_exit ?_ | with_reducible refine TQ_block_exit ?_ | refine TL_q (op_move rfl) rfl ?_ | (refine' TL_q (op_bin rfl rfl ?_) rfl ?_; rotate_left 1; (· (first | exact bin_add ⟨by omega, by omega⟩ | exact bin_lss | exact bin_gtr))) | refine TL_q (op_len_slice rfl Try.underlying40) rfl ?_ | (refine T_no rfl ?_ ?_; (· (exact dF (by (omega)))))))
          refine T_midK (σ := Option Addr × Nat × Nat × Blocks) (fun y => rsR y.2.2.2 [.string (bs s.name), .int .u16 s.kind, .int .u16 s.cls, .int .u32 s.ttl, .slice y.1 s.data.length y.2.1] s ∧ Wr y.2.2.2) (fun y => [(4, .pointer (some ⟨bV, 0, none⟩)), (10, .int .i64 er), (11, .pointer (some ⟨b11, 0, none⟩)), (12, .int .u32 (Vd.leastT tl 2147483647)), (15, .pointer (some ⟨y.2.2.1, 0, none⟩)), (16, .bool is)]) (fun y => (y.2.2.1, Obj.cells #[.string (bs s.name), .int .u16 s.kind, .int .u16 s.cls, .int .u32 s.ttl, .slice y.1 s.data.length y.2.1] 60 (0, 0)) :: (y.2.2.2 ++ ((b11, Obj.cells #[.int .u8 m.code, .slice a (tl.map Vd.bare).length c, .slice none 0 0] 42 (0, 0)) :: (B ++ ((bV, Obj.cells #[.int .u8 0, .slice none 0 0, .slice none 0 0] 42 (0, 0)) :: ((bM, Obj.cells #[h0, h1, h2, h3, h4, h5, h6, h7, h8, h9, .int .u8 m.code, qs, .slice aA m.answers.length cA, .slice aB m.auth.length cB, x, k, e0, e1, e2, e3, e4] 32 (0, 0)) :: ((bQ, Obj.cells #[.string (bs q.name), .int .u16 q.kind, .int .u16 q.cls] 34 (0, 0)) :: (BE ++ (BC ++ (BG ++ (N ++ L))))))))))) ?_ ?_
          · have hKm2 : ∀ z ∈ [(bQ, Obj.cells #[.string (bs q.name), .int .u16 q.kind, .int .u16 q.cls] 34 (0, 0)), (bM, Obj.cells #[h0, h1, h2, h3, h4, h5, h6, h7, h8, h9, .int .u8 m.code, qs, .slice aA m.answers.length cA, .slice aB m.auth.length cB, x, k, e0, e1, e2, e3, e4] 32 (0, 0))], z ∈ ((b11, Obj.cells #[.int .u8 m.code, .slice a (tl.map Vd.bare).length c, .slice none 0 0] 42 (0, 0)) :: (B ++ ((bV, Obj.cells #[.int .u8 0, .slice none 0 0, .slice none 0 0] 42 (0, 0)) :: ((bM, Obj.cells #[h0, h1, h2, h3, h4, h5, h6, h7, h8, h9, .int .u8 m.code, qs, .slice aA m.answers.length cA, .slice aB m.auth.length cB, x, k, e0, e1, e2, e3, e4] 32 (0, 0)) :: ((bQ, Obj.cells #[.string (bs q.name), .int .u16 q.kind, .int .u16 q.cls] 34 (0, 0)) :: (BE ++ (BC ++ (BG ++ (N ++ L))))))))) := (mem_of_cnt (by intro p; (try simp only [cnt_append, cnt_cons, cnt_nil]) <;> omega))
            refine T_draw follows_mixed ([(bQ, Obj.cells #[.string (bs q.name), .int .u16 q.kind, .int .u16 q.cls] 34 (0, 0)), (bM, Obj.cells #[h0, h1, h2, h3, h4, h5, h6, h7, h8, h9, .int .u8 m.code, qs, .slice aA m.answers.length cA, .slice aB m.auth.length cB, x, k, e0, e1, e2, e3, e4] 32 (0, 0))]) [] ?_
            (refine' TA_take 0 rfl rfl (by kernel_rfl) (quiet_q (op_fld rfl fld_32_3)) ?_ ?_; (· (assumption)))
            (refine' TA_take 1 rfl rfl (by kernel_rfl) (quiet_q (op_ld rfl pl_27 ?_ ?_)) ?_ ?_; rotate_left 4; (· repeat ((first | exact List.mem_cons_self | apply List.mem_cons_of_mem))); (· (rfl)); (· (assumption)))
            (refine' TA_take 3 rfl rfl (by kernel_rfl) (quiet_q (op_move rfl)) ?_ ?_; (· (assumption)))
            (refine' TA_take 4 rfl rfl (by kernel_rfl) (quiet_q (op_fld rfl fld_34_2)) ?_ ?_; (· (assumption)))
            (refine' TA_take 5 rfl rfl (by kernel_rfl) (quiet_q (op_ld rfl pl_23 ?_ ?_)) ?_ ?_; rotate_left 4; (· repeat ((exact List.mem_cons_self))); (· (rfl)); (· (assumption)))
            refine TA_two 2 11 (by kernel_rfl) ?_ ?_
            · refine Up_ofD rfl rfl rfl rfl (op_call hb_83 rfl (Group_S _ m.auth (mono_slice mono_rec _ _ _ _ (mem_of_cnt (by intro p; (try simp only [cnt_append, cnt_cons, cnt_nil]) <;> omega)) hmb) hB1 (fun x hx => (hB2 x hx).1) (fun x hx => (hB2 x hx).2))) ?_
              rintro _ _ ⟨aG2, cG2, BG2, N2, rfl, hG2, hN2, rfl⟩; refine ⟨Or.inr (mem_of_cnt (by intro p; (try simp only [cnt_append, cnt_cons, cnt_nil]) <;> omega)), ?_⟩
              have hKm3 : ∀ z ∈ [(bQ, Obj.cells #[.string (bs q.name), .int .u16 q.kind, .int .u16 q.cls] 34 (0, 0)), (bM, Obj.cells #[h0, h1, h2, h3, h4, h5, h6, h7, h8, h9, .int .u8 m.code, qs, .slice aA m.answers.length cA, .slice aB m.auth.length cB, x, k, e0, e1, e2, e3, e4] 32 (0, 0))], z ∈ BG2 ++ (N2 ++ ((b11, Obj.cells #[.int .u8 m.code, .slice a (tl.map Vd.bare).length c, .slice none 0 0] 42 (0, 0)) :: (B ++ ((bV, Obj.cells #[.int .u8 0, .slice none 0 0, .slice none 0 0] 42 (0, 0)) :: ((bM, Obj.cells #[h0, h1, h2, h3, h4, h5, h6, h7, h8, h9, .int .u8 m.code, qs, .slice aA m.answers.length cA, .slice aB m.auth.length cB, x, k, e0, e1, e2, e3, e4] 32 (0, 0)) :: ((bQ, Obj.cells #[.string (bs q.name), .int .u16 q.kind, .int .u16 q.cls] 34 (0, 0)) :: (BE ++ (BC ++ (BG ++ (N ++ L)))))))))) := (mem_of_cnt (by intro p; (try simp only [cnt_append, cnt_cons, cnt_nil]) <;> omega))
              refine TA_two 6 11 (by kernel_rfl) ?_ ?_
              · refine Up_ofD rfl rfl rfl rfl (op_call hb_84 rfl (rFind10_S (K := BG2) (N := N2) _ (Vd.group m.auth) pos q.cls (mem_of_cnt (by intro p; (try simp only [cnt_append, cnt_cons, cnt_nil]) <;> omega)) ((hG2.imp (r' := fun _ => rsR N2) (L' := []) (fun cs x _ h => h)).sliceR mono_const (mem_of_cnt (by intro p; (try simp only [cnt_append, cnt_cons, cnt_nil]) <;> omega)) (mem_of_cnt (by intro p; (try simp only [cnt_append, cnt_cons, cnt_nil]) <;> omega))) (by omega) (fun s hs => Nat.le_trans (gb2 s hs).1 (by omega)))) ?_
                rintro _ _ ⟨cs, rfl, hs2, rfl⟩; rw [hS] at hs2 ⊢; obtain ⟨sa, sc, rfl, _⟩ := hs2.vals; refine ⟨Or.inr (mem_of_cnt (by intro p; (try simp only [cnt_append, cnt_cons, cnt_nil]) <;> omega)), ?_⟩
                (refine' TA_take 7 rfl rfl (by kernel_rfl) (quiet_q (op_move rfl)) ?_ ?_; (· (assumption)))
                (refine' TA_take 8 rfl rfl (by kernel_rfl) (quiet_q (op_extract rfl rfl)) ?_ ?_; (· (assumption)))
                (refine' TA_take 9 rfl rfl (by kernel_rfl) (quiet_q (op_extract rfl rfl)) ?_ ?_; (· (assumption)))
                (refine' TA_take 10 rfl rfl (by kernel_rfl) (quiet_q (op_extract rfl rfl)) ?_ ?_; (· (assumption)))
                refine TA_oneD 11 (by kernel_rfl) rfl rfl rfl rfl (op_alloc (C := #[.string (bs []), .int .u16 0, .int .u16 0, .int .u32 0, .slice none 0 0]) zero_60 rfl) ?_; rintro _ _ ⟨b15, rfl, rfl⟩; refine ⟨Or.inr (mem_of_cnt (by intro p; (try simp only [cnt_append, cnt_cons, cnt_nil]) <;> omega)), ?_⟩
                refine TA_cnt (L' := (b15, Obj.cells #[.string (bs []), .int .u16 0, .int .u16 0, .int .u32 0, .slice none 0 0] 60 (0, 0)) :: (BG2 ++ (N2 ++ ((b11, Obj.cells #[.int .u8 m.code, .slice a (tl.map Vd.bare).length c, .slice none 0 0] 42 (0, 0)) :: (B ++ ((bV, Obj.cells #[.int .u8 0, .slice none 0 0, .slice none 0 0] 42 (0, 0)) :: ((bM, Obj.cells #[h0, h1, h2, h3, h4, h5, h6, h7, h8, h9, .int .u8 m.code, qs, .slice aA m.answers.length cA, .slice aB m.auth.length cB, x, k, e0, e1, e2, e3, e4] 32 (0, 0)) :: ((bQ, Obj.cells #[.string (bs q.name), .int .u16 q.kind, .int .u16 q.cls] 34 (0, 0)) :: (BE ++ (BC ++ (BG ++ (N ++ L)))))))))))) ?_ (by intro p; (try simp only [cnt_append, cnt_cons, cnt_nil]) <;> omega); refine TA_oneN 12 (by kernel_rfl) rfl rfl rfl (op_stAll rfl rfl st_60 rfl rfl rfl) ?_; rintro _ _ ⟨_, rfl⟩; refine ⟨Or.inr (mem_of_cnt (by intro p; (try simp only [cnt_append, cnt_cons, cnt_nil]) <;> omega)), ?_⟩
                (refine' TA_take 13 rfl rfl (by kernel_rfl) (quiet_q (op_assign rfl)) ?_ ?_; (· (intro p hp; grind)))
                (refine' TA_take 14 rfl rfl (by kernel_rfl) (quiet_q (op_assign rfl)) ?_ ?_; (· (intro p hp; grind)))
                refine TA_done (by kernel_rfl) ?_
                skip
                refine TQ_mid (sa, sc, b15, N2) ⟨hs2, hN2⟩ ?_ (fun w h => h.cnt (by intro p; (try simp only [cnt_append, cnt_cons, cnt_nil]) <;> omega))
                (repeat ((first | exact trivial | refine ⟨rfl, ?_⟩)))
              · refine Up_ofD rfl rfl rfl rfl (op_alloc (C := #[.string (bs []), .int .u16 0, .int .u16 0, .int .u32 0, .slice none 0 0]) zero_60 rfl) ?_
                rintro _ _ ⟨b15, rfl, rfl⟩; refine ⟨Or.inr (mem_of_cnt (by intro p; (try simp only [cnt_append, cnt_cons, cnt_nil]) <;> omega)), ?_⟩
                refine TA_oneD 6 (by kernel_rfl) rfl rfl rfl rfl (op_call hb_84 rfl (rFind10_S (K := BG2) (N := N2) _ (Vd.group m.auth) pos q.cls (mem_of_cnt (by intro p; (try simp only [cnt_append, cnt_cons, cnt_nil]) <;> omega)) ((hG2.imp (r' := fun _ => rsR N2) (L' := []) (fun cs x _ h => h)).sliceR mono_const (mem_of_cnt (by intro p; (try simp only [cnt_append, cnt_cons, cnt_nil]) <;> omega)) (mem_of_cnt (by intro p; (try simp only [cnt_append, cnt_cons, cnt_nil]) <;> omega))) (by omega) (fun s hs => Nat.le_trans (gb2 s hs).1 (by omega)))) ?_; rintro _ _ ⟨cs, rfl, hs2, rfl⟩; rw [hS] at hs2 ⊢; obtain ⟨sa, sc, rfl, _⟩ := hs2.vals; refine ⟨Or.inr (mem_of_cnt (by intro p; (try simp only [cnt_append, cnt_cons, cnt_nil]) <;> omega)), ?_⟩
                (refine' TA_take 7 rfl rfl (by kernel_rfl) (quiet_q (op_move rfl)) ?_ ?_; (· (intro p hp; grind)))
                (refine' TA_take 8 rfl rfl (by kernel_rfl) (quiet_q (op_extract rfl rfl)) ?_ ?_; (· (intro p hp; grind)))
                (refine' TA_take 9 rfl rfl (by kernel_rfl) (quiet_q (op_extract rfl rfl)) ?_ ?_; (· (intro p hp; grind)))
                (refine' TA_take 10 rfl rfl (by kernel_rfl) (quiet_q (op_extract rfl rfl)) ?_ ?_; (· (intro p hp; grind)))
                refine TA_cnt (L' := (b15, Obj.cells #[.string (bs []), .int .u16 0, .int .u16 0, .int .u32 0, .slice none 0 0] 60 (0, 0)) :: (BG2 ++ (N2 ++ ((b11, Obj.cells #[.int .u8 m.code, .slice a (tl.map Vd.bare).length c, .slice none 0 0] 42 (0, 0)) :: (B ++ ((bV, Obj.cells #[.int .u8 0, .slice none 0 0, .slice none 0 0] 42 (0, 0)) :: ((bM, Obj.cells #[h0, h1, h2, h3, h4, h5, h6, h7, h8, h9, .int .u8 m.code, qs, .slice aA m.answers.length cA, .slice aB m.auth.length cB, x, k, e0, e1, e2, e3, e4] 32 (0, 0)) :: ((bQ, Obj.cells #[.string (bs q.name), .int .u16 q.kind, .int .u16 q.cls] 34 (0, 0)) :: (BE ++ (BC ++ (BG ++ (N ++ L)))))))))))) ?_ (by intro p; (try simp only [cnt_append, cnt_cons, cnt_nil]) <;> omega); refine TA_oneN 12 (by kernel_rfl) rfl rfl rfl (op_stAll rfl rfl st_60 rfl rfl rfl) ?_; rintro _ _ ⟨_, rfl⟩; refine ⟨Or.inr (mem_of_cnt (by intro p; (try simp only [cnt_append, cnt_cons, cnt_nil]) <;> omega)), ?_⟩
                (refine' TA_take 13 rfl rfl (by kernel_rfl) (quiet_q (op_assign rfl)) ?_ ?_; (· (intro p hp; grind)))
                (refine' TA_take 14 rfl rfl (by kernel_rfl) (quiet_q (op_assign rfl)) ?_ ?_; (· (intro p hp; grind)))
                refine TA_done (by kernel_rfl) ?_
                skip
                refine TQ_mid (sa, sc, b15, N2) ⟨hs2, hN2⟩ ?_ (fun w h => h.cnt (by intro p; (try simp only [cnt_append, cnt_cons, cnt_nil]) <;> omega))
                (repeat ((first | exact trivial | refine ⟨rfl, ?_⟩)))
            · refine Up_ofD rfl rfl rfl rfl (op_alloc (C := #[.string (bs []), .int .u16 0, .int .u16 0, .int .u32 0, .slice none 0 0]) zero_60 rfl) ?_
              rintro _ _ ⟨b15, rfl, rfl⟩; refine ⟨Or.inr (mem_of_cnt (by intro p; (try simp only [cnt_append, cnt_cons, cnt_nil]) <;> omega)), ?_⟩
              refine TA_oneD 2 (by kernel_rfl) rfl rfl rfl rfl (op_call hb_83 rfl (Group_S _ m.auth (mono_slice mono_rec _ _ _ _ (mem_of_cnt (by intro p; (try simp only [cnt_append, cnt_cons, cnt_nil]) <;> omega)) hmb) hB1 (fun x hx => (hB2 x hx).1) (fun x hx => (hB2 x hx).2))) ?_; rintro _ _ ⟨aG2, cG2, BG2, N2, rfl, hG2, hN2, rfl⟩; refine ⟨Or.inr (mem_of_cnt (by intro p; (try simp only [cnt_append, cnt_cons, cnt_nil]) <;> omega)), ?_⟩
              refine TA_oneD 6 (by kernel_rfl) rfl rfl rfl rfl (op_call hb_84 rfl (rFind10_S (K := BG2) (N := N2) _ (Vd.group m.auth) pos q.cls (mem_of_cnt (by intro p; (try simp only [cnt_append, cnt_cons, cnt_nil]) <;> omega)) ((hG2.imp (r' := fun _ => rsR N2) (L' := []) (fun cs x _ h => h)).sliceR mono_const (mem_of_cnt (by intro p; (try simp only [cnt_append, cnt_cons, cnt_nil]) <;> omega)) (mem_of_cnt (by intro p; (try simp only [cnt_append, cnt_cons, cnt_nil]) <;> omega))) (by omega) (fun s hs => Nat.le_trans (gb2 s hs).1 (by omega)))) ?_; rintro _ _ ⟨cs, rfl, hs2, rfl⟩; rw [hS] at hs2 ⊢; obtain ⟨sa, sc, rfl, _⟩ := hs2.vals; refine ⟨Or.inr (mem_of_cnt (by intro p; (try simp only [cnt_append, cnt_cons, cnt_nil]) <;> omega)), ?_⟩
              (refine' TA_take 7 rfl rfl (by kernel_rfl) (quiet_q (op_move rfl)) ?_ ?_; (· (intro p hp; grind)))
              (refine' TA_take 8 rfl rfl (by kernel_rfl) (quiet_q (op_extract rfl rfl)) ?_ ?_; (· (intro p hp; grind)))
              (refine' TA_take 9 rfl rfl (by kernel_rfl) (quiet_q (op_extract rfl rfl)) ?_ ?_; (· (intro p hp; grind)))
              (refine' TA_take 10 rfl rfl (by kernel_rfl) (quiet_q (op_extract rfl rfl)) ?_ ?_; (· (intro p hp; grind)))
              refine TA_cnt (L' := (b15, Obj.cells #[.string (bs []), .int .u16 0, .int .u16 0, .int .u32 0, .slice none 0 0] 60 (0, 0)) :: (BG2 ++ (N2 ++ ((b11, Obj.cells #[.int .u8 m.code, .slice a (tl.map Vd.bare).length c, .slice none 0 0] 42 (0, 0)) :: (B ++ ((bV, Obj.cells #[.int .u8 0, .slice none 0 0, .slice none 0 0] 42 (0, 0)) :: ((bM, Obj.cells #[h0, h1, h2, h3, h4, h5, h6, h7, h8, h9, .int .u8 m.code, qs, .slice aA m.answers.length cA, .slice aB m.auth.length cB, x, k, e0, e1, e2, e3, e4] 32 (0, 0)) :: ((bQ, Obj.cells #[.string (bs q.name), .int .u16 q.kind, .int .u16 q.cls] 34 (0, 0)) :: (BE ++ (BC ++ (BG ++ (N ++ L)))))))))))) ?_ (by intro p; (try simp only [cnt_append, cnt_cons, cnt_nil]) <;> omega); refine TA_oneN 12 (by kernel_rfl) rfl rfl rfl (op_stAll rfl rfl st_60 rfl rfl rfl) ?_; rintro _ _ ⟨_, rfl⟩; refine ⟨Or.inr (mem_of_cnt (by intro p; (try simp only [cnt_append, cnt_cons, cnt_nil]) <;> omega)), ?_⟩
              (refine' TA_take 13 rfl rfl (by kernel_rfl) (quiet_q (op_assign rfl)) ?_ ?_; (· (intro p hp; grind)))
              (refine' TA_take 14 rfl rfl (by kernel_rfl) (quiet_q (op_assign rfl)) ?_ ?_; (· (intro p hp; grind)))
              refine TA_done (by kernel_rfl) ?_
              skip
              refine TQ_mid (sa, sc, b15, N2) ⟨hs2, hN2⟩ ?_ (fun w h => h.cnt (by intro p; (try simp only [cnt_append, cnt_cons, cnt_nil]) <;> omega))
              (repeat ((first | exact trivial | refine ⟨rfl, ?_⟩)))
          · rintro ⟨sa, sc, b15, N2⟩ ⟨hs2, hN2⟩
            dsimp only at hs2 hN2 ⊢
            by_cases he2 : er = 0
            · rw [if_neg (by simpa using he2)]
              cases is with
              | false =>
                simp only [Bool.not_false, if_true]
                have hm11 : (b11, Obj.cells #[.int .u8 m.code, .slice a (tl.map Vd.bare).length c, .slice none 0 0] 42 (0, 0)) ∈ (b15, Obj.cells #[.string (bs s.name), .int .u16 s.kind, .int .u16 s.cls, .int .u32 s.ttl, .slice sa s.data.length sc] 60 (0, 0)) :: (N2 ++ ((b11, Obj.cells #[.int .u8 m.code, .slice a (tl.map Vd.bare).length c, .slice none 0 0] 42 (0, 0)) :: (B ++ ((bV, Obj.cells #[.int .u8 0, .slice none 0 0, .slice none 0 0] 42 (0, 0)) :: ((bM, Obj.cells #[h0, h1, h2, h3, h4, h5, h6, h7, h8, h9, .int .u8 m.code, qs, .slice aA m.answers.length cA, .slice aB m.auth.length cB, x, k, e0, e1, e2, e3, e4] 32 (0, 0)) :: ((bQ, Obj.cells #[.string (bs q.name), .int .u16 q.kind, .int .u16 q.cls] 34 (0, 0)) :: (BE ++ (BC ++ (BG ++ (N ++ L)))))))))) := by simp
                repeat ((first | with_reducible refine T_seq ?_ | with_reducible refine T_region ?_ | with_reducible refine TL_nil ?_ | with_reducible refine TQ_then ?_ | with_reducible refine T_skip ?_ | refine TL_q (op_move rfl) rfl ?_ | (refine' TL_q (op_bin rfl rfl ?_) rfl ?_; rotate_left 1; (· (exact bin_neq))) | refine TL_q (op_not rfl) rfl ?_ | (refine' TL_q (op_ldAll rfl st_34 ?_ ?_) rfl ?_; rotate_left 3; (· repeat ((assumption))); (· (rfl))) | (refine T_yes rfl ?_ ?_; (· (exact Bool.not_false))) | (refine T_no rfl ?_ ?_; (· (exact nF (by (assumption)))))))
                refine TL_cnt (L' := (bV, Obj.cells #[.int .u8 0, .slice none 0 0, .slice none 0 0] 42 (0, 0)) :: (B ++ (N ++ L))) ?_ (by intro p; (try simp only [cnt_append, cnt_cons, cnt_nil]) <;> omega)
                repeat ((first | with_reducible refine TL_nil ?_ | with_reducible refine TQ_then ?_ | with_reducible refine T_ret ?_ | with_reducible refine TQ_then_ret ?_ | refine TL_q (op_assign rfl) rfl ?_ | (refine TL_stAll rfl rfl st_42 rfl rfl rfl ?_)))
                refine TQ_retC3 4 42 5 6 rfl rfl rfl rfl st_42 (by repeat ((exact List.mem_cons_self))) rfl (fun w h => Heap.cnt (L' := [] ++ (B ++ (N ++ L))) h (by intro p; (try simp only [cnt_append, cnt_cons, cnt_nil]) <;> omega)) ?_
                exact ⟨a, c, B, none, 0, [], N, rfl, hB, ORow.nil _, hN, rfl⟩
              | true =>
                simp only [Bool.not_true, Bool.false_eq_true, if_false]
                have hsg : s ∈ Vd.group m.auth := by have := findSoa_in (l := Vd.group m.auth) (n := pos) (c := q.cls); rw [hS] at this; exact this rfl
                repeat ((first | with_reducible refine T_seq ?_ | with_reducible refine T_region ?_ | with_reducible refine TL_nil ?_ | with_reducible refine TQ_then ?_ | with_reducible refine T_skip ?_ | refine TL_q (op_move rfl) rfl ?_ | (refine' TL_q (op_bin rfl rfl ?_) rfl ?_; rotate_left 1; (· (exact bin_neq))) | refine TL_q (op_not rfl) rfl ?_ | (refine' TL_q (op_ldAll rfl st_60 ?_ ?_) rfl ?_; rotate_left 3; (· repeat ((exact List.mem_cons_self))); (· (rfl))) | (refine T_no rfl ?_ ?_; (· (first | exact Bool.not_true | exact nF (by (assumption)))))))
                refine TL_op (op_call hb_85 rfl (Time_S _ s (mono_set _ _ _ _ (mem_of_cnt (by intro p; (try simp only [cnt_append, cnt_cons, cnt_nil]) <;> omega)) hs2) (gb2 s hsg).2.2.2)) rfl ?_
                have htm := soaTime_bd s
                repeat ((first | with_reducible refine T_seq ?_ | with_reducible refine T_region ?_ | with_reducible refine TL_nil ?_ | with_reducible refine TQ_then ?_ | refine TL_q (op_assign rfl) rfl ?_ | refine TL_q (op_min rfl rfl) rfl ?_ | refine TL_q (op_fld rfl fld_60_3) rfl ?_))
                refine TL_st (C' := #[.string (bs s.name), .int .u16 s.kind, .int .u16 s.cls, .int .u32 0, .slice sa s.data.length sc]) rfl rfl one_36 rfl rfl rfl ?_
                repeat ((first | with_reducible refine T_seq ?_ | with_reducible refine T_region ?_ | with_reducible refine TL_nil ?_ | with_reducible refine TQ_then ?_ | refine TL_q (op_fld rfl fld_34_2) rfl ?_ | (refine' TL_q (op_ldAll rfl st_60 ?_ ?_) rfl ?_; rotate_left 3; (· repeat ((exact List.mem_cons_self))); (· (rfl))) | (refine TL_new (op_litN ety_40 rfl rfl (by decide)) rfl ?_; intro bLit)))
                refine TL_cnt (L' := (b11, Obj.cells #[.int .u8 m.code, .slice a (tl.map Vd.bare).length c, .slice none 0 0] 42 (0, 0)) :: ((bV, Obj.cells #[.int .u8 0, .slice none 0 0, .slice none 0 0] 42 (0, 0)) :: ((bLit, Obj.cells #[.string (bs s.name), .int .u16 s.kind, .int .u16 s.cls, .int .u32 0, .slice sa s.data.length sc] 60 (0, 0)) :: (B ++ (N2 ++ (N ++ L)))))) ?_ (by intro p; (try simp only [cnt_append, cnt_cons, cnt_nil]) <;> omega)
                refine TL_st (C' := #[.int .u8 m.code, .slice a (tl.map Vd.bare).length c, .slice (some ⟨bLit, 0, none⟩) 1 1]) rfl rfl one_40 rfl rfl rfl ?_
                repeat ((first | with_reducible refine T_seq ?_ | with_reducible refine T_region ?_ | with_reducible refine TL_nil ?_ | with_reducible refine TQ_then ?_ | refine TL_q (op_move rfl) rfl ?_ | (refine' TL_q (op_ldAll rfl st_34 ?_ ?_) rfl ?_; rotate_left 3; (· repeat ((exact List.mem_cons_self))); (· (rfl)))))
                refine TL_cnt (L' := (bV, Obj.cells #[.int .u8 0, .slice none 0 0, .slice none 0 0] 42 (0, 0)) :: ((bLit, Obj.cells #[.string (bs s.name), .int .u16 s.kind, .int .u16 s.cls, .int .u32 0, .slice sa s.data.length sc] 60 (0, 0)) :: (B ++ ((N2 ++ N) ++ L)))) ?_ (by intro p; (try simp only [cnt_append, cnt_cons, cnt_nil]) <;> omega)
                repeat ((first | with_reducible refine TL_nil ?_ | with_reducible refine TQ_then ?_ | with_reducible refine T_ret ?_ | refine TL_q (op_assign rfl) rfl ?_ | (refine TL_stAll rfl rfl st_42 rfl rfl rfl ?_)))
                refine TQ_retC3 4 42 5 6 rfl rfl rfl rfl st_42 (by repeat ((exact List.mem_cons_self))) rfl (fun w h => Heap.cnt (L' := [(bLit, Obj.cells #[.string (bs s.name), .int .u16 s.kind, .int .u16 s.cls, .int .u32 0, .slice sa s.data.length sc] 60 (0, 0))] ++ (B ++ ((N2 ++ N) ++ L))) h (by intro p; (try simp only [cnt_append, cnt_cons, cnt_nil]) <;> omega)) ?_
                exact ⟨a, c, B, _, _, _, N2 ++ N, rfl, hB.mono mono_set (mem_of_cnt (by intro p; (try simp only [cnt_append, cnt_cons, cnt_nil]) <;> omega)), rs_lit (mono_set _ _ _ _ (mem_of_cnt (by intro p; (try simp only [cnt_append, cnt_cons, cnt_nil]) <;> omega)) (rs_bare hs2)), hN2.append hN, rfl⟩
            · rw [if_pos (by simpa using he2)]
              repeat ((first | with_reducible refine T_seq ?_ | with_reducible refine T_region ?_ | with_reducible refine TL_nil ?_ | with_reducible refine TQ_then ?_ | refine TL_q (op_move rfl) rfl ?_ | (refine' TL_q (op_bin rfl rfl ?_) rfl ?_; rotate_left 1; (· (exact bin_neq))) | refine TL_q (op_build rfl (bl_42_ )) rfl ?_ | (refine T_yes rfl ?_ ?_; (· (exact nT (by (assumption)))))))
              refine TL_cnt (L' := (bV, Obj.cells #[.int .u8 0, .slice none 0 0, .slice none 0 0] 42 (0, 0)) :: L) ?_ (by intro p; (try simp only [cnt_append, cnt_cons, cnt_nil]) <;> omega)
              repeat ((first | with_reducible refine TL_nil ?_ | with_reducible refine TQ_then ?_ | with_reducible refine T_ret ?_ | with_reducible refine TQ_then_ret ?_ | refine TL_q (op_assign rfl) rfl ?_ | (refine TL_stAll rfl rfl st_42 rfl rfl rfl ?_)))
              refine TQ_retC3 4 42 5 6 rfl rfl rfl rfl st_42 (by repeat ((exact List.mem_cons_self))) rfl (fun w h => Heap.cnt (L' := L) h (by intro p; (try simp only [cnt_append, cnt_cons, cnt_nil]) <;> omega)) ?_
              exact OfOut.bad _
        · rw [if_pos (by simpa using hle)]
          have hlp : 0 < last.length := List.length_pos_iff.2 hle
          repeat ((first | with_reducible refine T_seq ?_ | with_reducible refine T_region ?_ | with_reducible refine TL_nil ?_ | with_reducible refine TQ_then ?_ | with_reducible refine T_exit ?_ | with_reducible refine TQ_then_exit ?_ | with_reducible refine TQ_block_exit ?_ | refine TL_q (op_move rfl) rfl ?_ | (refine' TL_q (op_bin rfl rfl ?_) rfl ?_; rotate_left 1; (· (first | exact bin_add ⟨by omega, by omega⟩ | exact bin_lss | exact bin_gtr))) | refine TL_q (op_len_slice rfl Try.underlying40) rfl ?_ | (refine' TL_q (op_ldAll rfl st_34 ?_ ?_) rfl ?_; rotate_left 3; (· repeat ((exact List.mem_cons_self))); (· (rfl))) | (refine T_yes rfl ?_ ?_; (· (exact dT (by (omega))))) | (refine T_no rfl ?_ ?_; (· (exact dF (by (omega)))))))
          refine TL_cnt (L' := (bV, Obj.cells #[.int .u8 0, .slice none 0 0, .slice none 0 0] 42 (0, 0)) :: (B ++ (N ++ L))) ?_ (by intro p; (try simp only [cnt_append, cnt_cons, cnt_nil]) <;> omega)
          repeat ((first | with_reducible refine TL_nil ?_ | with_reducible refine TQ_then ?_ | with_reducible refine T_ret ?_ | with_reducible refine TQ_then_ret ?_ | refine TL_q (op_assign rfl) rfl ?_ | (refine TL_stAll rfl rfl st_42 rfl rfl rfl ?_)))
          refine TQ_retC3 4 42 5 6 rfl rfl rfl rfl st_42 (by repeat ((exact List.mem_cons_self))) rfl (fun w h => Heap.cnt (L' := [] ++ (B ++ (N ++ L))) h (by intro p; (try simp only [cnt_append, cnt_cons, cnt_nil]) <;> omega)) ?_
          exact ⟨a, c, B, none, 0, [], N, rfl, hB, ORow.nil _, hN, rfl⟩
    · rw [if_pos (by simpa using he)]
      repeat ((first | with_reducible refine T_seq ?_ | with_reducible refine T_region ?_ | with_reducible refine TL_nil ?_ | with_reducible refine TQ_then ?_ | with_reducible refine T_ret ?_ | with_reducible refine TQ_then_ret ?_ | refine TL_q (op_move rfl) rfl ?_ | refine TL_q (op_assign rfl) rfl ?_ | (refine' TL_q (op_bin rfl rfl ?_) rfl ?_; rotate_left 1; (· (exact bin_neq))) | (refine TL_stAll rfl rfl st_42 rfl rfl rfl ?_) | refine TL_q (op_build rfl (bl_42_ )) rfl ?_ | (refine T_yes rfl ?_ ?_; (· (exact nT (by (assumption)))))))
      refine TQ_retC3 4 42 5 6 rfl rfl rfl rfl st_42 (by repeat ((exact List.mem_cons_self))) rfl (fun w h => Heap.cnt (L' := L) h (by intro p; (try simp only [cnt_append, cnt_cons, cnt_nil]) <;> omega)) ?_
      exact OfOut.bad _
  · rw [hOf, hmay, if_pos (by simp only [not_or] at hc3; simp [hc3.1, hc3.2])]
    simp only [not_or] at hc3
    obtain ⟨hc31, hc32⟩ := hc3
    repeat ((first | with_reducible refine T_seq ?_ | with_reducible refine T_region ?_ | with_reducible refine TL_nil ?_ | with_reducible refine TQ_then ?_ | with_reducible refine T_ret ?_ | with_reducible refine TQ_then_ret ?_ | refine TL_q (op_move rfl) rfl ?_ | refine TL_q (op_assign rfl) rfl ?_ | refine TL_q (op_not rfl) rfl ?_ | (refine' TL_q (op_pickF rfl ?_ rfl) rfl ?_; (· (exact xF (by (assumption))))) | refine TL_q (op_fld rfl fld_32_0) rfl ?_ | (refine' TL_q (op_ld rfl pl_5 ?_ ?_) rfl ?_; rotate_left 4; (· repeat ((first | exact List.mem_cons_self | apply List.mem_cons_of_mem))); (· (rfl))) | (refine' TL_op (op_call hb_58 rfl (refMay_S _ ?_)) rfl ?_; (· (omega))) | (refine TL_gpre rfl rfl ?_ ?_; (· (first | exact nT (by (assumption)) | exact xF (by (assumption))))) | refine TL_gq2 (op_move rfl) rfl ?_ | (refine' TL_gq2 (op_bin rfl rfl ?_) rfl ?_; rotate_left 1; (· (exact bin_neq))) | (refine' TL_gq2 (op_pickT rfl ?_ rfl) rfl ?_; (· (exact nT (by (assumption))))) | refine TL_gq2 (op_fld rfl fld_25_10) rfl ?_ | refine TL_gq2 (op_fld rfl fld_32_0) rfl ?_ | (refine' TL_gq2 (op_ld rfl pl_5 ?_ ?_) rfl ?_; rotate_left 4; (· repeat ((first | exact List.mem_cons_self | apply List.mem_cons_of_mem))); (· (assumption))) | (refine TL_stAll rfl rfl st_42 rfl rfl rfl ?_) | refine TL_q (op_build rfl (bl_42_ )) rfl ?_ | (refine T_yes rfl ?_ ?_; (· (exact nT (by (assumption)))))))
    refine TQ_retC3 4 42 5 6 rfl rfl rfl rfl st_42 (by repeat ((exact List.mem_cons_self))) rfl (fun w h => Heap.cnt (L' := L) h (by intro p; (try simp only [cnt_append, cnt_cons, cnt_nil]) <;> omega)) ?_
    exact OfOut.bad _
end Go.Proofs.Ytdflhdfapnhjjaa
namespace Go.Proofs.Ytdflhdfapnhjjaa
open Go.RowKit
open Vd (RSet Vdt Vote Rec Quest Piece)
set_option linter.unusedVariables false
set_option linter.unusedSimpArgs false
--auto
section
variable {G : World} {P : Program} {n : Nat} {ρ : Slots} {L : Blocks} {Q : Exit → Act → World → Prop}
end
/-- Blocks of data: which are there, how great they are. -/
def DataIs (dk : List (Nat × Nat)) (D : Blocks) : Prop := ∀ k ∈ dk, ∃ C te, (k.1, Obj.cells C te (0, 0)) ∈ D ∧ k.2 ≤ C.size
def DS (dk : List (Nat × Nat)) (a : Option Addr) (m : Nat) : Prop := m = 0 ∨ ∃ b off s, a = some ⟨b, off, none⟩ ∧ (b, s) ∈ dk ∧ off + m ≤ s ∧ m ≤ 9223372036854775807
theorem DS.ex {dk : List (Nat × Nat)} {a : Option Addr} {m : Nat} (h : DS dk a m) (hm : 0 < m) : ∃ b off s, a = some ⟨b, off, none⟩ ∧ (b, s) ∈ dk ∧ off + m ≤ s ∧ m ≤ 9223372036854775807 := by
  rcases h with h | h
  · omega
  · exact h
def RowS (dk : List (Nat × Nat)) (B : Blocks) (a : Option Addr) (n : Nat) : Prop := (n = 0 ∧ B = []) ∨ ∃ b cur, a = some ⟨b, 0, none⟩ ∧ B = [(b, Obj.cells cur 60 (0, 0))] ∧ n * 5 ≤ cur.size ∧ ∀ i, i < n → ∃ da m c, cur[i * 5 + 4]? = some (.slice da m c) ∧ DS dk da m
theorem RowS.ex {dk : List (Nat × Nat)} {B : Blocks} {a : Option Addr} {n i : Nat} (h : RowS dk B a n) (hi : i < n) : ∃ b cur, a = some ⟨b, 0, none⟩ ∧ B = [(b, Obj.cells cur 60 (0, 0))] ∧ n * 5 ≤ cur.size ∧ ∀ i, i < n → ∃ da m c, cur[i * 5 + 4]? = some (.slice da m c) ∧ DS dk da m := by
  rcases h with h | h
  · omega
  · exact h
def spoiltC : List Value := [.string (bs [115, 112, 111, 105, 108, 116]), .int .u16 0, .int .u16 0, .int .u32 0, .slice none 0 0]
theorem RowS.put {dk : List (Nat × Nat)} {b : Nat} {cur : Array Value} {n i : Nat} (h : RowS dk [(b, Obj.cells cur 60 (0, 0))] (some ⟨b, 0, none⟩) n) (hi : i < n) :
    RowS dk [(b, Obj.cells (putAt cur (0 + i * 5) [.string (bs [115, 112, 111, 105, 108, 116]), .int .u16 0, .int .u16 0, .int .u32 0, .slice none 0 0]) 60 (0, 0))] (some ⟨b, 0, none⟩) n := by
  obtain ⟨b0, cur0, e1, e2, h3, h4⟩ := h.ex hi
  simp only [List.cons.injEq, Prod.mk.injEq, Obj.cells.injEq, and_true] at e2
  obtain ⟨rfl, rfl⟩ := e2
  have hle : (i + 1) * 5 ≤ n * 5 := Nat.mul_le_mul_right _ hi
  refine Or.inr ⟨_, _, rfl, rfl, ?_, fun j hj => ?_⟩
  · unfold putAt; simp; omega
  · rw [Nat.zero_add]
    by_cases hji : j = i
    · subst hji
      refine ⟨none, 0, 0, ?_, Or.inl rfl⟩
      unfold putAt
      simp only [List.getElem?_toArray]
      rw [List.append_assoc, List.getElem?_append_right (by simp; omega), List.getElem?_append_left (by simp; omega)]
      have : min (j * 5) cur.size = j * 5 := by omega
      simp [this]
    · obtain ⟨da, m, c, k1, k2⟩ := h4 j hj
      refine ⟨da, m, c, ?_, k2⟩
      rw [← k1]
      unfold putAt
      simp only [List.getElem?_toArray]
      have hmin : min (i * 5) cur.size = i * 5 := by omega
      by_cases hlt : j < i
      · have : (j + 1) * 5 ≤ i * 5 := Nat.mul_le_mul_right _ hlt
        rw [List.append_assoc, List.getElem?_append_left (by simp; omega), List.getElem?_take_of_lt (by omega)]
        simp
      · have : (i + 1) * 5 ≤ j * 5 := Nat.mul_le_mul_right _ (by omega)
        rw [List.getElem?_append_right (by simp; omega), List.getElem?_drop]
        simp only [List.length_append, List.length_take, Array.length_toList, List.length_cons, List.length_nil, hmin]
        rw [show i * 5 + (0 + 1 + 1 + 1 + 1 + 1) + (j * 5 + 4 - (i * 5 + (0 + 1 + 1 + 1 + 1 + 1))) = j * 5 + 4 by omega]
        simp
variable {G : World} {L : Blocks}
end Go.Proofs.Ytdflhdfapnhjjaa
namespace Go.Proofs.Ytdflhdfapnhjjaa
open Go.RowKit
open Vd (RSet Vdt Vote Rec Quest Piece)
set_option linter.unusedVariables false
set_option linter.unusedSimpArgs false
--auto
theorem sliceR.const {α : Type} {r : Rp α} {sz : Nat} {L : Blocks} {cs : List Value} {l : List α} (h : sliceR sz r L cs l) : sliceR sz (fun _ => r L) L cs l := h.imp (fun _ h => h) (fun _ _ _ h => h)
/-- Small enough. -/
def SmS (l : List RSet) : Prop := l.length ≤ 100000 ∧ ∀ s ∈ l, s.data.length ≤ 100000
def SmV (v : Vdt) : Prop := SmS v.sets ∧ SmS v.soa
variable {G : World} {L : Blocks}
/-- A verdict in new memory. -/
def VdOut (L : Blocks) (v : Vdt) (u : Value) (M : Blocks) : Prop := ∃ a c B a2 c2 B2 N, u = .agg #[.int .u8 v.code, .slice a v.sets.length c, .slice a2 v.soa.length c2] ∧
  ORow rsR 60 5 N a c v.sets B ∧ ORow rsR 60 5 N a2 c2 v.soa B2 ∧ Wr N ∧ M = B2 ++ (B ++ (N ++ L))
set_option maxRecDepth 100000 in
set_option maxHeartbeats 2000000 in
theorem tCopySets_S (v : Value) (l : List RSet) (hl : sliceR 5 rsR L [v] l) (hs : SmS l) : Spec Try.prog G 93 #[v] L fun u M => ∃ a c B N, u = .slice a l.length c ∧ ORow rsR 60 5 N a c l B ∧ Wr N ∧ M = B ++ (N ++ L) := by
  obtain ⟨hn, hd⟩ := hs
  obtain ⟨a0, c0, e1, hl⟩ := hl.val
  simp only [List.cons.injEq, and_true] at e1
  subst e1
  obtain ⟨_, ka1, ka2, hl⟩ := sets_cut hl
  refine Spec_of (n := 22) Try.func93 rfl rfl rfl ?_
  repeat ((first | with_reducible refine T_seq ?_ | with_reducible refine T_block ?_ | with_reducible refine T_region ?_ | with_reducible refine TL_nil ?_ | with_reducible refine TQ_then ?_ | refine TL_q (op_move rfl) rfl ?_ | refine TL_q (op_assign rfl) rfl ?_ | refine TL_q (op_len_slice rfl Try.underlying40) rfl ?_))
  refine T_loopS (σ := Nat × Option Addr × Nat × Blocks × Blocks) (fun x => x.1 ≤ l.length ∧ ORow rsR 60 5 x.2.2.2.2 x.2.1 x.2.2.1 (l.take x.1) x.2.2.2.1 ∧ Wr x.2.2.2.2) (fun x => [(3, .slice x.2.1 (l.take x.1).length x.2.2.1), (6, .slice a0 l.length c0), (7, .int .i64 (l.length : Nat)), (8, .int .i64 (x.1 : Nat))]) (fun x => x.2.2.2.1 ++ (x.2.2.2.2 ++ L)) (fun x => l.length - x.1) (0, none, 0, [], []) ⟨Nat.zero_le _, ORow.nil _, Wr.nil⟩ ?_ (fun w h => h) ?_
  (repeat ((first | exact trivial | refine ⟨rfl, ?_⟩)))
  rintro ⟨k, a, c, B, N⟩ ⟨hk, hB, hN⟩
  dsimp only at hk hB hN ⊢
  by_cases hlt : k < l.length
  · obtain ⟨x, hx⟩ : ∃ x, l[k]? = some x := ⟨_, List.getElem?_eq_getElem hlt⟩
    have htk : l.take (k + 1) = l.take k ++ [x] := by rw [List.take_add_one, hx]; rfl
    have htl : (l.take k).length ≤ 100000 := by rw [List.length_take]; omega
    rcases hl with rfl | ⟨b1, o1, C1, t1, f1, rfl, m1, q1⟩
    · simp at hlt
    obtain ⟨cx, _, hx2, hcx⟩ := q1 k x hx
    obtain ⟨xa, xc, rfl, hxd, hx4⟩ := hx2.vals
    have m1' : (b1, Obj.cells C1 t1 f1) ∈ B ++ (N ++ L) := List.mem_append_right _ (List.mem_append_right _ m1)
    repeat ((first | with_reducible refine T_seq ?_ | with_reducible refine T_block ?_ | with_reducible refine T_region ?_ | with_reducible refine TL_nil ?_ | with_reducible refine TQ_then ?_ | with_reducible refine T_skip ?_ | (refine' TL_q (op_bin rfl rfl ?_) rfl ?_; rotate_left 1; (· (exact bin_lss))) | (refine' TL_q (op_idx ety_40 rfl rfl ?_) rfl ?_; (· omega)) | (refine T_yes rfl ?_ ?_; (· (exact dT (by (omega)))))))
    refine TL_q (op_ldA [.string (bs x.name), .int .u16 x.kind, .int .u16 x.cls, .int .u32 x.ttl, .slice xa x.data.length xc] rfl st_60 m1' hcx) rfl ?_
    repeat ((first | with_reducible refine T_seq ?_ | with_reducible refine T_region ?_ | with_reducible refine TL_nil ?_ | with_reducible refine TQ_then ?_ | refine TL_q (op_fld rfl fld_60_4) rfl ?_ | (refine' TL_q (op_ld rfl pl_58 ?_ ?_) rfl ?_; rotate_left 4; (· repeat ((exact List.mem_cons_self))); (· (rfl))) | (refine TL_stAll rfl rfl st_60 rfl rfl rfl ?_) | (refine TL_new (op_alloc (C := #[(.string (bs [])), (.int .u16 0), (.int .u16 0), (.int .u32 0), (.slice none 0 0)]) zero_60 rfl) rfl ?_; intro bNew)))
    refine TL_opT (op_call hb_63 rfl (Clone_S _ x.data (mono_slice mono_str _ _ _ _ (mem_of_cnt (by intro p; (try simp only [cnt_append, cnt_cons, cnt_nil]) <;> omega)) hxd) (Nat.le_trans (hd x (List.mem_of_getElem? hx)) (by omega)))) rfl ?_
    rintro _ _ ⟨ad, cd, Bd, rfl, hBd, rfl⟩
    refine TL_cnt (L' := (bNew, Obj.cells #[.string (bs x.name), .int .u16 x.kind, .int .u16 x.cls, .int .u32 x.ttl, .slice xa x.data.length xc] 60 (0, 0)) :: (B ++ ((Bd ++ N) ++ L))) ?_ (by intro p; (try simp only [cnt_append, cnt_cons, cnt_nil]) <;> omega)
    repeat ((refine TL_q (op_fld rfl fld_60_4) rfl ?_))
    refine TL_st (C' := #[.string (bs x.name), .int .u16 x.kind, .int .u16 x.cls, .int .u32 x.ttl, .slice ad x.data.length cd]) rfl rfl one_58 rfl rfl rfl ?_
    repeat ((first | with_reducible refine T_region ?_ | with_reducible refine TL_nil ?_ | with_reducible refine TQ_then ?_ | refine TL_q (op_move rfl) rfl ?_ | (refine' TL_q (op_ldAll rfl st_60 ?_ ?_) rfl ?_; rotate_left 3; (· repeat ((exact List.mem_cons_self))); (· (assumption))) | (refine TL_new (op_litN ety_40 rfl rfl (by decide)) rfl ?_; intro bLit)))
    refine TL_cnt (L' := (bLit, Obj.cells #[.string (bs x.name), .int .u16 x.kind, .int .u16 x.cls, .int .u32 x.ttl, .slice ad x.data.length cd] 60 (0, 0)) :: (B ++ ((bNew, Obj.cells #[.string (bs x.name), .int .u16 x.kind, .int .u16 x.cls, .int .u32 x.ttl, .slice ad x.data.length cd] 60 (0, 0)) :: ((Bd ++ N) ++ L)))) ?_ (by intro p; (try simp only [cnt_append, cnt_cons, cnt_nil]) <;> omega)
    refine TL_opT (op_pushR (L0 := Bd ++ N) (cs := [.string (bs x.name), .int .u16 x.kind, .int .u16 x.cls, .int .u32 x.ttl, .slice ad x.data.length cd]) (y := x) ety_40 rfl rfl (hB.mono mono_set (mem_of_cnt (by intro p; (try simp only [cnt_append, cnt_cons, cnt_nil]) <;> omega))) ⟨_, rfl, (hBd.imp (L' := []) (fun cs y _ h => h)).sliceR mono_str (mem_of_cnt (by intro p; (try simp only [cnt_append, cnt_cons, cnt_nil]) <;> omega)) (mem_of_cnt (by intro p; (try simp only [cnt_append, cnt_cons, cnt_nil]) <;> omega)), hx4⟩ (by omega) (by decide)) rfl ?_
    rintro _ _ ⟨a', c', B', rfl, hB', rfl⟩
    repeat ((first | with_reducible refine T_region ?_ | with_reducible refine TL_nil ?_ | with_reducible refine TQ_then ?_ | with_reducible refine TQ_block ?_ | refine TL_q (op_move rfl) rfl ?_ | refine TL_q (op_assign rfl) rfl ?_ | (refine' TL_q (op_bin rfl rfl ?_) rfl ?_; rotate_left 1; (· (exact bin_add ⟨by omega, by omega⟩)))))
    refine TQ_roundS (k + 1, a', c', B', Bd ++ N) ⟨hlt, by dsimp only; rw [htk]; exact hB', hBd.wr.append hN⟩ ?_ (fun w h => h.cnt (by intro p; (try simp only [cnt_append, cnt_cons, cnt_nil]) <;> omega)) (by dsimp only; omega)
    dsimp only
    rw [htk]
    (repeat ((first | exact trivial | refine ⟨rfl, ?_⟩)))
  · have hkn : k = l.length := by omega
    subst hkn
    rw [List.take_length] at hB ⊢
    repeat ((first | with_reducible refine T_seq ?_ | with_reducible refine T_region ?_ | with_reducible refine TL_nil ?_ | with_reducible refine TQ_then ?_ | with_reducible refine T_exit ?_ | with_reducible refine T_ret ?_ | with_reducible refine TQ_then_exit ?_ | with_reducible refine TQ_block_exit ?_ | refine TL_q (op_move rfl) rfl ?_ | refine TL_q (op_assign rfl) rfl ?_ | (refine' TL_q (op_bin rfl rfl ?_) rfl ?_; rotate_left 1; (· (exact bin_lss))) | (refine T_no rfl ?_ ?_; (· (exact dF (by (omega)))))))
    refine TQ_ret1 2 _ rfl rfl ?_
    exact ⟨a, c, B, N, rfl, hB, hN, rfl⟩
set_option maxRecDepth 100000 in
set_option maxHeartbeats 2000000 in
theorem tCopyVerdict_S (cs : List Value) (v : Vdt) (hv : vdR L cs v) (hs : SmV v) : Spec Try.prog G 69 #[.agg cs.toArray] L (VdOut L v) := by
  obtain ⟨va, vb, rfl, h1, h2, hcode⟩ := hv
  obtain ⟨a1, c1, ea, h1⟩ := h1.val
  obtain ⟨a2, c2, eb, h2⟩ := h2.val
  simp only [List.cons.injEq, and_true] at ea eb
  subst ea eb
  refine Spec_of (n := 12) Try.func69 rfl rfl rfl ?_
  repeat ((first | with_reducible refine T_seq ?_ | with_reducible refine T_region ?_ | with_reducible refine TL_nil ?_ | with_reducible refine TQ_then ?_ | (refine TL_new (op_alloc (C := #[(.int .u8 0), (.slice none 0 0), (.slice none 0 0)]) zero_42 rfl) rfl ?_; intro bNew) | (refine TL_new (op_boxA rfl) rfl ?_; intro bBox)))
  have hKm : ∀ z ∈ [(bBox, Obj.cells #[.int .u8 v.code, .slice a1 v.sets.length c1, .slice a2 v.soa.length c2] 42 (0, 0))], z ∈ (bNew, Obj.cells #[.int .u8 0, .slice none 0 0, .slice none 0 0] 42 (0, 0)) :: ((bBox, Obj.cells #[.int .u8 v.code, .slice a1 v.sets.length c1, .slice a2 v.soa.length c2] 42 (0, 0)) :: L) := (mem_of_cnt (by intro p; (try simp only [cnt_append, cnt_cons, cnt_nil]) <;> omega))
  refine T_draw follows_mixed ([(bBox, Obj.cells #[.int .u8 v.code, .slice a1 v.sets.length c1, .slice a2 v.soa.length c2] 42 (0, 0))]) [] ?_
  (refine' TA_take 0 rfl rfl (by kernel_rfl) (quiet_q (op_fld rfl fld_42_0)) ?_ ?_; (· (assumption)))
  (refine' TA_take 1 rfl rfl (by kernel_rfl) (quiet_q (op_ld rfl pl_5 ?_ ?_)) ?_ ?_; rotate_left 4; (· repeat ((exact List.mem_cons_self))); (· (rfl)); (· (assumption)))
  (refine' TA_take 2 rfl rfl (by kernel_rfl) (quiet_q (op_fld rfl fld_42_1)) ?_ ?_; (· (assumption)))
  (refine' TA_take 3 rfl rfl (by kernel_rfl) (quiet_q (op_ld rfl pl_40 ?_ ?_)) ?_ ?_; rotate_left 4; (· repeat ((exact List.mem_cons_self))); (· (rfl)); (· (assumption)))
  (refine' TA_take 5 rfl rfl (by kernel_rfl) (quiet_q (op_fld rfl fld_42_2)) ?_ ?_; (· (assumption)))
  (refine' TA_take 6 rfl rfl (by kernel_rfl) (quiet_q (op_ld rfl pl_40 ?_ ?_)) ?_ ?_; rotate_left 4; (· repeat ((exact List.mem_cons_self))); (· (rfl)); (· (assumption)))
  refine TA_oneD 4 (by kernel_rfl) rfl rfl rfl rfl (op_call hb_93 rfl (tCopySets_S _ v.sets (mono_slice mono_set _ _ _ _ (mem_of_cnt (by intro p; (try simp only [cnt_append, cnt_cons, cnt_nil]) <;> omega)) h1) hs.1)) ?_; rintro _ _ ⟨aR, cR, BR, NR, rfl, hR, hNR, rfl⟩; refine ⟨Or.inr (mem_of_cnt (by intro p; (try simp only [cnt_append, cnt_cons, cnt_nil]) <;> omega)), ?_⟩
  refine TA_oneD 7 (by kernel_rfl) rfl rfl rfl rfl (op_call hb_93 rfl (tCopySets_S _ v.soa (mono_slice mono_set _ _ _ _ (mem_of_cnt (by intro p; (try simp only [cnt_append, cnt_cons, cnt_nil]) <;> omega)) h2) hs.2)) ?_; rintro _ _ ⟨aS, cS, BS, NS, rfl, hS, hNS, rfl⟩; refine ⟨Or.inr (mem_of_cnt (by intro p; (try simp only [cnt_append, cnt_cons, cnt_nil]) <;> omega)), ?_⟩
  (refine' TA_take 8 rfl rfl (by kernel_rfl) (quiet_q (op_build rfl (bl_42_0_1_2 _ _ _ _ _ _ _))) ?_ ?_; (· (intro p hp; grind)))
  refine TA_cnt (L' := (bNew, Obj.cells #[.int .u8 0, .slice none 0 0, .slice none 0 0] 42 (0, 0)) :: (BS ++ (NS ++ (BR ++ (NR ++ ((bBox, Obj.cells #[.int .u8 v.code, .slice a1 v.sets.length c1, .slice a2 v.soa.length c2] 42 (0, 0)) :: L)))))) ?_ (by intro p; (try simp only [cnt_append, cnt_cons, cnt_nil]) <;> omega); refine TA_oneN 9 (by kernel_rfl) rfl rfl rfl (op_stAll rfl rfl st_42 rfl rfl rfl) ?_; rintro _ _ ⟨_, rfl⟩; refine ⟨Or.inr (mem_of_cnt (by intro p; (try simp only [cnt_append, cnt_cons, cnt_nil]) <;> omega)), ?_⟩
  refine TA_done (by kernel_rfl) ?_
  repeat ((first | with_reducible refine TQ_then ?_ | with_reducible refine T_ret ?_))
  refine TQ_retC 2 42  rfl rfl  st_42 (by repeat ((exact List.mem_cons_self))) rfl (fun w h => Heap.cnt (L' := BS ++ (BR ++ ((NS ++ NR) ++ L))) h (by intro p; (try simp only [cnt_append, cnt_cons, cnt_nil]) <;> omega)) ?_
  exact ⟨_, _, _, _, _, _, NS ++ NR, rfl, hR.mono mono_set (mem_of_cnt (by intro p; (try simp only [cnt_append, cnt_cons, cnt_nil]) <;> omega)), hS.mono mono_set (mem_of_cnt (by intro p; (try simp only [cnt_append, cnt_cons, cnt_nil]) <;> omega)), hNS.append hNR, rfl⟩
end Go.Proofs.Ytdflhdfapnhjjaa
namespace Go.Proofs.Ytdflhdfapnhjjaa
open Go.RowKit
open Vd (RSet Vdt Vote Rec Quest Piece Ballot)
set_option linter.unusedVariables false
set_option linter.unusedSimpArgs false
--auto
def ballotR : Rp Ballot := fun L cs x => ∃ a1 c1 a2 c2, cs = [.int .i64 x.v.up, .int .u8 x.v.vd.code, .slice a1 x.v.vd.sets.length c1, .slice a2 x.v.vd.soa.length c2, .int .u32 x.v.time, .bool x.pass] ∧ voteR L [.int .i64 x.v.up, .int .u8 x.v.vd.code, .slice a1 x.v.vd.sets.length c1, .slice a2 x.v.vd.soa.length c2, .int .u32 x.v.time] x.v
theorem mono_ballot : Mono ballotR := fun L L' cs x hL ⟨a1, c1, a2, c2, h1, h2⟩ => ⟨a1, c1, a2, c2, h1, mono_vote L L' _ _ hL h2⟩
theorem voteR.vals {L : Blocks} {cs : List Value} {v : Vote} (h : voteR L cs v) : ∃ a1 c1 a2 c2, cs = [.int .i64 v.up, .int .u8 v.vd.code, .slice a1 v.vd.sets.length c1, .slice a2 v.vd.soa.length c2, .int .u32 v.time] ∧ sliceR 5 rsR L [.slice a1 v.vd.sets.length c1] v.vd.sets ∧ sliceR 5 rsR L [.slice a2 v.vd.soa.length c2] v.vd.soa ∧ (0 ≤ v.vd.code ∧ v.vd.code ≤ 255) ∧ (0 ≤ v.time ∧ v.time ≤ 4294967295) ∧ (-9223372036854775808 ≤ v.up ∧ v.up ≤ 9223372036854775807) := by
  obtain ⟨a, b, rfl, h1, h2, h3⟩ := h
  obtain ⟨a1, c1, e1, h1⟩ := h1.val
  obtain ⟨a2, c2, e2, h2⟩ := h2.val
  simp only [List.cons.injEq, and_true] at e1 e2
  subst e1 e2
  exact ⟨a1, c1, a2, c2, rfl, h1, h2, h3⟩
theorem voteR.one {L : Blocks} {cs : List Value} {v : Vote} (h : voteR L cs v) : ∀ x ∈ cs, x.oneCell' = true := by
  obtain ⟨a1, c1, a2, c2, rfl, _⟩ := h.vals
  intro x hx
  simp only [List.mem_cons, List.not_mem_nil, or_false] at hx
  rcases hx with rfl | rfl | rfl | rfl | rfl <;> rfl
theorem voteR.len {L : Blocks} {cs : List Value} {v : Vote} (h : voteR L cs v) : cs.length = 5 := by
  obtain ⟨a1, c1, a2, c2, rfl, _⟩ := h.vals
  rfl
theorem ballotR.one {L : Blocks} {cs : List Value} {x : Ballot} (h : ballotR L cs x) : ∀ v ∈ cs, v.oneCell' = true := by
  obtain ⟨a1, c1, a2, c2, rfl, _⟩ := h
  intro v hv
  simp only [List.mem_cons, List.not_mem_nil, or_false] at hv
  rcases hv with rfl | rfl | rfl | rfl | rfl | rfl <;> rfl
theorem ballotR.len {L : Blocks} {cs : List Value} {x : Ballot} (h : ballotR L cs x) : cs.length = 6 := by
  obtain ⟨a1, c1, a2, c2, rfl, _⟩ := h
  rfl
section
variable {G : World} {P : Program} {n : Nat} {ρ : Slots} {L : Blocks} {Q : Exit → Act → World → Prop} {ops : Array Oper} {K : Blocks} {W : List Nat} {fuel : Nat} {listed : Array Bool}
end
section
variable {G : World} {P : Program} {ρ : Slots} {L : Blocks} {ty : TypeId}
theorem op_pushK {α : Type} {r : List Value → α → Prop} {s x : Operand} {t e te : TypeId} {sz bytes bl : Nat} {z : Value} {a : Option Addr} {c : Nat} {cs : List Value} {y : α} {l : List α} {B L0 : Blocks} (E : ElemTy P t e sz bytes z) (hs : ev ρ s = some (.slice a l.length c)) (hx : ev ρ x = some (.slice (some ⟨bl, 0, none⟩) 1 1))
    (hrow : ORow (fun _ => r) e sz L0 a c l B) (hn : cs.length = sz) (hone : ∀ v ∈ cs, v.oneCell' = true) (hy : r cs y) (h63 : l.length ≤ 1000000) (hb : bytes ≤ 1000) :
    OpT P G ρ ((bl, .cells cs.toArray te (0, 0)) :: (B ++ L)) (.call ⟨.builtin .append, #[s, x], #[t, t]⟩) ty fun v' L' => ∃ a' c' B', v' = .slice a' (l ++ [y]).length c' ∧ ORow (fun _ => r) e sz L0 a' c' (l ++ [y]) B' ∧ L' = B' ++ L :=
  op_push (r := fun _ => r) E hs hx hrow hn hone hy (by unfold maxLen; omega) (Nat.le_trans (Nat.mul_le_mul (show l.length + 1 ≤ 1000001 by omega) hb) (by decide))
end
variable {G : World} {L : Blocks}
end Go.Proofs.Ytdflhdfapnhjjaa
namespace Go.Proofs.Ytdflhdfapnhjjaa
open Go.RowKit
open Vd (RSet Vdt Vote Rec Quest Piece Ballot)
set_option linter.unusedVariables false
set_option linter.unusedSimpArgs false
--auto
variable {G : World} {L : Blocks}
theorem votesB_snoc (l : List Ballot) (y : Ballot) : Vd.votesB (l ++ [y]) = if y.pass then Vd.votesB l else Vd.votesB l ++ [y.v] := by
  unfold Vd.votesB
  rw [List.filter_append, List.map_append]
  cases hy : y.pass <;> simp [hy]
theorem votesB_len (l : List Ballot) : (Vd.votesB l).length ≤ l.length := by
  unfold Vd.votesB
  rw [List.length_map]
  exact List.length_filter_le _ _
end Go.Proofs.Ytdflhdfapnhjjaa
namespace Go.Proofs.Ytdflhdfapnhjjaa
open Go.RowKit
open Vd (RSet Vdt Vote Rec Quest Piece Ballot)
set_option linter.unusedVariables false
set_option linter.unusedSimpArgs false
def slipCells (f : Int → Int × Int) : List Value := [.int .u8 (f 0).1, .int .i64 (f 0).2, .int .u8 (f 1).1, .int .i64 (f 1).2, .int .u8 (f 2).1, .int .i64 (f 2).2, .int .u8 (f 3).1, .int .i64 (f 3).2, .int .u8 (f 4).1, .int .i64 (f 4).2, .int .u8 (f 5).1, .int .i64 (f 5).2, .int .u8 (f 6).1, .int .i64 (f 6).2, .int .u8 (f 7).1, .int .i64 (f 7).2, .int .u8 (f 8).1, .int .i64 (f 8).2]
def boxC (want : Int) (f : Int → Int × Int) (v : Value) : List Value := .int .i64 want :: (slipCells f ++ [v])
theorem boxC_len {want : Int} {f : Int → Int × Int} {v : Value} : (boxC want f v).toArray.size = 20 := rfl
theorem boxC_kind {want : Int} {f : Int → Int × Int} {v : Value} {u : Int} (h : 0 ≤ u ∧ u < 9) : (boxC want f v).toArray[1 + u.toNat * 2 + 0]? = some (.int .u8 (f u).1) := by
  obtain ⟨n, rfl⟩ : ∃ n : Nat, u = n := ⟨u.toNat, by omega⟩
  have hn : n < 9 := by omega
  match n, hn with
  | 0, _ | 1, _ | 2, _ | 3, _ | 4, _ | 5, _ | 6, _ | 7, _ | 8, _ => rfl
theorem boxC_first {want : Int} {f : Int → Int × Int} {v : Value} {u : Int} (h : 0 ≤ u ∧ u < 9) : (boxC want f v).toArray[1 + u.toNat * 2 + 1]? = some (.int .i64 (f u).2) := by
  obtain ⟨n, rfl⟩ : ∃ n : Nat, u = n := ⟨u.toNat, by omega⟩
  have hn : n < 9 := by omega
  match n, hn with
  | 0, _ | 1, _ | 2, _ | 3, _ | 4, _ | 5, _ | 6, _ | 7, _ | 8, _ => rfl
def upd (f : Int → Int × Int) (u : Int) (x : Int × Int) : Int → Int × Int := fun w => if w = u then x else f w
theorem boxC_put {want : Int} {f : Int → Int × Int} {v : Value} {u : Int} (h : 0 ≤ u ∧ u < 9) (x : Int × Int) : putAt (boxC want f v).toArray (1 + u.toNat * 2) [.int .u8 x.1, .int .i64 x.2] = (boxC want (upd f u x) v).toArray := by
  obtain ⟨n, rfl⟩ : ∃ n : Nat, u = n := ⟨u.toNat, by omega⟩
  have hn : n < 9 := by omega
  match n, hn with
  | 0, _ | 1, _ | 2, _ | 3, _ | 4, _ | 5, _ | 6, _ | 7, _ | 8, _ => simp [putAt, boxC, slipCells, upd]
theorem upd_slip {l : List Ballot} (h : BoxOk l) {x : Ballot} (hx : Vd.hasB l x.v.up = false) (hb : 0 ≤ x.v.up ∧ x.v.up < 9) : slipOf (l ++ [x]) = upd (slipOf l) x.v.up (if x.pass then ((1, 0) : Int × Int) else (2, (firstOf (Vd.votesB l) x.v.vd : Int))) := by
  funext u
  rw [slip_snoc h hx hb _ rfl (votesB_snoc l x) u]
  rfl
/-- A box of the program's: at a place, with ballots; data in K. -/
def TBox (K : Blocks) (bb : Nat) (want : Int) (l : List Ballot) (M : Blocks) : Prop := ∃ a c B, ORow voteR 46 5 K a c (Vd.votesB l) B ∧ M = (bb, Obj.cells (boxC want (slipOf l) (.slice a (Vd.votesB l).length c)).toArray 100 (0, 0)) :: B
/-- A box of the document's. -/
def RBox (K : Blocks) (bb : Nat) (want : Int) (l : List Ballot) (M : Blocks) : Prop := ∃ a c B, ORow ballotR 141 6 K a c l B ∧ M = (bb, Obj.cells #[.int .i64 want, .slice a l.length c] 124 (0, 0)) :: B
theorem TBox.mono {K K' : Blocks} (hK : ∀ p ∈ K, p ∈ K') {bb : Nat} {want : Int} {l : List Ballot} {M : Blocks} (h : TBox K bb want l M) : TBox K' bb want l M := by
  obtain ⟨a, c, B, h1, h2⟩ := h
  exact ⟨a, c, B, h1.mono mono_vote hK, h2⟩
theorem RBox.mono {K K' : Blocks} (hK : ∀ p ∈ K, p ∈ K') {bb : Nat} {want : Int} {l : List Ballot} {M : Blocks} (h : RBox K bb want l M) : RBox K' bb want l M := by
  obtain ⟨a, c, B, h1, h2⟩ := h
  exact ⟨a, c, B, h1.mono mono_ballot hK, h2⟩
end Go.Proofs.Ytdflhdfapnhjjaa
namespace Go.Proofs.Ytdflhdfapnhjjaa
open Go.RowKit
open Vd (RSet Vdt Vote Rec Quest Piece Ballot)
set_option linter.unusedVariables false
set_option linter.unusedSimpArgs false
--auto
variable {G : World} {L : Blocks}
theorem hasB_out {l : List Ballot} (h : BoxOk l) {u : Int} (hu : ¬ (0 ≤ u ∧ u < 9)) : Vd.hasB l u = false := by
  cases hb : Vd.hasB l u with
  | false => rfl
  | true =>
    obtain ⟨b, hb1, hb2⟩ := List.mem_map.1 ((hasB_mem l u).1 hb)
    have := h.up b hb1
    omega
theorem slip_kind (l : List Ballot) (u : Int) : ((slipOf l u).1 != 0) = Vd.hasB l u := by
  have := slip_has l u
  cases hb : Vd.hasB l u with
  | true =>
    rw [hb] at this
    have h : ¬ (slipOf l u).1 = 0 := fun e => by have := this.1 e; cases this
    simpa using h
  | false => rw [this.2 hb]; rfl
set_option maxRecDepth 100000 in
set_option maxHeartbeats 2000000 in
theorem pHas_S (bb : Nat) (want u : Int) (l : List Ballot) (vv : Value) (hm : (bb, Obj.cells (boxC want (slipOf l) vv).toArray 100 (0, 0)) ∈ L) (hl : BoxOk l) :
    Spec Try.prog G 45 #[.pointer (some ⟨bb, 0, none⟩), .int .i64 u] L fun w M => w = .bool (Vd.hasB l u) ∧ M = L := by
  refine Spec_of (n := 25) Try.func45 rfl rfl rfl ?_
  by_cases hu : 0 ≤ u ∧ u < 9
  · obtain ⟨h0, h9⟩ := hu
    have hg : (boxC want (slipOf l) vv).toArray[0 + 1 + u.toNat * 2 + 0]? = some (.int .u8 (slipOf l u).1) := boxC_kind ⟨h0, h9⟩
    repeat ((first | with_reducible refine T_seq ?_ | with_reducible refine T_region ?_ | with_reducible refine TL_nil ?_ | with_reducible refine TQ_then ?_ | with_reducible refine T_ret ?_ | refine TL_q (op_move rfl) rfl ?_ | refine TL_q (op_assign rfl) rfl ?_ | (refine' TL_q (op_bin rfl rfl ?_) rfl ?_; rotate_left 1; (· (exact pbin_neq Try.underlying76))) | (refine' TL_q (op_pickT rfl ?_ rfl) rfl ?_; (· (first | exact Bool.not_false | exact dT (by (assumption))))) | (refine TL_gpre rfl rfl ?_ ?_; (· (first | exact Bool.not_false | exact dT (by (assumption))))) | refine TL_gq2 (op_move rfl) rfl ?_ | (refine' TL_gq2 (op_bin rfl rfl ?_) rfl ?_; rotate_left 1; (· (first | exact bin_neq | exact bin_lss | exact bin_geq))) | refine TL_gq2 (op_nilCheck rfl) rfl ?_ | (refine' TL_gq2 (op_idxA arr_98 rfl rfl ?_ ?_) rfl ?_; (· omega); (· omega)) | refine TL_gq2 (op_fld rfl fld_97_0) rfl ?_ | refine TL_gq2 (op_fld rfl fld_100_1) rfl ?_ | (refine' TL_gq2 (op_ld rfl pl_5 ?_ ?_) rfl ?_; rotate_left 4; (· repeat ((assumption))); (· (assumption)))))
    refine TQ_ret1 4 _ rfl rfl ?_
    exact ⟨by rw [← slip_kind], rfl⟩
  · rw [hasB_out hl hu]
    by_cases h0 : 0 ≤ u
    · have h9 : ¬ u < 9 := fun h => hu ⟨h0, h⟩
      repeat ((first | with_reducible refine T_seq ?_ | with_reducible refine T_region ?_ | with_reducible refine TL_nil ?_ | with_reducible refine TQ_then ?_ | with_reducible refine T_ret ?_ | refine TL_q (op_move rfl) rfl ?_ | refine TL_q (op_assign rfl) rfl ?_ | (refine' TL_q (op_bin rfl rfl ?_) rfl ?_; rotate_left 1; (· (exact pbin_neq Try.underlying76))) | (refine' TL_q (op_pickT rfl ?_ rfl) rfl ?_; (· (first | exact Bool.not_false | exact dT (by (assumption))))) | (refine' TL_q (op_pickF rfl ?_ rfl) rfl ?_; (· (exact dF (by (assumption))))) | (refine TL_gpre rfl rfl ?_ ?_; (· (first | exact Bool.not_false | exact dT (by (assumption))))) | refine TL_gq2 (op_move rfl) rfl ?_ | (refine' TL_gq2 (op_bin rfl rfl ?_) rfl ?_; rotate_left 1; (· (first | exact bin_lss | exact bin_geq))) | (refine TL_gno rfl rfl ?_ rfl ?_; (· (exact dF (by (assumption)))))))
      refine TQ_ret1 4 _ rfl rfl ?_
      exact ⟨rfl, rfl⟩
    · repeat ((first | with_reducible refine T_seq ?_ | with_reducible refine T_region ?_ | with_reducible refine TL_nil ?_ | with_reducible refine TQ_then ?_ | with_reducible refine T_ret ?_ | refine TL_q (op_move rfl) rfl ?_ | refine TL_q (op_assign rfl) rfl ?_ | (refine' TL_q (op_bin rfl rfl ?_) rfl ?_; rotate_left 1; (· (exact pbin_neq Try.underlying76))) | (refine' TL_q (op_pickT rfl ?_ rfl) rfl ?_; (· (exact Bool.not_false))) | (refine' TL_q (op_pickF rfl ?_ rfl) rfl ?_; (· (first | with_reducible rfl | exact dF (by (assumption))))) | (refine TL_gpre rfl rfl ?_ ?_; (· (exact Bool.not_false))) | refine TL_gq2 (op_move rfl) rfl ?_ | (refine' TL_gq2 (op_bin rfl rfl ?_) rfl ?_; rotate_left 1; (· (exact bin_geq))) | (refine TL_gno rfl rfl ?_ rfl ?_; (· (first | exact Bool.not_true | exact dF (by (assumption)))))))
      refine TQ_ret1 4 _ rfl rfl ?_
      exact ⟨rfl, rfl⟩
/-- Whether a ballot of an upstream may be added. -/
def mayE (l : List Ballot) (u : Int) : Int := if u < 0 ∨ 9 ≤ u then 1 else if Vd.hasB l u then 7 else 0
theorem putB_e (l : List Ballot) (x : Ballot) : (Vd.putB l x).2 = mayE l x.v.up := by
  unfold Vd.putB mayE
  split
  · rfl
  · split <;> rfl
theorem putB_no {l : List Ballot} {x : Ballot} (h : mayE l x.v.up ≠ 0) : (Vd.putB l x).1 = l := by
  unfold Vd.putB
  unfold mayE at h
  split
  · rfl
  · rename_i h1
    rw [if_neg h1] at h
    split
    · rfl
    · rename_i h2
      rw [if_neg h2] at h
      exact absurd rfl h
theorem putB_yes {l : List Ballot} {x : Ballot} (h : mayE l x.v.up = 0) : (Vd.putB l x).1 = l ++ [x] ∧ (0 ≤ x.v.up ∧ x.v.up < 9) ∧ Vd.hasB l x.v.up = false := by
  unfold Vd.putB
  unfold mayE at h
  by_cases h1 : x.v.up < 0 ∨ 9 ≤ x.v.up
  · rw [if_pos h1] at h; cases h
  · rw [if_neg h1] at h ⊢
    by_cases h2 : Vd.hasB l x.v.up = true
    · rw [if_pos h2] at h; cases h
    · rw [if_neg h2]
      exact ⟨rfl, by omega, by simpa using h2⟩
set_option maxRecDepth 100000 in
set_option maxHeartbeats 2000000 in
theorem pMay_S (bb : Nat) (want u : Int) (l : List Ballot) (vv : Value) (hm : (bb, Obj.cells (boxC want (slipOf l) vv).toArray 100 (0, 0)) ∈ L) (hl : BoxOk l) :
    Spec Try.prog G 71 #[.pointer (some ⟨bb, 0, none⟩), .int .i64 u] L fun w M => w = .int .i64 (mayE l u) ∧ M = L := by
  refine Spec_of (n := 16) Try.func71 rfl rfl rfl ?_
  unfold mayE
  by_cases h0 : u < 0
  · rw [if_pos (Or.inl h0)]
    repeat ((first | with_reducible refine T_seq ?_ | with_reducible refine T_region ?_ | with_reducible refine TL_nil ?_ | with_reducible refine TQ_then ?_ | with_reducible refine T_skip ?_ | with_reducible refine T_ret ?_ | with_reducible refine TQ_then_ret ?_ | refine TL_q (op_move rfl) rfl ?_ | refine TL_q (op_assign rfl) rfl ?_ | (refine' TL_q (op_bin rfl rfl ?_) rfl ?_; rotate_left 1; (· (first | exact bin_lss | exact pbin_eql Try.underlying76))) | (refine' TL_q (op_pickT rfl ?_ rfl) rfl ?_; (· (exact dT (by (assumption))))) | (refine TL_gno rfl rfl ?_ rfl ?_; (· (exact dT (by (assumption))))) | (refine T_yes rfl ?_ ?_; (· (with_reducible rfl))) | (refine T_no rfl ?_ ?_; (· (exact Bool.not_true)))))
    refine TQ_ret1 4 _ rfl rfl ?_
    exact ⟨rfl, rfl⟩
  · by_cases h9 : 9 ≤ u
    · rw [if_pos (Or.inr h9)]
      repeat ((first | with_reducible refine T_seq ?_ | with_reducible refine T_region ?_ | with_reducible refine TL_nil ?_ | with_reducible refine TQ_then ?_ | with_reducible refine T_skip ?_ | with_reducible refine T_ret ?_ | with_reducible refine TQ_then_ret ?_ | refine TL_q (op_move rfl) rfl ?_ | refine TL_q (op_assign rfl) rfl ?_ | (refine' TL_q (op_bin rfl rfl ?_) rfl ?_; rotate_left 1; (· (first | exact bin_lss | exact pbin_eql Try.underlying76))) | (refine' TL_q (op_pickF rfl ?_ rfl) rfl ?_; (· (exact dF (by (assumption))))) | (refine TL_gpre rfl rfl ?_ ?_; (· (exact dF (by (assumption))))) | refine TL_gq2 (op_move rfl) rfl ?_ | (refine' TL_gq2 (op_bin rfl rfl ?_) rfl ?_; rotate_left 1; (· (exact bin_geq))) | (refine T_yes rfl ?_ ?_; (· (exact dT (by (assumption))))) | (refine T_no rfl ?_ ?_; (· (exact Bool.not_true)))))
      refine TQ_ret1 4 _ rfl rfl ?_
      exact ⟨rfl, rfl⟩
    · rw [if_neg (by omega)]
      cases hb : Vd.hasB l u with
      | true =>
        repeat ((first | with_reducible refine T_seq ?_ | with_reducible refine T_region ?_ | with_reducible refine TL_nil ?_ | with_reducible refine TQ_then ?_ | with_reducible refine T_skip ?_ | with_reducible refine T_ret ?_ | with_reducible refine TQ_then_ret ?_ | refine TL_q (op_move rfl) rfl ?_ | refine TL_q (op_assign rfl) rfl ?_ | (refine' TL_q (op_bin rfl rfl ?_) rfl ?_; rotate_left 1; (· (first | exact bin_lss | exact pbin_eql Try.underlying76))) | (refine' TL_q (op_pickF rfl ?_ rfl) rfl ?_; (· (exact dF (by (assumption))))) | (refine' TL_op (op_call hb_45 rfl ((pHas_S bb want u l vv hm hl) )) rfl ?_) | (refine TL_gpre rfl rfl ?_ ?_; (· (exact dF (by (assumption))))) | refine TL_gq2 (op_move rfl) rfl ?_ | (refine' TL_gq2 (op_bin rfl rfl ?_) rfl ?_; rotate_left 1; (· (exact bin_geq))) | (refine T_yes rfl ?_ ?_; (· (assumption))) | (refine T_no rfl ?_ ?_; (· (first | exact Bool.not_true | exact dF (by (assumption)))))))
        refine TQ_ret1 4 _ rfl rfl ?_
        exact ⟨rfl, rfl⟩
      | false =>
        repeat ((first | with_reducible refine T_seq ?_ | with_reducible refine T_region ?_ | with_reducible refine TL_nil ?_ | with_reducible refine TQ_then ?_ | with_reducible refine T_skip ?_ | with_reducible refine T_ret ?_ | refine TL_q (op_move rfl) rfl ?_ | refine TL_q (op_assign rfl) rfl ?_ | (refine' TL_q (op_bin rfl rfl ?_) rfl ?_; rotate_left 1; (· (first | exact bin_lss | exact pbin_eql Try.underlying76))) | (refine' TL_q (op_pickF rfl ?_ rfl) rfl ?_; (· (exact dF (by (assumption))))) | (refine' TL_op (op_call hb_45 rfl ((pHas_S bb want u l vv hm hl) )) rfl ?_) | (refine TL_gpre rfl rfl ?_ ?_; (· (exact dF (by (assumption))))) | refine TL_gq2 (op_move rfl) rfl ?_ | (refine' TL_gq2 (op_bin rfl rfl ?_) rfl ?_; rotate_left 1; (· (exact bin_geq))) | (refine T_no rfl ?_ ?_; (· (first | assumption | exact Bool.not_true | exact dF (by (assumption)))))))
        refine TQ_ret1 4 _ rfl rfl ?_
        exact ⟨rfl, rfl⟩
set_option maxRecDepth 100000 in
set_option maxHeartbeats 2000000 in
theorem pPass_S {K : Blocks} (bb : Nat) (want u : Int) (l : List Ballot) (M0 : Blocks) (hb : TBox K bb want l M0) (hl : BoxOk l) :
    Spec Try.prog G 43 #[.pointer (some ⟨bb, 0, none⟩), .int .i64 u] (M0 ++ L) fun w M => w = .int .i64 (Vd.putB l ⟨⟨u, Vdt.none, 0⟩, true⟩).2 ∧ ∃ M', TBox K bb want (Vd.putB l ⟨⟨u, Vdt.none, 0⟩, true⟩).1 M' ∧ M = M' ++ L := by
  obtain ⟨a, c, B, hB, rfl⟩ := hb
  refine Spec_of (n := 18) Try.func43 rfl rfl rfl ?_
  repeat ((first | with_reducible refine T_seq ?_ | with_reducible refine T_region ?_ | with_reducible refine TL_nil ?_ | with_reducible refine TQ_then ?_ | refine TL_q (op_move rfl) rfl ?_ | refine TL_q (op_assign rfl) rfl ?_))
  refine TL_op (op_call hb_71 rfl (pMay_S bb want u l _ (List.mem_cons_self ..) hl)) rfl ?_
  have he := putB_e l ⟨⟨u, Vdt.none, 0⟩, true⟩
  rw [he]
  by_cases h0 : mayE l u = 0
  · obtain ⟨h1, h2, h3⟩ := putB_yes (x := ⟨⟨u, Vdt.none, 0⟩, true⟩) h0
    obtain ⟨h20, h29⟩ := h2
    dsimp only at h20 h29 h3
    repeat ((first | with_reducible refine T_seq ?_ | with_reducible refine T_region ?_ | with_reducible refine TL_nil ?_ | with_reducible refine TQ_then ?_ | with_reducible refine T_skip ?_ | refine TL_q (op_move rfl) rfl ?_ | refine TL_q (op_assign rfl) rfl ?_ | (refine' TL_q (op_bin rfl rfl ?_) rfl ?_; rotate_left 1; (· (exact bin_neq))) | refine TL_q (op_nilCheck rfl) rfl ?_ | (refine' TL_q (op_idxA arr_98 rfl rfl ?_ ?_) rfl ?_; (· omega); (· omega)) | refine TL_q (op_fld rfl fld_100_1) rfl ?_ | refine TL_q (op_build rfl (bl_97_0 _)) rfl ?_ | (refine T_no rfl ?_ ?_; (· (exact nF (by (assumption)))))))
    refine TL_opN (op_stA (cs := [.int .u8 1, .int .i64 0]) rfl rfl st_97 (by intro v hv; simp only [List.mem_cons, List.not_mem_nil, or_false] at hv; rcases hv with rfl | rfl <;> rfl) (by rw [boxC_len]; simp; omega)) ?_
    have hput : putAt (boxC want (slipOf l) (.slice a (Vd.votesB l).length c)).toArray (0 + 1 + u.toNat * 2) [.int .u8 1, .int .i64 0] = (boxC want (slipOf (l ++ [⟨⟨u, Vdt.none, 0⟩, true⟩])) (.slice a (Vd.votesB l).length c)).toArray := by
      rw [upd_slip hl (x := ⟨⟨u, Vdt.none, 0⟩, true⟩) h3 ⟨h20, h29⟩, Nat.zero_add]
      exact boxC_put ⟨h20, h29⟩ (1, 0)
    rw [hput]
    repeat ((first | with_reducible refine T_seq ?_ | with_reducible refine T_region ?_ | with_reducible refine TL_nil ?_ | with_reducible refine TQ_then ?_ | with_reducible refine T_ret ?_ | refine TL_q (op_assign rfl) rfl ?_))
    refine TQ_ret1 4 _ rfl rfl ?_
    have hv : Vd.votesB (l ++ [⟨⟨u, Vdt.none, 0⟩, true⟩]) = Vd.votesB l := by rw [votesB_snoc]; rfl
    refine ⟨by dsimp only; rw [h0], _, ⟨a, c, B, ?_, rfl⟩, ?_⟩
    · rw [h1, hv]; exact hB
    · rw [h1, hv]; rfl
  · have h1 := putB_no (x := ⟨⟨u, Vdt.none, 0⟩, true⟩) h0
    rw [h1]
    repeat ((first | with_reducible refine T_seq ?_ | with_reducible refine T_region ?_ | with_reducible refine TL_nil ?_ | with_reducible refine TQ_then ?_ | with_reducible refine T_ret ?_ | with_reducible refine TQ_then_ret ?_ | refine TL_q (op_move rfl) rfl ?_ | refine TL_q (op_assign rfl) rfl ?_ | (refine' TL_q (op_bin rfl rfl ?_) rfl ?_; rotate_left 1; (· (exact bin_neq))) | (refine T_yes rfl ?_ ?_; (· (exact nT (by (assumption)))))))
    refine TQ_ret1 4 _ rfl rfl ?_
    exact ⟨rfl, _, ⟨a, c, B, hB, rfl⟩, rfl⟩
end Go.Proofs.Ytdflhdfapnhjjaa
namespace Go.Proofs.Ytdflhdfapnhjjaa
open Go.RowKit
open Vd (RSet Vdt Vote Rec Quest Piece Ballot)
set_option linter.unusedVariables false
set_option linter.unusedSimpArgs false
--auto
variable {G : World} {L : Blocks}
/-- A vote in new memory. -/
def VoteOut (L : Blocks) (x : Vote) (u : Value) (M : Blocks) : Prop := ∃ a c B a2 c2 B2 N, u = .agg #[.int .i64 x.up, .int .u8 x.vd.code, .slice a x.vd.sets.length c, .slice a2 x.vd.soa.length c2, .int .u32 x.time] ∧
  ORow rsR 60 5 N a c x.vd.sets B ∧ ORow rsR 60 5 N a2 c2 x.vd.soa B2 ∧ Wr N ∧ M = B2 ++ (B ++ (N ++ L))
set_option maxRecDepth 100000 in
set_option maxHeartbeats 2000000 in
theorem pCopyVote_S (cs : List Value) (x : Vote) (hx : voteR L cs x) (hs : SmV x.vd) : Spec Try.prog G 72 #[.agg cs.toArray] L (VoteOut L x) := by
  obtain ⟨x1, xc1, x2, xc2, rfl, h1, h2, h3, h4, h5⟩ := hx.vals
  refine Spec_of (n := 11) Try.func72 rfl rfl rfl ?_
  refine T_seq (T_region (TL_new (op_boxA rfl) rfl ?_))
  intro bX
  refine TL_new (op_alloc (C := #[.int .i64 0, .int .u8 0, .slice none 0 0, .slice none 0 0, .int .u32 0]) zero_46 rfl) rfl ?_
  intro bO
  have hKm : ∀ z ∈ [(bX, Obj.cells #[.int .i64 x.up, .int .u8 x.vd.code, .slice x1 x.vd.sets.length xc1, .slice x2 x.vd.soa.length xc2, .int .u32 x.time] 46 (0, 0))], z ∈ (bX, Obj.cells #[.int .i64 x.up, .int .u8 x.vd.code, .slice x1 x.vd.sets.length xc1, .slice x2 x.vd.soa.length xc2, .int .u32 x.time] 46 (0, 0)) :: L := by
    intro z hz
    rw [List.mem_singleton.1 hz]
    exact List.mem_cons_self ..
  have gx : ∀ j v, ([.int .u8 x.vd.code, .slice x1 x.vd.sets.length xc1, .slice x2 x.vd.soa.length xc2] : List Value)[j]? = some v → (#[.int .i64 x.up, .int .u8 x.vd.code, .slice x1 x.vd.sets.length xc1, .slice x2 x.vd.soa.length xc2, .int .u32 x.time] : Array Value)[0 + 1 + j]? = some v := fun j v hj => by
    match j, hj with
    | 0, hj => exact hj
    | 1, hj => exact hj
    | 2, hj => exact hj
  repeat ((first | with_reducible refine T_seq ?_ | with_reducible refine TL_nil ?_ | with_reducible refine TQ_then ?_))
  refine T_draw follows_mixed ([(bX, Obj.cells #[.int .i64 x.up, .int .u8 x.vd.code, .slice x1 x.vd.sets.length xc1, .slice x2 x.vd.soa.length xc2, .int .u32 x.time] 46 (0, 0))]) [] ?_
  (refine' TA_take 0 rfl rfl (by kernel_rfl) (quiet_q (op_fld rfl fld_46_0)) ?_ ?_; (· (intro p hp; grind)))
  (refine' TA_take 1 rfl rfl (by kernel_rfl) (quiet_q (op_ld rfl pl_3 ?_ ?_)) ?_ ?_; rotate_left 4; (· repeat ((exact List.mem_cons_self))); (· (rfl)); (· (intro p hp; grind)))
  (refine' TA_take 2 rfl rfl (by kernel_rfl) (quiet_q (op_fld rfl fld_46_1)) ?_ ?_; (· (intro p hp; grind)))
  (refine' TA_take 3 rfl rfl (by kernel_rfl) (quiet_q (op_ldA [.int .u8 x.vd.code, .slice x1 x.vd.sets.length xc1, .slice x2 x.vd.soa.length xc2] rfl st_42 (List.mem_cons_self ..) gx)) ?_ ?_; (· (intro p hp; grind)))
  (refine' TA_take 5 rfl rfl (by kernel_rfl) (quiet_q (op_fld rfl fld_46_2)) ?_ ?_; (· (intro p hp; grind)))
  (refine' TA_take 6 rfl rfl (by kernel_rfl) (quiet_q (op_ld rfl pl_36 ?_ ?_)) ?_ ?_; rotate_left 4; (· repeat ((exact List.mem_cons_self))); (· (rfl)); (· (intro p hp; grind)))
  refine TA_oneD 4 (by kernel_rfl) rfl rfl rfl rfl (op_call hb_69 rfl (tCopyVerdict_S [.int .u8 x.vd.code, .slice x1 x.vd.sets.length xc1, .slice x2 x.vd.soa.length xc2] x.vd ⟨_, _, rfl, mono_slice mono_set _ _ _ _ (mem_of_cnt (by intro p; (try simp only [cnt_append, cnt_cons, cnt_nil]) <;> omega)) h1, mono_slice mono_set _ _ _ _ (mem_of_cnt (by intro p; (try simp only [cnt_append, cnt_cons, cnt_nil]) <;> omega)) h2, h3⟩ hs)) ?_
  rintro _ _ ⟨a, c, B, a2, c2, B2, N, rfl, hB, hB2, hN, rfl⟩
  refine ⟨Or.inr (by (exact (fun z hz => mem_of_cnt (by intro p; (try simp only [cnt_append, cnt_cons, cnt_nil]) <;> omega) z (hKm z hz)))), ?_⟩
  (refine' TA_take 7 rfl rfl (by kernel_rfl) (quiet_q (op_build rfl (bl_46_0_1_2 _ _ _ _ _))) ?_ ?_; (· (intro p hp; grind)))
  refine TA_cnt (L' := (bO, Obj.cells #[.int .i64 0, .int .u8 0, .slice none 0 0, .slice none 0 0, .int .u32 0] 46 (0, 0)) :: (B2 ++ (B ++ (N ++ ((bX, Obj.cells #[.int .i64 x.up, .int .u8 x.vd.code, .slice x1 x.vd.sets.length xc1, .slice x2 x.vd.soa.length xc2, .int .u32 x.time] 46 (0, 0)) :: L))))) ?_ (by intro p; (try simp only [cnt_append, cnt_cons, cnt_nil]) <;> omega)
  refine TA_oneN 8 (by kernel_rfl) rfl rfl rfl (op_stAll rfl rfl st_46 rfl rfl rfl) ?_
  rintro _ _ ⟨_, rfl⟩
  refine ⟨Or.inr (by (exact (fun z hz => mem_of_cnt (by intro p; (try simp only [cnt_append, cnt_cons, cnt_nil]) <;> omega) z (hKm z hz)))), ?_⟩
  refine TA_done (by kernel_rfl) ?_
  repeat ((first | with_reducible refine TQ_then ?_ | with_reducible refine T_ret ?_))
  refine TQ_retC 2 46  rfl rfl  st_46 (by repeat ((exact List.mem_cons_self))) rfl (fun w h => Heap.cnt (L' := B2 ++ (B ++ (N ++ L))) h (by intro p; (try simp only [cnt_append, cnt_cons, cnt_nil]) <;> omega)) ?_
  exact ⟨_, _, _, _, _, _, _, rfl, hB, hB2, hN, rfl⟩
end Go.Proofs.Ytdflhdfapnhjjaa
namespace Go.Proofs.Ytdflhdfapnhjjaa
open Go.RowKit
open Vd (RSet Vdt Vote Rec Quest Piece Ballot)
set_option linter.unusedVariables false
set_option linter.unusedSimpArgs false
--auto
variable {G : World} {L : Blocks}
theorem firstOf_at {vs : List Vote} {v : Vdt} {i : Nat} {y : Vote} (hy : vs[i]? = some y) (he : y.vd = v) (hno : ∀ z ∈ vs.take i, z.vd ≠ v) : firstOf vs v = i := by
  obtain ⟨hi, rfl⟩ := List.getElem?_eq_some_iff.1 hy
  unfold firstOf
  rw [List.findIdx_eq hi]
  refine ⟨by simpa using he, fun j hj => ?_⟩
  have := hno vs[j] (by rw [List.mem_take_iff_getElem]; exact ⟨j, by omega, rfl⟩)
  simpa using this
theorem firstOf_none {vs : List Vote} {v : Vdt} (hno : ∀ z ∈ vs, z.vd ≠ v) : firstOf vs v = vs.length := by
  unfold firstOf
  rw [List.findIdx_eq_length]
  intro z hz
  simpa using hno z hz
set_option maxRecDepth 100000 in
set_option maxHeartbeats 4000000 in
theorem pCast_S {K : Blocks} (bb : Nat) (want : Int) (l : List Ballot) (M0 : Blocks) (cs : List Value) (x : Vote) (hb : TBox K bb want l M0) (hl : BoxOk l) (hK : ∀ p ∈ K, p ∈ L) (hx : voteR L cs x) (hs : SmV x.vd) (hn : l.length ≤ 9) :
    Spec Try.prog G 42 #[.pointer (some ⟨bb, 0, none⟩), .agg cs.toArray] (M0 ++ L) fun w M => w = .int .i64 (Vd.putB l ⟨x, false⟩).2 ∧ ∃ M' N, TBox (N ++ K) bb want (Vd.putB l ⟨x, false⟩).1 M' ∧ Wr N ∧ M = M' ++ (N ++ L) := by
  obtain ⟨a, c, B, hB, rfl⟩ := hb
  obtain ⟨x1, xc1, x2, xc2, rfl, h1, h2, h3, h4, h5⟩ := hx.vals
  have hvl := votesB_len l
  have hcap := hB.cap
  unfold maxLen at hcap
  refine Spec_of (n := 57) Try.func42 rfl rfl rfl ?_
  refine T_seq (T_region (TL_new (op_boxA rfl) rfl ?_))
  intro bV
  repeat ((first | with_reducible refine T_seq ?_ | with_reducible refine T_region ?_ | with_reducible refine TL_nil ?_ | with_reducible refine TQ_then ?_ | refine TL_q (op_move rfl) rfl ?_ | refine TL_q (op_assign rfl) rfl ?_ | refine TL_q (op_fld rfl fld_46_0) rfl ?_ | (refine' TL_q (op_ld rfl pl_3 ?_ ?_) rfl ?_; rotate_left 4; (· repeat ((exact List.mem_cons_self))); (· (rfl)))))
  refine TL_op (op_call hb_71 rfl (pMay_S bb want x.up l _ (List.mem_cons_of_mem _ (List.mem_cons_self ..)) hl)) rfl ?_
  have he := putB_e l ⟨x, false⟩
  rw [he]
  by_cases h0 : mayE l x.up = 0
  · obtain ⟨hp1, hp2, hp3⟩ := putB_yes (x := ⟨x, false⟩) h0
    obtain ⟨h20, h29⟩ := hp2
    dsimp only at h20 h29 hp3
    obtain ⟨vs, hvs⟩ : ∃ vs, Vd.votesB l = vs := ⟨_, rfl⟩
    rw [hvs] at hB hvl hcap ⊢
    have gx : ∀ j v, ([.int .u8 x.vd.code, .slice x1 x.vd.sets.length xc1, .slice x2 x.vd.soa.length xc2] : List Value)[j]? = some v → (#[.int .i64 x.up, .int .u8 x.vd.code, .slice x1 x.vd.sets.length xc1, .slice x2 x.vd.soa.length xc2, .int .u32 x.time] : Array Value)[0 + 1 + j]? = some v := fun j v hj => by
      match j, hj with
      | 0, hj => exact hj
      | 1, hj => exact hj
      | 2, hj => exact hj
    repeat ((first | with_reducible refine TL_nil ?_ | with_reducible refine TQ_then ?_ | refine TL_q (op_assign rfl) rfl ?_))
    refine T_seq ?_
    repeat ((first | with_reducible refine T_region ?_ | with_reducible refine TL_nil ?_ | with_reducible refine TQ_then ?_ | with_reducible refine T_skip ?_ | refine TL_q (op_move rfl) rfl ?_ | (refine' TL_q (op_bin rfl rfl ?_) rfl ?_; rotate_left 1; (· (exact bin_neq))) | (refine T_no rfl ?_ ?_; (· (exact nF (by (assumption)))))))
    refine T_seq ?_
    repeat ((first | with_reducible refine T_region ?_ | with_reducible refine TL_nil ?_ | with_reducible refine TQ_then ?_ | refine TL_q (op_move rfl) rfl ?_ | refine TL_q (op_assign rfl) rfl ?_ | refine TL_q (op_nilCheck rfl) rfl ?_ | refine TL_q (op_len_slice rfl Try.underlying47) rfl ?_ | refine TL_q (op_fld rfl fld_100_2) rfl ?_ | (refine' TL_q (op_ld rfl pl_3 ?_ ?_) rfl ?_; rotate_left 4; (· repeat ((first | exact List.mem_cons_self | apply List.mem_cons_of_mem))); (· (rfl)))))
    refine T_seq ?_
    skip
    refine T_midK (σ := Unit) (fun _ => True) (fun _ => [(0, .pointer (some ⟨bb, 0, none⟩)), (3, .pointer (some ⟨bV, 0, none⟩)), (6, .int .i64 (firstOf vs x.vd : Nat))]) (fun _ => (bV, Obj.cells #[.int .i64 x.up, .int .u8 x.vd.code, .slice x1 x.vd.sets.length xc1, .slice x2 x.vd.soa.length xc2, .int .u32 x.time] 46 (0, 0)) :: ((bb, Obj.cells (boxC want (slipOf l) (.slice a vs.length c)).toArray 100 (0, 0)) :: (B ++ L))) ?_ ?_
    · skip
      repeat ((first | with_reducible refine T_seq ?_ | with_reducible refine T_block ?_ | with_reducible refine T_region ?_ | with_reducible refine TL_nil ?_ | with_reducible refine TQ_then ?_ | refine TL_q (op_move rfl) rfl ?_ | refine TL_q (op_nilCheck rfl) rfl ?_ | refine TL_q (op_len_slice rfl Try.underlying47) rfl ?_ | refine TL_q (op_fld rfl fld_100_2) rfl ?_ | (refine' TL_q (op_ld rfl pl_3 ?_ ?_) rfl ?_; rotate_left 4; (· repeat ((first | exact List.mem_cons_self | apply List.mem_cons_of_mem))); (· (rfl)))))
      refine T_loopS (σ := Nat) (fun i => i ≤ vs.length ∧ ∀ z ∈ vs.take i, z.vd ≠ x.vd) (fun i => [(0, .pointer (some ⟨bb, 0, none⟩)), (3, .pointer (some ⟨bV, 0, none⟩)), (6, .int .i64 (vs.length : Nat)), (24, .slice a vs.length c), (25, .int .i64 (vs.length : Nat)), (26, .int .i64 (i : Nat))]) (fun _ => (bV, Obj.cells #[.int .i64 x.up, .int .u8 x.vd.code, .slice x1 x.vd.sets.length xc1, .slice x2 x.vd.soa.length xc2, .int .u32 x.time] 46 (0, 0)) :: ((bb, Obj.cells (boxC want (slipOf l) (.slice a vs.length c)).toArray 100 (0, 0)) :: (B ++ L))) (fun i => vs.length - i) 0 ⟨Nat.zero_le _, by simp⟩ ?_ (fun w h => h) ?_
      (repeat ((first | exact trivial | refine ⟨rfl, ?_⟩)))
      rintro i ⟨hi, hno⟩
      by_cases hil : i < vs.length
      · obtain ⟨y, hy⟩ : ∃ y, vs[i]? = some y := ⟨_, List.getElem?_eq_getElem hil⟩
        obtain ⟨bc, cur, rfl, rfl, _, _, _, hcur⟩ := hB.block (fun e => by rw [e] at hil; simp at hil)
        obtain ⟨csy, _, hyv, _, hcy⟩ := hcur i y hy
        obtain ⟨y1, yc1, y2, yc2, rfl, hy1, hy2, hy3, hy4, hy5⟩ := hyv.vals
        have hcy' : ∀ j v, ([.int .i64 y.up, .int .u8 y.vd.code, .slice y1 y.vd.sets.length yc1, .slice y2 y.vd.soa.length yc2, .int .u32 y.time] : List Value)[j]? = some v → cur[0 + i * 5 + j]? = some v := fun j v hj => by rw [Nat.zero_add]; exact hcy j v hj
        have gy : ∀ j v, ([.int .u8 y.vd.code, .slice y1 y.vd.sets.length yc1, .slice y2 y.vd.soa.length yc2] : List Value)[j]? = some v → (#[.int .i64 y.up, .int .u8 y.vd.code, .slice y1 y.vd.sets.length yc1, .slice y2 y.vd.soa.length yc2, .int .u32 y.time] : Array Value)[0 + 1 + j]? = some v := fun j v hj => by
          match j, hj with
          | 0, hj => exact hj
          | 1, hj => exact hj
          | 2, hj => exact hj
        have mc : (bc, Obj.cells cur 46 (0, 0)) ∈ (bV, Obj.cells #[.int .i64 x.up, .int .u8 x.vd.code, .slice x1 x.vd.sets.length xc1, .slice x2 x.vd.soa.length xc2, .int .u32 x.time] 46 (0, 0)) :: ((bb, Obj.cells (boxC want (slipOf l) (.slice (some ⟨bc, 0, none⟩) vs.length c)).toArray 100 (0, 0)) :: ([(bc, Obj.cells cur 46 (0, 0))] ++ L)) := by simp
        repeat ((first | with_reducible refine T_seq ?_ | with_reducible refine T_block ?_ | with_reducible refine T_region ?_ | with_reducible refine TL_nil ?_ | with_reducible refine TQ_then ?_ | with_reducible refine T_skip ?_ | refine TL_q (op_move rfl) rfl ?_ | (refine' TL_q (op_bin rfl rfl ?_) rfl ?_; rotate_left 1; (· (exact bin_lss))) | (refine' TL_q (op_idx ety_47 rfl rfl ?_) rfl ?_; (· omega)) | (refine T_yes rfl ?_ ?_; (· (exact dT (by (omega)))))))
        refine TL_q (op_ldA [.int .i64 y.up, .int .u8 y.vd.code, .slice y1 y.vd.sets.length yc1, .slice y2 y.vd.soa.length yc2, .int .u32 y.time] rfl st_46 mc hcy') rfl ?_
        repeat ((first | with_reducible refine T_seq ?_ | with_reducible refine T_region ?_ | with_reducible refine TL_nil ?_ | with_reducible refine TQ_then ?_ | refine TL_q (op_assign rfl) rfl ?_ | refine TL_q (op_fld rfl fld_46_1) rfl ?_ | (refine TL_stAll rfl rfl st_46 rfl rfl rfl ?_) | (refine TL_new (op_alloc (C := #[(.int .i64 0), (.int .u8 0), (.slice none 0 0), (.slice none 0 0), (.int .u32 0)]) zero_46 rfl) rfl ?_; intro bNew)))
        refine TL_q (op_ldA [.int .u8 y.vd.code, .slice y1 y.vd.sets.length yc1, .slice y2 y.vd.soa.length yc2] rfl st_42 (by repeat ((exact List.mem_cons_self))) gy) rfl ?_
        repeat ((refine TL_q (op_fld rfl fld_46_1) rfl ?_))
        refine TL_q (op_ldA [.int .u8 x.vd.code, .slice x1 x.vd.sets.length xc1, .slice x2 x.vd.soa.length xc2] rfl st_42 (by repeat ((first | exact List.mem_cons_self | apply List.mem_cons_of_mem))) gx) rfl ?_
        refine TL_op (op_call hb_27 rfl (pSame_S [.int .u8 y.vd.code, .slice y1 y.vd.sets.length yc1, .slice y2 y.vd.soa.length yc2] [.int .u8 x.vd.code, .slice x1 x.vd.sets.length xc1, .slice x2 x.vd.soa.length xc2] y.vd x.vd ⟨_, _, rfl, mono_slice mono_set _ _ _ _ (fun p hp => (mem_of_cnt (by intro p; (try simp only [cnt_append, cnt_cons, cnt_nil]) <;> omega)) p (hK p hp)) hy1, mono_slice mono_set _ _ _ _ (fun p hp => (mem_of_cnt (by intro p; (try simp only [cnt_append, cnt_cons, cnt_nil]) <;> omega)) p (hK p hp)) hy2, hy3⟩ ⟨_, _, rfl, mono_slice mono_set _ _ _ _ (mem_of_cnt (by intro p; (try simp only [cnt_append, cnt_cons, cnt_nil]) <;> omega)) h1, mono_slice mono_set _ _ _ _ (mem_of_cnt (by intro p; (try simp only [cnt_append, cnt_cons, cnt_nil]) <;> omega)) h2, h3⟩)) rfl ?_
        by_cases hyx : y.vd = x.vd
        · have hf := firstOf_at hy hyx hno
          repeat ((first | with_reducible refine T_seq ?_ | with_reducible refine T_region ?_ | with_reducible refine TL_nil ?_ | with_reducible refine TQ_then ?_ | with_reducible refine T_exit ?_ | with_reducible refine TQ_then_exit ?_ | with_reducible refine TQ_block_exit ?_ | (refine TQ_block_past ?_ ?_; (· decide)) | refine TL_q (op_move rfl) rfl ?_ | refine TL_q (op_assign rfl) rfl ?_ | (refine T_yes rfl ?_ ?_; (· (exact dT (by (assumption)))))))
          refine TQ_mid () trivial ?_ (fun w h => h.cnt (by intro p; (try simp only [cnt_append, cnt_cons, cnt_nil]) <;> omega))
          rw [hf]
          (repeat ((first | exact trivial | refine ⟨rfl, ?_⟩)))
        · repeat ((first | with_reducible refine T_region ?_ | with_reducible refine TL_nil ?_ | with_reducible refine TQ_then ?_ | with_reducible refine TQ_block ?_ | with_reducible refine T_skip ?_ | refine TL_q (op_move rfl) rfl ?_ | (refine' TL_q (op_bin rfl rfl ?_) rfl ?_; rotate_left 1; (· (exact bin_add ⟨by omega, by omega⟩))) | (refine T_no rfl ?_ ?_; (· (exact dF (by (assumption)))))))
          refine TQ_roundS (i + 1) ⟨hil, fun z hz => ?_⟩ ?_ (fun w h => h.cnt (by intro p; (try simp only [cnt_append, cnt_cons, cnt_nil]) <;> omega)) (by omega)
          · rw [List.take_add_one, hy] at hz
            rcases List.mem_append.1 hz with hz | hz
            · exact hno z hz
            · rw [show z = y by simpa using hz]; exact hyx
          (repeat ((first | exact trivial | refine ⟨rfl, ?_⟩)))
      · have hie : i = vs.length := by omega
        subst hie
        rw [List.take_length] at hno
        have hf := firstOf_none hno
        repeat ((first | with_reducible refine T_seq ?_ | with_reducible refine T_region ?_ | with_reducible refine TL_nil ?_ | with_reducible refine TQ_then ?_ | with_reducible refine T_exit ?_ | with_reducible refine TQ_then_exit ?_ | with_reducible refine TQ_block_exit ?_ | (refine' TL_q (op_bin rfl rfl ?_) rfl ?_; rotate_left 1; (· (exact bin_lss))) | (refine T_no rfl ?_ ?_; (· (exact dF (by (omega)))))))
        refine TQ_mid () trivial ?_ (fun w h => h)
        rw [hf]
        (repeat ((first | exact trivial | refine ⟨rfl, ?_⟩)))
    · rintro _ _
      dsimp only
      obtain ⟨f', hf'⟩ : ∃ f, upd (slipOf l) x.up (2, (firstOf vs x.vd : Int)) = f := ⟨_, rfl⟩
      have hput : putAt (boxC want (slipOf l) (.slice a vs.length c)).toArray (0 + 1 + x.up.toNat * 2) [.int .u8 2, .int .i64 (firstOf vs x.vd : Nat)] = (boxC want f' (.slice a vs.length c)).toArray := by
        rw [← hf', Nat.zero_add]
        exact boxC_put ⟨h20, h29⟩ (2, (firstOf vs x.vd : Int))
      have hsl : slipOf (l ++ [⟨x, false⟩]) = f' := by
        rw [upd_slip hl (x := ⟨x, false⟩) hp3 ⟨h20, h29⟩, ← hf', ← hvs]
        rfl
      have hvn : Vd.votesB (l ++ [⟨x, false⟩]) = vs ++ [x] := by rw [votesB_snoc, hvs]; rfl
      have hKm : ∀ z ∈ [(bb, Obj.cells (boxC want (slipOf l) (.slice a vs.length c)).toArray 100 (0, 0)), (bV, Obj.cells #[.int .i64 x.up, .int .u8 x.vd.code, .slice x1 x.vd.sets.length xc1, .slice x2 x.vd.soa.length xc2, .int .u32 x.time] 46 (0, 0))], z ∈ (bV, Obj.cells #[.int .i64 x.up, .int .u8 x.vd.code, .slice x1 x.vd.sets.length xc1, .slice x2 x.vd.soa.length xc2, .int .u32 x.time] 46 (0, 0)) :: ((bb, Obj.cells (boxC want (slipOf l) (.slice a vs.length c)).toArray 100 (0, 0)) :: (B ++ L)) := by
        intro z hz
        simp only [List.mem_cons, List.not_mem_nil, or_false] at hz
        rcases hz with rfl | rfl <;> simp
      repeat ((with_reducible refine T_seq ?_))
      refine T_draw follows_mixed ([(bb, Obj.cells (boxC want (slipOf l) (.slice a vs.length c)).toArray 100 (0, 0)), (bV, Obj.cells #[.int .i64 x.up, .int .u8 x.vd.code, .slice x1 x.vd.sets.length xc1, .slice x2 x.vd.soa.length xc2, .int .u32 x.time] 46 (0, 0))]) [8] ?_
      (refine' TA_take 0 rfl rfl (by kernel_rfl) (quiet_q (op_move rfl)) ?_ ?_; (· (assumption)))
      (refine' TA_take 1 rfl rfl (by kernel_rfl) (quiet_q (op_fld rfl fld_46_0)) ?_ ?_; (· (assumption)))
      (refine' TA_take 2 rfl rfl (by kernel_rfl) (quiet_q (op_ld rfl pl_3 ?_ ?_)) ?_ ?_; rotate_left 4; (· repeat ((first | exact List.mem_cons_self | apply List.mem_cons_of_mem))); (· (rfl)); (· (assumption)))
      (refine' TA_take 3 rfl rfl (by kernel_rfl) (quiet_q (op_move rfl)) ?_ ?_; (· (assumption)))
      (refine' TA_take 4 rfl rfl (by kernel_rfl) (quiet_q (op_build rfl (bl_97_0_1 _ _))) ?_ ?_; (· (assumption)))
      (refine' TA_take 5 rfl rfl (by kernel_rfl) (quiet_q (op_nilCheck rfl)) ?_ ?_; (· (assumption)))
      (refine' TA_take 6 rfl rfl (by kernel_rfl) (quiet_q (op_fld rfl fld_100_1)) ?_ ?_; (· (assumption)))
      (refine' TA_take 7 rfl rfl (by kernel_rfl) (quiet_q (op_idxA arr_98 rfl rfl ?_ ?_)) ?_ ?_; (· omega); (· omega); (· (assumption)))
      refine TA_cnt (L' := (bb, Obj.cells (boxC want (slipOf l) (.slice a vs.length c)).toArray 100 (0, 0)) :: ((bV, Obj.cells #[.int .i64 x.up, .int .u8 x.vd.code, .slice x1 x.vd.sets.length xc1, .slice x2 x.vd.soa.length xc2, .int .u32 x.time] 46 (0, 0)) :: (B ++ L))) ?_ (by intro p; (try simp only [cnt_append, cnt_cons, cnt_nil]) <;> omega)
      refine TA_oneN 8 (by kernel_rfl) rfl rfl rfl (op_stA (cs := [.int .u8 2, .int .i64 (firstOf vs x.vd : Nat)]) rfl rfl st_97 (by intro v hv; simp only [List.mem_cons, List.not_mem_nil, or_false] at hv; rcases hv with rfl | rfl <;> rfl) (by rw [boxC_len]; simp; omega)) ?_
      rintro _ _ ⟨_, rfl⟩
      refine ⟨Or.inl (by simp), ?_⟩
      refine TA_done (by kernel_rfl) ?_
      rw [hput]
      clear hKm
      have hKm : ∀ z ∈ [(bb, Obj.cells (boxC want f' (.slice a vs.length c)).toArray 100 (0, 0)), (bV, Obj.cells #[.int .i64 x.up, .int .u8 x.vd.code, .slice x1 x.vd.sets.length xc1, .slice x2 x.vd.soa.length xc2, .int .u32 x.time] 46 (0, 0))], z ∈ (bb, Obj.cells (boxC want f' (.slice a vs.length c)).toArray 100 (0, 0)) :: ((bV, Obj.cells #[.int .i64 x.up, .int .u8 x.vd.code, .slice x1 x.vd.sets.length xc1, .slice x2 x.vd.soa.length xc2, .int .u32 x.time] 46 (0, 0)) :: L) := by
        intro z hz
        simp only [List.mem_cons, List.not_mem_nil, or_false] at hz
        rcases hz with rfl | rfl <;> simp
      repeat ((first | with_reducible refine T_seq ?_ | with_reducible refine TQ_then ?_))
      refine T_draw follows_mixed ([(bb, Obj.cells (boxC want f' (.slice a vs.length c)).toArray 100 (0, 0)), (bV, Obj.cells #[.int .i64 x.up, .int .u8 x.vd.code, .slice x1 x.vd.sets.length xc1, .slice x2 x.vd.soa.length xc2, .int .u32 x.time] 46 (0, 0))]) [11] ?_
      (refine' TA_take 0 rfl rfl (by kernel_rfl) (quiet_q (op_move rfl)) ?_ ?_; (· (intro p hp; grind)))
      (refine' TA_take 1 rfl rfl (by kernel_rfl) (quiet_q (op_move rfl)) ?_ ?_; (· (intro p hp; grind)))
      (refine' TA_take 2 rfl rfl (by kernel_rfl) (quiet_q (op_nilCheck rfl)) ?_ ?_; (· (intro p hp; grind)))
      (refine' TA_take 3 rfl rfl (by kernel_rfl) (quiet_q (op_fld rfl fld_100_2)) ?_ ?_; (· (intro p hp; grind)))
      (refine' TA_take 4 rfl rfl (by kernel_rfl) (quiet_q (op_ld rfl pl_47 ?_ ?_)) ?_ ?_; rotate_left 4; (· repeat ((exact List.mem_cons_self))); (· (rfl)); (· (intro p hp; grind)))
      (refine' TA_take 5 rfl rfl (by kernel_rfl) (quiet_q (op_ldAll rfl st_46 ?_ ?_)) ?_ ?_; rotate_left 3; (· repeat ((first | exact List.mem_cons_self | apply List.mem_cons_of_mem))); (· (rfl)); (· (intro p hp; grind)))
      refine TA_oneD 6 (by kernel_rfl) rfl rfl rfl rfl (op_call hb_72 rfl (pCopyVote_S [.int .i64 x.up, .int .u8 x.vd.code, .slice x1 x.vd.sets.length xc1, .slice x2 x.vd.soa.length xc2, .int .u32 x.time] x (mono_vote _ _ _ _ (mem_of_cnt (by intro p; (try simp only [cnt_append, cnt_cons, cnt_nil]) <;> omega)) hx) hs)) ?_
      rintro _ _ ⟨a6, c6, B6, a7, c7, B7, N, rfl, h6, h7, hN, rfl⟩
      refine ⟨Or.inr (by (exact (fun z hz => mem_of_cnt (by intro p; (try simp only [cnt_append, cnt_cons, cnt_nil]) <;> omega) z (hKm z hz)))), ?_⟩
      refine TA_oneD 7 (by kernel_rfl) rfl rfl rfl rfl (op_litN ety_47 rfl rfl (by decide)) ?_
      rintro _ _ ⟨bL, rfl, rfl⟩
      refine ⟨Or.inr (by (exact (fun z hz => mem_of_cnt (by intro p; (try simp only [cnt_append, cnt_cons, cnt_nil]) <;> omega) z (hKm z hz)))), ?_⟩
      refine TA_cnt (L' := (bL, Obj.cells #[.int .i64 x.up, .int .u8 x.vd.code, .slice a6 x.vd.sets.length c6, .slice a7 x.vd.soa.length c7, .int .u32 x.time] 46 (0, 0)) :: (B ++ ((bb, Obj.cells (boxC want f' (.slice a vs.length c)).toArray 100 (0, 0)) :: ((bV, Obj.cells #[.int .i64 x.up, .int .u8 x.vd.code, .slice x1 x.vd.sets.length xc1, .slice x2 x.vd.soa.length xc2, .int .u32 x.time] 46 (0, 0)) :: ((B7 ++ (B6 ++ N)) ++ L))))) ?_ (by intro p; (try simp only [cnt_append, cnt_cons, cnt_nil]) <;> omega)
      refine TA_oneD 8 (by kernel_rfl) rfl rfl rfl rfl (op_push (L0 := (B7 ++ (B6 ++ N)) ++ K) (cs := [.int .i64 x.up, .int .u8 x.vd.code, .slice a6 x.vd.sets.length c6, .slice a7 x.vd.soa.length c7, .int .u32 x.time]) (y := x) ety_47 rfl rfl (hB.mono mono_vote (mem_of_cnt (by intro p; (try simp only [cnt_append, cnt_cons, cnt_nil]) <;> omega))) rfl (fun v hv => by simp only [List.mem_cons, List.not_mem_nil, or_false] at hv; rcases hv with rfl | rfl | rfl | rfl | rfl <;> rfl) ⟨_, _, rfl, h6.sliceR mono_set (mem_of_cnt (by intro p; (try simp only [cnt_append, cnt_cons, cnt_nil]) <;> omega)) (mem_of_cnt (by intro p; (try simp only [cnt_append, cnt_cons, cnt_nil]) <;> omega)), h7.sliceR mono_set (mem_of_cnt (by intro p; (try simp only [cnt_append, cnt_cons, cnt_nil]) <;> omega)) (mem_of_cnt (by intro p; (try simp only [cnt_append, cnt_cons, cnt_nil]) <;> omega)), h3, h4, h5⟩ (by unfold maxLen; omega) (by omega)) ?_
      rintro _ _ ⟨a8, c8, B8, rfl, hB8, rfl⟩
      refine ⟨Or.inr (by (exact (fun z hz => mem_of_cnt (by intro p; (try simp only [cnt_append, cnt_cons, cnt_nil]) <;> omega) z (hKm z hz)))), ?_⟩
      (refine' TA_take 9 rfl rfl (by kernel_rfl) (quiet_q (op_nilCheck rfl)) ?_ ?_; (· (intro p hp; grind)))
      (refine' TA_take 10 rfl rfl (by kernel_rfl) (quiet_q (op_fld rfl fld_100_2)) ?_ ?_; (· (intro p hp; grind)))
      refine TA_cnt (L' := (bb, Obj.cells (boxC want f' (.slice a vs.length c)).toArray 100 (0, 0)) :: (B8 ++ ((bV, Obj.cells #[.int .i64 x.up, .int .u8 x.vd.code, .slice x1 x.vd.sets.length xc1, .slice x2 x.vd.soa.length xc2, .int .u32 x.time] 46 (0, 0)) :: ((B7 ++ (B6 ++ N)) ++ L)))) ?_ (by intro p; (try simp only [cnt_append, cnt_cons, cnt_nil]) <;> omega)
      refine TA_oneN 11 (by kernel_rfl) rfl rfl rfl (op_st (C' := (boxC want f' (.slice a8 (vs ++ [x]).length c8)).toArray) rfl rfl one_47 rfl rfl rfl) ?_
      rintro _ _ ⟨_, rfl⟩
      refine ⟨Or.inl (by simp), ?_⟩
      refine TA_done (by kernel_rfl) ?_
      repeat ((first | with_reducible refine T_seq ?_ | with_reducible refine T_region ?_ | with_reducible refine TL_nil ?_ | with_reducible refine TQ_then ?_ | with_reducible refine T_ret ?_ | refine TL_q (op_assign rfl) rfl ?_))
      refine TQ_cnt (L' := (bb, Obj.cells (boxC want f' (.slice a8 (vs ++ [x]).length c8)).toArray 100 (0, 0)) :: (B8 ++ ((B7 ++ (B6 ++ N)) ++ L))) ?_ (by exact (by intro p; (try simp only [cnt_append, cnt_cons, cnt_nil]) <;> omega))
      refine TQ_ret1 4 _ rfl rfl ?_
      refine ⟨by rw [h0], _, B7 ++ (B6 ++ N), ⟨a8, c8, B8, ?_, rfl⟩, h7.wr.append (h6.wr.append hN), ?_⟩
      · rw [hp1, hvn]; exact hB8
      · rw [hp1, hvn, hsl]; rfl
  · have hp1 := putB_no (x := ⟨x, false⟩) h0
    rw [hp1]
    repeat ((first | with_reducible refine T_seq ?_ | with_reducible refine T_region ?_ | with_reducible refine TL_nil ?_ | with_reducible refine TQ_then ?_ | with_reducible refine T_ret ?_ | with_reducible refine TQ_then_ret ?_ | refine TL_q (op_move rfl) rfl ?_ | refine TL_q (op_assign rfl) rfl ?_ | (refine' TL_q (op_bin rfl rfl ?_) rfl ?_; rotate_left 1; (· (exact bin_neq))) | (refine T_yes rfl ?_ ?_; (· (exact nT (by (assumption)))))))
    refine TQ_cnt (L' := (bb, Obj.cells (boxC want (slipOf l) (.slice a (Vd.votesB l).length c)).toArray 100 (0, 0)) :: (B ++ ([] ++ L))) ?_ (by intro p; (try simp only [cnt_append, cnt_cons, cnt_nil]) <;> omega)
    refine TQ_ret1 4 _ rfl rfl ?_
    exact ⟨rfl, _, [], ⟨a, c, B, hB, rfl⟩, Wr.nil, rfl⟩
end Go.Proofs.Ytdflhdfapnhjjaa
namespace Go.Proofs.Ytdflhdfapnhjjaa
open Go.RowKit
open Vd (RSet Vdt Vote Rec Quest Piece Ballot)
set_option linter.unusedVariables false
set_option linter.unusedSimpArgs false
--auto
variable {G : World} {L : Blocks}
/-- Nine counters. -/
def cntC (f : Nat → Nat) : List Value := [.int .i64 (f 0 : Nat), .int .i64 (f 1 : Nat), .int .i64 (f 2 : Nat), .int .i64 (f 3 : Nat), .int .i64 (f 4 : Nat), .int .i64 (f 5 : Nat), .int .i64 (f 6 : Nat), .int .i64 (f 7 : Nat), .int .i64 (f 8 : Nat)]
theorem cntC_get {f : Nat → Nat} {k : Nat} (h : k < 9) : (cntC f).toArray[0 + (k : Int).toNat * 1]? = some (.int .i64 (f k : Nat)) := by
  match k, h with
  | 0, _ | 1, _ | 2, _ | 3, _ | 4, _ | 5, _ | 6, _ | 7, _ | 8, _ => rfl
theorem cntC_set {f g : Nat → Nat} {k : Nat} (h : k < 9) (hg : ∀ j, g j = f j + (if k = j then 1 else 0)) : (cntC f).toArray.setIfInBounds (0 + (k : Int).toNat * 1) (.int .i64 ((f k : Nat) + 1 : Int)) = (cntC g).toArray := by
  match k, h with
  | 0, _ | 1, _ | 2, _ | 3, _ | 4, _ | 5, _ | 6, _ | 7, _ | 8, _ => simp [cntC, hg]
/-- The slip of the votes by which it is won. -/
def winS (want : Int) (vs : List Vote) : (Int × Int) × Bool := if want < 1 then ((0, 0), false) else match wonAt want vs vs.length with
  | none => ((0, 0), false)
  | some j => match vs[j]? with
    | some x => ((2, (firstOf vs x.vd : Int)), true)
    | none => ((0, 0), false)
set_option maxRecDepth 100000 in
set_option maxHeartbeats 4000000 in
theorem pWinner_S {K : Blocks} (bb : Nat) (want : Int) (l : List Ballot) (a : Option Addr) (c : Nat) (hm : (bb, Obj.cells (boxC want (slipOf l) (.slice a (Vd.votesB l).length c)).toArray 100 (0, 0)) ∈ L) (hv : sliceR 5 (fun _ => voteR K) L [.slice a (Vd.votesB l).length c] (Vd.votesB l)) (hl : BoxOk l) (hn : l.length ≤ 9) :
    Spec Try.prog G 67 #[.pointer (some ⟨bb, 0, none⟩)] L fun w M => w = .tuple #[.agg #[.int .u8 (winS want (Vd.votesB l)).1.1, .int .i64 (winS want (Vd.votesB l)).1.2], .bool (winS want (Vd.votesB l)).2] ∧ M = L := by
  obtain ⟨vs, hvs⟩ : ∃ vs, Vd.votesB l = vs := ⟨_, rfl⟩
  have hvl := votesB_len l
  rw [hvs] at hm hv hvl ⊢
  have g0 : (boxC want (slipOf l) (.slice a vs.length c)).toArray[0 + 0]? = some (.int .i64 want) := rfl
  have g19 : (boxC want (slipOf l) (.slice a vs.length c)).toArray[0 + 19]? = some (.slice a vs.length c) := rfl
  refine Spec_of (n := 52) Try.func67 rfl rfl rfl ?_
  refine T_seq (T_region (TL_new (op_alloc (C := #[.int .u8 0, .int .i64 0]) zero_97 rfl) rfl ?_))
  intro b2
  by_cases hw : want < 1
  · have hW : winS want vs = ((0, 0), false) := if_pos hw
    rw [hW]
    repeat ((first | with_reducible refine T_seq ?_ | with_reducible refine T_region ?_ | with_reducible refine TL_nil ?_ | with_reducible refine TQ_then ?_ | with_reducible refine T_ret ?_ | with_reducible refine TQ_then_ret ?_ | refine TL_q (op_move rfl) rfl ?_ | refine TL_q (op_assign rfl) rfl ?_ | (refine' TL_q (op_bin rfl rfl ?_) rfl ?_; rotate_left 1; (· (exact pbin_eql Try.underlying76))) | (refine' TL_q (op_pickF rfl ?_ rfl) rfl ?_; (· (exact Bool.not_true))) | (refine TL_gpre rfl rfl ?_ ?_; (· (exact Bool.not_true))) | refine TL_gq2 (op_move rfl) rfl ?_ | (refine' TL_gq2 (op_bin rfl rfl ?_) rfl ?_; rotate_left 1; (· (exact bin_lss))) | refine TL_gq2 (op_nilCheck rfl) rfl ?_ | refine TL_gq2 (op_fld rfl fld_46_0) rfl ?_ | (refine' TL_gq2 (op_ld rfl pl_3 ?_ ?_) rfl ?_; rotate_left 4; (· repeat ((first | assumption | apply List.mem_cons_of_mem))); (· (assumption))) | (refine TL_stAll rfl rfl st_97 rfl rfl rfl ?_) | refine TL_q (op_build rfl (bl_97_ )) rfl ?_ | (refine T_yes rfl ?_ ?_; (· (exact dT (by (assumption)))))))
    refine TQ_retC2 2 97 3 rfl rfl rfl st_97 (by repeat ((exact List.mem_cons_self))) rfl (fun w h => Heap.cnt (L' := L) h (by intro p; (try simp only [cnt_append, cnt_cons, cnt_nil]) <;> omega)) ?_
    exact ⟨rfl, rfl⟩
  · have hw1 : 1 ≤ want := by omega
    repeat ((first | with_reducible refine T_seq ?_ | with_reducible refine T_block ?_ | with_reducible refine T_region ?_ | with_reducible refine TL_nil ?_ | with_reducible refine TQ_then ?_ | with_reducible refine T_skip ?_ | refine TL_q (op_move rfl) rfl ?_ | refine TL_q (op_assign rfl) rfl ?_ | (refine' TL_q (op_bin rfl rfl ?_) rfl ?_; rotate_left 1; (· (exact pbin_eql Try.underlying76))) | refine TL_q (op_nilCheck rfl) rfl ?_ | (refine' TL_q (op_pickF rfl ?_ rfl) rfl ?_; (· (exact Bool.not_true))) | refine TL_q (op_len_slice rfl Try.underlying47) rfl ?_ | refine TL_q (op_fld rfl fld_100_2) rfl ?_ | (refine' TL_q (op_ld rfl pl_3 ?_ ?_) rfl ?_; rotate_left 4; (· repeat ((first | assumption | apply List.mem_cons_of_mem))); (· (assumption))) | (refine TL_gpre rfl rfl ?_ ?_; (· (exact Bool.not_true))) | refine TL_gq2 (op_move rfl) rfl ?_ | (refine' TL_gq2 (op_bin rfl rfl ?_) rfl ?_; rotate_left 1; (· (exact bin_lss))) | refine TL_gq2 (op_nilCheck rfl) rfl ?_ | refine TL_gq2 (op_fld rfl fld_46_0) rfl ?_ | (refine' TL_gq2 (op_ld rfl pl_3 ?_ ?_) rfl ?_; rotate_left 4; (· repeat ((first | assumption | apply List.mem_cons_of_mem))); (· (assumption))) | (refine TL_new (op_alloc (C := #[(.int .i64 0), (.int .i64 0), (.int .i64 0), (.int .i64 0), (.int .i64 0), (.int .i64 0), (.int .i64 0), (.int .i64 0), (.int .i64 0)]) zero_155 rfl) rfl ?_; intro bNew) | (refine T_no rfl ?_ ?_; (· (exact dF (by (assumption)))))))
    obtain ⟨b4, hb4⟩ : ∃ b, bNew = b := ⟨_, rfl⟩
    rw [hb4]
    clear hb4 bNew
    refine T_loopS (σ := Nat) (fun i => i ≤ vs.length ∧ wonAt want vs i = none) (fun i => [(0, .pointer (some ⟨bb, 0, none⟩)), (2, .pointer (some ⟨b2, 0, none⟩)), (3, .bool false), (4, .pointer (some ⟨b4, 0, none⟩)), (21, .slice a vs.length c), (22, .int .i64 (vs.length : Nat)), (23, .int .i64 (i : Nat))]) (fun i => (b4, Obj.cells (cntC (cntF vs i)).toArray 155 (0, 0)) :: ((b2, Obj.cells #[.int .u8 0, .int .i64 0] 97 (0, 0)) :: L)) (fun i => vs.length - i) 0 ⟨Nat.zero_le _, rfl⟩ ?_ (fun w h => h) ?_
    (repeat ((first | exact trivial | refine ⟨rfl, ?_⟩)))
    rintro i ⟨hi, hno⟩
    by_cases hil : i < vs.length
    · obtain ⟨y, hy⟩ : ∃ y, vs[i]? = some y := ⟨_, List.getElem?_eq_getElem hil⟩
      have hym := List.mem_of_getElem? hy
      obtain ⟨_, kv1, kv2, hvc⟩ := sliceR.cut hv
      rcases hvc with h1 | ⟨bc, oc, cur, tc, fc, rfl, mc, hcur⟩
      · rw [h1] at hil; simp at hil
      obtain ⟨csy, _, hyv, hcy⟩ := hcur i y hy
      obtain ⟨y1, yc1, y2, yc2, rfl, hy1, hy2, hy3, hy4, hy5⟩ := hyv.vals
      obtain ⟨b, hb1, hb2, hb3⟩ := votesB_mem.1 (by rw [hvs]; exact hym)
      have hup : 0 ≤ y.up ∧ y.up < 9 := by rw [← hb3]; exact hl.up b hb1
      obtain ⟨hu0, hu9⟩ := hup
      have hsl : slipOf l y.up = (2, (firstOf vs y.vd : Int)) := by rw [← hvs]; exact slip_vote hl (by rw [hvs]; exact hym)
      have hfl := (firstOf_spec hym).1
      repeat ((first | with_reducible refine T_seq ?_ | with_reducible refine T_block ?_ | with_reducible refine T_region ?_ | with_reducible refine TL_nil ?_ | with_reducible refine TQ_then ?_ | with_reducible refine T_skip ?_ | (refine' TL_q (op_bin rfl rfl ?_) rfl ?_; rotate_left 1; (· (exact bin_lss))) | (refine' TL_q (op_idx ety_47 rfl rfl ?_) rfl ?_; (· omega)) | (refine T_yes rfl ?_ ?_; (· (exact dT (by (omega)))))))
      refine TL_q (op_ldA [.int .i64 y.up, .int .u8 y.vd.code, .slice y1 y.vd.sets.length yc1, .slice y2 y.vd.soa.length yc2, .int .u32 y.time] rfl st_46 (List.mem_cons_of_mem _ (List.mem_cons_of_mem _ mc)) hcy) rfl ?_
      repeat ((first | with_reducible refine T_seq ?_ | with_reducible refine TL_nil ?_ | with_reducible refine TQ_then ?_ | (refine TL_stAll rfl rfl st_46 rfl rfl rfl ?_) | (refine TL_new (op_alloc (C := #[(.int .i64 0), (.int .u8 0), (.slice none 0 0), (.slice none 0 0), (.int .u32 0)]) zero_46 rfl) rfl ?_; intro bNew)))
      obtain ⟨b6, hb6⟩ : ∃ b, bNew = b := ⟨_, rfl⟩
      rw [hb6]
      clear hb6 bNew
      have hslip : ∀ j v, ([.int .u8 2, .int .i64 (firstOf vs y.vd : Nat)] : List Value)[j]? = some v → (boxC want (slipOf l) (.slice (some ⟨bc, oc, none⟩) vs.length c)).toArray[0 + 1 + y.up.toNat * 2 + j]? = some v := fun j v hj => by
        rw [Nat.zero_add]
        match j, hj with
        | 0, hj => obtain rfl := Option.some.inj hj; rw [boxC_kind ⟨hu0, hu9⟩, hsl]
        | 1, hj => obtain rfl := Option.some.inj hj; rw [boxC_first ⟨hu0, hu9⟩, hsl]
      have hKm : ∀ z ∈ [(b6, Obj.cells #[.int .i64 y.up, .int .u8 y.vd.code, .slice y1 y.vd.sets.length yc1, .slice y2 y.vd.soa.length yc2, .int .u32 y.time] 46 (0, 0)), (bb, Obj.cells (boxC want (slipOf l) (.slice (some ⟨bc, oc, none⟩) vs.length c)).toArray 100 (0, 0))], z ∈ (b6, Obj.cells #[.int .i64 y.up, .int .u8 y.vd.code, .slice y1 y.vd.sets.length yc1, .slice y2 y.vd.soa.length yc2, .int .u32 y.time] 46 (0, 0)) :: ((b4, Obj.cells (cntC (cntF vs i)).toArray 155 (0, 0)) :: ((b2, Obj.cells #[.int .u8 0, .int .i64 0] 97 (0, 0)) :: L)) := by
        intro z hz
        simp only [List.mem_cons, List.not_mem_nil, or_false] at hz
        rcases hz with rfl | rfl
        · simp
        · exact List.mem_cons_of_mem _ (List.mem_cons_of_mem _ (List.mem_cons_of_mem _ hm))
      refine T_midK (σ := Nat) (fun _ => True) (fun b7 => [(0, .pointer (some ⟨bb, 0, none⟩)), (2, .pointer (some ⟨b2, 0, none⟩)), (3, .bool false), (4, .pointer (some ⟨b4, 0, none⟩)), (7, .pointer (some ⟨b7, 0, none⟩)), (21, .slice (some ⟨bc, oc, none⟩) vs.length c), (22, .int .i64 (vs.length : Nat)), (23, .int .i64 (i : Nat))]) (fun b7 => (b4, Obj.cells (cntC (cntF vs i)).toArray 155 (0, 0)) :: ((b7, Obj.cells #[.int .u8 2, .int .i64 (firstOf vs y.vd : Nat)] 97 (0, 0)) :: ((b2, Obj.cells #[.int .u8 0, .int .i64 0] 97 (0, 0)) :: L))) ?_ ?_
      · skip
        refine T_draw follows_mixed ([(b6, Obj.cells #[.int .i64 y.up, .int .u8 y.vd.code, .slice y1 y.vd.sets.length yc1, .slice y2 y.vd.soa.length yc2, .int .u32 y.time] 46 (0, 0)), (bb, Obj.cells (boxC want (slipOf l) (.slice (some ⟨bc, oc, none⟩) vs.length c)).toArray 100 (0, 0))]) [] ?_
        (refine' TA_take 0 rfl rfl (by kernel_rfl) (quiet_q (op_move rfl)) ?_ ?_; (· (assumption)))
        (refine' TA_take 1 rfl rfl (by kernel_rfl) (quiet_q (op_fld rfl fld_46_0)) ?_ ?_; (· (assumption)))
        (refine' TA_take 2 rfl rfl (by kernel_rfl) (quiet_q (op_ld rfl pl_3 ?_ ?_)) ?_ ?_; rotate_left 4; (· repeat ((exact List.mem_cons_self))); (· (rfl)); (· (assumption)))
        (refine' TA_take 3 rfl rfl (by kernel_rfl) (quiet_q (op_nilCheck rfl)) ?_ ?_; (· (assumption)))
        (refine' TA_take 4 rfl rfl (by kernel_rfl) (quiet_q (op_fld rfl fld_100_1)) ?_ ?_; (· (assumption)))
        (refine' TA_take 5 rfl rfl (by kernel_rfl) (quiet_q (op_idxA arr_98 rfl rfl ?_ ?_)) ?_ ?_; (· omega); (· omega); (· (assumption)))
        (refine' TA_take 6 rfl rfl (by kernel_rfl) (quiet_q (op_ldA [.int .u8 2, .int .i64 (firstOf vs y.vd : Nat)] rfl st_97 (List.mem_cons_of_mem _ (List.mem_cons_self ..)) hslip)) ?_ ?_; (· (assumption)))
        refine TA_oneD 7 (by kernel_rfl) rfl rfl rfl rfl (op_alloc (C := #[.int .u8 0, .int .i64 0]) zero_97 rfl) ?_
        rintro _ _ ⟨b7, rfl, rfl⟩
        refine ⟨Or.inr (by (exact (fun z hz => mem_of_cnt (by intro p; (try simp only [cnt_append, cnt_cons, cnt_nil]) <;> omega) z (hKm z hz)))), ?_⟩
        refine TA_oneN 8 (by kernel_rfl) rfl rfl rfl (op_stAll rfl rfl st_97 rfl rfl rfl) ?_
        rintro _ _ ⟨_, rfl⟩
        refine ⟨Or.inr (by (exact (fun z hz => mem_of_cnt (by intro p; (try simp only [cnt_append, cnt_cons, cnt_nil]) <;> omega) z (hKm z hz)))), ?_⟩
        refine TA_done (by kernel_rfl) ?_
        refine TQ_mid b7 trivial ?_ (fun w h => h.cnt (by intro p; (try simp only [cnt_append, cnt_cons, cnt_nil]) <;> omega))
        (repeat ((first | exact trivial | refine ⟨rfl, ?_⟩)))
      · rintro b7 _
        clear hKm
        have hf9 : firstOf vs y.vd < 9 := by omega
        have hcb : cntF vs i (firstOf vs y.vd) ≤ 9 := Nat.le_trans List.countP_le_length (by rw [List.length_take]; omega)
        have gc := cntC_get (f := cntF vs i) hf9
        have gc2 := cntC_get (f := cntF vs (i + 1)) hf9
        have gs := cntC_set (f := cntF vs i) (g := cntF vs (i + 1)) hf9 (fun j => cntF_succ hy j)
        have hcw := cntF_with (i + 1) hym
        have hex := won_exact hw1 hy hno
        have hws := wonAt_succ hy hno
        repeat ((first | with_reducible refine T_seq ?_ | with_reducible refine T_region ?_ | (refine' TL_q (op_bin rfl rfl ?_) rfl ?_; rotate_left 1; (· (exact bin_add ⟨by omega, by omega⟩))) | (refine' TL_q (op_idxA arr_155 rfl rfl ?_ ?_) rfl ?_; (· omega); (· omega)) | refine TL_q (op_fld rfl fld_97_1) rfl ?_ | (refine' TL_q (op_ld rfl pl_3 ?_ ?_) rfl ?_; rotate_left 4; (· repeat ((first | exact List.mem_cons_self | apply List.mem_cons_of_mem))); (· (first | assumption | rfl)))))
        refine TL_st (C' := (cntC (cntF vs (i + 1))).toArray) rfl rfl one_3 rfl gc gs ?_
        have hK : ∀ z ∈ (b4, Obj.cells (cntC (cntF vs (i + 1))).toArray 155 (0, 0)) :: ((b7, Obj.cells #[.int .u8 2, .int .i64 (firstOf vs y.vd : Nat)] 97 (0, 0)) :: ((b2, Obj.cells #[.int .u8 0, .int .i64 0] 97 (0, 0)) :: L)), z ∈ (b4, Obj.cells (cntC (cntF vs (i + 1))).toArray 155 (0, 0)) :: ((b7, Obj.cells #[.int .u8 2, .int .i64 (firstOf vs y.vd : Nat)] 97 (0, 0)) :: ((b2, Obj.cells #[.int .u8 0, .int .i64 0] 97 (0, 0)) :: L)) := fun z h => h
        repeat ((first | with_reducible refine T_seq ?_ | with_reducible refine TL_nil ?_ | with_reducible refine TQ_then ?_))
        refine T_draw follows_mixed ((b4, Obj.cells (cntC (cntF vs (i + 1))).toArray 155 (0, 0)) :: ((b7, Obj.cells #[.int .u8 2, .int .i64 (firstOf vs y.vd : Nat)] 97 (0, 0)) :: ((b2, Obj.cells #[.int .u8 0, .int .i64 0] 97 (0, 0)) :: L))) [] ?_
        (refine' TA_take 0 rfl rfl (by kernel_rfl) (quiet_q (op_fld rfl fld_97_1)) ?_ ?_; (· (assumption)))
        (refine' TA_take 1 rfl rfl (by kernel_rfl) (quiet_q (op_ld rfl pl_3 ?_ ?_)) ?_ ?_; rotate_left 4; (· repeat ((first | exact List.mem_cons_self | apply List.mem_cons_of_mem))); (· (rfl)); (· (assumption)))
        (refine' TA_take 2 rfl rfl (by kernel_rfl) (quiet_q (op_idxA arr_155 rfl rfl ?_ ?_)) ?_ ?_; (· omega); (· omega); (· (assumption)))
        (refine' TA_take 3 rfl rfl (by kernel_rfl) (quiet_q (op_ld rfl pl_3 ?_ ?_)) ?_ ?_; rotate_left 4; (· repeat ((exact List.mem_cons_self))); (· (assumption)); (· (assumption)))
        (refine' TA_take 4 rfl rfl (by kernel_rfl) (quiet_q (op_move rfl)) ?_ ?_; (· (assumption)))
        (refine' TA_take 5 rfl rfl (by kernel_rfl) (quiet_q (op_nilCheck rfl)) ?_ ?_; (· (assumption)))
        (refine' TA_take 6 rfl rfl (by kernel_rfl) (quiet_q (op_fld rfl fld_100_0)) ?_ ?_; (· (assumption)))
        (refine' TA_take 7 rfl rfl (by kernel_rfl) (quiet_q (op_ld rfl pl_3 ?_ ?_)) ?_ ?_; rotate_left 4; (· repeat ((first | assumption | apply List.mem_cons_of_mem))); (· (assumption)); (· (assumption)))
        (refine' TA_take 8 rfl rfl (by kernel_rfl) (quiet_q (op_bin rfl rfl ?_)) ?_ ?_; rotate_left 1; (· (exact bin_eql)); (· (assumption)))
        refine TA_done (by kernel_rfl) ?_
        by_cases hwin : ((withV (vs.take (i + 1)) y.vd).length : Int) = want
        · have hwon : wonAt want vs (i + 1) = some i := by rw [hws, if_pos (hex.2 hwin)]
          have hW : winS want vs = ((2, (firstOf vs y.vd : Int)), true) := by
            unfold winS
            rw [if_neg hw, wonAt_some (i + 1) vs.length (by omega) hwon]
            dsimp only
            rw [hy]
          rw [hW]
          have hwin' : ((cntF vs (i + 1) (firstOf vs y.vd) : Nat) : Int) = want := by rw [hcw]; exact hwin
          repeat ((first | with_reducible refine T_seq ?_ | with_reducible refine T_region ?_ | with_reducible refine TQ_then ?_ | (refine' TL_q (op_ldAll rfl st_97 ?_ ?_) rfl ?_; rotate_left 3; (· repeat ((first | exact List.mem_cons_self | apply List.mem_cons_of_mem))); (· (rfl))) | (refine T_yes rfl ?_ ?_; (· (exact dT (by (assumption)))))))
          refine TL_cnt (L' := (b2, Obj.cells #[.int .u8 0, .int .i64 0] 97 (0, 0)) :: L) ?_ (by intro p; (try simp only [cnt_append, cnt_cons, cnt_nil]) <;> omega)
          repeat ((first | with_reducible refine TL_nil ?_ | with_reducible refine TQ_then ?_ | with_reducible refine T_ret ?_ | with_reducible refine TQ_then_ret ?_ | with_reducible refine TQ_block_ret ?_ | refine TL_q (op_assign rfl) rfl ?_ | (refine TL_stAll rfl rfl st_97 rfl rfl rfl ?_)))
          refine TQ_retC2 2 97 3 rfl rfl rfl st_97 (by repeat ((exact List.mem_cons_self))) rfl (fun w h => Heap.cnt (L' := L) h (by intro p; (try simp only [cnt_append, cnt_cons, cnt_nil]) <;> omega)) ?_
          exact ⟨rfl, rfl⟩
        · have hwin' : ¬ ((cntF vs (i + 1) (firstOf vs y.vd) : Nat) : Int) = want := by rw [hcw]; exact hwin
          have hno' : wonAt want vs (i + 1) = none := by rw [hws, if_neg (fun h => hwin (hex.1 h))]
          repeat ((first | with_reducible refine T_region ?_ | with_reducible refine TL_nil ?_ | with_reducible refine TQ_then ?_ | with_reducible refine TQ_block ?_ | with_reducible refine T_skip ?_ | refine TL_q (op_move rfl) rfl ?_ | (refine' TL_q (op_bin rfl rfl ?_) rfl ?_; rotate_left 1; (· (exact bin_add ⟨by omega, by omega⟩))) | (refine T_no rfl ?_ ?_; (· (exact dF (by (assumption)))))))
          refine TQ_roundS (i + 1) ⟨hil, hno'⟩ ?_ (fun w h => h.cnt (by intro p; (try simp only [cnt_append, cnt_cons, cnt_nil]) <;> omega)) (by omega)
          (repeat ((first | exact trivial | refine ⟨rfl, ?_⟩)))
    · have hie : i = vs.length := by omega
      subst hie
      have hW : winS want vs = ((0, 0), false) := by unfold winS; rw [if_neg hw, hno]
      rw [hW]
      repeat ((first | with_reducible refine T_seq ?_ | with_reducible refine T_region ?_ | with_reducible refine TL_nil ?_ | with_reducible refine TQ_then ?_ | with_reducible refine T_exit ?_ | with_reducible refine TQ_then_exit ?_ | with_reducible refine TQ_block_exit ?_ | (refine' TL_q (op_bin rfl rfl ?_) rfl ?_; rotate_left 1; (· (exact bin_lss))) | refine TL_q (op_build rfl (bl_97_ )) rfl ?_ | (refine T_no rfl ?_ ?_; (· (exact dF (by (omega)))))))
      refine TL_cnt (L' := (b2, Obj.cells #[.int .u8 0, .int .i64 0] 97 (0, 0)) :: L) ?_ (by intro p; (try simp only [cnt_append, cnt_cons, cnt_nil]) <;> omega)
      repeat ((first | with_reducible refine TL_nil ?_ | with_reducible refine TQ_then ?_ | with_reducible refine T_ret ?_ | refine TL_q (op_assign rfl) rfl ?_ | (refine TL_stAll rfl rfl st_97 rfl rfl rfl ?_)))
      refine TQ_retC2 2 97 3 rfl rfl rfl st_97 (by repeat ((exact List.mem_cons_self))) rfl (fun w h => Heap.cnt (L' := L) h (by intro p; (try simp only [cnt_append, cnt_cons, cnt_nil]) <;> omega)) ?_
      exact ⟨rfl, rfl⟩
end Go.Proofs.Ytdflhdfapnhjjaa
