/-
  Part 6: Gl Gm Gn Go Gp Kb.
-/
import Derived.Test.YtdflhdfapnhjjaaTx5
import Derived.Test.YtdflhdfapnhjjaaTx2
namespace Go.Proofs.Ytdflhdfapnhjjaa
open Go.RowKit
open Vd (RSet Vdt Vote Rec Quest Piece)
set_option linter.unusedVariables false
set_option linter.unusedSimpArgs false
--auto
variable {G : World} {L : Blocks}
/-- A verdict in new memory, a time, an error. -/
def OfOut (L : Blocks) (r : Vdt × Int × Int) (u : Value) (M : Blocks) : Prop := ∃ a c B a2 c2 B2 N, u = .tuple #[.agg #[.int .u8 r.1.code, .slice a r.1.sets.length c, .slice a2 r.1.soa.length c2], .int .u32 r.2.1, .int .i64 r.2.2] ∧
  ORow rsR 60 5 N a c r.1.sets B ∧ ORow rsR 60 5 N a2 c2 r.1.soa B2 ∧ Wr N ∧ M = B2 ++ (B ++ (N ++ L))
theorem OfOut.bad (e : Int) : OfOut L (Vdt.none, 0, e) (.tuple #[.agg #[.int .u8 0, .slice none 0 0, .slice none 0 0], .int .u32 0, .int .i64 e]) L := ⟨none, 0, [], none, 0, [], [], rfl, ORow.nil _, ORow.nil _, Wr.nil, rfl⟩
theorem rs_bare {N : Blocks} {s : RSet} {a : Option Addr} {c : Nat} (h : rsR N [.string (bs s.name), .int .u16 s.kind, .int .u16 s.cls, .int .u32 s.ttl, .slice a s.data.length c] s) : rsR N [.string (bs s.name), .int .u16 s.kind, .int .u16 s.cls, .int .u32 0, .slice a s.data.length c] (Vd.bare s) := by
  obtain ⟨d, e, h1, h2, h3, h4, h5⟩ := h
  simp only [List.cons.injEq, true_and, and_true] at e
  subst e
  exact ⟨_, rfl, h1, h2, h3, h4, by simp [Vd.bare]⟩
theorem T_midK {P : Program} {n : Nat} {ρ : Slots} {Q : Exit → Act → World → Prop} {σ : Type} {x y : Code} (I : σ → Prop) (ρI : σ → Slots) (LI : σ → Blocks) (hx : T P G n ρ L x (Exit.then (Mid G n I ρI LI) Q)) (hy : ∀ s, I s → T P G n (ρI s) (LI s) y Q) : T P G n ρ L x (Exit.then (y.wp P Q) Q) :=
  T_mono hx fun e a w h => by
    cases e with
    | normal =>
      obtain ⟨s, h1, h2, h3⟩ := h
      exact (hy s h1).out a w h2 h3
    | _ => exact h
theorem Up_ofD {P : Program} {n : Nat} {ρ : Slots} {Q : Exit → Act → World → Prop} {ops : Array Oper} {K : Blocks} {W : List Nat} {fuel : Nat} {listed : Array Bool} {i d : Nat} {oi : Oper} {Φ : Value → Blocks → Prop} (hi : ops[i]? = some oi) (hd : oi.dst = some d) (hdn : Nat.blt d n = true) (hg : oi.guard = none)
    (hO : OpT P G ρ L oi.op oi.type Φ) (h : ∀ v L', Φ v L' → (i ∈ W ∨ ∀ p ∈ K, p ∈ L') ∧ TA P G ops n K W Q fuel (listed.setIfInBounds i true) ((d, v) :: ρ) L') : Up P G ops n K W Q fuel listed ρ L i :=
  Up_of hi (by rw [hd]; exact hdn) hg hO (by rw [hd]; exact h)
theorem op_stAll {P : Program} {ρ : Slots} {ty : TypeId} {x y : Operand} {b k : Nat} {t : TypeId} {C D : Array Value} {te : TypeId} (hx : ev ρ x = some (.pointer (some ⟨b, 0, none⟩))) (hy : ev ρ y = some (.agg D))
    (ht : structTy P t k = true) (hC : C.size = k) (hD : D.size = k) (hone : allOne D = true) : OpV P G ρ ((b, Obj.cells C te (0, 0)) :: L) (.store t x y) ty undef ((b, Obj.cells D te (0, 0)) :: L) := by
  have h1 := op_stA (G := G) (P := P) (ρ := ρ) (L := L) (ty := ty) (b := b) (C := C) (te := te) (t := t) (cs := D.toList) hx (by simpa using hy) (by rw [Array.length_toList, hD]; exact ht) (fun v hv => List.all_eq_true.1 hone v hv) (by rw [Array.length_toList, hD, hC]; omega)
  have h2 : putAt C 0 D.toList = D := by
    unfold putAt
    rw [List.drop_eq_nil_of_le (by simp; omega)]
    simp
  rw [h2] at h1
  exact h1
set_option maxRecDepth 100000 in
set_option maxHeartbeats 4000000 in
theorem Of_S (cq cm : List Value) (q : Quest) (m : Vd.Msg) (hq : questR L cq q) (hm : msgR L cm m) (hqn : q.name.length ≤ 1000000) (hA1 : m.answers.length ≤ 10000) (hA2 : ∀ x ∈ m.answers, x.name.length ≤ 1000000 ∧ x.data.length ≤ 1000000)
    (hB1 : m.auth.length ≤ 10000) (hB2 : ∀ x ∈ m.auth, x.name.length ≤ 1000000 ∧ x.data.length ≤ 1000000) : Spec Try.prog G 56 #[.agg cq.toArray, .agg cm.toArray] L (OfOut L (Vd.ofM q m)) := by
  have hq0 := hq
  obtain ⟨rfl, _, hk0, hc0⟩ := hq
  obtain ⟨h0, h1, h2, h3, h4, h5, h6, h7, h8, h9, qs, va, vb, x, k, e0, e1, e2, e3, e4, rfl, hma, hmb, hcode, _⟩ := hm
  obtain ⟨aA, cA, ea, hma⟩ := hma.val
  obtain ⟨aB, cB, eb, hmb⟩ := hmb.val
  simp only [List.cons.injEq, and_true] at ea eb
  subst ea eb
  obtain ⟨gl1, gb1⟩ := group_bd m.answers (fun x hx => (hA2 x hx).2)
  obtain ⟨gl2, gb2⟩ := group_bd m.auth (fun x hx => (hB2 x hx).2)
  have hOf : Vd.ofM q m = if !Nm.may q.name || (m.code != 0 && m.code != 3) then (Vdt.none, 0, 1) else match Vd.follow q (Vd.group m.answers) with
    | ⟨l, pos, last, e⟩ =>
      if e ≠ 0 then (Vdt.none, 0, e)
      else if m.code = 3 ∧ last ≠ [] then (Vdt.none, 0, 3)
      else if last ≠ [] then (⟨m.code, (l ++ last).map Vd.bare, []⟩, Vd.leastT (l ++ last) 2147483647, 0)
      else match Vd.findSoa (Vd.group m.auth) pos q.cls with
        | (s, is, e) =>
          if e ≠ 0 then (Vdt.none, 0, e)
          else if !is then (⟨m.code, (l ++ last).map Vd.bare, []⟩, 0, 0)
          else (⟨m.code, (l ++ last).map Vd.bare, [Vd.bare s]⟩, min (Vd.leastT (l ++ last) 2147483647) (Vd.soaTime s), 0) := rfl
  have hAt : ∀ y ∈ m.answers, 0 ≤ y.ttl ∧ y.ttl ≤ 4294967295 := recs_ttl hma
  have hfi := follow_in q (Vd.group m.answers)
  have g10 : (#[h0, h1, h2, h3, h4, h5, h6, h7, h8, h9, .int .u8 m.code, qs, .slice aA m.answers.length cA, .slice aB m.auth.length cB, x, k, e0, e1, e2, e3, e4] : Array Value)[0 + 0 + 10]? = some (.int .u8 m.code) := rfl
  have hqm : q.name.length ≤ maxLen := by unfold maxLen; omega
  refine Spec_of (n := 131) Try.func56 rfl rfl rfl ?_
  refine T_seq (T_region (TL_new (op_boxA rfl) rfl ?_))
  intro bQ
  refine TL_new (op_boxA rfl) rfl ?_
  intro bM
  refine TL_new (op_alloc zero_42 rfl) rfl ?_
  intro bV
  cases hmay : Nm.may q.name with
  | false =>
    rw [hOf, hmay]
    repeat ((first | with_reducible refine T_seq ?_ | with_reducible refine T_region ?_ | with_reducible refine TL_nil ?_ | with_reducible refine TQ_then ?_ | with_reducible refine T_ret ?_ | with_reducible refine TQ_then_ret ?_ | refine TL_q (op_move rfl) rfl ?_ | refine TL_q (op_assign rfl) rfl ?_ | refine TL_q (op_not rfl) rfl ?_ | (refine' TL_q (op_pickT rfl ?_ rfl) rfl ?_; (· (exact xT (by (assumption))))) | refine TL_q (op_fld rfl fld_32_0) rfl ?_ | (refine' TL_q (op_ld rfl pl_5 ?_ ?_) rfl ?_; rotate_left 4; (· repeat ((first | exact List.mem_cons_self | apply List.mem_cons_of_mem))); (· (rfl))) | (refine' TL_op (op_call hb_58 rfl (refMay_S _ ?_)) rfl ?_; (· (omega))) | (refine TL_gno rfl rfl ?_ rfl ?_; (· (exact xT (by (assumption))))) | refine TL_gundef rfl rfl rfl ?_ | (refine TL_stAll rfl rfl st_42 rfl rfl rfl ?_) | refine TL_q (op_build rfl (bl_42_ )) rfl ?_ | (refine T_yes rfl ?_ ?_; (· (with_reducible rfl)))))
    refine TQ_retC3 4 42 5 6 rfl rfl rfl rfl st_42 (by repeat ((exact List.mem_cons_self))) rfl (fun w h => Heap.cnt (L' := L) h (by intro p; (try simp only [cnt_append, cnt_cons, cnt_nil]) <;> omega)) ?_
    exact OfOut.bad _
  | true =>
  by_cases hc3 : m.code = 0 ∨ m.code = 3
  · have hOf2 : Vd.ofM q m = match Vd.follow q (Vd.group m.answers) with
      | ⟨l, pos, last, e⟩ =>
        if e ≠ 0 then (Vdt.none, 0, e)
        else if m.code = 3 ∧ last ≠ [] then (Vdt.none, 0, 3)
        else if last ≠ [] then (⟨m.code, (l ++ last).map Vd.bare, []⟩, Vd.leastT (l ++ last) 2147483647, 0)
        else match Vd.findSoa (Vd.group m.auth) pos q.cls with
          | (s, is, e) =>
            if e ≠ 0 then (Vdt.none, 0, e)
            else if !is then (⟨m.code, (l ++ last).map Vd.bare, []⟩, 0, 0)
            else (⟨m.code, (l ++ last).map Vd.bare, [Vd.bare s]⟩, min (Vd.leastT (l ++ last) 2147483647) (Vd.soaTime s), 0) := by
      rw [hOf, hmay, if_neg (by rcases hc3 with h | h <;> simp [h])]
    rw [hOf2]
    clear hOf hOf2
    have hKm : ∀ z ∈ [(bQ, Obj.cells #[.string (bs q.name), .int .u16 q.kind, .int .u16 q.cls] 34 (0, 0)), (bM, Obj.cells #[h0, h1, h2, h3, h4, h5, h6, h7, h8, h9, .int .u8 m.code, qs, .slice aA m.answers.length cA, .slice aB m.auth.length cB, x, k, e0, e1, e2, e3, e4] 32 (0, 0))], z ∈ (bV, Obj.cells #[.int .u8 0, .slice none 0 0, .slice none 0 0] 42 (0, 0)) :: ((bM, Obj.cells #[h0, h1, h2, h3, h4, h5, h6, h7, h8, h9, .int .u8 m.code, qs, .slice aA m.answers.length cA, .slice aB m.auth.length cB, x, k, e0, e1, e2, e3, e4] 32 (0, 0)) :: ((bQ, Obj.cells #[.string (bs q.name), .int .u16 q.kind, .int .u16 q.cls] 34 (0, 0)) :: L)) := (mem_of_cnt (by intro p; (try simp only [cnt_append, cnt_cons, cnt_nil]) <;> omega))
    repeat ((first | with_reducible refine TL_nil ?_ | with_reducible refine TQ_then ?_ | refine TL_q (op_assign rfl) rfl ?_))
    refine T_mid (σ := Unit) (fun _ => True) (fun _ => [(2, .pointer (some ⟨bQ, 0, none⟩)), (3, .pointer (some ⟨bM, 0, none⟩)), (4, .pointer (some ⟨bV, 0, none⟩))]) (fun _ => (bV, Obj.cells #[.int .u8 0, .slice none 0 0, .slice none 0 0] 42 (0, 0)) :: ((bM, Obj.cells #[h0, h1, h2, h3, h4, h5, h6, h7, h8, h9, .int .u8 m.code, qs, .slice aA m.answers.length cA, .slice aB m.auth.length cB, x, k, e0, e1, e2, e3, e4] 32 (0, 0)) :: ((bQ, Obj.cells #[.string (bs q.name), .int .u16 q.kind, .int .u16 q.cls] 34 (0, 0)) :: L))) ?_ ?_
    · rcases hc3 with hc3 | hc3
      · repeat ((first | with_reducible refine T_seq ?_ | with_reducible refine T_region ?_ | with_reducible refine TL_nil ?_ | with_reducible refine TQ_then ?_ | with_reducible refine T_skip ?_ | refine TL_q (op_move rfl) rfl ?_ | refine TL_q (op_not rfl) rfl ?_ | (refine' TL_q (op_pickF rfl ?_ rfl) rfl ?_; (· (exact xF (by (assumption))))) | refine TL_q (op_fld rfl fld_32_0) rfl ?_ | (refine' TL_q (op_ld rfl pl_5 ?_ ?_) rfl ?_; rotate_left 4; (· repeat ((first | exact List.mem_cons_self | apply List.mem_cons_of_mem))); (· (rfl))) | (refine' TL_op (op_call hb_58 rfl (refMay_S _ ?_)) rfl ?_; (· (omega))) | (refine TL_gpre rfl rfl ?_ ?_; (· (exact xF (by (assumption))))) | refine TL_gq2 (op_move rfl) rfl ?_ | (refine' TL_gq2 (op_bin rfl rfl ?_) rfl ?_; rotate_left 1; (· (exact bin_neq))) | (refine' TL_gq2 (op_pickF rfl ?_ rfl) rfl ?_; (· (exact nF (by (assumption))))) | refine TL_gq2 (op_fld rfl fld_25_10) rfl ?_ | refine TL_gq2 (op_fld rfl fld_32_0) rfl ?_ | (refine' TL_gq2 (op_ld rfl pl_5 ?_ ?_) rfl ?_; rotate_left 4; (· repeat ((first | exact List.mem_cons_self | apply List.mem_cons_of_mem))); (· (assumption))) | (refine TL_gno rfl rfl ?_ rfl ?_; (· (exact nF (by (assumption))))) | (refine T_no rfl ?_ ?_; (· (with_reducible rfl)))))
        refine TQ_mid () trivial ?_ (fun w h => h)
        (repeat ((first | exact trivial | refine ⟨rfl, ?_⟩)))
      · repeat ((first | with_reducible refine T_seq ?_ | with_reducible refine T_region ?_ | with_reducible refine TL_nil ?_ | with_reducible refine TQ_then ?_ | with_reducible refine T_skip ?_ | refine TL_q (op_move rfl) rfl ?_ | refine TL_q (op_not rfl) rfl ?_ | (refine' TL_q (op_pickF rfl ?_ rfl) rfl ?_; (· (exact xF (by (assumption))))) | refine TL_q (op_fld rfl fld_32_0) rfl ?_ | (refine' TL_q (op_ld rfl pl_5 ?_ ?_) rfl ?_; rotate_left 4; (· repeat ((first | exact List.mem_cons_self | apply List.mem_cons_of_mem))); (· (rfl))) | (refine' TL_op (op_call hb_58 rfl (refMay_S _ ?_)) rfl ?_; (· (omega))) | (refine TL_gpre rfl rfl ?_ ?_; (· (first | exact nT (by (omega)) | exact xF (by (assumption))))) | refine TL_gq2 (op_move rfl) rfl ?_ | (refine' TL_gq2 (op_bin rfl rfl ?_) rfl ?_; rotate_left 1; (· (exact bin_neq))) | (refine' TL_gq2 (op_pickT rfl ?_ rfl) rfl ?_; (· (exact nT (by (omega))))) | refine TL_gq2 (op_fld rfl fld_25_10) rfl ?_ | refine TL_gq2 (op_fld rfl fld_32_0) rfl ?_ | (refine' TL_gq2 (op_ld rfl pl_5 ?_ ?_) rfl ?_; rotate_left 4; (· repeat ((first | exact List.mem_cons_self | apply List.mem_cons_of_mem))); (· (assumption))) | (refine T_no rfl ?_ ?_; (· (exact nF (by (assumption)))))))
        refine TQ_mid () trivial ?_ (fun w h => h)
        (repeat ((first | exact trivial | refine ⟨rfl, ?_⟩)))
    intro _ _
    repeat ((with_reducible refine T_seq ?_))
    refine T_draw follows_mixed ([(bQ, Obj.cells #[.string (bs q.name), .int .u16 q.kind, .int .u16 q.cls] 34 (0, 0)), (bM, Obj.cells #[h0, h1, h2, h3, h4, h5, h6, h7, h8, h9, .int .u8 m.code, qs, .slice aA m.answers.length cA, .slice aB m.auth.length cB, x, k, e0, e1, e2, e3, e4] 32 (0, 0))]) [] ?_
    (refine' TA_take 0 rfl rfl (by kernel_rfl) (quiet_q (op_ldAll rfl st_34 ?_ ?_)) ?_ ?_; rotate_left 3; (· repeat ((exact List.mem_cons_self))); (· (rfl)); (· (assumption)))
    (refine' TA_take 1 rfl rfl (by kernel_rfl) (quiet_q (op_fld rfl fld_32_2)) ?_ ?_; (· (assumption)))
    (refine' TA_take 2 rfl rfl (by kernel_rfl) (quiet_q (op_ld rfl pl_27 ?_ ?_)) ?_ ?_; rotate_left 4; (· repeat ((first | exact List.mem_cons_self | apply List.mem_cons_of_mem))); (· (rfl)); (· (assumption)))
    refine TA_oneD 3 (by kernel_rfl) rfl rfl rfl rfl (op_call hb_83 rfl (Group_S _ m.answers (mono_slice mono_rec _ _ _ _ (mem_of_cnt (by intro p; (try simp only [cnt_append, cnt_cons, cnt_nil]) <;> omega)) hma) hA1 (fun x hx => (hA2 x hx).1) (fun x hx => (hA2 x hx).2))) ?_; rintro _ _ ⟨aG, cG, BG, N, rfl, hG, hN, rfl⟩; refine ⟨Or.inr (mem_of_cnt (by intro p; (try simp only [cnt_append, cnt_cons, cnt_nil]) <;> omega)), ?_⟩
    refine TA_oneD 4 (by kernel_rfl) rfl rfl rfl rfl (op_call hb_82 rfl (Follow_S (K := BG) (N := N) _ q _ (Vd.group m.answers) ⟨rfl, hqm, hk0, hc0⟩ hqn (mem_of_cnt (by intro p; (try simp only [cnt_append, cnt_cons, cnt_nil]) <;> omega)) (mem_of_cnt (by intro p; (try simp only [cnt_append, cnt_cons, cnt_nil]) <;> omega)) ((hG.imp (r' := fun _ => rsR N) (L' := []) (fun cs x _ h => h)).sliceR mono_const (mem_of_cnt (by intro p; (try simp only [cnt_append, cnt_cons, cnt_nil]) <;> omega)) (mem_of_cnt (by intro p; (try simp only [cnt_append, cnt_cons, cnt_nil]) <;> omega))) (fun s hs => Nat.le_trans (gb1 s hs).1 (by omega)) (fun s hs => (gb1 s hs).2.2.2))) ?_; rintro _ _ ⟨aC, cC, BC, aE, cE, BE, rfl, hC, hE, rfl⟩; refine ⟨Or.inr (mem_of_cnt (by intro p; (try simp only [cnt_append, cnt_cons, cnt_nil]) <;> omega)), ?_⟩
    (refine' TA_take 5 rfl rfl (by kernel_rfl) (quiet_q (op_move rfl)) ?_ ?_; (· (intro p hp; grind)))
    (refine' TA_take 6 rfl rfl (by kernel_rfl) (quiet_q (op_extract rfl rfl)) ?_ ?_; (· (intro p hp; grind)))
    (refine' TA_take 7 rfl rfl (by kernel_rfl) (quiet_q (op_extract rfl rfl)) ?_ ?_; (· (intro p hp; grind)))
    (refine' TA_take 8 rfl rfl (by kernel_rfl) (quiet_q (op_extract rfl rfl)) ?_ ?_; (· (intro p hp; grind)))
    (refine' TA_take 9 rfl rfl (by kernel_rfl) (quiet_q (op_extract rfl rfl)) ?_ ?_; (· (intro p hp; grind)))
    (refine' TA_take 10 rfl rfl (by kernel_rfl) (quiet_q (op_assign rfl)) ?_ ?_; (· (intro p hp; grind)))
    (refine' TA_take 11 rfl rfl (by kernel_rfl) (quiet_q (op_assign rfl)) ?_ ?_; (· (intro p hp; grind)))
    (refine' TA_take 12 rfl rfl (by kernel_rfl) (quiet_q (op_assign rfl)) ?_ ?_; (· (intro p hp; grind)))
    (refine' TA_take 13 rfl rfl (by kernel_rfl) (quiet_q (op_assign rfl)) ?_ ?_; (· (intro p hp; grind)))
    refine TA_done (by kernel_rfl) ?_
    obtain ⟨⟨chain, pos, last, e⟩, hT⟩ : ∃ t, Vd.follow q (Vd.group m.answers) = t := ⟨_, rfl⟩
    rw [hT] at hC hE hfi ⊢
    dsimp only at hC hE hfi ⊢
    obtain ⟨hi1, hi2, hi3, hi4, hi5⟩ := hfi
    refine TQ_cnt (L' := ((bV, Obj.cells #[.int .u8 0, .slice none 0 0, .slice none 0 0] 42 (0, 0)) :: ((bM, Obj.cells #[h0, h1, h2, h3, h4, h5, h6, h7, h8, h9, .int .u8 m.code, qs, .slice aA m.answers.length cA, .slice aB m.auth.length cB, x, k, e0, e1, e2, e3, e4] 32 (0, 0)) :: ((bQ, Obj.cells #[.string (bs q.name), .int .u16 q.kind, .int .u16 q.cls] 34 (0, 0)) :: (BE ++ (BC ++ (BG ++ (N ++ L)))))))) ?_ (by intro p; (try simp only [cnt_append, cnt_cons, cnt_nil]) <;> omega)
    by_cases he : e = 0
    · rw [if_neg (by simpa using he)]
      by_cases h3e : m.code = 3 ∧ last ≠ []
      · rw [if_pos h3e]
        obtain ⟨h3c, h3l⟩ := h3e
        have hlp : 0 < last.length := List.length_pos_iff.2 h3l
        repeat ((first | with_reducible refine T_seq ?_ | with_reducible refine T_region ?_ | with_reducible refine TL_nil ?_ | with_reducible refine TQ_then ?_ | with_reducible refine T_skip ?_ | with_reducible refine T_ret ?_ | with_reducible refine TQ_then_ret ?_ | refine TL_q (op_move rfl) rfl ?_ | refine TL_q (op_assign rfl) rfl ?_ | (refine' TL_q (op_bin rfl rfl ?_) rfl ?_; rotate_left 1; (· (first | exact bin_eql | exact bin_neq))) | (refine' TL_q (op_pickT rfl ?_ rfl) rfl ?_; (· (exact dT (by (assumption))))) | refine TL_q (op_fld rfl fld_25_10) rfl ?_ | refine TL_q (op_fld rfl fld_32_0) rfl ?_ | (refine' TL_q (op_ld rfl pl_5 ?_ ?_) rfl ?_; rotate_left 4; (· repeat ((first | exact List.mem_cons_self | apply List.mem_cons_of_mem))); (· (assumption))) | (refine TL_gpre rfl rfl ?_ ?_; (· (exact dT (by (assumption))))) | refine TL_gq2 (op_move rfl) rfl ?_ | (refine' TL_gq2 (op_bin rfl rfl ?_) rfl ?_; rotate_left 1; (· (exact bin_gtr))) | refine TL_gq2 (op_len_slice rfl Try.underlying40) rfl ?_ | (refine TL_stAll rfl rfl st_42 rfl rfl rfl ?_) | refine TL_q (op_build rfl (bl_42_ )) rfl ?_ | (refine T_yes rfl ?_ ?_; (· (exact dT (by (first | assumption | omega))))) | (refine T_no rfl ?_ ?_; (· (exact nF (by (assumption)))))))
        refine TQ_retC3 4 42 5 6 rfl rfl rfl rfl st_42 (by repeat ((exact List.mem_cons_self))) rfl (fun w h => Heap.cnt (L' := L) h (by intro p; (try simp only [cnt_append, cnt_cons, cnt_nil]) <;> omega)) ?_
        exact OfOut.bad _
      rw [if_neg h3e]
      repeat ((with_reducible refine TQ_then ?_))
      refine T_seq (T_seq ?_)
      repeat ((first | with_reducible refine T_region ?_ | with_reducible refine TL_nil ?_ | with_reducible refine TQ_then ?_ | with_reducible refine T_skip ?_ | refine TL_q (op_move rfl) rfl ?_ | (refine' TL_q (op_bin rfl rfl ?_) rfl ?_; rotate_left 1; (· (exact bin_neq))) | (refine T_no rfl ?_ ?_; (· (exact nF (by (assumption)))))))
      refine T_mid (σ := Unit) (fun _ => True) (fun _ => [(2, .pointer (some ⟨bQ, 0, none⟩)), (3, .pointer (some ⟨bM, 0, none⟩)), (4, .pointer (some ⟨bV, 0, none⟩)), (7, .slice aC chain.length cC), (8, .string (bs pos)), (9, .slice aE last.length cE)]) (fun _ => ((bV, Obj.cells #[.int .u8 0, .slice none 0 0, .slice none 0 0] 42 (0, 0)) :: ((bM, Obj.cells #[h0, h1, h2, h3, h4, h5, h6, h7, h8, h9, .int .u8 m.code, qs, .slice aA m.answers.length cA, .slice aB m.auth.length cB, x, k, e0, e1, e2, e3, e4] 32 (0, 0)) :: ((bQ, Obj.cells #[.string (bs q.name), .int .u16 q.kind, .int .u16 q.cls] 34 (0, 0)) :: (BE ++ (BC ++ (BG ++ (N ++ L)))))))) ?_ ?_
      · by_cases h3 : m.code = 3
        · have hl0 : last.length = 0 := by
            cases last with
            | nil => rfl
            | cons y r => exact absurd ⟨h3, by simp⟩ h3e
          repeat ((first | with_reducible refine T_seq ?_ | with_reducible refine T_region ?_ | with_reducible refine TL_nil ?_ | with_reducible refine TQ_then ?_ | with_reducible refine T_skip ?_ | refine TL_q (op_move rfl) rfl ?_ | (refine' TL_q (op_bin rfl rfl ?_) rfl ?_; rotate_left 1; (· (exact bin_eql))) | (refine' TL_q (op_pickT rfl ?_ rfl) rfl ?_; (· (exact dT (by (assumption))))) | refine TL_q (op_fld rfl fld_25_10) rfl ?_ | refine TL_q (op_fld rfl fld_32_0) rfl ?_ | (refine' TL_q (op_ld rfl pl_5 ?_ ?_) rfl ?_; rotate_left 4; (· repeat ((first | exact List.mem_cons_self | apply List.mem_cons_of_mem))); (· (assumption))) | (refine TL_gpre rfl rfl ?_ ?_; (· (exact dT (by (assumption))))) | refine TL_gq2 (op_move rfl) rfl ?_ | (refine' TL_gq2 (op_bin rfl rfl ?_) rfl ?_; rotate_left 1; (· (exact bin_gtr))) | refine TL_gq2 (op_len_slice rfl Try.underlying40) rfl ?_ | (refine T_no rfl ?_ ?_; (· (exact dF (by (omega)))))))
          refine TQ_mid () trivial ?_ (fun w h => h)
          (repeat ((first | exact trivial | refine ⟨rfl, ?_⟩)))
        · repeat ((first | with_reducible refine T_seq ?_ | with_reducible refine T_region ?_ | with_reducible refine TL_nil ?_ | with_reducible refine TQ_then ?_ | with_reducible refine T_skip ?_ | refine TL_q (op_move rfl) rfl ?_ | (refine' TL_q (op_bin rfl rfl ?_) rfl ?_; rotate_left 1; (· (exact bin_eql))) | (refine' TL_q (op_pickF rfl ?_ rfl) rfl ?_; (· (exact dF (by (assumption))))) | refine TL_q (op_fld rfl fld_25_10) rfl ?_ | refine TL_q (op_fld rfl fld_32_0) rfl ?_ | (refine' TL_q (op_ld rfl pl_5 ?_ ?_) rfl ?_; rotate_left 4; (· repeat ((first | exact List.mem_cons_self | apply List.mem_cons_of_mem))); (· (assumption))) | (refine TL_gno rfl rfl ?_ rfl ?_; (· (exact dF (by (assumption))))) | (refine T_no rfl ?_ ?_; (· (with_reducible rfl)))))
          refine TQ_mid () trivial ?_ (fun w h => h)
          (repeat ((first | exact trivial | refine ⟨rfl, ?_⟩)))
      intro _ _
      obtain ⟨tl, htl⟩ : ∃ l, chain ++ last = l := ⟨_, rfl⟩
      have htll : tl.length = chain.length + last.length := by rw [← htl, List.length_append]
      rw [htl]
      have htlg : ∀ s ∈ tl, s ∈ Vd.group m.answers := fun s hs => by
        rw [← htl] at hs
        rcases List.mem_append.1 hs with hs | hs
        · exact hi1 s hs
        · exact hi2 s hs
      have hlt : ∀ i, i ≤ tl.length → 0 ≤ Vd.leastT (tl.take i) 2147483647 ∧ Vd.leastT (tl.take i) 2147483647 ≤ 4294967295 := fun i _ => leastT_bd _ _ (fun s hs => group_ttl m.answers (fun y hy => hAt y hy) s (htlg s (List.mem_of_mem_take hs))) (by omega)
      have hcapC := hC.cap
      have hcapE := hE.cap
      repeat ((first | with_reducible refine T_seq ?_ | with_reducible refine T_block ?_ | with_reducible refine T_region ?_ | with_reducible refine TL_nil ?_ | with_reducible refine TQ_then ?_ | refine TL_q (op_assign rfl) rfl ?_ | refine TL_q (op_fld rfl fld_25_10) rfl ?_ | refine TL_q (op_fld rfl fld_32_0) rfl ?_ | (refine' TL_q (op_ld rfl pl_5 ?_ ?_) rfl ?_; rotate_left 4; (· repeat ((first | exact List.mem_cons_self | apply List.mem_cons_of_mem))); (· (assumption))) | (refine TL_stAll rfl rfl st_42 rfl rfl rfl ?_) | (refine TL_new (op_alloc (C := #[(.int .u8 0), (.slice none 0 0), (.slice none 0 0)]) zero_42 rfl) rfl ?_; intro bNew) | refine TL_q (op_build rfl (bl_42_0 _)) rfl ?_))
      revert bNew
      intro b11
      refine T_loopS (σ := Nat × Option Addr × Nat × Blocks) (fun y => y.1 ≤ tl.length ∧ ORow rsR 60 5 N y.2.1 y.2.2.1 ((tl.take y.1).map Vd.bare) y.2.2.2) (fun y => [(2, .pointer (some ⟨bQ, 0, none⟩)), (3, .pointer (some ⟨bM, 0, none⟩)), (4, .pointer (some ⟨bV, 0, none⟩)), (7, .slice aC chain.length cC), (8, .string (bs pos)), (9, .slice aE last.length cE), (11, .pointer (some ⟨b11, 0, none⟩)), (12, .int .u32 (Vd.leastT (tl.take y.1) 2147483647)), (13, .int .i64 (y.1 : Nat))])
        (fun y => (b11, Obj.cells #[.int .u8 m.code, .slice y.2.1 ((tl.take y.1).map Vd.bare).length y.2.2.1, .slice none 0 0] 42 (0, 0)) :: (y.2.2.2 ++ ((bV, Obj.cells #[.int .u8 0, .slice none 0 0, .slice none 0 0] 42 (0, 0)) :: ((bM, Obj.cells #[h0, h1, h2, h3, h4, h5, h6, h7, h8, h9, .int .u8 m.code, qs, .slice aA m.answers.length cA, .slice aB m.auth.length cB, x, k, e0, e1, e2, e3, e4] 32 (0, 0)) :: ((bQ, Obj.cells #[.string (bs q.name), .int .u16 q.kind, .int .u16 q.cls] 34 (0, 0)) :: (BE ++ (BC ++ (BG ++ (N ++ L))))))))) (fun y => tl.length - y.1) (0, none, 0, []) ⟨Nat.zero_le _, ORow.nil _⟩ ?_ (fun w h => h) ?_
      (repeat ((first | exact trivial | refine ⟨rfl, ?_⟩)))
      rintro ⟨i, a, c, B⟩ ⟨hi, hB⟩
      dsimp only at hi hB ⊢
      have hlti := hlt i hi
      by_cases hil : i < tl.length
      · obtain ⟨s, hs⟩ : ∃ s, tl[i]? = some s := ⟨_, List.getElem?_eq_getElem hil⟩
        have hmap : (tl.take (i + 1)).map Vd.bare = (tl.take i).map Vd.bare ++ [Vd.bare s] := by rw [List.take_add_one, hs]; simp
        have hlst : Vd.leastT (tl.take (i + 1)) 2147483647 = min (Vd.leastT (tl.take i) 2147483647) s.ttl := by rw [List.take_add_one, hs]; exact leastT_snoc _ _ _
        obtain ⟨sa, sc, hs2, hload⟩ : ∃ sa sc, rsR N [.string (bs s.name), .int .u16 s.kind, .int .u16 s.cls, .int .u32 s.ttl, .slice sa s.data.length sc] s ∧ ((i < chain.length ∧ ∃ bb cur, aC = some ⟨bb, 0, none⟩ ∧ (bb, Obj.cells cur 60 (0, 0)) ∈ (b11, Obj.cells #[.int .u8 m.code, .slice a ((tl.take i).map Vd.bare).length c, .slice none 0 0] 42 (0, 0)) :: (B ++ ((bV, Obj.cells #[.int .u8 0, .slice none 0 0, .slice none 0 0] 42 (0, 0)) :: ((bM, Obj.cells #[h0, h1, h2, h3, h4, h5, h6, h7, h8, h9, .int .u8 m.code, qs, .slice aA m.answers.length cA, .slice aB m.auth.length cB, x, k, e0, e1, e2, e3, e4] 32 (0, 0)) :: ((bQ, Obj.cells #[.string (bs q.name), .int .u16 q.kind, .int .u16 q.cls] 34 (0, 0)) :: (BE ++ (BC ++ (BG ++ (N ++ L)))))))) ∧ ∀ j v, ([.string (bs s.name), .int .u16 s.kind, .int .u16 s.cls, .int .u32 s.ttl, .slice sa s.data.length sc] : List Value)[j]? = some v → cur[0 + i * 5 + j]? = some v) ∨
            (¬ i < chain.length ∧ ∃ bb cur, aE = some ⟨bb, 0, none⟩ ∧ (bb, Obj.cells cur 60 (0, 0)) ∈ (b11, Obj.cells #[.int .u8 m.code, .slice a ((tl.take i).map Vd.bare).length c, .slice none 0 0] 42 (0, 0)) :: (B ++ ((bV, Obj.cells #[.int .u8 0, .slice none 0 0, .slice none 0 0] 42 (0, 0)) :: ((bM, Obj.cells #[h0, h1, h2, h3, h4, h5, h6, h7, h8, h9, .int .u8 m.code, qs, .slice aA m.answers.length cA, .slice aB m.auth.length cB, x, k, e0, e1, e2, e3, e4] 32 (0, 0)) :: ((bQ, Obj.cells #[.string (bs q.name), .int .u16 q.kind, .int .u16 q.cls] 34 (0, 0)) :: (BE ++ (BC ++ (BG ++ (N ++ L)))))))) ∧ ∀ j v, ([.string (bs s.name), .int .u16 s.kind, .int .u16 s.cls, .int .u32 s.ttl, .slice sa s.data.length sc] : List Value)[j]? = some v → cur[0 + ((i : Int) - (chain.length : Nat)).toNat * 5 + j]? = some v)) := by
          by_cases hic : i < chain.length
          · obtain ⟨bb, cur, q1, q2, _, _, _, q3⟩ := hC.block (fun e => by rw [e] at hic; simp at hic)
            obtain ⟨cs, _, r2, _, r3⟩ := q3 i s (by rw [← htl, List.getElem?_append_left hic] at hs; exact hs)
            obtain ⟨sa, sc, rfl, _⟩ := r2.vals
            exact ⟨sa, sc, r2, Or.inl ⟨hic, bb, cur, q1, by rw [q2]; simp, by simpa only [Nat.zero_add] using r3⟩⟩
          · obtain ⟨bb, cur, q1, q2, _, _, _, q3⟩ := hE.block (fun e => by rw [e] at htll; simp at htll; omega)
            obtain ⟨cs, _, r2, _, r3⟩ := q3 (i - chain.length) s (by rw [← htl, List.getElem?_append_right (by omega)] at hs; exact hs)
            obtain ⟨sa, sc, rfl, _⟩ := r2.vals
            refine ⟨sa, sc, r2, Or.inr ⟨hic, bb, cur, q1, by rw [q2]; simp, ?_⟩⟩
            rw [show ((i : Int) - (chain.length : Nat)).toNat = i - chain.length by omega]
            simpa only [Nat.zero_add] using r3
        have hsT : 0 ≤ s.ttl ∧ s.ttl ≤ 4294967295 := by obtain ⟨_, _, _, _, _, _, _, h⟩ := hs2.vals; exact h
        have hBn : rsR N [.string (bs s.name), .int .u16 s.kind, .int .u16 s.cls, .int .u32 0, .slice sa s.data.length sc] (Vd.bare s) := rs_bare hs2
        rcases hload with ⟨hic, bb, cur, rfl, hmem, hcur⟩ | ⟨hic, bb, cur, rfl, hmem, hcur⟩
        · repeat ((first | with_reducible refine T_seq ?_ | with_reducible refine T_block ?_ | with_reducible refine T_region ?_ | with_reducible refine TL_nil ?_ | with_reducible refine TQ_then ?_ | with_reducible refine T_skip ?_ | refine TL_q (op_move rfl) rfl ?_ | (refine' TL_q (op_bin rfl rfl ?_) rfl ?_; rotate_left 1; (· (first | exact bin_add ⟨by omega, by omega⟩ | exact bin_lss))) | refine TL_q (op_len_slice rfl Try.underlying40) rfl ?_ | (refine' TL_q (op_idx ety_40 rfl rfl ?_) rfl ?_; (· omega)) | (refine TL_stAll rfl rfl st_60 rfl rfl rfl ?_) | (refine TL_new (op_alloc (C := #[(.string (bs [])), (.int .u16 0), (.int .u16 0), (.int .u32 0), (.slice none 0 0)]) zero_60 rfl) rfl ?_; intro bNew) | refine TL_q (op_build rfl (bl_60_ )) rfl ?_ | (refine T_yes rfl ?_ ?_; (· (exact dT (by (omega)))))))
          refine TL_q (op_ldA [.string (bs s.name), .int .u16 s.kind, .int .u16 s.cls, .int .u32 s.ttl, .slice sa s.data.length sc] rfl st_60 (List.mem_cons_of_mem _ hmem) hcur) rfl ?_
          repeat ((first | with_reducible refine T_seq ?_ | with_reducible refine T_region ?_ | with_reducible refine TL_nil ?_ | with_reducible refine TQ_then ?_ | refine TL_q (op_move rfl) rfl ?_ | refine TL_q (op_assign rfl) rfl ?_ | refine TL_q (op_min rfl rfl) rfl ?_ | refine TL_q (op_fld rfl fld_60_3) rfl ?_ | (refine' TL_q (op_ld rfl pl_5 ?_ ?_) rfl ?_; rotate_left 4; (· repeat ((exact List.mem_cons_self))); (· (rfl))) | (refine TL_stAll rfl rfl st_60 rfl rfl rfl ?_)))
          refine TL_st (C' := #[.string (bs s.name), .int .u16 s.kind, .int .u16 s.cls, .int .u32 0, .slice sa s.data.length sc]) rfl rfl one_36 rfl rfl rfl ?_
          repeat ((first | with_reducible refine T_region ?_ | with_reducible refine TL_nil ?_ | with_reducible refine TQ_then ?_ | refine TL_q (op_fld rfl fld_42_1) rfl ?_ | (refine' TL_q (op_ld rfl pl_5 ?_ ?_) rfl ?_; rotate_left 4; (· repeat ((first | exact List.mem_cons_self | apply List.mem_cons_of_mem))); (· (rfl))) | (refine' TL_q (op_ldAll rfl st_60 ?_ ?_) rfl ?_; rotate_left 3; (· repeat ((exact List.mem_cons_self))); (· (rfl))) | (refine TL_new (op_litN ety_40 rfl rfl (by decide)) rfl ?_; intro bLit)))
          refine TL_cnt (L' := (bLit, Obj.cells #[.string (bs s.name), .int .u16 s.kind, .int .u16 s.cls, .int .u32 0, .slice sa s.data.length sc] 60 (0, 0)) :: (B ++ ((bNew, Obj.cells #[.string (bs s.name), .int .u16 s.kind, .int .u16 s.cls, .int .u32 0, .slice sa s.data.length sc] 60 (0, 0)) :: ((b11, Obj.cells #[.int .u8 m.code, .slice a ((tl.take i).map Vd.bare).length c, .slice none 0 0] 42 (0, 0)) :: ((bV, Obj.cells #[.int .u8 0, .slice none 0 0, .slice none 0 0] 42 (0, 0)) :: ((bM, Obj.cells #[h0, h1, h2, h3, h4, h5, h6, h7, h8, h9, .int .u8 m.code, qs, .slice aA m.answers.length cA, .slice aB m.auth.length cB, x, k, e0, e1, e2, e3, e4] 32 (0, 0)) :: ((bQ, Obj.cells #[.string (bs q.name), .int .u16 q.kind, .int .u16 q.cls] 34 (0, 0)) :: (BE ++ (BC ++ (BG ++ (N ++ L))))))))))) ?_ (by intro p; (try simp only [cnt_append, cnt_cons, cnt_nil]) <;> omega)
          refine TL_opT (op_pushR (L0 := N) (y := Vd.bare s) ety_40 rfl rfl hB hBn (by rw [List.length_map, List.length_take]; omega) (by decide)) rfl ?_
          rintro _ _ ⟨a', c', B', rfl, hB', rfl⟩
          refine TL_cnt (L' := (b11, Obj.cells #[.int .u8 m.code, .slice a ((tl.take i).map Vd.bare).length c, .slice none 0 0] 42 (0, 0)) :: (B' ++ ((bV, Obj.cells #[.int .u8 0, .slice none 0 0, .slice none 0 0] 42 (0, 0)) :: ((bM, Obj.cells #[h0, h1, h2, h3, h4, h5, h6, h7, h8, h9, .int .u8 m.code, qs, .slice aA m.answers.length cA, .slice aB m.auth.length cB, x, k, e0, e1, e2, e3, e4] 32 (0, 0)) :: ((bQ, Obj.cells #[.string (bs q.name), .int .u16 q.kind, .int .u16 q.cls] 34 (0, 0)) :: (BE ++ (BC ++ (BG ++ (N ++ L))))))))) ?_ (by intro p; (try simp only [cnt_append, cnt_cons, cnt_nil]) <;> omega)
          repeat ((refine TL_q (op_fld rfl fld_42_1) rfl ?_))
          refine TL_st (C' := #[.int .u8 m.code, .slice a' ((tl.take i).map Vd.bare ++ [Vd.bare s]).length c', .slice none 0 0]) rfl rfl one_40 rfl rfl rfl ?_
          repeat ((first | with_reducible refine T_region ?_ | with_reducible refine TL_nil ?_ | with_reducible refine TQ_then ?_ | with_reducible refine TQ_block ?_ | refine TL_q (op_move rfl) rfl ?_ | refine TL_q (op_assign rfl) rfl ?_ | (refine' TL_q (op_bin rfl rfl ?_) rfl ?_; rotate_left 1; (· (exact bin_add ⟨by omega, by omega⟩)))))
          refine TQ_roundS (i + 1, a', c', B') ⟨hil, by dsimp only; rw [hmap]; exact hB'⟩ ?_ (fun w h => by dsimp only; rw [hmap]; exact h) (by dsimp only; omega)
          dsimp only
          rw [hlst]
          (repeat ((first | exact trivial | refine ⟨rfl, ?_⟩)))
        · repeat ((first | with_reducible refine T_seq ?_ | with_reducible refine T_block ?_ | with_reducible refine T_region ?_ | with_reducible refine TL_nil ?_ | with_reducible refine TQ_then ?_ | with_reducible refine T_skip ?_ | refine TL_q (op_move rfl) rfl ?_ | (refine' TL_q (op_bin rfl rfl ?_) rfl ?_; rotate_left 1; (· (first | exact bin_add ⟨by omega, by omega⟩ | exact bin_sub ⟨by omega, by omega⟩ | exact bin_lss))) | refine TL_q (op_len_slice rfl Try.underlying40) rfl ?_ | (refine' TL_q (op_idxI ety_40 rfl rfl ?_ ?_) rfl ?_; (· omega); (· omega)) | (refine TL_stAll rfl rfl st_60 rfl rfl rfl ?_) | (refine TL_new (op_alloc (C := #[(.string (bs [])), (.int .u16 0), (.int .u16 0), (.int .u32 0), (.slice none 0 0)]) zero_60 rfl) rfl ?_; intro bNew) | refine TL_q (op_build rfl (bl_60_ )) rfl ?_ | (refine T_yes rfl ?_ ?_; (· (exact dT (by (omega))))) | (refine T_no rfl ?_ ?_; (· (exact dF (by (omega)))))))
          refine TL_q (op_ldA [.string (bs s.name), .int .u16 s.kind, .int .u16 s.cls, .int .u32 s.ttl, .slice sa s.data.length sc] rfl st_60 (List.mem_cons_of_mem _ hmem) hcur) rfl ?_
          repeat ((first | with_reducible refine T_seq ?_ | with_reducible refine T_region ?_ | with_reducible refine TL_nil ?_ | with_reducible refine TQ_then ?_ | refine TL_q (op_move rfl) rfl ?_ | refine TL_q (op_assign rfl) rfl ?_ | refine TL_q (op_min rfl rfl) rfl ?_ | refine TL_q (op_fld rfl fld_60_3) rfl ?_ | (refine' TL_q (op_ld rfl pl_5 ?_ ?_) rfl ?_; rotate_left 4; (· repeat ((exact List.mem_cons_self))); (· (rfl))) | (refine TL_stAll rfl rfl st_60 rfl rfl rfl ?_)))
          refine TL_st (C' := #[.string (bs s.name), .int .u16 s.kind, .int .u16 s.cls, .int .u32 0, .slice sa s.data.length sc]) rfl rfl one_36 rfl rfl rfl ?_
          repeat ((first | with_reducible refine T_region ?_ | with_reducible refine TL_nil ?_ | with_reducible refine TQ_then ?_ | refine TL_q (op_fld rfl fld_42_1) rfl ?_ | (refine' TL_q (op_ld rfl pl_5 ?_ ?_) rfl ?_; rotate_left 4; (· repeat ((first | exact List.mem_cons_self | apply List.mem_cons_of_mem))); (· (rfl))) | (refine' TL_q (op_ldAll rfl st_60 ?_ ?_) rfl ?_; rotate_left 3; (· repeat ((exact List.mem_cons_self))); (· (rfl))) | (refine TL_new (op_litN ety_40 rfl rfl (by decide)) rfl ?_; intro bLit)))
          refine TL_cnt (L' := (bLit, Obj.cells #[.string (bs s.name), .int .u16 s.kind, .int .u16 s.cls, .int .u32 0, .slice sa s.data.length sc] 60 (0, 0)) :: (B ++ ((bNew, Obj.cells #[.string (bs s.name), .int .u16 s.kind, .int .u16 s.cls, .int .u32 0, .slice sa s.data.length sc] 60 (0, 0)) :: ((b11, Obj.cells #[.int .u8 m.code, .slice a ((tl.take i).map Vd.bare).length c, .slice none 0 0] 42 (0, 0)) :: ((bV, Obj.cells #[.int .u8 0, .slice none 0 0, .slice none 0 0] 42 (0, 0)) :: ((bM, Obj.cells #[h0, h1, h2, h3, h4, h5, h6, h7, h8, h9, .int .u8 m.code, qs, .slice aA m.answers.length cA, .slice aB m.auth.length cB, x, k, e0, e1, e2, e3, e4] 32 (0, 0)) :: ((bQ, Obj.cells #[.string (bs q.name), .int .u16 q.kind, .int .u16 q.cls] 34 (0, 0)) :: (BE ++ (BC ++ (BG ++ (N ++ L))))))))))) ?_ (by intro p; (try simp only [cnt_append, cnt_cons, cnt_nil]) <;> omega)
          refine TL_opT (op_pushR (L0 := N) (y := Vd.bare s) ety_40 rfl rfl hB hBn (by rw [List.length_map, List.length_take]; omega) (by decide)) rfl ?_
          rintro _ _ ⟨a', c', B', rfl, hB', rfl⟩
          refine TL_cnt (L' := (b11, Obj.cells #[.int .u8 m.code, .slice a ((tl.take i).map Vd.bare).length c, .slice none 0 0] 42 (0, 0)) :: (B' ++ ((bV, Obj.cells #[.int .u8 0, .slice none 0 0, .slice none 0 0] 42 (0, 0)) :: ((bM, Obj.cells #[h0, h1, h2, h3, h4, h5, h6, h7, h8, h9, .int .u8 m.code, qs, .slice aA m.answers.length cA, .slice aB m.auth.length cB, x, k, e0, e1, e2, e3, e4] 32 (0, 0)) :: ((bQ, Obj.cells #[.string (bs q.name), .int .u16 q.kind, .int .u16 q.cls] 34 (0, 0)) :: (BE ++ (BC ++ (BG ++ (N ++ L))))))))) ?_ (by intro p; (try simp only [cnt_append, cnt_cons, cnt_nil]) <;> omega)
          repeat ((refine TL_q (op_fld rfl fld_42_1) rfl ?_))
          refine TL_st (C' := #[.int .u8 m.code, .slice a' ((tl.take i).map Vd.bare ++ [Vd.bare s]).length c', .slice none 0 0]) rfl rfl one_40 rfl rfl rfl ?_
          repeat ((first | with_reducible refine T_region ?_ | with_reducible refine TL_nil ?_ | with_reducible refine TQ_then ?_ | with_reducible refine TQ_block ?_ | refine TL_q (op_move rfl) rfl ?_ | refine TL_q (op_assign rfl) rfl ?_ | (refine' TL_q (op_bin rfl rfl ?_) rfl ?_; rotate_left 1; (· (exact bin_add ⟨by omega, by omega⟩)))))
          refine TQ_roundS (i + 1, a', c', B') ⟨hil, by dsimp only; rw [hmap]; exact hB'⟩ ?_ (fun w h => by dsimp only; rw [hmap]; exact h) (by dsimp only; omega)
          dsimp only
          rw [hlst]
          (repeat ((first | exact trivial | refine ⟨rfl, ?_⟩)))
      · have hie : i = tl.length := by omega
        subst hie
        rw [List.take_length] at hB hlti ⊢
        by_cases hle : last = []
        · rw [if_neg (by simpa using hle)]
          have hl0 : last.length = 0 := by rw [hle]; rfl
          obtain ⟨⟨s, is, er⟩, hS⟩ : ∃ x, Vd.findSoa (Vd.group m.auth) pos q.cls = x := ⟨_, rfl⟩
          rw [hS]
          dsimp only
          repeat ((first | with_reducible refine T_seq ?_ | with_reducible refine T_region ?_ | with_reducible refine TL_nil ?_ | with_reducible refine TQ_then ?_ | with_reducible refine T_skip ?_ | with_reducible refine T_exit ?_ | with_reducible refine TQ_then_exit ?_ | with_reducible refine TQ_block_exit ?_ | refine TL_q (op_move rfl) rfl ?_ | (refine' TL_q (op_bin rfl rfl ?_) rfl ?_; rotate_left 1; (· (first | exact bin_add ⟨by omega, by omega⟩ | exact bin_lss | exact bin_gtr))) | refine TL_q (op_len_slice rfl Try.underlying40) rfl ?_ | (refine T_no rfl ?_ ?_; (· (exact dF (by (omega)))))))
          refine T_midK (σ := Option Addr × Nat × Nat × Blocks) (fun y => rsR y.2.2.2 [.string (bs s.name), .int .u16 s.kind, .int .u16 s.cls, .int .u32 s.ttl, .slice y.1 s.data.length y.2.1] s ∧ Wr y.2.2.2) (fun y => [(4, .pointer (some ⟨bV, 0, none⟩)), (10, .int .i64 er), (11, .pointer (some ⟨b11, 0, none⟩)), (12, .int .u32 (Vd.leastT tl 2147483647)), (15, .pointer (some ⟨y.2.2.1, 0, none⟩)), (16, .bool is)]) (fun y => (y.2.2.1, Obj.cells #[.string (bs s.name), .int .u16 s.kind, .int .u16 s.cls, .int .u32 s.ttl, .slice y.1 s.data.length y.2.1] 60 (0, 0)) :: (y.2.2.2 ++ ((b11, Obj.cells #[.int .u8 m.code, .slice a (tl.map Vd.bare).length c, .slice none 0 0] 42 (0, 0)) :: (B ++ ((bV, Obj.cells #[.int .u8 0, .slice none 0 0, .slice none 0 0] 42 (0, 0)) :: ((bM, Obj.cells #[h0, h1, h2, h3, h4, h5, h6, h7, h8, h9, .int .u8 m.code, qs, .slice aA m.answers.length cA, .slice aB m.auth.length cB, x, k, e0, e1, e2, e3, e4] 32 (0, 0)) :: ((bQ, Obj.cells #[.string (bs q.name), .int .u16 q.kind, .int .u16 q.cls] 34 (0, 0)) :: (BE ++ (BC ++ (BG ++ (N ++ L))))))))))) ?_ ?_
          · have hKm2 : ∀ z ∈ [(bQ, Obj.cells #[.string (bs q.name), .int .u16 q.kind, .int .u16 q.cls] 34 (0, 0)), (bM, Obj.cells #[h0, h1, h2, h3, h4, h5, h6, h7, h8, h9, .int .u8 m.code, qs, .slice aA m.answers.length cA, .slice aB m.auth.length cB, x, k, e0, e1, e2, e3, e4] 32 (0, 0))], z ∈ ((b11, Obj.cells #[.int .u8 m.code, .slice a (tl.map Vd.bare).length c, .slice none 0 0] 42 (0, 0)) :: (B ++ ((bV, Obj.cells #[.int .u8 0, .slice none 0 0, .slice none 0 0] 42 (0, 0)) :: ((bM, Obj.cells #[h0, h1, h2, h3, h4, h5, h6, h7, h8, h9, .int .u8 m.code, qs, .slice aA m.answers.length cA, .slice aB m.auth.length cB, x, k, e0, e1, e2, e3, e4] 32 (0, 0)) :: ((bQ, Obj.cells #[.string (bs q.name), .int .u16 q.kind, .int .u16 q.cls] 34 (0, 0)) :: (BE ++ (BC ++ (BG ++ (N ++ L))))))))) := (mem_of_cnt (by intro p; (try simp only [cnt_append, cnt_cons, cnt_nil]) <;> omega))
            refine T_draw follows_mixed ([(bQ, Obj.cells #[.string (bs q.name), .int .u16 q.kind, .int .u16 q.cls] 34 (0, 0)), (bM, Obj.cells #[h0, h1, h2, h3, h4, h5, h6, h7, h8, h9, .int .u8 m.code, qs, .slice aA m.answers.length cA, .slice aB m.auth.length cB, x, k, e0, e1, e2, e3, e4] 32 (0, 0))]) [] ?_
            (refine' TA_take 0 rfl rfl (by kernel_rfl) (quiet_q (op_fld rfl fld_32_3)) ?_ ?_; (· (assumption)))
            (refine' TA_take 1 rfl rfl (by kernel_rfl) (quiet_q (op_ld rfl pl_27 ?_ ?_)) ?_ ?_; rotate_left 4; (· repeat ((first | exact List.mem_cons_self | apply List.mem_cons_of_mem))); (· (rfl)); (· (assumption)))
            (refine' TA_take 3 rfl rfl (by kernel_rfl) (quiet_q (op_move rfl)) ?_ ?_; (· (assumption)))
            (refine' TA_take 4 rfl rfl (by kernel_rfl) (quiet_q (op_fld rfl fld_34_2)) ?_ ?_; (· (assumption)))
            (refine' TA_take 5 rfl rfl (by kernel_rfl) (quiet_q (op_ld rfl pl_23 ?_ ?_)) ?_ ?_; rotate_left 4; (· repeat ((exact List.mem_cons_self))); (· (rfl)); (· (assumption)))
            refine TA_two 2 11 (by kernel_rfl) ?_ ?_
            · refine Up_ofD rfl rfl rfl rfl (op_call hb_83 rfl (Group_S _ m.auth (mono_slice mono_rec _ _ _ _ (mem_of_cnt (by intro p; (try simp only [cnt_append, cnt_cons, cnt_nil]) <;> omega)) hmb) hB1 (fun x hx => (hB2 x hx).1) (fun x hx => (hB2 x hx).2))) ?_
              rintro _ _ ⟨aG2, cG2, BG2, N2, rfl, hG2, hN2, rfl⟩; refine ⟨Or.inr (mem_of_cnt (by intro p; (try simp only [cnt_append, cnt_cons, cnt_nil]) <;> omega)), ?_⟩
              have hKm3 : ∀ z ∈ [(bQ, Obj.cells #[.string (bs q.name), .int .u16 q.kind, .int .u16 q.cls] 34 (0, 0)), (bM, Obj.cells #[h0, h1, h2, h3, h4, h5, h6, h7, h8, h9, .int .u8 m.code, qs, .slice aA m.answers.length cA, .slice aB m.auth.length cB, x, k, e0, e1, e2, e3, e4] 32 (0, 0))], z ∈ BG2 ++ (N2 ++ ((b11, Obj.cells #[.int .u8 m.code, .slice a (tl.map Vd.bare).length c, .slice none 0 0] 42 (0, 0)) :: (B ++ ((bV, Obj.cells #[.int .u8 0, .slice none 0 0, .slice none 0 0] 42 (0, 0)) :: ((bM, Obj.cells #[h0, h1, h2, h3, h4, h5, h6, h7, h8, h9, .int .u8 m.code, qs, .slice aA m.answers.length cA, .slice aB m.auth.length cB, x, k, e0, e1, e2, e3, e4] 32 (0, 0)) :: ((bQ, Obj.cells #[.string (bs q.name), .int .u16 q.kind, .int .u16 q.cls] 34 (0, 0)) :: (BE ++ (BC ++ (BG ++ (N ++ L)))))))))) := (mem_of_cnt (by intro p; (try simp only [cnt_append, cnt_cons, cnt_nil]) <;> omega))
              refine TA_two 6 11 (by kernel_rfl) ?_ ?_
              · refine Up_ofD rfl rfl rfl rfl (op_call hb_84 rfl (rFind10_S (K := BG2) (N := N2) _ (Vd.group m.auth) pos q.cls (mem_of_cnt (by intro p; (try simp only [cnt_append, cnt_cons, cnt_nil]) <;> omega)) ((hG2.imp (r' := fun _ => rsR N2) (L' := []) (fun cs x _ h => h)).sliceR mono_const (mem_of_cnt (by intro p; (try simp only [cnt_append, cnt_cons, cnt_nil]) <;> omega)) (mem_of_cnt (by intro p; (try simp only [cnt_append, cnt_cons, cnt_nil]) <;> omega))) (by omega) (fun s hs => Nat.le_trans (gb2 s hs).1 (by omega)))) ?_
                rintro _ _ ⟨cs, rfl, hs2, rfl⟩; rw [hS] at hs2 ⊢; obtain ⟨sa, sc, rfl, _⟩ := hs2.vals; refine ⟨Or.inr (mem_of_cnt (by intro p; (try simp only [cnt_append, cnt_cons, cnt_nil]) <;> omega)), ?_⟩
                (refine' TA_take 7 rfl rfl (by kernel_rfl) (quiet_q (op_move rfl)) ?_ ?_; (· (assumption)))
                (refine' TA_take 8 rfl rfl (by kernel_rfl) (quiet_q (op_extract rfl rfl)) ?_ ?_; (· (assumption)))
                (refine' TA_take 9 rfl rfl (by kernel_rfl) (quiet_q (op_extract rfl rfl)) ?_ ?_; (· (assumption)))
                (refine' TA_take 10 rfl rfl (by kernel_rfl) (quiet_q (op_extract rfl rfl)) ?_ ?_; (· (assumption)))
                refine TA_oneD 11 (by kernel_rfl) rfl rfl rfl rfl (op_alloc (C := #[.string (bs []), .int .u16 0, .int .u16 0, .int .u32 0, .slice none 0 0]) zero_60 rfl) ?_; rintro _ _ ⟨b15, rfl, rfl⟩; refine ⟨Or.inr (mem_of_cnt (by intro p; (try simp only [cnt_append, cnt_cons, cnt_nil]) <;> omega)), ?_⟩
                refine TA_cnt (L' := (b15, Obj.cells #[.string (bs []), .int .u16 0, .int .u16 0, .int .u32 0, .slice none 0 0] 60 (0, 0)) :: (BG2 ++ (N2 ++ ((b11, Obj.cells #[.int .u8 m.code, .slice a (tl.map Vd.bare).length c, .slice none 0 0] 42 (0, 0)) :: (B ++ ((bV, Obj.cells #[.int .u8 0, .slice none 0 0, .slice none 0 0] 42 (0, 0)) :: ((bM, Obj.cells #[h0, h1, h2, h3, h4, h5, h6, h7, h8, h9, .int .u8 m.code, qs, .slice aA m.answers.length cA, .slice aB m.auth.length cB, x, k, e0, e1, e2, e3, e4] 32 (0, 0)) :: ((bQ, Obj.cells #[.string (bs q.name), .int .u16 q.kind, .int .u16 q.cls] 34 (0, 0)) :: (BE ++ (BC ++ (BG ++ (N ++ L)))))))))))) ?_ (by intro p; (try simp only [cnt_append, cnt_cons, cnt_nil]) <;> omega); refine TA_oneN 12 (by kernel_rfl) rfl rfl rfl (op_stAll rfl rfl st_60 rfl rfl rfl) ?_; rintro _ _ ⟨_, rfl⟩; refine ⟨Or.inr (mem_of_cnt (by intro p; (try simp only [cnt_append, cnt_cons, cnt_nil]) <;> omega)), ?_⟩
                (refine' TA_take 13 rfl rfl (by kernel_rfl) (quiet_q (op_assign rfl)) ?_ ?_; (· (intro p hp; grind)))
                (refine' TA_take 14 rfl rfl (by kernel_rfl) (quiet_q (op_assign rfl)) ?_ ?_; (· (intro p hp; grind)))
                refine TA_done (by kernel_rfl) ?_
                skip
                refine TQ_mid (sa, sc, b15, N2) ⟨hs2, hN2⟩ ?_ (fun w h => h.cnt (by intro p; (try simp only [cnt_append, cnt_cons, cnt_nil]) <;> omega))
                (repeat ((first | exact trivial | refine ⟨rfl, ?_⟩)))
              · refine Up_ofD rfl rfl rfl rfl (op_alloc (C := #[.string (bs []), .int .u16 0, .int .u16 0, .int .u32 0, .slice none 0 0]) zero_60 rfl) ?_
                rintro _ _ ⟨b15, rfl, rfl⟩; refine ⟨Or.inr (mem_of_cnt (by intro p; (try simp only [cnt_append, cnt_cons, cnt_nil]) <;> omega)), ?_⟩
                refine TA_oneD 6 (by kernel_rfl) rfl rfl rfl rfl (op_call hb_84 rfl (rFind10_S (K := BG2) (N := N2) _ (Vd.group m.auth) pos q.cls (mem_of_cnt (by intro p; (try simp only [cnt_append, cnt_cons, cnt_nil]) <;> omega)) ((hG2.imp (r' := fun _ => rsR N2) (L' := []) (fun cs x _ h => h)).sliceR mono_const (mem_of_cnt (by intro p; (try simp only [cnt_append, cnt_cons, cnt_nil]) <;> omega)) (mem_of_cnt (by intro p; (try simp only [cnt_append, cnt_cons, cnt_nil]) <;> omega))) (by omega) (fun s hs => Nat.le_trans (gb2 s hs).1 (by omega)))) ?_; rintro _ _ ⟨cs, rfl, hs2, rfl⟩; rw [hS] at hs2 ⊢; obtain ⟨sa, sc, rfl, _⟩ := hs2.vals; refine ⟨Or.inr (mem_of_cnt (by intro p; (try simp only [cnt_append, cnt_cons, cnt_nil]) <;> omega)), ?_⟩
                (refine' TA_take 7 rfl rfl (by kernel_rfl) (quiet_q (op_move rfl)) ?_ ?_; (· (intro p hp; grind)))
                (refine' TA_take 8 rfl rfl (by kernel_rfl) (quiet_q (op_extract rfl rfl)) ?_ ?_; (· (intro p hp; grind)))
                (refine' TA_take 9 rfl rfl (by kernel_rfl) (quiet_q (op_extract rfl rfl)) ?_ ?_; (· (intro p hp; grind)))
                (refine' TA_take 10 rfl rfl (by kernel_rfl) (quiet_q (op_extract rfl rfl)) ?_ ?_; (· (intro p hp; grind)))
                refine TA_cnt (L' := (b15, Obj.cells #[.string (bs []), .int .u16 0, .int .u16 0, .int .u32 0, .slice none 0 0] 60 (0, 0)) :: (BG2 ++ (N2 ++ ((b11, Obj.cells #[.int .u8 m.code, .slice a (tl.map Vd.bare).length c, .slice none 0 0] 42 (0, 0)) :: (B ++ ((bV, Obj.cells #[.int .u8 0, .slice none 0 0, .slice none 0 0] 42 (0, 0)) :: ((bM, Obj.cells #[h0, h1, h2, h3, h4, h5, h6, h7, h8, h9, .int .u8 m.code, qs, .slice aA m.answers.length cA, .slice aB m.auth.length cB, x, k, e0, e1, e2, e3, e4] 32 (0, 0)) :: ((bQ, Obj.cells #[.string (bs q.name), .int .u16 q.kind, .int .u16 q.cls] 34 (0, 0)) :: (BE ++ (BC ++ (BG ++ (N ++ L)))))))))))) ?_ (by intro p; (try simp only [cnt_append, cnt_cons, cnt_nil]) <;> omega); refine TA_oneN 12 (by kernel_rfl) rfl rfl rfl (op_stAll rfl rfl st_60 rfl rfl rfl) ?_; rintro _ _ ⟨_, rfl⟩; refine ⟨Or.inr (mem_of_cnt (by intro p; (try simp only [cnt_append, cnt_cons, cnt_nil]) <;> omega)), ?_⟩
                (refine' TA_take 13 rfl rfl (by kernel_rfl) (quiet_q (op_assign rfl)) ?_ ?_; (· (intro p hp; grind)))
                (refine' TA_take 14 rfl rfl (by kernel_rfl) (quiet_q (op_assign rfl)) ?_ ?_; (· (intro p hp; grind)))
                refine TA_done (by kernel_rfl) ?_
                skip
                refine TQ_mid (sa, sc, b15, N2) ⟨hs2, hN2⟩ ?_ (fun w h => h.cnt (by intro p; (try simp only [cnt_append, cnt_cons, cnt_nil]) <;> omega))
                (repeat ((first | exact trivial | refine ⟨rfl, ?_⟩)))
            · refine Up_ofD rfl rfl rfl rfl (op_alloc (C := #[.string (bs []), .int .u16 0, .int .u16 0, .int .u32 0, .slice none 0 0]) zero_60 rfl) ?_
              rintro _ _ ⟨b15, rfl, rfl⟩; refine ⟨Or.inr (mem_of_cnt (by intro p; (try simp only [cnt_append, cnt_cons, cnt_nil]) <;> omega)), ?_⟩
              refine TA_oneD 2 (by kernel_rfl) rfl rfl rfl rfl (op_call hb_83 rfl (Group_S _ m.auth (mono_slice mono_rec _ _ _ _ (mem_of_cnt (by intro p; (try simp only [cnt_append, cnt_cons, cnt_nil]) <;> omega)) hmb) hB1 (fun x hx => (hB2 x hx).1) (fun x hx => (hB2 x hx).2))) ?_; rintro _ _ ⟨aG2, cG2, BG2, N2, rfl, hG2, hN2, rfl⟩; refine ⟨Or.inr (mem_of_cnt (by intro p; (try simp only [cnt_append, cnt_cons, cnt_nil]) <;> omega)), ?_⟩
              refine TA_oneD 6 (by kernel_rfl) rfl rfl rfl rfl (op_call hb_84 rfl (rFind10_S (K := BG2) (N := N2) _ (Vd.group m.auth) pos q.cls (mem_of_cnt (by intro p; (try simp only [cnt_append, cnt_cons, cnt_nil]) <;> omega)) ((hG2.imp (r' := fun _ => rsR N2) (L' := []) (fun cs x _ h => h)).sliceR mono_const (mem_of_cnt (by intro p; (try simp only [cnt_append, cnt_cons, cnt_nil]) <;> omega)) (mem_of_cnt (by intro p; (try simp only [cnt_append, cnt_cons, cnt_nil]) <;> omega))) (by omega) (fun s hs => Nat.le_trans (gb2 s hs).1 (by omega)))) ?_; rintro _ _ ⟨cs, rfl, hs2, rfl⟩; rw [hS] at hs2 ⊢; obtain ⟨sa, sc, rfl, _⟩ := hs2.vals; refine ⟨Or.inr (mem_of_cnt (by intro p; (try simp only [cnt_append, cnt_cons, cnt_nil]) <;> omega)), ?_⟩
              (refine' TA_take 7 rfl rfl (by kernel_rfl) (quiet_q (op_move rfl)) ?_ ?_; (· (intro p hp; grind)))
              (refine' TA_take 8 rfl rfl (by kernel_rfl) (quiet_q (op_extract rfl rfl)) ?_ ?_; (· (intro p hp; grind)))
              (refine' TA_take 9 rfl rfl (by kernel_rfl) (quiet_q (op_extract rfl rfl)) ?_ ?_; (· (intro p hp; grind)))
              (refine' TA_take 10 rfl rfl (by kernel_rfl) (quiet_q (op_extract rfl rfl)) ?_ ?_; (· (intro p hp; grind)))
              refine TA_cnt (L' := (b15, Obj.cells #[.string (bs []), .int .u16 0, .int .u16 0, .int .u32 0, .slice none 0 0] 60 (0, 0)) :: (BG2 ++ (N2 ++ ((b11, Obj.cells #[.int .u8 m.code, .slice a (tl.map Vd.bare).length c, .slice none 0 0] 42 (0, 0)) :: (B ++ ((bV, Obj.cells #[.int .u8 0, .slice none 0 0, .slice none 0 0] 42 (0, 0)) :: ((bM, Obj.cells #[h0, h1, h2, h3, h4, h5, h6, h7, h8, h9, .int .u8 m.code, qs, .slice aA m.answers.length cA, .slice aB m.auth.length cB, x, k, e0, e1, e2, e3, e4] 32 (0, 0)) :: ((bQ, Obj.cells #[.string (bs q.name), .int .u16 q.kind, .int .u16 q.cls] 34 (0, 0)) :: (BE ++ (BC ++ (BG ++ (N ++ L)))))))))))) ?_ (by intro p; (try simp only [cnt_append, cnt_cons, cnt_nil]) <;> omega); refine TA_oneN 12 (by kernel_rfl) rfl rfl rfl (op_stAll rfl rfl st_60 rfl rfl rfl) ?_; rintro _ _ ⟨_, rfl⟩; refine ⟨Or.inr (mem_of_cnt (by intro p; (try simp only [cnt_append, cnt_cons, cnt_nil]) <;> omega)), ?_⟩
              (refine' TA_take 13 rfl rfl (by kernel_rfl) (quiet_q (op_assign rfl)) ?_ ?_; (· (intro p hp; grind)))
              (refine' TA_take 14 rfl rfl (by kernel_rfl) (quiet_q (op_assign rfl)) ?_ ?_; (· (intro p hp; grind)))
              refine TA_done (by kernel_rfl) ?_
              skip
              refine TQ_mid (sa, sc, b15, N2) ⟨hs2, hN2⟩ ?_ (fun w h => h.cnt (by intro p; (try simp only [cnt_append, cnt_cons, cnt_nil]) <;> omega))
              (repeat ((first | exact trivial | refine ⟨rfl, ?_⟩)))
          · rintro ⟨sa, sc, b15, N2⟩ ⟨hs2, hN2⟩
            dsimp only at hs2 hN2 ⊢
            by_cases he2 : er = 0
            · rw [if_neg (by simpa using he2)]
              cases is with
              | false =>
                simp only [Bool.not_false, if_true]
                have hm11 : (b11, Obj.cells #[.int .u8 m.code, .slice a (tl.map Vd.bare).length c, .slice none 0 0] 42 (0, 0)) ∈ (b15, Obj.cells #[.string (bs s.name), .int .u16 s.kind, .int .u16 s.cls, .int .u32 s.ttl, .slice sa s.data.length sc] 60 (0, 0)) :: (N2 ++ ((b11, Obj.cells #[.int .u8 m.code, .slice a (tl.map Vd.bare).length c, .slice none 0 0] 42 (0, 0)) :: (B ++ ((bV, Obj.cells #[.int .u8 0, .slice none 0 0, .slice none 0 0] 42 (0, 0)) :: ((bM, Obj.cells #[h0, h1, h2, h3, h4, h5, h6, h7, h8, h9, .int .u8 m.code, qs, .slice aA m.answers.length cA, .slice aB m.auth.length cB, x, k, e0, e1, e2, e3, e4] 32 (0, 0)) :: ((bQ, Obj.cells #[.string (bs q.name), .int .u16 q.kind, .int .u16 q.cls] 34 (0, 0)) :: (BE ++ (BC ++ (BG ++ (N ++ L)))))))))) := by simp
                repeat ((first | with_reducible refine T_seq ?_ | with_reducible refine T_region ?_ | with_reducible refine TL_nil ?_ | with_reducible refine TQ_then ?_ | with_reducible refine T_skip ?_ | refine TL_q (op_move rfl) rfl ?_ | (refine' TL_q (op_bin rfl rfl ?_) rfl ?_; rotate_left 1; (· (exact bin_neq))) | refine TL_q (op_not rfl) rfl ?_ | (refine' TL_q (op_ldAll rfl st_34 ?_ ?_) rfl ?_; rotate_left 3; (· repeat ((assumption))); (· (rfl))) | (refine T_yes rfl ?_ ?_; (· (exact Bool.not_false))) | (refine T_no rfl ?_ ?_; (· (exact nF (by (assumption)))))))
                refine TL_cnt (L' := (bV, Obj.cells #[.int .u8 0, .slice none 0 0, .slice none 0 0] 42 (0, 0)) :: (B ++ (N ++ L))) ?_ (by intro p; (try simp only [cnt_append, cnt_cons, cnt_nil]) <;> omega)
                repeat ((first | with_reducible refine TL_nil ?_ | with_reducible refine TQ_then ?_ | with_reducible refine T_ret ?_ | with_reducible refine TQ_then_ret ?_ | refine TL_q (op_assign rfl) rfl ?_ | (refine TL_stAll rfl rfl st_42 rfl rfl rfl ?_)))
                refine TQ_retC3 4 42 5 6 rfl rfl rfl rfl st_42 (by repeat ((exact List.mem_cons_self))) rfl (fun w h => Heap.cnt (L' := [] ++ (B ++ (N ++ L))) h (by intro p; (try simp only [cnt_append, cnt_cons, cnt_nil]) <;> omega)) ?_
                exact ⟨a, c, B, none, 0, [], N, rfl, hB, ORow.nil _, hN, rfl⟩
              | true =>
                simp only [Bool.not_true, Bool.false_eq_true, if_false]
                have hsg : s ∈ Vd.group m.auth := by have := findSoa_in (l := Vd.group m.auth) (n := pos) (c := q.cls); rw [hS] at this; exact this rfl
                repeat ((first | with_reducible refine T_seq ?_ | with_reducible refine T_region ?_ | with_reducible refine TL_nil ?_ | with_reducible refine TQ_then ?_ | with_reducible refine T_skip ?_ | refine TL_q (op_move rfl) rfl ?_ | (refine' TL_q (op_bin rfl rfl ?_) rfl ?_; rotate_left 1; (· (exact bin_neq))) | refine TL_q (op_not rfl) rfl ?_ | (refine' TL_q (op_ldAll rfl st_60 ?_ ?_) rfl ?_; rotate_left 3; (· repeat ((exact List.mem_cons_self))); (· (rfl))) | (refine T_no rfl ?_ ?_; (· (first | exact Bool.not_true | exact nF (by (assumption)))))))
                refine TL_op (op_call hb_85 rfl (Time_S _ s (mono_set _ _ _ _ (mem_of_cnt (by intro p; (try simp only [cnt_append, cnt_cons, cnt_nil]) <;> omega)) hs2) (gb2 s hsg).2.2.2)) rfl ?_
                have htm := soaTime_bd s
                repeat ((first | with_reducible refine T_seq ?_ | with_reducible refine T_region ?_ | with_reducible refine TL_nil ?_ | with_reducible refine TQ_then ?_ | refine TL_q (op_assign rfl) rfl ?_ | refine TL_q (op_min rfl rfl) rfl ?_ | refine TL_q (op_fld rfl fld_60_3) rfl ?_))
                refine TL_st (C' := #[.string (bs s.name), .int .u16 s.kind, .int .u16 s.cls, .int .u32 0, .slice sa s.data.length sc]) rfl rfl one_36 rfl rfl rfl ?_
                repeat ((first | with_reducible refine T_seq ?_ | with_reducible refine T_region ?_ | with_reducible refine TL_nil ?_ | with_reducible refine TQ_then ?_ | refine TL_q (op_fld rfl fld_34_2) rfl ?_ | (refine' TL_q (op_ldAll rfl st_60 ?_ ?_) rfl ?_; rotate_left 3; (· repeat ((exact List.mem_cons_self))); (· (rfl))) | (refine TL_new (op_litN ety_40 rfl rfl (by decide)) rfl ?_; intro bLit)))
                refine TL_cnt (L' := (b11, Obj.cells #[.int .u8 m.code, .slice a (tl.map Vd.bare).length c, .slice none 0 0] 42 (0, 0)) :: ((bV, Obj.cells #[.int .u8 0, .slice none 0 0, .slice none 0 0] 42 (0, 0)) :: ((bLit, Obj.cells #[.string (bs s.name), .int .u16 s.kind, .int .u16 s.cls, .int .u32 0, .slice sa s.data.length sc] 60 (0, 0)) :: (B ++ (N2 ++ (N ++ L)))))) ?_ (by intro p; (try simp only [cnt_append, cnt_cons, cnt_nil]) <;> omega)
                refine TL_st (C' := #[.int .u8 m.code, .slice a (tl.map Vd.bare).length c, .slice (some ⟨bLit, 0, none⟩) 1 1]) rfl rfl one_40 rfl rfl rfl ?_
                repeat ((first | with_reducible refine T_seq ?_ | with_reducible refine T_region ?_ | with_reducible refine TL_nil ?_ | with_reducible refine TQ_then ?_ | refine TL_q (op_move rfl) rfl ?_ | (refine' TL_q (op_ldAll rfl st_34 ?_ ?_) rfl ?_; rotate_left 3; (· repeat ((exact List.mem_cons_self))); (· (rfl)))))
                refine TL_cnt (L' := (bV, Obj.cells #[.int .u8 0, .slice none 0 0, .slice none 0 0] 42 (0, 0)) :: ((bLit, Obj.cells #[.string (bs s.name), .int .u16 s.kind, .int .u16 s.cls, .int .u32 0, .slice sa s.data.length sc] 60 (0, 0)) :: (B ++ ((N2 ++ N) ++ L)))) ?_ (by intro p; (try simp only [cnt_append, cnt_cons, cnt_nil]) <;> omega)
                repeat ((first | with_reducible refine TL_nil ?_ | with_reducible refine TQ_then ?_ | with_reducible refine T_ret ?_ | refine TL_q (op_assign rfl) rfl ?_ | (refine TL_stAll rfl rfl st_42 rfl rfl rfl ?_)))
                refine TQ_retC3 4 42 5 6 rfl rfl rfl rfl st_42 (by repeat ((exact List.mem_cons_self))) rfl (fun w h => Heap.cnt (L' := [(bLit, Obj.cells #[.string (bs s.name), .int .u16 s.kind, .int .u16 s.cls, .int .u32 0, .slice sa s.data.length sc] 60 (0, 0))] ++ (B ++ ((N2 ++ N) ++ L))) h (by intro p; (try simp only [cnt_append, cnt_cons, cnt_nil]) <;> omega)) ?_
                exact ⟨a, c, B, _, _, _, N2 ++ N, rfl, hB.mono mono_set (mem_of_cnt (by intro p; (try simp only [cnt_append, cnt_cons, cnt_nil]) <;> omega)), rs_lit (mono_set _ _ _ _ (mem_of_cnt (by intro p; (try simp only [cnt_append, cnt_cons, cnt_nil]) <;> omega)) (rs_bare hs2)), hN2.append hN, rfl⟩
            · rw [if_pos (by simpa using he2)]
              repeat ((first | with_reducible refine T_seq ?_ | with_reducible refine T_region ?_ | with_reducible refine TL_nil ?_ | with_reducible refine TQ_then ?_ | refine TL_q (op_move rfl) rfl ?_ | (refine' TL_q (op_bin rfl rfl ?_) rfl ?_; rotate_left 1; (· (exact bin_neq))) | refine TL_q (op_build rfl (bl_42_ )) rfl ?_ | (refine T_yes rfl ?_ ?_; (· (exact nT (by (assumption)))))))
              refine TL_cnt (L' := (bV, Obj.cells #[.int .u8 0, .slice none 0 0, .slice none 0 0] 42 (0, 0)) :: L) ?_ (by intro p; (try simp only [cnt_append, cnt_cons, cnt_nil]) <;> omega)
              repeat ((first | with_reducible refine TL_nil ?_ | with_reducible refine TQ_then ?_ | with_reducible refine T_ret ?_ | with_reducible refine TQ_then_ret ?_ | refine TL_q (op_assign rfl) rfl ?_ | (refine TL_stAll rfl rfl st_42 rfl rfl rfl ?_)))
              refine TQ_retC3 4 42 5 6 rfl rfl rfl rfl st_42 (by repeat ((exact List.mem_cons_self))) rfl (fun w h => Heap.cnt (L' := L) h (by intro p; (try simp only [cnt_append, cnt_cons, cnt_nil]) <;> omega)) ?_
              exact OfOut.bad _
        · rw [if_pos (by simpa using hle)]
          have hlp : 0 < last.length := List.length_pos_iff.2 hle
          repeat ((first | with_reducible refine T_seq ?_ | with_reducible refine T_region ?_ | with_reducible refine TL_nil ?_ | with_reducible refine TQ_then ?_ | with_reducible refine T_exit ?_ | with_reducible refine TQ_then_exit ?_ | with_reducible refine TQ_block_exit ?_ | refine TL_q (op_move rfl) rfl ?_ | (refine' TL_q (op_bin rfl rfl ?_) rfl ?_; rotate_left 1; (· (first | exact bin_add ⟨by omega, by omega⟩ | exact bin_lss | exact bin_gtr))) | refine TL_q (op_len_slice rfl Try.underlying40) rfl ?_ | (refine' TL_q (op_ldAll rfl st_34 ?_ ?_) rfl ?_; rotate_left 3; (· repeat ((exact List.mem_cons_self))); (· (rfl))) | (refine T_yes rfl ?_ ?_; (· (exact dT (by (omega))))) | (refine T_no rfl ?_ ?_; (· (exact dF (by (omega)))))))
          refine TL_cnt (L' := (bV, Obj.cells #[.int .u8 0, .slice none 0 0, .slice none 0 0] 42 (0, 0)) :: (B ++ (N ++ L))) ?_ (by intro p; (try simp only [cnt_append, cnt_cons, cnt_nil]) <;> omega)
          repeat ((first | with_reducible refine TL_nil ?_ | with_reducible refine TQ_then ?_ | with_reducible refine T_ret ?_ | with_reducible refine TQ_then_ret ?_ | refine TL_q (op_assign rfl) rfl ?_ | (refine TL_stAll rfl rfl st_42 rfl rfl rfl ?_)))
          refine TQ_retC3 4 42 5 6 rfl rfl rfl rfl st_42 (by repeat ((exact List.mem_cons_self))) rfl (fun w h => Heap.cnt (L' := [] ++ (B ++ (N ++ L))) h (by intro p; (try simp only [cnt_append, cnt_cons, cnt_nil]) <;> omega)) ?_
          exact ⟨a, c, B, none, 0, [], N, rfl, hB, ORow.nil _, hN, rfl⟩
    · rw [if_pos (by simpa using he)]
      repeat ((first | with_reducible refine T_seq ?_ | with_reducible refine T_region ?_ | with_reducible refine TL_nil ?_ | with_reducible refine TQ_then ?_ | with_reducible refine T_ret ?_ | with_reducible refine TQ_then_ret ?_ | refine TL_q (op_move rfl) rfl ?_ | refine TL_q (op_assign rfl) rfl ?_ | (refine' TL_q (op_bin rfl rfl ?_) rfl ?_; rotate_left 1; (· (exact bin_neq))) | (refine TL_stAll rfl rfl st_42 rfl rfl rfl ?_) | refine TL_q (op_build rfl (bl_42_ )) rfl ?_ | (refine T_yes rfl ?_ ?_; (· (exact nT (by (assumption)))))))
      refine TQ_retC3 4 42 5 6 rfl rfl rfl rfl st_42 (by repeat ((exact List.mem_cons_self))) rfl (fun w h => Heap.cnt (L' := L) h (by intro p; (try simp only [cnt_append, cnt_cons, cnt_nil]) <;> omega)) ?_
      exact OfOut.bad _
  · rw [hOf, hmay, if_pos (by simp only [not_or] at hc3; simp [hc3.1, hc3.2])]
    simp only [not_or] at hc3
    obtain ⟨hc31, hc32⟩ := hc3
    repeat ((first | with_reducible refine T_seq ?_ | with_reducible refine T_region ?_ | with_reducible refine TL_nil ?_ | with_reducible refine TQ_then ?_ | with_reducible refine T_ret ?_ | with_reducible refine TQ_then_ret ?_ | refine TL_q (op_move rfl) rfl ?_ | refine TL_q (op_assign rfl) rfl ?_ | refine TL_q (op_not rfl) rfl ?_ | (refine' TL_q (op_pickF rfl ?_ rfl) rfl ?_; (· (exact xF (by (assumption))))) | refine TL_q (op_fld rfl fld_32_0) rfl ?_ | (refine' TL_q (op_ld rfl pl_5 ?_ ?_) rfl ?_; rotate_left 4; (· repeat ((first | exact List.mem_cons_self | apply List.mem_cons_of_mem))); (· (rfl))) | (refine' TL_op (op_call hb_58 rfl (refMay_S _ ?_)) rfl ?_; (· (omega))) | (refine TL_gpre rfl rfl ?_ ?_; (· (first | exact nT (by (assumption)) | exact xF (by (assumption))))) | refine TL_gq2 (op_move rfl) rfl ?_ | (refine' TL_gq2 (op_bin rfl rfl ?_) rfl ?_; rotate_left 1; (· (exact bin_neq))) | (refine' TL_gq2 (op_pickT rfl ?_ rfl) rfl ?_; (· (exact nT (by (assumption))))) | refine TL_gq2 (op_fld rfl fld_25_10) rfl ?_ | refine TL_gq2 (op_fld rfl fld_32_0) rfl ?_ | (refine' TL_gq2 (op_ld rfl pl_5 ?_ ?_) rfl ?_; rotate_left 4; (· repeat ((first | exact List.mem_cons_self | apply List.mem_cons_of_mem))); (· (assumption))) | (refine TL_stAll rfl rfl st_42 rfl rfl rfl ?_) | refine TL_q (op_build rfl (bl_42_ )) rfl ?_ | (refine T_yes rfl ?_ ?_; (· (exact nT (by (assumption)))))))
    refine TQ_retC3 4 42 5 6 rfl rfl rfl rfl st_42 (by repeat ((exact List.mem_cons_self))) rfl (fun w h => Heap.cnt (L' := L) h (by intro p; (try simp only [cnt_append, cnt_cons, cnt_nil]) <;> omega)) ?_
    exact OfOut.bad _
end Go.Proofs.Ytdflhdfapnhjjaa
namespace Go.Proofs.Ytdflhdfapnhjjaa
open Go.RowKit
open Vd (RSet Vdt Vote Rec Quest Piece)
set_option linter.unusedVariables false
set_option linter.unusedSimpArgs false
--auto
section
variable {G : World} {P : Program} {n : Nat} {ρ : Slots} {L : Blocks} {Q : Exit → Act → World → Prop}
theorem T_nodup {c : Code} (h : (L.map (·.1)).Nodup → T P G n ρ L c Q) : T P G n ρ L c Q := ⟨fun a w he hw => (h hw.nodup).out a w he hw⟩
end
theorem nodup_mid {p q : Nat × Obj} {A D L : Blocks} (h : ((p :: (q :: (A ++ (D ++ L)))).map (·.1)).Nodup) : (D.map (·.1)).Nodup := by
  refine h.sublist (List.Sublist.map _ ?_)
  exact List.Sublist.cons _ (List.Sublist.cons _ (List.Sublist.trans (List.sublist_append_left D L) (List.sublist_append_right A (D ++ L))))
/-- Blocks of data: which are there, how great they are. -/
def DataIs (dk : List (Nat × Nat)) (D : Blocks) : Prop := ∀ k ∈ dk, ∃ C te, (k.1, Obj.cells C te (0, 0)) ∈ D ∧ k.2 ≤ C.size
def DS (dk : List (Nat × Nat)) (a : Option Addr) (m : Nat) : Prop := m = 0 ∨ ∃ b off s, a = some ⟨b, off, none⟩ ∧ (b, s) ∈ dk ∧ off + m ≤ s ∧ m ≤ 9223372036854775807
theorem DS.ex {dk : List (Nat × Nat)} {a : Option Addr} {m : Nat} (h : DS dk a m) (hm : 0 < m) : ∃ b off s, a = some ⟨b, off, none⟩ ∧ (b, s) ∈ dk ∧ off + m ≤ s ∧ m ≤ 9223372036854775807 := by
  rcases h with h | h
  · omega
  · exact h
def RowS (dk : List (Nat × Nat)) (B : Blocks) (a : Option Addr) (n : Nat) : Prop := (n = 0 ∧ B = []) ∨ ∃ b cur, a = some ⟨b, 0, none⟩ ∧ B = [(b, Obj.cells cur 60 (0, 0))] ∧ n * 5 ≤ cur.size ∧ ∀ i, i < n → ∃ da m c, cur[i * 5 + 4]? = some (.slice da m c) ∧ DS dk da m
theorem RowS.ex {dk : List (Nat × Nat)} {B : Blocks} {a : Option Addr} {n i : Nat} (h : RowS dk B a n) (hi : i < n) : ∃ b cur, a = some ⟨b, 0, none⟩ ∧ B = [(b, Obj.cells cur 60 (0, 0))] ∧ n * 5 ≤ cur.size ∧ ∀ i, i < n → ∃ da m c, cur[i * 5 + 4]? = some (.slice da m c) ∧ DS dk da m := by
  rcases h with h | h
  · omega
  · exact h
theorem DataIs.write {dk : List (Nat × Nat)} {D : Blocks} {iD b o : Nat} {C : Array Value} {te : TypeId} {v : Value} (h : DataIs dk D) (hi : D[iD]? = some (b, Obj.cells C te (0, 0))) (hn : (D.map (·.1)).Nodup) : DataIs dk ((b, Obj.cells (C.setIfInBounds o v) te (0, 0)) :: D.eraseIdx iD) := by
  intro k hk
  obtain ⟨C0, t0, h1, h2⟩ := h k hk
  by_cases hb : k.1 = b
  · have := keys_inj hn h1 (List.mem_of_getElem? hi) hb
    simp only [Prod.mk.injEq, Obj.cells.injEq, and_true] at this
    obtain ⟨rfl, rfl, rfl⟩ := this
    exact ⟨_, _, List.mem_cons_self .., by rw [Array.size_setIfInBounds]; exact h2⟩
  · refine ⟨C0, t0, List.mem_cons_of_mem _ ?_, h2⟩
    have hp := (perm_pick iD _ hi).mem_iff.1 h1
    rcases List.mem_cons.1 hp with e | hp
    · exact absurd (congrArg Prod.fst e) hb
    · exact hp
def spoiltC : List Value := [.string (bs [115, 112, 111, 105, 108, 116]), .int .u16 0, .int .u16 0, .int .u32 0, .slice none 0 0]
theorem spoilt_one : ∀ v ∈ ([.string (bs [115, 112, 111, 105, 108, 116]), .int .u16 0, .int .u16 0, .int .u32 0, .slice none 0 0] : List Value), v.oneCell' = true := by
  intro v hv
  simp only [List.mem_cons, List.not_mem_nil, or_false] at hv
  rcases hv with rfl | rfl | rfl | rfl | rfl <;> rfl
theorem RowS.put {dk : List (Nat × Nat)} {b : Nat} {cur : Array Value} {n i : Nat} (h : RowS dk [(b, Obj.cells cur 60 (0, 0))] (some ⟨b, 0, none⟩) n) (hi : i < n) :
    RowS dk [(b, Obj.cells (putAt cur (0 + i * 5) [.string (bs [115, 112, 111, 105, 108, 116]), .int .u16 0, .int .u16 0, .int .u32 0, .slice none 0 0]) 60 (0, 0))] (some ⟨b, 0, none⟩) n := by
  obtain ⟨b0, cur0, e1, e2, h3, h4⟩ := h.ex hi
  simp only [List.cons.injEq, Prod.mk.injEq, Obj.cells.injEq, and_true] at e2
  obtain ⟨rfl, rfl⟩ := e2
  have hle : (i + 1) * 5 ≤ n * 5 := Nat.mul_le_mul_right _ hi
  refine Or.inr ⟨_, _, rfl, rfl, ?_, fun j hj => ?_⟩
  · unfold putAt; simp; omega
  · rw [Nat.zero_add]
    by_cases hji : j = i
    · subst hji
      refine ⟨none, 0, 0, ?_, Or.inl rfl⟩
      unfold putAt
      simp only [List.getElem?_toArray]
      rw [List.append_assoc, List.getElem?_append_right (by simp; omega), List.getElem?_append_left (by simp; omega)]
      have : min (j * 5) cur.size = j * 5 := by omega
      simp [this]
    · obtain ⟨da, m, c, k1, k2⟩ := h4 j hj
      refine ⟨da, m, c, ?_, k2⟩
      rw [← k1]
      unfold putAt
      simp only [List.getElem?_toArray]
      have hmin : min (i * 5) cur.size = i * 5 := by omega
      by_cases hlt : j < i
      · have : (j + 1) * 5 ≤ i * 5 := Nat.mul_le_mul_right _ hlt
        rw [List.append_assoc, List.getElem?_append_left (by simp; omega), List.getElem?_take_of_lt (by omega)]
        simp
      · have : (i + 1) * 5 ≤ j * 5 := Nat.mul_le_mul_right _ (by omega)
        rw [List.getElem?_append_right (by simp; omega), List.getElem?_drop]
        simp only [List.length_append, List.length_take, Array.length_toList, List.length_cons, List.length_nil, hmin]
        rw [show i * 5 + (0 + 1 + 1 + 1 + 1 + 1) + (j * 5 + 4 - (i * 5 + (0 + 1 + 1 + 1 + 1 + 1))) = j * 5 + 4 by omega]
        simp
variable {G : World} {L : Blocks}
set_option maxRecDepth 100000 in
set_option maxHeartbeats 4000000 in
theorem spoil21_S (x : Value) (a1 a2 : Option Addr) (n1 n2 c1 c2 : Nat) (dk : List (Nat × Nat)) (B1 B2 D : Blocks) (h1 : RowS dk B1 a1 n1) (h2 : RowS dk B2 a2 n2) (hD : DataIs dk D) (hn1 : n1 ≤ 1000000) (hn2 : n2 ≤ 1000000) :
    Spec Try.prog G 49 #[.agg #[x, .slice a1 n1 c1, .slice a2 n2 c2]] (B1 ++ (B2 ++ (D ++ L))) fun u M => ∃ X, M = X ++ L := by
  refine Spec_of (n := 56) Try.func49 rfl rfl rfl ?_
  repeat ((first | with_reducible refine T_seq ?_ | with_reducible refine T_region ?_ | with_reducible refine TL_nil ?_ | with_reducible refine TQ_then ?_ | refine TL_q (op_fld rfl fld_42_1) rfl ?_ | refine TL_q (op_fld rfl fld_42_2) rfl ?_ | (refine' TL_q (op_ld rfl pl_40 ?_ ?_) rfl ?_; rotate_left 4; (· repeat ((exact List.mem_cons_self))); (· (rfl))) | (refine TL_new (op_boxA rfl) rfl ?_; intro bBox)))
  refine TL_new (op_buildSlice (C := #[.slice a1 n1 c1, .slice a2 n2 c2]) (ps := [(0, .tmp 7), (1, .tmp 9)]) (vs := [(0, .slice a1 n1 c1), (1, .slice a2 n2 c2)]) rfl (rowLitG ety_130 [.slice a1 n1 c1, .slice a2 n2 c2] rfl (by intro v hv; simp only [List.mem_cons, List.not_mem_nil, or_false] at hv; rcases hv with rfl | rfl <;> rfl) (by decide) rfl)) rfl ?_
  intro bL
  obtain ⟨CL, hCL⟩ : ∃ c : Array Value, c = #[.slice a1 n1 c1, .slice a2 n2 c2] := ⟨_, rfl⟩
  rw [← hCL]
  repeat ((first | with_reducible refine T_seq ?_ | with_reducible refine T_block ?_ | with_reducible refine T_region ?_ | with_reducible refine TL_nil ?_ | with_reducible refine TQ_then ?_ | refine TL_q (op_assign rfl) rfl ?_))
  refine T_loopS (σ := Nat × Blocks × Blocks × Blocks) (fun y => y.1 ≤ 2 ∧ RowS dk y.2.1 a1 n1 ∧ RowS dk y.2.2.1 a2 n2 ∧ DataIs dk y.2.2.2) (fun y => [(2, .slice (some ⟨bL, 0, none⟩) 2 2), (3, .int .i64 (y.1 : Nat))]) (fun y => (bL, Obj.cells CL 40 (0, 0)) :: (y.2.1 ++ (y.2.2.1 ++ (y.2.2.2 ++ L)))) (fun y => 2 - y.1) (0, B1, B2, D) ⟨by dsimp only; omega, h1, h2, hD⟩ ?_ (fun w h => h.cnt (by intro p; (try simp only [cnt_append, cnt_cons, cnt_nil]) <;> omega)) ?_
  (repeat ((first | exact trivial | refine ⟨rfl, ?_⟩)))
  clear h1 h2 hD
  rintro ⟨k, B1, B2, D⟩ ⟨hk, h1, h2, hD⟩
  dsimp only at hk h1 h2 hD ⊢
  match k, hk with
  | 0, _ =>
    repeat ((first | with_reducible refine T_seq ?_ | with_reducible refine T_block ?_ | with_reducible refine T_region ?_ | with_reducible refine TL_nil ?_ | with_reducible refine TQ_then ?_ | with_reducible refine T_skip ?_ | refine TL_q (op_move rfl) rfl ?_ | refine TL_q (op_assign rfl) rfl ?_ | (refine' TL_q (op_bin rfl rfl ?_) rfl ?_; rotate_left 1; (· (exact bin_lss))) | refine TL_q (op_len_slice rfl Try.underlying130) rfl ?_ | (refine T_yes rfl ?_ ?_; (· (exact Bool.not_false)))))
    refine T_loopS (σ := Nat × Blocks × Blocks) (fun y => y.1 ≤ n1 ∧ RowS dk y.2.1 a1 n1 ∧ DataIs dk y.2.2) (fun y => [(2, .slice (some ⟨bL, 0, none⟩) 2 2), (3, .int .i64 0), (4, .int .i64 (y.1 : Nat))]) (fun y => (bL, Obj.cells CL 40 (0, 0)) :: (y.2.1 ++ (B2 ++ (y.2.2 ++ L)))) (fun y => n1 - y.1) (0, B1, D) ⟨Nat.zero_le _, h1, hD⟩ ?_ (fun w h => h.cnt (by intro p; (try simp only [cnt_append, cnt_cons, cnt_nil]) <;> omega)) ?_
    (repeat ((first | exact trivial | refine ⟨rfl, ?_⟩)))
    clear h1 hD
    rintro ⟨i, B, D⟩ ⟨hi, hB, hD⟩
    dsimp only at hi hB hD ⊢
    have g0 : CL[0 + 0 * 1]? = some (.slice a1 n1 c1) := by rw [hCL]; rfl
    by_cases hil : i < n1
    · obtain ⟨b, cur, rfl, rfl, hsz, hcells⟩ := hB.ex hil
      obtain ⟨da, m, c', hv, hds⟩ := hcells i hil
      have hv' : cur[0 + i * 5 + 4]? = some (.slice da m c') := by rw [Nat.zero_add]; exact hv
      repeat ((first | with_reducible refine T_seq ?_ | with_reducible refine T_block ?_ | with_reducible refine T_region ?_ | with_reducible refine TL_nil ?_ | with_reducible refine TQ_then ?_ | with_reducible refine T_skip ?_ | refine TL_q (op_move rfl) rfl ?_ | refine TL_q (op_assign rfl) rfl ?_ | (refine' TL_q (op_bin rfl rfl ?_) rfl ?_; rotate_left 1; (· (exact bin_lss))) | refine TL_q (op_len_slice rfl Try.underlying40) rfl ?_ | (refine' TL_q (op_idxI ety_130 rfl rfl ?_ ?_) rfl ?_; (· omega); (· omega)) | (refine' TL_q (op_ld rfl pl_40 ?_ ?_) rfl ?_; rotate_left 4; (· repeat ((exact List.mem_cons_self))); (· (assumption))) | (refine T_yes rfl ?_ ?_; (· (exact dT (by (omega)))))))
      refine T_loopS (σ := Nat × Blocks) (fun y => y.1 ≤ m ∧ DataIs dk y.2) (fun y => [(2, .slice (some ⟨bL, 0, none⟩) 2 2), (3, .int .i64 0), (4, .int .i64 (i : Nat)), (5, .int .i64 (y.1 : Nat))]) (fun y => (bL, Obj.cells CL 40 (0, 0)) :: ((b, Obj.cells cur 60 (0, 0)) :: (B2 ++ (y.2 ++ L)))) (fun y => m - y.1) (0, D) ⟨Nat.zero_le _, hD⟩ ?_ (fun w h => h) ?_
      (repeat ((first | exact trivial | refine ⟨rfl, ?_⟩)))
      clear hD
      rintro ⟨j, D⟩ ⟨hj, hD⟩
      dsimp only at hj hD ⊢
      by_cases hjm : j < m
      · obtain ⟨b', off, s, rfl, hmem, hle, hmm⟩ := hds.ex (by omega)
        obtain ⟨C, te, hC, hCs⟩ := hD _ hmem
        dsimp only at hC hCs
        obtain ⟨iD, hiD⟩ := List.getElem?_of_mem hC
        have hu : C[off + j * 1]? = some C[off + j * 1] := Array.getElem?_eq_getElem (by omega)
        refine T_nodup fun hnd => ?_
        have hD' := hD.write (v := .string (bs [115, 112, 111, 105, 108, 116])) (o := off + j * 1) hiD (nodup_mid hnd)
        repeat ((first | with_reducible refine T_seq ?_ | with_reducible refine T_block ?_ | with_reducible refine T_region ?_ | with_reducible refine TL_nil ?_ | with_reducible refine TQ_then ?_ | with_reducible refine T_skip ?_ | refine TL_q (op_move rfl) rfl ?_ | (refine' TL_q (op_bin rfl rfl ?_) rfl ?_; rotate_left 1; (· (exact bin_lss))) | refine TL_q (op_len_slice rfl Try.underlying58) rfl ?_ | (refine' TL_q (op_idx ety_40 rfl rfl ?_) rfl ?_; (· omega)) | (refine' TL_q (op_idx ety_58 rfl rfl ?_) rfl ?_; (· omega)) | (refine' TL_q (op_idxI ety_130 rfl rfl ?_ ?_) rfl ?_; (· omega); (· omega)) | refine TL_q (op_fld rfl fld_60_4) rfl ?_ | (refine' TL_q (op_ld rfl pl_40 ?_ ?_) rfl ?_; rotate_left 4; (· repeat ((first | exact List.mem_cons_self | apply List.mem_cons_of_mem))); (· (assumption))) | (refine T_yes rfl ?_ ?_; (· (exact dT (by (omega)))))))
        refine TL_perm (List.Perm.trans (List.Perm.cons _ (List.Perm.cons _ (List.Perm.append_left _ (List.Perm.append_right _ (perm_pick iD _ hiD))))) (List.Perm.refl _)) ?_
        refine TL_cnt (L' := (b', Obj.cells C te (0, 0)) :: ((bL, Obj.cells CL 40 (0, 0)) :: ((b, Obj.cells cur 60 (0, 0)) :: (B2 ++ (D.eraseIdx iD ++ L))))) ?_ (by intro p; (try simp only [cnt_append, cnt_cons, cnt_nil]) <;> omega)
        refine TL_st (C' := C.setIfInBounds (off + j * 1) (.string (bs [115, 112, 111, 105, 108, 116]))) rfl rfl one_9 rfl hu rfl ?_
        repeat ((first | with_reducible refine T_region ?_ | with_reducible refine TL_nil ?_ | with_reducible refine TQ_then ?_ | with_reducible refine TQ_block ?_ | refine TL_q (op_move rfl) rfl ?_ | refine TL_q (op_assign rfl) rfl ?_ | (refine' TL_q (op_bin rfl rfl ?_) rfl ?_; rotate_left 1; (· (exact bin_add ⟨by omega, by omega⟩)))))
        refine TQ_roundS (j + 1, (b', Obj.cells (C.setIfInBounds (off + j * 1) (.string (bs [115, 112, 111, 105, 108, 116]))) te (0, 0)) :: D.eraseIdx iD) ⟨hjm, hD'⟩ ?_ (fun w h => h.cnt (by intro p; (try simp only [cnt_append, cnt_cons, cnt_nil]) <;> omega)) (by dsimp only; omega)
        (repeat ((first | exact trivial | refine ⟨rfl, ?_⟩)))
      · repeat ((first | with_reducible refine T_seq ?_ | with_reducible refine T_region ?_ | with_reducible refine TL_nil ?_ | with_reducible refine TQ_then ?_ | with_reducible refine T_exit ?_ | with_reducible refine TQ_then_exit ?_ | with_reducible refine TQ_block_exit ?_ | refine TL_q (op_move rfl) rfl ?_ | (refine' TL_q (op_bin rfl rfl ?_) rfl ?_; rotate_left 1; (· (exact bin_lss))) | refine TL_q (op_len_slice rfl Try.underlying58) rfl ?_ | (refine' TL_q (op_idx ety_40 rfl rfl ?_) rfl ?_; (· omega)) | (refine' TL_q (op_idxI ety_130 rfl rfl ?_ ?_) rfl ?_; (· omega); (· omega)) | refine TL_q (op_fld rfl fld_60_4) rfl ?_ | (refine' TL_q (op_ld rfl pl_40 ?_ ?_) rfl ?_; rotate_left 4; (· repeat ((first | exact List.mem_cons_self | apply List.mem_cons_of_mem))); (· (assumption))) | refine TL_q (op_build rfl (bl_60_0 _)) rfl ?_ | (refine T_no rfl ?_ ?_; (· (exact dF (by (omega)))))))
        refine TL_cnt (L' := (b, Obj.cells cur 60 (0, 0)) :: ((bL, Obj.cells CL 40 (0, 0)) :: (B2 ++ (D ++ L)))) ?_ (by intro p; (try simp only [cnt_append, cnt_cons, cnt_nil]) <;> omega)
        refine TL_opN (op_stA (cs := [.string (bs [115, 112, 111, 105, 108, 116]), .int .u16 0, .int .u16 0, .int .u32 0, .slice none 0 0]) rfl rfl st_60 spoilt_one (by have : (i + 1) * 5 ≤ n1 * 5 := Nat.mul_le_mul_right _ hil; simp; omega)) ?_
        repeat ((first | with_reducible refine T_region ?_ | with_reducible refine TL_nil ?_ | with_reducible refine TQ_then ?_ | with_reducible refine TQ_block ?_ | refine TL_q (op_move rfl) rfl ?_ | refine TL_q (op_assign rfl) rfl ?_ | (refine' TL_q (op_bin rfl rfl ?_) rfl ?_; rotate_left 1; (· (exact bin_add ⟨by omega, by omega⟩)))))
        refine TQ_roundS (i + 1, [(b, Obj.cells (putAt cur (0 + i * 5) [.string (bs [115, 112, 111, 105, 108, 116]), .int .u16 0, .int .u16 0, .int .u32 0, .slice none 0 0]) 60 (0, 0))], D) ⟨hil, hB.put hil, hD⟩ ?_ (fun w h => h.cnt (by intro p; (try simp only [cnt_append, cnt_cons, cnt_nil]) <;> omega)) (by dsimp only; omega)
        (repeat ((first | exact trivial | refine ⟨rfl, ?_⟩)))
    · repeat ((first | with_reducible refine T_seq ?_ | with_reducible refine T_region ?_ | with_reducible refine TL_nil ?_ | with_reducible refine TQ_then ?_ | with_reducible refine TQ_block ?_ | with_reducible refine T_exit ?_ | with_reducible refine TQ_then_exit ?_ | with_reducible refine TQ_block_exit ?_ | refine TL_q (op_move rfl) rfl ?_ | refine TL_q (op_assign rfl) rfl ?_ | (refine' TL_q (op_bin rfl rfl ?_) rfl ?_; rotate_left 1; (· (first | exact bin_add ⟨by omega, by omega⟩ | exact bin_lss))) | refine TL_q (op_len_slice rfl Try.underlying40) rfl ?_ | (refine' TL_q (op_idxI ety_130 rfl rfl ?_ ?_) rfl ?_; (· omega); (· omega)) | (refine' TL_q (op_ld rfl pl_40 ?_ ?_) rfl ?_; rotate_left 4; (· repeat ((exact List.mem_cons_self))); (· (assumption))) | (refine T_no rfl ?_ ?_; (· (exact dF (by (omega)))))))
      refine TQ_roundS (1, B, B2, D) ⟨by dsimp only; omega, hB, h2, hD⟩ ?_ (fun w h => h.cnt (by intro p; (try simp only [cnt_append, cnt_cons, cnt_nil]) <;> omega)) (by dsimp only; omega)
      (repeat (first | exact trivial | refine ⟨rfl, ?_⟩))
  | 1, _ =>
    repeat ((first | with_reducible refine T_seq ?_ | with_reducible refine T_block ?_ | with_reducible refine T_region ?_ | with_reducible refine TL_nil ?_ | with_reducible refine TQ_then ?_ | with_reducible refine T_skip ?_ | refine TL_q (op_move rfl) rfl ?_ | refine TL_q (op_assign rfl) rfl ?_ | (refine' TL_q (op_bin rfl rfl ?_) rfl ?_; rotate_left 1; (· (exact bin_lss))) | refine TL_q (op_len_slice rfl Try.underlying130) rfl ?_ | (refine T_yes rfl ?_ ?_; (· (exact Bool.not_false)))))
    refine T_loopS (σ := Nat × Blocks × Blocks) (fun y => y.1 ≤ n2 ∧ RowS dk y.2.1 a2 n2 ∧ DataIs dk y.2.2) (fun y => [(2, .slice (some ⟨bL, 0, none⟩) 2 2), (3, .int .i64 1), (4, .int .i64 (y.1 : Nat))]) (fun y => (bL, Obj.cells CL 40 (0, 0)) :: (y.2.1 ++ (B1 ++ (y.2.2 ++ L)))) (fun y => n2 - y.1) (0, B2, D) ⟨Nat.zero_le _, h2, hD⟩ ?_ (fun w h => h.cnt (by intro p; (try simp only [cnt_append, cnt_cons, cnt_nil]) <;> omega)) ?_
    (repeat ((first | exact trivial | refine ⟨rfl, ?_⟩)))
    clear h2 hD
    rintro ⟨i, B, D⟩ ⟨hi, hB, hD⟩
    dsimp only at hi hB hD ⊢
    have g0 : CL[0 + 1 * 1]? = some (.slice a2 n2 c2) := by rw [hCL]; rfl
    by_cases hil : i < n2
    · obtain ⟨b, cur, rfl, rfl, hsz, hcells⟩ := hB.ex hil
      obtain ⟨da, m, c', hv, hds⟩ := hcells i hil
      have hv' : cur[0 + i * 5 + 4]? = some (.slice da m c') := by rw [Nat.zero_add]; exact hv
      repeat ((first | with_reducible refine T_seq ?_ | with_reducible refine T_block ?_ | with_reducible refine T_region ?_ | with_reducible refine TL_nil ?_ | with_reducible refine TQ_then ?_ | with_reducible refine T_skip ?_ | refine TL_q (op_move rfl) rfl ?_ | refine TL_q (op_assign rfl) rfl ?_ | (refine' TL_q (op_bin rfl rfl ?_) rfl ?_; rotate_left 1; (· (exact bin_lss))) | refine TL_q (op_len_slice rfl Try.underlying40) rfl ?_ | (refine' TL_q (op_idxI ety_130 rfl rfl ?_ ?_) rfl ?_; (· omega); (· omega)) | (refine' TL_q (op_ld rfl pl_40 ?_ ?_) rfl ?_; rotate_left 4; (· repeat ((exact List.mem_cons_self))); (· (assumption))) | (refine T_yes rfl ?_ ?_; (· (exact dT (by (omega)))))))
      refine T_loopS (σ := Nat × Blocks) (fun y => y.1 ≤ m ∧ DataIs dk y.2) (fun y => [(2, .slice (some ⟨bL, 0, none⟩) 2 2), (3, .int .i64 1), (4, .int .i64 (i : Nat)), (5, .int .i64 (y.1 : Nat))]) (fun y => (bL, Obj.cells CL 40 (0, 0)) :: ((b, Obj.cells cur 60 (0, 0)) :: (B1 ++ (y.2 ++ L)))) (fun y => m - y.1) (0, D) ⟨Nat.zero_le _, hD⟩ ?_ (fun w h => h) ?_
      (repeat ((first | exact trivial | refine ⟨rfl, ?_⟩)))
      clear hD
      rintro ⟨j, D⟩ ⟨hj, hD⟩
      dsimp only at hj hD ⊢
      by_cases hjm : j < m
      · obtain ⟨b', off, s, rfl, hmem, hle, hmm⟩ := hds.ex (by omega)
        obtain ⟨C, te, hC, hCs⟩ := hD _ hmem
        dsimp only at hC hCs
        obtain ⟨iD, hiD⟩ := List.getElem?_of_mem hC
        have hu : C[off + j * 1]? = some C[off + j * 1] := Array.getElem?_eq_getElem (by omega)
        refine T_nodup fun hnd => ?_
        have hD' := hD.write (v := .string (bs [115, 112, 111, 105, 108, 116])) (o := off + j * 1) hiD (nodup_mid hnd)
        repeat ((first | with_reducible refine T_seq ?_ | with_reducible refine T_block ?_ | with_reducible refine T_region ?_ | with_reducible refine TL_nil ?_ | with_reducible refine TQ_then ?_ | with_reducible refine T_skip ?_ | refine TL_q (op_move rfl) rfl ?_ | (refine' TL_q (op_bin rfl rfl ?_) rfl ?_; rotate_left 1; (· (exact bin_lss))) | refine TL_q (op_len_slice rfl Try.underlying58) rfl ?_ | (refine' TL_q (op_idx ety_40 rfl rfl ?_) rfl ?_; (· omega)) | (refine' TL_q (op_idx ety_58 rfl rfl ?_) rfl ?_; (· omega)) | (refine' TL_q (op_idxI ety_130 rfl rfl ?_ ?_) rfl ?_; (· omega); (· omega)) | refine TL_q (op_fld rfl fld_60_4) rfl ?_ | (refine' TL_q (op_ld rfl pl_40 ?_ ?_) rfl ?_; rotate_left 4; (· repeat ((first | exact List.mem_cons_self | apply List.mem_cons_of_mem))); (· (assumption))) | (refine T_yes rfl ?_ ?_; (· (exact dT (by (omega)))))))
        refine TL_perm (List.Perm.trans (List.Perm.cons _ (List.Perm.cons _ (List.Perm.append_left _ (List.Perm.append_right _ (perm_pick iD _ hiD))))) (List.Perm.refl _)) ?_
        refine TL_cnt (L' := (b', Obj.cells C te (0, 0)) :: ((bL, Obj.cells CL 40 (0, 0)) :: ((b, Obj.cells cur 60 (0, 0)) :: (B1 ++ (D.eraseIdx iD ++ L))))) ?_ (by intro p; (try simp only [cnt_append, cnt_cons, cnt_nil]) <;> omega)
        refine TL_st (C' := C.setIfInBounds (off + j * 1) (.string (bs [115, 112, 111, 105, 108, 116]))) rfl rfl one_9 rfl hu rfl ?_
        repeat ((first | with_reducible refine T_region ?_ | with_reducible refine TL_nil ?_ | with_reducible refine TQ_then ?_ | with_reducible refine TQ_block ?_ | refine TL_q (op_move rfl) rfl ?_ | refine TL_q (op_assign rfl) rfl ?_ | (refine' TL_q (op_bin rfl rfl ?_) rfl ?_; rotate_left 1; (· (exact bin_add ⟨by omega, by omega⟩)))))
        refine TQ_roundS (j + 1, (b', Obj.cells (C.setIfInBounds (off + j * 1) (.string (bs [115, 112, 111, 105, 108, 116]))) te (0, 0)) :: D.eraseIdx iD) ⟨hjm, hD'⟩ ?_ (fun w h => h.cnt (by intro p; (try simp only [cnt_append, cnt_cons, cnt_nil]) <;> omega)) (by dsimp only; omega)
        (repeat ((first | exact trivial | refine ⟨rfl, ?_⟩)))
      · repeat ((first | with_reducible refine T_seq ?_ | with_reducible refine T_region ?_ | with_reducible refine TL_nil ?_ | with_reducible refine TQ_then ?_ | with_reducible refine T_exit ?_ | with_reducible refine TQ_then_exit ?_ | with_reducible refine TQ_block_exit ?_ | refine TL_q (op_move rfl) rfl ?_ | (refine' TL_q (op_bin rfl rfl ?_) rfl ?_; rotate_left 1; (· (exact bin_lss))) | refine TL_q (op_len_slice rfl Try.underlying58) rfl ?_ | (refine' TL_q (op_idx ety_40 rfl rfl ?_) rfl ?_; (· omega)) | (refine' TL_q (op_idxI ety_130 rfl rfl ?_ ?_) rfl ?_; (· omega); (· omega)) | refine TL_q (op_fld rfl fld_60_4) rfl ?_ | (refine' TL_q (op_ld rfl pl_40 ?_ ?_) rfl ?_; rotate_left 4; (· repeat ((first | exact List.mem_cons_self | apply List.mem_cons_of_mem))); (· (assumption))) | refine TL_q (op_build rfl (bl_60_0 _)) rfl ?_ | (refine T_no rfl ?_ ?_; (· (exact dF (by (omega)))))))
        refine TL_cnt (L' := (b, Obj.cells cur 60 (0, 0)) :: ((bL, Obj.cells CL 40 (0, 0)) :: (B1 ++ (D ++ L)))) ?_ (by intro p; (try simp only [cnt_append, cnt_cons, cnt_nil]) <;> omega)
        refine TL_opN (op_stA (cs := [.string (bs [115, 112, 111, 105, 108, 116]), .int .u16 0, .int .u16 0, .int .u32 0, .slice none 0 0]) rfl rfl st_60 spoilt_one (by have : (i + 1) * 5 ≤ n2 * 5 := Nat.mul_le_mul_right _ hil; simp; omega)) ?_
        repeat ((first | with_reducible refine T_region ?_ | with_reducible refine TL_nil ?_ | with_reducible refine TQ_then ?_ | with_reducible refine TQ_block ?_ | refine TL_q (op_move rfl) rfl ?_ | refine TL_q (op_assign rfl) rfl ?_ | (refine' TL_q (op_bin rfl rfl ?_) rfl ?_; rotate_left 1; (· (exact bin_add ⟨by omega, by omega⟩)))))
        refine TQ_roundS (i + 1, [(b, Obj.cells (putAt cur (0 + i * 5) [.string (bs [115, 112, 111, 105, 108, 116]), .int .u16 0, .int .u16 0, .int .u32 0, .slice none 0 0]) 60 (0, 0))], D) ⟨hil, hB.put hil, hD⟩ ?_ (fun w h => h.cnt (by intro p; (try simp only [cnt_append, cnt_cons, cnt_nil]) <;> omega)) (by dsimp only; omega)
        (repeat ((first | exact trivial | refine ⟨rfl, ?_⟩)))
    · repeat ((first | with_reducible refine T_seq ?_ | with_reducible refine T_region ?_ | with_reducible refine TL_nil ?_ | with_reducible refine TQ_then ?_ | with_reducible refine TQ_block ?_ | with_reducible refine T_exit ?_ | with_reducible refine TQ_then_exit ?_ | with_reducible refine TQ_block_exit ?_ | refine TL_q (op_move rfl) rfl ?_ | refine TL_q (op_assign rfl) rfl ?_ | (refine' TL_q (op_bin rfl rfl ?_) rfl ?_; rotate_left 1; (· (first | exact bin_add ⟨by omega, by omega⟩ | exact bin_lss))) | refine TL_q (op_len_slice rfl Try.underlying40) rfl ?_ | (refine' TL_q (op_idxI ety_130 rfl rfl ?_ ?_) rfl ?_; (· omega); (· omega)) | (refine' TL_q (op_ld rfl pl_40 ?_ ?_) rfl ?_; rotate_left 4; (· repeat ((exact List.mem_cons_self))); (· (assumption))) | (refine T_no rfl ?_ ?_; (· (exact dF (by (omega)))))))
      refine TQ_roundS (2, B1, B, D) ⟨by dsimp only; omega, h1, hB, hD⟩ ?_ (fun w h => h.cnt (by intro p; (try simp only [cnt_append, cnt_cons, cnt_nil]) <;> omega)) (by dsimp only; omega)
      (repeat (first | exact trivial | refine ⟨rfl, ?_⟩))
  | 2, _ =>
    repeat ((first | with_reducible refine T_seq ?_ | with_reducible refine T_region ?_ | with_reducible refine TL_nil ?_ | with_reducible refine TQ_then ?_ | with_reducible refine T_exit ?_ | with_reducible refine TQ_then_exit ?_ | with_reducible refine TQ_block_exit ?_ | with_reducible refine TQ_fall ?_ | refine TL_q (op_move rfl) rfl ?_ | (refine' TL_q (op_bin rfl rfl ?_) rfl ?_; rotate_left 1; (· (exact bin_lss))) | refine TL_q (op_len_slice rfl Try.underlying130) rfl ?_ | (refine T_no rfl ?_ ?_; (· (exact Bool.not_true)))))
    refine TQ_cnt (L' := (B1 ++ (B2 ++ D)) ++ L) ?_ (by intro p; (try simp only [cnt_append, cnt_cons, cnt_nil]) <;> omega)
    refine TQ_ret0 rfl ?_
    exact ⟨_, rfl⟩
end Go.Proofs.Ytdflhdfapnhjjaa
namespace Go.Proofs.Ytdflhdfapnhjjaa
open Go.RowKit
open Vd (RSet Vdt Vote Rec Quest Piece)
set_option linter.unusedVariables false
set_option linter.unusedSimpArgs false
--auto
theorem sliceR.const {α : Type} {r : Rp α} {sz : Nat} {L : Blocks} {cs : List Value} {l : List α} (h : sliceR sz r L cs l) : sliceR sz (fun _ => r L) L cs l := h.imp (fun _ h => h) (fun _ _ _ h => h)
/-- Small enough. -/
def SmS (l : List RSet) : Prop := l.length ≤ 100000 ∧ ∀ s ∈ l, s.data.length ≤ 100000
def SmV (v : Vdt) : Prop := SmS v.sets ∧ SmS v.soa
variable {G : World} {L : Blocks}
/-- A verdict in new memory. -/
def VdOut (L : Blocks) (v : Vdt) (u : Value) (M : Blocks) : Prop := ∃ a c B a2 c2 B2 N, u = .agg #[.int .u8 v.code, .slice a v.sets.length c, .slice a2 v.soa.length c2] ∧
  ORow rsR 60 5 N a c v.sets B ∧ ORow rsR 60 5 N a2 c2 v.soa B2 ∧ Wr N ∧ M = B2 ++ (B ++ (N ++ L))
set_option maxRecDepth 100000 in
set_option maxHeartbeats 2000000 in
theorem tCopySets_S (v : Value) (l : List RSet) (hl : sliceR 5 rsR L [v] l) (hs : SmS l) : Spec Try.prog G 93 #[v] L fun u M => ∃ a c B N, u = .slice a l.length c ∧ ORow rsR 60 5 N a c l B ∧ Wr N ∧ M = B ++ (N ++ L) := by
  obtain ⟨hn, hd⟩ := hs
  obtain ⟨a0, c0, e1, hl⟩ := hl.val
  simp only [List.cons.injEq, and_true] at e1
  subst e1
  obtain ⟨_, ka1, ka2, hl⟩ := sets_cut hl
  refine Spec_of (n := 22) Try.func93 rfl rfl rfl ?_
  repeat ((first | with_reducible refine T_seq ?_ | with_reducible refine T_block ?_ | with_reducible refine T_region ?_ | with_reducible refine TL_nil ?_ | with_reducible refine TQ_then ?_ | refine TL_q (op_move rfl) rfl ?_ | refine TL_q (op_assign rfl) rfl ?_ | refine TL_q (op_len_slice rfl Try.underlying40) rfl ?_))
  refine T_loopS (σ := Nat × Option Addr × Nat × Blocks × Blocks) (fun x => x.1 ≤ l.length ∧ ORow rsR 60 5 x.2.2.2.2 x.2.1 x.2.2.1 (l.take x.1) x.2.2.2.1 ∧ Wr x.2.2.2.2) (fun x => [(3, .slice x.2.1 (l.take x.1).length x.2.2.1), (6, .slice a0 l.length c0), (7, .int .i64 (l.length : Nat)), (8, .int .i64 (x.1 : Nat))]) (fun x => x.2.2.2.1 ++ (x.2.2.2.2 ++ L)) (fun x => l.length - x.1) (0, none, 0, [], []) ⟨Nat.zero_le _, ORow.nil _, Wr.nil⟩ ?_ (fun w h => h) ?_
  (repeat ((first | exact trivial | refine ⟨rfl, ?_⟩)))
  rintro ⟨k, a, c, B, N⟩ ⟨hk, hB, hN⟩
  dsimp only at hk hB hN ⊢
  by_cases hlt : k < l.length
  · obtain ⟨x, hx⟩ : ∃ x, l[k]? = some x := ⟨_, List.getElem?_eq_getElem hlt⟩
    have htk : l.take (k + 1) = l.take k ++ [x] := by rw [List.take_add_one, hx]; rfl
    have htl : (l.take k).length ≤ 100000 := by rw [List.length_take]; omega
    rcases hl with rfl | ⟨b1, o1, C1, t1, f1, rfl, m1, q1⟩
    · simp at hlt
    obtain ⟨cx, _, hx2, hcx⟩ := q1 k x hx
    obtain ⟨xa, xc, rfl, hxd, hx4⟩ := hx2.vals
    have m1' : (b1, Obj.cells C1 t1 f1) ∈ B ++ (N ++ L) := List.mem_append_right _ (List.mem_append_right _ m1)
    repeat ((first | with_reducible refine T_seq ?_ | with_reducible refine T_block ?_ | with_reducible refine T_region ?_ | with_reducible refine TL_nil ?_ | with_reducible refine TQ_then ?_ | with_reducible refine T_skip ?_ | (refine' TL_q (op_bin rfl rfl ?_) rfl ?_; rotate_left 1; (· (exact bin_lss))) | (refine' TL_q (op_idx ety_40 rfl rfl ?_) rfl ?_; (· omega)) | (refine T_yes rfl ?_ ?_; (· (exact dT (by (omega)))))))
    refine TL_q (op_ldA [.string (bs x.name), .int .u16 x.kind, .int .u16 x.cls, .int .u32 x.ttl, .slice xa x.data.length xc] rfl st_60 m1' hcx) rfl ?_
    repeat ((first | with_reducible refine T_seq ?_ | with_reducible refine T_region ?_ | with_reducible refine TL_nil ?_ | with_reducible refine TQ_then ?_ | refine TL_q (op_fld rfl fld_60_4) rfl ?_ | (refine' TL_q (op_ld rfl pl_58 ?_ ?_) rfl ?_; rotate_left 4; (· repeat ((exact List.mem_cons_self))); (· (rfl))) | (refine TL_stAll rfl rfl st_60 rfl rfl rfl ?_) | (refine TL_new (op_alloc (C := #[(.string (bs [])), (.int .u16 0), (.int .u16 0), (.int .u32 0), (.slice none 0 0)]) zero_60 rfl) rfl ?_; intro bNew)))
    refine TL_opT (op_call hb_63 rfl (Clone_S _ x.data (mono_slice mono_str _ _ _ _ (mem_of_cnt (by intro p; (try simp only [cnt_append, cnt_cons, cnt_nil]) <;> omega)) hxd) (Nat.le_trans (hd x (List.mem_of_getElem? hx)) (by omega)))) rfl ?_
    rintro _ _ ⟨ad, cd, Bd, rfl, hBd, rfl⟩
    refine TL_cnt (L' := (bNew, Obj.cells #[.string (bs x.name), .int .u16 x.kind, .int .u16 x.cls, .int .u32 x.ttl, .slice xa x.data.length xc] 60 (0, 0)) :: (B ++ ((Bd ++ N) ++ L))) ?_ (by intro p; (try simp only [cnt_append, cnt_cons, cnt_nil]) <;> omega)
    repeat ((refine TL_q (op_fld rfl fld_60_4) rfl ?_))
    refine TL_st (C' := #[.string (bs x.name), .int .u16 x.kind, .int .u16 x.cls, .int .u32 x.ttl, .slice ad x.data.length cd]) rfl rfl one_58 rfl rfl rfl ?_
    repeat ((first | with_reducible refine T_region ?_ | with_reducible refine TL_nil ?_ | with_reducible refine TQ_then ?_ | refine TL_q (op_move rfl) rfl ?_ | (refine' TL_q (op_ldAll rfl st_60 ?_ ?_) rfl ?_; rotate_left 3; (· repeat ((exact List.mem_cons_self))); (· (assumption))) | (refine TL_new (op_litN ety_40 rfl rfl (by decide)) rfl ?_; intro bLit)))
    refine TL_cnt (L' := (bLit, Obj.cells #[.string (bs x.name), .int .u16 x.kind, .int .u16 x.cls, .int .u32 x.ttl, .slice ad x.data.length cd] 60 (0, 0)) :: (B ++ ((bNew, Obj.cells #[.string (bs x.name), .int .u16 x.kind, .int .u16 x.cls, .int .u32 x.ttl, .slice ad x.data.length cd] 60 (0, 0)) :: ((Bd ++ N) ++ L)))) ?_ (by intro p; (try simp only [cnt_append, cnt_cons, cnt_nil]) <;> omega)
    refine TL_opT (op_pushR (L0 := Bd ++ N) (cs := [.string (bs x.name), .int .u16 x.kind, .int .u16 x.cls, .int .u32 x.ttl, .slice ad x.data.length cd]) (y := x) ety_40 rfl rfl (hB.mono mono_set (mem_of_cnt (by intro p; (try simp only [cnt_append, cnt_cons, cnt_nil]) <;> omega))) ⟨_, rfl, (hBd.imp (L' := []) (fun cs y _ h => h)).sliceR mono_str (mem_of_cnt (by intro p; (try simp only [cnt_append, cnt_cons, cnt_nil]) <;> omega)) (mem_of_cnt (by intro p; (try simp only [cnt_append, cnt_cons, cnt_nil]) <;> omega)), hx4⟩ (by omega) (by decide)) rfl ?_
    rintro _ _ ⟨a', c', B', rfl, hB', rfl⟩
    repeat ((first | with_reducible refine T_region ?_ | with_reducible refine TL_nil ?_ | with_reducible refine TQ_then ?_ | with_reducible refine TQ_block ?_ | refine TL_q (op_move rfl) rfl ?_ | refine TL_q (op_assign rfl) rfl ?_ | (refine' TL_q (op_bin rfl rfl ?_) rfl ?_; rotate_left 1; (· (exact bin_add ⟨by omega, by omega⟩)))))
    refine TQ_roundS (k + 1, a', c', B', Bd ++ N) ⟨hlt, by dsimp only; rw [htk]; exact hB', hBd.wr.append hN⟩ ?_ (fun w h => h.cnt (by intro p; (try simp only [cnt_append, cnt_cons, cnt_nil]) <;> omega)) (by dsimp only; omega)
    dsimp only
    rw [htk]
    (repeat ((first | exact trivial | refine ⟨rfl, ?_⟩)))
  · have hkn : k = l.length := by omega
    subst hkn
    rw [List.take_length] at hB ⊢
    repeat ((first | with_reducible refine T_seq ?_ | with_reducible refine T_region ?_ | with_reducible refine TL_nil ?_ | with_reducible refine TQ_then ?_ | with_reducible refine T_exit ?_ | with_reducible refine T_ret ?_ | with_reducible refine TQ_then_exit ?_ | with_reducible refine TQ_block_exit ?_ | refine TL_q (op_move rfl) rfl ?_ | refine TL_q (op_assign rfl) rfl ?_ | (refine' TL_q (op_bin rfl rfl ?_) rfl ?_; rotate_left 1; (· (exact bin_lss))) | (refine T_no rfl ?_ ?_; (· (exact dF (by (omega)))))))
    refine TQ_ret1 2 _ rfl rfl ?_
    exact ⟨a, c, B, N, rfl, hB, hN, rfl⟩
set_option maxRecDepth 100000 in
set_option maxHeartbeats 2000000 in
theorem tCopyVerdict_S (cs : List Value) (v : Vdt) (hv : vdR L cs v) (hs : SmV v) : Spec Try.prog G 69 #[.agg cs.toArray] L (VdOut L v) := by
  obtain ⟨va, vb, rfl, h1, h2, hcode⟩ := hv
  obtain ⟨a1, c1, ea, h1⟩ := h1.val
  obtain ⟨a2, c2, eb, h2⟩ := h2.val
  simp only [List.cons.injEq, and_true] at ea eb
  subst ea eb
  refine Spec_of (n := 12) Try.func69 rfl rfl rfl ?_
  repeat ((first | with_reducible refine T_seq ?_ | with_reducible refine T_region ?_ | with_reducible refine TL_nil ?_ | with_reducible refine TQ_then ?_ | (refine TL_new (op_alloc (C := #[(.int .u8 0), (.slice none 0 0), (.slice none 0 0)]) zero_42 rfl) rfl ?_; intro bNew) | (refine TL_new (op_boxA rfl) rfl ?_; intro bBox)))
  have hKm : ∀ z ∈ [(bBox, Obj.cells #[.int .u8 v.code, .slice a1 v.sets.length c1, .slice a2 v.soa.length c2] 42 (0, 0))], z ∈ (bNew, Obj.cells #[.int .u8 0, .slice none 0 0, .slice none 0 0] 42 (0, 0)) :: ((bBox, Obj.cells #[.int .u8 v.code, .slice a1 v.sets.length c1, .slice a2 v.soa.length c2] 42 (0, 0)) :: L) := (mem_of_cnt (by intro p; (try simp only [cnt_append, cnt_cons, cnt_nil]) <;> omega))
  refine T_draw follows_mixed ([(bBox, Obj.cells #[.int .u8 v.code, .slice a1 v.sets.length c1, .slice a2 v.soa.length c2] 42 (0, 0))]) [] ?_
  (refine' TA_take 0 rfl rfl (by kernel_rfl) (quiet_q (op_fld rfl fld_42_0)) ?_ ?_; (· (assumption)))
  (refine' TA_take 1 rfl rfl (by kernel_rfl) (quiet_q (op_ld rfl pl_5 ?_ ?_)) ?_ ?_; rotate_left 4; (· repeat ((exact List.mem_cons_self))); (· (rfl)); (· (assumption)))
  (refine' TA_take 2 rfl rfl (by kernel_rfl) (quiet_q (op_fld rfl fld_42_1)) ?_ ?_; (· (assumption)))
  (refine' TA_take 3 rfl rfl (by kernel_rfl) (quiet_q (op_ld rfl pl_40 ?_ ?_)) ?_ ?_; rotate_left 4; (· repeat ((exact List.mem_cons_self))); (· (rfl)); (· (assumption)))
  (refine' TA_take 5 rfl rfl (by kernel_rfl) (quiet_q (op_fld rfl fld_42_2)) ?_ ?_; (· (assumption)))
  (refine' TA_take 6 rfl rfl (by kernel_rfl) (quiet_q (op_ld rfl pl_40 ?_ ?_)) ?_ ?_; rotate_left 4; (· repeat ((exact List.mem_cons_self))); (· (rfl)); (· (assumption)))
  refine TA_oneD 4 (by kernel_rfl) rfl rfl rfl rfl (op_call hb_93 rfl (tCopySets_S _ v.sets (mono_slice mono_set _ _ _ _ (mem_of_cnt (by intro p; (try simp only [cnt_append, cnt_cons, cnt_nil]) <;> omega)) h1) hs.1)) ?_; rintro _ _ ⟨aR, cR, BR, NR, rfl, hR, hNR, rfl⟩; refine ⟨Or.inr (mem_of_cnt (by intro p; (try simp only [cnt_append, cnt_cons, cnt_nil]) <;> omega)), ?_⟩
  refine TA_oneD 7 (by kernel_rfl) rfl rfl rfl rfl (op_call hb_93 rfl (tCopySets_S _ v.soa (mono_slice mono_set _ _ _ _ (mem_of_cnt (by intro p; (try simp only [cnt_append, cnt_cons, cnt_nil]) <;> omega)) h2) hs.2)) ?_; rintro _ _ ⟨aS, cS, BS, NS, rfl, hS, hNS, rfl⟩; refine ⟨Or.inr (mem_of_cnt (by intro p; (try simp only [cnt_append, cnt_cons, cnt_nil]) <;> omega)), ?_⟩
  (refine' TA_take 8 rfl rfl (by kernel_rfl) (quiet_q (op_build rfl (bl_42_0_1_2 _ _ _ _ _ _ _))) ?_ ?_; (· (intro p hp; grind)))
  refine TA_cnt (L' := (bNew, Obj.cells #[.int .u8 0, .slice none 0 0, .slice none 0 0] 42 (0, 0)) :: (BS ++ (NS ++ (BR ++ (NR ++ ((bBox, Obj.cells #[.int .u8 v.code, .slice a1 v.sets.length c1, .slice a2 v.soa.length c2] 42 (0, 0)) :: L)))))) ?_ (by intro p; (try simp only [cnt_append, cnt_cons, cnt_nil]) <;> omega); refine TA_oneN 9 (by kernel_rfl) rfl rfl rfl (op_stAll rfl rfl st_42 rfl rfl rfl) ?_; rintro _ _ ⟨_, rfl⟩; refine ⟨Or.inr (mem_of_cnt (by intro p; (try simp only [cnt_append, cnt_cons, cnt_nil]) <;> omega)), ?_⟩
  refine TA_done (by kernel_rfl) ?_
  repeat ((first | with_reducible refine TQ_then ?_ | with_reducible refine T_ret ?_))
  refine TQ_retC 2 42  rfl rfl  st_42 (by repeat ((exact List.mem_cons_self))) rfl (fun w h => Heap.cnt (L' := BS ++ (BR ++ ((NS ++ NR) ++ L))) h (by intro p; (try simp only [cnt_append, cnt_cons, cnt_nil]) <;> omega)) ?_
  exact ⟨_, _, _, _, _, _, NS ++ NR, rfl, hR.mono mono_set (mem_of_cnt (by intro p; (try simp only [cnt_append, cnt_cons, cnt_nil]) <;> omega)), hS.mono mono_set (mem_of_cnt (by intro p; (try simp only [cnt_append, cnt_cons, cnt_nil]) <;> omega)), hNS.append hNR, rfl⟩
end Go.Proofs.Ytdflhdfapnhjjaa
namespace Go.Proofs.Ytdflhdfapnhjjaa
open Go.RowKit
open Vd (RSet Vdt Vote Rec Quest Piece Ballot)
set_option linter.unusedVariables false
set_option linter.unusedSimpArgs false
--auto
def ballotR : Rp Ballot := fun L cs x => ∃ a1 c1 a2 c2, cs = [.int .i64 x.v.up, .int .u8 x.v.vd.code, .slice a1 x.v.vd.sets.length c1, .slice a2 x.v.vd.soa.length c2, .int .u32 x.v.time, .bool x.pass] ∧ voteR L [.int .i64 x.v.up, .int .u8 x.v.vd.code, .slice a1 x.v.vd.sets.length c1, .slice a2 x.v.vd.soa.length c2, .int .u32 x.v.time] x.v
theorem mono_ballot : Mono ballotR := fun L L' cs x hL ⟨a1, c1, a2, c2, h1, h2⟩ => ⟨a1, c1, a2, c2, h1, mono_vote L L' _ _ hL h2⟩
theorem voteR.vals {L : Blocks} {cs : List Value} {v : Vote} (h : voteR L cs v) : ∃ a1 c1 a2 c2, cs = [.int .i64 v.up, .int .u8 v.vd.code, .slice a1 v.vd.sets.length c1, .slice a2 v.vd.soa.length c2, .int .u32 v.time] ∧ sliceR 5 rsR L [.slice a1 v.vd.sets.length c1] v.vd.sets ∧ sliceR 5 rsR L [.slice a2 v.vd.soa.length c2] v.vd.soa ∧ (0 ≤ v.vd.code ∧ v.vd.code ≤ 255) ∧ (0 ≤ v.time ∧ v.time ≤ 4294967295) ∧ (-9223372036854775808 ≤ v.up ∧ v.up ≤ 9223372036854775807) := by
  obtain ⟨a, b, rfl, h1, h2, h3⟩ := h
  obtain ⟨a1, c1, e1, h1⟩ := h1.val
  obtain ⟨a2, c2, e2, h2⟩ := h2.val
  simp only [List.cons.injEq, and_true] at e1 e2
  subst e1 e2
  exact ⟨a1, c1, a2, c2, rfl, h1, h2, h3⟩
theorem voteR.one {L : Blocks} {cs : List Value} {v : Vote} (h : voteR L cs v) : ∀ x ∈ cs, x.oneCell' = true := by
  obtain ⟨a1, c1, a2, c2, rfl, _⟩ := h.vals
  intro x hx
  simp only [List.mem_cons, List.not_mem_nil, or_false] at hx
  rcases hx with rfl | rfl | rfl | rfl | rfl <;> rfl
theorem voteR.len {L : Blocks} {cs : List Value} {v : Vote} (h : voteR L cs v) : cs.length = 5 := by
  obtain ⟨a1, c1, a2, c2, rfl, _⟩ := h.vals
  rfl
theorem ballotR.one {L : Blocks} {cs : List Value} {x : Ballot} (h : ballotR L cs x) : ∀ v ∈ cs, v.oneCell' = true := by
  obtain ⟨a1, c1, a2, c2, rfl, _⟩ := h
  intro v hv
  simp only [List.mem_cons, List.not_mem_nil, or_false] at hv
  rcases hv with rfl | rfl | rfl | rfl | rfl | rfl <;> rfl
theorem ballotR.len {L : Blocks} {cs : List Value} {x : Ballot} (h : ballotR L cs x) : cs.length = 6 := by
  obtain ⟨a1, c1, a2, c2, rfl, _⟩ := h
  rfl
section
variable {G : World} {P : Program} {n : Nat} {ρ : Slots} {L : Blocks} {Q : Exit → Act → World → Prop} {ops : Array Oper} {K : Blocks} {W : List Nat} {fuel : Nat} {listed : Array Bool}
theorem Up_cnt {i : Nat} {L' : Blocks} (h : Up P G ops n K W Q fuel listed ρ L' i) (hc : ∀ p, cnt p L' = cnt p L) : Up P G ops n K W Q fuel listed ρ L i := by
  obtain ⟨o, h1, h2, b, h3, h4⟩ := h
  refine ⟨o, h1, h2, b, h3, ?_⟩
  rcases h4 with ⟨hb, Φ, hO, hn⟩ | ⟨hb, hk, hn⟩
  · exact Or.inl ⟨hb, Φ, hO.heap (fun w hw => hw.cnt fun p => Nat.le_of_eq (hc p)), hn⟩
  · refine Or.inr ⟨hb, hk.imp id (fun h p hp => mem_of_cnt (fun q => Nat.le_of_eq (hc q)) p (h p hp)), ?_⟩
    exact TA_cnt hn hc
end
section
variable {G : World} {P : Program} {ρ : Slots} {L : Blocks} {ty : TypeId}
theorem op_pushK {α : Type} {r : List Value → α → Prop} {s x : Operand} {t e te : TypeId} {sz bytes bl : Nat} {z : Value} {a : Option Addr} {c : Nat} {cs : List Value} {y : α} {l : List α} {B L0 : Blocks} (E : ElemTy P t e sz bytes z) (hs : ev ρ s = some (.slice a l.length c)) (hx : ev ρ x = some (.slice (some ⟨bl, 0, none⟩) 1 1))
    (hrow : ORow (fun _ => r) e sz L0 a c l B) (hn : cs.length = sz) (hone : ∀ v ∈ cs, v.oneCell' = true) (hy : r cs y) (h63 : l.length ≤ 1000000) (hb : bytes ≤ 1000) :
    OpT P G ρ ((bl, .cells cs.toArray te (0, 0)) :: (B ++ L)) (.call ⟨.builtin .append, #[s, x], #[t, t]⟩) ty fun v' L' => ∃ a' c' B', v' = .slice a' (l ++ [y]).length c' ∧ ORow (fun _ => r) e sz L0 a' c' (l ++ [y]) B' ∧ L' = B' ++ L :=
  op_push (r := fun _ => r) E hs hx hrow hn hone hy (by unfold maxLen; omega) (Nat.le_trans (Nat.mul_le_mul (show l.length + 1 ≤ 1000001 by omega) hb) (by decide))
end
variable {G : World} {L : Blocks}
set_option maxRecDepth 100000 in
theorem rHas_S {K : Blocks} (bb : Nat) (want : Int) (a : Option Addr) (c : Nat) (l : List Ballot) (B : Blocks) (u : Int) (hB : ORow ballotR 141 6 K a c l B) :
    Spec Try.prog G 78 #[.pointer (some ⟨bb, 0, none⟩), .int .i64 u] ((bb, Obj.cells #[.int .i64 want, .slice a l.length c] 124 (0, 0)) :: (B ++ L)) fun w M => w = .bool (Vd.hasB l u) ∧ M = (bb, Obj.cells #[.int .i64 want, .slice a l.length c] 124 (0, 0)) :: (B ++ L) := by
  have hcap := hB.cap
  unfold maxLen at hcap
  refine Spec_of (n := 26) Try.func78 rfl rfl rfl ?_
  repeat ((first | with_reducible refine T_seq ?_ | with_reducible refine T_block ?_ | with_reducible refine T_region ?_ | with_reducible refine TL_nil ?_ | with_reducible refine TQ_then ?_ | refine TL_q (op_assign rfl) rfl ?_))
  refine T_loopS (σ := Nat) (fun k => k ≤ l.length ∧ Vd.hasB l u = Vd.hasB (l.drop k) u) (fun k => [(0, .pointer (some ⟨bb, 0, none⟩)), (1, .int .i64 u), (5, .int .i64 (k : Nat))]) (fun k => (bb, Obj.cells #[.int .i64 want, .slice a l.length c] 124 (0, 0)) :: (B ++ L)) (fun k => l.length - k) 0 ⟨Nat.zero_le _, rfl⟩ ?_ (fun w h => h) ?_
  (repeat ((first | exact trivial | refine ⟨rfl, ?_⟩)))
  rintro k ⟨hk, heq⟩
  by_cases hlt : k < l.length
  · obtain ⟨b2, cur, rfl, hBe, _, _, _, hcur⟩ := hB.block (fun e => by rw [e] at hlt; simp at hlt)
    obtain ⟨y, hy⟩ : ∃ y, l[k]? = some y := ⟨_, List.getElem?_eq_getElem hlt⟩
    obtain ⟨cs, _, ⟨a1, c1, a2, c2, rfl, _⟩, _, hcs⟩ := hcur k y hy
    have g0 : cur[0 + k * 6 + 0 + 0]? = some (.int .i64 y.v.up) := by rw [Nat.zero_add]; exact hcs 0 _ rfl
    have hmem : (b2, Obj.cells cur 141 (0, 0)) ∈ (bb, Obj.cells #[.int .i64 want, .slice (some ⟨b2, 0, none⟩) l.length c] 124 (0, 0)) :: (B ++ L) := by rw [hBe]; simp
    have hd : l.drop k = y :: l.drop (k + 1) := by rw [List.drop_eq_getElem_cons hlt]; congr 1; rw [List.getElem?_eq_getElem hlt] at hy; exact Option.some.inj hy
    rw [hd] at heq
    have heq2 : Vd.hasB (y :: l.drop (k + 1)) u = (y.v.up == u || Vd.hasB (l.drop (k + 1)) u) := rfl
    rw [heq2] at heq
    by_cases hyu : y.v.up = u
    · rw [eT hyu, Bool.true_or] at heq
      rw [heq]
      repeat ((first | with_reducible refine T_seq ?_ | with_reducible refine T_block ?_ | with_reducible refine T_region ?_ | with_reducible refine TL_nil ?_ | with_reducible refine TQ_then ?_ | with_reducible refine T_skip ?_ | with_reducible refine T_ret ?_ | with_reducible refine TQ_then_ret ?_ | with_reducible refine TQ_block_ret ?_ | refine TL_q (op_move rfl) rfl ?_ | refine TL_q (op_assign rfl) rfl ?_ | (refine' TL_q (op_bin rfl rfl ?_) rfl ?_; rotate_left 1; (· (first | exact bin_eql | exact bin_lss))) | refine TL_q (op_nilCheck rfl) rfl ?_ | refine TL_q (op_len_slice rfl Try.underlying122) rfl ?_ | (refine' TL_q (op_idx ety_122 rfl rfl ?_) rfl ?_; (· omega)) | refine TL_q (op_fld rfl fld_63_0) rfl ?_ | refine TL_q (op_fld rfl fld_124_1) rfl ?_ | (refine' TL_q (op_ld rfl pl_3 ?_ ?_) rfl ?_; rotate_left 4; (· repeat ((first | assumption | exact List.mem_cons_self))); (· (first | assumption | rfl))) | (refine T_yes rfl ?_ ?_; (· (exact dT (by (first | assumption | omega)))))))
      refine TQ_ret1 4 _ rfl rfl ?_
      exact ⟨rfl, rfl⟩
    · rw [eF hyu, Bool.false_or] at heq
      repeat ((first | with_reducible refine T_seq ?_ | with_reducible refine T_block ?_ | with_reducible refine T_region ?_ | with_reducible refine TL_nil ?_ | with_reducible refine TQ_then ?_ | with_reducible refine TQ_block ?_ | with_reducible refine T_skip ?_ | refine TL_q (op_move rfl) rfl ?_ | refine TL_q (op_assign rfl) rfl ?_ | (refine' TL_q (op_bin rfl rfl ?_) rfl ?_; rotate_left 1; (· (first | exact bin_add ⟨by omega, by omega⟩ | exact bin_eql | exact bin_lss))) | refine TL_q (op_nilCheck rfl) rfl ?_ | refine TL_q (op_len_slice rfl Try.underlying122) rfl ?_ | (refine' TL_q (op_idx ety_122 rfl rfl ?_) rfl ?_; (· omega)) | refine TL_q (op_fld rfl fld_63_0) rfl ?_ | refine TL_q (op_fld rfl fld_124_1) rfl ?_ | (refine' TL_q (op_ld rfl pl_3 ?_ ?_) rfl ?_; rotate_left 4; (· repeat ((first | assumption | exact List.mem_cons_self))); (· (first | assumption | rfl))) | (refine T_yes rfl ?_ ?_; (· (exact dT (by (omega))))) | (refine T_no rfl ?_ ?_; (· (exact dF (by (assumption)))))))
      refine TQ_roundS (k + 1) ⟨hlt, heq⟩ ?_ (fun w h => h) (by omega)
      (repeat ((first | exact trivial | refine ⟨rfl, ?_⟩)))
  · have hkn : k = l.length := by omega
    subst hkn
    rw [List.drop_length] at heq
    have h0 : Vd.hasB [] u = false := rfl
    rw [h0] at heq
    rw [heq]
    repeat ((first | with_reducible refine T_seq ?_ | with_reducible refine T_region ?_ | with_reducible refine TL_nil ?_ | with_reducible refine TQ_then ?_ | with_reducible refine T_exit ?_ | with_reducible refine T_ret ?_ | with_reducible refine TQ_then_exit ?_ | with_reducible refine TQ_block_exit ?_ | refine TL_q (op_move rfl) rfl ?_ | refine TL_q (op_assign rfl) rfl ?_ | (refine' TL_q (op_bin rfl rfl ?_) rfl ?_; rotate_left 1; (· (exact bin_lss))) | refine TL_q (op_nilCheck rfl) rfl ?_ | refine TL_q (op_len_slice rfl Try.underlying122) rfl ?_ | refine TL_q (op_fld rfl fld_124_1) rfl ?_ | (refine' TL_q (op_ld rfl pl_3 ?_ ?_) rfl ?_; rotate_left 4; (· repeat ((exact List.mem_cons_self))); (· (rfl))) | (refine T_no rfl ?_ ?_; (· (exact dF (by (omega)))))))
    refine TQ_ret1 4 _ rfl rfl ?_
    exact ⟨rfl, rfl⟩
set_option maxRecDepth 100000 in
set_option maxHeartbeats 2000000 in
theorem rPut_S {K : Blocks} (bb : Nat) (want : Int) (a : Option Addr) (c : Nat) (l : List Ballot) (B : Blocks) (cx : List Value) (x : Ballot) (hB : ORow ballotR 141 6 K a c l B) (hx : ballotR K cx x) (hn : l.length ≤ 100000) :
    Spec Try.prog G 73 #[.pointer (some ⟨bb, 0, none⟩), .agg cx.toArray] ((bb, Obj.cells #[.int .i64 want, .slice a l.length c] 124 (0, 0)) :: (B ++ L)) fun w M => w = .int .i64 (Vd.putB l x).2 ∧ ∃ a' c' B', ORow ballotR 141 6 K a' c' (Vd.putB l x).1 B' ∧ M = (bb, Obj.cells #[.int .i64 want, .slice a' (Vd.putB l x).1.length c'] 124 (0, 0)) :: (B' ++ L) := by
  have hx0 := hx
  obtain ⟨a1, c1, a2, c2, rfl, _, _, _, _, _, _, _, hup⟩ := hx0
  refine Spec_of (n := 32) Try.func73 rfl rfl rfl ?_
  by_cases h0 : x.v.up < 0 ∨ 9 ≤ x.v.up
  · have hp : Vd.putB l x = (l, 1) := if_pos h0
    rw [hp]
    rcases h0 with h0 | h0
    · repeat ((first | with_reducible refine T_seq ?_ | with_reducible refine T_region ?_ | with_reducible refine TL_nil ?_ | with_reducible refine TQ_then ?_ | with_reducible refine T_ret ?_ | with_reducible refine TQ_then_ret ?_ | refine TL_q (op_move rfl) rfl ?_ | refine TL_q (op_assign rfl) rfl ?_ | (refine' TL_q (op_bin rfl rfl ?_) rfl ?_; rotate_left 1; (· (exact bin_lss))) | (refine' TL_q (op_pickT rfl ?_ rfl) rfl ?_; (· (exact dT (by (assumption))))) | refine TL_q (op_fld rfl fld_63_0) rfl ?_ | (refine' TL_q (op_ld rfl pl_3 ?_ ?_) rfl ?_; rotate_left 4; (· repeat ((exact List.mem_cons_self))); (· (rfl))) | (refine TL_gno rfl rfl ?_ rfl ?_; (· (exact dT (by (assumption))))) | (refine TL_new (op_boxA rfl) rfl ?_; intro bBox) | (refine T_yes rfl ?_ ?_; (· (with_reducible rfl)))))
      refine TQ_heap (fun w h => h.tail) ?_
      refine TQ_ret1 4 _ rfl rfl ?_
      exact ⟨rfl, a, c, B, hB, rfl⟩
    · repeat ((first | with_reducible refine T_seq ?_ | with_reducible refine T_region ?_ | with_reducible refine TL_nil ?_ | with_reducible refine TQ_then ?_ | with_reducible refine T_ret ?_ | with_reducible refine TQ_then_ret ?_ | refine TL_q (op_move rfl) rfl ?_ | refine TL_q (op_assign rfl) rfl ?_ | (refine' TL_q (op_bin rfl rfl ?_) rfl ?_; rotate_left 1; (· (exact bin_lss))) | (refine' TL_q (op_pickF rfl ?_ rfl) rfl ?_; (· (exact dF (by (omega))))) | refine TL_q (op_fld rfl fld_63_0) rfl ?_ | (refine' TL_q (op_ld rfl pl_3 ?_ ?_) rfl ?_; rotate_left 4; (· repeat ((exact List.mem_cons_self))); (· (rfl))) | (refine TL_gpre rfl rfl ?_ ?_; (· (exact dF (by (omega))))) | (refine' TL_gq2 (op_bin rfl rfl ?_) rfl ?_; rotate_left 1; (· (exact bin_geq))) | refine TL_gq2 (op_fld rfl fld_63_0) rfl ?_ | (refine' TL_gq2 (op_ld rfl pl_3 ?_ ?_) rfl ?_; rotate_left 4; (· repeat ((exact List.mem_cons_self))); (· (rfl))) | (refine TL_new (op_boxA rfl) rfl ?_; intro bBox) | (refine T_yes rfl ?_ ?_; (· (exact dT (by (assumption)))))))
      refine TQ_heap (fun w h => h.tail) ?_
      refine TQ_ret1 4 _ rfl rfl ?_
      exact ⟨rfl, a, c, B, hB, rfl⟩
  · have hp : Vd.putB l x = if Vd.hasB l x.v.up then (l, 7) else (l ++ [x], 0) := if_neg h0
    rw [hp]
    repeat ((first | with_reducible refine T_seq ?_ | with_reducible refine T_region ?_ | with_reducible refine TL_nil ?_ | with_reducible refine TQ_then ?_ | with_reducible refine T_skip ?_ | refine TL_q (op_move rfl) rfl ?_ | refine TL_q (op_assign rfl) rfl ?_ | (refine' TL_q (op_bin rfl rfl ?_) rfl ?_; rotate_left 1; (· (exact bin_lss))) | (refine' TL_q (op_pickF rfl ?_ rfl) rfl ?_; (· (exact dF (by (omega))))) | refine TL_q (op_fld rfl fld_63_0) rfl ?_ | (refine' TL_q (op_ld rfl pl_3 ?_ ?_) rfl ?_; rotate_left 4; (· repeat ((exact List.mem_cons_self))); (· (rfl))) | (refine TL_gpre rfl rfl ?_ ?_; (· (exact dF (by (omega))))) | (refine' TL_gq2 (op_bin rfl rfl ?_) rfl ?_; rotate_left 1; (· (exact bin_geq))) | refine TL_gq2 (op_fld rfl fld_63_0) rfl ?_ | (refine' TL_gq2 (op_ld rfl pl_3 ?_ ?_) rfl ?_; rotate_left 4; (· repeat ((exact List.mem_cons_self))); (· (rfl))) | (refine TL_new (op_boxA rfl) rfl ?_; intro bBox) | (refine T_no rfl ?_ ?_; (· (exact dF (by (omega)))))))
    refine TL_opT (OpT.heap (L' := (bb, Obj.cells #[.int .i64 want, .slice a l.length c] 124 (0, 0)) :: (B ++ ((bBox, Obj.cells #[.int .i64 x.v.up, .int .u8 x.v.vd.code, .slice a1 x.v.vd.sets.length c1, .slice a2 x.v.vd.soa.length c2, .int .u32 x.v.time, .bool x.pass] 141 (0, 0)) :: L))) (fun w h => h.cnt (by intro p; (try simp only [cnt_append, cnt_cons, cnt_nil]) <;> omega)) (op_call hb_78 rfl (rHas_S bb want a c l B x.v.up hB))) rfl ?_
    rintro _ _ ⟨rfl, rfl⟩
    cases hh : Vd.hasB l x.v.up with
    | true =>
      rw [if_pos rfl]
      repeat ((first | with_reducible refine T_seq ?_ | with_reducible refine T_region ?_ | with_reducible refine TL_nil ?_ | with_reducible refine TQ_then ?_ | with_reducible refine T_ret ?_ | with_reducible refine TQ_then_ret ?_ | refine TL_q (op_assign rfl) rfl ?_ | (refine T_yes rfl ?_ ?_; (· (with_reducible rfl)))))
      refine TQ_heap (fun w h => h.cnt (L' := (bb, Obj.cells #[.int .i64 want, .slice a l.length c] 124 (0, 0)) :: (B ++ L)) (by intro p; (try simp only [cnt_append, cnt_cons, cnt_nil]) <;> omega)) ?_
      refine TQ_ret1 4 _ rfl rfl ?_
      exact ⟨rfl, a, c, B, hB, rfl⟩
    | false =>
      rw [if_neg (by simp)]
      repeat ((first | with_reducible refine T_seq ?_ | with_reducible refine TL_nil ?_ | with_reducible refine TQ_then ?_ | with_reducible refine T_skip ?_ | (refine T_no rfl ?_ ?_; (· (with_reducible rfl)))))
      refine T_cnt (L' := ((bBox, Obj.cells #[.int .i64 x.v.up, .int .u8 x.v.vd.code, .slice a1 x.v.vd.sets.length c1, .slice a2 x.v.vd.soa.length c2, .int .u32 x.v.time, .bool x.pass] 141 (0, 0)) :: ((bb, Obj.cells #[.int .i64 want, .slice a l.length c] 124 (0, 0)) :: (B ++ L)))) ?_ (by intro p; (try simp only [cnt_append, cnt_cons, cnt_nil]) <;> omega)
      have hKm : ∀ z ∈ [(bb, Obj.cells #[.int .i64 want, .slice a l.length c] 124 (0, 0)), (bBox, Obj.cells #[.int .i64 x.v.up, .int .u8 x.v.vd.code, .slice a1 x.v.vd.sets.length c1, .slice a2 x.v.vd.soa.length c2, .int .u32 x.v.time, .bool x.pass] 141 (0, 0))], z ∈ ((bBox, Obj.cells #[.int .i64 x.v.up, .int .u8 x.v.vd.code, .slice a1 x.v.vd.sets.length c1, .slice a2 x.v.vd.soa.length c2, .int .u32 x.v.time, .bool x.pass] 141 (0, 0)) :: ((bb, Obj.cells #[.int .i64 want, .slice a l.length c] 124 (0, 0)) :: (B ++ L))) := (mem_of_cnt (by intro p; (try simp only [cnt_append, cnt_cons, cnt_nil]) <;> omega))
      refine T_midK (σ := Option Addr × Nat × Blocks) (fun y => ORow ballotR 141 6 K y.1 y.2.1 ([] ++ l ++ [x]) y.2.2) (fun y => [(0, .pointer (some ⟨bb, 0, none⟩))]) (fun y => (bb, Obj.cells #[.int .i64 want, .slice y.1 ([] ++ l ++ [x]).length y.2.1] 124 (0, 0)) :: (y.2.2 ++ L)) ?_ ?_
      · clear hh
        refine T_draw follows_mixed ([(bb, Obj.cells #[.int .i64 want, .slice a l.length c] 124 (0, 0)), (bBox, Obj.cells #[.int .i64 x.v.up, .int .u8 x.v.vd.code, .slice a1 x.v.vd.sets.length c1, .slice a2 x.v.vd.soa.length c2, .int .u32 x.v.time, .bool x.pass] 141 (0, 0))]) [12] ?_
        (refine' TA_take 0 rfl rfl (by kernel_rfl) (quiet_q (op_move rfl)) ?_ ?_; (· (assumption)))
        (refine' TA_take 2 rfl rfl (by kernel_rfl) (quiet_q (op_move rfl)) ?_ ?_; (· (assumption)))
        (refine' TA_take 3 rfl rfl (by kernel_rfl) (quiet_q (op_nilCheck rfl)) ?_ ?_; (· (assumption)))
        (refine' TA_take 4 rfl rfl (by kernel_rfl) (quiet_q (op_fld rfl fld_124_1)) ?_ ?_; (· (assumption)))
        (refine' TA_take 5 rfl rfl (by kernel_rfl) (quiet_q (op_ld rfl pl_122 ?_ ?_)) ?_ ?_; rotate_left 4; (· repeat ((exact List.mem_cons_self))); (· (rfl)); (· (assumption)))
        (refine' TA_take 7 rfl rfl (by kernel_rfl) (quiet_q (op_ldAll rfl st_141 ?_ ?_)) ?_ ?_; rotate_left 3; (· repeat ((first | exact List.mem_cons_self | apply List.mem_cons_of_mem))); (· (rfl)); (· (assumption)))
        refine TA_two 1 8 (by kernel_rfl) ?_ ?_
        · refine Up_ofD rfl rfl rfl rfl (op_lit0 ety_122) ?_; rintro _ _ ⟨b0, rfl, rfl⟩; refine ⟨Or.inr (mem_of_cnt (by intro p; (try simp only [cnt_append, cnt_cons, cnt_nil]) <;> omega)), ?_⟩
          refine TA_two 6 8 (by kernel_rfl) ?_ ?_
          · refine Up_cnt (L' := [(b0, Obj.cells #[] 141 (0, 0))] ++ ((bBox, Obj.cells #[.int .i64 x.v.up, .int .u8 x.v.vd.code, .slice a1 x.v.vd.sets.length c1, .slice a2 x.v.vd.soa.length c2, .int .u32 x.v.time, .bool x.pass] 141 (0, 0)) :: ((bb, Obj.cells #[.int .i64 want, .slice a l.length c] 124 (0, 0)) :: (B ++ L)))) ?_ (by intro p; (try simp only [cnt_append, cnt_cons, cnt_nil]) <;> omega); refine Up_ofD rfl rfl rfl rfl (op_appendG2 (r := fun _ => ballotR K) (L0 := B) (l := []) (m := l) ety_122 rfl rfl rfl rfl ORow.made ((hB.imp (r' := fun _ => ballotR K) (L' := []) (fun cs x _ h => h)).sliceR mono_const (mem_of_cnt (by intro p; (try simp only [cnt_append, cnt_cons, cnt_nil]) <;> omega)) (mem_of_cnt (by intro p; (try simp only [cnt_append, cnt_cons, cnt_nil]) <;> omega))) (mem_of_cnt (by intro p; (try simp only [cnt_append, cnt_cons, cnt_nil]) <;> omega)) mono_const (fun cs y h => ballotR.one h) (by simp; omega) (by decide)) ?_; rintro _ _ ⟨a3, c3, B3, rfl, hB3, rfl⟩; refine ⟨Or.inr (mem_of_cnt (by intro p; (try simp only [cnt_append, cnt_cons, cnt_nil]) <;> omega)), ?_⟩
            refine TA_oneD 8 (by kernel_rfl) rfl rfl rfl rfl (op_litN ety_122 rfl rfl (by decide)) ?_; rintro _ _ ⟨bL, rfl, rfl⟩; refine ⟨Or.inr (mem_of_cnt (by intro p; (try simp only [cnt_append, cnt_cons, cnt_nil]) <;> omega)), ?_⟩
            refine TA_cnt (L' := (bL, Obj.cells #[.int .i64 x.v.up, .int .u8 x.v.vd.code, .slice a1 x.v.vd.sets.length c1, .slice a2 x.v.vd.soa.length c2, .int .u32 x.v.time, .bool x.pass] 141 (0, 0)) :: (B3 ++ ((bBox, Obj.cells #[.int .i64 x.v.up, .int .u8 x.v.vd.code, .slice a1 x.v.vd.sets.length c1, .slice a2 x.v.vd.soa.length c2, .int .u32 x.v.time, .bool x.pass] 141 (0, 0)) :: ((bb, Obj.cells #[.int .i64 want, .slice a l.length c] 124 (0, 0)) :: (B ++ L))))) ?_ (by intro p; (try simp only [cnt_append, cnt_cons, cnt_nil]) <;> omega); refine TA_oneD 9 (by kernel_rfl) rfl rfl rfl rfl (op_pushK (L0 := []) (r := ballotR K) (y := x) (l := [] ++ l) ety_122 rfl rfl (hB3.imp (L' := []) (fun cs x _ h => h)) (by rfl) (fun v hv => ballotR.one hx v hv) hx (by simp; omega) (by decide)) ?_; rintro _ _ ⟨a4, c4, B4, rfl, hB4, rfl⟩; refine ⟨Or.inr (mem_of_cnt (by intro p; (try simp only [cnt_append, cnt_cons, cnt_nil]) <;> omega)), ?_⟩
            (refine' TA_take 10 rfl rfl (by kernel_rfl) (quiet_q (op_nilCheck rfl)) ?_ ?_; (· (intro p hp; grind)))
            (refine' TA_take 11 rfl rfl (by kernel_rfl) (quiet_q (op_fld rfl fld_124_1)) ?_ ?_; (· (intro p hp; grind)))
            refine TA_cnt (L' := (bb, Obj.cells #[.int .i64 want, .slice a l.length c] 124 (0, 0)) :: (B4 ++ ((bBox, Obj.cells #[.int .i64 x.v.up, .int .u8 x.v.vd.code, .slice a1 x.v.vd.sets.length c1, .slice a2 x.v.vd.soa.length c2, .int .u32 x.v.time, .bool x.pass] 141 (0, 0)) :: (B ++ L)))) ?_ (by intro p; (try simp only [cnt_append, cnt_cons, cnt_nil]) <;> omega); refine TA_oneN 12 (by kernel_rfl) rfl rfl rfl (op_st (C' := #[.int .i64 want, .slice a4 ([] ++ l ++ [x]).length c4]) rfl rfl one_122 rfl rfl rfl) ?_; rintro _ _ ⟨_, rfl⟩; refine ⟨Or.inl (by simp), ?_⟩
            refine TA_done (by kernel_rfl) ?_
            refine TQ_mid (a4, c4, B4) (hB4.imp (r' := ballotR) (L' := K) (fun cs x _ h => h)) ?_ (fun w h => h.cnt (by intro p; (try simp only [cnt_append, cnt_cons, cnt_nil]) <;> omega))
            (repeat ((first | exact trivial | refine ⟨rfl, ?_⟩)))
          · refine Up_ofD rfl rfl rfl rfl (op_litN ety_122 rfl rfl (by decide)) ?_; rintro _ _ ⟨bL, rfl, rfl⟩; refine ⟨Or.inr (mem_of_cnt (by intro p; (try simp only [cnt_append, cnt_cons, cnt_nil]) <;> omega)), ?_⟩
            refine TA_cnt (L' := [(b0, Obj.cells #[] 141 (0, 0))] ++ ((bL, Obj.cells #[.int .i64 x.v.up, .int .u8 x.v.vd.code, .slice a1 x.v.vd.sets.length c1, .slice a2 x.v.vd.soa.length c2, .int .u32 x.v.time, .bool x.pass] 141 (0, 0)) :: ((bBox, Obj.cells #[.int .i64 x.v.up, .int .u8 x.v.vd.code, .slice a1 x.v.vd.sets.length c1, .slice a2 x.v.vd.soa.length c2, .int .u32 x.v.time, .bool x.pass] 141 (0, 0)) :: ((bb, Obj.cells #[.int .i64 want, .slice a l.length c] 124 (0, 0)) :: (B ++ L))))) ?_ (by intro p; (try simp only [cnt_append, cnt_cons, cnt_nil]) <;> omega); refine TA_oneD 6 (by kernel_rfl) rfl rfl rfl rfl (op_appendG2 (r := fun _ => ballotR K) (L0 := B) (l := []) (m := l) ety_122 rfl rfl rfl rfl ORow.made ((hB.imp (r' := fun _ => ballotR K) (L' := []) (fun cs x _ h => h)).sliceR mono_const (mem_of_cnt (by intro p; (try simp only [cnt_append, cnt_cons, cnt_nil]) <;> omega)) (mem_of_cnt (by intro p; (try simp only [cnt_append, cnt_cons, cnt_nil]) <;> omega))) (mem_of_cnt (by intro p; (try simp only [cnt_append, cnt_cons, cnt_nil]) <;> omega)) mono_const (fun cs y h => ballotR.one h) (by simp; omega) (by decide)) ?_; rintro _ _ ⟨a3, c3, B3, rfl, hB3, rfl⟩; refine ⟨Or.inr (mem_of_cnt (by intro p; (try simp only [cnt_append, cnt_cons, cnt_nil]) <;> omega)), ?_⟩
            refine TA_cnt (L' := (bL, Obj.cells #[.int .i64 x.v.up, .int .u8 x.v.vd.code, .slice a1 x.v.vd.sets.length c1, .slice a2 x.v.vd.soa.length c2, .int .u32 x.v.time, .bool x.pass] 141 (0, 0)) :: (B3 ++ ((bBox, Obj.cells #[.int .i64 x.v.up, .int .u8 x.v.vd.code, .slice a1 x.v.vd.sets.length c1, .slice a2 x.v.vd.soa.length c2, .int .u32 x.v.time, .bool x.pass] 141 (0, 0)) :: ((bb, Obj.cells #[.int .i64 want, .slice a l.length c] 124 (0, 0)) :: (B ++ L))))) ?_ (by intro p; (try simp only [cnt_append, cnt_cons, cnt_nil]) <;> omega); refine TA_oneD 9 (by kernel_rfl) rfl rfl rfl rfl (op_pushK (L0 := []) (r := ballotR K) (y := x) (l := [] ++ l) ety_122 rfl rfl (hB3.imp (L' := []) (fun cs x _ h => h)) (by rfl) (fun v hv => ballotR.one hx v hv) hx (by simp; omega) (by decide)) ?_; rintro _ _ ⟨a4, c4, B4, rfl, hB4, rfl⟩; refine ⟨Or.inr (mem_of_cnt (by intro p; (try simp only [cnt_append, cnt_cons, cnt_nil]) <;> omega)), ?_⟩
            (refine' TA_take 10 rfl rfl (by kernel_rfl) (quiet_q (op_nilCheck rfl)) ?_ ?_; (· (intro p hp; grind)))
            (refine' TA_take 11 rfl rfl (by kernel_rfl) (quiet_q (op_fld rfl fld_124_1)) ?_ ?_; (· (intro p hp; grind)))
            refine TA_cnt (L' := (bb, Obj.cells #[.int .i64 want, .slice a l.length c] 124 (0, 0)) :: (B4 ++ ((bBox, Obj.cells #[.int .i64 x.v.up, .int .u8 x.v.vd.code, .slice a1 x.v.vd.sets.length c1, .slice a2 x.v.vd.soa.length c2, .int .u32 x.v.time, .bool x.pass] 141 (0, 0)) :: (B ++ L)))) ?_ (by intro p; (try simp only [cnt_append, cnt_cons, cnt_nil]) <;> omega); refine TA_oneN 12 (by kernel_rfl) rfl rfl rfl (op_st (C' := #[.int .i64 want, .slice a4 ([] ++ l ++ [x]).length c4]) rfl rfl one_122 rfl rfl rfl) ?_; rintro _ _ ⟨_, rfl⟩; refine ⟨Or.inl (by simp), ?_⟩
            refine TA_done (by kernel_rfl) ?_
            refine TQ_mid (a4, c4, B4) (hB4.imp (r' := ballotR) (L' := K) (fun cs x _ h => h)) ?_ (fun w h => h.cnt (by intro p; (try simp only [cnt_append, cnt_cons, cnt_nil]) <;> omega))
            (repeat ((first | exact trivial | refine ⟨rfl, ?_⟩)))
        · refine Up_ofD rfl rfl rfl rfl (op_litN ety_122 rfl rfl (by decide)) ?_; rintro _ _ ⟨bL, rfl, rfl⟩; refine ⟨Or.inr (mem_of_cnt (by intro p; (try simp only [cnt_append, cnt_cons, cnt_nil]) <;> omega)), ?_⟩
          refine TA_oneD 1 (by kernel_rfl) rfl rfl rfl rfl (op_lit0 ety_122) ?_; rintro _ _ ⟨b0, rfl, rfl⟩; refine ⟨Or.inr (mem_of_cnt (by intro p; (try simp only [cnt_append, cnt_cons, cnt_nil]) <;> omega)), ?_⟩
          refine TA_cnt (L' := [(b0, Obj.cells #[] 141 (0, 0))] ++ ((bL, Obj.cells #[.int .i64 x.v.up, .int .u8 x.v.vd.code, .slice a1 x.v.vd.sets.length c1, .slice a2 x.v.vd.soa.length c2, .int .u32 x.v.time, .bool x.pass] 141 (0, 0)) :: ((bBox, Obj.cells #[.int .i64 x.v.up, .int .u8 x.v.vd.code, .slice a1 x.v.vd.sets.length c1, .slice a2 x.v.vd.soa.length c2, .int .u32 x.v.time, .bool x.pass] 141 (0, 0)) :: ((bb, Obj.cells #[.int .i64 want, .slice a l.length c] 124 (0, 0)) :: (B ++ L))))) ?_ (by intro p; (try simp only [cnt_append, cnt_cons, cnt_nil]) <;> omega); refine TA_oneD 6 (by kernel_rfl) rfl rfl rfl rfl (op_appendG2 (r := fun _ => ballotR K) (L0 := B) (l := []) (m := l) ety_122 rfl rfl rfl rfl ORow.made ((hB.imp (r' := fun _ => ballotR K) (L' := []) (fun cs x _ h => h)).sliceR mono_const (mem_of_cnt (by intro p; (try simp only [cnt_append, cnt_cons, cnt_nil]) <;> omega)) (mem_of_cnt (by intro p; (try simp only [cnt_append, cnt_cons, cnt_nil]) <;> omega))) (mem_of_cnt (by intro p; (try simp only [cnt_append, cnt_cons, cnt_nil]) <;> omega)) mono_const (fun cs y h => ballotR.one h) (by simp; omega) (by decide)) ?_; rintro _ _ ⟨a3, c3, B3, rfl, hB3, rfl⟩; refine ⟨Or.inr (mem_of_cnt (by intro p; (try simp only [cnt_append, cnt_cons, cnt_nil]) <;> omega)), ?_⟩
          refine TA_cnt (L' := (bL, Obj.cells #[.int .i64 x.v.up, .int .u8 x.v.vd.code, .slice a1 x.v.vd.sets.length c1, .slice a2 x.v.vd.soa.length c2, .int .u32 x.v.time, .bool x.pass] 141 (0, 0)) :: (B3 ++ ((bBox, Obj.cells #[.int .i64 x.v.up, .int .u8 x.v.vd.code, .slice a1 x.v.vd.sets.length c1, .slice a2 x.v.vd.soa.length c2, .int .u32 x.v.time, .bool x.pass] 141 (0, 0)) :: ((bb, Obj.cells #[.int .i64 want, .slice a l.length c] 124 (0, 0)) :: (B ++ L))))) ?_ (by intro p; (try simp only [cnt_append, cnt_cons, cnt_nil]) <;> omega); refine TA_oneD 9 (by kernel_rfl) rfl rfl rfl rfl (op_pushK (L0 := []) (r := ballotR K) (y := x) (l := [] ++ l) ety_122 rfl rfl (hB3.imp (L' := []) (fun cs x _ h => h)) (by rfl) (fun v hv => ballotR.one hx v hv) hx (by simp; omega) (by decide)) ?_; rintro _ _ ⟨a4, c4, B4, rfl, hB4, rfl⟩; refine ⟨Or.inr (mem_of_cnt (by intro p; (try simp only [cnt_append, cnt_cons, cnt_nil]) <;> omega)), ?_⟩
          (refine' TA_take 10 rfl rfl (by kernel_rfl) (quiet_q (op_nilCheck rfl)) ?_ ?_; (· (intro p hp; grind)))
          (refine' TA_take 11 rfl rfl (by kernel_rfl) (quiet_q (op_fld rfl fld_124_1)) ?_ ?_; (· (intro p hp; grind)))
          refine TA_cnt (L' := (bb, Obj.cells #[.int .i64 want, .slice a l.length c] 124 (0, 0)) :: (B4 ++ ((bBox, Obj.cells #[.int .i64 x.v.up, .int .u8 x.v.vd.code, .slice a1 x.v.vd.sets.length c1, .slice a2 x.v.vd.soa.length c2, .int .u32 x.v.time, .bool x.pass] 141 (0, 0)) :: (B ++ L)))) ?_ (by intro p; (try simp only [cnt_append, cnt_cons, cnt_nil]) <;> omega); refine TA_oneN 12 (by kernel_rfl) rfl rfl rfl (op_st (C' := #[.int .i64 want, .slice a4 ([] ++ l ++ [x]).length c4]) rfl rfl one_122 rfl rfl rfl) ?_; rintro _ _ ⟨_, rfl⟩; refine ⟨Or.inl (by simp), ?_⟩
          refine TA_done (by kernel_rfl) ?_
          refine TQ_mid (a4, c4, B4) (hB4.imp (r' := ballotR) (L' := K) (fun cs x _ h => h)) ?_ (fun w h => h.cnt (by intro p; (try simp only [cnt_append, cnt_cons, cnt_nil]) <;> omega))
          (repeat ((first | exact trivial | refine ⟨rfl, ?_⟩)))
      · rintro ⟨a4, c4, B4⟩ hB4
        dsimp only at hB4 ⊢
        rw [List.nil_append] at hB4 ⊢
        repeat ((first | with_reducible refine T_seq ?_ | with_reducible refine T_region ?_ | with_reducible refine TL_nil ?_ | with_reducible refine TQ_then ?_ | with_reducible refine T_ret ?_ | refine TL_q (op_assign rfl) rfl ?_))
        refine TQ_ret1 4 _ rfl rfl ?_
        exact ⟨rfl, a4, c4, B4, hB4, rfl⟩
end Go.Proofs.Ytdflhdfapnhjjaa
namespace Go.Proofs.Ytdflhdfapnhjjaa
open Go.RowKit
open Vd (RSet Vdt Vote Rec Quest Piece Ballot)
set_option linter.unusedVariables false
set_option linter.unusedSimpArgs false
--auto
variable {G : World} {L : Blocks}
set_option maxRecDepth 100000 in
theorem rCast_S {K : Blocks} (bb : Nat) (want : Int) (a : Option Addr) (c : Nat) (l : List Ballot) (B : Blocks) (cv : List Value) (v : Vote) (hB : ORow ballotR 141 6 K a c l B) (hv : voteR K cv v) (hn : l.length ≤ 100000) :
    Spec Try.prog G 48 #[.pointer (some ⟨bb, 0, none⟩), .agg cv.toArray] ((bb, Obj.cells #[.int .i64 want, .slice a l.length c] 124 (0, 0)) :: (B ++ L)) fun w M => w = .int .i64 (Vd.putB l ⟨v, false⟩).2 ∧ ∃ a' c' B', ORow ballotR 141 6 K a' c' (Vd.putB l ⟨v, false⟩).1 B' ∧ M = (bb, Obj.cells #[.int .i64 want, .slice a' (Vd.putB l ⟨v, false⟩).1.length c'] 124 (0, 0)) :: (B' ++ L) := by
  have hv0 := hv
  obtain ⟨a1, c1, a2, c2, rfl, _⟩ := hv0.vals
  refine Spec_of (n := 9) Try.func48 rfl rfl rfl ?_
  repeat ((first | with_reducible refine T_seq ?_ | with_reducible refine T_region ?_ | with_reducible refine TL_nil ?_ | with_reducible refine TQ_then ?_ | refine TL_q (op_move rfl) rfl ?_ | refine TL_q (op_assign rfl) rfl ?_ | (refine' TL_q (op_ldAll rfl st_63 ?_ ?_) rfl ?_; rotate_left 3; (· repeat ((exact List.mem_cons_self))); (· (rfl))) | (refine TL_new (op_boxA rfl) rfl ?_; intro bBox) | refine TL_q (op_build rfl (bl_141_0 _ _ _ _ _)) rfl ?_))
  refine TL_opT (OpT.heap (L' := (bb, Obj.cells #[.int .i64 want, .slice a l.length c] 124 (0, 0)) :: (B ++ ((bBox, Obj.cells #[.int .i64 v.up, .int .u8 v.vd.code, .slice a1 v.vd.sets.length c1, .slice a2 v.vd.soa.length c2, .int .u32 v.time] 63 (0, 0)) :: L))) (fun w h => h.cnt (by intro p; (try simp only [cnt_append, cnt_cons, cnt_nil]) <;> omega)) (op_call hb_73 rfl (rPut_S bb want a c l B _ ⟨v, false⟩ hB ⟨a1, c1, a2, c2, rfl, hv⟩ hn))) rfl ?_
  rintro _ _ ⟨rfl, a', c', B', hB', rfl⟩
  repeat ((first | with_reducible refine TL_nil ?_ | with_reducible refine TQ_then ?_ | with_reducible refine T_ret ?_ | refine TL_q (op_assign rfl) rfl ?_))
  refine TQ_heap (fun w h => h.cnt (L' := (bb, Obj.cells #[.int .i64 want, .slice a' (Vd.putB l ⟨v, false⟩).1.length c'] 124 (0, 0)) :: (B' ++ L)) (by intro p; (try simp only [cnt_append, cnt_cons, cnt_nil]) <;> omega)) ?_
  refine TQ_ret1 4 _ rfl rfl ?_
  exact ⟨rfl, a', c', B', hB', rfl⟩
theorem votesB_snoc (l : List Ballot) (y : Ballot) : Vd.votesB (l ++ [y]) = if y.pass then Vd.votesB l else Vd.votesB l ++ [y.v] := by
  unfold Vd.votesB
  rw [List.filter_append, List.map_append]
  cases hy : y.pass <;> simp [hy]
theorem votesB_len (l : List Ballot) : (Vd.votesB l).length ≤ l.length := by
  unfold Vd.votesB
  rw [List.length_map]
  exact List.length_filter_le _ _
set_option maxRecDepth 100000 in
set_option maxHeartbeats 2000000 in
theorem rVotes_S {K : Blocks} (bb : Nat) (want : Int) (a : Option Addr) (c : Nat) (l : List Ballot) (B : Blocks) (hB : ORow ballotR 141 6 K a c l B) (hn : l.length ≤ 100000) :
    Spec Try.prog G 57 #[.pointer (some ⟨bb, 0, none⟩)] ((bb, Obj.cells #[.int .i64 want, .slice a l.length c] 124 (0, 0)) :: (B ++ L)) fun w M => ∃ av cv Bv, w = .slice av (Vd.votesB l).length cv ∧ ORow voteR 63 5 K av cv (Vd.votesB l) Bv ∧ M = Bv ++ ((bb, Obj.cells #[.int .i64 want, .slice a l.length c] 124 (0, 0)) :: (B ++ L)) := by
  have hcap := hB.cap
  unfold maxLen at hcap
  refine Spec_of (n := 35) Try.func57 rfl rfl rfl ?_
  repeat ((first | with_reducible refine T_seq ?_ | with_reducible refine T_block ?_ | with_reducible refine T_region ?_ | with_reducible refine TL_nil ?_ | with_reducible refine TQ_then ?_ | refine TL_q (op_assign rfl) rfl ?_))
  refine T_loopS (σ := Nat × Option Addr × Nat × Blocks) (fun x => x.1 ≤ l.length ∧ ORow voteR 63 5 K x.2.1 x.2.2.1 (Vd.votesB (l.take x.1)) x.2.2.2) (fun x => [(0, .pointer (some ⟨bb, 0, none⟩)), (3, .slice x.2.1 (Vd.votesB (l.take x.1)).length x.2.2.1), (4, .int .i64 (x.1 : Nat))]) (fun x => x.2.2.2 ++ ((bb, Obj.cells #[.int .i64 want, .slice a l.length c] 124 (0, 0)) :: (B ++ L))) (fun x => l.length - x.1) (0, none, 0, []) ⟨Nat.zero_le _, ORow.nil _⟩ ?_ (fun w h => h) ?_
  (repeat ((first | exact trivial | refine ⟨rfl, ?_⟩)))
  rintro ⟨k, av, cv, Bv⟩ ⟨hk, hV⟩
  dsimp only at hk hV ⊢
  have hvl := votesB_len (l.take k)
  rw [List.length_take] at hvl
  have hmb : (bb, Obj.cells #[.int .i64 want, .slice a l.length c] 124 (0, 0)) ∈ Bv ++ ((bb, Obj.cells #[.int .i64 want, .slice a l.length c] 124 (0, 0)) :: (B ++ L)) := by simp
  by_cases hlt : k < l.length
  · obtain ⟨b2, cur, rfl, hBe, _, _, _, hcur⟩ := hB.block (fun e => by rw [e] at hlt; simp at hlt)
    obtain ⟨y, hy⟩ : ∃ y, l[k]? = some y := ⟨_, List.getElem?_eq_getElem hlt⟩
    have htk : Vd.votesB (l.take (k + 1)) = if y.pass then Vd.votesB (l.take k) else Vd.votesB (l.take k) ++ [y.v] := by rw [List.take_add_one, hy]; exact votesB_snoc _ _
    obtain ⟨cs, _, ⟨a1, c1, a2, c2, rfl, hyv⟩, _, hcs⟩ := hcur k y hy
    have g5 : cur[0 + k * 6 + 5]? = some (.bool y.pass) := by rw [Nat.zero_add]; exact hcs 5 _ rfl
    have hmem : (b2, Obj.cells cur 141 (0, 0)) ∈ Bv ++ ((bb, Obj.cells #[.int .i64 want, .slice (some ⟨b2, 0, none⟩) l.length c] 124 (0, 0)) :: (B ++ L)) := by rw [hBe]; simp
    cases hp : y.pass with
    | true =>
      rw [hp] at g5
      rw [hp, if_pos rfl] at htk
      repeat ((first | with_reducible refine T_seq ?_ | with_reducible refine T_block ?_ | with_reducible refine T_region ?_ | with_reducible refine TL_nil ?_ | with_reducible refine TQ_then ?_ | with_reducible refine TQ_block ?_ | with_reducible refine T_skip ?_ | refine TL_q (op_move rfl) rfl ?_ | refine TL_q (op_assign rfl) rfl ?_ | (refine' TL_q (op_bin rfl rfl ?_) rfl ?_; rotate_left 1; (· (first | exact bin_add ⟨by omega, by omega⟩ | exact bin_lss))) | refine TL_q (op_not rfl) rfl ?_ | refine TL_q (op_nilCheck rfl) rfl ?_ | refine TL_q (op_len_slice rfl Try.underlying122) rfl ?_ | (refine' TL_q (op_idx ety_122 rfl rfl ?_) rfl ?_; (· omega)) | refine TL_q (op_fld rfl fld_124_1) rfl ?_ | refine TL_q (op_fld rfl fld_141_1) rfl ?_ | (refine' TL_q (op_ld rfl pl_4 ?_ ?_) rfl ?_; rotate_left 4; (· repeat ((assumption))); (· (first | assumption | rfl))) | (refine T_yes rfl ?_ ?_; (· (exact dT (by (first | assumption | omega))))) | (refine T_no rfl ?_ ?_; (· (exact Bool.not_true)))))
      refine TQ_roundS (k + 1, av, cv, Bv) ⟨hlt, by dsimp only; rw [htk]; exact hV⟩ ?_ (fun w h => h) (by dsimp only; omega)
      dsimp only
      rw [htk]
      (repeat (first | exact trivial | refine ⟨rfl, ?_⟩))
    | false =>
      rw [hp] at g5
      rw [hp, if_neg (by simp)] at htk
      have hcs5 : ∀ j u, ([.int .i64 y.v.up, .int .u8 y.v.vd.code, .slice a1 y.v.vd.sets.length c1, .slice a2 y.v.vd.soa.length c2, .int .u32 y.v.time] : List Value)[j]? = some u → cur[0 + k * 6 + 0 + j]? = some u := fun j u hj => by
        rw [Nat.zero_add]
        refine hcs j u ?_
        have hj5 := (List.getElem?_eq_some_iff.1 hj).1
        match j, hj with
        | 0, hj => exact hj
        | 1, hj => exact hj
        | 2, hj => exact hj
        | 3, hj => exact hj
        | 4, hj => exact hj
      repeat ((first | with_reducible refine T_seq ?_ | with_reducible refine T_block ?_ | with_reducible refine T_region ?_ | with_reducible refine TL_nil ?_ | with_reducible refine TQ_then ?_ | with_reducible refine T_skip ?_ | refine TL_q (op_move rfl) rfl ?_ | (refine' TL_q (op_bin rfl rfl ?_) rfl ?_; rotate_left 1; (· (exact bin_lss))) | refine TL_q (op_not rfl) rfl ?_ | refine TL_q (op_nilCheck rfl) rfl ?_ | refine TL_q (op_len_slice rfl Try.underlying122) rfl ?_ | (refine' TL_q (op_idx ety_122 rfl rfl ?_) rfl ?_; (· omega)) | refine TL_q (op_fld rfl fld_124_1) rfl ?_ | refine TL_q (op_fld rfl fld_141_0) rfl ?_ | refine TL_q (op_fld rfl fld_141_1) rfl ?_ | (refine' TL_q (op_ld rfl pl_4 ?_ ?_) rfl ?_; rotate_left 4; (· repeat ((assumption))); (· (first | assumption | rfl))) | (refine T_yes rfl ?_ ?_; (· (first | exact Bool.not_false | exact dT (by (omega)))))))
      refine TL_q (op_ldA [.int .i64 y.v.up, .int .u8 y.v.vd.code, .slice a1 y.v.vd.sets.length c1, .slice a2 y.v.vd.soa.length c2, .int .u32 y.v.time] rfl st_63 hmem hcs5) rfl ?_
      repeat ((refine TL_new (op_litN ety_50 rfl rfl (by decide)) rfl ?_; intro bLit))
      refine TL_opT (op_pushK (L0 := []) (r := voteR K) (cs := [.int .i64 y.v.up, .int .u8 y.v.vd.code, .slice a1 y.v.vd.sets.length c1, .slice a2 y.v.vd.soa.length c2, .int .u32 y.v.time]) (y := y.v) ety_50 rfl rfl (hV.imp (L' := []) (fun cs x _ h => h)) rfl (fun v hv => voteR.one hyv v hv) hyv (by omega) (by decide)) rfl ?_
      rintro _ _ ⟨a', c', B', rfl, hB', rfl⟩
      repeat ((first | with_reducible refine T_region ?_ | with_reducible refine TL_nil ?_ | with_reducible refine TQ_then ?_ | with_reducible refine TQ_block ?_ | refine TL_q (op_move rfl) rfl ?_ | refine TL_q (op_assign rfl) rfl ?_ | (refine' TL_q (op_bin rfl rfl ?_) rfl ?_; rotate_left 1; (· (exact bin_add ⟨by omega, by omega⟩)))))
      refine TQ_roundS (k + 1, a', c', B') ⟨hlt, by dsimp only; rw [htk]; exact hB'.imp (r' := voteR) (L' := K) (fun cs x _ h => h)⟩ ?_ (fun w h => h) (by dsimp only; omega)
      dsimp only
      rw [htk]
      (repeat ((first | exact trivial | refine ⟨rfl, ?_⟩)))
  · have hkn : k = l.length := by omega
    subst hkn
    rw [List.take_length] at hV ⊢
    repeat ((first | with_reducible refine T_seq ?_ | with_reducible refine T_region ?_ | with_reducible refine TL_nil ?_ | with_reducible refine TQ_then ?_ | with_reducible refine T_exit ?_ | with_reducible refine T_ret ?_ | with_reducible refine TQ_then_exit ?_ | with_reducible refine TQ_block_exit ?_ | refine TL_q (op_move rfl) rfl ?_ | refine TL_q (op_assign rfl) rfl ?_ | (refine' TL_q (op_bin rfl rfl ?_) rfl ?_; rotate_left 1; (· (exact bin_lss))) | refine TL_q (op_nilCheck rfl) rfl ?_ | refine TL_q (op_len_slice rfl Try.underlying122) rfl ?_ | refine TL_q (op_fld rfl fld_124_1) rfl ?_ | (refine' TL_q (op_ld rfl pl_4 ?_ ?_) rfl ?_; rotate_left 4; (· repeat ((assumption))); (· (rfl))) | (refine T_no rfl ?_ ?_; (· (exact dF (by (omega)))))))
    refine TQ_ret1 2 _ rfl rfl ?_
    exact ⟨av, cv, Bv, rfl, hV, rfl⟩
end Go.Proofs.Ytdflhdfapnhjjaa
namespace Go.Proofs.Ytdflhdfapnhjjaa
open Go.RowKit
open Vd (RSet Vdt Vote Rec Quest Piece Ballot)
set_option linter.unusedVariables false
set_option linter.unusedSimpArgs false
def slipCells (f : Int → Int × Int) : List Value := [.int .u8 (f 0).1, .int .i64 (f 0).2, .int .u8 (f 1).1, .int .i64 (f 1).2, .int .u8 (f 2).1, .int .i64 (f 2).2, .int .u8 (f 3).1, .int .i64 (f 3).2, .int .u8 (f 4).1, .int .i64 (f 4).2, .int .u8 (f 5).1, .int .i64 (f 5).2, .int .u8 (f 6).1, .int .i64 (f 6).2, .int .u8 (f 7).1, .int .i64 (f 7).2, .int .u8 (f 8).1, .int .i64 (f 8).2]
def boxC (want : Int) (f : Int → Int × Int) (v : Value) : List Value := .int .i64 want :: (slipCells f ++ [v])
theorem boxC_len {want : Int} {f : Int → Int × Int} {v : Value} : (boxC want f v).toArray.size = 20 := rfl
theorem boxC_kind {want : Int} {f : Int → Int × Int} {v : Value} {u : Int} (h : 0 ≤ u ∧ u < 9) : (boxC want f v).toArray[1 + u.toNat * 2 + 0]? = some (.int .u8 (f u).1) := by
  obtain ⟨n, rfl⟩ : ∃ n : Nat, u = n := ⟨u.toNat, by omega⟩
  have hn : n < 9 := by omega
  match n, hn with
  | 0, _ | 1, _ | 2, _ | 3, _ | 4, _ | 5, _ | 6, _ | 7, _ | 8, _ => rfl
theorem boxC_first {want : Int} {f : Int → Int × Int} {v : Value} {u : Int} (h : 0 ≤ u ∧ u < 9) : (boxC want f v).toArray[1 + u.toNat * 2 + 1]? = some (.int .i64 (f u).2) := by
  obtain ⟨n, rfl⟩ : ∃ n : Nat, u = n := ⟨u.toNat, by omega⟩
  have hn : n < 9 := by omega
  match n, hn with
  | 0, _ | 1, _ | 2, _ | 3, _ | 4, _ | 5, _ | 6, _ | 7, _ | 8, _ => rfl
def upd (f : Int → Int × Int) (u : Int) (x : Int × Int) : Int → Int × Int := fun w => if w = u then x else f w
theorem boxC_put {want : Int} {f : Int → Int × Int} {v : Value} {u : Int} (h : 0 ≤ u ∧ u < 9) (x : Int × Int) : putAt (boxC want f v).toArray (1 + u.toNat * 2) [.int .u8 x.1, .int .i64 x.2] = (boxC want (upd f u x) v).toArray := by
  obtain ⟨n, rfl⟩ : ∃ n : Nat, u = n := ⟨u.toNat, by omega⟩
  have hn : n < 9 := by omega
  match n, hn with
  | 0, _ | 1, _ | 2, _ | 3, _ | 4, _ | 5, _ | 6, _ | 7, _ | 8, _ => simp [putAt, boxC, slipCells, upd]
theorem upd_slip {l : List Ballot} (h : BoxOk l) {x : Ballot} (hx : Vd.hasB l x.v.up = false) (hb : 0 ≤ x.v.up ∧ x.v.up < 9) : slipOf (l ++ [x]) = upd (slipOf l) x.v.up (if x.pass then ((1, 0) : Int × Int) else (2, (firstOf (Vd.votesB l) x.v.vd : Int))) := by
  funext u
  rw [slip_snoc h hx hb _ rfl (votesB_snoc l x) u]
  rfl
/-- A box of the program's: at a place, with ballots; data in K. -/
def TBox (K : Blocks) (bb : Nat) (want : Int) (l : List Ballot) (M : Blocks) : Prop := ∃ a c B, ORow voteR 46 5 K a c (Vd.votesB l) B ∧ M = (bb, Obj.cells (boxC want (slipOf l) (.slice a (Vd.votesB l).length c)).toArray 100 (0, 0)) :: B
/-- A box of the document's. -/
def RBox (K : Blocks) (bb : Nat) (want : Int) (l : List Ballot) (M : Blocks) : Prop := ∃ a c B, ORow ballotR 141 6 K a c l B ∧ M = (bb, Obj.cells #[.int .i64 want, .slice a l.length c] 124 (0, 0)) :: B
theorem TBox.mono {K K' : Blocks} (hK : ∀ p ∈ K, p ∈ K') {bb : Nat} {want : Int} {l : List Ballot} {M : Blocks} (h : TBox K bb want l M) : TBox K' bb want l M := by
  obtain ⟨a, c, B, h1, h2⟩ := h
  exact ⟨a, c, B, h1.mono mono_vote hK, h2⟩
theorem RBox.mono {K K' : Blocks} (hK : ∀ p ∈ K, p ∈ K') {bb : Nat} {want : Int} {l : List Ballot} {M : Blocks} (h : RBox K bb want l M) : RBox K' bb want l M := by
  obtain ⟨a, c, B, h1, h2⟩ := h
  exact ⟨a, c, B, h1.mono mono_ballot hK, h2⟩
end Go.Proofs.Ytdflhdfapnhjjaa
