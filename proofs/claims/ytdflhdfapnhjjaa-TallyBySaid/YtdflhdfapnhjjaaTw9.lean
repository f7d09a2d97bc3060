/-
  Part 9: Te OpM OpT Tf Tc Td.
-/
import Derived.Test.YtdflhdfapnhjjaaTw8
import Derived.Test.YtdflhdfapnhjjaaTw7
import Derived.Test.YtdflhdfapnhjjaaTw1
namespace Go.Proofs.Ytdflhdfapnhjjaa
open Go.RowKit
open Vd (RSet Vdt Vote Rec Quest Piece Ballot)
set_option linter.unusedVariables false
set_option linter.unusedSimpArgs false
--auto
variable {G : World} {L : Blocks}
theorem any_eq {l : List Int} {x : Int} : l.any (fun y => y == x) = decide (x ∈ l) := by
  rw [Bool.eq_iff_iff, List.any_eq_true, decide_eq_true_eq]
  constructor
  · rintro ⟨y, hy, h⟩
    rw [← (beq_iff_eq.1 h)]
    exact hy
  · intro h
    exact ⟨x, h, by simp⟩
theorem any_take {l : List Int} {k : Nat} {y x : Int} (hy : l[k]? = some y) : (l.take (k + 1)).any (fun z => z == x) = ((l.take k).any (fun z => z == x) || y == x) := by
  rw [List.take_add_one, hy, List.any_append]
  simp
set_option maxRecDepth 100000 in
set_option maxHeartbeats 4000000 in
theorem tallyBy_S (want : Int) (v : Value) (l : List TAct) (hl : sliceR 30 actR L [v] l) : Spec Try.prog G 10 #[.int .i64 want, v] L fun u M => u = .bool true ∧ M = L := by
  obtain ⟨al, cl, e1, hl0⟩ := hl.val
  simp only [List.cons.injEq, and_true] at e1
  subst e1
  refine Spec_of (n := 187) Try.func10 rfl rfl rfl ?_
  repeat ((first | with_reducible refine T_seq ?_ | with_reducible refine T_region ?_ | with_reducible refine TL_nil ?_ | with_reducible refine TQ_then ?_ | refine TL_q (op_move rfl) rfl ?_ | refine TL_q (op_assign rfl) rfl ?_))
  refine TL_opT (op_call hb_31 rfl (long21_S _ l hl0)) rfl ?_
  rintro _ _ ⟨b, rfl, hM, hb⟩
  rw [hM]
  clear hM
  cases b with
  | true =>
    repeat ((first | with_reducible refine T_seq ?_ | with_reducible refine T_region ?_ | with_reducible refine TL_nil ?_ | with_reducible refine TQ_then ?_ | with_reducible refine T_ret ?_ | with_reducible refine TQ_then_ret ?_ | refine TL_q (op_move rfl) rfl ?_ | refine TL_q (op_assign rfl) rfl ?_ | (refine' TL_q (op_pickT rfl ?_ rfl) rfl ?_; (· (with_reducible rfl))) | (refine' TL_op (op_call hb_32 rfl (awake21_S )) rfl ?_) | (refine TL_gno rfl rfl ?_ rfl ?_; (· (exact Bool.not_false))) | (refine T_yes rfl ?_ ?_; (· (with_reducible rfl)))))
    refine TQ_ret1 4 _ rfl rfl ?_
    exact ⟨rfl, rfl⟩
  | false =>
  obtain ⟨hn, hsm⟩ := hb rfl
  repeat ((first | with_reducible refine T_seq ?_ | with_reducible refine T_region ?_ | with_reducible refine TL_nil ?_ | with_reducible refine TQ_then ?_ | with_reducible refine T_skip ?_ | refine TL_q (op_move rfl) rfl ?_ | (refine' TL_q (op_pickF rfl ?_ rfl) rfl ?_; (· (with_reducible rfl))) | (refine' TG_op (op_call hb_32 rfl (awake21_S )) rfl ?_) | (refine TL_gpre rfl rfl ?_ ?_; (· (with_reducible rfl))) | refine TL_gq2 (op_not rfl) rfl ?_ | (refine T_no rfl ?_ ?_; (· (exact Bool.not_true)))))
  refine TL_opT (op_call hb_34 rfl (made21_S (K := L) want _ l hl0.const (fun p h => h) hsm)) rfl ?_
  rintro _ _ ⟨bb, X, rfl, hX, rfl⟩
  obtain ⟨hw1, hw9⟩ := wantOf_bd want
  obtain ⟨w, hw⟩ : ∃ w, wantOf want = w := ⟨_, rfl⟩
  obtain ⟨bal, hbal⟩ : ∃ b, l.foldl doesB [] = b := ⟨_, rfl⟩
  rw [hw, hbal] at hX
  rw [hw] at hw1 hw9 ⊢
  have hup := hX.1.ok.vup
  have hcode := hX.wonCode w
  have hvc := hX.code
  have hWon := pWon_B (G := G) (L := X ++ L) hX (mem_of_cnt (by intro p; (try simp only [cnt_append, cnt_cons, cnt_nil]) <;> omega))
  have hwp : ∀ vs, wonP w vs = wonR w vs := fun vs => if_neg (by omega)
  have hag : ∀ vs, (if w < 1 then [] else againstR w vs) = againstR w vs := fun vs => if_neg (by omega)
  rw [hwp] at hWon
  have hVotes := fun (L' : Blocks) (h : ∀ p ∈ X, p ∈ L') => pVotes_B (G := G) (L := L') hX h
  have hAg := fun (L' : Blocks) (h : ∀ p ∈ X, p ∈ L') => pAgainst_B (G := G) (L := L') hX h
  have hMost := fun (L' : Blocks) (h : ∀ p ∈ X, p ∈ L') => pMost_B (G := G) (L := L') hX h
  obtain ⟨vs, hvs⟩ : ∃ vs, Vd.votesB bal = vs := ⟨_, rfl⟩
  simp only [hvs, hag] at hWon hVotes hAg hMost hup hcode hvc
  repeat ((first | with_reducible refine T_seq ?_ | with_reducible refine T_region ?_ | with_reducible refine TL_nil ?_ | with_reducible refine TQ_then ?_ | refine TL_q (op_move rfl) rfl ?_ | refine TL_q (op_assign rfl) rfl ?_ | refine TL_q (op_extract rfl rfl) rfl ?_))
  refine TL_opT (op_call hb_35 rfl hWon) rfl ?_
  have hor := won_or hw1 vs
  have hiff := won_iff hw1 vs
  have hagm := fun h {x} hx => against_mem (want := w) (x := x) hup h hx
  have hagl := againstR_len (want := w) vs hup
  have hagn : (wonR w vs).2.2.2 = false → againstR w vs = [] := fun h => by unfold againstR; rw [h]; rfl
  obtain ⟨r, hr⟩ : ∃ r, wonR w vs = r := ⟨_, rfl⟩
  rw [hr] at hiff hagm hagl hagn hcode ⊢
  rintro _ _ ⟨a, c, B, a2, c2, B2, a3, c3, B3, N, rfl, hB, hB2, hB3, hN, rfl⟩
  repeat ((first | with_reducible refine T_seq ?_ | with_reducible refine T_region ?_ | with_reducible refine TL_nil ?_ | with_reducible refine TQ_then ?_ | refine TL_q (op_move rfl) rfl ?_ | refine TL_q (op_assign rfl) rfl ?_ | refine TL_q (op_extract rfl rfl) rfl ?_ | (refine TL_stAll rfl rfl st_42 rfl rfl rfl ?_) | (refine TL_new (op_alloc (C := #[(.int .u8 0), (.slice none 0 0), (.slice none 0 0)]) zero_42 rfl) rfl ?_; intro bNew)))
  obtain ⟨b7, hb7⟩ : ∃ b, bNew = b := ⟨_, rfl⟩
  rw [hb7]
  clear hb7 bNew
  refine TL_opT (op_call hb_39 rfl (hVotes _ (mem_of_cnt (by intro p; (try simp only [cnt_append, cnt_cons, cnt_nil]) <;> omega)))) rfl ?_
  rintro _ _ ⟨aV, cV, BV, NV, rfl, hBV, hNV, rfl⟩
  repeat ((first | with_reducible refine T_seq ?_ | with_reducible refine T_region ?_ | with_reducible refine TL_nil ?_ | with_reducible refine TQ_then ?_ | refine TL_q (op_move rfl) rfl ?_ | refine TL_q (op_assign rfl) rfl ?_))
  refine TL_opT (op_call hb_40 rfl (hAg _ (mem_of_cnt (by intro p; (try simp only [cnt_append, cnt_cons, cnt_nil]) <;> omega)))) rfl ?_
  rintro _ _ ⟨aA, cA, BA, rfl, hBA, rfl⟩
  have hcapV := hBV.cap
  have hcap3 := hB3.cap
  have hcapA := hBA.cap
  unfold maxLen at hcapV hcap3 hcapA
  have hl9 := hup.len
  cases his : r.2.2.2 with
  | false =>
    obtain ⟨_, hnone⟩ : wonAt w vs vs.length = none ∧ wonR w vs = (Vdt.none, 0, [], false) := by
      rcases hor with h | ⟨j, x, h⟩
      · exact h
      · have := h.is
        rw [hr] at this
        rw [this] at his
        cases his
    rw [hr] at hnone
    have hmost : ¬ w ≤ mostR vs := by
      rw [his] at hiff
      simpa using hiff
    have h0 := hagn his
    rw [h0] at hBA ⊢
    obtain ⟨v0, t0, by0, is0⟩ := r
    simp only [Prod.mk.injEq] at hnone
    obtain ⟨rfl, rfl, rfl, rfl⟩ := hnone
    dsimp only at hB hB2 hB3 hcap3 ⊢
    have hl0 : ((([] : List Int).length : Nat) : Int) = 0 := rfl
    have d1 : decide (Vdt.none = Vdt.none) = true := by simp
    repeat ((first | with_reducible refine T_seq ?_ | with_reducible refine T_region ?_ | with_reducible refine TL_nil ?_ | with_reducible refine TQ_then ?_ | refine TL_q (op_move rfl) rfl ?_ | refine TL_q (op_assign rfl) rfl ?_ | (refine' TL_q (op_bin rfl rfl ?_) rfl ?_; rotate_left 1; (· (exact bin_eql))) | refine TL_q (op_not rfl) rfl ?_ | (refine' TL_q (op_pickT rfl ?_ rfl) rfl ?_; (· (assumption))) | (refine TL_gpre rfl rfl ?_ ?_; (· (assumption))) | refine TL_gq2 (op_move rfl) rfl ?_ | (refine' TL_gq2 (op_bin rfl rfl ?_) rfl ?_; rotate_left 1; (· (first | exact bin_add ⟨by omega, by omega⟩ | exact bin_eql))) | refine TL_gq2 (op_len_slice rfl Try.underlying79) rfl ?_ | (refine' TL_gq2 (op_ldAll rfl st_42 ?_ ?_) rfl ?_; rotate_left 3; (· repeat ((first | exact List.mem_cons_self | apply List.mem_append_right))); (· (rfl))) | refine TL_gq2 (op_build rfl (bl_42_ )) rfl ?_ | (refine T_yes rfl ?_ ?_; (· (assumption)))))
    refine TG_op (op_call hb_23 rfl (vSame_S [.int .u8 0, .slice a Vdt.none.sets.length c, .slice a2 Vdt.none.soa.length c2] [.int .u8 0, .slice none 0 0, .slice none 0 0] Vdt.none Vdt.none ⟨_, _, rfl, hB.sliceR mono_set (mem_of_cnt (by intro p; (try simp only [cnt_append, cnt_cons, cnt_nil]) <;> omega)) (mem_of_cnt (by intro p; (try simp only [cnt_append, cnt_cons, cnt_nil]) <;> omega)), hB2.sliceR mono_set (mem_of_cnt (by intro p; (try simp only [cnt_append, cnt_cons, cnt_nil]) <;> omega)) (mem_of_cnt (by intro p; (try simp only [cnt_append, cnt_cons, cnt_nil]) <;> omega)), by show (0 : Int) ≤ 0 ∧ (0 : Int) ≤ 255; decide⟩ ⟨_, _, rfl, sliceR.nil, sliceR.nil, by show (0 : Int) ≤ 0 ∧ (0 : Int) ≤ 255; decide⟩)) rfl ?_
    repeat ((first | refine TL_q (op_move rfl) rfl ?_ | (refine' TL_q (op_pickT rfl ?_ rfl) rfl ?_; (· (assumption))) | (refine TL_gpre rfl rfl ?_ ?_; (· (assumption))) | refine TL_gq2 (op_move rfl) rfl ?_))
    refine TG_op (op_call hb_36 rfl (hMost _ (mem_of_cnt (by intro p; (try simp only [cnt_append, cnt_cons, cnt_nil]) <;> omega)))) rfl ?_
    repeat ((first | with_reducible refine TL_nil ?_ | with_reducible refine TQ_then ?_ | with_reducible refine T_ret ?_ | with_reducible refine TQ_then_ret ?_ | refine TL_q (op_assign rfl) rfl ?_ | (refine' TL_q (op_pickT rfl ?_ rfl) rfl ?_; (· (assumption))) | (refine TL_gpre rfl rfl ?_ ?_; (· (assumption))) | refine TL_gq2 (op_move rfl) rfl ?_ | (refine' TL_gq2 (op_bin rfl rfl ?_) rfl ?_; rotate_left 1; (· (exact bin_lss)))))
    refine TQ_cnt (L' := L) ?_ (by intro p; (try simp only [cnt_append, cnt_cons, cnt_nil]) <;> omega)
    refine TQ_ret1 4 _ rfl rfl ?_
    exact ⟨by rw [decide_eq_true (by omega)], rfl⟩
  | true =>
    obtain ⟨j, x, hk⟩ : ∃ j x, WonBy w vs j x := by
      rcases hor with ⟨_, h⟩ | h
      · rw [hr] at h
        rw [h] at his
        cases his
      · exact h
    have hkis := hk.is
    rw [hr] at hkis
    have hmost : w ≤ mostR vs := by
      rw [his] at hiff
      simpa using hiff
    have hupW : Vup (withV (vs.take (j + 1)) x.vd) := (hup.take _).filter _
    have hby : ∀ y ∈ vs, y.up ∈ r.2.2.1 ↔ y ∈ vs.take (j + 1) ∧ y.vd = r.1 := fun y hy => by rw [hkis]; exact by_mem hup hy
    have hblen : ((r.2.2.1.length : Nat) : Int) = w := by
      rw [hkis]
      dsimp only
      rw [rising_len hupW.nd hupW.ups, List.length_map]
      exact hk.len
    have hbrise : r.2.2.1.Pairwise (· < ·) := by
      rw [hkis]
      exact rising_lt hupW.nd
    have hagm' := fun {y} (hy : y ∈ vs) => hagm his hy
    have hagl' := hagl his
    have hle : ∀ y ∈ vs, y.up ∈ r.2.2.1 → r.2.1 ≤ y.time := fun y hy h => by
      have h2 := (hby y hy).1 h
      rw [hkis] at h2 ⊢
      exact timeP_le (withV_mem.2 h2)
    have hin : ∃ y ∈ vs, y.up ∈ r.2.2.1 ∧ r.2.1 = y.time := by
      obtain ⟨y, hy, ht⟩ := timeP_in (l := withV (vs.take (j + 1)) x.vd) (fun e => by have := hk.len; rw [e] at this; simp at this; omega)
      obtain ⟨h1, h2⟩ := withV_mem.1 hy
      have hyv := List.mem_of_mem_take h1
      exact ⟨y, hyv, (hby y hyv).2 ⟨h1, by rw [hkis]; exact h2⟩, by rw [hkis]; exact ht⟩
    have hcnt : (againstR w vs).length + r.2.2.1.length ≤ vs.length := by
      rw [hagl']
      have h1 : (vs.filter fun y => decide (y.vd = r.1)).length + (vs.filter fun y => !decide (y.vd = r.1)).length = vs.length := by
        have := List.length_eq_countP_add_countP (l := vs) (p := fun y => decide (y.vd = r.1))
        rw [List.countP_eq_length_filter, List.countP_eq_length_filter] at this
        simp only [decide_not, Bool.not_eq_true, decide_eq_false_iff_not] at this ⊢
        omega
      have h2 := withV_take_le vs (j + 1) x.vd
      have h3 := hk.len
      have h4 : (vs.filter fun y => decide (y.vd = r.1)).length = (withV vs x.vd).length := by rw [hkis]; rfl
      omega
    have hvp : vs ≠ [] := fun e => by
      obtain ⟨y, hy, _⟩ := hin
      rw [e] at hy
      simp at hy
    obtain ⟨ag, hage⟩ : ∃ g, againstR w vs = g := ⟨_, rfl⟩
    rw [hage] at hBA hcapA hagm' hagl' hcnt ⊢
    obtain ⟨v0, t0, by0, is0⟩ := r
    dsimp only at hB hB2 hB3 hby hblen hbrise hle hin hcnt hagm' hcode hcap3 his ⊢
    subst his
    repeat ((first | with_reducible refine T_seq ?_ | with_reducible refine T_region ?_ | with_reducible refine TL_nil ?_ | with_reducible refine TQ_then ?_ | with_reducible refine T_skip ?_ | refine TL_q (op_move rfl) rfl ?_ | refine TL_q (op_assign rfl) rfl ?_ | (refine' TL_q (op_bin rfl rfl ?_) rfl ?_; rotate_left 1; (· (exact bin_neq))) | refine TL_q (op_not rfl) rfl ?_ | refine TL_q (op_len_slice rfl Try.underlying79) rfl ?_ | (refine TL_gpre rfl rfl ?_ ?_; (· (exact nF (by (assumption))))) | refine TL_gq2 (op_move rfl) rfl ?_ | (refine T_no rfl ?_ ?_; (· (exact Bool.not_true)))))
    refine TG_op (op_call hb_36 rfl (hMost _ (mem_of_cnt (by intro p; (try simp only [cnt_append, cnt_cons, cnt_nil]) <;> omega)))) rfl ?_
    repeat ((first | with_reducible refine T_seq ?_ | with_reducible refine T_block ?_ | with_reducible refine T_region ?_ | with_reducible refine TL_nil ?_ | with_reducible refine TQ_then ?_ | with_reducible refine T_skip ?_ | refine TL_q (op_assign rfl) rfl ?_ | (refine' TL_q (op_pickF rfl ?_ rfl) rfl ?_; (· (exact nF (by (assumption))))) | (refine TL_gpre rfl rfl ?_ ?_; (· (exact nF (by (assumption))))) | refine TL_gq2 (op_move rfl) rfl ?_ | (refine' TL_gq2 (op_bin rfl rfl ?_) rfl ?_; rotate_left 1; (· (exact bin_lss))) | (refine T_no rfl ?_ ?_; (· (exact dF (by (omega)))))))
    obtain ⟨R, hR⟩ : ∃ R, B3 ++ (B2 ++ (B ++ (N ++ (X ++ L)))) = R := ⟨_, rfl⟩
    have hRB : ∀ p ∈ B, p ∈ R := by rw [← hR]; exact (mem_of_cnt (by intro p; (try simp only [cnt_append, cnt_cons, cnt_nil]) <;> omega))
    have hRB2 : ∀ p ∈ B2, p ∈ R := by rw [← hR]; exact (mem_of_cnt (by intro p; (try simp only [cnt_append, cnt_cons, cnt_nil]) <;> omega))
    have hRB3 : ∀ p ∈ B3, p ∈ R := by rw [← hR]; exact (mem_of_cnt (by intro p; (try simp only [cnt_append, cnt_cons, cnt_nil]) <;> omega))
    have hRN : ∀ p ∈ N, p ∈ R := by rw [← hR]; exact (mem_of_cnt (by intro p; (try simp only [cnt_append, cnt_cons, cnt_nil]) <;> omega))
    have hRL : ∀ p, cnt p L ≤ cnt p R := by rw [← hR]; exact (by intro p; (try simp only [cnt_append, cnt_cons, cnt_nil]) <;> omega)
    rw [hR]
    clear hR
    obtain ⟨lst, hlst⟩ : ∃ lst : Nat → Bool, ∀ i, (vs.take i).any (fun y => decide (y.up ∈ by0) && t0 == y.time) = lst i := ⟨_, fun _ => rfl⟩
    refine T_loopS (σ := Nat) (fun i => i ≤ vs.length) (fun i => [(6, .int .i64 w), (7, .pointer (some ⟨b7, 0, none⟩)), (8, .int .u32 t0), (9, .slice a3 by0.length c3), (11, .slice aV vs.length cV), (12, .slice aA ag.length cA), (13, .bool (lst i)), (14, .int .i64 (i : Nat))]) (fun _ => BA ++ (BV ++ (NV ++ ((b7, Obj.cells #[.int .u8 v0.code, .slice a v0.sets.length c, .slice a2 v0.soa.length c2] 42 (0, 0)) :: R)))) (fun i => vs.length - i) 0 (Nat.zero_le _) ?_ (fun w h => h) ?_
    · rw [← hlst 0]
      (repeat ((first | exact trivial | refine ⟨rfl, ?_⟩)))
    rintro i hi
    by_cases hil : i < vs.length
    · obtain ⟨y, hy⟩ : ∃ y, vs[i]? = some y := ⟨_, List.getElem?_eq_getElem hil⟩
      have hym := List.mem_of_getElem? hy
      have hl1 : lst (i + 1) = (lst i || (decide (y.up ∈ by0) && t0 == y.time)) := by
        rw [← hlst, ← hlst, List.take_add_one, hy, List.any_append]
        simp
      obtain ⟨bv, cur, rfl, rfl, _, _, _, hcur⟩ := hBV.block hvp
      obtain ⟨csy, _, hyv, _, hcy⟩ := hcur i y hy
      obtain ⟨y1, yc1, y2, yc2, rfl, hy1, hy2, hy3, hy4, hy5⟩ := hyv.vals
      have g0 : cur[0 + i * 5 + 0]? = some (.int .i64 y.up) := by rw [Nat.zero_add]; exact hcy 0 _ rfl
      have g4 : cur[0 + i * 5 + 4]? = some (.int .u32 y.time) := by rw [Nat.zero_add]; exact hcy 4 _ rfl
      have gv : ∀ j v, ([.int .u8 y.vd.code, .slice y1 y.vd.sets.length yc1, .slice y2 y.vd.soa.length yc2] : List Value)[j]? = some v → cur[0 + i * 5 + 1 + j]? = some v := fun j v hj => by
        rw [Nat.zero_add, Nat.add_assoc]
        match j, hj with
        | 0, hj => exact hcy 1 v hj
        | 1, hj => exact hcy 2 v hj
        | 2, hj => exact hcy 3 v hj
      obtain ⟨M, hM⟩ : ∃ M, BA ++ ([(bv, Obj.cells cur 46 (0, 0))] ++ (NV ++ ((b7, Obj.cells #[.int .u8 v0.code, .slice a v0.sets.length c, .slice a2 v0.soa.length c2] 42 (0, 0)) :: R))) = M := ⟨_, rfl⟩
      have hMA : ∀ p ∈ BA, p ∈ M := by rw [← hM]; exact (mem_of_cnt (by intro p; (try simp only [cnt_append, cnt_cons, cnt_nil]) <;> omega))
      have hMv : (bv, Obj.cells cur 46 (0, 0)) ∈ M := by rw [← hM]; simp
      have hM7 : (b7, Obj.cells #[.int .u8 v0.code, .slice a v0.sets.length c, .slice a2 v0.soa.length c2] 42 (0, 0)) ∈ M := by rw [← hM]; simp
      have hMR : ∀ p ∈ R, p ∈ M := by rw [← hM]; exact (mem_of_cnt (by intro p; (try simp only [cnt_append, cnt_cons, cnt_nil]) <;> omega))
      have hMN : ∀ p ∈ NV, p ∈ M := by rw [← hM]; exact (mem_of_cnt (by intro p; (try simp only [cnt_append, cnt_cons, cnt_nil]) <;> omega))
      rw [hM]
      obtain ⟨i1, hi1⟩ : ∃ i1 : Nat → Bool, ∀ k, (by0.take k).any (fun z => z == y.up) = i1 k := ⟨_, fun _ => rfl⟩
      obtain ⟨i2, hi2⟩ : ∃ i2 : Nat → Bool, ∀ k, (ag.take k).any (fun z => z == y.up) = i2 k := ⟨_, fun _ => rfl⟩
      repeat ((first | with_reducible refine T_seq ?_ | with_reducible refine T_block ?_ | with_reducible refine T_region ?_ | with_reducible refine TL_nil ?_ | with_reducible refine TQ_then ?_ | with_reducible refine T_skip ?_ | refine TL_q (op_move rfl) rfl ?_ | refine TL_q (op_assign rfl) rfl ?_ | (refine' TL_q (op_bin rfl rfl ?_) rfl ?_; rotate_left 1; (· (exact bin_lss))) | refine TL_q (op_len_slice rfl Try.underlying47) rfl ?_ | (refine T_yes rfl ?_ ?_; (· (exact dT (by (omega)))))))
      refine T_loopS (σ := Nat) (fun k => k ≤ by0.length) (fun k => [(6, .int .i64 w), (7, .pointer (some ⟨b7, 0, none⟩)), (8, .int .u32 t0), (9, .slice a3 by0.length c3), (11, .slice (some ⟨bv, 0, none⟩) vs.length cV), (12, .slice aA ag.length cA), (13, .bool (lst i)), (14, .int .i64 (i : Nat)), (15, .bool (i1 k)), (16, .bool false), (17, .int .i64 (k : Nat))]) (fun _ => M) (fun k => by0.length - k) 0 (Nat.zero_le _) ?_ (fun w h => h) ?_
      · rw [← hi1 0]
        (repeat ((first | exact trivial | refine ⟨rfl, ?_⟩)))
      rintro k hk2
      by_cases hkl : k < by0.length
      · obtain ⟨z, hz⟩ : ∃ z, by0[k]? = some z := ⟨_, List.getElem?_eq_getElem hkl⟩
        obtain ⟨b1, o1, C1, t1, f1, rfl, m1, q1⟩ := ints_at (hB3.sliceR (L' := M) (mono_int _) (by simp) (fun p h => hMR p (hRB3 p h))) hz
        have hi1s : i1 (k + 1) = (i1 k || z == y.up) := by rw [← hi1, ← hi1]; exact any_take hz
        have hKm : ∀ z ∈ [(b1, Obj.cells C1 t1 f1), (bv, Obj.cells cur 46 (0, 0))], z ∈ M := by
          intro z hz
          simp only [List.mem_cons, List.not_mem_nil, or_false] at hz
          rcases hz with rfl | rfl <;> assumption
        cases hb1 : i1 k with
        | true =>
          rw [hb1, Bool.true_or] at hi1s
          repeat ((first | with_reducible refine T_seq ?_ | with_reducible refine T_block ?_ | with_reducible refine T_region ?_ | with_reducible refine TL_nil ?_ | with_reducible refine TQ_then ?_ | with_reducible refine T_skip ?_ | refine TL_q (op_move rfl) rfl ?_ | (refine' TL_q (op_bin rfl rfl ?_) rfl ?_; rotate_left 1; (· (exact bin_lss))) | refine TL_q (op_len_slice rfl Try.underlying79) rfl ?_ | (refine T_yes rfl ?_ ?_; (· (exact dT (by (omega)))))))
          refine T_draw follows_mixed ([(b1, Obj.cells C1 t1 f1), (bv, Obj.cells cur 46 (0, 0))]) [] ?_
          (refine' TA_take 0 rfl rfl (by kernel_rfl) (quiet_q (op_move rfl)) ?_ ?_; (· (assumption)))
          (refine' TA_take 1 rfl rfl (by kernel_rfl) (quiet_q (op_move rfl)) ?_ ?_; (· (assumption)))
          (refine TA_take 2 rfl rfl (by kernel_rfl) (quiet_no2 rfl rfl ?_) ?_ ?_; (· (exact Bool.not_false)); (· (assumption)))
          (refine TA_take 3 rfl rfl (by kernel_rfl) (quiet_no2 rfl rfl ?_) ?_ ?_; (· (exact Bool.not_false)); (· (assumption)))
          (refine TA_take 4 rfl rfl (by kernel_rfl) (quiet_no2 rfl rfl ?_) ?_ ?_; (· (exact Bool.not_false)); (· (assumption)))
          (refine TA_take 5 rfl rfl (by kernel_rfl) (quiet_no2 rfl rfl ?_) ?_ ?_; (· (exact Bool.not_false)); (· (assumption)))
          (refine TA_take 6 rfl rfl (by kernel_rfl) (quiet_no2 rfl rfl ?_) ?_ ?_; (· (exact Bool.not_false)); (· (assumption)))
          (refine TA_take 7 rfl rfl (by kernel_rfl) (quiet_no2 rfl rfl ?_) ?_ ?_; (· (exact Bool.not_false)); (· (assumption)))
          (refine TA_take 8 rfl rfl (by kernel_rfl) (quiet_no2 rfl rfl ?_) ?_ ?_; (· (exact Bool.not_false)); (· (assumption)))
          (refine TA_take 9 rfl rfl (by kernel_rfl) (quiet_no2 rfl rfl ?_) ?_ ?_; (· (exact Bool.not_false)); (· (assumption)))
          (refine TA_take 10 rfl rfl (by kernel_rfl) (quiet_no2 rfl rfl ?_) ?_ ?_; (· (exact Bool.not_false)); (· (assumption)))
          (refine TA_take 11 rfl rfl (by kernel_rfl) (quiet_no2 rfl rfl ?_) ?_ ?_; (· (exact Bool.not_false)); (· (assumption)))
          (refine' TA_take 12 rfl rfl (by kernel_rfl) (quiet_q (op_pickT rfl ?_ rfl)) ?_ ?_; (· (with_reducible rfl)); (· (assumption)))
          (refine' TA_take 13 rfl rfl (by kernel_rfl) (quiet_q (op_assign rfl)) ?_ ?_; (· (assumption)))
          refine TA_done (by kernel_rfl) ?_
          repeat ((first | with_reducible refine T_region ?_ | with_reducible refine TL_nil ?_ | with_reducible refine TQ_then ?_ | with_reducible refine TQ_block ?_ | refine TL_q (op_move rfl) rfl ?_ | refine TL_q (op_assign rfl) rfl ?_ | (refine' TL_q (op_bin rfl rfl ?_) rfl ?_; rotate_left 1; (· (exact bin_add ⟨by omega, by omega⟩)))))
          refine TQ_roundS (k + 1) hkl ?_ (fun w h => h) (by omega)
          rw [hi1s]
          (repeat (first | exact trivial | refine ⟨rfl, ?_⟩))
        | false =>
          rw [hb1, Bool.false_or] at hi1s
          repeat ((first | with_reducible refine T_seq ?_ | with_reducible refine T_block ?_ | with_reducible refine T_region ?_ | with_reducible refine TL_nil ?_ | with_reducible refine TQ_then ?_ | with_reducible refine T_skip ?_ | refine TL_q (op_move rfl) rfl ?_ | (refine' TL_q (op_bin rfl rfl ?_) rfl ?_; rotate_left 1; (· (exact bin_lss))) | refine TL_q (op_len_slice rfl Try.underlying79) rfl ?_ | (refine T_yes rfl ?_ ?_; (· (exact dT (by (omega)))))))
          refine T_draw follows_mixed ([(b1, Obj.cells C1 t1 f1), (bv, Obj.cells cur 46 (0, 0))]) [] ?_
          (refine' TA_take 0 rfl rfl (by kernel_rfl) (quiet_q (op_move rfl)) ?_ ?_; (· (assumption)))
          (refine' TA_take 1 rfl rfl (by kernel_rfl) (quiet_q (op_move rfl)) ?_ ?_; (· (assumption)))
          (refine' TA_take 2 rfl rfl (by kernel_rfl) (quiet_g2 rfl rfl (by (with_reducible rfl)) (op_move rfl)) ?_ ?_; (· (assumption)))
          (refine' TA_take 3 rfl rfl (by kernel_rfl) (quiet_g2 rfl rfl (by (with_reducible rfl)) (op_move rfl)) ?_ ?_; (· (assumption)))
          (refine' TA_take 4 rfl rfl (by kernel_rfl) (quiet_g2 rfl rfl (by (with_reducible rfl)) (op_idx ety_79 rfl rfl ?_)) ?_ ?_; (· omega); (· (assumption)))
          (refine' TA_take 5 rfl rfl (by kernel_rfl) (quiet_g2 rfl rfl (by (with_reducible rfl)) (op_ld rfl pl_3 ?_ ?_)) ?_ ?_; rotate_left 4; (· repeat ((exact List.mem_cons_self))); (· (assumption)); (· (assumption)))
          (refine' TA_take 6 rfl rfl (by kernel_rfl) (quiet_g2 rfl rfl (by (with_reducible rfl)) (op_move rfl)) ?_ ?_; (· (assumption)))
          (refine' TA_take 7 rfl rfl (by kernel_rfl) (quiet_g2 rfl rfl (by (with_reducible rfl)) (op_move rfl)) ?_ ?_; (· (assumption)))
          (refine' TA_take 8 rfl rfl (by kernel_rfl) (quiet_g2 rfl rfl (by (with_reducible rfl)) (op_idx ety_47 rfl rfl ?_)) ?_ ?_; (· omega); (· (assumption)))
          (refine' TA_take 9 rfl rfl (by kernel_rfl) (quiet_g2 rfl rfl (by (with_reducible rfl)) (op_fld rfl fld_46_0)) ?_ ?_; (· (assumption)))
          (refine' TA_take 10 rfl rfl (by kernel_rfl) (quiet_g2 rfl rfl (by (with_reducible rfl)) (op_ld rfl pl_3 ?_ ?_)) ?_ ?_; rotate_left 4; (· repeat ((first | exact List.mem_cons_self | apply List.mem_cons_of_mem))); (· (assumption)); (· (assumption)))
          (refine' TA_take 11 rfl rfl (by kernel_rfl) (quiet_g2 rfl rfl (by (with_reducible rfl)) (op_bin rfl rfl ?_)) ?_ ?_; rotate_left 1; (· (exact bin_eql)); (· (assumption)))
          (refine' TA_take 12 rfl rfl (by kernel_rfl) (quiet_q (op_pickF rfl ?_ rfl)) ?_ ?_; (· (with_reducible rfl)); (· (assumption)))
          (refine' TA_take 13 rfl rfl (by kernel_rfl) (quiet_q (op_assign rfl)) ?_ ?_; (· (assumption)))
          refine TA_done (by kernel_rfl) ?_
          repeat ((first | with_reducible refine T_region ?_ | with_reducible refine TL_nil ?_ | with_reducible refine TQ_then ?_ | with_reducible refine TQ_block ?_ | refine TL_q (op_move rfl) rfl ?_ | refine TL_q (op_assign rfl) rfl ?_ | (refine' TL_q (op_bin rfl rfl ?_) rfl ?_; rotate_left 1; (· (exact bin_add ⟨by omega, by omega⟩)))))
          refine TQ_roundS (k + 1) hkl ?_ (fun w h => h) (by omega)
          rw [hi1s]
          (repeat ((first | exact trivial | refine ⟨rfl, ?_⟩)))
      · have hke : k = by0.length := by omega
        subst hke
        have hI : i1 by0.length = decide (y.up ∈ by0) := by rw [← hi1, List.take_length]; exact any_eq
        obtain ⟨I, hI0⟩ : ∃ I, decide (y.up ∈ by0) = I := ⟨_, rfl⟩
        rw [hI0] at hI
        rw [hI]
        repeat ((first | with_reducible refine T_seq ?_ | with_reducible refine T_block ?_ | with_reducible refine T_region ?_ | with_reducible refine TL_nil ?_ | with_reducible refine TQ_then ?_ | with_reducible refine T_exit ?_ | with_reducible refine TQ_then_exit ?_ | with_reducible refine TQ_block_exit ?_ | refine TL_q (op_move rfl) rfl ?_ | refine TL_q (op_assign rfl) rfl ?_ | (refine' TL_q (op_bin rfl rfl ?_) rfl ?_; rotate_left 1; (· (exact bin_lss))) | refine TL_q (op_len_slice rfl Try.underlying79) rfl ?_ | (refine T_no rfl ?_ ?_; (· (exact dF (by (omega)))))))
        refine T_loopS (σ := Nat) (fun k => k ≤ ag.length) (fun k => [(6, .int .i64 w), (7, .pointer (some ⟨b7, 0, none⟩)), (8, .int .u32 t0), (9, .slice a3 by0.length c3), (11, .slice (some ⟨bv, 0, none⟩) vs.length cV), (12, .slice aA ag.length cA), (13, .bool (lst i)), (14, .int .i64 (i : Nat)), (15, .bool I), (16, .bool (i2 k)), (18, .int .i64 (k : Nat))]) (fun _ => M) (fun k => ag.length - k) 0 (Nat.zero_le _) ?_ (fun w h => h) ?_
        · rw [← hi2 0]
          (repeat ((first | exact trivial | refine ⟨rfl, ?_⟩)))
        rintro k hk3
        by_cases hkl : k < ag.length
        · obtain ⟨z, hz⟩ : ∃ z, ag[k]? = some z := ⟨_, List.getElem?_eq_getElem hkl⟩
          obtain ⟨b1, o1, C1, t1, f1, rfl, m1, q1⟩ := ints_at (hBA.sliceR (L' := M) (mono_int _) (by simp) (fun p h => hMA p h)) hz
          have hi2s : i2 (k + 1) = (i2 k || z == y.up) := by rw [← hi2, ← hi2]; exact any_take hz
          have hKm : ∀ z ∈ [(b1, Obj.cells C1 t1 f1), (bv, Obj.cells cur 46 (0, 0))], z ∈ M := by
            intro z hz
            simp only [List.mem_cons, List.not_mem_nil, or_false] at hz
            rcases hz with rfl | rfl <;> assumption
          cases hb2 : i2 k with
          | true =>
            rw [hb2, Bool.true_or] at hi2s
            repeat ((first | with_reducible refine T_seq ?_ | with_reducible refine T_block ?_ | with_reducible refine T_region ?_ | with_reducible refine TL_nil ?_ | with_reducible refine TQ_then ?_ | with_reducible refine T_skip ?_ | refine TL_q (op_move rfl) rfl ?_ | (refine' TL_q (op_bin rfl rfl ?_) rfl ?_; rotate_left 1; (· (exact bin_lss))) | refine TL_q (op_len_slice rfl Try.underlying79) rfl ?_ | (refine T_yes rfl ?_ ?_; (· (exact dT (by (omega)))))))
            refine T_draw follows_mixed ([(b1, Obj.cells C1 t1 f1), (bv, Obj.cells cur 46 (0, 0))]) [] ?_
            (refine' TA_take 0 rfl rfl (by kernel_rfl) (quiet_q (op_move rfl)) ?_ ?_; (· (assumption)))
            (refine' TA_take 1 rfl rfl (by kernel_rfl) (quiet_q (op_move rfl)) ?_ ?_; (· (assumption)))
            (refine TA_take 2 rfl rfl (by kernel_rfl) (quiet_no2 rfl rfl ?_) ?_ ?_; (· (exact Bool.not_false)); (· (assumption)))
            (refine TA_take 3 rfl rfl (by kernel_rfl) (quiet_no2 rfl rfl ?_) ?_ ?_; (· (exact Bool.not_false)); (· (assumption)))
            (refine TA_take 4 rfl rfl (by kernel_rfl) (quiet_no2 rfl rfl ?_) ?_ ?_; (· (exact Bool.not_false)); (· (assumption)))
            (refine TA_take 5 rfl rfl (by kernel_rfl) (quiet_no2 rfl rfl ?_) ?_ ?_; (· (exact Bool.not_false)); (· (assumption)))
            (refine TA_take 6 rfl rfl (by kernel_rfl) (quiet_no2 rfl rfl ?_) ?_ ?_; (· (exact Bool.not_false)); (· (assumption)))
            (refine TA_take 7 rfl rfl (by kernel_rfl) (quiet_no2 rfl rfl ?_) ?_ ?_; (· (exact Bool.not_false)); (· (assumption)))
            (refine TA_take 8 rfl rfl (by kernel_rfl) (quiet_no2 rfl rfl ?_) ?_ ?_; (· (exact Bool.not_false)); (· (assumption)))
            (refine TA_take 9 rfl rfl (by kernel_rfl) (quiet_no2 rfl rfl ?_) ?_ ?_; (· (exact Bool.not_false)); (· (assumption)))
            (refine TA_take 10 rfl rfl (by kernel_rfl) (quiet_no2 rfl rfl ?_) ?_ ?_; (· (exact Bool.not_false)); (· (assumption)))
            (refine TA_take 11 rfl rfl (by kernel_rfl) (quiet_no2 rfl rfl ?_) ?_ ?_; (· (exact Bool.not_false)); (· (assumption)))
            (refine' TA_take 12 rfl rfl (by kernel_rfl) (quiet_q (op_pickT rfl ?_ rfl)) ?_ ?_; (· (with_reducible rfl)); (· (assumption)))
            (refine' TA_take 13 rfl rfl (by kernel_rfl) (quiet_q (op_assign rfl)) ?_ ?_; (· (assumption)))
            refine TA_done (by kernel_rfl) ?_
            repeat ((first | with_reducible refine T_region ?_ | with_reducible refine TL_nil ?_ | with_reducible refine TQ_then ?_ | with_reducible refine TQ_block ?_ | refine TL_q (op_move rfl) rfl ?_ | refine TL_q (op_assign rfl) rfl ?_ | (refine' TL_q (op_bin rfl rfl ?_) rfl ?_; rotate_left 1; (· (exact bin_add ⟨by omega, by omega⟩)))))
            refine TQ_roundS (k + 1) hkl ?_ (fun w h => h) (by omega)
            rw [hi2s]
            (repeat (first | exact trivial | refine ⟨rfl, ?_⟩))
          | false =>
            rw [hb2, Bool.false_or] at hi2s
            repeat ((first | with_reducible refine T_seq ?_ | with_reducible refine T_block ?_ | with_reducible refine T_region ?_ | with_reducible refine TL_nil ?_ | with_reducible refine TQ_then ?_ | with_reducible refine T_skip ?_ | refine TL_q (op_move rfl) rfl ?_ | (refine' TL_q (op_bin rfl rfl ?_) rfl ?_; rotate_left 1; (· (exact bin_lss))) | refine TL_q (op_len_slice rfl Try.underlying79) rfl ?_ | (refine T_yes rfl ?_ ?_; (· (exact dT (by (omega)))))))
            refine T_draw follows_mixed ([(b1, Obj.cells C1 t1 f1), (bv, Obj.cells cur 46 (0, 0))]) [] ?_
            (refine' TA_take 0 rfl rfl (by kernel_rfl) (quiet_q (op_move rfl)) ?_ ?_; (· (assumption)))
            (refine' TA_take 1 rfl rfl (by kernel_rfl) (quiet_q (op_move rfl)) ?_ ?_; (· (assumption)))
            (refine' TA_take 2 rfl rfl (by kernel_rfl) (quiet_g2 rfl rfl (by (with_reducible rfl)) (op_move rfl)) ?_ ?_; (· (assumption)))
            (refine' TA_take 3 rfl rfl (by kernel_rfl) (quiet_g2 rfl rfl (by (with_reducible rfl)) (op_move rfl)) ?_ ?_; (· (assumption)))
            (refine' TA_take 4 rfl rfl (by kernel_rfl) (quiet_g2 rfl rfl (by (with_reducible rfl)) (op_idx ety_79 rfl rfl ?_)) ?_ ?_; (· omega); (· (assumption)))
            (refine' TA_take 5 rfl rfl (by kernel_rfl) (quiet_g2 rfl rfl (by (with_reducible rfl)) (op_ld rfl pl_3 ?_ ?_)) ?_ ?_; rotate_left 4; (· repeat ((exact List.mem_cons_self))); (· (assumption)); (· (assumption)))
            (refine' TA_take 6 rfl rfl (by kernel_rfl) (quiet_g2 rfl rfl (by (with_reducible rfl)) (op_move rfl)) ?_ ?_; (· (assumption)))
            (refine' TA_take 7 rfl rfl (by kernel_rfl) (quiet_g2 rfl rfl (by (with_reducible rfl)) (op_move rfl)) ?_ ?_; (· (assumption)))
            (refine' TA_take 8 rfl rfl (by kernel_rfl) (quiet_g2 rfl rfl (by (with_reducible rfl)) (op_idx ety_47 rfl rfl ?_)) ?_ ?_; (· omega); (· (assumption)))
            (refine' TA_take 9 rfl rfl (by kernel_rfl) (quiet_g2 rfl rfl (by (with_reducible rfl)) (op_fld rfl fld_46_0)) ?_ ?_; (· (assumption)))
            (refine' TA_take 10 rfl rfl (by kernel_rfl) (quiet_g2 rfl rfl (by (with_reducible rfl)) (op_ld rfl pl_3 ?_ ?_)) ?_ ?_; rotate_left 4; (· repeat ((first | exact List.mem_cons_self | apply List.mem_cons_of_mem))); (· (assumption)); (· (assumption)))
            (refine' TA_take 11 rfl rfl (by kernel_rfl) (quiet_g2 rfl rfl (by (with_reducible rfl)) (op_bin rfl rfl ?_)) ?_ ?_; rotate_left 1; (· (exact bin_eql)); (· (assumption)))
            (refine' TA_take 12 rfl rfl (by kernel_rfl) (quiet_q (op_pickF rfl ?_ rfl)) ?_ ?_; (· (with_reducible rfl)); (· (assumption)))
            (refine' TA_take 13 rfl rfl (by kernel_rfl) (quiet_q (op_assign rfl)) ?_ ?_; (· (assumption)))
            refine TA_done (by kernel_rfl) ?_
            repeat ((first | with_reducible refine T_region ?_ | with_reducible refine TL_nil ?_ | with_reducible refine TQ_then ?_ | with_reducible refine TQ_block ?_ | refine TL_q (op_move rfl) rfl ?_ | refine TL_q (op_assign rfl) rfl ?_ | (refine' TL_q (op_bin rfl rfl ?_) rfl ?_; rotate_left 1; (· (exact bin_add ⟨by omega, by omega⟩)))))
            refine TQ_roundS (k + 1) hkl ?_ (fun w h => h) (by omega)
            rw [hi2s]
            (repeat ((first | exact trivial | refine ⟨rfl, ?_⟩)))
        · have hke : k = ag.length := by omega
          subst hke
          have hO : i2 ag.length = !decide (y.vd = v0) := by
            rw [← hi2, List.take_length, any_eq, Bool.eq_iff_iff, decide_eq_true_eq, Bool.not_eq_true', decide_eq_false_iff_not]
            exact hagm' hym
          obtain ⟨A, hA0⟩ : ∃ A, decide (y.vd = v0) = A := ⟨_, rfl⟩
          rw [hA0] at hO
          rw [hO]
          rw [hI0] at hl1
          have hIA : I = true → A = true ∧ t0 ≤ y.time := fun h => by
            rw [h] at hI0
            have h1 : y.up ∈ by0 := by simpa using hI0
            refine ⟨?_, hle y hym h1⟩
            rw [← hA0]
            simpa using ((hby y hym).1 h1).2
          have hKm : ∀ z ∈ [(b7, Obj.cells #[.int .u8 v0.code, .slice a v0.sets.length c, .slice a2 v0.soa.length c2] 42 (0, 0)), (bv, Obj.cells cur 46 (0, 0))], z ∈ M := by
            intro z hz
            simp only [List.mem_cons, List.not_mem_nil, or_false] at hz
            rcases hz with rfl | rfl <;> assumption
          repeat ((first | with_reducible refine T_seq ?_ | with_reducible refine T_region ?_ | with_reducible refine TL_nil ?_ | with_reducible refine TQ_then ?_ | with_reducible refine T_exit ?_ | with_reducible refine TQ_then_exit ?_ | with_reducible refine TQ_block_exit ?_ | refine TL_q (op_move rfl) rfl ?_ | (refine' TL_q (op_bin rfl rfl ?_) rfl ?_; rotate_left 1; (· (exact bin_lss))) | refine TL_q (op_len_slice rfl Try.underlying79) rfl ?_ | (refine T_no rfl ?_ ?_; (· (exact dF (by (omega)))))))
          refine T_draw follows_mixed ([(b7, Obj.cells #[.int .u8 v0.code, .slice a v0.sets.length c, .slice a2 v0.soa.length c2] 42 (0, 0)), (bv, Obj.cells cur 46 (0, 0))]) [] ?_
          (refine' TA_take 0 rfl rfl (by kernel_rfl) (quiet_q (op_move rfl)) ?_ ?_; (· (assumption)))
          (refine' TA_take 1 rfl rfl (by kernel_rfl) (quiet_q (op_move rfl)) ?_ ?_; (· (assumption)))
          (refine' TA_take 2 rfl rfl (by kernel_rfl) (quiet_q (op_idx ety_47 rfl rfl ?_)) ?_ ?_; (· omega); (· (assumption)))
          (refine' TA_take 3 rfl rfl (by kernel_rfl) (quiet_q (op_fld rfl fld_46_1)) ?_ ?_; (· (assumption)))
          (refine' TA_take 4 rfl rfl (by kernel_rfl) (quiet_q (op_ldA [.int .u8 y.vd.code, .slice y1 y.vd.sets.length yc1, .slice y2 y.vd.soa.length yc2] rfl st_42 (List.mem_cons_of_mem _ (List.mem_cons_self ..)) gv)) ?_ ?_; (· (assumption)))
          (refine' TA_take 5 rfl rfl (by kernel_rfl) (quiet_q (op_ldAll rfl st_42 ?_ ?_)) ?_ ?_; rotate_left 3; (· repeat ((exact List.mem_cons_self))); (· (rfl)); (· (assumption)))
          refine TA_oneD 6 (by kernel_rfl) rfl rfl rfl rfl (op_call hb_27 rfl (pSame_S [.int .u8 y.vd.code, .slice y1 y.vd.sets.length yc1, .slice y2 y.vd.soa.length yc2] [.int .u8 v0.code, .slice a v0.sets.length c, .slice a2 v0.soa.length c2] y.vd v0 ⟨_, _, rfl, mono_slice mono_set _ _ _ _ hMN hy1, mono_slice mono_set _ _ _ _ hMN hy2, hy3⟩ ⟨_, _, rfl, hB.sliceR mono_set (fun p h => hMR p (hRN p h)) (fun p h => hMR p (hRB p h)), hB2.sliceR mono_set (fun p h => hMR p (hRN p h)) (fun p h => hMR p (hRB2 p h)), hcode⟩)) ?_; rintro _ _ ⟨rfl, hMM⟩; rw [hMM, hA0]; clear hMM; refine ⟨Or.inr hKm, ?_⟩
          (refine' TA_take 7 rfl rfl (by kernel_rfl) (quiet_q (op_assign rfl)) ?_ ?_; (· (assumption)))
          refine TA_done (by kernel_rfl) ?_
          cases hI1 : I with
          | true =>
            obtain ⟨hA1, htle⟩ := hIA hI1
            subst hA1
            rw [hI1, Bool.true_and] at hl1
            have q1 : ((!true) == true) = false := rfl
            cases hlb : lst i with
            | true =>
              rw [hlb, Bool.true_or] at hl1
              repeat ((first | with_reducible refine T_seq ?_ | with_reducible refine T_region ?_ | with_reducible refine TL_nil ?_ | with_reducible refine TQ_then ?_ | with_reducible refine TQ_block ?_ | with_reducible refine T_skip ?_ | refine TL_q (op_move rfl) rfl ?_ | refine TL_q (op_assign rfl) rfl ?_ | (refine' TL_q (op_bin rfl rfl ?_) rfl ?_; rotate_left 1; (· (exact bin_add ⟨by omega, by omega⟩))) | (refine' TL_q (op_pickT rfl ?_ rfl) rfl ?_; (· (with_reducible rfl))) | (refine' TL_q (op_pickF rfl ?_ rfl) rfl ?_; (· (exact dF (by (omega))))) | (refine TL_gpre rfl rfl ?_ ?_; (· (first | with_reducible rfl | assumption | exact dF (by (first | assumption | omega))))) | refine TL_gq2 (op_move rfl) rfl ?_ | (refine' TL_gq2 (op_bin rfl rfl ?_) rfl ?_; rotate_left 1; (· (first | exact bin_gtr | exact bbin_eql Try.underlying4))) | refine TL_gq2 (op_not rfl) rfl ?_ | (refine' TL_gq2 (op_pickF rfl ?_ rfl) rfl ?_; (· (assumption))) | (refine' TL_gq2 (op_idx ety_47 rfl rfl ?_) rfl ?_; (· omega)) | refine TL_gq2 (op_fld rfl fld_46_2) rfl ?_ | (refine' TL_gq2 (op_ld rfl pl_3 ?_ ?_) rfl ?_; rotate_left 4; (· repeat ((assumption))); (· (assumption))) | (refine TL_gno rfl rfl ?_ rfl ?_; (· (exact Bool.not_false))) | refine TL_gundef rfl rfl rfl ?_ | (refine T_no rfl ?_ ?_; (· (assumption)))))
              rw [← hM]
              refine TQ_roundS (i + 1) hil ?_ (fun w h => h) (by omega)
              rw [hl1]
              (repeat (first | exact trivial | refine ⟨rfl, ?_⟩))
            | false =>
              rw [hlb, Bool.false_or] at hl1
              repeat ((first | with_reducible refine T_seq ?_ | with_reducible refine T_region ?_ | with_reducible refine TL_nil ?_ | with_reducible refine TQ_then ?_ | with_reducible refine TQ_block ?_ | with_reducible refine T_skip ?_ | refine TL_q (op_move rfl) rfl ?_ | refine TL_q (op_assign rfl) rfl ?_ | (refine' TL_q (op_bin rfl rfl ?_) rfl ?_; rotate_left 1; (· (exact bin_add ⟨by omega, by omega⟩))) | (refine' TL_q (op_pickT rfl ?_ rfl) rfl ?_; (· (with_reducible rfl))) | (refine' TL_q (op_pickF rfl ?_ rfl) rfl ?_; (· (first | with_reducible rfl | exact dF (by (omega))))) | (refine TL_gpre rfl rfl ?_ ?_; (· (first | with_reducible rfl | assumption | exact dF (by (omega))))) | refine TL_gq2 (op_move rfl) rfl ?_ | (refine' TL_gq2 (op_bin rfl rfl ?_) rfl ?_; rotate_left 1; (· (first | exact bin_eql | exact bin_gtr | exact bbin_eql Try.underlying4))) | refine TL_gq2 (op_not rfl) rfl ?_ | (refine' TL_gq2 (op_pickT rfl ?_ rfl) rfl ?_; (· (with_reducible rfl))) | (refine' TL_gq2 (op_pickF rfl ?_ rfl) rfl ?_; (· (assumption))) | (refine' TL_gq2 (op_idx ety_47 rfl rfl ?_) rfl ?_; (· omega)) | refine TL_gq2 (op_fld rfl fld_46_2) rfl ?_ | (refine' TL_gq2 (op_ld rfl pl_3 ?_ ?_) rfl ?_; rotate_left 4; (· repeat ((assumption))); (· (assumption))) | (refine T_no rfl ?_ ?_; (· (assumption)))))
              rw [← hM]
              refine TQ_roundS (i + 1) hil ?_ (fun w h => h) (by omega)
              rw [hl1]
              (repeat (first | exact trivial | refine ⟨rfl, ?_⟩))
          | false =>
            rw [hI1, Bool.false_and, Bool.or_false] at hl1
            have q1 : ((!A) == A) = false := by cases A <;> rfl
            cases hlb : lst i with
            | true =>
              rw [hlb] at hl1
              repeat ((first | with_reducible refine T_seq ?_ | with_reducible refine T_region ?_ | with_reducible refine TL_nil ?_ | with_reducible refine TQ_then ?_ | with_reducible refine TQ_block ?_ | with_reducible refine T_skip ?_ | refine TL_q (op_move rfl) rfl ?_ | refine TL_q (op_assign rfl) rfl ?_ | (refine' TL_q (op_bin rfl rfl ?_) rfl ?_; rotate_left 1; (· (exact bin_add ⟨by omega, by omega⟩))) | (refine' TL_q (op_pickT rfl ?_ rfl) rfl ?_; (· (with_reducible rfl))) | (refine' TL_q (op_pickF rfl ?_ rfl) rfl ?_; (· (with_reducible rfl))) | (refine TL_gpre rfl rfl ?_ ?_; (· (with_reducible rfl))) | refine TL_gq2 (op_move rfl) rfl ?_ | (refine' TL_gq2 (op_bin rfl rfl ?_) rfl ?_; rotate_left 1; (· (exact bbin_eql Try.underlying4))) | (refine TL_gno rfl rfl ?_ rfl ?_; (· (first | exact Bool.not_false | exact Bool.not_true))) | refine TL_gundef rfl rfl rfl ?_ | (refine T_no rfl ?_ ?_; (· (assumption)))))
              rw [← hM]
              refine TQ_roundS (i + 1) hil ?_ (fun w h => h) (by omega)
              rw [hl1]
              (repeat (first | exact trivial | refine ⟨rfl, ?_⟩))
            | false =>
              rw [hlb] at hl1
              repeat ((first | with_reducible refine T_seq ?_ | with_reducible refine T_region ?_ | with_reducible refine TL_nil ?_ | with_reducible refine TQ_then ?_ | with_reducible refine TQ_block ?_ | with_reducible refine T_skip ?_ | refine TL_q (op_move rfl) rfl ?_ | refine TL_q (op_assign rfl) rfl ?_ | (refine' TL_q (op_bin rfl rfl ?_) rfl ?_; rotate_left 1; (· (exact bin_add ⟨by omega, by omega⟩))) | (refine' TL_q (op_pickF rfl ?_ rfl) rfl ?_; (· (with_reducible rfl))) | (refine TL_gpre rfl rfl ?_ ?_; (· (with_reducible rfl))) | refine TL_gq2 (op_move rfl) rfl ?_ | (refine' TL_gq2 (op_bin rfl rfl ?_) rfl ?_; rotate_left 1; (· (exact bbin_eql Try.underlying4))) | (refine' TL_gq2 (op_pickF rfl ?_ rfl) rfl ?_; (· (with_reducible rfl))) | (refine TL_gno rfl rfl ?_ rfl ?_; (· (exact Bool.not_true))) | refine TL_gundef rfl rfl rfl ?_ | (refine T_no rfl ?_ ?_; (· (assumption)))))
              rw [← hM]
              refine TQ_roundS (i + 1) hil ?_ (fun w h => h) (by omega)
              rw [hl1]
              (repeat ((first | exact trivial | refine ⟨rfl, ?_⟩)))
    · have hie : i = vs.length := by omega
      subst hie
      have hlT : lst vs.length = true := by
        rw [← hlst, List.take_length]
        obtain ⟨y, hy, h1, h2⟩ := hin
        exact List.any_eq_true.2 ⟨y, hy, by simp [h1, h2]⟩
      rw [hlT]
      repeat ((first | with_reducible refine T_seq ?_ | with_reducible refine T_block ?_ | with_reducible refine T_region ?_ | with_reducible refine TL_nil ?_ | with_reducible refine TQ_then ?_ | with_reducible refine T_exit ?_ | with_reducible refine TQ_then_exit ?_ | with_reducible refine TQ_block_exit ?_ | refine TL_q (op_move rfl) rfl ?_ | refine TL_q (op_assign rfl) rfl ?_ | (refine' TL_q (op_bin rfl rfl ?_) rfl ?_; rotate_left 1; (· (exact bin_lss))) | refine TL_q (op_len_slice rfl Try.underlying47) rfl ?_ | (refine T_no rfl ?_ ?_; (· (exact dF (by (omega)))))))
      refine T_loopS (σ := Nat) (fun k => 1 ≤ k) (fun k => [(6, .int .i64 w), (9, .slice a3 by0.length c3), (11, .slice aV vs.length cV), (12, .slice aA ag.length cA), (13, .bool true), (20, .int .i64 (k : Nat))]) (fun _ => R) (fun k => by0.length - k) 1 (Nat.le_refl _) ?_ (fun w h => h.cnt (by intro p; (try simp only [cnt_append, cnt_cons, cnt_nil]) <;> omega)) ?_
      (repeat ((first | exact trivial | refine ⟨rfl, ?_⟩)))
      rintro k hk1
      by_cases hkl : k < by0.length
      · obtain ⟨z, hz⟩ : ∃ z, by0[k]? = some z := ⟨_, List.getElem?_eq_getElem hkl⟩
        obtain ⟨z', hz'⟩ : ∃ z, by0[k - 1]? = some z := ⟨_, List.getElem?_eq_getElem (by omega)⟩
        have hlt : z' < z := by
          have := List.pairwise_iff_getElem.1 hbrise (k - 1) k (by omega) hkl (by omega)
          rw [List.getElem?_eq_getElem (by omega)] at hz hz'
          rw [← Option.some.inj hz, ← Option.some.inj hz']
          exact this
        obtain ⟨_, _, _, h4⟩ := sliceR.cut (hB3.sliceR (L' := R) (mono_int _) (by simp) (fun p h => hRB3 p h))
        rcases h4 with h4 | ⟨b1, o1, C1, t1, f1, rfl, m1, q1⟩
        · rw [h4] at hkl; simp at hkl
        have gz : C1[o1 + k * 1]? = some (.int .i64 z) := by
          obtain ⟨cs', _, ⟨k2, _⟩, k3⟩ := q1 k z hz
          subst k2
          exact k3 0 _ rfl
        have hkk : ((k : Int) - 1).toNat = k - 1 := by omega
        have gz' : C1[o1 + ((k : Int) - 1).toNat * 1]? = some (.int .i64 z') := by
          rw [hkk]
          obtain ⟨cs', _, ⟨k2, _⟩, k3⟩ := q1 (k - 1) z' hz'
          subst k2
          exact k3 0 _ rfl
        have hKm : ∀ z ∈ [(b1, Obj.cells C1 t1 f1)], z ∈ R := by
          intro z hz
          rw [List.mem_singleton.1 hz]
          exact m1
        have hnle : ¬ z ≤ z' := by omega
        repeat ((first | with_reducible refine T_seq ?_ | with_reducible refine T_block ?_ | with_reducible refine T_region ?_ | with_reducible refine TL_nil ?_ | with_reducible refine TQ_then ?_ | with_reducible refine T_skip ?_ | refine TL_q (op_move rfl) rfl ?_ | (refine' TL_q (op_bin rfl rfl ?_) rfl ?_; rotate_left 1; (· (exact bin_lss))) | refine TL_q (op_len_slice rfl Try.underlying79) rfl ?_ | (refine T_yes rfl ?_ ?_; (· (exact dT (by (omega)))))))
        refine T_draw follows_mixed ([(b1, Obj.cells C1 t1 f1)]) [] ?_
        (refine' TA_take 0 rfl rfl (by kernel_rfl) (quiet_q (op_move rfl)) ?_ ?_; (· (assumption)))
        (refine' TA_take 1 rfl rfl (by kernel_rfl) (quiet_q (op_move rfl)) ?_ ?_; (· (assumption)))
        (refine' TA_take 2 rfl rfl (by kernel_rfl) (quiet_q (op_idx ety_79 rfl rfl ?_)) ?_ ?_; (· omega); (· (assumption)))
        (refine' TA_take 3 rfl rfl (by kernel_rfl) (quiet_q (op_ld rfl pl_3 ?_ ?_)) ?_ ?_; rotate_left 4; (· repeat ((exact List.mem_cons_self))); (· (assumption)); (· (assumption)))
        (refine' TA_take 4 rfl rfl (by kernel_rfl) (quiet_q (op_move rfl)) ?_ ?_; (· (assumption)))
        (refine' TA_take 5 rfl rfl (by kernel_rfl) (quiet_q (op_move rfl)) ?_ ?_; (· (assumption)))
        (refine' TA_take 6 rfl rfl (by kernel_rfl) (quiet_q (op_bin rfl rfl ?_)) ?_ ?_; rotate_left 1; (· (exact bin_sub ⟨by omega, by omega⟩)); (· (assumption)))
        (refine' TA_take 7 rfl rfl (by kernel_rfl) (quiet_q (op_idxI ety_79 rfl rfl ?_ ?_)) ?_ ?_; (· omega); (· omega); (· (assumption)))
        (refine' TA_take 8 rfl rfl (by kernel_rfl) (quiet_q (op_ld rfl pl_3 ?_ ?_)) ?_ ?_; rotate_left 4; (· repeat ((exact List.mem_cons_self))); (· (assumption)); (· (assumption)))
        (refine' TA_take 9 rfl rfl (by kernel_rfl) (quiet_q (op_bin rfl rfl ?_)) ?_ ?_; rotate_left 1; (· (exact bin_leq)); (· (assumption)))
        refine TA_done (by kernel_rfl) ?_
        repeat ((first | with_reducible refine T_region ?_ | with_reducible refine TL_nil ?_ | with_reducible refine TQ_then ?_ | with_reducible refine TQ_block ?_ | with_reducible refine T_skip ?_ | refine TL_q (op_move rfl) rfl ?_ | refine TL_q (op_assign rfl) rfl ?_ | (refine' TL_q (op_bin rfl rfl ?_) rfl ?_; rotate_left 1; (· (exact bin_add ⟨by omega, by omega⟩))) | (refine T_no rfl ?_ ?_; (· (exact dF (by (assumption)))))))
        refine TQ_roundS (k + 1) (by omega) ?_ (fun w h => h) (by omega)
        (repeat ((first | exact trivial | refine ⟨rfl, ?_⟩)))
      · repeat ((first | with_reducible refine T_seq ?_ | with_reducible refine T_region ?_ | with_reducible refine TL_nil ?_ | with_reducible refine TQ_then ?_ | with_reducible refine T_exit ?_ | with_reducible refine T_ret ?_ | with_reducible refine TQ_then_exit ?_ | with_reducible refine TQ_block_exit ?_ | refine TL_q (op_move rfl) rfl ?_ | refine TL_q (op_assign rfl) rfl ?_ | (refine' TL_q (op_bin rfl rfl ?_) rfl ?_; rotate_left 1; (· (exact bin_lss))) | (refine' TL_q (op_pickT rfl ?_ rfl) rfl ?_; (· (with_reducible rfl))) | refine TL_q (op_len_slice rfl Try.underlying79) rfl ?_ | (refine TL_gpre rfl rfl ?_ ?_; (· (with_reducible rfl))) | refine TL_gq2 (op_move rfl) rfl ?_ | (refine' TL_gq2 (op_bin rfl rfl ?_) rfl ?_; rotate_left 1; (· (first | exact bin_sub ⟨by omega, by omega⟩ | exact bin_leq))) | refine TL_gq2 (op_len_slice rfl Try.underlying47) rfl ?_ | refine TL_gq2 (op_len_slice rfl Try.underlying79) rfl ?_ | (refine T_no rfl ?_ ?_; (· (exact dF (by (omega)))))))
        refine TQ_cnt (L' := L) ?_ hRL
        refine TQ_ret1 4 _ rfl rfl ?_
        exact ⟨by rw [decide_eq_true (by omega)], rfl⟩
theorem tallyBy_walk (want : Int) (v : Value) (l : List TAct) (W : World) (hw : -9223372036854775808 ≤ want ∧ want ≤ 9223372036854775807) (hl : sliceR 30 actR (allBlocks W) [v] l) : Calls Try.prog 10 #[.int .i64 want, v] W fun e w' => e = .returned (.bool true) ∧ Below W.heap.size W w' :=
  Spec.below (tallyBy_S want v l hl)
end Go.Proofs.Ytdflhdfapnhjjaa
namespace Go.Proofs.Ytdflhdfapnhjjaa
open Go.ChangeShapes Go.WideShapes Go.ChangeAt Go.RowKit
open Vd (RSet Vdt Vote Rec Quest Piece Ballot Said)
set_option linter.unusedVariables false
set_option linter.unusedSimpArgs false
theorem own : ownKnob Try.prog.godebug = none := by kernel_rfl
theorem laidOut : laidOutB Try.prog = true := by kernel_rfl
section
variable {H : Type} {enc : TypeId × Value → H} {W : World} {v : Value} {d : DataW H} {p : List MemPlace} {base : Nat}
theorem opens_any {t e : TypeId} (hu : Try.prog.underlying t = some (.slice e)) : Opens enc Try.prog W t 1 (fun _ cs (a : Option Addr) => ∃ n m, cs = [.slice a n m]) := fun fuel cs x hf => by
  rcases Deep.open_slice hu hf with ⟨hcs, _⟩ | ⟨x, len, cap, m, n, D, Pl, hcs, _⟩
  · subst hcs; exact ⟨rfl, none, 0, 0, rfl⟩
  · subst hcs; exact ⟨rfl, some x, len, cap, rfl⟩
theorem bd16 {n : Int} (h : InLit .u16 n) : 0 ≤ n ∧ n ≤ 65535 := by unfold InLit Lit.wf at h; simp [IntKind.min, IntKind.max, IntKind.bits, IntKind.signed] at h; omega
theorem bd32 {n : Int} (h : InLit .u32 n) : 0 ≤ n ∧ n ≤ 4294967295 := by unfold InLit Lit.wf at h; simp [IntKind.min, IntKind.max, IntKind.bits, IntKind.signed] at h; omega
theorem bd8 {n : Int} (h : InLit .u8 n) : 0 ≤ n ∧ n ≤ 255 := by unfold InLit Lit.wf at h; simp [IntKind.min, IntKind.max, IntKind.bits, IntKind.signed] at h; omega
theorem bd64 {n : Int} (h : InLit .i64 n) : -9223372036854775808 ≤ n ∧ n ≤ 9223372036854775807 := by unfold InLit Lit.wf at h; simp [IntKind.min, IntKind.max, IntKind.bits, IntKind.signed] at h; omega

set_option maxRecDepth 100000 in
theorem opens_rec : Opens enc Try.prog W 112 5 recR := fun fuel cs x hf => by
  obtain ⟨hlen, hfs⟩ := opens_fields Try.underlying112 hf
  have hc : Try.prog.cellsOf 112 = 5 := by kernel_rfl
  rw [hc] at hlen
  have c0 : Try.prog.cellsOf 9 = 1 := by kernel_rfl
  have c1 : Try.prog.cellsOf 23 = 1 := by kernel_rfl
  have c2 : Try.prog.cellsOf 36 = 1 := by kernel_rfl
  obtain ⟨n0, y0, g0⟩ := hfs 0 _ rfl
  have g0 : DataW.trod enc Try.prog W 0 (fun _ => true) true n0 9 ((cs.drop 0).take (Try.prog.cellsOf 9)) = some y0 := g0
  rw [c0] at g0
  obtain ⟨a0, k0, w0⟩ := (opens_string Try.underlying9).at g0
  obtain ⟨n1, y1, g1⟩ := hfs 1 _ rfl
  have g1 : DataW.trod enc Try.prog W 0 (fun _ => true) true n1 23 ((cs.drop 1).take (Try.prog.cellsOf 23)) = some y1 := g1
  rw [c1] at g1
  obtain ⟨a1, k1, w1⟩ := (opens_int Try.underlying23).at g1
  obtain ⟨n2, y2, g2⟩ := hfs 2 _ rfl
  have g2 : DataW.trod enc Try.prog W 0 (fun _ => true) true n2 23 ((cs.drop 2).take (Try.prog.cellsOf 23)) = some y2 := g2
  rw [c1] at g2
  obtain ⟨a2, k2, w2⟩ := (opens_int Try.underlying23).at g2
  obtain ⟨n3, y3, g3⟩ := hfs 3 _ rfl
  have g3 : DataW.trod enc Try.prog W 0 (fun _ => true) true n3 36 ((cs.drop 3).take (Try.prog.cellsOf 36)) = some y3 := g3
  rw [c2] at g3
  obtain ⟨a3, k3, w3⟩ := (opens_int Try.underlying36).at g3
  obtain ⟨n4, y4, g4⟩ := hfs 4 _ rfl
  have g4 : DataW.trod enc Try.prog W 0 (fun _ => true) true n4 9 ((cs.drop 4).take (Try.prog.cellsOf 9)) = some y4 := g4
  rw [c0] at g4
  obtain ⟨a4, k4, w4⟩ := (opens_string Try.underlying9).at g4
  refine ⟨hlen, ⟨a0, a1, a2, a3, a4⟩, ?_⟩
  match cs, hlen with
  | [x0, x1, x2, x3, x4], _ =>
    obtain rfl : x0 = _ := by simpa using k0
    obtain rfl : x1 = _ := by simpa using k1
    obtain rfl : x2 = _ := by simpa using k2
    obtain rfl : x3 = _ := by simpa using k3
    obtain rfl : x4 = _ := by simpa using k4
    exact ⟨rfl, w0, w4, bd16 w1, bd16 w2, bd32 w3⟩
set_option maxRecDepth 100000 in
theorem opens_quest : Opens enc Try.prog W 34 3 questR := fun fuel cs x hf => by
  obtain ⟨hlen, hfs⟩ := opens_fields Try.underlying34 hf
  have hc : Try.prog.cellsOf 34 = 3 := by kernel_rfl
  rw [hc] at hlen
  have c0 : Try.prog.cellsOf 9 = 1 := by kernel_rfl
  have c1 : Try.prog.cellsOf 23 = 1 := by kernel_rfl
  obtain ⟨n0, y0, g0⟩ := hfs 0 _ rfl
  have g0 : DataW.trod enc Try.prog W 0 (fun _ => true) true n0 9 ((cs.drop 0).take (Try.prog.cellsOf 9)) = some y0 := g0
  rw [c0] at g0
  obtain ⟨a0, k0, w0⟩ := (opens_string Try.underlying9).at g0
  obtain ⟨n1, y1, g1⟩ := hfs 1 _ rfl
  have g1 : DataW.trod enc Try.prog W 0 (fun _ => true) true n1 23 ((cs.drop 1).take (Try.prog.cellsOf 23)) = some y1 := g1
  rw [c1] at g1
  obtain ⟨a1, k1, w1⟩ := (opens_int Try.underlying23).at g1
  obtain ⟨n2, y2, g2⟩ := hfs 2 _ rfl
  have g2 : DataW.trod enc Try.prog W 0 (fun _ => true) true n2 23 ((cs.drop 2).take (Try.prog.cellsOf 23)) = some y2 := g2
  rw [c1] at g2
  obtain ⟨a2, k2, w2⟩ := (opens_int Try.underlying23).at g2
  refine ⟨hlen, ⟨a0, a1, a2⟩, ?_⟩
  match cs, hlen with
  | [x0, x1, x2], _ =>
    obtain rfl : x0 = _ := by simpa using k0
    obtain rfl : x1 = _ := by simpa using k1
    obtain rfl : x2 = _ := by simpa using k2
    exact ⟨rfl, w0, bd16 w1, bd16 w2⟩
def headR : Rp Int := fun _ cs c => ∃ h0 h1 h2 h3 h4 h5 h6 h7 h8 h9, cs = [h0, h1, h2, h3, h4, h5, h6, h7, h8, h9, .int .u8 c] ∧ (0 ≤ c ∧ c ≤ 255) ∧ ∀ v ∈ cs, v.oneCell' = true
set_option maxRecDepth 100000 in
theorem opens_head : Opens enc Try.prog W 25 11 headR := fun fuel cs x hf => by
  obtain ⟨hlen, hfs⟩ := opens_fields Try.underlying25 hf
  have hc : Try.prog.cellsOf 25 = 11 := by kernel_rfl
  rw [hc] at hlen
  have c0 : Try.prog.cellsOf 23 = 1 := by kernel_rfl
  have c1 : Try.prog.cellsOf 4 = 1 := by kernel_rfl
  have c2 : Try.prog.cellsOf 5 = 1 := by kernel_rfl
  obtain ⟨n0, y0, g0⟩ := hfs 0 _ rfl
  have g0 : DataW.trod enc Try.prog W 0 (fun _ => true) true n0 23 ((cs.drop 0).take (Try.prog.cellsOf 23)) = some y0 := g0
  rw [c0] at g0
  obtain ⟨a0, k0, w0⟩ := (opens_int Try.underlying23).at g0
  obtain ⟨n1, y1, g1⟩ := hfs 1 _ rfl
  have g1 : DataW.trod enc Try.prog W 0 (fun _ => true) true n1 4 ((cs.drop 1).take (Try.prog.cellsOf 4)) = some y1 := g1
  rw [c1] at g1
  obtain ⟨a1, k1⟩ := (opens_bool Try.underlying4).at g1
  obtain ⟨n2, y2, g2⟩ := hfs 2 _ rfl
  have g2 : DataW.trod enc Try.prog W 0 (fun _ => true) true n2 5 ((cs.drop 2).take (Try.prog.cellsOf 5)) = some y2 := g2
  rw [c2] at g2
  obtain ⟨a2, k2, w2⟩ := (opens_int Try.underlying5).at g2
  obtain ⟨n3, y3, g3⟩ := hfs 3 _ rfl
  have g3 : DataW.trod enc Try.prog W 0 (fun _ => true) true n3 4 ((cs.drop 3).take (Try.prog.cellsOf 4)) = some y3 := g3
  rw [c1] at g3
  obtain ⟨a3, k3⟩ := (opens_bool Try.underlying4).at g3
  obtain ⟨n4, y4, g4⟩ := hfs 4 _ rfl
  have g4 : DataW.trod enc Try.prog W 0 (fun _ => true) true n4 4 ((cs.drop 4).take (Try.prog.cellsOf 4)) = some y4 := g4
  rw [c1] at g4
  obtain ⟨a4, k4⟩ := (opens_bool Try.underlying4).at g4
  obtain ⟨n5, y5, g5⟩ := hfs 5 _ rfl
  have g5 : DataW.trod enc Try.prog W 0 (fun _ => true) true n5 4 ((cs.drop 5).take (Try.prog.cellsOf 4)) = some y5 := g5
  rw [c1] at g5
  obtain ⟨a5, k5⟩ := (opens_bool Try.underlying4).at g5
  obtain ⟨n6, y6, g6⟩ := hfs 6 _ rfl
  have g6 : DataW.trod enc Try.prog W 0 (fun _ => true) true n6 4 ((cs.drop 6).take (Try.prog.cellsOf 4)) = some y6 := g6
  rw [c1] at g6
  obtain ⟨a6, k6⟩ := (opens_bool Try.underlying4).at g6
  obtain ⟨n7, y7, g7⟩ := hfs 7 _ rfl
  have g7 : DataW.trod enc Try.prog W 0 (fun _ => true) true n7 4 ((cs.drop 7).take (Try.prog.cellsOf 4)) = some y7 := g7
  rw [c1] at g7
  obtain ⟨a7, k7⟩ := (opens_bool Try.underlying4).at g7
  obtain ⟨n8, y8, g8⟩ := hfs 8 _ rfl
  have g8 : DataW.trod enc Try.prog W 0 (fun _ => true) true n8 4 ((cs.drop 8).take (Try.prog.cellsOf 4)) = some y8 := g8
  rw [c1] at g8
  obtain ⟨a8, k8⟩ := (opens_bool Try.underlying4).at g8
  obtain ⟨n9, y9, g9⟩ := hfs 9 _ rfl
  have g9 : DataW.trod enc Try.prog W 0 (fun _ => true) true n9 4 ((cs.drop 9).take (Try.prog.cellsOf 4)) = some y9 := g9
  rw [c1] at g9
  obtain ⟨a9, k9⟩ := (opens_bool Try.underlying4).at g9
  obtain ⟨n10, y10, g10⟩ := hfs 10 _ rfl
  have g10 : DataW.trod enc Try.prog W 0 (fun _ => true) true n10 5 ((cs.drop 10).take (Try.prog.cellsOf 5)) = some y10 := g10
  rw [c2] at g10
  obtain ⟨a10, k10, w10⟩ := (opens_int Try.underlying5).at g10
  refine ⟨hlen, a10, ?_⟩
  match cs, hlen with
  | [x0, x1, x2, x3, x4, x5, x6, x7, x8, x9, x10], _ =>
    obtain rfl : x0 = _ := by simpa using k0
    obtain rfl : x1 = _ := by simpa [boolR] using k1
    obtain rfl : x2 = _ := by simpa using k2
    obtain rfl : x3 = _ := by simpa [boolR] using k3
    obtain rfl : x4 = _ := by simpa [boolR] using k4
    obtain rfl : x5 = _ := by simpa [boolR] using k5
    obtain rfl : x6 = _ := by simpa [boolR] using k6
    obtain rfl : x7 = _ := by simpa [boolR] using k7
    obtain rfl : x8 = _ := by simpa [boolR] using k8
    obtain rfl : x9 = _ := by simpa [boolR] using k9
    obtain rfl : x10 = _ := by simpa using k10
    refine ⟨_, _, _, _, _, _, _, _, _, _, rfl, bd8 w10, ?_⟩
    intro v hv
    simp only [List.mem_cons, List.not_mem_nil, or_false] at hv
    rcases hv with rfl | rfl | rfl | rfl | rfl | rfl | rfl | rfl | rfl | rfl | rfl <;> rfl
def ednsR : Rp Int := fun _ cs _ => ∃ e0 e1 e2 e3 e4, cs = [e0, e1, e2, e3, e4] ∧ ∀ v ∈ cs, v.oneCell' = true
set_option maxRecDepth 100000 in
theorem opens_edns : Opens enc Try.prog W 30 5 ednsR := fun fuel cs x hf => by
  obtain ⟨hlen, hfs⟩ := opens_fields Try.underlying30 hf
  have hc : Try.prog.cellsOf 30 = 5 := by kernel_rfl
  rw [hc] at hlen
  have c0 : Try.prog.cellsOf 23 = 1 := by kernel_rfl
  have c1 : Try.prog.cellsOf 5 = 1 := by kernel_rfl
  have c2 : Try.prog.cellsOf 28 = 1 := by kernel_rfl
  obtain ⟨n0, y0, g0⟩ := hfs 0 _ rfl
  have g0 : DataW.trod enc Try.prog W 0 (fun _ => true) true n0 23 ((cs.drop 0).take (Try.prog.cellsOf 23)) = some y0 := g0
  rw [c0] at g0
  obtain ⟨a0, k0, w0⟩ := (opens_int Try.underlying23).at g0
  obtain ⟨n1, y1, g1⟩ := hfs 1 _ rfl
  have g1 : DataW.trod enc Try.prog W 0 (fun _ => true) true n1 5 ((cs.drop 1).take (Try.prog.cellsOf 5)) = some y1 := g1
  rw [c1] at g1
  obtain ⟨a1, k1, w1⟩ := (opens_int Try.underlying5).at g1
  obtain ⟨n2, y2, g2⟩ := hfs 2 _ rfl
  have g2 : DataW.trod enc Try.prog W 0 (fun _ => true) true n2 5 ((cs.drop 2).take (Try.prog.cellsOf 5)) = some y2 := g2
  rw [c1] at g2
  obtain ⟨a2, k2, w2⟩ := (opens_int Try.underlying5).at g2
  obtain ⟨n3, y3, g3⟩ := hfs 3 _ rfl
  have g3 : DataW.trod enc Try.prog W 0 (fun _ => true) true n3 23 ((cs.drop 3).take (Try.prog.cellsOf 23)) = some y3 := g3
  rw [c0] at g3
  obtain ⟨a3, k3, w3⟩ := (opens_int Try.underlying23).at g3
  obtain ⟨n4, y4, g4⟩ := hfs 4 _ rfl
  have g4 : DataW.trod enc Try.prog W 0 (fun _ => true) true n4 28 ((cs.drop 4).take (Try.prog.cellsOf 28)) = some y4 := g4
  rw [c2] at g4
  obtain ⟨a4, k4⟩ := (opens_any Try.underlying28).at g4
  refine ⟨hlen, 0, ?_⟩
  match cs, hlen with
  | [x0, x1, x2, x3, x4], _ =>
    obtain rfl : x0 = _ := by simpa using k0
    obtain rfl : x1 = _ := by simpa using k1
    obtain rfl : x2 = _ := by simpa using k2
    obtain rfl : x3 = _ := by simpa using k3
    obtain ⟨n4, m4, k4⟩ := k4
    obtain rfl : x4 = _ := by simpa using k4
    refine ⟨_, _, _, _, _, rfl, ?_⟩
    intro v hv
    simp only [List.mem_cons, List.not_mem_nil, or_false] at hv
    rcases hv with rfl | rfl | rfl | rfl | rfl <;> rfl
set_option maxRecDepth 100000 in
theorem opens_msg : Opens enc Try.prog W 32 21 msgR := fun fuel cs x hf => by
  obtain ⟨hlen, hfs⟩ := opens_fields Try.underlying32 hf
  have hc : Try.prog.cellsOf 32 = 21 := by kernel_rfl
  rw [hc] at hlen
  have c0 : Try.prog.cellsOf 25 = 11 := by kernel_rfl
  have c1 : Try.prog.cellsOf 26 = 1 := by kernel_rfl
  have c2 : Try.prog.cellsOf 27 = 1 := by kernel_rfl
  have c3 : Try.prog.cellsOf 4 = 1 := by kernel_rfl
  have c4 : Try.prog.cellsOf 30 = 5 := by kernel_rfl
  obtain ⟨n0, y0, g0⟩ := hfs 0 _ rfl
  have g0 : DataW.trod enc Try.prog W 0 (fun _ => true) true n0 25 ((cs.drop 0).take (Try.prog.cellsOf 25)) = some y0 := g0
  rw [c0] at g0
  obtain ⟨a0, k0⟩ := opens_head.at g0
  obtain ⟨n1, y1, g1⟩ := hfs 1 _ rfl
  have g1 : DataW.trod enc Try.prog W 0 (fun _ => true) true n1 26 ((cs.drop 11).take (Try.prog.cellsOf 26)) = some y1 := g1
  rw [c1] at g1
  obtain ⟨a1, k1⟩ := (opens_any Try.underlying26).at g1
  obtain ⟨n2, y2, g2⟩ := hfs 2 _ rfl
  have g2 : DataW.trod enc Try.prog W 0 (fun _ => true) true n2 27 ((cs.drop 12).take (Try.prog.cellsOf 27)) = some y2 := g2
  rw [c2] at g2
  obtain ⟨a2, k2⟩ := (opens_slice Try.underlying27 (by kernel_rfl) (by decide) (opens_rec (enc := enc))).at g2
  obtain ⟨n3, y3, g3⟩ := hfs 3 _ rfl
  have g3 : DataW.trod enc Try.prog W 0 (fun _ => true) true n3 27 ((cs.drop 13).take (Try.prog.cellsOf 27)) = some y3 := g3
  rw [c2] at g3
  obtain ⟨a3, k3⟩ := (opens_slice Try.underlying27 (by kernel_rfl) (by decide) (opens_rec (enc := enc))).at g3
  obtain ⟨n4, y4, g4⟩ := hfs 4 _ rfl
  have g4 : DataW.trod enc Try.prog W 0 (fun _ => true) true n4 27 ((cs.drop 14).take (Try.prog.cellsOf 27)) = some y4 := g4
  rw [c2] at g4
  obtain ⟨a4, k4⟩ := (opens_any Try.underlying27).at g4
  obtain ⟨n5, y5, g5⟩ := hfs 5 _ rfl
  have g5 : DataW.trod enc Try.prog W 0 (fun _ => true) true n5 4 ((cs.drop 15).take (Try.prog.cellsOf 4)) = some y5 := g5
  rw [c3] at g5
  obtain ⟨a5, k5⟩ := (opens_bool Try.underlying4).at g5
  obtain ⟨n6, y6, g6⟩ := hfs 6 _ rfl
  have g6 : DataW.trod enc Try.prog W 0 (fun _ => true) true n6 30 ((cs.drop 16).take (Try.prog.cellsOf 30)) = some y6 := g6
  rw [c4] at g6
  obtain ⟨a6, k6⟩ := opens_edns.at g6
  refine ⟨hlen, ⟨a0, a2, a3⟩, ?_⟩
  match cs, hlen with
  | [x0, x1, x2, x3, x4, x5, x6, x7, x8, x9, x10, x11, x12, x13, x14, x15, x16, x17, x18, x19, x20], _ =>
    obtain ⟨n1, m1, k1⟩ := k1
    obtain rfl : x11 = _ := by simpa using k1
    obtain ⟨n4, m4, k4⟩ := k4
    obtain rfl : x14 = _ := by simpa using k4
    obtain rfl : x15 = _ := by simpa [boolR] using k5
    obtain ⟨h0, h1, h2, h3, h4, h5, h6, h7, h8, h9, q0, hcode, hone⟩ := k0
    obtain ⟨e0', e1', e2', e3', e4', q6, hone6⟩ := k6
    simp only [List.drop_zero, List.take_succ_cons, List.take_zero, List.drop_succ_cons, List.cons.injEq, and_true] at q0 q6
    obtain ⟨rfl, rfl, rfl, rfl, rfl, rfl, rfl, rfl, rfl, rfl, rfl⟩ := q0
    obtain ⟨rfl, rfl, rfl, rfl, rfl⟩ := q6
    refine ⟨_, _, _, _, _, _, _, _, _, _, _, _, _, _, _, _, _, _, _, _, rfl, k2, k3, hcode, ?_⟩
    have s2 : ∀ v, sliceR 5 recR (allBlocks W) [v] a2 → v.oneCell' = true := fun v h => by obtain ⟨a, c, e, _⟩ := h; simp only [List.cons.injEq, and_true] at e; rw [e]; rfl
    have s3 : ∀ v, sliceR 5 recR (allBlocks W) [v] a3 → v.oneCell' = true := fun v h => by obtain ⟨a, c, e, _⟩ := h; simp only [List.cons.injEq, and_true] at e; rw [e]; rfl
    intro v hv
    have hv' : v ∈ [x0, x1, x2, x3, x4, x5, x6, x7, x8, x9, .int .u8 a0] ++ (_ :: x12 :: x13 :: _ :: _ :: [x16, x17, x18, x19, x20]) := hv
    rcases List.mem_append.1 hv' with hv | hv
    · exact hone v hv
    · simp only [List.mem_cons, List.not_mem_nil, or_false] at hv
      rcases hv with rfl | rfl | rfl | rfl | rfl | hv
      · rfl
      · exact s2 _ k2
      · exact s3 _ k3
      · rfl
      · rfl
      · exact hone6 v (by simpa using hv)
instance : Inhabited Vd.Msg := ⟨⟨0, [], []⟩⟩
instance : Inhabited Said := ⟨⟨0, default, 0⟩⟩
set_option maxRecDepth 100000 in
theorem opened_int (hv : Value.okWide Try.prog W .any base 3 v) (h : DataW.Trod enc Try.prog W 0 (fun _ => true) true 3 v d p) : ∃ n, v = .int .i64 n ∧ (-9223372036854775808 ≤ n ∧ n ≤ 9223372036854775807) := by
  obtain ⟨x, rfl, _, _, wx⟩ := open_int Try.underlying3 hv h
  exact ⟨x, rfl, bd64 wx⟩
end
end Go.Proofs.Ytdflhdfapnhjjaa
namespace Go.Proofs.Ytdflhdfapnhjjaa
open Go.ChangeShapes Go.WideShapes Go.ChangeAt Go.RowKit
open Vd (RSet Vdt Vote Rec Quest Piece Ballot Said)
set_option linter.unusedVariables false
set_option linter.unusedSimpArgs false
section
variable {H : Type} {enc : TypeId × Value → H} {W : World} {v : Value} {d : DataW H} {p : List MemPlace} {base : Nat}
def vdAny : Rp Int := fun _ cs _ => ∃ vc va vb, cs = [vc, va, vb] ∧ vc.oneCell' = true ∧ va.oneCell' = true ∧ vb.oneCell' = true
def voteAny : Rp (Int × Int) := fun _ cs p => ∃ vc va vb, cs = [.int .i64 p.1, vc, va, vb, .int .u32 p.2] ∧ (vc.oneCell' = true ∧ va.oneCell' = true ∧ vb.oneCell' = true) ∧ (0 ≤ p.2 ∧ p.2 ≤ 4294967295) ∧ (-9223372036854775808 ≤ p.1 ∧ p.1 ≤ 9223372036854775807)

set_option maxRecDepth 100000 in
theorem opens_vdAny : Opens enc Try.prog W 42 3 vdAny := fun fuel cs x hf => by
  obtain ⟨hlen, hfs⟩ := opens_fields Try.underlying42 hf
  have hc : Try.prog.cellsOf 42 = 3 := by kernel_rfl
  rw [hc] at hlen
  have c0 : Try.prog.cellsOf 5 = 1 := by kernel_rfl
  have c1 : Try.prog.cellsOf 40 = 1 := by kernel_rfl
  obtain ⟨n0, y0, g0⟩ := hfs 0 _ rfl
  have g0 : DataW.trod enc Try.prog W 0 (fun _ => true) true n0 5 ((cs.drop 0).take (Try.prog.cellsOf 5)) = some y0 := g0
  rw [c0] at g0
  obtain ⟨a0, k0, w0⟩ := (opens_int Try.underlying5).at g0
  obtain ⟨n1, y1, g1⟩ := hfs 1 _ rfl
  have g1 : DataW.trod enc Try.prog W 0 (fun _ => true) true n1 40 ((cs.drop 1).take (Try.prog.cellsOf 40)) = some y1 := g1
  rw [c1] at g1
  obtain ⟨a1, k1⟩ := (opens_any Try.underlying40).at g1
  obtain ⟨n2, y2, g2⟩ := hfs 2 _ rfl
  have g2 : DataW.trod enc Try.prog W 0 (fun _ => true) true n2 40 ((cs.drop 2).take (Try.prog.cellsOf 40)) = some y2 := g2
  rw [c1] at g2
  obtain ⟨a2, k2⟩ := (opens_any Try.underlying40).at g2
  refine ⟨hlen, 0, ?_⟩
  match cs, hlen with
  | [x0, x1, x2], _ =>
    obtain rfl : x0 = _ := by simpa using k0
    obtain ⟨n1, m1, k1⟩ := k1
    obtain rfl : x1 = _ := by simpa using k1
    obtain ⟨n2, m2, k2⟩ := k2
    obtain rfl : x2 = _ := by simpa using k2
    exact ⟨_, _, _, rfl, rfl, rfl, rfl⟩
set_option maxRecDepth 100000 in
theorem opens_voteAny : Opens enc Try.prog W 63 5 voteAny := fun fuel cs x hf => by
  obtain ⟨hlen, hfs⟩ := opens_fields Try.underlying63 hf
  have hc : Try.prog.cellsOf 63 = 5 := by kernel_rfl
  rw [hc] at hlen
  have c0 : Try.prog.cellsOf 3 = 1 := by kernel_rfl
  have c1 : Try.prog.cellsOf 42 = 3 := by kernel_rfl
  have c2 : Try.prog.cellsOf 36 = 1 := by kernel_rfl
  obtain ⟨n0, y0, g0⟩ := hfs 0 _ rfl
  have g0 : DataW.trod enc Try.prog W 0 (fun _ => true) true n0 3 ((cs.drop 0).take (Try.prog.cellsOf 3)) = some y0 := g0
  rw [c0] at g0
  obtain ⟨a0, k0, w0⟩ := (opens_int Try.underlying3).at g0
  obtain ⟨n1, y1, g1⟩ := hfs 1 _ rfl
  have g1 : DataW.trod enc Try.prog W 0 (fun _ => true) true n1 42 ((cs.drop 1).take (Try.prog.cellsOf 42)) = some y1 := g1
  rw [c1] at g1
  obtain ⟨a1, k1⟩ := (opens_vdAny (enc := enc)).at g1
  obtain ⟨n2, y2, g2⟩ := hfs 2 _ rfl
  have g2 : DataW.trod enc Try.prog W 0 (fun _ => true) true n2 36 ((cs.drop 4).take (Try.prog.cellsOf 36)) = some y2 := g2
  rw [c2] at g2
  obtain ⟨a2, k2, w2⟩ := (opens_int Try.underlying36).at g2
  refine ⟨hlen, (a0, a2), ?_⟩
  match cs, hlen with
  | [x0, x1, x2, x3, x4], _ =>
    obtain rfl : x0 = _ := by simpa using k0
    obtain rfl : x4 = _ := by simpa using k2
    obtain ⟨vc, va, vb, e, h1, h2, h3⟩ := k1
    simp only [List.drop_zero, List.take_succ_cons, List.take_zero, List.drop_succ_cons, List.cons.injEq, and_true] at e
    obtain ⟨rfl, rfl, rfl⟩ := e
    exact ⟨_, _, _, rfl, ⟨h1, h2, h3⟩, bd32 w2, bd64 w0⟩
instance : Inhabited TAct := ⟨⟨0, 0, 0, ⟨[], 0, 0⟩, default⟩⟩
set_option maxRecDepth 100000 in
theorem opens_act : Opens enc Try.prog W 73 30 actR := fun fuel cs x hf => by
  obtain ⟨hlen, hfs⟩ := opens_fields Try.underlying73 hf
  have hc : Try.prog.cellsOf 73 = 30 := by kernel_rfl
  rw [hc] at hlen
  have c0 : Try.prog.cellsOf 5 = 1 := by kernel_rfl
  have c1 : Try.prog.cellsOf 63 = 5 := by kernel_rfl
  have c2 : Try.prog.cellsOf 34 = 3 := by kernel_rfl
  have c3 : Try.prog.cellsOf 32 = 21 := by kernel_rfl
  obtain ⟨n0, y0, g0⟩ := hfs 0 _ rfl
  have g0 : DataW.trod enc Try.prog W 0 (fun _ => true) true n0 5 ((cs.drop 0).take (Try.prog.cellsOf 5)) = some y0 := g0
  rw [c0] at g0
  obtain ⟨a0, k0, w0⟩ := (opens_int Try.underlying5).at g0
  obtain ⟨n1, y1, g1⟩ := hfs 1 _ rfl
  have g1 : DataW.trod enc Try.prog W 0 (fun _ => true) true n1 63 ((cs.drop 1).take (Try.prog.cellsOf 63)) = some y1 := g1
  rw [c1] at g1
  obtain ⟨a1, k1⟩ := (opens_voteAny (enc := enc)).at g1
  obtain ⟨n2, y2, g2⟩ := hfs 2 _ rfl
  have g2 : DataW.trod enc Try.prog W 0 (fun _ => true) true n2 34 ((cs.drop 6).take (Try.prog.cellsOf 34)) = some y2 := g2
  rw [c2] at g2
  obtain ⟨a2, k2⟩ := (opens_quest (enc := enc)).at g2
  obtain ⟨n3, y3, g3⟩ := hfs 3 _ rfl
  have g3 : DataW.trod enc Try.prog W 0 (fun _ => true) true n3 32 ((cs.drop 9).take (Try.prog.cellsOf 32)) = some y3 := g3
  rw [c3] at g3
  obtain ⟨a3, k3⟩ := (opens_msg (enc := enc)).at g3
  refine ⟨hlen, ⟨a0, a1.1, a1.2, a2, a3⟩, ?_⟩
  match cs, hlen with
  | [x0, x1, x2, x3, x4, x5, x6, x7, x8, x9, x10, x11, x12, x13, x14, x15, x16, x17, x18, x19, x20, x21, x22, x23, x24, x25, x26, x27, x28, x29], _ =>
    obtain rfl : x0 = _ := by simpa using k0
    obtain ⟨vc, va, vb, e, h1, h2, h3⟩ := k1
    obtain ⟨e2, hq⟩ := k2
    simp only [List.drop_zero, List.take_succ_cons, List.take_zero, List.drop_succ_cons, List.cons.injEq, and_true] at e e2
    obtain ⟨rfl, rfl, rfl, rfl, rfl⟩ := e
    obtain ⟨rfl, rfl, rfl⟩ := e2
    exact ⟨_, _, _, _, rfl, ⟨rfl, hq⟩, k3, h1, bd8 w0, h2, h3⟩
set_option maxRecDepth 100000 in
theorem opened_acts (hv : Value.okWide Try.prog W .any base 69 v) (h : DataW.Trod enc Try.prog W 0 (fun _ => true) true 69 v d p) : ∃ l, sliceR 30 actR (allBlocks W) [v] l := by
  obtain ⟨a, len, cap, rfl⟩ := okWide_slice Try.underlying69 hv
  obtain ⟨fuel, hf⟩ := h
  obtain ⟨l, k0⟩ := (opens_slice Try.underlying69 (by kernel_rfl) (by decide) (opens_act (enc := enc))).at hf
  exact ⟨l, k0⟩
set_option maxRecDepth 100000 in
theorem opened_act (hv : Value.okWide Try.prog W .any base 73 v) (h : DataW.Trod enc Try.prog W 0 (fun _ => true) true 73 v d p) : ∃ cs a, v = .agg cs.toArray ∧ actR (allBlocks W) cs a := by
  obtain ⟨cs, rfl, hsz⟩ := okWide_struct Try.underlying73 hv
  obtain ⟨fuel, hf⟩ := h
  obtain ⟨q, hq⟩ := opens_act.at hf
  exact ⟨cs.toList, q, by simp, by simpa [Value.cells] using hq⟩
end
end Go.Proofs.Ytdflhdfapnhjjaa
namespace Go.Proofs.Ytdflhdfapnhjjaa
open Go.RowKit
open Vd (RSet Vdt Vote Rec Quest Piece Ballot)
set_option linter.unusedVariables false
set_option linter.unusedSimpArgs false
--auto
variable {G : World} {L : Blocks}
/-- An act that the statement leaves out. -/
def badA (f : Int) (m : List TAct) (x : TAct) : Prop := x.up < 0 ∨ 2 * f < x.up ∨ (m.any fun y => y.up == x.up) = true ∨ 1 < x.kind ∨ (x.kind = 0 ∧ x.ok = false)
structure Mine (f : Int) (m : List TAct) : Prop where
  nd : (m.map (·.up)).Nodup
  up : ∀ x ∈ m, 0 ≤ x.up ∧ x.up ≤ 2 * f
  good : ∀ x ∈ m, (x.kind = 0 ∧ x.ok = true) ∨ x.kind = 1
theorem Mine.nil (f : Int) : Mine f [] := ⟨by simp, by simp, by simp⟩
theorem Mine.push {f : Int} {m : List TAct} {x : TAct} (h : Mine f m) (hk : 0 ≤ x.kind) (hb : ¬ badA f m x) : Mine f (m ++ [x]) := by
  unfold badA at hb
  simp only [not_or] at hb
  obtain ⟨h1, h2, h3, h4, h5⟩ := hb
  refine ⟨?_, fun y hy => ?_, fun y hy => ?_⟩
  · rw [List.map_append]
    refine List.nodup_append.2 ⟨h.nd, by simp, fun a ha b hb => ?_⟩
    rw [List.map_singleton, List.mem_singleton] at hb
    obtain ⟨y, hy, rfl⟩ := List.mem_map.1 ha
    intro e
    exact h3 (List.any_eq_true.2 ⟨y, hy, by rw [e, hb]; simp⟩)
  · rcases List.mem_append.1 hy with hy | hy
    · exact h.up y hy
    · rw [List.mem_singleton.1 hy]; omega
  · rcases List.mem_append.1 hy with hy | hy
    · exact h.good y hy
    · rw [List.mem_singleton.1 hy]
      by_cases hk0 : x.kind = 0
      · left
        refine ⟨hk0, ?_⟩
        cases ho : x.ok with
        | true => rfl
        | false => exact absurd ⟨hk0, ho⟩ h5
      · right; omega
theorem Mine.perm {f : Int} {m k : List TAct} (h : Mine f m) (p : m.Perm k) : Mine f k := ⟨(p.map _).nodup h.nd, fun x hx => h.up x (p.mem_iff.2 hx), fun x hx => h.good x (p.mem_iff.2 hx)⟩
theorem Mine.len {f : Int} {m : List TAct} (h : Mine f m) (hf : 0 ≤ f) : (m.length : Int) ≤ 2 * f + 1 := by
  have h1 := nodup_bound (2 * f + 1).toNat (m.map (·.up)) h.nd fun u hu => by
    obtain ⟨x, hx, rfl⟩ := List.mem_map.1 hu
    have := h.up x hx
    omega
  rw [List.length_map] at h1
  omega
/-- The ballot of an act. -/
def ballotA (x : TAct) : Ballot := if x.kind = 0 then ⟨x.vote, false⟩ else ⟨⟨x.up, Vdt.none, 0⟩, true⟩
theorem ballotA_up (x : TAct) : (ballotA x).v.up = x.up := by
  unfold ballotA
  split <;> rfl
theorem doesB_mine {f : Int} (hf : f ≤ 4) {l : List Ballot} {x : TAct} (hu : 0 ≤ x.up ∧ x.up ≤ 2 * f) (hg : (x.kind = 0 ∧ x.ok = true) ∨ x.kind = 1) (hn : x.up ∉ l.map fun b => b.v.up) : doesB l x = l ++ [ballotA x] := by
  have hh : Vd.hasB l x.up = false := by
    cases hb : Vd.hasB l x.up with
    | false => rfl
    | true => exact absurd ((hasB_mem l _).1 hb) hn
  have hm : mayE l x.up = 0 := by unfold mayE; rw [if_neg (by omega), hh]; rfl
  unfold doesB ballotA
  by_cases h0 : x.kind = 0
  · have ho : x.ok = true := by rcases hg with h | h; exact h.2; omega
    rw [if_pos ⟨h0, ho⟩, if_pos h0]
    exact (putB_yes (x := ⟨x.vote, false⟩) hm).1
  · have h1 : x.kind = 1 := by rcases hg with h | h; exact absurd h.1 h0; exact h
    rw [if_neg (fun h => h0 h.1), if_pos h1, if_neg h0]
    exact (putB_yes (x := ⟨⟨x.up, Vdt.none, 0⟩, true⟩) hm).1
theorem fold_mine {f : Int} (hf : f ≤ 4) : ∀ (m : List TAct) (l : List Ballot), (∀ x ∈ m, 0 ≤ x.up ∧ x.up ≤ 2 * f) → (∀ x ∈ m, (x.kind = 0 ∧ x.ok = true) ∨ x.kind = 1) → (l.map (fun b => b.v.up) ++ m.map (·.up)).Nodup → m.foldl doesB l = l ++ m.map ballotA
  | [], l, _, _, _ => by simp
  | x :: m, l, h1, h2, h3 => by
    have hx : x.up ∉ l.map fun b => b.v.up := fun h => by
      have := (List.nodup_append.1 h3).2.2 _ h x.up (by simp)
      exact this rfl
    rw [List.foldl_cons, doesB_mine hf (h1 x (List.mem_cons_self ..)) (h2 x (List.mem_cons_self ..)) hx, fold_mine hf m _ (fun y hy => h1 y (List.mem_cons_of_mem _ hy)) (fun y hy => h2 y (List.mem_cons_of_mem _ hy)), List.map_cons, List.append_assoc]
    · rfl
    · rw [List.map_append, List.append_assoc]
      simpa [ballotA_up] using h3
theorem Mine.fold {f : Int} {m : List TAct} (h : Mine f m) (hf : f ≤ 4) : m.foldl doesB [] = m.map ballotA := by
  rw [fold_mine hf m [] h.up h.good (by simpa using h.nd)]
  simp
theorem votesB_perm {l k : List Ballot} (p : l.Perm k) : (Vd.votesB l).Perm (Vd.votesB k) := (p.filter _).map _
/-- THE LAW of the boxes. -/
theorem mine_law {f : Int} (h0 : 0 ≤ f) (hf : f ≤ 4) {m k : List TAct} (h : Mine f m) (p : m.Perm k) :
    (wonR (f + 1) (Vd.votesB (m.foldl doesB []))).2.2.2 = (wonR (f + 1) (Vd.votesB (k.foldl doesB []))).2.2.2 ∧ (wonR (f + 1) (Vd.votesB (m.foldl doesB []))).1 = (wonR (f + 1) (Vd.votesB (k.foldl doesB []))).1 ∧ mostR (Vd.votesB (m.foldl doesB [])) = mostR (Vd.votesB (k.foldl doesB [])) ∧
      (wonR (f + 1) (Vd.votesB (m.foldl doesB []))).2.2.2 = decide (f + 1 ≤ mostR (Vd.votesB (m.foldl doesB []))) := by
  rw [h.fold hf, (h.perm p).fold hf]
  refine one_law h0 (votesB_perm (p.map _)) ?_
  have h1 := votesB_len (m.map ballotA)
  rw [List.length_map] at h1
  have := h.len h0
  omega
/-- Who has been seen. -/
def seenC (m : List TAct) : Array Value := ((List.range 9).map fun (u : Nat) => Value.bool (m.any fun y => y.up == (u : Int))).toArray
theorem seenC_at (m : List TAct) {u : Int} (h0 : 0 ≤ u) (h9 : u < 9) : (seenC m)[0 + u.toNat * 1]? = some (.bool (m.any fun y => y.up == u)) := by
  unfold seenC
  rw [List.getElem?_toArray, List.getElem?_map, List.getElem?_range (by omega)]
  have : ((0 + u.toNat * 1 : Nat) : Int) = u := by omega
  simp only [Option.map_some, this]
theorem seenC_set (m : List TAct) {x : TAct} (h0 : 0 ≤ x.up) (h9 : x.up < 9) : (seenC m).setIfInBounds (0 + x.up.toNat * 1) (.bool true) = seenC (m ++ [x]) := by
  apply Array.ext'
  unfold seenC
  rw [Array.toList_setIfInBounds]
  refine List.ext_getElem? fun i => ?_
  rw [List.getElem?_set]
  simp only [List.getElem?_map, List.length_map, List.length_range]
  by_cases hi : i < 9
  · rw [List.getElem?_range hi]
    simp only [Option.map_some, List.any_append, List.any_cons, List.any_nil, Bool.or_false]
    by_cases e : 0 + x.up.toNat * 1 = i
    · rw [if_pos e, if_pos (by omega)]
      have : (x.up == (i : Int)) = true := by rw [beq_iff_eq]; omega
      rw [this, Bool.or_true]
    · rw [if_neg e]
      have : (x.up == (i : Int)) = false := by rw [beq_eq_false_iff_ne]; omega
      rw [this, Bool.or_false]
  · rw [List.getElem?_eq_none (by simp; omega)]
    split
    · omega
    · rfl
set_option maxRecDepth 100000 in
set_option maxHeartbeats 4000000 in
theorem tallyOne_S (half : Int) (v : Value) (l : List TAct) (turn : Int) (hl : sliceR 30 actR L [v] l) : Spec Try.prog G 8 #[.int .i64 half, v, .int .i64 turn] L fun u M => u = .bool true ∧ M = L := by
  obtain ⟨al, cl, e1, hl0⟩ := hl.val
  simp only [List.cons.injEq, and_true] at e1
  subst e1
  obtain ⟨_, ka1, ka2, hlc⟩ := sliceR.cut hl0
  unfold maxLen at ka2
  have hwu := wrap_u64_nonneg half
  refine Spec_of (n := 168) Try.func8 rfl rfl rfl ?_
  repeat ((first | with_reducible refine T_seq ?_ | with_reducible refine T_region ?_ | with_reducible refine TL_nil ?_ | with_reducible refine TQ_then ?_ | refine TL_q (op_move rfl) rfl ?_ | refine TL_q (op_assign rfl) rfl ?_))
  refine TL_opT (op_call hb_31 rfl (long21_S _ l hl0)) rfl ?_
  rintro _ _ ⟨b, rfl, hM, hb⟩
  rw [hM]
  clear hM
  cases b with
  | true =>
    repeat ((first | with_reducible refine T_seq ?_ | with_reducible refine T_region ?_ | with_reducible refine TL_nil ?_ | with_reducible refine TQ_then ?_ | with_reducible refine T_ret ?_ | with_reducible refine TQ_then_ret ?_ | refine TL_q (op_move rfl) rfl ?_ | refine TL_q (op_assign rfl) rfl ?_ | (refine' TL_q (op_pickT rfl ?_ rfl) rfl ?_; (· (with_reducible rfl))) | (refine' TL_op (op_call hb_32 rfl (awake21_S )) rfl ?_) | (refine TL_gno rfl rfl ?_ rfl ?_; (· (exact Bool.not_false))) | (refine T_yes rfl ?_ ?_; (· (with_reducible rfl)))))
    refine TQ_ret1 6 _ rfl rfl ?_
    exact ⟨rfl, rfl⟩
  | false =>
  obtain ⟨hn, hsm⟩ := hb rfl
  obtain ⟨f, hf⟩ : ∃ f, IntKind.u64.wrap half % 5 = f := ⟨_, rfl⟩
  have hf0 : 0 ≤ f := by omega
  have hf4 : f ≤ 4 := by omega
  repeat ((first | with_reducible refine T_seq ?_ | with_reducible refine T_block ?_ | with_reducible refine T_region ?_ | with_reducible refine TL_nil ?_ | with_reducible refine TQ_then ?_ | with_reducible refine T_skip ?_ | refine TL_q (op_move rfl) rfl ?_ | refine TL_q (op_assign rfl) rfl ?_ | (refine' TL_q (op_bin rfl rfl ?_) rfl ?_; rotate_left 1; (· (exact bin_rem (by omega) (by omega)))) | (refine' TL_q (op_pickF rfl ?_ rfl) rfl ?_; (· (with_reducible rfl))) | (refine' TL_q (op_conv_int rfl Try.underlying67 Try.underlying3 ?_) rfl ?_; (· exact ⟨by omega, by omega⟩)) | refine TL_q (op_conv_intW rfl Try.underlying3 Try.underlying67) rfl ?_ | (refine' TG_op (op_call hb_32 rfl (awake21_S )) rfl ?_) | (refine TL_gpre rfl rfl ?_ ?_; (· (with_reducible rfl))) | refine TL_gq2 (op_not rfl) rfl ?_ | (refine TL_new (op_alloc (C := #[(.bool false), (.bool false), (.bool false), (.bool false), (.bool false), (.bool false), (.bool false), (.bool false), (.bool false)]) zero_71 rfl) rfl ?_; intro bNew) | (refine T_no rfl ?_ ?_; (· (exact Bool.not_true)))))
  rw [hf]
  obtain ⟨bS, hbS⟩ : ∃ b, bNew = b := ⟨_, rfl⟩
  rw [hbS]
  clear hbS bNew
  refine T_loopS (σ := Nat × List TAct × Option Addr × Nat × Blocks) (fun y => y.1 ≤ l.length ∧ y.2.1.length ≤ y.1 ∧ (∀ x ∈ y.2.1, x.Small) ∧ Mine f y.2.1 ∧ ORow actR 73 30 L y.2.2.1 y.2.2.2.1 y.2.1 y.2.2.2.2) (fun y => [(0, .int .i64 half), (1, .slice al l.length cl), (2, .int .i64 turn), (7, .int .i64 f), (8, .slice y.2.2.1 y.2.1.length y.2.2.2.1), (9, .pointer (some ⟨bS, 0, none⟩)), (10, .int .i64 (y.1 : Nat))]) (fun y => (bS, Obj.cells (seenC y.2.1) 71 (0, 0)) :: (y.2.2.2.2 ++ L)) (fun y => l.length - y.1) (0, [], none, 0, []) ⟨Nat.zero_le _, Nat.zero_le _, by simp, Mine.nil f, ORow.nil _⟩ ?_ (fun w h => h) ?_
  (repeat ((first | exact trivial | refine ⟨rfl, ?_⟩)))
  rintro ⟨i, m, a, c, B⟩ ⟨hi, hml, hms, hm, hB⟩
  dsimp only at hi hml hms hm hB ⊢
  by_cases hil : i < l.length
  · obtain ⟨x, hx⟩ : ∃ x, l[i]? = some x := ⟨_, List.getElem?_eq_getElem hil⟩
    rcases hlc with rfl | ⟨b1, o1, C1, t1, f1, rfl, m1, q1⟩
    · simp at hil
    obtain ⟨cx, hcl, hxr, hcx⟩ := q1 i x hx
    have hx0 := hxr
    obtain ⟨vc, va, vb, cm, rfl, _, _, _, hk, ht, hu⟩ := hxr
    have hxs := hsm x (List.mem_of_getElem? hx)
    have m1' : (b1, Obj.cells C1 t1 f1) ∈ (bS, Obj.cells (seenC m) 71 (0, 0)) :: (B ++ L) := by simp [m1]
    have g0 : C1[o1 + i * 30 + 0]? = some (.int .u8 x.kind) := hcx 0 _ rfl
    have g1 : C1[o1 + i * 30 + 1 + 0]? = some (.int .i64 x.up) := hcx 1 _ rfl
    skip
    refine T_seq ?_
    skip
    refine T_seq ?_
    repeat ((first | with_reducible refine T_region ?_ | with_reducible refine TL_nil ?_ | with_reducible refine TQ_then ?_ | with_reducible refine T_skip ?_ | refine TL_q (op_move rfl) rfl ?_ | (refine' TL_q (op_bin rfl rfl ?_) rfl ?_; rotate_left 1; (· (exact bin_lss))) | refine TL_q (op_len_slice rfl Try.underlying69) rfl ?_ | (refine T_yes rfl ?_ ?_; (· (exact dT (by (omega)))))))
    refine T_mid (σ := List TAct × Option Addr × Nat × Blocks) (fun y => y.1.length ≤ i + 1 ∧ (∀ x ∈ y.1, x.Small) ∧ Mine f y.1 ∧ ORow actR 73 30 L y.2.1 y.2.2.1 y.1 y.2.2.2) (fun y => [(0, .int .i64 half), (1, .slice (some ⟨b1, o1, none⟩) l.length cl), (2, .int .i64 turn), (7, .int .i64 f), (8, .slice y.2.1 y.1.length y.2.2.1), (9, .pointer (some ⟨bS, 0, none⟩)), (10, .int .i64 (i : Nat))]) (fun y => (bS, Obj.cells (seenC y.1) 71 (0, 0)) :: (y.2.2.2 ++ L)) ?_ ?_
    · repeat ((first | with_reducible refine T_seq ?_ | with_reducible refine T_block ?_ | with_reducible refine T_region ?_ | with_reducible refine TL_nil ?_ | with_reducible refine TQ_then ?_ | refine TL_q (op_move rfl) rfl ?_ | refine TL_q (op_assign rfl) rfl ?_ | (refine' TL_q (op_idx ety_69 rfl rfl ?_) rfl ?_; (· omega)) | refine TL_q (op_fld rfl fld_63_0) rfl ?_ | refine TL_q (op_fld rfl fld_73_1) rfl ?_ | (refine' TL_q (op_ld rfl pl_3 ?_ ?_) rfl ?_; rotate_left 4; (· repeat ((assumption))); (· (assumption)))))
      refine TL_q (op_ldA (x.head vc va vb ++ cm) rfl (by rw [hcl]; exact st_73) m1' hcx) rfl ?_
      refine TL_opT (op_call hb_33 rfl (vote21_S _ x (mono_act _ _ _ _ (mem_of_cnt (by intro p; (try simp only [cnt_append, cnt_cons, cnt_nil]) <;> omega)) hx0) hxs)) rfl ?_
      rintro _ _ ⟨cv, rfl, hov⟩
      obtain ⟨hbd1, hbd2, hbd3⟩ := hx0.vote_bd
      obtain ⟨D, hD, rfl⟩ := hov.is hbd1 hbd2 hbd3
      obtain ⟨y1, yc1, y2, yc2, rfl, _⟩ := hD.vals
      repeat ((first | with_reducible refine TL_nil ?_ | with_reducible refine TQ_then ?_ | refine TL_q (op_move rfl) rfl ?_ | refine TL_q (op_assign rfl) rfl ?_ | refine TL_q (op_extract rfl rfl) rfl ?_ | (refine TL_stAll rfl rfl st_63 rfl rfl rfl ?_) | (refine TL_new (op_alloc (C := #[(.int .i64 0), (.int .u8 0), (.slice none 0 0), (.slice none 0 0), (.int .u32 0)]) zero_63 rfl) rfl ?_; intro bNew)))
      obtain ⟨b12, hb12⟩ : ∃ b, bNew = b := ⟨_, rfl⟩
      rw [hb12]
      clear hb12 bNew
      obtain ⟨M, hM⟩ : ∃ M, (b12, Obj.cells #[.int .i64 x.vote.up, .int .u8 x.vote.vd.code, .slice y1 x.vote.vd.sets.length yc1, .slice y2 x.vote.vd.soa.length yc2, .int .u32 x.vote.time] 63 (0, 0)) :: (D ++ ((bS, Obj.cells (seenC m) 71 (0, 0)) :: (B ++ L))) = M := ⟨_, rfl⟩
      have m1M : (b1, Obj.cells C1 t1 f1) ∈ M := by rw [← hM]; simp [m1]
      have mSM : (bS, Obj.cells (seenC m) 71 (0, 0)) ∈ M := by rw [← hM]; simp
      have hMc : ∀ p, cnt p ((bS, Obj.cells (seenC m) 71 (0, 0)) :: (B ++ L)) ≤ cnt p M := by rw [← hM]; exact (by intro p; (try simp only [cnt_append, cnt_cons, cnt_nil]) <;> omega)
      rw [hM]
      clear hM
      obtain ⟨sb, hsb⟩ : ∃ b, (m.any fun y => y.up == x.up) = b := ⟨_, rfl⟩
      obtain ⟨ok, hok⟩ : ∃ b, x.ok = b := ⟨_, rfl⟩
      rw [hok]
      by_cases c1 : x.up < 0
      · repeat ((first | with_reducible refine T_seq ?_ | with_reducible refine T_region ?_ | with_reducible refine TL_nil ?_ | with_reducible refine TQ_then ?_ | with_reducible refine T_exit ?_ | with_reducible refine TQ_then_exit ?_ | with_reducible refine TQ_block_exit ?_ | refine TL_q (op_move rfl) rfl ?_ | (refine' TL_q (op_bin rfl rfl ?_) rfl ?_; rotate_left 1; (· (exact bin_lss))) | (refine' TL_q (op_pickT rfl ?_ rfl) rfl ?_; (· (first | with_reducible rfl | exact dT (by (assumption))))) | (refine TL_gno rfl rfl ?_ rfl ?_; (· (first | exact Bool.not_false | exact dT (by (assumption))))) | refine TL_gundef rfl rfl rfl ?_ | (refine T_yes rfl ?_ ?_; (· (with_reducible rfl)))))
        refine TQ_mid (m, a, c, B) ⟨by dsimp only; omega, hms, hm, hB⟩ ?_ (fun w h => h.cnt hMc)
        (repeat ((first | exact trivial | refine ⟨rfl, ?_⟩)))
      by_cases c2 : 2 * f < x.up
      · repeat ((first | with_reducible refine T_seq ?_ | with_reducible refine T_region ?_ | with_reducible refine TL_nil ?_ | with_reducible refine TQ_then ?_ | with_reducible refine T_exit ?_ | with_reducible refine TQ_then_exit ?_ | with_reducible refine TQ_block_exit ?_ | refine TL_q (op_move rfl) rfl ?_ | (refine' TL_q (op_bin rfl rfl ?_) rfl ?_; rotate_left 1; (· (exact bin_lss))) | (refine' TL_q (op_pickT rfl ?_ rfl) rfl ?_; (· (first | with_reducible rfl | exact dT (by (assumption))))) | (refine' TL_q (op_pickF rfl ?_ rfl) rfl ?_; (· (exact dF (by (assumption))))) | (refine TL_gpre rfl rfl ?_ ?_; (· (exact dF (by (assumption))))) | refine TL_gq2 (op_move rfl) rfl ?_ | (refine' TL_gq2 (op_bin rfl rfl ?_) rfl ?_; rotate_left 1; (· (first | exact bin_mul ⟨by omega, by omega⟩ | exact bin_gtr))) | (refine TL_gno rfl rfl ?_ rfl ?_; (· (first | exact Bool.not_false | exact dT (by (assumption))))) | refine TL_gundef rfl rfl rfl ?_ | (refine T_yes rfl ?_ ?_; (· (with_reducible rfl)))))
        refine TQ_mid (m, a, c, B) ⟨by dsimp only; omega, hms, hm, hB⟩ ?_ (fun w h => h.cnt hMc)
        (repeat ((first | exact trivial | refine ⟨rfl, ?_⟩)))
      have gs : (seenC m)[0 + x.up.toNat * 1]? = some (.bool sb) := by rw [← hsb]; exact seenC_at m (by omega) (by omega)
      by_cases c3 : sb = true
      · subst c3
        repeat ((first | with_reducible refine T_seq ?_ | with_reducible refine T_region ?_ | with_reducible refine TL_nil ?_ | with_reducible refine TQ_then ?_ | with_reducible refine T_exit ?_ | with_reducible refine TQ_then_exit ?_ | with_reducible refine TQ_block_exit ?_ | refine TL_q (op_move rfl) rfl ?_ | (refine' TL_q (op_bin rfl rfl ?_) rfl ?_; rotate_left 1; (· (exact bin_lss))) | (refine' TL_q (op_pickT rfl ?_ rfl) rfl ?_; (· (with_reducible rfl))) | (refine' TL_q (op_pickF rfl ?_ rfl) rfl ?_; (· (exact dF (by (assumption))))) | (refine TL_gpre rfl rfl ?_ ?_; (· (exact dF (by (assumption))))) | refine TL_gq2 (op_move rfl) rfl ?_ | (refine' TL_gq2 (op_bin rfl rfl ?_) rfl ?_; rotate_left 1; (· (first | exact bin_mul ⟨by omega, by omega⟩ | exact bin_gtr))) | (refine' TL_gq2 (op_idxA arr_71 rfl rfl ?_ ?_) rfl ?_; (· omega); (· omega)) | (refine' TL_gq2 (op_ld rfl pl_3 ?_ ?_) rfl ?_; rotate_left 4; (· repeat ((assumption))); (· (assumption))) | (refine TL_gno rfl rfl ?_ rfl ?_; (· (exact Bool.not_false))) | refine TL_gundef rfl rfl rfl ?_ | (refine T_yes rfl ?_ ?_; (· (with_reducible rfl)))))
        refine TQ_mid (m, a, c, B) ⟨by dsimp only; omega, hms, hm, hB⟩ ?_ (fun w h => h.cnt hMc)
        (repeat ((first | exact trivial | refine ⟨rfl, ?_⟩)))
      obtain rfl : sb = false := by simpa using c3
      by_cases c4 : 1 < x.kind
      · repeat ((first | with_reducible refine T_seq ?_ | with_reducible refine T_region ?_ | with_reducible refine TL_nil ?_ | with_reducible refine TQ_then ?_ | with_reducible refine T_exit ?_ | with_reducible refine TQ_then_exit ?_ | with_reducible refine TQ_block_exit ?_ | refine TL_q (op_move rfl) rfl ?_ | (refine' TL_q (op_bin rfl rfl ?_) rfl ?_; rotate_left 1; (· (exact bin_lss))) | (refine' TL_q (op_pickT rfl ?_ rfl) rfl ?_; (· (exact dT (by (assumption))))) | (refine' TL_q (op_pickF rfl ?_ rfl) rfl ?_; (· (first | with_reducible rfl | exact dF (by (assumption))))) | (refine TL_gpre rfl rfl ?_ ?_; (· (first | with_reducible rfl | exact dF (by (assumption))))) | refine TL_gq2 (op_move rfl) rfl ?_ | (refine' TL_gq2 (op_bin rfl rfl ?_) rfl ?_; rotate_left 1; (· (first | exact bin_mul ⟨by omega, by omega⟩ | exact bin_gtr))) | (refine' TL_gq2 (op_idx ety_69 rfl rfl ?_) rfl ?_; (· omega)) | (refine' TL_gq2 (op_idxA arr_71 rfl rfl ?_ ?_) rfl ?_; (· omega); (· omega)) | refine TL_gq2 (op_fld rfl fld_63_0) rfl ?_ | (refine' TL_gq2 (op_ld rfl pl_3 ?_ ?_) rfl ?_; rotate_left 4; (· repeat ((assumption))); (· (assumption))) | (refine TL_gno rfl rfl ?_ rfl ?_; (· (exact dT (by (assumption))))) | refine TL_gundef rfl rfl rfl ?_ | (refine T_yes rfl ?_ ?_; (· (with_reducible rfl)))))
        refine TQ_mid (m, a, c, B) ⟨by dsimp only; omega, hms, hm, hB⟩ ?_ (fun w h => h.cnt hMc)
        (repeat ((first | exact trivial | refine ⟨rfl, ?_⟩)))
      by_cases c5 : x.kind = 0 ∧ ok = false
      · obtain ⟨c6, rfl⟩ := c5
        repeat ((first | with_reducible refine T_seq ?_ | with_reducible refine T_region ?_ | with_reducible refine TL_nil ?_ | with_reducible refine TQ_then ?_ | with_reducible refine T_exit ?_ | with_reducible refine TQ_then_exit ?_ | with_reducible refine TQ_block_exit ?_ | refine TL_q (op_move rfl) rfl ?_ | (refine' TL_q (op_bin rfl rfl ?_) rfl ?_; rotate_left 1; (· (exact bin_lss))) | (refine' TL_q (op_pickF rfl ?_ rfl) rfl ?_; (· (first | with_reducible rfl | exact dF (by (assumption))))) | (refine TL_gpre rfl rfl ?_ ?_; (· (first | with_reducible rfl | exact dT (by (assumption)) | exact dF (by (assumption))))) | refine TL_gq2 (op_move rfl) rfl ?_ | (refine' TL_gq2 (op_bin rfl rfl ?_) rfl ?_; rotate_left 1; (· (first | exact bin_mul ⟨by omega, by omega⟩ | exact bin_eql | exact bin_gtr))) | refine TL_gq2 (op_not rfl) rfl ?_ | (refine' TL_gq2 (op_pickT rfl ?_ rfl) rfl ?_; (· (exact dT (by (assumption))))) | (refine' TL_gq2 (op_idx ety_69 rfl rfl ?_) rfl ?_; (· omega)) | (refine' TL_gq2 (op_idxA arr_71 rfl rfl ?_ ?_) rfl ?_; (· omega); (· omega)) | refine TL_gq2 (op_fld rfl fld_63_0) rfl ?_ | (refine' TL_gq2 (op_ld rfl pl_3 ?_ ?_) rfl ?_; rotate_left 4; (· repeat ((assumption))); (· (assumption))) | (refine T_yes rfl ?_ ?_; (· (exact Bool.not_false)))))
        refine TQ_mid (m, a, c, B) ⟨by dsimp only; omega, hms, hm, hB⟩ ?_ (fun w h => h.cnt hMc)
        (repeat ((first | exact trivial | refine ⟨rfl, ?_⟩)))
      have hm125 : m.length ≤ 125 := by omega
      by_cases c6 : x.kind = 0
      · obtain rfl : ok = true := by
          cases ok with
          | true => rfl
          | false => exact absurd ⟨c6, rfl⟩ c5
        repeat ((first | with_reducible refine T_seq ?_ | with_reducible refine T_region ?_ | with_reducible refine TL_nil ?_ | with_reducible refine TQ_then ?_ | with_reducible refine T_skip ?_ | refine TL_q (op_move rfl) rfl ?_ | (refine' TL_q (op_bin rfl rfl ?_) rfl ?_; rotate_left 1; (· (exact bin_lss))) | (refine' TL_q (op_pickF rfl ?_ rfl) rfl ?_; (· (first | with_reducible rfl | exact dF (by (assumption))))) | (refine' TL_q (op_idxA arr_71 rfl rfl ?_ ?_) rfl ?_; (· omega); (· omega)) | (refine TL_gpre rfl rfl ?_ ?_; (· (first | with_reducible rfl | exact dT (by (assumption)) | exact dF (by (assumption))))) | refine TL_gq2 (op_move rfl) rfl ?_ | (refine' TL_gq2 (op_bin rfl rfl ?_) rfl ?_; rotate_left 1; (· (first | exact bin_mul ⟨by omega, by omega⟩ | exact bin_eql | exact bin_gtr))) | refine TL_gq2 (op_not rfl) rfl ?_ | (refine' TL_gq2 (op_pickT rfl ?_ rfl) rfl ?_; (· (exact dT (by (assumption))))) | (refine' TL_gq2 (op_idx ety_69 rfl rfl ?_) rfl ?_; (· omega)) | (refine' TL_gq2 (op_idxA arr_71 rfl rfl ?_ ?_) rfl ?_; (· omega); (· omega)) | refine TL_gq2 (op_fld rfl fld_63_0) rfl ?_ | (refine' TL_gq2 (op_ld rfl pl_3 ?_ ?_) rfl ?_; rotate_left 4; (· repeat ((assumption))); (· (assumption))) | (refine T_no rfl ?_ ?_; (· (exact Bool.not_true)))))
        refine TL_cnt (L' := (bS, Obj.cells (seenC m) 71 (0, 0)) :: (B ++ L)) ?_ hMc
        refine TL_st (C' := seenC (m ++ [x])) rfl rfl one_4 rfl gs (seenC_set m (by omega) (by omega)) ?_
        repeat ((first | with_reducible refine T_region ?_ | with_reducible refine TL_nil ?_ | with_reducible refine TQ_then ?_ | refine TL_q (op_move rfl) rfl ?_ | (refine' TL_q (op_idx ety_69 rfl rfl ?_) rfl ?_; (· omega))))
        refine TL_q (op_ldA (x.head vc va vb ++ cm) rfl (by rw [hcl]; exact st_73) (List.mem_cons_of_mem _ (List.mem_append_right _ m1)) hcx) rfl ?_
        refine TL_new (op_litN ety_69 rfl hcl (by decide)) rfl ?_
        intro bLit
        refine TL_cnt (L' := (bLit, Obj.cells (x.head vc va vb ++ cm).toArray 73 (0, 0)) :: (B ++ ((bS, Obj.cells (seenC (m ++ [x])) 71 (0, 0)) :: L))) ?_ (by intro p; (try simp only [cnt_append, cnt_cons, cnt_nil]) <;> omega)
        refine TL_opT (op_push (L0 := L) (r := actR) (y := x) ety_69 rfl rfl hB hcl hx0.one hx0 (by unfold maxLen; omega) (by omega)) rfl ?_
        rintro _ _ ⟨a', c', B', rfl, hB', rfl⟩
        repeat ((first | with_reducible refine TL_nil ?_ | with_reducible refine TQ_block ?_ | refine TL_q (op_assign rfl) rfl ?_))
        refine TQ_mid (m ++ [x], a', c', B') ⟨by dsimp only; rw [List.length_append]; simp only [List.length_cons, List.length_nil]; omega, fun y hy => (List.mem_append.1 hy).elim (hms y) (fun h => by rw [List.mem_singleton.1 h]; exact hxs), hm.push hk.1 (by unfold badA; rw [hsb, hok]; rintro (h | h | h | h | h) <;> (first | omega | exact c5 h | cases h)), hB'⟩ ?_ (fun w h => h.cnt (by intro p; (try simp only [cnt_append, cnt_cons, cnt_nil]) <;> omega))
        (repeat ((first | exact trivial | refine ⟨rfl, ?_⟩)))
      · have c7 : x.kind = 1 := by omega
        repeat ((first | with_reducible refine T_seq ?_ | with_reducible refine T_region ?_ | with_reducible refine TL_nil ?_ | with_reducible refine TQ_then ?_ | with_reducible refine T_skip ?_ | refine TL_q (op_move rfl) rfl ?_ | (refine' TL_q (op_bin rfl rfl ?_) rfl ?_; rotate_left 1; (· (exact bin_lss))) | (refine' TL_q (op_pickF rfl ?_ rfl) rfl ?_; (· (first | with_reducible rfl | exact dF (by (assumption))))) | (refine' TL_q (op_idxA arr_71 rfl rfl ?_ ?_) rfl ?_; (· omega); (· omega)) | (refine TL_gpre rfl rfl ?_ ?_; (· (first | with_reducible rfl | exact dF (by (assumption))))) | refine TL_gq2 (op_move rfl) rfl ?_ | (refine' TL_gq2 (op_bin rfl rfl ?_) rfl ?_; rotate_left 1; (· (first | exact bin_mul ⟨by omega, by omega⟩ | exact bin_eql | exact bin_gtr))) | (refine' TL_gq2 (op_pickF rfl ?_ rfl) rfl ?_; (· (exact dF (by (assumption))))) | (refine' TL_gq2 (op_idx ety_69 rfl rfl ?_) rfl ?_; (· omega)) | (refine' TL_gq2 (op_idxA arr_71 rfl rfl ?_ ?_) rfl ?_; (· omega); (· omega)) | refine TL_gq2 (op_fld rfl fld_63_0) rfl ?_ | (refine' TL_gq2 (op_ld rfl pl_3 ?_ ?_) rfl ?_; rotate_left 4; (· repeat ((assumption))); (· (assumption))) | (refine TL_gno rfl rfl ?_ rfl ?_; (· (exact dF (by (assumption))))) | (refine T_no rfl ?_ ?_; (· (with_reducible rfl)))))
        refine TL_cnt (L' := (bS, Obj.cells (seenC m) 71 (0, 0)) :: (B ++ L)) ?_ hMc
        refine TL_st (C' := seenC (m ++ [x])) rfl rfl one_4 rfl gs (seenC_set m (by omega) (by omega)) ?_
        repeat ((first | with_reducible refine T_region ?_ | with_reducible refine TL_nil ?_ | with_reducible refine TQ_then ?_ | refine TL_q (op_move rfl) rfl ?_ | (refine' TL_q (op_idx ety_69 rfl rfl ?_) rfl ?_; (· omega))))
        refine TL_q (op_ldA (x.head vc va vb ++ cm) rfl (by rw [hcl]; exact st_73) (List.mem_cons_of_mem _ (List.mem_append_right _ m1)) hcx) rfl ?_
        refine TL_new (op_litN ety_69 rfl hcl (by decide)) rfl ?_
        intro bLit
        refine TL_cnt (L' := (bLit, Obj.cells (x.head vc va vb ++ cm).toArray 73 (0, 0)) :: (B ++ ((bS, Obj.cells (seenC (m ++ [x])) 71 (0, 0)) :: L))) ?_ (by intro p; (try simp only [cnt_append, cnt_cons, cnt_nil]) <;> omega)
        refine TL_opT (op_push (L0 := L) (r := actR) (y := x) ety_69 rfl rfl hB hcl hx0.one hx0 (by unfold maxLen; omega) (by omega)) rfl ?_
        rintro _ _ ⟨a', c', B', rfl, hB', rfl⟩
        repeat ((first | with_reducible refine TL_nil ?_ | with_reducible refine TQ_block ?_ | refine TL_q (op_assign rfl) rfl ?_))
        refine TQ_mid (m ++ [x], a', c', B') ⟨by dsimp only; rw [List.length_append]; simp only [List.length_cons, List.length_nil]; omega, fun y hy => (List.mem_append.1 hy).elim (hms y) (fun h => by rw [List.mem_singleton.1 h]; exact hxs), hm.push hk.1 (by unfold badA; rw [hsb, hok]; rintro (h | h | h | h | h) <;> (first | omega | cases h)), hB'⟩ ?_ (fun w h => h.cnt (by intro p; (try simp only [cnt_append, cnt_cons, cnt_nil]) <;> omega))
        (repeat ((first | exact trivial | refine ⟨rfl, ?_⟩)))
    · rintro ⟨m', a', c', B'⟩ ⟨hml', hms', hm', hB'⟩
      dsimp only at hml' hms' hm' hB' ⊢
      repeat ((first | with_reducible refine T_region ?_ | with_reducible refine TL_nil ?_ | refine TL_q (op_move rfl) rfl ?_ | refine TL_q (op_assign rfl) rfl ?_ | (refine' TL_q (op_bin rfl rfl ?_) rfl ?_; rotate_left 1; (· (exact bin_add ⟨by omega, by omega⟩)))))
      refine TQ_roundS (i + 1, m', a', c', B') ⟨hil, hml', hms', hm', hB'⟩ ?_ (fun w h => h) (by dsimp only; omega)
      (repeat ((first | exact trivial | refine ⟨rfl, ?_⟩)))
  · have hie : i = l.length := by omega
    subst hie
    repeat ((first | with_reducible refine T_seq ?_ | with_reducible refine T_region ?_ | with_reducible refine TL_nil ?_ | with_reducible refine TQ_then ?_ | with_reducible refine T_exit ?_ | with_reducible refine TQ_then_exit ?_ | with_reducible refine TQ_block_exit ?_ | refine TL_q (op_move rfl) rfl ?_ | refine TL_q (op_assign rfl) rfl ?_ | (refine' TL_q (op_bin rfl rfl ?_) rfl ?_; rotate_left 1; (· (first | exact bin_lss | exact bin_gtr))) | refine TL_q (op_len_slice rfl Try.underlying69) rfl ?_ | (refine T_no rfl ?_ ?_; (· (exact dF (by (omega)))))))
    have hlen := hm.len hf0
    have hwt := wrap_u64_nonneg turn
    have hm125 : m.length ≤ 125 := by omega
    have hcap := hB.cap
    unfold maxLen at hcap
    refine T_midK (σ := Nat) (fun k => k ≤ m.length) (fun k => [(7, .int .i64 f), (8, .slice a m.length c), (14, .int .i64 (k : Nat))]) (fun _ => B ++ L) ?_ ?_
    · by_cases hm0 : 0 < m.length
      · have hr0 := Int.emod_nonneg (IntKind.u64.wrap turn) (b := (m.length : Int)) (by omega)
        have hr1 := Int.emod_lt_of_pos (IntKind.u64.wrap turn) (b := (m.length : Int)) (by omega)
        repeat ((first | with_reducible refine T_region ?_ | with_reducible refine TL_nil ?_ | refine TL_q (op_move rfl) rfl ?_ | refine TL_q (op_assign rfl) rfl ?_ | (refine' TL_q (op_bin rfl rfl ?_) rfl ?_; rotate_left 1; (· (exact bin_rem (by omega) (by omega)))) | (refine' TL_q (op_conv_int rfl Try.underlying3 Try.underlying67 ?_) rfl ?_; (· exact ⟨by omega, by omega⟩)) | (refine' TL_q (op_conv_int rfl Try.underlying67 Try.underlying3 ?_) rfl ?_; (· exact ⟨by omega, by omega⟩)) | refine TL_q (op_conv_intW rfl Try.underlying3 Try.underlying67) rfl ?_ | refine TL_q (op_len_slice rfl Try.underlying69) rfl ?_ | (refine T_yes rfl ?_ ?_; (· (exact dT (by (omega)))))))
        refine TQ_mid (IntKind.u64.wrap turn % (m.length : Int)).toNat (by omega) ?_ (fun w h => h.tail)
        rw [show (((IntKind.u64.wrap turn % (m.length : Int)).toNat : Nat) : Int) = IntKind.u64.wrap turn % (m.length : Int) by omega]
        (repeat ((first | exact trivial | refine ⟨rfl, ?_⟩)))
      · repeat ((first | with_reducible refine T_skip ?_ | (refine T_no rfl ?_ ?_; (· (exact dF (by (omega)))))))
        refine TQ_mid 0 (by omega) ?_ (fun w h => h.tail)
        (repeat ((first | exact trivial | refine ⟨rfl, ?_⟩)))
    · rintro k hk
      repeat ((first | with_reducible refine T_seq ?_ | with_reducible refine T_region ?_ | refine TL_q (op_move rfl) rfl ?_))
      refine TL_opT (op_call hb_34 rfl (made21_S (K := L) f _ m ((hB.imp (r' := fun _ => actR L) (L' := []) (fun cs x _ h => h)).sliceR mono_const (by simp) (mem_of_cnt (by intro p; (try simp only [cnt_append, cnt_cons, cnt_nil]) <;> omega))) (mem_of_cnt (by intro p; (try simp only [cnt_append, cnt_cons, cnt_nil]) <;> omega)) hms)) rfl ?_
      rintro _ _ ⟨ba, XA, rfl, hXA, rfl⟩
      have hdrop := (hB.sliceR mono_act (L' := B ++ L) (mem_of_cnt (by intro p; (try simp only [cnt_append, cnt_cons, cnt_nil]) <;> omega)) (mem_of_cnt (by intro p; (try simp only [cnt_append, cnt_cons, cnt_nil]) <;> omega))).drop hk
      have htake := (hB.sliceR mono_act (L' := B ++ L) (mem_of_cnt (by intro p; (try simp only [cnt_append, cnt_cons, cnt_nil]) <;> omega)) (mem_of_cnt (by intro p; (try simp only [cnt_append, cnt_cons, cnt_nil]) <;> omega))).take hk
      have hrow : sliceR 30 (fun _ => actR L) (B ++ L) [.slice a m.length c] m := (hB.imp (r' := fun _ => actR L) (L' := []) (fun cs x _ h => h)).sliceR mono_const (by simp) (mem_of_cnt (by intro p; (try simp only [cnt_append, cnt_cons, cnt_nil]) <;> omega))
      have hdrop := hrow.drop hk
      have htake := hrow.take hk
      repeat ((first | with_reducible refine T_seq ?_ | with_reducible refine TL_nil ?_ | with_reducible refine TQ_then ?_ | refine TL_q (op_move rfl) rfl ?_ | refine TL_q (op_assign rfl) rfl ?_ | refine TL_q (op_extract rfl rfl) rfl ?_))
      refine T_draw follows_mixed ([]) [] ?_
      (refine' TA_take 0 rfl rfl (by kernel_rfl) (quiet_q (op_move rfl)) ?_ ?_; (· (intro p hp; grind)))
      (refine' TA_take 2 rfl rfl (by kernel_rfl) (quiet_q (op_move rfl)) ?_ ?_; (· (intro p hp; grind)))
      (refine' TA_take 3 rfl rfl (by kernel_rfl) (quiet_q (op_move rfl)) ?_ ?_; (· (intro p hp; grind)))
      (refine' TA_take 4 rfl rfl (by kernel_rfl) (quiet_q (op_cutFrom ety_69 rfl rfl ?_ ?_)) ?_ ?_; (· omega); (· omega); (· (intro p hp; grind)))
      (refine' TA_take 6 rfl rfl (by kernel_rfl) (quiet_q (op_move rfl)) ?_ ?_; (· (intro p hp; grind)))
      (refine' TA_take 7 rfl rfl (by kernel_rfl) (quiet_q (op_move rfl)) ?_ ?_; (· (intro p hp; grind)))
      (refine' TA_take 8 rfl rfl (by kernel_rfl) (quiet_q (op_slice_to ety_69 rfl rfl ?_ ?_)) ?_ ?_; (· omega); (· omega); (· (intro p hp; grind)))
      refine TA_oneD 1 (by kernel_rfl) rfl rfl rfl rfl (op_lit0 ety_69) ?_; rintro _ _ ⟨b0, rfl, rfl⟩; refine ⟨Or.inr (fun p hp => absurd hp (by simp)), ?_⟩
      refine TA_cnt (L' := [(b0, Obj.cells #[] 73 (0, 0))] ++ (XA ++ (B ++ L))) ?_ (by intro p; (try simp only [cnt_append, cnt_cons, cnt_nil]) <;> omega); refine TA_oneD 5 (by kernel_rfl) rfl rfl rfl rfl (op_appendG2 (r := fun _ => actR L) (L0 := B ++ L) (l := []) (m := m.drop k) ety_69 rfl rfl rfl (by rw [List.length_drop]; omega) ORow.made (by rw [List.length_drop]; exact hdrop) (mem_of_cnt (by intro p; (try simp only [cnt_append, cnt_cons, cnt_nil]) <;> omega)) mono_const (fun cs y h => actR.one h) (by simp; omega) (by decide)) ?_; rintro _ _ ⟨a3, c3, B3, rfl, hB3, rfl⟩; refine ⟨Or.inr (fun p hp => absurd hp (by simp)), ?_⟩
      refine TA_oneD 9 (by kernel_rfl) rfl rfl rfl rfl (op_appendG2 (r := fun _ => actR L) (L0 := B ++ L) (l := [] ++ m.drop k) (m := m.take k) ety_69 rfl rfl rfl (by rw [List.length_take]; omega) hB3 (by rw [List.length_take, Nat.min_eq_left hk]; exact htake) (mem_of_cnt (by intro p; (try simp only [cnt_append, cnt_cons, cnt_nil]) <;> omega)) mono_const (fun cs y h => actR.one h) (by simp; omega) (by decide)) ?_; rintro _ _ ⟨a4, c4, B4, rfl, hB4, rfl⟩; refine ⟨Or.inr (fun p hp => absurd hp (by simp)), ?_⟩
      refine TA_oneD 10 (by kernel_rfl) rfl rfl rfl rfl (op_call hb_34 rfl (made21_S (K := L) f _ ([] ++ m.drop k ++ m.take k) ((hB4.imp (r' := fun _ => actR L) (L' := []) (fun cs x _ h => h)).sliceR mono_const (by simp) (mem_of_cnt (by intro p; (try simp only [cnt_append, cnt_cons, cnt_nil]) <;> omega))) (mem_of_cnt (by intro p; (try simp only [cnt_append, cnt_cons, cnt_nil]) <;> omega)) (fun x hx => hms x (by simp at hx; rcases hx with hx | hx; exact List.mem_of_mem_drop hx; exact List.mem_of_mem_take hx)))) ?_; rintro _ _ ⟨bb, XB, rfl, hXB, rfl⟩; refine ⟨Or.inr (fun p hp => absurd hp (by simp)), ?_⟩
      (refine' TA_take 11 rfl rfl (by kernel_rfl) (quiet_q (op_move rfl)) ?_ ?_; (· (intro p hp; grind)))
      (refine' TA_take 12 rfl rfl (by kernel_rfl) (quiet_q (op_extract rfl rfl)) ?_ ?_; (· (intro p hp; grind)))
      (refine' TA_take 13 rfl rfl (by kernel_rfl) (quiet_q (op_extract rfl rfl)) ?_ ?_; (· (intro p hp; grind)))
      (refine' TA_take 14 rfl rfl (by kernel_rfl) (quiet_q (op_assign rfl)) ?_ ?_; (· (intro p hp; grind)))
      (refine' TA_take 15 rfl rfl (by kernel_rfl) (quiet_q (op_assign rfl)) ?_ ?_; (· (intro p hp; grind)))
      refine TA_done (by kernel_rfl) ?_
      have hwf : wantOf f = f + 1 := by
        unfold wantOf
        rw [wrap_in (k := .u64) (a := f) ⟨by omega, by omega⟩]
        omega
      have hlaw := mine_law hf0 hf4 hm (k := [] ++ m.drop k ++ m.take k) (by
        rw [List.nil_append]
        refine (List.Perm.of_eq (List.take_append_drop k m).symm).trans List.perm_append_comm)
      rw [hwf] at hXA hXB ⊢
      obtain ⟨bal, hbal⟩ : ∃ b, m.foldl doesB [] = b := ⟨_, rfl⟩
      obtain ⟨bal2, hbal2⟩ : ∃ b, ([] ++ m.drop k ++ m.take k).foldl doesB [] = b := ⟨_, rfl⟩
      rw [hbal] at hXA hlaw
      rw [hbal2] at hXB hlaw
      have hwp : ∀ vs, wonP (f + 1) vs = wonR (f + 1) vs := fun vs => if_neg (by omega)
      refine TQ_cnt (L' := XA ++ (XB ++ L)) ?_ (by intro p; (try simp only [cnt_append, cnt_cons, cnt_nil]) <;> omega)
      have hWA := pWon_B (G := G) (L := XA ++ (XB ++ L)) hXA (mem_of_cnt (by intro p; (try simp only [cnt_append, cnt_cons, cnt_nil]) <;> omega))
      rw [hwp] at hWA
      have hcode : 0 ≤ (wonR (f + 1) (Vd.votesB bal)).1.code ∧ (wonR (f + 1) (Vd.votesB bal)).1.code ≤ 255 := hXA.wonCode (f + 1)
      have hMA := fun (L' : Blocks) (h : ∀ p ∈ XA, p ∈ L') => pMost_B (G := G) (L := L') hXA h
      have hMB := fun (L' : Blocks) (h : ∀ p ∈ XB, p ∈ L') => pMost_B (G := G) (L := L') hXB h
      repeat ((first | with_reducible refine T_seq ?_ | with_reducible refine T_region ?_ | with_reducible refine TQ_then ?_ | refine TL_q (op_move rfl) rfl ?_))
      refine TL_opT (op_call hb_35 rfl hWA) rfl ?_
      obtain ⟨r, hr⟩ : ∃ r, wonR (f + 1) (Vd.votesB bal) = r := ⟨_, rfl⟩
      rw [hr] at hlaw hcode ⊢
      rintro _ _ ⟨a5, c5, B5, a6, c6, B6, a7, c7, B7, N, rfl, hB5, hB6, hB7, hN, rfl⟩
      repeat ((first | with_reducible refine T_seq ?_ | with_reducible refine T_region ?_ | with_reducible refine TL_nil ?_ | with_reducible refine TQ_then ?_ | refine TL_q (op_move rfl) rfl ?_ | refine TL_q (op_assign rfl) rfl ?_ | refine TL_q (op_extract rfl rfl) rfl ?_ | (refine TL_stAll rfl rfl st_42 rfl rfl rfl ?_) | (refine TL_new (op_alloc (C := #[(.int .u8 0), (.slice none 0 0), (.slice none 0 0)]) zero_42 rfl) rfl ?_; intro bNew)))
      obtain ⟨b19, hb19⟩ : ∃ b, bNew = b := ⟨_, rfl⟩
      rw [hb19]
      clear hb19 bNew
      refine TL_cnt (L' := (b19, Obj.cells #[.int .u8 r.1.code, .slice a5 r.1.sets.length c5, .slice a6 r.1.soa.length c6] 42 (0, 0)) :: (B6 ++ (B5 ++ (N ++ (XA ++ (XB ++ L)))))) ?_ (by intro p; (try simp only [cnt_append, cnt_cons, cnt_nil]) <;> omega)
      have hWB := pWon_B (G := G) (L := (b19, Obj.cells #[.int .u8 r.1.code, .slice a5 r.1.sets.length c5, .slice a6 r.1.soa.length c6] 42 (0, 0)) :: (B6 ++ (B5 ++ (N ++ (XA ++ (XB ++ L)))))) hXB (mem_of_cnt (by intro p; (try simp only [cnt_append, cnt_cons, cnt_nil]) <;> omega))
      rw [hwp] at hWB
      refine TL_opT (op_call hb_35 rfl hWB) rfl ?_
      obtain ⟨r2, hr2⟩ : ∃ r, wonR (f + 1) (Vd.votesB bal2) = r := ⟨_, rfl⟩
      rw [hr2] at hlaw ⊢
      obtain ⟨v2, t2, by2, is2⟩ := r2
      obtain ⟨v1, t1, by1, is1⟩ := r
      dsimp only at hlaw
      obtain ⟨rfl, rfl, hmo, his⟩ := hlaw
      rw [← hmo] at hMB
      rintro _ _ ⟨a8, c8, B8, a9, c9, B9, a10, c10, B10, N2, rfl, hB8, hB9, hB10, hN2, rfl⟩
      dsimp only at hB5 hB6 hB7 hB8 hB9 hB10 hcode ⊢
      obtain ⟨mo, hmo⟩ : ∃ mo, mostR (Vd.votesB bal) = mo := ⟨_, rfl⟩
      rw [hmo] at hMA hMB his
      have d0 : (is1 == is1) = true := by simp
      have d1 : decide (v1 = v1) = true := by simp
      have d2 : (mo == mo) = true := by simp
      have d3 : (is1 == decide (f + 1 ≤ mo)) = true := by rw [his]; simp
      repeat ((first | with_reducible refine T_seq ?_ | with_reducible refine T_region ?_ | with_reducible refine TL_nil ?_ | with_reducible refine TQ_then ?_ | refine TL_q (op_move rfl) rfl ?_ | refine TL_q (op_assign rfl) rfl ?_ | (refine' TL_q (op_bin rfl rfl ?_) rfl ?_; rotate_left 1; (· (exact bbin_eql Try.underlying4))) | refine TL_q (op_extract rfl rfl) rfl ?_ | (refine TL_gpre rfl rfl ?_ ?_; (· (assumption))) | (refine' TL_gq2 (op_ldAll rfl st_42 ?_ ?_) rfl ?_; rotate_left 3; (· repeat ((first | exact List.mem_cons_self | apply List.mem_cons_of_mem | apply List.mem_append_right))); (· (rfl))) | (refine TL_stAll rfl rfl st_42 rfl rfl rfl ?_) | (refine TL_new (op_alloc (C := #[(.int .u8 0), (.slice none 0 0), (.slice none 0 0)]) zero_42 rfl) rfl ?_; intro bNew)))
      refine TG_op (op_call hb_23 rfl (vSame_S [.int .u8 v1.code, .slice a5 v1.sets.length c5, .slice a6 v1.soa.length c6] [.int .u8 v1.code, .slice a8 v1.sets.length c8, .slice a9 v1.soa.length c9] v1 v1 ⟨_, _, rfl, hB5.sliceR mono_set (mem_of_cnt (by intro p; (try simp only [cnt_append, cnt_cons, cnt_nil]) <;> omega)) (mem_of_cnt (by intro p; (try simp only [cnt_append, cnt_cons, cnt_nil]) <;> omega)), hB6.sliceR mono_set (mem_of_cnt (by intro p; (try simp only [cnt_append, cnt_cons, cnt_nil]) <;> omega)) (mem_of_cnt (by intro p; (try simp only [cnt_append, cnt_cons, cnt_nil]) <;> omega)), hcode⟩ ⟨_, _, rfl, hB8.sliceR mono_set (mem_of_cnt (by intro p; (try simp only [cnt_append, cnt_cons, cnt_nil]) <;> omega)) (mem_of_cnt (by intro p; (try simp only [cnt_append, cnt_cons, cnt_nil]) <;> omega)), hB9.sliceR mono_set (mem_of_cnt (by intro p; (try simp only [cnt_append, cnt_cons, cnt_nil]) <;> omega)) (mem_of_cnt (by intro p; (try simp only [cnt_append, cnt_cons, cnt_nil]) <;> omega)), hcode⟩)) rfl ?_
      repeat ((first | refine TL_q (op_move rfl) rfl ?_ | (refine' TL_q (op_pickT rfl ?_ rfl) rfl ?_; (· (assumption))) | (refine TL_gpre rfl rfl ?_ ?_; (· (assumption))) | refine TL_gq2 (op_move rfl) rfl ?_))
      refine TG_op (op_call hb_36 rfl (hMA _ (mem_of_cnt (by intro p; (try simp only [cnt_append, cnt_cons, cnt_nil]) <;> omega)))) rfl ?_
      repeat ((first | (refine TL_gpre rfl rfl ?_ ?_; (· (assumption))) | refine TL_gq2 (op_move rfl) rfl ?_))
      refine TG_op (op_call hb_36 rfl (hMB _ (mem_of_cnt (by intro p; (try simp only [cnt_append, cnt_cons, cnt_nil]) <;> omega)))) rfl ?_
      repeat ((first | refine TL_q (op_move rfl) rfl ?_ | (refine' TL_q (op_pickT rfl ?_ rfl) rfl ?_; (· (assumption))) | (refine TL_gpre rfl rfl ?_ ?_; (· (assumption))) | refine TL_gq2 (op_move rfl) rfl ?_ | (refine' TL_gq2 (op_bin rfl rfl ?_) rfl ?_; rotate_left 1; (· (exact bin_eql)))))
      refine TG_op (op_call hb_36 rfl (hMA _ (mem_of_cnt (by intro p; (try simp only [cnt_append, cnt_cons, cnt_nil]) <;> omega)))) rfl ?_
      repeat ((first | with_reducible refine TL_nil ?_ | with_reducible refine TQ_then ?_ | with_reducible refine T_ret ?_ | refine TL_q (op_assign rfl) rfl ?_ | (refine' TL_q (op_pickT rfl ?_ rfl) rfl ?_; (· (assumption))) | (refine TL_gpre rfl rfl ?_ ?_; (· (assumption))) | refine TL_gq2 (op_move rfl) rfl ?_ | (refine' TL_gq2 (op_bin rfl rfl ?_) rfl ?_; rotate_left 1; (· (first | exact bin_add ⟨by omega, by omega⟩ | exact bin_geq | exact bbin_eql Try.underlying4)))))
      refine TQ_cnt (L' := L) ?_ (by intro p; (try simp only [cnt_append, cnt_cons, cnt_nil]) <;> omega)
      refine TQ_ret1 6 _ rfl rfl ?_
      exact ⟨by rw [d3], rfl⟩
theorem tallyOne_walk (half : Int) (v : Value) (l : List TAct) (turn : Int) (W : World) (hw : -9223372036854775808 ≤ half ∧ half ≤ 9223372036854775807) (hl : sliceR 30 actR (allBlocks W) [v] l) (ht : -9223372036854775808 ≤ turn ∧ turn ≤ 9223372036854775807) : Calls Try.prog 8 #[.int .i64 half, v, .int .i64 turn] W fun e w' => e = .returned (.bool true) ∧ Below W.heap.size W w' :=
  Spec.below (tallyOne_S half v l turn hl)
end Go.Proofs.Ytdflhdfapnhjjaa
namespace Go.Proofs.Ytdflhdfapnhjjaa
open Go.RowKit
open Vd (RSet Vdt Vote Rec Quest Piece Ballot)
set_option linter.unusedVariables false
set_option linter.unusedSimpArgs false
--auto
variable {G : World} {L : Blocks}
set_option maxRecDepth 100000 in
set_option maxHeartbeats 4000000 in
theorem same21_S {bp bq : Nat} {want : Int} {l l2 : List Ballot} {X Y : Blocks} (hw : 1 ≤ want) (hp : PBox bp want l X) (hq : PBox bq want l2 Y) (hX : ∀ p ∈ X, p ∈ L) (hY : ∀ p ∈ Y, p ∈ L) (hv : Vd.votesB l2 = Vd.votesB l) : Spec Try.prog G 53 #[.pointer (some ⟨bp, 0, none⟩), .pointer (some ⟨bq, 0, none⟩)] L fun u M => u = .bool true ∧ M = L := by
  have hsm := hp.1.sm
  have hvl := votesB_len l
  have hl9 := hp.1.ok.len
  have hcode := hp.wonCode want
  have hwp : ∀ vs, wonP want vs = wonR want vs := fun vs => if_neg (by omega)
  have hag : ∀ vs, (if want < 1 then [] else againstR want vs) = againstR want vs := fun vs => if_neg (by omega)
  obtain ⟨vs, hvs⟩ : ∃ vs, Vd.votesB l = vs := ⟨_, rfl⟩
  obtain ⟨r, hr⟩ : ∃ r, wonR want vs = r := ⟨_, rfl⟩
  have hW1 := pWon_B (G := G) (L := L) hp hX
  rw [hwp, hvs, hr] at hW1
  rw [hvs] at hv hvl hcode
  rw [hr] at hcode
  refine Spec_of (n := 68) Try.func53 rfl rfl rfl ?_
  repeat ((first | with_reducible refine T_seq ?_ | with_reducible refine T_region ?_ | with_reducible refine TL_nil ?_ | with_reducible refine TQ_then ?_ | refine TL_q (op_move rfl) rfl ?_ | refine TL_q (op_assign rfl) rfl ?_))
  refine TL_opT (op_call hb_35 rfl hW1) rfl ?_
  rintro _ _ ⟨a, c, B, a2, c2, B2, a3, c3, B3, N, rfl, hB, hB2, hB3, hN, rfl⟩
  repeat ((first | with_reducible refine T_seq ?_ | with_reducible refine T_region ?_ | with_reducible refine TL_nil ?_ | with_reducible refine TQ_then ?_ | refine TL_q (op_move rfl) rfl ?_ | refine TL_q (op_assign rfl) rfl ?_ | refine TL_q (op_extract rfl rfl) rfl ?_ | (refine TL_stAll rfl rfl st_42 rfl rfl rfl ?_) | (refine TL_new (op_alloc (C := #[(.int .u8 0), (.slice none 0 0), (.slice none 0 0)]) zero_42 rfl) rfl ?_; intro bNew)))
  obtain ⟨b5, hb5⟩ : ∃ b, bNew = b := ⟨_, rfl⟩
  rw [hb5]
  clear hb5 bNew
  refine TL_opT (op_call hb_35 rfl (pWon_B hq (fun p h => (mem_of_cnt (by intro p; (try simp only [cnt_append, cnt_cons, cnt_nil]) <;> omega)) p (hY p h)))) rfl ?_
  rw [hwp, hv, hr]
  rintro _ _ ⟨a4, c4, B4, a5, c5, B5, a6, c6, B6, N2, rfl, hB4, hB5, hB6, hN2, rfl⟩
  repeat ((first | with_reducible refine T_seq ?_ | with_reducible refine T_region ?_ | with_reducible refine TL_nil ?_ | with_reducible refine TQ_then ?_ | refine TL_q (op_move rfl) rfl ?_ | refine TL_q (op_assign rfl) rfl ?_ | refine TL_q (op_extract rfl rfl) rfl ?_ | (refine TL_stAll rfl rfl st_42 rfl rfl rfl ?_) | (refine TL_new (op_alloc (C := #[(.int .u8 0), (.slice none 0 0), (.slice none 0 0)]) zero_42 rfl) rfl ?_; intro bNew)))
  obtain ⟨b9, hb9⟩ : ∃ b, bNew = b := ⟨_, rfl⟩
  rw [hb9]
  clear hb9 bNew
  have d1 : decide (r.1 = r.1) = true := by simp
  have d2 : decide (r.2.2.1 = r.2.2.1) = true := by simp
  have d3 : decide (againstR want vs = againstR want vs) = true := by simp
  have d4 : decide (vs = vs) = true := by simp
  refine TL_opT (op_call hb_39 rfl (pVotes_B hp (fun p h => (mem_of_cnt (by intro p; (try simp only [cnt_append, cnt_cons, cnt_nil]) <;> omega)) p (hX p h)))) rfl ?_
  rw [hvs]
  rintro _ _ ⟨aV, cV, BV, NV, rfl, hBV, hNV, rfl⟩
  refine TL_opT (op_call hb_77 rfl (told21_S (K := NV) _ vs ((hBV.imp (r' := fun _ => voteR NV) (L' := []) (fun cs x _ h => h)).sliceR mono_const (by simp) (mem_of_cnt (by intro p; (try simp only [cnt_append, cnt_cons, cnt_nil]) <;> omega))) (by omega))) rfl ?_
  rintro _ _ ⟨aT, cT, BT, rfl, hBT, rfl⟩
  repeat ((refine TL_q (op_move rfl) rfl ?_))
  refine TL_opT (op_call hb_39 rfl (pVotes_B hq (fun p h => (mem_of_cnt (by intro p; (try simp only [cnt_append, cnt_cons, cnt_nil]) <;> omega)) p (hY p h)))) rfl ?_
  rw [hv]
  rintro _ _ ⟨aU, cU, BU, NU, rfl, hBU, hNU, rfl⟩
  refine TL_opT (op_call hb_77 rfl (told21_S (K := NU) _ vs ((hBU.imp (r' := fun _ => voteR NU) (L' := []) (fun cs x _ h => h)).sliceR mono_const (by simp) (mem_of_cnt (by intro p; (try simp only [cnt_append, cnt_cons, cnt_nil]) <;> omega))) (by omega))) rfl ?_
  rintro _ _ ⟨aS, cS, BS, rfl, hBS, rfl⟩
  refine TL_op (op_call hb_25 rfl (rSameV_S _ _ vs vs (hBT.sliceR mono_vote (mem_of_cnt (by intro p; (try simp only [cnt_append, cnt_cons, cnt_nil]) <;> omega)) (mem_of_cnt (by intro p; (try simp only [cnt_append, cnt_cons, cnt_nil]) <;> omega))) (hBS.sliceR mono_vote (mem_of_cnt (by intro p; (try simp only [cnt_append, cnt_cons, cnt_nil]) <;> omega)) (mem_of_cnt (by intro p; (try simp only [cnt_append, cnt_cons, cnt_nil]) <;> omega))))) rfl ?_
  repeat ((first | refine TL_q (op_move rfl) rfl ?_ | (refine TL_gpre rfl rfl ?_ ?_; (· (assumption))) | (refine' TL_gq2 (op_ldAll rfl st_42 ?_ ?_) rfl ?_; rotate_left 3; (· repeat ((first | exact List.mem_cons_self | apply List.mem_cons_of_mem | apply List.mem_append_right))); (· (rfl)))))
  refine TG_op (op_call hb_23 rfl (vSame_S [.int .u8 r.1.code, .slice a r.1.sets.length c, .slice a2 r.1.soa.length c2] [.int .u8 r.1.code, .slice a4 r.1.sets.length c4, .slice a5 r.1.soa.length c5] r.1 r.1 ⟨_, _, rfl, hB.sliceR mono_set (mem_of_cnt (by intro p; (try simp only [cnt_append, cnt_cons, cnt_nil]) <;> omega)) (mem_of_cnt (by intro p; (try simp only [cnt_append, cnt_cons, cnt_nil]) <;> omega)), hB2.sliceR mono_set (mem_of_cnt (by intro p; (try simp only [cnt_append, cnt_cons, cnt_nil]) <;> omega)) (mem_of_cnt (by intro p; (try simp only [cnt_append, cnt_cons, cnt_nil]) <;> omega)), hcode⟩ ⟨_, _, rfl, hB4.sliceR mono_set (mem_of_cnt (by intro p; (try simp only [cnt_append, cnt_cons, cnt_nil]) <;> omega)) (mem_of_cnt (by intro p; (try simp only [cnt_append, cnt_cons, cnt_nil]) <;> omega)), hB5.sliceR mono_set (mem_of_cnt (by intro p; (try simp only [cnt_append, cnt_cons, cnt_nil]) <;> omega)) (mem_of_cnt (by intro p; (try simp only [cnt_append, cnt_cons, cnt_nil]) <;> omega)), hcode⟩)) rfl ?_
  repeat ((first | refine TL_q (op_move rfl) rfl ?_ | (refine' TL_q (op_pickT rfl ?_ rfl) rfl ?_; (· (assumption))) | (refine TL_gpre rfl rfl ?_ ?_; (· (first | assumption | exact dT (by (with_reducible rfl))))) | refine TL_gq2 (op_move rfl) rfl ?_ | (refine' TL_gq2 (op_bin rfl rfl ?_) rfl ?_; rotate_left 1; (· (exact bin_eql)))))
  refine TG_op (op_call hb_38 rfl (Ints_S _ _ r.2.2.1 r.2.2.1 (hB3.sliceR (mono_int _) (by simp) (mem_of_cnt (by intro p; (try simp only [cnt_append, cnt_cons, cnt_nil]) <;> omega))) (hB6.sliceR (mono_int _) (by simp) (mem_of_cnt (by intro p; (try simp only [cnt_append, cnt_cons, cnt_nil]) <;> omega))))) rfl ?_
  repeat ((first | refine TL_q (op_move rfl) rfl ?_ | (refine' TL_q (op_pickT rfl ?_ rfl) rfl ?_; (· (first | assumption | exact dT (by (with_reducible rfl))))) | (refine TL_gpre rfl rfl ?_ ?_; (· (first | assumption | exact dT (by (with_reducible rfl))))) | refine TL_gq2 (op_move rfl) rfl ?_ | (refine' TL_gq2 (op_bin rfl rfl ?_) rfl ?_; rotate_left 1; (· (exact bbin_eql Try.underlying4)))))
  refine TG_op (op_call hb_36 rfl (pMost_B hp (fun p h => (mem_of_cnt (by intro p; (try simp only [cnt_append, cnt_cons, cnt_nil]) <;> omega)) p (hX p h)))) rfl ?_
  repeat ((first | (refine TL_gpre rfl rfl ?_ ?_; (· (exact dT (by (with_reducible rfl))))) | refine TL_gq2 (op_move rfl) rfl ?_))
  refine TG_op (op_call hb_36 rfl (pMost_B hq (fun p h => (mem_of_cnt (by intro p; (try simp only [cnt_append, cnt_cons, cnt_nil]) <;> omega)) p (hY p h)))) rfl ?_
  rw [hv, hvs]
  repeat ((first | refine TL_q (op_move rfl) rfl ?_ | (refine' TL_q (op_pickT rfl ?_ rfl) rfl ?_; (· (exact dT (by (with_reducible rfl))))) | (refine TL_gpre rfl rfl ?_ ?_; (· (exact dT (by (with_reducible rfl))))) | refine TL_gq2 (op_move rfl) rfl ?_ | (refine' TL_gq2 (op_bin rfl rfl ?_) rfl ?_; rotate_left 1; (· (exact bin_eql)))))
  refine TG_opT (op_call hb_40 rfl (pAgainst_B hp (fun p h => (mem_of_cnt (by intro p; (try simp only [cnt_append, cnt_cons, cnt_nil]) <;> omega)) p (hX p h)))) rfl ?_
  rw [hag, hvs]
  rintro _ _ ⟨aA, cA, BA, rfl, hBA, rfl⟩
  repeat ((first | (refine TL_gpre rfl rfl ?_ ?_; (· (exact dT (by (with_reducible rfl))))) | refine TL_gq2 (op_move rfl) rfl ?_))
  refine TG_opT (op_call hb_40 rfl (pAgainst_B hq (fun p h => (mem_of_cnt (by intro p; (try simp only [cnt_append, cnt_cons, cnt_nil]) <;> omega)) p (hY p h)))) rfl ?_
  rw [hag, hv]
  rintro _ _ ⟨aE, cE, BE, rfl, hBE, rfl⟩
  repeat ((refine TL_gpre rfl rfl ?_ ?_; (· (exact dT (by (with_reducible rfl))))))
  refine TG_op (op_call hb_38 rfl (Ints_S _ _ (againstR want vs) (againstR want vs) (hBA.sliceR (mono_int _) (by simp) (mem_of_cnt (by intro p; (try simp only [cnt_append, cnt_cons, cnt_nil]) <;> omega))) (hBE.sliceR (mono_int _) (by simp) (mem_of_cnt (by intro p; (try simp only [cnt_append, cnt_cons, cnt_nil]) <;> omega))))) rfl ?_
  repeat ((first | with_reducible refine TL_nil ?_ | with_reducible refine TQ_then ?_ | with_reducible refine T_ret ?_ | refine TL_q (op_assign rfl) rfl ?_ | (refine' TL_q (op_pickT rfl ?_ rfl) rfl ?_; (· (exact dT (by (with_reducible rfl)))))))
  refine TQ_cnt (L' := L) ?_ (by intro p; (try simp only [cnt_append, cnt_cons, cnt_nil]) <;> omega)
  refine TQ_ret1 4 _ rfl rfl ?_
  exact ⟨by rw [d3], rfl⟩
end Go.Proofs.Ytdflhdfapnhjjaa
namespace Go.Proofs.Ytdflhdfapnhjjaa
open Go.RowKit
open Vd (RSet Vdt Vote Rec Quest Piece Ballot)
set_option linter.unusedVariables false
set_option linter.unusedSimpArgs false
--auto
variable {G : World} {L : Blocks}
theorem hasB_put (l : List Ballot) (x : Ballot) (u : Int) : Vd.hasB (l ++ [x]) u = (Vd.hasB l u || x.v.up == u) := by
  unfold Vd.hasB
  rw [List.any_append]
  simp
theorem votesB_pass (l : List Ballot) (u : Int) : Vd.votesB (Vd.putB l ⟨⟨u, Vdt.none, 0⟩, true⟩).1 = Vd.votesB l := by
  by_cases h : mayE l u = 0
  · rw [(putB_yes (x := ⟨⟨u, Vdt.none, 0⟩, true⟩) h).1, votesB_snoc]
    rfl
  · rw [putB_no (x := ⟨⟨u, Vdt.none, 0⟩, true⟩) h]
set_option maxRecDepth 100000 in
set_option maxHeartbeats 4000000 in
theorem tallyPass_S (want : Int) (v : Value) (l : List TAct) (u : Int) (cx : List Value) (x : TAct) (hl : sliceR 30 actR L [v] l) (hu : -9223372036854775808 ≤ u ∧ u ≤ 9223372036854775807) (hx : actR L cx x) : Spec Try.prog G 13 #[.int .i64 want, v, .int .i64 u, .agg cx.toArray] L fun u M => u = .bool true ∧ M = L := by
  obtain ⟨al, cl, e1, hl0⟩ := hl.val
  simp only [List.cons.injEq, and_true] at e1
  subst e1
  have hcl := hx.len
  have gsz : cx.toArray.size = 30 := by simpa using hcl
  have hall1 : allOne cx.toArray = true := List.all_eq_true.2 fun v hv => hx.one v hv
  refine Spec_of (n := 98) Try.func13 rfl rfl rfl ?_
  refine T_seq (T_region (TL_new (op_boxA rfl) rfl ?_))
  intro b7
  repeat ((first | with_reducible refine T_seq ?_ | with_reducible refine T_region ?_ | with_reducible refine TL_nil ?_ | with_reducible refine TQ_then ?_ | refine TL_q (op_move rfl) rfl ?_ | refine TL_q (op_assign rfl) rfl ?_))
  refine TL_opT (op_call hb_31 rfl (long21_S _ l (mono_slice mono_act _ _ _ _ (mem_of_cnt (by intro p; (try simp only [cnt_append, cnt_cons, cnt_nil]) <;> omega)) hl0))) rfl ?_
  rintro _ _ ⟨b, rfl, hM, hb⟩
  rw [hM]
  clear hM
  cases b with
  | true =>
    repeat ((first | with_reducible refine T_seq ?_ | with_reducible refine T_region ?_ | with_reducible refine TL_nil ?_ | with_reducible refine TQ_then ?_ | with_reducible refine T_ret ?_ | with_reducible refine TQ_then_ret ?_ | refine TL_q (op_move rfl) rfl ?_ | refine TL_q (op_assign rfl) rfl ?_ | (refine' TL_q (op_pickT rfl ?_ rfl) rfl ?_; (· (with_reducible rfl))) | (refine' TL_op (op_call hb_32 rfl (awake21_S )) rfl ?_) | (refine TL_gno rfl rfl ?_ rfl ?_; (· (exact Bool.not_false))) | (refine T_yes rfl ?_ ?_; (· (with_reducible rfl)))))
    refine TQ_cnt (L' := L) ?_ (by intro p; (try simp only [cnt_append, cnt_cons, cnt_nil]) <;> omega)
    refine TQ_ret1 8 _ rfl rfl ?_
    exact ⟨rfl, rfl⟩
  | false =>
  obtain ⟨hn, hsm⟩ := hb rfl
  repeat ((first | refine TL_q (op_move rfl) rfl ?_ | (refine TL_gpre rfl rfl ?_ ?_; (· (with_reducible rfl))) | (refine' TL_gq2 (op_ldAll rfl st_73 ?_ ?_) rfl ?_; rotate_left 3; (· repeat ((exact List.mem_cons_self))); (· (assumption)))))
  refine TG_opT (op_litN ety_69 rfl hcl (by decide)) rfl ?_
  rintro _ _ ⟨bL, rfl, rfl⟩
  have hrow : sliceR 30 actR ((bL, Obj.cells cx.toArray 73 (0, 0)) :: ((b7, Obj.cells cx.toArray 73 (0, 0)) :: L)) [.slice (some ⟨bL, 0, none⟩) 1 1] [x] := (ORow.lit1 (r := actR) (L := L) (e := 73) (b := bL) hcl hx hx.one).sliceR mono_act (mem_of_cnt (by intro p; (try simp only [cnt_append, cnt_cons, cnt_nil]) <;> omega)) (fun p hp => by rw [List.mem_singleton.1 hp]; exact List.mem_cons_self ..)
  repeat ((refine TL_gpre rfl rfl ?_ ?_; (· (with_reducible rfl))))
  refine TG_opT (op_call hb_31 rfl (long21_S _ [x] hrow)) rfl ?_
  rintro _ _ ⟨b, rfl, hM, hb⟩
  rw [hM]
  clear hM
  cases b with
  | true =>
    repeat ((first | with_reducible refine T_seq ?_ | with_reducible refine T_region ?_ | with_reducible refine TL_nil ?_ | with_reducible refine TQ_then ?_ | with_reducible refine T_ret ?_ | with_reducible refine TQ_then_ret ?_ | refine TL_q (op_move rfl) rfl ?_ | refine TL_q (op_assign rfl) rfl ?_ | (refine' TL_q (op_pickT rfl ?_ rfl) rfl ?_; (· (with_reducible rfl))) | (refine' TL_q (op_pickF rfl ?_ rfl) rfl ?_; (· (with_reducible rfl))) | (refine' TL_op (op_call hb_32 rfl (awake21_S )) rfl ?_) | (refine TL_gno rfl rfl ?_ rfl ?_; (· (exact Bool.not_false))) | (refine T_yes rfl ?_ ?_; (· (with_reducible rfl)))))
    refine TQ_cnt (L' := L) ?_ (by intro p; (try simp only [cnt_append, cnt_cons, cnt_nil]) <;> omega)
    refine TQ_ret1 8 _ rfl rfl ?_
    exact ⟨rfl, rfl⟩
  | false =>
  have hxs : x.Small := (hb rfl).2 x (List.mem_singleton.2 rfl)
  refine TL_cnt (L' := (b7, Obj.cells cx.toArray 73 (0, 0)) :: L) ?_ (by intro p; (try simp only [cnt_append, cnt_cons, cnt_nil]) <;> omega)
  repeat ((first | with_reducible refine T_seq ?_ | with_reducible refine T_region ?_ | with_reducible refine TL_nil ?_ | with_reducible refine TQ_then ?_ | with_reducible refine T_skip ?_ | refine TL_q (op_move rfl) rfl ?_ | (refine' TL_q (op_pickF rfl ?_ rfl) rfl ?_; (· (with_reducible rfl))) | (refine' TG_op (op_call hb_32 rfl (awake21_S )) rfl ?_) | (refine TL_gpre rfl rfl ?_ ?_; (· (with_reducible rfl))) | refine TL_gq2 (op_not rfl) rfl ?_ | (refine T_no rfl ?_ ?_; (· (exact Bool.not_true)))))
  refine TL_opT (op_call hb_34 rfl (made21_S (K := L) want _ l (mono_slice mono_const _ _ _ _ (mem_of_cnt (by intro p; (try simp only [cnt_append, cnt_cons, cnt_nil]) <;> omega)) hl0.const) (mem_of_cnt (by intro p; (try simp only [cnt_append, cnt_cons, cnt_nil]) <;> omega)) hsm)) rfl ?_
  rintro _ _ ⟨bb, X, rfl, hX, rfl⟩
  obtain ⟨hw1, hw9⟩ := wantOf_bd want
  obtain ⟨w, hw⟩ : ∃ w, wantOf want = w := ⟨_, rfl⟩
  obtain ⟨bal, hbal⟩ : ∃ b, l.foldl doesB [] = b := ⟨_, rfl⟩
  rw [hw, hbal] at hX
  rw [hw] at hw1 hw9 ⊢
  repeat ((first | with_reducible refine T_seq ?_ | with_reducible refine T_region ?_ | with_reducible refine TL_nil ?_ | with_reducible refine TQ_then ?_ | refine TL_q (op_move rfl) rfl ?_ | refine TL_q (op_assign rfl) rfl ?_ | refine TL_q (op_extract rfl rfl) rfl ?_))
  refine TL_opT (op_call hb_46 rfl (pCopy_B hX)) rfl ?_
  rintro _ _ ⟨bq, X2, rfl, hX2, rfl⟩
  repeat ((first | with_reducible refine T_seq ?_ | with_reducible refine T_region ?_ | with_reducible refine TL_nil ?_ | with_reducible refine TQ_then ?_ | refine TL_q (op_move rfl) rfl ?_ | refine TL_q (op_assign rfl) rfl ?_))
  refine TL_op (op_call hb_45 rfl (pHas_B u hX (mem_of_cnt (by intro p; (try simp only [cnt_append, cnt_cons, cnt_nil]) <;> omega)))) rfl ?_
  repeat ((first | with_reducible refine T_seq ?_ | with_reducible refine T_region ?_ | with_reducible refine TL_nil ?_ | with_reducible refine TQ_then ?_ | refine TL_q (op_move rfl) rfl ?_ | refine TL_q (op_assign rfl) rfl ?_))
  refine TL_opT (op_call hb_43 rfl (pPass_B u hX2)) rfl ?_
  rintro _ _ ⟨rfl, X3, hX3, rfl⟩
  have hv2 := votesB_pass bal u
  have hput := putB_e bal ⟨⟨u, Vdt.none, 0⟩, true⟩
  rw [hput]
  dsimp only at hput ⊢
  obtain ⟨bal2, hbal2⟩ : ∃ b, (Vd.putB bal ⟨⟨u, Vdt.none, 0⟩, true⟩).1 = b := ⟨_, rfl⟩
  rw [hbal2] at hX3 hv2
  have hok := hX.1.ok
  repeat ((first | with_reducible refine TL_nil ?_ | with_reducible refine TQ_then ?_ | refine TL_q (op_assign rfl) rfl ?_))
  refine T_mid (σ := Unit) (fun _ => True) (fun _ => [(2, .int .i64 u), (7, .pointer (some ⟨b7, 0, none⟩)), (9, .pointer (some ⟨bb, 0, none⟩)), (11, .pointer (some ⟨bq, 0, none⟩))]) (fun _ => X3 ++ (X ++ ((b7, Obj.cells cx.toArray 73 (0, 0)) :: L))) ?_ ?_
  · by_cases hr : u < 0 ∨ 9 ≤ u
    · have hh : Vd.hasB bal u = false := hasB_out hok (by omega)
      have he : mayE bal u = 1 := if_pos hr
      have hb2 : bal2 = bal := by rw [← hbal2]; exact putB_no (x := ⟨⟨u, Vdt.none, 0⟩, true⟩) (by rw [he]; decide)
      rw [he, hh]
      have q2 : (false != ((1 : Int) == 0)) = false := by decide
      by_cases hr0 : u < 0
      · have q1 : (((1 : Int) == 0) != false) = false := by decide
        repeat ((first | with_reducible refine T_seq ?_ | with_reducible refine T_region ?_ | refine TL_q (op_move rfl) rfl ?_ | (refine' TL_q (op_bin rfl rfl ?_) rfl ?_; rotate_left 1; (· (first | exact bin_eql | exact bbin_neq Try.underlying4))) | refine TL_q (op_not rfl) rfl ?_ | (refine' TL_q (op_pickT rfl ?_ rfl) rfl ?_; (· (exact Bool.not_false))) | (refine' TL_q (op_pickF rfl ?_ rfl) rfl ?_; (· (exact dF (by (omega))))) | (refine TL_gpre rfl rfl ?_ ?_; (· (first | assumption | exact Bool.not_false))) | refine TL_gq2 (op_move rfl) rfl ?_ | (refine' TL_gq2 (op_bin rfl rfl ?_) rfl ?_; rotate_left 1; (· (exact bin_geq))) | (refine TL_gno rfl rfl ?_ rfl ?_; (· (exact dF (by (omega)))))))
        refine TG_op (op_call hb_45 rfl (pHas_B u hX3 (mem_of_cnt (by intro p; (try simp only [cnt_append, cnt_cons, cnt_nil]) <;> omega)))) rfl ?_
        rw [hb2, hh]
        repeat ((first | refine TL_q (op_move rfl) rfl ?_ | (refine' TL_q (op_pickF rfl ?_ rfl) rfl ?_; (· (assumption))) | (refine TL_gpre rfl rfl ?_ ?_; (· (first | with_reducible rfl | assumption))) | refine TL_gq2 (op_move rfl) rfl ?_ | (refine' TL_gq2 (op_bin rfl rfl ?_) rfl ?_; rotate_left 1; (· (first | exact bin_eql | exact bbin_neq Try.underlying4))) | (refine' TL_gq2 (op_pickF rfl ?_ rfl) rfl ?_; (· (with_reducible rfl)))))
        refine TG_op (op_call hb_53 rfl (same21_S hw1 hX hX3 (mem_of_cnt (by intro p; (try simp only [cnt_append, cnt_cons, cnt_nil]) <;> omega)) (mem_of_cnt (by intro p; (try simp only [cnt_append, cnt_cons, cnt_nil]) <;> omega)) hv2)) rfl ?_
        repeat ((first | with_reducible refine TL_nil ?_ | with_reducible refine TQ_then ?_ | with_reducible refine T_skip ?_ | (refine' TL_q (op_pickF rfl ?_ rfl) rfl ?_; (· (assumption))) | (refine TL_gpre rfl rfl ?_ ?_; (· (assumption))) | refine TL_gq2 (op_not rfl) rfl ?_ | (refine T_no rfl ?_ ?_; (· (assumption)))))
        refine TQ_mid () trivial ?_ (fun w h => h.cnt (by intro p; (try simp only [cnt_append, cnt_cons, cnt_nil]) <;> omega))
        (repeat ((first | exact trivial | refine ⟨rfl, ?_⟩)))
      · have q1 : (((1 : Int) == 0) != decide (u < 9)) = false := by rw [decide_eq_false (by omega)]; decide
        repeat ((first | with_reducible refine T_seq ?_ | with_reducible refine T_region ?_ | refine TL_q (op_move rfl) rfl ?_ | (refine' TL_q (op_bin rfl rfl ?_) rfl ?_; rotate_left 1; (· (first | exact bin_eql | exact bbin_neq Try.underlying4))) | refine TL_q (op_not rfl) rfl ?_ | (refine' TL_q (op_pickT rfl ?_ rfl) rfl ?_; (· (first | exact Bool.not_false | exact dT (by (omega))))) | (refine TL_gpre rfl rfl ?_ ?_; (· (first | assumption | exact Bool.not_false | exact dT (by (omega))))) | refine TL_gq2 (op_move rfl) rfl ?_ | (refine' TL_gq2 (op_bin rfl rfl ?_) rfl ?_; rotate_left 1; (· (first | exact bin_lss | exact bin_geq)))))
        refine TG_op (op_call hb_45 rfl (pHas_B u hX3 (mem_of_cnt (by intro p; (try simp only [cnt_append, cnt_cons, cnt_nil]) <;> omega)))) rfl ?_
        rw [hb2, hh]
        repeat ((first | refine TL_q (op_move rfl) rfl ?_ | (refine' TL_q (op_pickF rfl ?_ rfl) rfl ?_; (· (assumption))) | (refine TL_gpre rfl rfl ?_ ?_; (· (first | with_reducible rfl | assumption))) | refine TL_gq2 (op_move rfl) rfl ?_ | (refine' TL_gq2 (op_bin rfl rfl ?_) rfl ?_; rotate_left 1; (· (first | exact bin_eql | exact bbin_neq Try.underlying4))) | (refine' TL_gq2 (op_pickF rfl ?_ rfl) rfl ?_; (· (with_reducible rfl)))))
        refine TG_op (op_call hb_53 rfl (same21_S hw1 hX hX3 (mem_of_cnt (by intro p; (try simp only [cnt_append, cnt_cons, cnt_nil]) <;> omega)) (mem_of_cnt (by intro p; (try simp only [cnt_append, cnt_cons, cnt_nil]) <;> omega)) hv2)) rfl ?_
        repeat ((first | with_reducible refine TL_nil ?_ | with_reducible refine TQ_then ?_ | with_reducible refine T_skip ?_ | (refine' TL_q (op_pickF rfl ?_ rfl) rfl ?_; (· (assumption))) | (refine TL_gpre rfl rfl ?_ ?_; (· (assumption))) | refine TL_gq2 (op_not rfl) rfl ?_ | (refine T_no rfl ?_ ?_; (· (assumption)))))
        refine TQ_mid () trivial ?_ (fun w h => h.cnt (by intro p; (try simp only [cnt_append, cnt_cons, cnt_nil]) <;> omega))
        (repeat ((first | exact trivial | refine ⟨rfl, ?_⟩)))
    · cases hh : Vd.hasB bal u with
      | true =>
        have he : mayE bal u = 7 := by unfold mayE; rw [if_neg hr, hh]; rfl
        have hb2 : bal2 = bal := by rw [← hbal2]; exact putB_no (x := ⟨⟨u, Vdt.none, 0⟩, true⟩) (by rw [he]; decide)
        rw [he]
        have q1 : (((7 : Int) == 0) != false) = false := by decide
        have q2 : (true != true) = false := by decide
        repeat ((first | with_reducible refine T_seq ?_ | with_reducible refine T_region ?_ | refine TL_q (op_move rfl) rfl ?_ | (refine' TL_q (op_bin rfl rfl ?_) rfl ?_; rotate_left 1; (· (first | exact bin_eql | exact bbin_neq Try.underlying4))) | refine TL_q (op_not rfl) rfl ?_ | (refine' TL_q (op_pickF rfl ?_ rfl) rfl ?_; (· (first | with_reducible rfl | assumption))) | (refine TL_gpre rfl rfl ?_ ?_; (· (assumption))) | refine TL_gq2 (op_move rfl) rfl ?_ | (refine TL_gno rfl rfl ?_ rfl ?_; (· (first | with_reducible rfl | assumption)))))
        refine TG_op (op_call hb_45 rfl (pHas_B u hX3 (mem_of_cnt (by intro p; (try simp only [cnt_append, cnt_cons, cnt_nil]) <;> omega)))) rfl ?_
        rw [hb2, hh]
        repeat ((first | refine TL_q (op_move rfl) rfl ?_ | (refine' TL_q (op_pickF rfl ?_ rfl) rfl ?_; (· (assumption))) | (refine TL_gpre rfl rfl ?_ ?_; (· (assumption))) | refine TL_gq2 (op_move rfl) rfl ?_ | (refine' TL_gq2 (op_bin rfl rfl ?_) rfl ?_; rotate_left 1; (· (exact bbin_neq Try.underlying4))) | (refine' TL_gq2 (op_pickT rfl ?_ rfl) rfl ?_; (· (with_reducible rfl))) | (refine TL_gno rfl rfl ?_ rfl ?_; (· (exact Bool.not_false)))))
        refine TG_op (op_call hb_53 rfl (same21_S hw1 hX hX3 (mem_of_cnt (by intro p; (try simp only [cnt_append, cnt_cons, cnt_nil]) <;> omega)) (mem_of_cnt (by intro p; (try simp only [cnt_append, cnt_cons, cnt_nil]) <;> omega)) hv2)) rfl ?_
        repeat ((first | with_reducible refine TL_nil ?_ | with_reducible refine TQ_then ?_ | with_reducible refine T_skip ?_ | (refine' TL_q (op_pickF rfl ?_ rfl) rfl ?_; (· (assumption))) | (refine TL_gpre rfl rfl ?_ ?_; (· (assumption))) | refine TL_gq2 (op_not rfl) rfl ?_ | (refine T_no rfl ?_ ?_; (· (assumption)))))
        refine TQ_mid () trivial ?_ (fun w h => h.cnt (by intro p; (try simp only [cnt_append, cnt_cons, cnt_nil]) <;> omega))
        (repeat (first | exact trivial | refine ⟨rfl, ?_⟩))
      | false =>
        have he : mayE bal u = 0 := by unfold mayE; rw [if_neg hr, hh]; rfl
        have hb2 : Vd.hasB bal2 u = true := by rw [← hbal2, (putB_yes (x := ⟨⟨u, Vdt.none, 0⟩, true⟩) he).1, hasB_put]; simp
        rw [he]
        have q1 : (((0 : Int) == 0) != decide (u < 9)) = false := by rw [decide_eq_true (by omega)]; decide
        have q2 : (true != ((0 : Int) == 0)) = false := by decide
        repeat ((first | with_reducible refine T_seq ?_ | with_reducible refine T_region ?_ | refine TL_q (op_move rfl) rfl ?_ | (refine' TL_q (op_bin rfl rfl ?_) rfl ?_; rotate_left 1; (· (first | exact bin_eql | exact bbin_neq Try.underlying4))) | refine TL_q (op_not rfl) rfl ?_ | (refine' TL_q (op_pickT rfl ?_ rfl) rfl ?_; (· (first | exact Bool.not_false | exact dT (by (omega))))) | (refine TL_gpre rfl rfl ?_ ?_; (· (first | assumption | exact Bool.not_false | exact dT (by (omega))))) | refine TL_gq2 (op_move rfl) rfl ?_ | (refine' TL_gq2 (op_bin rfl rfl ?_) rfl ?_; rotate_left 1; (· (first | exact bin_lss | exact bin_geq)))))
        refine TG_op (op_call hb_45 rfl (pHas_B u hX3 (mem_of_cnt (by intro p; (try simp only [cnt_append, cnt_cons, cnt_nil]) <;> omega)))) rfl ?_
        rw [hb2]
        repeat ((first | refine TL_q (op_move rfl) rfl ?_ | (refine' TL_q (op_pickF rfl ?_ rfl) rfl ?_; (· (assumption))) | (refine TL_gpre rfl rfl ?_ ?_; (· (first | with_reducible rfl | assumption))) | refine TL_gq2 (op_move rfl) rfl ?_ | (refine' TL_gq2 (op_bin rfl rfl ?_) rfl ?_; rotate_left 1; (· (first | exact bin_eql | exact bbin_neq Try.underlying4))) | (refine' TL_gq2 (op_pickF rfl ?_ rfl) rfl ?_; (· (with_reducible rfl)))))
        refine TG_op (op_call hb_53 rfl (same21_S hw1 hX hX3 (mem_of_cnt (by intro p; (try simp only [cnt_append, cnt_cons, cnt_nil]) <;> omega)) (mem_of_cnt (by intro p; (try simp only [cnt_append, cnt_cons, cnt_nil]) <;> omega)) hv2)) rfl ?_
        repeat ((first | with_reducible refine TL_nil ?_ | with_reducible refine TQ_then ?_ | with_reducible refine T_skip ?_ | (refine' TL_q (op_pickF rfl ?_ rfl) rfl ?_; (· (assumption))) | (refine TL_gpre rfl rfl ?_ ?_; (· (assumption))) | refine TL_gq2 (op_not rfl) rfl ?_ | (refine T_no rfl ?_ ?_; (· (assumption)))))
        refine TQ_mid () trivial ?_ (fun w h => h.cnt (by intro p; (try simp only [cnt_append, cnt_cons, cnt_nil]) <;> omega))
        (repeat ((first | exact trivial | refine ⟨rfl, ?_⟩)))
  · rintro _ _
    repeat ((first | with_reducible refine T_seq ?_ | with_reducible refine T_region ?_ | (refine' TL_q (op_ldAll rfl st_73 ?_ ?_) rfl ?_; rotate_left 3; (· repeat ((first | exact List.mem_cons_self | apply List.mem_append_right))); (· (assumption)))))
    refine TL_opT (op_call hb_33 rfl (vote21_S _ x (mono_act _ _ _ _ (mem_of_cnt (by intro p; (try simp only [cnt_append, cnt_cons, cnt_nil]) <;> omega)) hx) hxs)) rfl ?_
    rintro _ _ ⟨cv, rfl, hov⟩
    obtain ⟨hbd1, hbd2, hbd3⟩ := hx.vote_bd
    obtain ⟨D, hD, rfl⟩ := hov.is hbd1 hbd2 hbd3
    obtain ⟨y1, yc1, y2, yc2, rfl, hy1, hy2, _⟩ := hD.vals
    have hsv := hxs.sm
    have hDu : voteR D [.int .i64 u, .int .u8 x.vote.vd.code, .slice y1 x.vote.vd.sets.length yc1, .slice y2 x.vote.vd.soa.length yc2, .int .u32 x.vote.time] ⟨u, x.vote.vd, x.vote.time⟩ := ⟨_, _, rfl, hy1, hy2, hbd1, hbd2, hu⟩
    repeat ((first | with_reducible refine T_seq ?_ | with_reducible refine T_region ?_ | with_reducible refine TL_nil ?_ | with_reducible refine TQ_then ?_ | refine TL_q (op_move rfl) rfl ?_ | refine TL_q (op_assign rfl) rfl ?_ | refine TL_q (op_extract rfl rfl) rfl ?_ | refine TL_q (op_fld rfl fld_63_0) rfl ?_ | (refine TL_stAll rfl rfl st_63 rfl rfl rfl ?_) | (refine TL_new (op_alloc (C := #[(.int .i64 0), (.int .u8 0), (.slice none 0 0), (.slice none 0 0), (.int .u32 0)]) zero_63 rfl) rfl ?_; intro bNew)))
    obtain ⟨b14, hb14⟩ : ∃ b, bNew = b := ⟨_, rfl⟩
    rw [hb14]
    clear hb14 bNew
    refine TL_st (C' := #[.int .i64 u, .int .u8 x.vote.vd.code, .slice y1 x.vote.vd.sets.length yc1, .slice y2 x.vote.vd.soa.length yc2, .int .u32 x.vote.time]) rfl rfl one_3 rfl rfl rfl ?_
    repeat ((first | with_reducible refine T_seq ?_ | with_reducible refine T_region ?_ | with_reducible refine TL_nil ?_ | with_reducible refine TQ_then ?_ | refine TL_q (op_move rfl) rfl ?_))
    refine TL_op (op_call hb_45 rfl (pHas_B u hX3 (mem_of_cnt (by intro p; (try simp only [cnt_append, cnt_cons, cnt_nil]) <;> omega)))) rfl ?_
    cases hh2 : Vd.hasB bal2 u with
    | false =>
      repeat ((first | with_reducible refine TL_nil ?_ | with_reducible refine TQ_then ?_ | with_reducible refine T_ret ?_ | refine TL_q (op_move rfl) rfl ?_ | refine TL_q (op_assign rfl) rfl ?_ | refine TL_q (op_not rfl) rfl ?_ | (refine' TL_q (op_pickT rfl ?_ rfl) rfl ?_; (· (first | with_reducible rfl | exact Bool.not_false))) | (refine TL_gno rfl rfl ?_ rfl ?_; (· (first | with_reducible rfl | exact Bool.not_false))) | refine TL_gundef rfl rfl rfl ?_))
      refine TQ_cnt (L' := L) ?_ (by intro p; (try simp only [cnt_append, cnt_cons, cnt_nil]) <;> omega)
      refine TQ_ret1 8 _ rfl rfl ?_
      exact ⟨rfl, rfl⟩
    | true =>
      cases hok2 : x.ok with
      | false =>
        repeat ((first | with_reducible refine TL_nil ?_ | with_reducible refine TQ_then ?_ | with_reducible refine T_ret ?_ | refine TL_q (op_move rfl) rfl ?_ | refine TL_q (op_assign rfl) rfl ?_ | refine TL_q (op_not rfl) rfl ?_ | (refine' TL_q (op_pickT rfl ?_ rfl) rfl ?_; (· (exact Bool.not_false))) | (refine' TL_q (op_pickF rfl ?_ rfl) rfl ?_; (· (exact Bool.not_true))) | (refine TL_gpre rfl rfl ?_ ?_; (· (exact Bool.not_true))) | refine TL_gq2 (op_move rfl) rfl ?_ | refine TL_gq2 (op_not rfl) rfl ?_ | (refine TL_gno rfl rfl ?_ rfl ?_; (· (with_reducible rfl))) | refine TL_gundef rfl rfl rfl ?_))
        refine TQ_cnt (L' := L) ?_ (by intro p; (try simp only [cnt_append, cnt_cons, cnt_nil]) <;> omega)
        refine TQ_ret1 8 _ rfl rfl ?_
        exact ⟨rfl, rfl⟩
      | true =>
        have hr2 : ¬ (u < 0 ∨ 9 ≤ u) := fun h => by
          have := hasB_out hX3.1.ok (u := u) (by omega)
          rw [hh2] at this
          cases this
        have he7 : mayE bal2 u = 7 := by unfold mayE; rw [if_neg hr2, hh2]; rfl
        have hp7 := putB_e bal2 ⟨⟨u, x.vote.vd, x.vote.time⟩, false⟩
        have hpn := putB_no (l := bal2) (x := ⟨⟨u, x.vote.vd, x.vote.time⟩, false⟩) (by show mayE bal2 u ≠ 0; rw [he7]; decide)
        repeat ((first | refine TL_q (op_move rfl) rfl ?_ | refine TL_q (op_not rfl) rfl ?_ | (refine' TL_q (op_pickF rfl ?_ rfl) rfl ?_; (· (exact Bool.not_true))) | (refine TL_gpre rfl rfl ?_ ?_; (· (exact Bool.not_true))) | refine TL_gq2 (op_move rfl) rfl ?_ | refine TL_gq2 (op_not rfl) rfl ?_ | (refine' TL_gq2 (op_ldAll rfl st_63 ?_ ?_) rfl ?_; rotate_left 3; (· repeat ((exact List.mem_cons_self))); (· (rfl)))))
        refine TG_opT (OpT.heap (L' := X3 ++ (D ++ (X ++ ((b7, Obj.cells cx.toArray 73 (0, 0)) :: L)))) (fun w h => h.cnt (by intro p; (try simp only [cnt_append, cnt_cons, cnt_nil]) <;> omega)) (op_call hb_42 rfl (pCast_B hX3 (mono_vote _ _ _ _ (mem_of_cnt (by intro p; (try simp only [cnt_append, cnt_cons, cnt_nil]) <;> omega)) hDu) hsv))) rfl ?_
        rw [hp7, hpn]
        dsimp only
        rw [he7]
        rintro _ _ ⟨rfl, X4, hX4, rfl⟩
        repeat ((first | (refine TL_gpre rfl rfl ?_ ?_; (· (first | exact Bool.not_false | exact Bool.not_true))) | refine TL_gq2 (op_move rfl) rfl ?_ | (refine' TL_gq2 (op_bin rfl rfl ?_) rfl ?_; rotate_left 1; (· (exact bin_eql)))))
        refine TG_op (op_call hb_53 rfl (same21_S hw1 hX hX4 (mem_of_cnt (by intro p; (try simp only [cnt_append, cnt_cons, cnt_nil]) <;> omega)) (mem_of_cnt (by intro p; (try simp only [cnt_append, cnt_cons, cnt_nil]) <;> omega)) hv2)) rfl ?_
        repeat ((first | with_reducible refine TL_nil ?_ | with_reducible refine TQ_then ?_ | with_reducible refine T_ret ?_ | refine TL_q (op_assign rfl) rfl ?_ | (refine' TL_q (op_pickF rfl ?_ rfl) rfl ?_; (· (exact Bool.not_true))) | (refine TL_gpre rfl rfl ?_ ?_; (· (exact Bool.not_true))) | (refine' TL_gq2 (op_pickT rfl ?_ rfl) rfl ?_; (· (exact Bool.not_false)))))
        refine TQ_cnt (L' := L) ?_ (by intro p; (try simp only [cnt_append, cnt_cons, cnt_nil]) <;> omega)
        refine TQ_ret1 8 _ rfl rfl ?_
        exact ⟨rfl, rfl⟩
theorem tallyPass_walk (want : Int) (v : Value) (l : List TAct) (u : Int) (cx : List Value) (x : TAct) (W : World) (hw : -9223372036854775808 ≤ want ∧ want ≤ 9223372036854775807) (hl : sliceR 30 actR (allBlocks W) [v] l) (hu : -9223372036854775808 ≤ u ∧ u ≤ 9223372036854775807) (hx : actR (allBlocks W) cx x) : Calls Try.prog 13 #[.int .i64 want, v, .int .i64 u, .agg cx.toArray] W fun e w' => e = .returned (.bool true) ∧ Below W.heap.size W w' :=
  Spec.below (tallyPass_S want v l u cx x hl hu hx)
end Go.Proofs.Ytdflhdfapnhjjaa
