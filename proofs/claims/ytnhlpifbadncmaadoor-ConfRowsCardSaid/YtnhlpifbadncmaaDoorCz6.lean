/-
  Part 6: Ct Cu Cv OpC.
-/
import Derived.Test.YtnhlpifbadncmaaDoorCz5
import Derived.Test.YtnhlpifbadncmaaDoorCz3
import Derived.Test.YtnhlpifbadncmaaDoorRows
import Derived.Lib.LaidTab
import Derived.Stop.LaidErr
import Derived.MakeChecks
import Derived.Shelf.Vars
namespace Go.Proofs.YtnhlpifbadncmaaDoor
open Go.RowKit
open Cn (Zo Cf)
set_option linter.unusedVariables false
set_option linter.unusedSimpArgs false
--auto
variable {G : World} {L : Blocks}
theorem ORow.made0 {α : Type} {r : Rp α} {e : TypeId} {sz b : Nat} {L : Blocks} : ORow r e sz L (some ⟨b, 0, none⟩) 0 ([] : List α) [(b, .cells #[] e (0, 0))] := ⟨[], Row.made (by simp) (by unfold maxLen; omega), rfl, by simp⟩
set_option maxRecDepth 100000 in
set_option maxHeartbeats 4000000 in
theorem own_S (c : Cf) (v : Value) (hz : sliceR 3 zoR L [v] c.zs) (hn : c.zs.length ≤ 100) : Spec Tryd.prog G 17 #[.agg (cfCells c v).toArray] L fun u M => ∃ a cap B, u = .agg (cfCells c (.slice a c.zs.length cap)).toArray ∧ ORow zoR 38 3 [] a cap c.zs B ∧ M = B ++ L := by
  obtain ⟨a, cap, e, hz⟩ := hz.val
  obtain rfl := (List.cons.inj e).1
  clear e
  refine Spec_of (n := 9) Tryd.func17 rfl rfl rfl ?_
  refine T_seq (T_region (TL_new (op_boxA rfl) rfl ?_))
  intro b1
  have g0 : (cfCells (c) (.slice a c.zs.length cap)).toArray[0 + 0]? = some (.int .i64 (c).ups) := rfl
  have g1 : (cfCells (c) (.slice a c.zs.length cap)).toArray[0 + 1]? = some (.int .i64 (c).ded) := rfl
  have g2 : (cfCells (c) (.slice a c.zs.length cap)).toArray[0 + 2]? = some (.int .i64 (c).hdg) := rfl
  have g3 : (cfCells (c) (.slice a c.zs.length cap)).toArray[0 + 3]? = some (.int .i64 (c).wai) := rfl
  have g4 : (cfCells (c) (.slice a c.zs.length cap)).toArray[0 + 4]? = some (.int .i64 (c).tri) := rfl
  have g5 : (cfCells (c) (.slice a c.zs.length cap)).toArray[0 + 5]? = some (.int .i64 (c).res) := rfl
  have g6 : (cfCells (c) (.slice a c.zs.length cap)).toArray[0 + 6]? = some (.int .i64 (c).lim) := rfl
  have g7 : (cfCells (c) (.slice a c.zs.length cap)).toArray[0 + 7]? = some (.int .i64 (c).cac) := rfl
  have g8 : (cfCells (c) (.slice a c.zs.length cap)).toArray[0 + 8]? = some (.int .i64 (c).fli) := rfl
  have g9 : (cfCells (c) (.slice a c.zs.length cap)).toArray[0 + 9]? = some (.int .i64 (c).wtr) := rfl
  have g10 : (cfCells (c) (.slice a c.zs.length cap)).toArray[0 + 10]? = some (.int .i64 (c).ttl) := rfl
  have g11 : (cfCells (c) (.slice a c.zs.length cap)).toArray[0 + 11]? = some (.int .i64 (c).siz) := rfl
  have g12 : (cfCells (c) (.slice a c.zs.length cap)).toArray[0 + 12]? = some (.slice a c.zs.length cap) := rfl
  repeat ((first | with_reducible refine T_seq ?_ | with_reducible refine T_region ?_ | with_reducible refine TL_nil ?_ | with_reducible refine TQ_then ?_ | (refine TL_new (op_alloc (C := #[(.int .i64 0), (.int .i64 0), (.int .i64 0), (.int .i64 0), (.int .i64 0), (.int .i64 0), (.int .i64 0), (.int .i64 0), (.int .i64 0), (.int .i64 0), (.int .i64 0), (.int .i64 0), (.slice none 0 0)]) zero_25 rfl) rfl ?_; intro bNew)))
  obtain ⟨b2, hb2⟩ : ∃ b, bNew = b := ⟨_, rfl⟩
  rw [hb2]
  clear hb2 bNew
  refine TL_new (op_buildSlice (vs := []) (C := #[]) rfl (rowLitG (len := 0) ety_23 [] rfl (by simp) (by decide) rfl)) rfl ?_
  intro bE
  repeat ((first | refine TL_q (op_fld rfl fld_25_12) rfl ?_ | (refine' TL_q (op_ld rfl pl_23 ?_ ?_) rfl ?_; rotate_left 4; (· repeat ((first | exact List.mem_cons_self | apply List.mem_cons_of_mem))); (· (assumption)))))
  refine TL_opT (op_appendG2 (r := zoR) (L0 := L) (l := []) (m := c.zs) (B := [(bE, .cells #[] 38 (0, 0))]) ety_23 rfl rfl rfl rfl ORow.made0 hz (mem_of_cnt (by intro p; (try simp only [cnt_append, cnt_cons, cnt_nil]) <;> omega)) mono_zo (fun cs y h => zoR.one h) (by simp; omega) (by decide)) rfl ?_
  rintro _ _ ⟨a', c', B', rfl, hB', rfl⟩
  rw [List.nil_append] at hB' ⊢
  repeat ((refine TL_q (op_fld rfl fld_25_12) rfl ?_))
  have hcnt : ∀ p, cnt p ((b1, Obj.cells (cfCells c (.slice a c.zs.length cap)).toArray 25 (0, 0)) :: (B' ++ ((b2, Obj.cells (cfCells Cn.zeroC (.slice none 0 0)).toArray 25 (0, 0)) :: L))) ≤ cnt p (B' ++ ((b2, Obj.cells (cfCells Cn.zeroC (.slice none 0 0)).toArray 25 (0, 0)) :: (b1, Obj.cells (cfCells c (.slice a c.zs.length cap)).toArray 25 (0, 0)) :: L)) := (by intro p; (try simp only [cnt_append, cnt_cons, cnt_nil]) <;> omega)
  refine TL_cnt (L' := (b1, Obj.cells (cfCells c (.slice a c.zs.length cap)).toArray 25 (0, 0)) :: (B' ++ ((b2, Obj.cells (cfCells Cn.zeroC (.slice none 0 0)).toArray 25 (0, 0)) :: L))) ?_ hcnt
  refine TL_st (C' := (cfCells c (.slice a' c.zs.length c')).toArray) rfl rfl one_23 rfl g12 rfl ?_
  repeat ((first | with_reducible refine T_seq ?_ | with_reducible refine T_region ?_ | with_reducible refine TL_nil ?_ | with_reducible refine TQ_then ?_ | (refine' TL_q (op_ldAll rfl st_25 ?_ ?_) rfl ?_; rotate_left 3; (· repeat ((exact List.mem_cons_self))); (· (rfl)))))
  refine TL_cnt (L' := (b2, Obj.cells (cfCells Cn.zeroC (.slice none 0 0)).toArray 25 (0, 0)) :: (B' ++ ((b1, Obj.cells (cfCells c (.slice a' c.zs.length c')).toArray 25 (0, 0)) :: L))) ?_ (by intro p; (try simp only [cnt_append, cnt_cons, cnt_nil]) <;> omega)
  repeat ((first | with_reducible refine TL_nil ?_ | with_reducible refine TQ_then ?_ | with_reducible refine T_ret ?_ | (refine TL_stAll rfl rfl st_25 rfl rfl rfl ?_)))
  refine TQ_retC 2 25  rfl rfl  st_25 (by repeat ((exact List.mem_cons_self))) rfl (fun w h => Heap.cnt (L' := B' ++ L) h (by intro p; (try simp only [cnt_append, cnt_cons, cnt_nil]) <;> omega)) ?_
  exact ⟨a', c', B', rfl, hB'.imp (fun cs x _ h => h), rfl⟩
def exText : Nm.Bytes := [117, 112, 115, 32, 51, 10, 100, 101, 97, 100, 108, 105, 110, 101, 32, 50, 48, 10, 104, 101, 100, 103, 101, 32, 50, 10, 119, 97, 105, 116, 32, 53, 10, 116, 114, 105, 101, 115, 32, 50, 10, 114, 101, 115, 116, 32, 49, 48, 48, 10, 108, 105, 109, 105, 116, 32, 53, 48, 10, 99, 97, 99, 104, 101, 32, 56, 10, 102, 108, 105, 103, 104, 116, 115, 32, 52, 10, 119, 97, 105, 116, 101, 114, 115, 32, 52, 10, 116, 116, 108, 32, 51, 54, 48, 48, 10, 115, 105, 122, 101, 32, 49, 50, 51, 50, 10]
theorem ex_may : Cn.mayP exC = true := by decide +kernel
theorem ex_text : Cn.textC theT exC = exText := by decide +kernel
theorem ex_show : showV exC = .tuple #[.string (bs exText), .int .i64 0] := by
  unfold showV Cn.showP
  rw [if_pos ex_may, ex_text]
theorem ex_parse : Cn.parseP theT exText = (exC, 0, 0) := by rw [← ex_text]; exact Cn.parse_show theT_ok ex_may
theorem ex_lies : Cn.liesP exC = 1 := by unfold Cn.liesP; rw [if_pos ex_may]; rfl
theorem ex_may12 : Cn.mayP { exC with ded := 12 } = true := by decide +kernel
theorem ex_may11 : Cn.mayP { exC with ded := 11 } = false := by decide +kernel
set_option maxRecDepth 100000 in
set_option maxHeartbeats 8000000 in
theorem awake_S (hg : Glob L) : Spec Tryd.prog G 10 #[] L fun u M => u = .bool true ∧ M = L := by
  have hcf : ∀ (L' : Blocks) (n : Int), CfL L' { exC with ded := n } (.slice none 0 0) := fun L' n => ⟨sliceR.nil, by simp [exC]⟩
  refine Spec_of (n := 58) Tryd.func10 rfl rfl rfl ?_
  repeat ((first | with_reducible refine T_seq ?_ | with_reducible refine T_region ?_ | with_reducible refine TL_nil ?_ | with_reducible refine TQ_then ?_ | refine TL_q (op_assign rfl) rfl ?_))
  refine TL_op (op_call hb_25 rfl example_S) rfl ?_
  repeat ((first | with_reducible refine T_seq ?_ | with_reducible refine T_region ?_ | with_reducible refine TL_nil ?_ | with_reducible refine TQ_then ?_ | (refine' TL_q (op_ldAll rfl st_25 ?_ ?_) rfl ?_; rotate_left 3; (· repeat ((exact List.mem_cons_self))); (· (rfl))) | (refine TL_stAll rfl rfl st_25 rfl rfl rfl ?_) | (refine TL_new (op_alloc (C := #[(.int .i64 0), (.int .i64 0), (.int .i64 0), (.int .i64 0), (.int .i64 0), (.int .i64 0), (.int .i64 0), (.int .i64 0), (.int .i64 0), (.int .i64 0), (.int .i64 0), (.int .i64 0), (.slice none 0 0)]) zero_25 rfl) rfl ?_; intro bNew)))
  obtain ⟨b1, hb1⟩ : ∃ b, bNew = b := ⟨_, rfl⟩
  rw [hb1]
  clear hb1 bNew
  refine TL_op (op_call hb_13 rfl (pShow_S exC _ (hcf _ 20) (hg.mono (mem_of_cnt (by intro p; (try simp only [cnt_append, cnt_cons, cnt_nil]) <;> omega))))) rfl ?_
  rw [ex_show]
  repeat ((first | with_reducible refine T_seq ?_ | with_reducible refine T_region ?_ | with_reducible refine TL_nil ?_ | with_reducible refine TQ_then ?_ | refine TL_q (op_move rfl) rfl ?_ | refine TL_q (op_assign rfl) rfl ?_ | refine TL_q (op_extract rfl rfl) rfl ?_))
  refine TL_opT (op_call hb_23 rfl (pParse_S exText (by decide) (Or.inr (by decide)) (hg.mono (mem_of_cnt (by intro p; (try simp only [cnt_append, cnt_cons, cnt_nil]) <;> omega))))) rfl ?_
  rintro _ _ ⟨a, cap, B, rfl, hB, rfl⟩
  rw [ex_parse] at hB ⊢
  repeat ((first | with_reducible refine T_seq ?_ | with_reducible refine T_region ?_ | with_reducible refine TL_nil ?_ | with_reducible refine TQ_then ?_ | refine TL_q (op_move rfl) rfl ?_ | refine TL_q (op_assign rfl) rfl ?_ | (refine' TL_q (op_bin rfl rfl ?_) rfl ?_; rotate_left 1; (· (exact bin_eql))) | refine TL_q (op_extract rfl rfl) rfl ?_ | (refine' TL_q (op_pickT rfl ?_ rfl) rfl ?_; (· (exact Bool.not_false))) | refine TL_q (op_fld rfl fld_25_1) rfl ?_ | (refine' TL_q (op_ldAll rfl st_25 ?_ ?_) rfl ?_; rotate_left 3; (· repeat ((first | exact List.mem_cons_self | apply List.mem_cons_of_mem | apply List.mem_append_right))); (· (rfl))) | (refine TL_gpre rfl rfl ?_ ?_; (· (exact Bool.not_false))) | refine TL_gq2 (op_move rfl) rfl ?_ | (refine' TL_gq2 (op_bin rfl rfl ?_) rfl ?_; rotate_left 1; (· (exact bin_eql))) | (refine' TL_gq2 (op_ldAll rfl st_25 ?_ ?_) rfl ?_; rotate_left 3; (· repeat ((first | exact List.mem_cons_self | apply List.mem_cons_of_mem | apply List.mem_append_right))); (· (rfl))) | (refine' TL_st rfl rfl one_3 rfl ?_ rfl ?_; rotate_left 1; (· (rfl))) | (refine TL_stAll rfl rfl st_25 rfl rfl rfl ?_) | (refine TL_new (op_alloc (C := #[(.int .i64 0), (.int .i64 0), (.int .i64 0), (.int .i64 0), (.int .i64 0), (.int .i64 0), (.int .i64 0), (.int .i64 0), (.int .i64 0), (.int .i64 0), (.int .i64 0), (.int .i64 0), (.slice none 0 0)]) zero_25 rfl) rfl ?_; intro bNew)))
  refine TG_op (op_call hb_21 rfl (rSame_S exC exC _ _ (ORow.sliceR mono_zo hB (by simp) (mem_of_cnt (by intro p; (try simp only [cnt_append, cnt_cons, cnt_nil]) <;> omega))) sliceR.nil)) rfl ?_
  rw [show sameC exC exC = true from by decide +kernel]
  repeat ((first | refine TL_q (op_move rfl) rfl ?_ | (refine' TL_q (op_pickT rfl ?_ rfl) rfl ?_; (· (first | with_reducible rfl | exact Bool.not_false))) | (refine TL_gpre rfl rfl ?_ ?_; (· (first | with_reducible rfl | exact Bool.not_false))) | refine TL_gq2 (op_move rfl) rfl ?_ | (refine' TL_gq2 (op_bin rfl rfl ?_) rfl ?_; rotate_left 1; (· (exact sbin_eql))) | (refine' TL_gq2 (op_ldAll rfl st_25 ?_ ?_) rfl ?_; rotate_left 3; (· repeat ((first | exact List.mem_cons_self | apply List.mem_cons_of_mem | apply List.mem_append_right))); (· (rfl)))))
  refine TG_op (op_call hb_12 rfl (pLies_S exC _ (hcf _ 20))) rfl ?_
  rw [ex_lies]
  repeat ((first | refine TL_q (op_move rfl) rfl ?_ | (refine' TL_q (op_pickT rfl ?_ rfl) rfl ?_; (· (exact Bool.not_false))) | (refine TL_gpre rfl rfl ?_ ?_; (· (exact Bool.not_false))) | (refine' TL_gq2 (op_bin rfl rfl ?_) rfl ?_; rotate_left 1; (· (exact bin_eql))) | (refine' TL_gq2 (op_ldAll rfl st_25 ?_ ?_) rfl ?_; rotate_left 3; (· repeat ((first | exact List.mem_cons_self | apply List.mem_cons_of_mem))); (· (rfl)))))
  refine TG_op (op_call hb_11 rfl (pMay_S { exC with ded := 12 } (.slice none 0 0) (hcf _ 12))) rfl ?_
  rw [mayE1_yes ex_may12]
  repeat ((first | refine TL_q (op_move rfl) rfl ?_ | (refine' TL_q (op_pickT rfl ?_ rfl) rfl ?_; (· (exact Bool.not_false))) | (refine TL_gpre rfl rfl ?_ ?_; (· (exact Bool.not_false))) | (refine' TL_gq2 (op_bin rfl rfl ?_) rfl ?_; rotate_left 1; (· (exact bin_eql))) | (refine' TL_gq2 (op_ldAll rfl st_25 ?_ ?_) rfl ?_; rotate_left 3; (· repeat ((exact List.mem_cons_self))); (· (rfl)))))
  refine TG_op (op_call hb_11 rfl (pMay_S { exC with ded := 11 } (.slice none 0 0) (hcf _ 11))) rfl ?_
  rw [mayE1_no ex_may11]
  repeat ((first | with_reducible refine TL_nil ?_ | with_reducible refine TQ_then ?_ | with_reducible refine T_ret ?_ | refine TL_q (op_assign rfl) rfl ?_ | (refine' TL_q (op_pickT rfl ?_ rfl) rfl ?_; (· (exact Bool.not_false))) | (refine TL_gpre rfl rfl ?_ ?_; (· (exact Bool.not_false))) | (refine' TL_gq2 (op_bin rfl rfl ?_) rfl ?_; rotate_left 1; (· (exact bin_eql)))))
  refine TQ_cnt (L' := L) ?_ (by intro p; (try simp only [cnt_append, cnt_cons, cnt_nil]) <;> omega)
  refine TQ_ret1 0 _ rfl rfl ?_
  exact ⟨rfl, rfl⟩
end Go.Proofs.YtnhlpifbadncmaaDoor
namespace Go.Proofs.YtnhlpifbadncmaaDoor
open Go.RowKit
open Cn (Zo Cf)
set_option linter.unusedVariables false
set_option linter.unusedSimpArgs false
--auto
variable {G : World} {L : Blocks}
theorem not_large {c : Cf} {v : Value} (hz : sliceR 3 zoR L [v] c.zs) (h : largeB c = false) : CfL L c v ∧ c.zs.length ≤ 100 := by
  unfold largeB at h
  rw [Bool.or_eq_false_iff] at h
  have h1 := of_decide_eq_false h.1
  refine ⟨⟨hz, fun z hz => ?_⟩, by omega⟩
  have := List.any_eq_false.1 h.2 z hz
  simp at this
  omega
set_option maxRecDepth 100000 in
set_option maxHeartbeats 8000000 in
theorem enough_S (c : Cf) (v : Value) (d : Int) (hz : sliceR 3 zoR L [v] c.zs) (hg : Glob L) : Spec Tryd.prog G 7 #[.agg (cfCells c v).toArray, .int .i64 d] L fun u M => u = .bool true ∧ M = L := by
  refine Spec_of (n := 61) Tryd.func7 rfl rfl rfl ?_
  refine T_seq (T_region (TL_new (op_boxA rfl) rfl ?_))
  intro b2
  have g0 : (cfCells (c) (v)).toArray[0 + 0]? = some (.int .i64 (c).ups) := rfl
  have g1 : (cfCells (c) (v)).toArray[0 + 1]? = some (.int .i64 (c).ded) := rfl
  have g2 : (cfCells (c) (v)).toArray[0 + 2]? = some (.int .i64 (c).hdg) := rfl
  have g3 : (cfCells (c) (v)).toArray[0 + 3]? = some (.int .i64 (c).wai) := rfl
  have g4 : (cfCells (c) (v)).toArray[0 + 4]? = some (.int .i64 (c).tri) := rfl
  have g5 : (cfCells (c) (v)).toArray[0 + 5]? = some (.int .i64 (c).res) := rfl
  have g6 : (cfCells (c) (v)).toArray[0 + 6]? = some (.int .i64 (c).lim) := rfl
  have g7 : (cfCells (c) (v)).toArray[0 + 7]? = some (.int .i64 (c).cac) := rfl
  have g8 : (cfCells (c) (v)).toArray[0 + 8]? = some (.int .i64 (c).fli) := rfl
  have g9 : (cfCells (c) (v)).toArray[0 + 9]? = some (.int .i64 (c).wtr) := rfl
  have g10 : (cfCells (c) (v)).toArray[0 + 10]? = some (.int .i64 (c).ttl) := rfl
  have g11 : (cfCells (c) (v)).toArray[0 + 11]? = some (.int .i64 (c).siz) := rfl
  have g12 : (cfCells (c) (v)).toArray[0 + 12]? = some (v) := rfl
  repeat ((first | with_reducible refine T_seq ?_ | with_reducible refine T_region ?_ | with_reducible refine TL_nil ?_ | with_reducible refine TQ_then ?_ | refine TL_q (op_assign rfl) rfl ?_ | (refine' TL_q (op_ldAll rfl st_25 ?_ ?_) rfl ?_; rotate_left 3; (· repeat ((exact List.mem_cons_self))); (· (rfl)))))
  refine TL_op (op_call hb_16 rfl (large_S c v (mono_slice mono_zo _ _ _ _ (mem_of_cnt (by intro p; (try simp only [cnt_append, cnt_cons, cnt_nil]) <;> omega)) hz))) rfl ?_
  cases hl : largeB c with
  | true =>
    repeat ((first | with_reducible refine T_seq ?_ | with_reducible refine T_region ?_ | with_reducible refine TL_nil ?_ | with_reducible refine TQ_then ?_ | refine TL_q (op_move rfl) rfl ?_ | (refine' TL_q (op_pickT rfl ?_ rfl) rfl ?_; (· (with_reducible rfl))) | (refine TL_gno rfl rfl ?_ rfl ?_; (· (exact Bool.not_false))) | (refine T_yes rfl ?_ ?_; (· (with_reducible rfl)))))
    refine TL_op (op_call hb_10 rfl (awake_S (hg.mono (mem_of_cnt (by intro p; (try simp only [cnt_append, cnt_cons, cnt_nil]) <;> omega))))) rfl ?_
    repeat ((first | with_reducible refine TL_nil ?_ | with_reducible refine TQ_then ?_ | with_reducible refine T_ret ?_ | with_reducible refine TQ_then_ret ?_ | refine TL_q (op_assign rfl) rfl ?_))
    refine TQ_heap (fun w h => h.tail) ?_
    refine TQ_ret1 4 _ rfl rfl ?_
    exact ⟨rfl, rfl⟩
  | false =>
    obtain ⟨hcl, hlen⟩ := not_large hz hl
    repeat ((first | refine TL_q (op_move rfl) rfl ?_ | (refine TL_gpre rfl rfl ?_ ?_; (· (with_reducible rfl)))))
    refine TG_op (op_call hb_10 rfl (awake_S (hg.mono (mem_of_cnt (by intro p; (try simp only [cnt_append, cnt_cons, cnt_nil]) <;> omega))))) rfl ?_
    repeat ((first | with_reducible refine T_seq ?_ | with_reducible refine T_region ?_ | with_reducible refine TL_nil ?_ | with_reducible refine TQ_then ?_ | with_reducible refine T_skip ?_ | (refine' TL_q (op_pickF rfl ?_ rfl) rfl ?_; (· (with_reducible rfl))) | (refine' TL_q (op_ldAll rfl st_25 ?_ ?_) rfl ?_; rotate_left 3; (· repeat ((exact List.mem_cons_self))); (· (rfl))) | (refine TL_gpre rfl rfl ?_ ?_; (· (with_reducible rfl))) | refine TL_gq2 (op_not rfl) rfl ?_ | (refine T_no rfl ?_ ?_; (· (exact Bool.not_true)))))
    refine TL_op (op_call hb_12 rfl (pLies_S c v (hcl.mono (mem_of_cnt (by intro p; (try simp only [cnt_append, cnt_cons, cnt_nil]) <;> omega))))) rfl ?_
    repeat ((first | with_reducible refine T_seq ?_ | with_reducible refine T_region ?_ | with_reducible refine TL_nil ?_ | with_reducible refine TQ_then ?_ | refine TL_q (op_assign rfl) rfl ?_ | (refine' TL_q (op_ldAll rfl st_25 ?_ ?_) rfl ?_; rotate_left 3; (· repeat ((exact List.mem_cons_self))); (· (rfl)))))
    refine TL_op (op_call hb_11 rfl (pMay_S c v (hcl.mono (mem_of_cnt (by intro p; (try simp only [cnt_append, cnt_cons, cnt_nil]) <;> omega))))) rfl ?_
    cases hm : Cn.mayP c with
    | false =>
      have hl0 : Cn.liesP c = 0 := by unfold Cn.liesP; rw [hm]; rfl
      rw [mayE1_no hm, hl0]
      repeat ((first | with_reducible refine T_seq ?_ | with_reducible refine T_region ?_ | with_reducible refine TL_nil ?_ | with_reducible refine TQ_then ?_ | with_reducible refine T_ret ?_ | with_reducible refine TQ_then_ret ?_ | refine TL_q (op_move rfl) rfl ?_ | refine TL_q (op_assign rfl) rfl ?_ | (refine' TL_q (op_bin rfl rfl ?_) rfl ?_; rotate_left 1; (· (first | exact bin_eql | exact bin_neq))) | (refine T_yes rfl ?_ ?_; (· (exact Bool.not_false)))))
      refine TQ_heap (fun w h => h.tail) ?_
      refine TQ_ret1 4 _ rfl rfl ?_
      exact ⟨rfl, rfl⟩
    | true =>
      rw [mayE1_yes hm]
      obtain ⟨e1, e2, e3⟩ := Cn.enough_law hm d
      obtain ⟨hr1, hr2, hr3, hr4, hr5, hr6⟩ := of_decide_eq_true (Bool.and_eq_true_iff.1 hm).1
      obtain ⟨f, hf⟩ : ∃ f, Cn.liesP c = f := ⟨_, rfl⟩
      rw [hf] at e1 e2 e3 ⊢
      have m1 : 0 ≤ f * c.hdg ∧ f * c.hdg ≤ 4000 := ⟨Int.mul_nonneg (by omega) (by omega), Int.le_trans (Int.mul_le_mul (show f ≤ 4 by omega) hr2.2 (by omega) (by omega)) (by decide)⟩
      have m2 : 0 ≤ c.tri * c.wai ∧ c.tri * c.wai ≤ 4000 := ⟨Int.mul_nonneg (by omega) (by omega), Int.le_trans (Int.mul_le_mul hr4.2 hr3.2 (by omega) (by omega)) (by decide)⟩
      repeat ((first | with_reducible refine T_seq ?_ | with_reducible refine T_region ?_ | with_reducible refine TL_nil ?_ | with_reducible refine TQ_then ?_ | with_reducible refine T_skip ?_ | refine TL_q (op_move rfl) rfl ?_ | refine TL_q (op_assign rfl) rfl ?_ | (refine' TL_q (op_bin rfl rfl ?_) rfl ?_; rotate_left 1; (· (first | exact bin_add ⟨by omega, by omega⟩ | exact bin_mul ⟨by omega, by omega⟩ | exact bin_neq))) | refine TL_q (op_fld rfl fld_25_2) rfl ?_ | refine TL_q (op_fld rfl fld_25_3) rfl ?_ | refine TL_q (op_fld rfl fld_25_4) rfl ?_ | (refine' TL_q (op_ld rfl pl_3 ?_ ?_) rfl ?_; rotate_left 4; (· repeat ((exact List.mem_cons_self))); (· (assumption))) | (refine' TL_q (op_ldAll rfl st_25 ?_ ?_) rfl ?_; rotate_left 3; (· repeat ((exact List.mem_cons_self))); (· (rfl))) | (refine T_no rfl ?_ ?_; (· (exact Bool.not_true)))))
      refine TL_opT (op_call hb_17 rfl (own_S c v (mono_slice mono_zo _ _ _ _ (mem_of_cnt (by intro p; (try simp only [cnt_append, cnt_cons, cnt_nil]) <;> omega)) hz) hlen)) rfl ?_
      rintro _ _ ⟨a', c', B, rfl, hB, rfl⟩
      repeat ((first | with_reducible refine T_seq ?_ | with_reducible refine T_region ?_ | with_reducible refine TL_nil ?_ | with_reducible refine TQ_then ?_ | refine TL_q (op_move rfl) rfl ?_ | (refine' TL_q (op_bin rfl rfl ?_) rfl ?_; rotate_left 1; (· (first | exact bin_add ⟨by omega, by omega⟩ | exact bin_mul ⟨by omega, by omega⟩ | exact bin_eql))) | (refine' TL_q (op_pickT rfl ?_ rfl) rfl ?_; (· (exact dT (by (assumption))))) | refine TL_q (op_fld rfl fld_25_0) rfl ?_ | refine TL_q (op_fld rfl fld_25_1) rfl ?_ | (refine' TL_q (op_ld rfl pl_3 ?_ ?_) rfl ?_; rotate_left 4; (· repeat ((first | exact List.mem_cons_self | apply List.mem_cons_of_mem | apply List.mem_append_right))); (· (assumption))) | (refine TL_gpre rfl rfl ?_ ?_; (· (exact dT (by (assumption))))) | refine TL_gq2 (op_move rfl) rfl ?_ | (refine' TL_gq2 (op_bin rfl rfl ?_) rfl ?_; rotate_left 1; (· (exact bin_geq))) | refine TL_gq2 (op_fld rfl fld_25_1) rfl ?_ | (refine' TL_gq2 (op_ld rfl pl_3 ?_ ?_) rfl ?_; rotate_left 4; (· repeat ((first | exact List.mem_cons_self | apply List.mem_cons_of_mem | apply List.mem_append_right))); (· (assumption))) | (refine' TL_gq2 (op_ldAll rfl st_25 ?_ ?_) rfl ?_; rotate_left 3; (· repeat ((exact List.mem_cons_self))); (· (rfl))) | (refine' TL_st rfl rfl one_3 rfl ?_ rfl ?_; rotate_left 1; (· (assumption))) | (refine TL_stAll rfl rfl st_25 rfl rfl rfl ?_) | (refine TL_new (op_alloc (C := #[(.int .i64 0), (.int .i64 0), (.int .i64 0), (.int .i64 0), (.int .i64 0), (.int .i64 0), (.int .i64 0), (.int .i64 0), (.int .i64 0), (.int .i64 0), (.int .i64 0), (.int .i64 0), (.slice none 0 0)]) zero_25 rfl) rfl ?_; intro bNew)))
      refine TG_op (op_call hb_11 rfl (pMay_S { c with ded := d } (.slice a' c.zs.length c') ⟨ORow.sliceR mono_zo hB (by simp) (mem_of_cnt (by intro p; (try simp only [cnt_append, cnt_cons, cnt_nil]) <;> omega)), hcl.small⟩)) rfl ?_
      by_cases q1 : f * c.hdg + c.tri * c.wai ≤ d
      · by_cases q2 : d ≤ 100000
        · rw [mayE1_yes (e3.2 ⟨q1, q2⟩)]
          repeat ((first | with_reducible refine TL_nil ?_ | with_reducible refine TQ_then ?_ | with_reducible refine T_ret ?_ | refine TL_q (op_assign rfl) rfl ?_ | (refine' TL_q (op_pickT rfl ?_ rfl) rfl ?_; (· (exact dT (by (assumption))))) | (refine TL_gpre rfl rfl ?_ ?_; (· (exact dT (by (assumption))))) | refine TL_gq2 (op_move rfl) rfl ?_ | (refine' TL_gq2 (op_bin rfl rfl ?_) rfl ?_; rotate_left 1; (· (first | exact bin_eql | exact bin_leq | exact bin_geq | exact bbin_eql Tryd.underlying4))) | (refine' TL_gq2 (op_pickT rfl ?_ rfl) rfl ?_; (· (exact dT (by (assumption)))))))
          refine TQ_cnt (L' := L) ?_ (by intro p; (try simp only [cnt_append, cnt_cons, cnt_nil]) <;> omega)
          refine TQ_ret1 4 _ rfl rfl ?_
          exact ⟨by rw [decide_eq_true q2]; rfl, rfl⟩
        · rw [mayE1_no (by cases h : Cn.mayP { c with ded := d } with | false => rfl | true => exact absurd (e3.1 h).2 q2)]
          repeat ((first | with_reducible refine TL_nil ?_ | with_reducible refine TQ_then ?_ | with_reducible refine T_ret ?_ | refine TL_q (op_assign rfl) rfl ?_ | (refine' TL_q (op_pickT rfl ?_ rfl) rfl ?_; (· (exact dT (by (assumption))))) | (refine TL_gpre rfl rfl ?_ ?_; (· (exact dT (by (assumption))))) | refine TL_gq2 (op_move rfl) rfl ?_ | (refine' TL_gq2 (op_bin rfl rfl ?_) rfl ?_; rotate_left 1; (· (first | exact bin_eql | exact bin_leq | exact bin_geq | exact bbin_eql Tryd.underlying4))) | (refine' TL_gq2 (op_pickT rfl ?_ rfl) rfl ?_; (· (exact dT (by (assumption)))))))
          refine TQ_cnt (L' := L) ?_ (by intro p; (try simp only [cnt_append, cnt_cons, cnt_nil]) <;> omega)
          refine TQ_ret1 4 _ rfl rfl ?_
          exact ⟨by rw [decide_eq_false q2]; rfl, rfl⟩
      · rw [mayE1_no (by cases h : Cn.mayP { c with ded := d } with | false => rfl | true => exact absurd (e3.1 h).1 q1)]
        repeat ((first | with_reducible refine TL_nil ?_ | with_reducible refine TQ_then ?_ | with_reducible refine T_ret ?_ | refine TL_q (op_assign rfl) rfl ?_ | (refine' TL_q (op_pickT rfl ?_ rfl) rfl ?_; (· (exact dT (by (assumption))))) | (refine TL_gpre rfl rfl ?_ ?_; (· (exact dT (by (assumption))))) | refine TL_gq2 (op_move rfl) rfl ?_ | (refine' TL_gq2 (op_bin rfl rfl ?_) rfl ?_; rotate_left 1; (· (first | exact bin_eql | exact bin_geq | exact bbin_eql Tryd.underlying4))) | (refine' TL_gq2 (op_pickF rfl ?_ rfl) rfl ?_; (· (exact dF (by (assumption))))) | (refine TL_gno rfl rfl ?_ rfl ?_; (· (exact dF (by (assumption)))))))
        refine TQ_cnt (L' := L) ?_ (by intro p; (try simp only [cnt_append, cnt_cons, cnt_nil]) <;> omega)
        refine TQ_ret1 4 _ rfl rfl ?_
        exact ⟨rfl, rfl⟩
end Go.Proofs.YtnhlpifbadncmaaDoor
namespace Go.Proofs.YtnhlpifbadncmaaDoor
open Go.ChangeShapes Go.WideShapes Go.ChangeAt Go.RowKit
set_option linter.unusedVariables false
set_option linter.unusedSimpArgs false
/-- The list of every row. -/
def laidL : List (String × DataW Unit) := [("math/bits.deBruijn32tab", Rows.laid_math_bits_deBruijn32tab), ("math/bits.deBruijn64tab", Rows.laid_math_bits_deBruijn64tab), ("internal/strconv.uint64pow10", Rows.laid_internal_strconv_uint64pow10), ("unicode/utf8.acceptRanges", Rows.laid_unicode_utf8_acceptRanges), ("hustings/conf.words", Rows.laid_hustings_conf_words), ("unicode/utf8.first", Rows.laid_unicode_utf8_first)]
theorem words_cells {H : Type} {enc : TypeId × Value → H} {P : Program} {w : World} {base : Nat} {sp : Nat → Bool} {held : Bool} {fuel : Nat} {t e : TypeId} {n : Nat} {cs : List Value} {zs : List (List UInt8)} {p : List MemPlace}
    (ht : P.underlying t = some (.array n e)) (he : P.underlying e = some .string) (hce : P.cellsOf e = 1) (hct : P.cellsOf t = n)
    (h : DataW.trod enc P w base sp held fuel t cs = some (.agg (zs.map fun z => .lit (.string z)), p)) : cs = zs.map fun z => Value.string (bs z) := by
  cases fuel with
  | zero => simp [DataW.trod] at h
  | succ fuel =>
    simp only [DataW.trod, ht, hce, hct, Nat.mul_one] at h
    split at h
    · rename_i hl
      obtain ⟨xs, hm, hx⟩ := Option.map_eq_some_iff.1 h
      have hxs : xs.map (·.1) = zs.map fun z => (DataW.lit (.string z) : DataW H) := by
        have := congrArg Prod.fst hx
        simpa using this
      have hxl : xs.length = n := by simpa using Lib.mapM_length hm
      have hzl : zs.length = n := by
        have := congrArg List.length hxs
        simp at this
        omega
      apply List.ext_getElem?
      intro i
      by_cases hi : i < n
      · obtain ⟨b, hb, hf⟩ := Lib.mapM_at hm i i (by simp [hi])
        obtain ⟨s, hc, rfl, _⟩ := DataW.trod_string he hf
        have h1 : cs[i]? = some (.string s) := by
          have := congrArg (·[0]?) hc
          simpa [List.getElem?_take, List.getElem?_drop] using this
        have h2 : (xs.map (·.1))[i]? = some (DataW.lit (.string s.data.toList) : DataW H) := by simp [hb]
        rw [hxs] at h2
        simp only [List.getElem?_map, Option.map_eq_some_iff, DataW.lit.injEq, Lit.string.injEq] at h2
        obtain ⟨z', hz', hzz⟩ := h2
        have : bs z' = s := by
          rw [hzz]
          rfl
        simp [h1, hz', this]
      · rw [List.getElem?_eq_none (by omega), List.getElem?_eq_none (by simp; omega)]
    · cases h
theorem glob_words : Tryd.prog.globalNamed "hustings/conf.words" = some 0 := by kernel_rfl
theorem type_words : (Tryd.prog.globals[0]?).map (·.type) = some 57 := by kernel_rfl
theorem type_pow : (Tryd.prog.globals[2]?).map (·.type) = some 122 := by kernel_rfl
theorem var_block {P : Program} {w : World} {n : String} {g : Nat} {cs : Array Value} (hg : P.globalNamed n = some g) (h : w.var? P n = some cs) : ∃ t fr, w.heap[g]? = some (.cells cs t fr) := by
  unfold World.var? at h
  rw [hg, Option.bind_some] at h
  split at h
  · rename_i cs' t fr hh
    cases h
    exact ⟨t, fr, hh⟩
  · cases h
theorem glob_of {W : World} (h : laidMetH Tryd.prog laidL W) (hs : W.ShapedOpen Tryd.prog) : Glob (allBlocks W) := by
  rw [Go.MakeChecks.laidMetH_plain _ _ _ (by kernel_rfl)] at h
  have h3 := h.tail.tail
  have hpow : Lib.TabIs Tryd.prog W "internal/strconv.uint64pow10" .u64 Lib.pow10Tab := Lib.tabIs_of_head (rest := _) glob_pow type_pow Tryd.underlying122 Tryd.underlying111 (by kernel_rfl) (by kernel_rfl) h3
  obtain ⟨t2, fr2, hp⟩ := var_block glob_pow hpow
  have h5 := h3.tail.tail
  obtain ⟨ps, ⟨g', t', cs, fuel, p, q, hg', ht', hvar, hd, _, _⟩, _⟩ := h5
  obtain rfl := Option.some.inj (glob_words.symm.trans hg')
  obtain rfl := Option.some.inj (type_words.symm.trans ht')
  have hcs := words_cells (zs := Cn.words12) Tryd.underlying57 Tryd.underlying9 (by kernel_rfl) (by kernel_rfl) hd
  obtain ⟨t3, fr3, hw⟩ := var_block glob_words hvar
  obtain ⟨cs1, hh, hs1, _⟩ := hs.1 1 #[.int .i64 0] 3 (of_decide_eq_true (by kernel_rfl)) (by kernel_rfl)
  obtain ⟨m, hm⟩ := cell_of_shapedOpen_int (k := .i64) (zero := #[.int .i64 0]) (t := 3) hs (g := 1) (of_decide_eq_true (by kernel_rfl)) (by kernel_rfl) rfl (by kernel_rfl) (by kernel_rfl) Tryd.underlying3
  have hc1 : cs1 = #[.int .i64 m] := by
    have h1 : cs1.size = 1 := hs1
    have h2 : cs1[0]? = some (.int .i64 m) := by simpa [World.cell?, hh] using hm
    apply Array.ext (by simpa using h1)
    intro i h3 h4
    have : i = 0 := by omega
    subst this
    have := (Array.getElem?_eq_some_iff.1 h2).2
    simpa using this
  subst hc1
  refine ⟨⟨m, _, _, mem_all hh⟩, ⟨t2, fr2, mem_all hp⟩, ⟨t3, fr3, ?_⟩⟩
  have e : cs = (Cn.words12.map txtV).toArray := by
    apply Array.toList_inj.1
    rw [hcs]
    rfl
  rw [e] at hw
  exact mem_all hw
/-- The cells of a datum. -/
def leafV : Nat → DataW Unit → List Value
  | 0, _ => []
  | n + 1, .lit (.int k z) => [.int k z]
  | n + 1, .lit (.string s) => [.string ⟨s.toArray⟩]
  | n + 1, .agg l => l.flatMap (leafV n)
  | _ + 1, _ => []
def putCells (d : DataW Unit) : Obj → Obj
  | .cells _ t fr => .cells (leafV 5 d).toArray t fr
  | o => o
/-- A world for the witness: the settled one, the listed variables holding what their text lays. -/
noncomputable def laidWorld (os : Os) : World :=
  { World.holding Tryd.prog os ⟨#[], #[], []⟩ with heap := (((((World.holding Tryd.prog os ⟨#[], #[], []⟩).heap.modify 0 (putCells Rows.laid_hustings_conf_words)).modify 2 (putCells Rows.laid_internal_strconv_uint64pow10)).modify 3 (putCells Rows.laid_math_bits_deBruijn32tab)).modify 4 (putCells Rows.laid_math_bits_deBruijn64tab) |>.modify 5 (putCells Rows.laid_unicode_utf8_first)).modify 6 (putCells Rows.laid_unicode_utf8_acceptRanges) }
end Go.Proofs.YtnhlpifbadncmaaDoor
namespace Go.Proofs.YtnhlpifbadncmaaDoor
open Go.ChangeShapes Go.WideShapes Go.ChangeAt Go.RowKit
open Go.ChangeMaps (open_string shut_string)
open Cn (Zo Cf)
set_option linter.unusedVariables false
set_option linter.unusedSimpArgs false
theorem own : ownKnob Tryd.prog.godebug = none := by kernel_rfl
theorem laidOut : laidOutB Tryd.prog = true := by kernel_rfl
section
variable {H : Type} {enc : TypeId × Value → H} {W : World} {v : Value} {d : DataW H} {p : List MemPlace} {base : Nat}
theorem bd16 {n : Int} (h : InLit .u16 n) : 0 ≤ n ∧ n ≤ 65535 := by unfold InLit Lit.wf at h; simp [IntKind.min, IntKind.max, IntKind.bits, IntKind.signed] at h; omega
theorem bd8 {n : Int} (h : InLit .u8 n) : 0 ≤ n ∧ n ≤ 255 := by unfold InLit Lit.wf at h; simp [IntKind.min, IntKind.max, IntKind.bits, IntKind.signed] at h; omega
theorem bd64 {n : Int} (h : InLit .i64 n) : -9223372036854775808 ≤ n ∧ n ≤ 9223372036854775807 := by unfold InLit Lit.wf at h; simp [IntKind.min, IntKind.max, IntKind.bits, IntKind.signed] at h; omega

set_option maxRecDepth 100000 in
theorem opens_zo : Opens enc Tryd.prog W 38 3 zoR := fun fuel cs x hf => by
  obtain ⟨hlen, hfs⟩ := opens_fields Tryd.underlying38 hf
  have hc : Tryd.prog.cellsOf 38 = 3 := by kernel_rfl
  rw [hc] at hlen
  have c0 : Tryd.prog.cellsOf 9 = 1 := by kernel_rfl
  have c1 : Tryd.prog.cellsOf 5 = 1 := by kernel_rfl
  have c2 : Tryd.prog.cellsOf 36 = 1 := by kernel_rfl
  obtain ⟨n0, y0, g0⟩ := hfs 0 _ rfl
  have g0 : DataW.trod enc Tryd.prog W 0 (fun _ => true) true n0 9 ((cs.drop 0).take (Tryd.prog.cellsOf 9)) = some y0 := g0
  rw [c0] at g0
  obtain ⟨a0, k0, w0⟩ := (opens_string Tryd.underlying9).at g0
  obtain ⟨n1, y1, g1⟩ := hfs 1 _ rfl
  have g1 : DataW.trod enc Tryd.prog W 0 (fun _ => true) true n1 5 ((cs.drop 1).take (Tryd.prog.cellsOf 5)) = some y1 := g1
  rw [c1] at g1
  obtain ⟨a1, k1, w1⟩ := (opens_int Tryd.underlying5).at g1
  obtain ⟨n2, y2, g2⟩ := hfs 2 _ rfl
  have g2 : DataW.trod enc Tryd.prog W 0 (fun _ => true) true n2 36 ((cs.drop 2).take (Tryd.prog.cellsOf 36)) = some y2 := g2
  rw [c2] at g2
  obtain ⟨a2, k2, w2⟩ := (opens_int Tryd.underlying36).at g2
  refine ⟨hlen, ⟨a0, a1.toNat, a2.toNat⟩, ?_⟩
  match cs, hlen with
  | [x0, x1, x2], _ =>
    obtain rfl : x0 = _ := by simpa using k0
    obtain rfl : x1 = _ := by simpa using k1
    obtain rfl : x2 = _ := by simpa using k2
    have q1 := bd8 w1
    have q2 := bd16 w2
    refine ⟨?_, w0, by show a1.toNat ≤ 255; omega, by show a2.toNat ≤ 65535; omega⟩
    show _ = [_, Value.int .u8 ((a1.toNat : Nat) : Int), Value.int .u16 ((a2.toNat : Nat) : Int)]
    rw [Int.toNat_of_nonneg q1.1, Int.toNat_of_nonneg q2.1]
set_option maxRecDepth 100000 in
theorem opens_cf : Opens enc Tryd.prog W 25 13 cfR := fun fuel cs x hf => by
  obtain ⟨hlen, hfs⟩ := opens_fields Tryd.underlying25 hf
  have hc : Tryd.prog.cellsOf 25 = 13 := by kernel_rfl
  rw [hc] at hlen
  have c0 : Tryd.prog.cellsOf 3 = 1 := by kernel_rfl
  have c1 : Tryd.prog.cellsOf 23 = 1 := by kernel_rfl
  obtain ⟨n0, y0, g0⟩ := hfs 0 _ rfl
  have g0 : DataW.trod enc Tryd.prog W 0 (fun _ => true) true n0 3 ((cs.drop 0).take (Tryd.prog.cellsOf 3)) = some y0 := g0
  rw [c0] at g0
  obtain ⟨a0, k0, w0⟩ := (opens_int Tryd.underlying3).at g0
  obtain ⟨n1, y1, g1⟩ := hfs 1 _ rfl
  have g1 : DataW.trod enc Tryd.prog W 0 (fun _ => true) true n1 3 ((cs.drop 1).take (Tryd.prog.cellsOf 3)) = some y1 := g1
  rw [c0] at g1
  obtain ⟨a1, k1, w1⟩ := (opens_int Tryd.underlying3).at g1
  obtain ⟨n2, y2, g2⟩ := hfs 2 _ rfl
  have g2 : DataW.trod enc Tryd.prog W 0 (fun _ => true) true n2 3 ((cs.drop 2).take (Tryd.prog.cellsOf 3)) = some y2 := g2
  rw [c0] at g2
  obtain ⟨a2, k2, w2⟩ := (opens_int Tryd.underlying3).at g2
  obtain ⟨n3, y3, g3⟩ := hfs 3 _ rfl
  have g3 : DataW.trod enc Tryd.prog W 0 (fun _ => true) true n3 3 ((cs.drop 3).take (Tryd.prog.cellsOf 3)) = some y3 := g3
  rw [c0] at g3
  obtain ⟨a3, k3, w3⟩ := (opens_int Tryd.underlying3).at g3
  obtain ⟨n4, y4, g4⟩ := hfs 4 _ rfl
  have g4 : DataW.trod enc Tryd.prog W 0 (fun _ => true) true n4 3 ((cs.drop 4).take (Tryd.prog.cellsOf 3)) = some y4 := g4
  rw [c0] at g4
  obtain ⟨a4, k4, w4⟩ := (opens_int Tryd.underlying3).at g4
  obtain ⟨n5, y5, g5⟩ := hfs 5 _ rfl
  have g5 : DataW.trod enc Tryd.prog W 0 (fun _ => true) true n5 3 ((cs.drop 5).take (Tryd.prog.cellsOf 3)) = some y5 := g5
  rw [c0] at g5
  obtain ⟨a5, k5, w5⟩ := (opens_int Tryd.underlying3).at g5
  obtain ⟨n6, y6, g6⟩ := hfs 6 _ rfl
  have g6 : DataW.trod enc Tryd.prog W 0 (fun _ => true) true n6 3 ((cs.drop 6).take (Tryd.prog.cellsOf 3)) = some y6 := g6
  rw [c0] at g6
  obtain ⟨a6, k6, w6⟩ := (opens_int Tryd.underlying3).at g6
  obtain ⟨n7, y7, g7⟩ := hfs 7 _ rfl
  have g7 : DataW.trod enc Tryd.prog W 0 (fun _ => true) true n7 3 ((cs.drop 7).take (Tryd.prog.cellsOf 3)) = some y7 := g7
  rw [c0] at g7
  obtain ⟨a7, k7, w7⟩ := (opens_int Tryd.underlying3).at g7
  obtain ⟨n8, y8, g8⟩ := hfs 8 _ rfl
  have g8 : DataW.trod enc Tryd.prog W 0 (fun _ => true) true n8 3 ((cs.drop 8).take (Tryd.prog.cellsOf 3)) = some y8 := g8
  rw [c0] at g8
  obtain ⟨a8, k8, w8⟩ := (opens_int Tryd.underlying3).at g8
  obtain ⟨n9, y9, g9⟩ := hfs 9 _ rfl
  have g9 : DataW.trod enc Tryd.prog W 0 (fun _ => true) true n9 3 ((cs.drop 9).take (Tryd.prog.cellsOf 3)) = some y9 := g9
  rw [c0] at g9
  obtain ⟨a9, k9, w9⟩ := (opens_int Tryd.underlying3).at g9
  obtain ⟨n10, y10, g10⟩ := hfs 10 _ rfl
  have g10 : DataW.trod enc Tryd.prog W 0 (fun _ => true) true n10 3 ((cs.drop 10).take (Tryd.prog.cellsOf 3)) = some y10 := g10
  rw [c0] at g10
  obtain ⟨a10, k10, w10⟩ := (opens_int Tryd.underlying3).at g10
  obtain ⟨n11, y11, g11⟩ := hfs 11 _ rfl
  have g11 : DataW.trod enc Tryd.prog W 0 (fun _ => true) true n11 3 ((cs.drop 11).take (Tryd.prog.cellsOf 3)) = some y11 := g11
  rw [c0] at g11
  obtain ⟨a11, k11, w11⟩ := (opens_int Tryd.underlying3).at g11
  obtain ⟨n12, y12, g12⟩ := hfs 12 _ rfl
  have g12 : DataW.trod enc Tryd.prog W 0 (fun _ => true) true n12 23 ((cs.drop 12).take (Tryd.prog.cellsOf 23)) = some y12 := g12
  rw [c1] at g12
  obtain ⟨a12, k12⟩ := (opens_slice Tryd.underlying23 (by kernel_rfl) (by decide) (opens_zo (enc := enc))).at g12
  refine ⟨hlen, ⟨a0, a1, a2, a3, a4, a5, a6, a7, a8, a9, a10, a11, a12⟩, ?_⟩
  match cs, hlen with
  | [x0, x1, x2, x3, x4, x5, x6, x7, x8, x9, x10, x11, x12], _ =>
    obtain rfl : x0 = _ := by simpa using k0
    obtain rfl : x1 = _ := by simpa using k1
    obtain rfl : x2 = _ := by simpa using k2
    obtain rfl : x3 = _ := by simpa using k3
    obtain rfl : x4 = _ := by simpa using k4
    obtain rfl : x5 = _ := by simpa using k5
    obtain rfl : x6 = _ := by simpa using k6
    obtain rfl : x7 = _ := by simpa using k7
    obtain rfl : x8 = _ := by simpa using k8
    obtain rfl : x9 = _ := by simpa using k9
    obtain rfl : x10 = _ := by simpa using k10
    obtain rfl : x11 = _ := by simpa using k11
    exact ⟨x12, rfl, by simpa using k12, ⟨bd64 w0, bd64 w1, bd64 w2, bd64 w3, bd64 w4, bd64 w5, bd64 w6, bd64 w7, bd64 w8, bd64 w9, bd64 w10, bd64 w11⟩⟩
set_option maxRecDepth 100000 in
theorem opened_cf (hv : Value.okWide Tryd.prog W .any base 25 v) (h : DataW.Trod enc Tryd.prog W 0 (fun _ => true) true 25 v d p) : ∃ c sv, v = .agg (cfCells c sv).toArray ∧ sliceR 3 zoR (allBlocks W) [sv] c.zs ∧ CfIn c := by
  obtain ⟨cs, rfl, hsz⟩ := okWide_struct Tryd.underlying25 hv
  obtain ⟨fuel, hf⟩ := h
  obtain ⟨c, sv, hq, h1, h2⟩ := opens_cf.at hf
  refine ⟨c, sv, ?_, h1, h2⟩
  have e : cs.toList = cfCells c sv := by simpa [Value.cells] using hq
  rw [← e]
set_option maxRecDepth 100000 in
theorem opened_intC (hv : Value.okWide Tryd.prog W .any base 3 v) (h : DataW.Trod enc Tryd.prog W 0 (fun _ => true) true 3 v d p) : ∃ n, v = .int .i64 n ∧ -9223372036854775808 ≤ n ∧ n ≤ 9223372036854775807 := by
  obtain ⟨n, rfl, _, _, hw⟩ := open_int Tryd.underlying3 hv h
  exact ⟨n, rfl, bd64 hw⟩
set_option maxRecDepth 100000 in
theorem opened_strC (hv : Value.okWide Tryd.prog W .any base 9 v) (h : DataW.Trod enc Tryd.prog W 0 (fun _ => true) true 9 v d p) : ∃ s : Nm.Bytes, v = .string (bs s) ∧ s.length ≤ maxLen := by
  obtain ⟨s, rfl, _, _, hw⟩ := open_string Tryd.underlying9 hv h
  exact ⟨s.data.toList, rfl, by simpa using hw⟩
end
end Go.Proofs.YtnhlpifbadncmaaDoor
