/-
  THE WALKS of hedge: advance, next.
-/
import Derived.Test.YtpamoacgajlkeaaHs
import Derived.Test.YtpamoacgajlkeaaHm
import Derived.Test.YtpamoacgajlkeaaTy
namespace Go.Proofs.Ytpamoacgajlkeaa
open Go.RowKit
open Hg (En Pl)
set_option linter.unusedVariables false
--store2
def ecells (x : En) : List Value := [.int .i64 x.up, .int .i64 x.asked, .int .i64 x.last, .bool x.op]
def eflat (l : List En) : List Value := l.flatMap ecells
theorem eflat_cons (x : En) (l : List En) : eflat (x :: l) = ecells x ++ eflat l := rfl
theorem eflat_length (l : List En) : (eflat l).length = l.length * 4 := by
  induction l with
  | nil => rfl
  | cons x r ih => rw [eflat_cons, List.length_append, ih]; simp [ecells]; omega
theorem eflat_at : ∀ (l : List En) (i j : Nat) (x : En), l[i]? = some x → j < 4 → (eflat l)[i * 4 + j]? = (ecells x)[j]?
  | [], i, j, x, h, _ => by simp at h
  | y :: r, 0, j, x, h, hj => by
    simp at h
    subst h
    rw [eflat_cons, List.getElem?_append_left (by simp [ecells]; omega)]
    simp
  | y :: r, i + 1, j, x, h, hj => by
    rw [eflat_cons, List.getElem?_append_right (by simp [ecells]; omega), ← eflat_at r i j x (by simpa using h) hj]
    congr 1
    simp [ecells]
    omega
theorem eflat_ask (now : Int) : ∀ (l : List En) (i : Nat) (x : En), l[i]? = some x → (((eflat l).set (i * 4 + 1) (.int .i64 1)).set (i * 4 + 2) (.int .i64 now)).set (i * 4 + 3) (.bool true) = eflat (l.modify i (Hg.askAt now))
  | [], i, x, h => by simp at h
  | y :: r, 0, x, h => by simp [eflat_cons, ecells, Hg.askAt]
  | y :: r, i + 1, x, h => by
    rw [List.modify_succ_cons, eflat_cons, eflat_cons, ← eflat_ask now r i x (by simpa using h)]
    rw [show (i + 1) * 4 + 1 = (i * 4 + 1) + 4 by omega, show (i + 1) * 4 + 2 = (i * 4 + 2) + 4 by omega, show (i + 1) * 4 + 3 = (i * 4 + 3) + 4 by omega]
    simp [ecells]
def pcells (p : Pl) (v : Value) : Array Value := #[v, .int .i64 (p.asked : Nat), .int .i64 p.want, .int .i64 p.tries, .int .i64 p.every, .int .i64 p.wait, .int .i64 p.start, .int .i64 p.now, .int .i64 p.reached, .bool p.made, .bool p.begins]
theorem take_set (cur : Array Value) (k m : Nat) (v : Value) : (cur.setIfInBounds k v).toList.take m = (cur.toList.take m).set k v := by
  rw [Array.toList_setIfInBounds, List.take_set]
variable {G : World} {L : Blocks}
set_option maxRecDepth 100000 in
theorem advance_S (bp : Nat) (p : Pl) (v : Value) (now : Int) : Spec Try.prog G 22 #[.pointer (some ⟨bp, 0, none⟩), .int .i64 now] ((bp, .cells (pcells p v) 58 (0, 0)) :: L) fun u M => M = (bp, .cells (pcells (Hg.advance p now) v) 58 (0, 0)) :: L := by
  unfold pcells Hg.advance Hg.top
  refine Spec_of (n := 14) Try.func22 rfl rfl rfl ?_
  repeat (first | with_reducible refine T_seq ?_ | with_reducible refine T_block ?_ | with_reducible refine T_region ?_ | with_reducible refine TL_nil ?_ | with_reducible refine TQ_then ?_ | with_reducible refine TQ_block ?_ | with_reducible refine T_skip ?_ | with_reducible refine T_label ?_ | with_reducible refine T_exit ?_ | with_reducible refine T_ret ?_ | with_reducible refine TQ_then_exit ?_ | with_reducible refine TQ_then_ret ?_ | with_reducible refine TQ_then_goto ?_ | with_reducible refine TQ_block_exit ?_ | with_reducible refine TQ_block_ret ?_ | with_reducible refine TQ_block_goto ?_ | with_reducible refine TQ_fall ?_ | (refine TQ_block_past ?_ ?_; (· decide)) | refine TL_q (op_move rfl) rfl ?_ | refine TL_q (op_assign rfl) rfl ?_ | refine TL_q (op_nilCheck rfl) rfl ?_ | refine TL_q (op_min rfl rfl) rfl ?_ | refine TL_q (op_max rfl rfl) rfl ?_ | refine TL_q (op_fld rfl fld_58_7) rfl ?_ | (refine' TL_q (op_ld rfl pl_2 ?_ ?_) rfl ?_; rotate_left 4; (· repeat (first | assumption | exact List.mem_cons_self | apply List.mem_cons_of_mem)); (· first | assumption | rfl)) | (refine' TL_st rfl rfl one_2 rfl ?_ rfl ?_; rotate_left 1; (· first | assumption | rfl)) | (refine' TL_st2 rfl rfl one_2 rfl ?_ rfl ?_; rotate_left 1; (· first | assumption | rfl)) | (refine T_yes rfl ?_ ?_; (· first | with_reducible rfl | assumption | exact Bool.not_false | exact Bool.not_true)) | (refine T_no rfl ?_ ?_; (· first | with_reducible rfl | assumption | exact Bool.not_false | exact Bool.not_true)))
  refine TQ_ret0 rfl ?_
  rfl
set_option maxRecDepth 100000 in
theorem next_S (bp : Nat) (p : Pl) (v : Value) (B : Blocks) (hR : Row 62 4 v p.list.length (eflat p.list) B) (ha : p.asked < p.list.length) (hl : p.list.length ≤ 9) :
    Spec Try.prog G 23 #[.pointer (some ⟨bp, 0, none⟩)] ((bp, .cells (pcells p v) 58 (0, 0)) :: (B ++ L)) fun u M => u = .int .i64 (Hg.upAt p p.asked) ∧ ∃ B', Row 62 4 v (Hg.next p).list.length (eflat (Hg.next p).list) B' ∧ M = (bp, .cells (pcells (Hg.next p) v) 58 (0, 0)) :: (B' ++ L) := by
  rcases hR.is with ⟨_, h, _⟩ | ⟨be, cap, cur, rfl, rfl, h3, h4, h5, h6⟩
  · omega
  obtain ⟨x, hx⟩ : ∃ x, p.list[p.asked]? = some x := ⟨_, List.getElem?_eq_getElem ha⟩
  have hat : ∀ j u, j < 4 → (ecells x)[j]? = some u → cur[0 + p.asked * 4 + j]? = some u := fun j u hj hu => by
    have := eflat_at p.list p.asked j x hx hj
    rw [← h6, List.getElem?_take_of_lt (by omega), hu] at this
    rw [Nat.zero_add]
    simpa using this
  have n0 : cur[0 + p.asked * 4 + 0]? = some (.int .i64 x.up) := hat 0 _ (by omega) rfl
  have n1 : cur[0 + p.asked * 4 + 1]? = some (.int .i64 x.asked) := hat 1 _ (by omega) rfl
  have n2 : cur[0 + p.asked * 4 + 2]? = some (.int .i64 x.last) := hat 2 _ (by omega) rfl
  have n3 : cur[0 + p.asked * 4 + 3]? = some (.bool x.op) := hat 3 _ (by omega) rfl
  have m2 : (cur.setIfInBounds (0 + p.asked * 4 + 1) (.int .i64 1))[0 + p.asked * 4 + 2]? = some (.int .i64 x.last) := by rw [Array.getElem?_setIfInBounds_ne (by omega)]; exact n2
  have m3 : ((cur.setIfInBounds (0 + p.asked * 4 + 1) (.int .i64 1)).setIfInBounds (0 + p.asked * 4 + 2) (.int .i64 p.now))[0 + p.asked * 4 + 3]? = some (.bool x.op) := by rw [Array.getElem?_setIfInBounds_ne (by omega), Array.getElem?_setIfInBounds_ne (by omega)]; exact n3
  have m0 : (((cur.setIfInBounds (0 + p.asked * 4 + 1) (.int .i64 1)).setIfInBounds (0 + p.asked * 4 + 2) (.int .i64 p.now)).setIfInBounds (0 + p.asked * 4 + 3) (.bool true))[0 + p.asked * 4 + 0]? = some (.int .i64 x.up) := by rw [Array.getElem?_setIfInBounds_ne (by omega), Array.getElem?_setIfInBounds_ne (by omega), Array.getElem?_setIfInBounds_ne (by omega)]; exact n0
  unfold pcells
  refine Spec_of (n := 37) Try.func23 rfl rfl rfl ?_
  have hK : ∀ q ∈ [(bp, Obj.cells #[.slice (some ⟨be, 0, none⟩) p.list.length cap, .int .i64 (p.asked : Nat), .int .i64 p.want, .int .i64 p.tries, .int .i64 p.every, .int .i64 p.wait, .int .i64 p.start, .int .i64 p.now, .int .i64 p.reached, .bool p.made, .bool p.begins] 58 (0, 0))], q ∈ (bp, Obj.cells #[.slice (some ⟨be, 0, none⟩) p.list.length cap, .int .i64 (p.asked : Nat), .int .i64 p.want, .int .i64 p.tries, .int .i64 p.every, .int .i64 p.wait, .int .i64 p.start, .int .i64 p.now, .int .i64 p.reached, .bool p.made, .bool p.begins] 58 (0, 0)) :: ([(be, Obj.cells cur 62 (0, 0))] ++ L) := fun q hq => by
    rw [List.mem_singleton.1 hq]; exact List.mem_cons_self ..
  repeat (first | with_reducible refine T_seq ?_ | with_reducible refine T_block ?_ | with_reducible refine T_region ?_ | with_reducible refine TL_nil ?_ | with_reducible refine TQ_then ?_ | with_reducible refine TQ_block ?_ | with_reducible refine T_skip ?_ | with_reducible refine T_label ?_ | with_reducible refine T_exit ?_ | with_reducible refine T_ret ?_ | with_reducible refine TQ_then_exit ?_ | with_reducible refine TQ_then_ret ?_ | with_reducible refine TQ_then_goto ?_ | with_reducible refine TQ_block_exit ?_ | with_reducible refine TQ_block_ret ?_ | with_reducible refine TQ_block_goto ?_ | with_reducible refine TQ_fall ?_ | (refine TQ_block_past ?_ ?_; (· decide)) | refine TL_q (op_move rfl) rfl ?_ | refine TL_q (op_assign rfl) rfl ?_ | (refine' TL_q (op_bin rfl rfl ?_) rfl ?_; rotate_left 1; (· first | exact bin_add ⟨by omega, by omega⟩ | exact sbin_add (by omega))) | refine TL_q (op_nilCheck rfl) rfl ?_ | (refine' TL_q (op_idx ety_56 rfl rfl ?_) rfl ?_; (· omega)) | (refine' TL_q (op_idxI ety_56 rfl rfl ?_ ?_) rfl ?_; (· omega); (· omega)) | refine TL_q (op_fld rfl fld_58_0) rfl ?_ | refine TL_q (op_fld rfl fld_58_1) rfl ?_ | refine TL_q (op_fld rfl fld_58_7) rfl ?_ | refine TL_q (op_fld rfl fld_62_0) rfl ?_ | refine TL_q (op_fld rfl fld_62_1) rfl ?_ | refine TL_q (op_fld rfl fld_62_2) rfl ?_ | refine TL_q (op_fld rfl fld_62_3) rfl ?_ | (refine' TL_q (op_ld rfl pl_2 ?_ ?_) rfl ?_; rotate_left 4; (· repeat (first | assumption | exact List.mem_cons_self | apply List.mem_cons_of_mem)); (· first | assumption | rfl)) | (refine' TL_q (op_ld rfl pl_3 ?_ ?_) rfl ?_; rotate_left 4; (· repeat (first | assumption | exact List.mem_cons_self | apply List.mem_cons_of_mem)); (· first | assumption | rfl)) | (refine' TL_q (op_ld rfl pl_56 ?_ ?_) rfl ?_; rotate_left 4; (· repeat (first | assumption | exact List.mem_cons_self | apply List.mem_cons_of_mem)); (· first | assumption | rfl)) | (refine' TL_st rfl rfl one_2 rfl ?_ rfl ?_; rotate_left 1; (· first | assumption | rfl)) | (refine' TL_st rfl rfl one_3 rfl ?_ rfl ?_; rotate_left 1; (· first | assumption | rfl)) | (refine' TL_st rfl rfl one_4 rfl ?_ rfl ?_; rotate_left 1; (· first | assumption | rfl)) | (refine' TL_st2 rfl rfl one_2 rfl ?_ rfl ?_; rotate_left 1; (· first | assumption | rfl)) | (refine' TL_st2 rfl rfl one_3 rfl ?_ rfl ?_; rotate_left 1; (· first | assumption | rfl)) | (refine' TL_st2 rfl rfl one_4 rfl ?_ rfl ?_; rotate_left 1; (· first | assumption | rfl)) | (refine T_yes rfl ?_ ?_; (· first | with_reducible rfl | assumption | exact Bool.not_false | exact Bool.not_true)) | (refine T_no rfl ?_ ?_; (· first | with_reducible rfl | assumption | exact Bool.not_false | exact Bool.not_true)))
  refine T_draw follows_mixed ([(bp, Obj.cells #[.slice (some ⟨be, 0, none⟩) p.list.length cap, .int .i64 (p.asked : Nat), .int .i64 p.want, .int .i64 p.tries, .int .i64 p.every, .int .i64 p.wait, .int .i64 p.start, .int .i64 p.now, .int .i64 p.reached, .bool p.made, .bool p.begins] 58 (0, 0))]) [] ?_
  first | (refine' TA_take 0 rfl rfl (by kernel_rfl) (quiet_q (op_move rfl)) ?_ ?_; (· first | assumption | (intro p hp; grind)))
  first | (refine' TA_take 1 rfl rfl (by kernel_rfl) (quiet_q (op_nilCheck rfl)) ?_ ?_; (· first | assumption | (intro p hp; grind)))
  first | (refine' TA_take 2 rfl rfl (by kernel_rfl) (quiet_q (op_fld rfl fld_58_0)) ?_ ?_; (· first | assumption | (intro p hp; grind)))
  first | (refine' TA_take 3 rfl rfl (by kernel_rfl) (quiet_q (op_ld rfl pl_56 ?_ ?_)) ?_ ?_; rotate_left 4; (· repeat (first | assumption | exact List.mem_cons_self | apply List.mem_cons_of_mem)); (· first | assumption | rfl); (· first | assumption | (intro p hp; grind)))
  first | (refine' TA_take 4 rfl rfl (by kernel_rfl) (quiet_q (op_move rfl)) ?_ ?_; (· first | assumption | (intro p hp; grind)))
  first | (refine' TA_take 5 rfl rfl (by kernel_rfl) (quiet_q (op_nilCheck rfl)) ?_ ?_; (· first | assumption | (intro p hp; grind)))
  first | (refine' TA_take 6 rfl rfl (by kernel_rfl) (quiet_q (op_fld rfl fld_58_1)) ?_ ?_; (· first | assumption | (intro p hp; grind)))
  first | (refine' TA_take 7 rfl rfl (by kernel_rfl) (quiet_q (op_ld rfl pl_3 ?_ ?_)) ?_ ?_; rotate_left 4; (· repeat (first | assumption | exact List.mem_cons_self | apply List.mem_cons_of_mem)); (· first | assumption | rfl); (· first | assumption | (intro p hp; grind)))
  first | (refine' TA_take 8 rfl rfl (by kernel_rfl) (quiet_q (op_idx ety_56 rfl rfl ?_)) ?_ ?_; (· omega); (· first | assumption | (intro p hp; grind))) | (refine' TA_take 8 rfl rfl (by kernel_rfl) (quiet_q (op_idxI ety_56 rfl rfl ?_ ?_)) ?_ ?_; (· omega); (· omega); (· first | assumption | (intro p hp; grind)))
  first | (refine' TA_take 9 rfl rfl (by kernel_rfl) (quiet_q (op_assign rfl)) ?_ ?_; (· first | assumption | (intro p hp; grind)))
  refine TA_done (by kernel_rfl) ?_
  repeat (first | with_reducible refine T_seq ?_ | with_reducible refine T_block ?_ | with_reducible refine T_region ?_ | with_reducible refine TL_nil ?_ | with_reducible refine TQ_then ?_ | with_reducible refine TQ_block ?_ | with_reducible refine T_skip ?_ | with_reducible refine T_label ?_ | with_reducible refine T_exit ?_ | with_reducible refine T_ret ?_ | with_reducible refine TQ_then_exit ?_ | with_reducible refine TQ_then_ret ?_ | with_reducible refine TQ_then_goto ?_ | with_reducible refine TQ_block_exit ?_ | with_reducible refine TQ_block_ret ?_ | with_reducible refine TQ_block_goto ?_ | with_reducible refine TQ_fall ?_ | (refine TQ_block_past ?_ ?_; (· decide)) | refine TL_q (op_move rfl) rfl ?_ | refine TL_q (op_assign rfl) rfl ?_ | (refine' TL_q (op_bin rfl rfl ?_) rfl ?_; rotate_left 1; (· first | exact bin_add ⟨by omega, by omega⟩ | exact sbin_add (by omega))) | refine TL_q (op_nilCheck rfl) rfl ?_ | (refine' TL_q (op_idx ety_56 rfl rfl ?_) rfl ?_; (· omega)) | (refine' TL_q (op_idxI ety_56 rfl rfl ?_ ?_) rfl ?_; (· omega); (· omega)) | refine TL_q (op_fld rfl fld_58_0) rfl ?_ | refine TL_q (op_fld rfl fld_58_1) rfl ?_ | refine TL_q (op_fld rfl fld_58_7) rfl ?_ | refine TL_q (op_fld rfl fld_62_0) rfl ?_ | refine TL_q (op_fld rfl fld_62_1) rfl ?_ | refine TL_q (op_fld rfl fld_62_2) rfl ?_ | refine TL_q (op_fld rfl fld_62_3) rfl ?_ | (refine' TL_q (op_ld rfl pl_2 ?_ ?_) rfl ?_; rotate_left 4; (· repeat (first | assumption | exact List.mem_cons_self | apply List.mem_cons_of_mem)); (· first | assumption | rfl)) | (refine' TL_q (op_ld rfl pl_3 ?_ ?_) rfl ?_; rotate_left 4; (· repeat (first | assumption | exact List.mem_cons_self | apply List.mem_cons_of_mem)); (· first | assumption | rfl)) | (refine' TL_q (op_ld rfl pl_56 ?_ ?_) rfl ?_; rotate_left 4; (· repeat (first | assumption | exact List.mem_cons_self | apply List.mem_cons_of_mem)); (· first | assumption | rfl)) | (refine' TL_st rfl rfl one_2 rfl ?_ rfl ?_; rotate_left 1; (· first | assumption | rfl)) | (refine' TL_st rfl rfl one_3 rfl ?_ rfl ?_; rotate_left 1; (· first | assumption | rfl)) | (refine' TL_st rfl rfl one_4 rfl ?_ rfl ?_; rotate_left 1; (· first | assumption | rfl)) | (refine' TL_st2 rfl rfl one_2 rfl ?_ rfl ?_; rotate_left 1; (· first | assumption | rfl)) | (refine' TL_st2 rfl rfl one_3 rfl ?_ rfl ?_; rotate_left 1; (· first | assumption | rfl)) | (refine' TL_st2 rfl rfl one_4 rfl ?_ rfl ?_; rotate_left 1; (· first | assumption | rfl)) | (refine T_yes rfl ?_ ?_; (· first | with_reducible rfl | assumption | exact Bool.not_false | exact Bool.not_true)) | (refine T_no rfl ?_ ?_; (· first | with_reducible rfl | assumption | exact Bool.not_false | exact Bool.not_true)))
  refine TQ_ret1 2 _ rfl rfl ?_
  refine ⟨by simp [Hg.upAt, hx], [(be, Obj.cells (((cur.setIfInBounds (0 + p.asked * 4 + 1) (.int .i64 1)).setIfInBounds (0 + p.asked * 4 + 2) (.int .i64 p.now)).setIfInBounds (0 + p.asked * 4 + 3) (.bool true)) 62 (0, 0))], ⟨eflat_length _, Or.inr ⟨be, cap, _, by simp [Hg.next], rfl, by simpa [Hg.next] using h3, h4, by simpa using h5, ?_⟩⟩, rfl⟩
  simp only [Hg.next, List.length_modify]
  rw [take_set, take_set, take_set, h6, Nat.zero_add]
  exact eflat_ask p.now p.list p.asked x hx
end Go.Proofs.Ytpamoacgajlkeaa
