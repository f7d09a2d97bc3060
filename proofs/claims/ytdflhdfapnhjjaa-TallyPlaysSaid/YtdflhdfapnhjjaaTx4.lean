/-
  Part 4: Gf Gg Fs Gh Ve.
-/
import Derived.Test.YtdflhdfapnhjjaaTx3
import Derived.Test.YtdflhdfapnhjjaaTx2
namespace Go.Proofs.Ytdflhdfapnhjjaa
open Go.RowKit
open Vd (RSet Vdt Vote Rec Quest Piece)
set_option linter.unusedVariables false
set_option linter.unusedSimpArgs false
--auto
variable {G : World} {L : Blocks}
theorem rs_none {K : Blocks} : rsR K [.string (bs []), .int .u16 0, .int .u16 0, .int .u32 0, .slice none 0 0] RSet.none := ⟨_, rfl, sliceR.nil, by simp [RSet.none, maxLen], by simp [RSet.none], by simp [RSet.none], by simp [RSet.none]⟩
theorem find_step {α : Type} {p : α → Bool} {l : List α} {k : Nat} {x : α} (hx : l[k]? = some x) (h : (l.drop k).find? p = l.find? p) : (p x = true → l.find? p = some x) ∧ (p x = false → (l.drop (k + 1)).find? p = l.find? p) := by
  obtain ⟨hlt, he⟩ := List.getElem?_eq_some_iff.1 hx
  rw [List.drop_eq_getElem_cons hlt, he] at h
  refine ⟨fun hp => ?_, fun hp => ?_⟩
  · rw [← h, List.find?_cons_of_pos hp]
  · rw [← h, List.find?_cons_of_neg (by simp [hp])]
set_option maxRecDepth 100000 in
set_option maxHeartbeats 2000000 in
theorem rFind_S {K N : Blocks} (v : Value) (l : List RSet) (n : Vd.Bytes) (k c : Int) (hK : ∀ p ∈ K, p ∈ L) (hl : sliceR 5 (fun _ => rsR N) K [v] l) (hn : n.length ≤ 1000000) (hs : ∀ s ∈ l, s.name.length ≤ 1000000) :
    Spec Try.prog G 96 #[v, .string (bs n), .int .u16 k, .int .u16 c] L fun u M => ∃ cs, u = .tuple #[.agg cs.toArray, .bool (Vd.findS l n k c).2] ∧ rsR N cs (Vd.findS l n k c).1 ∧ M = L := by
  obtain ⟨a, ca, e1, hl⟩ := hl.val
  simp only [List.cons.injEq, and_true] at e1
  subst e1
  obtain ⟨_, k1, k2, hl⟩ := sliceR.cut hl
  unfold maxLen at k2
  obtain ⟨p, hp⟩ : ∃ p : RSet → Bool, p = fun s => Nm.same s.name n && s.kind == k && s.cls == c := ⟨_, rfl⟩
  have hF : Vd.findS l n k c = match l.find? p with | some s => (s, true) | none => (RSet.none, false) := by rw [hp]; rfl
  refine Spec_of (n := 47) Try.func96 rfl rfl rfl ?_
  repeat (first | with_reducible refine T_seq ?_ | with_reducible refine T_block ?_ | with_reducible refine T_region ?_ | with_reducible refine TL_nil ?_ | with_reducible refine TQ_then ?_ | with_reducible refine TQ_block ?_ | with_reducible refine T_skip ?_ | with_reducible refine T_label ?_ | with_reducible refine T_exit ?_ | with_reducible refine T_ret ?_ | with_reducible refine TQ_then_exit ?_ | with_reducible refine TQ_then_ret ?_ | with_reducible refine TQ_then_goto ?_ | with_reducible refine TQ_block_exit ?_ | with_reducible refine TQ_block_ret ?_ | with_reducible refine TQ_block_goto ?_ | with_reducible refine TQ_fall ?_ | (refine TQ_block_past ?_ ?_; (· decide)) | refine TL_q (op_move rfl) rfl ?_ | refine TL_q (op_assign rfl) rfl ?_ | (refine' TL_q (op_bin rfl rfl ?_) rfl ?_; rotate_left 1; (· first | exact bin_add ⟨by omega, by omega⟩ | exact bin_eql | exact bin_lss | exact sbin_eql | exact sbin_lss | exact sbin_add (by first | omega | (simp only [List.length_cons, List.length_nil]; omega)))) | (refine' TL_q (op_pickT rfl ?_ rfl) rfl ?_; (· first | with_reducible rfl | assumption | exact Bool.not_false | exact Bool.not_true | exact dT (by first | assumption | with_reducible rfl | omega) | exact dF (by first | assumption | with_reducible rfl | omega) | exact eT (by first | assumption | with_reducible rfl | omega) | exact eF (by first | assumption | with_reducible rfl | omega) | exact nT (by first | assumption | with_reducible rfl | omega) | exact nF (by first | assumption | with_reducible rfl | omega) | exact xT (by first | assumption | exact dT (by first | assumption | with_reducible rfl | omega) | exact dF (by first | assumption | with_reducible rfl | omega) | exact eT (by first | assumption | with_reducible rfl | omega) | exact eF (by first | assumption | with_reducible rfl | omega) | exact nT (by first | assumption | with_reducible rfl | omega) | exact nF (by first | assumption | with_reducible rfl | omega)) | exact xF (by first | assumption | exact dT (by first | assumption | with_reducible rfl | omega) | exact dF (by first | assumption | with_reducible rfl | omega) | exact eT (by first | assumption | with_reducible rfl | omega) | exact eF (by first | assumption | with_reducible rfl | omega) | exact nT (by first | assumption | with_reducible rfl | omega) | exact nF (by first | assumption | with_reducible rfl | omega)))) | (refine' TL_q (op_pickF rfl ?_ rfl) rfl ?_; (· first | with_reducible rfl | assumption | exact Bool.not_false | exact Bool.not_true | exact dT (by first | assumption | with_reducible rfl | omega) | exact dF (by first | assumption | with_reducible rfl | omega) | exact eT (by first | assumption | with_reducible rfl | omega) | exact eF (by first | assumption | with_reducible rfl | omega) | exact nT (by first | assumption | with_reducible rfl | omega) | exact nF (by first | assumption | with_reducible rfl | omega) | exact xT (by first | assumption | exact dT (by first | assumption | with_reducible rfl | omega) | exact dF (by first | assumption | with_reducible rfl | omega) | exact eT (by first | assumption | with_reducible rfl | omega) | exact eF (by first | assumption | with_reducible rfl | omega) | exact nT (by first | assumption | with_reducible rfl | omega) | exact nF (by first | assumption | with_reducible rfl | omega)) | exact xF (by first | assumption | exact dT (by first | assumption | with_reducible rfl | omega) | exact dF (by first | assumption | with_reducible rfl | omega) | exact eT (by first | assumption | with_reducible rfl | omega) | exact eF (by first | assumption | with_reducible rfl | omega) | exact nT (by first | assumption | with_reducible rfl | omega) | exact nF (by first | assumption | with_reducible rfl | omega)))) | refine TL_q (op_len_slice rfl Try.underlying40) rfl ?_ | (refine' TL_q (op_idx ety_40 rfl rfl ?_) rfl ?_; (· omega)) | (refine' TL_q (op_idxI ety_40 rfl rfl ?_ ?_) rfl ?_; (· omega); (· omega)) | refine TL_q (op_fld rfl fld_60_0) rfl ?_ | refine TL_q (op_fld rfl fld_60_1) rfl ?_ | refine TL_q (op_fld rfl fld_60_2) rfl ?_ | (refine' TL_q (op_ld rfl pl_9 ?_ ?_) rfl ?_; rotate_left 4; (· repeat (first | assumption | exact List.mem_cons_self | (apply List.mem_append_left; first | assumption | exact List.mem_cons_self) | apply List.mem_cons_of_mem | apply List.mem_append_right)); (· first | assumption | rfl)) | (refine' TL_q (op_ld rfl pl_23 ?_ ?_) rfl ?_; rotate_left 4; (· repeat (first | assumption | exact List.mem_cons_self | (apply List.mem_append_left; first | assumption | exact List.mem_cons_self) | apply List.mem_cons_of_mem | apply List.mem_append_right)); (· first | assumption | rfl)) | (refine' TL_q (op_ldAll rfl st_60 ?_ ?_) rfl ?_; rotate_left 3; (· repeat (first | assumption | exact List.mem_cons_self | (apply List.mem_append_left; first | assumption | exact List.mem_cons_self) | apply List.mem_cons_of_mem | apply List.mem_append_right)); (· first | assumption | rfl)) | (refine TL_gpre rfl rfl ?_ ?_; (· first | with_reducible rfl | assumption | exact Bool.not_false | exact Bool.not_true | exact dT (by first | assumption | with_reducible rfl | omega) | exact dF (by first | assumption | with_reducible rfl | omega) | exact eT (by first | assumption | with_reducible rfl | omega) | exact eF (by first | assumption | with_reducible rfl | omega) | exact nT (by first | assumption | with_reducible rfl | omega) | exact nF (by first | assumption | with_reducible rfl | omega) | exact xT (by first | assumption | exact dT (by first | assumption | with_reducible rfl | omega) | exact dF (by first | assumption | with_reducible rfl | omega) | exact eT (by first | assumption | with_reducible rfl | omega) | exact eF (by first | assumption | with_reducible rfl | omega) | exact nT (by first | assumption | with_reducible rfl | omega) | exact nF (by first | assumption | with_reducible rfl | omega)) | exact xF (by first | assumption | exact dT (by first | assumption | with_reducible rfl | omega) | exact dF (by first | assumption | with_reducible rfl | omega) | exact eT (by first | assumption | with_reducible rfl | omega) | exact eF (by first | assumption | with_reducible rfl | omega) | exact nT (by first | assumption | with_reducible rfl | omega) | exact nF (by first | assumption | with_reducible rfl | omega)))) | refine TL_gq2 (op_move rfl) rfl ?_ | refine TL_gq2 (op_assign rfl) rfl ?_ | (refine' TL_gq2 (op_bin rfl rfl ?_) rfl ?_; rotate_left 1; (· first | exact bin_add ⟨by omega, by omega⟩ | exact bin_eql | exact bin_lss | exact sbin_eql | exact sbin_lss | exact sbin_add (by first | omega | (simp only [List.length_cons, List.length_nil]; omega)))) | (refine' TL_gq2 (op_pickT rfl ?_ rfl) rfl ?_; (· first | with_reducible rfl | assumption | exact Bool.not_false | exact Bool.not_true | exact dT (by first | assumption | with_reducible rfl | omega) | exact dF (by first | assumption | with_reducible rfl | omega) | exact eT (by first | assumption | with_reducible rfl | omega) | exact eF (by first | assumption | with_reducible rfl | omega) | exact nT (by first | assumption | with_reducible rfl | omega) | exact nF (by first | assumption | with_reducible rfl | omega) | exact xT (by first | assumption | exact dT (by first | assumption | with_reducible rfl | omega) | exact dF (by first | assumption | with_reducible rfl | omega) | exact eT (by first | assumption | with_reducible rfl | omega) | exact eF (by first | assumption | with_reducible rfl | omega) | exact nT (by first | assumption | with_reducible rfl | omega) | exact nF (by first | assumption | with_reducible rfl | omega)) | exact xF (by first | assumption | exact dT (by first | assumption | with_reducible rfl | omega) | exact dF (by first | assumption | with_reducible rfl | omega) | exact eT (by first | assumption | with_reducible rfl | omega) | exact eF (by first | assumption | with_reducible rfl | omega) | exact nT (by first | assumption | with_reducible rfl | omega) | exact nF (by first | assumption | with_reducible rfl | omega)))) | (refine' TL_gq2 (op_pickF rfl ?_ rfl) rfl ?_; (· first | with_reducible rfl | assumption | exact Bool.not_false | exact Bool.not_true | exact dT (by first | assumption | with_reducible rfl | omega) | exact dF (by first | assumption | with_reducible rfl | omega) | exact eT (by first | assumption | with_reducible rfl | omega) | exact eF (by first | assumption | with_reducible rfl | omega) | exact nT (by first | assumption | with_reducible rfl | omega) | exact nF (by first | assumption | with_reducible rfl | omega) | exact xT (by first | assumption | exact dT (by first | assumption | with_reducible rfl | omega) | exact dF (by first | assumption | with_reducible rfl | omega) | exact eT (by first | assumption | with_reducible rfl | omega) | exact eF (by first | assumption | with_reducible rfl | omega) | exact nT (by first | assumption | with_reducible rfl | omega) | exact nF (by first | assumption | with_reducible rfl | omega)) | exact xF (by first | assumption | exact dT (by first | assumption | with_reducible rfl | omega) | exact dF (by first | assumption | with_reducible rfl | omega) | exact eT (by first | assumption | with_reducible rfl | omega) | exact eF (by first | assumption | with_reducible rfl | omega) | exact nT (by first | assumption | with_reducible rfl | omega) | exact nF (by first | assumption | with_reducible rfl | omega)))) | refine TL_gq2 (op_len_slice rfl Try.underlying40) rfl ?_ | (refine' TL_gq2 (op_idx ety_40 rfl rfl ?_) rfl ?_; (· omega)) | (refine' TL_gq2 (op_idxI ety_40 rfl rfl ?_ ?_) rfl ?_; (· omega); (· omega)) | refine TL_gq2 (op_fld rfl fld_60_0) rfl ?_ | refine TL_gq2 (op_fld rfl fld_60_1) rfl ?_ | refine TL_gq2 (op_fld rfl fld_60_2) rfl ?_ | (refine' TL_gq2 (op_ld rfl pl_9 ?_ ?_) rfl ?_; rotate_left 4; (· repeat (first | assumption | exact List.mem_cons_self | (apply List.mem_append_left; first | assumption | exact List.mem_cons_self) | apply List.mem_cons_of_mem | apply List.mem_append_right)); (· first | assumption | rfl)) | (refine' TL_gq2 (op_ld rfl pl_23 ?_ ?_) rfl ?_; rotate_left 4; (· repeat (first | assumption | exact List.mem_cons_self | (apply List.mem_append_left; first | assumption | exact List.mem_cons_self) | apply List.mem_cons_of_mem | apply List.mem_append_right)); (· first | assumption | rfl)) | (refine' TL_gq2 (op_ldAll rfl st_60 ?_ ?_) rfl ?_; rotate_left 3; (· repeat (first | assumption | exact List.mem_cons_self | (apply List.mem_append_left; first | assumption | exact List.mem_cons_self) | apply List.mem_cons_of_mem | apply List.mem_append_right)); (· first | assumption | rfl)) | (refine TL_gno rfl rfl ?_ rfl ?_; (· first | with_reducible rfl | assumption | exact Bool.not_false | exact Bool.not_true | exact dT (by first | assumption | with_reducible rfl | omega) | exact dF (by first | assumption | with_reducible rfl | omega) | exact eT (by first | assumption | with_reducible rfl | omega) | exact eF (by first | assumption | with_reducible rfl | omega) | exact nT (by first | assumption | with_reducible rfl | omega) | exact nF (by first | assumption | with_reducible rfl | omega) | exact xT (by first | assumption | exact dT (by first | assumption | with_reducible rfl | omega) | exact dF (by first | assumption | with_reducible rfl | omega) | exact eT (by first | assumption | with_reducible rfl | omega) | exact eF (by first | assumption | with_reducible rfl | omega) | exact nT (by first | assumption | with_reducible rfl | omega) | exact nF (by first | assumption | with_reducible rfl | omega)) | exact xF (by first | assumption | exact dT (by first | assumption | with_reducible rfl | omega) | exact dF (by first | assumption | with_reducible rfl | omega) | exact eT (by first | assumption | with_reducible rfl | omega) | exact eF (by first | assumption | with_reducible rfl | omega) | exact nT (by first | assumption | with_reducible rfl | omega) | exact nF (by first | assumption | with_reducible rfl | omega)))) | refine TL_gundef rfl rfl rfl ?_ | (refine TL_stAll rfl rfl st_60 rfl rfl rfl ?_) | (refine TL_new (op_alloc (C := #[(.string (bs [])), (.int .u16 0), (.int .u16 0), (.int .u32 0), (.slice none 0 0)]) zero_60 rfl) rfl ?_; intro bNew) | refine TL_q (op_build rfl (bl_60_ )) rfl ?_ | refine TL_gq2 (op_build rfl (bl_60_ )) rfl ?_ | (refine T_yes rfl ?_ ?_; (· first | with_reducible rfl | assumption | exact Bool.not_false | exact Bool.not_true | exact dT (by first | assumption | with_reducible rfl | omega) | exact dF (by first | assumption | with_reducible rfl | omega) | exact eT (by first | assumption | with_reducible rfl | omega) | exact eF (by first | assumption | with_reducible rfl | omega) | exact nT (by first | assumption | with_reducible rfl | omega) | exact nF (by first | assumption | with_reducible rfl | omega) | exact xT (by first | assumption | exact dT (by first | assumption | with_reducible rfl | omega) | exact dF (by first | assumption | with_reducible rfl | omega) | exact eT (by first | assumption | with_reducible rfl | omega) | exact eF (by first | assumption | with_reducible rfl | omega) | exact nT (by first | assumption | with_reducible rfl | omega) | exact nF (by first | assumption | with_reducible rfl | omega)) | exact xF (by first | assumption | exact dT (by first | assumption | with_reducible rfl | omega) | exact dF (by first | assumption | with_reducible rfl | omega) | exact eT (by first | assumption | with_reducible rfl | omega) | exact eF (by first | assumption | with_reducible rfl | omega) | exact nT (by first | assumption | with_reducible rfl | omega) | exact nF (by first | assumption | with_reducible rfl | omega)))) | (refine T_no rfl ?_ ?_; (· first | with_reducible rfl | assumption | exact Bool.not_false | exact Bool.not_true | exact dT (by first | assumption | with_reducible rfl | omega) | exact dF (by first | assumption | with_reducible rfl | omega) | exact eT (by first | assumption | with_reducible rfl | omega) | exact eF (by first | assumption | with_reducible rfl | omega) | exact nT (by first | assumption | with_reducible rfl | omega) | exact nF (by first | assumption | with_reducible rfl | omega) | exact xT (by first | assumption | exact dT (by first | assumption | with_reducible rfl | omega) | exact dF (by first | assumption | with_reducible rfl | omega) | exact eT (by first | assumption | with_reducible rfl | omega) | exact eF (by first | assumption | with_reducible rfl | omega) | exact nT (by first | assumption | with_reducible rfl | omega) | exact nF (by first | assumption | with_reducible rfl | omega)) | exact xF (by first | assumption | exact dT (by first | assumption | with_reducible rfl | omega) | exact dF (by first | assumption | with_reducible rfl | omega) | exact eT (by first | assumption | with_reducible rfl | omega) | exact eF (by first | assumption | with_reducible rfl | omega) | exact nT (by first | assumption | with_reducible rfl | omega) | exact nF (by first | assumption | with_reducible rfl | omega)))))
  refine T_loopS (σ := Nat) (fun i => i ≤ l.length ∧ (l.drop i).find? p = l.find? p) (fun i => [(0, .slice a l.length ca), (1, .string (bs n)), (2, .int .u16 k), (3, .int .u16 c), (8, .pointer (some ⟨bNew, 0, none⟩)), (10, .int .i64 (i : Nat))]) (fun i => (bNew, Obj.cells #[.string (bs []), .int .u16 0, .int .u16 0, .int .u32 0, .slice none 0 0] 60 (0, 0)) :: L) (fun i => l.length - i) 0 ⟨Nat.zero_le _, by simp⟩ ?_ (fun w h => h) ?_
  (repeat ((first | exact trivial | refine ⟨rfl, ?_⟩)))
  rintro i ⟨hi, heq⟩
  by_cases hlt : i < l.length
  · rcases hl with rfl | ⟨b1, o1, C1, t1, f1, rfl, m1, q1⟩
    · simp at hlt
    have m1 := hK _ m1
    obtain ⟨x, hx⟩ : ∃ x, l[i]? = some x := ⟨_, List.getElem?_eq_getElem hlt⟩
    obtain ⟨cx, _, hx2, hcx⟩ := q1 i x hx
    obtain ⟨hf1, hf2⟩ := find_step hx heq
    have hxn := hs x (List.mem_of_getElem? hx)
    obtain ⟨xa, xc, rfl, _⟩ := hx2.val
    have g0 : C1[o1 + i * 5 + 0]? = some (.string (bs x.name)) := hcx 0 _ rfl
    have g1 : C1[o1 + i * 5 + 1]? = some (.int .u16 x.kind) := hcx 1 _ rfl
    have g2 : C1[o1 + i * 5 + 2]? = some (.int .u16 x.cls) := hcx 2 _ rfl
    cases hpx : p x with
    | true =>
      have hpx' : (Nm.same x.name n && x.kind == k && x.cls == c) = true := by rw [hp] at hpx; exact hpx
      simp only [Bool.and_eq_true, beq_iff_eq] at hpx'
      obtain ⟨⟨e1, e2⟩, e3⟩ := hpx'
      repeat (first | with_reducible refine T_seq ?_ | with_reducible refine T_block ?_ | with_reducible refine T_region ?_ | with_reducible refine TL_nil ?_ | with_reducible refine TQ_then ?_ | with_reducible refine TQ_block ?_ | with_reducible refine T_skip ?_ | with_reducible refine T_label ?_ | with_reducible refine T_exit ?_ | with_reducible refine T_ret ?_ | with_reducible refine TQ_then_exit ?_ | with_reducible refine TQ_then_ret ?_ | with_reducible refine TQ_then_goto ?_ | with_reducible refine TQ_block_exit ?_ | with_reducible refine TQ_block_ret ?_ | with_reducible refine TQ_block_goto ?_ | with_reducible refine TQ_fall ?_ | (refine TQ_block_past ?_ ?_; (· decide)) | refine TL_q (op_move rfl) rfl ?_ | refine TL_q (op_assign rfl) rfl ?_ | (refine' TL_q (op_bin rfl rfl ?_) rfl ?_; rotate_left 1; (· first | exact bin_add ⟨by omega, by omega⟩ | exact bin_eql | exact bin_lss | exact sbin_eql | exact sbin_lss | exact sbin_add (by first | omega | (simp only [List.length_cons, List.length_nil]; omega)))) | (refine' TL_q (op_pickT rfl ?_ rfl) rfl ?_; (· first | with_reducible rfl | assumption | exact Bool.not_false | exact Bool.not_true | exact dT (by first | assumption | with_reducible rfl | omega) | exact dF (by first | assumption | with_reducible rfl | omega) | exact eT (by first | assumption | with_reducible rfl | omega) | exact eF (by first | assumption | with_reducible rfl | omega) | exact nT (by first | assumption | with_reducible rfl | omega) | exact nF (by first | assumption | with_reducible rfl | omega) | exact xT (by first | assumption | exact dT (by first | assumption | with_reducible rfl | omega) | exact dF (by first | assumption | with_reducible rfl | omega) | exact eT (by first | assumption | with_reducible rfl | omega) | exact eF (by first | assumption | with_reducible rfl | omega) | exact nT (by first | assumption | with_reducible rfl | omega) | exact nF (by first | assumption | with_reducible rfl | omega)) | exact xF (by first | assumption | exact dT (by first | assumption | with_reducible rfl | omega) | exact dF (by first | assumption | with_reducible rfl | omega) | exact eT (by first | assumption | with_reducible rfl | omega) | exact eF (by first | assumption | with_reducible rfl | omega) | exact nT (by first | assumption | with_reducible rfl | omega) | exact nF (by first | assumption | with_reducible rfl | omega)))) | (refine' TL_q (op_pickF rfl ?_ rfl) rfl ?_; (· first | with_reducible rfl | assumption | exact Bool.not_false | exact Bool.not_true | exact dT (by first | assumption | with_reducible rfl | omega) | exact dF (by first | assumption | with_reducible rfl | omega) | exact eT (by first | assumption | with_reducible rfl | omega) | exact eF (by first | assumption | with_reducible rfl | omega) | exact nT (by first | assumption | with_reducible rfl | omega) | exact nF (by first | assumption | with_reducible rfl | omega) | exact xT (by first | assumption | exact dT (by first | assumption | with_reducible rfl | omega) | exact dF (by first | assumption | with_reducible rfl | omega) | exact eT (by first | assumption | with_reducible rfl | omega) | exact eF (by first | assumption | with_reducible rfl | omega) | exact nT (by first | assumption | with_reducible rfl | omega) | exact nF (by first | assumption | with_reducible rfl | omega)) | exact xF (by first | assumption | exact dT (by first | assumption | with_reducible rfl | omega) | exact dF (by first | assumption | with_reducible rfl | omega) | exact eT (by first | assumption | with_reducible rfl | omega) | exact eF (by first | assumption | with_reducible rfl | omega) | exact nT (by first | assumption | with_reducible rfl | omega) | exact nF (by first | assumption | with_reducible rfl | omega)))) | refine TL_q (op_len_slice rfl Try.underlying40) rfl ?_ | (refine' TL_q (op_idx ety_40 rfl rfl ?_) rfl ?_; (· omega)) | (refine' TL_q (op_idxI ety_40 rfl rfl ?_ ?_) rfl ?_; (· omega); (· omega)) | refine TL_q (op_fld rfl fld_60_0) rfl ?_ | refine TL_q (op_fld rfl fld_60_1) rfl ?_ | refine TL_q (op_fld rfl fld_60_2) rfl ?_ | (refine' TL_q (op_ld rfl pl_9 ?_ ?_) rfl ?_; rotate_left 4; (· repeat (first | assumption | exact List.mem_cons_self | (apply List.mem_append_left; first | assumption | exact List.mem_cons_self) | apply List.mem_cons_of_mem | apply List.mem_append_right)); (· first | assumption | rfl)) | (refine' TL_q (op_ld rfl pl_23 ?_ ?_) rfl ?_; rotate_left 4; (· repeat (first | assumption | exact List.mem_cons_self | (apply List.mem_append_left; first | assumption | exact List.mem_cons_self) | apply List.mem_cons_of_mem | apply List.mem_append_right)); (· first | assumption | rfl)) | (refine' TL_q (op_ldAll rfl st_60 ?_ ?_) rfl ?_; rotate_left 3; (· repeat (first | assumption | exact List.mem_cons_self | (apply List.mem_append_left; first | assumption | exact List.mem_cons_self) | apply List.mem_cons_of_mem | apply List.mem_append_right)); (· first | assumption | rfl)) | (refine' TL_op (op_call hb_124 rfl (refNSame_S _ _ ?_ ?_)) rfl ?_; (· first | omega | decide); (· first | omega | decide)) | (refine' TG_op (op_call hb_124 rfl (refNSame_S _ _ ?_ ?_)) rfl ?_; (· first | omega | decide); (· first | omega | decide)) | (refine TL_gpre rfl rfl ?_ ?_; (· first | with_reducible rfl | assumption | exact Bool.not_false | exact Bool.not_true | exact dT (by first | assumption | with_reducible rfl | omega) | exact dF (by first | assumption | with_reducible rfl | omega) | exact eT (by first | assumption | with_reducible rfl | omega) | exact eF (by first | assumption | with_reducible rfl | omega) | exact nT (by first | assumption | with_reducible rfl | omega) | exact nF (by first | assumption | with_reducible rfl | omega) | exact xT (by first | assumption | exact dT (by first | assumption | with_reducible rfl | omega) | exact dF (by first | assumption | with_reducible rfl | omega) | exact eT (by first | assumption | with_reducible rfl | omega) | exact eF (by first | assumption | with_reducible rfl | omega) | exact nT (by first | assumption | with_reducible rfl | omega) | exact nF (by first | assumption | with_reducible rfl | omega)) | exact xF (by first | assumption | exact dT (by first | assumption | with_reducible rfl | omega) | exact dF (by first | assumption | with_reducible rfl | omega) | exact eT (by first | assumption | with_reducible rfl | omega) | exact eF (by first | assumption | with_reducible rfl | omega) | exact nT (by first | assumption | with_reducible rfl | omega) | exact nF (by first | assumption | with_reducible rfl | omega)))) | refine TL_gq2 (op_move rfl) rfl ?_ | refine TL_gq2 (op_assign rfl) rfl ?_ | (refine' TL_gq2 (op_bin rfl rfl ?_) rfl ?_; rotate_left 1; (· first | exact bin_add ⟨by omega, by omega⟩ | exact bin_eql | exact bin_lss | exact sbin_eql | exact sbin_lss | exact sbin_add (by first | omega | (simp only [List.length_cons, List.length_nil]; omega)))) | (refine' TL_gq2 (op_pickT rfl ?_ rfl) rfl ?_; (· first | with_reducible rfl | assumption | exact Bool.not_false | exact Bool.not_true | exact dT (by first | assumption | with_reducible rfl | omega) | exact dF (by first | assumption | with_reducible rfl | omega) | exact eT (by first | assumption | with_reducible rfl | omega) | exact eF (by first | assumption | with_reducible rfl | omega) | exact nT (by first | assumption | with_reducible rfl | omega) | exact nF (by first | assumption | with_reducible rfl | omega) | exact xT (by first | assumption | exact dT (by first | assumption | with_reducible rfl | omega) | exact dF (by first | assumption | with_reducible rfl | omega) | exact eT (by first | assumption | with_reducible rfl | omega) | exact eF (by first | assumption | with_reducible rfl | omega) | exact nT (by first | assumption | with_reducible rfl | omega) | exact nF (by first | assumption | with_reducible rfl | omega)) | exact xF (by first | assumption | exact dT (by first | assumption | with_reducible rfl | omega) | exact dF (by first | assumption | with_reducible rfl | omega) | exact eT (by first | assumption | with_reducible rfl | omega) | exact eF (by first | assumption | with_reducible rfl | omega) | exact nT (by first | assumption | with_reducible rfl | omega) | exact nF (by first | assumption | with_reducible rfl | omega)))) | (refine' TL_gq2 (op_pickF rfl ?_ rfl) rfl ?_; (· first | with_reducible rfl | assumption | exact Bool.not_false | exact Bool.not_true | exact dT (by first | assumption | with_reducible rfl | omega) | exact dF (by first | assumption | with_reducible rfl | omega) | exact eT (by first | assumption | with_reducible rfl | omega) | exact eF (by first | assumption | with_reducible rfl | omega) | exact nT (by first | assumption | with_reducible rfl | omega) | exact nF (by first | assumption | with_reducible rfl | omega) | exact xT (by first | assumption | exact dT (by first | assumption | with_reducible rfl | omega) | exact dF (by first | assumption | with_reducible rfl | omega) | exact eT (by first | assumption | with_reducible rfl | omega) | exact eF (by first | assumption | with_reducible rfl | omega) | exact nT (by first | assumption | with_reducible rfl | omega) | exact nF (by first | assumption | with_reducible rfl | omega)) | exact xF (by first | assumption | exact dT (by first | assumption | with_reducible rfl | omega) | exact dF (by first | assumption | with_reducible rfl | omega) | exact eT (by first | assumption | with_reducible rfl | omega) | exact eF (by first | assumption | with_reducible rfl | omega) | exact nT (by first | assumption | with_reducible rfl | omega) | exact nF (by first | assumption | with_reducible rfl | omega)))) | refine TL_gq2 (op_len_slice rfl Try.underlying40) rfl ?_ | (refine' TL_gq2 (op_idx ety_40 rfl rfl ?_) rfl ?_; (· omega)) | (refine' TL_gq2 (op_idxI ety_40 rfl rfl ?_ ?_) rfl ?_; (· omega); (· omega)) | refine TL_gq2 (op_fld rfl fld_60_0) rfl ?_ | refine TL_gq2 (op_fld rfl fld_60_1) rfl ?_ | refine TL_gq2 (op_fld rfl fld_60_2) rfl ?_ | (refine' TL_gq2 (op_ld rfl pl_9 ?_ ?_) rfl ?_; rotate_left 4; (· repeat (first | assumption | exact List.mem_cons_self | (apply List.mem_append_left; first | assumption | exact List.mem_cons_self) | apply List.mem_cons_of_mem | apply List.mem_append_right)); (· first | assumption | rfl)) | (refine' TL_gq2 (op_ld rfl pl_23 ?_ ?_) rfl ?_; rotate_left 4; (· repeat (first | assumption | exact List.mem_cons_self | (apply List.mem_append_left; first | assumption | exact List.mem_cons_self) | apply List.mem_cons_of_mem | apply List.mem_append_right)); (· first | assumption | rfl)) | (refine' TL_gq2 (op_ldAll rfl st_60 ?_ ?_) rfl ?_; rotate_left 3; (· repeat (first | assumption | exact List.mem_cons_self | (apply List.mem_append_left; first | assumption | exact List.mem_cons_self) | apply List.mem_cons_of_mem | apply List.mem_append_right)); (· first | assumption | rfl)) | (refine TL_gno rfl rfl ?_ rfl ?_; (· first | with_reducible rfl | assumption | exact Bool.not_false | exact Bool.not_true | exact dT (by first | assumption | with_reducible rfl | omega) | exact dF (by first | assumption | with_reducible rfl | omega) | exact eT (by first | assumption | with_reducible rfl | omega) | exact eF (by first | assumption | with_reducible rfl | omega) | exact nT (by first | assumption | with_reducible rfl | omega) | exact nF (by first | assumption | with_reducible rfl | omega) | exact xT (by first | assumption | exact dT (by first | assumption | with_reducible rfl | omega) | exact dF (by first | assumption | with_reducible rfl | omega) | exact eT (by first | assumption | with_reducible rfl | omega) | exact eF (by first | assumption | with_reducible rfl | omega) | exact nT (by first | assumption | with_reducible rfl | omega) | exact nF (by first | assumption | with_reducible rfl | omega)) | exact xF (by first | assumption | exact dT (by first | assumption | with_reducible rfl | omega) | exact dF (by first | assumption | with_reducible rfl | omega) | exact eT (by first | assumption | with_reducible rfl | omega) | exact eF (by first | assumption | with_reducible rfl | omega) | exact nT (by first | assumption | with_reducible rfl | omega) | exact nF (by first | assumption | with_reducible rfl | omega)))) | refine TL_gundef rfl rfl rfl ?_ | (refine TL_stAll rfl rfl st_60 rfl rfl rfl ?_) | (refine TL_new (op_alloc (C := #[(.string (bs [])), (.int .u16 0), (.int .u16 0), (.int .u32 0), (.slice none 0 0)]) zero_60 rfl) rfl ?_; intro bNew) | refine TL_q (op_build rfl (bl_60_ )) rfl ?_ | refine TL_gq2 (op_build rfl (bl_60_ )) rfl ?_ | (refine T_yes rfl ?_ ?_; (· first | with_reducible rfl | assumption | exact Bool.not_false | exact Bool.not_true | exact dT (by first | assumption | with_reducible rfl | omega) | exact dF (by first | assumption | with_reducible rfl | omega) | exact eT (by first | assumption | with_reducible rfl | omega) | exact eF (by first | assumption | with_reducible rfl | omega) | exact nT (by first | assumption | with_reducible rfl | omega) | exact nF (by first | assumption | with_reducible rfl | omega) | exact xT (by first | assumption | exact dT (by first | assumption | with_reducible rfl | omega) | exact dF (by first | assumption | with_reducible rfl | omega) | exact eT (by first | assumption | with_reducible rfl | omega) | exact eF (by first | assumption | with_reducible rfl | omega) | exact nT (by first | assumption | with_reducible rfl | omega) | exact nF (by first | assumption | with_reducible rfl | omega)) | exact xF (by first | assumption | exact dT (by first | assumption | with_reducible rfl | omega) | exact dF (by first | assumption | with_reducible rfl | omega) | exact eT (by first | assumption | with_reducible rfl | omega) | exact eF (by first | assumption | with_reducible rfl | omega) | exact nT (by first | assumption | with_reducible rfl | omega) | exact nF (by first | assumption | with_reducible rfl | omega)))) | (refine T_no rfl ?_ ?_; (· first | with_reducible rfl | assumption | exact Bool.not_false | exact Bool.not_true | exact dT (by first | assumption | with_reducible rfl | omega) | exact dF (by first | assumption | with_reducible rfl | omega) | exact eT (by first | assumption | with_reducible rfl | omega) | exact eF (by first | assumption | with_reducible rfl | omega) | exact nT (by first | assumption | with_reducible rfl | omega) | exact nF (by first | assumption | with_reducible rfl | omega) | exact xT (by first | assumption | exact dT (by first | assumption | with_reducible rfl | omega) | exact dF (by first | assumption | with_reducible rfl | omega) | exact eT (by first | assumption | with_reducible rfl | omega) | exact eF (by first | assumption | with_reducible rfl | omega) | exact nT (by first | assumption | with_reducible rfl | omega) | exact nF (by first | assumption | with_reducible rfl | omega)) | exact xF (by first | assumption | exact dT (by first | assumption | with_reducible rfl | omega) | exact dF (by first | assumption | with_reducible rfl | omega) | exact eT (by first | assumption | with_reducible rfl | omega) | exact eF (by first | assumption | with_reducible rfl | omega) | exact nT (by first | assumption | with_reducible rfl | omega) | exact nF (by first | assumption | with_reducible rfl | omega)))))
      refine TL_q (op_ldA [.string (bs x.name), .int .u16 x.kind, .int .u16 x.cls, .int .u32 x.ttl, .slice xa x.data.length xc] rfl st_60 (List.mem_cons_of_mem _ m1) hcx) rfl ?_
      repeat (first | with_reducible refine T_seq ?_ | with_reducible refine T_block ?_ | with_reducible refine T_region ?_ | with_reducible refine TL_nil ?_ | with_reducible refine TQ_then ?_ | with_reducible refine TQ_block ?_ | with_reducible refine T_skip ?_ | with_reducible refine T_label ?_ | with_reducible refine T_exit ?_ | with_reducible refine T_ret ?_ | with_reducible refine TQ_then_exit ?_ | with_reducible refine TQ_then_ret ?_ | with_reducible refine TQ_then_goto ?_ | with_reducible refine TQ_block_exit ?_ | with_reducible refine TQ_block_ret ?_ | with_reducible refine TQ_block_goto ?_ | with_reducible refine TQ_fall ?_ | (refine TQ_block_past ?_ ?_; (· decide)) | refine TL_q (op_move rfl) rfl ?_ | refine TL_q (op_assign rfl) rfl ?_ | (refine' TL_q (op_bin rfl rfl ?_) rfl ?_; rotate_left 1; (· first | exact bin_add ⟨by omega, by omega⟩ | exact bin_eql | exact bin_lss | exact sbin_eql | exact sbin_lss | exact sbin_add (by first | omega | (simp only [List.length_cons, List.length_nil]; omega)))) | (refine' TL_q (op_pickT rfl ?_ rfl) rfl ?_; (· first | with_reducible rfl | assumption | exact Bool.not_false | exact Bool.not_true | exact dT (by first | assumption | with_reducible rfl | omega) | exact dF (by first | assumption | with_reducible rfl | omega) | exact eT (by first | assumption | with_reducible rfl | omega) | exact eF (by first | assumption | with_reducible rfl | omega) | exact nT (by first | assumption | with_reducible rfl | omega) | exact nF (by first | assumption | with_reducible rfl | omega) | exact xT (by first | assumption | exact dT (by first | assumption | with_reducible rfl | omega) | exact dF (by first | assumption | with_reducible rfl | omega) | exact eT (by first | assumption | with_reducible rfl | omega) | exact eF (by first | assumption | with_reducible rfl | omega) | exact nT (by first | assumption | with_reducible rfl | omega) | exact nF (by first | assumption | with_reducible rfl | omega)) | exact xF (by first | assumption | exact dT (by first | assumption | with_reducible rfl | omega) | exact dF (by first | assumption | with_reducible rfl | omega) | exact eT (by first | assumption | with_reducible rfl | omega) | exact eF (by first | assumption | with_reducible rfl | omega) | exact nT (by first | assumption | with_reducible rfl | omega) | exact nF (by first | assumption | with_reducible rfl | omega)))) | (refine' TL_q (op_pickF rfl ?_ rfl) rfl ?_; (· first | with_reducible rfl | assumption | exact Bool.not_false | exact Bool.not_true | exact dT (by first | assumption | with_reducible rfl | omega) | exact dF (by first | assumption | with_reducible rfl | omega) | exact eT (by first | assumption | with_reducible rfl | omega) | exact eF (by first | assumption | with_reducible rfl | omega) | exact nT (by first | assumption | with_reducible rfl | omega) | exact nF (by first | assumption | with_reducible rfl | omega) | exact xT (by first | assumption | exact dT (by first | assumption | with_reducible rfl | omega) | exact dF (by first | assumption | with_reducible rfl | omega) | exact eT (by first | assumption | with_reducible rfl | omega) | exact eF (by first | assumption | with_reducible rfl | omega) | exact nT (by first | assumption | with_reducible rfl | omega) | exact nF (by first | assumption | with_reducible rfl | omega)) | exact xF (by first | assumption | exact dT (by first | assumption | with_reducible rfl | omega) | exact dF (by first | assumption | with_reducible rfl | omega) | exact eT (by first | assumption | with_reducible rfl | omega) | exact eF (by first | assumption | with_reducible rfl | omega) | exact nT (by first | assumption | with_reducible rfl | omega) | exact nF (by first | assumption | with_reducible rfl | omega)))) | refine TL_q (op_len_slice rfl Try.underlying40) rfl ?_ | (refine' TL_q (op_idx ety_40 rfl rfl ?_) rfl ?_; (· omega)) | (refine' TL_q (op_idxI ety_40 rfl rfl ?_ ?_) rfl ?_; (· omega); (· omega)) | refine TL_q (op_fld rfl fld_60_0) rfl ?_ | refine TL_q (op_fld rfl fld_60_1) rfl ?_ | refine TL_q (op_fld rfl fld_60_2) rfl ?_ | (refine' TL_q (op_ld rfl pl_9 ?_ ?_) rfl ?_; rotate_left 4; (· repeat (first | assumption | exact List.mem_cons_self | (apply List.mem_append_left; first | assumption | exact List.mem_cons_self) | apply List.mem_cons_of_mem | apply List.mem_append_right)); (· first | assumption | rfl)) | (refine' TL_q (op_ld rfl pl_23 ?_ ?_) rfl ?_; rotate_left 4; (· repeat (first | assumption | exact List.mem_cons_self | (apply List.mem_append_left; first | assumption | exact List.mem_cons_self) | apply List.mem_cons_of_mem | apply List.mem_append_right)); (· first | assumption | rfl)) | (refine' TL_q (op_ldAll rfl st_60 ?_ ?_) rfl ?_; rotate_left 3; (· repeat (first | assumption | exact List.mem_cons_self | (apply List.mem_append_left; first | assumption | exact List.mem_cons_self) | apply List.mem_cons_of_mem | apply List.mem_append_right)); (· first | assumption | rfl)) | (refine' TL_op (op_call hb_124 rfl (refNSame_S _ _ ?_ ?_)) rfl ?_; (· first | omega | decide); (· first | omega | decide)) | (refine' TG_op (op_call hb_124 rfl (refNSame_S _ _ ?_ ?_)) rfl ?_; (· first | omega | decide); (· first | omega | decide)) | (refine TL_gpre rfl rfl ?_ ?_; (· first | with_reducible rfl | assumption | exact Bool.not_false | exact Bool.not_true | exact dT (by first | assumption | with_reducible rfl | omega) | exact dF (by first | assumption | with_reducible rfl | omega) | exact eT (by first | assumption | with_reducible rfl | omega) | exact eF (by first | assumption | with_reducible rfl | omega) | exact nT (by first | assumption | with_reducible rfl | omega) | exact nF (by first | assumption | with_reducible rfl | omega) | exact xT (by first | assumption | exact dT (by first | assumption | with_reducible rfl | omega) | exact dF (by first | assumption | with_reducible rfl | omega) | exact eT (by first | assumption | with_reducible rfl | omega) | exact eF (by first | assumption | with_reducible rfl | omega) | exact nT (by first | assumption | with_reducible rfl | omega) | exact nF (by first | assumption | with_reducible rfl | omega)) | exact xF (by first | assumption | exact dT (by first | assumption | with_reducible rfl | omega) | exact dF (by first | assumption | with_reducible rfl | omega) | exact eT (by first | assumption | with_reducible rfl | omega) | exact eF (by first | assumption | with_reducible rfl | omega) | exact nT (by first | assumption | with_reducible rfl | omega) | exact nF (by first | assumption | with_reducible rfl | omega)))) | refine TL_gq2 (op_move rfl) rfl ?_ | refine TL_gq2 (op_assign rfl) rfl ?_ | (refine' TL_gq2 (op_bin rfl rfl ?_) rfl ?_; rotate_left 1; (· first | exact bin_add ⟨by omega, by omega⟩ | exact bin_eql | exact bin_lss | exact sbin_eql | exact sbin_lss | exact sbin_add (by first | omega | (simp only [List.length_cons, List.length_nil]; omega)))) | (refine' TL_gq2 (op_pickT rfl ?_ rfl) rfl ?_; (· first | with_reducible rfl | assumption | exact Bool.not_false | exact Bool.not_true | exact dT (by first | assumption | with_reducible rfl | omega) | exact dF (by first | assumption | with_reducible rfl | omega) | exact eT (by first | assumption | with_reducible rfl | omega) | exact eF (by first | assumption | with_reducible rfl | omega) | exact nT (by first | assumption | with_reducible rfl | omega) | exact nF (by first | assumption | with_reducible rfl | omega) | exact xT (by first | assumption | exact dT (by first | assumption | with_reducible rfl | omega) | exact dF (by first | assumption | with_reducible rfl | omega) | exact eT (by first | assumption | with_reducible rfl | omega) | exact eF (by first | assumption | with_reducible rfl | omega) | exact nT (by first | assumption | with_reducible rfl | omega) | exact nF (by first | assumption | with_reducible rfl | omega)) | exact xF (by first | assumption | exact dT (by first | assumption | with_reducible rfl | omega) | exact dF (by first | assumption | with_reducible rfl | omega) | exact eT (by first | assumption | with_reducible rfl | omega) | exact eF (by first | assumption | with_reducible rfl | omega) | exact nT (by first | assumption | with_reducible rfl | omega) | exact nF (by first | assumption | with_reducible rfl | omega)))) | (refine' TL_gq2 (op_pickF rfl ?_ rfl) rfl ?_; (· first | with_reducible rfl | assumption | exact Bool.not_false | exact Bool.not_true | exact dT (by first | assumption | with_reducible rfl | omega) | exact dF (by first | assumption | with_reducible rfl | omega) | exact eT (by first | assumption | with_reducible rfl | omega) | exact eF (by first | assumption | with_reducible rfl | omega) | exact nT (by first | assumption | with_reducible rfl | omega) | exact nF (by first | assumption | with_reducible rfl | omega) | exact xT (by first | assumption | exact dT (by first | assumption | with_reducible rfl | omega) | exact dF (by first | assumption | with_reducible rfl | omega) | exact eT (by first | assumption | with_reducible rfl | omega) | exact eF (by first | assumption | with_reducible rfl | omega) | exact nT (by first | assumption | with_reducible rfl | omega) | exact nF (by first | assumption | with_reducible rfl | omega)) | exact xF (by first | assumption | exact dT (by first | assumption | with_reducible rfl | omega) | exact dF (by first | assumption | with_reducible rfl | omega) | exact eT (by first | assumption | with_reducible rfl | omega) | exact eF (by first | assumption | with_reducible rfl | omega) | exact nT (by first | assumption | with_reducible rfl | omega) | exact nF (by first | assumption | with_reducible rfl | omega)))) | refine TL_gq2 (op_len_slice rfl Try.underlying40) rfl ?_ | (refine' TL_gq2 (op_idx ety_40 rfl rfl ?_) rfl ?_; (· omega)) | (refine' TL_gq2 (op_idxI ety_40 rfl rfl ?_ ?_) rfl ?_; (· omega); (· omega)) | refine TL_gq2 (op_fld rfl fld_60_0) rfl ?_ | refine TL_gq2 (op_fld rfl fld_60_1) rfl ?_ | refine TL_gq2 (op_fld rfl fld_60_2) rfl ?_ | (refine' TL_gq2 (op_ld rfl pl_9 ?_ ?_) rfl ?_; rotate_left 4; (· repeat (first | assumption | exact List.mem_cons_self | (apply List.mem_append_left; first | assumption | exact List.mem_cons_self) | apply List.mem_cons_of_mem | apply List.mem_append_right)); (· first | assumption | rfl)) | (refine' TL_gq2 (op_ld rfl pl_23 ?_ ?_) rfl ?_; rotate_left 4; (· repeat (first | assumption | exact List.mem_cons_self | (apply List.mem_append_left; first | assumption | exact List.mem_cons_self) | apply List.mem_cons_of_mem | apply List.mem_append_right)); (· first | assumption | rfl)) | (refine' TL_gq2 (op_ldAll rfl st_60 ?_ ?_) rfl ?_; rotate_left 3; (· repeat (first | assumption | exact List.mem_cons_self | (apply List.mem_append_left; first | assumption | exact List.mem_cons_self) | apply List.mem_cons_of_mem | apply List.mem_append_right)); (· first | assumption | rfl)) | (refine TL_gno rfl rfl ?_ rfl ?_; (· first | with_reducible rfl | assumption | exact Bool.not_false | exact Bool.not_true | exact dT (by first | assumption | with_reducible rfl | omega) | exact dF (by first | assumption | with_reducible rfl | omega) | exact eT (by first | assumption | with_reducible rfl | omega) | exact eF (by first | assumption | with_reducible rfl | omega) | exact nT (by first | assumption | with_reducible rfl | omega) | exact nF (by first | assumption | with_reducible rfl | omega) | exact xT (by first | assumption | exact dT (by first | assumption | with_reducible rfl | omega) | exact dF (by first | assumption | with_reducible rfl | omega) | exact eT (by first | assumption | with_reducible rfl | omega) | exact eF (by first | assumption | with_reducible rfl | omega) | exact nT (by first | assumption | with_reducible rfl | omega) | exact nF (by first | assumption | with_reducible rfl | omega)) | exact xF (by first | assumption | exact dT (by first | assumption | with_reducible rfl | omega) | exact dF (by first | assumption | with_reducible rfl | omega) | exact eT (by first | assumption | with_reducible rfl | omega) | exact eF (by first | assumption | with_reducible rfl | omega) | exact nT (by first | assumption | with_reducible rfl | omega) | exact nF (by first | assumption | with_reducible rfl | omega)))) | refine TL_gundef rfl rfl rfl ?_ | (refine TL_stAll rfl rfl st_60 rfl rfl rfl ?_) | (refine TL_new (op_alloc (C := #[(.string (bs [])), (.int .u16 0), (.int .u16 0), (.int .u32 0), (.slice none 0 0)]) zero_60 rfl) rfl ?_; intro bNew) | refine TL_q (op_build rfl (bl_60_ )) rfl ?_ | refine TL_gq2 (op_build rfl (bl_60_ )) rfl ?_ | (refine T_yes rfl ?_ ?_; (· first | with_reducible rfl | assumption | exact Bool.not_false | exact Bool.not_true | exact dT (by first | assumption | with_reducible rfl | omega) | exact dF (by first | assumption | with_reducible rfl | omega) | exact eT (by first | assumption | with_reducible rfl | omega) | exact eF (by first | assumption | with_reducible rfl | omega) | exact nT (by first | assumption | with_reducible rfl | omega) | exact nF (by first | assumption | with_reducible rfl | omega) | exact xT (by first | assumption | exact dT (by first | assumption | with_reducible rfl | omega) | exact dF (by first | assumption | with_reducible rfl | omega) | exact eT (by first | assumption | with_reducible rfl | omega) | exact eF (by first | assumption | with_reducible rfl | omega) | exact nT (by first | assumption | with_reducible rfl | omega) | exact nF (by first | assumption | with_reducible rfl | omega)) | exact xF (by first | assumption | exact dT (by first | assumption | with_reducible rfl | omega) | exact dF (by first | assumption | with_reducible rfl | omega) | exact eT (by first | assumption | with_reducible rfl | omega) | exact eF (by first | assumption | with_reducible rfl | omega) | exact nT (by first | assumption | with_reducible rfl | omega) | exact nF (by first | assumption | with_reducible rfl | omega)))) | (refine T_no rfl ?_ ?_; (· first | with_reducible rfl | assumption | exact Bool.not_false | exact Bool.not_true | exact dT (by first | assumption | with_reducible rfl | omega) | exact dF (by first | assumption | with_reducible rfl | omega) | exact eT (by first | assumption | with_reducible rfl | omega) | exact eF (by first | assumption | with_reducible rfl | omega) | exact nT (by first | assumption | with_reducible rfl | omega) | exact nF (by first | assumption | with_reducible rfl | omega) | exact xT (by first | assumption | exact dT (by first | assumption | with_reducible rfl | omega) | exact dF (by first | assumption | with_reducible rfl | omega) | exact eT (by first | assumption | with_reducible rfl | omega) | exact eF (by first | assumption | with_reducible rfl | omega) | exact nT (by first | assumption | with_reducible rfl | omega) | exact nF (by first | assumption | with_reducible rfl | omega)) | exact xF (by first | assumption | exact dT (by first | assumption | with_reducible rfl | omega) | exact dF (by first | assumption | with_reducible rfl | omega) | exact eT (by first | assumption | with_reducible rfl | omega) | exact eF (by first | assumption | with_reducible rfl | omega) | exact nT (by first | assumption | with_reducible rfl | omega) | exact nF (by first | assumption | with_reducible rfl | omega)))))
      refine TQ_retC2 8 60 9 rfl rfl rfl st_60 (by repeat ((exact List.mem_cons_self))) rfl (fun w h => h.tail) ?_
      refine ⟨[.string (bs x.name), .int .u16 x.kind, .int .u16 x.cls, .int .u32 x.ttl, .slice xa x.data.length xc], ?_, ?_, rfl⟩
      · rw [hF, hf1 hpx]
      · rw [hF, hf1 hpx]; exact hx2
    | false =>
      have hpx' : ¬ (Nm.same x.name n = true ∧ x.kind = k ∧ x.cls = c) := fun h => by
        have : p x = true := by rw [hp]; simp [h.1, h.2.1, h.2.2]
        rw [this] at hpx; cases hpx
      have hf3 := hf2 hpx
      clear hcx hf1 hf2 hF
      repeat' (first | with_reducible refine T_seq ?_ | with_reducible refine T_block ?_ | with_reducible refine T_region ?_ | with_reducible refine TL_nil ?_ | with_reducible refine TQ_then ?_ | with_reducible refine TQ_block ?_ | with_reducible refine T_skip ?_ | with_reducible refine T_label ?_ | with_reducible refine T_exit ?_ | with_reducible refine T_ret ?_ | with_reducible refine TQ_then_exit ?_ | with_reducible refine TQ_then_ret ?_ | with_reducible refine TQ_then_goto ?_ | with_reducible refine TQ_block_exit ?_ | with_reducible refine TQ_block_ret ?_ | with_reducible refine TQ_block_goto ?_ | with_reducible refine TQ_fall ?_ | (refine TQ_block_past ?_ ?_; (· decide)) | refine TL_q (op_move rfl) rfl ?_ | refine TL_q (op_assign rfl) rfl ?_ | (refine' TL_q (op_bin rfl rfl ?_) rfl ?_; rotate_left 1; (· first | exact bin_add ⟨by omega, by omega⟩ | exact bin_eql | exact bin_lss | exact sbin_eql | exact sbin_lss | exact sbin_add (by first | omega | (simp only [List.length_cons, List.length_nil]; omega)))) | (refine' TL_q (op_pickT rfl ?_ rfl) rfl ?_; (· first | with_reducible rfl | assumption | exact Bool.not_false | exact Bool.not_true | exact dT (by first | assumption | with_reducible rfl | omega) | exact dF (by first | assumption | with_reducible rfl | omega) | exact eT (by first | assumption | with_reducible rfl | omega) | exact eF (by first | assumption | with_reducible rfl | omega) | exact nT (by first | assumption | with_reducible rfl | omega) | exact nF (by first | assumption | with_reducible rfl | omega) | exact xT (by first | assumption | exact dT (by first | assumption | with_reducible rfl | omega) | exact dF (by first | assumption | with_reducible rfl | omega) | exact eT (by first | assumption | with_reducible rfl | omega) | exact eF (by first | assumption | with_reducible rfl | omega) | exact nT (by first | assumption | with_reducible rfl | omega) | exact nF (by first | assumption | with_reducible rfl | omega)) | exact xF (by first | assumption | exact dT (by first | assumption | with_reducible rfl | omega) | exact dF (by first | assumption | with_reducible rfl | omega) | exact eT (by first | assumption | with_reducible rfl | omega) | exact eF (by first | assumption | with_reducible rfl | omega) | exact nT (by first | assumption | with_reducible rfl | omega) | exact nF (by first | assumption | with_reducible rfl | omega)))) | (refine' TL_q (op_pickF rfl ?_ rfl) rfl ?_; (· first | with_reducible rfl | assumption | exact Bool.not_false | exact Bool.not_true | exact dT (by first | assumption | with_reducible rfl | omega) | exact dF (by first | assumption | with_reducible rfl | omega) | exact eT (by first | assumption | with_reducible rfl | omega) | exact eF (by first | assumption | with_reducible rfl | omega) | exact nT (by first | assumption | with_reducible rfl | omega) | exact nF (by first | assumption | with_reducible rfl | omega) | exact xT (by first | assumption | exact dT (by first | assumption | with_reducible rfl | omega) | exact dF (by first | assumption | with_reducible rfl | omega) | exact eT (by first | assumption | with_reducible rfl | omega) | exact eF (by first | assumption | with_reducible rfl | omega) | exact nT (by first | assumption | with_reducible rfl | omega) | exact nF (by first | assumption | with_reducible rfl | omega)) | exact xF (by first | assumption | exact dT (by first | assumption | with_reducible rfl | omega) | exact dF (by first | assumption | with_reducible rfl | omega) | exact eT (by first | assumption | with_reducible rfl | omega) | exact eF (by first | assumption | with_reducible rfl | omega) | exact nT (by first | assumption | with_reducible rfl | omega) | exact nF (by first | assumption | with_reducible rfl | omega)))) | refine TL_q (op_len_slice rfl Try.underlying40) rfl ?_ | (refine' TL_q (op_idx ety_40 rfl rfl ?_) rfl ?_; (· omega)) | (refine' TL_q (op_idxI ety_40 rfl rfl ?_ ?_) rfl ?_; (· omega); (· omega)) | refine TL_q (op_fld rfl fld_60_0) rfl ?_ | refine TL_q (op_fld rfl fld_60_1) rfl ?_ | refine TL_q (op_fld rfl fld_60_2) rfl ?_ | (refine' TL_q (op_ld rfl pl_9 ?_ ?_) rfl ?_; rotate_left 4; (· repeat (first | assumption | exact List.mem_cons_self | (apply List.mem_append_left; first | assumption | exact List.mem_cons_self) | apply List.mem_cons_of_mem | apply List.mem_append_right)); (· first | assumption | rfl)) | (refine' TL_q (op_ld rfl pl_23 ?_ ?_) rfl ?_; rotate_left 4; (· repeat (first | assumption | exact List.mem_cons_self | (apply List.mem_append_left; first | assumption | exact List.mem_cons_self) | apply List.mem_cons_of_mem | apply List.mem_append_right)); (· first | assumption | rfl)) | (refine' TL_q (op_ldAll rfl st_60 ?_ ?_) rfl ?_; rotate_left 3; (· repeat (first | assumption | exact List.mem_cons_self | (apply List.mem_append_left; first | assumption | exact List.mem_cons_self) | apply List.mem_cons_of_mem | apply List.mem_append_right)); (· first | assumption | rfl)) | (refine' TL_op (op_call hb_124 rfl (refNSame_S _ _ ?_ ?_)) rfl ?_; (· first | omega | decide); (· first | omega | decide)) | (refine' TG_op (op_call hb_124 rfl (refNSame_S _ _ ?_ ?_)) rfl ?_; (· first | omega | decide); (· first | omega | decide)) | (refine TL_gpre rfl rfl ?_ ?_; (· first | with_reducible rfl | assumption | exact Bool.not_false | exact Bool.not_true | exact dT (by first | assumption | with_reducible rfl | omega) | exact dF (by first | assumption | with_reducible rfl | omega) | exact eT (by first | assumption | with_reducible rfl | omega) | exact eF (by first | assumption | with_reducible rfl | omega) | exact nT (by first | assumption | with_reducible rfl | omega) | exact nF (by first | assumption | with_reducible rfl | omega) | exact xT (by first | assumption | exact dT (by first | assumption | with_reducible rfl | omega) | exact dF (by first | assumption | with_reducible rfl | omega) | exact eT (by first | assumption | with_reducible rfl | omega) | exact eF (by first | assumption | with_reducible rfl | omega) | exact nT (by first | assumption | with_reducible rfl | omega) | exact nF (by first | assumption | with_reducible rfl | omega)) | exact xF (by first | assumption | exact dT (by first | assumption | with_reducible rfl | omega) | exact dF (by first | assumption | with_reducible rfl | omega) | exact eT (by first | assumption | with_reducible rfl | omega) | exact eF (by first | assumption | with_reducible rfl | omega) | exact nT (by first | assumption | with_reducible rfl | omega) | exact nF (by first | assumption | with_reducible rfl | omega)))) | refine TL_gq2 (op_move rfl) rfl ?_ | refine TL_gq2 (op_assign rfl) rfl ?_ | (refine' TL_gq2 (op_bin rfl rfl ?_) rfl ?_; rotate_left 1; (· first | exact bin_add ⟨by omega, by omega⟩ | exact bin_eql | exact bin_lss | exact sbin_eql | exact sbin_lss | exact sbin_add (by first | omega | (simp only [List.length_cons, List.length_nil]; omega)))) | (refine' TL_gq2 (op_pickT rfl ?_ rfl) rfl ?_; (· first | with_reducible rfl | assumption | exact Bool.not_false | exact Bool.not_true | exact dT (by first | assumption | with_reducible rfl | omega) | exact dF (by first | assumption | with_reducible rfl | omega) | exact eT (by first | assumption | with_reducible rfl | omega) | exact eF (by first | assumption | with_reducible rfl | omega) | exact nT (by first | assumption | with_reducible rfl | omega) | exact nF (by first | assumption | with_reducible rfl | omega) | exact xT (by first | assumption | exact dT (by first | assumption | with_reducible rfl | omega) | exact dF (by first | assumption | with_reducible rfl | omega) | exact eT (by first | assumption | with_reducible rfl | omega) | exact eF (by first | assumption | with_reducible rfl | omega) | exact nT (by first | assumption | with_reducible rfl | omega) | exact nF (by first | assumption | with_reducible rfl | omega)) | exact xF (by first | assumption | exact dT (by first | assumption | with_reducible rfl | omega) | exact dF (by first | assumption | with_reducible rfl | omega) | exact eT (by first | assumption | with_reducible rfl | omega) | exact eF (by first | assumption | with_reducible rfl | omega) | exact nT (by first | assumption | with_reducible rfl | omega) | exact nF (by first | assumption | with_reducible rfl | omega)))) | (refine' TL_gq2 (op_pickF rfl ?_ rfl) rfl ?_; (· first | with_reducible rfl | assumption | exact Bool.not_false | exact Bool.not_true | exact dT (by first | assumption | with_reducible rfl | omega) | exact dF (by first | assumption | with_reducible rfl | omega) | exact eT (by first | assumption | with_reducible rfl | omega) | exact eF (by first | assumption | with_reducible rfl | omega) | exact nT (by first | assumption | with_reducible rfl | omega) | exact nF (by first | assumption | with_reducible rfl | omega) | exact xT (by first | assumption | exact dT (by first | assumption | with_reducible rfl | omega) | exact dF (by first | assumption | with_reducible rfl | omega) | exact eT (by first | assumption | with_reducible rfl | omega) | exact eF (by first | assumption | with_reducible rfl | omega) | exact nT (by first | assumption | with_reducible rfl | omega) | exact nF (by first | assumption | with_reducible rfl | omega)) | exact xF (by first | assumption | exact dT (by first | assumption | with_reducible rfl | omega) | exact dF (by first | assumption | with_reducible rfl | omega) | exact eT (by first | assumption | with_reducible rfl | omega) | exact eF (by first | assumption | with_reducible rfl | omega) | exact nT (by first | assumption | with_reducible rfl | omega) | exact nF (by first | assumption | with_reducible rfl | omega)))) | refine TL_gq2 (op_len_slice rfl Try.underlying40) rfl ?_ | (refine' TL_gq2 (op_idx ety_40 rfl rfl ?_) rfl ?_; (· omega)) | (refine' TL_gq2 (op_idxI ety_40 rfl rfl ?_ ?_) rfl ?_; (· omega); (· omega)) | refine TL_gq2 (op_fld rfl fld_60_0) rfl ?_ | refine TL_gq2 (op_fld rfl fld_60_1) rfl ?_ | refine TL_gq2 (op_fld rfl fld_60_2) rfl ?_ | (refine' TL_gq2 (op_ld rfl pl_9 ?_ ?_) rfl ?_; rotate_left 4; (· repeat (first | assumption | exact List.mem_cons_self | (apply List.mem_append_left; first | assumption | exact List.mem_cons_self) | apply List.mem_cons_of_mem | apply List.mem_append_right)); (· first | assumption | rfl)) | (refine' TL_gq2 (op_ld rfl pl_23 ?_ ?_) rfl ?_; rotate_left 4; (· repeat (first | assumption | exact List.mem_cons_self | (apply List.mem_append_left; first | assumption | exact List.mem_cons_self) | apply List.mem_cons_of_mem | apply List.mem_append_right)); (· first | assumption | rfl)) | (refine' TL_gq2 (op_ldAll rfl st_60 ?_ ?_) rfl ?_; rotate_left 3; (· repeat (first | assumption | exact List.mem_cons_self | (apply List.mem_append_left; first | assumption | exact List.mem_cons_self) | apply List.mem_cons_of_mem | apply List.mem_append_right)); (· first | assumption | rfl)) | (refine TL_gno rfl rfl ?_ rfl ?_; (· first | with_reducible rfl | assumption | exact Bool.not_false | exact Bool.not_true | exact dT (by first | assumption | with_reducible rfl | omega) | exact dF (by first | assumption | with_reducible rfl | omega) | exact eT (by first | assumption | with_reducible rfl | omega) | exact eF (by first | assumption | with_reducible rfl | omega) | exact nT (by first | assumption | with_reducible rfl | omega) | exact nF (by first | assumption | with_reducible rfl | omega) | exact xT (by first | assumption | exact dT (by first | assumption | with_reducible rfl | omega) | exact dF (by first | assumption | with_reducible rfl | omega) | exact eT (by first | assumption | with_reducible rfl | omega) | exact eF (by first | assumption | with_reducible rfl | omega) | exact nT (by first | assumption | with_reducible rfl | omega) | exact nF (by first | assumption | with_reducible rfl | omega)) | exact xF (by first | assumption | exact dT (by first | assumption | with_reducible rfl | omega) | exact dF (by first | assumption | with_reducible rfl | omega) | exact eT (by first | assumption | with_reducible rfl | omega) | exact eF (by first | assumption | with_reducible rfl | omega) | exact nT (by first | assumption | with_reducible rfl | omega) | exact nF (by first | assumption | with_reducible rfl | omega)))) | refine TL_gundef rfl rfl rfl ?_ | (refine TL_stAll rfl rfl st_60 rfl rfl rfl ?_) | (refine TL_new (op_alloc (C := #[(.string (bs [])), (.int .u16 0), (.int .u16 0), (.int .u32 0), (.slice none 0 0)]) zero_60 rfl) rfl ?_; intro bNew) | refine TL_q (op_build rfl (bl_60_ )) rfl ?_ | refine TL_gq2 (op_build rfl (bl_60_ )) rfl ?_ | (refine T_yes rfl ?_ ?_; (· first | with_reducible rfl | assumption | exact Bool.not_false | exact Bool.not_true | exact dT (by first | assumption | with_reducible rfl | omega) | exact dF (by first | assumption | with_reducible rfl | omega) | exact eT (by first | assumption | with_reducible rfl | omega) | exact eF (by first | assumption | with_reducible rfl | omega) | exact nT (by first | assumption | with_reducible rfl | omega) | exact nF (by first | assumption | with_reducible rfl | omega) | exact xT (by first | assumption | exact dT (by first | assumption | with_reducible rfl | omega) | exact dF (by first | assumption | with_reducible rfl | omega) | exact eT (by first | assumption | with_reducible rfl | omega) | exact eF (by first | assumption | with_reducible rfl | omega) | exact nT (by first | assumption | with_reducible rfl | omega) | exact nF (by first | assumption | with_reducible rfl | omega)) | exact xF (by first | assumption | exact dT (by first | assumption | with_reducible rfl | omega) | exact dF (by first | assumption | with_reducible rfl | omega) | exact eT (by first | assumption | with_reducible rfl | omega) | exact eF (by first | assumption | with_reducible rfl | omega) | exact nT (by first | assumption | with_reducible rfl | omega) | exact nF (by first | assumption | with_reducible rfl | omega)))) | (refine T_no rfl ?_ ?_; (· first | with_reducible rfl | assumption | exact Bool.not_false | exact Bool.not_true | exact dT (by first | assumption | with_reducible rfl | omega) | exact dF (by first | assumption | with_reducible rfl | omega) | exact eT (by first | assumption | with_reducible rfl | omega) | exact eF (by first | assumption | with_reducible rfl | omega) | exact nT (by first | assumption | with_reducible rfl | omega) | exact nF (by first | assumption | with_reducible rfl | omega) | exact xT (by first | assumption | exact dT (by first | assumption | with_reducible rfl | omega) | exact dF (by first | assumption | with_reducible rfl | omega) | exact eT (by first | assumption | with_reducible rfl | omega) | exact eF (by first | assumption | with_reducible rfl | omega) | exact nT (by first | assumption | with_reducible rfl | omega) | exact nF (by first | assumption | with_reducible rfl | omega)) | exact xF (by first | assumption | exact dT (by first | assumption | with_reducible rfl | omega) | exact dF (by first | assumption | with_reducible rfl | omega) | exact eT (by first | assumption | with_reducible rfl | omega) | exact eF (by first | assumption | with_reducible rfl | omega) | exact nT (by first | assumption | with_reducible rfl | omega) | exact nF (by first | assumption | with_reducible rfl | omega)))) | refine T_condD rfl (fun hc => ?_) (fun hc => ?_) | refine T_condE rfl (fun hc => ?_) (fun hc => ?_) | refine T_condN rfl (fun hc => ?_) (fun hc => ?_) | refine T_condXD rfl (fun hc => ?_) (fun hc => ?_) | refine T_condXE rfl (fun hc => ?_) (fun hc => ?_) | refine T_condX rfl (fun hc => ?_) (fun hc => ?_) | refine T_condB rfl (fun hc => ?_) (fun hc => ?_) | refine TL_gD rfl rfl (fun hc => ?_) (fun hc => ?_) | refine TL_gE rfl rfl (fun hc => ?_) (fun hc => ?_) | refine TL_gN rfl rfl (fun hc => ?_) (fun hc => ?_) | refine TL_gX rfl rfl (fun hc => ?_) (fun hc => ?_) | refine TL_gB rfl rfl (fun hc => ?_) (fun hc => ?_))
      all_goals first
        | (refine TQ_roundS (i + 1) ⟨hlt, hf3⟩ ?_ (fun w h => h) (by omega); repeat (first | exact trivial | refine ⟨rfl, ?_⟩))
        | exact absurd ⟨by assumption, by assumption, by assumption⟩ hpx'
  · have hin : i = l.length := by omega
    subst hin
    rw [List.drop_length] at heq
    repeat (first | with_reducible refine T_seq ?_ | with_reducible refine T_block ?_ | with_reducible refine T_region ?_ | with_reducible refine TL_nil ?_ | with_reducible refine TQ_then ?_ | with_reducible refine TQ_block ?_ | with_reducible refine T_skip ?_ | with_reducible refine T_label ?_ | with_reducible refine T_exit ?_ | with_reducible refine T_ret ?_ | with_reducible refine TQ_then_exit ?_ | with_reducible refine TQ_then_ret ?_ | with_reducible refine TQ_then_goto ?_ | with_reducible refine TQ_block_exit ?_ | with_reducible refine TQ_block_ret ?_ | with_reducible refine TQ_block_goto ?_ | with_reducible refine TQ_fall ?_ | (refine TQ_block_past ?_ ?_; (· decide)) | refine TL_q (op_move rfl) rfl ?_ | refine TL_q (op_assign rfl) rfl ?_ | (refine' TL_q (op_bin rfl rfl ?_) rfl ?_; rotate_left 1; (· first | exact bin_add ⟨by omega, by omega⟩ | exact bin_eql | exact bin_lss | exact sbin_eql | exact sbin_lss | exact sbin_add (by first | omega | (simp only [List.length_cons, List.length_nil]; omega)))) | (refine' TL_q (op_pickT rfl ?_ rfl) rfl ?_; (· first | with_reducible rfl | assumption | exact Bool.not_false | exact Bool.not_true | exact dT (by first | assumption | with_reducible rfl | omega) | exact dF (by first | assumption | with_reducible rfl | omega) | exact eT (by first | assumption | with_reducible rfl | omega) | exact eF (by first | assumption | with_reducible rfl | omega) | exact nT (by first | assumption | with_reducible rfl | omega) | exact nF (by first | assumption | with_reducible rfl | omega) | exact xT (by first | assumption | exact dT (by first | assumption | with_reducible rfl | omega) | exact dF (by first | assumption | with_reducible rfl | omega) | exact eT (by first | assumption | with_reducible rfl | omega) | exact eF (by first | assumption | with_reducible rfl | omega) | exact nT (by first | assumption | with_reducible rfl | omega) | exact nF (by first | assumption | with_reducible rfl | omega)) | exact xF (by first | assumption | exact dT (by first | assumption | with_reducible rfl | omega) | exact dF (by first | assumption | with_reducible rfl | omega) | exact eT (by first | assumption | with_reducible rfl | omega) | exact eF (by first | assumption | with_reducible rfl | omega) | exact nT (by first | assumption | with_reducible rfl | omega) | exact nF (by first | assumption | with_reducible rfl | omega)))) | (refine' TL_q (op_pickF rfl ?_ rfl) rfl ?_; (· first | with_reducible rfl | assumption | exact Bool.not_false | exact Bool.not_true | exact dT (by first | assumption | with_reducible rfl | omega) | exact dF (by first | assumption | with_reducible rfl | omega) | exact eT (by first | assumption | with_reducible rfl | omega) | exact eF (by first | assumption | with_reducible rfl | omega) | exact nT (by first | assumption | with_reducible rfl | omega) | exact nF (by first | assumption | with_reducible rfl | omega) | exact xT (by first | assumption | exact dT (by first | assumption | with_reducible rfl | omega) | exact dF (by first | assumption | with_reducible rfl | omega) | exact eT (by first | assumption | with_reducible rfl | omega) | exact eF (by first | assumption | with_reducible rfl | omega) | exact nT (by first | assumption | with_reducible rfl | omega) | exact nF (by first | assumption | with_reducible rfl | omega)) | exact xF (by first | assumption | exact dT (by first | assumption | with_reducible rfl | omega) | exact dF (by first | assumption | with_reducible rfl | omega) | exact eT (by first | assumption | with_reducible rfl | omega) | exact eF (by first | assumption | with_reducible rfl | omega) | exact nT (by first | assumption | with_reducible rfl | omega) | exact nF (by first | assumption | with_reducible rfl | omega)))) | refine TL_q (op_len_slice rfl Try.underlying40) rfl ?_ | (refine' TL_q (op_idx ety_40 rfl rfl ?_) rfl ?_; (· omega)) | (refine' TL_q (op_idxI ety_40 rfl rfl ?_ ?_) rfl ?_; (· omega); (· omega)) | refine TL_q (op_fld rfl fld_60_0) rfl ?_ | refine TL_q (op_fld rfl fld_60_1) rfl ?_ | refine TL_q (op_fld rfl fld_60_2) rfl ?_ | (refine' TL_q (op_ld rfl pl_9 ?_ ?_) rfl ?_; rotate_left 4; (· repeat (first | assumption | exact List.mem_cons_self | (apply List.mem_append_left; first | assumption | exact List.mem_cons_self) | apply List.mem_cons_of_mem | apply List.mem_append_right)); (· first | assumption | rfl)) | (refine' TL_q (op_ld rfl pl_23 ?_ ?_) rfl ?_; rotate_left 4; (· repeat (first | assumption | exact List.mem_cons_self | (apply List.mem_append_left; first | assumption | exact List.mem_cons_self) | apply List.mem_cons_of_mem | apply List.mem_append_right)); (· first | assumption | rfl)) | (refine' TL_q (op_ldAll rfl st_60 ?_ ?_) rfl ?_; rotate_left 3; (· repeat (first | assumption | exact List.mem_cons_self | (apply List.mem_append_left; first | assumption | exact List.mem_cons_self) | apply List.mem_cons_of_mem | apply List.mem_append_right)); (· first | assumption | rfl)) | (refine' TL_op (op_call hb_124 rfl (refNSame_S _ _ ?_ ?_)) rfl ?_; (· first | omega | decide); (· first | omega | decide)) | (refine' TG_op (op_call hb_124 rfl (refNSame_S _ _ ?_ ?_)) rfl ?_; (· first | omega | decide); (· first | omega | decide)) | (refine TL_gpre rfl rfl ?_ ?_; (· first | with_reducible rfl | assumption | exact Bool.not_false | exact Bool.not_true | exact dT (by first | assumption | with_reducible rfl | omega) | exact dF (by first | assumption | with_reducible rfl | omega) | exact eT (by first | assumption | with_reducible rfl | omega) | exact eF (by first | assumption | with_reducible rfl | omega) | exact nT (by first | assumption | with_reducible rfl | omega) | exact nF (by first | assumption | with_reducible rfl | omega) | exact xT (by first | assumption | exact dT (by first | assumption | with_reducible rfl | omega) | exact dF (by first | assumption | with_reducible rfl | omega) | exact eT (by first | assumption | with_reducible rfl | omega) | exact eF (by first | assumption | with_reducible rfl | omega) | exact nT (by first | assumption | with_reducible rfl | omega) | exact nF (by first | assumption | with_reducible rfl | omega)) | exact xF (by first | assumption | exact dT (by first | assumption | with_reducible rfl | omega) | exact dF (by first | assumption | with_reducible rfl | omega) | exact eT (by first | assumption | with_reducible rfl | omega) | exact eF (by first | assumption | with_reducible rfl | omega) | exact nT (by first | assumption | with_reducible rfl | omega) | exact nF (by first | assumption | with_reducible rfl | omega)))) | refine TL_gq2 (op_move rfl) rfl ?_ | refine TL_gq2 (op_assign rfl) rfl ?_ | (refine' TL_gq2 (op_bin rfl rfl ?_) rfl ?_; rotate_left 1; (· first | exact bin_add ⟨by omega, by omega⟩ | exact bin_eql | exact bin_lss | exact sbin_eql | exact sbin_lss | exact sbin_add (by first | omega | (simp only [List.length_cons, List.length_nil]; omega)))) | (refine' TL_gq2 (op_pickT rfl ?_ rfl) rfl ?_; (· first | with_reducible rfl | assumption | exact Bool.not_false | exact Bool.not_true | exact dT (by first | assumption | with_reducible rfl | omega) | exact dF (by first | assumption | with_reducible rfl | omega) | exact eT (by first | assumption | with_reducible rfl | omega) | exact eF (by first | assumption | with_reducible rfl | omega) | exact nT (by first | assumption | with_reducible rfl | omega) | exact nF (by first | assumption | with_reducible rfl | omega) | exact xT (by first | assumption | exact dT (by first | assumption | with_reducible rfl | omega) | exact dF (by first | assumption | with_reducible rfl | omega) | exact eT (by first | assumption | with_reducible rfl | omega) | exact eF (by first | assumption | with_reducible rfl | omega) | exact nT (by first | assumption | with_reducible rfl | omega) | exact nF (by first | assumption | with_reducible rfl | omega)) | exact xF (by first | assumption | exact dT (by first | assumption | with_reducible rfl | omega) | exact dF (by first | assumption | with_reducible rfl | omega) | exact eT (by first | assumption | with_reducible rfl | omega) | exact eF (by first | assumption | with_reducible rfl | omega) | exact nT (by first | assumption | with_reducible rfl | omega) | exact nF (by first | assumption | with_reducible rfl | omega)))) | (refine' TL_gq2 (op_pickF rfl ?_ rfl) rfl ?_; (· first | with_reducible rfl | assumption | exact Bool.not_false | exact Bool.not_true | exact dT (by first | assumption | with_reducible rfl | omega) | exact dF (by first | assumption | with_reducible rfl | omega) | exact eT (by first | assumption | with_reducible rfl | omega) | exact eF (by first | assumption | with_reducible rfl | omega) | exact nT (by first | assumption | with_reducible rfl | omega) | exact nF (by first | assumption | with_reducible rfl | omega) | exact xT (by first | assumption | exact dT (by first | assumption | with_reducible rfl | omega) | exact dF (by first | assumption | with_reducible rfl | omega) | exact eT (by first | assumption | with_reducible rfl | omega) | exact eF (by first | assumption | with_reducible rfl | omega) | exact nT (by first | assumption | with_reducible rfl | omega) | exact nF (by first | assumption | with_reducible rfl | omega)) | exact xF (by first | assumption | exact dT (by first | assumption | with_reducible rfl | omega) | exact dF (by first | assumption | with_reducible rfl | omega) | exact eT (by first | assumption | with_reducible rfl | omega) | exact eF (by first | assumption | with_reducible rfl | omega) | exact nT (by first | assumption | with_reducible rfl | omega) | exact nF (by first | assumption | with_reducible rfl | omega)))) | refine TL_gq2 (op_len_slice rfl Try.underlying40) rfl ?_ | (refine' TL_gq2 (op_idx ety_40 rfl rfl ?_) rfl ?_; (· omega)) | (refine' TL_gq2 (op_idxI ety_40 rfl rfl ?_ ?_) rfl ?_; (· omega); (· omega)) | refine TL_gq2 (op_fld rfl fld_60_0) rfl ?_ | refine TL_gq2 (op_fld rfl fld_60_1) rfl ?_ | refine TL_gq2 (op_fld rfl fld_60_2) rfl ?_ | (refine' TL_gq2 (op_ld rfl pl_9 ?_ ?_) rfl ?_; rotate_left 4; (· repeat (first | assumption | exact List.mem_cons_self | (apply List.mem_append_left; first | assumption | exact List.mem_cons_self) | apply List.mem_cons_of_mem | apply List.mem_append_right)); (· first | assumption | rfl)) | (refine' TL_gq2 (op_ld rfl pl_23 ?_ ?_) rfl ?_; rotate_left 4; (· repeat (first | assumption | exact List.mem_cons_self | (apply List.mem_append_left; first | assumption | exact List.mem_cons_self) | apply List.mem_cons_of_mem | apply List.mem_append_right)); (· first | assumption | rfl)) | (refine' TL_gq2 (op_ldAll rfl st_60 ?_ ?_) rfl ?_; rotate_left 3; (· repeat (first | assumption | exact List.mem_cons_self | (apply List.mem_append_left; first | assumption | exact List.mem_cons_self) | apply List.mem_cons_of_mem | apply List.mem_append_right)); (· first | assumption | rfl)) | (refine TL_gno rfl rfl ?_ rfl ?_; (· first | with_reducible rfl | assumption | exact Bool.not_false | exact Bool.not_true | exact dT (by first | assumption | with_reducible rfl | omega) | exact dF (by first | assumption | with_reducible rfl | omega) | exact eT (by first | assumption | with_reducible rfl | omega) | exact eF (by first | assumption | with_reducible rfl | omega) | exact nT (by first | assumption | with_reducible rfl | omega) | exact nF (by first | assumption | with_reducible rfl | omega) | exact xT (by first | assumption | exact dT (by first | assumption | with_reducible rfl | omega) | exact dF (by first | assumption | with_reducible rfl | omega) | exact eT (by first | assumption | with_reducible rfl | omega) | exact eF (by first | assumption | with_reducible rfl | omega) | exact nT (by first | assumption | with_reducible rfl | omega) | exact nF (by first | assumption | with_reducible rfl | omega)) | exact xF (by first | assumption | exact dT (by first | assumption | with_reducible rfl | omega) | exact dF (by first | assumption | with_reducible rfl | omega) | exact eT (by first | assumption | with_reducible rfl | omega) | exact eF (by first | assumption | with_reducible rfl | omega) | exact nT (by first | assumption | with_reducible rfl | omega) | exact nF (by first | assumption | with_reducible rfl | omega)))) | refine TL_gundef rfl rfl rfl ?_ | (refine TL_stAll rfl rfl st_60 rfl rfl rfl ?_) | (refine TL_new (op_alloc (C := #[(.string (bs [])), (.int .u16 0), (.int .u16 0), (.int .u32 0), (.slice none 0 0)]) zero_60 rfl) rfl ?_; intro bNew) | refine TL_q (op_build rfl (bl_60_ )) rfl ?_ | refine TL_gq2 (op_build rfl (bl_60_ )) rfl ?_ | (refine T_yes rfl ?_ ?_; (· first | with_reducible rfl | assumption | exact Bool.not_false | exact Bool.not_true | exact dT (by first | assumption | with_reducible rfl | omega) | exact dF (by first | assumption | with_reducible rfl | omega) | exact eT (by first | assumption | with_reducible rfl | omega) | exact eF (by first | assumption | with_reducible rfl | omega) | exact nT (by first | assumption | with_reducible rfl | omega) | exact nF (by first | assumption | with_reducible rfl | omega) | exact xT (by first | assumption | exact dT (by first | assumption | with_reducible rfl | omega) | exact dF (by first | assumption | with_reducible rfl | omega) | exact eT (by first | assumption | with_reducible rfl | omega) | exact eF (by first | assumption | with_reducible rfl | omega) | exact nT (by first | assumption | with_reducible rfl | omega) | exact nF (by first | assumption | with_reducible rfl | omega)) | exact xF (by first | assumption | exact dT (by first | assumption | with_reducible rfl | omega) | exact dF (by first | assumption | with_reducible rfl | omega) | exact eT (by first | assumption | with_reducible rfl | omega) | exact eF (by first | assumption | with_reducible rfl | omega) | exact nT (by first | assumption | with_reducible rfl | omega) | exact nF (by first | assumption | with_reducible rfl | omega)))) | (refine T_no rfl ?_ ?_; (· first | with_reducible rfl | assumption | exact Bool.not_false | exact Bool.not_true | exact dT (by first | assumption | with_reducible rfl | omega) | exact dF (by first | assumption | with_reducible rfl | omega) | exact eT (by first | assumption | with_reducible rfl | omega) | exact eF (by first | assumption | with_reducible rfl | omega) | exact nT (by first | assumption | with_reducible rfl | omega) | exact nF (by first | assumption | with_reducible rfl | omega) | exact xT (by first | assumption | exact dT (by first | assumption | with_reducible rfl | omega) | exact dF (by first | assumption | with_reducible rfl | omega) | exact eT (by first | assumption | with_reducible rfl | omega) | exact eF (by first | assumption | with_reducible rfl | omega) | exact nT (by first | assumption | with_reducible rfl | omega) | exact nF (by first | assumption | with_reducible rfl | omega)) | exact xF (by first | assumption | exact dT (by first | assumption | with_reducible rfl | omega) | exact dF (by first | assumption | with_reducible rfl | omega) | exact eT (by first | assumption | with_reducible rfl | omega) | exact eF (by first | assumption | with_reducible rfl | omega) | exact nT (by first | assumption | with_reducible rfl | omega) | exact nF (by first | assumption | with_reducible rfl | omega)))))
    refine TQ_retC2 8 60 9 rfl rfl rfl st_60 (by repeat ((exact List.mem_cons_self))) rfl (fun w h => h.tail) ?_
    refine ⟨[.string (bs []), .int .u16 0, .int .u16 0, .int .u32 0, .slice none 0 0], ?_, ?_, rfl⟩
    · rw [hF, ← heq]; rfl
    · rw [hF, ← heq]; exact rs_none
end Go.Proofs.Ytdflhdfapnhjjaa
namespace Go.Proofs.Ytdflhdfapnhjjaa
open Go.RowKit
open Vd (RSet Vdt Vote Rec Quest Piece)
set_option linter.unusedVariables false
set_option linter.unusedSimpArgs false
--auto
variable {G : World} {L : Blocks}
theorem nLabels_le (n : Vd.Bytes) : Vd.nLabels n ≤ 254 := (labels_len n).1
theorem labels10_S (n : Vd.Bytes) (h : n.length ≤ 1000000) : Spec Try.prog G 103 #[.string (bs n)] L fun u M => u = .int .i64 (Vd.nLabels n : Nat) ∧ M = L := by
  refine Spec_of (n := 12) Try.func103 rfl rfl rfl ?_
  repeat ((first | with_reducible refine T_seq ?_ | with_reducible refine T_region ?_ | with_reducible refine TL_nil ?_ | with_reducible refine TQ_then ?_ | refine TL_q (op_move rfl) rfl ?_ | refine TL_q (op_assign rfl) rfl ?_))
  refine TL_opT (op_call hb_86 rfl (refLabels_S n h)) rfl ?_
  rintro _ _ ⟨v, B, rfl, hR, rfl⟩
  obtain ⟨a, c, rfl⟩ := hR.slice
  repeat ((first | with_reducible refine T_seq ?_ | with_reducible refine T_region ?_ | with_reducible refine TL_nil ?_ | with_reducible refine TQ_then ?_ | with_reducible refine T_ret ?_ | refine TL_q (op_move rfl) rfl ?_ | refine TL_q (op_assign rfl) rfl ?_ | refine TL_q (op_extract rfl rfl) rfl ?_ | refine TL_q (op_len_slice rfl Try.underlying58) rfl ?_))
  refine TQ_heap (fun w h => h.sub (List.sublist_append_right _ _)) ?_
  refine TQ_ret1 2 _ rfl rfl ?_
  exact ⟨rfl, rfl⟩
set_option maxRecDepth 100000 in
theorem Fits_S {K : Blocks} (cs : List Value) (s : RSet) (n : Vd.Bytes) (c : Int) (hs : rsR K cs s) (h1 : s.name.length ≤ 1000000) (h2 : n.length ≤ 1000000) : Spec Try.prog G 102 #[.agg cs.toArray, .string (bs n), .int .u16 c] L fun u M => u = .bool (Vd.fits s n c) ∧ M = L := by
  obtain ⟨a, k, rfl, _⟩ := hs.val
  refine Spec_of (n := 22) Try.func102 rfl rfl rfl ?_
  repeat' ((first | with_reducible refine T_seq ?_ | with_reducible refine T_region ?_ | with_reducible refine TL_nil ?_ | with_reducible refine TQ_then ?_ | with_reducible refine T_ret ?_ | refine TL_q (op_move rfl) rfl ?_ | refine TL_q (op_assign rfl) rfl ?_ | (refine' TL_q (op_bin rfl rfl ?_) rfl ?_; rotate_left 1; (· (exact bin_eql))) | (refine' TL_q (op_pickT rfl ?_ rfl) rfl ?_; (· (exact dT (by (assumption))))) | (refine' TL_q (op_pickF rfl ?_ rfl) rfl ?_; (· (first | with_reducible rfl | exact dF (by (assumption))))) | refine TL_q (op_fld rfl fld_60_1) rfl ?_ | (refine' TL_q (op_ld rfl pl_9 ?_ ?_) rfl ?_; rotate_left 4; (· repeat ((exact List.mem_cons_self))); (· (rfl))) | (refine' TG_op (op_call hb_127 rfl (refWithin_S _ _ ?_ ?_)) rfl ?_; (· (omega)); (· (omega))) | (refine TL_gpre rfl rfl ?_ ?_; (· (exact dT (by (assumption))))) | refine TL_gq2 (op_move rfl) rfl ?_ | (refine' TL_gq2 (op_bin rfl rfl ?_) rfl ?_; rotate_left 1; (· (exact bin_eql))) | refine TL_gq2 (op_fld rfl fld_60_0) rfl ?_ | refine TL_gq2 (op_fld rfl fld_60_2) rfl ?_ | (refine' TL_gq2 (op_ld rfl pl_9 ?_ ?_) rfl ?_; rotate_left 4; (· repeat ((exact List.mem_cons_self))); (· (rfl))) | (refine TL_gno rfl rfl ?_ rfl ?_; (· (first | exact Bool.not_true | exact dF (by (assumption))))) | (refine TL_new (op_boxA rfl) rfl ?_; intro bBox) | refine TL_gD rfl rfl (fun hc => ?_) (fun hc => ?_)))
  all_goals (refine TQ_heap (fun w h => h.tail) ?_)
  all_goals
    refine TQ_ret1 6 _ rfl rfl ?_
  all_goals (refine ⟨?_, rfl⟩; simp [Vd.fits, *])
theorem bestAt_bd (l : List RSet) (n : Vd.Bytes) (c : Int) : ∀ j, j ≤ l.length → -1 ≤ Vd.bestAt l n c j ∧ Vd.bestAt l n c j < j
  | 0, _ => by simp [Vd.bestAt]
  | j + 1, h => by
    have ih := bestAt_bd l n c j (by omega)
    rw [Vd.bestAt, List.getElem?_eq_getElem (by omega)]
    dsimp only
    split <;> omega
set_option maxRecDepth 100000 in
set_option maxHeartbeats 2000000 in
theorem rFind10_S {K N : Blocks} (v : Value) (l : List RSet) (n : Vd.Bytes) (c : Int) (hK : ∀ p ∈ K, p ∈ L) (hl : sliceR 5 (fun _ => rsR N) K [v] l) (hn : n.length ≤ 1000000) (hs : ∀ s ∈ l, s.name.length ≤ 1000000) :
    Spec Try.prog G 84 #[v, .string (bs n), .int .u16 c] L fun u M => ∃ cs, u = .tuple #[.agg cs.toArray, .bool (Vd.findSoa l n c).2.1, .int .i64 (Vd.findSoa l n c).2.2] ∧ rsR N cs (Vd.findSoa l n c).1 ∧ M = L := by
  obtain ⟨a, ca, e1, hl⟩ := hl.val
  simp only [List.cons.injEq, and_true] at e1
  subst e1
  obtain ⟨_, k1, k2, hl⟩ := sliceR.cut hl
  unfold maxLen at k2
  refine Spec_of (n := 59) Try.func84 rfl rfl rfl ?_
  repeat ((first | with_reducible refine T_seq ?_ | with_reducible refine T_block ?_ | with_reducible refine T_region ?_ | with_reducible refine TL_nil ?_ | with_reducible refine TQ_then ?_ | refine TL_q (op_assign rfl) rfl ?_ | (refine TL_new (op_alloc (C := #[(.string (bs [])), (.int .u16 0), (.int .u16 0), (.int .u32 0), (.slice none 0 0)]) zero_60 rfl) rfl ?_; intro bNew)))
  refine T_loopS (σ := Nat) (fun i => i ≤ l.length) (fun i => [(0, .slice a l.length ca), (1, .string (bs n)), (2, .int .u16 c), (6, .pointer (some ⟨bNew, 0, none⟩)), (9, .int .i64 (Vd.bestAt l n c i)), (10, .int .i64 (i : Nat))]) (fun i => (bNew, Obj.cells #[.string (bs []), .int .u16 0, .int .u16 0, .int .u32 0, .slice none 0 0] 60 (0, 0)) :: L) (fun i => l.length - i) 0 (Nat.zero_le _) ?_ (fun w h => h) ?_
  (repeat ((first | exact trivial | refine ⟨rfl, ?_⟩)))
  intro i hi
  have hbd := bestAt_bd l n c i hi
  by_cases hlt : i < l.length
  · rcases hl with rfl | ⟨b1, o1, C1, t1, f1, rfl, m1, q1⟩
    · simp at hlt
    have m1 := hK _ m1
    obtain ⟨x, hx⟩ : ∃ x, l[i]? = some x := ⟨_, List.getElem?_eq_getElem hlt⟩
    obtain ⟨cx, _, hx2, hcx⟩ := q1 i x hx
    have hxn := hs x (List.mem_of_getElem? hx)
    obtain ⟨xa, xc, rfl, _⟩ := hx2.val
    have g0 : C1[o1 + i * 5 + 0]? = some (.string (bs x.name)) := hcx 0 _ rfl
    have hL1 := nLabels_le x.name
    have hst : Vd.bestAt l n c (i + 1) = if Vd.fits x n c && (decide (Vd.bestAt l n c i < 0) || (match l[(Vd.bestAt l n c i).toNat]? with | some t => decide (Vd.nLabels t.name < Vd.nLabels x.name) | none => false)) then (i : Int) else Vd.bestAt l n c i := by
      rw [Vd.bestAt, hx]; rfl
    have hKm : ∀ z ∈ [(b1, Obj.cells C1 t1 f1)], z ∈ (bNew, Obj.cells #[.string (bs []), .int .u16 0, .int .u16 0, .int .u32 0, .slice none 0 0] 60 (0, 0)) :: L := fun z hz => by rw [List.mem_singleton.1 hz]; exact List.mem_cons_of_mem _ m1
    cases hf : Vd.fits x n c with
    | false =>
      rw [hf, Bool.false_and, if_neg (by simp)] at hst
      repeat ((first | with_reducible refine T_seq ?_ | with_reducible refine T_block ?_ | with_reducible refine T_region ?_ | with_reducible refine TL_nil ?_ | with_reducible refine TQ_then ?_ | with_reducible refine T_skip ?_ | refine TL_q (op_move rfl) rfl ?_ | (refine' TL_q (op_bin rfl rfl ?_) rfl ?_; rotate_left 1; (· (exact bin_lss))) | refine TL_q (op_len_slice rfl Try.underlying40) rfl ?_ | (refine T_yes rfl ?_ ?_; (· (exact dT (by (omega)))))))
      refine T_draw follows_mixed ([(b1, Obj.cells C1 t1 f1)]) [] ?_
      (refine' TA_take 0 rfl rfl (by kernel_rfl) (quiet_q (op_move rfl)) ?_ ?_; (· (assumption)))
      (refine' TA_take 1 rfl rfl (by kernel_rfl) (quiet_q (op_move rfl)) ?_ ?_; (· (assumption)))
      (refine' TA_take 2 rfl rfl (by kernel_rfl) (quiet_q (op_idx ety_40 rfl rfl ?_)) ?_ ?_; (· omega); (· (assumption)))
      (refine' TA_take 3 rfl rfl (by kernel_rfl) (quiet_q (op_ldA [.string (bs x.name), .int .u16 x.kind, .int .u16 x.cls, .int .u32 x.ttl, .slice xa x.data.length xc] rfl st_60 (List.mem_cons_self ..) hcx)) ?_ ?_; (· (assumption)))
      (refine' TA_take 4 rfl rfl (by kernel_rfl) (quiet_q (op_move rfl)) ?_ ?_; (· (assumption)))
      (refine' TA_take 5 rfl rfl (by kernel_rfl) (quiet_q (op_move rfl)) ?_ ?_; (· (assumption)))
      refine' TA_take 6 rfl rfl (by kernel_rfl) (quiet_call hb_102 rfl (fun _ _ => (Fits_S _ _ _ _ hx2) ?_ ?_)) ?_ ?_; (· (omega)); (· (omega)); (· (assumption))
      (refine' TA_take 7 rfl rfl (by kernel_rfl) (quiet_q (op_move rfl)) ?_ ?_; (· (assumption)))
      (refine TA_take 8 rfl rfl (by kernel_rfl) (quiet_no2 rfl rfl ?_) ?_ ?_; (· (assumption)); (· (assumption)))
      (refine TA_take 9 rfl rfl (by kernel_rfl) (quiet_no2 rfl rfl ?_) ?_ ?_; (· (assumption)); (· (assumption)))
      (refine TA_take 10 rfl rfl (by kernel_rfl) (quiet_no2 rfl rfl ?_) ?_ ?_; (· (assumption)); (· (assumption)))
      (refine TA_take 11 rfl rfl (by kernel_rfl) (quiet_undef rfl rfl) ?_ ?_; (· (assumption)))
      (refine TA_take 12 rfl rfl (by kernel_rfl) (quiet_undef rfl rfl) ?_ ?_; (· (assumption)))
      (refine TA_take 13 rfl rfl (by kernel_rfl) (quiet_undef rfl rfl) ?_ ?_; (· (assumption)))
      (refine TA_take 14 rfl rfl (by kernel_rfl) (quiet_undef rfl rfl) ?_ ?_; (· (assumption)))
      (refine TA_take 15 rfl rfl (by kernel_rfl) (quiet_undef rfl rfl) ?_ ?_; (· (assumption)))
      (refine TA_take 16 rfl rfl (by kernel_rfl) (quiet_undef rfl rfl) ?_ ?_; (· (assumption)))
      (refine TA_take 17 rfl rfl (by kernel_rfl) (quiet_undef rfl rfl) ?_ ?_; (· (assumption)))
      (refine TA_take 18 rfl rfl (by kernel_rfl) (quiet_undef rfl rfl) ?_ ?_; (· (assumption)))
      (refine TA_take 19 rfl rfl (by kernel_rfl) (quiet_undef rfl rfl) ?_ ?_; (· (assumption)))
      (refine TA_take 20 rfl rfl (by kernel_rfl) (quiet_undef rfl rfl) ?_ ?_; (· (assumption)))
      (refine TA_take 21 rfl rfl (by kernel_rfl) (quiet_undef rfl rfl) ?_ ?_; (· (assumption)))
      (refine TA_take 22 rfl rfl (by kernel_rfl) (quiet_undef rfl rfl) ?_ ?_; (· (assumption)))
      (refine TA_take 23 rfl rfl (by kernel_rfl) (quiet_undef rfl rfl) ?_ ?_; (· (assumption)))
      (refine TA_take 24 rfl rfl (by kernel_rfl) (quiet_no2 rfl rfl ?_) ?_ ?_; (· (assumption)); (· (assumption)))
      (refine' TA_take 25 rfl rfl (by kernel_rfl) (quiet_q (op_pickF rfl ?_ rfl)) ?_ ?_; (· (assumption)); (· (assumption)))
      refine TA_done (by kernel_rfl) ?_
      repeat ((first | with_reducible refine T_region ?_ | with_reducible refine TL_nil ?_ | with_reducible refine TQ_then ?_ | with_reducible refine TQ_block ?_ | with_reducible refine T_skip ?_ | refine TL_q (op_move rfl) rfl ?_ | refine TL_q (op_assign rfl) rfl ?_ | (refine' TL_q (op_bin rfl rfl ?_) rfl ?_; rotate_left 1; (· (exact bin_add ⟨by omega, by omega⟩))) | (refine T_no rfl ?_ ?_; (· (with_reducible rfl)))))
      refine TQ_roundS (i + 1) hlt ?_ (fun w h => h) (by omega)
      rw [hst]
      (repeat (first | exact trivial | refine ⟨rfl, ?_⟩))
    | true =>
      rw [hf, Bool.true_and] at hst
      by_cases hb : Vd.bestAt l n c i < 0
      · rw [if_pos (by simp [hb])] at hst
        repeat ((first | with_reducible refine T_seq ?_ | with_reducible refine T_block ?_ | with_reducible refine T_region ?_ | with_reducible refine TL_nil ?_ | with_reducible refine TQ_then ?_ | with_reducible refine T_skip ?_ | refine TL_q (op_move rfl) rfl ?_ | (refine' TL_q (op_bin rfl rfl ?_) rfl ?_; rotate_left 1; (· (exact bin_lss))) | refine TL_q (op_len_slice rfl Try.underlying40) rfl ?_ | (refine T_yes rfl ?_ ?_; (· (exact dT (by (omega)))))))
        refine T_draw follows_mixed ([(b1, Obj.cells C1 t1 f1)]) [] ?_
        (refine' TA_take 0 rfl rfl (by kernel_rfl) (quiet_q (op_move rfl)) ?_ ?_; (· (assumption)))
        (refine' TA_take 1 rfl rfl (by kernel_rfl) (quiet_q (op_move rfl)) ?_ ?_; (· (assumption)))
        (refine' TA_take 2 rfl rfl (by kernel_rfl) (quiet_q (op_idx ety_40 rfl rfl ?_)) ?_ ?_; (· omega); (· (assumption)))
        (refine' TA_take 3 rfl rfl (by kernel_rfl) (quiet_q (op_ldA [.string (bs x.name), .int .u16 x.kind, .int .u16 x.cls, .int .u32 x.ttl, .slice xa x.data.length xc] rfl st_60 (List.mem_cons_self ..) hcx)) ?_ ?_; (· (assumption)))
        (refine' TA_take 4 rfl rfl (by kernel_rfl) (quiet_q (op_move rfl)) ?_ ?_; (· (assumption)))
        (refine' TA_take 5 rfl rfl (by kernel_rfl) (quiet_q (op_move rfl)) ?_ ?_; (· (assumption)))
        refine' TA_take 6 rfl rfl (by kernel_rfl) (quiet_call hb_102 rfl (fun _ _ => (Fits_S _ _ _ _ hx2) ?_ ?_)) ?_ ?_; (· (omega)); (· (omega)); (· (assumption))
        (refine' TA_take 7 rfl rfl (by kernel_rfl) (quiet_q (op_move rfl)) ?_ ?_; (· (assumption)))
        (refine' TA_take 8 rfl rfl (by kernel_rfl) (quiet_g2 rfl rfl (by (assumption)) (op_move rfl)) ?_ ?_; (· (assumption)))
        (refine' TA_take 9 rfl rfl (by kernel_rfl) (quiet_g2 rfl rfl (by (assumption)) (op_bin rfl rfl ?_)) ?_ ?_; rotate_left 1; (· (exact bin_lss)); (· (assumption)))
        (refine' TA_take 10 rfl rfl (by kernel_rfl) (quiet_g2 rfl rfl (by (assumption)) (op_move rfl)) ?_ ?_; (· (assumption)))
        (refine TA_take 11 rfl rfl (by kernel_rfl) (quiet_no2 rfl rfl ?_) ?_ ?_; (· (exact dT (by (assumption)))); (· (assumption)))
        (refine TA_take 12 rfl rfl (by kernel_rfl) (quiet_no2 rfl rfl ?_) ?_ ?_; (· (exact dT (by (assumption)))); (· (assumption)))
        (refine TA_take 13 rfl rfl (by kernel_rfl) (quiet_no2 rfl rfl ?_) ?_ ?_; (· (exact dT (by (assumption)))); (· (assumption)))
        (refine TA_take 14 rfl rfl (by kernel_rfl) (quiet_no2 rfl rfl ?_) ?_ ?_; (· (exact dT (by (assumption)))); (· (assumption)))
        (refine TA_take 15 rfl rfl (by kernel_rfl) (quiet_no2 rfl rfl ?_) ?_ ?_; (· (exact dT (by (assumption)))); (· (assumption)))
        (refine TA_take 16 rfl rfl (by kernel_rfl) (quiet_no2 rfl rfl ?_) ?_ ?_; (· (exact dT (by (assumption)))); (· (assumption)))
        (refine TA_take 17 rfl rfl (by kernel_rfl) (quiet_no2 rfl rfl ?_) ?_ ?_; (· (exact dT (by (assumption)))); (· (assumption)))
        (refine TA_take 18 rfl rfl (by kernel_rfl) (quiet_no2 rfl rfl ?_) ?_ ?_; (· (exact dT (by (assumption)))); (· (assumption)))
        (refine TA_take 19 rfl rfl (by kernel_rfl) (quiet_no2 rfl rfl ?_) ?_ ?_; (· (exact dT (by (assumption)))); (· (assumption)))
        (refine TA_take 20 rfl rfl (by kernel_rfl) (quiet_no2 rfl rfl ?_) ?_ ?_; (· (exact dT (by (assumption)))); (· (assumption)))
        (refine TA_take 21 rfl rfl (by kernel_rfl) (quiet_no2 rfl rfl ?_) ?_ ?_; (· (exact dT (by (assumption)))); (· (assumption)))
        (refine TA_take 22 rfl rfl (by kernel_rfl) (quiet_no2 rfl rfl ?_) ?_ ?_; (· (exact dT (by (assumption)))); (· (assumption)))
        (refine TA_take 23 rfl rfl (by kernel_rfl) (quiet_no2 rfl rfl ?_) ?_ ?_; (· (exact dT (by (assumption)))); (· (assumption)))
        (refine' TA_take 24 rfl rfl (by kernel_rfl) (quiet_g2 rfl rfl (by (assumption)) (op_pickT rfl ?_ rfl)) ?_ ?_; (· (exact dT (by (assumption)))); (· (assumption)))
        (refine' TA_take 25 rfl rfl (by kernel_rfl) (quiet_q (op_pickT rfl ?_ rfl)) ?_ ?_; (· (assumption)); (· (assumption)))
        refine TA_done (by kernel_rfl) ?_
        repeat ((first | with_reducible refine T_region ?_ | with_reducible refine TL_nil ?_ | with_reducible refine TQ_then ?_ | with_reducible refine TQ_block ?_ | refine TL_q (op_move rfl) rfl ?_ | refine TL_q (op_assign rfl) rfl ?_ | (refine' TL_q (op_bin rfl rfl ?_) rfl ?_; rotate_left 1; (· (exact bin_add ⟨by omega, by omega⟩))) | (refine T_yes rfl ?_ ?_; (· (with_reducible rfl)))))
        refine TQ_roundS (i + 1) hlt ?_ (fun w h => h) (by omega)
        rw [hst]
        (repeat ((first | exact trivial | refine ⟨rfl, ?_⟩)))
      · obtain ⟨y, hy⟩ : ∃ y, l[(Vd.bestAt l n c i).toNat]? = some y := ⟨_, List.getElem?_eq_getElem (by omega)⟩
        obtain ⟨cy, _, hy2, hcy⟩ := q1 _ y hy
        obtain ⟨ya, yc, rfl, _⟩ := hy2.val
        have g1 : C1[o1 + (Vd.bestAt l n c i).toNat * 5 + 0]? = some (.string (bs y.name)) := hcy 0 _ rfl
        have hyn := hs y (List.mem_of_getElem? hy)
        have hL2 := nLabels_le y.name
        rw [hy] at hst
        dsimp only at hst
        by_cases hc : Vd.nLabels y.name < Vd.nLabels x.name
        · rw [if_pos (by simp [hc])] at hst
          repeat ((first | with_reducible refine T_seq ?_ | with_reducible refine T_block ?_ | with_reducible refine T_region ?_ | with_reducible refine TL_nil ?_ | with_reducible refine TQ_then ?_ | with_reducible refine T_skip ?_ | refine TL_q (op_move rfl) rfl ?_ | (refine' TL_q (op_bin rfl rfl ?_) rfl ?_; rotate_left 1; (· (exact bin_lss))) | refine TL_q (op_len_slice rfl Try.underlying40) rfl ?_ | (refine T_yes rfl ?_ ?_; (· (exact dT (by (omega)))))))
          refine T_draw follows_mixed ([(b1, Obj.cells C1 t1 f1)]) [] ?_
          (refine' TA_take 0 rfl rfl (by kernel_rfl) (quiet_q (op_move rfl)) ?_ ?_; (· (assumption)))
          (refine' TA_take 1 rfl rfl (by kernel_rfl) (quiet_q (op_move rfl)) ?_ ?_; (· (assumption)))
          (refine' TA_take 2 rfl rfl (by kernel_rfl) (quiet_q (op_idx ety_40 rfl rfl ?_)) ?_ ?_; (· omega); (· (assumption)))
          (refine' TA_take 3 rfl rfl (by kernel_rfl) (quiet_q (op_ldA [.string (bs x.name), .int .u16 x.kind, .int .u16 x.cls, .int .u32 x.ttl, .slice xa x.data.length xc] rfl st_60 (List.mem_cons_self ..) hcx)) ?_ ?_; (· (assumption)))
          (refine' TA_take 4 rfl rfl (by kernel_rfl) (quiet_q (op_move rfl)) ?_ ?_; (· (assumption)))
          (refine' TA_take 5 rfl rfl (by kernel_rfl) (quiet_q (op_move rfl)) ?_ ?_; (· (assumption)))
          refine' TA_take 6 rfl rfl (by kernel_rfl) (quiet_call hb_102 rfl (fun _ _ => (Fits_S _ _ _ _ hx2) ?_ ?_)) ?_ ?_; (· (omega)); (· (omega)); (· (assumption))
          (refine' TA_take 7 rfl rfl (by kernel_rfl) (quiet_q (op_move rfl)) ?_ ?_; (· (assumption)))
          (refine' TA_take 8 rfl rfl (by kernel_rfl) (quiet_g2 rfl rfl (by (assumption)) (op_move rfl)) ?_ ?_; (· (assumption)))
          (refine' TA_take 9 rfl rfl (by kernel_rfl) (quiet_g2 rfl rfl (by (assumption)) (op_bin rfl rfl ?_)) ?_ ?_; rotate_left 1; (· (exact bin_lss)); (· (assumption)))
          (refine' TA_take 10 rfl rfl (by kernel_rfl) (quiet_g2 rfl rfl (by (assumption)) (op_move rfl)) ?_ ?_; (· (assumption)))
          (refine' TA_take 11 rfl rfl (by kernel_rfl) (quiet_g2 rfl rfl (by (exact dF (by (assumption)))) (op_move rfl)) ?_ ?_; (· (assumption)))
          (refine' TA_take 12 rfl rfl (by kernel_rfl) (quiet_g2 rfl rfl (by (exact dF (by (assumption)))) (op_move rfl)) ?_ ?_; (· (assumption)))
          (refine' TA_take 13 rfl rfl (by kernel_rfl) (quiet_g2 rfl rfl (by (exact dF (by (assumption)))) (op_idx ety_40 rfl rfl ?_)) ?_ ?_; (· omega); (· (assumption)))
          (refine' TA_take 14 rfl rfl (by kernel_rfl) (quiet_g2 rfl rfl (by (exact dF (by (assumption)))) (op_fld rfl fld_60_0)) ?_ ?_; (· (assumption)))
          (refine' TA_take 15 rfl rfl (by kernel_rfl) (quiet_g2 rfl rfl (by (exact dF (by (assumption)))) (op_ld rfl pl_9 ?_ ?_)) ?_ ?_; rotate_left 4; (· repeat ((exact List.mem_cons_self))); (· (assumption)); (· (assumption)))
          (refine' TA_take 16 rfl rfl (by kernel_rfl) (quiet_callG2 rfl rfl (by (exact dF (by (assumption)))) hb_103 rfl (fun _ _ => labels10_S _ ?_)) ?_ ?_; (· (omega)); (· (assumption)))
          (refine' TA_take 17 rfl rfl (by kernel_rfl) (quiet_g2 rfl rfl (by (exact dF (by (assumption)))) (op_move rfl)) ?_ ?_; (· (assumption)))
          (refine' TA_take 18 rfl rfl (by kernel_rfl) (quiet_g2 rfl rfl (by (exact dF (by (assumption)))) (op_move rfl)) ?_ ?_; (· (assumption)))
          (refine' TA_take 19 rfl rfl (by kernel_rfl) (quiet_g2 rfl rfl (by (exact dF (by (assumption)))) (op_idxI ety_40 rfl rfl ?_ ?_)) ?_ ?_; (· omega); (· omega); (· (assumption)))
          (refine' TA_take 20 rfl rfl (by kernel_rfl) (quiet_g2 rfl rfl (by (exact dF (by (assumption)))) (op_fld rfl fld_60_0)) ?_ ?_; (· (assumption)))
          (refine' TA_take 21 rfl rfl (by kernel_rfl) (quiet_g2 rfl rfl (by (exact dF (by (assumption)))) (op_ld rfl pl_9 ?_ ?_)) ?_ ?_; rotate_left 4; (· repeat ((exact List.mem_cons_self))); (· (assumption)); (· (assumption)))
          (refine' TA_take 22 rfl rfl (by kernel_rfl) (quiet_callG2 rfl rfl (by (exact dF (by (assumption)))) hb_103 rfl (fun _ _ => labels10_S _ ?_)) ?_ ?_; (· (omega)); (· (assumption)))
          (refine' TA_take 23 rfl rfl (by kernel_rfl) (quiet_g2 rfl rfl (by (exact dF (by (assumption)))) (op_bin rfl rfl ?_)) ?_ ?_; rotate_left 1; (· (exact bin_gtr)); (· (assumption)))
          (refine' TA_take 24 rfl rfl (by kernel_rfl) (quiet_g2 rfl rfl (by (assumption)) (op_pickF rfl ?_ rfl)) ?_ ?_; (· (exact dF (by (assumption)))); (· (assumption)))
          (refine' TA_take 25 rfl rfl (by kernel_rfl) (quiet_q (op_pickT rfl ?_ rfl)) ?_ ?_; (· (assumption)); (· (assumption)))
          refine TA_done (by kernel_rfl) ?_
          repeat ((first | with_reducible refine T_region ?_ | with_reducible refine TL_nil ?_ | with_reducible refine TQ_then ?_ | with_reducible refine TQ_block ?_ | refine TL_q (op_move rfl) rfl ?_ | refine TL_q (op_assign rfl) rfl ?_ | (refine' TL_q (op_bin rfl rfl ?_) rfl ?_; rotate_left 1; (· (exact bin_add ⟨by omega, by omega⟩))) | (refine T_yes rfl ?_ ?_; (· (exact dT (by (omega)))))))
          refine TQ_roundS (i + 1) hlt ?_ (fun w h => h) (by omega)
          rw [hst]
          (repeat ((first | exact trivial | refine ⟨rfl, ?_⟩)))
        · rw [if_neg (by simp [hc, hb])] at hst
          repeat ((first | with_reducible refine T_seq ?_ | with_reducible refine T_block ?_ | with_reducible refine T_region ?_ | with_reducible refine TL_nil ?_ | with_reducible refine TQ_then ?_ | with_reducible refine T_skip ?_ | refine TL_q (op_move rfl) rfl ?_ | (refine' TL_q (op_bin rfl rfl ?_) rfl ?_; rotate_left 1; (· (exact bin_lss))) | refine TL_q (op_len_slice rfl Try.underlying40) rfl ?_ | (refine T_yes rfl ?_ ?_; (· (exact dT (by (omega)))))))
          refine T_draw follows_mixed ([(b1, Obj.cells C1 t1 f1)]) [] ?_
          (refine' TA_take 0 rfl rfl (by kernel_rfl) (quiet_q (op_move rfl)) ?_ ?_; (· (assumption)))
          (refine' TA_take 1 rfl rfl (by kernel_rfl) (quiet_q (op_move rfl)) ?_ ?_; (· (assumption)))
          (refine' TA_take 2 rfl rfl (by kernel_rfl) (quiet_q (op_idx ety_40 rfl rfl ?_)) ?_ ?_; (· omega); (· (assumption)))
          (refine' TA_take 3 rfl rfl (by kernel_rfl) (quiet_q (op_ldA [.string (bs x.name), .int .u16 x.kind, .int .u16 x.cls, .int .u32 x.ttl, .slice xa x.data.length xc] rfl st_60 (List.mem_cons_self ..) hcx)) ?_ ?_; (· (assumption)))
          (refine' TA_take 4 rfl rfl (by kernel_rfl) (quiet_q (op_move rfl)) ?_ ?_; (· (assumption)))
          (refine' TA_take 5 rfl rfl (by kernel_rfl) (quiet_q (op_move rfl)) ?_ ?_; (· (assumption)))
          refine' TA_take 6 rfl rfl (by kernel_rfl) (quiet_call hb_102 rfl (fun _ _ => (Fits_S _ _ _ _ hx2) ?_ ?_)) ?_ ?_; (· (omega)); (· (omega)); (· (assumption))
          (refine' TA_take 7 rfl rfl (by kernel_rfl) (quiet_q (op_move rfl)) ?_ ?_; (· (assumption)))
          (refine' TA_take 8 rfl rfl (by kernel_rfl) (quiet_g2 rfl rfl (by (assumption)) (op_move rfl)) ?_ ?_; (· (assumption)))
          (refine' TA_take 9 rfl rfl (by kernel_rfl) (quiet_g2 rfl rfl (by (assumption)) (op_bin rfl rfl ?_)) ?_ ?_; rotate_left 1; (· (exact bin_lss)); (· (assumption)))
          (refine' TA_take 10 rfl rfl (by kernel_rfl) (quiet_g2 rfl rfl (by (assumption)) (op_move rfl)) ?_ ?_; (· (assumption)))
          (refine' TA_take 11 rfl rfl (by kernel_rfl) (quiet_g2 rfl rfl (by (exact dF (by (assumption)))) (op_move rfl)) ?_ ?_; (· (assumption)))
          (refine' TA_take 12 rfl rfl (by kernel_rfl) (quiet_g2 rfl rfl (by (exact dF (by (assumption)))) (op_move rfl)) ?_ ?_; (· (assumption)))
          (refine' TA_take 13 rfl rfl (by kernel_rfl) (quiet_g2 rfl rfl (by (exact dF (by (assumption)))) (op_idx ety_40 rfl rfl ?_)) ?_ ?_; (· omega); (· (assumption)))
          (refine' TA_take 14 rfl rfl (by kernel_rfl) (quiet_g2 rfl rfl (by (exact dF (by (assumption)))) (op_fld rfl fld_60_0)) ?_ ?_; (· (assumption)))
          (refine' TA_take 15 rfl rfl (by kernel_rfl) (quiet_g2 rfl rfl (by (exact dF (by (assumption)))) (op_ld rfl pl_9 ?_ ?_)) ?_ ?_; rotate_left 4; (· repeat ((exact List.mem_cons_self))); (· (assumption)); (· (assumption)))
          (refine' TA_take 16 rfl rfl (by kernel_rfl) (quiet_callG2 rfl rfl (by (exact dF (by (assumption)))) hb_103 rfl (fun _ _ => labels10_S _ ?_)) ?_ ?_; (· (omega)); (· (assumption)))
          (refine' TA_take 17 rfl rfl (by kernel_rfl) (quiet_g2 rfl rfl (by (exact dF (by (assumption)))) (op_move rfl)) ?_ ?_; (· (assumption)))
          (refine' TA_take 18 rfl rfl (by kernel_rfl) (quiet_g2 rfl rfl (by (exact dF (by (assumption)))) (op_move rfl)) ?_ ?_; (· (assumption)))
          (refine' TA_take 19 rfl rfl (by kernel_rfl) (quiet_g2 rfl rfl (by (exact dF (by (assumption)))) (op_idxI ety_40 rfl rfl ?_ ?_)) ?_ ?_; (· omega); (· omega); (· (assumption)))
          (refine' TA_take 20 rfl rfl (by kernel_rfl) (quiet_g2 rfl rfl (by (exact dF (by (assumption)))) (op_fld rfl fld_60_0)) ?_ ?_; (· (assumption)))
          (refine' TA_take 21 rfl rfl (by kernel_rfl) (quiet_g2 rfl rfl (by (exact dF (by (assumption)))) (op_ld rfl pl_9 ?_ ?_)) ?_ ?_; rotate_left 4; (· repeat ((exact List.mem_cons_self))); (· (assumption)); (· (assumption)))
          (refine' TA_take 22 rfl rfl (by kernel_rfl) (quiet_callG2 rfl rfl (by (exact dF (by (assumption)))) hb_103 rfl (fun _ _ => labels10_S _ ?_)) ?_ ?_; (· (omega)); (· (assumption)))
          (refine' TA_take 23 rfl rfl (by kernel_rfl) (quiet_g2 rfl rfl (by (exact dF (by (assumption)))) (op_bin rfl rfl ?_)) ?_ ?_; rotate_left 1; (· (exact bin_gtr)); (· (assumption)))
          (refine' TA_take 24 rfl rfl (by kernel_rfl) (quiet_g2 rfl rfl (by (assumption)) (op_pickF rfl ?_ rfl)) ?_ ?_; (· (exact dF (by (assumption)))); (· (assumption)))
          (refine' TA_take 25 rfl rfl (by kernel_rfl) (quiet_q (op_pickT rfl ?_ rfl)) ?_ ?_; (· (assumption)); (· (assumption)))
          refine TA_done (by kernel_rfl) ?_
          repeat ((first | with_reducible refine T_region ?_ | with_reducible refine TL_nil ?_ | with_reducible refine TQ_then ?_ | with_reducible refine TQ_block ?_ | with_reducible refine T_skip ?_ | refine TL_q (op_move rfl) rfl ?_ | refine TL_q (op_assign rfl) rfl ?_ | (refine' TL_q (op_bin rfl rfl ?_) rfl ?_; rotate_left 1; (· (exact bin_add ⟨by omega, by omega⟩))) | (refine T_no rfl ?_ ?_; (· (exact dF (by (omega)))))))
          refine TQ_roundS (i + 1) hlt ?_ (fun w h => h) (by omega)
          rw [hst]
          (repeat ((first | exact trivial | refine ⟨rfl, ?_⟩)))
  · have hin : i = l.length := by omega
    subst hin
    by_cases hb : Vd.bestAt l n c l.length < 0
    · have hF : Vd.findSoa l n c = (RSet.none, false, 0) := if_pos hb
      rw [hF]
      repeat ((first | with_reducible refine T_seq ?_ | with_reducible refine T_region ?_ | with_reducible refine TL_nil ?_ | with_reducible refine TQ_then ?_ | with_reducible refine T_exit ?_ | with_reducible refine T_ret ?_ | with_reducible refine TQ_then_exit ?_ | with_reducible refine TQ_then_ret ?_ | with_reducible refine TQ_block_exit ?_ | refine TL_q (op_move rfl) rfl ?_ | refine TL_q (op_assign rfl) rfl ?_ | (refine' TL_q (op_bin rfl rfl ?_) rfl ?_; rotate_left 1; (· (exact bin_lss))) | refine TL_q (op_len_slice rfl Try.underlying40) rfl ?_ | (refine TL_stAll rfl rfl st_60 rfl rfl rfl ?_) | refine TL_q (op_build rfl (bl_60_ )) rfl ?_ | (refine T_yes rfl ?_ ?_; (· (exact dT (by (assumption))))) | (refine T_no rfl ?_ ?_; (· (exact dF (by (omega)))))))
      refine TQ_retC3 6 60 7 8 rfl rfl rfl rfl st_60 (by repeat ((exact List.mem_cons_self))) rfl (fun w h => h.tail) ?_
      exact ⟨[.string (bs []), .int .u16 0, .int .u16 0, .int .u32 0, .slice none 0 0], rfl, rs_none, rfl⟩
    · rcases hl with rfl | ⟨b1, o1, C1, t1, f1, rfl, m1, q1⟩
      · exact absurd (by simp [Vd.bestAt]) hb
      have m1 := hK _ m1
      obtain ⟨y, hy⟩ : ∃ y, l[(Vd.bestAt l n c l.length).toNat]? = some y := ⟨_, List.getElem?_eq_getElem (by omega)⟩
      obtain ⟨cy, _, hy2, hcy⟩ := q1 _ y hy
      obtain ⟨ya, yc, rfl, _⟩ := hy2.val
      have g1 : C1[o1 + (Vd.bestAt l n c l.length).toNat * 5 + 4]? = some (.slice ya y.data.length yc) := hcy 4 _ rfl
      have hF : Vd.findSoa l n c = if y.data.length ≠ 1 then (RSet.none, false, 3) else (y, true, 0) := by
        unfold Vd.findSoa
        rw [if_neg hb, hy]
      rw [hF]
      by_cases hd : y.data.length = 1
      · rw [if_neg (by simpa using hd)]
        repeat ((first | with_reducible refine T_seq ?_ | with_reducible refine T_region ?_ | with_reducible refine TL_nil ?_ | with_reducible refine TQ_then ?_ | with_reducible refine T_skip ?_ | with_reducible refine T_exit ?_ | with_reducible refine TQ_then_exit ?_ | with_reducible refine TQ_block_exit ?_ | refine TL_q (op_move rfl) rfl ?_ | (refine' TL_q (op_bin rfl rfl ?_) rfl ?_; rotate_left 1; (· (first | exact bin_neq | exact bin_lss))) | refine TL_q (op_len_slice rfl Try.underlying40) rfl ?_ | refine TL_q (op_len_slice rfl Try.underlying58) rfl ?_ | (refine' TL_q (op_idxI ety_40 rfl rfl ?_ ?_) rfl ?_; (· omega); (· omega)) | refine TL_q (op_fld rfl fld_60_4) rfl ?_ | (refine' TL_q (op_ld rfl pl_9 ?_ ?_) rfl ?_; rotate_left 4; (· repeat ((first | assumption | apply List.mem_cons_of_mem))); (· (assumption))) | (refine T_no rfl ?_ ?_; (· (first | exact dF (by (first | assumption | omega)) | exact nF (by (omega)))))))
        refine TL_q (op_ldA [.string (bs y.name), .int .u16 y.kind, .int .u16 y.cls, .int .u32 y.ttl, .slice ya y.data.length yc] rfl st_60 (List.mem_cons_of_mem _ m1) hcy) rfl ?_
        repeat ((first | with_reducible refine TL_nil ?_ | with_reducible refine TQ_then ?_ | with_reducible refine T_ret ?_ | refine TL_q (op_assign rfl) rfl ?_ | (refine TL_stAll rfl rfl st_60 rfl rfl rfl ?_)))
        refine TQ_retC3 6 60 7 8 rfl rfl rfl rfl st_60 (by repeat ((exact List.mem_cons_self))) rfl (fun w h => h.tail) ?_
        exact ⟨[.string (bs y.name), .int .u16 y.kind, .int .u16 y.cls, .int .u32 y.ttl, .slice ya y.data.length yc], rfl, hy2, rfl⟩
      · rw [if_pos (by simpa using hd)]
        repeat ((first | with_reducible refine T_seq ?_ | with_reducible refine T_region ?_ | with_reducible refine TL_nil ?_ | with_reducible refine TQ_then ?_ | with_reducible refine T_skip ?_ | with_reducible refine T_exit ?_ | with_reducible refine T_ret ?_ | with_reducible refine TQ_then_exit ?_ | with_reducible refine TQ_then_ret ?_ | with_reducible refine TQ_block_exit ?_ | refine TL_q (op_move rfl) rfl ?_ | refine TL_q (op_assign rfl) rfl ?_ | (refine' TL_q (op_bin rfl rfl ?_) rfl ?_; rotate_left 1; (· (first | exact bin_neq | exact bin_lss))) | refine TL_q (op_len_slice rfl Try.underlying40) rfl ?_ | refine TL_q (op_len_slice rfl Try.underlying58) rfl ?_ | (refine' TL_q (op_idxI ety_40 rfl rfl ?_ ?_) rfl ?_; (· omega); (· omega)) | refine TL_q (op_fld rfl fld_60_4) rfl ?_ | (refine' TL_q (op_ld rfl pl_9 ?_ ?_) rfl ?_; rotate_left 4; (· repeat ((first | assumption | apply List.mem_cons_of_mem))); (· (assumption))) | (refine TL_stAll rfl rfl st_60 rfl rfl rfl ?_) | refine TL_q (op_build rfl (bl_60_ )) rfl ?_ | (refine T_yes rfl ?_ ?_; (· (exact nT (by (first | assumption | omega))))) | (refine T_no rfl ?_ ?_; (· (exact dF (by (first | assumption | omega)))))))
        refine TQ_retC3 6 60 7 8 rfl rfl rfl rfl st_60 (by repeat ((exact List.mem_cons_self))) rfl (fun w h => h.tail) ?_
        exact ⟨[.string (bs []), .int .u16 0, .int .u16 0, .int .u32 0, .slice none 0 0], rfl, rs_none, rfl⟩
theorem soa_len {d : Vd.Bytes} (h : Vd.mayD 6 d = true) : 20 ≤ d.length := by
  unfold Vd.mayD Vd.whole at h
  split at h
  · cases h
  · rename_i hc
    simp only [not_or, Decidable.not_not] at hc
    have he := hc.1
    unfold Vd.pieces at he
    rw [if_neg (by decide), if_neg (by decide)] at he
    have hl : Vd.layout 6 = some (0, 2, 20) := by decide
    rw [hl] at he
    dsimp only at he
    rw [if_neg (by omega)] at he
    revert he
    generalize Vd.names d 2 (0 + 0) [⟨(d.drop 0).take 0, false⟩] = r
    obtain ⟨q, out, e⟩ := r
    dsimp only
    intro he
    split at he
    · rename_i h1; exact absurd he h1
    split at he
    · cases he
    · omega
theorem last4_step {d : Vd.Bytes} {i : Nat} {c : UInt8} (hi : i < d.length) (hc : d[i]? = some c) (h4 : 4 ≤ d.length) (hj : d.length - 4 ≤ i) {n : Int} (hn : n * 256 + c.toNat ≤ 4294967295) (h0 : 0 ≤ n) :
    (d.drop i).foldl (fun n c => (n * 256 + ((c : UInt8).toNat : Int)) % 4294967296) n = (d.drop (i + 1)).foldl (fun n c => (n * 256 + ((c : UInt8).toNat : Int)) % 4294967296) (n * 256 + c.toNat) := by
  obtain ⟨hlt, e⟩ := List.getElem?_eq_some_iff.1 hc
  rw [List.drop_eq_getElem_cons hlt, e, List.foldl_cons, Int.emod_eq_of_lt (by omega) (by omega)]
set_option maxRecDepth 100000 in
set_option maxHeartbeats 2000000 in
theorem Time_S (cs : List Value) (s : RSet) (hs : rsR L cs s) (hd : ∀ d ∈ s.data, d.length ≤ 1000000) : Spec Try.prog G 85 #[.agg cs.toArray] L fun u M => u = .int .u32 (Vd.soaTime s) ∧ M = L := by
  obtain ⟨a, c, rfl, hsd, _, _, _, ht⟩ := hs.vals
  obtain ⟨_, k1, k2, hsd⟩ := strs_cut hsd
  unfold maxLen at k2
  refine Spec_of (n := 54) Try.func85 rfl rfl rfl ?_
  by_cases h6 : s.kind = 6
  · by_cases h1 : s.data.length = 1
    · obtain ⟨d, hd1⟩ : ∃ d, s.data = [d] := by
        match hh : s.data, h1 with
        | [d], _ => exact ⟨d, rfl⟩
      rcases hsd with h0 | ⟨b1, o1, C1, t1, f1, rfl, m1, q1⟩
      · rw [h0] at h1; simp at h1
      have g0 : C1[o1 + (0 : Int).toNat * 1]? = some (.string (bs d)) := q1 0 d (by rw [hd1]; rfl)
      have hdl := hd d (by rw [hd1]; exact List.mem_cons_self ..)
      have hT : Vd.soaTime s = if Vd.mayD 6 d then (if 2147483647 < Vd.last4 d ∨ 2147483647 < s.ttl then 0 else min (Vd.last4 d) s.ttl) else 0 := by
        unfold Vd.soaTime
        rw [if_neg (by simpa using h6), hd1]
      have h1' : ((s.data.length : Nat) : Int) = 1 := by omega
      cases hm : Vd.mayD 6 d with
      | false =>
        rw [hm, if_neg (by simp)] at hT
        repeat ((first | with_reducible refine T_seq ?_ | with_reducible refine T_region ?_ | with_reducible refine TL_nil ?_ | with_reducible refine TQ_then ?_ | with_reducible refine T_ret ?_ | with_reducible refine TQ_then_ret ?_ | refine TL_q (op_move rfl) rfl ?_ | refine TL_q (op_assign rfl) rfl ?_ | (refine' TL_q (op_bin rfl rfl ?_) rfl ?_; rotate_left 1; (· (exact bin_neq))) | (refine' TL_q (op_pickF rfl ?_ rfl) rfl ?_; (· (exact nF (by (assumption))))) | refine TL_q (op_fld rfl fld_60_1) rfl ?_ | (refine' TL_q (op_ld rfl pl_9 ?_ ?_) rfl ?_; rotate_left 4; (· repeat ((exact List.mem_cons_self))); (· (rfl))) | (refine' TG_op (op_call hb_97 rfl (mayD_S _ _ ?_)) rfl ?_; (· (omega))) | (refine TL_gpre rfl rfl ?_ ?_; (· (exact nF (by (assumption))))) | (refine' TL_gq2 (op_bin rfl rfl ?_) rfl ?_; rotate_left 1; (· (exact bin_neq))) | refine TL_gq2 (op_not rfl) rfl ?_ | refine TL_gq2 (op_len_slice rfl Try.underlying58) rfl ?_ | (refine' TL_gq2 (op_idxI ety_58 rfl rfl ?_ ?_) rfl ?_; (· omega); (· omega)) | refine TL_gq2 (op_fld rfl fld_60_4) rfl ?_ | (refine' TL_gq2 (op_ld rfl pl_9 ?_ ?_) rfl ?_; rotate_left 4; (· repeat ((first | assumption | exact List.mem_cons_self | apply List.mem_cons_of_mem))); (· (first | assumption | rfl))) | (refine TL_new (op_boxA rfl) rfl ?_; intro bBox) | (refine T_yes rfl ?_ ?_; (· (exact xT (by (assumption)))))))
        refine TQ_heap (fun w h => h.tail) ?_
        refine TQ_ret1 2 _ rfl rfl ?_
        exact ⟨by rw [hT], rfl⟩
      | true =>
        rw [hm, if_pos rfl] at hT
        have h20 := soa_len hm
        repeat ((first | with_reducible refine T_seq ?_ | with_reducible refine T_block ?_ | with_reducible refine T_region ?_ | with_reducible refine TL_nil ?_ | with_reducible refine TQ_then ?_ | with_reducible refine T_skip ?_ | refine TL_q (op_move rfl) rfl ?_ | refine TL_q (op_assign rfl) rfl ?_ | (refine' TL_q (op_bin rfl rfl ?_) rfl ?_; rotate_left 1; (· (first | exact bin_sub ⟨by omega, by omega⟩ | exact bin_neq))) | (refine' TL_q (op_pickF rfl ?_ rfl) rfl ?_; (· (exact nF (by (assumption))))) | refine TL_q (op_len_str rfl Try.underlying9) rfl ?_ | (refine' TL_q (op_idxI ety_58 rfl rfl ?_ ?_) rfl ?_; (· omega); (· omega)) | refine TL_q (op_fld rfl fld_60_1) rfl ?_ | refine TL_q (op_fld rfl fld_60_4) rfl ?_ | (refine' TL_q (op_ld rfl pl_9 ?_ ?_) rfl ?_; rotate_left 4; (· repeat ((first | assumption | exact List.mem_cons_self | apply List.mem_cons_of_mem))); (· (first | assumption | rfl))) | (refine' TG_op (op_call hb_97 rfl (mayD_S _ _ ?_)) rfl ?_; (· (omega))) | (refine TL_gpre rfl rfl ?_ ?_; (· (exact nF (by (assumption))))) | (refine' TL_gq2 (op_bin rfl rfl ?_) rfl ?_; rotate_left 1; (· (exact bin_neq))) | refine TL_gq2 (op_not rfl) rfl ?_ | refine TL_gq2 (op_len_slice rfl Try.underlying58) rfl ?_ | (refine' TL_gq2 (op_idxI ety_58 rfl rfl ?_ ?_) rfl ?_; (· omega); (· omega)) | refine TL_gq2 (op_fld rfl fld_60_4) rfl ?_ | (refine' TL_gq2 (op_ld rfl pl_9 ?_ ?_) rfl ?_; rotate_left 4; (· repeat ((first | assumption | exact List.mem_cons_self | apply List.mem_cons_of_mem))); (· (first | assumption | rfl))) | (refine TL_new (op_boxA rfl) rfl ?_; intro bBox) | (refine T_no rfl ?_ ?_; (· (exact xF (by (assumption)))))))
        refine T_loopS (σ := Nat × Int) (fun x => d.length - 4 ≤ x.1 ∧ x.1 ≤ d.length ∧ (d.drop x.1).foldl (fun n c => (n * 256 + ((c : UInt8).toNat : Int)) % 4294967296) x.2 = Vd.last4 d ∧ ((x.1 = d.length - 4 ∧ x.2 = 0) ∨ (x.1 = d.length - 3 ∧ 0 ≤ x.2 ∧ x.2 ≤ 255) ∨ (x.1 = d.length - 2 ∧ 0 ≤ x.2 ∧ x.2 ≤ 65535) ∨ (x.1 = d.length - 1 ∧ 0 ≤ x.2 ∧ x.2 ≤ 16777215) ∨ (x.1 = d.length ∧ 0 ≤ x.2 ∧ x.2 ≤ 4294967295)))
          (fun x => [(1, .pointer (some ⟨bBox, 0, none⟩)), (3, .string (bs d)), (4, .int .u32 x.2), (5, .int .i64 (x.1 : Nat))]) (fun x => (bBox, Obj.cells #[.string (bs s.name), .int .u16 s.kind, .int .u16 s.cls, .int .u32 s.ttl, .slice (some ⟨b1, o1, none⟩) s.data.length c] 60 (0, 0)) :: L) (fun x => d.length - x.1) (d.length - 4, 0) ⟨Nat.le_refl _, by dsimp only; omega, rfl, Or.inl ⟨rfl, rfl⟩⟩ ?_ (fun w h => h) ?_
        · dsimp only
          rw [show ((d.length - 4 : Nat) : Int) = (d.length : Int) - 4 by omega]
          (repeat ((first | exact trivial | refine ⟨rfl, ?_⟩)))
        rintro ⟨i, n⟩ ⟨p1, p2, p3, p4⟩
        dsimp only at p1 p2 p3 p4 ⊢
        by_cases hlt : i < d.length
        · obtain ⟨ch, hch⟩ : ∃ ch, d[i]? = some ch := ⟨_, List.getElem?_eq_getElem hlt⟩
          have hch' : d[((i : Nat) : Int).toNat]? = some ch := hch
          have hcl : ch.toNat ≤ 255 := by have := ch.toNat_lt; omega
          have hnn : 0 ≤ n ∧ n * 256 + (ch.toNat : Int) ≤ 4294967295 := by omega
          rw [last4_step hlt hch (by omega) p1 hnn.2 hnn.1] at p3
          repeat ((first | with_reducible refine T_seq ?_ | with_reducible refine T_block ?_ | with_reducible refine T_region ?_ | with_reducible refine TL_nil ?_ | with_reducible refine TQ_then ?_ | with_reducible refine TQ_block ?_ | with_reducible refine T_skip ?_ | refine TL_q (op_move rfl) rfl ?_ | refine TL_q (op_assign rfl) rfl ?_ | (refine' TL_q (op_bin rfl rfl ?_) rfl ?_; rotate_left 1; (· (first | exact bin_add ⟨by omega, by omega⟩ | exact bin_mul ⟨by omega, by omega⟩ | exact bin_lss))) | (refine' TL_q (op_conv_int rfl Try.underlying5 Try.underlying36 ?_) rfl ?_; (· exact ⟨by omega, by omega⟩)) | refine TL_q (op_len_str rfl Try.underlying9) rfl ?_ | (refine' TL_q (op_index_str rfl rfl Try.underlying9 ?_ ?_) rfl ?_; rotate_left 1; (· omega); (· (assumption))) | (refine T_yes rfl ?_ ?_; (· (exact dT (by (omega)))))))
          refine TQ_roundS (i + 1, n * 256 + ch.toNat) ⟨by dsimp only; omega, hlt, p3, by dsimp only; omega⟩ ?_ (fun w h => h) (by dsimp only; omega)
          (repeat ((first | exact trivial | refine ⟨rfl, ?_⟩)))
        · have hin : i = d.length := by omega
          subst hin
          rw [List.drop_length] at p3
          have hn : n = Vd.last4 d := p3
          have hnn : 0 ≤ n ∧ n ≤ 4294967295 := by omega
          rw [← hn] at hT
          repeat' ((first | with_reducible refine T_seq ?_ | with_reducible refine T_region ?_ | with_reducible refine TL_nil ?_ | with_reducible refine TQ_then ?_ | with_reducible refine T_skip ?_ | with_reducible refine T_exit ?_ | with_reducible refine T_ret ?_ | with_reducible refine TQ_then_exit ?_ | with_reducible refine TQ_then_ret ?_ | with_reducible refine TQ_block_exit ?_ | refine TL_q (op_move rfl) rfl ?_ | refine TL_q (op_assign rfl) rfl ?_ | (refine' TL_q (op_bin rfl rfl ?_) rfl ?_; rotate_left 1; (· (first | exact bin_lss | exact bin_gtr))) | (refine' TL_q (op_pickT rfl ?_ rfl) rfl ?_; (· (exact dT (by (assumption))))) | (refine' TL_q (op_pickF rfl ?_ rfl) rfl ?_; (· (exact dF (by (assumption))))) | refine TL_q (op_len_str rfl Try.underlying9) rfl ?_ | refine TL_q (op_min rfl rfl) rfl ?_ | refine TL_q (op_fld rfl fld_60_3) rfl ?_ | (refine' TL_q (op_ld rfl pl_9 ?_ ?_) rfl ?_; rotate_left 4; (· repeat ((exact List.mem_cons_self))); (· (rfl))) | (refine TL_gpre rfl rfl ?_ ?_; (· (exact dF (by (assumption))))) | (refine' TL_gq2 (op_bin rfl rfl ?_) rfl ?_; rotate_left 1; (· (exact bin_gtr))) | refine TL_gq2 (op_fld rfl fld_60_3) rfl ?_ | (refine' TL_gq2 (op_ld rfl pl_9 ?_ ?_) rfl ?_; rotate_left 4; (· repeat ((exact List.mem_cons_self))); (· (rfl))) | (refine TL_gno rfl rfl ?_ rfl ?_; (· (exact dT (by (assumption))))) | (refine T_yes rfl ?_ ?_; (· (with_reducible rfl))) | (refine T_no rfl ?_ ?_; (· (exact dF (by (omega))))) | refine T_condD rfl (fun hc => ?_) (fun hc => ?_) | refine TL_gD rfl rfl (fun hc => ?_) (fun hc => ?_)))
          all_goals (refine TQ_heap (fun w h => h.tail) ?_)
          all_goals
            refine TQ_ret1 2 _ rfl rfl ?_
          all_goals (refine ⟨?_, rfl⟩; rw [hT]; clear hn hT; congr 1; split <;> omega)
    · have hT : Vd.soaTime s = 0 := by
        unfold Vd.soaTime
        rw [if_neg (by simpa using h6)]
        match hh : s.data, h1 with
        | [], _ => rfl
        | [d], h => simp at h
        | _ :: _ :: _, _ => rfl
      have h1' : ¬ ((s.data.length : Nat) : Int) = 1 := by omega
      repeat ((first | with_reducible refine T_seq ?_ | with_reducible refine T_region ?_ | with_reducible refine TL_nil ?_ | with_reducible refine TQ_then ?_ | with_reducible refine T_ret ?_ | with_reducible refine TQ_then_ret ?_ | refine TL_q (op_move rfl) rfl ?_ | refine TL_q (op_assign rfl) rfl ?_ | (refine' TL_q (op_bin rfl rfl ?_) rfl ?_; rotate_left 1; (· (exact bin_neq))) | (refine' TL_q (op_pickT rfl ?_ rfl) rfl ?_; (· (exact nT (by (assumption))))) | (refine' TL_q (op_pickF rfl ?_ rfl) rfl ?_; (· (exact nF (by (assumption))))) | refine TL_q (op_fld rfl fld_60_1) rfl ?_ | (refine' TL_q (op_ld rfl pl_9 ?_ ?_) rfl ?_; rotate_left 4; (· repeat ((exact List.mem_cons_self))); (· (rfl))) | (refine TL_gpre rfl rfl ?_ ?_; (· (exact nF (by (assumption))))) | (refine' TL_gq2 (op_bin rfl rfl ?_) rfl ?_; rotate_left 1; (· (exact bin_neq))) | refine TL_gq2 (op_len_slice rfl Try.underlying58) rfl ?_ | refine TL_gq2 (op_fld rfl fld_60_4) rfl ?_ | (refine' TL_gq2 (op_ld rfl pl_9 ?_ ?_) rfl ?_; rotate_left 4; (· repeat ((exact List.mem_cons_self))); (· (rfl))) | (refine TL_gno rfl rfl ?_ rfl ?_; (· (exact nT (by (assumption))))) | (refine TL_new (op_boxA rfl) rfl ?_; intro bBox) | (refine T_yes rfl ?_ ?_; (· (with_reducible rfl)))))
      refine TQ_heap (fun w h => h.tail) ?_
      refine TQ_ret1 2 _ rfl rfl ?_
      exact ⟨by rw [hT], rfl⟩
  · have hT : Vd.soaTime s = 0 := by unfold Vd.soaTime; rw [if_pos h6]
    repeat ((first | with_reducible refine T_seq ?_ | with_reducible refine T_region ?_ | with_reducible refine TL_nil ?_ | with_reducible refine TQ_then ?_ | with_reducible refine T_ret ?_ | with_reducible refine TQ_then_ret ?_ | refine TL_q (op_move rfl) rfl ?_ | refine TL_q (op_assign rfl) rfl ?_ | (refine' TL_q (op_bin rfl rfl ?_) rfl ?_; rotate_left 1; (· (exact bin_neq))) | (refine' TL_q (op_pickT rfl ?_ rfl) rfl ?_; (· (first | with_reducible rfl | exact nT (by (assumption))))) | refine TL_q (op_fld rfl fld_60_1) rfl ?_ | (refine' TL_q (op_ld rfl pl_9 ?_ ?_) rfl ?_; rotate_left 4; (· repeat ((exact List.mem_cons_self))); (· (rfl))) | (refine TL_gno rfl rfl ?_ rfl ?_; (· (first | exact Bool.not_false | exact nT (by (assumption))))) | (refine TL_new (op_boxA rfl) rfl ?_; intro bBox) | (refine T_yes rfl ?_ ?_; (· (with_reducible rfl)))))
    refine TQ_heap (fun w h => h.tail) ?_
    refine TQ_ret1 2 _ rfl rfl ?_
    exact ⟨by rw [hT], rfl⟩
end Go.Proofs.Ytdflhdfapnhjjaa
namespace Go.Proofs.Ytdflhdfapnhjjaa
open Go.RowKit
set_option linter.unusedVariables false
set_option linter.unusedSimpArgs false
variable {G : World} {P : Program} {n : Nat} {ρ : Slots} {L : Blocks} {ty : TypeId} {Q : Exit → Act → World → Prop}
/-- Where a cut begins. -/
def cutA (a : Option Addr) (c k sz : Nat) : Option Addr := if c = k then a else a.map (·.add (k * sz))
theorem op_cutFrom {x lo : Operand} {a : Option Addr} {m c : Nat} {k : IntKind} {i : Int} {t e : TypeId} {sz bytes : Nat} {z : Value} (E : ElemTy P t e sz bytes z) (hx : ev ρ x = some (.slice a m c)) (hlo : ev ρ lo = some (.int k i)) (h0 : 0 ≤ i) (h1 : i ≤ m) :
    OpQ P ρ L (.slice t x (some lo) none none) ty (.slice (cutA a c i.toNat sz) (m - i.toNat) (c - i.toNat)) :=
  ⟨fun r hr w hw o ho _ => by
    obtain ⟨inf, q2, q3, q4, q5⟩ := E.info
    simp [execOp, ho, hr _ _ hx, hr _ _ hlo, Instr.sliceAt, run_underlying E.und, Instr.slice, Instr.sliceBounds, Instr.sliceBound, asIntOf, h0, h1, sizeOf, typeInfo, q2, q4, cutA]⟩
section
variable {α : Type} {r : Rp α} {sz : Nat}
theorem sliceR.take {a : Option Addr} {m c : Nat} {l : List α} (h : sliceR sz r L [.slice a m c] l) {k : Nat} (hk : k ≤ l.length) : sliceR sz r L [.slice a k c] (l.take k) := by
  obtain ⟨h1, h2, h3, h4⟩ := sliceR.cut h
  refine ⟨a, c, by rw [List.length_take, Nat.min_eq_left hk], by rw [List.length_take]; omega, h3, ?_⟩
  rcases h4 with rfl | ⟨b, off, C, te, fr, rfl, q2, q3⟩
  · left; simp
  · right
    refine ⟨b, off, C, te, fr, rfl, q2, fun i x hx => ?_⟩
    refine q3 i x ?_
    rw [List.getElem?_take] at hx
    split at hx
    · exact hx
    · cases hx
theorem sliceR.drop {a : Option Addr} {m c : Nat} {l : List α} (h : sliceR sz r L [.slice a m c] l) {k : Nat} (hk : k ≤ l.length) : sliceR sz r L [.slice (cutA a c k sz) (m - k) (c - k)] (l.drop k) := by
  obtain ⟨h1, h2, h3, h4⟩ := sliceR.cut h
  refine ⟨cutA a c k sz, c - k, by rw [List.length_drop, h1], by rw [List.length_drop]; omega, by omega, ?_⟩
  by_cases hkl : k = l.length
  · left; rw [hkl, List.drop_length]
  · rcases h4 with rfl | ⟨b, off, C, te, fr, rfl, q2, q3⟩
    · left; simp
    · right
      have hc : ¬ c = k := by omega
      refine ⟨b, off + k * sz, C, te, fr, by unfold cutA; rw [if_neg hc]; simp [addr_add], q2, fun i x hx => ?_⟩
      rw [List.getElem?_drop] at hx
      obtain ⟨cs', k1, k2, k3⟩ := q3 (k + i) x hx
      refine ⟨cs', k1, k2, fun j v hj => ?_⟩
      rw [← k3 j v hj]
      congr 1
      rw [Nat.add_mul]
      omega
/-- The cells of one of a row that lies somewhere. -/
theorem sliceR.at {a : Option Addr} {m c : Nat} {l : List α} (h : sliceR sz r L [.slice a m c] l) {i : Nat} {x : α} (hx : l[i]? = some x) : ∃ b off C te fr, a = some ⟨b, off, none⟩ ∧ (b, Obj.cells C te fr) ∈ L ∧ ∃ cs, cs.length = sz ∧ r L cs x ∧ ∀ j v, cs[j]? = some v → C[off + i * sz + j]? = some v := by
  obtain ⟨_, _, _, h4⟩ := sliceR.cut h
  rcases h4 with rfl | ⟨b, off, C, te, fr, rfl, q2, q3⟩
  · simp at hx
  · exact ⟨b, off, C, te, fr, rfl, q2, q3 i x hx⟩
theorem sliceR.imp {r' : Rp α} {L' : Blocks} {cs : List Value} {l : List α} (h : sliceR sz r L cs l) (hL : ∀ p ∈ L, p ∈ L') (hr : ∀ cs x, x ∈ l → r L cs x → r' L' cs x) : sliceR sz r' L' cs l := by
  obtain ⟨a, cap, h1, h2, h3, h4⟩ := h
  refine ⟨a, cap, h1, h2, h3, h4.imp id ?_⟩
  rintro ⟨b, off, C, te, fr, q1, q2, q3⟩
  refine ⟨b, off, C, te, fr, q1, hL _ q2, fun i x hx => ?_⟩
  obtain ⟨cs', k1, k2, k3⟩ := q3 i x hx
  exact ⟨cs', k1, hr cs' x (List.mem_of_getElem? hx) k2, k3⟩
theorem Laid.imp {r' : Rp α} {L' : Blocks} : ∀ {l : List α} {xs : List Value}, Laid r sz L xs l → (∀ cs x, x ∈ l → r L cs x → r' L' cs x) → Laid r' sz L' xs l
  | [], _, h, _ => h
  | x :: l, _, ⟨c, ys, h1, h2, h3, h4⟩, hr => ⟨c, ys, h1, h2, hr c x (List.mem_cons_self ..) h3, Laid.imp h4 fun cs y hy => hr cs y (List.mem_cons_of_mem _ hy)⟩
theorem ORow.imp {r' : Rp α} {L' : Blocks} {e : TypeId} {a : Option Addr} {c : Nat} {l : List α} {B : Blocks} (h : ORow r e sz L a c l B) (hr : ∀ cs x, x ∈ l → r L cs x → r' L' cs x) : ORow r' e sz L' a c l B := by
  obtain ⟨xs, h1, h2, h3⟩ := h.ex
  exact ⟨xs, h1, h2.imp hr, h3⟩
theorem ORow.one {e : TypeId} {a : Option Addr} {c : Nat} {l : List α} {B : Blocks} (h : ORow r e sz L a c l B) : (a = none ∧ B = [] ∧ l = [] ∧ c = 0) ∨ ∃ b cur, a = some ⟨b, 0, none⟩ ∧ B = [(b, .cells cur e (0, 0))] ∧ cur.size = c * sz ∧ l.length ≤ c := by
  obtain ⟨xs, h1, h2, h3⟩ := h.ex
  rcases h1.is with ⟨q1, q2, q3⟩ | ⟨b, cap, cur, q1, q2, q3, q4, q5, q6⟩
  · obtain ⟨rfl, _, rfl⟩ := Value.slice.inj q1
    exact Or.inl ⟨rfl, q3, List.eq_nil_of_length_eq_zero q2, rfl⟩
  · obtain ⟨rfl, _, rfl⟩ := Value.slice.inj q1
    exact Or.inr ⟨b, cur, rfl, q2, q5, q3⟩
theorem ORow.cap {e : TypeId} {a : Option Addr} {c : Nat} {l : List α} {B : Blocks} (h : ORow r e sz L a c l B) : l.length ≤ c ∧ c ≤ maxLen := by
  obtain ⟨xs, h1, h2, h3⟩ := h.ex
  rcases h1.is with ⟨q1, q2, q3⟩ | ⟨b, cap, cur, q1, q2, q3, q4, q5, q6⟩
  · obtain ⟨rfl, _, rfl⟩ := Value.slice.inj q1
    exact ⟨by omega, by unfold maxLen; omega⟩
  · obtain ⟨rfl, _, rfl⟩ := Value.slice.inj q1
    exact ⟨q3, q4⟩
end
/-- Memory that may be written. -/
def Wr (N : Blocks) : Prop := ∀ p ∈ N, ∃ C te, p.2 = Obj.cells C te (0, 0)
theorem Wr.nil : Wr [] := fun p hp => absurd hp (by simp)
theorem Wr.append {A B : Blocks} (h : Wr A) (k : Wr B) : Wr (A ++ B) := fun p hp => (List.mem_append.1 hp).elim (h p) (k p)
theorem Wr.cons {b : Nat} {C : Array Value} {te : TypeId} {B : Blocks} (k : Wr B) : Wr ((b, .cells C te (0, 0)) :: B) := fun p hp => by
  rcases List.mem_cons.1 hp with rfl | hp
  · exact ⟨C, te, rfl⟩
  · exact k p hp
theorem ORow.wr {α : Type} {r : Rp α} {sz : Nat} {e : TypeId} {a : Option Addr} {c : Nat} {l : List α} {B : Blocks} (h : ORow r e sz L a c l B) : Wr B := by
  rcases h.one with ⟨_, rfl, _⟩ | ⟨b, cur, _, rfl, _⟩
  · exact Wr.nil
  · exact Wr.cons Wr.nil
/-- The blocks in another row. -/
theorem TL_cnt {ops : Array Oper} {l : List Oper} {L' : Blocks} (h : TL P G ops n ρ L' l Q) (hc : ∀ p, cnt p L' ≤ cnt p L) : TL P G ops n ρ L l Q := TL_heap (fun w hw => hw.cnt hc) h
theorem TQ_cnt {e : Exit} {L' : Blocks} (h : TQ G n ρ L' e Q) (hc : ∀ p, cnt p L' ≤ cnt p L) : TQ G n ρ L e Q := TQ_heap (fun w hw => hw.cnt hc) h
theorem T_cnt {c : Code} {L' : Blocks} (h : T P G n ρ L' c Q) (hc : ∀ p, cnt p L' ≤ cnt p L) : T P G n ρ L c Q := T_heap (fun w hw => hw.cnt hc) h
theorem TA_cnt {ops : Array Oper} {K : Blocks} {W : List Nat} {L' : Blocks} {fuel : Nat} {listed : Array Bool} (h : TA P G ops n K W Q fuel listed ρ L') (hc : ∀ p, cnt p L' = cnt p L) : TA P G ops n K W Q fuel listed ρ L :=
  TA_heap (fun w hw => hw.cnt fun p => Nat.le_of_eq (hc p)) (fun hk p hp => mem_of_cnt (fun q => Nat.le_of_eq (hc q)) p (hk p hp)) h
/-- 'append(s, l...)', whatever the lengths are called. -/
theorem op_appendG2 {α : Type} {r : Rp α} {sz : Nat} {s x : Operand} {t e : TypeId} {bytes j k : Nat} {z : Value} {a a2 : Option Addr} {c c2 : Nat} {l m : List α} {B L0 : Blocks} (E : ElemTy P t e sz bytes z) (hs : ev ρ s = some (.slice a j c)) (hx : ev ρ x = some (.slice a2 k c2)) (hj : j = l.length) (hk : k = m.length)
    (hrow : ORow r e sz L0 a c l B) (hr : sliceR sz r L0 [.slice a2 m.length c2] m) (hr2 : ∀ q ∈ L0, q ∈ L) (hm : Mono r) (hone : ∀ cs y, r L0 cs y → ∀ v ∈ cs, v.oneCell' = true) (h63 : l.length + m.length ≤ 1000000) (hb : bytes ≤ 1000) :
    OpT P G ρ (B ++ L) (.call ⟨.builtin .append, #[s, x], #[t, t]⟩) ty fun v' L' => ∃ a' c' B', v' = .slice a' (l ++ m).length c' ∧ ORow r e sz L0 a' c' (l ++ m) B' ∧ L' = B' ++ L := by
  subst hj hk
  obtain ⟨xs, h1, h2, h3⟩ := hrow.ex
  have hlen : (l ++ m).length = l.length + m.length := by simp
  have h63' : l.length + m.length ≤ maxLen := by unfold maxLen; omega
  have hby : (l.length + m.length) * bytes ≤ 140737488355328 := Nat.le_trans (Nat.mul_le_mul h63 hb) (by decide)
  have laid_one : ∀ (m : List α) (news : List Value), Laid r sz L0 news m → ∀ v ∈ news, v.oneCell' = true := by
    intro m
    induction m with
    | nil => intro news h v hv; rw [show news = [] from h] at hv; simp at hv
    | cons y m ih =>
      rintro _ ⟨d, ys, rfl, _, q2, q3⟩ v hv
      rcases List.mem_append.1 hv with hv | hv
      · exact hone d y q2 v hv
      · exact ih ys q3 v hv
  obtain ⟨_, _, _, hc⟩ := sliceR.cut hr
  rcases hc with rfl | ⟨b, off, C, te, fr, rfl, q2, q3⟩
  · refine (op_append0 E hs hx h1 h63' hby).post fun v' M ⟨B', k1, k2⟩ => ?_
    obtain ⟨a', c', rfl⟩ := k1.slice
    refine ⟨M, ⟨a', c', B', by rw [hlen]; rfl, ⟨xs, ?_, by simpa using h2, h3⟩, k2⟩, fun w hw => hw⟩
    simpa using k1
  · obtain ⟨news, n1, n2⟩ := laid_of m off q3
    refine (op_append E hs hx h1 ⟨n1.len, laid_one m news n1, Or.inr ⟨b, off, c2, C, te, fr, rfl, hr2 _ q2, n2⟩⟩ h63' hby).post fun v' M ⟨B', k1, k2⟩ => ?_
    obtain ⟨a', c', rfl⟩ := k1.slice
    refine ⟨M, ⟨a', c', B', by rw [hlen], ⟨xs ++ news, by rw [hlen]; exact k1, h2.append n1, fun v hv => ?_⟩, k2⟩, fun w hw => hw⟩
    rcases List.mem_append.1 hv with hv | hv
    · exact h3 v hv
    · exact laid_one m news n1 v hv
end Go.Proofs.Ytdflhdfapnhjjaa
namespace Go.Proofs.Ytdflhdfapnhjjaa
open Go.RowKit
open Vd (RSet Vdt Vote Rec Quest Piece)
set_option linter.unusedVariables false
set_option linter.unusedSimpArgs false
theorem putGo_len (s : Vd.Bytes) : ∀ (l out : List Vd.Bytes) (done : Bool) (o : List Vd.Bytes) (d : Bool), Vd.putGo s l out done = .inr (o, d) → o.length + (if d then 0 else 1) ≤ out.length + l.length + (if done then 0 else 1)
  | [], out, done, o, d, h => by
    simp only [Vd.putGo, Sum.inr.injEq, Prod.mk.injEq] at h
    obtain ⟨rfl, rfl⟩ := h
    simp
  | x :: l, out, done, o, d, h => by
    simp only [Vd.putGo] at h
    split at h
    · cases h
    split at h
    · rename_i hd
      have := putGo_len s l _ _ o d h
      have hdn : done = false := by cases done <;> simp_all
      subst hdn
      simp at this ⊢
      omega
    · have := putGo_len s l _ _ o d h
      simp at this ⊢
      omega
theorem put_len (l : List Vd.Bytes) (s : Vd.Bytes) : (Vd.put l s).length ≤ l.length + 1 := by
  unfold Vd.put
  split
  · omega
  · rename_i o d h
    have := putGo_len s l [] false o d h
    cases d <;> simp at this ⊢ <;> omega
theorem putGo_mem (s : Vd.Bytes) : ∀ (l out : List Vd.Bytes) (done : Bool) (o : List Vd.Bytes) (d : Bool), Vd.putGo s l out done = .inr (o, d) → ∀ x ∈ o, x ∈ out ∨ x ∈ l ∨ x = s
  | [], out, done, o, d, h => by
    simp only [Vd.putGo, Sum.inr.injEq, Prod.mk.injEq] at h
    obtain ⟨rfl, rfl⟩ := h
    intro x hx
    exact Or.inl hx
  | y :: l, out, done, o, d, h => by
    simp only [Vd.putGo] at h
    split at h
    · cases h
    split at h
    · intro x hx
      have := putGo_mem s l _ _ o d h x hx
      simp only [List.mem_append, List.mem_cons] at this ⊢
      grind
    · intro x hx
      have := putGo_mem s l _ _ o d h x hx
      simp only [List.mem_append, List.mem_cons] at this ⊢
      grind
theorem put_mem {l : List Vd.Bytes} {s x : Vd.Bytes} (h : x ∈ Vd.put l s) : x ∈ l ∨ x = s := by
  unfold Vd.put at h
  split at h
  · exact Or.inl h
  · rename_i o d hh
    have := putGo_mem s l [] false o d hh
    split at h
    · have := this x h; simp at this; exact this
    · rcases List.mem_append.1 h with h | h
      · have := this x h; simp at this; exact this
      · exact Or.inr (List.mem_singleton.1 h)
theorem keyAt_lt {sets : List RSet} {n : Vd.Bytes} {k c : Int} : ∀ (m j : Nat), Vd.keyAt sets n k c m = some j → m ≤ sets.length → j < m
  | 0, j, h, _ => by simp [Vd.keyAt] at h
  | m + 1, j, h, hm => by
    rw [Vd.keyAt, List.getElem?_eq_getElem (by omega)] at h
    dsimp only at h
    split at h
    · cases h; omega
    · have := keyAt_lt m j h (by omega); omega
def kv : Option Nat → Int
  | some j => (j : Nat)
  | none => -1
theorem foldD_len (k : Int) (d : Vd.Bytes) : (Vd.foldD k d).length ≤ d.length := Nat.le_trans (foldL_le _) (whole_joined k d)
/-- What sets are, behind so many records. -/
structure Bd (D i : Nat) (sets : List RSet) : Prop where
  few : sets.length ≤ i
  name : ∀ s ∈ sets, s.name.length ≤ 255
  data : ∀ s ∈ sets, s.data.length ≤ i
  one : ∀ s ∈ sets, s.data ≠ []
  datum : ∀ s ∈ sets, ∀ d ∈ s.data, d.length ≤ D
theorem fold_255 (n : Vd.Bytes) : (Nm.fold n).length ≤ 255 := by
  unfold Nm.fold
  cases h : Nm.may n with
  | false => simp
  | true =>
    obtain ⟨ls, hl⟩ := Nm.nm_of_may h
    rw [if_pos rfl, Nm.low_length]
    exact (Nm.nm_iff.1 hl).2.2
theorem put_ne {l : List Vd.Bytes} {s : Vd.Bytes} (h : l ≠ []) : Vd.put l s ≠ [] := by
  match l, h with
  | x :: l, _ =>
    unfold Vd.put
    have key : ∀ (l out : List Vd.Bytes) (done : Bool) (o : List Vd.Bytes) (d : Bool), out ≠ [] → Vd.putGo s l out done = .inr (o, d) → o ≠ [] := by
      intro l
      induction l with
      | nil => intro out done o d h1 h2; simp only [Vd.putGo, Sum.inr.injEq, Prod.mk.injEq] at h2; rw [← h2.1]; exact h1
      | cons y l ih =>
        intro out done o d h1 h2
        simp only [Vd.putGo] at h2
        split at h2
        · cases h2
        split at h2
        · exact ih _ _ o d (by simp) h2
        · exact ih _ _ o d (by simp) h2
    split
    · simp
    · rename_i o d hh
      simp only [Vd.putGo] at hh
      split at hh
      · cases hh
      have ho : o ≠ [] := by
        split at hh
        · exact key _ _ _ o d (by simp) hh
        · exact key _ _ _ o d (by simp) hh
      split
      · exact ho
      · simp
theorem Bd.add {D i : Nat} {sets : List RSet} (h : Bd D i sets) (x : Rec) (hx : x.data.length ≤ D) : Bd D (i + 1) (Vd.addRec sets x) := by
  have hm : Bd D (i + 1) sets := ⟨by have := h.few; omega, h.name, fun s hs => by have := h.data s hs; omega, h.one, h.datum⟩
  have hf := Nat.le_trans (foldD_len x.kind x.data) hx
  unfold Vd.addRec
  split
  · split
    · refine ⟨by have := h.few; simp; omega, fun s hs => ?_, fun s hs => ?_, fun s hs => ?_, fun s hs => ?_⟩ <;> rcases List.mem_append.1 hs with hs | hs
      · exact h.name s hs
      · rw [List.mem_singleton.1 hs]; exact fold_255 _
      · exact hm.data s hs
      · rw [List.mem_singleton.1 hs]; simp
      · exact h.one s hs
      · rw [List.mem_singleton.1 hs]; simp
      · exact h.datum s hs
      · rw [List.mem_singleton.1 hs]; intro d hd; rw [List.mem_singleton.1 hd]; exact hf
    · rename_i j hj
      split
      · rename_i s hs
        have hsm := List.mem_of_getElem? hs
        have key : ∀ t ∈ sets.set j { s with ttl := min s.ttl (Vd.timeT x.ttl), data := Vd.put s.data (Vd.foldD x.kind x.data) }, t ∈ sets ∨ t = { s with ttl := min s.ttl (Vd.timeT x.ttl), data := Vd.put s.data (Vd.foldD x.kind x.data) } := fun t ht => List.mem_or_eq_of_mem_set ht
        refine ⟨by have := h.few; simp; omega, fun t ht => ?_, fun t ht => ?_, fun t ht => ?_, fun t ht => ?_⟩ <;> rcases key t ht with ht | rfl
        · exact h.name t ht
        · exact h.name s hsm
        · exact hm.data t ht
        · have h1 := put_len s.data (Vd.foldD x.kind x.data); have h2 := h.data s hsm; dsimp only; omega
        · exact h.one t ht
        · exact put_ne (h.one s hsm)
        · exact h.datum t ht
        · intro d hd
          rcases put_mem hd with hd | rfl
          · exact h.datum s hsm d hd
          · exact hf
      · exact hm
  · exact hm
theorem gather_take {l : List Rec} {i : Nat} {x : Rec} (hx : l[i]? = some x) : Vd.gather (l.take (i + 1)) = Vd.addRec (Vd.gather (l.take i)) x := by
  unfold Vd.gather
  rw [List.take_add_one, hx]
  simp
theorem gather_bd {D : Nat} (l : List Rec) (hl : ∀ x ∈ l, x.data.length ≤ D) : ∀ i, i ≤ l.length → Bd D i (Vd.gather (l.take i))
  | 0, _ => ⟨by simp [Vd.gather], by simp [Vd.gather], by simp [Vd.gather], by simp [Vd.gather], by simp [Vd.gather]⟩
  | i + 1, h => by
    have hx : l[i]? = some l[i] := List.getElem?_eq_getElem (by omega)
    rw [gather_take hx]
    exact (gather_bd l hl i (by omega)).add _ (hl _ (List.getElem_mem _))
theorem leastAt_lt (sets : List RSet) : ∀ j, j < sets.length → Vd.leastAt sets j < sets.length ∧ Vd.leastAt sets j ≤ j
  | 0, h => ⟨h, Nat.le_refl _⟩
  | j + 1, h => by
    have ih := leastAt_lt sets j (by omega)
    rw [Vd.leastAt, List.getElem?_eq_getElem h, List.getElem?_eq_getElem ih.1]
    dsimp only
    split <;> omega
theorem leastAt_step {sets : List RSet} {j : Nat} {s t : RSet} (hs : sets[j + 1]? = some s) (ht : sets[Vd.leastAt sets j]? = some t) : Vd.leastAt sets (j + 1) = if Vd.before s t then j + 1 else Vd.leastAt sets j := by
  rw [Vd.leastAt, hs, ht]
theorem erase_cut {α : Type} (l : List α) (k : Nat) : l.take k ++ l.drop (k + 1) = l.eraseIdx k := (List.eraseIdx_eq_take_drop_succ l k).symm
end Go.Proofs.Ytdflhdfapnhjjaa
namespace Go.Proofs.Ytdflhdfapnhjjaa
open Go.RowKit
open Vd (RSet Vdt Vote Rec Quest)
set_option linter.unusedVariables false
set_option linter.unusedSimpArgs false
variable {G : World} {L : Blocks}
theorem str_one : ∀ cs y, strR L cs y → ∀ v ∈ cs, v.oneCell' = true := by
  rintro _ y ⟨rfl, _⟩ v hv
  rw [List.mem_singleton.1 hv]
  rfl
theorem ORow.made {α : Type} {r : Rp α} {e : TypeId} {sz b : Nat} : ORow r e sz L (some ⟨b, 0, none⟩) 0 ([] : List α) [(b, .cells #[] e (0, 0))] := ⟨[], Row.made (by simp) (by unfold maxLen; omega), rfl, by simp⟩
set_option maxRecDepth 100000 in
/-- A copy, in blocks of its own. -/
theorem Clone_S (v : Value) (l : List Vd.Bytes) (hl : sliceR 1 strR L [v] l) (hn : l.length ≤ 1000000) : Spec Try.prog G 63 #[v] L fun u M => ∃ a c B, u = .slice a l.length c ∧ ORow strR 9 1 L a c l B ∧ M = B ++ L := by
  obtain ⟨a, c, e1, hl⟩ := hl.val
  simp only [List.cons.injEq, and_true] at e1
  subst e1
  refine Spec_of (n := 8) Try.func63 rfl rfl rfl ?_
  cases ha : a with
  | none =>
    subst ha
    have : l = [] := by
      obtain ⟨_, _, _, h | ⟨b, off, C, te, fr, h, _⟩⟩ := strs_cut hl
      · exact h
      · cases h
    subst this
    have d1 : Option.isNone (none : Option Addr) = true := rfl
    repeat (first | with_reducible refine T_seq ?_ | with_reducible refine T_block ?_ | with_reducible refine T_region ?_ | with_reducible refine TL_nil ?_ | with_reducible refine TQ_then ?_ | with_reducible refine TQ_block ?_ | with_reducible refine T_skip ?_ | with_reducible refine T_label ?_ | with_reducible refine T_exit ?_ | with_reducible refine T_ret ?_ | with_reducible refine TQ_then_exit ?_ | with_reducible refine TQ_then_ret ?_ | with_reducible refine TQ_then_goto ?_ | with_reducible refine TQ_block_exit ?_ | with_reducible refine TQ_block_ret ?_ | with_reducible refine TQ_block_goto ?_ | with_reducible refine TQ_fall ?_ | (refine TQ_block_past ?_ ?_; (· decide)) | refine TL_q (op_move rfl) rfl ?_ | refine TL_q (op_assign rfl) rfl ?_ | (refine' TL_q (op_bin rfl rfl ?_) rfl ?_; rotate_left 1; (· first | exact bin_eql | exact sbin_eql | exact lbin_eql Try.underlying58)) | (refine TL_new (op_lit1 ety_58 rfl rfl) rfl ?_; intro bLit) | (refine T_yes rfl ?_ ?_; (· first | with_reducible rfl | assumption | exact Bool.not_false | exact Bool.not_true)) | (refine T_no rfl ?_ ?_; (· first | with_reducible rfl | assumption | exact Bool.not_false | exact Bool.not_true)))
    refine TQ_ret1 2 _ rfl rfl ?_
    exact ⟨none, 0, [], rfl, ORow.nil _, rfl⟩
  | some x =>
    subst ha
    have d1 : Option.isNone (some x) = false := rfl
    repeat (first | with_reducible refine T_seq ?_ | with_reducible refine T_block ?_ | with_reducible refine T_region ?_ | with_reducible refine TL_nil ?_ | with_reducible refine TQ_then ?_ | with_reducible refine TQ_block ?_ | with_reducible refine T_skip ?_ | with_reducible refine T_label ?_ | with_reducible refine T_exit ?_ | with_reducible refine T_ret ?_ | with_reducible refine TQ_then_exit ?_ | with_reducible refine TQ_then_ret ?_ | with_reducible refine TQ_then_goto ?_ | with_reducible refine TQ_block_exit ?_ | with_reducible refine TQ_block_ret ?_ | with_reducible refine TQ_block_goto ?_ | with_reducible refine TQ_fall ?_ | (refine TQ_block_past ?_ ?_; (· decide)) | refine TL_q (op_move rfl) rfl ?_ | refine TL_q (op_assign rfl) rfl ?_ | (refine' TL_q (op_bin rfl rfl ?_) rfl ?_; rotate_left 1; (· first | exact bin_eql | exact sbin_eql | exact lbin_eql Try.underlying58)) | (refine TL_new (op_lit1 ety_58 rfl rfl) rfl ?_; intro bLit) | (refine T_yes rfl ?_ ?_; (· first | with_reducible rfl | assumption | exact Bool.not_false | exact Bool.not_true)) | (refine T_no rfl ?_ ?_; (· first | with_reducible rfl | assumption | exact Bool.not_false | exact Bool.not_true)))
    refine TL_new (op_lit0 ety_58) rfl ?_
    intro b0
    repeat (first | with_reducible refine T_seq ?_ | with_reducible refine T_block ?_ | with_reducible refine T_region ?_ | with_reducible refine TL_nil ?_ | with_reducible refine TQ_then ?_ | with_reducible refine TQ_block ?_ | with_reducible refine T_skip ?_ | with_reducible refine T_label ?_ | with_reducible refine T_exit ?_ | with_reducible refine T_ret ?_ | with_reducible refine TQ_then_exit ?_ | with_reducible refine TQ_then_ret ?_ | with_reducible refine TQ_then_goto ?_ | with_reducible refine TQ_block_exit ?_ | with_reducible refine TQ_block_ret ?_ | with_reducible refine TQ_block_goto ?_ | with_reducible refine TQ_fall ?_ | (refine TQ_block_past ?_ ?_; (· decide)) | refine TL_q (op_move rfl) rfl ?_ | refine TL_q (op_assign rfl) rfl ?_ | (refine' TL_q (op_bin rfl rfl ?_) rfl ?_; rotate_left 1; (· first | exact bin_eql | exact sbin_eql | exact lbin_eql Try.underlying58)) | (refine TL_new (op_lit1 ety_58 rfl rfl) rfl ?_; intro bLit) | (refine T_yes rfl ?_ ?_; (· first | with_reducible rfl | assumption | exact Bool.not_false | exact Bool.not_true)) | (refine T_no rfl ?_ ?_; (· first | with_reducible rfl | assumption | exact Bool.not_false | exact Bool.not_true)))
    refine TL_opT (op_appendG (l := []) (B := [(b0, .cells #[] 9 (0, 0))]) ety_58 rfl rfl (ORow.made (L := L)) hl str_one (by simp; unfold maxLen; omega) (by simp; omega)) rfl ?_
    rintro _ _ ⟨a', c', B', rfl, hB', rfl⟩
    rw [List.nil_append] at hB' ⊢
    repeat (first | with_reducible refine T_seq ?_ | with_reducible refine T_block ?_ | with_reducible refine T_region ?_ | with_reducible refine TL_nil ?_ | with_reducible refine TQ_then ?_ | with_reducible refine TQ_block ?_ | with_reducible refine T_skip ?_ | with_reducible refine T_label ?_ | with_reducible refine T_exit ?_ | with_reducible refine T_ret ?_ | with_reducible refine TQ_then_exit ?_ | with_reducible refine TQ_then_ret ?_ | with_reducible refine TQ_then_goto ?_ | with_reducible refine TQ_block_exit ?_ | with_reducible refine TQ_block_ret ?_ | with_reducible refine TQ_block_goto ?_ | with_reducible refine TQ_fall ?_ | (refine TQ_block_past ?_ ?_; (· decide)) | refine TL_q (op_move rfl) rfl ?_ | refine TL_q (op_assign rfl) rfl ?_ | (refine' TL_q (op_bin rfl rfl ?_) rfl ?_; rotate_left 1; (· first | exact bin_eql | exact sbin_eql | exact lbin_eql Try.underlying58)) | (refine TL_new (op_lit1 ety_58 rfl rfl) rfl ?_; intro bLit) | (refine T_yes rfl ?_ ?_; (· first | with_reducible rfl | assumption | exact Bool.not_false | exact Bool.not_true)) | (refine T_no rfl ?_ ?_; (· first | with_reducible rfl | assumption | exact Bool.not_false | exact Bool.not_true)))
    refine TQ_ret1 2 _ rfl rfl ?_
    exact ⟨a', c', B', rfl, hB', rfl⟩
end Go.Proofs.Ytdflhdfapnhjjaa
