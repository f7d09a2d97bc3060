/-
  Part 10: Tg Th.
-/
import Derived.Test.YtdflhdfapnhjjaaTw8
namespace Go.Proofs.Ytdflhdfapnhjjaa
open Go.RowKit
open Vd (RSet Vdt Vote Rec Quest Piece Ballot)
set_option linter.unusedVariables false
set_option linter.unusedSimpArgs false
--auto
variable {G : World} {L : Blocks}
set_option maxRecDepth 100000 in
theorem winner_nil : Spec Try.prog G 67 #[.pointer none] L fun u M => u = .tuple #[.agg #[.int .u8 0, .int .i64 0], .bool false] ∧ M = L := by
  refine Spec_of (n := 52) Try.func67 rfl rfl rfl ?_
  repeat ((first | with_reducible refine T_seq ?_ | with_reducible refine T_region ?_ | with_reducible refine TL_nil ?_ | with_reducible refine TQ_then ?_ | with_reducible refine T_ret ?_ | with_reducible refine TQ_then_ret ?_ | refine TL_q (op_move rfl) rfl ?_ | refine TL_q (op_assign rfl) rfl ?_ | (refine' TL_q (op_bin rfl rfl ?_) rfl ?_; rotate_left 1; (· (exact pbin_eql Try.underlying76))) | (refine' TL_q (op_pickT rfl ?_ rfl) rfl ?_; (· (exact Bool.not_false))) | (refine TL_gno rfl rfl ?_ rfl ?_; (· (exact Bool.not_false))) | (refine TL_stAll rfl rfl st_97 rfl rfl rfl ?_) | (refine TL_new (op_alloc (C := #[(.int .u8 0), (.int .i64 0)]) zero_97 rfl) rfl ?_; intro bNew) | refine TL_q (op_build rfl (bl_97_ )) rfl ?_ | (refine T_yes rfl ?_ ?_; (· (with_reducible rfl)))))
  refine TQ_retC2 2 97 3 rfl rfl rfl st_97 (by repeat ((exact List.mem_cons_self))) rfl (fun w h => h.tail) ?_
  exact ⟨rfl, rfl⟩
set_option maxRecDepth 100000 in
theorem pWon_nil : Spec Try.prog G 35 #[.pointer none] L fun u M => u = .tuple #[.agg #[.int .u8 0, .slice none 0 0, .slice none 0 0], .int .u32 0, .slice none 0 0, .bool false] ∧ M = L := by
  refine Spec_of (n := 73) Try.func35 rfl rfl rfl ?_
  repeat ((first | with_reducible refine T_seq ?_ | with_reducible refine T_region ?_ | with_reducible refine TL_nil ?_ | with_reducible refine TQ_then ?_ | refine TL_q (op_move rfl) rfl ?_ | refine TL_q (op_assign rfl) rfl ?_ | refine TL_q (op_not rfl) rfl ?_ | refine TL_q (op_extract rfl rfl) rfl ?_ | (refine' TL_op (op_call hb_67 rfl (winner_nil )) rfl ?_) | (refine TL_stAll rfl rfl st_97 rfl rfl rfl ?_) | (refine TL_new (op_alloc (C := #[(.int .u8 0), (.slice none 0 0), (.slice none 0 0)]) zero_42 rfl) rfl ?_; intro bNew) | (refine TL_new (op_alloc (C := #[(.int .u8 0), (.int .i64 0)]) zero_97 rfl) rfl ?_; intro bNew) | refine TL_q (op_build rfl (bl_42_ )) rfl ?_ | (refine T_yes rfl ?_ ?_; (· (exact Bool.not_false)))))
  rename_i b2
  refine TL_cnt (L' := (b2, Obj.cells #[.int .u8 0, .slice none 0 0, .slice none 0 0] 42 (0, 0)) :: L) ?_ (by intro p; (try simp only [cnt_append, cnt_cons, cnt_nil]) <;> omega)
  repeat ((first | with_reducible refine TL_nil ?_ | with_reducible refine TQ_then ?_ | with_reducible refine T_ret ?_ | with_reducible refine TQ_then_ret ?_ | refine TL_q (op_assign rfl) rfl ?_ | (refine TL_stAll rfl rfl st_42 rfl rfl rfl ?_)))
  refine TQ_retC4 2 42 3 4 5 rfl rfl rfl rfl rfl st_42 (by repeat ((exact List.mem_cons_self))) rfl (fun w h => h.tail) ?_
  exact ⟨rfl, rfl⟩
theorem may_nil (u : Int) : Spec Try.prog G 71 #[.pointer none, .int .i64 u] L fun w M => w = .int .i64 2 ∧ M = L := by
  refine Spec_of (n := 16) Try.func71 rfl rfl rfl ?_
  repeat ((first | with_reducible refine T_seq ?_ | with_reducible refine T_region ?_ | with_reducible refine TL_nil ?_ | with_reducible refine TQ_then ?_ | with_reducible refine T_ret ?_ | with_reducible refine TQ_then_ret ?_ | refine TL_q (op_move rfl) rfl ?_ | refine TL_q (op_assign rfl) rfl ?_ | (refine' TL_q (op_bin rfl rfl ?_) rfl ?_; rotate_left 1; (· (exact pbin_eql Try.underlying76))) | (refine T_yes rfl ?_ ?_; (· (exact Bool.not_false)))))
  refine TQ_ret1 4 _ rfl rfl ?_
  exact ⟨rfl, rfl⟩
set_option maxRecDepth 100000 in
theorem pCast_nil (x : Vote) (cs : List Value) (hx : voteR L cs x) : Spec Try.prog G 42 #[.pointer none, .agg cs.toArray] L fun w M => w = .int .i64 2 ∧ M = L := by
  obtain ⟨x1, xc1, x2, xc2, rfl, _⟩ := hx.vals
  refine Spec_of (n := 57) Try.func42 rfl rfl rfl ?_
  repeat ((first | with_reducible refine T_seq ?_ | with_reducible refine T_region ?_ | with_reducible refine TL_nil ?_ | with_reducible refine TQ_then ?_ | with_reducible refine T_ret ?_ | with_reducible refine TQ_then_ret ?_ | refine TL_q (op_move rfl) rfl ?_ | refine TL_q (op_assign rfl) rfl ?_ | (refine' TL_q (op_bin rfl rfl ?_) rfl ?_; rotate_left 1; (· (exact bin_neq))) | refine TL_q (op_fld rfl fld_46_0) rfl ?_ | (refine' TL_q (op_ld rfl pl_3 ?_ ?_) rfl ?_; rotate_left 4; (· repeat ((exact List.mem_cons_self))); (· (rfl))) | (refine' TL_op (op_call hb_71 rfl (may_nil _ )) rfl ?_) | (refine TL_new (op_boxA rfl) rfl ?_; intro bBox) | (refine T_yes rfl ?_ ?_; (· (exact Bool.not_false)))))
  refine TQ_cnt (L' := L) ?_ (by intro p; (try simp only [cnt_append, cnt_cons, cnt_nil]) <;> omega)
  refine TQ_ret1 4 _ rfl rfl ?_
  exact ⟨rfl, rfl⟩
theorem pPass_nil (u : Int) : Spec Try.prog G 43 #[.pointer none, .int .i64 u] L fun w M => w = .int .i64 2 ∧ M = L := by
  refine Spec_of (n := 18) Try.func43 rfl rfl rfl ?_
  repeat ((first | with_reducible refine T_seq ?_ | with_reducible refine T_region ?_ | with_reducible refine TL_nil ?_ | with_reducible refine TQ_then ?_ | with_reducible refine T_ret ?_ | with_reducible refine TQ_then_ret ?_ | refine TL_q (op_move rfl) rfl ?_ | refine TL_q (op_assign rfl) rfl ?_ | (refine' TL_q (op_bin rfl rfl ?_) rfl ?_; rotate_left 1; (· (exact bin_neq))) | (refine' TL_op (op_call hb_71 rfl (may_nil _ )) rfl ?_) | (refine T_yes rfl ?_ ?_; (· (exact Bool.not_false)))))
  refine TQ_ret1 4 _ rfl rfl ?_
  exact ⟨rfl, rfl⟩
set_option maxRecDepth 100000 in
theorem pAgainst_nil : Spec Try.prog G 40 #[.pointer none] L fun w M => w = .slice none 0 0 ∧ M = L := by
  refine Spec_of (n := 37) Try.func40 rfl rfl rfl ?_
  repeat ((first | with_reducible refine T_seq ?_ | with_reducible refine T_region ?_ | with_reducible refine TL_nil ?_ | with_reducible refine TQ_then ?_ | with_reducible refine T_ret ?_ | with_reducible refine TQ_then_ret ?_ | refine TL_q (op_move rfl) rfl ?_ | refine TL_q (op_assign rfl) rfl ?_ | refine TL_q (op_not rfl) rfl ?_ | refine TL_q (op_extract rfl rfl) rfl ?_ | (refine' TL_op (op_call hb_67 rfl (winner_nil )) rfl ?_) | (refine TL_stAll rfl rfl st_97 rfl rfl rfl ?_) | (refine TL_new (op_alloc (C := #[(.int .u8 0), (.int .i64 0)]) zero_97 rfl) rfl ?_; intro bNew) | (refine T_yes rfl ?_ ?_; (· (exact Bool.not_false)))))
  refine TQ_cnt (L' := L) ?_ (by intro p; (try simp only [cnt_append, cnt_cons, cnt_nil]) <;> omega)
  refine TQ_ret1 2 _ rfl rfl ?_
  exact ⟨rfl, rfl⟩
theorem pVotes_nil : Spec Try.prog G 39 #[.pointer none] L fun w M => w = .slice none 0 0 ∧ M = L := by
  refine Spec_of (n := 10) Try.func39 rfl rfl rfl ?_
  repeat ((first | with_reducible refine T_seq ?_ | with_reducible refine T_region ?_ | with_reducible refine TL_nil ?_ | with_reducible refine TQ_then ?_ | with_reducible refine T_ret ?_ | with_reducible refine TQ_then_ret ?_ | refine TL_q (op_move rfl) rfl ?_ | refine TL_q (op_assign rfl) rfl ?_ | (refine' TL_q (op_bin rfl rfl ?_) rfl ?_; rotate_left 1; (· (exact pbin_eql Try.underlying76))) | (refine T_yes rfl ?_ ?_; (· (exact Bool.not_false)))))
  refine TQ_ret1 2 _ rfl rfl ?_
  exact ⟨rfl, rfl⟩
set_option maxRecDepth 100000 in
theorem pMost_nil : Spec Try.prog G 36 #[.pointer none] L fun w M => w = .int .i64 0 ∧ M = L := by
  refine Spec_of (n := 39) Try.func36 rfl rfl rfl ?_
  repeat ((first | with_reducible refine T_seq ?_ | with_reducible refine T_region ?_ | with_reducible refine TL_nil ?_ | with_reducible refine TQ_then ?_ | with_reducible refine T_ret ?_ | with_reducible refine TQ_then_ret ?_ | refine TL_q (op_move rfl) rfl ?_ | refine TL_q (op_assign rfl) rfl ?_ | (refine' TL_q (op_bin rfl rfl ?_) rfl ?_; rotate_left 1; (· (exact pbin_eql Try.underlying76))) | (refine T_yes rfl ?_ ?_; (· (exact Bool.not_false)))))
  refine TQ_ret1 2 _ rfl rfl ?_
  exact ⟨rfl, rfl⟩
set_option maxRecDepth 100000 in
theorem pHas_nil (u : Int) : Spec Try.prog G 45 #[.pointer none, .int .i64 u] L fun w M => w = .bool false ∧ M = L := by
  refine Spec_of (n := 25) Try.func45 rfl rfl rfl ?_
  repeat ((first | with_reducible refine T_seq ?_ | with_reducible refine T_region ?_ | with_reducible refine TL_nil ?_ | with_reducible refine TQ_then ?_ | with_reducible refine T_ret ?_ | refine TL_q (op_move rfl) rfl ?_ | refine TL_q (op_assign rfl) rfl ?_ | (refine' TL_q (op_bin rfl rfl ?_) rfl ?_; rotate_left 1; (· (exact pbin_neq Try.underlying76))) | (refine' TL_q (op_pickF rfl ?_ rfl) rfl ?_; (· (first | with_reducible rfl | exact Bool.not_true))) | (refine TL_gno rfl rfl ?_ rfl ?_; (· (exact Bool.not_true)))))
  refine TQ_ret1 4 _ rfl rfl ?_
  exact ⟨rfl, rfl⟩
set_option maxRecDepth 100000 in
theorem pCopy_nil : Spec Try.prog G 46 #[.pointer none] L fun w M => w = .pointer none ∧ M = L := by
  refine Spec_of (n := 20) Try.func46 rfl rfl rfl ?_
  repeat ((first | with_reducible refine T_seq ?_ | with_reducible refine T_region ?_ | with_reducible refine TL_nil ?_ | with_reducible refine TQ_then ?_ | with_reducible refine T_ret ?_ | with_reducible refine TQ_then_ret ?_ | refine TL_q (op_move rfl) rfl ?_ | refine TL_q (op_assign rfl) rfl ?_ | (refine' TL_q (op_bin rfl rfl ?_) rfl ?_; rotate_left 1; (· (exact pbin_eql Try.underlying76))) | (refine T_yes rfl ?_ ?_; (· (exact Bool.not_false)))))
  refine TQ_ret1 2 _ rfl rfl ?_
  exact ⟨rfl, rfl⟩
end Go.Proofs.Ytdflhdfapnhjjaa
namespace Go.Proofs.Ytdflhdfapnhjjaa
open Go.RowKit
open Vd (RSet Vdt Vote Rec Quest Piece Ballot)
set_option linter.unusedVariables false
set_option linter.unusedSimpArgs false
--auto
variable {G : World} {L : Blocks}
theorem vote0 {K : Blocks} {up t : Int} (hu : -9223372036854775808 ≤ up ∧ up ≤ 9223372036854775807) (ht : 0 ≤ t ∧ t ≤ 4294967295) : voteR K [.int .i64 up, .int .u8 0, .slice none 0 0, .slice none 0 0, .int .u32 t] ⟨up, Vdt.none, t⟩ :=
  ⟨_, _, rfl, sliceR.nil, sliceR.nil, by show (0 : Int) ≤ 0 ∧ (0 : Int) ≤ 255; decide, ht, hu⟩
theorem intsN {K : Blocks} {b : Nat} (l : List Int) (h : (b, Obj.cells (l.map (Value.int .i64)).toArray 3 (0, 0)) ∈ K) (hn : l.length ≤ 1000) (hx : ∀ x ∈ l, InLit .i64 x) : sliceR 1 (intR .i64) K [.slice (some ⟨b, 0, none⟩) l.length l.length] l := by
  refine ⟨_, l.length, rfl, Nat.le_refl _, by unfold maxLen; omega, Or.inr ⟨b, 0, _, _, _, rfl, h, fun i z hz => ?_⟩⟩
  refine ⟨[.int .i64 z], rfl, ⟨rfl, hx z (List.mem_of_getElem? hz)⟩, fun j v hj => ?_⟩
  match j, hj with
  | 0, hj =>
    obtain rfl := Option.some.inj hj
    rw [List.getElem?_toArray, List.getElem?_map]
    have : 0 + i * 1 + 0 = i := by omega
    rw [this, hz]
    rfl
/-- The ballots of the first so many of nine. -/
def balN (k : Nat) : List Ballot := (List.range k).map fun (u : Nat) => saidB (8 - (u : Int)) [120] (20 - (u : Int))
theorem balN_put {k : Nat} (h : k < 9) : Vd.putB (balN k) ⟨⟨8 - (k : Int), saidV [120], 20 - (k : Int)⟩, false⟩ = (balN (k + 1), 0) := by
  match k, h with
  | 0, _ => rfl
  | 1, _ => rfl
  | 2, _ => rfl
  | 3, _ => rfl
  | 4, _ => rfl
  | 5, _ => rfl
  | 6, _ => rfl
  | 7, _ => rfl
  | 8, _ => rfl
theorem balN_not : ∀ k, k < 9 → (wonP 9 (Vd.votesB (balN k))).2.2.2 = false := by decide +kernel
theorem balN_won : wonP 9 (Vd.votesB (balN 9)) = (saidV [120], 12, [0, 1, 2, 3, 4, 5, 6, 7, 8], true) := by decide +kernel
theorem balN_most : mostR (Vd.votesB (balN 9)) = 9 := by decide +kernel
theorem balN_pass : Vd.putB (balN 9) ⟨⟨3, Vdt.none, 0⟩, true⟩ = (balN 9, 7) := rfl
def balY : List Ballot := [⟨⟨4, Vdt.none, 0⟩, true⟩, saidB 5 [97] 7, saidB 1 [98] 1, saidB 2 [97] 2]
theorem balY1 : Vd.putB [] ⟨⟨4, Vdt.none, 0⟩, true⟩ = ([⟨⟨4, Vdt.none, 0⟩, true⟩], 0) := rfl
theorem balY2 : Vd.putB [⟨⟨4, Vdt.none, 0⟩, true⟩] ⟨⟨5, saidV [97], 7⟩, false⟩ = ([⟨⟨4, Vdt.none, 0⟩, true⟩, saidB 5 [97] 7], 0) := rfl
theorem balY3 : Vd.putB [⟨⟨4, Vdt.none, 0⟩, true⟩, saidB 5 [97] 7] ⟨⟨1, saidV [98], 1⟩, false⟩ = ([⟨⟨4, Vdt.none, 0⟩, true⟩, saidB 5 [97] 7, saidB 1 [98] 1], 0) := rfl
theorem balY4 : Vd.putB [⟨⟨4, Vdt.none, 0⟩, true⟩, saidB 5 [97] 7, saidB 1 [98] 1] ⟨⟨2, saidV [97], 2⟩, false⟩ = (balY, 0) := rfl
theorem balY_won : wonP 1 (Vd.votesB balY) = (saidV [97], 7, [5], true) := by decide +kernel
theorem balY_ag : (if (1 : Int) < 1 then [] else againstR 1 (Vd.votesB balY)) = [1] := by decide +kernel
theorem balY_most : mostR (Vd.votesB balY) = 2 := by decide +kernel
theorem balY_len : ((((Vd.votesB balY).length : Nat) : Int) != 3) = false := by decide +kernel
def balF1 : List Ballot := [⟨⟨1, Vdt.none, 0⟩, false⟩]
theorem balF : Vd.putB [] ⟨⟨1, Vdt.none, 0⟩, false⟩ = (balF1, 0) := rfl
theorem balF_won : wonP 0 (Vd.votesB balF1) = (Vdt.none, 0, [], false) := by decide +kernel
theorem balF_has : Vd.hasB balF1 1 = true := by decide +kernel
theorem balF_most : mostR (Vd.votesB balF1) = 1 := by decide +kernel
set_option maxRecDepth 100000 in
set_option maxHeartbeats 4000000 in
theorem tallyNames_S : Spec Try.prog G 11 #[] L fun u M => u = .bool true ∧ M = L := by
  refine Spec_of (n := 259) Try.func11 rfl rfl rfl ?_
  repeat ((first | with_reducible refine T_seq ?_ | with_reducible refine T_region ?_ | with_reducible refine TL_nil ?_ | with_reducible refine TQ_then ?_ | with_reducible refine T_skip ?_ | refine TL_q (op_move rfl) rfl ?_ | refine TL_q (op_assign rfl) rfl ?_ | refine TL_q (op_not rfl) rfl ?_ | (refine' TL_q (op_pickF rfl ?_ rfl) rfl ?_; (· (exact Bool.not_true))) | (refine' TL_op (op_call hb_32 rfl (awake21_S )) rfl ?_) | (refine T_no rfl ?_ ?_; (· (with_reducible rfl)))))
  refine TL_opT (op_call hb_41 rfl (pNew_B 0)) rfl ?_
  intro u0 M0 h0
  rcases h0 with ⟨h0, _⟩ | ⟨_, rfl, hM⟩
  · omega
  rw [hM]
  clear hM
  repeat ((first | with_reducible refine T_seq ?_ | with_reducible refine T_region ?_ | with_reducible refine TL_nil ?_ | with_reducible refine TQ_then ?_ | refine TL_q (op_move rfl) rfl ?_ | refine TL_q (op_assign rfl) rfl ?_ | refine TL_q (op_extract rfl rfl) rfl ?_))
  refine TL_opT (op_call hb_41 rfl (pNew_B 10)) rfl ?_
  intro u0 M0 h0
  rcases h0 with ⟨h0, h1, _⟩ | ⟨_, rfl, hM⟩
  · omega
  rw [hM]
  clear hM
  repeat ((first | with_reducible refine T_seq ?_ | with_reducible refine T_region ?_ | with_reducible refine TL_nil ?_ | with_reducible refine TQ_then ?_ | refine TL_q (op_move rfl) rfl ?_ | refine TL_q (op_assign rfl) rfl ?_ | refine TL_q (op_extract rfl rfl) rfl ?_))
  refine TL_opT (op_call hb_41 rfl (pNew_B 9)) rfl ?_
  intro u0 M0 h0
  obtain ⟨_, _, bb, X0, rfl, hX0, rfl⟩ := h0.resolve_right (fun h => by have := h.1; omega)
  repeat ((first | with_reducible refine T_seq ?_ | with_reducible refine T_region ?_ | with_reducible refine TL_nil ?_ | with_reducible refine TQ_then ?_ | refine TL_q (op_move rfl) rfl ?_ | refine TL_q (op_assign rfl) rfl ?_ | (refine' TL_q (op_bin rfl rfl ?_) rfl ?_; rotate_left 1; (· (exact bin_neq))) | refine TL_q (op_extract rfl rfl) rfl ?_ | (refine' TL_q (op_pickF rfl ?_ rfl) rfl ?_; (· (exact Bool.not_true))) | (refine TL_gpre rfl rfl ?_ ?_; (· (exact Bool.not_true))) | refine TL_gq2 (op_move rfl) rfl ?_ | (refine' TL_gq2 (op_bin rfl rfl ?_) rfl ?_; rotate_left 1; (· (exact bin_neq))) | refine TL_gq2 (op_build rfl (bl_46_0 _)) rfl ?_))
  refine TG_opT (op_call hb_42 rfl (pCast_B hX0 (vote0 (up := -1) (t := 0) (by decide) (by decide)) smV_none)) rfl ?_
  rintro _ _ ⟨rfl, X1, hX1, rfl⟩
  rw [show Vd.putB [] ⟨⟨-1, Vdt.none, 0⟩, false⟩ = ([], 1) from rfl] at hX1 ⊢
  repeat ((first | refine TL_q (op_move rfl) rfl ?_ | (refine' TL_q (op_pickF rfl ?_ rfl) rfl ?_; (· (exact Bool.not_true))) | (refine TL_gpre rfl rfl ?_ ?_; (· (exact Bool.not_true))) | refine TL_gq2 (op_move rfl) rfl ?_ | (refine' TL_gq2 (op_bin rfl rfl ?_) rfl ?_; rotate_left 1; (· (exact bin_neq))) | refine TL_gq2 (op_build rfl (bl_46_0 _)) rfl ?_))
  refine TG_opT (op_call hb_42 rfl (pCast_B hX1 (vote0 (up := 9) (t := 0) (by decide) (by decide)) smV_none)) rfl ?_
  rintro _ _ ⟨rfl, X2, hX2, rfl⟩
  rw [show Vd.putB _ ⟨⟨9, Vdt.none, 0⟩, false⟩ = ([], 1) from rfl] at hX2 ⊢
  repeat ((first | refine TL_q (op_move rfl) rfl ?_ | (refine' TL_q (op_pickF rfl ?_ rfl) rfl ?_; (· (exact Bool.not_true))) | (refine TL_gpre rfl rfl ?_ ?_; (· (exact Bool.not_true))) | refine TL_gq2 (op_move rfl) rfl ?_ | (refine' TL_gq2 (op_bin rfl rfl ?_) rfl ?_; rotate_left 1; (· (exact bin_neq)))))
  refine TG_opT (op_call hb_43 rfl (pPass_B 9 hX2)) rfl ?_
  rintro _ _ ⟨rfl, X3, hX3, rfl⟩
  rw [show Vd.putB _ ⟨⟨9, Vdt.none, 0⟩, true⟩ = ([], 1) from rfl] at hX3 ⊢
  repeat ((first | with_reducible refine T_seq ?_ | with_reducible refine T_block ?_ | with_reducible refine T_region ?_ | with_reducible refine TL_nil ?_ | with_reducible refine TQ_then ?_ | with_reducible refine T_skip ?_ | refine TL_q (op_assign rfl) rfl ?_ | (refine' TL_q (op_pickF rfl ?_ rfl) rfl ?_; (· (exact Bool.not_true))) | (refine TL_gpre rfl rfl ?_ ?_; (· (exact Bool.not_true))) | (refine' TL_gq2 (op_bin rfl rfl ?_) rfl ?_; rotate_left 1; (· (exact bin_neq))) | (refine T_no rfl ?_ ?_; (· (exact Bool.not_true)))))
  refine T_loopS (σ := Nat × Blocks) (fun y => y.1 ≤ 9 ∧ PBox bb 9 (balN y.1) y.2) (fun y => [(5, .pointer (some ⟨bb, 0, none⟩)), (7, .int .i64 (y.1 : Nat))]) (fun y => y.2 ++ L) (fun y => 9 - y.1) (0, X3) ⟨Nat.zero_le _, hX3⟩ ?_ (fun w h => h) ?_
  (repeat ((first | exact trivial | refine ⟨rfl, ?_⟩)))
  rintro ⟨k, X⟩ ⟨hk, hX⟩
  dsimp only at hk hX ⊢
  by_cases hk9 : k < 9
  · have hnot := balN_not k hk9
    have hWon := pWon_B (G := G) (L := X ++ L) hX (mem_of_cnt (by intro p; (try simp only [cnt_append, cnt_cons, cnt_nil]) <;> omega))
    repeat ((first | with_reducible refine T_seq ?_ | with_reducible refine T_block ?_ | with_reducible refine T_region ?_ | with_reducible refine TL_nil ?_ | with_reducible refine TQ_then ?_ | with_reducible refine T_skip ?_ | refine TL_q (op_move rfl) rfl ?_ | (refine' TL_q (op_bin rfl rfl ?_) rfl ?_; rotate_left 1; (· (exact bin_lss))) | (refine T_yes rfl ?_ ?_; (· (exact dT (by (omega)))))))
    refine TL_opT (op_call hb_35 rfl hWon) rfl ?_
    obtain ⟨r, hr⟩ : ∃ r, wonP 9 (Vd.votesB (balN k)) = r := ⟨_, rfl⟩
    rw [hr] at hnot ⊢
    obtain ⟨v1, t1, by1, is1⟩ := r
    dsimp only at hnot
    subst hnot
    rintro _ _ ⟨a5, c5, B5, a6, c6, B6, a7, c7, B7, N, rfl, hB5, hB6, hB7, hN, rfl⟩
    repeat ((first | with_reducible refine T_seq ?_ | with_reducible refine T_region ?_ | with_reducible refine TL_nil ?_ | with_reducible refine TQ_then ?_ | refine TL_q (op_move rfl) rfl ?_ | refine TL_q (op_assign rfl) rfl ?_ | refine TL_q (op_extract rfl rfl) rfl ?_ | (refine TL_gpre rfl rfl ?_ ?_; (· (with_reducible rfl))) | refine TL_gq2 (op_move rfl) rfl ?_ | (refine' TL_gq2 (op_bin rfl rfl ?_) rfl ?_; rotate_left 1; (· (exact bin_sub ⟨by omega, by omega⟩))) | (refine TL_stAll rfl rfl st_42 rfl rfl rfl ?_) | (refine TL_new (op_alloc (C := #[(.int .u8 0), (.slice none 0 0), (.slice none 0 0)]) zero_42 rfl) rfl ?_; intro bNew)))
    refine TG_opT (OpT.heap (L' := X ++ L) (fun w h => h.cnt (by intro p; (try simp only [cnt_append, cnt_cons, cnt_nil]) <;> omega)) (op_call hb_44 rfl (said_S [120] (by decide)))) rfl ?_
    rintro _ _ ⟨a1, B1, N1, rfl, hB1, hN1, rfl⟩
    repeat ((first | (refine TL_gpre rfl rfl ?_ ?_; (· (with_reducible rfl))) | refine TL_gq2 (op_move rfl) rfl ?_ | (refine' TL_gq2 (op_bin rfl rfl ?_) rfl ?_; rotate_left 1; (· (exact bin_sub ⟨by omega, by omega⟩))) | (refine' TL_gq2 (op_conv_int rfl Try.underlying3 Try.underlying36 ?_) rfl ?_; (· exact ⟨by omega, by omega⟩)) | refine TL_gq2 (op_build rfl (bl_46_0_1_2 _ _ _ _ _)) rfl ?_))
    refine TG_opT (OpT.heap (L' := X ++ (B1 ++ (N1 ++ L))) (fun w h => h.cnt (by intro p; (try simp only [cnt_append, cnt_cons, cnt_nil]) <;> omega)) (op_call hb_42 rfl (pCast_B hX (said_vote (up := 8 - (k : Int)) (t := 20 - (k : Int)) hB1 (mem_of_cnt (by intro p; (try simp only [cnt_append, cnt_cons, cnt_nil]) <;> omega)) (mem_of_cnt (by intro p; (try simp only [cnt_append, cnt_cons, cnt_nil]) <;> omega)) (by omega) (by omega)) (said_sm _)))) rfl ?_
    rintro _ _ ⟨rfl, X', hX', rfl⟩
    rw [balN_put hk9] at hX' ⊢
    repeat ((first | with_reducible refine T_region ?_ | with_reducible refine TL_nil ?_ | with_reducible refine TQ_then ?_ | with_reducible refine TQ_block ?_ | with_reducible refine T_skip ?_ | refine TL_q (op_move rfl) rfl ?_ | refine TL_q (op_assign rfl) rfl ?_ | (refine' TL_q (op_bin rfl rfl ?_) rfl ?_; rotate_left 1; (· (exact bin_add ⟨by omega, by omega⟩))) | (refine' TL_q (op_pickF rfl ?_ rfl) rfl ?_; (· (with_reducible rfl))) | (refine TL_gpre rfl rfl ?_ ?_; (· (with_reducible rfl))) | (refine' TL_gq2 (op_bin rfl rfl ?_) rfl ?_; rotate_left 1; (· (exact bin_neq))) | (refine T_no rfl ?_ ?_; (· (exact Bool.not_true)))))
    refine TQ_roundS (k + 1, X') ⟨hk9, hX'⟩ ?_ (fun w h => h.cnt (by intro p; (try simp only [cnt_append, cnt_cons, cnt_nil]) <;> omega)) (by dsimp only; omega)
    (repeat ((first | exact trivial | refine ⟨rfl, ?_⟩)))
  · have hk0 : k = 9 := by omega
    subst hk0
    have hWon := pWon_B (G := G) (L := X ++ L) hX (mem_of_cnt (by intro p; (try simp only [cnt_append, cnt_cons, cnt_nil]) <;> omega))
    rw [balN_won] at hWon
    repeat ((first | with_reducible refine T_seq ?_ | with_reducible refine T_region ?_ | with_reducible refine TL_nil ?_ | with_reducible refine TQ_then ?_ | with_reducible refine T_exit ?_ | with_reducible refine TQ_then_exit ?_ | with_reducible refine TQ_block_exit ?_ | refine TL_q (op_move rfl) rfl ?_ | (refine' TL_q (op_bin rfl rfl ?_) rfl ?_; rotate_left 1; (· (exact bin_lss))) | (refine T_no rfl ?_ ?_; (· (exact Bool.not_true)))))
    refine TL_opT (op_call hb_35 rfl hWon) rfl ?_
    rintro _ _ ⟨a5, c5, B5, a6, c6, B6, a7, c7, B7, N, rfl, hB5, hB6, hB7, hN, rfl⟩
    dsimp only at hB5 hB6 hB7 ⊢
    have e1 : decide (([0, 1, 2, 3, 4, 5, 6, 7, 8] : List Int) = [0, 1, 2, 3, 4, 5, 6, 7, 8]) = true := by decide
    repeat ((first | with_reducible refine T_seq ?_ | with_reducible refine T_region ?_ | with_reducible refine TL_nil ?_ | with_reducible refine TQ_then ?_ | refine TL_q (op_move rfl) rfl ?_ | refine TL_q (op_assign rfl) rfl ?_ | refine TL_q (op_not rfl) rfl ?_ | refine TL_q (op_extract rfl rfl) rfl ?_ | (refine' TL_q (op_pickF rfl ?_ rfl) rfl ?_; (· (exact Bool.not_true))) | (refine TL_gpre rfl rfl ?_ ?_; (· (exact Bool.not_true))) | refine TL_gq2 (op_move rfl) rfl ?_ | (refine' TL_gq2 (op_bin rfl rfl ?_) rfl ?_; rotate_left 1; (· (exact bin_neq))) | (refine TL_stAll rfl rfl st_42 rfl rfl rfl ?_) | (refine TL_new (op_alloc (C := #[(.int .u8 0), (.slice none 0 0), (.slice none 0 0)]) zero_42 rfl) rfl ?_; intro bNew)))
    refine TG_opT (OpT.heap (L' := X ++ (B7 ++ L)) (fun w h => h.cnt (by intro p; (try simp only [cnt_append, cnt_cons, cnt_nil]) <;> omega)) (op_buildSlice (C := #[.int .i64 0, .int .i64 1, .int .i64 2, .int .i64 3, .int .i64 4, .int .i64 5, .int .i64 6, .int .i64 7, .int .i64 8]) (vs := [(0, .int .i64 0), (1, .int .i64 1), (2, .int .i64 2), (3, .int .i64 3), (4, .int .i64 4), (5, .int .i64 5), (6, .int .i64 6), (7, .int .i64 7), (8, .int .i64 8)]) rfl (rowLitG ety_79 [.int .i64 0, .int .i64 1, .int .i64 2, .int .i64 3, .int .i64 4, .int .i64 5, .int .i64 6, .int .i64 7, .int .i64 8] rfl (by intro v hv; simp only [List.mem_cons, List.not_mem_nil, or_false] at hv; rcases hv with rfl | rfl | rfl | rfl | rfl | rfl | rfl | rfl | rfl <;> rfl) (by decide) rfl))) rfl ?_
    rintro _ _ ⟨bI, rfl, rfl⟩
    repeat ((refine TL_gpre rfl rfl ?_ ?_; (· (exact Bool.not_true))))
    refine TG_op (op_call hb_38 rfl (Ints_S _ _ [0, 1, 2, 3, 4, 5, 6, 7, 8] [0, 1, 2, 3, 4, 5, 6, 7, 8] (hB7.sliceR (mono_int _) (by simp) (mem_of_cnt (by intro p; (try simp only [cnt_append, cnt_cons, cnt_nil]) <;> omega))) (intsN [0, 1, 2, 3, 4, 5, 6, 7, 8] (List.mem_cons_self ..) (by decide) (by intro x hx; simp only [List.mem_cons, List.not_mem_nil, or_false] at hx; rcases hx with rfl | rfl | rfl | rfl | rfl | rfl | rfl | rfl | rfl <;> exact up_lit (by decide))))) rfl ?_
    repeat ((first | refine TL_q (op_move rfl) rfl ?_ | (refine' TL_q (op_pickF rfl ?_ rfl) rfl ?_; (· (exact Bool.not_true))) | (refine TL_gpre rfl rfl ?_ ?_; (· (exact Bool.not_true))) | refine TL_gq2 (op_move rfl) rfl ?_ | refine TL_gq2 (op_not rfl) rfl ?_))
    refine TG_op (op_call hb_36 rfl (pMost_B hX (mem_of_cnt (by intro p; (try simp only [cnt_append, cnt_cons, cnt_nil]) <;> omega)))) rfl ?_
    rw [balN_most]
    repeat ((first | refine TL_q (op_move rfl) rfl ?_ | (refine' TL_q (op_pickF rfl ?_ rfl) rfl ?_; (· (exact Bool.not_true))) | (refine TL_gpre rfl rfl ?_ ?_; (· (exact Bool.not_true))) | refine TL_gq2 (op_move rfl) rfl ?_ | (refine' TL_gq2 (op_bin rfl rfl ?_) rfl ?_; rotate_left 1; (· (exact bin_neq)))))
    refine TG_opT (OpT.heap (L' := X ++ L) (fun w h => h.cnt (by intro p; (try simp only [cnt_append, cnt_cons, cnt_nil]) <;> omega)) (op_call hb_43 rfl (pPass_B 3 hX))) rfl ?_
    rintro _ _ ⟨rfl, X4, hX4, rfl⟩
    rw [balN_pass] at hX4 ⊢
    repeat ((first | with_reducible refine T_seq ?_ | with_reducible refine T_region ?_ | with_reducible refine TL_nil ?_ | with_reducible refine TQ_then ?_ | with_reducible refine T_skip ?_ | (refine' TL_q (op_pickF rfl ?_ rfl) rfl ?_; (· (exact Bool.not_true))) | (refine TL_gpre rfl rfl ?_ ?_; (· (exact Bool.not_true))) | (refine' TL_gq2 (op_bin rfl rfl ?_) rfl ?_; rotate_left 1; (· (exact bin_neq))) | (refine T_no rfl ?_ ?_; (· (exact Bool.not_true)))))
    refine TL_cnt (L' := L) ?_ (by intro p; (try simp only [cnt_append, cnt_cons, cnt_nil]) <;> omega)
    refine TL_opT (op_call hb_41 rfl (pNew_B 1)) rfl ?_
    intro u0 M0 h0
    obtain ⟨_, _, bq, Y0, rfl, hY0, rfl⟩ := h0.resolve_right (fun h => by have := h.1; omega)
    repeat ((first | with_reducible refine T_seq ?_ | with_reducible refine T_region ?_ | with_reducible refine TL_nil ?_ | with_reducible refine TQ_then ?_ | refine TL_q (op_move rfl) rfl ?_ | refine TL_q (op_assign rfl) rfl ?_ | (refine' TL_q (op_bin rfl rfl ?_) rfl ?_; rotate_left 1; (· (exact bin_neq))) | refine TL_q (op_extract rfl rfl) rfl ?_ | (refine TL_gpre rfl rfl ?_ ?_; (· (exact Bool.not_true))) | refine TL_gq2 (op_move rfl) rfl ?_))
    refine TG_opT (op_call hb_43 rfl (pPass_B 4 hY0)) rfl ?_
    rintro _ _ ⟨rfl, Y1, hY1, rfl⟩
    rw [balY1] at hY1 ⊢
    repeat ((first | refine TL_q (op_move rfl) rfl ?_ | (refine' TL_q (op_pickF rfl ?_ rfl) rfl ?_; (· (exact Bool.not_true))) | (refine TL_gpre rfl rfl ?_ ?_; (· (exact Bool.not_true))) | refine TL_gq2 (op_move rfl) rfl ?_ | (refine' TL_gq2 (op_bin rfl rfl ?_) rfl ?_; rotate_left 1; (· (exact bin_neq)))))
    refine TG_opT (op_call hb_44 rfl (said_S [97] (by decide))) rfl ?_
    rintro _ _ ⟨a11, B11, N11, rfl, hB11, hN11, rfl⟩
    repeat ((first | (refine TL_gpre rfl rfl ?_ ?_; (· (exact Bool.not_true))) | refine TL_gq2 (op_build rfl (bl_46_0_1_2 _ _ _ _ _)) rfl ?_))
    refine TG_opT (OpT.heap (L' := Y1 ++ (B11 ++ (N11 ++ L))) (fun w h => h.cnt (by intro p; (try simp only [cnt_append, cnt_cons, cnt_nil]) <;> omega)) (op_call hb_42 rfl (pCast_B hY1 (said_vote (up := 5) (t := 7) hB11 (mem_of_cnt (by intro p; (try simp only [cnt_append, cnt_cons, cnt_nil]) <;> omega)) (mem_of_cnt (by intro p; (try simp only [cnt_append, cnt_cons, cnt_nil]) <;> omega)) (by decide) (by decide)) (said_sm _)))) rfl ?_
    rintro _ _ ⟨rfl, Y2, hY2, rfl⟩
    rw [balY2] at hY2 ⊢
    repeat ((first | refine TL_q (op_move rfl) rfl ?_ | (refine' TL_q (op_pickF rfl ?_ rfl) rfl ?_; (· (exact Bool.not_true))) | (refine TL_gpre rfl rfl ?_ ?_; (· (exact Bool.not_true))) | refine TL_gq2 (op_move rfl) rfl ?_ | (refine' TL_gq2 (op_bin rfl rfl ?_) rfl ?_; rotate_left 1; (· (exact bin_neq)))))
    refine TG_opT (op_call hb_44 rfl (said_S [98] (by decide))) rfl ?_
    rintro _ _ ⟨a12, B12, N12, rfl, hB12, hN12, rfl⟩
    repeat ((first | (refine TL_gpre rfl rfl ?_ ?_; (· (exact Bool.not_true))) | refine TL_gq2 (op_build rfl (bl_46_0_1_2 _ _ _ _ _)) rfl ?_))
    refine TG_opT (OpT.heap (L' := Y2 ++ (B12 ++ (N12 ++ L))) (fun w h => h.cnt (by intro p; (try simp only [cnt_append, cnt_cons, cnt_nil]) <;> omega)) (op_call hb_42 rfl (pCast_B hY2 (said_vote (up := 1) (t := 1) hB12 (mem_of_cnt (by intro p; (try simp only [cnt_append, cnt_cons, cnt_nil]) <;> omega)) (mem_of_cnt (by intro p; (try simp only [cnt_append, cnt_cons, cnt_nil]) <;> omega)) (by decide) (by decide)) (said_sm _)))) rfl ?_
    rintro _ _ ⟨rfl, Y3, hY3, rfl⟩
    rw [balY3] at hY3 ⊢
    repeat ((first | refine TL_q (op_move rfl) rfl ?_ | (refine' TL_q (op_pickF rfl ?_ rfl) rfl ?_; (· (exact Bool.not_true))) | (refine TL_gpre rfl rfl ?_ ?_; (· (exact Bool.not_true))) | refine TL_gq2 (op_move rfl) rfl ?_ | (refine' TL_gq2 (op_bin rfl rfl ?_) rfl ?_; rotate_left 1; (· (exact bin_neq)))))
    refine TG_opT (op_call hb_44 rfl (said_S [97] (by decide))) rfl ?_
    rintro _ _ ⟨a13, B13, N13, rfl, hB13, hN13, rfl⟩
    repeat ((first | (refine TL_gpre rfl rfl ?_ ?_; (· (exact Bool.not_true))) | refine TL_gq2 (op_build rfl (bl_46_0_1_2 _ _ _ _ _)) rfl ?_))
    refine TG_opT (OpT.heap (L' := Y3 ++ (B13 ++ (N13 ++ L))) (fun w h => h.cnt (by intro p; (try simp only [cnt_append, cnt_cons, cnt_nil]) <;> omega)) (op_call hb_42 rfl (pCast_B hY3 (said_vote (up := 2) (t := 2) hB13 (mem_of_cnt (by intro p; (try simp only [cnt_append, cnt_cons, cnt_nil]) <;> omega)) (mem_of_cnt (by intro p; (try simp only [cnt_append, cnt_cons, cnt_nil]) <;> omega)) (by decide) (by decide)) (said_sm _)))) rfl ?_
    rintro _ _ ⟨rfl, Y4, hY4, rfl⟩
    rw [balY4] at hY4 ⊢
    repeat ((first | with_reducible refine T_seq ?_ | with_reducible refine T_region ?_ | with_reducible refine TL_nil ?_ | with_reducible refine TQ_then ?_ | with_reducible refine T_skip ?_ | refine TL_q (op_move rfl) rfl ?_ | (refine' TL_q (op_pickF rfl ?_ rfl) rfl ?_; (· (exact Bool.not_true))) | (refine TL_gpre rfl rfl ?_ ?_; (· (exact Bool.not_true))) | (refine' TL_gq2 (op_bin rfl rfl ?_) rfl ?_; rotate_left 1; (· (exact bin_neq))) | (refine T_no rfl ?_ ?_; (· (exact Bool.not_true)))))
    refine TL_cnt (L' := Y4 ++ L) ?_ (by intro p; (try simp only [cnt_append, cnt_cons, cnt_nil]) <;> omega)
    clear hY0 hY1 hY2 hY3
    have hWon := pWon_B (G := G) (L := Y4 ++ L) hY4 (mem_of_cnt (by intro p; (try simp only [cnt_append, cnt_cons, cnt_nil]) <;> omega))
    rw [balY_won] at hWon
    refine TL_opT (op_call hb_35 rfl hWon) rfl ?_
    rintro _ _ ⟨a, c, B, a6, c6, B6, a5, c5, B5, N, rfl, hB, hB6, hB5, hN, rfl⟩
    dsimp only at hB hB6 hB5 ⊢
    repeat ((first | with_reducible refine T_seq ?_ | with_reducible refine TL_nil ?_ | with_reducible refine TQ_then ?_ | refine TL_q (op_move rfl) rfl ?_ | refine TL_q (op_assign rfl) rfl ?_ | refine TL_q (op_extract rfl rfl) rfl ?_ | (refine TL_stAll rfl rfl st_42 rfl rfl rfl ?_) | (refine TL_new (op_alloc (C := #[(.int .u8 0), (.slice none 0 0), (.slice none 0 0)]) zero_42 rfl) rfl ?_; intro bNew)))
    obtain ⟨b3, hb3⟩ : ∃ b, bNew = b := ⟨_, rfl⟩
    rw [hb3]
    clear hb3 bNew
    have hvdW : ∀ {D : Blocks}, (∀ p ∈ B, p ∈ D) → (∀ p ∈ B6, p ∈ D) → (∀ p ∈ N, p ∈ D) → vdR D [.int .u8 (saidV [97]).code, .slice a (saidV [97]).sets.length c, .slice a6 (saidV [97]).soa.length c6] (saidV [97]) := fun h1 h2 h3 => ⟨_, _, rfl, hB.sliceR mono_set h3 h1, hB6.sliceR mono_set h3 h2, by show (0 : Int) ≤ 0 ∧ (0 : Int) ≤ 255; decide⟩
    have e0 : decide (saidV [97] = saidV [97]) = true := by simp
    have e2 : decide (([5] : List Int) = [5]) = true := by decide
    have e3 : decide (([1] : List Int) = [1]) = true := by decide
    have e4 := balY_len
    have hKm : ∀ z ∈ [(b3, Obj.cells #[.int .u8 (saidV [97]).code, .slice a (saidV [97]).sets.length c, .slice a6 (saidV [97]).soa.length c6] 42 (0, 0))], z ∈ (b3, Obj.cells #[.int .u8 (saidV [97]).code, .slice a (saidV [97]).sets.length c, .slice a6 (saidV [97]).soa.length c6] 42 (0, 0)) :: (B5 ++ (B6 ++ (B ++ (N ++ (Y4 ++ L))))) := by
      intro z hz
      rw [List.mem_singleton.1 hz]
      exact List.mem_cons_self ..
    skip
    refine T_midK (σ := Unit) (fun _ => True) (fun _ => [(191, .bool false)]) (fun _ => L) ?_ ?_
    · skip
      refine T_draw follows_mixed ([(b3, Obj.cells #[.int .u8 (saidV [97]).code, .slice a (saidV [97]).sets.length c, .slice a6 (saidV [97]).soa.length c6] 42 (0, 0))]) [] ?_
      (refine' TA_take 0 rfl rfl (by kernel_rfl) (quiet_q (op_move rfl)) ?_ ?_; (· (assumption)))
      (refine' TA_take 1 rfl rfl (by kernel_rfl) (quiet_q (op_not rfl)) ?_ ?_; (· (assumption)))
      (refine' TA_take 2 rfl rfl (by kernel_rfl) (quiet_q (op_move rfl)) ?_ ?_; (· (assumption)))
      (refine' TA_take 3 rfl rfl (by kernel_rfl) (quiet_g2 rfl rfl (by (assumption)) (op_move rfl)) ?_ ?_; (· (assumption)))
      (refine' TA_take 4 rfl rfl (by kernel_rfl) (quiet_g2 rfl rfl (by (assumption)) (op_bin rfl rfl ?_)) ?_ ?_; rotate_left 1; (· (exact bin_neq)); (· (assumption)))
      (refine' TA_take 5 rfl rfl (by kernel_rfl) (quiet_q (op_pickF rfl ?_ rfl)) ?_ ?_; (· (assumption)); (· (assumption)))
      (refine' TA_take 6 rfl rfl (by kernel_rfl) (quiet_q (op_move rfl)) ?_ ?_; (· (assumption)))
      (refine' TA_take 7 rfl rfl (by kernel_rfl) (quiet_g2 rfl rfl (by (assumption)) (op_move rfl)) ?_ ?_; (· (assumption)))
      refine TA_oneGd 8 (by kernel_rfl) rfl rfl rfl rfl (by (assumption)) (op_buildSlice (C := #[.int .i64 5]) (vs := [(0, .int .i64 5)]) rfl (rowLitG ety_79 [.int .i64 5] rfl (by intro v hv; rw [List.mem_singleton.1 hv]; rfl) (by decide) rfl)) ?_
      rintro _ _ ⟨bI, rfl, rfl⟩
      refine ⟨Or.inr (by (exact (fun z hz => mem_of_cnt (by intro p; (try simp only [cnt_append, cnt_cons, cnt_nil]) <;> omega) z (hKm z hz)))), ?_⟩
      refine TA_oneGd 9 (by kernel_rfl) rfl rfl rfl rfl (by (assumption)) (op_call hb_38 rfl (Ints_S _ _ [5] [5] (hB5.sliceR (mono_int _) (by simp) (mem_of_cnt (by intro p; (try simp only [cnt_append, cnt_cons, cnt_nil]) <;> omega))) (ints1 (by simp) (up_lit (by decide))))) ?_
      rintro _ _ ⟨rfl, rfl⟩
      refine ⟨Or.inr (by (exact (fun z hz => mem_of_cnt (by intro p; (try simp only [cnt_append, cnt_cons, cnt_nil]) <;> omega) z (hKm z hz)))), ?_⟩
      (refine' TA_take 10 rfl rfl (by kernel_rfl) (quiet_g2 rfl rfl (by (assumption)) (op_not rfl)) ?_ ?_; (· (intro p hp; grind)))
      (refine' TA_take 11 rfl rfl (by kernel_rfl) (quiet_q (op_pickF rfl ?_ rfl)) ?_ ?_; (· (assumption)); (· (intro p hp; grind)))
      (refine' TA_take 12 rfl rfl (by kernel_rfl) (quiet_q (op_move rfl)) ?_ ?_; (· (intro p hp; grind)))
      (refine' TA_take 13 rfl rfl (by kernel_rfl) (quiet_g2 rfl rfl (by (assumption)) (op_ldAll rfl st_42 ?_ ?_)) ?_ ?_; rotate_left 3; (· repeat ((exact List.mem_cons_self))); (· (rfl)); (· (intro p hp; grind)))
      refine TA_oneGd 14 (by kernel_rfl) rfl rfl rfl rfl (by (assumption)) (op_call hb_44 rfl (said_S [97] (by decide))) ?_
      rintro _ _ ⟨aS, BS, NS, rfl, hBS, hNS, rfl⟩
      refine ⟨Or.inr (by (exact (fun z hz => mem_of_cnt (by intro p; (try simp only [cnt_append, cnt_cons, cnt_nil]) <;> omega) z (hKm z hz)))), ?_⟩
      refine TA_oneGd 15 (by kernel_rfl) rfl rfl rfl rfl (by (assumption)) (op_call hb_23 rfl (vSame_S [.int .u8 (saidV [97]).code, .slice a (saidV [97]).sets.length c, .slice a6 (saidV [97]).soa.length c6] [.int .u8 0, .slice aS (saidV [97]).sets.length 1, .slice none (saidV [97]).soa.length 0] (saidV [97]) (saidV [97]) (hvdW (mem_of_cnt (by intro p; (try simp only [cnt_append, cnt_cons, cnt_nil]) <;> omega)) (mem_of_cnt (by intro p; (try simp only [cnt_append, cnt_cons, cnt_nil]) <;> omega)) (mem_of_cnt (by intro p; (try simp only [cnt_append, cnt_cons, cnt_nil]) <;> omega))) (said_vd hBS (mem_of_cnt (by intro p; (try simp only [cnt_append, cnt_cons, cnt_nil]) <;> omega)) (mem_of_cnt (by intro p; (try simp only [cnt_append, cnt_cons, cnt_nil]) <;> omega))))) ?_
      rintro _ _ ⟨rfl, rfl⟩
      refine ⟨Or.inr (by (exact (fun z hz => mem_of_cnt (by intro p; (try simp only [cnt_append, cnt_cons, cnt_nil]) <;> omega) z (hKm z hz)))), ?_⟩
      (refine' TA_take 16 rfl rfl (by kernel_rfl) (quiet_g2 rfl rfl (by (assumption)) (op_not rfl)) ?_ ?_; (· (intro p hp; grind)))
      (refine' TA_take 17 rfl rfl (by kernel_rfl) (quiet_q (op_pickF rfl ?_ rfl)) ?_ ?_; (· (assumption)); (· (intro p hp; grind)))
      (refine' TA_take 18 rfl rfl (by kernel_rfl) (quiet_q (op_move rfl)) ?_ ?_; (· (intro p hp; grind)))
      (refine' TA_take 19 rfl rfl (by kernel_rfl) (quiet_g2 rfl rfl (by (assumption)) (op_move rfl)) ?_ ?_; (· (intro p hp; grind)))
      refine TA_two 20 21 (by kernel_rfl) ?_ ?_
      · refine Up_ofGd rfl rfl rfl rfl (by (assumption)) (op_call hb_40 rfl (pAgainst_B hY4 (mem_of_cnt (by intro p; (try simp only [cnt_append, cnt_cons, cnt_nil]) <;> omega)))) ?_
        rintro _ _ ⟨aA, cA, BA, rfl, hBA, rfl⟩; rw [balY_ag] at hBA ⊢
        refine ⟨Or.inr (by (exact (fun z hz => mem_of_cnt (by intro p; (try simp only [cnt_append, cnt_cons, cnt_nil]) <;> omega) z (hKm z hz)))), ?_⟩
        refine TA_oneGd 21 (by kernel_rfl) rfl rfl rfl rfl (by (assumption)) (op_buildSlice (C := #[.int .i64 1]) (vs := [(0, .int .i64 1)]) rfl (rowLitG ety_79 [.int .i64 1] rfl (by intro v hv; rw [List.mem_singleton.1 hv]; rfl) (by decide) rfl)) ?_
        rintro _ _ ⟨bJ, rfl, rfl⟩
        refine ⟨Or.inr (by (exact (fun z hz => mem_of_cnt (by intro p; (try simp only [cnt_append, cnt_cons, cnt_nil]) <;> omega) z (hKm z hz)))), ?_⟩
        refine TA_oneGd 22 (by kernel_rfl) rfl rfl rfl rfl (by (assumption)) (op_call hb_38 rfl (Ints_S _ _ [1] [1] (hBA.sliceR (mono_int _) (by simp) (mem_of_cnt (by intro p; (try simp only [cnt_append, cnt_cons, cnt_nil]) <;> omega))) (ints1 (by simp) (up_lit (by decide))))) ?_
        rintro _ _ ⟨rfl, rfl⟩
        refine ⟨Or.inr (by (exact (fun z hz => mem_of_cnt (by intro p; (try simp only [cnt_append, cnt_cons, cnt_nil]) <;> omega) z (hKm z hz)))), ?_⟩
        (refine' TA_take 23 rfl rfl (by kernel_rfl) (quiet_g2 rfl rfl (by (assumption)) (op_not rfl)) ?_ ?_; (· (intro p hp; grind)))
        (refine' TA_take 24 rfl rfl (by kernel_rfl) (quiet_q (op_pickF rfl ?_ rfl)) ?_ ?_; (· (assumption)); (· (intro p hp; grind)))
        (refine' TA_take 25 rfl rfl (by kernel_rfl) (quiet_q (op_move rfl)) ?_ ?_; (· (intro p hp; grind)))
        (refine' TA_take 26 rfl rfl (by kernel_rfl) (quiet_g2 rfl rfl (by (assumption)) (op_move rfl)) ?_ ?_; (· (intro p hp; grind)))
        refine TA_oneGd 27 (by kernel_rfl) rfl rfl rfl rfl (by (assumption)) (op_call hb_36 rfl (pMost_B hY4 (mem_of_cnt (by intro p; (try simp only [cnt_append, cnt_cons, cnt_nil]) <;> omega)))) ?_
        rintro _ _ ⟨rfl, rfl⟩; rw [balY_most]
        refine ⟨Or.inr (by (exact (fun z hz => mem_of_cnt (by intro p; (try simp only [cnt_append, cnt_cons, cnt_nil]) <;> omega) z (hKm z hz)))), ?_⟩
        (refine' TA_take 28 rfl rfl (by kernel_rfl) (quiet_g2 rfl rfl (by (assumption)) (op_bin rfl rfl ?_)) ?_ ?_; rotate_left 1; (· (exact bin_neq)); (· (intro p hp; grind)))
        (refine' TA_take 29 rfl rfl (by kernel_rfl) (quiet_q (op_pickF rfl ?_ rfl)) ?_ ?_; (· (assumption)); (· (intro p hp; grind)))
        (refine' TA_take 30 rfl rfl (by kernel_rfl) (quiet_q (op_move rfl)) ?_ ?_; (· (intro p hp; grind)))
        (refine' TA_take 31 rfl rfl (by kernel_rfl) (quiet_g2 rfl rfl (by (assumption)) (op_move rfl)) ?_ ?_; (· (intro p hp; grind)))
        refine TA_oneGd 32 (by kernel_rfl) rfl rfl rfl rfl (by (assumption)) (op_call hb_39 rfl (pVotes_B hY4 (mem_of_cnt (by intro p; (try simp only [cnt_append, cnt_cons, cnt_nil]) <;> omega)))) ?_
        rintro _ _ ⟨aV, cV, BV, NV, rfl, hBV, hNV, rfl⟩
        refine ⟨Or.inr (by (exact (fun z hz => mem_of_cnt (by intro p; (try simp only [cnt_append, cnt_cons, cnt_nil]) <;> omega) z (hKm z hz)))), ?_⟩
        (refine' TA_take 33 rfl rfl (by kernel_rfl) (quiet_g2 rfl rfl (by (assumption)) (op_len_slice rfl Try.underlying47)) ?_ ?_; (· (intro p hp; grind)))
        (refine' TA_take 34 rfl rfl (by kernel_rfl) (quiet_g2 rfl rfl (by (assumption)) (op_bin rfl rfl ?_)) ?_ ?_; rotate_left 1; (· (exact bin_neq)); (· (intro p hp; grind)))
        (refine' TA_take 35 rfl rfl (by kernel_rfl) (quiet_q (op_pickF rfl ?_ rfl)) ?_ ?_; (· (assumption)); (· (intro p hp; grind)))
        refine TA_done (by kernel_rfl) ?_
        refine TQ_mid () trivial ?_ (fun w h => h.cnt (by intro p; (try simp only [cnt_append, cnt_cons, cnt_nil]) <;> omega))
        (repeat ((first | exact trivial | refine ⟨rfl, ?_⟩)))
      · refine Up_ofGd rfl rfl rfl rfl (by (assumption)) (op_buildSlice (C := #[.int .i64 1]) (vs := [(0, .int .i64 1)]) rfl (rowLitG ety_79 [.int .i64 1] rfl (by intro v hv; rw [List.mem_singleton.1 hv]; rfl) (by decide) rfl)) ?_
        rintro _ _ ⟨bJ, rfl, rfl⟩
        refine ⟨Or.inr (by (exact (fun z hz => mem_of_cnt (by intro p; (try simp only [cnt_append, cnt_cons, cnt_nil]) <;> omega) z (hKm z hz)))), ?_⟩
        refine TA_oneGd 20 (by kernel_rfl) rfl rfl rfl rfl (by (assumption)) (op_call hb_40 rfl (pAgainst_B hY4 (mem_of_cnt (by intro p; (try simp only [cnt_append, cnt_cons, cnt_nil]) <;> omega)))) ?_
        rintro _ _ ⟨aA, cA, BA, rfl, hBA, rfl⟩; rw [balY_ag] at hBA ⊢
        refine ⟨Or.inr (by (exact (fun z hz => mem_of_cnt (by intro p; (try simp only [cnt_append, cnt_cons, cnt_nil]) <;> omega) z (hKm z hz)))), ?_⟩
        refine TA_oneGd 22 (by kernel_rfl) rfl rfl rfl rfl (by (assumption)) (op_call hb_38 rfl (Ints_S _ _ [1] [1] (hBA.sliceR (mono_int _) (by simp) (mem_of_cnt (by intro p; (try simp only [cnt_append, cnt_cons, cnt_nil]) <;> omega))) (ints1 (by simp) (up_lit (by decide))))) ?_
        rintro _ _ ⟨rfl, rfl⟩
        refine ⟨Or.inr (by (exact (fun z hz => mem_of_cnt (by intro p; (try simp only [cnt_append, cnt_cons, cnt_nil]) <;> omega) z (hKm z hz)))), ?_⟩
        (refine' TA_take 23 rfl rfl (by kernel_rfl) (quiet_g2 rfl rfl (by (assumption)) (op_not rfl)) ?_ ?_; (· (intro p hp; grind)))
        (refine' TA_take 24 rfl rfl (by kernel_rfl) (quiet_q (op_pickF rfl ?_ rfl)) ?_ ?_; (· (assumption)); (· (intro p hp; grind)))
        (refine' TA_take 25 rfl rfl (by kernel_rfl) (quiet_q (op_move rfl)) ?_ ?_; (· (intro p hp; grind)))
        (refine' TA_take 26 rfl rfl (by kernel_rfl) (quiet_g2 rfl rfl (by (assumption)) (op_move rfl)) ?_ ?_; (· (intro p hp; grind)))
        refine TA_oneGd 27 (by kernel_rfl) rfl rfl rfl rfl (by (assumption)) (op_call hb_36 rfl (pMost_B hY4 (mem_of_cnt (by intro p; (try simp only [cnt_append, cnt_cons, cnt_nil]) <;> omega)))) ?_
        rintro _ _ ⟨rfl, rfl⟩; rw [balY_most]
        refine ⟨Or.inr (by (exact (fun z hz => mem_of_cnt (by intro p; (try simp only [cnt_append, cnt_cons, cnt_nil]) <;> omega) z (hKm z hz)))), ?_⟩
        (refine' TA_take 28 rfl rfl (by kernel_rfl) (quiet_g2 rfl rfl (by (assumption)) (op_bin rfl rfl ?_)) ?_ ?_; rotate_left 1; (· (exact bin_neq)); (· (intro p hp; grind)))
        (refine' TA_take 29 rfl rfl (by kernel_rfl) (quiet_q (op_pickF rfl ?_ rfl)) ?_ ?_; (· (assumption)); (· (intro p hp; grind)))
        (refine' TA_take 30 rfl rfl (by kernel_rfl) (quiet_q (op_move rfl)) ?_ ?_; (· (intro p hp; grind)))
        (refine' TA_take 31 rfl rfl (by kernel_rfl) (quiet_g2 rfl rfl (by (assumption)) (op_move rfl)) ?_ ?_; (· (intro p hp; grind)))
        refine TA_oneGd 32 (by kernel_rfl) rfl rfl rfl rfl (by (assumption)) (op_call hb_39 rfl (pVotes_B hY4 (mem_of_cnt (by intro p; (try simp only [cnt_append, cnt_cons, cnt_nil]) <;> omega)))) ?_
        rintro _ _ ⟨aV, cV, BV, NV, rfl, hBV, hNV, rfl⟩
        refine ⟨Or.inr (by (exact (fun z hz => mem_of_cnt (by intro p; (try simp only [cnt_append, cnt_cons, cnt_nil]) <;> omega) z (hKm z hz)))), ?_⟩
        (refine' TA_take 33 rfl rfl (by kernel_rfl) (quiet_g2 rfl rfl (by (assumption)) (op_len_slice rfl Try.underlying47)) ?_ ?_; (· (intro p hp; grind)))
        (refine' TA_take 34 rfl rfl (by kernel_rfl) (quiet_g2 rfl rfl (by (assumption)) (op_bin rfl rfl ?_)) ?_ ?_; rotate_left 1; (· (exact bin_neq)); (· (intro p hp; grind)))
        (refine' TA_take 35 rfl rfl (by kernel_rfl) (quiet_q (op_pickF rfl ?_ rfl)) ?_ ?_; (· (assumption)); (· (intro p hp; grind)))
        refine TA_done (by kernel_rfl) ?_
        refine TQ_mid () trivial ?_ (fun w h => h.cnt (by intro p; (try simp only [cnt_append, cnt_cons, cnt_nil]) <;> omega))
        (repeat ((first | exact trivial | refine ⟨rfl, ?_⟩)))
    · rintro _ _
      repeat ((first | with_reducible refine T_seq ?_ | with_reducible refine T_region ?_ | with_reducible refine TL_nil ?_ | with_reducible refine TQ_then ?_ | with_reducible refine T_skip ?_ | refine TL_q (op_move rfl) rfl ?_ | refine TL_q (op_assign rfl) rfl ?_ | (refine TL_new (op_boxA rfl) rfl ?_; intro bBox) | refine TL_q (op_build rfl (bl_100_ )) rfl ?_ | (refine T_no rfl ?_ ?_; (· (with_reducible rfl)))))
      obtain ⟨bF, hbF⟩ : ∃ b, bBox = b := ⟨_, rfl⟩
      rw [hbF]
      clear hbF bBox
      have hF : PBox bF 0 [] [(bF, Obj.cells (boxC 0 (slipOf []) (.slice none (Vd.votesB []).length 0)).toArray 100 (0, 0))] := ⟨BoxSm.nil, _, [], ⟨none, 0, [], ORow.nil _, rfl⟩, Wr.nil, rfl⟩
      rw [box0] at hF
      obtain ⟨XF, hXF⟩ : ∃ X, [(bF, Obj.cells #[.int .i64 0, .int .u8 0, .int .i64 0, .int .u8 0, .int .i64 0, .int .u8 0, .int .i64 0, .int .u8 0, .int .i64 0, .int .u8 0, .int .i64 0, .int .u8 0, .int .i64 0, .int .u8 0, .int .i64 0, .int .u8 0, .int .i64 0, .int .u8 0, .int .i64 0, .slice none 0 0] 100 (0, 0))] = X := ⟨_, rfl⟩
      have hXL : ∀ p, cnt p (XF ++ L) ≤ cnt p ((bF, Obj.cells #[.int .i64 0, .int .u8 0, .int .i64 0, .int .u8 0, .int .i64 0, .int .u8 0, .int .i64 0, .int .u8 0, .int .i64 0, .int .u8 0, .int .i64 0, .int .u8 0, .int .i64 0, .int .u8 0, .int .i64 0, .int .u8 0, .int .i64 0, .int .u8 0, .int .i64 0, .slice none 0 0] 100 (0, 0)) :: L) := by rw [← hXF]; exact (by intro p; (try simp only [cnt_append, cnt_cons, cnt_nil]) <;> omega)
      rw [hXF] at hF
      refine TL_cnt (L' := XF ++ L) ?_ hXL
      clear hXL hXF
      skip
      refine TL_op (op_call hb_35 rfl pWon_nil) rfl ?_
      repeat ((first | with_reducible refine T_seq ?_ | with_reducible refine T_region ?_ | with_reducible refine TL_nil ?_ | with_reducible refine TQ_then ?_ | refine TL_q (op_move rfl) rfl ?_ | refine TL_q (op_assign rfl) rfl ?_ | refine TL_q (op_extract rfl rfl) rfl ?_ | (refine TL_gpre rfl rfl ?_ ?_; (· (with_reducible rfl))) | refine TL_gq2 (op_move rfl) rfl ?_ | refine TL_gq2 (op_build rfl (bl_46_ )) rfl ?_))
      refine TG_op (op_call hb_42 rfl (pCast_nil _ _ (vote0 (up := 0) (t := 0) (by decide) (by decide)))) rfl ?_
      repeat ((first | refine TL_q (op_move rfl) rfl ?_ | (refine' TL_q (op_pickF rfl ?_ rfl) rfl ?_; (· (with_reducible rfl))) | (refine TL_gpre rfl rfl ?_ ?_; (· (first | with_reducible rfl | assumption))) | refine TL_gq2 (op_move rfl) rfl ?_ | (refine' TL_gq2 (op_bin rfl rfl ?_) rfl ?_; rotate_left 1; (· (exact bin_neq)))))
      refine TG_op (op_call hb_43 rfl (pPass_nil 0)) rfl ?_
      repeat ((first | refine TL_q (op_move rfl) rfl ?_ | (refine' TL_q (op_pickF rfl ?_ rfl) rfl ?_; (· (assumption))) | (refine TL_gpre rfl rfl ?_ ?_; (· (assumption))) | refine TL_gq2 (op_move rfl) rfl ?_ | (refine' TL_gq2 (op_bin rfl rfl ?_) rfl ?_; rotate_left 1; (· (exact bin_neq)))))
      refine TG_op (op_call hb_40 rfl pAgainst_nil) rfl ?_
      repeat ((first | (refine TL_gpre rfl rfl ?_ ?_; (· (assumption))) | refine TL_gq2 (op_move rfl) rfl ?_ | refine TL_gq2 (op_len_slice rfl Try.underlying79) rfl ?_))
      refine TG_op (op_call hb_39 rfl pVotes_nil) rfl ?_
      repeat ((first | (refine TL_gpre rfl rfl ?_ ?_; (· (assumption))) | refine TL_gq2 (op_move rfl) rfl ?_ | (refine' TL_gq2 (op_bin rfl rfl ?_) rfl ?_; rotate_left 1; (· (exact bin_add ⟨by omega, by omega⟩))) | refine TL_gq2 (op_len_slice rfl Try.underlying47) rfl ?_))
      refine TG_op (op_call hb_36 rfl pMost_nil) rfl ?_
      repeat ((first | refine TL_q (op_move rfl) rfl ?_ | (refine' TL_q (op_pickF rfl ?_ rfl) rfl ?_; (· (assumption))) | (refine TL_gpre rfl rfl ?_ ?_; (· (assumption))) | refine TL_gq2 (op_move rfl) rfl ?_ | (refine' TL_gq2 (op_bin rfl rfl ?_) rfl ?_; rotate_left 1; (· (first | exact bin_add ⟨by omega, by omega⟩ | exact bin_neq)))))
      refine TG_op (op_call hb_45 rfl (pHas_nil 0)) rfl ?_
      repeat ((first | refine TL_q (op_move rfl) rfl ?_ | (refine' TL_q (op_pickF rfl ?_ rfl) rfl ?_; (· (assumption))) | (refine TL_gpre rfl rfl ?_ ?_; (· (with_reducible rfl))) | refine TL_gq2 (op_move rfl) rfl ?_))
      refine TG_op (op_call hb_46 rfl pCopy_nil) rfl ?_
      repeat ((first | refine TL_q (op_move rfl) rfl ?_ | (refine' TL_q (op_pickF rfl ?_ rfl) rfl ?_; (· (with_reducible rfl))) | (refine TL_gpre rfl rfl ?_ ?_; (· (first | with_reducible rfl | assumption))) | refine TL_gq2 (op_move rfl) rfl ?_ | (refine' TL_gq2 (op_bin rfl rfl ?_) rfl ?_; rotate_left 1; (· (exact pbin_neq Try.underlying76))) | refine TL_gq2 (op_build rfl (bl_46_0 _)) rfl ?_))
      refine TG_opT (op_call hb_42 rfl (pCast_B hF (vote0 (up := 1) (t := 0) (by decide) (by decide)) smV_none)) rfl ?_
      rintro _ _ ⟨rfl, XG, hG, rfl⟩
      rw [balF] at hG ⊢
      repeat ((first | with_reducible refine T_seq ?_ | with_reducible refine T_region ?_ | with_reducible refine TL_nil ?_ | with_reducible refine TQ_then ?_ | with_reducible refine T_skip ?_ | refine TL_q (op_move rfl) rfl ?_ | (refine' TL_q (op_pickF rfl ?_ rfl) rfl ?_; (· (assumption))) | (refine TL_gpre rfl rfl ?_ ?_; (· (assumption))) | (refine' TL_gq2 (op_bin rfl rfl ?_) rfl ?_; rotate_left 1; (· (exact bin_neq))) | (refine T_no rfl ?_ ?_; (· (assumption)))))
      have hWF := pWon_B (G := G) (L := XG ++ L) hG (mem_of_cnt (by intro p; (try simp only [cnt_append, cnt_cons, cnt_nil]) <;> omega))
      rw [balF_won] at hWF
      refine TL_opT (op_call hb_35 rfl hWF) rfl ?_
      rintro _ _ ⟨a8, c8, B8, a9, c9, B9, a10, c10, B10, N2, rfl, hB8, hB9, hB10, hN2, rfl⟩
      repeat ((first | with_reducible refine T_seq ?_ | with_reducible refine T_region ?_ | with_reducible refine TL_nil ?_ | with_reducible refine TQ_then ?_ | refine TL_q (op_move rfl) rfl ?_ | refine TL_q (op_assign rfl) rfl ?_ | refine TL_q (op_not rfl) rfl ?_ | refine TL_q (op_extract rfl rfl) rfl ?_ | (refine TL_gpre rfl rfl ?_ ?_; (· (assumption))) | refine TL_gq2 (op_move rfl) rfl ?_))
      refine TG_op (op_call hb_45 rfl (pHas_B 1 hG (mem_of_cnt (by intro p; (try simp only [cnt_append, cnt_cons, cnt_nil]) <;> omega)))) rfl ?_
      rw [balF_has]
      repeat ((first | refine TL_q (op_move rfl) rfl ?_ | (refine' TL_q (op_pickT rfl ?_ rfl) rfl ?_; (· (assumption))) | (refine TL_gpre rfl rfl ?_ ?_; (· (with_reducible rfl))) | refine TL_gq2 (op_move rfl) rfl ?_))
      refine TG_op (op_call hb_36 rfl (pMost_B hG (mem_of_cnt (by intro p; (try simp only [cnt_append, cnt_cons, cnt_nil]) <;> omega)))) rfl ?_
      rw [balF_most]
      repeat ((first | with_reducible refine TL_nil ?_ | with_reducible refine TQ_then ?_ | with_reducible refine T_ret ?_ | refine TL_q (op_assign rfl) rfl ?_ | (refine' TL_q (op_pickT rfl ?_ rfl) rfl ?_; (· (with_reducible rfl))) | (refine TL_gpre rfl rfl ?_ ?_; (· (with_reducible rfl))) | (refine' TL_gq2 (op_bin rfl rfl ?_) rfl ?_; rotate_left 1; (· (exact bin_eql)))))
      refine TQ_cnt (L' := L) ?_ (by intro p; (try simp only [cnt_append, cnt_cons, cnt_nil]) <;> omega)
      refine TQ_ret1 0 _ rfl rfl ?_
      exact ⟨rfl, rfl⟩
theorem tallyNames_walk (W : World) : Calls Try.prog 11 #[] W fun e w' => e = .returned (.bool true) ∧ Below W.heap.size W w' :=
  Spec.below tallyNames_S
end Go.Proofs.Ytdflhdfapnhjjaa
