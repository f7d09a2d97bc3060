/-
  Part 7: Kc Kd Ke Kf Kg Kh Ki Gq Gr Gs Gt Gu Kj Kl.
-/
import Derived.Test.YtdflhdfapnhjjaaTx6
import Derived.Test.YtdflhdfapnhjjaaTx2
import Derived.Test.YtdflhdfapnhjjaaShelf
import Derived.Sort.OwnSorted
import Derived.Sort.OwnSortedInts
import Derived.Test.YtdflhdfapnhjjaaTx1
namespace Go.Proofs.Ytdflhdfapnhjjaa
open Go.RowKit
open Vd (RSet Vdt Vote Rec Quest Piece Ballot)
set_option linter.unusedVariables false
set_option linter.unusedSimpArgs false
--auto
variable {G : World} {L : Blocks}
theorem hasB_out {l : List Ballot} (h : BoxOk l) {u : Int} (hu : ¬ (0 ≤ u ∧ u < 9)) : Vd.hasB l u = false := by
  cases hb : Vd.hasB l u with
  | false => rfl
  | true =>
    obtain ⟨b, hb1, hb2⟩ := List.mem_map.1 ((hasB_mem l u).1 hb)
    have := h.up b hb1
    omega
theorem slip_kind (l : List Ballot) (u : Int) : ((slipOf l u).1 != 0) = Vd.hasB l u := by
  have := slip_has l u
  cases hb : Vd.hasB l u with
  | true =>
    rw [hb] at this
    have h : ¬ (slipOf l u).1 = 0 := fun e => by have := this.1 e; cases this
    simpa using h
  | false => rw [this.2 hb]; rfl
set_option maxRecDepth 100000 in
set_option maxHeartbeats 2000000 in
theorem pHas_S (bb : Nat) (want u : Int) (l : List Ballot) (vv : Value) (hm : (bb, Obj.cells (boxC want (slipOf l) vv).toArray 100 (0, 0)) ∈ L) (hl : BoxOk l) :
    Spec Try.prog G 45 #[.pointer (some ⟨bb, 0, none⟩), .int .i64 u] L fun w M => w = .bool (Vd.hasB l u) ∧ M = L := by
  refine Spec_of (n := 25) Try.func45 rfl rfl rfl ?_
  by_cases hu : 0 ≤ u ∧ u < 9
  · obtain ⟨h0, h9⟩ := hu
    have hg : (boxC want (slipOf l) vv).toArray[0 + 1 + u.toNat * 2 + 0]? = some (.int .u8 (slipOf l u).1) := boxC_kind ⟨h0, h9⟩
    repeat ((first | with_reducible refine T_seq ?_ | with_reducible refine T_region ?_ | with_reducible refine TL_nil ?_ | with_reducible refine TQ_then ?_ | with_reducible refine T_ret ?_ | refine TL_q (op_move rfl) rfl ?_ | refine TL_q (op_assign rfl) rfl ?_ | (refine' TL_q (op_bin rfl rfl ?_) rfl ?_; rotate_left 1; (· (exact pbin_neq Try.underlying76))) | (refine' TL_q (op_pickT rfl ?_ rfl) rfl ?_; (· (first | exact Bool.not_false | exact dT (by (assumption))))) | (refine TL_gpre rfl rfl ?_ ?_; (· (first | exact Bool.not_false | exact dT (by (assumption))))) | refine TL_gq2 (op_move rfl) rfl ?_ | (refine' TL_gq2 (op_bin rfl rfl ?_) rfl ?_; rotate_left 1; (· (first | exact bin_neq | exact bin_lss | exact bin_geq))) | refine TL_gq2 (op_nilCheck rfl) rfl ?_ | (refine' TL_gq2 (op_idxA arr_98 rfl rfl ?_ ?_) rfl ?_; (· omega); (· omega)) | refine TL_gq2 (op_fld rfl fld_97_0) rfl ?_ | refine TL_gq2 (op_fld rfl fld_100_1) rfl ?_ | (refine' TL_gq2 (op_ld rfl pl_5 ?_ ?_) rfl ?_; rotate_left 4; (· repeat ((assumption))); (· (assumption)))))
    refine TQ_ret1 4 _ rfl rfl ?_
    exact ⟨by rw [← slip_kind], rfl⟩
  · rw [hasB_out hl hu]
    by_cases h0 : 0 ≤ u
    · have h9 : ¬ u < 9 := fun h => hu ⟨h0, h⟩
      repeat ((first | with_reducible refine T_seq ?_ | with_reducible refine T_region ?_ | with_reducible refine TL_nil ?_ | with_reducible refine TQ_then ?_ | with_reducible refine T_ret ?_ | refine TL_q (op_move rfl) rfl ?_ | refine TL_q (op_assign rfl) rfl ?_ | (refine' TL_q (op_bin rfl rfl ?_) rfl ?_; rotate_left 1; (· (exact pbin_neq Try.underlying76))) | (refine' TL_q (op_pickT rfl ?_ rfl) rfl ?_; (· (first | exact Bool.not_false | exact dT (by (assumption))))) | (refine' TL_q (op_pickF rfl ?_ rfl) rfl ?_; (· (exact dF (by (assumption))))) | (refine TL_gpre rfl rfl ?_ ?_; (· (first | exact Bool.not_false | exact dT (by (assumption))))) | refine TL_gq2 (op_move rfl) rfl ?_ | (refine' TL_gq2 (op_bin rfl rfl ?_) rfl ?_; rotate_left 1; (· (first | exact bin_lss | exact bin_geq))) | (refine TL_gno rfl rfl ?_ rfl ?_; (· (exact dF (by (assumption)))))))
      refine TQ_ret1 4 _ rfl rfl ?_
      exact ⟨rfl, rfl⟩
    · repeat ((first | with_reducible refine T_seq ?_ | with_reducible refine T_region ?_ | with_reducible refine TL_nil ?_ | with_reducible refine TQ_then ?_ | with_reducible refine T_ret ?_ | refine TL_q (op_move rfl) rfl ?_ | refine TL_q (op_assign rfl) rfl ?_ | (refine' TL_q (op_bin rfl rfl ?_) rfl ?_; rotate_left 1; (· (exact pbin_neq Try.underlying76))) | (refine' TL_q (op_pickT rfl ?_ rfl) rfl ?_; (· (exact Bool.not_false))) | (refine' TL_q (op_pickF rfl ?_ rfl) rfl ?_; (· (first | with_reducible rfl | exact dF (by (assumption))))) | (refine TL_gpre rfl rfl ?_ ?_; (· (exact Bool.not_false))) | refine TL_gq2 (op_move rfl) rfl ?_ | (refine' TL_gq2 (op_bin rfl rfl ?_) rfl ?_; rotate_left 1; (· (exact bin_geq))) | (refine TL_gno rfl rfl ?_ rfl ?_; (· (first | exact Bool.not_true | exact dF (by (assumption)))))))
      refine TQ_ret1 4 _ rfl rfl ?_
      exact ⟨rfl, rfl⟩
/-- Whether a ballot of an upstream may be added. -/
def mayE (l : List Ballot) (u : Int) : Int := if u < 0 ∨ 9 ≤ u then 1 else if Vd.hasB l u then 7 else 0
theorem putB_e (l : List Ballot) (x : Ballot) : (Vd.putB l x).2 = mayE l x.v.up := by
  unfold Vd.putB mayE
  split
  · rfl
  · split <;> rfl
theorem putB_no {l : List Ballot} {x : Ballot} (h : mayE l x.v.up ≠ 0) : (Vd.putB l x).1 = l := by
  unfold Vd.putB
  unfold mayE at h
  split
  · rfl
  · rename_i h1
    rw [if_neg h1] at h
    split
    · rfl
    · rename_i h2
      rw [if_neg h2] at h
      exact absurd rfl h
theorem putB_yes {l : List Ballot} {x : Ballot} (h : mayE l x.v.up = 0) : (Vd.putB l x).1 = l ++ [x] ∧ (0 ≤ x.v.up ∧ x.v.up < 9) ∧ Vd.hasB l x.v.up = false := by
  unfold Vd.putB
  unfold mayE at h
  by_cases h1 : x.v.up < 0 ∨ 9 ≤ x.v.up
  · rw [if_pos h1] at h; cases h
  · rw [if_neg h1] at h ⊢
    by_cases h2 : Vd.hasB l x.v.up = true
    · rw [if_pos h2] at h; cases h
    · rw [if_neg h2]
      exact ⟨rfl, by omega, by simpa using h2⟩
set_option maxRecDepth 100000 in
set_option maxHeartbeats 2000000 in
theorem pMay_S (bb : Nat) (want u : Int) (l : List Ballot) (vv : Value) (hm : (bb, Obj.cells (boxC want (slipOf l) vv).toArray 100 (0, 0)) ∈ L) (hl : BoxOk l) :
    Spec Try.prog G 71 #[.pointer (some ⟨bb, 0, none⟩), .int .i64 u] L fun w M => w = .int .i64 (mayE l u) ∧ M = L := by
  refine Spec_of (n := 16) Try.func71 rfl rfl rfl ?_
  unfold mayE
  by_cases h0 : u < 0
  · rw [if_pos (Or.inl h0)]
    repeat ((first | with_reducible refine T_seq ?_ | with_reducible refine T_region ?_ | with_reducible refine TL_nil ?_ | with_reducible refine TQ_then ?_ | with_reducible refine T_skip ?_ | with_reducible refine T_ret ?_ | with_reducible refine TQ_then_ret ?_ | refine TL_q (op_move rfl) rfl ?_ | refine TL_q (op_assign rfl) rfl ?_ | (refine' TL_q (op_bin rfl rfl ?_) rfl ?_; rotate_left 1; (· (first | exact bin_lss | exact pbin_eql Try.underlying76))) | (refine' TL_q (op_pickT rfl ?_ rfl) rfl ?_; (· (exact dT (by (assumption))))) | (refine TL_gno rfl rfl ?_ rfl ?_; (· (exact dT (by (assumption))))) | (refine T_yes rfl ?_ ?_; (· (with_reducible rfl))) | (refine T_no rfl ?_ ?_; (· (exact Bool.not_true)))))
    refine TQ_ret1 4 _ rfl rfl ?_
    exact ⟨rfl, rfl⟩
  · by_cases h9 : 9 ≤ u
    · rw [if_pos (Or.inr h9)]
      repeat ((first | with_reducible refine T_seq ?_ | with_reducible refine T_region ?_ | with_reducible refine TL_nil ?_ | with_reducible refine TQ_then ?_ | with_reducible refine T_skip ?_ | with_reducible refine T_ret ?_ | with_reducible refine TQ_then_ret ?_ | refine TL_q (op_move rfl) rfl ?_ | refine TL_q (op_assign rfl) rfl ?_ | (refine' TL_q (op_bin rfl rfl ?_) rfl ?_; rotate_left 1; (· (first | exact bin_lss | exact pbin_eql Try.underlying76))) | (refine' TL_q (op_pickF rfl ?_ rfl) rfl ?_; (· (exact dF (by (assumption))))) | (refine TL_gpre rfl rfl ?_ ?_; (· (exact dF (by (assumption))))) | refine TL_gq2 (op_move rfl) rfl ?_ | (refine' TL_gq2 (op_bin rfl rfl ?_) rfl ?_; rotate_left 1; (· (exact bin_geq))) | (refine T_yes rfl ?_ ?_; (· (exact dT (by (assumption))))) | (refine T_no rfl ?_ ?_; (· (exact Bool.not_true)))))
      refine TQ_ret1 4 _ rfl rfl ?_
      exact ⟨rfl, rfl⟩
    · rw [if_neg (by omega)]
      cases hb : Vd.hasB l u with
      | true =>
        repeat ((first | with_reducible refine T_seq ?_ | with_reducible refine T_region ?_ | with_reducible refine TL_nil ?_ | with_reducible refine TQ_then ?_ | with_reducible refine T_skip ?_ | with_reducible refine T_ret ?_ | with_reducible refine TQ_then_ret ?_ | refine TL_q (op_move rfl) rfl ?_ | refine TL_q (op_assign rfl) rfl ?_ | (refine' TL_q (op_bin rfl rfl ?_) rfl ?_; rotate_left 1; (· (first | exact bin_lss | exact pbin_eql Try.underlying76))) | (refine' TL_q (op_pickF rfl ?_ rfl) rfl ?_; (· (exact dF (by (assumption))))) | (refine' TL_op (op_call hb_45 rfl ((pHas_S bb want u l vv hm hl) )) rfl ?_) | (refine TL_gpre rfl rfl ?_ ?_; (· (exact dF (by (assumption))))) | refine TL_gq2 (op_move rfl) rfl ?_ | (refine' TL_gq2 (op_bin rfl rfl ?_) rfl ?_; rotate_left 1; (· (exact bin_geq))) | (refine T_yes rfl ?_ ?_; (· (assumption))) | (refine T_no rfl ?_ ?_; (· (first | exact Bool.not_true | exact dF (by (assumption)))))))
        refine TQ_ret1 4 _ rfl rfl ?_
        exact ⟨rfl, rfl⟩
      | false =>
        repeat ((first | with_reducible refine T_seq ?_ | with_reducible refine T_region ?_ | with_reducible refine TL_nil ?_ | with_reducible refine TQ_then ?_ | with_reducible refine T_skip ?_ | with_reducible refine T_ret ?_ | refine TL_q (op_move rfl) rfl ?_ | refine TL_q (op_assign rfl) rfl ?_ | (refine' TL_q (op_bin rfl rfl ?_) rfl ?_; rotate_left 1; (· (first | exact bin_lss | exact pbin_eql Try.underlying76))) | (refine' TL_q (op_pickF rfl ?_ rfl) rfl ?_; (· (exact dF (by (assumption))))) | (refine' TL_op (op_call hb_45 rfl ((pHas_S bb want u l vv hm hl) )) rfl ?_) | (refine TL_gpre rfl rfl ?_ ?_; (· (exact dF (by (assumption))))) | refine TL_gq2 (op_move rfl) rfl ?_ | (refine' TL_gq2 (op_bin rfl rfl ?_) rfl ?_; rotate_left 1; (· (exact bin_geq))) | (refine T_no rfl ?_ ?_; (· (first | assumption | exact Bool.not_true | exact dF (by (assumption)))))))
        refine TQ_ret1 4 _ rfl rfl ?_
        exact ⟨rfl, rfl⟩
set_option maxRecDepth 100000 in
set_option maxHeartbeats 2000000 in
theorem pPass_S {K : Blocks} (bb : Nat) (want u : Int) (l : List Ballot) (M0 : Blocks) (hb : TBox K bb want l M0) (hl : BoxOk l) :
    Spec Try.prog G 43 #[.pointer (some ⟨bb, 0, none⟩), .int .i64 u] (M0 ++ L) fun w M => w = .int .i64 (Vd.putB l ⟨⟨u, Vdt.none, 0⟩, true⟩).2 ∧ ∃ M', TBox K bb want (Vd.putB l ⟨⟨u, Vdt.none, 0⟩, true⟩).1 M' ∧ M = M' ++ L := by
  obtain ⟨a, c, B, hB, rfl⟩ := hb
  refine Spec_of (n := 18) Try.func43 rfl rfl rfl ?_
  repeat ((first | with_reducible refine T_seq ?_ | with_reducible refine T_region ?_ | with_reducible refine TL_nil ?_ | with_reducible refine TQ_then ?_ | refine TL_q (op_move rfl) rfl ?_ | refine TL_q (op_assign rfl) rfl ?_))
  refine TL_op (op_call hb_71 rfl (pMay_S bb want u l _ (List.mem_cons_self ..) hl)) rfl ?_
  have he := putB_e l ⟨⟨u, Vdt.none, 0⟩, true⟩
  rw [he]
  by_cases h0 : mayE l u = 0
  · obtain ⟨h1, h2, h3⟩ := putB_yes (x := ⟨⟨u, Vdt.none, 0⟩, true⟩) h0
    obtain ⟨h20, h29⟩ := h2
    dsimp only at h20 h29 h3
    repeat ((first | with_reducible refine T_seq ?_ | with_reducible refine T_region ?_ | with_reducible refine TL_nil ?_ | with_reducible refine TQ_then ?_ | with_reducible refine T_skip ?_ | refine TL_q (op_move rfl) rfl ?_ | refine TL_q (op_assign rfl) rfl ?_ | (refine' TL_q (op_bin rfl rfl ?_) rfl ?_; rotate_left 1; (· (exact bin_neq))) | refine TL_q (op_nilCheck rfl) rfl ?_ | (refine' TL_q (op_idxA arr_98 rfl rfl ?_ ?_) rfl ?_; (· omega); (· omega)) | refine TL_q (op_fld rfl fld_100_1) rfl ?_ | refine TL_q (op_build rfl (bl_97_0 _)) rfl ?_ | (refine T_no rfl ?_ ?_; (· (exact nF (by (assumption)))))))
    refine TL_opN (op_stA (cs := [.int .u8 1, .int .i64 0]) rfl rfl st_97 (by intro v hv; simp only [List.mem_cons, List.not_mem_nil, or_false] at hv; rcases hv with rfl | rfl <;> rfl) (by rw [boxC_len]; simp; omega)) ?_
    have hput : putAt (boxC want (slipOf l) (.slice a (Vd.votesB l).length c)).toArray (0 + 1 + u.toNat * 2) [.int .u8 1, .int .i64 0] = (boxC want (slipOf (l ++ [⟨⟨u, Vdt.none, 0⟩, true⟩])) (.slice a (Vd.votesB l).length c)).toArray := by
      rw [upd_slip hl (x := ⟨⟨u, Vdt.none, 0⟩, true⟩) h3 ⟨h20, h29⟩, Nat.zero_add]
      exact boxC_put ⟨h20, h29⟩ (1, 0)
    rw [hput]
    repeat ((first | with_reducible refine T_seq ?_ | with_reducible refine T_region ?_ | with_reducible refine TL_nil ?_ | with_reducible refine TQ_then ?_ | with_reducible refine T_ret ?_ | refine TL_q (op_assign rfl) rfl ?_))
    refine TQ_ret1 4 _ rfl rfl ?_
    have hv : Vd.votesB (l ++ [⟨⟨u, Vdt.none, 0⟩, true⟩]) = Vd.votesB l := by rw [votesB_snoc]; rfl
    refine ⟨by dsimp only; rw [h0], _, ⟨a, c, B, ?_, rfl⟩, ?_⟩
    · rw [h1, hv]; exact hB
    · rw [h1, hv]; rfl
  · have h1 := putB_no (x := ⟨⟨u, Vdt.none, 0⟩, true⟩) h0
    rw [h1]
    repeat ((first | with_reducible refine T_seq ?_ | with_reducible refine T_region ?_ | with_reducible refine TL_nil ?_ | with_reducible refine TQ_then ?_ | with_reducible refine T_ret ?_ | with_reducible refine TQ_then_ret ?_ | refine TL_q (op_move rfl) rfl ?_ | refine TL_q (op_assign rfl) rfl ?_ | (refine' TL_q (op_bin rfl rfl ?_) rfl ?_; rotate_left 1; (· (exact bin_neq))) | (refine T_yes rfl ?_ ?_; (· (exact nT (by (assumption)))))))
    refine TQ_ret1 4 _ rfl rfl ?_
    exact ⟨rfl, _, ⟨a, c, B, hB, rfl⟩, rfl⟩
end Go.Proofs.Ytdflhdfapnhjjaa
namespace Go.Proofs.Ytdflhdfapnhjjaa
open Go.RowKit
open Vd (RSet Vdt Vote Rec Quest Piece Ballot)
set_option linter.unusedVariables false
set_option linter.unusedSimpArgs false
--auto
variable {G : World} {L : Blocks}
/-- A vote in new memory. -/
def VoteOut (L : Blocks) (x : Vote) (u : Value) (M : Blocks) : Prop := ∃ a c B a2 c2 B2 N, u = .agg #[.int .i64 x.up, .int .u8 x.vd.code, .slice a x.vd.sets.length c, .slice a2 x.vd.soa.length c2, .int .u32 x.time] ∧
  ORow rsR 60 5 N a c x.vd.sets B ∧ ORow rsR 60 5 N a2 c2 x.vd.soa B2 ∧ Wr N ∧ M = B2 ++ (B ++ (N ++ L))
set_option maxRecDepth 100000 in
set_option maxHeartbeats 2000000 in
theorem pCopyVote_S (cs : List Value) (x : Vote) (hx : voteR L cs x) (hs : SmV x.vd) : Spec Try.prog G 72 #[.agg cs.toArray] L (VoteOut L x) := by
  obtain ⟨x1, xc1, x2, xc2, rfl, h1, h2, h3, h4, h5⟩ := hx.vals
  refine Spec_of (n := 11) Try.func72 rfl rfl rfl ?_
  refine T_seq (T_region (TL_new (op_boxA rfl) rfl ?_))
  intro bX
  refine TL_new (op_alloc (C := #[.int .i64 0, .int .u8 0, .slice none 0 0, .slice none 0 0, .int .u32 0]) zero_46 rfl) rfl ?_
  intro bO
  have hKm : ∀ z ∈ [(bX, Obj.cells #[.int .i64 x.up, .int .u8 x.vd.code, .slice x1 x.vd.sets.length xc1, .slice x2 x.vd.soa.length xc2, .int .u32 x.time] 46 (0, 0))], z ∈ (bX, Obj.cells #[.int .i64 x.up, .int .u8 x.vd.code, .slice x1 x.vd.sets.length xc1, .slice x2 x.vd.soa.length xc2, .int .u32 x.time] 46 (0, 0)) :: L := by
    intro z hz
    rw [List.mem_singleton.1 hz]
    exact List.mem_cons_self ..
  have gx : ∀ j v, ([.int .u8 x.vd.code, .slice x1 x.vd.sets.length xc1, .slice x2 x.vd.soa.length xc2] : List Value)[j]? = some v → (#[.int .i64 x.up, .int .u8 x.vd.code, .slice x1 x.vd.sets.length xc1, .slice x2 x.vd.soa.length xc2, .int .u32 x.time] : Array Value)[0 + 1 + j]? = some v := fun j v hj => by
    match j, hj with
    | 0, hj => exact hj
    | 1, hj => exact hj
    | 2, hj => exact hj
  repeat ((first | with_reducible refine T_seq ?_ | with_reducible refine TL_nil ?_ | with_reducible refine TQ_then ?_))
  refine T_draw follows_mixed ([(bX, Obj.cells #[.int .i64 x.up, .int .u8 x.vd.code, .slice x1 x.vd.sets.length xc1, .slice x2 x.vd.soa.length xc2, .int .u32 x.time] 46 (0, 0))]) [] ?_
  (refine' TA_take 0 rfl rfl (by kernel_rfl) (quiet_q (op_fld rfl fld_46_0)) ?_ ?_; (· (intro p hp; grind)))
  (refine' TA_take 1 rfl rfl (by kernel_rfl) (quiet_q (op_ld rfl pl_3 ?_ ?_)) ?_ ?_; rotate_left 4; (· repeat ((exact List.mem_cons_self))); (· (rfl)); (· (intro p hp; grind)))
  (refine' TA_take 2 rfl rfl (by kernel_rfl) (quiet_q (op_fld rfl fld_46_1)) ?_ ?_; (· (intro p hp; grind)))
  (refine' TA_take 3 rfl rfl (by kernel_rfl) (quiet_q (op_ldA [.int .u8 x.vd.code, .slice x1 x.vd.sets.length xc1, .slice x2 x.vd.soa.length xc2] rfl st_42 (List.mem_cons_self ..) gx)) ?_ ?_; (· (intro p hp; grind)))
  (refine' TA_take 5 rfl rfl (by kernel_rfl) (quiet_q (op_fld rfl fld_46_2)) ?_ ?_; (· (intro p hp; grind)))
  (refine' TA_take 6 rfl rfl (by kernel_rfl) (quiet_q (op_ld rfl pl_36 ?_ ?_)) ?_ ?_; rotate_left 4; (· repeat ((exact List.mem_cons_self))); (· (rfl)); (· (intro p hp; grind)))
  refine TA_oneD 4 (by kernel_rfl) rfl rfl rfl rfl (op_call hb_69 rfl (tCopyVerdict_S [.int .u8 x.vd.code, .slice x1 x.vd.sets.length xc1, .slice x2 x.vd.soa.length xc2] x.vd ⟨_, _, rfl, mono_slice mono_set _ _ _ _ (mem_of_cnt (by intro p; (try simp only [cnt_append, cnt_cons, cnt_nil]) <;> omega)) h1, mono_slice mono_set _ _ _ _ (mem_of_cnt (by intro p; (try simp only [cnt_append, cnt_cons, cnt_nil]) <;> omega)) h2, h3⟩ hs)) ?_
  rintro _ _ ⟨a, c, B, a2, c2, B2, N, rfl, hB, hB2, hN, rfl⟩
  refine ⟨Or.inr (by (exact (fun z hz => mem_of_cnt (by intro p; (try simp only [cnt_append, cnt_cons, cnt_nil]) <;> omega) z (hKm z hz)))), ?_⟩
  (refine' TA_take 7 rfl rfl (by kernel_rfl) (quiet_q (op_build rfl (bl_46_0_1_2 _ _ _ _ _))) ?_ ?_; (· (intro p hp; grind)))
  refine TA_cnt (L' := (bO, Obj.cells #[.int .i64 0, .int .u8 0, .slice none 0 0, .slice none 0 0, .int .u32 0] 46 (0, 0)) :: (B2 ++ (B ++ (N ++ ((bX, Obj.cells #[.int .i64 x.up, .int .u8 x.vd.code, .slice x1 x.vd.sets.length xc1, .slice x2 x.vd.soa.length xc2, .int .u32 x.time] 46 (0, 0)) :: L))))) ?_ (by intro p; (try simp only [cnt_append, cnt_cons, cnt_nil]) <;> omega)
  refine TA_oneN 8 (by kernel_rfl) rfl rfl rfl (op_stAll rfl rfl st_46 rfl rfl rfl) ?_
  rintro _ _ ⟨_, rfl⟩
  refine ⟨Or.inr (by (exact (fun z hz => mem_of_cnt (by intro p; (try simp only [cnt_append, cnt_cons, cnt_nil]) <;> omega) z (hKm z hz)))), ?_⟩
  refine TA_done (by kernel_rfl) ?_
  repeat ((first | with_reducible refine TQ_then ?_ | with_reducible refine T_ret ?_))
  refine TQ_retC 2 46  rfl rfl  st_46 (by repeat ((exact List.mem_cons_self))) rfl (fun w h => Heap.cnt (L' := B2 ++ (B ++ (N ++ L))) h (by intro p; (try simp only [cnt_append, cnt_cons, cnt_nil]) <;> omega)) ?_
  exact ⟨_, _, _, _, _, _, _, rfl, hB, hB2, hN, rfl⟩
end Go.Proofs.Ytdflhdfapnhjjaa
namespace Go.Proofs.Ytdflhdfapnhjjaa
open Go.RowKit
open Vd (RSet Vdt Vote Rec Quest Piece Ballot)
set_option linter.unusedVariables false
set_option linter.unusedSimpArgs false
--auto
variable {G : World} {L : Blocks}
theorem firstOf_at {vs : List Vote} {v : Vdt} {i : Nat} {y : Vote} (hy : vs[i]? = some y) (he : y.vd = v) (hno : ∀ z ∈ vs.take i, z.vd ≠ v) : firstOf vs v = i := by
  obtain ⟨hi, rfl⟩ := List.getElem?_eq_some_iff.1 hy
  unfold firstOf
  rw [List.findIdx_eq hi]
  refine ⟨by simpa using he, fun j hj => ?_⟩
  have := hno vs[j] (by rw [List.mem_take_iff_getElem]; exact ⟨j, by omega, rfl⟩)
  simpa using this
theorem firstOf_none {vs : List Vote} {v : Vdt} (hno : ∀ z ∈ vs, z.vd ≠ v) : firstOf vs v = vs.length := by
  unfold firstOf
  rw [List.findIdx_eq_length]
  intro z hz
  simpa using hno z hz
set_option maxRecDepth 100000 in
set_option maxHeartbeats 4000000 in
theorem pCast_S {K : Blocks} (bb : Nat) (want : Int) (l : List Ballot) (M0 : Blocks) (cs : List Value) (x : Vote) (hb : TBox K bb want l M0) (hl : BoxOk l) (hK : ∀ p ∈ K, p ∈ L) (hx : voteR L cs x) (hs : SmV x.vd) (hn : l.length ≤ 9) :
    Spec Try.prog G 42 #[.pointer (some ⟨bb, 0, none⟩), .agg cs.toArray] (M0 ++ L) fun w M => w = .int .i64 (Vd.putB l ⟨x, false⟩).2 ∧ ∃ M' N, TBox (N ++ K) bb want (Vd.putB l ⟨x, false⟩).1 M' ∧ Wr N ∧ M = M' ++ (N ++ L) := by
  obtain ⟨a, c, B, hB, rfl⟩ := hb
  obtain ⟨x1, xc1, x2, xc2, rfl, h1, h2, h3, h4, h5⟩ := hx.vals
  have hvl := votesB_len l
  have hcap := hB.cap
  unfold maxLen at hcap
  refine Spec_of (n := 57) Try.func42 rfl rfl rfl ?_
  refine T_seq (T_region (TL_new (op_boxA rfl) rfl ?_))
  intro bV
  repeat ((first | with_reducible refine T_seq ?_ | with_reducible refine T_region ?_ | with_reducible refine TL_nil ?_ | with_reducible refine TQ_then ?_ | refine TL_q (op_move rfl) rfl ?_ | refine TL_q (op_assign rfl) rfl ?_ | refine TL_q (op_fld rfl fld_46_0) rfl ?_ | (refine' TL_q (op_ld rfl pl_3 ?_ ?_) rfl ?_; rotate_left 4; (· repeat ((exact List.mem_cons_self))); (· (rfl)))))
  refine TL_op (op_call hb_71 rfl (pMay_S bb want x.up l _ (List.mem_cons_of_mem _ (List.mem_cons_self ..)) hl)) rfl ?_
  have he := putB_e l ⟨x, false⟩
  rw [he]
  by_cases h0 : mayE l x.up = 0
  · obtain ⟨hp1, hp2, hp3⟩ := putB_yes (x := ⟨x, false⟩) h0
    obtain ⟨h20, h29⟩ := hp2
    dsimp only at h20 h29 hp3
    obtain ⟨vs, hvs⟩ : ∃ vs, Vd.votesB l = vs := ⟨_, rfl⟩
    rw [hvs] at hB hvl hcap ⊢
    have gx : ∀ j v, ([.int .u8 x.vd.code, .slice x1 x.vd.sets.length xc1, .slice x2 x.vd.soa.length xc2] : List Value)[j]? = some v → (#[.int .i64 x.up, .int .u8 x.vd.code, .slice x1 x.vd.sets.length xc1, .slice x2 x.vd.soa.length xc2, .int .u32 x.time] : Array Value)[0 + 1 + j]? = some v := fun j v hj => by
      match j, hj with
      | 0, hj => exact hj
      | 1, hj => exact hj
      | 2, hj => exact hj
    repeat ((first | with_reducible refine TL_nil ?_ | with_reducible refine TQ_then ?_ | refine TL_q (op_assign rfl) rfl ?_))
    refine T_seq ?_
    repeat ((first | with_reducible refine T_region ?_ | with_reducible refine TL_nil ?_ | with_reducible refine TQ_then ?_ | with_reducible refine T_skip ?_ | refine TL_q (op_move rfl) rfl ?_ | (refine' TL_q (op_bin rfl rfl ?_) rfl ?_; rotate_left 1; (· (exact bin_neq))) | (refine T_no rfl ?_ ?_; (· (exact nF (by (assumption)))))))
    refine T_seq ?_
    repeat ((first | with_reducible refine T_region ?_ | with_reducible refine TL_nil ?_ | with_reducible refine TQ_then ?_ | refine TL_q (op_move rfl) rfl ?_ | refine TL_q (op_assign rfl) rfl ?_ | refine TL_q (op_nilCheck rfl) rfl ?_ | refine TL_q (op_len_slice rfl Try.underlying47) rfl ?_ | refine TL_q (op_fld rfl fld_100_2) rfl ?_ | (refine' TL_q (op_ld rfl pl_3 ?_ ?_) rfl ?_; rotate_left 4; (· repeat ((first | exact List.mem_cons_self | apply List.mem_cons_of_mem))); (· (rfl)))))
    refine T_seq ?_
    skip
    refine T_midK (σ := Unit) (fun _ => True) (fun _ => [(0, .pointer (some ⟨bb, 0, none⟩)), (3, .pointer (some ⟨bV, 0, none⟩)), (6, .int .i64 (firstOf vs x.vd : Nat))]) (fun _ => (bV, Obj.cells #[.int .i64 x.up, .int .u8 x.vd.code, .slice x1 x.vd.sets.length xc1, .slice x2 x.vd.soa.length xc2, .int .u32 x.time] 46 (0, 0)) :: ((bb, Obj.cells (boxC want (slipOf l) (.slice a vs.length c)).toArray 100 (0, 0)) :: (B ++ L))) ?_ ?_
    · skip
      repeat ((first | with_reducible refine T_seq ?_ | with_reducible refine T_block ?_ | with_reducible refine T_region ?_ | with_reducible refine TL_nil ?_ | with_reducible refine TQ_then ?_ | refine TL_q (op_move rfl) rfl ?_ | refine TL_q (op_nilCheck rfl) rfl ?_ | refine TL_q (op_len_slice rfl Try.underlying47) rfl ?_ | refine TL_q (op_fld rfl fld_100_2) rfl ?_ | (refine' TL_q (op_ld rfl pl_3 ?_ ?_) rfl ?_; rotate_left 4; (· repeat ((first | exact List.mem_cons_self | apply List.mem_cons_of_mem))); (· (rfl)))))
      refine T_loopS (σ := Nat) (fun i => i ≤ vs.length ∧ ∀ z ∈ vs.take i, z.vd ≠ x.vd) (fun i => [(0, .pointer (some ⟨bb, 0, none⟩)), (3, .pointer (some ⟨bV, 0, none⟩)), (6, .int .i64 (vs.length : Nat)), (24, .slice a vs.length c), (25, .int .i64 (vs.length : Nat)), (26, .int .i64 (i : Nat))]) (fun _ => (bV, Obj.cells #[.int .i64 x.up, .int .u8 x.vd.code, .slice x1 x.vd.sets.length xc1, .slice x2 x.vd.soa.length xc2, .int .u32 x.time] 46 (0, 0)) :: ((bb, Obj.cells (boxC want (slipOf l) (.slice a vs.length c)).toArray 100 (0, 0)) :: (B ++ L))) (fun i => vs.length - i) 0 ⟨Nat.zero_le _, by simp⟩ ?_ (fun w h => h) ?_
      (repeat ((first | exact trivial | refine ⟨rfl, ?_⟩)))
      rintro i ⟨hi, hno⟩
      by_cases hil : i < vs.length
      · obtain ⟨y, hy⟩ : ∃ y, vs[i]? = some y := ⟨_, List.getElem?_eq_getElem hil⟩
        obtain ⟨bc, cur, rfl, rfl, _, _, _, hcur⟩ := hB.block (fun e => by rw [e] at hil; simp at hil)
        obtain ⟨csy, _, hyv, _, hcy⟩ := hcur i y hy
        obtain ⟨y1, yc1, y2, yc2, rfl, hy1, hy2, hy3, hy4, hy5⟩ := hyv.vals
        have hcy' : ∀ j v, ([.int .i64 y.up, .int .u8 y.vd.code, .slice y1 y.vd.sets.length yc1, .slice y2 y.vd.soa.length yc2, .int .u32 y.time] : List Value)[j]? = some v → cur[0 + i * 5 + j]? = some v := fun j v hj => by rw [Nat.zero_add]; exact hcy j v hj
        have gy : ∀ j v, ([.int .u8 y.vd.code, .slice y1 y.vd.sets.length yc1, .slice y2 y.vd.soa.length yc2] : List Value)[j]? = some v → (#[.int .i64 y.up, .int .u8 y.vd.code, .slice y1 y.vd.sets.length yc1, .slice y2 y.vd.soa.length yc2, .int .u32 y.time] : Array Value)[0 + 1 + j]? = some v := fun j v hj => by
          match j, hj with
          | 0, hj => exact hj
          | 1, hj => exact hj
          | 2, hj => exact hj
        have mc : (bc, Obj.cells cur 46 (0, 0)) ∈ (bV, Obj.cells #[.int .i64 x.up, .int .u8 x.vd.code, .slice x1 x.vd.sets.length xc1, .slice x2 x.vd.soa.length xc2, .int .u32 x.time] 46 (0, 0)) :: ((bb, Obj.cells (boxC want (slipOf l) (.slice (some ⟨bc, 0, none⟩) vs.length c)).toArray 100 (0, 0)) :: ([(bc, Obj.cells cur 46 (0, 0))] ++ L)) := by simp
        repeat ((first | with_reducible refine T_seq ?_ | with_reducible refine T_block ?_ | with_reducible refine T_region ?_ | with_reducible refine TL_nil ?_ | with_reducible refine TQ_then ?_ | with_reducible refine T_skip ?_ | refine TL_q (op_move rfl) rfl ?_ | (refine' TL_q (op_bin rfl rfl ?_) rfl ?_; rotate_left 1; (· (exact bin_lss))) | (refine' TL_q (op_idx ety_47 rfl rfl ?_) rfl ?_; (· omega)) | (refine T_yes rfl ?_ ?_; (· (exact dT (by (omega)))))))
        refine TL_q (op_ldA [.int .i64 y.up, .int .u8 y.vd.code, .slice y1 y.vd.sets.length yc1, .slice y2 y.vd.soa.length yc2, .int .u32 y.time] rfl st_46 mc hcy') rfl ?_
        repeat ((first | with_reducible refine T_seq ?_ | with_reducible refine T_region ?_ | with_reducible refine TL_nil ?_ | with_reducible refine TQ_then ?_ | refine TL_q (op_assign rfl) rfl ?_ | refine TL_q (op_fld rfl fld_46_1) rfl ?_ | (refine TL_stAll rfl rfl st_46 rfl rfl rfl ?_) | (refine TL_new (op_alloc (C := #[(.int .i64 0), (.int .u8 0), (.slice none 0 0), (.slice none 0 0), (.int .u32 0)]) zero_46 rfl) rfl ?_; intro bNew)))
        refine TL_q (op_ldA [.int .u8 y.vd.code, .slice y1 y.vd.sets.length yc1, .slice y2 y.vd.soa.length yc2] rfl st_42 (by repeat ((exact List.mem_cons_self))) gy) rfl ?_
        repeat ((refine TL_q (op_fld rfl fld_46_1) rfl ?_))
        refine TL_q (op_ldA [.int .u8 x.vd.code, .slice x1 x.vd.sets.length xc1, .slice x2 x.vd.soa.length xc2] rfl st_42 (by repeat ((first | exact List.mem_cons_self | apply List.mem_cons_of_mem))) gx) rfl ?_
        refine TL_op (op_call hb_27 rfl (pSame_S [.int .u8 y.vd.code, .slice y1 y.vd.sets.length yc1, .slice y2 y.vd.soa.length yc2] [.int .u8 x.vd.code, .slice x1 x.vd.sets.length xc1, .slice x2 x.vd.soa.length xc2] y.vd x.vd ⟨_, _, rfl, mono_slice mono_set _ _ _ _ (fun p hp => (mem_of_cnt (by intro p; (try simp only [cnt_append, cnt_cons, cnt_nil]) <;> omega)) p (hK p hp)) hy1, mono_slice mono_set _ _ _ _ (fun p hp => (mem_of_cnt (by intro p; (try simp only [cnt_append, cnt_cons, cnt_nil]) <;> omega)) p (hK p hp)) hy2, hy3⟩ ⟨_, _, rfl, mono_slice mono_set _ _ _ _ (mem_of_cnt (by intro p; (try simp only [cnt_append, cnt_cons, cnt_nil]) <;> omega)) h1, mono_slice mono_set _ _ _ _ (mem_of_cnt (by intro p; (try simp only [cnt_append, cnt_cons, cnt_nil]) <;> omega)) h2, h3⟩)) rfl ?_
        by_cases hyx : y.vd = x.vd
        · have hf := firstOf_at hy hyx hno
          repeat ((first | with_reducible refine T_seq ?_ | with_reducible refine T_region ?_ | with_reducible refine TL_nil ?_ | with_reducible refine TQ_then ?_ | with_reducible refine T_exit ?_ | with_reducible refine TQ_then_exit ?_ | with_reducible refine TQ_block_exit ?_ | (refine TQ_block_past ?_ ?_; (· decide)) | refine TL_q (op_move rfl) rfl ?_ | refine TL_q (op_assign rfl) rfl ?_ | (refine T_yes rfl ?_ ?_; (· (exact dT (by (assumption)))))))
          refine TQ_mid () trivial ?_ (fun w h => h.cnt (by intro p; (try simp only [cnt_append, cnt_cons, cnt_nil]) <;> omega))
          rw [hf]
          (repeat ((first | exact trivial | refine ⟨rfl, ?_⟩)))
        · repeat ((first | with_reducible refine T_region ?_ | with_reducible refine TL_nil ?_ | with_reducible refine TQ_then ?_ | with_reducible refine TQ_block ?_ | with_reducible refine T_skip ?_ | refine TL_q (op_move rfl) rfl ?_ | (refine' TL_q (op_bin rfl rfl ?_) rfl ?_; rotate_left 1; (· (exact bin_add ⟨by omega, by omega⟩))) | (refine T_no rfl ?_ ?_; (· (exact dF (by (assumption)))))))
          refine TQ_roundS (i + 1) ⟨hil, fun z hz => ?_⟩ ?_ (fun w h => h.cnt (by intro p; (try simp only [cnt_append, cnt_cons, cnt_nil]) <;> omega)) (by omega)
          · rw [List.take_add_one, hy] at hz
            rcases List.mem_append.1 hz with hz | hz
            · exact hno z hz
            · rw [show z = y by simpa using hz]; exact hyx
          (repeat ((first | exact trivial | refine ⟨rfl, ?_⟩)))
      · have hie : i = vs.length := by omega
        subst hie
        rw [List.take_length] at hno
        have hf := firstOf_none hno
        repeat ((first | with_reducible refine T_seq ?_ | with_reducible refine T_region ?_ | with_reducible refine TL_nil ?_ | with_reducible refine TQ_then ?_ | with_reducible refine T_exit ?_ | with_reducible refine TQ_then_exit ?_ | with_reducible refine TQ_block_exit ?_ | (refine' TL_q (op_bin rfl rfl ?_) rfl ?_; rotate_left 1; (· (exact bin_lss))) | (refine T_no rfl ?_ ?_; (· (exact dF (by (omega)))))))
        refine TQ_mid () trivial ?_ (fun w h => h)
        rw [hf]
        (repeat ((first | exact trivial | refine ⟨rfl, ?_⟩)))
    · rintro _ _
      dsimp only
      obtain ⟨f', hf'⟩ : ∃ f, upd (slipOf l) x.up (2, (firstOf vs x.vd : Int)) = f := ⟨_, rfl⟩
      have hput : putAt (boxC want (slipOf l) (.slice a vs.length c)).toArray (0 + 1 + x.up.toNat * 2) [.int .u8 2, .int .i64 (firstOf vs x.vd : Nat)] = (boxC want f' (.slice a vs.length c)).toArray := by
        rw [← hf', Nat.zero_add]
        exact boxC_put ⟨h20, h29⟩ (2, (firstOf vs x.vd : Int))
      have hsl : slipOf (l ++ [⟨x, false⟩]) = f' := by
        rw [upd_slip hl (x := ⟨x, false⟩) hp3 ⟨h20, h29⟩, ← hf', ← hvs]
        rfl
      have hvn : Vd.votesB (l ++ [⟨x, false⟩]) = vs ++ [x] := by rw [votesB_snoc, hvs]; rfl
      have hKm : ∀ z ∈ [(bb, Obj.cells (boxC want (slipOf l) (.slice a vs.length c)).toArray 100 (0, 0)), (bV, Obj.cells #[.int .i64 x.up, .int .u8 x.vd.code, .slice x1 x.vd.sets.length xc1, .slice x2 x.vd.soa.length xc2, .int .u32 x.time] 46 (0, 0))], z ∈ (bV, Obj.cells #[.int .i64 x.up, .int .u8 x.vd.code, .slice x1 x.vd.sets.length xc1, .slice x2 x.vd.soa.length xc2, .int .u32 x.time] 46 (0, 0)) :: ((bb, Obj.cells (boxC want (slipOf l) (.slice a vs.length c)).toArray 100 (0, 0)) :: (B ++ L)) := by
        intro z hz
        simp only [List.mem_cons, List.not_mem_nil, or_false] at hz
        rcases hz with rfl | rfl <;> simp
      repeat ((with_reducible refine T_seq ?_))
      refine T_draw follows_mixed ([(bb, Obj.cells (boxC want (slipOf l) (.slice a vs.length c)).toArray 100 (0, 0)), (bV, Obj.cells #[.int .i64 x.up, .int .u8 x.vd.code, .slice x1 x.vd.sets.length xc1, .slice x2 x.vd.soa.length xc2, .int .u32 x.time] 46 (0, 0))]) [8] ?_
      (refine' TA_take 0 rfl rfl (by kernel_rfl) (quiet_q (op_move rfl)) ?_ ?_; (· (assumption)))
      (refine' TA_take 1 rfl rfl (by kernel_rfl) (quiet_q (op_fld rfl fld_46_0)) ?_ ?_; (· (assumption)))
      (refine' TA_take 2 rfl rfl (by kernel_rfl) (quiet_q (op_ld rfl pl_3 ?_ ?_)) ?_ ?_; rotate_left 4; (· repeat ((first | exact List.mem_cons_self | apply List.mem_cons_of_mem))); (· (rfl)); (· (assumption)))
      (refine' TA_take 3 rfl rfl (by kernel_rfl) (quiet_q (op_move rfl)) ?_ ?_; (· (assumption)))
      (refine' TA_take 4 rfl rfl (by kernel_rfl) (quiet_q (op_build rfl (bl_97_0_1 _ _))) ?_ ?_; (· (assumption)))
      (refine' TA_take 5 rfl rfl (by kernel_rfl) (quiet_q (op_nilCheck rfl)) ?_ ?_; (· (assumption)))
      (refine' TA_take 6 rfl rfl (by kernel_rfl) (quiet_q (op_fld rfl fld_100_1)) ?_ ?_; (· (assumption)))
      (refine' TA_take 7 rfl rfl (by kernel_rfl) (quiet_q (op_idxA arr_98 rfl rfl ?_ ?_)) ?_ ?_; (· omega); (· omega); (· (assumption)))
      refine TA_cnt (L' := (bb, Obj.cells (boxC want (slipOf l) (.slice a vs.length c)).toArray 100 (0, 0)) :: ((bV, Obj.cells #[.int .i64 x.up, .int .u8 x.vd.code, .slice x1 x.vd.sets.length xc1, .slice x2 x.vd.soa.length xc2, .int .u32 x.time] 46 (0, 0)) :: (B ++ L))) ?_ (by intro p; (try simp only [cnt_append, cnt_cons, cnt_nil]) <;> omega)
      refine TA_oneN 8 (by kernel_rfl) rfl rfl rfl (op_stA (cs := [.int .u8 2, .int .i64 (firstOf vs x.vd : Nat)]) rfl rfl st_97 (by intro v hv; simp only [List.mem_cons, List.not_mem_nil, or_false] at hv; rcases hv with rfl | rfl <;> rfl) (by rw [boxC_len]; simp; omega)) ?_
      rintro _ _ ⟨_, rfl⟩
      refine ⟨Or.inl (by simp), ?_⟩
      refine TA_done (by kernel_rfl) ?_
      rw [hput]
      clear hKm
      have hKm : ∀ z ∈ [(bb, Obj.cells (boxC want f' (.slice a vs.length c)).toArray 100 (0, 0)), (bV, Obj.cells #[.int .i64 x.up, .int .u8 x.vd.code, .slice x1 x.vd.sets.length xc1, .slice x2 x.vd.soa.length xc2, .int .u32 x.time] 46 (0, 0))], z ∈ (bb, Obj.cells (boxC want f' (.slice a vs.length c)).toArray 100 (0, 0)) :: ((bV, Obj.cells #[.int .i64 x.up, .int .u8 x.vd.code, .slice x1 x.vd.sets.length xc1, .slice x2 x.vd.soa.length xc2, .int .u32 x.time] 46 (0, 0)) :: L) := by
        intro z hz
        simp only [List.mem_cons, List.not_mem_nil, or_false] at hz
        rcases hz with rfl | rfl <;> simp
      repeat ((first | with_reducible refine T_seq ?_ | with_reducible refine TQ_then ?_))
      refine T_draw follows_mixed ([(bb, Obj.cells (boxC want f' (.slice a vs.length c)).toArray 100 (0, 0)), (bV, Obj.cells #[.int .i64 x.up, .int .u8 x.vd.code, .slice x1 x.vd.sets.length xc1, .slice x2 x.vd.soa.length xc2, .int .u32 x.time] 46 (0, 0))]) [11] ?_
      (refine' TA_take 0 rfl rfl (by kernel_rfl) (quiet_q (op_move rfl)) ?_ ?_; (· (intro p hp; grind)))
      (refine' TA_take 1 rfl rfl (by kernel_rfl) (quiet_q (op_move rfl)) ?_ ?_; (· (intro p hp; grind)))
      (refine' TA_take 2 rfl rfl (by kernel_rfl) (quiet_q (op_nilCheck rfl)) ?_ ?_; (· (intro p hp; grind)))
      (refine' TA_take 3 rfl rfl (by kernel_rfl) (quiet_q (op_fld rfl fld_100_2)) ?_ ?_; (· (intro p hp; grind)))
      (refine' TA_take 4 rfl rfl (by kernel_rfl) (quiet_q (op_ld rfl pl_47 ?_ ?_)) ?_ ?_; rotate_left 4; (· repeat ((exact List.mem_cons_self))); (· (rfl)); (· (intro p hp; grind)))
      (refine' TA_take 5 rfl rfl (by kernel_rfl) (quiet_q (op_ldAll rfl st_46 ?_ ?_)) ?_ ?_; rotate_left 3; (· repeat ((first | exact List.mem_cons_self | apply List.mem_cons_of_mem))); (· (rfl)); (· (intro p hp; grind)))
      refine TA_oneD 6 (by kernel_rfl) rfl rfl rfl rfl (op_call hb_72 rfl (pCopyVote_S [.int .i64 x.up, .int .u8 x.vd.code, .slice x1 x.vd.sets.length xc1, .slice x2 x.vd.soa.length xc2, .int .u32 x.time] x (mono_vote _ _ _ _ (mem_of_cnt (by intro p; (try simp only [cnt_append, cnt_cons, cnt_nil]) <;> omega)) hx) hs)) ?_
      rintro _ _ ⟨a6, c6, B6, a7, c7, B7, N, rfl, h6, h7, hN, rfl⟩
      refine ⟨Or.inr (by (exact (fun z hz => mem_of_cnt (by intro p; (try simp only [cnt_append, cnt_cons, cnt_nil]) <;> omega) z (hKm z hz)))), ?_⟩
      refine TA_oneD 7 (by kernel_rfl) rfl rfl rfl rfl (op_litN ety_47 rfl rfl (by decide)) ?_
      rintro _ _ ⟨bL, rfl, rfl⟩
      refine ⟨Or.inr (by (exact (fun z hz => mem_of_cnt (by intro p; (try simp only [cnt_append, cnt_cons, cnt_nil]) <;> omega) z (hKm z hz)))), ?_⟩
      refine TA_cnt (L' := (bL, Obj.cells #[.int .i64 x.up, .int .u8 x.vd.code, .slice a6 x.vd.sets.length c6, .slice a7 x.vd.soa.length c7, .int .u32 x.time] 46 (0, 0)) :: (B ++ ((bb, Obj.cells (boxC want f' (.slice a vs.length c)).toArray 100 (0, 0)) :: ((bV, Obj.cells #[.int .i64 x.up, .int .u8 x.vd.code, .slice x1 x.vd.sets.length xc1, .slice x2 x.vd.soa.length xc2, .int .u32 x.time] 46 (0, 0)) :: ((B7 ++ (B6 ++ N)) ++ L))))) ?_ (by intro p; (try simp only [cnt_append, cnt_cons, cnt_nil]) <;> omega)
      refine TA_oneD 8 (by kernel_rfl) rfl rfl rfl rfl (op_push (L0 := (B7 ++ (B6 ++ N)) ++ K) (cs := [.int .i64 x.up, .int .u8 x.vd.code, .slice a6 x.vd.sets.length c6, .slice a7 x.vd.soa.length c7, .int .u32 x.time]) (y := x) ety_47 rfl rfl (hB.mono mono_vote (mem_of_cnt (by intro p; (try simp only [cnt_append, cnt_cons, cnt_nil]) <;> omega))) rfl (fun v hv => by simp only [List.mem_cons, List.not_mem_nil, or_false] at hv; rcases hv with rfl | rfl | rfl | rfl | rfl <;> rfl) ⟨_, _, rfl, h6.sliceR mono_set (mem_of_cnt (by intro p; (try simp only [cnt_append, cnt_cons, cnt_nil]) <;> omega)) (mem_of_cnt (by intro p; (try simp only [cnt_append, cnt_cons, cnt_nil]) <;> omega)), h7.sliceR mono_set (mem_of_cnt (by intro p; (try simp only [cnt_append, cnt_cons, cnt_nil]) <;> omega)) (mem_of_cnt (by intro p; (try simp only [cnt_append, cnt_cons, cnt_nil]) <;> omega)), h3, h4, h5⟩ (by unfold maxLen; omega) (by omega)) ?_
      rintro _ _ ⟨a8, c8, B8, rfl, hB8, rfl⟩
      refine ⟨Or.inr (by (exact (fun z hz => mem_of_cnt (by intro p; (try simp only [cnt_append, cnt_cons, cnt_nil]) <;> omega) z (hKm z hz)))), ?_⟩
      (refine' TA_take 9 rfl rfl (by kernel_rfl) (quiet_q (op_nilCheck rfl)) ?_ ?_; (· (intro p hp; grind)))
      (refine' TA_take 10 rfl rfl (by kernel_rfl) (quiet_q (op_fld rfl fld_100_2)) ?_ ?_; (· (intro p hp; grind)))
      refine TA_cnt (L' := (bb, Obj.cells (boxC want f' (.slice a vs.length c)).toArray 100 (0, 0)) :: (B8 ++ ((bV, Obj.cells #[.int .i64 x.up, .int .u8 x.vd.code, .slice x1 x.vd.sets.length xc1, .slice x2 x.vd.soa.length xc2, .int .u32 x.time] 46 (0, 0)) :: ((B7 ++ (B6 ++ N)) ++ L)))) ?_ (by intro p; (try simp only [cnt_append, cnt_cons, cnt_nil]) <;> omega)
      refine TA_oneN 11 (by kernel_rfl) rfl rfl rfl (op_st (C' := (boxC want f' (.slice a8 (vs ++ [x]).length c8)).toArray) rfl rfl one_47 rfl rfl rfl) ?_
      rintro _ _ ⟨_, rfl⟩
      refine ⟨Or.inl (by simp), ?_⟩
      refine TA_done (by kernel_rfl) ?_
      repeat ((first | with_reducible refine T_seq ?_ | with_reducible refine T_region ?_ | with_reducible refine TL_nil ?_ | with_reducible refine TQ_then ?_ | with_reducible refine T_ret ?_ | refine TL_q (op_assign rfl) rfl ?_))
      refine TQ_cnt (L' := (bb, Obj.cells (boxC want f' (.slice a8 (vs ++ [x]).length c8)).toArray 100 (0, 0)) :: (B8 ++ ((B7 ++ (B6 ++ N)) ++ L))) ?_ (by exact (by intro p; (try simp only [cnt_append, cnt_cons, cnt_nil]) <;> omega))
      refine TQ_ret1 4 _ rfl rfl ?_
      refine ⟨by rw [h0], _, B7 ++ (B6 ++ N), ⟨a8, c8, B8, ?_, rfl⟩, h7.wr.append (h6.wr.append hN), ?_⟩
      · rw [hp1, hvn]; exact hB8
      · rw [hp1, hvn, hsl]; rfl
  · have hp1 := putB_no (x := ⟨x, false⟩) h0
    rw [hp1]
    repeat ((first | with_reducible refine T_seq ?_ | with_reducible refine T_region ?_ | with_reducible refine TL_nil ?_ | with_reducible refine TQ_then ?_ | with_reducible refine T_ret ?_ | with_reducible refine TQ_then_ret ?_ | refine TL_q (op_move rfl) rfl ?_ | refine TL_q (op_assign rfl) rfl ?_ | (refine' TL_q (op_bin rfl rfl ?_) rfl ?_; rotate_left 1; (· (exact bin_neq))) | (refine T_yes rfl ?_ ?_; (· (exact nT (by (assumption)))))))
    refine TQ_cnt (L' := (bb, Obj.cells (boxC want (slipOf l) (.slice a (Vd.votesB l).length c)).toArray 100 (0, 0)) :: (B ++ ([] ++ L))) ?_ (by intro p; (try simp only [cnt_append, cnt_cons, cnt_nil]) <;> omega)
    refine TQ_ret1 4 _ rfl rfl ?_
    exact ⟨rfl, _, [], ⟨a, c, B, hB, rfl⟩, Wr.nil, rfl⟩
end Go.Proofs.Ytdflhdfapnhjjaa
namespace Go.Proofs.Ytdflhdfapnhjjaa
open Go.RowKit
open Vd (RSet Vdt Vote Rec Quest Piece Ballot)
set_option linter.unusedVariables false
set_option linter.unusedSimpArgs false
--auto
variable {G : World} {L : Blocks}
/-- Nine counters. -/
def cntC (f : Nat → Nat) : List Value := [.int .i64 (f 0 : Nat), .int .i64 (f 1 : Nat), .int .i64 (f 2 : Nat), .int .i64 (f 3 : Nat), .int .i64 (f 4 : Nat), .int .i64 (f 5 : Nat), .int .i64 (f 6 : Nat), .int .i64 (f 7 : Nat), .int .i64 (f 8 : Nat)]
theorem cntC_get {f : Nat → Nat} {k : Nat} (h : k < 9) : (cntC f).toArray[0 + (k : Int).toNat * 1]? = some (.int .i64 (f k : Nat)) := by
  match k, h with
  | 0, _ | 1, _ | 2, _ | 3, _ | 4, _ | 5, _ | 6, _ | 7, _ | 8, _ => rfl
theorem cntC_set {f g : Nat → Nat} {k : Nat} (h : k < 9) (hg : ∀ j, g j = f j + (if k = j then 1 else 0)) : (cntC f).toArray.setIfInBounds (0 + (k : Int).toNat * 1) (.int .i64 ((f k : Nat) + 1 : Int)) = (cntC g).toArray := by
  match k, h with
  | 0, _ | 1, _ | 2, _ | 3, _ | 4, _ | 5, _ | 6, _ | 7, _ | 8, _ => simp [cntC, hg]
/-- The slip of the votes by which it is won. -/
def winS (want : Int) (vs : List Vote) : (Int × Int) × Bool := if want < 1 then ((0, 0), false) else match wonAt want vs vs.length with
  | none => ((0, 0), false)
  | some j => match vs[j]? with
    | some x => ((2, (firstOf vs x.vd : Int)), true)
    | none => ((0, 0), false)
set_option maxRecDepth 100000 in
set_option maxHeartbeats 4000000 in
theorem pWinner_S {K : Blocks} (bb : Nat) (want : Int) (l : List Ballot) (a : Option Addr) (c : Nat) (hm : (bb, Obj.cells (boxC want (slipOf l) (.slice a (Vd.votesB l).length c)).toArray 100 (0, 0)) ∈ L) (hv : sliceR 5 (fun _ => voteR K) L [.slice a (Vd.votesB l).length c] (Vd.votesB l)) (hl : BoxOk l) (hn : l.length ≤ 9) :
    Spec Try.prog G 67 #[.pointer (some ⟨bb, 0, none⟩)] L fun w M => w = .tuple #[.agg #[.int .u8 (winS want (Vd.votesB l)).1.1, .int .i64 (winS want (Vd.votesB l)).1.2], .bool (winS want (Vd.votesB l)).2] ∧ M = L := by
  obtain ⟨vs, hvs⟩ : ∃ vs, Vd.votesB l = vs := ⟨_, rfl⟩
  have hvl := votesB_len l
  rw [hvs] at hm hv hvl ⊢
  have g0 : (boxC want (slipOf l) (.slice a vs.length c)).toArray[0 + 0]? = some (.int .i64 want) := rfl
  have g19 : (boxC want (slipOf l) (.slice a vs.length c)).toArray[0 + 19]? = some (.slice a vs.length c) := rfl
  refine Spec_of (n := 52) Try.func67 rfl rfl rfl ?_
  refine T_seq (T_region (TL_new (op_alloc (C := #[.int .u8 0, .int .i64 0]) zero_97 rfl) rfl ?_))
  intro b2
  by_cases hw : want < 1
  · have hW : winS want vs = ((0, 0), false) := if_pos hw
    rw [hW]
    repeat ((first | with_reducible refine T_seq ?_ | with_reducible refine T_region ?_ | with_reducible refine TL_nil ?_ | with_reducible refine TQ_then ?_ | with_reducible refine T_ret ?_ | with_reducible refine TQ_then_ret ?_ | refine TL_q (op_move rfl) rfl ?_ | refine TL_q (op_assign rfl) rfl ?_ | (refine' TL_q (op_bin rfl rfl ?_) rfl ?_; rotate_left 1; (· (exact pbin_eql Try.underlying76))) | (refine' TL_q (op_pickF rfl ?_ rfl) rfl ?_; (· (exact Bool.not_true))) | (refine TL_gpre rfl rfl ?_ ?_; (· (exact Bool.not_true))) | refine TL_gq2 (op_move rfl) rfl ?_ | (refine' TL_gq2 (op_bin rfl rfl ?_) rfl ?_; rotate_left 1; (· (exact bin_lss))) | refine TL_gq2 (op_nilCheck rfl) rfl ?_ | refine TL_gq2 (op_fld rfl fld_46_0) rfl ?_ | (refine' TL_gq2 (op_ld rfl pl_3 ?_ ?_) rfl ?_; rotate_left 4; (· repeat ((first | assumption | apply List.mem_cons_of_mem))); (· (assumption))) | (refine TL_stAll rfl rfl st_97 rfl rfl rfl ?_) | refine TL_q (op_build rfl (bl_97_ )) rfl ?_ | (refine T_yes rfl ?_ ?_; (· (exact dT (by (assumption)))))))
    refine TQ_retC2 2 97 3 rfl rfl rfl st_97 (by repeat ((exact List.mem_cons_self))) rfl (fun w h => Heap.cnt (L' := L) h (by intro p; (try simp only [cnt_append, cnt_cons, cnt_nil]) <;> omega)) ?_
    exact ⟨rfl, rfl⟩
  · have hw1 : 1 ≤ want := by omega
    repeat ((first | with_reducible refine T_seq ?_ | with_reducible refine T_block ?_ | with_reducible refine T_region ?_ | with_reducible refine TL_nil ?_ | with_reducible refine TQ_then ?_ | with_reducible refine T_skip ?_ | refine TL_q (op_move rfl) rfl ?_ | refine TL_q (op_assign rfl) rfl ?_ | (refine' TL_q (op_bin rfl rfl ?_) rfl ?_; rotate_left 1; (· (exact pbin_eql Try.underlying76))) | refine TL_q (op_nilCheck rfl) rfl ?_ | (refine' TL_q (op_pickF rfl ?_ rfl) rfl ?_; (· (exact Bool.not_true))) | refine TL_q (op_len_slice rfl Try.underlying47) rfl ?_ | refine TL_q (op_fld rfl fld_100_2) rfl ?_ | (refine' TL_q (op_ld rfl pl_3 ?_ ?_) rfl ?_; rotate_left 4; (· repeat ((first | assumption | apply List.mem_cons_of_mem))); (· (assumption))) | (refine TL_gpre rfl rfl ?_ ?_; (· (exact Bool.not_true))) | refine TL_gq2 (op_move rfl) rfl ?_ | (refine' TL_gq2 (op_bin rfl rfl ?_) rfl ?_; rotate_left 1; (· (exact bin_lss))) | refine TL_gq2 (op_nilCheck rfl) rfl ?_ | refine TL_gq2 (op_fld rfl fld_46_0) rfl ?_ | (refine' TL_gq2 (op_ld rfl pl_3 ?_ ?_) rfl ?_; rotate_left 4; (· repeat ((first | assumption | apply List.mem_cons_of_mem))); (· (assumption))) | (refine TL_new (op_alloc (C := #[(.int .i64 0), (.int .i64 0), (.int .i64 0), (.int .i64 0), (.int .i64 0), (.int .i64 0), (.int .i64 0), (.int .i64 0), (.int .i64 0)]) zero_155 rfl) rfl ?_; intro bNew) | (refine T_no rfl ?_ ?_; (· (exact dF (by (assumption)))))))
    obtain ⟨b4, hb4⟩ : ∃ b, bNew = b := ⟨_, rfl⟩
    rw [hb4]
    clear hb4 bNew
    refine T_loopS (σ := Nat) (fun i => i ≤ vs.length ∧ wonAt want vs i = none) (fun i => [(0, .pointer (some ⟨bb, 0, none⟩)), (2, .pointer (some ⟨b2, 0, none⟩)), (3, .bool false), (4, .pointer (some ⟨b4, 0, none⟩)), (21, .slice a vs.length c), (22, .int .i64 (vs.length : Nat)), (23, .int .i64 (i : Nat))]) (fun i => (b4, Obj.cells (cntC (cntF vs i)).toArray 155 (0, 0)) :: ((b2, Obj.cells #[.int .u8 0, .int .i64 0] 97 (0, 0)) :: L)) (fun i => vs.length - i) 0 ⟨Nat.zero_le _, rfl⟩ ?_ (fun w h => h) ?_
    (repeat ((first | exact trivial | refine ⟨rfl, ?_⟩)))
    rintro i ⟨hi, hno⟩
    by_cases hil : i < vs.length
    · obtain ⟨y, hy⟩ : ∃ y, vs[i]? = some y := ⟨_, List.getElem?_eq_getElem hil⟩
      have hym := List.mem_of_getElem? hy
      obtain ⟨_, kv1, kv2, hvc⟩ := sliceR.cut hv
      rcases hvc with h1 | ⟨bc, oc, cur, tc, fc, rfl, mc, hcur⟩
      · rw [h1] at hil; simp at hil
      obtain ⟨csy, _, hyv, hcy⟩ := hcur i y hy
      obtain ⟨y1, yc1, y2, yc2, rfl, hy1, hy2, hy3, hy4, hy5⟩ := hyv.vals
      obtain ⟨b, hb1, hb2, hb3⟩ := votesB_mem.1 (by rw [hvs]; exact hym)
      have hup : 0 ≤ y.up ∧ y.up < 9 := by rw [← hb3]; exact hl.up b hb1
      obtain ⟨hu0, hu9⟩ := hup
      have hsl : slipOf l y.up = (2, (firstOf vs y.vd : Int)) := by rw [← hvs]; exact slip_vote hl (by rw [hvs]; exact hym)
      have hfl := (firstOf_spec hym).1
      repeat ((first | with_reducible refine T_seq ?_ | with_reducible refine T_block ?_ | with_reducible refine T_region ?_ | with_reducible refine TL_nil ?_ | with_reducible refine TQ_then ?_ | with_reducible refine T_skip ?_ | (refine' TL_q (op_bin rfl rfl ?_) rfl ?_; rotate_left 1; (· (exact bin_lss))) | (refine' TL_q (op_idx ety_47 rfl rfl ?_) rfl ?_; (· omega)) | (refine T_yes rfl ?_ ?_; (· (exact dT (by (omega)))))))
      refine TL_q (op_ldA [.int .i64 y.up, .int .u8 y.vd.code, .slice y1 y.vd.sets.length yc1, .slice y2 y.vd.soa.length yc2, .int .u32 y.time] rfl st_46 (List.mem_cons_of_mem _ (List.mem_cons_of_mem _ mc)) hcy) rfl ?_
      repeat ((first | with_reducible refine T_seq ?_ | with_reducible refine TL_nil ?_ | with_reducible refine TQ_then ?_ | (refine TL_stAll rfl rfl st_46 rfl rfl rfl ?_) | (refine TL_new (op_alloc (C := #[(.int .i64 0), (.int .u8 0), (.slice none 0 0), (.slice none 0 0), (.int .u32 0)]) zero_46 rfl) rfl ?_; intro bNew)))
      obtain ⟨b6, hb6⟩ : ∃ b, bNew = b := ⟨_, rfl⟩
      rw [hb6]
      clear hb6 bNew
      have hslip : ∀ j v, ([.int .u8 2, .int .i64 (firstOf vs y.vd : Nat)] : List Value)[j]? = some v → (boxC want (slipOf l) (.slice (some ⟨bc, oc, none⟩) vs.length c)).toArray[0 + 1 + y.up.toNat * 2 + j]? = some v := fun j v hj => by
        rw [Nat.zero_add]
        match j, hj with
        | 0, hj => obtain rfl := Option.some.inj hj; rw [boxC_kind ⟨hu0, hu9⟩, hsl]
        | 1, hj => obtain rfl := Option.some.inj hj; rw [boxC_first ⟨hu0, hu9⟩, hsl]
      have hKm : ∀ z ∈ [(b6, Obj.cells #[.int .i64 y.up, .int .u8 y.vd.code, .slice y1 y.vd.sets.length yc1, .slice y2 y.vd.soa.length yc2, .int .u32 y.time] 46 (0, 0)), (bb, Obj.cells (boxC want (slipOf l) (.slice (some ⟨bc, oc, none⟩) vs.length c)).toArray 100 (0, 0))], z ∈ (b6, Obj.cells #[.int .i64 y.up, .int .u8 y.vd.code, .slice y1 y.vd.sets.length yc1, .slice y2 y.vd.soa.length yc2, .int .u32 y.time] 46 (0, 0)) :: ((b4, Obj.cells (cntC (cntF vs i)).toArray 155 (0, 0)) :: ((b2, Obj.cells #[.int .u8 0, .int .i64 0] 97 (0, 0)) :: L)) := by
        intro z hz
        simp only [List.mem_cons, List.not_mem_nil, or_false] at hz
        rcases hz with rfl | rfl
        · simp
        · exact List.mem_cons_of_mem _ (List.mem_cons_of_mem _ (List.mem_cons_of_mem _ hm))
      refine T_midK (σ := Nat) (fun _ => True) (fun b7 => [(0, .pointer (some ⟨bb, 0, none⟩)), (2, .pointer (some ⟨b2, 0, none⟩)), (3, .bool false), (4, .pointer (some ⟨b4, 0, none⟩)), (7, .pointer (some ⟨b7, 0, none⟩)), (21, .slice (some ⟨bc, oc, none⟩) vs.length c), (22, .int .i64 (vs.length : Nat)), (23, .int .i64 (i : Nat))]) (fun b7 => (b4, Obj.cells (cntC (cntF vs i)).toArray 155 (0, 0)) :: ((b7, Obj.cells #[.int .u8 2, .int .i64 (firstOf vs y.vd : Nat)] 97 (0, 0)) :: ((b2, Obj.cells #[.int .u8 0, .int .i64 0] 97 (0, 0)) :: L))) ?_ ?_
      · skip
        refine T_draw follows_mixed ([(b6, Obj.cells #[.int .i64 y.up, .int .u8 y.vd.code, .slice y1 y.vd.sets.length yc1, .slice y2 y.vd.soa.length yc2, .int .u32 y.time] 46 (0, 0)), (bb, Obj.cells (boxC want (slipOf l) (.slice (some ⟨bc, oc, none⟩) vs.length c)).toArray 100 (0, 0))]) [] ?_
        (refine' TA_take 0 rfl rfl (by kernel_rfl) (quiet_q (op_move rfl)) ?_ ?_; (· (assumption)))
        (refine' TA_take 1 rfl rfl (by kernel_rfl) (quiet_q (op_fld rfl fld_46_0)) ?_ ?_; (· (assumption)))
        (refine' TA_take 2 rfl rfl (by kernel_rfl) (quiet_q (op_ld rfl pl_3 ?_ ?_)) ?_ ?_; rotate_left 4; (· repeat ((exact List.mem_cons_self))); (· (rfl)); (· (assumption)))
        (refine' TA_take 3 rfl rfl (by kernel_rfl) (quiet_q (op_nilCheck rfl)) ?_ ?_; (· (assumption)))
        (refine' TA_take 4 rfl rfl (by kernel_rfl) (quiet_q (op_fld rfl fld_100_1)) ?_ ?_; (· (assumption)))
        (refine' TA_take 5 rfl rfl (by kernel_rfl) (quiet_q (op_idxA arr_98 rfl rfl ?_ ?_)) ?_ ?_; (· omega); (· omega); (· (assumption)))
        (refine' TA_take 6 rfl rfl (by kernel_rfl) (quiet_q (op_ldA [.int .u8 2, .int .i64 (firstOf vs y.vd : Nat)] rfl st_97 (List.mem_cons_of_mem _ (List.mem_cons_self ..)) hslip)) ?_ ?_; (· (assumption)))
        refine TA_oneD 7 (by kernel_rfl) rfl rfl rfl rfl (op_alloc (C := #[.int .u8 0, .int .i64 0]) zero_97 rfl) ?_
        rintro _ _ ⟨b7, rfl, rfl⟩
        refine ⟨Or.inr (by (exact (fun z hz => mem_of_cnt (by intro p; (try simp only [cnt_append, cnt_cons, cnt_nil]) <;> omega) z (hKm z hz)))), ?_⟩
        refine TA_oneN 8 (by kernel_rfl) rfl rfl rfl (op_stAll rfl rfl st_97 rfl rfl rfl) ?_
        rintro _ _ ⟨_, rfl⟩
        refine ⟨Or.inr (by (exact (fun z hz => mem_of_cnt (by intro p; (try simp only [cnt_append, cnt_cons, cnt_nil]) <;> omega) z (hKm z hz)))), ?_⟩
        refine TA_done (by kernel_rfl) ?_
        refine TQ_mid b7 trivial ?_ (fun w h => h.cnt (by intro p; (try simp only [cnt_append, cnt_cons, cnt_nil]) <;> omega))
        (repeat ((first | exact trivial | refine ⟨rfl, ?_⟩)))
      · rintro b7 _
        clear hKm
        have hf9 : firstOf vs y.vd < 9 := by omega
        have hcb : cntF vs i (firstOf vs y.vd) ≤ 9 := Nat.le_trans List.countP_le_length (by rw [List.length_take]; omega)
        have gc := cntC_get (f := cntF vs i) hf9
        have gc2 := cntC_get (f := cntF vs (i + 1)) hf9
        have gs := cntC_set (f := cntF vs i) (g := cntF vs (i + 1)) hf9 (fun j => cntF_succ hy j)
        have hcw := cntF_with (i + 1) hym
        have hex := won_exact hw1 hy hno
        have hws := wonAt_succ hy hno
        repeat ((first | with_reducible refine T_seq ?_ | with_reducible refine T_region ?_ | (refine' TL_q (op_bin rfl rfl ?_) rfl ?_; rotate_left 1; (· (exact bin_add ⟨by omega, by omega⟩))) | (refine' TL_q (op_idxA arr_155 rfl rfl ?_ ?_) rfl ?_; (· omega); (· omega)) | refine TL_q (op_fld rfl fld_97_1) rfl ?_ | (refine' TL_q (op_ld rfl pl_3 ?_ ?_) rfl ?_; rotate_left 4; (· repeat ((first | exact List.mem_cons_self | apply List.mem_cons_of_mem))); (· (first | assumption | rfl)))))
        refine TL_st (C' := (cntC (cntF vs (i + 1))).toArray) rfl rfl one_3 rfl gc gs ?_
        have hK : ∀ z ∈ (b4, Obj.cells (cntC (cntF vs (i + 1))).toArray 155 (0, 0)) :: ((b7, Obj.cells #[.int .u8 2, .int .i64 (firstOf vs y.vd : Nat)] 97 (0, 0)) :: ((b2, Obj.cells #[.int .u8 0, .int .i64 0] 97 (0, 0)) :: L)), z ∈ (b4, Obj.cells (cntC (cntF vs (i + 1))).toArray 155 (0, 0)) :: ((b7, Obj.cells #[.int .u8 2, .int .i64 (firstOf vs y.vd : Nat)] 97 (0, 0)) :: ((b2, Obj.cells #[.int .u8 0, .int .i64 0] 97 (0, 0)) :: L)) := fun z h => h
        repeat ((first | with_reducible refine T_seq ?_ | with_reducible refine TL_nil ?_ | with_reducible refine TQ_then ?_))
        refine T_draw follows_mixed ((b4, Obj.cells (cntC (cntF vs (i + 1))).toArray 155 (0, 0)) :: ((b7, Obj.cells #[.int .u8 2, .int .i64 (firstOf vs y.vd : Nat)] 97 (0, 0)) :: ((b2, Obj.cells #[.int .u8 0, .int .i64 0] 97 (0, 0)) :: L))) [] ?_
        (refine' TA_take 0 rfl rfl (by kernel_rfl) (quiet_q (op_fld rfl fld_97_1)) ?_ ?_; (· (assumption)))
        (refine' TA_take 1 rfl rfl (by kernel_rfl) (quiet_q (op_ld rfl pl_3 ?_ ?_)) ?_ ?_; rotate_left 4; (· repeat ((first | exact List.mem_cons_self | apply List.mem_cons_of_mem))); (· (rfl)); (· (assumption)))
        (refine' TA_take 2 rfl rfl (by kernel_rfl) (quiet_q (op_idxA arr_155 rfl rfl ?_ ?_)) ?_ ?_; (· omega); (· omega); (· (assumption)))
        (refine' TA_take 3 rfl rfl (by kernel_rfl) (quiet_q (op_ld rfl pl_3 ?_ ?_)) ?_ ?_; rotate_left 4; (· repeat ((exact List.mem_cons_self))); (· (assumption)); (· (assumption)))
        (refine' TA_take 4 rfl rfl (by kernel_rfl) (quiet_q (op_move rfl)) ?_ ?_; (· (assumption)))
        (refine' TA_take 5 rfl rfl (by kernel_rfl) (quiet_q (op_nilCheck rfl)) ?_ ?_; (· (assumption)))
        (refine' TA_take 6 rfl rfl (by kernel_rfl) (quiet_q (op_fld rfl fld_100_0)) ?_ ?_; (· (assumption)))
        (refine' TA_take 7 rfl rfl (by kernel_rfl) (quiet_q (op_ld rfl pl_3 ?_ ?_)) ?_ ?_; rotate_left 4; (· repeat ((first | assumption | apply List.mem_cons_of_mem))); (· (assumption)); (· (assumption)))
        (refine' TA_take 8 rfl rfl (by kernel_rfl) (quiet_q (op_bin rfl rfl ?_)) ?_ ?_; rotate_left 1; (· (exact bin_eql)); (· (assumption)))
        refine TA_done (by kernel_rfl) ?_
        by_cases hwin : ((withV (vs.take (i + 1)) y.vd).length : Int) = want
        · have hwon : wonAt want vs (i + 1) = some i := by rw [hws, if_pos (hex.2 hwin)]
          have hW : winS want vs = ((2, (firstOf vs y.vd : Int)), true) := by
            unfold winS
            rw [if_neg hw, wonAt_some (i + 1) vs.length (by omega) hwon]
            dsimp only
            rw [hy]
          rw [hW]
          have hwin' : ((cntF vs (i + 1) (firstOf vs y.vd) : Nat) : Int) = want := by rw [hcw]; exact hwin
          repeat ((first | with_reducible refine T_seq ?_ | with_reducible refine T_region ?_ | with_reducible refine TQ_then ?_ | (refine' TL_q (op_ldAll rfl st_97 ?_ ?_) rfl ?_; rotate_left 3; (· repeat ((first | exact List.mem_cons_self | apply List.mem_cons_of_mem))); (· (rfl))) | (refine T_yes rfl ?_ ?_; (· (exact dT (by (assumption)))))))
          refine TL_cnt (L' := (b2, Obj.cells #[.int .u8 0, .int .i64 0] 97 (0, 0)) :: L) ?_ (by intro p; (try simp only [cnt_append, cnt_cons, cnt_nil]) <;> omega)
          repeat ((first | with_reducible refine TL_nil ?_ | with_reducible refine TQ_then ?_ | with_reducible refine T_ret ?_ | with_reducible refine TQ_then_ret ?_ | with_reducible refine TQ_block_ret ?_ | refine TL_q (op_assign rfl) rfl ?_ | (refine TL_stAll rfl rfl st_97 rfl rfl rfl ?_)))
          refine TQ_retC2 2 97 3 rfl rfl rfl st_97 (by repeat ((exact List.mem_cons_self))) rfl (fun w h => Heap.cnt (L' := L) h (by intro p; (try simp only [cnt_append, cnt_cons, cnt_nil]) <;> omega)) ?_
          exact ⟨rfl, rfl⟩
        · have hwin' : ¬ ((cntF vs (i + 1) (firstOf vs y.vd) : Nat) : Int) = want := by rw [hcw]; exact hwin
          have hno' : wonAt want vs (i + 1) = none := by rw [hws, if_neg (fun h => hwin (hex.1 h))]
          repeat ((first | with_reducible refine T_region ?_ | with_reducible refine TL_nil ?_ | with_reducible refine TQ_then ?_ | with_reducible refine TQ_block ?_ | with_reducible refine T_skip ?_ | refine TL_q (op_move rfl) rfl ?_ | (refine' TL_q (op_bin rfl rfl ?_) rfl ?_; rotate_left 1; (· (exact bin_add ⟨by omega, by omega⟩))) | (refine T_no rfl ?_ ?_; (· (exact dF (by (assumption)))))))
          refine TQ_roundS (i + 1) ⟨hil, hno'⟩ ?_ (fun w h => h.cnt (by intro p; (try simp only [cnt_append, cnt_cons, cnt_nil]) <;> omega)) (by omega)
          (repeat ((first | exact trivial | refine ⟨rfl, ?_⟩)))
    · have hie : i = vs.length := by omega
      subst hie
      have hW : winS want vs = ((0, 0), false) := by unfold winS; rw [if_neg hw, hno]
      rw [hW]
      repeat ((first | with_reducible refine T_seq ?_ | with_reducible refine T_region ?_ | with_reducible refine TL_nil ?_ | with_reducible refine TQ_then ?_ | with_reducible refine T_exit ?_ | with_reducible refine TQ_then_exit ?_ | with_reducible refine TQ_block_exit ?_ | (refine' TL_q (op_bin rfl rfl ?_) rfl ?_; rotate_left 1; (· (exact bin_lss))) | refine TL_q (op_build rfl (bl_97_ )) rfl ?_ | (refine T_no rfl ?_ ?_; (· (exact dF (by (omega)))))))
      refine TL_cnt (L' := (b2, Obj.cells #[.int .u8 0, .int .i64 0] 97 (0, 0)) :: L) ?_ (by intro p; (try simp only [cnt_append, cnt_cons, cnt_nil]) <;> omega)
      repeat ((first | with_reducible refine TL_nil ?_ | with_reducible refine TQ_then ?_ | with_reducible refine T_ret ?_ | refine TL_q (op_assign rfl) rfl ?_ | (refine TL_stAll rfl rfl st_97 rfl rfl rfl ?_)))
      refine TQ_retC2 2 97 3 rfl rfl rfl st_97 (by repeat ((exact List.mem_cons_self))) rfl (fun w h => Heap.cnt (L' := L) h (by intro p; (try simp only [cnt_append, cnt_cons, cnt_nil]) <;> omega)) ?_
      exact ⟨rfl, rfl⟩
end Go.Proofs.Ytdflhdfapnhjjaa
namespace Go.Proofs.Ytdflhdfapnhjjaa
open Go.RowKit
open Vd (RSet Vdt Vote Rec Quest Piece Ballot)
set_option linter.unusedVariables false
set_option linter.unusedSimpArgs false
--auto
variable {G : World} {L : Blocks}
/-- Votes in new memory. -/
def VotesOut (L : Blocks) (vs : List Vote) (u : Value) (M : Blocks) : Prop := ∃ a c B N, u = .slice a vs.length c ∧ ORow voteR 46 5 N a c vs B ∧ Wr N ∧ M = B ++ (N ++ L)
set_option maxRecDepth 100000 in
set_option maxHeartbeats 2000000 in
theorem pCopyVotes_S (v : Value) (vs : List Vote) (hv : sliceR 5 voteR L [v] vs) (hn : vs.length ≤ 100) (hs : ∀ x ∈ vs, SmV x.vd) : Spec Try.prog G 70 #[v] L (VotesOut L vs) := by
  obtain ⟨a0, c0, e1, hv⟩ := hv.val
  simp only [List.cons.injEq, and_true] at e1
  subst e1
  obtain ⟨_, ka1, ka2, hv⟩ := sliceR.cut hv
  refine Spec_of (n := 19) Try.func70 rfl rfl rfl ?_
  repeat ((first | with_reducible refine T_seq ?_ | with_reducible refine T_block ?_ | with_reducible refine T_region ?_ | with_reducible refine TL_nil ?_ | with_reducible refine TQ_then ?_ | refine TL_q (op_move rfl) rfl ?_ | refine TL_q (op_assign rfl) rfl ?_ | refine TL_q (op_len_slice rfl Try.underlying47) rfl ?_))
  refine T_loopS (σ := Nat × Option Addr × Nat × Blocks × Blocks) (fun x => x.1 ≤ vs.length ∧ ORow voteR 46 5 x.2.2.2.2 x.2.1 x.2.2.1 (vs.take x.1) x.2.2.2.1 ∧ Wr x.2.2.2.2) (fun x => [(3, .slice x.2.1 (vs.take x.1).length x.2.2.1), (6, .slice a0 vs.length c0), (7, .int .i64 (vs.length : Nat)), (8, .int .i64 (x.1 : Nat))]) (fun x => x.2.2.2.1 ++ (x.2.2.2.2 ++ L)) (fun x => vs.length - x.1) (0, none, 0, [], []) ⟨Nat.zero_le _, ORow.nil _, Wr.nil⟩ ?_ (fun w h => h) ?_
  (repeat ((first | exact trivial | refine ⟨rfl, ?_⟩)))
  rintro ⟨k, a, c, B, N⟩ ⟨hk, hB, hN⟩
  dsimp only at hk hB hN ⊢
  by_cases hlt : k < vs.length
  · obtain ⟨x, hx⟩ : ∃ x, vs[k]? = some x := ⟨_, List.getElem?_eq_getElem hlt⟩
    have htk : vs.take (k + 1) = vs.take k ++ [x] := by rw [List.take_add_one, hx]; rfl
    have htl : (vs.take k).length ≤ 100 := by rw [List.length_take]; omega
    rcases hv with rfl | ⟨b1, o1, C1, t1, f1, rfl, m1, q1⟩
    · simp at hlt
    obtain ⟨cx, _, hx2, hcx⟩ := q1 k x hx
    have hx0 := hx2
    obtain ⟨x1, xc1, x2, xc2, rfl, hx3, hx4, hcode, htm, hup⟩ := hx0.vals
    have m1' : (b1, Obj.cells C1 t1 f1) ∈ B ++ (N ++ L) := List.mem_append_right _ (List.mem_append_right _ m1)
    repeat ((first | with_reducible refine T_seq ?_ | with_reducible refine T_block ?_ | with_reducible refine T_region ?_ | with_reducible refine TL_nil ?_ | with_reducible refine TQ_then ?_ | with_reducible refine T_skip ?_ | (refine' TL_q (op_bin rfl rfl ?_) rfl ?_; rotate_left 1; (· (exact bin_lss))) | (refine' TL_q (op_idx ety_47 rfl rfl ?_) rfl ?_; (· omega)) | (refine T_yes rfl ?_ ?_; (· (exact dT (by (omega)))))))
    refine TL_q (op_ldA [.int .i64 x.up, .int .u8 x.vd.code, .slice x1 x.vd.sets.length xc1, .slice x2 x.vd.soa.length xc2, .int .u32 x.time] rfl st_46 m1' hcx) rfl ?_
    repeat ((first | with_reducible refine T_region ?_ | with_reducible refine TL_nil ?_ | with_reducible refine TQ_then ?_ | refine TL_q (op_move rfl) rfl ?_ | (refine' TL_q (op_ldAll rfl st_46 ?_ ?_) rfl ?_; rotate_left 3; (· repeat ((exact List.mem_cons_self))); (· (assumption))) | (refine TL_stAll rfl rfl st_46 rfl rfl rfl ?_) | (refine TL_new (op_alloc (C := #[(.int .i64 0), (.int .u8 0), (.slice none 0 0), (.slice none 0 0), (.int .u32 0)]) zero_46 rfl) rfl ?_; intro bNew)))
    refine TL_opT (op_call hb_72 rfl (pCopyVote_S _ x (mono_vote _ _ _ _ (mem_of_cnt (by intro p; (try simp only [cnt_append, cnt_cons, cnt_nil]) <;> omega)) hx2) (hs x (List.mem_of_getElem? hx)))) rfl ?_
    rintro _ _ ⟨a6, c6, B6, a7, c7, B7, N6, rfl, h6, h7, hN6, rfl⟩
    repeat ((refine TL_new (op_litN ety_47 rfl rfl (by decide)) rfl ?_; intro bLit))
    refine TL_cnt (L' := (bLit, Obj.cells #[.int .i64 x.up, .int .u8 x.vd.code, .slice a6 x.vd.sets.length c6, .slice a7 x.vd.soa.length c7, .int .u32 x.time] 46 (0, 0)) :: (B ++ (((B7 ++ (B6 ++ N6)) ++ N) ++ L))) ?_ (by intro p; (try simp only [cnt_append, cnt_cons, cnt_nil]) <;> omega)
    refine TL_opT (op_push (L0 := (B7 ++ (B6 ++ N6)) ++ N) (cs := [.int .i64 x.up, .int .u8 x.vd.code, .slice a6 x.vd.sets.length c6, .slice a7 x.vd.soa.length c7, .int .u32 x.time]) (y := x) ety_47 rfl rfl (hB.mono mono_vote (mem_of_cnt (by intro p; (try simp only [cnt_append, cnt_cons, cnt_nil]) <;> omega))) rfl (fun v hv => by simp only [List.mem_cons, List.not_mem_nil, or_false] at hv; rcases hv with rfl | rfl | rfl | rfl | rfl <;> rfl) ⟨_, _, rfl, h6.sliceR mono_set (mem_of_cnt (by intro p; (try simp only [cnt_append, cnt_cons, cnt_nil]) <;> omega)) (mem_of_cnt (by intro p; (try simp only [cnt_append, cnt_cons, cnt_nil]) <;> omega)), h7.sliceR mono_set (mem_of_cnt (by intro p; (try simp only [cnt_append, cnt_cons, cnt_nil]) <;> omega)) (mem_of_cnt (by intro p; (try simp only [cnt_append, cnt_cons, cnt_nil]) <;> omega)), hcode, htm, hup⟩ (by unfold maxLen; omega) (by omega)) rfl ?_
    rintro _ _ ⟨a', c', B', rfl, hB', rfl⟩
    repeat ((first | with_reducible refine T_region ?_ | with_reducible refine TL_nil ?_ | with_reducible refine TQ_then ?_ | with_reducible refine TQ_block ?_ | refine TL_q (op_move rfl) rfl ?_ | refine TL_q (op_assign rfl) rfl ?_ | (refine' TL_q (op_bin rfl rfl ?_) rfl ?_; rotate_left 1; (· (exact bin_add ⟨by omega, by omega⟩)))))
    refine TQ_roundS (k + 1, a', c', B', (B7 ++ (B6 ++ N6)) ++ N) ⟨hlt, by dsimp only; rw [htk]; exact hB', (h7.wr.append (h6.wr.append hN6)).append hN⟩ ?_ (fun w h => h.cnt (by intro p; (try simp only [cnt_append, cnt_cons, cnt_nil]) <;> omega)) (by dsimp only; omega)
    dsimp only
    rw [htk]
    (repeat ((first | exact trivial | refine ⟨rfl, ?_⟩)))
  · have hkn : k = vs.length := by omega
    subst hkn
    rw [List.take_length] at hB ⊢
    repeat ((first | with_reducible refine T_seq ?_ | with_reducible refine T_region ?_ | with_reducible refine TL_nil ?_ | with_reducible refine TQ_then ?_ | with_reducible refine T_exit ?_ | with_reducible refine T_ret ?_ | with_reducible refine TQ_then_exit ?_ | with_reducible refine TQ_block_exit ?_ | refine TL_q (op_move rfl) rfl ?_ | refine TL_q (op_assign rfl) rfl ?_ | (refine' TL_q (op_bin rfl rfl ?_) rfl ?_; rotate_left 1; (· (exact bin_lss))) | (refine T_no rfl ?_ ?_; (· (exact dF (by (omega)))))))
    refine TQ_ret1 2 _ rfl rfl ?_
    exact ⟨a, c, B, N, rfl, hB, hN, rfl⟩
end Go.Proofs.Ytdflhdfapnhjjaa
namespace Go.Proofs.Ytdflhdfapnhjjaa
open Go.RowKit
open Vd (RSet Vdt Vote Rec Quest Piece Ballot)
set_option linter.unusedVariables false
set_option linter.unusedSimpArgs false
--auto
variable {G : World} {L : Blocks}
theorem ints_at {l : List Int} {a : Option Addr} {c : Nat} (h : sliceR 1 (intR .i64) L [.slice a l.length c] l) {i : Nat} {x : Int} (hx : l[i]? = some x) : ∃ b off C te fr, a = some ⟨b, off, none⟩ ∧ (b, Obj.cells C te fr) ∈ L ∧ C[off + i * 1]? = some (.int .i64 x) := by
  obtain ⟨_, _, _, h4⟩ := sliceR.cut h
  rcases h4 with rfl | ⟨b, off, C, te, fr, q1, q2, q3⟩
  · simp at hx
  · obtain ⟨cs', _, ⟨k2, _⟩, k3⟩ := q3 i x hx
    subst k2
    exact ⟨b, off, C, te, fr, q1, q2, k3 0 _ rfl⟩
set_option maxRecDepth 100000 in
set_option maxHeartbeats 2000000 in
theorem Ints_S (va vb : Value) (la lb : List Int) (ha : sliceR 1 (intR .i64) L [va] la) (hb : sliceR 1 (intR .i64) L [vb] lb) : Spec Try.prog G 38 #[va, vb] L fun u M => u = .bool (decide (la = lb)) ∧ M = L := by
  obtain ⟨a, c, e1, ha⟩ := ha.val
  obtain ⟨a2, c2, e2, hb⟩ := hb.val
  simp only [List.cons.injEq, and_true] at e1 e2
  subst e1 e2
  have hac := (sliceR.cut ha).2
  unfold maxLen at hac
  obtain ⟨hac1, hac2, _⟩ := hac
  refine Spec_of (n := 26) Try.func38 rfl rfl rfl ?_
  by_cases hlen : la.length = lb.length
  · have hlen' : ((la.length : Nat) : Int) = ((lb.length : Nat) : Int) := by omega
    repeat ((first | with_reducible refine T_seq ?_ | with_reducible refine T_block ?_ | with_reducible refine T_region ?_ | with_reducible refine TL_nil ?_ | with_reducible refine TQ_then ?_ | with_reducible refine T_skip ?_ | refine TL_q (op_move rfl) rfl ?_ | refine TL_q (op_assign rfl) rfl ?_ | (refine' TL_q (op_bin rfl rfl ?_) rfl ?_; rotate_left 1; (· (exact bin_neq))) | refine TL_q (op_len_slice rfl Try.underlying79) rfl ?_ | (refine T_no rfl ?_ ?_; (· (exact nF (by (assumption)))))))
    refine T_loopS (σ := Nat) (fun k => k ≤ la.length ∧ la.take k = lb.take k) (fun k => [(0, .slice a la.length c), (1, .slice a2 lb.length c2), (5, .int .i64 (k : Nat))]) (fun _ => L) (fun k => la.length - k) 0 ⟨Nat.zero_le _, rfl⟩ ?_ (fun w h => h) ?_
    (repeat ((first | exact trivial | refine ⟨rfl, ?_⟩)))
    rintro k ⟨hk, he⟩
    by_cases hkl : k < la.length
    · obtain ⟨x, hx⟩ : ∃ x, la[k]? = some x := ⟨_, List.getElem?_eq_getElem hkl⟩
      obtain ⟨y, hy⟩ : ∃ y, lb[k]? = some y := ⟨_, List.getElem?_eq_getElem (by omega)⟩
      obtain ⟨b1, o1, C1, t1, f1, rfl, m1, q1⟩ := ints_at ha hx
      obtain ⟨b2, o2, C2, t2, f2, rfl, m2, q2⟩ := ints_at hb hy
      have hK : ∀ z ∈ L, z ∈ L := fun z h => h
      repeat ((first | with_reducible refine T_seq ?_ | with_reducible refine T_block ?_ | with_reducible refine T_region ?_ | with_reducible refine TL_nil ?_ | with_reducible refine TQ_then ?_ | with_reducible refine T_skip ?_ | refine TL_q (op_move rfl) rfl ?_ | (refine' TL_q (op_bin rfl rfl ?_) rfl ?_; rotate_left 1; (· (exact bin_lss))) | refine TL_q (op_len_slice rfl Try.underlying79) rfl ?_ | (refine T_yes rfl ?_ ?_; (· (exact dT (by (omega)))))))
      refine T_draw follows_mixed (L) [] ?_
      (refine' TA_take 0 rfl rfl (by kernel_rfl) (quiet_q (op_move rfl)) ?_ ?_; (· (assumption)))
      (refine' TA_take 1 rfl rfl (by kernel_rfl) (quiet_q (op_move rfl)) ?_ ?_; (· (assumption)))
      (refine' TA_take 2 rfl rfl (by kernel_rfl) (quiet_q (op_idx ety_79 rfl rfl ?_)) ?_ ?_; (· omega); (· (assumption)))
      (refine' TA_take 3 rfl rfl (by kernel_rfl) (quiet_q (op_ld rfl pl_3 ?_ ?_)) ?_ ?_; rotate_left 4; (· repeat ((assumption))); (· (assumption)); (· (assumption)))
      (refine' TA_take 4 rfl rfl (by kernel_rfl) (quiet_q (op_move rfl)) ?_ ?_; (· (assumption)))
      (refine' TA_take 5 rfl rfl (by kernel_rfl) (quiet_q (op_move rfl)) ?_ ?_; (· (assumption)))
      (refine' TA_take 6 rfl rfl (by kernel_rfl) (quiet_q (op_idx ety_79 rfl rfl ?_)) ?_ ?_; (· omega); (· (assumption)))
      (refine' TA_take 7 rfl rfl (by kernel_rfl) (quiet_q (op_ld rfl pl_3 ?_ ?_)) ?_ ?_; rotate_left 4; (· repeat ((assumption))); (· (assumption)); (· (assumption)))
      (refine' TA_take 8 rfl rfl (by kernel_rfl) (quiet_q (op_bin rfl rfl ?_)) ?_ ?_; rotate_left 1; (· (exact bin_neq)); (· (assumption)))
      refine TA_done (by kernel_rfl) ?_
      by_cases hxy : x = y
      · repeat ((first | with_reducible refine T_region ?_ | with_reducible refine TL_nil ?_ | with_reducible refine TQ_then ?_ | with_reducible refine TQ_block ?_ | with_reducible refine T_skip ?_ | refine TL_q (op_move rfl) rfl ?_ | refine TL_q (op_assign rfl) rfl ?_ | (refine' TL_q (op_bin rfl rfl ?_) rfl ?_; rotate_left 1; (· (exact bin_add ⟨by omega, by omega⟩))) | (refine T_no rfl ?_ ?_; (· (exact nF (by (assumption)))))))
        refine TQ_roundS (k + 1) ⟨hkl, by rw [List.take_add_one, List.take_add_one, hx, hy, he, hxy]⟩ ?_ (fun w h => h) (by omega)
        (repeat ((first | exact trivial | refine ⟨rfl, ?_⟩)))
      · have hne : decide (la = lb) = false := by
          simp only [decide_eq_false_iff_not]
          intro e
          rw [e, hy] at hx
          exact hxy (Option.some.inj hx).symm
        rw [hne]
        repeat ((first | with_reducible refine T_seq ?_ | with_reducible refine T_region ?_ | with_reducible refine TL_nil ?_ | with_reducible refine TQ_then ?_ | with_reducible refine T_ret ?_ | with_reducible refine TQ_then_ret ?_ | with_reducible refine TQ_block_ret ?_ | refine TL_q (op_assign rfl) rfl ?_ | (refine T_yes rfl ?_ ?_; (· (exact nT (by (assumption)))))))
        refine TQ_ret1 4 _ rfl rfl ?_
        exact ⟨rfl, rfl⟩
    · have hke : k = la.length := by omega
      have heq : decide (la = lb) = true := by
        rw [hke, List.take_length, hlen, List.take_length] at he
        simpa using he
      rw [heq]
      repeat ((first | with_reducible refine T_seq ?_ | with_reducible refine T_region ?_ | with_reducible refine TL_nil ?_ | with_reducible refine TQ_then ?_ | with_reducible refine T_exit ?_ | with_reducible refine T_ret ?_ | with_reducible refine TQ_then_exit ?_ | with_reducible refine TQ_block_exit ?_ | refine TL_q (op_move rfl) rfl ?_ | refine TL_q (op_assign rfl) rfl ?_ | (refine' TL_q (op_bin rfl rfl ?_) rfl ?_; rotate_left 1; (· (exact bin_lss))) | refine TL_q (op_len_slice rfl Try.underlying79) rfl ?_ | (refine T_no rfl ?_ ?_; (· (exact dF (by (omega)))))))
      refine TQ_ret1 4 _ rfl rfl ?_
      exact ⟨rfl, rfl⟩
  · have hlen' : ¬ ((la.length : Nat) : Int) = ((lb.length : Nat) : Int) := by omega
    have hne : decide (la = lb) = false := by simp only [decide_eq_false_iff_not]; intro e; exact hlen (by rw [e])
    rw [hne]
    repeat ((first | with_reducible refine T_seq ?_ | with_reducible refine T_region ?_ | with_reducible refine TL_nil ?_ | with_reducible refine TQ_then ?_ | with_reducible refine T_ret ?_ | with_reducible refine TQ_then_ret ?_ | refine TL_q (op_move rfl) rfl ?_ | refine TL_q (op_assign rfl) rfl ?_ | (refine' TL_q (op_bin rfl rfl ?_) rfl ?_; rotate_left 1; (· (exact bin_neq))) | refine TL_q (op_len_slice rfl Try.underlying79) rfl ?_ | (refine T_yes rfl ?_ ?_; (· (exact nT (by (assumption)))))))
    refine TQ_ret1 4 _ rfl rfl ?_
    exact ⟨rfl, rfl⟩
end Go.Proofs.Ytdflhdfapnhjjaa
namespace Go.Proofs.Ytdflhdfapnhjjaa
open Vd (RSet Vdt Vote Rec Quest Piece Ballot)
set_option linter.unusedVariables false
set_option linter.unusedSimpArgs false
def nine : List Int := [0, 1, 2, 3, 4, 5, 6, 7, 8]
theorem mem_nine {x : Int} : x ∈ nine ↔ 0 ≤ x ∧ x < 9 := by
  unfold nine
  simp only [List.mem_cons, List.not_mem_nil, or_false]
  omega
theorem nine_nodup : nine.Nodup := by unfold nine; decide
theorem nine_lt : nine.Pairwise (· < ·) := by unfold nine; decide
theorem filter_one : ∀ {l : List Int}, l.Nodup → ∀ a, l.filter (fun x => x == a) = if a ∈ l then [a] else []
  | [], _, a => by simp
  | x :: l, h, a => by
    have hx : x ∉ l := (List.nodup_cons.1 h).1
    have ih := filter_one (List.nodup_cons.1 h).2 a
    by_cases e : x = a
    · subst e
      rw [List.filter_cons_of_pos (by simp), ih, if_neg hx, if_pos (List.mem_cons_self ..)]
    · rw [List.filter_cons_of_neg (by simpa using e), ih]
      have : a ∈ x :: l ↔ a ∈ l := by simp [Ne.symm e]
      simp only [this]
theorem flat_filter (p : Int → Bool) : ∀ l : List Int, l.flatMap (fun n => if p n then [n] else []) = l.filter p
  | [] => rfl
  | x :: l => by
    rw [List.flatMap_cons, flat_filter p l]
    cases h : p x <;> simp [h]
theorem rising_eq {l : List Int} (h : l.Nodup) : risingI l = nine.filter fun x => decide (x ∈ l) := by
  have h1 : risingI l = nine.flatMap fun x => if decide (x ∈ l) = true then [x] else [] := by
    unfold risingI nine
    simp only [filter_one h, decide_eq_true_eq]
    rfl
  rw [h1]
  exact flat_filter _ _
theorem rising_mem {l : List Int} (h : l.Nodup) (h9 : ∀ x ∈ l, 0 ≤ x ∧ x < 9) (x : Int) : x ∈ risingI l ↔ x ∈ l := by
  rw [rising_eq h, List.mem_filter, mem_nine]
  simp only [decide_eq_true_eq]
  exact ⟨fun k => k.2, fun k => ⟨h9 x k, k⟩⟩
theorem rising_nodup {l : List Int} (h : l.Nodup) : (risingI l).Nodup := by
  rw [rising_eq h]
  exact nine_nodup.filter _
theorem rising_perm {l : List Int} (h : l.Nodup) (h9 : ∀ x ∈ l, 0 ≤ x ∧ x < 9) : (risingI l).Perm l :=
  (List.perm_ext_iff_of_nodup (rising_nodup h) h).2 fun x => rising_mem h h9 x
theorem rising_len {l : List Int} (h : l.Nodup) (h9 : ∀ x ∈ l, 0 ≤ x ∧ x < 9) : (risingI l).length = l.length := (rising_perm h h9).length_eq
theorem rising_lt {l : List Int} (h : l.Nodup) : (risingI l).Pairwise (· < ·) := by
  rw [rising_eq h]
  exact nine_lt.filter _
/-- Votes of different upstreams of nine. -/
structure Vup (vs : List Vote) : Prop where
  nd : (vs.map (·.up)).Nodup
  up : ∀ x ∈ vs, 0 ≤ x.up ∧ x.up < 9
theorem BoxOk.vup {l : List Ballot} (h : BoxOk l) : Vup (Vd.votesB l) := by
  refine ⟨?_, fun x hx => ?_⟩
  · have : (Vd.votesB l).map (·.up) = (l.filter fun b => !b.pass).map (fun b => b.v.up) := by
      unfold Vd.votesB
      rw [List.map_map]
      rfl
    rw [this]
    exact h.nd.sublist (List.Sublist.map _ (List.filter_sublist))
  · obtain ⟨b, hb, _, rfl⟩ := votesB_mem.1 hx
    exact h.up b hb
theorem Vup.sub {vs ws : List Vote} (h : Vup vs) (s : ws.Sublist vs) : Vup ws := ⟨h.nd.sublist (s.map _), fun x hx => h.up x (s.subset hx)⟩
theorem Vup.filter {vs : List Vote} (h : Vup vs) (p : Vote → Bool) : Vup (vs.filter p) := h.sub List.filter_sublist
theorem Vup.take {vs : List Vote} (h : Vup vs) (n : Nat) : Vup (vs.take n) := h.sub (List.take_sublist ..)
theorem Vup.perm {vs ws : List Vote} (h : Vup vs) (p : vs.Perm ws) : Vup ws := ⟨(p.map _).nodup h.nd, fun x hx => h.up x (p.mem_iff.2 hx)⟩
theorem Vup.ups {vs : List Vote} (h : Vup vs) : ∀ x ∈ vs.map (·.up), 0 ≤ x ∧ x < 9 := by
  intro x hx
  obtain ⟨y, hy, rfl⟩ := List.mem_map.1 hx
  exact h.up y hy
theorem Vup.inj {vs : List Vote} (h : Vup vs) {x y : Vote} (hx : x ∈ vs) (hy : y ∈ vs) (e : x.up = y.up) : x = y := by
  obtain ⟨i, hi, rfl⟩ := List.getElem_of_mem hx
  obtain ⟨j, hj, rfl⟩ := List.getElem_of_mem hy
  have hp := List.nodup_iff_pairwise_ne.1 h.nd
  rcases Nat.lt_trichotomy i j with h1 | h1 | h1
  · have := List.pairwise_iff_getElem.1 hp i j (by simpa using hi) (by simpa using hj) h1
    simp only [List.getElem_map] at this
    exact absurd e this
  · subst h1; rfl
  · have := List.pairwise_iff_getElem.1 hp j i (by simpa using hj) (by simpa using hi) h1
    simp only [List.getElem_map] at this
    exact absurd e.symm this
/-- The number of votes of nine upstreams. -/
theorem Vup.len {vs : List Vote} (h : Vup vs) : vs.length ≤ 9 := by
  have h1 := rising_len h.nd h.ups
  rw [List.length_map] at h1
  have h2 : (risingI (vs.map (·.up))).length ≤ nine.length := by
    rw [rising_eq h.nd]
    exact List.length_filter_le _ _
  have : nine.length = 9 := rfl
  omega
theorem withV_mem {vs : List Vote} {v : Vdt} {x : Vote} : x ∈ withV vs v ↔ x ∈ vs ∧ x.vd = v := by
  unfold withV
  rw [List.mem_filter, decide_eq_true_eq]
/-- The least time. -/
def timeP : List Vote → Int
  | [] => 0
  | w :: r => r.foldl (fun t v => min t v.time) w.time
theorem timeP_cons (w : Vote) (r : List Vote) : timeP (w :: r) = r.foldl (fun t v => min t v.time) w.time := rfl
theorem fmin_le : ∀ (l : List Vote) (s : Int), l.foldl (fun t v => min t v.time) s ≤ s ∧ ∀ x ∈ l, l.foldl (fun t v => min t v.time) s ≤ x.time
  | [], s => ⟨Int.le_refl _, by simp⟩
  | x :: l, s => by
    obtain ⟨h1, h2⟩ := fmin_le l (min s x.time)
    rw [List.foldl_cons]
    refine ⟨by omega, fun y hy => ?_⟩
    rcases List.mem_cons.1 hy with rfl | hy
    · omega
    · exact h2 y hy
theorem fmin_in : ∀ (l : List Vote) (s : Int), l.foldl (fun t v => min t v.time) s = s ∨ ∃ x ∈ l, l.foldl (fun t v => min t v.time) s = x.time
  | [], s => Or.inl rfl
  | x :: l, s => by
    rw [List.foldl_cons]
    rcases fmin_in l (min s x.time) with h | ⟨y, hy, h⟩
    · by_cases hx : x.time ≤ s
      · exact Or.inr ⟨x, List.mem_cons_self .., by omega⟩
      · exact Or.inl (by omega)
    · exact Or.inr ⟨y, List.mem_cons_of_mem _ hy, h⟩
theorem timeP_fold {l : List Vote} {x : Vote} (h : x ∈ l) : l.foldl (fun t v => min t v.time) x.time = timeP l := by
  cases l with
  | nil => simp at h
  | cons w r =>
    have h1 := fmin_le (w :: r) x.time
    have h2 := fmin_in (w :: r) x.time
    have h3 := fmin_le r w.time
    have h4 := fmin_in r w.time
    rw [timeP_cons]
    obtain ⟨a, ha⟩ : ∃ a, (w :: r).foldl (fun t v => min t v.time) x.time = a := ⟨_, rfl⟩
    obtain ⟨b, hb⟩ : ∃ b, r.foldl (fun t v => min t v.time) w.time = b := ⟨_, rfl⟩
    rw [ha] at h1 h2 ⊢
    rw [hb] at h3 h4 ⊢
    have hax : ∀ y ∈ w :: r, a ≤ y.time := h1.2
    have hbx : ∀ y ∈ w :: r, b ≤ y.time := fun y hy => by
      rcases List.mem_cons.1 hy with rfl | hy
      · exact h3.1
      · exact h3.2 y hy
    have hab : b ≤ a := by
      rcases h2 with h2 | ⟨y, hy, h2⟩
      · rw [h2]; exact hbx x h
      · rw [h2]; exact hbx y hy
    have hba : a ≤ b := by
      rcases h4 with h4 | ⟨y, hy, h4⟩
      · rw [h4]; exact hax w (List.mem_cons_self ..)
      · rw [h4]; exact hax y (List.mem_cons_of_mem _ hy)
    omega
theorem timeP_snoc (l : List Vote) (x : Vote) : timeP (l ++ [x]) = if l.length = 0 ∨ x.time < timeP l then x.time else timeP l := by
  cases l with
  | nil => rfl
  | cons w r =>
    have h0 : ¬ (w :: r).length = 0 := by simp
    rw [List.cons_append, timeP_cons, timeP_cons, List.foldl_append]
    simp only [List.foldl_cons, List.foldl_nil, h0, false_or]
    split <;> omega
theorem timeP_bd {l : List Vote} (h : ∀ x ∈ l, 0 ≤ x.time ∧ x.time ≤ 4294967295) : 0 ≤ timeP l ∧ timeP l ≤ 4294967295 := by
  cases l with
  | nil => simp [timeP]
  | cons w r =>
    have h1 := fmin_le r w.time
    have h2 := fmin_in r w.time
    have hw := h w (List.mem_cons_self ..)
    rw [timeP_cons]
    rcases h2 with h2 | ⟨y, hy, h2⟩
    · rw [h2]; exact hw
    · rw [h2]; exact h y (List.mem_cons_of_mem _ hy)
theorem wonAt_lt_len {want : Int} {vs : List Vote} {k : Nat} : ∀ i, wonAt want vs i = some k → k < i ∧ wonAt want vs k = none ∧ ∃ x, vs[k]? = some x ∧ want ≤ ((withV (vs.take (k + 1)) x.vd).length : Int)
  | 0, h => by simp [wonAt] at h
  | i + 1, h => by
    cases h1 : wonAt want vs i with
    | some j =>
      rw [wonAt, h1] at h
      obtain rfl := Option.some.inj h
      obtain ⟨a, b⟩ := wonAt_lt_len i h1
      exact ⟨by omega, b⟩
    | none =>
      cases h2 : vs[i]? with
      | none => rw [wonAt, h1, h2] at h; cases h
      | some x =>
        rw [wonAt_succ h2 h1] at h
        split at h
        · rename_i hw
          obtain rfl := Option.some.inj h
          exact ⟨by omega, h1, x, h2, hw⟩
        · cases h
/-- What a box that is won is won by. -/
structure WonBy (want : Int) (vs : List Vote) (j : Nat) (x : Vote) : Prop where
  at_ : vs[j]? = some x
  no : wonAt want vs j = none
  yes : wonAt want vs vs.length = some j
  len : ((withV (vs.take (j + 1)) x.vd).length : Int) = want
  is : wonR want vs = (x.vd, timeP (withV (vs.take (j + 1)) x.vd), risingI ((withV (vs.take (j + 1)) x.vd).map (·.up)), true)
theorem won_or {want : Int} (hw : 1 ≤ want) (vs : List Vote) : (wonAt want vs vs.length = none ∧ wonR want vs = (Vdt.none, 0, [], false)) ∨ ∃ j x, WonBy want vs j x := by
  cases h : wonAt want vs vs.length with
  | none => exact Or.inl ⟨rfl, by unfold wonR; rw [h]⟩
  | some j =>
    obtain ⟨h1, h2, x, hx, h3⟩ := wonAt_lt_len _ h
    refine Or.inr ⟨j, x, hx, h2, h, (won_exact hw hx h2).1 h3, ?_⟩
    unfold wonR
    rw [h]
    dsimp only
    rw [hx]
    dsimp only
    rw [timeP_fold]
    refine withV_mem.2 ⟨?_, rfl⟩
    rw [List.mem_take_iff_getElem]
    obtain ⟨hj, hjx⟩ := List.getElem?_eq_some_iff.1 hx
    exact ⟨j, by omega, hjx⟩
theorem most_le {vs ws : List Vote} {m : Int} : ∀ {n : Int}, ws.foldl (fun m x => max m ((withV vs x.vd).length : Int)) n ≤ m ↔ n ≤ m ∧ ∀ x ∈ ws, ((withV vs x.vd).length : Int) ≤ m := by
  induction ws with
  | nil => intro n; simp
  | cons w r ih =>
    intro n
    rw [List.foldl_cons, ih]
    simp only [List.mem_cons, forall_eq_or_imp]
    constructor
    · rintro ⟨h1, h2⟩; exact ⟨by omega, by omega, h2⟩
    · rintro ⟨h1, h2, h3⟩; exact ⟨by omega, h3⟩
theorem mostR_le {vs : List Vote} {m : Int} : mostR vs ≤ m ↔ 0 ≤ m ∧ ∀ x ∈ vs, ((withV vs x.vd).length : Int) ≤ m := most_le
theorem mostR_in {vs : List Vote} {x : Vote} (h : x ∈ vs) : ((withV vs x.vd).length : Int) ≤ mostR vs := (mostR_le.1 (Int.le_refl _)).2 x h
theorem mostR_0 (vs : List Vote) : 0 ≤ mostR vs := (mostR_le.1 (Int.le_refl _)).1
theorem sort_rising {l : List Int} (h : l.Nodup) (h9 : ∀ x ∈ l, 0 ≤ x ∧ x < 9) : (l.mergeSort fun x y => decide (x ≤ y)) = risingI l := by
  refine List.Perm.eq_of_pairwise (le := fun x y => x ≤ y) (fun a b _ _ h1 h2 => Int.le_antisymm h1 h2) ?_ ((rising_lt h).imp fun h => Int.le_of_lt h) ((List.mergeSort_perm _ _).trans (rising_perm h h9).symm)
  have := List.pairwise_mergeSort (le := fun x y : Int => decide (x ≤ y)) (fun a b c h1 h2 => by simp only [decide_eq_true_eq] at *; omega) (fun a b => by simp only [Bool.or_eq_true, decide_eq_true_eq]; omega) l
  exact this.imp fun h => of_decide_eq_true h
end Go.Proofs.Ytdflhdfapnhjjaa
namespace Go.Proofs.Ytdflhdfapnhjjaa
open Go.RowKit
open Vd (RSet Vdt Vote Rec Quest Piece Ballot Said)
set_option linter.unusedVariables false
set_option linter.unusedSimpArgs false
--auto
variable {G : World} {L : Blocks}
def saidR : Rp Said := fun L cs s => ∃ cm, cs = .int .i64 s.up :: (cm ++ [.int .u32 s.time]) ∧ msgR L cm s.m ∧ (0 ≤ s.time ∧ s.time ≤ 4294967295) ∧ (-9223372036854775808 ≤ s.up ∧ s.up ≤ 9223372036854775807)
theorem msgR.len {L : Blocks} {cs : List Value} {m : Vd.Msg} (h : msgR L cs m) : cs.length = 21 := by
  obtain ⟨h0, h1, h2, h3, h4, h5, h6, h7, h8, h9, q, a, b, x, k, e0, e1, e2, e3, e4, rfl, _⟩ := h
  rfl
/-- What a statement goes over. -/
def MsgFits (m : Vd.Msg) : Prop := m.answers.length ≤ 10000 ∧ (∀ x ∈ m.answers, x.name.length ≤ 1000000 ∧ x.data.length ≤ 1000000) ∧ m.auth.length ≤ 10000 ∧ (∀ x ∈ m.auth, x.name.length ≤ 1000000 ∧ x.data.length ≤ 1000000)
theorem ofM_code (q : Quest) (m : Vd.Msg) (h : 0 ≤ m.code ∧ m.code ≤ 255) : 0 ≤ (Vd.ofM q m).1.code ∧ (Vd.ofM q m).1.code ≤ 255 := by
  unfold Vd.ofM
  split
  · simp [Vdt.none]
  split
  rename_i l pos last e _
  split
  · simp [Vdt.none]
  split
  · simp [Vdt.none]
  split
  · exact h
  split
  rename_i s is e _
  split
  · simp [Vdt.none]
  split
  · exact h
  · exact h
end Go.Proofs.Ytdflhdfapnhjjaa
namespace Go.Proofs.Ytdflhdfapnhjjaa
open Go.RowKit
open Vd (RSet Vdt Vote Rec Quest Piece Ballot Said)
set_option linter.unusedVariables false
set_option linter.unusedSimpArgs false
--auto
variable {G : World} {L : Blocks}
/-- A set whose data lie in new memory. -/
def SetOut (L : Blocks) (r : RSet × Bool) (u : Value) (M : Blocks) : Prop := ∃ a c B, u = .tuple #[.agg #[.string (bs r.1.name), .int .u16 r.1.kind, .int .u16 r.1.cls, .int .u32 r.1.ttl, .slice a r.1.data.length c], .bool r.2] ∧ ORow strR 9 1 [] a c r.1.data B ∧ M = B ++ L ∧ rsR B [.string (bs r.1.name), .int .u16 r.1.kind, .int .u16 r.1.cls, .int .u32 r.1.ttl, .slice a r.1.data.length c] r.1
theorem SetOut.none : SetOut L (RSet.none, false) (.tuple #[.agg #[.string (bs []), .int .u16 0, .int .u16 0, .int .u32 0, .slice none 0 0], .bool false]) L := ⟨Option.none, 0, [], rfl, ORow.nil _, rfl, rs_none⟩
end Go.Proofs.Ytdflhdfapnhjjaa
namespace Go.Proofs.Ytdflhdfapnhjjaa
open Go.RowKit
open Vd (RSet Vdt Vote Rec Quest Piece Ballot Said)
set_option linter.unusedVariables false
set_option linter.unusedSimpArgs false
--auto
section
variable {G : World} {P : Program} {n : Nat} {ρ : Slots} {L : Blocks} {ty : TypeId} {Q : Exit → Act → World → Prop} {ops : Array Oper} {K : Blocks} {W : List Nat} {fuel : Nat} {listed : Array Bool}
theorem TA_oneGd (i : Nat) {d j dj : Nat} {want b : Bool} {op : Op} {pos : String} {after : Array Edge} {Φ : Value → Blocks → Prop} (hr : Region.ready .any ops listed = [i]) (hi : ops[i]? = some ⟨some d, op, ty, pos, after, some (j, want)⟩) (hdn : Nat.blt d n = true)
    (hs : guardSlot ops j = some dj) (hv : ρ.lookup dj = some (.bool b)) (hb : b = want)
    (hO : OpT P G ρ L op ty Φ) (h : ∀ v L', Φ v L' → (i ∈ W ∨ ∀ p ∈ K, p ∈ L') ∧ TA P G ops n K W Q fuel (listed.setIfInBounds i true) ((d, v) :: ρ) L') : TA P G ops n K W Q (fuel + 1) listed ρ L := by
  refine ⟨fun h0 => (by rw [hr] at h0; cases h0), fun k hk => ?_⟩
  rw [hr] at hk
  obtain rfl : k = i := by simpa using hk
  exact ⟨_, hi, fun d' e => by cases e; simpa using hdn, true, ⟨dj, _, hs, hv, by simp [gsay, hb]⟩, Or.inl ⟨rfl, Φ, hO, h⟩⟩
end
variable {G : World} {L : Blocks}
theorem vdR.vals {L : Blocks} {cs : List Value} {v : Vdt} (h : vdR L cs v) : ∃ a1 c1 a2 c2, cs = [.int .u8 v.code, .slice a1 v.sets.length c1, .slice a2 v.soa.length c2] ∧ sliceR 5 rsR L [.slice a1 v.sets.length c1] v.sets ∧ sliceR 5 rsR L [.slice a2 v.soa.length c2] v.soa ∧ (0 ≤ v.code ∧ v.code ≤ 255) := by
  obtain ⟨a, b, rfl, h1, h2, h3⟩ := h
  obtain ⟨a1, c1, e1, h1⟩ := h1.val
  obtain ⟨a2, c2, e2, h2⟩ := h2.val
  simp only [List.cons.injEq, and_true] at e1 e2
  subst e1 e2
  exact ⟨a1, c1, a2, c2, rfl, h1, h2, h3⟩
end Go.Proofs.Ytdflhdfapnhjjaa
namespace Go.Proofs.Ytdflhdfapnhjjaa
open Go.RowKit
open Vd (RSet Vdt Vote Rec Quest Piece Ballot Said)
set_option linter.unusedVariables false
set_option linter.unusedSimpArgs false
--auto
variable {G : World} {L : Blocks}
theorem vote_eq {a b : Vote} : a = b ↔ a.up = b.up ∧ a.time = b.time ∧ a.vd = b.vd := by
  cases a; cases b; simp only [Vote.mk.injEq]; exact ⟨fun h => ⟨h.1, h.2.2, h.2.1⟩, fun h => ⟨h.1, h.2.2, h.2.1⟩⟩
set_option maxRecDepth 100000 in
set_option maxHeartbeats 2000000 in
theorem rSameV_S (va vb : Value) (la lb : List Vote) (ha : sliceR 5 voteR L [va] la) (hb : sliceR 5 voteR L [vb] lb) : Spec Try.prog G 25 #[va, vb] L fun u M => u = .bool (decide (la = lb)) ∧ M = L := by
  obtain ⟨aa, ca, e1, ha⟩ := ha.val
  obtain ⟨ab, cb, e2, hb⟩ := hb.val
  simp only [List.cons.injEq, and_true] at e1 e2
  subst e1 e2
  obtain ⟨_, ka1, ka2, ha⟩ := sliceR.cut ha
  obtain ⟨_, kb1, kb2, hb⟩ := sliceR.cut hb
  unfold maxLen at ka2 kb2
  refine Spec_of (n := 55) Try.func25 rfl rfl rfl ?_
  by_cases hlen : la.length = lb.length
  · have d0 : (((la.length : Nat) : Int) != ((lb.length : Nat) : Int)) = false := by simp [hlen]
    repeat ((first | with_reducible refine T_seq ?_ | with_reducible refine T_block ?_ | with_reducible refine T_region ?_ | with_reducible refine TL_nil ?_ | with_reducible refine TQ_then ?_ | with_reducible refine T_skip ?_ | refine TL_q (op_move rfl) rfl ?_ | refine TL_q (op_assign rfl) rfl ?_ | (refine' TL_q (op_bin rfl rfl ?_) rfl ?_; rotate_left 1; (· (exact bin_neq))) | refine TL_q (op_len_slice rfl Try.underlying50) rfl ?_ | (refine T_no rfl ?_ ?_; (· (assumption)))))
    refine T_loopS (σ := Nat) (fun k => k ≤ la.length ∧ la.take k = lb.take k) (fun k => [(0, .slice aa la.length ca), (1, .slice ab lb.length cb), (5, .int .i64 (k : Nat))]) (fun k => L) (fun k => la.length - k) 0 ⟨Nat.zero_le _, by simp⟩ ?_ (fun w h => h) ?_
    (repeat ((first | exact trivial | refine ⟨rfl, ?_⟩)))
    rintro k ⟨hk, heq⟩
    by_cases hlt : k < la.length
    · obtain ⟨x, hx⟩ : ∃ x, la[k]? = some x := ⟨_, List.getElem?_eq_getElem hlt⟩
      obtain ⟨y, hy⟩ : ∃ y, lb[k]? = some y := ⟨_, List.getElem?_eq_getElem (hlen ▸ hlt)⟩
      rcases ha with rfl | ⟨b1, o1, C1, t1, f1, rfl, m1, q1⟩
      · simp at hlt
      rcases hb with rfl | ⟨b2, o2, C2, t2, f2, rfl, m2, q2⟩
      · simp at hy
      obtain ⟨_, _, hx0, hcx⟩ := q1 k x hx
      obtain ⟨_, _, hy0, hcy⟩ := q2 k y hy
      obtain ⟨x1, xc1, x2, xc2, rfl, p1, p2, p3, _⟩ := hx0.vals
      obtain ⟨y1, yc1, y2, yc2, rfl, r1, r2, r3, _⟩ := hy0.vals
      have hxr : vdR L [.int .u8 x.vd.code, .slice x1 x.vd.sets.length xc1, .slice x2 x.vd.soa.length xc2] x.vd := ⟨_, _, rfl, p1, p2, p3⟩
      have hyr : vdR L [.int .u8 y.vd.code, .slice y1 y.vd.sets.length yc1, .slice y2 y.vd.soa.length yc2] y.vd := ⟨_, _, rfl, r1, r2, r3⟩
      have g1 : C1[o1 + k * 5 + 0]? = some (.int .i64 x.up) := hcx 0 _ rfl
      have g2 : C2[o2 + k * 5 + 0]? = some (.int .i64 y.up) := hcy 0 _ rfl
      have g3 : C1[o1 + k * 5 + 4]? = some (.int .u32 x.time) := hcx 4 _ rfl
      have g4 : C2[o2 + k * 5 + 4]? = some (.int .u32 y.time) := hcy 4 _ rfl
      have hxv : ∀ j v, ([.int .u8 x.vd.code, .slice x1 x.vd.sets.length xc1, .slice x2 x.vd.soa.length xc2] : List Value)[j]? = some v → C1[o1 + k * 5 + 1 + j]? = some v := fun j v hj => by
        rw [Nat.add_assoc]
        match j, hj with
        | 0, hj => exact hcx 1 v hj
        | 1, hj => exact hcx 2 v hj
        | 2, hj => exact hcx 3 v hj
      have hyv : ∀ j v, ([.int .u8 y.vd.code, .slice y1 y.vd.sets.length yc1, .slice y2 y.vd.soa.length yc2] : List Value)[j]? = some v → C2[o2 + k * 5 + 1 + j]? = some v := fun j v hj => by
        rw [Nat.add_assoc]
        match j, hj with
        | 0, hj => exact hcy 1 v hj
        | 1, hj => exact hcy 2 v hj
        | 2, hj => exact hcy 3 v hj
      have hK : ∀ z ∈ [(b1, Obj.cells C1 t1 f1), (b2, Obj.cells C2 t2 f2)], z ∈ L := fun z hz => by
        simp only [List.mem_cons, List.not_mem_nil, or_false] at hz
        rcases hz with rfl | rfl <;> assumption
      have hne : x ≠ y → la ≠ lb := fun hxy e => hxy (by rw [e, hy] at hx; exact (Option.some.inj hx).symm)
      by_cases n1 : x.up = y.up
      · by_cases n2 : x.time = y.time
        · by_cases n3 : x.vd = y.vd
          · have hxy : x = y := vote_eq.2 ⟨n1, n2, n3⟩
            have d3 : (!decide (x.vd = y.vd)) = false := by simp [n3]
            repeat ((first | with_reducible refine T_seq ?_ | with_reducible refine T_block ?_ | with_reducible refine T_region ?_ | with_reducible refine TL_nil ?_ | with_reducible refine TQ_then ?_ | with_reducible refine T_skip ?_ | refine TL_q (op_move rfl) rfl ?_ | (refine' TL_q (op_bin rfl rfl ?_) rfl ?_; rotate_left 1; (· (exact bin_lss))) | refine TL_q (op_len_slice rfl Try.underlying50) rfl ?_ | (refine T_yes rfl ?_ ?_; (· (exact dT (by (omega)))))))
            refine T_draw follows_mixed ([(b1, Obj.cells C1 t1 f1), (b2, Obj.cells C2 t2 f2)]) [] ?_
            (refine' TA_take 0 rfl rfl (by kernel_rfl) (quiet_q (op_move rfl)) ?_ ?_; (· (assumption)))
            (refine' TA_take 1 rfl rfl (by kernel_rfl) (quiet_q (op_move rfl)) ?_ ?_; (· (assumption)))
            (refine' TA_take 2 rfl rfl (by kernel_rfl) (quiet_q (op_idx ety_50 rfl rfl ?_)) ?_ ?_; (· omega); (· (assumption)))
            (refine' TA_take 3 rfl rfl (by kernel_rfl) (quiet_q (op_fld rfl fld_63_0)) ?_ ?_; (· (assumption)))
            (refine' TA_take 4 rfl rfl (by kernel_rfl) (quiet_q (op_ld rfl pl_3 ?_ ?_)) ?_ ?_; rotate_left 4; (· repeat ((exact List.mem_cons_self))); (· (assumption)); (· (assumption)))
            (refine' TA_take 5 rfl rfl (by kernel_rfl) (quiet_q (op_move rfl)) ?_ ?_; (· (assumption)))
            (refine' TA_take 6 rfl rfl (by kernel_rfl) (quiet_q (op_move rfl)) ?_ ?_; (· (assumption)))
            (refine' TA_take 7 rfl rfl (by kernel_rfl) (quiet_q (op_idx ety_50 rfl rfl ?_)) ?_ ?_; (· omega); (· (assumption)))
            (refine' TA_take 8 rfl rfl (by kernel_rfl) (quiet_q (op_fld rfl fld_63_0)) ?_ ?_; (· (assumption)))
            (refine' TA_take 9 rfl rfl (by kernel_rfl) (quiet_q (op_ld rfl pl_3 ?_ ?_)) ?_ ?_; rotate_left 4; (· repeat ((first | exact List.mem_cons_self | apply List.mem_cons_of_mem))); (· (assumption)); (· (assumption)))
            (refine' TA_take 10 rfl rfl (by kernel_rfl) (quiet_q (op_bin rfl rfl ?_)) ?_ ?_; rotate_left 1; (· (exact bin_neq)); (· (assumption)))
            (refine' TA_take 11 rfl rfl (by kernel_rfl) (quiet_q (op_move rfl)) ?_ ?_; (· (assumption)))
            (refine' TA_take 12 rfl rfl (by kernel_rfl) (quiet_g2 rfl rfl (by (exact nF (by (assumption)))) (op_move rfl)) ?_ ?_; (· (assumption)))
            (refine' TA_take 13 rfl rfl (by kernel_rfl) (quiet_g2 rfl rfl (by (exact nF (by (assumption)))) (op_move rfl)) ?_ ?_; (· (assumption)))
            (refine' TA_take 14 rfl rfl (by kernel_rfl) (quiet_g2 rfl rfl (by (exact nF (by (assumption)))) (op_idx ety_50 rfl rfl ?_)) ?_ ?_; (· omega); (· (assumption)))
            (refine' TA_take 15 rfl rfl (by kernel_rfl) (quiet_g2 rfl rfl (by (exact nF (by (assumption)))) (op_fld rfl fld_63_2)) ?_ ?_; (· (assumption)))
            (refine' TA_take 16 rfl rfl (by kernel_rfl) (quiet_g2 rfl rfl (by (exact nF (by (assumption)))) (op_ld rfl pl_36 ?_ ?_)) ?_ ?_; rotate_left 4; (· repeat ((exact List.mem_cons_self))); (· (assumption)); (· (assumption)))
            (refine' TA_take 17 rfl rfl (by kernel_rfl) (quiet_g2 rfl rfl (by (exact nF (by (assumption)))) (op_move rfl)) ?_ ?_; (· (assumption)))
            (refine' TA_take 18 rfl rfl (by kernel_rfl) (quiet_g2 rfl rfl (by (exact nF (by (assumption)))) (op_move rfl)) ?_ ?_; (· (assumption)))
            (refine' TA_take 19 rfl rfl (by kernel_rfl) (quiet_g2 rfl rfl (by (exact nF (by (assumption)))) (op_idx ety_50 rfl rfl ?_)) ?_ ?_; (· omega); (· (assumption)))
            (refine' TA_take 20 rfl rfl (by kernel_rfl) (quiet_g2 rfl rfl (by (exact nF (by (assumption)))) (op_fld rfl fld_63_2)) ?_ ?_; (· (assumption)))
            (refine' TA_take 21 rfl rfl (by kernel_rfl) (quiet_g2 rfl rfl (by (exact nF (by (assumption)))) (op_ld rfl pl_36 ?_ ?_)) ?_ ?_; rotate_left 4; (· repeat ((first | exact List.mem_cons_self | apply List.mem_cons_of_mem))); (· (assumption)); (· (assumption)))
            (refine' TA_take 22 rfl rfl (by kernel_rfl) (quiet_g2 rfl rfl (by (exact nF (by (assumption)))) (op_bin rfl rfl ?_)) ?_ ?_; rotate_left 1; (· (exact bin_neq)); (· (assumption)))
            (refine' TA_take 23 rfl rfl (by kernel_rfl) (quiet_q (op_pickF rfl ?_ rfl)) ?_ ?_; (· (exact nF (by (assumption)))); (· (assumption)))
            (refine' TA_take 24 rfl rfl (by kernel_rfl) (quiet_q (op_move rfl)) ?_ ?_; (· (assumption)))
            (refine' TA_take 25 rfl rfl (by kernel_rfl) (quiet_g2 rfl rfl (by (exact nF (by (assumption)))) (op_move rfl)) ?_ ?_; (· (assumption)))
            (refine' TA_take 26 rfl rfl (by kernel_rfl) (quiet_g2 rfl rfl (by (exact nF (by (assumption)))) (op_move rfl)) ?_ ?_; (· (assumption)))
            (refine' TA_take 27 rfl rfl (by kernel_rfl) (quiet_g2 rfl rfl (by (exact nF (by (assumption)))) (op_idx ety_50 rfl rfl ?_)) ?_ ?_; (· omega); (· (assumption)))
            (refine' TA_take 28 rfl rfl (by kernel_rfl) (quiet_g2 rfl rfl (by (exact nF (by (assumption)))) (op_fld rfl fld_63_1)) ?_ ?_; (· (assumption)))
            (refine' TA_take 30 rfl rfl (by kernel_rfl) (quiet_g2 rfl rfl (by (exact nF (by (assumption)))) (op_move rfl)) ?_ ?_; (· (assumption)))
            (refine' TA_take 31 rfl rfl (by kernel_rfl) (quiet_g2 rfl rfl (by (exact nF (by (assumption)))) (op_move rfl)) ?_ ?_; (· (assumption)))
            (refine' TA_take 32 rfl rfl (by kernel_rfl) (quiet_g2 rfl rfl (by (exact nF (by (assumption)))) (op_idx ety_50 rfl rfl ?_)) ?_ ?_; (· omega); (· (assumption)))
            (refine' TA_take 33 rfl rfl (by kernel_rfl) (quiet_g2 rfl rfl (by (exact nF (by (assumption)))) (op_fld rfl fld_63_1)) ?_ ?_; (· (assumption)))
            -- SEVERAL: [29, 34]
            (refine TA_take 29 rfl rfl (by kernel_rfl) (quiet_g2 rfl rfl (by (exact nF (by (assumption)))) (op_ldA [.int .u8 x.vd.code, .slice x1 x.vd.sets.length xc1, .slice x2 x.vd.soa.length xc2] rfl st_42 (List.mem_cons_self ..) hxv)) ?_ ?_; (· exact hK))
            (refine TA_take 34 rfl rfl (by kernel_rfl) (quiet_g2 rfl rfl (by (exact nF (by (assumption)))) (op_ldA [.int .u8 y.vd.code, .slice y1 y.vd.sets.length yc1, .slice y2 y.vd.soa.length yc2] rfl st_42 (List.mem_cons_of_mem _ (List.mem_cons_self ..)) hyv)) ?_ ?_; (· exact hK))
            (refine TA_oneGd 35 (by kernel_rfl) rfl rfl rfl rfl (by (exact nF (by (assumption)))) (op_call hb_23 rfl (vSame_S [.int .u8 x.vd.code, .slice x1 x.vd.sets.length xc1, .slice x2 x.vd.soa.length xc2] [.int .u8 y.vd.code, .slice y1 y.vd.sets.length yc1, .slice y2 y.vd.soa.length yc2] x.vd y.vd hxr hyr)) ?_; rintro _ _ ⟨rfl, rfl⟩; refine ⟨Or.inr hK, ?_⟩)
            (refine' TA_take 36 rfl rfl (by kernel_rfl) (quiet_g2 rfl rfl (by (exact nF (by (assumption)))) (op_not rfl)) ?_ ?_; (· (assumption)))
            (refine' TA_take 37 rfl rfl (by kernel_rfl) (quiet_q (op_pickF rfl ?_ rfl)) ?_ ?_; (· (exact nF (by (assumption)))); (· (assumption)))
            refine TA_done (by kernel_rfl) ?_
            repeat ((first | with_reducible refine T_region ?_ | with_reducible refine TL_nil ?_ | with_reducible refine TQ_then ?_ | with_reducible refine TQ_block ?_ | with_reducible refine T_skip ?_ | refine TL_q (op_move rfl) rfl ?_ | refine TL_q (op_assign rfl) rfl ?_ | (refine' TL_q (op_bin rfl rfl ?_) rfl ?_; rotate_left 1; (· (exact bin_add ⟨by omega, by omega⟩))) | (refine T_no rfl ?_ ?_; (· (assumption)))))
            refine TQ_roundS (k + 1) ⟨hlt, by subst hxy; exact take_ext heq hx hy⟩ ?_ (fun w h => h) (by omega)
            (repeat ((first | exact trivial | refine ⟨rfl, ?_⟩)))
          · have d3 : (!decide (x.vd = y.vd)) = true := by simp [n3]
            repeat ((first | with_reducible refine T_seq ?_ | with_reducible refine T_block ?_ | with_reducible refine T_region ?_ | with_reducible refine TL_nil ?_ | with_reducible refine TQ_then ?_ | with_reducible refine T_skip ?_ | refine TL_q (op_move rfl) rfl ?_ | (refine' TL_q (op_bin rfl rfl ?_) rfl ?_; rotate_left 1; (· (exact bin_lss))) | refine TL_q (op_len_slice rfl Try.underlying50) rfl ?_ | (refine T_yes rfl ?_ ?_; (· (exact dT (by (omega)))))))
            refine T_draw follows_mixed ([(b1, Obj.cells C1 t1 f1), (b2, Obj.cells C2 t2 f2)]) [] ?_
            (refine' TA_take 0 rfl rfl (by kernel_rfl) (quiet_q (op_move rfl)) ?_ ?_; (· (assumption)))
            (refine' TA_take 1 rfl rfl (by kernel_rfl) (quiet_q (op_move rfl)) ?_ ?_; (· (assumption)))
            (refine' TA_take 2 rfl rfl (by kernel_rfl) (quiet_q (op_idx ety_50 rfl rfl ?_)) ?_ ?_; (· omega); (· (assumption)))
            (refine' TA_take 3 rfl rfl (by kernel_rfl) (quiet_q (op_fld rfl fld_63_0)) ?_ ?_; (· (assumption)))
            (refine' TA_take 4 rfl rfl (by kernel_rfl) (quiet_q (op_ld rfl pl_3 ?_ ?_)) ?_ ?_; rotate_left 4; (· repeat ((exact List.mem_cons_self))); (· (assumption)); (· (assumption)))
            (refine' TA_take 5 rfl rfl (by kernel_rfl) (quiet_q (op_move rfl)) ?_ ?_; (· (assumption)))
            (refine' TA_take 6 rfl rfl (by kernel_rfl) (quiet_q (op_move rfl)) ?_ ?_; (· (assumption)))
            (refine' TA_take 7 rfl rfl (by kernel_rfl) (quiet_q (op_idx ety_50 rfl rfl ?_)) ?_ ?_; (· omega); (· (assumption)))
            (refine' TA_take 8 rfl rfl (by kernel_rfl) (quiet_q (op_fld rfl fld_63_0)) ?_ ?_; (· (assumption)))
            (refine' TA_take 9 rfl rfl (by kernel_rfl) (quiet_q (op_ld rfl pl_3 ?_ ?_)) ?_ ?_; rotate_left 4; (· repeat ((first | exact List.mem_cons_self | apply List.mem_cons_of_mem))); (· (assumption)); (· (assumption)))
            (refine' TA_take 10 rfl rfl (by kernel_rfl) (quiet_q (op_bin rfl rfl ?_)) ?_ ?_; rotate_left 1; (· (exact bin_neq)); (· (assumption)))
            (refine' TA_take 11 rfl rfl (by kernel_rfl) (quiet_q (op_move rfl)) ?_ ?_; (· (assumption)))
            (refine' TA_take 12 rfl rfl (by kernel_rfl) (quiet_g2 rfl rfl (by (exact nF (by (assumption)))) (op_move rfl)) ?_ ?_; (· (assumption)))
            (refine' TA_take 13 rfl rfl (by kernel_rfl) (quiet_g2 rfl rfl (by (exact nF (by (assumption)))) (op_move rfl)) ?_ ?_; (· (assumption)))
            (refine' TA_take 14 rfl rfl (by kernel_rfl) (quiet_g2 rfl rfl (by (exact nF (by (assumption)))) (op_idx ety_50 rfl rfl ?_)) ?_ ?_; (· omega); (· (assumption)))
            (refine' TA_take 15 rfl rfl (by kernel_rfl) (quiet_g2 rfl rfl (by (exact nF (by (assumption)))) (op_fld rfl fld_63_2)) ?_ ?_; (· (assumption)))
            (refine' TA_take 16 rfl rfl (by kernel_rfl) (quiet_g2 rfl rfl (by (exact nF (by (assumption)))) (op_ld rfl pl_36 ?_ ?_)) ?_ ?_; rotate_left 4; (· repeat ((exact List.mem_cons_self))); (· (assumption)); (· (assumption)))
            (refine' TA_take 17 rfl rfl (by kernel_rfl) (quiet_g2 rfl rfl (by (exact nF (by (assumption)))) (op_move rfl)) ?_ ?_; (· (assumption)))
            (refine' TA_take 18 rfl rfl (by kernel_rfl) (quiet_g2 rfl rfl (by (exact nF (by (assumption)))) (op_move rfl)) ?_ ?_; (· (assumption)))
            (refine' TA_take 19 rfl rfl (by kernel_rfl) (quiet_g2 rfl rfl (by (exact nF (by (assumption)))) (op_idx ety_50 rfl rfl ?_)) ?_ ?_; (· omega); (· (assumption)))
            (refine' TA_take 20 rfl rfl (by kernel_rfl) (quiet_g2 rfl rfl (by (exact nF (by (assumption)))) (op_fld rfl fld_63_2)) ?_ ?_; (· (assumption)))
            (refine' TA_take 21 rfl rfl (by kernel_rfl) (quiet_g2 rfl rfl (by (exact nF (by (assumption)))) (op_ld rfl pl_36 ?_ ?_)) ?_ ?_; rotate_left 4; (· repeat ((first | exact List.mem_cons_self | apply List.mem_cons_of_mem))); (· (assumption)); (· (assumption)))
            (refine' TA_take 22 rfl rfl (by kernel_rfl) (quiet_g2 rfl rfl (by (exact nF (by (assumption)))) (op_bin rfl rfl ?_)) ?_ ?_; rotate_left 1; (· (exact bin_neq)); (· (assumption)))
            (refine' TA_take 23 rfl rfl (by kernel_rfl) (quiet_q (op_pickF rfl ?_ rfl)) ?_ ?_; (· (exact nF (by (assumption)))); (· (assumption)))
            (refine' TA_take 24 rfl rfl (by kernel_rfl) (quiet_q (op_move rfl)) ?_ ?_; (· (assumption)))
            (refine' TA_take 25 rfl rfl (by kernel_rfl) (quiet_g2 rfl rfl (by (exact nF (by (assumption)))) (op_move rfl)) ?_ ?_; (· (assumption)))
            (refine' TA_take 26 rfl rfl (by kernel_rfl) (quiet_g2 rfl rfl (by (exact nF (by (assumption)))) (op_move rfl)) ?_ ?_; (· (assumption)))
            (refine' TA_take 27 rfl rfl (by kernel_rfl) (quiet_g2 rfl rfl (by (exact nF (by (assumption)))) (op_idx ety_50 rfl rfl ?_)) ?_ ?_; (· omega); (· (assumption)))
            (refine' TA_take 28 rfl rfl (by kernel_rfl) (quiet_g2 rfl rfl (by (exact nF (by (assumption)))) (op_fld rfl fld_63_1)) ?_ ?_; (· (assumption)))
            (refine' TA_take 30 rfl rfl (by kernel_rfl) (quiet_g2 rfl rfl (by (exact nF (by (assumption)))) (op_move rfl)) ?_ ?_; (· (assumption)))
            (refine' TA_take 31 rfl rfl (by kernel_rfl) (quiet_g2 rfl rfl (by (exact nF (by (assumption)))) (op_move rfl)) ?_ ?_; (· (assumption)))
            (refine' TA_take 32 rfl rfl (by kernel_rfl) (quiet_g2 rfl rfl (by (exact nF (by (assumption)))) (op_idx ety_50 rfl rfl ?_)) ?_ ?_; (· omega); (· (assumption)))
            (refine' TA_take 33 rfl rfl (by kernel_rfl) (quiet_g2 rfl rfl (by (exact nF (by (assumption)))) (op_fld rfl fld_63_1)) ?_ ?_; (· (assumption)))
            -- SEVERAL: [29, 34]
            (refine TA_take 29 rfl rfl (by kernel_rfl) (quiet_g2 rfl rfl (by (exact nF (by (assumption)))) (op_ldA [.int .u8 x.vd.code, .slice x1 x.vd.sets.length xc1, .slice x2 x.vd.soa.length xc2] rfl st_42 (List.mem_cons_self ..) hxv)) ?_ ?_; (· exact hK))
            (refine TA_take 34 rfl rfl (by kernel_rfl) (quiet_g2 rfl rfl (by (exact nF (by (assumption)))) (op_ldA [.int .u8 y.vd.code, .slice y1 y.vd.sets.length yc1, .slice y2 y.vd.soa.length yc2] rfl st_42 (List.mem_cons_of_mem _ (List.mem_cons_self ..)) hyv)) ?_ ?_; (· exact hK))
            (refine TA_oneGd 35 (by kernel_rfl) rfl rfl rfl rfl (by (exact nF (by (assumption)))) (op_call hb_23 rfl (vSame_S [.int .u8 x.vd.code, .slice x1 x.vd.sets.length xc1, .slice x2 x.vd.soa.length xc2] [.int .u8 y.vd.code, .slice y1 y.vd.sets.length yc1, .slice y2 y.vd.soa.length yc2] x.vd y.vd hxr hyr)) ?_; rintro _ _ ⟨rfl, rfl⟩; refine ⟨Or.inr hK, ?_⟩)
            (refine' TA_take 36 rfl rfl (by kernel_rfl) (quiet_g2 rfl rfl (by (exact nF (by (assumption)))) (op_not rfl)) ?_ ?_; (· (assumption)))
            (refine' TA_take 37 rfl rfl (by kernel_rfl) (quiet_q (op_pickF rfl ?_ rfl)) ?_ ?_; (· (exact nF (by (assumption)))); (· (assumption)))
            refine TA_done (by kernel_rfl) ?_
            repeat ((first | with_reducible refine T_seq ?_ | with_reducible refine T_region ?_ | with_reducible refine TL_nil ?_ | with_reducible refine TQ_then ?_ | with_reducible refine T_ret ?_ | with_reducible refine TQ_then_ret ?_ | with_reducible refine TQ_block_ret ?_ | refine TL_q (op_assign rfl) rfl ?_ | (refine T_yes rfl ?_ ?_; (· (assumption)))))
            refine TQ_ret1 4 _ rfl rfl ?_
            exact ⟨by rw [decide_eq_false (hne (fun e => n3 (by rw [e])))], rfl⟩
        · repeat ((first | with_reducible refine T_seq ?_ | with_reducible refine T_block ?_ | with_reducible refine T_region ?_ | with_reducible refine TL_nil ?_ | with_reducible refine TQ_then ?_ | with_reducible refine T_skip ?_ | refine TL_q (op_move rfl) rfl ?_ | (refine' TL_q (op_bin rfl rfl ?_) rfl ?_; rotate_left 1; (· (exact bin_lss))) | refine TL_q (op_len_slice rfl Try.underlying50) rfl ?_ | (refine T_yes rfl ?_ ?_; (· (exact dT (by (omega)))))))
          refine T_draw follows_mixed ([(b1, Obj.cells C1 t1 f1), (b2, Obj.cells C2 t2 f2)]) [] ?_
          (refine' TA_take 0 rfl rfl (by kernel_rfl) (quiet_q (op_move rfl)) ?_ ?_; (· (assumption)))
          (refine' TA_take 1 rfl rfl (by kernel_rfl) (quiet_q (op_move rfl)) ?_ ?_; (· (assumption)))
          (refine' TA_take 2 rfl rfl (by kernel_rfl) (quiet_q (op_idx ety_50 rfl rfl ?_)) ?_ ?_; (· omega); (· (assumption)))
          (refine' TA_take 3 rfl rfl (by kernel_rfl) (quiet_q (op_fld rfl fld_63_0)) ?_ ?_; (· (assumption)))
          (refine' TA_take 4 rfl rfl (by kernel_rfl) (quiet_q (op_ld rfl pl_3 ?_ ?_)) ?_ ?_; rotate_left 4; (· repeat ((exact List.mem_cons_self))); (· (assumption)); (· (assumption)))
          (refine' TA_take 5 rfl rfl (by kernel_rfl) (quiet_q (op_move rfl)) ?_ ?_; (· (assumption)))
          (refine' TA_take 6 rfl rfl (by kernel_rfl) (quiet_q (op_move rfl)) ?_ ?_; (· (assumption)))
          (refine' TA_take 7 rfl rfl (by kernel_rfl) (quiet_q (op_idx ety_50 rfl rfl ?_)) ?_ ?_; (· omega); (· (assumption)))
          (refine' TA_take 8 rfl rfl (by kernel_rfl) (quiet_q (op_fld rfl fld_63_0)) ?_ ?_; (· (assumption)))
          (refine' TA_take 9 rfl rfl (by kernel_rfl) (quiet_q (op_ld rfl pl_3 ?_ ?_)) ?_ ?_; rotate_left 4; (· repeat ((first | exact List.mem_cons_self | apply List.mem_cons_of_mem))); (· (assumption)); (· (assumption)))
          (refine' TA_take 10 rfl rfl (by kernel_rfl) (quiet_q (op_bin rfl rfl ?_)) ?_ ?_; rotate_left 1; (· (exact bin_neq)); (· (assumption)))
          (refine' TA_take 11 rfl rfl (by kernel_rfl) (quiet_q (op_move rfl)) ?_ ?_; (· (assumption)))
          (refine' TA_take 12 rfl rfl (by kernel_rfl) (quiet_g2 rfl rfl (by (exact nF (by (assumption)))) (op_move rfl)) ?_ ?_; (· (assumption)))
          (refine' TA_take 13 rfl rfl (by kernel_rfl) (quiet_g2 rfl rfl (by (exact nF (by (assumption)))) (op_move rfl)) ?_ ?_; (· (assumption)))
          (refine' TA_take 14 rfl rfl (by kernel_rfl) (quiet_g2 rfl rfl (by (exact nF (by (assumption)))) (op_idx ety_50 rfl rfl ?_)) ?_ ?_; (· omega); (· (assumption)))
          (refine' TA_take 15 rfl rfl (by kernel_rfl) (quiet_g2 rfl rfl (by (exact nF (by (assumption)))) (op_fld rfl fld_63_2)) ?_ ?_; (· (assumption)))
          (refine' TA_take 16 rfl rfl (by kernel_rfl) (quiet_g2 rfl rfl (by (exact nF (by (assumption)))) (op_ld rfl pl_36 ?_ ?_)) ?_ ?_; rotate_left 4; (· repeat ((exact List.mem_cons_self))); (· (assumption)); (· (assumption)))
          (refine' TA_take 17 rfl rfl (by kernel_rfl) (quiet_g2 rfl rfl (by (exact nF (by (assumption)))) (op_move rfl)) ?_ ?_; (· (assumption)))
          (refine' TA_take 18 rfl rfl (by kernel_rfl) (quiet_g2 rfl rfl (by (exact nF (by (assumption)))) (op_move rfl)) ?_ ?_; (· (assumption)))
          (refine' TA_take 19 rfl rfl (by kernel_rfl) (quiet_g2 rfl rfl (by (exact nF (by (assumption)))) (op_idx ety_50 rfl rfl ?_)) ?_ ?_; (· omega); (· (assumption)))
          (refine' TA_take 20 rfl rfl (by kernel_rfl) (quiet_g2 rfl rfl (by (exact nF (by (assumption)))) (op_fld rfl fld_63_2)) ?_ ?_; (· (assumption)))
          (refine' TA_take 21 rfl rfl (by kernel_rfl) (quiet_g2 rfl rfl (by (exact nF (by (assumption)))) (op_ld rfl pl_36 ?_ ?_)) ?_ ?_; rotate_left 4; (· repeat ((first | exact List.mem_cons_self | apply List.mem_cons_of_mem))); (· (assumption)); (· (assumption)))
          (refine' TA_take 22 rfl rfl (by kernel_rfl) (quiet_g2 rfl rfl (by (exact nF (by (assumption)))) (op_bin rfl rfl ?_)) ?_ ?_; rotate_left 1; (· (exact bin_neq)); (· (assumption)))
          (refine' TA_take 23 rfl rfl (by kernel_rfl) (quiet_q (op_pickF rfl ?_ rfl)) ?_ ?_; (· (exact nF (by (assumption)))); (· (assumption)))
          (refine' TA_take 24 rfl rfl (by kernel_rfl) (quiet_q (op_move rfl)) ?_ ?_; (· (assumption)))
          (refine TA_take 25 rfl rfl (by kernel_rfl) (quiet_no2 rfl rfl ?_) ?_ ?_; (· (exact nT (by (assumption)))); (· (assumption)))
          (refine TA_take 26 rfl rfl (by kernel_rfl) (quiet_no2 rfl rfl ?_) ?_ ?_; (· (exact nT (by (assumption)))); (· (assumption)))
          (refine TA_take 27 rfl rfl (by kernel_rfl) (quiet_no2 rfl rfl ?_) ?_ ?_; (· (exact nT (by (assumption)))); (· (assumption)))
          (refine TA_take 28 rfl rfl (by kernel_rfl) (quiet_no2 rfl rfl ?_) ?_ ?_; (· (exact nT (by (assumption)))); (· (assumption)))
          (refine TA_take 30 rfl rfl (by kernel_rfl) (quiet_no2 rfl rfl ?_) ?_ ?_; (· (exact nT (by (assumption)))); (· (assumption)))
          (refine TA_take 31 rfl rfl (by kernel_rfl) (quiet_no2 rfl rfl ?_) ?_ ?_; (· (exact nT (by (assumption)))); (· (assumption)))
          (refine TA_take 32 rfl rfl (by kernel_rfl) (quiet_no2 rfl rfl ?_) ?_ ?_; (· (exact nT (by (assumption)))); (· (assumption)))
          (refine TA_take 33 rfl rfl (by kernel_rfl) (quiet_no2 rfl rfl ?_) ?_ ?_; (· (exact nT (by (assumption)))); (· (assumption)))
          -- SEVERAL: [29, 34]
          (refine TA_take 29 rfl rfl (by kernel_rfl) (quiet_no2 rfl rfl ?_) ?_ ?_; (· (exact nT (by (assumption)))); (· exact hK))
          (refine TA_take 34 rfl rfl (by kernel_rfl) (quiet_no2 rfl rfl ?_) ?_ ?_; (· (exact nT (by (assumption)))); (· exact hK))
          (refine TA_take 35 rfl rfl (by kernel_rfl) (quiet_no2 rfl rfl ?_) ?_ ?_; (· (exact nT (by (assumption)))); (· exact hK))
          (refine TA_take 36 rfl rfl (by kernel_rfl) (quiet_no2 rfl rfl ?_) ?_ ?_; (· (exact nT (by (assumption)))); (· (assumption)))
          (refine' TA_take 37 rfl rfl (by kernel_rfl) (quiet_q (op_pickT rfl ?_ rfl)) ?_ ?_; (· (exact nT (by (assumption)))); (· (assumption)))
          refine TA_done (by kernel_rfl) ?_
          repeat ((first | with_reducible refine T_seq ?_ | with_reducible refine T_region ?_ | with_reducible refine TL_nil ?_ | with_reducible refine TQ_then ?_ | with_reducible refine T_ret ?_ | with_reducible refine TQ_then_ret ?_ | with_reducible refine TQ_block_ret ?_ | refine TL_q (op_assign rfl) rfl ?_ | (refine T_yes rfl ?_ ?_; (· (with_reducible rfl)))))
          refine TQ_ret1 4 _ rfl rfl ?_
          exact ⟨by rw [decide_eq_false (hne (fun e => n2 (by rw [e])))], rfl⟩
      · repeat ((first | with_reducible refine T_seq ?_ | with_reducible refine T_block ?_ | with_reducible refine T_region ?_ | with_reducible refine TL_nil ?_ | with_reducible refine TQ_then ?_ | with_reducible refine T_skip ?_ | refine TL_q (op_move rfl) rfl ?_ | (refine' TL_q (op_bin rfl rfl ?_) rfl ?_; rotate_left 1; (· (exact bin_lss))) | refine TL_q (op_len_slice rfl Try.underlying50) rfl ?_ | (refine T_yes rfl ?_ ?_; (· (exact dT (by (omega)))))))
        refine T_draw follows_mixed ([(b1, Obj.cells C1 t1 f1), (b2, Obj.cells C2 t2 f2)]) [] ?_
        (refine' TA_take 0 rfl rfl (by kernel_rfl) (quiet_q (op_move rfl)) ?_ ?_; (· (assumption)))
        (refine' TA_take 1 rfl rfl (by kernel_rfl) (quiet_q (op_move rfl)) ?_ ?_; (· (assumption)))
        (refine' TA_take 2 rfl rfl (by kernel_rfl) (quiet_q (op_idx ety_50 rfl rfl ?_)) ?_ ?_; (· omega); (· (assumption)))
        (refine' TA_take 3 rfl rfl (by kernel_rfl) (quiet_q (op_fld rfl fld_63_0)) ?_ ?_; (· (assumption)))
        (refine' TA_take 4 rfl rfl (by kernel_rfl) (quiet_q (op_ld rfl pl_3 ?_ ?_)) ?_ ?_; rotate_left 4; (· repeat ((exact List.mem_cons_self))); (· (assumption)); (· (assumption)))
        (refine' TA_take 5 rfl rfl (by kernel_rfl) (quiet_q (op_move rfl)) ?_ ?_; (· (assumption)))
        (refine' TA_take 6 rfl rfl (by kernel_rfl) (quiet_q (op_move rfl)) ?_ ?_; (· (assumption)))
        (refine' TA_take 7 rfl rfl (by kernel_rfl) (quiet_q (op_idx ety_50 rfl rfl ?_)) ?_ ?_; (· omega); (· (assumption)))
        (refine' TA_take 8 rfl rfl (by kernel_rfl) (quiet_q (op_fld rfl fld_63_0)) ?_ ?_; (· (assumption)))
        (refine' TA_take 9 rfl rfl (by kernel_rfl) (quiet_q (op_ld rfl pl_3 ?_ ?_)) ?_ ?_; rotate_left 4; (· repeat ((first | exact List.mem_cons_self | apply List.mem_cons_of_mem))); (· (assumption)); (· (assumption)))
        (refine' TA_take 10 rfl rfl (by kernel_rfl) (quiet_q (op_bin rfl rfl ?_)) ?_ ?_; rotate_left 1; (· (exact bin_neq)); (· (assumption)))
        (refine' TA_take 11 rfl rfl (by kernel_rfl) (quiet_q (op_move rfl)) ?_ ?_; (· (assumption)))
        (refine TA_take 12 rfl rfl (by kernel_rfl) (quiet_no2 rfl rfl ?_) ?_ ?_; (· (exact nT (by (assumption)))); (· (assumption)))
        (refine TA_take 13 rfl rfl (by kernel_rfl) (quiet_no2 rfl rfl ?_) ?_ ?_; (· (exact nT (by (assumption)))); (· (assumption)))
        (refine TA_take 14 rfl rfl (by kernel_rfl) (quiet_no2 rfl rfl ?_) ?_ ?_; (· (exact nT (by (assumption)))); (· (assumption)))
        (refine TA_take 15 rfl rfl (by kernel_rfl) (quiet_no2 rfl rfl ?_) ?_ ?_; (· (exact nT (by (assumption)))); (· (assumption)))
        (refine TA_take 16 rfl rfl (by kernel_rfl) (quiet_no2 rfl rfl ?_) ?_ ?_; (· (exact nT (by (assumption)))); (· (assumption)))
        (refine TA_take 17 rfl rfl (by kernel_rfl) (quiet_no2 rfl rfl ?_) ?_ ?_; (· (exact nT (by (assumption)))); (· (assumption)))
        (refine TA_take 18 rfl rfl (by kernel_rfl) (quiet_no2 rfl rfl ?_) ?_ ?_; (· (exact nT (by (assumption)))); (· (assumption)))
        (refine TA_take 19 rfl rfl (by kernel_rfl) (quiet_no2 rfl rfl ?_) ?_ ?_; (· (exact nT (by (assumption)))); (· (assumption)))
        (refine TA_take 20 rfl rfl (by kernel_rfl) (quiet_no2 rfl rfl ?_) ?_ ?_; (· (exact nT (by (assumption)))); (· (assumption)))
        (refine TA_take 21 rfl rfl (by kernel_rfl) (quiet_no2 rfl rfl ?_) ?_ ?_; (· (exact nT (by (assumption)))); (· (assumption)))
        (refine TA_take 22 rfl rfl (by kernel_rfl) (quiet_no2 rfl rfl ?_) ?_ ?_; (· (exact nT (by (assumption)))); (· (assumption)))
        (refine' TA_take 23 rfl rfl (by kernel_rfl) (quiet_q (op_pickT rfl ?_ rfl)) ?_ ?_; (· (exact nT (by (assumption)))); (· (assumption)))
        (refine' TA_take 24 rfl rfl (by kernel_rfl) (quiet_q (op_move rfl)) ?_ ?_; (· (assumption)))
        (refine TA_take 25 rfl rfl (by kernel_rfl) (quiet_no2 rfl rfl ?_) ?_ ?_; (· (exact Bool.not_false)); (· (assumption)))
        (refine TA_take 26 rfl rfl (by kernel_rfl) (quiet_no2 rfl rfl ?_) ?_ ?_; (· (exact Bool.not_false)); (· (assumption)))
        (refine TA_take 27 rfl rfl (by kernel_rfl) (quiet_no2 rfl rfl ?_) ?_ ?_; (· (exact Bool.not_false)); (· (assumption)))
        (refine TA_take 28 rfl rfl (by kernel_rfl) (quiet_no2 rfl rfl ?_) ?_ ?_; (· (exact Bool.not_false)); (· (assumption)))
        (refine TA_take 30 rfl rfl (by kernel_rfl) (quiet_no2 rfl rfl ?_) ?_ ?_; (· (exact Bool.not_false)); (· (assumption)))
        (refine TA_take 31 rfl rfl (by kernel_rfl) (quiet_no2 rfl rfl ?_) ?_ ?_; (· (exact Bool.not_false)); (· (assumption)))
        (refine TA_take 32 rfl rfl (by kernel_rfl) (quiet_no2 rfl rfl ?_) ?_ ?_; (· (exact Bool.not_false)); (· (assumption)))
        (refine TA_take 33 rfl rfl (by kernel_rfl) (quiet_no2 rfl rfl ?_) ?_ ?_; (· (exact Bool.not_false)); (· (assumption)))
        -- SEVERAL: [29, 34]
        (refine TA_take 29 rfl rfl (by kernel_rfl) (quiet_no2 rfl rfl ?_) ?_ ?_; (· (exact Bool.not_false)); (· exact hK))
        (refine TA_take 34 rfl rfl (by kernel_rfl) (quiet_no2 rfl rfl ?_) ?_ ?_; (· (exact Bool.not_false)); (· exact hK))
        (refine TA_take 35 rfl rfl (by kernel_rfl) (quiet_no2 rfl rfl ?_) ?_ ?_; (· (exact Bool.not_false)); (· exact hK))
        (refine TA_take 36 rfl rfl (by kernel_rfl) (quiet_no2 rfl rfl ?_) ?_ ?_; (· (exact Bool.not_false)); (· (assumption)))
        (refine' TA_take 37 rfl rfl (by kernel_rfl) (quiet_q (op_pickT rfl ?_ rfl)) ?_ ?_; (· (with_reducible rfl)); (· (assumption)))
        refine TA_done (by kernel_rfl) ?_
        repeat ((first | with_reducible refine T_seq ?_ | with_reducible refine T_region ?_ | with_reducible refine TL_nil ?_ | with_reducible refine TQ_then ?_ | with_reducible refine T_ret ?_ | with_reducible refine TQ_then_ret ?_ | with_reducible refine TQ_block_ret ?_ | refine TL_q (op_assign rfl) rfl ?_ | (refine T_yes rfl ?_ ?_; (· (with_reducible rfl)))))
        refine TQ_ret1 4 _ rfl rfl ?_
        exact ⟨by rw [decide_eq_false (hne (fun e => n1 (by rw [e])))], rfl⟩
    · have hkn : k = la.length := by omega
      subst hkn
      rw [List.take_length, hlen, List.take_length] at heq
      repeat ((first | with_reducible refine T_seq ?_ | with_reducible refine T_region ?_ | with_reducible refine TL_nil ?_ | with_reducible refine TQ_then ?_ | with_reducible refine T_exit ?_ | with_reducible refine T_ret ?_ | with_reducible refine TQ_then_exit ?_ | with_reducible refine TQ_block_exit ?_ | refine TL_q (op_move rfl) rfl ?_ | refine TL_q (op_assign rfl) rfl ?_ | (refine' TL_q (op_bin rfl rfl ?_) rfl ?_; rotate_left 1; (· (exact bin_lss))) | refine TL_q (op_len_slice rfl Try.underlying50) rfl ?_ | (refine T_no rfl ?_ ?_; (· (exact dF (by (omega)))))))
      refine TQ_ret1 4 _ rfl rfl ?_
      exact ⟨by simp [heq], rfl⟩
  · have d0 : (((la.length : Nat) : Int) != ((lb.length : Nat) : Int)) = true := by simp; omega
    repeat ((first | with_reducible refine T_seq ?_ | with_reducible refine T_region ?_ | with_reducible refine TL_nil ?_ | with_reducible refine TQ_then ?_ | with_reducible refine T_ret ?_ | with_reducible refine TQ_then_ret ?_ | refine TL_q (op_move rfl) rfl ?_ | refine TL_q (op_assign rfl) rfl ?_ | (refine' TL_q (op_bin rfl rfl ?_) rfl ?_; rotate_left 1; (· (exact bin_neq))) | refine TL_q (op_len_slice rfl Try.underlying50) rfl ?_ | (refine T_yes rfl ?_ ?_; (· (assumption)))))
    refine TQ_ret1 4 _ rfl rfl ?_
    have : la ≠ lb := fun e => hlen (by rw [e])
    exact ⟨by simp [this], rfl⟩
end Go.Proofs.Ytdflhdfapnhjjaa
namespace Go.Proofs.Ytdflhdfapnhjjaa
open Go.RowKit
open Vd (RSet Vdt Vote Rec Quest Piece Ballot Said)
set_option linter.unusedVariables false
set_option linter.unusedSimpArgs false
variable {G : World} {L : Blocks}
theorem Row.pre {e : TypeId} {a : Option Addr} {n c k : Nat} {xs : List Value} {B : Blocks} (h : Row e 1 (.slice a n c) n xs B) (hk : k ≤ n) : Row e 1 (.slice a k c) k (xs.take k) B := by
  have hl := h.len
  refine ⟨by rw [List.length_take, hl]; omega, ?_⟩
  rcases h.is with ⟨q1, q2, q3⟩ | ⟨b, cap, cur, q1, q2, q3, q4, q5, q6⟩
  · obtain ⟨rfl, _, rfl⟩ := Value.slice.inj q1
    have : k = 0 := by omega
    subst this
    exact Or.inl ⟨rfl, rfl, q3⟩
  · obtain ⟨rfl, _, rfl⟩ := Value.slice.inj q1
    refine Or.inr ⟨b, c, cur, rfl, q2, by omega, q4, q5, ?_⟩
    rw [← q6, List.take_take]
    congr 1
    omega
end Go.Proofs.Ytdflhdfapnhjjaa
namespace Go.Proofs.Ytdflhdfapnhjjaa
open Go.RowKit
set_option linter.unusedVariables false
set_option linter.unusedSimpArgs false
variable {G : World} {L : Blocks}
theorem laid_int_of : ∀ {l : List Int} {xs : List Value}, Laid (intR .i64) 1 L xs l → xs = l.map (Value.int .i64) ∧ ∀ s ∈ l, InLit .i64 s
  | [], xs, h => ⟨h, by simp⟩
  | s :: l, _, ⟨c, ys, h1, h2, h3, h4⟩ => by
    obtain ⟨k1, k2⟩ := laid_int_of h4
    obtain ⟨rfl, h3⟩ := h3
    refine ⟨by rw [h1, k1]; rfl, fun t ht => ?_⟩
    rcases List.mem_cons.1 ht with rfl | ht
    · exact h3
    · exact k2 t ht
theorem laid_int_mk : ∀ (l : List Int), (∀ s ∈ l, InLit .i64 s) → Laid (intR .i64) 1 L (l.map (Value.int .i64)) l
  | [], _ => rfl
  | s :: l, h => ⟨[.int .i64 s], l.map (Value.int .i64), rfl, rfl, ⟨rfl, h s (List.mem_cons_self ..)⟩, laid_int_mk l fun t ht => h t (List.mem_cons_of_mem _ ht)⟩
theorem int_one (l : List Int) : ∀ v ∈ l.map (Value.int .i64), v.oneCell' = true := by
  intro v hv
  obtain ⟨s, _, rfl⟩ := List.mem_map.1 hv
  rfl
theorem SortI_S {K : Blocks} (a : Option Addr) (c : Nat) (l : List Int) (B : Blocks) (hB : ORow (intR .i64) 3 1 K a c l B) (hn : l.length ≤ 1000000) : Spec Try.prog G 68 #[.slice a l.length c] (B ++ L) fun u M => u = .tuple #[] ∧ ∃ B', ORow (intR .i64) 3 1 K a c (l.mergeSort fun x y => decide (x ≤ y)) B' ∧ M = B' ++ L := by
  refine ⟨fun w hw => ?_⟩
  obtain ⟨xs, h1, h2, h3⟩ := hB.ex
  obtain ⟨rfl, hle⟩ := laid_int_of h2
  rcases h1.is with ⟨q1, q2, q3⟩ | ⟨b, cap, cur, q1, q2, q3, q4, q5, q6⟩
  · have hl0 : l = [] := List.eq_nil_of_length_eq_zero q2
    subst hl0
    obtain ⟨rfl, _, rfl⟩ := Value.slice.inj q1
    refine (Try.slices_Sort_int_none none 0 w).mono fun e w' ⟨he, hww⟩ => ?_
    subst hww
    exact ⟨_, _, he, ⟨rfl, B, by simpa using hB, rfl⟩, hw⟩
  · obtain ⟨rfl, _, rfl⟩ := Value.slice.inj q1
    have hb : w.heap[b]? = some (.cells cur 3 (0, 0)) := hw.get (b, _) (by rw [q2]; simp)
    have hH := holds_of_blockI (ss := l) hb (by rw [Nat.mul_one] at q6; exact q6)
    have hlen : (l.mergeSort fun x y => decide (x ≤ y)).length = l.length := List.length_mergeSort l
    refine (Try.slices_Sort_int b 0 c l w hH (Array.getElem?_eq_some_iff.1 hb).1 (by omega)).mono fun e w' ⟨he, n, os, hww⟩ => ?_
    have ho := ownsRow_sortedI (w := w) (base := 0) (n := n) (os := os) (ss := l) (ts := l.mergeSort fun x y => decide (x ≤ y)) hlen (Nat.zero_le _) hb q3 q4 q5
    have hg := grownBy_sortedI (w := w) (g := b) (n := n) (os := os) (l.mergeSort fun x y => decide (x ≤ y)).toArray
    rw [← hww] at ho hg
    obtain ⟨B', hB', hH'⟩ := h1.after hw ho hg (Or.inl rfl)
    refine ⟨_, _, he, ⟨rfl, B', ⟨_, by rw [hlen]; exact hB', laid_int_mk _ fun s hs => hle s ((List.mem_mergeSort).1 hs), int_one _⟩, rfl⟩, hH'⟩
end Go.Proofs.Ytdflhdfapnhjjaa
namespace Go.Proofs.Ytdflhdfapnhjjaa
open Go.RowKit
set_option linter.unusedVariables false
set_option linter.unusedSimpArgs false
section
variable {G : World} {P : Program} {n : Nat} {ρ : Slots} {L : Blocks} {ty : TypeId} {Q : Exit → Act → World → Prop}
theorem op_ldArr {x : Operand} {b off len : Nat} {t e : TypeId} {C : Array Value} {te : TypeId} {fr : Nat × Nat} (cs : List Value) (hx : ev ρ x = some (.pointer (some ⟨b, off, none⟩)))
    (hu : P.underlying t = some (.array len e)) (ht : (P.info? t).map (·.size) = some cs.length) (hm : (b, Obj.cells C te fr) ∈ L) (hv : ∀ j v, cs[j]? = some v → C[off + j]? = some v) : OpQ P ρ L (.load t x) ty (.agg cs.toArray) :=
  ⟨fun r hr w hw o ho _ => by
    cases hi : P.info? t with
    | none => simp [hi] at ht
    | some i =>
      simp [hi] at ht
      have ha : (isAgg t).run P w = .ok true w := by
        unfold isAgg
        simp [run_underlying hu]
      have hc := run_loadCells_list (P := P) (w := w) ⟨b, off, none⟩ cs (fun j v hj => by rw [addr_add]; exact hw.cell hm (hv j v hj))
      simp [execOp, ho, hr _ _ hx, Instr.loadAt, Instr.sureAddr, loadVar, ha, sizeOf, typeInfo, hi, ht, hc]⟩
theorem op_idxV {x y : Operand} {C : Array Value} {t e : TypeId} {len sz : Nat} {k : IntKind} {i : Int} (hx : ev ρ x = some (.agg C)) (hy : ev ρ y = some (.int k i)) (hu : P.underlying t = some (.array len e)) (he : structTy P e sz = true)
    (h0 : 0 ≤ i) (h1 : i < len) : OpQ P ρ L (.index t x y) ty (.agg (C.extract (i.toNat * sz) (i.toNat * sz + sz))) :=
  ⟨fun r hr w hw o ho _ => by
    unfold structTy at he
    cases hue : P.underlying e with
    | none => simp [hue] at he
    | some d =>
      cases hi : P.info? e with
      | none => simp [hi] at he
      | some ti =>
        cases d with
        | struct fs =>
          simp [hue, hi] at he
          have ha : (isAgg e).run P w = .ok true w := by
            unfold isAgg
            simp [run_underlying hue]
          simp [execOp, ho, hr _ _ hx, hr _ _ hy, Instr.index, asIntOf, run_underlying hu, h0, h1, part, ha, sizeOf, typeInfo, hi, he]
        | _ => simp [hue] at he⟩
end
end Go.Proofs.Ytdflhdfapnhjjaa
