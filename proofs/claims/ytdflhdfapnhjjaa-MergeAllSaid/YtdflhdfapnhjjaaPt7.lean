/-
  Part 7: Go Gp Gq Gr.
-/
import Derived.Test.YtdflhdfapnhjjaaPt6
namespace Go.Proofs.Ytdflhdfapnhjjaa
open Go.RowKit
open Vd (RSet Vdt Vote Rec Quest Piece Ballot)
set_option linter.unusedVariables false
set_option linter.unusedSimpArgs false
--auto
def ballotR : Rp Ballot := fun L cs x => ∃ a1 c1 a2 c2, cs = [.int .i64 x.v.up, .int .u8 x.v.vd.code, .slice a1 x.v.vd.sets.length c1, .slice a2 x.v.vd.soa.length c2, .int .u32 x.v.time, .bool x.pass] ∧ voteR L [.int .i64 x.v.up, .int .u8 x.v.vd.code, .slice a1 x.v.vd.sets.length c1, .slice a2 x.v.vd.soa.length c2, .int .u32 x.v.time] x.v
theorem mono_ballot : Mono ballotR := fun L L' cs x hL ⟨a1, c1, a2, c2, h1, h2⟩ => ⟨a1, c1, a2, c2, h1, mono_vote L L' _ _ hL h2⟩
theorem voteR.vals {L : Blocks} {cs : List Value} {v : Vote} (h : voteR L cs v) : ∃ a1 c1 a2 c2, cs = [.int .i64 v.up, .int .u8 v.vd.code, .slice a1 v.vd.sets.length c1, .slice a2 v.vd.soa.length c2, .int .u32 v.time] ∧ sliceR 5 rsR L [.slice a1 v.vd.sets.length c1] v.vd.sets ∧ sliceR 5 rsR L [.slice a2 v.vd.soa.length c2] v.vd.soa ∧ (0 ≤ v.vd.code ∧ v.vd.code ≤ 255) ∧ (0 ≤ v.time ∧ v.time ≤ 4294967295) ∧ (-9223372036854775808 ≤ v.up ∧ v.up ≤ 9223372036854775807) := by
  obtain ⟨a, b, rfl, h1, h2, h3⟩ := h
  obtain ⟨a1, c1, e1, h1⟩ := h1.val
  obtain ⟨a2, c2, e2, h2⟩ := h2.val
  simp only [List.cons.injEq, and_true] at e1 e2
  subst e1 e2
  exact ⟨a1, c1, a2, c2, rfl, h1, h2, h3⟩
theorem voteR.one {L : Blocks} {cs : List Value} {v : Vote} (h : voteR L cs v) : ∀ x ∈ cs, x.oneCell' = true := by
  obtain ⟨a1, c1, a2, c2, rfl, _⟩ := h.vals
  intro x hx
  simp only [List.mem_cons, List.not_mem_nil, or_false] at hx
  rcases hx with rfl | rfl | rfl | rfl | rfl <;> rfl
theorem voteR.len {L : Blocks} {cs : List Value} {v : Vote} (h : voteR L cs v) : cs.length = 5 := by
  obtain ⟨a1, c1, a2, c2, rfl, _⟩ := h.vals
  rfl
theorem ballotR.one {L : Blocks} {cs : List Value} {x : Ballot} (h : ballotR L cs x) : ∀ v ∈ cs, v.oneCell' = true := by
  obtain ⟨a1, c1, a2, c2, rfl, _⟩ := h
  intro v hv
  simp only [List.mem_cons, List.not_mem_nil, or_false] at hv
  rcases hv with rfl | rfl | rfl | rfl | rfl | rfl <;> rfl
theorem ballotR.len {L : Blocks} {cs : List Value} {x : Ballot} (h : ballotR L cs x) : cs.length = 6 := by
  obtain ⟨a1, c1, a2, c2, rfl, _⟩ := h
  rfl
section
variable {G : World} {P : Program} {n : Nat} {ρ : Slots} {L : Blocks} {Q : Exit → Act → World → Prop} {ops : Array Oper} {K : Blocks} {W : List Nat} {fuel : Nat} {listed : Array Bool}
theorem Up_cnt {i : Nat} {L' : Blocks} (h : Up P G ops n K W Q fuel listed ρ L' i) (hc : ∀ p, cnt p L' = cnt p L) : Up P G ops n K W Q fuel listed ρ L i := by
  obtain ⟨o, h1, h2, b, h3, h4⟩ := h
  refine ⟨o, h1, h2, b, h3, ?_⟩
  rcases h4 with ⟨hb, Φ, hO, hn⟩ | ⟨hb, hk, hn⟩
  · exact Or.inl ⟨hb, Φ, hO.heap (fun w hw => hw.cnt fun p => Nat.le_of_eq (hc p)), hn⟩
  · refine Or.inr ⟨hb, hk.imp id (fun h p hp => mem_of_cnt (fun q => Nat.le_of_eq (hc q)) p (h p hp)), ?_⟩
    exact TA_cnt hn hc
end
section
variable {G : World} {P : Program} {ρ : Slots} {L : Blocks} {ty : TypeId}
theorem op_pushK {α : Type} {r : List Value → α → Prop} {s x : Operand} {t e te : TypeId} {sz bytes bl : Nat} {z : Value} {a : Option Addr} {c : Nat} {cs : List Value} {y : α} {l : List α} {B L0 : Blocks} (E : ElemTy P t e sz bytes z) (hs : ev ρ s = some (.slice a l.length c)) (hx : ev ρ x = some (.slice (some ⟨bl, 0, none⟩) 1 1))
    (hrow : ORow (fun _ => r) e sz L0 a c l B) (hn : cs.length = sz) (hone : ∀ v ∈ cs, v.oneCell' = true) (hy : r cs y) (h63 : l.length ≤ 1000000) (hb : bytes ≤ 1000) :
    OpT P G ρ ((bl, .cells cs.toArray te (0, 0)) :: (B ++ L)) (.call ⟨.builtin .append, #[s, x], #[t, t]⟩) ty fun v' L' => ∃ a' c' B', v' = .slice a' (l ++ [y]).length c' ∧ ORow (fun _ => r) e sz L0 a' c' (l ++ [y]) B' ∧ L' = B' ++ L :=
  op_push (r := fun _ => r) E hs hx hrow hn hone hy (by unfold maxLen; omega) (Nat.le_trans (Nat.mul_le_mul (show l.length + 1 ≤ 1000001 by omega) hb) (by decide))
end
variable {G : World} {L : Blocks}
set_option maxRecDepth 100000 in
theorem rHas_S {K : Blocks} (bb : Nat) (want : Int) (a : Option Addr) (c : Nat) (l : List Ballot) (B : Blocks) (u : Int) (hB : ORow ballotR 141 6 K a c l B) :
    Spec Try.prog G 78 #[.pointer (some ⟨bb, 0, none⟩), .int .i64 u] ((bb, Obj.cells #[.int .i64 want, .slice a l.length c] 124 (0, 0)) :: (B ++ L)) fun w M => w = .bool (Vd.hasB l u) ∧ M = (bb, Obj.cells #[.int .i64 want, .slice a l.length c] 124 (0, 0)) :: (B ++ L) := by
  have hcap := hB.cap
  unfold maxLen at hcap
  refine Spec_of (n := 26) Try.func78 rfl rfl rfl ?_
  repeat (first | with_reducible refine T_seq ?_ | with_reducible refine T_block ?_ | with_reducible refine T_region ?_ | with_reducible refine TL_nil ?_ | with_reducible refine TQ_then ?_ | refine TL_q (op_assign rfl) rfl ?_)
  refine T_loopS (σ := Nat) (fun k => k ≤ l.length ∧ Vd.hasB l u = Vd.hasB (l.drop k) u) (fun k => [(0, .pointer (some ⟨bb, 0, none⟩)), (1, .int .i64 u), (5, .int .i64 (k : Nat))]) (fun k => (bb, Obj.cells #[.int .i64 want, .slice a l.length c] 124 (0, 0)) :: (B ++ L)) (fun k => l.length - k) 0 ⟨Nat.zero_le _, rfl⟩ ?_ (fun w h => h) ?_
  (repeat (first | exact trivial | refine ⟨rfl, ?_⟩))
  rintro k ⟨hk, heq⟩
  by_cases hlt : k < l.length
  · obtain ⟨b2, cur, rfl, hBe, _, _, _, hcur⟩ := hB.block (fun e => by rw [e] at hlt; simp at hlt)
    obtain ⟨y, hy⟩ : ∃ y, l[k]? = some y := ⟨_, List.getElem?_eq_getElem hlt⟩
    obtain ⟨cs, _, ⟨a1, c1, a2, c2, rfl, _⟩, _, hcs⟩ := hcur k y hy
    have g0 : cur[0 + k * 6 + 0 + 0]? = some (.int .i64 y.v.up) := by rw [Nat.zero_add]; exact hcs 0 _ rfl
    have hmem : (b2, Obj.cells cur 141 (0, 0)) ∈ (bb, Obj.cells #[.int .i64 want, .slice (some ⟨b2, 0, none⟩) l.length c] 124 (0, 0)) :: (B ++ L) := by rw [hBe]; simp
    have hd : l.drop k = y :: l.drop (k + 1) := by rw [List.drop_eq_getElem_cons hlt]; congr 1; rw [List.getElem?_eq_getElem hlt] at hy; exact Option.some.inj hy
    rw [hd] at heq
    have heq2 : Vd.hasB (y :: l.drop (k + 1)) u = (y.v.up == u || Vd.hasB (l.drop (k + 1)) u) := rfl
    rw [heq2] at heq
    by_cases hyu : y.v.up = u
    · rw [eT hyu, Bool.true_or] at heq
      rw [heq]
      repeat (first | with_reducible refine T_seq ?_ | with_reducible refine T_block ?_ | with_reducible refine T_region ?_ | with_reducible refine TL_nil ?_ | with_reducible refine TQ_then ?_ | with_reducible refine T_skip ?_ | with_reducible refine T_ret ?_ | with_reducible refine TQ_then_ret ?_ | with_reducible refine TQ_block_ret ?_ | refine TL_q (op_move rfl) rfl ?_ | refine TL_q (op_assign rfl) rfl ?_ | (refine' TL_q (op_bin rfl rfl ?_) rfl ?_; rotate_left 1; (· first | exact bin_eql | exact bin_lss)) | refine TL_q (op_nilCheck rfl) rfl ?_ | refine TL_q (op_len_slice rfl Try.underlying122) rfl ?_ | (refine' TL_q (op_idx ety_122 rfl rfl ?_) rfl ?_; (· omega)) | refine TL_q (op_fld rfl fld_63_0) rfl ?_ | refine TL_q (op_fld rfl fld_124_1) rfl ?_ | (refine' TL_q (op_ld rfl pl_3 ?_ ?_) rfl ?_; rotate_left 4; (· repeat (first | assumption | exact List.mem_cons_self)); (· first | assumption | rfl)) | (refine T_yes rfl ?_ ?_; (· (exact dT (by first | assumption | omega)))))
      refine TQ_ret1 4 _ rfl rfl ?_
      exact ⟨rfl, rfl⟩
    · rw [eF hyu, Bool.false_or] at heq
      repeat (first | with_reducible refine T_seq ?_ | with_reducible refine T_block ?_ | with_reducible refine T_region ?_ | with_reducible refine TL_nil ?_ | with_reducible refine TQ_then ?_ | with_reducible refine TQ_block ?_ | with_reducible refine T_skip ?_ | refine TL_q (op_move rfl) rfl ?_ | refine TL_q (op_assign rfl) rfl ?_ | (refine' TL_q (op_bin rfl rfl ?_) rfl ?_; rotate_left 1; (· first | exact bin_add ⟨by omega, by omega⟩ | exact bin_eql | exact bin_lss)) | refine TL_q (op_nilCheck rfl) rfl ?_ | refine TL_q (op_len_slice rfl Try.underlying122) rfl ?_ | (refine' TL_q (op_idx ety_122 rfl rfl ?_) rfl ?_; (· omega)) | refine TL_q (op_fld rfl fld_63_0) rfl ?_ | refine TL_q (op_fld rfl fld_124_1) rfl ?_ | (refine' TL_q (op_ld rfl pl_3 ?_ ?_) rfl ?_; rotate_left 4; (· repeat (first | assumption | exact List.mem_cons_self)); (· first | assumption | rfl)) | (refine T_yes rfl ?_ ?_; (· (exact dT (by (omega))))) | (refine T_no rfl ?_ ?_; (· (exact dF (by (assumption))))))
      refine TQ_roundS (k + 1) ⟨hlt, heq⟩ ?_ (fun w h => h) (by omega)
      (repeat (first | exact trivial | refine ⟨rfl, ?_⟩))
  · have hkn : k = l.length := by omega
    subst hkn
    rw [List.drop_length] at heq
    have h0 : Vd.hasB [] u = false := rfl
    rw [h0] at heq
    rw [heq]
    repeat (first | with_reducible refine T_seq ?_ | with_reducible refine T_region ?_ | with_reducible refine TL_nil ?_ | with_reducible refine TQ_then ?_ | with_reducible refine T_exit ?_ | with_reducible refine T_ret ?_ | with_reducible refine TQ_then_exit ?_ | with_reducible refine TQ_block_exit ?_ | refine TL_q (op_move rfl) rfl ?_ | refine TL_q (op_assign rfl) rfl ?_ | (refine' TL_q (op_bin rfl rfl ?_) rfl ?_; rotate_left 1; (· (exact bin_lss))) | refine TL_q (op_nilCheck rfl) rfl ?_ | refine TL_q (op_len_slice rfl Try.underlying122) rfl ?_ | refine TL_q (op_fld rfl fld_124_1) rfl ?_ | (refine' TL_q (op_ld rfl pl_3 ?_ ?_) rfl ?_; rotate_left 4; (· repeat ((exact List.mem_cons_self))); (· (rfl))) | (refine T_no rfl ?_ ?_; (· (exact dF (by (omega))))))
    refine TQ_ret1 4 _ rfl rfl ?_
    exact ⟨rfl, rfl⟩
set_option maxRecDepth 100000 in
set_option maxHeartbeats 2000000 in
theorem rPut_S {K : Blocks} (bb : Nat) (want : Int) (a : Option Addr) (c : Nat) (l : List Ballot) (B : Blocks) (cx : List Value) (x : Ballot) (hB : ORow ballotR 141 6 K a c l B) (hx : ballotR K cx x) (hn : l.length ≤ 100000) :
    Spec Try.prog G 73 #[.pointer (some ⟨bb, 0, none⟩), .agg cx.toArray] ((bb, Obj.cells #[.int .i64 want, .slice a l.length c] 124 (0, 0)) :: (B ++ L)) fun w M => w = .int .i64 (Vd.putB l x).2 ∧ ∃ a' c' B', ORow ballotR 141 6 K a' c' (Vd.putB l x).1 B' ∧ M = (bb, Obj.cells #[.int .i64 want, .slice a' (Vd.putB l x).1.length c'] 124 (0, 0)) :: (B' ++ L) := by
  have hx0 := hx
  obtain ⟨a1, c1, a2, c2, rfl, _, _, _, _, _, _, _, hup⟩ := hx0
  refine Spec_of (n := 32) Try.func73 rfl rfl rfl ?_
  by_cases h0 : x.v.up < 0 ∨ 9 ≤ x.v.up
  · have hp : Vd.putB l x = (l, 1) := if_pos h0
    rw [hp]
    rcases h0 with h0 | h0
    · repeat (first | with_reducible refine T_seq ?_ | with_reducible refine T_region ?_ | with_reducible refine TL_nil ?_ | with_reducible refine TQ_then ?_ | with_reducible refine T_ret ?_ | with_reducible refine TQ_then_ret ?_ | refine TL_q (op_move rfl) rfl ?_ | refine TL_q (op_assign rfl) rfl ?_ | (refine' TL_q (op_bin rfl rfl ?_) rfl ?_; rotate_left 1; (· (exact bin_lss))) | (refine' TL_q (op_pickT rfl ?_ rfl) rfl ?_; (· (exact dT (by (assumption))))) | refine TL_q (op_fld rfl fld_63_0) rfl ?_ | (refine' TL_q (op_ld rfl pl_3 ?_ ?_) rfl ?_; rotate_left 4; (· repeat ((exact List.mem_cons_self))); (· (rfl))) | (refine TL_gno rfl rfl ?_ rfl ?_; (· (exact dT (by (assumption))))) | (refine TL_new (op_boxA rfl) rfl ?_; intro bBox) | (refine T_yes rfl ?_ ?_; (· (with_reducible rfl))))
      refine TQ_heap (fun w h => h.tail) ?_
      refine TQ_ret1 4 _ rfl rfl ?_
      exact ⟨rfl, a, c, B, hB, rfl⟩
    · repeat (first | with_reducible refine T_seq ?_ | with_reducible refine T_region ?_ | with_reducible refine TL_nil ?_ | with_reducible refine TQ_then ?_ | with_reducible refine T_ret ?_ | with_reducible refine TQ_then_ret ?_ | refine TL_q (op_move rfl) rfl ?_ | refine TL_q (op_assign rfl) rfl ?_ | (refine' TL_q (op_bin rfl rfl ?_) rfl ?_; rotate_left 1; (· (exact bin_lss))) | (refine' TL_q (op_pickF rfl ?_ rfl) rfl ?_; (· (exact dF (by (omega))))) | refine TL_q (op_fld rfl fld_63_0) rfl ?_ | (refine' TL_q (op_ld rfl pl_3 ?_ ?_) rfl ?_; rotate_left 4; (· repeat ((exact List.mem_cons_self))); (· (rfl))) | (refine TL_gpre rfl rfl ?_ ?_; (· (exact dF (by (omega))))) | (refine' TL_gq2 (op_bin rfl rfl ?_) rfl ?_; rotate_left 1; (· (exact bin_geq))) | refine TL_gq2 (op_fld rfl fld_63_0) rfl ?_ | (refine' TL_gq2 (op_ld rfl pl_3 ?_ ?_) rfl ?_; rotate_left 4; (· repeat ((exact List.mem_cons_self))); (· (rfl))) | (refine TL_new (op_boxA rfl) rfl ?_; intro bBox) | (refine T_yes rfl ?_ ?_; (· (exact dT (by (assumption))))))
      refine TQ_heap (fun w h => h.tail) ?_
      refine TQ_ret1 4 _ rfl rfl ?_
      exact ⟨rfl, a, c, B, hB, rfl⟩
  · have hp : Vd.putB l x = if Vd.hasB l x.v.up then (l, 7) else (l ++ [x], 0) := if_neg h0
    rw [hp]
    repeat (first | with_reducible refine T_seq ?_ | with_reducible refine T_region ?_ | with_reducible refine TL_nil ?_ | with_reducible refine TQ_then ?_ | with_reducible refine T_skip ?_ | refine TL_q (op_move rfl) rfl ?_ | refine TL_q (op_assign rfl) rfl ?_ | (refine' TL_q (op_bin rfl rfl ?_) rfl ?_; rotate_left 1; (· (exact bin_lss))) | (refine' TL_q (op_pickF rfl ?_ rfl) rfl ?_; (· (exact dF (by (omega))))) | refine TL_q (op_fld rfl fld_63_0) rfl ?_ | (refine' TL_q (op_ld rfl pl_3 ?_ ?_) rfl ?_; rotate_left 4; (· repeat ((exact List.mem_cons_self))); (· (rfl))) | (refine TL_gpre rfl rfl ?_ ?_; (· (exact dF (by (omega))))) | (refine' TL_gq2 (op_bin rfl rfl ?_) rfl ?_; rotate_left 1; (· (exact bin_geq))) | refine TL_gq2 (op_fld rfl fld_63_0) rfl ?_ | (refine' TL_gq2 (op_ld rfl pl_3 ?_ ?_) rfl ?_; rotate_left 4; (· repeat ((exact List.mem_cons_self))); (· (rfl))) | (refine TL_new (op_boxA rfl) rfl ?_; intro bBox) | (refine T_no rfl ?_ ?_; (· (exact dF (by (omega))))))
    refine TL_opT (OpT.heap (L' := (bb, Obj.cells #[.int .i64 want, .slice a l.length c] 124 (0, 0)) :: (B ++ ((bBox, Obj.cells #[.int .i64 x.v.up, .int .u8 x.v.vd.code, .slice a1 x.v.vd.sets.length c1, .slice a2 x.v.vd.soa.length c2, .int .u32 x.v.time, .bool x.pass] 141 (0, 0)) :: L))) (fun w h => h.cnt (by intro p; (try simp only [cnt_append, cnt_cons, cnt_nil]) <;> omega)) (op_call hb_78 rfl (rHas_S bb want a c l B x.v.up hB))) rfl ?_
    rintro _ _ ⟨rfl, rfl⟩
    cases hh : Vd.hasB l x.v.up with
    | true =>
      rw [if_pos rfl]
      repeat (first | with_reducible refine T_seq ?_ | with_reducible refine T_region ?_ | with_reducible refine TL_nil ?_ | with_reducible refine TQ_then ?_ | with_reducible refine T_ret ?_ | with_reducible refine TQ_then_ret ?_ | refine TL_q (op_assign rfl) rfl ?_ | (refine T_yes rfl ?_ ?_; (· (with_reducible rfl))))
      refine TQ_heap (fun w h => h.cnt (L' := (bb, Obj.cells #[.int .i64 want, .slice a l.length c] 124 (0, 0)) :: (B ++ L)) (by intro p; (try simp only [cnt_append, cnt_cons, cnt_nil]) <;> omega)) ?_
      refine TQ_ret1 4 _ rfl rfl ?_
      exact ⟨rfl, a, c, B, hB, rfl⟩
    | false =>
      rw [if_neg (by simp)]
      repeat (first | with_reducible refine T_seq ?_ | with_reducible refine TL_nil ?_ | with_reducible refine TQ_then ?_ | with_reducible refine T_skip ?_ | (refine T_no rfl ?_ ?_; (· (with_reducible rfl))))
      refine T_cnt (L' := ((bBox, Obj.cells #[.int .i64 x.v.up, .int .u8 x.v.vd.code, .slice a1 x.v.vd.sets.length c1, .slice a2 x.v.vd.soa.length c2, .int .u32 x.v.time, .bool x.pass] 141 (0, 0)) :: ((bb, Obj.cells #[.int .i64 want, .slice a l.length c] 124 (0, 0)) :: (B ++ L)))) ?_ (by intro p; (try simp only [cnt_append, cnt_cons, cnt_nil]) <;> omega)
      have hKm : ∀ z ∈ [(bb, Obj.cells #[.int .i64 want, .slice a l.length c] 124 (0, 0)), (bBox, Obj.cells #[.int .i64 x.v.up, .int .u8 x.v.vd.code, .slice a1 x.v.vd.sets.length c1, .slice a2 x.v.vd.soa.length c2, .int .u32 x.v.time, .bool x.pass] 141 (0, 0))], z ∈ ((bBox, Obj.cells #[.int .i64 x.v.up, .int .u8 x.v.vd.code, .slice a1 x.v.vd.sets.length c1, .slice a2 x.v.vd.soa.length c2, .int .u32 x.v.time, .bool x.pass] 141 (0, 0)) :: ((bb, Obj.cells #[.int .i64 want, .slice a l.length c] 124 (0, 0)) :: (B ++ L))) := (mem_of_cnt (by intro p; (try simp only [cnt_append, cnt_cons, cnt_nil]) <;> omega))
      refine T_midK (σ := Option Addr × Nat × Blocks) (fun y => ORow ballotR 141 6 K y.1 y.2.1 ([] ++ l ++ [x]) y.2.2) (fun y => [(0, .pointer (some ⟨bb, 0, none⟩))]) (fun y => (bb, Obj.cells #[.int .i64 want, .slice y.1 ([] ++ l ++ [x]).length y.2.1] 124 (0, 0)) :: (y.2.2 ++ L)) ?_ ?_
      · clear hh
        refine T_draw follows_mixed ([(bb, Obj.cells #[.int .i64 want, .slice a l.length c] 124 (0, 0)), (bBox, Obj.cells #[.int .i64 x.v.up, .int .u8 x.v.vd.code, .slice a1 x.v.vd.sets.length c1, .slice a2 x.v.vd.soa.length c2, .int .u32 x.v.time, .bool x.pass] 141 (0, 0))]) [12] ?_
        (refine' TA_take 0 rfl rfl (by kernel_rfl) (quiet_q (op_move rfl)) ?_ ?_; (· (assumption)))
        (refine' TA_take 2 rfl rfl (by kernel_rfl) (quiet_q (op_move rfl)) ?_ ?_; (· (assumption)))
        (refine' TA_take 3 rfl rfl (by kernel_rfl) (quiet_q (op_nilCheck rfl)) ?_ ?_; (· (assumption)))
        (refine' TA_take 4 rfl rfl (by kernel_rfl) (quiet_q (op_fld rfl fld_124_1)) ?_ ?_; (· (assumption)))
        (refine' TA_take 5 rfl rfl (by kernel_rfl) (quiet_q (op_ld rfl pl_122 ?_ ?_)) ?_ ?_; rotate_left 4; (· repeat ((exact List.mem_cons_self))); (· (rfl)); (· (assumption)))
        (refine' TA_take 7 rfl rfl (by kernel_rfl) (quiet_q (op_ldAll rfl st_141 ?_ ?_)) ?_ ?_; rotate_left 3; (· repeat (first | exact List.mem_cons_self | apply List.mem_cons_of_mem)); (· (rfl)); (· (assumption)))
        refine TA_two 1 8 (by kernel_rfl) ?_ ?_
        · refine Up_ofD rfl rfl rfl rfl (op_lit0 ety_122) ?_; rintro _ _ ⟨b0, rfl, rfl⟩; refine ⟨Or.inr (mem_of_cnt (by intro p; (try simp only [cnt_append, cnt_cons, cnt_nil]) <;> omega)), ?_⟩
          refine TA_two 6 8 (by kernel_rfl) ?_ ?_
          · refine Up_cnt (L' := [(b0, Obj.cells #[] 141 (0, 0))] ++ ((bBox, Obj.cells #[.int .i64 x.v.up, .int .u8 x.v.vd.code, .slice a1 x.v.vd.sets.length c1, .slice a2 x.v.vd.soa.length c2, .int .u32 x.v.time, .bool x.pass] 141 (0, 0)) :: ((bb, Obj.cells #[.int .i64 want, .slice a l.length c] 124 (0, 0)) :: (B ++ L)))) ?_ (by intro p; (try simp only [cnt_append, cnt_cons, cnt_nil]) <;> omega); refine Up_ofD rfl rfl rfl rfl (op_appendG2 (r := fun _ => ballotR K) (L0 := B) (l := []) (m := l) ety_122 rfl rfl rfl rfl ORow.made ((hB.imp (r' := fun _ => ballotR K) (L' := []) (fun cs x _ h => h)).sliceR mono_const (mem_of_cnt (by intro p; (try simp only [cnt_append, cnt_cons, cnt_nil]) <;> omega)) (mem_of_cnt (by intro p; (try simp only [cnt_append, cnt_cons, cnt_nil]) <;> omega))) (mem_of_cnt (by intro p; (try simp only [cnt_append, cnt_cons, cnt_nil]) <;> omega)) mono_const (fun cs y h => ballotR.one h) (by simp; omega) (by decide)) ?_; rintro _ _ ⟨a3, c3, B3, rfl, hB3, rfl⟩; refine ⟨Or.inr (mem_of_cnt (by intro p; (try simp only [cnt_append, cnt_cons, cnt_nil]) <;> omega)), ?_⟩
            refine TA_oneD 8 (by kernel_rfl) rfl rfl rfl rfl (op_litN ety_122 rfl rfl (by decide)) ?_; rintro _ _ ⟨bL, rfl, rfl⟩; refine ⟨Or.inr (mem_of_cnt (by intro p; (try simp only [cnt_append, cnt_cons, cnt_nil]) <;> omega)), ?_⟩
            refine TA_cnt (L' := (bL, Obj.cells #[.int .i64 x.v.up, .int .u8 x.v.vd.code, .slice a1 x.v.vd.sets.length c1, .slice a2 x.v.vd.soa.length c2, .int .u32 x.v.time, .bool x.pass] 141 (0, 0)) :: (B3 ++ ((bBox, Obj.cells #[.int .i64 x.v.up, .int .u8 x.v.vd.code, .slice a1 x.v.vd.sets.length c1, .slice a2 x.v.vd.soa.length c2, .int .u32 x.v.time, .bool x.pass] 141 (0, 0)) :: ((bb, Obj.cells #[.int .i64 want, .slice a l.length c] 124 (0, 0)) :: (B ++ L))))) ?_ (by intro p; (try simp only [cnt_append, cnt_cons, cnt_nil]) <;> omega); refine TA_oneD 9 (by kernel_rfl) rfl rfl rfl rfl (op_pushK (L0 := []) (r := ballotR K) (y := x) (l := [] ++ l) ety_122 rfl rfl (hB3.imp (L' := []) (fun cs x _ h => h)) (by rfl) (fun v hv => ballotR.one hx v hv) hx (by simp; omega) (by decide)) ?_; rintro _ _ ⟨a4, c4, B4, rfl, hB4, rfl⟩; refine ⟨Or.inr (mem_of_cnt (by intro p; (try simp only [cnt_append, cnt_cons, cnt_nil]) <;> omega)), ?_⟩
            (refine' TA_take 10 rfl rfl (by kernel_rfl) (quiet_q (op_nilCheck rfl)) ?_ ?_; (· (intro p hp; grind)))
            (refine' TA_take 11 rfl rfl (by kernel_rfl) (quiet_q (op_fld rfl fld_124_1)) ?_ ?_; (· (intro p hp; grind)))
            refine TA_cnt (L' := (bb, Obj.cells #[.int .i64 want, .slice a l.length c] 124 (0, 0)) :: (B4 ++ ((bBox, Obj.cells #[.int .i64 x.v.up, .int .u8 x.v.vd.code, .slice a1 x.v.vd.sets.length c1, .slice a2 x.v.vd.soa.length c2, .int .u32 x.v.time, .bool x.pass] 141 (0, 0)) :: (B ++ L)))) ?_ (by intro p; (try simp only [cnt_append, cnt_cons, cnt_nil]) <;> omega); refine TA_oneN 12 (by kernel_rfl) rfl rfl rfl (op_st (C' := #[.int .i64 want, .slice a4 ([] ++ l ++ [x]).length c4]) rfl rfl one_122 rfl rfl rfl) ?_; rintro _ _ ⟨_, rfl⟩; refine ⟨Or.inl (by simp), ?_⟩
            refine TA_done (by kernel_rfl) ?_
            refine TQ_mid (a4, c4, B4) (hB4.imp (r' := ballotR) (L' := K) (fun cs x _ h => h)) ?_ (fun w h => h.cnt (by intro p; (try simp only [cnt_append, cnt_cons, cnt_nil]) <;> omega))
            (repeat (first | exact trivial | refine ⟨rfl, ?_⟩))
          · refine Up_ofD rfl rfl rfl rfl (op_litN ety_122 rfl rfl (by decide)) ?_; rintro _ _ ⟨bL, rfl, rfl⟩; refine ⟨Or.inr (mem_of_cnt (by intro p; (try simp only [cnt_append, cnt_cons, cnt_nil]) <;> omega)), ?_⟩
            refine TA_cnt (L' := [(b0, Obj.cells #[] 141 (0, 0))] ++ ((bL, Obj.cells #[.int .i64 x.v.up, .int .u8 x.v.vd.code, .slice a1 x.v.vd.sets.length c1, .slice a2 x.v.vd.soa.length c2, .int .u32 x.v.time, .bool x.pass] 141 (0, 0)) :: ((bBox, Obj.cells #[.int .i64 x.v.up, .int .u8 x.v.vd.code, .slice a1 x.v.vd.sets.length c1, .slice a2 x.v.vd.soa.length c2, .int .u32 x.v.time, .bool x.pass] 141 (0, 0)) :: ((bb, Obj.cells #[.int .i64 want, .slice a l.length c] 124 (0, 0)) :: (B ++ L))))) ?_ (by intro p; (try simp only [cnt_append, cnt_cons, cnt_nil]) <;> omega); refine TA_oneD 6 (by kernel_rfl) rfl rfl rfl rfl (op_appendG2 (r := fun _ => ballotR K) (L0 := B) (l := []) (m := l) ety_122 rfl rfl rfl rfl ORow.made ((hB.imp (r' := fun _ => ballotR K) (L' := []) (fun cs x _ h => h)).sliceR mono_const (mem_of_cnt (by intro p; (try simp only [cnt_append, cnt_cons, cnt_nil]) <;> omega)) (mem_of_cnt (by intro p; (try simp only [cnt_append, cnt_cons, cnt_nil]) <;> omega))) (mem_of_cnt (by intro p; (try simp only [cnt_append, cnt_cons, cnt_nil]) <;> omega)) mono_const (fun cs y h => ballotR.one h) (by simp; omega) (by decide)) ?_; rintro _ _ ⟨a3, c3, B3, rfl, hB3, rfl⟩; refine ⟨Or.inr (mem_of_cnt (by intro p; (try simp only [cnt_append, cnt_cons, cnt_nil]) <;> omega)), ?_⟩
            refine TA_cnt (L' := (bL, Obj.cells #[.int .i64 x.v.up, .int .u8 x.v.vd.code, .slice a1 x.v.vd.sets.length c1, .slice a2 x.v.vd.soa.length c2, .int .u32 x.v.time, .bool x.pass] 141 (0, 0)) :: (B3 ++ ((bBox, Obj.cells #[.int .i64 x.v.up, .int .u8 x.v.vd.code, .slice a1 x.v.vd.sets.length c1, .slice a2 x.v.vd.soa.length c2, .int .u32 x.v.time, .bool x.pass] 141 (0, 0)) :: ((bb, Obj.cells #[.int .i64 want, .slice a l.length c] 124 (0, 0)) :: (B ++ L))))) ?_ (by intro p; (try simp only [cnt_append, cnt_cons, cnt_nil]) <;> omega); refine TA_oneD 9 (by kernel_rfl) rfl rfl rfl rfl (op_pushK (L0 := []) (r := ballotR K) (y := x) (l := [] ++ l) ety_122 rfl rfl (hB3.imp (L' := []) (fun cs x _ h => h)) (by rfl) (fun v hv => ballotR.one hx v hv) hx (by simp; omega) (by decide)) ?_; rintro _ _ ⟨a4, c4, B4, rfl, hB4, rfl⟩; refine ⟨Or.inr (mem_of_cnt (by intro p; (try simp only [cnt_append, cnt_cons, cnt_nil]) <;> omega)), ?_⟩
            (refine' TA_take 10 rfl rfl (by kernel_rfl) (quiet_q (op_nilCheck rfl)) ?_ ?_; (· (intro p hp; grind)))
            (refine' TA_take 11 rfl rfl (by kernel_rfl) (quiet_q (op_fld rfl fld_124_1)) ?_ ?_; (· (intro p hp; grind)))
            refine TA_cnt (L' := (bb, Obj.cells #[.int .i64 want, .slice a l.length c] 124 (0, 0)) :: (B4 ++ ((bBox, Obj.cells #[.int .i64 x.v.up, .int .u8 x.v.vd.code, .slice a1 x.v.vd.sets.length c1, .slice a2 x.v.vd.soa.length c2, .int .u32 x.v.time, .bool x.pass] 141 (0, 0)) :: (B ++ L)))) ?_ (by intro p; (try simp only [cnt_append, cnt_cons, cnt_nil]) <;> omega); refine TA_oneN 12 (by kernel_rfl) rfl rfl rfl (op_st (C' := #[.int .i64 want, .slice a4 ([] ++ l ++ [x]).length c4]) rfl rfl one_122 rfl rfl rfl) ?_; rintro _ _ ⟨_, rfl⟩; refine ⟨Or.inl (by simp), ?_⟩
            refine TA_done (by kernel_rfl) ?_
            refine TQ_mid (a4, c4, B4) (hB4.imp (r' := ballotR) (L' := K) (fun cs x _ h => h)) ?_ (fun w h => h.cnt (by intro p; (try simp only [cnt_append, cnt_cons, cnt_nil]) <;> omega))
            (repeat (first | exact trivial | refine ⟨rfl, ?_⟩))
        · refine Up_ofD rfl rfl rfl rfl (op_litN ety_122 rfl rfl (by decide)) ?_; rintro _ _ ⟨bL, rfl, rfl⟩; refine ⟨Or.inr (mem_of_cnt (by intro p; (try simp only [cnt_append, cnt_cons, cnt_nil]) <;> omega)), ?_⟩
          refine TA_oneD 1 (by kernel_rfl) rfl rfl rfl rfl (op_lit0 ety_122) ?_; rintro _ _ ⟨b0, rfl, rfl⟩; refine ⟨Or.inr (mem_of_cnt (by intro p; (try simp only [cnt_append, cnt_cons, cnt_nil]) <;> omega)), ?_⟩
          refine TA_cnt (L' := [(b0, Obj.cells #[] 141 (0, 0))] ++ ((bL, Obj.cells #[.int .i64 x.v.up, .int .u8 x.v.vd.code, .slice a1 x.v.vd.sets.length c1, .slice a2 x.v.vd.soa.length c2, .int .u32 x.v.time, .bool x.pass] 141 (0, 0)) :: ((bBox, Obj.cells #[.int .i64 x.v.up, .int .u8 x.v.vd.code, .slice a1 x.v.vd.sets.length c1, .slice a2 x.v.vd.soa.length c2, .int .u32 x.v.time, .bool x.pass] 141 (0, 0)) :: ((bb, Obj.cells #[.int .i64 want, .slice a l.length c] 124 (0, 0)) :: (B ++ L))))) ?_ (by intro p; (try simp only [cnt_append, cnt_cons, cnt_nil]) <;> omega); refine TA_oneD 6 (by kernel_rfl) rfl rfl rfl rfl (op_appendG2 (r := fun _ => ballotR K) (L0 := B) (l := []) (m := l) ety_122 rfl rfl rfl rfl ORow.made ((hB.imp (r' := fun _ => ballotR K) (L' := []) (fun cs x _ h => h)).sliceR mono_const (mem_of_cnt (by intro p; (try simp only [cnt_append, cnt_cons, cnt_nil]) <;> omega)) (mem_of_cnt (by intro p; (try simp only [cnt_append, cnt_cons, cnt_nil]) <;> omega))) (mem_of_cnt (by intro p; (try simp only [cnt_append, cnt_cons, cnt_nil]) <;> omega)) mono_const (fun cs y h => ballotR.one h) (by simp; omega) (by decide)) ?_; rintro _ _ ⟨a3, c3, B3, rfl, hB3, rfl⟩; refine ⟨Or.inr (mem_of_cnt (by intro p; (try simp only [cnt_append, cnt_cons, cnt_nil]) <;> omega)), ?_⟩
          refine TA_cnt (L' := (bL, Obj.cells #[.int .i64 x.v.up, .int .u8 x.v.vd.code, .slice a1 x.v.vd.sets.length c1, .slice a2 x.v.vd.soa.length c2, .int .u32 x.v.time, .bool x.pass] 141 (0, 0)) :: (B3 ++ ((bBox, Obj.cells #[.int .i64 x.v.up, .int .u8 x.v.vd.code, .slice a1 x.v.vd.sets.length c1, .slice a2 x.v.vd.soa.length c2, .int .u32 x.v.time, .bool x.pass] 141 (0, 0)) :: ((bb, Obj.cells #[.int .i64 want, .slice a l.length c] 124 (0, 0)) :: (B ++ L))))) ?_ (by intro p; (try simp only [cnt_append, cnt_cons, cnt_nil]) <;> omega); refine TA_oneD 9 (by kernel_rfl) rfl rfl rfl rfl (op_pushK (L0 := []) (r := ballotR K) (y := x) (l := [] ++ l) ety_122 rfl rfl (hB3.imp (L' := []) (fun cs x _ h => h)) (by rfl) (fun v hv => ballotR.one hx v hv) hx (by simp; omega) (by decide)) ?_; rintro _ _ ⟨a4, c4, B4, rfl, hB4, rfl⟩; refine ⟨Or.inr (mem_of_cnt (by intro p; (try simp only [cnt_append, cnt_cons, cnt_nil]) <;> omega)), ?_⟩
          (refine' TA_take 10 rfl rfl (by kernel_rfl) (quiet_q (op_nilCheck rfl)) ?_ ?_; (· (intro p hp; grind)))
          (refine' TA_take 11 rfl rfl (by kernel_rfl) (quiet_q (op_fld rfl fld_124_1)) ?_ ?_; (· (intro p hp; grind)))
          refine TA_cnt (L' := (bb, Obj.cells #[.int .i64 want, .slice a l.length c] 124 (0, 0)) :: (B4 ++ ((bBox, Obj.cells #[.int .i64 x.v.up, .int .u8 x.v.vd.code, .slice a1 x.v.vd.sets.length c1, .slice a2 x.v.vd.soa.length c2, .int .u32 x.v.time, .bool x.pass] 141 (0, 0)) :: (B ++ L)))) ?_ (by intro p; (try simp only [cnt_append, cnt_cons, cnt_nil]) <;> omega); refine TA_oneN 12 (by kernel_rfl) rfl rfl rfl (op_st (C' := #[.int .i64 want, .slice a4 ([] ++ l ++ [x]).length c4]) rfl rfl one_122 rfl rfl rfl) ?_; rintro _ _ ⟨_, rfl⟩; refine ⟨Or.inl (by simp), ?_⟩
          refine TA_done (by kernel_rfl) ?_
          refine TQ_mid (a4, c4, B4) (hB4.imp (r' := ballotR) (L' := K) (fun cs x _ h => h)) ?_ (fun w h => h.cnt (by intro p; (try simp only [cnt_append, cnt_cons, cnt_nil]) <;> omega))
          (repeat (first | exact trivial | refine ⟨rfl, ?_⟩))
      · rintro ⟨a4, c4, B4⟩ hB4
        dsimp only at hB4 ⊢
        rw [List.nil_append] at hB4 ⊢
        repeat (first | with_reducible refine T_seq ?_ | with_reducible refine T_region ?_ | with_reducible refine TL_nil ?_ | with_reducible refine TQ_then ?_ | with_reducible refine T_ret ?_ | refine TL_q (op_assign rfl) rfl ?_)
        refine TQ_ret1 4 _ rfl rfl ?_
        exact ⟨rfl, a4, c4, B4, hB4, rfl⟩
end Go.Proofs.Ytdflhdfapnhjjaa
namespace Go.Proofs.Ytdflhdfapnhjjaa
open Go.RowKit
open Vd (RSet Vdt Vote Rec Quest Piece Ballot)
set_option linter.unusedVariables false
set_option linter.unusedSimpArgs false
--auto
variable {G : World} {L : Blocks}
set_option maxRecDepth 100000 in
theorem rCast_S {K : Blocks} (bb : Nat) (want : Int) (a : Option Addr) (c : Nat) (l : List Ballot) (B : Blocks) (cv : List Value) (v : Vote) (hB : ORow ballotR 141 6 K a c l B) (hv : voteR K cv v) (hn : l.length ≤ 100000) :
    Spec Try.prog G 48 #[.pointer (some ⟨bb, 0, none⟩), .agg cv.toArray] ((bb, Obj.cells #[.int .i64 want, .slice a l.length c] 124 (0, 0)) :: (B ++ L)) fun w M => w = .int .i64 (Vd.putB l ⟨v, false⟩).2 ∧ ∃ a' c' B', ORow ballotR 141 6 K a' c' (Vd.putB l ⟨v, false⟩).1 B' ∧ M = (bb, Obj.cells #[.int .i64 want, .slice a' (Vd.putB l ⟨v, false⟩).1.length c'] 124 (0, 0)) :: (B' ++ L) := by
  have hv0 := hv
  obtain ⟨a1, c1, a2, c2, rfl, _⟩ := hv0.vals
  refine Spec_of (n := 9) Try.func48 rfl rfl rfl ?_
  repeat (first | with_reducible refine T_seq ?_ | with_reducible refine T_region ?_ | with_reducible refine TL_nil ?_ | with_reducible refine TQ_then ?_ | refine TL_q (op_move rfl) rfl ?_ | refine TL_q (op_assign rfl) rfl ?_ | (refine' TL_q (op_ldAll rfl st_63 ?_ ?_) rfl ?_; rotate_left 3; (· repeat ((exact List.mem_cons_self))); (· (rfl))) | (refine TL_new (op_boxA rfl) rfl ?_; intro bBox) | refine TL_q (op_build rfl (bl_141_0 _ _ _ _ _)) rfl ?_)
  refine TL_opT (OpT.heap (L' := (bb, Obj.cells #[.int .i64 want, .slice a l.length c] 124 (0, 0)) :: (B ++ ((bBox, Obj.cells #[.int .i64 v.up, .int .u8 v.vd.code, .slice a1 v.vd.sets.length c1, .slice a2 v.vd.soa.length c2, .int .u32 v.time] 63 (0, 0)) :: L))) (fun w h => h.cnt (by intro p; (try simp only [cnt_append, cnt_cons, cnt_nil]) <;> omega)) (op_call hb_73 rfl (rPut_S bb want a c l B _ ⟨v, false⟩ hB ⟨a1, c1, a2, c2, rfl, hv⟩ hn))) rfl ?_
  rintro _ _ ⟨rfl, a', c', B', hB', rfl⟩
  repeat (first | with_reducible refine TL_nil ?_ | with_reducible refine TQ_then ?_ | with_reducible refine T_ret ?_ | refine TL_q (op_assign rfl) rfl ?_)
  refine TQ_heap (fun w h => h.cnt (L' := (bb, Obj.cells #[.int .i64 want, .slice a' (Vd.putB l ⟨v, false⟩).1.length c'] 124 (0, 0)) :: (B' ++ L)) (by intro p; (try simp only [cnt_append, cnt_cons, cnt_nil]) <;> omega)) ?_
  refine TQ_ret1 4 _ rfl rfl ?_
  exact ⟨rfl, a', c', B', hB', rfl⟩
theorem votesB_snoc (l : List Ballot) (y : Ballot) : Vd.votesB (l ++ [y]) = if y.pass then Vd.votesB l else Vd.votesB l ++ [y.v] := by
  unfold Vd.votesB
  rw [List.filter_append, List.map_append]
  cases hy : y.pass <;> simp [hy]
theorem votesB_len (l : List Ballot) : (Vd.votesB l).length ≤ l.length := by
  unfold Vd.votesB
  rw [List.length_map]
  exact List.length_filter_le _ _
set_option maxRecDepth 100000 in
set_option maxHeartbeats 2000000 in
theorem rVotes_S {K : Blocks} (bb : Nat) (want : Int) (a : Option Addr) (c : Nat) (l : List Ballot) (B : Blocks) (hB : ORow ballotR 141 6 K a c l B) (hn : l.length ≤ 100000) :
    Spec Try.prog G 57 #[.pointer (some ⟨bb, 0, none⟩)] ((bb, Obj.cells #[.int .i64 want, .slice a l.length c] 124 (0, 0)) :: (B ++ L)) fun w M => ∃ av cv Bv, w = .slice av (Vd.votesB l).length cv ∧ ORow voteR 63 5 K av cv (Vd.votesB l) Bv ∧ M = Bv ++ ((bb, Obj.cells #[.int .i64 want, .slice a l.length c] 124 (0, 0)) :: (B ++ L)) := by
  have hcap := hB.cap
  unfold maxLen at hcap
  refine Spec_of (n := 35) Try.func57 rfl rfl rfl ?_
  repeat (first | with_reducible refine T_seq ?_ | with_reducible refine T_block ?_ | with_reducible refine T_region ?_ | with_reducible refine TL_nil ?_ | with_reducible refine TQ_then ?_ | refine TL_q (op_assign rfl) rfl ?_)
  refine T_loopS (σ := Nat × Option Addr × Nat × Blocks) (fun x => x.1 ≤ l.length ∧ ORow voteR 63 5 K x.2.1 x.2.2.1 (Vd.votesB (l.take x.1)) x.2.2.2) (fun x => [(0, .pointer (some ⟨bb, 0, none⟩)), (3, .slice x.2.1 (Vd.votesB (l.take x.1)).length x.2.2.1), (4, .int .i64 (x.1 : Nat))]) (fun x => x.2.2.2 ++ ((bb, Obj.cells #[.int .i64 want, .slice a l.length c] 124 (0, 0)) :: (B ++ L))) (fun x => l.length - x.1) (0, none, 0, []) ⟨Nat.zero_le _, ORow.nil _⟩ ?_ (fun w h => h) ?_
  (repeat (first | exact trivial | refine ⟨rfl, ?_⟩))
  rintro ⟨k, av, cv, Bv⟩ ⟨hk, hV⟩
  dsimp only at hk hV ⊢
  have hvl := votesB_len (l.take k)
  rw [List.length_take] at hvl
  have hmb : (bb, Obj.cells #[.int .i64 want, .slice a l.length c] 124 (0, 0)) ∈ Bv ++ ((bb, Obj.cells #[.int .i64 want, .slice a l.length c] 124 (0, 0)) :: (B ++ L)) := by simp
  by_cases hlt : k < l.length
  · obtain ⟨b2, cur, rfl, hBe, _, _, _, hcur⟩ := hB.block (fun e => by rw [e] at hlt; simp at hlt)
    obtain ⟨y, hy⟩ : ∃ y, l[k]? = some y := ⟨_, List.getElem?_eq_getElem hlt⟩
    have htk : Vd.votesB (l.take (k + 1)) = if y.pass then Vd.votesB (l.take k) else Vd.votesB (l.take k) ++ [y.v] := by rw [List.take_add_one, hy]; exact votesB_snoc _ _
    obtain ⟨cs, _, ⟨a1, c1, a2, c2, rfl, hyv⟩, _, hcs⟩ := hcur k y hy
    have g5 : cur[0 + k * 6 + 5]? = some (.bool y.pass) := by rw [Nat.zero_add]; exact hcs 5 _ rfl
    have hmem : (b2, Obj.cells cur 141 (0, 0)) ∈ Bv ++ ((bb, Obj.cells #[.int .i64 want, .slice (some ⟨b2, 0, none⟩) l.length c] 124 (0, 0)) :: (B ++ L)) := by rw [hBe]; simp
    cases hp : y.pass with
    | true =>
      rw [hp] at g5
      rw [hp, if_pos rfl] at htk
      repeat (first | with_reducible refine T_seq ?_ | with_reducible refine T_block ?_ | with_reducible refine T_region ?_ | with_reducible refine TL_nil ?_ | with_reducible refine TQ_then ?_ | with_reducible refine TQ_block ?_ | with_reducible refine T_skip ?_ | refine TL_q (op_move rfl) rfl ?_ | refine TL_q (op_assign rfl) rfl ?_ | (refine' TL_q (op_bin rfl rfl ?_) rfl ?_; rotate_left 1; (· first | exact bin_add ⟨by omega, by omega⟩ | exact bin_lss)) | refine TL_q (op_not rfl) rfl ?_ | refine TL_q (op_nilCheck rfl) rfl ?_ | refine TL_q (op_len_slice rfl Try.underlying122) rfl ?_ | (refine' TL_q (op_idx ety_122 rfl rfl ?_) rfl ?_; (· omega)) | refine TL_q (op_fld rfl fld_124_1) rfl ?_ | refine TL_q (op_fld rfl fld_141_1) rfl ?_ | (refine' TL_q (op_ld rfl pl_4 ?_ ?_) rfl ?_; rotate_left 4; (· repeat ((assumption))); (· first | assumption | rfl)) | (refine T_yes rfl ?_ ?_; (· (exact dT (by first | assumption | omega)))) | (refine T_no rfl ?_ ?_; (· (exact Bool.not_true))))
      refine TQ_roundS (k + 1, av, cv, Bv) ⟨hlt, by dsimp only; rw [htk]; exact hV⟩ ?_ (fun w h => h) (by dsimp only; omega)
      dsimp only
      rw [htk]
      (repeat (first | exact trivial | refine ⟨rfl, ?_⟩))
    | false =>
      rw [hp] at g5
      rw [hp, if_neg (by simp)] at htk
      have hcs5 : ∀ j u, ([.int .i64 y.v.up, .int .u8 y.v.vd.code, .slice a1 y.v.vd.sets.length c1, .slice a2 y.v.vd.soa.length c2, .int .u32 y.v.time] : List Value)[j]? = some u → cur[0 + k * 6 + 0 + j]? = some u := fun j u hj => by
        rw [Nat.zero_add]
        refine hcs j u ?_
        have hj5 := (List.getElem?_eq_some_iff.1 hj).1
        match j, hj with
        | 0, hj => exact hj
        | 1, hj => exact hj
        | 2, hj => exact hj
        | 3, hj => exact hj
        | 4, hj => exact hj
      repeat (first | with_reducible refine T_seq ?_ | with_reducible refine T_block ?_ | with_reducible refine T_region ?_ | with_reducible refine TL_nil ?_ | with_reducible refine TQ_then ?_ | with_reducible refine T_skip ?_ | refine TL_q (op_move rfl) rfl ?_ | (refine' TL_q (op_bin rfl rfl ?_) rfl ?_; rotate_left 1; (· (exact bin_lss))) | refine TL_q (op_not rfl) rfl ?_ | refine TL_q (op_nilCheck rfl) rfl ?_ | refine TL_q (op_len_slice rfl Try.underlying122) rfl ?_ | (refine' TL_q (op_idx ety_122 rfl rfl ?_) rfl ?_; (· omega)) | refine TL_q (op_fld rfl fld_124_1) rfl ?_ | refine TL_q (op_fld rfl fld_141_0) rfl ?_ | refine TL_q (op_fld rfl fld_141_1) rfl ?_ | (refine' TL_q (op_ld rfl pl_4 ?_ ?_) rfl ?_; rotate_left 4; (· repeat ((assumption))); (· first | assumption | rfl)) | (refine T_yes rfl ?_ ?_; (· first | exact Bool.not_false | exact dT (by (omega)))))
      refine TL_q (op_ldA [.int .i64 y.v.up, .int .u8 y.v.vd.code, .slice a1 y.v.vd.sets.length c1, .slice a2 y.v.vd.soa.length c2, .int .u32 y.v.time] rfl st_63 hmem hcs5) rfl ?_
      repeat ((refine TL_new (op_litN ety_50 rfl rfl (by decide)) rfl ?_; intro bLit))
      refine TL_opT (op_pushK (L0 := []) (r := voteR K) (cs := [.int .i64 y.v.up, .int .u8 y.v.vd.code, .slice a1 y.v.vd.sets.length c1, .slice a2 y.v.vd.soa.length c2, .int .u32 y.v.time]) (y := y.v) ety_50 rfl rfl (hV.imp (L' := []) (fun cs x _ h => h)) rfl (fun v hv => voteR.one hyv v hv) hyv (by omega) (by decide)) rfl ?_
      rintro _ _ ⟨a', c', B', rfl, hB', rfl⟩
      repeat (first | with_reducible refine T_region ?_ | with_reducible refine TL_nil ?_ | with_reducible refine TQ_then ?_ | with_reducible refine TQ_block ?_ | refine TL_q (op_move rfl) rfl ?_ | refine TL_q (op_assign rfl) rfl ?_ | (refine' TL_q (op_bin rfl rfl ?_) rfl ?_; rotate_left 1; (· (exact bin_add ⟨by omega, by omega⟩))))
      refine TQ_roundS (k + 1, a', c', B') ⟨hlt, by dsimp only; rw [htk]; exact hB'.imp (r' := voteR) (L' := K) (fun cs x _ h => h)⟩ ?_ (fun w h => h) (by dsimp only; omega)
      dsimp only
      rw [htk]
      (repeat (first | exact trivial | refine ⟨rfl, ?_⟩))
  · have hkn : k = l.length := by omega
    subst hkn
    rw [List.take_length] at hV ⊢
    repeat (first | with_reducible refine T_seq ?_ | with_reducible refine T_region ?_ | with_reducible refine TL_nil ?_ | with_reducible refine TQ_then ?_ | with_reducible refine T_exit ?_ | with_reducible refine T_ret ?_ | with_reducible refine TQ_then_exit ?_ | with_reducible refine TQ_block_exit ?_ | refine TL_q (op_move rfl) rfl ?_ | refine TL_q (op_assign rfl) rfl ?_ | (refine' TL_q (op_bin rfl rfl ?_) rfl ?_; rotate_left 1; (· (exact bin_lss))) | refine TL_q (op_nilCheck rfl) rfl ?_ | refine TL_q (op_len_slice rfl Try.underlying122) rfl ?_ | refine TL_q (op_fld rfl fld_124_1) rfl ?_ | (refine' TL_q (op_ld rfl pl_4 ?_ ?_) rfl ?_; rotate_left 4; (· repeat ((assumption))); (· (rfl))) | (refine T_no rfl ?_ ?_; (· (exact dF (by (omega))))))
    refine TQ_ret1 2 _ rfl rfl ?_
    exact ⟨av, cv, Bv, rfl, hV, rfl⟩
set_option maxRecDepth 100000 in
set_option maxHeartbeats 2000000 in
theorem given_S {K : Blocks} (v : Value) (l : List Vote) (hl : sliceR 5 (fun _ => voteR K) L [v] l) (hn : l.length ≤ 100000) :
    Spec Try.prog G 22 #[v] L fun w M => ∃ av cv Bv, w = .slice av l.length cv ∧ ORow voteR 46 5 K av cv l Bv ∧ M = Bv ++ L := by
  obtain ⟨a, c, e1, hl⟩ := hl.val
  simp only [List.cons.injEq, and_true] at e1
  subst e1
  obtain ⟨_, k1, k2, hl⟩ := sliceR.cut hl
  refine Spec_of (n := 19) Try.func22 rfl rfl rfl ?_
  repeat (first | with_reducible refine T_seq ?_ | with_reducible refine T_block ?_ | with_reducible refine T_region ?_ | with_reducible refine TL_nil ?_ | with_reducible refine TQ_then ?_ | refine TL_q (op_assign rfl) rfl ?_)
  refine T_loopS (σ := Nat × Option Addr × Nat × Blocks) (fun x => x.1 ≤ l.length ∧ ORow voteR 46 5 K x.2.1 x.2.2.1 (l.take x.1) x.2.2.2) (fun x => [(0, .slice a l.length c), (3, .slice x.2.1 (l.take x.1).length x.2.2.1), (4, .int .i64 (x.1 : Nat))]) (fun x => x.2.2.2 ++ L) (fun x => l.length - x.1) (0, none, 0, []) ⟨Nat.zero_le _, ORow.nil _⟩ ?_ (fun w h => h) ?_
  (repeat (first | exact trivial | refine ⟨rfl, ?_⟩))
  rintro ⟨k, av, cv, Bv⟩ ⟨hk, hV⟩
  dsimp only at hk hV ⊢
  by_cases hlt : k < l.length
  · obtain ⟨y, hy⟩ : ∃ y, l[k]? = some y := ⟨_, List.getElem?_eq_getElem hlt⟩
    have htk : l.take (k + 1) = l.take k ++ [y] := by rw [List.take_add_one, hy]; rfl
    have htl : (l.take k).length ≤ 100000 := by rw [List.length_take]; omega
    rcases hl with rfl | ⟨b1, o1, C1, t1, f1, rfl, m1, q1⟩
    · simp at hlt
    obtain ⟨cs, _, hyv, hcs⟩ := q1 k y hy
    obtain ⟨a1, c1, a2, c2, rfl, _⟩ := hyv.vals
    have m1' : (b1, Obj.cells C1 t1 f1) ∈ Bv ++ L := List.mem_append_right _ m1
    repeat (first | with_reducible refine T_seq ?_ | with_reducible refine T_block ?_ | with_reducible refine T_region ?_ | with_reducible refine TL_nil ?_ | with_reducible refine TQ_then ?_ | with_reducible refine T_skip ?_ | refine TL_q (op_move rfl) rfl ?_ | (refine' TL_q (op_bin rfl rfl ?_) rfl ?_; rotate_left 1; (· (exact bin_lss))) | refine TL_q (op_len_slice rfl Try.underlying50) rfl ?_ | (refine' TL_q (op_idx ety_50 rfl rfl ?_) rfl ?_; (· omega)) | (refine T_yes rfl ?_ ?_; (· (exact dT (by (omega))))))
    refine TL_q (op_ldA [.int .i64 y.up, .int .u8 y.vd.code, .slice a1 y.vd.sets.length c1, .slice a2 y.vd.soa.length c2, .int .u32 y.time] rfl st_63 m1' hcs) rfl ?_
    repeat ((refine TL_new (op_litN ety_47 rfl rfl (by decide)) rfl ?_; intro bLit))
    refine TL_opT (op_pushK (L0 := []) (r := voteR K) (cs := [.int .i64 y.up, .int .u8 y.vd.code, .slice a1 y.vd.sets.length c1, .slice a2 y.vd.soa.length c2, .int .u32 y.time]) (y := y) ety_47 rfl rfl (hV.imp (L' := []) (fun cs x _ h => h)) rfl (fun v hv => voteR.one hyv v hv) hyv (by omega) (by decide)) rfl ?_
    rintro _ _ ⟨a', c', B', rfl, hB', rfl⟩
    repeat (first | with_reducible refine T_region ?_ | with_reducible refine TL_nil ?_ | with_reducible refine TQ_then ?_ | with_reducible refine TQ_block ?_ | refine TL_q (op_move rfl) rfl ?_ | refine TL_q (op_assign rfl) rfl ?_ | (refine' TL_q (op_bin rfl rfl ?_) rfl ?_; rotate_left 1; (· (exact bin_add ⟨by omega, by omega⟩))))
    refine TQ_roundS (k + 1, a', c', B') ⟨hlt, by dsimp only; rw [htk]; exact hB'.imp (r' := voteR) (L' := K) (fun cs x _ h => h)⟩ ?_ (fun w h => h) (by dsimp only; omega)
    dsimp only
    rw [htk]
    (repeat (first | exact trivial | refine ⟨rfl, ?_⟩))
  · have hkn : k = l.length := by omega
    subst hkn
    rw [List.take_length] at hV ⊢
    repeat (first | with_reducible refine T_seq ?_ | with_reducible refine T_region ?_ | with_reducible refine TL_nil ?_ | with_reducible refine TQ_then ?_ | with_reducible refine T_exit ?_ | with_reducible refine T_ret ?_ | with_reducible refine TQ_then_exit ?_ | with_reducible refine TQ_block_exit ?_ | refine TL_q (op_move rfl) rfl ?_ | refine TL_q (op_assign rfl) rfl ?_ | (refine' TL_q (op_bin rfl rfl ?_) rfl ?_; rotate_left 1; (· (exact bin_lss))) | refine TL_q (op_len_slice rfl Try.underlying50) rfl ?_ | (refine T_no rfl ?_ ?_; (· (exact dF (by (omega))))))
    refine TQ_ret1 2 _ rfl rfl ?_
    exact ⟨av, cv, Bv, rfl, hV, rfl⟩
end Go.Proofs.Ytdflhdfapnhjjaa
namespace Go.Proofs.Ytdflhdfapnhjjaa
open Go.RowKit
open Vd (RSet Vdt Vote Rec Quest Piece Ballot Said)
set_option linter.unusedVariables false
set_option linter.unusedSimpArgs false
--auto
variable {G : World} {L : Blocks}
def saidR : Rp Said := fun L cs s => ∃ cm, cs = .int .i64 s.up :: (cm ++ [.int .u32 s.time]) ∧ msgR L cm s.m ∧ (0 ≤ s.time ∧ s.time ≤ 4294967295) ∧ (-9223372036854775808 ≤ s.up ∧ s.up ≤ 9223372036854775807)
theorem mono_said : Mono saidR := fun L L' cs s hL ⟨cm, h1, h2, h3⟩ => ⟨cm, h1, mono_msg L L' _ _ hL h2, h3⟩
theorem msgR.len {L : Blocks} {cs : List Value} {m : Vd.Msg} (h : msgR L cs m) : cs.length = 21 := by
  obtain ⟨h0, h1, h2, h3, h4, h5, h6, h7, h8, h9, q, a, b, x, k, e0, e1, e2, e3, e4, rfl, _⟩ := h
  rfl
/-- What a statement goes over. -/
def MsgFits (m : Vd.Msg) : Prop := m.answers.length ≤ 10000 ∧ (∀ x ∈ m.answers, x.name.length ≤ 1000000 ∧ x.data.length ≤ 1000000) ∧ m.auth.length ≤ 10000 ∧ (∀ x ∈ m.auth, x.name.length ≤ 1000000 ∧ x.data.length ≤ 1000000)
theorem ofM_code (q : Quest) (m : Vd.Msg) (h : 0 ≤ m.code ∧ m.code ≤ 255) : 0 ≤ (Vd.ofM q m).1.code ∧ (Vd.ofM q m).1.code ≤ 255 := by
  unfold Vd.ofM
  split
  · simp [Vdt.none]
  split
  rename_i l pos last e _
  split
  · simp [Vdt.none]
  split
  · simp [Vdt.none]
  split
  · exact h
  split
  rename_i s is e _
  split
  · simp [Vdt.none]
  split
  · exact h
  · exact h
theorem castSaid_len (q : Quest) (l : List Ballot) (s : Said) : (Vd.castSaid q l s).length ≤ l.length + 1 := by
  unfold Vd.castSaid Vd.putB
  repeat' split
  all_goals simp
theorem castAll_len (q : Quest) (l : List Said) : ∀ i, i ≤ l.length → ((l.take i).foldl (Vd.castSaid q) []).length ≤ i
  | 0, _ => by simp
  | i + 1, h => by
    have ih := castAll_len q l i (by omega)
    rw [List.take_add_one, List.getElem?_eq_getElem (by omega)]
    simp only [Option.toList_some, List.foldl_append, List.foldl_cons, List.foldl_nil]
    have := castSaid_len q ((l.take i).foldl (Vd.castSaid q) []) l[i]
    omega
set_option maxRecDepth 100000 in
set_option maxHeartbeats 4000000 in
theorem votes_S (cq : List Value) (q : Quest) (v : Value) (l : List Said) (hq : questR L cq q) (hl : sliceR 23 saidR L [v] l) (hqn : q.name.length ≤ 1000000) (hn : l.length ≤ 10000) (hl1 : ∀ s ∈ l, MsgFits s.m) :
    Spec Try.prog G 20 #[.agg cq.toArray, v] L fun w M => ∃ av cv Bv K, w = .slice av (Vd.votesOf q l).length cv ∧ ORow voteR 63 5 K av cv (Vd.votesOf q l) Bv ∧ M = Bv ++ (K ++ L) := by
  obtain ⟨rfl, hqm, hk0, hc0⟩ := hq
  obtain ⟨asl, csl, e1, hl⟩ := hl.val
  simp only [List.cons.injEq, and_true] at e1
  subst e1
  obtain ⟨_, ka1, ka2, hl⟩ := sliceR.cut hl
  refine Spec_of (n := 47) Try.func20 rfl rfl rfl ?_
  refine T_seq (T_region (TL_new (op_boxA rfl) rfl ?_))
  intro bQ
  repeat (first | with_reducible refine T_seq ?_ | with_reducible refine T_block ?_ | with_reducible refine T_region ?_ | with_reducible refine TL_nil ?_ | with_reducible refine TQ_then ?_ | refine TL_q (op_assign rfl) rfl ?_ | (refine TL_new (op_boxA rfl) rfl ?_; intro bBox) | refine TL_q (op_build rfl (bl_124_0 _)) rfl ?_)
  revert bBox
  intro bb
  refine T_loopS (σ := Nat × Option Addr × Nat × Blocks × Blocks) (fun x => x.1 ≤ l.length ∧ ORow ballotR 141 6 x.2.2.2.2 x.2.1 x.2.2.1 ((l.take x.1).foldl (Vd.castSaid q) []) x.2.2.2.1) (fun x => [(1, .slice asl l.length csl), (2, .pointer (some ⟨bQ, 0, none⟩)), (5, .pointer (some ⟨bb, 0, none⟩)), (6, .int .i64 (x.1 : Nat))]) (fun x => (bb, Obj.cells #[.int .i64 9, .slice x.2.1 ((l.take x.1).foldl (Vd.castSaid q) []).length x.2.2.1] 124 (0, 0)) :: (x.2.2.2.1 ++ (x.2.2.2.2 ++ ((bQ, Obj.cells #[.string (bs q.name), .int .u16 q.kind, .int .u16 q.cls] 34 (0, 0)) :: L)))) (fun x => l.length - x.1) (0, none, 0, [], []) ⟨Nat.zero_le _, ORow.nil _⟩ ?_ (fun w h => h) ?_
  (repeat (first | exact trivial | refine ⟨rfl, ?_⟩))
  rintro ⟨i, aL, cL, BL, K⟩ ⟨hi, hL⟩
  dsimp only at hi hL ⊢
  have hbl := castAll_len q l i hi
  by_cases hil : i < l.length
  · obtain ⟨s, hs⟩ : ∃ s, l[i]? = some s := ⟨_, List.getElem?_eq_getElem hil⟩
    have hsl := List.mem_of_getElem? hs
    have hst : (l.take (i + 1)).foldl (Vd.castSaid q) [] = Vd.castSaid q ((l.take i).foldl (Vd.castSaid q) []) s := by rw [List.take_add_one, hs]; simp
    obtain ⟨bal, hbal⟩ : ∃ b, (l.take i).foldl (Vd.castSaid q) [] = b := ⟨_, rfl⟩
    rw [hbal] at hst hL hbl ⊢
    rcases hl with rfl | ⟨b1, o1, C1, t1, f1, rfl, m1, q1⟩
    · simp at hil
    obtain ⟨cx, _, ⟨cm, rfl, hsm, ht1, hu1⟩, hcx⟩ := q1 i s hs
    have hml := hsm.len
    have g0 : C1[o1 + i * 23 + 0]? = some (.int .i64 s.up) := hcx 0 _ rfl
    have g22 : C1[o1 + i * 23 + 22]? = some (.int .u32 s.time) := hcx 22 _ (by rw [List.getElem?_cons_succ, List.getElem?_append_right (by omega), hml]; rfl)
    have hcm : ∀ j v, cm[j]? = some v → C1[o1 + i * 23 + 1 + j]? = some v := fun j v hj => by
      rw [Nat.add_assoc (o1 + i * 23) 1 j, Nat.add_comm 1 j]
      refine hcx (j + 1) v ?_
      rw [List.getElem?_cons_succ, List.getElem?_append_left (List.getElem?_eq_some_iff.1 hj).1]
      exact hj
    have hcode : 0 ≤ s.m.code ∧ s.m.code ≤ 255 := by
      obtain ⟨h0, h1, h2, h3, h4, h5, h6, h7, h8, h9, _, _, _, _, _, _, _, _, _, _, _, _, _, hc, _⟩ := hsm
      exact hc
    have hKm : ∀ z ∈ [(b1, Obj.cells C1 t1 f1), (bQ, Obj.cells #[.string (bs q.name), .int .u16 q.kind, .int .u16 q.cls] 34 (0, 0))], z ∈ ((bb, Obj.cells #[.int .i64 9, .slice aL bal.length cL] 124 (0, 0)) :: (BL ++ (K ++ ((bQ, Obj.cells #[.string (bs q.name), .int .u16 q.kind, .int .u16 q.cls] 34 (0, 0)) :: L)))) := by
      intro z hz
      simp only [List.mem_cons, List.not_mem_nil, or_false] at hz
      rcases hz with rfl | rfl
      · simp [m1]
      · simp
    repeat (first | with_reducible refine T_seq ?_ | with_reducible refine T_block ?_ | with_reducible refine T_region ?_ | with_reducible refine TL_nil ?_ | with_reducible refine TQ_then ?_ | with_reducible refine T_skip ?_ | refine TL_q (op_move rfl) rfl ?_ | (refine' TL_q (op_bin rfl rfl ?_) rfl ?_; rotate_left 1; (· (exact bin_lss))) | refine TL_q (op_len_slice rfl Try.underlying48) rfl ?_ | (refine T_yes rfl ?_ ?_; (· (exact dT (by (omega))))))
    refine T_midK (σ := Option Addr × Nat × Blocks × Option Addr × Nat × Blocks × Blocks × Nat) (fun y => ORow rsR 60 5 y.2.2.2.2.2.2.1 y.1 y.2.1 (Vd.ofM q s.m).1.sets y.2.2.1 ∧ ORow rsR 60 5 y.2.2.2.2.2.2.1 y.2.2.2.1 y.2.2.2.2.1 (Vd.ofM q s.m).1.soa y.2.2.2.2.2.1 ∧ Wr y.2.2.2.2.2.2.1)
      (fun y => [(1, .slice (some ⟨b1, o1, none⟩) l.length csl), (2, .pointer (some ⟨bQ, 0, none⟩)), (5, .pointer (some ⟨bb, 0, none⟩)), (6, .int .i64 (i : Nat)), (7, .pointer (some ⟨y.2.2.2.2.2.2.2, 0, none⟩)), (9, .int .i64 (Vd.ofM q s.m).2.2)]) (fun y => (y.2.2.2.2.2.2.2, Obj.cells #[.int .u8 (Vd.ofM q s.m).1.code, .slice y.1 (Vd.ofM q s.m).1.sets.length y.2.1, .slice y.2.2.2.1 (Vd.ofM q s.m).1.soa.length y.2.2.2.2.1] 42 (0, 0)) :: (y.2.2.2.2.2.1 ++ (y.2.2.1 ++ (y.2.2.2.2.2.2.1 ++ ((bb, Obj.cells #[.int .i64 9, .slice aL bal.length cL] 124 (0, 0)) :: (BL ++ (K ++ ((bQ, Obj.cells #[.string (bs q.name), .int .u16 q.kind, .int .u16 q.cls] 34 (0, 0)) :: L)))))))) ?_ ?_
    · clear hst
      refine T_draw follows_mixed ([(b1, Obj.cells C1 t1 f1), (bQ, Obj.cells #[.string (bs q.name), .int .u16 q.kind, .int .u16 q.cls] 34 (0, 0))]) [] ?_
      (refine' TA_take 0 rfl rfl (by kernel_rfl) (quiet_q (op_ldAll rfl st_34 ?_ ?_)) ?_ ?_; rotate_left 3; (· repeat (first | exact List.mem_cons_self | apply List.mem_cons_of_mem)); (· (rfl)); (· (assumption)))
      (refine' TA_take 1 rfl rfl (by kernel_rfl) (quiet_q (op_move rfl)) ?_ ?_; (· (assumption)))
      (refine' TA_take 2 rfl rfl (by kernel_rfl) (quiet_q (op_move rfl)) ?_ ?_; (· (assumption)))
      (refine' TA_take 3 rfl rfl (by kernel_rfl) (quiet_q (op_idx ety_48 rfl rfl ?_)) ?_ ?_; (· omega); (· (assumption)))
      (refine' TA_take 4 rfl rfl (by kernel_rfl) (quiet_q (op_fld rfl fld_115_1)) ?_ ?_; (· (assumption)))
      (refine' TA_take 5 rfl rfl (by kernel_rfl) (quiet_q (op_ldA cm rfl (by rw [hml]; exact st_32) (List.mem_cons_self ..) hcm)) ?_ ?_; (· (assumption)))
      refine TA_two 6 11 (by kernel_rfl) ?_ ?_
      · refine Up_ofD rfl rfl rfl rfl (op_call hb_56 rfl (Of_S _ _ q s.m ⟨rfl, hqm, hk0, hc0⟩ (mono_msg _ _ _ _ (mem_of_cnt (by intro p; (try simp only [cnt_append, cnt_cons, cnt_nil]) <;> omega)) hsm) hqn (hl1 s hsl).1 (hl1 s hsl).2.1 (hl1 s hsl).2.2.1 (hl1 s hsl).2.2.2)) ?_; rintro _ _ ⟨a, c, B, a2, c2, B2, N, rfl, hB, hB2, hN, rfl⟩; refine ⟨Or.inr (fun z hz => mem_of_cnt (by intro p; (try simp only [cnt_append, cnt_cons, cnt_nil]) <;> omega) z (hKm z hz)), ?_⟩
        (refine' TA_take 7 rfl rfl (by kernel_rfl) (quiet_q (op_move rfl)) ?_ ?_; (· (intro p hp; grind)))
        (refine' TA_take 8 rfl rfl (by kernel_rfl) (quiet_q (op_extract rfl rfl)) ?_ ?_; (· (intro p hp; grind)))
        (refine' TA_take 9 rfl rfl (by kernel_rfl) (quiet_q (op_extract rfl rfl)) ?_ ?_; (· (intro p hp; grind)))
        (refine' TA_take 10 rfl rfl (by kernel_rfl) (quiet_q (op_extract rfl rfl)) ?_ ?_; (· (intro p hp; grind)))
        refine TA_oneD 11 (by kernel_rfl) rfl rfl rfl rfl (op_alloc (C := #[.int .u8 0, .slice none 0 0, .slice none 0 0]) zero_42 rfl) ?_; rintro _ _ ⟨b7, rfl, rfl⟩; refine ⟨Or.inr (fun z hz => mem_of_cnt (by intro p; (try simp only [cnt_append, cnt_cons, cnt_nil]) <;> omega) z (hKm z hz)), ?_⟩
        refine TA_cnt (L' := (b7, Obj.cells #[.int .u8 0, .slice none 0 0, .slice none 0 0] 42 (0, 0)) :: (B2 ++ (B ++ (N ++ ((bb, Obj.cells #[.int .i64 9, .slice aL bal.length cL] 124 (0, 0)) :: (BL ++ (K ++ ((bQ, Obj.cells #[.string (bs q.name), .int .u16 q.kind, .int .u16 q.cls] 34 (0, 0)) :: L)))))))) ?_ (by intro p; (try simp only [cnt_append, cnt_cons, cnt_nil]) <;> omega); refine TA_oneN 12 (by kernel_rfl) rfl rfl rfl (op_stAll rfl rfl st_42 rfl rfl rfl) ?_; rintro _ _ ⟨_, rfl⟩; refine ⟨Or.inr (fun z hz => mem_of_cnt (by intro p; (try simp only [cnt_append, cnt_cons, cnt_nil]) <;> omega) z (hKm z hz)), ?_⟩
        (refine' TA_take 13 rfl rfl (by kernel_rfl) (quiet_q (op_assign rfl)) ?_ ?_; (· (intro p hp; grind)))
        (refine' TA_take 14 rfl rfl (by kernel_rfl) (quiet_q (op_assign rfl)) ?_ ?_; (· (intro p hp; grind)))
        refine TA_done (by kernel_rfl) ?_
        refine TQ_mid (a, c, B, a2, c2, B2, N, b7) ⟨hB, hB2, hN⟩ ?_ (fun w h => h.cnt (by intro p; (try simp only [cnt_append, cnt_cons, cnt_nil]) <;> omega))
        (repeat (first | exact trivial | refine ⟨rfl, ?_⟩))
      · refine Up_ofD rfl rfl rfl rfl (op_alloc (C := #[.int .u8 0, .slice none 0 0, .slice none 0 0]) zero_42 rfl) ?_; rintro _ _ ⟨b7, rfl, rfl⟩; refine ⟨Or.inr (fun z hz => mem_of_cnt (by intro p; (try simp only [cnt_append, cnt_cons, cnt_nil]) <;> omega) z (hKm z hz)), ?_⟩
        refine TA_oneD 6 (by kernel_rfl) rfl rfl rfl rfl (op_call hb_56 rfl (Of_S _ _ q s.m ⟨rfl, hqm, hk0, hc0⟩ (mono_msg _ _ _ _ (mem_of_cnt (by intro p; (try simp only [cnt_append, cnt_cons, cnt_nil]) <;> omega)) hsm) hqn (hl1 s hsl).1 (hl1 s hsl).2.1 (hl1 s hsl).2.2.1 (hl1 s hsl).2.2.2)) ?_; rintro _ _ ⟨a, c, B, a2, c2, B2, N, rfl, hB, hB2, hN, rfl⟩; refine ⟨Or.inr (fun z hz => mem_of_cnt (by intro p; (try simp only [cnt_append, cnt_cons, cnt_nil]) <;> omega) z (hKm z hz)), ?_⟩
        (refine' TA_take 7 rfl rfl (by kernel_rfl) (quiet_q (op_move rfl)) ?_ ?_; (· (intro p hp; grind)))
        (refine' TA_take 8 rfl rfl (by kernel_rfl) (quiet_q (op_extract rfl rfl)) ?_ ?_; (· (intro p hp; grind)))
        (refine' TA_take 9 rfl rfl (by kernel_rfl) (quiet_q (op_extract rfl rfl)) ?_ ?_; (· (intro p hp; grind)))
        (refine' TA_take 10 rfl rfl (by kernel_rfl) (quiet_q (op_extract rfl rfl)) ?_ ?_; (· (intro p hp; grind)))
        refine TA_cnt (L' := (b7, Obj.cells #[.int .u8 0, .slice none 0 0, .slice none 0 0] 42 (0, 0)) :: (B2 ++ (B ++ (N ++ ((bb, Obj.cells #[.int .i64 9, .slice aL bal.length cL] 124 (0, 0)) :: (BL ++ (K ++ ((bQ, Obj.cells #[.string (bs q.name), .int .u16 q.kind, .int .u16 q.cls] 34 (0, 0)) :: L)))))))) ?_ (by intro p; (try simp only [cnt_append, cnt_cons, cnt_nil]) <;> omega); refine TA_oneN 12 (by kernel_rfl) rfl rfl rfl (op_stAll rfl rfl st_42 rfl rfl rfl) ?_; rintro _ _ ⟨_, rfl⟩; refine ⟨Or.inr (fun z hz => mem_of_cnt (by intro p; (try simp only [cnt_append, cnt_cons, cnt_nil]) <;> omega) z (hKm z hz)), ?_⟩
        (refine' TA_take 13 rfl rfl (by kernel_rfl) (quiet_q (op_assign rfl)) ?_ ?_; (· (intro p hp; grind)))
        (refine' TA_take 14 rfl rfl (by kernel_rfl) (quiet_q (op_assign rfl)) ?_ ?_; (· (intro p hp; grind)))
        refine TA_done (by kernel_rfl) ?_
        refine TQ_mid (a, c, B, a2, c2, B2, N, b7) ⟨hB, hB2, hN⟩ ?_ (fun w h => h.cnt (by intro p; (try simp only [cnt_append, cnt_cons, cnt_nil]) <;> omega))
        (repeat (first | exact trivial | refine ⟨rfl, ?_⟩))
    · rintro ⟨a, c, B, a2, c2, B2, N, b7⟩ ⟨hB, hB2, hN⟩
      dsimp only at hB hB2 hN ⊢
      have hcd := ofM_code q s.m hcode
      by_cases he : (Vd.ofM q s.m).2.2 = 0
      · have hcs2 : Vd.castSaid q bal s = (Vd.putB bal ⟨⟨s.up, (Vd.ofM q s.m).1, s.time⟩, false⟩).1 := if_pos he
        obtain ⟨K2, hK2⟩ : ∃ k, B2 ++ (B ++ (N ++ K)) = k := ⟨_, rfl⟩
        have hKK : ∀ p ∈ K, p ∈ K2 := by rw [← hK2]; exact (mem_of_cnt (by intro p; (try simp only [cnt_append, cnt_cons, cnt_nil]) <;> omega))
        have hvote : voteR K2 [.int .i64 s.up, .int .u8 (Vd.ofM q s.m).1.code, .slice a (Vd.ofM q s.m).1.sets.length c, .slice a2 (Vd.ofM q s.m).1.soa.length c2, .int .u32 s.time] ⟨s.up, (Vd.ofM q s.m).1, s.time⟩ := by
          rw [← hK2]
          exact ⟨_, _, rfl, hB.sliceR mono_set (mem_of_cnt (by intro p; (try simp only [cnt_append, cnt_cons, cnt_nil]) <;> omega)) (mem_of_cnt (by intro p; (try simp only [cnt_append, cnt_cons, cnt_nil]) <;> omega)), hB2.sliceR mono_set (mem_of_cnt (by intro p; (try simp only [cnt_append, cnt_cons, cnt_nil]) <;> omega)) (mem_of_cnt (by intro p; (try simp only [cnt_append, cnt_cons, cnt_nil]) <;> omega)), hcd, ht1, hu1⟩
        have hKm2 : ∀ z ∈ [(b1, Obj.cells C1 t1 f1), (b7, Obj.cells #[.int .u8 (Vd.ofM q s.m).1.code, .slice a (Vd.ofM q s.m).1.sets.length c, .slice a2 (Vd.ofM q s.m).1.soa.length c2] 42 (0, 0))], z ∈ (b7, Obj.cells #[.int .u8 (Vd.ofM q s.m).1.code, .slice a (Vd.ofM q s.m).1.sets.length c, .slice a2 (Vd.ofM q s.m).1.soa.length c2] 42 (0, 0)) :: (K2 ++ ((bb, Obj.cells #[.int .i64 9, .slice aL bal.length cL] 124 (0, 0)) :: (BL ++ ((bQ, Obj.cells #[.string (bs q.name), .int .u16 q.kind, .int .u16 q.cls] 34 (0, 0)) :: L)))) := by
          intro z hz
          simp only [List.mem_cons, List.not_mem_nil, or_false] at hz
          rcases hz with rfl | rfl
          · simp [m1]
          · simp
        refine T_cnt (L' := (b7, Obj.cells #[.int .u8 (Vd.ofM q s.m).1.code, .slice a (Vd.ofM q s.m).1.sets.length c, .slice a2 (Vd.ofM q s.m).1.soa.length c2] 42 (0, 0)) :: (K2 ++ ((bb, Obj.cells #[.int .i64 9, .slice aL bal.length cL] 124 (0, 0)) :: (BL ++ ((bQ, Obj.cells #[.string (bs q.name), .int .u16 q.kind, .int .u16 q.cls] 34 (0, 0)) :: L))))) ?_ (by rw [← hK2]; exact (by intro p; (try simp only [cnt_append, cnt_cons, cnt_nil]) <;> omega))
        repeat (first | with_reducible refine T_seq ?_ | with_reducible refine T_region ?_ | with_reducible refine TL_nil ?_ | with_reducible refine TQ_then ?_ | refine TL_q (op_move rfl) rfl ?_ | (refine' TL_q (op_bin rfl rfl ?_) rfl ?_; rotate_left 1; (· (exact bin_eql))) | (refine T_yes rfl ?_ ?_; (· (exact dT (by (assumption))))))
        refine T_draw follows_mixed ([(b1, Obj.cells C1 t1 f1), (b7, Obj.cells #[.int .u8 (Vd.ofM q s.m).1.code, .slice a (Vd.ofM q s.m).1.sets.length c, .slice a2 (Vd.ofM q s.m).1.soa.length c2] 42 (0, 0))]) [] ?_
        (refine' TA_take 0 rfl rfl (by kernel_rfl) (quiet_q (op_move rfl)) ?_ ?_; (· (assumption)))
        (refine' TA_take 1 rfl rfl (by kernel_rfl) (quiet_q (op_move rfl)) ?_ ?_; (· (assumption)))
        (refine' TA_take 2 rfl rfl (by kernel_rfl) (quiet_q (op_move rfl)) ?_ ?_; (· (assumption)))
        (refine' TA_take 3 rfl rfl (by kernel_rfl) (quiet_q (op_idx ety_48 rfl rfl ?_)) ?_ ?_; (· omega); (· (assumption)))
        (refine' TA_take 4 rfl rfl (by kernel_rfl) (quiet_q (op_fld rfl fld_115_0)) ?_ ?_; (· (assumption)))
        (refine' TA_take 5 rfl rfl (by kernel_rfl) (quiet_q (op_ld rfl pl_3 ?_ ?_)) ?_ ?_; rotate_left 4; (· repeat ((exact List.mem_cons_self))); (· (assumption)); (· (assumption)))
        (refine' TA_take 6 rfl rfl (by kernel_rfl) (quiet_q (op_ldAll rfl st_42 ?_ ?_)) ?_ ?_; rotate_left 3; (· repeat (first | exact List.mem_cons_self | apply List.mem_cons_of_mem)); (· (rfl)); (· (assumption)))
        (refine' TA_take 7 rfl rfl (by kernel_rfl) (quiet_q (op_move rfl)) ?_ ?_; (· (assumption)))
        (refine' TA_take 8 rfl rfl (by kernel_rfl) (quiet_q (op_move rfl)) ?_ ?_; (· (assumption)))
        (refine' TA_take 9 rfl rfl (by kernel_rfl) (quiet_q (op_idx ety_48 rfl rfl ?_)) ?_ ?_; (· omega); (· (assumption)))
        (refine' TA_take 10 rfl rfl (by kernel_rfl) (quiet_q (op_fld rfl fld_115_2)) ?_ ?_; (· (assumption)))
        (refine' TA_take 11 rfl rfl (by kernel_rfl) (quiet_q (op_ld rfl pl_36 ?_ ?_)) ?_ ?_; rotate_left 4; (· repeat ((exact List.mem_cons_self))); (· (assumption)); (· (assumption)))
        (refine' TA_take 12 rfl rfl (by kernel_rfl) (quiet_q (op_build rfl (bl_63_0_1_2 _ _ _ _ _))) ?_ ?_; (· (assumption)))
        refine TA_cnt (L' := (bb, Obj.cells #[.int .i64 9, .slice aL bal.length cL] 124 (0, 0)) :: (BL ++ (K2 ++ ((b7, Obj.cells #[.int .u8 (Vd.ofM q s.m).1.code, .slice a (Vd.ofM q s.m).1.sets.length c, .slice a2 (Vd.ofM q s.m).1.soa.length c2] 42 (0, 0)) :: ((bQ, Obj.cells #[.string (bs q.name), .int .u16 q.kind, .int .u16 q.cls] 34 (0, 0)) :: L))))) ?_ (by intro p; (try simp only [cnt_append, cnt_cons, cnt_nil]) <;> omega); refine TA_oneD 13 (by kernel_rfl) rfl rfl rfl rfl (op_call hb_48 rfl (rCast_S (K := K2) bb 9 aL cL bal BL _ ⟨s.up, (Vd.ofM q s.m).1, s.time⟩ (hL.mono mono_ballot hKK) hvote (by omega))) ?_; rintro _ _ ⟨rfl, aN, cN, BN, hBN, rfl⟩; refine ⟨Or.inr (by intro z hz; simp only [List.mem_cons, List.not_mem_nil, or_false] at hz; rcases hz with rfl | rfl; (· simp [m1]); (· simp)), ?_⟩
        refine TA_done (by kernel_rfl) ?_
        repeat (first | with_reducible refine T_region ?_ | with_reducible refine TL_nil ?_ | with_reducible refine TQ_then ?_ | with_reducible refine TQ_block ?_ | refine TL_q (op_move rfl) rfl ?_ | refine TL_q (op_assign rfl) rfl ?_ | (refine' TL_q (op_bin rfl rfl ?_) rfl ?_; rotate_left 1; (· (exact bin_add ⟨by omega, by omega⟩))))
        refine TQ_roundS (i + 1, aN, cN, BN, K2) ⟨hil, by dsimp only; rw [hst, hcs2]; exact hBN⟩ ?_ (fun w h => by dsimp only; rw [hst, hcs2]; exact h.cnt (by intro p; (try simp only [cnt_append, cnt_cons, cnt_nil]) <;> omega)) (by dsimp only; omega)
        (repeat (first | exact trivial | refine ⟨rfl, ?_⟩))
      · have hcs2 : Vd.castSaid q bal s = bal := if_neg he
        repeat (first | with_reducible refine T_seq ?_ | with_reducible refine T_region ?_ | with_reducible refine TL_nil ?_ | with_reducible refine TQ_then ?_ | with_reducible refine TQ_block ?_ | with_reducible refine T_skip ?_ | refine TL_q (op_move rfl) rfl ?_ | refine TL_q (op_assign rfl) rfl ?_ | (refine' TL_q (op_bin rfl rfl ?_) rfl ?_; rotate_left 1; (· first | exact bin_add ⟨by omega, by omega⟩ | exact bin_eql)) | (refine T_no rfl ?_ ?_; (· (exact dF (by (assumption))))))
        refine TQ_roundS (i + 1, aL, cL, BL, K) ⟨hil, by dsimp only; rw [hst, hcs2]; exact hL⟩ ?_ (fun w h => by dsimp only; rw [hst, hcs2]; exact h.cnt (by intro p; (try simp only [cnt_append, cnt_cons, cnt_nil]) <;> omega)) (by dsimp only; omega)
        (repeat (first | exact trivial | refine ⟨rfl, ?_⟩))
  · have hie : i = l.length := by omega
    subst hie
    rw [List.take_length] at hL hbl ⊢
    repeat (first | with_reducible refine T_seq ?_ | with_reducible refine T_region ?_ | with_reducible refine TL_nil ?_ | with_reducible refine TQ_then ?_ | with_reducible refine T_exit ?_ | with_reducible refine TQ_then_exit ?_ | with_reducible refine TQ_block_exit ?_ | refine TL_q (op_move rfl) rfl ?_ | (refine' TL_q (op_bin rfl rfl ?_) rfl ?_; rotate_left 1; (· (exact bin_lss))) | refine TL_q (op_len_slice rfl Try.underlying48) rfl ?_ | (refine T_no rfl ?_ ?_; (· (exact dF (by (omega))))))
    refine TL_opT (op_call hb_57 rfl (rVotes_S bb 9 aL cL _ BL hL (by omega))) rfl ?_
    rintro _ _ ⟨av, cv, Bv, rfl, hV, rfl⟩
    repeat (first | with_reducible refine TL_nil ?_ | with_reducible refine TQ_then ?_ | with_reducible refine T_ret ?_ | refine TL_q (op_assign rfl) rfl ?_)
    refine TQ_cnt (L' := Bv ++ (K ++ L)) ?_ (by intro p; (try simp only [cnt_append, cnt_cons, cnt_nil]) <;> omega)
    refine TQ_ret1 4 _ rfl rfl ?_
    exact ⟨av, cv, Bv, K, rfl, hV, rfl⟩
end Go.Proofs.Ytdflhdfapnhjjaa
namespace Go.Proofs.Ytdflhdfapnhjjaa
open Go.RowKit
open Vd (RSet Vdt Vote Rec Quest Piece Ballot Said)
set_option linter.unusedVariables false
set_option linter.unusedSimpArgs false
--auto
variable {G : World} {L : Blocks}
set_option maxRecDepth 100000 in
set_option maxHeartbeats 2000000 in
theorem put23_S (v : Value) (l : List Vd.Bytes) (s : Vd.Bytes) (hl : sliceR 1 strR L [v] l) (hn : l.length ≤ 100000) (hs : s.length ≤ maxLen) : Spec Try.prog G 60 #[v, .string (bs s)] L fun u M =>
    (u = v ∧ Vd.put l s = l ∧ M = L) ∨ ∃ a c B, u = .slice a (Vd.put l s).length c ∧ ORow strR 9 1 L a c (Vd.put l s) B ∧ M = B ++ L := by
  obtain ⟨a, c, e1, hl⟩ := hl.val
  simp only [List.cons.injEq, and_true] at e1
  subst e1
  have hle := strs_cut' hl
  obtain ⟨_, k1, k2, hl⟩ := strs_cut hl
  unfold maxLen at k2
  refine Spec_of (n := 49) Try.func60 rfl rfl rfl ?_
  repeat (first | with_reducible refine T_seq ?_ | with_reducible refine T_block ?_ | with_reducible refine T_region ?_ | with_reducible refine TL_nil ?_ | with_reducible refine TQ_then ?_ | refine TL_q (op_assign rfl) rfl ?_)
  refine T_loopS (σ := Nat × List Vd.Bytes × Bool × Option Addr × Nat × Blocks) (fun x => x.1 ≤ l.length ∧ x.2.1.length ≤ x.1 + (if x.2.2.1 then 1 else 0) ∧ Vd.putGo s (l.drop x.1) x.2.1 x.2.2.1 = Vd.putGo s l [] false ∧ ORow strR 9 1 L x.2.2.2.1 x.2.2.2.2.1 x.2.1 x.2.2.2.2.2)
    (fun x => [(0, .slice a l.length c), (1, .string (bs s)), (5, .slice x.2.2.2.1 x.2.1.length x.2.2.2.2.1), (6, .bool x.2.2.1), (7, .int .i64 (x.1 : Nat))]) (fun x => x.2.2.2.2.2 ++ L) (fun x => l.length - x.1) (0, [], false, none, 0, []) ⟨Nat.zero_le _, by simp, rfl, ORow.nil _⟩ ?_ (fun w h => h) ?_
  (repeat (first | exact trivial | refine ⟨rfl, ?_⟩))
  rintro ⟨k, out, done, ao, co, B⟩ ⟨h1, h2, h3, h4⟩
  dsimp only at h1 h2 h3 h4 ⊢
  by_cases hlt : k < l.length
  · rcases hl with rfl | ⟨b1, o1, C1, t1, f1, rfl, m1, q1⟩
    · simp at hlt
    have m2 : (b1, Obj.cells C1 t1 f1) ∈ B ++ L := List.mem_append_right _ m1
    have hd := List.drop_eq_getElem_cons hlt
    obtain ⟨x, hx⟩ : ∃ x, l[k]? = some x := ⟨_, List.getElem?_eq_getElem hlt⟩
    have hx' : l[k] = x := by rw [List.getElem?_eq_getElem hlt] at hx; exact Option.some.inj hx
    rw [hx'] at hd
    have r1 := q1 k x hx
    have hxl := hle x (List.mem_of_getElem? hx)
    rw [hd] at h3
    simp only [Vd.putGo] at h3
    by_cases hxs : x = s
    · rw [if_pos hxs] at h3
      subst hxs
      repeat (first | with_reducible refine T_seq ?_ | with_reducible refine T_block ?_ | with_reducible refine T_region ?_ | with_reducible refine TL_nil ?_ | with_reducible refine TQ_then ?_ | with_reducible refine T_skip ?_ | with_reducible refine T_ret ?_ | with_reducible refine TQ_then_ret ?_ | with_reducible refine TQ_block_ret ?_ | refine TL_q (op_move rfl) rfl ?_ | refine TL_q (op_assign rfl) rfl ?_ | (refine' TL_q (op_bin rfl rfl ?_) rfl ?_; rotate_left 1; (· first | exact bin_lss | exact sbin_eql)) | refine TL_q (op_len_slice rfl Try.underlying58) rfl ?_ | (refine' TL_q (op_idx ety_58 rfl rfl ?_) rfl ?_; (· omega)) | (refine' TL_q (op_ld rfl pl_9 ?_ ?_) rfl ?_; rotate_left 4; (· repeat ((assumption))); (· (assumption))) | (refine T_yes rfl ?_ ?_; (· first | exact dT (by first | assumption | omega) | exact eT (by (with_reducible rfl)))))
      refine TQ_heap (fun w h => h.sub (List.sublist_append_right _ _)) ?_
      refine TQ_ret1 4 _ rfl rfl ?_
      refine Or.inl ⟨rfl, ?_, rfl⟩
      unfold Vd.put
      rw [← h3]
    · rw [if_neg hxs] at h3
      have hgo : ∀ (out' : List Vd.Bytes) (done' : Bool), (out' = out ∧ done' = done ∧ (done = true ∨ Vd.gtB x s = false)) ∨ (out' = out ++ [s] ∧ done' = true ∧ done = false ∧ Vd.gtB x s = true) → True := fun _ _ _ => trivial
      have hbl : (if done then 1 else 0 : Nat) ≤ 1 := by split <;> omega
      by_cases hg : done = false ∧ Vd.gtB x s = true
      · obtain ⟨rfl, hg⟩ := hg
        rw [if_pos (by simp [hg])] at h3
        have hg' : (!(Op.bytesLess x s || x == s)) = true := hg
        simp only [Bool.false_eq_true, if_false] at h2
        repeat (first | with_reducible refine T_seq ?_ | with_reducible refine T_block ?_ | with_reducible refine T_region ?_ | with_reducible refine TL_nil ?_ | with_reducible refine TQ_then ?_ | with_reducible refine T_skip ?_ | refine TL_q (op_move rfl) rfl ?_ | (refine' TL_q (op_bin rfl rfl ?_) rfl ?_; rotate_left 1; (· first | exact bin_lss | exact sbin_eql)) | refine TL_q (op_not rfl) rfl ?_ | (refine' TL_q (op_pickT rfl ?_ rfl) rfl ?_; (· (exact Bool.not_false))) | refine TL_q (op_len_slice rfl Try.underlying58) rfl ?_ | (refine' TL_q (op_idx ety_58 rfl rfl ?_) rfl ?_; (· omega)) | (refine' TL_q (op_ld rfl pl_9 ?_ ?_) rfl ?_; rotate_left 4; (· repeat ((assumption))); (· (assumption))) | (refine TL_gpre rfl rfl ?_ ?_; (· (exact Bool.not_false))) | refine TL_gq2 (op_move rfl) rfl ?_ | (refine' TL_gq2 (op_bin rfl rfl ?_) rfl ?_; rotate_left 1; (· (exact sbin_gtr))) | (refine' TL_gq2 (op_idx ety_58 rfl rfl ?_) rfl ?_; (· omega)) | (refine' TL_gq2 (op_ld rfl pl_9 ?_ ?_) rfl ?_; rotate_left 4; (· repeat ((assumption))); (· (assumption))) | (refine TL_new (op_lit1 ety_58 rfl rfl) rfl ?_; intro bLit) | (refine T_yes rfl ?_ ?_; (· first | assumption | exact dT (by first | assumption | omega))) | (refine T_no rfl ?_ ?_; (· (exact eF (by (assumption))))))
        refine TL_opT (op_pushS (y := s) ety_58 rfl rfl h4 hs (by omega) (by decide)) rfl ?_
        rintro _ _ ⟨a', c', B', rfl, hB', rfl⟩
        have m3 : (b1, Obj.cells C1 t1 f1) ∈ B' ++ L := List.mem_append_right _ m1
        repeat (first | with_reducible refine T_region ?_ | with_reducible refine TL_nil ?_ | with_reducible refine TQ_then ?_ | refine TL_q (op_move rfl) rfl ?_ | refine TL_q (op_assign rfl) rfl ?_ | (refine' TL_q (op_idx ety_58 rfl rfl ?_) rfl ?_; (· omega)) | (refine' TL_q (op_ld rfl pl_9 ?_ ?_) rfl ?_; rotate_left 4; (· repeat ((assumption))); (· (assumption))) | (refine TL_new (op_lit1 ety_58 rfl rfl) rfl ?_; intro bLit))
        refine TL_opT (op_pushS (y := x) ety_58 rfl rfl hB' hxl (by simp; omega) (by decide)) rfl ?_
        rintro _ _ ⟨a2, c2, B2, rfl, hB2, rfl⟩
        repeat (first | with_reducible refine T_region ?_ | with_reducible refine TL_nil ?_ | with_reducible refine TQ_then ?_ | with_reducible refine TQ_block ?_ | refine TL_q (op_move rfl) rfl ?_ | refine TL_q (op_assign rfl) rfl ?_ | (refine' TL_q (op_bin rfl rfl ?_) rfl ?_; rotate_left 1; (· (exact bin_add ⟨by omega, by omega⟩))))
        refine TQ_roundS (k + 1, (out ++ [s]) ++ [x], true, a2, c2, B2) ⟨hlt, by simp; omega, h3, hB2⟩ ?_ (fun w h => h) (by dsimp only; omega)
        (repeat (first | exact trivial | refine ⟨rfl, ?_⟩))
      · rw [if_neg (by simpa using hg)] at h3
        have hg3 : done = true ∨ (done = false ∧ (!(Op.bytesLess x s || x == s)) = false) := by
          cases done with
          | true => exact Or.inl rfl
          | false => exact Or.inr ⟨rfl, by have : Vd.gtB x s = false := by simpa using hg
                                           exact this⟩
        rcases hg3 with rfl | ⟨rfl, hg4⟩
        · simp only [if_true] at h2
          repeat (first | with_reducible refine T_seq ?_ | with_reducible refine T_block ?_ | with_reducible refine T_region ?_ | with_reducible refine TL_nil ?_ | with_reducible refine TQ_then ?_ | with_reducible refine T_skip ?_ | refine TL_q (op_move rfl) rfl ?_ | (refine' TL_q (op_bin rfl rfl ?_) rfl ?_; rotate_left 1; (· first | exact bin_lss | exact sbin_eql)) | refine TL_q (op_not rfl) rfl ?_ | (refine' TL_q (op_pickF rfl ?_ rfl) rfl ?_; (· (exact Bool.not_true))) | refine TL_q (op_len_slice rfl Try.underlying58) rfl ?_ | (refine' TL_q (op_idx ety_58 rfl rfl ?_) rfl ?_; (· omega)) | (refine' TL_q (op_ld rfl pl_9 ?_ ?_) rfl ?_; rotate_left 4; (· repeat ((assumption))); (· (assumption))) | (refine TL_gno rfl rfl ?_ rfl ?_; (· (with_reducible rfl))) | (refine TL_new (op_lit1 ety_58 rfl rfl) rfl ?_; intro bLit) | (refine T_yes rfl ?_ ?_; (· (exact dT (by first | assumption | omega)))) | (refine T_no rfl ?_ ?_; (· first | with_reducible rfl | exact eF (by (assumption)))))
          refine TL_opT (op_pushS (y := x) ety_58 rfl rfl h4 hxl (by omega) (by decide)) rfl ?_
          rintro _ _ ⟨a2, c2, B2, rfl, hB2, rfl⟩
          repeat (first | with_reducible refine T_region ?_ | with_reducible refine TL_nil ?_ | with_reducible refine TQ_then ?_ | with_reducible refine TQ_block ?_ | refine TL_q (op_move rfl) rfl ?_ | refine TL_q (op_assign rfl) rfl ?_ | (refine' TL_q (op_bin rfl rfl ?_) rfl ?_; rotate_left 1; (· (exact bin_add ⟨by omega, by omega⟩))))
          refine TQ_roundS (k + 1, out ++ [x], true, a2, c2, B2) ⟨hlt, by simp; omega, h3, hB2⟩ ?_ (fun w h => h) (by dsimp only; omega)
          (repeat (first | exact trivial | refine ⟨rfl, ?_⟩))
        · simp only [Bool.false_eq_true, if_false] at h2
          repeat (first | with_reducible refine T_seq ?_ | with_reducible refine T_block ?_ | with_reducible refine T_region ?_ | with_reducible refine TL_nil ?_ | with_reducible refine TQ_then ?_ | with_reducible refine T_skip ?_ | refine TL_q (op_move rfl) rfl ?_ | (refine' TL_q (op_bin rfl rfl ?_) rfl ?_; rotate_left 1; (· first | exact bin_lss | exact sbin_eql)) | refine TL_q (op_not rfl) rfl ?_ | (refine' TL_q (op_pickT rfl ?_ rfl) rfl ?_; (· (exact Bool.not_false))) | refine TL_q (op_len_slice rfl Try.underlying58) rfl ?_ | (refine' TL_q (op_idx ety_58 rfl rfl ?_) rfl ?_; (· omega)) | (refine' TL_q (op_ld rfl pl_9 ?_ ?_) rfl ?_; rotate_left 4; (· repeat ((assumption))); (· (assumption))) | (refine TL_gpre rfl rfl ?_ ?_; (· (exact Bool.not_false))) | refine TL_gq2 (op_move rfl) rfl ?_ | (refine' TL_gq2 (op_bin rfl rfl ?_) rfl ?_; rotate_left 1; (· (exact sbin_gtr))) | (refine' TL_gq2 (op_idx ety_58 rfl rfl ?_) rfl ?_; (· omega)) | (refine' TL_gq2 (op_ld rfl pl_9 ?_ ?_) rfl ?_; rotate_left 4; (· repeat ((assumption))); (· (assumption))) | (refine TL_new (op_lit1 ety_58 rfl rfl) rfl ?_; intro bLit) | (refine T_yes rfl ?_ ?_; (· (exact dT (by first | assumption | omega)))) | (refine T_no rfl ?_ ?_; (· first | assumption | exact eF (by (assumption)))))
          refine TL_opT (op_pushS (y := x) ety_58 rfl rfl h4 hxl (by omega) (by decide)) rfl ?_
          rintro _ _ ⟨a2, c2, B2, rfl, hB2, rfl⟩
          repeat (first | with_reducible refine T_region ?_ | with_reducible refine TL_nil ?_ | with_reducible refine TQ_then ?_ | with_reducible refine TQ_block ?_ | refine TL_q (op_move rfl) rfl ?_ | refine TL_q (op_assign rfl) rfl ?_ | (refine' TL_q (op_bin rfl rfl ?_) rfl ?_; rotate_left 1; (· (exact bin_add ⟨by omega, by omega⟩))))
          refine TQ_roundS (k + 1, out ++ [x], false, a2, c2, B2) ⟨hlt, by simp; omega, h3, hB2⟩ ?_ (fun w h => h) (by dsimp only; omega)
          (repeat (first | exact trivial | refine ⟨rfl, ?_⟩))
  · have hkn : k = l.length := by omega
    subst hkn
    rw [List.drop_length] at h3
    simp only [Vd.putGo] at h3
    have hp : Vd.put l s = if done then out else out ++ [s] := by unfold Vd.put; rw [← h3]
    cases done with
    | true =>
      repeat' (first | with_reducible refine T_seq ?_ | with_reducible refine T_region ?_ | with_reducible refine TL_nil ?_ | with_reducible refine TQ_then ?_ | with_reducible refine T_skip ?_ | with_reducible refine T_exit ?_ | with_reducible refine T_ret ?_ | with_reducible refine TQ_then_exit ?_ | with_reducible refine TQ_block_exit ?_ | refine TL_q (op_move rfl) rfl ?_ | refine TL_q (op_assign rfl) rfl ?_ | (refine' TL_q (op_bin rfl rfl ?_) rfl ?_; rotate_left 1; (· (exact bin_lss))) | refine TL_q (op_not rfl) rfl ?_ | refine TL_q (op_len_slice rfl Try.underlying58) rfl ?_ | (refine T_no rfl ?_ ?_; (· first | exact Bool.not_true | exact dF (by (omega)))) | refine TQ_ret1 4 _ rfl rfl ?_)
      rw [hp]
      exact Or.inr ⟨_, _, _, rfl, h4, rfl⟩
    | false =>
      simp only [Bool.false_eq_true, if_false] at h2
      repeat (first | with_reducible refine T_seq ?_ | with_reducible refine T_region ?_ | with_reducible refine TL_nil ?_ | with_reducible refine TQ_then ?_ | with_reducible refine T_exit ?_ | with_reducible refine TQ_then_exit ?_ | with_reducible refine TQ_block_exit ?_ | refine TL_q (op_move rfl) rfl ?_ | (refine' TL_q (op_bin rfl rfl ?_) rfl ?_; rotate_left 1; (· (exact bin_lss))) | refine TL_q (op_not rfl) rfl ?_ | refine TL_q (op_len_slice rfl Try.underlying58) rfl ?_ | (refine TL_new (op_lit1 ety_58 rfl rfl) rfl ?_; intro bLit) | (refine T_yes rfl ?_ ?_; (· (exact Bool.not_false))) | (refine T_no rfl ?_ ?_; (· (exact dF (by (omega))))))
      refine TL_opT (op_pushS (y := s) ety_58 rfl rfl h4 hs (by omega) (by decide)) rfl ?_
      rintro _ _ ⟨a2, c2, B2, rfl, hB2, rfl⟩
      repeat' (first | with_reducible refine T_seq ?_ | with_reducible refine T_region ?_ | with_reducible refine TL_nil ?_ | with_reducible refine TQ_then ?_ | with_reducible refine T_ret ?_ | refine TL_q (op_move rfl) rfl ?_ | refine TL_q (op_assign rfl) rfl ?_ | refine TQ_ret1 4 _ rfl rfl ?_)
      rw [hp]
      exact Or.inr ⟨_, _, _, rfl, hB2, rfl⟩
theorem endV_nil {q : Quest} {v : Vdt} (h : v.sets = []) : Vd.endV q v = (RSet.none, false) := by unfold Vd.endV; rw [h]; rfl
theorem endV_last {q : Quest} {v : Vdt} {s : RSet} (h : v.sets[v.sets.length - 1]? = some s) : Vd.endV q v = if s.kind = q.kind then (s, true) else (RSet.none, false) := by
  unfold Vd.endV
  rw [List.getLast?_eq_getElem?, h]
set_option maxRecDepth 100000 in
set_option maxHeartbeats 2000000 in
theorem rEnd_S {K N : Blocks} (v : Vdt) (q : Quest) (a1 a2 : Option Addr) (c1 c2 : Nat) (hK : ∀ p ∈ K, p ∈ L) (hv : sliceR 5 (fun _ => rsR N) K [.slice a1 v.sets.length c1] v.sets) :
    Spec Try.prog G 59 #[.agg #[.string (bs q.name), .int .u16 q.kind, .int .u16 q.cls], .agg #[.int .u8 v.code, .slice a1 v.sets.length c1, .slice a2 v.soa.length c2]] L fun u M => ∃ cs, u = .tuple #[.agg cs.toArray, .bool (Vd.endV q v).2] ∧ rsR N cs (Vd.endV q v).1 ∧ M = L := by
  obtain ⟨_, k1, k2, hv⟩ := sliceR.cut hv
  unfold maxLen at k2
  refine Spec_of (n := 31) Try.func59 rfl rfl rfl ?_
  refine T_seq (T_region (TL_new (op_boxA rfl) rfl ?_))
  intro bQ
  refine TL_new (op_boxA rfl) rfl ?_
  intro bV
  refine TL_new (op_alloc (C := #[.string (bs []), .int .u16 0, .int .u16 0, .int .u32 0, .slice none 0 0]) zero_60 rfl) rfl ?_
  intro bS
  by_cases h0 : v.sets.length = 0
  · have hE := endV_nil (q := q) (List.eq_nil_of_length_eq_zero h0)
    rw [hE]
    have h0' : ((v.sets.length : Nat) : Int) = 0 := by omega
    have hKm : ∀ z ∈ [(bQ, Obj.cells #[.string (bs q.name), .int .u16 q.kind, .int .u16 q.cls] 34 (0, 0))], z ∈ (bS, Obj.cells #[.string (bs []), .int .u16 0, .int .u16 0, .int .u32 0, .slice none 0 0] 60 (0, 0)) :: ((bV, Obj.cells #[.int .u8 v.code, .slice a1 v.sets.length c1, .slice a2 v.soa.length c2] 42 (0, 0)) :: ((bQ, Obj.cells #[.string (bs q.name), .int .u16 q.kind, .int .u16 q.cls] 34 (0, 0)) :: L)) := (mem_of_cnt (by intro p; (try simp only [cnt_append, cnt_cons, cnt_nil]) <;> omega))
    repeat (first | with_reducible refine T_seq ?_ | with_reducible refine T_region ?_ | with_reducible refine TL_nil ?_ | with_reducible refine TQ_then ?_ | refine TL_q (op_assign rfl) rfl ?_ | refine TL_q (op_len_slice rfl Try.underlying40) rfl ?_ | refine TL_q (op_fld rfl fld_34_1) rfl ?_ | (refine' TL_q (op_ld rfl pl_23 ?_ ?_) rfl ?_; rotate_left 4; (· repeat (first | exact List.mem_cons_self | apply List.mem_cons_of_mem)); (· (rfl))))
    refine T_draw follows_mixed ([(bQ, Obj.cells #[.string (bs q.name), .int .u16 q.kind, .int .u16 q.cls] 34 (0, 0))]) [] ?_
    (refine' TA_take 0 rfl rfl (by kernel_rfl) (quiet_q (op_move rfl)) ?_ ?_; (· (assumption)))
    (refine' TA_take 1 rfl rfl (by kernel_rfl) (quiet_q (op_bin rfl rfl ?_)) ?_ ?_; rotate_left 1; (· (exact bin_eql)); (· (assumption)))
    (refine' TA_take 2 rfl rfl (by kernel_rfl) (quiet_q (op_move rfl)) ?_ ?_; (· (assumption)))
    (refine TA_take 3 rfl rfl (by kernel_rfl) (quiet_no2 rfl rfl ?_) ?_ ?_; (· (exact dT (by (assumption)))); (· (assumption)))
    (refine TA_take 4 rfl rfl (by kernel_rfl) (quiet_no2 rfl rfl ?_) ?_ ?_; (· (exact dT (by (assumption)))); (· (assumption)))
    (refine TA_take 5 rfl rfl (by kernel_rfl) (quiet_no2 rfl rfl ?_) ?_ ?_; (· (exact dT (by (assumption)))); (· (assumption)))
    (refine TA_take 6 rfl rfl (by kernel_rfl) (quiet_no2 rfl rfl ?_) ?_ ?_; (· (exact dT (by (assumption)))); (· (assumption)))
    (refine TA_take 7 rfl rfl (by kernel_rfl) (quiet_no2 rfl rfl ?_) ?_ ?_; (· (exact dT (by (assumption)))); (· (assumption)))
    (refine TA_take 8 rfl rfl (by kernel_rfl) (quiet_no2 rfl rfl ?_) ?_ ?_; (· (exact dT (by (assumption)))); (· (assumption)))
    (refine TA_take 9 rfl rfl (by kernel_rfl) (quiet_no2 rfl rfl ?_) ?_ ?_; (· (exact dT (by (assumption)))); (· (assumption)))
    (refine TA_take 10 rfl rfl (by kernel_rfl) (quiet_no2 rfl rfl ?_) ?_ ?_; (· (exact dT (by (assumption)))); (· (assumption)))
    (refine TA_take 11 rfl rfl (by kernel_rfl) (quiet_no2 rfl rfl ?_) ?_ ?_; (· (exact dT (by (assumption)))); (· (assumption)))
    (refine TA_take 12 rfl rfl (by kernel_rfl) (quiet_no2 rfl rfl ?_) ?_ ?_; (· (exact dT (by (assumption)))); (· (assumption)))
    (refine' TA_take 13 rfl rfl (by kernel_rfl) (quiet_q (op_pickT rfl ?_ rfl)) ?_ ?_; (· (exact dT (by (assumption)))); (· (assumption)))
    refine TA_done (by kernel_rfl) ?_
    repeat (first | with_reducible refine T_seq ?_ | with_reducible refine T_region ?_ | with_reducible refine TL_nil ?_ | with_reducible refine TQ_then ?_ | with_reducible refine T_ret ?_ | with_reducible refine TQ_then_ret ?_ | refine TL_q (op_assign rfl) rfl ?_ | (refine TL_stAll rfl rfl st_60 rfl rfl rfl ?_) | refine TL_q (op_build rfl (bl_60_ )) rfl ?_ | (refine T_yes rfl ?_ ?_; (· (with_reducible rfl))))
    refine TQ_retC2 4 60 5 rfl rfl rfl st_60 (by repeat ((exact List.mem_cons_self))) rfl (fun w h => Heap.cnt (L' := L) h (by intro p; (try simp only [cnt_append, cnt_cons, cnt_nil]) <;> omega)) ?_
    exact ⟨[.string (bs []), .int .u16 0, .int .u16 0, .int .u32 0, .slice none 0 0], rfl, rs_none, rfl⟩
  · have h0' : ¬ ((v.sets.length : Nat) : Int) = 0 := by omega
    rcases hv with h1 | ⟨b1, o1, C1, t1, f1, rfl, m1, q1⟩
    · rw [h1] at h0; simp at h0
    have m1 := hK _ m1
    obtain ⟨s, hs⟩ : ∃ s, v.sets[v.sets.length - 1]? = some s := ⟨_, List.getElem?_eq_getElem (by omega)⟩
    have hE := endV_last (q := q) hs
    obtain ⟨cs, _, hs2, hcs⟩ := q1 _ s hs
    obtain ⟨sa, sc, rfl, _⟩ := hs2.vals
    have hi : (((v.sets.length : Nat) : Int) - 1).toNat = v.sets.length - 1 := by omega
    rw [← hi] at hcs
    have g1 : C1[o1 + (((v.sets.length : Nat) : Int) - 1).toNat * 5 + 1]? = some (.int .u16 s.kind) := hcs 1 _ rfl
    rw [hE]
    have hKm : ∀ z ∈ [(bQ, Obj.cells #[.string (bs q.name), .int .u16 q.kind, .int .u16 q.cls] 34 (0, 0)), (bV, Obj.cells #[.int .u8 v.code, .slice (some ⟨b1, o1, none⟩) v.sets.length c1, .slice a2 v.soa.length c2] 42 (0, 0)), (b1, Obj.cells C1 t1 f1)], z ∈ (bS, Obj.cells #[.string (bs []), .int .u16 0, .int .u16 0, .int .u32 0, .slice none 0 0] 60 (0, 0)) :: ((bV, Obj.cells #[.int .u8 v.code, .slice (some ⟨b1, o1, none⟩) v.sets.length c1, .slice a2 v.soa.length c2] 42 (0, 0)) :: ((bQ, Obj.cells #[.string (bs q.name), .int .u16 q.kind, .int .u16 q.cls] 34 (0, 0)) :: L)) := by
      intro z hz
      simp only [List.mem_cons, List.not_mem_nil, or_false] at hz
      rcases hz with rfl | rfl | rfl <;> simp [m1]
    by_cases hk : s.kind = q.kind
    · rw [if_pos hk]
      repeat (first | with_reducible refine T_seq ?_ | with_reducible refine T_region ?_ | with_reducible refine TL_nil ?_ | with_reducible refine TQ_then ?_ | refine TL_q (op_assign rfl) rfl ?_ | refine TL_q (op_len_slice rfl Try.underlying40) rfl ?_ | refine TL_q (op_fld rfl fld_34_1) rfl ?_ | (refine' TL_q (op_ld rfl pl_23 ?_ ?_) rfl ?_; rotate_left 4; (· repeat (first | exact List.mem_cons_self | apply List.mem_cons_of_mem)); (· (rfl))))
      refine T_draw follows_mixed ([(bQ, Obj.cells #[.string (bs q.name), .int .u16 q.kind, .int .u16 q.cls] 34 (0, 0)), (bV, Obj.cells #[.int .u8 v.code, .slice (some ⟨b1, o1, none⟩) v.sets.length c1, .slice a2 v.soa.length c2] 42 (0, 0)), (b1, Obj.cells C1 t1 f1)]) [] ?_
      (refine' TA_take 0 rfl rfl (by kernel_rfl) (quiet_q (op_move rfl)) ?_ ?_; (· (assumption)))
      (refine' TA_take 1 rfl rfl (by kernel_rfl) (quiet_q (op_bin rfl rfl ?_)) ?_ ?_; rotate_left 1; (· (exact bin_eql)); (· (assumption)))
      (refine' TA_take 2 rfl rfl (by kernel_rfl) (quiet_q (op_move rfl)) ?_ ?_; (· (assumption)))
      (refine' TA_take 3 rfl rfl (by kernel_rfl) (quiet_g2 rfl rfl (by (exact dF (by (assumption)))) (op_fld rfl fld_42_1)) ?_ ?_; (· (assumption)))
      (refine' TA_take 4 rfl rfl (by kernel_rfl) (quiet_g2 rfl rfl (by (exact dF (by (assumption)))) (op_ld rfl pl_40 ?_ ?_)) ?_ ?_; rotate_left 4; (· repeat (first | exact List.mem_cons_self | apply List.mem_cons_of_mem)); (· (rfl)); (· (assumption)))
      (refine' TA_take 5 rfl rfl (by kernel_rfl) (quiet_g2 rfl rfl (by (exact dF (by (assumption)))) (op_move rfl)) ?_ ?_; (· (assumption)))
      (refine' TA_take 6 rfl rfl (by kernel_rfl) (quiet_g2 rfl rfl (by (exact dF (by (assumption)))) (op_bin rfl rfl ?_)) ?_ ?_; rotate_left 1; (· (exact bin_sub ⟨by omega, by omega⟩)); (· (assumption)))
      (refine' TA_take 7 rfl rfl (by kernel_rfl) (quiet_g2 rfl rfl (by (exact dF (by (assumption)))) (op_idxI ety_40 rfl rfl ?_ ?_)) ?_ ?_; (· omega); (· omega); (· (assumption)))
      (refine' TA_take 8 rfl rfl (by kernel_rfl) (quiet_g2 rfl rfl (by (exact dF (by (assumption)))) (op_fld rfl fld_60_1)) ?_ ?_; (· (assumption)))
      (refine' TA_take 9 rfl rfl (by kernel_rfl) (quiet_g2 rfl rfl (by (exact dF (by (assumption)))) (op_ld rfl pl_23 ?_ ?_)) ?_ ?_; rotate_left 4; (· repeat (first | exact List.mem_cons_self | apply List.mem_cons_of_mem)); (· (assumption)); (· (assumption)))
      (refine' TA_take 10 rfl rfl (by kernel_rfl) (quiet_g2 rfl rfl (by (exact dF (by (assumption)))) (op_fld rfl fld_34_1)) ?_ ?_; (· (assumption)))
      (refine' TA_take 11 rfl rfl (by kernel_rfl) (quiet_g2 rfl rfl (by (exact dF (by (assumption)))) (op_ld rfl pl_23 ?_ ?_)) ?_ ?_; rotate_left 4; (· repeat ((exact List.mem_cons_self))); (· (rfl)); (· (assumption)))
      (refine' TA_take 12 rfl rfl (by kernel_rfl) (quiet_g2 rfl rfl (by (exact dF (by (assumption)))) (op_bin rfl rfl ?_)) ?_ ?_; rotate_left 1; (· (exact bin_neq)); (· (assumption)))
      (refine' TA_take 13 rfl rfl (by kernel_rfl) (quiet_q (op_pickF rfl ?_ rfl)) ?_ ?_; (· (exact dF (by (assumption)))); (· (assumption)))
      refine TA_done (by kernel_rfl) ?_
      repeat (first | with_reducible refine T_seq ?_ | with_reducible refine T_region ?_ | with_reducible refine TQ_then ?_ | with_reducible refine T_skip ?_ | refine TL_q (op_move rfl) rfl ?_ | (refine' TL_q (op_bin rfl rfl ?_) rfl ?_; rotate_left 1; (· (exact bin_sub ⟨by omega, by omega⟩))) | (refine' TL_q (op_idxI ety_40 rfl rfl ?_ ?_) rfl ?_; (· omega); (· omega)) | refine TL_q (op_fld rfl fld_34_1) rfl ?_ | (refine' TL_q (op_ld rfl pl_23 ?_ ?_) rfl ?_; rotate_left 4; (· repeat (first | exact List.mem_cons_self | apply List.mem_cons_of_mem)); (· (rfl))) | (refine T_no rfl ?_ ?_; (· (exact nF (by (assumption))))))
      refine TL_q (op_ldA [.string (bs s.name), .int .u16 s.kind, .int .u16 s.cls, .int .u32 s.ttl, .slice sa s.data.length sc] rfl st_60 (List.mem_cons_of_mem _ (List.mem_cons_of_mem _ (List.mem_cons_of_mem _ m1))) hcs) rfl ?_
      repeat (first | with_reducible refine TL_nil ?_ | with_reducible refine TQ_then ?_ | with_reducible refine T_ret ?_ | refine TL_q (op_assign rfl) rfl ?_ | (refine TL_stAll rfl rfl st_60 rfl rfl rfl ?_))
      refine TQ_retC2 4 60 5 rfl rfl rfl st_60 (by repeat ((exact List.mem_cons_self))) rfl (fun w h => Heap.cnt (L' := L) h (by intro p; (try simp only [cnt_append, cnt_cons, cnt_nil]) <;> omega)) ?_
      exact ⟨_, rfl, hs2, rfl⟩
    · rw [if_neg hk]
      repeat (first | with_reducible refine T_seq ?_ | with_reducible refine T_region ?_ | with_reducible refine TL_nil ?_ | with_reducible refine TQ_then ?_ | refine TL_q (op_assign rfl) rfl ?_ | refine TL_q (op_len_slice rfl Try.underlying40) rfl ?_ | refine TL_q (op_fld rfl fld_34_1) rfl ?_ | (refine' TL_q (op_ld rfl pl_23 ?_ ?_) rfl ?_; rotate_left 4; (· repeat (first | exact List.mem_cons_self | apply List.mem_cons_of_mem)); (· (rfl))))
      refine T_draw follows_mixed ([(bQ, Obj.cells #[.string (bs q.name), .int .u16 q.kind, .int .u16 q.cls] 34 (0, 0)), (bV, Obj.cells #[.int .u8 v.code, .slice (some ⟨b1, o1, none⟩) v.sets.length c1, .slice a2 v.soa.length c2] 42 (0, 0)), (b1, Obj.cells C1 t1 f1)]) [] ?_
      (refine' TA_take 0 rfl rfl (by kernel_rfl) (quiet_q (op_move rfl)) ?_ ?_; (· (assumption)))
      (refine' TA_take 1 rfl rfl (by kernel_rfl) (quiet_q (op_bin rfl rfl ?_)) ?_ ?_; rotate_left 1; (· (exact bin_eql)); (· (assumption)))
      (refine' TA_take 2 rfl rfl (by kernel_rfl) (quiet_q (op_move rfl)) ?_ ?_; (· (assumption)))
      (refine' TA_take 3 rfl rfl (by kernel_rfl) (quiet_g2 rfl rfl (by (exact dF (by (assumption)))) (op_fld rfl fld_42_1)) ?_ ?_; (· (assumption)))
      (refine' TA_take 4 rfl rfl (by kernel_rfl) (quiet_g2 rfl rfl (by (exact dF (by (assumption)))) (op_ld rfl pl_40 ?_ ?_)) ?_ ?_; rotate_left 4; (· repeat (first | exact List.mem_cons_self | apply List.mem_cons_of_mem)); (· (rfl)); (· (assumption)))
      (refine' TA_take 5 rfl rfl (by kernel_rfl) (quiet_g2 rfl rfl (by (exact dF (by (assumption)))) (op_move rfl)) ?_ ?_; (· (assumption)))
      (refine' TA_take 6 rfl rfl (by kernel_rfl) (quiet_g2 rfl rfl (by (exact dF (by (assumption)))) (op_bin rfl rfl ?_)) ?_ ?_; rotate_left 1; (· (exact bin_sub ⟨by omega, by omega⟩)); (· (assumption)))
      (refine' TA_take 7 rfl rfl (by kernel_rfl) (quiet_g2 rfl rfl (by (exact dF (by (assumption)))) (op_idxI ety_40 rfl rfl ?_ ?_)) ?_ ?_; (· omega); (· omega); (· (assumption)))
      (refine' TA_take 8 rfl rfl (by kernel_rfl) (quiet_g2 rfl rfl (by (exact dF (by (assumption)))) (op_fld rfl fld_60_1)) ?_ ?_; (· (assumption)))
      (refine' TA_take 9 rfl rfl (by kernel_rfl) (quiet_g2 rfl rfl (by (exact dF (by (assumption)))) (op_ld rfl pl_23 ?_ ?_)) ?_ ?_; rotate_left 4; (· repeat (first | exact List.mem_cons_self | apply List.mem_cons_of_mem)); (· (assumption)); (· (assumption)))
      (refine' TA_take 10 rfl rfl (by kernel_rfl) (quiet_g2 rfl rfl (by (exact dF (by (assumption)))) (op_fld rfl fld_34_1)) ?_ ?_; (· (assumption)))
      (refine' TA_take 11 rfl rfl (by kernel_rfl) (quiet_g2 rfl rfl (by (exact dF (by (assumption)))) (op_ld rfl pl_23 ?_ ?_)) ?_ ?_; rotate_left 4; (· repeat ((exact List.mem_cons_self))); (· (rfl)); (· (assumption)))
      (refine' TA_take 12 rfl rfl (by kernel_rfl) (quiet_g2 rfl rfl (by (exact dF (by (assumption)))) (op_bin rfl rfl ?_)) ?_ ?_; rotate_left 1; (· (exact bin_neq)); (· (assumption)))
      (refine' TA_take 13 rfl rfl (by kernel_rfl) (quiet_q (op_pickF rfl ?_ rfl)) ?_ ?_; (· (exact dF (by (assumption)))); (· (assumption)))
      refine TA_done (by kernel_rfl) ?_
      repeat (first | with_reducible refine T_seq ?_ | with_reducible refine T_region ?_ | with_reducible refine TL_nil ?_ | with_reducible refine TQ_then ?_ | with_reducible refine T_ret ?_ | with_reducible refine TQ_then_ret ?_ | refine TL_q (op_assign rfl) rfl ?_ | (refine TL_stAll rfl rfl st_60 rfl rfl rfl ?_) | refine TL_q (op_build rfl (bl_60_ )) rfl ?_ | (refine T_yes rfl ?_ ?_; (· (exact nT (by (assumption))))))
      refine TQ_retC2 4 60 5 rfl rfl rfl st_60 (by repeat ((exact List.mem_cons_self))) rfl (fun w h => Heap.cnt (L' := L) h (by intro p; (try simp only [cnt_append, cnt_cons, cnt_nil]) <;> omega)) ?_
      exact ⟨[.string (bs []), .int .u16 0, .int .u16 0, .int .u32 0, .slice none 0 0], rfl, rs_none, rfl⟩
/-- A set whose data lie in new memory. -/
def SetOut (L : Blocks) (r : RSet × Bool) (u : Value) (M : Blocks) : Prop := ∃ a c B, u = .tuple #[.agg #[.string (bs r.1.name), .int .u16 r.1.kind, .int .u16 r.1.cls, .int .u32 r.1.ttl, .slice a r.1.data.length c], .bool r.2] ∧ ORow strR 9 1 [] a c r.1.data B ∧ M = B ++ L ∧ rsR B [.string (bs r.1.name), .int .u16 r.1.kind, .int .u16 r.1.cls, .int .u32 r.1.ttl, .slice a r.1.data.length c] r.1
theorem SetOut.none : SetOut L (RSet.none, false) (.tuple #[.agg #[.string (bs []), .int .u16 0, .int .u16 0, .int .u32 0, .slice none 0 0], .bool false]) L := ⟨Option.none, 0, [], rfl, ORow.nil _, rfl, rs_none⟩
set_option maxRecDepth 100000 in
set_option maxHeartbeats 2000000 in
theorem pEnd_S (v : Vdt) (q : Quest) (a1 a2 : Option Addr) (c1 c2 : Nat) (hv : sliceR 5 rsR L [.slice a1 v.sets.length c1] v.sets) (hd : ∀ s ∈ v.sets, s.data.length ≤ 100000) :
    Spec Try.prog G 26 #[.agg #[.string (bs q.name), .int .u16 q.kind, .int .u16 q.cls], .agg #[.int .u8 v.code, .slice a1 v.sets.length c1, .slice a2 v.soa.length c2]] L (SetOut L (Vd.endV q v)) := by
  obtain ⟨_, k1, k2, hv⟩ := sliceR.cut hv
  unfold maxLen at k2
  refine Spec_of (n := 31) Try.func26 rfl rfl rfl ?_
  refine T_seq (T_region (TL_new (op_boxA rfl) rfl ?_))
  intro bQ
  refine TL_new (op_boxA rfl) rfl ?_
  intro bV
  refine TL_new (op_alloc (C := #[.string (bs []), .int .u16 0, .int .u16 0, .int .u32 0, .slice none 0 0]) zero_60 rfl) rfl ?_
  intro bS
  by_cases h0 : v.sets.length = 0
  · have hE := endV_nil (q := q) (List.eq_nil_of_length_eq_zero h0)
    rw [hE]
    have h0' : ((v.sets.length : Nat) : Int) = 0 := by omega
    repeat (first | with_reducible refine T_seq ?_ | with_reducible refine T_region ?_ | with_reducible refine TL_nil ?_ | with_reducible refine TQ_then ?_ | with_reducible refine T_ret ?_ | with_reducible refine TQ_then_ret ?_ | refine TL_q (op_assign rfl) rfl ?_ | (refine' TL_q (op_bin rfl rfl ?_) rfl ?_; rotate_left 1; (· (exact bin_eql))) | refine TL_q (op_len_slice rfl Try.underlying40) rfl ?_ | refine TL_q (op_fld rfl fld_34_1) rfl ?_ | (refine' TL_q (op_ld rfl pl_23 ?_ ?_) rfl ?_; rotate_left 4; (· repeat (first | exact List.mem_cons_self | apply List.mem_cons_of_mem)); (· (rfl))) | (refine TL_stAll rfl rfl st_60 rfl rfl rfl ?_) | refine TL_q (op_build rfl (bl_60_ )) rfl ?_ | (refine T_yes rfl ?_ ?_; (· (exact dT (by (assumption))))))
    refine TQ_retC2 4 60 5 rfl rfl rfl st_60 (by repeat ((exact List.mem_cons_self))) rfl (fun w h => Heap.cnt (L' := L) h (by intro p; (try simp only [cnt_append, cnt_cons, cnt_nil]) <;> omega)) ?_
    exact SetOut.none
  · have h0' : ¬ ((v.sets.length : Nat) : Int) = 0 := by omega
    rcases hv with h1 | ⟨b1, o1, C1, t1, f1, rfl, m1, q1⟩
    · rw [h1] at h0; simp at h0
    obtain ⟨s, hs⟩ : ∃ s, v.sets[v.sets.length - 1]? = some s := ⟨_, List.getElem?_eq_getElem (by omega)⟩
    have hE := endV_last (q := q) hs
    obtain ⟨cs, _, hs2, hcs⟩ := q1 _ s hs
    obtain ⟨sa, sc, rfl, hsd, hs4⟩ := hs2.vals
    have hi : (((v.sets.length : Nat) : Int) - 1).toNat = v.sets.length - 1 := by omega
    rw [← hi] at hcs
    rw [hE]
    by_cases hk : s.kind = q.kind
    · rw [if_pos hk]
      repeat (first | with_reducible refine T_seq ?_ | with_reducible refine T_region ?_ | with_reducible refine TL_nil ?_ | with_reducible refine TQ_then ?_ | with_reducible refine T_skip ?_ | refine TL_q (op_assign rfl) rfl ?_ | (refine' TL_q (op_bin rfl rfl ?_) rfl ?_; rotate_left 1; (· first | exact bin_sub ⟨by omega, by omega⟩ | exact bin_eql)) | refine TL_q (op_len_slice rfl Try.underlying40) rfl ?_ | (refine' TL_q (op_idxI ety_40 rfl rfl ?_ ?_) rfl ?_; (· omega); (· omega)) | refine TL_q (op_fld rfl fld_34_1) rfl ?_ | (refine' TL_q (op_ld rfl pl_23 ?_ ?_) rfl ?_; rotate_left 4; (· repeat (first | exact List.mem_cons_self | apply List.mem_cons_of_mem)); (· (rfl))) | (refine T_no rfl ?_ ?_; (· (exact dF (by (assumption))))))
      refine TL_q (op_ldA [.string (bs s.name), .int .u16 s.kind, .int .u16 s.cls, .int .u32 s.ttl, .slice sa s.data.length sc] rfl st_60 (List.mem_cons_of_mem _ (List.mem_cons_of_mem _ (List.mem_cons_of_mem _ m1))) hcs) rfl ?_
      repeat (first | with_reducible refine T_seq ?_ | with_reducible refine T_region ?_ | with_reducible refine TL_nil ?_ | with_reducible refine TQ_then ?_ | with_reducible refine T_skip ?_ | (refine' TL_q (op_bin rfl rfl ?_) rfl ?_; rotate_left 1; (· (exact bin_neq))) | refine TL_q (op_fld rfl fld_34_1) rfl ?_ | refine TL_q (op_fld rfl fld_60_4) rfl ?_ | (refine' TL_q (op_ld rfl pl_23 ?_ ?_) rfl ?_; rotate_left 4; (· repeat (first | exact List.mem_cons_self | apply List.mem_cons_of_mem)); (· (rfl))) | (refine TL_stAll rfl rfl st_60 rfl rfl rfl ?_) | (refine TL_new (op_alloc (C := #[(.string (bs [])), (.int .u16 0), (.int .u16 0), (.int .u32 0), (.slice none 0 0)]) zero_60 rfl) rfl ?_; intro bNew) | (refine T_no rfl ?_ ?_; (· (exact nF (by (assumption))))))
      refine TL_opT (op_call hb_63 rfl (Clone_S _ s.data (mono_slice mono_str _ _ _ _ (mem_of_cnt (by intro p; (try simp only [cnt_append, cnt_cons, cnt_nil]) <;> omega)) hsd) (Nat.le_trans (hd s (List.mem_of_getElem? hs)) (by omega)))) rfl ?_
      rintro _ _ ⟨ad, cd, Bd, rfl, hBd, rfl⟩
      have hBd' := hBd.imp (r' := strR) (L' := []) (fun cs y _ h => h)
      refine TL_cnt (L' := (bNew, Obj.cells #[.string (bs s.name), .int .u16 s.kind, .int .u16 s.cls, .int .u32 s.ttl, .slice sa s.data.length sc] 60 (0, 0)) :: ((bS, Obj.cells #[.string (bs []), .int .u16 0, .int .u16 0, .int .u32 0, .slice none 0 0] 60 (0, 0)) :: (Bd ++ L))) ?_ (by intro p; (try simp only [cnt_append, cnt_cons, cnt_nil]) <;> omega)
      repeat ((refine TL_q (op_fld rfl fld_60_4) rfl ?_))
      refine TL_st (C' := #[.string (bs s.name), .int .u16 s.kind, .int .u16 s.cls, .int .u32 s.ttl, .slice ad s.data.length cd]) rfl rfl one_58 rfl rfl rfl ?_
      repeat (first | with_reducible refine T_seq ?_ | with_reducible refine T_region ?_ | with_reducible refine TL_nil ?_ | with_reducible refine TQ_then ?_ | (refine' TL_q (op_ldAll rfl st_60 ?_ ?_) rfl ?_; rotate_left 3; (· repeat ((exact List.mem_cons_self))); (· (assumption))))
      refine TL_cnt (L' := (bS, Obj.cells #[.string (bs []), .int .u16 0, .int .u16 0, .int .u32 0, .slice none 0 0] 60 (0, 0)) :: (Bd ++ L)) ?_ (by intro p; (try simp only [cnt_append, cnt_cons, cnt_nil]) <;> omega)
      repeat (first | with_reducible refine TL_nil ?_ | with_reducible refine TQ_then ?_ | with_reducible refine T_ret ?_ | refine TL_q (op_assign rfl) rfl ?_ | (refine TL_stAll rfl rfl st_60 rfl rfl rfl ?_))
      refine TQ_retC2 4 60 5 rfl rfl rfl st_60 (by repeat ((exact List.mem_cons_self))) rfl (fun w h => Heap.cnt (L' := Bd ++ L) h (by intro p; (try simp only [cnt_append, cnt_cons, cnt_nil]) <;> omega)) ?_
      exact ⟨ad, cd, Bd, rfl, hBd', rfl, _, rfl, hBd'.sliceR mono_str (by simp) (fun p h => h), hs4⟩
    · rw [if_neg hk]
      repeat (first | with_reducible refine T_seq ?_ | with_reducible refine T_region ?_ | with_reducible refine TL_nil ?_ | with_reducible refine TQ_then ?_ | with_reducible refine T_skip ?_ | refine TL_q (op_assign rfl) rfl ?_ | (refine' TL_q (op_bin rfl rfl ?_) rfl ?_; rotate_left 1; (· first | exact bin_sub ⟨by omega, by omega⟩ | exact bin_eql)) | refine TL_q (op_len_slice rfl Try.underlying40) rfl ?_ | (refine' TL_q (op_idxI ety_40 rfl rfl ?_ ?_) rfl ?_; (· omega); (· omega)) | refine TL_q (op_fld rfl fld_34_1) rfl ?_ | (refine' TL_q (op_ld rfl pl_23 ?_ ?_) rfl ?_; rotate_left 4; (· repeat (first | exact List.mem_cons_self | apply List.mem_cons_of_mem)); (· (rfl))) | (refine T_no rfl ?_ ?_; (· (exact dF (by (assumption))))))
      refine TL_q (op_ldA [.string (bs s.name), .int .u16 s.kind, .int .u16 s.cls, .int .u32 s.ttl, .slice sa s.data.length sc] rfl st_60 (List.mem_cons_of_mem _ (List.mem_cons_of_mem _ (List.mem_cons_of_mem _ m1))) hcs) rfl ?_
      repeat (first | with_reducible refine T_seq ?_ | with_reducible refine T_region ?_ | with_reducible refine TL_nil ?_ | with_reducible refine TQ_then ?_ | (refine' TL_q (op_bin rfl rfl ?_) rfl ?_; rotate_left 1; (· (exact bin_neq))) | refine TL_q (op_fld rfl fld_34_1) rfl ?_ | (refine' TL_q (op_ld rfl pl_23 ?_ ?_) rfl ?_; rotate_left 4; (· repeat (first | exact List.mem_cons_self | apply List.mem_cons_of_mem)); (· (rfl))) | (refine TL_stAll rfl rfl st_60 rfl rfl rfl ?_) | (refine TL_new (op_alloc (C := #[(.string (bs [])), (.int .u16 0), (.int .u16 0), (.int .u32 0), (.slice none 0 0)]) zero_60 rfl) rfl ?_; intro bNew) | refine TL_q (op_build rfl (bl_60_ )) rfl ?_ | (refine T_yes rfl ?_ ?_; (· (exact nT (by (assumption))))))
      refine TL_cnt (L' := (bS, Obj.cells #[.string (bs []), .int .u16 0, .int .u16 0, .int .u32 0, .slice none 0 0] 60 (0, 0)) :: L) ?_ (by intro p; (try simp only [cnt_append, cnt_cons, cnt_nil]) <;> omega)
      repeat (first | with_reducible refine TL_nil ?_ | with_reducible refine TQ_then ?_ | with_reducible refine T_ret ?_ | with_reducible refine TQ_then_ret ?_ | refine TL_q (op_assign rfl) rfl ?_ | (refine TL_stAll rfl rfl st_60 rfl rfl rfl ?_))
      refine TQ_retC2 4 60 5 rfl rfl rfl st_60 (by repeat ((exact List.mem_cons_self))) rfl (fun w h => Heap.cnt (L' := L) h (by intro p; (try simp only [cnt_append, cnt_cons, cnt_nil]) <;> omega)) ?_
      exact SetOut.none
end Go.Proofs.Ytdflhdfapnhjjaa
