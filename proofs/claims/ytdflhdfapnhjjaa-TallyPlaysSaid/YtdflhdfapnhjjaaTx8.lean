/-
  Part 8: Km Kn Ko Kp.
-/
import Derived.Test.YtdflhdfapnhjjaaTx7
namespace Go.Proofs.Ytdflhdfapnhjjaa
open Go.RowKit
open Vd (RSet Vdt Vote Rec Quest Piece Ballot)
set_option linter.unusedVariables false
set_option linter.unusedSimpArgs false
--auto
section
variable {G : World} {P : Program} {n : Nat} {ρ : Slots} {L : Blocks} {ty : TypeId} {Q : Exit → Act → World → Prop}
theorem TQ_retC4 {fn : Func} {Φ : Value → Blocks → Prop} (a t u s r : Nat) {b k : Nat} {C : Array Value} {te : TypeId} {fr : Nat × Nat} {x y z : Value} {L' : Blocks} (hr : fn.results = #[.cell a t, .tmp u, .tmp s, .tmp r]) (hv : ρ.lookup a = some (.pointer (some ⟨b, 0, none⟩))) (hx : ρ.lookup u = some x) (hy : ρ.lookup s = some y) (hz : ρ.lookup r = some z)
    (ht : structTy P t k = true) (hm : (b, Obj.cells C te fr) ∈ L) (hk : C.size = k) (hl : ∀ w, Heap G w L → Heap G w L') (h : Φ (.tuple #[.agg C, x, y, z]) L') : TQ G n ρ L .ret (bodyPost P fn (RetPost G Φ)) :=
  ⟨fun ac w he hw => ⟨he.defers, .tuple #[.agg C, x, y, z], by
    obtain ⟨h1, h0⟩ := cell_run he hv ht (hw.get _ hm) hk
    have h2 : ac.tmps.getD u undef = x := he.reads (.tmp u) x hx
    have h3 : ac.tmps.getD s undef = y := he.reads (.tmp s) y hy
    have h4 : ac.tmps.getD r undef = z := he.reads (.tmp r) z hz
    rw [Array.getD_eq_getD_getElem?] at h1 h2 h3 h4
    simp only [results, hr]
    simp
    simp [h1, asAddr, h0, h2, h3, h4], _, L', rfl, h, hl w hw⟩⟩
theorem op_pushI {s x : Operand} {t e te : TypeId} {bytes bl : Nat} {z : Value} {a : Option Addr} {c : Nat} {y : Int} {l : List Int} {B L0 : Blocks} (E : ElemTy P t e 1 bytes z) (hs : ev ρ s = some (.slice a l.length c)) (hx : ev ρ x = some (.slice (some ⟨bl, 0, none⟩) 1 1))
    (hrow : ORow (intR .i64) e 1 L0 a c l B) (hy : InLit .i64 y) (h63 : l.length ≤ 1000000) (hb : bytes ≤ 1000) :
    OpT P G ρ ((bl, .cells #[.int .i64 y] te (0, 0)) :: (B ++ L)) (.call ⟨.builtin .append, #[s, x], #[t, t]⟩) ty fun v' L' => ∃ a' c' B', v' = .slice a' (l ++ [y]).length c' ∧ ORow (intR .i64) e 1 L0 a' c' (l ++ [y]) B' ∧ L' = B' ++ L :=
  op_push (cs := [.int .i64 y]) E hs hx hrow rfl (by intro v hv; rw [List.mem_singleton.1 hv]; rfl) ⟨rfl, hy⟩ (by unfold maxLen; omega) (Nat.le_trans (Nat.mul_le_mul (show l.length + 1 ≤ 1000001 by omega) hb) (by decide))
end
theorem slip_neq (p q r s : Int) (w : World) : (binOp .neq 97 (.agg #[.int .u8 p, .int .i64 r]) (.agg #[.int .u8 q, .int .i64 s])).run Try.prog w = .ok (.bool (!decide ((p, r) = (q, s)))) w := by
  by_cases h2 : p = q <;> by_cases h3 : r = s <;> (go_simp; try simp [h2, h3])
theorem slip_eql (p q r s : Int) (w : World) : (binOp .eql 97 (.agg #[.int .u8 p, .int .i64 r]) (.agg #[.int .u8 q, .int .i64 s])).run Try.prog w = .ok (.bool (decide ((p, r) = (q, s)))) w := by
  by_cases h2 : p = q <;> by_cases h3 : r = s <;> (go_simp; try simp [h2, h3])
theorem bin_slipN {p q r s : Int} : Bin Try.prog .neq 97 (.agg #[.int .u8 p, .int .i64 r]) (.agg #[.int .u8 q, .int .i64 s]) (.bool (!decide ((p, r) = (q, s)))) := ⟨fun a b w => by
  have h := slip_neq p q r s w
  simp [eqGuard, h]⟩
theorem bin_slipE {p q r s : Int} : Bin Try.prog .eql 97 (.agg #[.int .u8 p, .int .i64 r]) (.agg #[.int .u8 q, .int .i64 s]) (.bool (decide ((p, r) = (q, s)))) := ⟨fun a b w => by
  have h := slip_eql p q r s w
  simp [eqGuard, h]⟩
variable {G : World} {L : Blocks}
/-- What Won tells. -/
def WonOut (L : Blocks) (r : Vdt × Int × List Int × Bool) (u : Value) (M : Blocks) : Prop := ∃ a c B a2 c2 B2 a3 c3 B3 N, u = .tuple #[.agg #[.int .u8 r.1.code, .slice a r.1.sets.length c, .slice a2 r.1.soa.length c2], .int .u32 r.2.1, .slice a3 r.2.2.1.length c3, .bool r.2.2.2] ∧
  ORow rsR 60 5 N a c r.1.sets B ∧ ORow rsR 60 5 N a2 c2 r.1.soa B2 ∧ ORow (intR .i64) 3 1 [] a3 c3 r.2.2.1 B3 ∧ Wr N ∧ M = B3 ++ (B2 ++ (B ++ (N ++ L)))
def wonP (want : Int) (vs : List Vote) : Vdt × Int × List Int × Bool := if want < 1 then (Vdt.none, 0, [], false) else wonR want vs
theorem up_lit {x : Int} (h : 0 ≤ x ∧ x < 9) : InLit .i64 x := by
  unfold InLit Lit.wf
  simp [IntKind.min, IntKind.max, IntKind.bits, IntKind.signed]
  omega
set_option maxRecDepth 100000 in
set_option maxHeartbeats 4000000 in
theorem pWon_S {K : Blocks} (bb : Nat) (want : Int) (l : List Ballot) (a : Option Addr) (c : Nat) (hm : (bb, Obj.cells (boxC want (slipOf l) (.slice a (Vd.votesB l).length c)).toArray 100 (0, 0)) ∈ L) (hv : sliceR 5 (fun _ => voteR K) L [.slice a (Vd.votesB l).length c] (Vd.votesB l)) (hK : ∀ p ∈ K, p ∈ L) (hl : BoxOk l) (hn : l.length ≤ 9) (hs : ∀ x ∈ Vd.votesB l, SmV x.vd) :
    Spec Try.prog G 35 #[.pointer (some ⟨bb, 0, none⟩)] L (WonOut L (wonP want (Vd.votesB l))) := by
  have hvl := votesB_len l
  have hup := hl.vup
  have hcap := (sliceR.cut hv).2
  unfold maxLen at hcap
  obtain ⟨hcap1, hcap2, _⟩ := hcap
  refine Spec_of (n := 73) Try.func35 rfl rfl rfl ?_
  refine T_seq (T_region (TL_new (op_alloc (C := #[.int .u8 0, .slice none 0 0, .slice none 0 0]) zero_42 rfl) rfl ?_))
  intro b2
  repeat ((first | with_reducible refine T_seq ?_ | with_reducible refine T_region ?_ | with_reducible refine TL_nil ?_ | with_reducible refine TQ_then ?_ | refine TL_q (op_move rfl) rfl ?_ | refine TL_q (op_assign rfl) rfl ?_))
  refine TL_op (op_call hb_67 rfl (pWinner_S bb want l a c (List.mem_cons_of_mem _ hm) (mono_slice mono_const _ _ _ _ (mem_of_cnt (by intro p; (try simp only [cnt_append, cnt_cons, cnt_nil]) <;> omega)) hv) hl hn)) rfl ?_
  obtain ⟨vs, hvs⟩ : ∃ vs, Vd.votesB l = vs := ⟨_, rfl⟩
  rw [hvs] at hm hv hs hvl hup hcap1 ⊢
  by_cases hno : want < 1 ∨ wonAt want vs vs.length = none
  · have hW : winS want vs = ((0, 0), false) := by
      unfold winS
      by_cases hw : want < 1
      · rw [if_pos hw]
      · rw [if_neg hw, hno.resolve_left hw]
    have hR : wonP want vs = (Vdt.none, 0, [], false) := by
      unfold wonP
      by_cases hw : want < 1
      · rw [if_pos hw]
      · rw [if_neg hw]
        unfold wonR
        rw [hno.resolve_left hw]
    rw [hW, hR]
    repeat ((first | with_reducible refine T_seq ?_ | with_reducible refine T_region ?_ | with_reducible refine TL_nil ?_ | with_reducible refine TQ_then ?_ | refine TL_q (op_move rfl) rfl ?_ | refine TL_q (op_assign rfl) rfl ?_ | refine TL_q (op_not rfl) rfl ?_ | refine TL_q (op_extract rfl rfl) rfl ?_ | (refine TL_stAll rfl rfl st_97 rfl rfl rfl ?_) | (refine TL_new (op_alloc (C := #[(.int .u8 0), (.int .i64 0)]) zero_97 rfl) rfl ?_; intro bNew) | refine TL_q (op_build rfl (bl_42_ )) rfl ?_ | (refine T_yes rfl ?_ ?_; (· (exact Bool.not_false)))))
    refine TL_cnt (L' := (b2, Obj.cells #[.int .u8 0, .slice none 0 0, .slice none 0 0] 42 (0, 0)) :: L) ?_ (by intro p; (try simp only [cnt_append, cnt_cons, cnt_nil]) <;> omega)
    repeat ((first | with_reducible refine TL_nil ?_ | with_reducible refine TQ_then ?_ | with_reducible refine T_ret ?_ | with_reducible refine TQ_then_ret ?_ | refine TL_q (op_assign rfl) rfl ?_ | (refine TL_stAll rfl rfl st_42 rfl rfl rfl ?_)))
    clear hm
    refine TQ_retC4 2 42 3 4 5 rfl rfl rfl rfl rfl st_42 (by repeat ((exact List.mem_cons_self))) rfl (fun w h => Heap.cnt (L' := L) h (by intro p; (try simp only [cnt_append, cnt_cons, cnt_nil]) <;> omega)) ?_
    exact ⟨none, 0, [], none, 0, [], none, 0, [], [], rfl, ORow.nil _, ORow.nil _, ORow.nil _, Wr.nil, rfl⟩
  · have hw : ¬ want < 1 := fun h => hno (Or.inl h)
    have hw1 : 1 ≤ want := by omega
    have hyes : wonAt want vs vs.length ≠ none := fun h => hno (Or.inr h)
    obtain ⟨j, x, hk⟩ : ∃ j x, WonBy want vs j x := by
      rcases won_or hw1 vs with ⟨h, _⟩ | h
      · exact absurd h hyes
      · exact h
    have hxm := List.mem_of_getElem? hk.at_
    have hjl := (List.getElem?_eq_some_iff.1 hk.at_).1
    have hfs := firstOf_spec hxm
    obtain ⟨hfl, z, hz, hzx⟩ := hfs
    have hW : winS want vs = ((2, (firstOf vs x.vd : Int)), true) := by
      unfold winS
      rw [if_neg hw, hk.yes]
      dsimp only
      rw [hk.at_]
    have hR : wonP want vs = wonR want vs := if_neg hw
    rw [hW, hR, hk.is]
    have hfi : ∀ y ∈ vs, firstOf vs y.vd = firstOf vs x.vd ↔ y.vd = x.vd := fun y hy => firstOf_inj hy hxm
    obtain ⟨fx, hfx⟩ : ∃ f, firstOf vs x.vd = f := ⟨_, rfl⟩
    rw [hfx] at hfl hz hfi ⊢
    obtain ⟨_, kv1, kv2, hvc⟩ := sliceR.cut hv
    rcases hvc with h1 | ⟨bc, oc, cur, tc, fc, rfl, mc, hcur⟩
    · rw [h1] at hjl; simp at hjl
    have g0 : (boxC want (slipOf l) (.slice (some ⟨bc, oc, none⟩) vs.length c)).toArray[0 + 0]? = some (.int .i64 want) := rfl
    have g19 : (boxC want (slipOf l) (.slice (some ⟨bc, oc, none⟩) vs.length c)).toArray[0 + 19]? = some (.slice (some ⟨bc, oc, none⟩) vs.length c) := rfl
    repeat ((first | with_reducible refine T_seq ?_ | with_reducible refine T_block ?_ | with_reducible refine T_region ?_ | with_reducible refine TL_nil ?_ | with_reducible refine TQ_then ?_ | with_reducible refine T_skip ?_ | refine TL_q (op_move rfl) rfl ?_ | refine TL_q (op_assign rfl) rfl ?_ | refine TL_q (op_not rfl) rfl ?_ | refine TL_q (op_extract rfl rfl) rfl ?_ | refine TL_q (op_nilCheck rfl) rfl ?_ | refine TL_q (op_len_slice rfl Try.underlying47) rfl ?_ | refine TL_q (op_fld rfl fld_100_2) rfl ?_ | (refine' TL_q (op_ld rfl pl_3 ?_ ?_) rfl ?_; rotate_left 4; (· repeat ((first | assumption | apply List.mem_cons_of_mem))); (· (assumption))) | (refine TL_stAll rfl rfl st_97 rfl rfl rfl ?_) | (refine TL_new (op_alloc (C := #[(.int .u8 0), (.int .i64 0)]) zero_97 rfl) rfl ?_; intro bNew) | (refine T_no rfl ?_ ?_; (· (exact Bool.not_true)))))
    obtain ⟨b6, hb6⟩ : ∃ b, bNew = b := ⟨_, rfl⟩
    rw [hb6]
    clear hb6 bNew
    have hlenW : ∀ i, ((withV (vs.take i) x.vd).map (·.up)).length = (withV (vs.take i) x.vd).length := fun i => List.length_map _
    have hW9 : ∀ i, (withV (vs.take i) x.vd).length ≤ 9 := fun i => by
      have := ((hup.take i).filter fun y => decide (y.vd = x.vd)).len
      exact this
    refine T_loopS (σ := Nat × Option Addr × Nat × Blocks) (fun y => y.1 ≤ j ∧ ORow (intR .i64) 3 1 [] y.2.1 y.2.2.1 ((withV (vs.take y.1) x.vd).map (·.up)) y.2.2.2) (fun y => [(0, .pointer (some ⟨bb, 0, none⟩)), (2, .pointer (some ⟨b2, 0, none⟩)), (3, .int .u32 (timeP (withV (vs.take y.1) x.vd))), (4, .slice y.2.1 ((withV (vs.take y.1) x.vd).map (·.up)).length y.2.2.1), (5, .bool true), (6, .pointer (some ⟨b6, 0, none⟩)), (20, .slice (some ⟨bc, oc, none⟩) vs.length c), (21, .int .i64 (vs.length : Nat)), (22, .int .i64 (y.1 : Nat))]) (fun y => y.2.2.2 ++ ((b6, Obj.cells #[.int .u8 2, .int .i64 (fx : Nat)] 97 (0, 0)) :: ((b2, Obj.cells #[.int .u8 0, .slice none 0 0, .slice none 0 0] 42 (0, 0)) :: L))) (fun y => vs.length - y.1) (0, none, 0, []) ⟨Nat.zero_le _, ORow.nil _⟩ ?_ (fun w h => h) ?_
    (repeat ((first | exact trivial | refine ⟨rfl, ?_⟩)))
    rintro ⟨i, a4, c4, B4⟩ ⟨hi, hB4⟩
    dsimp only at hi hB4 ⊢
    have hil : i < vs.length := by omega
    obtain ⟨y, hy⟩ : ∃ y, vs[i]? = some y := ⟨_, List.getElem?_eq_getElem hil⟩
    have hym := List.mem_of_getElem? hy
    obtain ⟨csy, _, hyv, hcy⟩ := hcur i y hy
    obtain ⟨y1, yc1, y2, yc2, rfl, hy1, hy2, hy3, hy4, hy5⟩ := hyv.vals
    obtain ⟨hu0, hu9⟩ := hup.up y hym
    have hsl : slipOf l y.up = (2, (firstOf vs y.vd : Int)) := by rw [← hvs]; exact slip_vote hl (by rw [hvs]; exact hym)
    have hWs := withV_take (vs := vs) hy x.vd
    have hWi := hlenW i
    have hWi9 := hW9 i
    have mc' : (bc, Obj.cells cur tc fc) ∈ B4 ++ ((b6, Obj.cells #[.int .u8 2, .int .i64 (fx : Nat)] 97 (0, 0)) :: ((b2, Obj.cells #[.int .u8 0, .slice none 0 0, .slice none 0 0] 42 (0, 0)) :: L)) := List.mem_append_right _ (List.mem_cons_of_mem _ (List.mem_cons_of_mem _ mc))
    repeat ((first | with_reducible refine T_seq ?_ | with_reducible refine T_block ?_ | with_reducible refine T_region ?_ | with_reducible refine TL_nil ?_ | with_reducible refine TQ_then ?_ | with_reducible refine T_skip ?_ | (refine' TL_q (op_bin rfl rfl ?_) rfl ?_; rotate_left 1; (· (exact bin_lss))) | (refine' TL_q (op_idx ety_47 rfl rfl ?_) rfl ?_; (· omega)) | (refine T_yes rfl ?_ ?_; (· (exact dT (by (omega)))))))
    refine TL_q (op_ldA [.int .i64 y.up, .int .u8 y.vd.code, .slice y1 y.vd.sets.length yc1, .slice y2 y.vd.soa.length yc2, .int .u32 y.time] rfl st_46 mc' hcy) rfl ?_
    repeat ((first | with_reducible refine T_seq ?_ | with_reducible refine TL_nil ?_ | with_reducible refine TQ_then ?_ | (refine TL_stAll rfl rfl st_46 rfl rfl rfl ?_) | (refine TL_new (op_alloc (C := #[(.int .i64 0), (.int .u8 0), (.slice none 0 0), (.slice none 0 0), (.int .u32 0)]) zero_46 rfl) rfl ?_; intro bNew)))
    obtain ⟨b8, hb8⟩ : ∃ b, bNew = b := ⟨_, rfl⟩
    rw [hb8]
    clear hb8 bNew
    have hslip : ∀ k v, ([.int .u8 2, .int .i64 (firstOf vs y.vd : Nat)] : List Value)[k]? = some v → (boxC want (slipOf l) (.slice (some ⟨bc, oc, none⟩) vs.length c)).toArray[0 + 1 + y.up.toNat * 2 + k]? = some v := fun k v hj => by
      rw [Nat.zero_add]
      match k, hj with
      | 0, hj => obtain rfl := Option.some.inj hj; rw [boxC_kind ⟨hu0, hu9⟩, hsl]
      | 1, hj => obtain rfl := Option.some.inj hj; rw [boxC_first ⟨hu0, hu9⟩, hsl]
    have hKm : ∀ q ∈ [(b8, Obj.cells #[.int .i64 y.up, .int .u8 y.vd.code, .slice y1 y.vd.sets.length yc1, .slice y2 y.vd.soa.length yc2, .int .u32 y.time] 46 (0, 0)), (bb, Obj.cells (boxC want (slipOf l) (.slice (some ⟨bc, oc, none⟩) vs.length c)).toArray 100 (0, 0)), (b6, Obj.cells #[.int .u8 2, .int .i64 (fx : Nat)] 97 (0, 0))], q ∈ (b8, Obj.cells #[.int .i64 y.up, .int .u8 y.vd.code, .slice y1 y.vd.sets.length yc1, .slice y2 y.vd.soa.length yc2, .int .u32 y.time] 46 (0, 0)) :: (B4 ++ ((b6, Obj.cells #[.int .u8 2, .int .i64 (fx : Nat)] 97 (0, 0)) :: ((b2, Obj.cells #[.int .u8 0, .slice none 0 0, .slice none 0 0] 42 (0, 0)) :: L))) := by
      intro q hq
      simp only [List.mem_cons, List.not_mem_nil, or_false] at hq
      rcases hq with rfl | rfl | rfl
      · simp
      · simp [hm]
      · simp
    refine T_draw follows_mixed ([(b8, Obj.cells #[.int .i64 y.up, .int .u8 y.vd.code, .slice y1 y.vd.sets.length yc1, .slice y2 y.vd.soa.length yc2, .int .u32 y.time] 46 (0, 0)), (bb, Obj.cells (boxC want (slipOf l) (.slice (some ⟨bc, oc, none⟩) vs.length c)).toArray 100 (0, 0)), (b6, Obj.cells #[.int .u8 2, .int .i64 (fx : Nat)] 97 (0, 0))]) [] ?_
    (refine' TA_take 0 rfl rfl (by kernel_rfl) (quiet_q (op_move rfl)) ?_ ?_; (· (assumption)))
    (refine' TA_take 1 rfl rfl (by kernel_rfl) (quiet_q (op_fld rfl fld_46_0)) ?_ ?_; (· (assumption)))
    (refine' TA_take 2 rfl rfl (by kernel_rfl) (quiet_q (op_ld rfl pl_3 ?_ ?_)) ?_ ?_; rotate_left 4; (· repeat ((exact List.mem_cons_self))); (· (rfl)); (· (assumption)))
    (refine' TA_take 3 rfl rfl (by kernel_rfl) (quiet_q (op_nilCheck rfl)) ?_ ?_; (· (assumption)))
    (refine' TA_take 4 rfl rfl (by kernel_rfl) (quiet_q (op_fld rfl fld_100_1)) ?_ ?_; (· (assumption)))
    (refine' TA_take 5 rfl rfl (by kernel_rfl) (quiet_q (op_idxA arr_98 rfl rfl ?_ ?_)) ?_ ?_; (· omega); (· omega); (· (assumption)))
    (refine' TA_take 6 rfl rfl (by kernel_rfl) (quiet_q (op_ldA [.int .u8 2, .int .i64 (firstOf vs y.vd : Nat)] rfl st_97 (List.mem_cons_of_mem _ (List.mem_cons_self ..)) hslip)) ?_ ?_; (· (assumption)))
    (refine' TA_take 7 rfl rfl (by kernel_rfl) (quiet_q (op_ldAll rfl st_97 ?_ ?_)) ?_ ?_; rotate_left 3; (· repeat ((first | exact List.mem_cons_self | apply List.mem_cons_of_mem))); (· (rfl)); (· (assumption)))
    (refine' TA_take 8 rfl rfl (by kernel_rfl) (quiet_q (op_bin rfl rfl bin_slipN)) ?_ ?_; (· (assumption)))
    refine TA_done (by kernel_rfl) ?_
    clear hKm hslip
    by_cases hyx : y.vd = x.vd
    · have hne : (!decide (((2 : Int), ((firstOf vs y.vd : Nat) : Int)) = (2, ((fx : Nat) : Int)))) = false := by rw [(hfi y hym).2 hyx]; simp
      rw [if_pos hyx] at hWs
      obtain ⟨ws, hws⟩ : ∃ ws, withV (vs.take i) x.vd = ws := ⟨_, rfl⟩
      rw [hws] at hWs hWi hWi9 hB4 ⊢
      have htp := timeP_snoc ws y
      have htb : 0 ≤ timeP ws ∧ timeP ws ≤ 4294967295 := timeP_bd fun v hv => by
        rw [← hws] at hv
        have hvm := List.mem_of_mem_take (withV_mem.1 hv).1
        obtain ⟨k, hk1⟩ := List.getElem?_of_mem hvm
        obtain ⟨_, _, hvv, _⟩ := hcur k v hk1
        obtain ⟨_, _, _, _, _, _, _, _, ht, _⟩ := hvv.vals
        exact ht
      obtain ⟨ht0, ht1⟩ := htb
      repeat ((first | with_reducible refine TQ_then ?_ | with_reducible refine T_skip ?_ | (refine T_no rfl ?_ ?_; (· (assumption)))))
      refine T_mid (σ := Unit) (fun _ => True) (fun _ => [(0, .pointer (some ⟨bb, 0, none⟩)), (2, .pointer (some ⟨b2, 0, none⟩)), (3, .int .u32 (timeP (ws ++ [y]))), (4, .slice a4 (ws.map (·.up)).length c4), (5, .bool true), (6, .pointer (some ⟨b6, 0, none⟩)), (8, .pointer (some ⟨b8, 0, none⟩)), (20, .slice (some ⟨bc, oc, none⟩) vs.length c), (21, .int .i64 (vs.length : Nat)), (22, .int .i64 (i : Nat))]) (fun _ => (b8, Obj.cells #[.int .i64 y.up, .int .u8 y.vd.code, .slice y1 y.vd.sets.length yc1, .slice y2 y.vd.soa.length yc2, .int .u32 y.time] 46 (0, 0)) :: (B4 ++ ((b6, Obj.cells #[.int .u8 2, .int .i64 (fx : Nat)] 97 (0, 0)) :: ((b2, Obj.cells #[.int .u8 0, .slice none 0 0, .slice none 0 0] 42 (0, 0)) :: L)))) ?_ ?_
      · by_cases h0 : ws.length = 0
        · rw [if_pos (Or.inl h0)] at htp
          rw [htp]
          have h0' : (((ws.map (·.up)).length : Nat) : Int) = 0 := by omega
          repeat ((first | with_reducible refine T_seq ?_ | with_reducible refine T_region ?_ | with_reducible refine TL_nil ?_ | with_reducible refine TQ_then ?_ | refine TL_q (op_move rfl) rfl ?_ | refine TL_q (op_assign rfl) rfl ?_ | (refine' TL_q (op_bin rfl rfl ?_) rfl ?_; rotate_left 1; (· (exact bin_eql))) | (refine' TL_q (op_pickT rfl ?_ rfl) rfl ?_; (· (exact dT (by (assumption))))) | refine TL_q (op_len_slice rfl Try.underlying79) rfl ?_ | refine TL_q (op_fld rfl fld_46_2) rfl ?_ | (refine' TL_q (op_ld rfl pl_3 ?_ ?_) rfl ?_; rotate_left 4; (· repeat ((exact List.mem_cons_self))); (· (rfl))) | (refine TL_gno rfl rfl ?_ rfl ?_; (· (exact dT (by (assumption))))) | (refine T_yes rfl ?_ ?_; (· (with_reducible rfl)))))
          refine TQ_mid () trivial ?_ (fun w h => h)
          (repeat ((first | exact trivial | refine ⟨rfl, ?_⟩)))
        · have h0' : ¬ (((ws.map (·.up)).length : Nat) : Int) = 0 := by omega
          by_cases hlt : y.time < timeP ws
          · rw [if_pos (Or.inr hlt)] at htp
            rw [htp]
            repeat ((first | with_reducible refine T_seq ?_ | with_reducible refine T_region ?_ | with_reducible refine TL_nil ?_ | with_reducible refine TQ_then ?_ | refine TL_q (op_move rfl) rfl ?_ | refine TL_q (op_assign rfl) rfl ?_ | (refine' TL_q (op_bin rfl rfl ?_) rfl ?_; rotate_left 1; (· (exact bin_eql))) | (refine' TL_q (op_pickF rfl ?_ rfl) rfl ?_; (· (exact dF (by (assumption))))) | refine TL_q (op_len_slice rfl Try.underlying79) rfl ?_ | refine TL_q (op_fld rfl fld_46_2) rfl ?_ | (refine' TL_q (op_ld rfl pl_3 ?_ ?_) rfl ?_; rotate_left 4; (· repeat ((exact List.mem_cons_self))); (· (rfl))) | (refine TL_gpre rfl rfl ?_ ?_; (· (exact dF (by (assumption))))) | refine TL_gq2 (op_move rfl) rfl ?_ | (refine' TL_gq2 (op_bin rfl rfl ?_) rfl ?_; rotate_left 1; (· (exact bin_lss))) | refine TL_gq2 (op_fld rfl fld_46_2) rfl ?_ | (refine' TL_gq2 (op_ld rfl pl_3 ?_ ?_) rfl ?_; rotate_left 4; (· repeat ((exact List.mem_cons_self))); (· (rfl))) | (refine T_yes rfl ?_ ?_; (· (exact dT (by (assumption)))))))
            refine TQ_mid () trivial ?_ (fun w h => h)
            (repeat ((first | exact trivial | refine ⟨rfl, ?_⟩)))
          · rw [if_neg (fun h => h.elim h0 hlt)] at htp
            rw [htp]
            repeat ((first | with_reducible refine T_seq ?_ | with_reducible refine T_region ?_ | with_reducible refine TL_nil ?_ | with_reducible refine TQ_then ?_ | with_reducible refine T_skip ?_ | refine TL_q (op_move rfl) rfl ?_ | (refine' TL_q (op_bin rfl rfl ?_) rfl ?_; rotate_left 1; (· (exact bin_eql))) | (refine' TL_q (op_pickF rfl ?_ rfl) rfl ?_; (· (exact dF (by (assumption))))) | refine TL_q (op_len_slice rfl Try.underlying79) rfl ?_ | (refine TL_gpre rfl rfl ?_ ?_; (· (exact dF (by (assumption))))) | refine TL_gq2 (op_move rfl) rfl ?_ | (refine' TL_gq2 (op_bin rfl rfl ?_) rfl ?_; rotate_left 1; (· (exact bin_lss))) | refine TL_gq2 (op_fld rfl fld_46_2) rfl ?_ | (refine' TL_gq2 (op_ld rfl pl_3 ?_ ?_) rfl ?_; rotate_left 4; (· repeat ((exact List.mem_cons_self))); (· (rfl))) | (refine T_no rfl ?_ ?_; (· (exact dF (by (assumption)))))))
            refine TQ_mid () trivial ?_ (fun w h => h)
            (repeat ((first | exact trivial | refine ⟨rfl, ?_⟩)))
      · rintro _ _
        have hnx : ((ws ++ [y]).map (·.up)) = ws.map (·.up) ++ [y.up] := by simp
        have g8 : (#[.int .i64 y.up, .int .u8 y.vd.code, .slice y1 y.vd.sets.length yc1, .slice y2 y.vd.soa.length yc2, .int .u32 y.time] : Array Value)[0 + 0]? = some (.int .i64 y.up) := rfl
        repeat ((first | with_reducible refine T_seq ?_ | with_reducible refine T_region ?_ | refine TL_q (op_move rfl) rfl ?_ | refine TL_q (op_fld rfl fld_46_0) rfl ?_ | (refine' TL_q (op_ld rfl pl_3 ?_ ?_) rfl ?_; rotate_left 4; (· repeat ((exact List.mem_cons_self))); (· (assumption))) | (refine TL_new (op_lit1 ety_79 rfl rfl) rfl ?_; intro bLit)))
        refine TL_cnt (L' := (bLit, Obj.cells #[.int .i64 y.up] 3 (0, 0)) :: (B4 ++ ((b6, Obj.cells #[.int .u8 2, .int .i64 (fx : Nat)] 97 (0, 0)) :: ((b2, Obj.cells #[.int .u8 0, .slice none 0 0, .slice none 0 0] 42 (0, 0)) :: L)))) ?_ (by intro p; (try simp only [cnt_append, cnt_cons, cnt_nil]) <;> omega)
        refine TL_opT (op_pushI ety_79 rfl rfl hB4 (up_lit ⟨hu0, hu9⟩) (by omega) (by decide)) rfl ?_
        rintro _ _ ⟨a5, c5, B5, rfl, hB5, rfl⟩
        rw [← hnx, ← hWs] at hB5 ⊢
        have hl5 := hlenW (i + 1)
        have hc5 := hB5.cap
        unfold maxLen at hc5
        have hnx2 := hW9 (i + 1)
        by_cases hij : i = j
        · subst hij
          have hw5 : ((((withV (vs.take (i + 1)) x.vd).map (·.up)).length : Nat) : Int) = want := by rw [hl5]; exact hk.len
          repeat ((first | with_reducible refine T_seq ?_ | with_reducible refine T_region ?_ | with_reducible refine TL_nil ?_ | with_reducible refine TQ_then ?_ | with_reducible refine T_exit ?_ | with_reducible refine TQ_then_exit ?_ | with_reducible refine TQ_block_exit ?_ | (refine TQ_block_past ?_ ?_; (· decide)) | refine TL_q (op_move rfl) rfl ?_ | refine TL_q (op_assign rfl) rfl ?_ | (refine' TL_q (op_bin rfl rfl ?_) rfl ?_; rotate_left 1; (· (exact bin_eql))) | refine TL_q (op_nilCheck rfl) rfl ?_ | refine TL_q (op_len_slice rfl Try.underlying79) rfl ?_ | refine TL_q (op_fld rfl fld_46_0) rfl ?_ | (refine' TL_q (op_ld rfl pl_3 ?_ ?_) rfl ?_; rotate_left 4; (· repeat ((first | assumption | apply List.mem_cons_of_mem | apply List.mem_append_right))); (· (assumption))) | (refine T_yes rfl ?_ ?_; (· (exact dT (by (assumption)))))))
          refine TL_opT (op_call hb_68 rfl (SortI_S a5 c5 _ B5 hB5 (by omega))) rfl ?_
          rintro _ _ ⟨rfl, B6, hB6, rfl⟩
          have hVW : Vup (withV (vs.take (i + 1)) x.vd) := (hup.take _).filter _
          rw [sort_rising hVW.nd hVW.ups] at hB6
          have hrl := rising_len hVW.nd hVW.ups
          rw [← hrl]
          obtain ⟨csz, _, hzv, hcz⟩ := hcur fx z hz
          obtain ⟨z1, zc1, z2, zc2, rfl, hz1, hz2, hz3, hz4, hz5⟩ := hzv.vals
          have hczv : ∀ k v, ([.int .u8 z.vd.code, .slice z1 z.vd.sets.length zc1, .slice z2 z.vd.soa.length zc2] : List Value)[k]? = some v → cur[oc + fx * 5 + 1 + k]? = some v := fun k v hj => by
            rw [Nat.add_assoc]
            match k, hj with
            | 0, hj => exact hcz 1 v hj
            | 1, hj => exact hcz 2 v hj
            | 2, hj => exact hcz 3 v hj
          have hzvd : vdR K [.int .u8 z.vd.code, .slice z1 z.vd.sets.length zc1, .slice z2 z.vd.soa.length zc2] z.vd := ⟨_, _, rfl, hz1, hz2, hz3⟩
          have hzs := hs z (List.mem_of_getElem? hz)
          repeat ((first | with_reducible refine T_seq ?_ | with_reducible refine TL_nil ?_ | with_reducible refine TQ_then ?_))
          refine T_cnt (L' := (b2, Obj.cells #[.int .u8 0, .slice none 0 0, .slice none 0 0] 42 (0, 0)) :: ((b6, Obj.cells #[.int .u8 2, .int .i64 (fx : Nat)] 97 (0, 0)) :: (B6 ++ L))) ?_ (by intro p; (try simp only [cnt_append, cnt_cons, cnt_nil]) <;> omega)
          have hKm : ∀ q ∈ [(b6, Obj.cells #[.int .u8 2, .int .i64 (fx : Nat)] 97 (0, 0)), (bb, Obj.cells (boxC want (slipOf l) (.slice (some ⟨bc, oc, none⟩) vs.length c)).toArray 100 (0, 0)), (bc, Obj.cells cur tc fc)], q ∈ (b2, Obj.cells #[.int .u8 0, .slice none 0 0, .slice none 0 0] 42 (0, 0)) :: ((b6, Obj.cells #[.int .u8 2, .int .i64 (fx : Nat)] 97 (0, 0)) :: (B6 ++ L)) := by
            intro q hq
            simp only [List.mem_cons, List.not_mem_nil, or_false] at hq
            rcases hq with rfl | rfl | rfl
            · simp
            · simp [hm]
            · simp [mc]
          have hKm2 : ∀ q ∈ [(b6, Obj.cells #[.int .u8 2, .int .i64 (fx : Nat)] 97 (0, 0)), (bb, Obj.cells (boxC want (slipOf l) (.slice (some ⟨bc, oc, none⟩) vs.length c)).toArray 100 (0, 0)), (bc, Obj.cells cur tc fc)], q ∈ (b6, Obj.cells #[.int .u8 2, .int .i64 (fx : Nat)] 97 (0, 0)) :: (B6 ++ L) := by
            intro q hq
            simp only [List.mem_cons, List.not_mem_nil, or_false] at hq
            rcases hq with rfl | rfl | rfl
            · simp
            · simp [hm]
            · simp [mc]
          refine T_draw follows_mixed ([(b6, Obj.cells #[.int .u8 2, .int .i64 (fx : Nat)] 97 (0, 0)), (bb, Obj.cells (boxC want (slipOf l) (.slice (some ⟨bc, oc, none⟩) vs.length c)).toArray 100 (0, 0)), (bc, Obj.cells cur tc fc)]) [] ?_
          (refine' TA_take 0 rfl rfl (by kernel_rfl) (quiet_q (op_move rfl)) ?_ ?_; (· (assumption)))
          (refine' TA_take 1 rfl rfl (by kernel_rfl) (quiet_q (op_nilCheck rfl)) ?_ ?_; (· (assumption)))
          (refine' TA_take 2 rfl rfl (by kernel_rfl) (quiet_q (op_fld rfl fld_100_2)) ?_ ?_; (· (assumption)))
          (refine' TA_take 3 rfl rfl (by kernel_rfl) (quiet_q (op_ld rfl pl_47 ?_ ?_)) ?_ ?_; rotate_left 4; (· repeat ((first | exact List.mem_cons_self | apply List.mem_cons_of_mem))); (· (assumption)); (· (assumption)))
          (refine' TA_take 4 rfl rfl (by kernel_rfl) (quiet_q (op_fld rfl fld_97_1)) ?_ ?_; (· (assumption)))
          (refine' TA_take 5 rfl rfl (by kernel_rfl) (quiet_q (op_ld rfl pl_3 ?_ ?_)) ?_ ?_; rotate_left 4; (· repeat ((exact List.mem_cons_self))); (· (rfl)); (· (assumption)))
          (refine' TA_take 6 rfl rfl (by kernel_rfl) (quiet_q (op_idx ety_47 rfl rfl ?_)) ?_ ?_; (· omega); (· (assumption)))
          (refine' TA_take 7 rfl rfl (by kernel_rfl) (quiet_q (op_fld rfl fld_46_1)) ?_ ?_; (· (assumption)))
          (refine' TA_take 8 rfl rfl (by kernel_rfl) (quiet_q (op_ldA [.int .u8 z.vd.code, .slice z1 z.vd.sets.length zc1, .slice z2 z.vd.soa.length zc2] rfl st_42 (List.mem_cons_of_mem _ (List.mem_cons_of_mem _ (List.mem_cons_self ..))) hczv)) ?_ ?_; (· (assumption)))
          (refine' TA_take 10 rfl rfl (by kernel_rfl) (quiet_q (op_move rfl)) ?_ ?_; (· (assumption)))
          (refine' TA_take 11 rfl rfl (by kernel_rfl) (quiet_q (op_move rfl)) ?_ ?_; (· (assumption)))
          refine TA_oneD 9 (by kernel_rfl) rfl rfl rfl rfl (op_call hb_69 rfl (tCopyVerdict_S _ z.vd (mono_vd _ _ _ _ (fun p hp => (mem_of_cnt (by intro p; (try simp only [cnt_append, cnt_cons, cnt_nil]) <;> omega)) p (hK p hp)) hzvd) hzs)) ?_; rintro _ _ ⟨aR, cR, BR, aS, cS, BS, NR, rfl, hR2, hS2, hNR, rfl⟩; refine ⟨Or.inr (fun q hq => (mem_of_cnt (by intro p; (try simp only [cnt_append, cnt_cons, cnt_nil]) <;> omega)) q (hKm q hq)), ?_⟩
          refine TA_cnt (L' := (b2, Obj.cells #[.int .u8 0, .slice none 0 0, .slice none 0 0] 42 (0, 0)) :: (BS ++ (BR ++ (NR ++ ((b6, Obj.cells #[.int .u8 2, .int .i64 (fx : Nat)] 97 (0, 0)) :: (B6 ++ L)))))) ?_ (by intro p; (try simp only [cnt_append, cnt_cons, cnt_nil]) <;> omega); refine TA_oneN 12 (by kernel_rfl) rfl rfl rfl (op_stAll rfl rfl st_42 rfl rfl rfl) ?_; rintro _ _ ⟨_, rfl⟩; refine ⟨Or.inr (fun q hq => (mem_of_cnt (by intro p; (try simp only [cnt_append, cnt_cons, cnt_nil]) <;> omega)) q (hKm2 q hq)), ?_⟩
          (refine' TA_take 13 rfl rfl (by kernel_rfl) (quiet_q (op_assign rfl)) ?_ ?_; (· (intro p hp; grind)))
          (refine' TA_take 14 rfl rfl (by kernel_rfl) (quiet_q (op_assign rfl)) ?_ ?_; (· (intro p hp; grind)))
          (refine' TA_take 15 rfl rfl (by kernel_rfl) (quiet_q (op_assign rfl)) ?_ ?_; (· (intro p hp; grind)))
          refine TA_done (by kernel_rfl) ?_
          repeat ((first | with_reducible refine TQ_then ?_ | with_reducible refine T_ret ?_))
          rw [hzx] at hR2 hS2 ⊢
          refine TQ_retC4 2 42 3 4 5 rfl rfl rfl rfl rfl st_42 (by repeat ((exact List.mem_cons_self))) rfl (fun w h => Heap.cnt (L' := B6 ++ (BS ++ (BR ++ (NR ++ L)))) h (by intro p; (try simp only [cnt_append, cnt_cons, cnt_nil]) <;> omega)) ?_
          exact ⟨_, _, _, _, _, _, _, _, _, _, rfl, hR2, hS2, hB6, hNR, rfl⟩
        · have hlt : i + 1 ≤ j := by omega
          have hno1 : wonAt want vs (i + 1) = none := by
            cases h : wonAt want vs (i + 1) with
            | none => rfl
            | some k =>
              have h5 := wonAt_some (i + 1) j hlt h
              rw [hk.no] at h5
              cases h5
          have hw5 : ¬ ((((withV (vs.take (i + 1)) x.vd).map (·.up)).length : Nat) : Int) = want := by
            rw [hl5]
            have := wonAt_lt hw1 (i + 1) (by omega) hno1 x.vd
            omega
          repeat ((first | with_reducible refine T_seq ?_ | with_reducible refine T_region ?_ | with_reducible refine TL_nil ?_ | with_reducible refine TQ_then ?_ | with_reducible refine TQ_block ?_ | with_reducible refine T_skip ?_ | refine TL_q (op_move rfl) rfl ?_ | refine TL_q (op_assign rfl) rfl ?_ | (refine' TL_q (op_bin rfl rfl ?_) rfl ?_; rotate_left 1; (· (first | exact bin_add ⟨by omega, by omega⟩ | exact bin_eql))) | refine TL_q (op_nilCheck rfl) rfl ?_ | refine TL_q (op_len_slice rfl Try.underlying79) rfl ?_ | refine TL_q (op_fld rfl fld_46_0) rfl ?_ | (refine' TL_q (op_ld rfl pl_3 ?_ ?_) rfl ?_; rotate_left 4; (· repeat ((first | assumption | apply List.mem_cons_of_mem | apply List.mem_append_right))); (· (assumption))) | (refine T_no rfl ?_ ?_; (· (exact dF (by (assumption)))))))
          refine TQ_roundS (i + 1, a5, c5, B5) ⟨hlt, hB5⟩ ?_ (fun w h => h.cnt (by intro p; (try simp only [cnt_append, cnt_cons, cnt_nil]) <;> omega)) (by dsimp only; omega)
          (repeat ((first | exact trivial | refine ⟨rfl, ?_⟩)))
    · have hne : (!decide (((2 : Int), ((firstOf vs y.vd : Nat) : Int)) = (2, ((fx : Nat) : Int)))) = true := by
        have : ¬ firstOf vs y.vd = fx := fun h => hyx ((hfi y hym).1 h)
        simp
        omega
      rw [if_neg hyx] at hWs
      have hij : i ≠ j := by
        intro e
        rw [e, hk.at_] at hy
        exact hyx (by rw [Option.some.inj hy])
      have hlt : i + 1 ≤ j := by omega
      repeat ((first | with_reducible refine T_region ?_ | with_reducible refine TL_nil ?_ | with_reducible refine TQ_then ?_ | with_reducible refine T_exit ?_ | with_reducible refine TQ_then_exit ?_ | with_reducible refine TQ_block_exit ?_ | refine TL_q (op_move rfl) rfl ?_ | (refine' TL_q (op_bin rfl rfl ?_) rfl ?_; rotate_left 1; (· (exact bin_add ⟨by omega, by omega⟩))) | (refine T_yes rfl ?_ ?_; (· (assumption)))))
      refine TQ_roundS (i + 1, a4, c4, B4) ⟨hlt, by dsimp only; rw [hWs]; exact hB4⟩ ?_ (fun w h => h.cnt (by intro p; (try simp only [cnt_append, cnt_cons, cnt_nil]) <;> omega)) (by dsimp only; omega)
      rw [hWs]
      (repeat ((first | exact trivial | refine ⟨rfl, ?_⟩)))
end Go.Proofs.Ytdflhdfapnhjjaa
namespace Go.Proofs.Ytdflhdfapnhjjaa
open Go.RowKit
open Vd (RSet Vdt Vote Rec Quest Piece Ballot)
set_option linter.unusedVariables false
set_option linter.unusedSimpArgs false
--auto
--step op_bin rfl rfl bin_slipN
--step op_bin rfl rfl bin_slipE
variable {G : World} {L : Blocks}
theorem slip2 {l : List Ballot} {w : Int} (h : (slipOf l w).1 = 2) : ∃ y ∈ Vd.votesB l, y.up = w := by
  unfold slipOf at h
  cases hf : l.find? (fun b => b.v.up == w) with
  | none => rw [hf] at h; cases h
  | some b =>
    rw [hf] at h
    have h1 := List.find?_some hf
    have h2 := List.mem_of_find?_eq_some hf
    dsimp only at h
    cases hp : b.pass with
    | true => rw [hp] at h; cases h
    | false => exact ⟨b.v, votesB_mem.2 ⟨b, h2, hp, rfl⟩, by simpa using h1⟩
/-- Who voted for what has another first place. -/
def agB (l : List Ballot) (f : Int) (w : Int) : Bool := decide ((slipOf l w).1 = 2) && !decide (((slipOf l w).1, (slipOf l w).2) = (2, f))
theorem against_slips {l : List Ballot} (hl : BoxOk l) {want : Int} {j : Nat} {x : Vote} (hk : WonBy want (Vd.votesB l) j x) : againstR want (Vd.votesB l) = nine.filter (agB l (firstOf (Vd.votesB l) x.vd : Nat)) := by
  have hup := hl.vup
  have hxm := List.mem_of_getElem? hk.at_
  unfold againstR
  rw [hk.is]
  rw [if_pos rfl, rising_eq (hup.filter _).nd]
  refine List.filter_congr fun w hw => ?_
  dsimp only
  rw [Bool.eq_iff_iff, decide_eq_true_eq, List.mem_map]
  unfold agB
  rw [Bool.and_eq_true, decide_eq_true_eq, Bool.not_eq_true', decide_eq_false_iff_not]
  constructor
  · rintro ⟨y, hy, rfl⟩
    obtain ⟨h1, h2⟩ := List.mem_filter.1 hy
    rw [slip_vote hl h1]
    refine ⟨rfl, fun e => ?_⟩
    have h3 : ¬ y.vd = x.vd := by simpa using h2
    refine h3 ((firstOf_inj h1 hxm).1 ?_)
    have := (Prod.mk.inj e).2
    omega
  · rintro ⟨h1, h2⟩
    obtain ⟨y, hy, rfl⟩ := slip2 h1
    refine ⟨y, List.mem_filter.2 ⟨hy, ?_⟩, rfl⟩
    rw [slip_vote hl hy] at h2
    have : ¬ y.vd = x.vd := fun e => h2 (by rw [e])
    simpa using this
/-- How many slips are as an upstream's. -/
def cntS (l : List Ballot) (w : Int) (n : Nat) : Nat := (nine.take n).countP fun t => decide (((slipOf l t).1, (slipOf l t).2) = ((slipOf l w).1, (slipOf l w).2))
theorem cntS_vote {l : List Ballot} (hl : BoxOk l) {y : Vote} (hy : y ∈ Vd.votesB l) : cntS l y.up 9 = (withV (Vd.votesB l) y.vd).length := by
  have hup := hl.vup
  have h1 := rising_len (hup.filter fun x => decide (x.vd = y.vd)).nd (hup.filter _).ups
  rw [List.length_map] at h1
  unfold withV
  rw [← h1, rising_eq (hup.filter _).nd, ← List.countP_eq_length_filter]
  unfold cntS
  have : nine.take 9 = nine := rfl
  rw [this]
  refine List.countP_congr fun w hw => ?_
  rw [decide_eq_true_eq, decide_eq_true_eq, List.mem_map, slip_vote hl hy]
  constructor
  · intro e
    obtain ⟨z, hz, rfl⟩ := slip2 (l := l) (w := w) (Prod.mk.inj e).1
    rw [slip_vote hl hz] at e
    refine ⟨z, List.mem_filter.2 ⟨hz, ?_⟩, rfl⟩
    have := (Prod.mk.inj e).2
    simpa using (firstOf_inj hz hy).1 (by omega)
  · rintro ⟨z, hz, rfl⟩
    obtain ⟨h2, h3⟩ := List.mem_filter.1 hz
    rw [slip_vote hl h2]
    rw [of_decide_eq_true h3]
def mostS (l : List Ballot) (n : Nat) : Int := (nine.take n).foldl (fun m w => if (slipOf l w).1 = 2 then max m ((cntS l w 9 : Nat) : Int) else m) 0
theorem mostS_le {l : List Ballot} {m : Int} : ∀ {ws : List Int} {k : Int}, ws.foldl (fun m w => if (slipOf l w).1 = 2 then max m ((cntS l w 9 : Nat) : Int) else m) k ≤ m ↔ k ≤ m ∧ ∀ w ∈ ws, (slipOf l w).1 = 2 → ((cntS l w 9 : Nat) : Int) ≤ m := by
  intro ws
  induction ws with
  | nil => intro k; simp
  | cons w r ih =>
    intro k
    rw [List.foldl_cons, ih]
    simp only [List.mem_cons, forall_eq_or_imp]
    split
    · rename_i h
      constructor
      · rintro ⟨h1, h2⟩; exact ⟨by omega, fun _ => by omega, h2⟩
      · rintro ⟨h1, h2, h3⟩; have := h2 h; exact ⟨by omega, h3⟩
    · rename_i h
      constructor
      · rintro ⟨h1, h2⟩; exact ⟨h1, fun k => absurd k h, h2⟩
      · rintro ⟨h1, h2, h3⟩; exact ⟨h1, h3⟩
theorem mostS_is {l : List Ballot} (hl : BoxOk l) : mostS l 9 = mostR (Vd.votesB l) := by
  have hup := hl.vup
  have h0 : mostS l 9 ≤ mostS l 9 := Int.le_refl _
  have h1 := (mostS_le (l := l) (ws := nine.take 9)).1 h0
  have h2 : mostR (Vd.votesB l) ≤ mostS l 9 := mostR_le.2 ⟨h1.1, fun x hx => by
    rw [← cntS_vote hl hx]
    refine h1.2 x.up (mem_nine.2 (hup.up x hx)) ?_
    rw [slip_vote hl hx]⟩
  have h3 : mostS l 9 ≤ mostR (Vd.votesB l) := (mostS_le (l := l) (ws := nine.take 9)).2 ⟨mostR_0 _, fun w hw h => by
    obtain ⟨y, hy, rfl⟩ := slip2 h
    rw [cntS_vote hl hy]
    exact mostR_in hy⟩
  omega
theorem nine_at {u : Nat} (h : u < 9) : nine[u]? = some (u : Int) := by
  match u, h with
  | 0, _ | 1, _ | 2, _ | 3, _ | 4, _ | 5, _ | 6, _ | 7, _ | 8, _ => rfl
theorem slips_ext {f : Int → Int × Int} {u : Nat} (h : u < 9) : (slipCells f).toArray.extract ((u : Int).toNat * 2) ((u : Int).toNat * 2 + 2) = #[.int .u8 (f u).1, .int .i64 (f u).2] := by
  match u, h with
  | 0, _ | 1, _ | 2, _ | 3, _ | 4, _ | 5, _ | 6, _ | 7, _ | 8, _ => rfl
theorem slips_in {want : Int} {f : Int → Int × Int} {v : Value} : ∀ j x, (slipCells f)[j]? = some x → (boxC want f v).toArray[0 + 1 + j]? = some x := fun j x hj => by
  have hl : (slipCells f).length = 18 := rfl
  have hj2 := (List.getElem?_eq_some_iff.1 hj).1
  unfold boxC
  rw [Nat.zero_add, Nat.add_comm, List.getElem?_toArray, List.getElem?_cons_succ, List.getElem?_append_left hj2]
  exact hj
theorem nine_len : nine.length = 9 := rfl
set_option maxRecDepth 100000 in
set_option maxHeartbeats 4000000 in
theorem pAgainst_S {K : Blocks} (bb : Nat) (want : Int) (l : List Ballot) (a : Option Addr) (c : Nat) (hm : (bb, Obj.cells (boxC want (slipOf l) (.slice a (Vd.votesB l).length c)).toArray 100 (0, 0)) ∈ L) (hv : sliceR 5 (fun _ => voteR K) L [.slice a (Vd.votesB l).length c] (Vd.votesB l)) (hl : BoxOk l) (hn : l.length ≤ 9) :
    Spec Try.prog G 40 #[.pointer (some ⟨bb, 0, none⟩)] L fun u M => ∃ a3 c3 B3, u = .slice a3 (if want < 1 then [] else againstR want (Vd.votesB l)).length c3 ∧ ORow (intR .i64) 3 1 [] a3 c3 (if want < 1 then [] else againstR want (Vd.votesB l)) B3 ∧ M = B3 ++ L := by
  have hvl := votesB_len l
  have hup := hl.vup
  refine Spec_of (n := 37) Try.func40 rfl rfl rfl ?_
  repeat ((first | with_reducible refine T_seq ?_ | with_reducible refine T_region ?_ | with_reducible refine TL_nil ?_ | with_reducible refine TQ_then ?_ | refine TL_q (op_move rfl) rfl ?_ | refine TL_q (op_assign rfl) rfl ?_))
  refine TL_op (op_call hb_67 rfl (pWinner_S bb want l a c hm hv hl hn)) rfl ?_
  by_cases hno : want < 1 ∨ wonAt want (Vd.votesB l) (Vd.votesB l).length = none
  · have hW : winS want (Vd.votesB l) = ((0, 0), false) := by
      unfold winS
      by_cases hw : want < 1
      · rw [if_pos hw]
      · rw [if_neg hw, hno.resolve_left hw]
    have hR : (if want < 1 then [] else againstR want (Vd.votesB l)) = [] := by
      by_cases hw : want < 1
      · rw [if_pos hw]
      · rw [if_neg hw]
        unfold againstR wonR
        rw [hno.resolve_left hw]
        rfl
    rw [hW, hR]
    repeat ((first | with_reducible refine T_seq ?_ | with_reducible refine T_region ?_ | with_reducible refine TL_nil ?_ | with_reducible refine TQ_then ?_ | with_reducible refine T_ret ?_ | with_reducible refine TQ_then_ret ?_ | refine TL_q (op_move rfl) rfl ?_ | refine TL_q (op_assign rfl) rfl ?_ | refine TL_q (op_not rfl) rfl ?_ | refine TL_q (op_extract rfl rfl) rfl ?_ | (refine TL_stAll rfl rfl st_97 rfl rfl rfl ?_) | (refine TL_new (op_alloc (C := #[(.int .u8 0), (.int .i64 0)]) zero_97 rfl) rfl ?_; intro bNew) | (refine T_yes rfl ?_ ?_; (· (exact Bool.not_false)))))
    refine TQ_cnt (L' := L) ?_ (by intro p; (try simp only [cnt_append, cnt_cons, cnt_nil]) <;> omega)
    refine TQ_ret1 2 _ rfl rfl ?_
    exact ⟨none, 0, [], rfl, ORow.nil _, rfl⟩
  · have hw : ¬ want < 1 := fun h => hno (Or.inl h)
    have hw1 : 1 ≤ want := by omega
    obtain ⟨j, x, hk⟩ : ∃ j x, WonBy want (Vd.votesB l) j x := by
      rcases won_or hw1 (Vd.votesB l) with ⟨h, _⟩ | h
      · exact absurd (Or.inr h) hno
      · exact h
    have hW : winS want (Vd.votesB l) = ((2, (firstOf (Vd.votesB l) x.vd : Int)), true) := by
      unfold winS
      rw [if_neg hw, hk.yes]
      dsimp only
      rw [hk.at_]
    rw [hW, if_neg hw, against_slips hl hk]
    obtain ⟨fx, hfx⟩ : ∃ f, firstOf (Vd.votesB l) x.vd = f := ⟨_, rfl⟩
    rw [hfx]
    obtain ⟨vv, hvv⟩ : ∃ v, Value.slice a (Vd.votesB l).length c = v := ⟨_, rfl⟩
    rw [hvv] at hm
    repeat ((first | with_reducible refine T_seq ?_ | with_reducible refine T_region ?_ | with_reducible refine TL_nil ?_ | with_reducible refine TQ_then ?_ | with_reducible refine T_skip ?_ | refine TL_q (op_move rfl) rfl ?_ | refine TL_q (op_assign rfl) rfl ?_ | refine TL_q (op_not rfl) rfl ?_ | refine TL_q (op_extract rfl rfl) rfl ?_ | refine TL_q (op_nilCheck rfl) rfl ?_ | refine TL_q (op_fld rfl fld_100_1) rfl ?_ | (refine TL_stAll rfl rfl st_97 rfl rfl rfl ?_) | (refine TL_new (op_alloc (C := #[(.int .u8 0), (.int .i64 0)]) zero_97 rfl) rfl ?_; intro bNew) | (refine T_no rfl ?_ ?_; (· (exact Bool.not_true)))))
    obtain ⟨b3, hb3⟩ : ∃ b, bNew = b := ⟨_, rfl⟩
    rw [hb3]
    clear hb3 bNew
    refine TL_q (op_ldArr (slipCells (slipOf l)) rfl Try.underlying98 (by kernel_rfl) (List.mem_cons_of_mem _ hm) slips_in) rfl ?_
    repeat ((first | with_reducible refine T_block ?_ | with_reducible refine TL_nil ?_ | with_reducible refine TQ_then ?_ | refine TL_q (op_move rfl) rfl ?_))
    refine T_loopS (σ := Nat × Option Addr × Nat × Blocks) (fun y => y.1 ≤ 9 ∧ ORow (intR .i64) 3 1 [] y.2.1 y.2.2.1 ((nine.take y.1).filter (agB l (fx : Nat))) y.2.2.2) (fun y => [(3, .pointer (some ⟨b3, 0, none⟩)), (5, .slice y.2.1 ((nine.take y.1).filter (agB l (fx : Nat))).length y.2.2.1), (18, .agg (slipCells (slipOf l)).toArray), (19, .int .i64 (y.1 : Nat))]) (fun y => y.2.2.2 ++ ((b3, Obj.cells #[.int .u8 2, .int .i64 (fx : Nat)] 97 (0, 0)) :: L)) (fun y => 9 - y.1) (0, none, 0, []) ⟨Nat.zero_le _, ORow.nil _⟩ ?_ (fun w h => h) ?_
    (repeat ((first | exact trivial | refine ⟨rfl, ?_⟩)))
    rintro ⟨i, a4, c4, B4⟩ ⟨hi, hB4⟩
    dsimp only at hi hB4 ⊢
    have hl4 := List.length_filter_le (agB l (fx : Nat)) (nine.take i)
    rw [List.length_take, nine_len] at hl4
    by_cases hil : i < 9
    · have hext := slips_ext (f := slipOf l) hil
      have htk : nine.take (i + 1) = nine.take i ++ [(i : Int)] := by rw [List.take_add_one, nine_at hil]; rfl
      repeat ((first | with_reducible refine T_seq ?_ | with_reducible refine T_block ?_ | with_reducible refine T_region ?_ | with_reducible refine TL_nil ?_ | with_reducible refine TQ_then ?_ | with_reducible refine T_skip ?_ | refine TL_q (op_move rfl) rfl ?_ | (refine' TL_q (op_bin rfl rfl ?_) rfl ?_; rotate_left 1; (· (exact bin_lss))) | (refine T_yes rfl ?_ ?_; (· (exact dT (by (omega)))))))
      refine TL_q (op_idxV rfl rfl Try.underlying98 st_97 (by omega) (by omega)) rfl ?_
      rw [hext]
      repeat ((first | with_reducible refine T_seq ?_ | with_reducible refine T_region ?_ | with_reducible refine TL_nil ?_ | with_reducible refine TQ_then ?_ | refine TL_q (op_move rfl) rfl ?_ | refine TL_q (op_assign rfl) rfl ?_ | (refine' TL_q (op_bin rfl rfl ?_) rfl ?_; rotate_left 1; (· (exact bin_eql))) | refine TL_q (op_fld rfl fld_97_0) rfl ?_ | (refine' TL_q (op_ld rfl pl_5 ?_ ?_) rfl ?_; rotate_left 4; (· repeat ((exact List.mem_cons_self))); (· (rfl))) | (refine TL_stAll rfl rfl st_97 rfl rfl rfl ?_) | (refine TL_new (op_alloc (C := #[(.int .u8 0), (.int .i64 0)]) zero_97 rfl) rfl ?_; intro bNew)))
      obtain ⟨b7, hb7⟩ : ∃ b, bNew = b := ⟨_, rfl⟩
      rw [hb7]
      clear hb7 bNew
      by_cases hk2 : (slipOf l (i : Int)).1 = 2
      · by_cases hne : ((slipOf l (i : Int)).1, (slipOf l (i : Int)).2) = (2, ((fx : Nat) : Int))
        · have hq : (!decide (((slipOf l (i : Int)).1, (slipOf l (i : Int)).2) = (2, ((fx : Nat) : Int)))) = false := by simp [hne]
          have hp : (nine.take (i + 1)).filter (agB l (fx : Nat)) = (nine.take i).filter (agB l (fx : Nat)) := by
            have : agB l (fx : Nat) (i : Int) = false := by unfold agB; rw [hq, Bool.and_false]
            rw [htk, List.filter_append]
            simp [this]
          repeat ((first | with_reducible refine T_region ?_ | with_reducible refine TL_nil ?_ | with_reducible refine TQ_then ?_ | with_reducible refine TQ_block ?_ | with_reducible refine T_skip ?_ | refine TL_q (op_move rfl) rfl ?_ | (refine' TL_q (op_bin rfl rfl ?_) rfl ?_; rotate_left 1; (· (exact bin_add ⟨by omega, by omega⟩))) | (refine' TL_q (op_pickT rfl ?_ rfl) rfl ?_; (· (exact dT (by (assumption))))) | (refine TL_gpre rfl rfl ?_ ?_; (· (exact dT (by (assumption))))) | refine TL_gq2 (op_bin rfl rfl bin_slipN) rfl ?_ | (refine' TL_gq2 (op_ldAll rfl st_97 ?_ ?_) rfl ?_; rotate_left 3; (· repeat ((first | exact List.mem_cons_self | apply List.mem_cons_of_mem | apply List.mem_append_right))); (· (rfl))) | (refine T_no rfl ?_ ?_; (· (assumption)))))
          refine TQ_roundS (i + 1, a4, c4, B4) ⟨hil, by dsimp only; rw [hp]; exact hB4⟩ ?_ (fun w h => h.cnt (by intro p; (try simp only [cnt_append, cnt_cons, cnt_nil]) <;> omega)) (by dsimp only; omega)
          dsimp only
          rw [hp]
          (repeat ((first | exact trivial | refine ⟨rfl, ?_⟩)))
        · have hq : (!decide (((slipOf l (i : Int)).1, (slipOf l (i : Int)).2) = (2, ((fx : Nat) : Int)))) = true := by simp [hne]
          have hp : (nine.take (i + 1)).filter (agB l (fx : Nat)) = (nine.take i).filter (agB l (fx : Nat)) ++ [(i : Int)] := by
            have : agB l (fx : Nat) (i : Int) = true := by unfold agB; rw [hq, hk2]; rfl
            rw [htk, List.filter_append]
            simp [this]
          repeat ((first | with_reducible refine T_region ?_ | with_reducible refine TL_nil ?_ | with_reducible refine TQ_then ?_ | refine TL_q (op_move rfl) rfl ?_ | (refine' TL_q (op_pickT rfl ?_ rfl) rfl ?_; (· (exact dT (by (assumption))))) | (refine TL_gpre rfl rfl ?_ ?_; (· (exact dT (by (assumption))))) | refine TL_gq2 (op_bin rfl rfl bin_slipN) rfl ?_ | (refine' TL_gq2 (op_ldAll rfl st_97 ?_ ?_) rfl ?_; rotate_left 3; (· repeat ((first | exact List.mem_cons_self | apply List.mem_cons_of_mem | apply List.mem_append_right))); (· (rfl))) | (refine TL_new (op_lit1 ety_79 rfl rfl) rfl ?_; intro bLit) | (refine T_yes rfl ?_ ?_; (· (assumption)))))
          refine TL_cnt (L' := (bLit, Obj.cells #[.int .i64 (i : Nat)] 3 (0, 0)) :: (B4 ++ ((b3, Obj.cells #[.int .u8 2, .int .i64 (fx : Nat)] 97 (0, 0)) :: L))) ?_ (by intro p; (try simp only [cnt_append, cnt_cons, cnt_nil]) <;> omega)
          refine TL_opT (op_pushI ety_79 rfl rfl hB4 (up_lit ⟨by omega, by omega⟩) (by omega) (by decide)) rfl ?_
          rintro _ _ ⟨a5, c5, B5, rfl, hB5, rfl⟩
          rw [← hp] at hB5 ⊢
          repeat ((first | with_reducible refine T_region ?_ | with_reducible refine TL_nil ?_ | with_reducible refine TQ_then ?_ | with_reducible refine TQ_block ?_ | refine TL_q (op_move rfl) rfl ?_ | refine TL_q (op_assign rfl) rfl ?_ | (refine' TL_q (op_bin rfl rfl ?_) rfl ?_; rotate_left 1; (· (exact bin_add ⟨by omega, by omega⟩)))))
          refine TQ_roundS (i + 1, a5, c5, B5) ⟨hil, hB5⟩ ?_ (fun w h => h.cnt (by intro p; (try simp only [cnt_append, cnt_cons, cnt_nil]) <;> omega)) (by dsimp only; omega)
          (repeat ((first | exact trivial | refine ⟨rfl, ?_⟩)))
      · have hp : (nine.take (i + 1)).filter (agB l (fx : Nat)) = (nine.take i).filter (agB l (fx : Nat)) := by
          have : agB l (fx : Nat) (i : Int) = false := by unfold agB; rw [decide_eq_false hk2, Bool.false_and]
          rw [htk, List.filter_append]
          simp [this]
        repeat ((first | with_reducible refine T_region ?_ | with_reducible refine TL_nil ?_ | with_reducible refine TQ_then ?_ | with_reducible refine TQ_block ?_ | with_reducible refine T_skip ?_ | refine TL_q (op_move rfl) rfl ?_ | (refine' TL_q (op_bin rfl rfl ?_) rfl ?_; rotate_left 1; (· (exact bin_add ⟨by omega, by omega⟩))) | (refine' TL_q (op_pickF rfl ?_ rfl) rfl ?_; (· (exact dF (by (assumption))))) | (refine TL_gno rfl rfl ?_ rfl ?_; (· (exact dF (by (assumption))))) | (refine T_no rfl ?_ ?_; (· (with_reducible rfl)))))
        refine TQ_roundS (i + 1, a4, c4, B4) ⟨hil, by dsimp only; rw [hp]; exact hB4⟩ ?_ (fun w h => h.cnt (by intro p; (try simp only [cnt_append, cnt_cons, cnt_nil]) <;> omega)) (by dsimp only; omega)
        dsimp only
        rw [hp]
        (repeat ((first | exact trivial | refine ⟨rfl, ?_⟩)))
    · have hie : i = 9 := by omega
      subst hie
      have h9 : nine.take 9 = nine := rfl
      rw [h9] at hB4 ⊢
      repeat ((first | with_reducible refine T_seq ?_ | with_reducible refine T_region ?_ | with_reducible refine TL_nil ?_ | with_reducible refine TQ_then ?_ | with_reducible refine T_exit ?_ | with_reducible refine T_ret ?_ | with_reducible refine TQ_then_exit ?_ | with_reducible refine TQ_block_exit ?_ | refine TL_q (op_move rfl) rfl ?_ | refine TL_q (op_assign rfl) rfl ?_ | (refine' TL_q (op_bin rfl rfl ?_) rfl ?_; rotate_left 1; (· (exact bin_lss))) | (refine T_no rfl ?_ ?_; (· (exact Bool.not_true)))))
      refine TQ_cnt (L' := B4 ++ L) ?_ (by intro p; (try simp only [cnt_append, cnt_cons, cnt_nil]) <;> omega)
      refine TQ_ret1 2 _ rfl rfl ?_
      exact ⟨a4, c4, B4, rfl, hB4, rfl⟩
set_option maxRecDepth 100000 in
set_option maxHeartbeats 4000000 in
theorem pMost_S (bb : Nat) (want : Int) (l : List Ballot) (vv : Value) (hm : (bb, Obj.cells (boxC want (slipOf l) vv).toArray 100 (0, 0)) ∈ L) (hl : BoxOk l) :
    Spec Try.prog G 36 #[.pointer (some ⟨bb, 0, none⟩)] L fun u M => u = .int .i64 (mostR (Vd.votesB l)) ∧ M = L := by
  have hcs : ∀ w n, cntS l w n ≤ n := fun w n => Nat.le_trans List.countP_le_length (by rw [List.length_take]; omega)
  have hms : ∀ n, 0 ≤ mostS l n ∧ mostS l n ≤ 9 := fun n => by
    have h1 := (mostS_le (l := l) (ws := nine.take n) (k := 0)).1 (Int.le_refl _)
    refine ⟨h1.1, (mostS_le (l := l) (ws := nine.take n) (k := 0)).2 ⟨by omega, fun w _ _ => ?_⟩⟩
    have := hcs w 9
    omega
  refine Spec_of (n := 39) Try.func36 rfl rfl rfl ?_
  repeat ((first | with_reducible refine T_seq ?_ | with_reducible refine T_region ?_ | with_reducible refine TL_nil ?_ | with_reducible refine TQ_then ?_ | with_reducible refine T_skip ?_ | refine TL_q (op_move rfl) rfl ?_ | refine TL_q (op_assign rfl) rfl ?_ | (refine' TL_q (op_bin rfl rfl ?_) rfl ?_; rotate_left 1; (· (exact pbin_eql Try.underlying76))) | refine TL_q (op_nilCheck rfl) rfl ?_ | refine TL_q (op_fld rfl fld_100_1) rfl ?_ | (refine T_no rfl ?_ ?_; (· (exact Bool.not_true)))))
  refine TL_q (op_ldArr (slipCells (slipOf l)) rfl Try.underlying98 (by kernel_rfl) hm slips_in) rfl ?_
  repeat ((first | with_reducible refine T_block ?_ | with_reducible refine TL_nil ?_ | with_reducible refine TQ_then ?_ | refine TL_q (op_move rfl) rfl ?_))
  refine T_loopS (σ := Nat) (fun y => y ≤ 9) (fun y => [(0, .pointer (some ⟨bb, 0, none⟩)), (3, .int .i64 (mostS l y)), (14, .agg (slipCells (slipOf l)).toArray), (15, .int .i64 (y : Nat))]) (fun y => L) (fun y => 9 - y) 0 (Nat.zero_le _) ?_ (fun w h => h) ?_
  (repeat ((first | exact trivial | refine ⟨rfl, ?_⟩)))
  rintro i hi
  by_cases hil : i < 9
  · have hext := slips_ext (f := slipOf l) hil
    have htk : nine.take (i + 1) = nine.take i ++ [(i : Int)] := by rw [List.take_add_one, nine_at hil]; rfl
    have hmn : mostS l (i + 1) = if (slipOf l (i : Int)).1 = 2 then max (mostS l i) ((cntS l (i : Int) 9 : Nat) : Int) else mostS l i := by
      unfold mostS
      rw [htk, List.foldl_append]
      rfl
    repeat ((first | with_reducible refine T_seq ?_ | with_reducible refine T_block ?_ | with_reducible refine T_region ?_ | with_reducible refine TL_nil ?_ | with_reducible refine TQ_then ?_ | with_reducible refine T_skip ?_ | (refine' TL_q (op_bin rfl rfl ?_) rfl ?_; rotate_left 1; (· (exact bin_lss))) | (refine T_yes rfl ?_ ?_; (· (exact dT (by (omega)))))))
    refine TL_q (op_idxV rfl rfl Try.underlying98 st_97 (by omega) (by omega)) rfl ?_
    rw [hext]
    repeat ((first | with_reducible refine T_seq ?_ | with_reducible refine T_region ?_ | with_reducible refine TL_nil ?_ | with_reducible refine TQ_then ?_ | (refine' TL_q (op_bin rfl rfl ?_) rfl ?_; rotate_left 1; (· (exact bin_neq))) | refine TL_q (op_fld rfl fld_97_0) rfl ?_ | (refine' TL_q (op_ld rfl pl_5 ?_ ?_) rfl ?_; rotate_left 4; (· repeat ((exact List.mem_cons_self))); (· (rfl))) | (refine TL_stAll rfl rfl st_97 rfl rfl rfl ?_) | (refine TL_new (op_alloc (C := #[(.int .u8 0), (.int .i64 0)]) zero_97 rfl) rfl ?_; intro bNew)))
    obtain ⟨b5, hb5⟩ : ∃ b, bNew = b := ⟨_, rfl⟩
    rw [hb5]
    clear hb5 bNew
    by_cases hk2 : (slipOf l (i : Int)).1 = 2
    · rw [if_pos hk2] at hmn
      repeat ((first | with_reducible refine T_seq ?_ | with_reducible refine T_region ?_ | with_reducible refine TL_nil ?_ | with_reducible refine TQ_then ?_ | with_reducible refine T_skip ?_ | refine TL_q (op_move rfl) rfl ?_ | refine TL_q (op_assign rfl) rfl ?_ | refine TL_q (op_nilCheck rfl) rfl ?_ | refine TL_q (op_fld rfl fld_100_1) rfl ?_ | (refine T_no rfl ?_ ?_; (· (exact nF (by (assumption)))))))
      refine TL_q (op_ldArr (slipCells (slipOf l)) rfl Try.underlying98 (by kernel_rfl) (List.mem_cons_of_mem _ hm) slips_in) rfl ?_
      repeat ((first | with_reducible refine T_block ?_ | with_reducible refine TL_nil ?_ | with_reducible refine TQ_then ?_ | refine TL_q (op_move rfl) rfl ?_))
      refine T_loopS (σ := Nat) (fun y => y ≤ 9) (fun y => [(0, .pointer (some ⟨bb, 0, none⟩)), (3, .int .i64 (mostS l i)), (5, .pointer (some ⟨b5, 0, none⟩)), (6, .int .i64 (cntS l (i : Int) y : Nat)), (14, .agg (slipCells (slipOf l)).toArray), (15, .int .i64 (i : Nat)), (24, .agg (slipCells (slipOf l)).toArray), (25, .int .i64 (y : Nat))]) (fun y => (b5, Obj.cells #[.int .u8 (slipOf l (i : Int)).1, .int .i64 (slipOf l (i : Int)).2] 97 (0, 0)) :: L) (fun y => 9 - y) 0 (Nat.zero_le _) ?_ (fun w h => h) ?_
      (repeat ((first | exact trivial | refine ⟨rfl, ?_⟩)))
      rintro k hk
      by_cases hkl : k < 9
      · have hextk := slips_ext (f := slipOf l) hkl
        have htkk : nine.take (k + 1) = nine.take k ++ [(k : Int)] := by rw [List.take_add_one, nine_at hkl]; rfl
        have hcn : cntS l (i : Int) (k + 1) = cntS l (i : Int) k + if decide (((slipOf l (k : Int)).1, (slipOf l (k : Int)).2) = ((slipOf l (i : Int)).1, (slipOf l (i : Int)).2)) = true then 1 else 0 := by
          unfold cntS
          rw [htkk, List.countP_append, List.countP_cons, List.countP_nil, Nat.zero_add]
        have hck := hcs (i : Int) k
        repeat ((first | with_reducible refine T_seq ?_ | with_reducible refine T_block ?_ | with_reducible refine T_region ?_ | with_reducible refine TL_nil ?_ | with_reducible refine TQ_then ?_ | with_reducible refine T_skip ?_ | (refine' TL_q (op_bin rfl rfl ?_) rfl ?_; rotate_left 1; (· (exact bin_lss))) | (refine T_yes rfl ?_ ?_; (· (exact dT (by (omega)))))))
        refine TL_q (op_idxV rfl rfl Try.underlying98 st_97 (by omega) (by omega)) rfl ?_
        rw [hextk]
        cases hd : decide (((slipOf l (k : Int)).1, (slipOf l (k : Int)).2) = ((slipOf l (i : Int)).1, (slipOf l (i : Int)).2)) with
        | true =>
          rw [hd, if_pos rfl] at hcn
          repeat ((first | with_reducible refine T_seq ?_ | with_reducible refine T_region ?_ | with_reducible refine TL_nil ?_ | with_reducible refine TQ_then ?_ | with_reducible refine TQ_block ?_ | refine TL_q (op_move rfl) rfl ?_ | refine TL_q (op_assign rfl) rfl ?_ | refine TL_q (op_bin rfl rfl bin_slipE) rfl ?_ | (refine' TL_q (op_bin rfl rfl ?_) rfl ?_; rotate_left 1; (· (exact bin_add ⟨by omega, by omega⟩))) | (refine' TL_q (op_ldAll rfl st_97 ?_ ?_) rfl ?_; rotate_left 3; (· repeat ((first | exact List.mem_cons_self | apply List.mem_cons_of_mem))); (· (rfl))) | (refine TL_stAll rfl rfl st_97 rfl rfl rfl ?_) | (refine TL_new (op_alloc (C := #[(.int .u8 0), (.int .i64 0)]) zero_97 rfl) rfl ?_; intro bNew) | (refine T_yes rfl ?_ ?_; (· (assumption)))))
          refine TQ_roundS (k + 1) hkl ?_ (fun w h => h.cnt (by intro p; (try simp only [cnt_append, cnt_cons, cnt_nil]) <;> omega)) (by omega)
          rw [hcn]
          (repeat (first | exact trivial | refine ⟨rfl, ?_⟩))
        | false =>
          rw [hd, if_neg (by simp)] at hcn
          repeat ((first | with_reducible refine T_seq ?_ | with_reducible refine T_region ?_ | with_reducible refine TL_nil ?_ | with_reducible refine TQ_then ?_ | with_reducible refine TQ_block ?_ | with_reducible refine T_skip ?_ | refine TL_q (op_move rfl) rfl ?_ | refine TL_q (op_bin rfl rfl bin_slipE) rfl ?_ | (refine' TL_q (op_bin rfl rfl ?_) rfl ?_; rotate_left 1; (· (exact bin_add ⟨by omega, by omega⟩))) | (refine' TL_q (op_ldAll rfl st_97 ?_ ?_) rfl ?_; rotate_left 3; (· repeat ((first | exact List.mem_cons_self | apply List.mem_cons_of_mem))); (· (rfl))) | (refine TL_stAll rfl rfl st_97 rfl rfl rfl ?_) | (refine TL_new (op_alloc (C := #[(.int .u8 0), (.int .i64 0)]) zero_97 rfl) rfl ?_; intro bNew) | (refine T_no rfl ?_ ?_; (· (assumption)))))
          refine TQ_roundS (k + 1) hkl ?_ (fun w h => h.cnt (by intro p; (try simp only [cnt_append, cnt_cons, cnt_nil]) <;> omega)) (by omega)
          rw [hcn]
          (repeat ((first | exact trivial | refine ⟨rfl, ?_⟩)))
      · have hke : k = 9 := by omega
        subst hke
        have hms1 := hms i
        have hck := hcs (i : Int) 9
        repeat ((first | with_reducible refine T_seq ?_ | with_reducible refine T_region ?_ | with_reducible refine TL_nil ?_ | with_reducible refine TQ_then ?_ | with_reducible refine TQ_block ?_ | with_reducible refine T_exit ?_ | with_reducible refine TQ_then_exit ?_ | with_reducible refine TQ_block_exit ?_ | refine TL_q (op_move rfl) rfl ?_ | refine TL_q (op_assign rfl) rfl ?_ | (refine' TL_q (op_bin rfl rfl ?_) rfl ?_; rotate_left 1; (· (first | exact bin_add ⟨by omega, by omega⟩ | exact bin_lss))) | refine TL_q (op_max rfl rfl) rfl ?_ | (refine T_no rfl ?_ ?_; (· (exact Bool.not_true)))))
        refine TQ_roundS (i + 1) hil ?_ (fun w h => h.cnt (by intro p; (try simp only [cnt_append, cnt_cons, cnt_nil]) <;> omega)) (by omega)
        rw [hmn]
        (repeat ((first | exact trivial | refine ⟨rfl, ?_⟩)))
    · rw [if_neg hk2] at hmn
      repeat ((first | with_reducible refine T_region ?_ | with_reducible refine TL_nil ?_ | with_reducible refine TQ_then ?_ | with_reducible refine T_exit ?_ | with_reducible refine TQ_then_exit ?_ | with_reducible refine TQ_block_exit ?_ | refine TL_q (op_move rfl) rfl ?_ | (refine' TL_q (op_bin rfl rfl ?_) rfl ?_; rotate_left 1; (· (exact bin_add ⟨by omega, by omega⟩))) | (refine T_yes rfl ?_ ?_; (· (exact nT (by (assumption)))))))
      refine TQ_roundS (i + 1) hil ?_ (fun w h => h.cnt (by intro p; (try simp only [cnt_append, cnt_cons, cnt_nil]) <;> omega)) (by omega)
      rw [hmn]
      (repeat ((first | exact trivial | refine ⟨rfl, ?_⟩)))
  · have hie : i = 9 := by omega
    subst hie
    rw [mostS_is hl]
    repeat ((first | with_reducible refine T_seq ?_ | with_reducible refine T_region ?_ | with_reducible refine TL_nil ?_ | with_reducible refine TQ_then ?_ | with_reducible refine T_exit ?_ | with_reducible refine T_ret ?_ | with_reducible refine TQ_then_exit ?_ | with_reducible refine TQ_block_exit ?_ | refine TL_q (op_move rfl) rfl ?_ | refine TL_q (op_assign rfl) rfl ?_ | (refine' TL_q (op_bin rfl rfl ?_) rfl ?_; rotate_left 1; (· (exact bin_lss))) | (refine T_no rfl ?_ ?_; (· (exact Bool.not_true)))))
    refine TQ_ret1 2 _ rfl rfl ?_
    exact ⟨rfl, rfl⟩
end Go.Proofs.Ytdflhdfapnhjjaa
namespace Go.Proofs.Ytdflhdfapnhjjaa
open Go.RowKit
open Vd (RSet Vdt Vote Rec Quest Piece Ballot)
set_option linter.unusedVariables false
set_option linter.unusedSimpArgs false
--auto
variable {G : World} {L : Blocks}
theorem i64_lit {x : Int} (h : -9223372036854775808 ≤ x ∧ x ≤ 9223372036854775807) : InLit .i64 x := by
  unfold InLit Lit.wf
  simp [IntKind.min, IntKind.max, IntKind.bits, IntKind.signed]
  omega
def risN (l : List Int) (n : Nat) : List Int := (List.range n).flatMap fun (n : Nat) => l.filter fun x => x == (n : Int)
theorem risN_succ (l : List Int) (n : Nat) : risN l (n + 1) = risN l n ++ l.filter fun x => x == (n : Int) := by
  unfold risN
  rw [List.range_succ, List.flatMap_append]
  simp
theorem risN_len (l : List Int) : ∀ n, (risN l n).length ≤ n * l.length
  | 0 => by simp [risN]
  | n + 1 => by
    have h1 := risN_len l n
    have h2 := List.length_filter_le (fun x => x == (n : Int)) l
    rw [risN_succ, List.length_append, Nat.succ_mul]
    omega
set_option maxRecDepth 100000 in
set_option maxHeartbeats 2000000 in
theorem rising_S (v : Value) (l : List Int) (hl : sliceR 1 (intR .i64) L [v] l) (hn : l.length ≤ 1000) :
    Spec Try.prog G 94 #[v] L fun u M => ∃ a3 c3 B3, u = .slice a3 (risingI l).length c3 ∧ ORow (intR .i64) 3 1 [] a3 c3 (risingI l) B3 ∧ M = B3 ++ L := by
  obtain ⟨a, c, e1, hl⟩ := hl.val
  simp only [List.cons.injEq, and_true] at e1
  subst e1
  refine Spec_of (n := 27) Try.func94 rfl rfl rfl ?_
  repeat ((first | with_reducible refine T_seq ?_ | with_reducible refine T_block ?_ | with_reducible refine T_region ?_ | with_reducible refine TL_nil ?_ | with_reducible refine TQ_then ?_ | refine TL_q (op_assign rfl) rfl ?_))
  refine T_loopS (σ := Nat × Option Addr × Nat × Blocks) (fun y => y.1 ≤ 9 ∧ ORow (intR .i64) 3 1 [] y.2.1 y.2.2.1 (risN l y.1) y.2.2.2) (fun y => [(0, .slice a l.length c), (3, .slice y.2.1 (risN l y.1).length y.2.2.1), (4, .int .i64 (y.1 : Nat))]) (fun y => y.2.2.2 ++ L) (fun y => 9 - y.1) (0, none, 0, []) ⟨Nat.zero_le _, ORow.nil _⟩ ?_ (fun w h => h) ?_
  (repeat ((first | exact trivial | refine ⟨rfl, ?_⟩)))
  rintro ⟨i, a4, c4, B4⟩ ⟨hi, hB4⟩
  dsimp only at hi hB4 ⊢
  have hrl := risN_len l i
  by_cases hil : i < 9
  · have hi9 : i * l.length ≤ 9 * 1000 := Nat.mul_le_mul hi hn
    have hi9' : (i + 1) * l.length ≤ 9 * 1000 := Nat.mul_le_mul hil hn
    have hrs := risN_succ l i
    repeat ((first | with_reducible refine T_seq ?_ | with_reducible refine T_block ?_ | with_reducible refine T_region ?_ | with_reducible refine TL_nil ?_ | with_reducible refine TQ_then ?_ | with_reducible refine T_skip ?_ | refine TL_q (op_move rfl) rfl ?_ | refine TL_q (op_assign rfl) rfl ?_ | (refine' TL_q (op_bin rfl rfl ?_) rfl ?_; rotate_left 1; (· (exact bin_lss))) | (refine T_yes rfl ?_ ?_; (· (exact dT (by (omega)))))))
    refine T_loopS (σ := Nat × Option Addr × Nat × Blocks) (fun y => y.1 ≤ l.length ∧ ORow (intR .i64) 3 1 [] y.2.1 y.2.2.1 (risN l i ++ (l.take y.1).filter fun x => x == (i : Int)) y.2.2.2) (fun y => [(0, .slice a l.length c), (3, .slice y.2.1 (risN l i ++ (l.take y.1).filter fun x => x == (i : Int)).length y.2.2.1), (4, .int .i64 (i : Nat)), (5, .int .i64 (y.1 : Nat))]) (fun y => y.2.2.2 ++ L) (fun y => l.length - y.1) (0, a4, c4, B4) ⟨Nat.zero_le _, by simpa using hB4⟩ ?_ (fun w h => h) ?_
    · rw [List.take_zero, List.filter_nil, List.append_nil]
      (repeat ((first | exact trivial | refine ⟨rfl, ?_⟩)))
    rintro ⟨k, a5, c5, B5⟩ ⟨hk, hB5⟩
    dsimp only at hk hB5 ⊢
    by_cases hkl : k < l.length
    · obtain ⟨x, hx⟩ : ∃ x, l[k]? = some x := ⟨_, List.getElem?_eq_getElem hkl⟩
      obtain ⟨b1, o1, C1, t1, f1, rfl, m1, q1⟩ := ints_at hl hx
      have htk : l.take (k + 1) = l.take k ++ [x] := by rw [List.take_add_one, hx]; rfl
      have hlen2 := List.length_filter_le (fun x => x == (i : Int)) (l.take k)
      rw [List.length_take] at hlen2
      have m1' : (b1, Obj.cells C1 t1 f1) ∈ B5 ++ L := List.mem_append_right _ m1
      have hsum : (risN l i ++ (l.take k).filter fun x => x == (i : Int)).length ≤ 100000 := by rw [List.length_append]; omega
      by_cases hxi : x = (i : Int)
      · have hf : (l.take (k + 1)).filter (fun x => x == (i : Int)) = (l.take k).filter (fun x => x == (i : Int)) ++ [(i : Int)] := by
          rw [htk, List.filter_append, hxi]; simp
        repeat ((first | with_reducible refine T_seq ?_ | with_reducible refine T_block ?_ | with_reducible refine T_region ?_ | with_reducible refine TL_nil ?_ | with_reducible refine TQ_then ?_ | with_reducible refine T_skip ?_ | refine TL_q (op_move rfl) rfl ?_ | (refine' TL_q (op_bin rfl rfl ?_) rfl ?_; rotate_left 1; (· (first | exact bin_eql | exact bin_lss))) | refine TL_q (op_len_slice rfl Try.underlying79) rfl ?_ | (refine' TL_q (op_idx ety_79 rfl rfl ?_) rfl ?_; (· omega)) | (refine' TL_q (op_ld rfl pl_3 ?_ ?_) rfl ?_; rotate_left 4; (· repeat ((assumption))); (· (assumption))) | (refine TL_new (op_lit1 ety_79 rfl rfl) rfl ?_; intro bLit) | (refine T_yes rfl ?_ ?_; (· (exact dT (by (first | assumption | omega)))))))
        refine TL_opT (op_pushI ety_79 rfl rfl hB5 (i64_lit ⟨by omega, by omega⟩) (by omega) (by decide)) rfl ?_
        rintro _ _ ⟨a6, c6, B6, rfl, hB6, rfl⟩
        rw [List.append_assoc, ← hf] at hB6 ⊢
        repeat ((first | with_reducible refine T_region ?_ | with_reducible refine TL_nil ?_ | with_reducible refine TQ_then ?_ | with_reducible refine TQ_block ?_ | refine TL_q (op_move rfl) rfl ?_ | refine TL_q (op_assign rfl) rfl ?_ | (refine' TL_q (op_bin rfl rfl ?_) rfl ?_; rotate_left 1; (· (exact bin_add ⟨by omega, by omega⟩)))))
        refine TQ_roundS (k + 1, a6, c6, B6) ⟨hkl, hB6⟩ ?_ (fun w h => h) (by dsimp only; omega)
        (repeat ((first | exact trivial | refine ⟨rfl, ?_⟩)))
      · have hf : (l.take (k + 1)).filter (fun x => x == (i : Int)) = (l.take k).filter (fun x => x == (i : Int)) := by
          rw [htk, List.filter_append]; simp [hxi]
        repeat ((first | with_reducible refine T_seq ?_ | with_reducible refine T_block ?_ | with_reducible refine T_region ?_ | with_reducible refine TL_nil ?_ | with_reducible refine TQ_then ?_ | with_reducible refine TQ_block ?_ | with_reducible refine T_skip ?_ | refine TL_q (op_move rfl) rfl ?_ | refine TL_q (op_assign rfl) rfl ?_ | (refine' TL_q (op_bin rfl rfl ?_) rfl ?_; rotate_left 1; (· (first | exact bin_add ⟨by omega, by omega⟩ | exact bin_eql | exact bin_lss))) | refine TL_q (op_len_slice rfl Try.underlying79) rfl ?_ | (refine' TL_q (op_idx ety_79 rfl rfl ?_) rfl ?_; (· omega)) | (refine' TL_q (op_ld rfl pl_3 ?_ ?_) rfl ?_; rotate_left 4; (· repeat ((assumption))); (· (assumption))) | (refine T_yes rfl ?_ ?_; (· (exact dT (by (omega))))) | (refine T_no rfl ?_ ?_; (· (exact dF (by (assumption)))))))
        refine TQ_roundS (k + 1, a5, c5, B5) ⟨hkl, by dsimp only; rw [hf]; exact hB5⟩ ?_ (fun w h => h) (by dsimp only; omega)
        dsimp only
        rw [hf]
        (repeat ((first | exact trivial | refine ⟨rfl, ?_⟩)))
    · have hke : k = l.length := by omega
      subst hke
      rw [List.take_length, ← hrs] at hB5 ⊢
      repeat ((first | with_reducible refine T_seq ?_ | with_reducible refine T_region ?_ | with_reducible refine TL_nil ?_ | with_reducible refine TQ_then ?_ | with_reducible refine TQ_block ?_ | with_reducible refine T_exit ?_ | with_reducible refine TQ_then_exit ?_ | with_reducible refine TQ_block_exit ?_ | refine TL_q (op_move rfl) rfl ?_ | refine TL_q (op_assign rfl) rfl ?_ | (refine' TL_q (op_bin rfl rfl ?_) rfl ?_; rotate_left 1; (· (first | exact bin_add ⟨by omega, by omega⟩ | exact bin_lss))) | refine TL_q (op_len_slice rfl Try.underlying79) rfl ?_ | (refine T_no rfl ?_ ?_; (· (exact dF (by (omega)))))))
      refine TQ_roundS (i + 1, a5, c5, B5) ⟨hil, hB5⟩ ?_ (fun w h => h) (by dsimp only; omega)
      (repeat ((first | exact trivial | refine ⟨rfl, ?_⟩)))
  · have hie : i = 9 := by omega
    subst hie
    have h9 : risN l 9 = risingI l := rfl
    rw [h9] at hB4 ⊢
    repeat ((first | with_reducible refine T_seq ?_ | with_reducible refine T_region ?_ | with_reducible refine TL_nil ?_ | with_reducible refine TQ_then ?_ | with_reducible refine T_exit ?_ | with_reducible refine T_ret ?_ | with_reducible refine TQ_then_exit ?_ | with_reducible refine TQ_block_exit ?_ | refine TL_q (op_move rfl) rfl ?_ | refine TL_q (op_assign rfl) rfl ?_ | (refine' TL_q (op_bin rfl rfl ?_) rfl ?_; rotate_left 1; (· (exact bin_lss))) | (refine T_no rfl ?_ ?_; (· (exact Bool.not_true)))))
    refine TQ_ret1 2 _ rfl rfl ?_
    exact ⟨a4, c4, B4, rfl, hB4, rfl⟩
theorem votesB_app (l m : List Ballot) : Vd.votesB (l ++ m) = Vd.votesB l ++ Vd.votesB m := by
  unfold Vd.votesB
  rw [List.filter_append, List.map_append]
theorem votesB_take1 {l : List Ballot} {i : Nat} {y : Ballot} (hy : l[i]? = some y) : Vd.votesB (l.take (i + 1)) = if y.pass then Vd.votesB (l.take i) else Vd.votesB (l.take i) ++ [y.v] := by
  rw [List.take_add_one, hy]
  exact votesB_snoc _ _
theorem votesB_pre (l : List Ballot) (i : Nat) : Vd.votesB l = Vd.votesB (l.take i) ++ Vd.votesB (l.drop i) := by
  rw [← votesB_app, List.take_append_drop]
theorem votesB_at {l : List Ballot} {i : Nat} {y : Ballot} (hy : l[i]? = some y) (hp : y.pass = false) : (Vd.votesB l)[(Vd.votesB (l.take i)).length]? = some y.v ∧ (Vd.votesB l).take ((Vd.votesB (l.take i)).length + 1) = Vd.votesB (l.take (i + 1)) ∧ (Vd.votesB (l.take i)).length < (Vd.votesB l).length := by
  have h1 := votesB_take1 hy
  rw [hp, if_neg (by simp)] at h1
  have h2 := votesB_pre l (i + 1)
  rw [h1] at h2
  refine ⟨?_, ?_, ?_⟩
  · rw [h2, List.append_assoc, List.getElem?_append_right (Nat.le_refl _), Nat.sub_self]
    rfl
  · rw [h2, h1, List.take_left' (by simp)]
  · rw [h2]; simp
theorem fold_snoc (l : List Vote) (x : Vote) (t : Int) : (l ++ [x]).foldl (fun t v => min t v.time) t = min (l.foldl (fun t v => min t v.time) t) x.time := by
  rw [List.foldl_append]; rfl
/-- What the document's Won tells. -/
def RWonOut (K L : Blocks) (r : Vdt × Int × List Int × Bool) (u : Value) (M : Blocks) : Prop := ∃ cs a3 c3 B3, u = .tuple #[.agg cs.toArray, .int .u32 r.2.1, .slice a3 r.2.2.1.length c3, .bool r.2.2.2] ∧ vdR K cs r.1 ∧ ORow (intR .i64) 3 1 [] a3 c3 r.2.2.1 B3 ∧ M = B3 ++ L
set_option maxRecDepth 100000 in
set_option maxHeartbeats 4000000 in
theorem rWon_S {K : Blocks} (bb : Nat) (want : Int) (a : Option Addr) (c : Nat) (l : List Ballot) (hm : (bb, Obj.cells #[.int .i64 want, .slice a l.length c] 124 (0, 0)) ∈ L) (hl : sliceR 6 (fun _ => ballotR K) L [.slice a l.length c] l) (hK : ∀ p ∈ K, p ∈ L) (hn : l.length ≤ 1000) :
    Spec Try.prog G 74 #[.pointer (some ⟨bb, 0, none⟩)] L (RWonOut K L (wonR want (Vd.votesB l))) := by
  have hcap := (sliceR.cut hl).2
  unfold maxLen at hcap
  obtain ⟨hcap1, hcap2, _⟩ := hcap
  obtain ⟨vs, hvs⟩ : ∃ vs, Vd.votesB l = vs := ⟨_, rfl⟩
  rw [hvs]
  refine Spec_of (n := 114) Try.func74 rfl rfl rfl ?_
  refine T_seq (T_region (TL_new (op_alloc (C := #[.int .u8 0, .slice none 0 0, .slice none 0 0]) zero_42 rfl) rfl ?_))
  intro b2
  repeat ((first | with_reducible refine T_seq ?_ | with_reducible refine T_block ?_ | with_reducible refine T_region ?_ | with_reducible refine TL_nil ?_ | with_reducible refine TQ_then ?_ | refine TL_q (op_assign rfl) rfl ?_))
  refine T_loopS (σ := Nat) (fun i => i ≤ l.length ∧ wonAt want vs (Vd.votesB (l.take i)).length = none) (fun i => [(0, .pointer (some ⟨bb, 0, none⟩)), (2, .pointer (some ⟨b2, 0, none⟩)), (6, .int .i64 (i : Nat))]) (fun _ => (b2, Obj.cells #[.int .u8 0, .slice none 0 0, .slice none 0 0] 42 (0, 0)) :: L) (fun i => l.length - i) 0 ⟨Nat.zero_le _, rfl⟩ ?_ (fun w h => h) ?_
  (repeat ((first | exact trivial | refine ⟨rfl, ?_⟩)))
  rintro i ⟨hi, hno⟩
  by_cases hil : i < l.length
  · obtain ⟨y, hy⟩ : ∃ y, l[i]? = some y := ⟨_, List.getElem?_eq_getElem hil⟩
    obtain ⟨b1, o1, C1, t1, f1, rfl, m1, csy, _, ⟨y1, yc1, y2, yc2, rfl, hyv⟩, hcy⟩ := sliceR.at hl hy
    have gy5 : C1[o1 + i * 6 + 5]? = some (.bool y.pass) := hcy 5 _ rfl
    have gy4 : C1[o1 + i * 6 + 0 + 4]? = some (.int .u32 y.v.time) := by rw [Nat.add_zero]; exact hcy 4 _ rfl
    have hya : ∀ j v, ([.int .u8 y.v.vd.code, .slice y1 y.v.vd.sets.length yc1, .slice y2 y.v.vd.soa.length yc2] : List Value)[j]? = some v → C1[o1 + i * 6 + 0 + 1 + j]? = some v := fun j v hj => by
      rw [Nat.add_zero, Nat.add_assoc]
      match j, hj with
      | 0, hj => exact hcy 1 v hj
      | 1, hj => exact hcy 2 v hj
      | 2, hj => exact hcy 3 v hj
    have hyvd : vdR K [.int .u8 y.v.vd.code, .slice y1 y.v.vd.sets.length yc1, .slice y2 y.v.vd.soa.length yc2] y.v.vd := by
      obtain ⟨_, _, _, _, e, p1, p2, p3, _⟩ := hyv.vals
      simp only [List.cons.injEq, Value.slice.injEq, and_true, true_and] at e
      obtain ⟨⟨rfl, rfl⟩, rfl, rfl⟩ := e
      exact ⟨_, _, rfl, p1, p2, p3⟩
    have ht1 := votesB_take1 hy
    cases hp : y.pass with
    | true =>
      rw [hp] at gy5
      rw [hp, if_pos rfl] at ht1
      repeat ((first | with_reducible refine T_seq ?_ | with_reducible refine T_block ?_ | with_reducible refine T_region ?_ | with_reducible refine TL_nil ?_ | with_reducible refine TQ_then ?_ | with_reducible refine T_skip ?_ | with_reducible refine T_exit ?_ | with_reducible refine TQ_then_exit ?_ | with_reducible refine TQ_block_exit ?_ | refine TL_q (op_move rfl) rfl ?_ | refine TL_q (op_assign rfl) rfl ?_ | (refine' TL_q (op_bin rfl rfl ?_) rfl ?_; rotate_left 1; (· (first | exact bin_add ⟨by omega, by omega⟩ | exact bin_lss))) | refine TL_q (op_nilCheck rfl) rfl ?_ | refine TL_q (op_len_slice rfl Try.underlying122) rfl ?_ | (refine' TL_q (op_idx ety_122 rfl rfl ?_) rfl ?_; (· omega)) | refine TL_q (op_fld rfl fld_63_1) rfl ?_ | refine TL_q (op_fld rfl fld_141_1) rfl ?_ | (refine' TL_q (op_ld rfl pl_3 ?_ ?_) rfl ?_; rotate_left 4; (· repeat ((first | assumption | apply List.mem_cons_of_mem))); (· (first | assumption | rfl))) | (refine T_yes rfl ?_ ?_; (· (first | with_reducible rfl | exact dT (by (omega)))))))
      refine TQ_roundS (i + 1) ⟨hil, by rw [ht1]; exact hno⟩ ?_ (fun w h => h) (by omega)
      (repeat (first | exact trivial | refine ⟨rfl, ?_⟩))
    | false =>
      rw [hp] at gy5
      obtain ⟨hat, htake, hmlt⟩ := votesB_at hy hp
      rw [hvs] at hat htake hmlt
      repeat ((first | with_reducible refine T_seq ?_ | with_reducible refine T_block ?_ | with_reducible refine T_region ?_ | with_reducible refine TL_nil ?_ | with_reducible refine TQ_then ?_ | with_reducible refine T_skip ?_ | refine TL_q (op_move rfl) rfl ?_ | refine TL_q (op_assign rfl) rfl ?_ | (refine' TL_q (op_bin rfl rfl ?_) rfl ?_; rotate_left 1; (· (exact bin_lss))) | refine TL_q (op_nilCheck rfl) rfl ?_ | refine TL_q (op_len_slice rfl Try.underlying122) rfl ?_ | (refine' TL_q (op_idx ety_122 rfl rfl ?_) rfl ?_; (· omega)) | refine TL_q (op_fld rfl fld_63_0) rfl ?_ | refine TL_q (op_fld rfl fld_63_1) rfl ?_ | refine TL_q (op_fld rfl fld_63_2) rfl ?_ | refine TL_q (op_fld rfl fld_141_1) rfl ?_ | (refine' TL_q (op_ld rfl pl_3 ?_ ?_) rfl ?_; rotate_left 4; (· repeat ((first | assumption | apply List.mem_cons_of_mem))); (· (first | assumption | rfl))) | (refine T_yes rfl ?_ ?_; (· (exact dT (by (first | assumption | omega))))) | (refine T_no rfl ?_ ?_; (· (with_reducible rfl)))))
      have hlenW : ∀ k, ((withV (Vd.votesB (l.take k)) y.v.vd).map (·.up)).length ≤ k := fun k => by
        rw [List.length_map]
        refine Nat.le_trans (List.length_filter_le _ _) (Nat.le_trans (votesB_len _) ?_)
        rw [List.length_take]
        omega
      refine T_loopS (σ := Nat × Option Addr × Nat × Blocks) (fun s => s.1 ≤ i + 1 ∧ ORow (intR .i64) 3 1 [] s.2.1 s.2.2.1 ((withV (Vd.votesB (l.take s.1)) y.v.vd).map (·.up)) s.2.2.2) (fun s => [(0, .pointer (some ⟨bb, 0, none⟩)), (2, .pointer (some ⟨b2, 0, none⟩)), (6, .int .i64 (i : Nat)), (7, .slice s.2.1 ((withV (Vd.votesB (l.take s.1)) y.v.vd).map (·.up)).length s.2.2.1), (8, .int .u32 ((withV (Vd.votesB (l.take s.1)) y.v.vd).foldl (fun t v => min t v.time) y.v.time)), (9, .int .i64 (s.1 : Nat))]) (fun s => s.2.2.2 ++ ((b2, Obj.cells #[.int .u8 0, .slice none 0 0, .slice none 0 0] 42 (0, 0)) :: L)) (fun s => i + 1 - s.1) (0, none, 0, []) ⟨Nat.zero_le _, ORow.nil _⟩ ?_ (fun w h => h) ?_
      (repeat ((first | exact trivial | refine ⟨rfl, ?_⟩)))
      rintro ⟨k, a7, c7, B7⟩ ⟨hk, hB7⟩
      dsimp only at hk hB7 ⊢
      have hl7 := hlenW k
      by_cases hkl : k ≤ i
      · obtain ⟨z, hz⟩ : ∃ z, l[k]? = some z := ⟨_, List.getElem?_eq_getElem (by omega)⟩
        obtain ⟨b1', o1', C1', t1', f1', ea, _, csz, _, ⟨z1, zc1, z2, zc2, rfl, hzv⟩, hcz0⟩ := sliceR.at hl hz
        obtain ⟨bX, oX, CX, tX, fX, eX, mX, qX⟩ : ∃ b off C te fr, some (⟨b1, o1, none⟩ : Addr) = some ⟨b, off, none⟩ ∧ (b, Obj.cells C te fr) ∈ L ∧ (∀ i x, l[i]? = some x → ∃ cs', cs'.length = 6 ∧ ballotR K cs' x ∧ ∀ j v, cs'[j]? = some v → C[off + i * 6 + j]? = some v) := by
          obtain ⟨_, _, _, h4⟩ := sliceR.cut hl
          rcases h4 with h4 | h4
          · rw [h4] at hil; simp at hil
          · exact h4
        simp only [Option.some.injEq, Addr.mk.injEq, and_true] at eX
        obtain ⟨rfl, rfl⟩ := eX
        obtain ⟨csz2, _, ⟨w1, wc1, w2, wc2, rfl, hwv⟩, hcz⟩ := qX k z hz
        obtain ⟨csy2, _, ⟨u1, uc1, u2, uc2, rfl, huv⟩, hcu⟩ := qX i y hy
        have gz5 : CX[o1 + k * 6 + 5]? = some (.bool z.pass) := hcz 5 _ rfl
        have gz0 : CX[o1 + k * 6 + 0 + 0]? = some (.int .i64 z.v.up) := by rw [Nat.add_zero]; exact hcz 0 _ rfl
        have gz4 : CX[o1 + k * 6 + 0 + 4]? = some (.int .u32 z.v.time) := by rw [Nat.add_zero]; exact hcz 4 _ rfl
        have hza : ∀ j v, ([.int .u8 z.v.vd.code, .slice w1 z.v.vd.sets.length wc1, .slice w2 z.v.vd.soa.length wc2] : List Value)[j]? = some v → CX[o1 + k * 6 + 0 + 1 + j]? = some v := fun j v hj => by
          rw [Nat.add_zero, Nat.add_assoc]
          match j, hj with
          | 0, hj => exact hcz 1 v hj
          | 1, hj => exact hcz 2 v hj
          | 2, hj => exact hcz 3 v hj
        have hua : ∀ j v, ([.int .u8 y.v.vd.code, .slice u1 y.v.vd.sets.length uc1, .slice u2 y.v.vd.soa.length uc2] : List Value)[j]? = some v → CX[o1 + i * 6 + 0 + 1 + j]? = some v := fun j v hj => by
          rw [Nat.add_zero, Nat.add_assoc]
          match j, hj with
          | 0, hj => exact hcu 1 v hj
          | 1, hj => exact hcu 2 v hj
          | 2, hj => exact hcu 3 v hj
        have hzvd : vdR K [.int .u8 z.v.vd.code, .slice w1 z.v.vd.sets.length wc1, .slice w2 z.v.vd.soa.length wc2] z.v.vd := by
          obtain ⟨_, _, _, _, e, p1, p2, p3, _⟩ := hwv.vals
          simp only [List.cons.injEq, Value.slice.injEq, and_true, true_and] at e
          obtain ⟨⟨rfl, rfl⟩, rfl, rfl⟩ := e
          exact ⟨_, _, rfl, p1, p2, p3⟩
        have huvd : vdR K [.int .u8 y.v.vd.code, .slice u1 y.v.vd.sets.length uc1, .slice u2 y.v.vd.soa.length uc2] y.v.vd := by
          obtain ⟨_, _, _, _, e, p1, p2, p3, _⟩ := huv.vals
          simp only [List.cons.injEq, Value.slice.injEq, and_true, true_and] at e
          obtain ⟨⟨rfl, rfl⟩, rfl, rfl⟩ := e
          exact ⟨_, _, rfl, p1, p2, p3⟩
        have hzup : -9223372036854775808 ≤ z.v.up ∧ z.v.up ≤ 9223372036854775807 := by
          obtain ⟨_, _, _, _, _, _, _, _, _, h⟩ := hwv.vals
          exact h
        have htz := votesB_take1 hz
        have hKm : ∀ q ∈ [(bb, Obj.cells #[.int .i64 want, .slice (some ⟨b1, o1, none⟩) l.length c] 124 (0, 0)), (b1, Obj.cells CX tX fX)], q ∈ B7 ++ ((b2, Obj.cells #[.int .u8 0, .slice none 0 0, .slice none 0 0] 42 (0, 0)) :: L) := by
          intro q hq
          simp only [List.mem_cons, List.not_mem_nil, or_false] at hq
          rcases hq with rfl | rfl
          · simp [hm]
          · simp [mX]
        have hKr : ∀ q ∈ K, q ∈ B7 ++ ((b2, Obj.cells #[.int .u8 0, .slice none 0 0, .slice none 0 0] 42 (0, 0)) :: L) := fun q hq => (mem_of_cnt (by intro p; (try simp only [cnt_append, cnt_cons, cnt_nil]) <;> omega)) q (hK q hq)
        clear m1 hcy gy5 gy4 hya hcz0 hyv
        cases hzp : z.pass with
        | true =>
          rw [hzp] at gz5
          rw [hzp, if_pos rfl] at htz
          repeat ((first | with_reducible refine T_seq ?_ | with_reducible refine T_block ?_ | with_reducible refine T_region ?_ | with_reducible refine TL_nil ?_ | with_reducible refine TQ_then ?_ | with_reducible refine T_skip ?_ | refine TL_q (op_move rfl) rfl ?_ | (refine' TL_q (op_bin rfl rfl ?_) rfl ?_; rotate_left 1; (· (exact bin_leq))) | (refine T_yes rfl ?_ ?_; (· (exact dT (by (omega)))))))
          refine T_draw follows_mixed ([(bb, Obj.cells #[.int .i64 want, .slice (some ⟨b1, o1, none⟩) l.length c] 124 (0, 0)), (b1, Obj.cells CX tX fX)]) [] ?_
          (refine' TA_take 0 rfl rfl (by kernel_rfl) (quiet_q (op_move rfl)) ?_ ?_; (· (assumption)))
          (refine' TA_take 1 rfl rfl (by kernel_rfl) (quiet_q (op_nilCheck rfl)) ?_ ?_; (· (assumption)))
          (refine' TA_take 2 rfl rfl (by kernel_rfl) (quiet_q (op_fld rfl fld_124_1)) ?_ ?_; (· (assumption)))
          (refine' TA_take 3 rfl rfl (by kernel_rfl) (quiet_q (op_ld rfl pl_122 ?_ ?_)) ?_ ?_; rotate_left 4; (· repeat ((exact List.mem_cons_self))); (· (rfl)); (· (assumption)))
          (refine' TA_take 4 rfl rfl (by kernel_rfl) (quiet_q (op_move rfl)) ?_ ?_; (· (assumption)))
          (refine' TA_take 5 rfl rfl (by kernel_rfl) (quiet_q (op_idx ety_122 rfl rfl ?_)) ?_ ?_; (· omega); (· (assumption)))
          (refine' TA_take 6 rfl rfl (by kernel_rfl) (quiet_q (op_fld rfl fld_141_1)) ?_ ?_; (· (assumption)))
          (refine' TA_take 7 rfl rfl (by kernel_rfl) (quiet_q (op_ld rfl pl_4 ?_ ?_)) ?_ ?_; rotate_left 4; (· repeat ((first | exact List.mem_cons_self | apply List.mem_cons_of_mem))); (· (assumption)); (· (assumption)))
          (refine' TA_take 8 rfl rfl (by kernel_rfl) (quiet_q (op_not rfl)) ?_ ?_; (· (assumption)))
          (refine' TA_take 9 rfl rfl (by kernel_rfl) (quiet_q (op_move rfl)) ?_ ?_; (· (assumption)))
          (refine TA_take 10 rfl rfl (by kernel_rfl) (quiet_no2 rfl rfl ?_) ?_ ?_; (· (with_reducible rfl)); (· (assumption)))
          (refine TA_take 11 rfl rfl (by kernel_rfl) (quiet_no2 rfl rfl ?_) ?_ ?_; (· (with_reducible rfl)); (· (assumption)))
          (refine TA_take 12 rfl rfl (by kernel_rfl) (quiet_no2 rfl rfl ?_) ?_ ?_; (· (with_reducible rfl)); (· (assumption)))
          (refine TA_take 13 rfl rfl (by kernel_rfl) (quiet_no2 rfl rfl ?_) ?_ ?_; (· (with_reducible rfl)); (· (assumption)))
          (refine TA_take 14 rfl rfl (by kernel_rfl) (quiet_no2 rfl rfl ?_) ?_ ?_; (· (with_reducible rfl)); (· (assumption)))
          (refine TA_take 15 rfl rfl (by kernel_rfl) (quiet_no2 rfl rfl ?_) ?_ ?_; (· (with_reducible rfl)); (· (assumption)))
          (refine TA_take 16 rfl rfl (by kernel_rfl) (quiet_no2 rfl rfl ?_) ?_ ?_; (· (with_reducible rfl)); (· (assumption)))
          (refine TA_take 17 rfl rfl (by kernel_rfl) (quiet_no2 rfl rfl ?_) ?_ ?_; (· (with_reducible rfl)); (· (assumption)))
          (refine TA_take 19 rfl rfl (by kernel_rfl) (quiet_no2 rfl rfl ?_) ?_ ?_; (· (with_reducible rfl)); (· (assumption)))
          (refine TA_take 20 rfl rfl (by kernel_rfl) (quiet_no2 rfl rfl ?_) ?_ ?_; (· (with_reducible rfl)); (· (assumption)))
          (refine TA_take 21 rfl rfl (by kernel_rfl) (quiet_no2 rfl rfl ?_) ?_ ?_; (· (with_reducible rfl)); (· (assumption)))
          (refine TA_take 22 rfl rfl (by kernel_rfl) (quiet_no2 rfl rfl ?_) ?_ ?_; (· (with_reducible rfl)); (· (assumption)))
          (refine TA_take 23 rfl rfl (by kernel_rfl) (quiet_no2 rfl rfl ?_) ?_ ?_; (· (with_reducible rfl)); (· (assumption)))
          (refine TA_take 24 rfl rfl (by kernel_rfl) (quiet_no2 rfl rfl ?_) ?_ ?_; (· (with_reducible rfl)); (· (assumption)))
          (refine TA_take 25 rfl rfl (by kernel_rfl) (quiet_no2 rfl rfl ?_) ?_ ?_; (· (with_reducible rfl)); (· (assumption)))
          (refine TA_take 26 rfl rfl (by kernel_rfl) (quiet_no2 rfl rfl ?_) ?_ ?_; (· (with_reducible rfl)); (· (assumption)))
          -- SEVERAL: [18, 27]
          (refine TA_take 18 rfl rfl (by kernel_rfl) (quiet_no2 rfl rfl ?_) ?_ ?_; (· (with_reducible rfl)); (· exact hKm))
          (refine TA_take 27 rfl rfl (by kernel_rfl) (quiet_no2 rfl rfl ?_) ?_ ?_; (· (with_reducible rfl)); (· exact hKm))
          (refine TA_take 28 rfl rfl (by kernel_rfl) (quiet_no2 rfl rfl ?_) ?_ ?_; (· (with_reducible rfl)); (· exact hKm))
          (refine' TA_take 29 rfl rfl (by kernel_rfl) (quiet_q (op_pickF rfl ?_ rfl)) ?_ ?_; (· (exact Bool.not_true)); (· (assumption)))
          refine TA_done (by kernel_rfl) ?_
          repeat ((first | with_reducible refine T_region ?_ | with_reducible refine TL_nil ?_ | with_reducible refine TQ_then ?_ | with_reducible refine TQ_block ?_ | with_reducible refine T_skip ?_ | refine TL_q (op_move rfl) rfl ?_ | refine TL_q (op_assign rfl) rfl ?_ | (refine' TL_q (op_bin rfl rfl ?_) rfl ?_; rotate_left 1; (· (exact bin_add ⟨by omega, by omega⟩))) | (refine T_no rfl ?_ ?_; (· (with_reducible rfl)))))
          refine TQ_roundS (k + 1, a7, c7, B7) ⟨by dsimp only; omega, by dsimp only; rw [htz]; exact hB7⟩ ?_ (fun w h => h) (by dsimp only; omega)
          dsimp only
          rw [htz]
          (repeat (first | exact trivial | refine ⟨rfl, ?_⟩))
        | false =>
          rw [hzp] at gz5
          rw [hzp, if_neg (by simp)] at htz
          have hws := withV_snoc (Vd.votesB (l.take k)) z.v y.v.vd
          rw [← htz] at hws
          by_cases hzy : z.v.vd = y.v.vd
          · rw [if_pos hzy] at hws
            have hf := fold_snoc (withV (Vd.votesB (l.take k)) y.v.vd) z.v y.v.time
            rw [← hws] at hf
            have hmp : (withV (Vd.votesB (l.take (k + 1))) y.v.vd).map (·.up) = (withV (Vd.votesB (l.take k)) y.v.vd).map (·.up) ++ [z.v.up] := by rw [hws]; simp
            repeat ((first | with_reducible refine T_seq ?_ | with_reducible refine T_block ?_ | with_reducible refine T_region ?_ | with_reducible refine TL_nil ?_ | with_reducible refine TQ_then ?_ | with_reducible refine T_skip ?_ | refine TL_q (op_move rfl) rfl ?_ | (refine' TL_q (op_bin rfl rfl ?_) rfl ?_; rotate_left 1; (· (exact bin_leq))) | (refine T_yes rfl ?_ ?_; (· (exact dT (by (omega)))))))
            refine T_draw follows_mixed ([(bb, Obj.cells #[.int .i64 want, .slice (some ⟨b1, o1, none⟩) l.length c] 124 (0, 0)), (b1, Obj.cells CX tX fX)]) [] ?_
            (refine' TA_take 0 rfl rfl (by kernel_rfl) (quiet_q (op_move rfl)) ?_ ?_; (· (assumption)))
            (refine' TA_take 1 rfl rfl (by kernel_rfl) (quiet_q (op_nilCheck rfl)) ?_ ?_; (· (assumption)))
            (refine' TA_take 2 rfl rfl (by kernel_rfl) (quiet_q (op_fld rfl fld_124_1)) ?_ ?_; (· (assumption)))
            (refine' TA_take 3 rfl rfl (by kernel_rfl) (quiet_q (op_ld rfl pl_122 ?_ ?_)) ?_ ?_; rotate_left 4; (· repeat ((exact List.mem_cons_self))); (· (rfl)); (· (assumption)))
            (refine' TA_take 4 rfl rfl (by kernel_rfl) (quiet_q (op_move rfl)) ?_ ?_; (· (assumption)))
            (refine' TA_take 5 rfl rfl (by kernel_rfl) (quiet_q (op_idx ety_122 rfl rfl ?_)) ?_ ?_; (· omega); (· (assumption)))
            (refine' TA_take 6 rfl rfl (by kernel_rfl) (quiet_q (op_fld rfl fld_141_1)) ?_ ?_; (· (assumption)))
            (refine' TA_take 7 rfl rfl (by kernel_rfl) (quiet_q (op_ld rfl pl_4 ?_ ?_)) ?_ ?_; rotate_left 4; (· repeat ((first | exact List.mem_cons_self | apply List.mem_cons_of_mem))); (· (assumption)); (· (assumption)))
            (refine' TA_take 8 rfl rfl (by kernel_rfl) (quiet_q (op_not rfl)) ?_ ?_; (· (assumption)))
            (refine' TA_take 9 rfl rfl (by kernel_rfl) (quiet_q (op_move rfl)) ?_ ?_; (· (assumption)))
            (refine' TA_take 10 rfl rfl (by kernel_rfl) (quiet_g2 rfl rfl (by (exact Bool.not_false)) (op_move rfl)) ?_ ?_; (· (assumption)))
            (refine' TA_take 11 rfl rfl (by kernel_rfl) (quiet_g2 rfl rfl (by (exact Bool.not_false)) (op_nilCheck rfl)) ?_ ?_; (· (assumption)))
            (refine' TA_take 12 rfl rfl (by kernel_rfl) (quiet_g2 rfl rfl (by (exact Bool.not_false)) (op_fld rfl fld_124_1)) ?_ ?_; (· (assumption)))
            (refine' TA_take 13 rfl rfl (by kernel_rfl) (quiet_g2 rfl rfl (by (exact Bool.not_false)) (op_ld rfl pl_122 ?_ ?_)) ?_ ?_; rotate_left 4; (· repeat ((exact List.mem_cons_self))); (· (rfl)); (· (assumption)))
            (refine' TA_take 14 rfl rfl (by kernel_rfl) (quiet_g2 rfl rfl (by (exact Bool.not_false)) (op_move rfl)) ?_ ?_; (· (assumption)))
            (refine' TA_take 15 rfl rfl (by kernel_rfl) (quiet_g2 rfl rfl (by (exact Bool.not_false)) (op_idx ety_122 rfl rfl ?_)) ?_ ?_; (· omega); (· (assumption)))
            (refine' TA_take 16 rfl rfl (by kernel_rfl) (quiet_g2 rfl rfl (by (exact Bool.not_false)) (op_fld rfl fld_141_0)) ?_ ?_; (· (assumption)))
            (refine' TA_take 17 rfl rfl (by kernel_rfl) (quiet_g2 rfl rfl (by (exact Bool.not_false)) (op_fld rfl fld_63_1)) ?_ ?_; (· (assumption)))
            (refine' TA_take 19 rfl rfl (by kernel_rfl) (quiet_g2 rfl rfl (by (exact Bool.not_false)) (op_move rfl)) ?_ ?_; (· (assumption)))
            (refine' TA_take 20 rfl rfl (by kernel_rfl) (quiet_g2 rfl rfl (by (exact Bool.not_false)) (op_nilCheck rfl)) ?_ ?_; (· (assumption)))
            (refine' TA_take 21 rfl rfl (by kernel_rfl) (quiet_g2 rfl rfl (by (exact Bool.not_false)) (op_fld rfl fld_124_1)) ?_ ?_; (· (assumption)))
            (refine' TA_take 22 rfl rfl (by kernel_rfl) (quiet_g2 rfl rfl (by (exact Bool.not_false)) (op_ld rfl pl_122 ?_ ?_)) ?_ ?_; rotate_left 4; (· repeat ((exact List.mem_cons_self))); (· (rfl)); (· (assumption)))
            (refine' TA_take 23 rfl rfl (by kernel_rfl) (quiet_g2 rfl rfl (by (exact Bool.not_false)) (op_move rfl)) ?_ ?_; (· (assumption)))
            (refine' TA_take 24 rfl rfl (by kernel_rfl) (quiet_g2 rfl rfl (by (exact Bool.not_false)) (op_idx ety_122 rfl rfl ?_)) ?_ ?_; (· omega); (· (assumption)))
            (refine' TA_take 25 rfl rfl (by kernel_rfl) (quiet_g2 rfl rfl (by (exact Bool.not_false)) (op_fld rfl fld_141_0)) ?_ ?_; (· (assumption)))
            (refine' TA_take 26 rfl rfl (by kernel_rfl) (quiet_g2 rfl rfl (by (exact Bool.not_false)) (op_fld rfl fld_63_1)) ?_ ?_; (· (assumption)))
            -- SEVERAL: [18, 27]
            (refine TA_take 18 rfl rfl (by kernel_rfl) (quiet_g2 rfl rfl (by (exact Bool.not_false)) (op_ldA [.int .u8 z.v.vd.code, .slice w1 z.v.vd.sets.length wc1, .slice w2 z.v.vd.soa.length wc2] rfl st_42 (List.mem_cons_of_mem _ (List.mem_cons_self ..)) hza)) ?_ ?_; (· exact hKm))
            (refine TA_take 27 rfl rfl (by kernel_rfl) (quiet_g2 rfl rfl (by (exact Bool.not_false)) (op_ldA [.int .u8 y.v.vd.code, .slice u1 y.v.vd.sets.length uc1, .slice u2 y.v.vd.soa.length uc2] rfl st_42 (List.mem_cons_of_mem _ (List.mem_cons_self ..)) hua)) ?_ ?_; (· exact hKm))
            (refine TA_oneGd 28 (by kernel_rfl) rfl rfl rfl rfl (by (exact Bool.not_false)) (op_call hb_23 rfl (vSame_S [.int .u8 z.v.vd.code, .slice w1 z.v.vd.sets.length wc1, .slice w2 z.v.vd.soa.length wc2] [.int .u8 y.v.vd.code, .slice u1 y.v.vd.sets.length uc1, .slice u2 y.v.vd.soa.length uc2] z.v.vd y.v.vd (mono_vd _ _ _ _ hKr hzvd) (mono_vd _ _ _ _ hKr huvd))) ?_; rintro _ _ ⟨rfl, rfl⟩; refine ⟨Or.inr hKm, ?_⟩)
            (refine' TA_take 29 rfl rfl (by kernel_rfl) (quiet_q (op_pickT rfl ?_ rfl)) ?_ ?_; (· (exact Bool.not_false)); (· (assumption)))
            refine TA_done (by kernel_rfl) ?_
            repeat ((first | with_reducible refine T_seq ?_ | with_reducible refine T_region ?_ | with_reducible refine TQ_then ?_ | refine TL_q (op_move rfl) rfl ?_ | refine TL_q (op_nilCheck rfl) rfl ?_ | (refine' TL_q (op_idx ety_122 rfl rfl ?_) rfl ?_; (· omega)) | refine TL_q (op_fld rfl fld_63_0) rfl ?_ | refine TL_q (op_fld rfl fld_63_1) rfl ?_ | (refine' TL_q (op_ld rfl pl_3 ?_ ?_) rfl ?_; rotate_left 4; (· repeat ((first | assumption | apply List.mem_cons_of_mem | apply List.mem_append_right))); (· (first | assumption | rfl))) | (refine TL_new (op_lit1 ety_79 rfl rfl) rfl ?_; intro bLit) | (refine T_yes rfl ?_ ?_; (· (exact dT (by (assumption)))))))
            refine TL_cnt (L' := (bLit, Obj.cells #[.int .i64 z.v.up] 3 (0, 0)) :: (B7 ++ ((b2, Obj.cells #[.int .u8 0, .slice none 0 0, .slice none 0 0] 42 (0, 0)) :: L))) ?_ (by intro p; (try simp only [cnt_append, cnt_cons, cnt_nil]) <;> omega)
            refine TL_opT (op_pushI ety_79 rfl rfl hB7 (i64_lit hzup) (by omega) (by decide)) rfl ?_
            rintro _ _ ⟨a8, c8, B8, rfl, hB8, rfl⟩
            rw [← hmp] at hB8 ⊢
            repeat ((first | with_reducible refine T_region ?_ | with_reducible refine TL_nil ?_ | with_reducible refine TQ_then ?_ | with_reducible refine TQ_block ?_ | refine TL_q (op_move rfl) rfl ?_ | refine TL_q (op_assign rfl) rfl ?_ | (refine' TL_q (op_bin rfl rfl ?_) rfl ?_; rotate_left 1; (· (exact bin_add ⟨by omega, by omega⟩))) | refine TL_q (op_nilCheck rfl) rfl ?_ | refine TL_q (op_min rfl rfl) rfl ?_ | (refine' TL_q (op_idx ety_122 rfl rfl ?_) rfl ?_; (· omega)) | refine TL_q (op_fld rfl fld_63_0) rfl ?_ | refine TL_q (op_fld rfl fld_63_1) rfl ?_ | refine TL_q (op_fld rfl fld_63_2) rfl ?_ | (refine' TL_q (op_ld rfl pl_3 ?_ ?_) rfl ?_; rotate_left 4; (· repeat ((first | assumption | apply List.mem_cons_of_mem | apply List.mem_append_right))); (· (first | assumption | rfl)))))
            refine TQ_roundS (k + 1, a8, c8, B8) ⟨by dsimp only; omega, hB8⟩ ?_ (fun w h => h) (by dsimp only; omega)
            rw [hf]
            (repeat ((first | exact trivial | refine ⟨rfl, ?_⟩)))
          · rw [if_neg hzy] at hws
            repeat ((first | with_reducible refine T_seq ?_ | with_reducible refine T_block ?_ | with_reducible refine T_region ?_ | with_reducible refine TL_nil ?_ | with_reducible refine TQ_then ?_ | with_reducible refine T_skip ?_ | refine TL_q (op_move rfl) rfl ?_ | (refine' TL_q (op_bin rfl rfl ?_) rfl ?_; rotate_left 1; (· (exact bin_leq))) | (refine T_yes rfl ?_ ?_; (· (exact dT (by (omega)))))))
            refine T_draw follows_mixed ([(bb, Obj.cells #[.int .i64 want, .slice (some ⟨b1, o1, none⟩) l.length c] 124 (0, 0)), (b1, Obj.cells CX tX fX)]) [] ?_
            (refine' TA_take 0 rfl rfl (by kernel_rfl) (quiet_q (op_move rfl)) ?_ ?_; (· (assumption)))
            (refine' TA_take 1 rfl rfl (by kernel_rfl) (quiet_q (op_nilCheck rfl)) ?_ ?_; (· (assumption)))
            (refine' TA_take 2 rfl rfl (by kernel_rfl) (quiet_q (op_fld rfl fld_124_1)) ?_ ?_; (· (assumption)))
            (refine' TA_take 3 rfl rfl (by kernel_rfl) (quiet_q (op_ld rfl pl_122 ?_ ?_)) ?_ ?_; rotate_left 4; (· repeat ((exact List.mem_cons_self))); (· (rfl)); (· (assumption)))
            (refine' TA_take 4 rfl rfl (by kernel_rfl) (quiet_q (op_move rfl)) ?_ ?_; (· (assumption)))
            (refine' TA_take 5 rfl rfl (by kernel_rfl) (quiet_q (op_idx ety_122 rfl rfl ?_)) ?_ ?_; (· omega); (· (assumption)))
            (refine' TA_take 6 rfl rfl (by kernel_rfl) (quiet_q (op_fld rfl fld_141_1)) ?_ ?_; (· (assumption)))
            (refine' TA_take 7 rfl rfl (by kernel_rfl) (quiet_q (op_ld rfl pl_4 ?_ ?_)) ?_ ?_; rotate_left 4; (· repeat ((first | exact List.mem_cons_self | apply List.mem_cons_of_mem))); (· (assumption)); (· (assumption)))
            (refine' TA_take 8 rfl rfl (by kernel_rfl) (quiet_q (op_not rfl)) ?_ ?_; (· (assumption)))
            (refine' TA_take 9 rfl rfl (by kernel_rfl) (quiet_q (op_move rfl)) ?_ ?_; (· (assumption)))
            (refine' TA_take 10 rfl rfl (by kernel_rfl) (quiet_g2 rfl rfl (by (exact Bool.not_false)) (op_move rfl)) ?_ ?_; (· (assumption)))
            (refine' TA_take 11 rfl rfl (by kernel_rfl) (quiet_g2 rfl rfl (by (exact Bool.not_false)) (op_nilCheck rfl)) ?_ ?_; (· (assumption)))
            (refine' TA_take 12 rfl rfl (by kernel_rfl) (quiet_g2 rfl rfl (by (exact Bool.not_false)) (op_fld rfl fld_124_1)) ?_ ?_; (· (assumption)))
            (refine' TA_take 13 rfl rfl (by kernel_rfl) (quiet_g2 rfl rfl (by (exact Bool.not_false)) (op_ld rfl pl_122 ?_ ?_)) ?_ ?_; rotate_left 4; (· repeat ((exact List.mem_cons_self))); (· (rfl)); (· (assumption)))
            (refine' TA_take 14 rfl rfl (by kernel_rfl) (quiet_g2 rfl rfl (by (exact Bool.not_false)) (op_move rfl)) ?_ ?_; (· (assumption)))
            (refine' TA_take 15 rfl rfl (by kernel_rfl) (quiet_g2 rfl rfl (by (exact Bool.not_false)) (op_idx ety_122 rfl rfl ?_)) ?_ ?_; (· omega); (· (assumption)))
            (refine' TA_take 16 rfl rfl (by kernel_rfl) (quiet_g2 rfl rfl (by (exact Bool.not_false)) (op_fld rfl fld_141_0)) ?_ ?_; (· (assumption)))
            (refine' TA_take 17 rfl rfl (by kernel_rfl) (quiet_g2 rfl rfl (by (exact Bool.not_false)) (op_fld rfl fld_63_1)) ?_ ?_; (· (assumption)))
            (refine' TA_take 19 rfl rfl (by kernel_rfl) (quiet_g2 rfl rfl (by (exact Bool.not_false)) (op_move rfl)) ?_ ?_; (· (assumption)))
            (refine' TA_take 20 rfl rfl (by kernel_rfl) (quiet_g2 rfl rfl (by (exact Bool.not_false)) (op_nilCheck rfl)) ?_ ?_; (· (assumption)))
            (refine' TA_take 21 rfl rfl (by kernel_rfl) (quiet_g2 rfl rfl (by (exact Bool.not_false)) (op_fld rfl fld_124_1)) ?_ ?_; (· (assumption)))
            (refine' TA_take 22 rfl rfl (by kernel_rfl) (quiet_g2 rfl rfl (by (exact Bool.not_false)) (op_ld rfl pl_122 ?_ ?_)) ?_ ?_; rotate_left 4; (· repeat ((exact List.mem_cons_self))); (· (rfl)); (· (assumption)))
            (refine' TA_take 23 rfl rfl (by kernel_rfl) (quiet_g2 rfl rfl (by (exact Bool.not_false)) (op_move rfl)) ?_ ?_; (· (assumption)))
            (refine' TA_take 24 rfl rfl (by kernel_rfl) (quiet_g2 rfl rfl (by (exact Bool.not_false)) (op_idx ety_122 rfl rfl ?_)) ?_ ?_; (· omega); (· (assumption)))
            (refine' TA_take 25 rfl rfl (by kernel_rfl) (quiet_g2 rfl rfl (by (exact Bool.not_false)) (op_fld rfl fld_141_0)) ?_ ?_; (· (assumption)))
            (refine' TA_take 26 rfl rfl (by kernel_rfl) (quiet_g2 rfl rfl (by (exact Bool.not_false)) (op_fld rfl fld_63_1)) ?_ ?_; (· (assumption)))
            -- SEVERAL: [18, 27]
            (refine TA_take 18 rfl rfl (by kernel_rfl) (quiet_g2 rfl rfl (by (exact Bool.not_false)) (op_ldA [.int .u8 z.v.vd.code, .slice w1 z.v.vd.sets.length wc1, .slice w2 z.v.vd.soa.length wc2] rfl st_42 (List.mem_cons_of_mem _ (List.mem_cons_self ..)) hza)) ?_ ?_; (· exact hKm))
            (refine TA_take 27 rfl rfl (by kernel_rfl) (quiet_g2 rfl rfl (by (exact Bool.not_false)) (op_ldA [.int .u8 y.v.vd.code, .slice u1 y.v.vd.sets.length uc1, .slice u2 y.v.vd.soa.length uc2] rfl st_42 (List.mem_cons_of_mem _ (List.mem_cons_self ..)) hua)) ?_ ?_; (· exact hKm))
            (refine TA_oneGd 28 (by kernel_rfl) rfl rfl rfl rfl (by (exact Bool.not_false)) (op_call hb_23 rfl (vSame_S [.int .u8 z.v.vd.code, .slice w1 z.v.vd.sets.length wc1, .slice w2 z.v.vd.soa.length wc2] [.int .u8 y.v.vd.code, .slice u1 y.v.vd.sets.length uc1, .slice u2 y.v.vd.soa.length uc2] z.v.vd y.v.vd (mono_vd _ _ _ _ hKr hzvd) (mono_vd _ _ _ _ hKr huvd))) ?_; rintro _ _ ⟨rfl, rfl⟩; refine ⟨Or.inr hKm, ?_⟩)
            (refine' TA_take 29 rfl rfl (by kernel_rfl) (quiet_q (op_pickT rfl ?_ rfl)) ?_ ?_; (· (exact Bool.not_false)); (· (assumption)))
            refine TA_done (by kernel_rfl) ?_
            repeat ((first | with_reducible refine T_region ?_ | with_reducible refine TL_nil ?_ | with_reducible refine TQ_then ?_ | with_reducible refine TQ_block ?_ | with_reducible refine T_skip ?_ | refine TL_q (op_move rfl) rfl ?_ | refine TL_q (op_assign rfl) rfl ?_ | (refine' TL_q (op_bin rfl rfl ?_) rfl ?_; rotate_left 1; (· (exact bin_add ⟨by omega, by omega⟩))) | (refine T_no rfl ?_ ?_; (· (exact dF (by (assumption)))))))
            refine TQ_roundS (k + 1, a7, c7, B7) ⟨by dsimp only; omega, by dsimp only; rw [hws]; exact hB7⟩ ?_ (fun w h => h) (by dsimp only; omega)
            dsimp only
            rw [hws]
            (repeat ((first | exact trivial | refine ⟨rfl, ?_⟩)))
      · have hke : k = i + 1 := by omega
        subst hke
        rw [← htake] at hB7 hl7 ⊢
        have hws := wonAt_succ hat hno
        have hlm : ((withV (vs.take ((Vd.votesB (l.take i)).length + 1)) y.v.vd).map (·.up)).length = (withV (vs.take ((Vd.votesB (l.take i)).length + 1)) y.v.vd).length := List.length_map _
        by_cases hwin : want ≤ ((((withV (vs.take ((Vd.votesB (l.take i)).length + 1)) y.v.vd).map (·.up)).length : Nat) : Int)
        · have hyes : wonAt want vs vs.length = some (Vd.votesB (l.take i)).length := wonAt_some _ _ hmlt (by rw [hws, if_pos (by rw [← hlm]; exact hwin)])
          have hR : wonR want vs = (y.v.vd, (withV (vs.take ((Vd.votesB (l.take i)).length + 1)) y.v.vd).foldl (fun t v => min t v.time) y.v.time, risingI ((withV (vs.take ((Vd.votesB (l.take i)).length + 1)) y.v.vd).map (·.up)), true) := by
            unfold wonR
            rw [hyes]
            dsimp only
            rw [hat]
          rw [hR]
          have hKm : ∀ q ∈ [(bb, Obj.cells #[.int .i64 want, .slice (some ⟨b1, o1, none⟩) l.length c] 124 (0, 0)), (b1, Obj.cells C1 t1 f1)], q ∈ B7 ++ ((b2, Obj.cells #[.int .u8 0, .slice none 0 0, .slice none 0 0] 42 (0, 0)) :: L) := by
            intro q hq
            simp only [List.mem_cons, List.not_mem_nil, or_false] at hq
            rcases hq with rfl | rfl
            · simp [hm]
            · simp [m1]
          repeat ((first | with_reducible refine T_seq ?_ | with_reducible refine T_region ?_ | with_reducible refine TL_nil ?_ | with_reducible refine TQ_then ?_ | with_reducible refine T_exit ?_ | with_reducible refine TQ_then_exit ?_ | with_reducible refine TQ_block_exit ?_ | refine TL_q (op_move rfl) rfl ?_ | (refine' TL_q (op_bin rfl rfl ?_) rfl ?_; rotate_left 1; (· (first | exact bin_leq | exact bin_geq))) | refine TL_q (op_nilCheck rfl) rfl ?_ | refine TL_q (op_len_slice rfl Try.underlying79) rfl ?_ | refine TL_q (op_fld rfl fld_63_0) rfl ?_ | (refine' TL_q (op_ld rfl pl_3 ?_ ?_) rfl ?_; rotate_left 4; (· repeat ((first | assumption | apply List.mem_cons_of_mem | apply List.mem_append_right))); (· (rfl))) | (refine T_yes rfl ?_ ?_; (· (exact dT (by (assumption))))) | (refine T_no rfl ?_ ?_; (· (exact dF (by (omega)))))))
          refine T_draw follows_mixed ([(bb, Obj.cells #[.int .i64 want, .slice (some ⟨b1, o1, none⟩) l.length c] 124 (0, 0)), (b1, Obj.cells C1 t1 f1)]) [] ?_
          (refine' TA_take 0 rfl rfl (by kernel_rfl) (quiet_q (op_move rfl)) ?_ ?_; (· (assumption)))
          (refine' TA_take 1 rfl rfl (by kernel_rfl) (quiet_q (op_nilCheck rfl)) ?_ ?_; (· (assumption)))
          (refine' TA_take 2 rfl rfl (by kernel_rfl) (quiet_q (op_fld rfl fld_124_1)) ?_ ?_; (· (assumption)))
          (refine' TA_take 3 rfl rfl (by kernel_rfl) (quiet_q (op_ld rfl pl_122 ?_ ?_)) ?_ ?_; rotate_left 4; (· repeat ((exact List.mem_cons_self))); (· (rfl)); (· (assumption)))
          (refine' TA_take 4 rfl rfl (by kernel_rfl) (quiet_q (op_move rfl)) ?_ ?_; (· (assumption)))
          (refine' TA_take 5 rfl rfl (by kernel_rfl) (quiet_q (op_idx ety_122 rfl rfl ?_)) ?_ ?_; (· omega); (· (assumption)))
          (refine' TA_take 6 rfl rfl (by kernel_rfl) (quiet_q (op_fld rfl fld_141_0)) ?_ ?_; (· (assumption)))
          (refine' TA_take 7 rfl rfl (by kernel_rfl) (quiet_q (op_fld rfl fld_63_1)) ?_ ?_; (· (assumption)))
          (refine' TA_take 8 rfl rfl (by kernel_rfl) (quiet_q (op_ldA [.int .u8 y.v.vd.code, .slice y1 y.v.vd.sets.length yc1, .slice y2 y.v.vd.soa.length yc2] rfl st_42 (List.mem_cons_of_mem _ (List.mem_cons_self ..)) hya)) ?_ ?_; (· (assumption)))
          (refine' TA_take 9 rfl rfl (by kernel_rfl) (quiet_q (op_move rfl)) ?_ ?_; (· (assumption)))
          (refine' TA_take 10 rfl rfl (by kernel_rfl) (quiet_q (op_move rfl)) ?_ ?_; (· (assumption)))
          refine TA_oneD 11 (by kernel_rfl) rfl rfl rfl rfl (op_call hb_94 rfl (rising_S _ _ (hB7.sliceR (mono_int _) (by simp) (mem_of_cnt (by intro p; (try simp only [cnt_append, cnt_cons, cnt_nil]) <;> omega))) (by omega))) ?_; rintro _ _ ⟨aR, cR, BR, rfl, hBR, rfl⟩; refine ⟨Or.inr (fun q hq => (mem_of_cnt (by intro p; (try simp only [cnt_append, cnt_cons, cnt_nil]) <;> omega)) q (hKm q hq)), ?_⟩
          refine TA_cnt (L' := (b2, Obj.cells #[.int .u8 0, .slice none 0 0, .slice none 0 0] 42 (0, 0)) :: (BR ++ (B7 ++ L))) ?_ (by intro p; (try simp only [cnt_append, cnt_cons, cnt_nil]) <;> omega); refine TA_oneN 12 (by kernel_rfl) rfl rfl rfl (op_stAll rfl rfl st_42 rfl rfl rfl) ?_; rintro _ _ ⟨_, rfl⟩; refine ⟨Or.inr ?_, ?_⟩; (· intro q hq; simp only [List.mem_cons, List.not_mem_nil, or_false] at hq; rcases hq with rfl | rfl; (· simp [hm]); (· simp [m1]))
          (refine' TA_take 13 rfl rfl (by kernel_rfl) (quiet_q (op_assign rfl)) ?_ ?_; (· (intro p hp; grind)))
          (refine' TA_take 14 rfl rfl (by kernel_rfl) (quiet_q (op_assign rfl)) ?_ ?_; (· (intro p hp; grind)))
          (refine' TA_take 15 rfl rfl (by kernel_rfl) (quiet_q (op_assign rfl)) ?_ ?_; (· (intro p hp; grind)))
          refine TA_done (by kernel_rfl) ?_
          repeat ((first | with_reducible refine TQ_then ?_ | with_reducible refine T_ret ?_ | with_reducible refine TQ_then_ret ?_ | with_reducible refine TQ_block_ret ?_))
          clear hm m1
          refine TQ_retC4 2 42 3 4 5 rfl rfl rfl rfl rfl st_42 (by repeat ((exact List.mem_cons_self))) rfl (fun w h => Heap.cnt (L' := BR ++ L) h (by intro p; (try simp only [cnt_append, cnt_cons, cnt_nil]) <;> omega)) ?_
          exact ⟨_, _, _, _, rfl, hyvd, hBR, rfl⟩
        · have hno1 : wonAt want vs (Vd.votesB (l.take (i + 1))).length = none := by
            have e1 : (Vd.votesB (l.take (i + 1))).length = (Vd.votesB (l.take i)).length + 1 := by rw [ht1, hp]; simp
            rw [e1, hws, if_neg (by rw [← hlm]; exact hwin)]
          repeat ((first | with_reducible refine T_seq ?_ | with_reducible refine T_region ?_ | with_reducible refine TL_nil ?_ | with_reducible refine TQ_then ?_ | with_reducible refine TQ_block ?_ | with_reducible refine T_skip ?_ | with_reducible refine T_exit ?_ | with_reducible refine TQ_then_exit ?_ | with_reducible refine TQ_block_exit ?_ | refine TL_q (op_move rfl) rfl ?_ | refine TL_q (op_assign rfl) rfl ?_ | (refine' TL_q (op_bin rfl rfl ?_) rfl ?_; rotate_left 1; (· (first | exact bin_add ⟨by omega, by omega⟩ | exact bin_leq | exact bin_geq))) | refine TL_q (op_nilCheck rfl) rfl ?_ | refine TL_q (op_len_slice rfl Try.underlying79) rfl ?_ | refine TL_q (op_fld rfl fld_63_0) rfl ?_ | (refine' TL_q (op_ld rfl pl_3 ?_ ?_) rfl ?_; rotate_left 4; (· repeat ((first | assumption | apply List.mem_cons_of_mem | apply List.mem_append_right))); (· (rfl))) | (refine T_no rfl ?_ ?_; (· (exact dF (by (first | assumption | omega)))))))
          refine TQ_roundS (i + 1) ⟨hil, hno1⟩ ?_ (fun w h => h.cnt (by intro p; (try simp only [cnt_append, cnt_cons, cnt_nil]) <;> omega)) (by omega)
          (repeat ((first | exact trivial | refine ⟨rfl, ?_⟩)))
  · have hie : i = l.length := by omega
    subst hie
    rw [List.take_length, hvs] at hno
    have hR : wonR want vs = (Vdt.none, 0, [], false) := by unfold wonR; rw [hno]
    rw [hR]
    repeat ((first | with_reducible refine T_seq ?_ | with_reducible refine T_region ?_ | with_reducible refine TL_nil ?_ | with_reducible refine TQ_then ?_ | with_reducible refine T_exit ?_ | with_reducible refine T_ret ?_ | with_reducible refine TQ_then_exit ?_ | with_reducible refine TQ_block_exit ?_ | refine TL_q (op_move rfl) rfl ?_ | refine TL_q (op_assign rfl) rfl ?_ | (refine' TL_q (op_bin rfl rfl ?_) rfl ?_; rotate_left 1; (· (exact bin_lss))) | refine TL_q (op_nilCheck rfl) rfl ?_ | refine TL_q (op_len_slice rfl Try.underlying122) rfl ?_ | refine TL_q (op_fld rfl fld_63_1) rfl ?_ | (refine' TL_q (op_ld rfl pl_3 ?_ ?_) rfl ?_; rotate_left 4; (· repeat ((first | assumption | apply List.mem_cons_of_mem))); (· (rfl))) | (refine TL_stAll rfl rfl st_42 rfl rfl rfl ?_) | refine TL_q (op_build rfl (bl_42_ )) rfl ?_ | (refine T_no rfl ?_ ?_; (· (exact dF (by (omega)))))))
    clear hm
    refine TQ_retC4 2 42 3 4 5 rfl rfl rfl rfl rfl st_42 (by repeat ((exact List.mem_cons_self))) rfl (fun w h => Heap.cnt (L' := L) h (by intro p; (try simp only [cnt_append, cnt_cons, cnt_nil]) <;> omega)) ?_
    exact ⟨_, none, 0, [], rfl, ⟨_, _, rfl, sliceR.nil, sliceR.nil, by decide⟩, ORow.nil _, rfl⟩
end Go.Proofs.Ytdflhdfapnhjjaa
namespace Go.Proofs.Ytdflhdfapnhjjaa
open Go.RowKit
open Vd (RSet Vdt Vote Rec Quest Piece Ballot)
set_option linter.unusedVariables false
set_option linter.unusedSimpArgs false
--auto
variable {G : World} {L : Blocks}
/-- A ballot's cells in a row. -/
structure BallC (K : Blocks) (C : Array Value) (o : Nat) (x : Ballot) (a1 : Option Addr) (c1 : Nat) (a2 : Option Addr) (c2 : Nat) : Prop where
  up : C[o + 0 + 0]? = some (.int .i64 x.v.up)
  pass : C[o + 5]? = some (.bool x.pass)
  vd : ∀ j v, ([.int .u8 x.v.vd.code, .slice a1 x.v.vd.sets.length c1, .slice a2 x.v.vd.soa.length c2] : List Value)[j]? = some v → C[o + 0 + 1 + j]? = some v
  is : vdR K [.int .u8 x.v.vd.code, .slice a1 x.v.vd.sets.length c1, .slice a2 x.v.vd.soa.length c2] x.v.vd
  bd : -9223372036854775808 ≤ x.v.up ∧ x.v.up ≤ 9223372036854775807
theorem ball_cut {K : Blocks} {a : Option Addr} {c : Nat} {l : List Ballot} (h : sliceR 6 (fun _ => ballotR K) L [.slice a l.length c] l) (hl : l ≠ []) : ∃ b o C te fr, a = some ⟨b, o, none⟩ ∧ (b, Obj.cells C te fr) ∈ L ∧ ∀ i x, l[i]? = some x → ∃ a1 c1 a2 c2, BallC K C (o + i * 6) x a1 c1 a2 c2 := by
  obtain ⟨_, _, _, h4⟩ := sliceR.cut h
  rcases h4 with h4 | ⟨b, o, C, te, fr, h1, h2, h3⟩
  · exact absurd h4 hl
  · refine ⟨b, o, C, te, fr, h1, h2, fun i x hx => ?_⟩
    obtain ⟨cs, _, ⟨a1, c1, a2, c2, rfl, hv⟩, hc⟩ := h3 i x hx
    obtain ⟨_, _, _, _, e, p1, p2, p3, _, p5⟩ := hv.vals
    simp only [List.cons.injEq, Value.slice.injEq, and_true, true_and] at e
    obtain ⟨⟨rfl, rfl⟩, rfl, rfl⟩ := e
    refine ⟨a1, c1, a2, c2, by rw [Nat.add_zero]; exact hc 0 _ rfl, hc 5 _ rfl, fun j v hj => ?_, ⟨_, _, rfl, p1, p2, p3⟩, p5⟩
    rw [Nat.add_zero, Nat.add_assoc]
    match j, hj with
    | 0, hj => exact hc 1 v hj
    | 1, hj => exact hc 2 v hj
    | 2, hj => exact hc 3 v hj
set_option maxRecDepth 100000 in
set_option maxHeartbeats 4000000 in
theorem rAgainst_S {K : Blocks} (bb : Nat) (want : Int) (a : Option Addr) (c : Nat) (l : List Ballot) (hm : (bb, Obj.cells #[.int .i64 want, .slice a l.length c] 124 (0, 0)) ∈ L) (hl : sliceR 6 (fun _ => ballotR K) L [.slice a l.length c] l) (hK : ∀ p ∈ K, p ∈ L) (hn : l.length ≤ 1000) :
    Spec Try.prog G 76 #[.pointer (some ⟨bb, 0, none⟩)] L fun u M => ∃ a3 c3 B3, u = .slice a3 (againstR want (Vd.votesB l)).length c3 ∧ ORow (intR .i64) 3 1 [] a3 c3 (againstR want (Vd.votesB l)) B3 ∧ M = B3 ++ L := by
  have hcap := (sliceR.cut hl).2
  unfold maxLen at hcap
  obtain ⟨hcap1, hcap2, _⟩ := hcap
  obtain ⟨vs, hvs⟩ : ∃ vs, Vd.votesB l = vs := ⟨_, rfl⟩
  refine Spec_of (n := 65) Try.func76 rfl rfl rfl ?_
  repeat ((first | with_reducible refine T_seq ?_ | with_reducible refine T_region ?_ | with_reducible refine TL_nil ?_ | with_reducible refine TQ_then ?_ | refine TL_q (op_move rfl) rfl ?_ | refine TL_q (op_assign rfl) rfl ?_))
  refine TL_opT (op_call hb_74 rfl (rWon_S bb want a c l hm hl hK hn)) rfl ?_
  rw [hvs]
  unfold againstR
  obtain ⟨r, hr⟩ : ∃ r, wonR want vs = r := ⟨_, rfl⟩
  rw [hr]
  rintro _ _ ⟨cs, aW, cW, BW, rfl, hvd, hBW, rfl⟩
  obtain ⟨x1, xc1, x2, xc2, rfl, hx1, hx2, hx3⟩ := hvd.vals
  repeat ((first | with_reducible refine T_seq ?_ | with_reducible refine T_block ?_ | with_reducible refine T_region ?_ | with_reducible refine TL_nil ?_ | with_reducible refine TQ_then ?_ | refine TL_q (op_move rfl) rfl ?_ | refine TL_q (op_assign rfl) rfl ?_ | refine TL_q (op_extract rfl rfl) rfl ?_ | (refine TL_stAll rfl rfl st_42 rfl rfl rfl ?_) | (refine TL_new (op_alloc (C := #[(.int .u8 0), (.slice none 0 0), (.slice none 0 0)]) zero_42 rfl) rfl ?_; intro bNew)))
  obtain ⟨b3, hb3⟩ : ∃ b, bNew = b := ⟨_, rfl⟩
  rw [hb3]
  clear hb3 bNew
  refine T_cnt (L' := (b3, Obj.cells #[.int .u8 r.1.code, .slice x1 r.1.sets.length xc1, .slice x2 r.1.soa.length xc2] 42 (0, 0)) :: L) ?_ (by intro p; (try simp only [cnt_append, cnt_cons, cnt_nil]) <;> omega)
  refine T_loopS (σ := Nat × Option Addr × Nat × Blocks) (fun y => y.1 ≤ l.length ∧ (r.2.2.2 = false → y.1 = 0) ∧ ORow (intR .i64) 3 1 [] y.2.1 y.2.2.1 (((Vd.votesB (l.take y.1)).filter fun x => !decide (x.vd = r.1)).map (·.up)) y.2.2.2) (fun y => [(0, .pointer (some ⟨bb, 0, none⟩)), (3, .pointer (some ⟨b3, 0, none⟩)), (6, .bool r.2.2.2), (7, .slice y.2.1 (((Vd.votesB (l.take y.1)).filter fun x => !decide (x.vd = r.1)).map (·.up)).length y.2.2.1), (8, .int .i64 (y.1 : Nat))]) (fun y => y.2.2.2 ++ ((b3, Obj.cells #[.int .u8 r.1.code, .slice x1 r.1.sets.length xc1, .slice x2 r.1.soa.length xc2] 42 (0, 0)) :: L)) (fun y => l.length - y.1) (0, none, 0, []) ⟨Nat.zero_le _, fun _ => rfl, ORow.nil _⟩ ?_ (fun w h => h) ?_
  (repeat ((first | exact trivial | refine ⟨rfl, ?_⟩)))
  rintro ⟨i, a4, c4, B4⟩ ⟨hi, hz0, hB4⟩
  dsimp only at hi hz0 hB4 ⊢
  have hl4 : (((Vd.votesB (l.take i)).filter fun x => !decide (x.vd = r.1)).map (·.up)).length ≤ i := by
    rw [List.length_map]
    refine Nat.le_trans (List.length_filter_le _ _) (Nat.le_trans (votesB_len _) ?_)
    rw [List.length_take]
    omega
  by_cases hgo : i < l.length ∧ r.2.2.2 = true
  · obtain ⟨hil, hr4⟩ := hgo
    obtain ⟨y, hy⟩ : ∃ y, l[i]? = some y := ⟨_, List.getElem?_eq_getElem hil⟩
    obtain ⟨b1, o1, C1, t1, f1, rfl, m1, q1⟩ := ball_cut hl (by intro e; rw [e] at hil; simp at hil)
    obtain ⟨y1, yc1, y2, yc2, hyB⟩ := q1 i y hy
    have g0 := hyB.up
    have g5 := hyB.pass
    have hbd := hyB.bd
    have ht1 := votesB_take1 hy
    rw [hr4]
    have hKm : ∀ q ∈ [(bb, Obj.cells #[.int .i64 want, .slice (some ⟨b1, o1, none⟩) l.length c] 124 (0, 0)), (b1, Obj.cells C1 t1 f1), (b3, Obj.cells #[.int .u8 r.1.code, .slice x1 r.1.sets.length xc1, .slice x2 r.1.soa.length xc2] 42 (0, 0))], q ∈ B4 ++ ((b3, Obj.cells #[.int .u8 r.1.code, .slice x1 r.1.sets.length xc1, .slice x2 r.1.soa.length xc2] 42 (0, 0)) :: L) := by
      intro q hq
      simp only [List.mem_cons, List.not_mem_nil, or_false] at hq
      rcases hq with rfl | rfl | rfl
      · simp [hm]
      · simp [m1]
      · simp
    have hKr : ∀ q ∈ K, q ∈ B4 ++ ((b3, Obj.cells #[.int .u8 r.1.code, .slice x1 r.1.sets.length xc1, .slice x2 r.1.soa.length xc2] 42 (0, 0)) :: L) := fun q hq => (mem_of_cnt (by intro p; (try simp only [cnt_append, cnt_cons, cnt_nil]) <;> omega)) q (hK q hq)
    cases hp : y.pass with
    | true =>
      rw [hp] at g5
      rw [hp, if_pos rfl] at ht1
      repeat ((first | with_reducible refine T_seq ?_ | with_reducible refine T_block ?_ | with_reducible refine T_region ?_ | with_reducible refine TL_nil ?_ | with_reducible refine TQ_then ?_ | with_reducible refine T_skip ?_ | refine TL_q (op_move rfl) rfl ?_ | (refine' TL_q (op_bin rfl rfl ?_) rfl ?_; rotate_left 1; (· (exact bin_lss))) | refine TL_q (op_nilCheck rfl) rfl ?_ | (refine' TL_q (op_pickT rfl ?_ rfl) rfl ?_; (· (exact dT (by (omega))))) | refine TL_q (op_len_slice rfl Try.underlying122) rfl ?_ | refine TL_q (op_fld rfl fld_63_1) rfl ?_ | (refine' TL_q (op_ld rfl pl_3 ?_ ?_) rfl ?_; rotate_left 4; (· repeat ((first | assumption | apply List.mem_cons_of_mem | apply List.mem_append_right))); (· (rfl))) | (refine TL_gpre rfl rfl ?_ ?_; (· (exact dT (by (omega))))) | refine TL_gq2 (op_move rfl) rfl ?_ | (refine T_yes rfl ?_ ?_; (· (with_reducible rfl)))))
      refine T_draw follows_mixed ([(bb, Obj.cells #[.int .i64 want, .slice (some ⟨b1, o1, none⟩) l.length c] 124 (0, 0)), (b1, Obj.cells C1 t1 f1), (b3, Obj.cells #[.int .u8 r.1.code, .slice x1 r.1.sets.length xc1, .slice x2 r.1.soa.length xc2] 42 (0, 0))]) [] ?_
      (refine' TA_take 0 rfl rfl (by kernel_rfl) (quiet_q (op_move rfl)) ?_ ?_; (· (assumption)))
      (refine' TA_take 1 rfl rfl (by kernel_rfl) (quiet_q (op_nilCheck rfl)) ?_ ?_; (· (assumption)))
      (refine' TA_take 2 rfl rfl (by kernel_rfl) (quiet_q (op_fld rfl fld_124_1)) ?_ ?_; (· (assumption)))
      (refine' TA_take 3 rfl rfl (by kernel_rfl) (quiet_q (op_ld rfl pl_122 ?_ ?_)) ?_ ?_; rotate_left 4; (· repeat ((exact List.mem_cons_self))); (· (rfl)); (· (assumption)))
      (refine' TA_take 4 rfl rfl (by kernel_rfl) (quiet_q (op_move rfl)) ?_ ?_; (· (assumption)))
      (refine' TA_take 5 rfl rfl (by kernel_rfl) (quiet_q (op_idx ety_122 rfl rfl ?_)) ?_ ?_; (· omega); (· (assumption)))
      (refine' TA_take 6 rfl rfl (by kernel_rfl) (quiet_q (op_fld rfl fld_141_1)) ?_ ?_; (· (assumption)))
      (refine' TA_take 7 rfl rfl (by kernel_rfl) (quiet_q (op_ld rfl pl_4 ?_ ?_)) ?_ ?_; rotate_left 4; (· repeat ((first | exact List.mem_cons_self | apply List.mem_cons_of_mem))); (· (assumption)); (· (assumption)))
      (refine' TA_take 8 rfl rfl (by kernel_rfl) (quiet_q (op_not rfl)) ?_ ?_; (· (assumption)))
      (refine' TA_take 9 rfl rfl (by kernel_rfl) (quiet_q (op_move rfl)) ?_ ?_; (· (assumption)))
      (refine TA_take 10 rfl rfl (by kernel_rfl) (quiet_no2 rfl rfl ?_) ?_ ?_; (· (with_reducible rfl)); (· (assumption)))
      (refine TA_take 11 rfl rfl (by kernel_rfl) (quiet_no2 rfl rfl ?_) ?_ ?_; (· (with_reducible rfl)); (· (assumption)))
      (refine TA_take 12 rfl rfl (by kernel_rfl) (quiet_no2 rfl rfl ?_) ?_ ?_; (· (with_reducible rfl)); (· (assumption)))
      (refine TA_take 13 rfl rfl (by kernel_rfl) (quiet_no2 rfl rfl ?_) ?_ ?_; (· (with_reducible rfl)); (· (assumption)))
      (refine TA_take 14 rfl rfl (by kernel_rfl) (quiet_no2 rfl rfl ?_) ?_ ?_; (· (with_reducible rfl)); (· (assumption)))
      (refine TA_take 15 rfl rfl (by kernel_rfl) (quiet_no2 rfl rfl ?_) ?_ ?_; (· (with_reducible rfl)); (· (assumption)))
      (refine TA_take 16 rfl rfl (by kernel_rfl) (quiet_no2 rfl rfl ?_) ?_ ?_; (· (with_reducible rfl)); (· (assumption)))
      (refine TA_take 17 rfl rfl (by kernel_rfl) (quiet_no2 rfl rfl ?_) ?_ ?_; (· (with_reducible rfl)); (· (assumption)))
      -- SEVERAL: [18, 19]
      (refine TA_take 18 rfl rfl (by kernel_rfl) (quiet_no2 rfl rfl ?_) ?_ ?_; (· (with_reducible rfl)); (· exact hKm))
      (refine TA_take 19 rfl rfl (by kernel_rfl) (quiet_no2 rfl rfl ?_) ?_ ?_; (· (with_reducible rfl)); (· exact hKm))
      (refine TA_take 20 rfl rfl (by kernel_rfl) (quiet_no2 rfl rfl ?_) ?_ ?_; (· (with_reducible rfl)); (· exact hKm))
      (refine TA_take 21 rfl rfl (by kernel_rfl) (quiet_no2 rfl rfl ?_) ?_ ?_; (· (with_reducible rfl)); (· (assumption)))
      (refine' TA_take 22 rfl rfl (by kernel_rfl) (quiet_q (op_pickF rfl ?_ rfl)) ?_ ?_; (· (exact Bool.not_true)); (· (assumption)))
      refine TA_done (by kernel_rfl) ?_
      repeat ((first | with_reducible refine T_region ?_ | with_reducible refine TL_nil ?_ | with_reducible refine TQ_then ?_ | with_reducible refine TQ_block ?_ | with_reducible refine T_skip ?_ | refine TL_q (op_move rfl) rfl ?_ | refine TL_q (op_assign rfl) rfl ?_ | (refine' TL_q (op_bin rfl rfl ?_) rfl ?_; rotate_left 1; (· (exact bin_add ⟨by omega, by omega⟩))) | (refine T_no rfl ?_ ?_; (· (with_reducible rfl)))))
      refine TQ_roundS (i + 1, a4, c4, B4) ⟨hil, fun h => absurd h (by simp [hr4]), by dsimp only; rw [ht1]; exact hB4⟩ ?_ (fun w h => h) (by dsimp only; omega)
      dsimp only
      rw [ht1]
      (repeat (first | exact trivial | refine ⟨rfl, ?_⟩))
    | false =>
      rw [hp] at g5
      rw [hp, if_neg (by simp)] at ht1
      by_cases hyr : y.v.vd = r.1
      · have hf : ((Vd.votesB (l.take (i + 1))).filter fun x => !decide (x.vd = r.1)).map (·.up) = ((Vd.votesB (l.take i)).filter fun x => !decide (x.vd = r.1)).map (·.up) := by
          rw [ht1, List.filter_append]; simp [hyr]
        have hd0 : decide (y.v.vd = r.1) = true := decide_eq_true hyr
        have hd1 : (!decide (y.v.vd = r.1)) = false := by rw [hd0]; rfl
        repeat ((first | with_reducible refine T_seq ?_ | with_reducible refine T_block ?_ | with_reducible refine T_region ?_ | with_reducible refine TL_nil ?_ | with_reducible refine TQ_then ?_ | with_reducible refine T_skip ?_ | refine TL_q (op_move rfl) rfl ?_ | (refine' TL_q (op_bin rfl rfl ?_) rfl ?_; rotate_left 1; (· (exact bin_lss))) | refine TL_q (op_nilCheck rfl) rfl ?_ | (refine' TL_q (op_pickT rfl ?_ rfl) rfl ?_; (· (exact dT (by (omega))))) | refine TL_q (op_len_slice rfl Try.underlying122) rfl ?_ | refine TL_q (op_fld rfl fld_63_1) rfl ?_ | (refine' TL_q (op_ld rfl pl_3 ?_ ?_) rfl ?_; rotate_left 4; (· repeat ((first | assumption | apply List.mem_cons_of_mem | apply List.mem_append_right))); (· (rfl))) | (refine TL_gpre rfl rfl ?_ ?_; (· (exact dT (by (omega))))) | refine TL_gq2 (op_move rfl) rfl ?_ | (refine T_yes rfl ?_ ?_; (· (with_reducible rfl)))))
        refine T_draw follows_mixed ([(bb, Obj.cells #[.int .i64 want, .slice (some ⟨b1, o1, none⟩) l.length c] 124 (0, 0)), (b1, Obj.cells C1 t1 f1), (b3, Obj.cells #[.int .u8 r.1.code, .slice x1 r.1.sets.length xc1, .slice x2 r.1.soa.length xc2] 42 (0, 0))]) [] ?_
        (refine' TA_take 0 rfl rfl (by kernel_rfl) (quiet_q (op_move rfl)) ?_ ?_; (· (assumption)))
        (refine' TA_take 1 rfl rfl (by kernel_rfl) (quiet_q (op_nilCheck rfl)) ?_ ?_; (· (assumption)))
        (refine' TA_take 2 rfl rfl (by kernel_rfl) (quiet_q (op_fld rfl fld_124_1)) ?_ ?_; (· (assumption)))
        (refine' TA_take 3 rfl rfl (by kernel_rfl) (quiet_q (op_ld rfl pl_122 ?_ ?_)) ?_ ?_; rotate_left 4; (· repeat ((exact List.mem_cons_self))); (· (rfl)); (· (assumption)))
        (refine' TA_take 4 rfl rfl (by kernel_rfl) (quiet_q (op_move rfl)) ?_ ?_; (· (assumption)))
        (refine' TA_take 5 rfl rfl (by kernel_rfl) (quiet_q (op_idx ety_122 rfl rfl ?_)) ?_ ?_; (· omega); (· (assumption)))
        (refine' TA_take 6 rfl rfl (by kernel_rfl) (quiet_q (op_fld rfl fld_141_1)) ?_ ?_; (· (assumption)))
        (refine' TA_take 7 rfl rfl (by kernel_rfl) (quiet_q (op_ld rfl pl_4 ?_ ?_)) ?_ ?_; rotate_left 4; (· repeat ((first | exact List.mem_cons_self | apply List.mem_cons_of_mem))); (· (assumption)); (· (assumption)))
        (refine' TA_take 8 rfl rfl (by kernel_rfl) (quiet_q (op_not rfl)) ?_ ?_; (· (assumption)))
        (refine' TA_take 9 rfl rfl (by kernel_rfl) (quiet_q (op_move rfl)) ?_ ?_; (· (assumption)))
        (refine' TA_take 10 rfl rfl (by kernel_rfl) (quiet_g2 rfl rfl (by (exact Bool.not_false)) (op_move rfl)) ?_ ?_; (· (assumption)))
        (refine' TA_take 11 rfl rfl (by kernel_rfl) (quiet_g2 rfl rfl (by (exact Bool.not_false)) (op_nilCheck rfl)) ?_ ?_; (· (assumption)))
        (refine' TA_take 12 rfl rfl (by kernel_rfl) (quiet_g2 rfl rfl (by (exact Bool.not_false)) (op_fld rfl fld_124_1)) ?_ ?_; (· (assumption)))
        (refine' TA_take 13 rfl rfl (by kernel_rfl) (quiet_g2 rfl rfl (by (exact Bool.not_false)) (op_ld rfl pl_122 ?_ ?_)) ?_ ?_; rotate_left 4; (· repeat ((exact List.mem_cons_self))); (· (rfl)); (· (assumption)))
        (refine' TA_take 14 rfl rfl (by kernel_rfl) (quiet_g2 rfl rfl (by (exact Bool.not_false)) (op_move rfl)) ?_ ?_; (· (assumption)))
        (refine' TA_take 15 rfl rfl (by kernel_rfl) (quiet_g2 rfl rfl (by (exact Bool.not_false)) (op_idx ety_122 rfl rfl ?_)) ?_ ?_; (· omega); (· (assumption)))
        (refine' TA_take 16 rfl rfl (by kernel_rfl) (quiet_g2 rfl rfl (by (exact Bool.not_false)) (op_fld rfl fld_141_0)) ?_ ?_; (· (assumption)))
        (refine' TA_take 17 rfl rfl (by kernel_rfl) (quiet_g2 rfl rfl (by (exact Bool.not_false)) (op_fld rfl fld_63_1)) ?_ ?_; (· (assumption)))
        -- SEVERAL: [18, 19]
        (refine TA_take 18 rfl rfl (by kernel_rfl) (quiet_g2 rfl rfl (by (exact Bool.not_false)) (op_ldA [.int .u8 y.v.vd.code, .slice y1 y.v.vd.sets.length yc1, .slice y2 y.v.vd.soa.length yc2] rfl st_42 (List.mem_cons_of_mem _ (List.mem_cons_self ..)) hyB.vd)) ?_ ?_; (· exact hKm))
        (refine TA_take 19 rfl rfl (by kernel_rfl) (quiet_g2 rfl rfl (by (exact Bool.not_false)) (op_ldAll rfl st_42 (List.mem_cons_of_mem _ (List.mem_cons_of_mem _ (List.mem_cons_self ..))) rfl)) ?_ ?_; (· exact hKm))
        (refine TA_oneGd 20 (by kernel_rfl) rfl rfl rfl rfl (by (exact Bool.not_false)) (op_call hb_23 rfl (vSame_S [.int .u8 y.v.vd.code, .slice y1 y.v.vd.sets.length yc1, .slice y2 y.v.vd.soa.length yc2] [.int .u8 r.1.code, .slice x1 r.1.sets.length xc1, .slice x2 r.1.soa.length xc2] y.v.vd r.1 (mono_vd _ _ _ _ hKr hyB.is) (mono_vd _ _ _ _ hKr hvd))) ?_; rintro _ _ ⟨rfl, rfl⟩; refine ⟨Or.inr hKm, ?_⟩)
        (refine' TA_take 21 rfl rfl (by kernel_rfl) (quiet_g2 rfl rfl (by (exact Bool.not_false)) (op_not rfl)) ?_ ?_; (· (assumption)))
        (refine' TA_take 22 rfl rfl (by kernel_rfl) (quiet_q (op_pickT rfl ?_ rfl)) ?_ ?_; (· (exact Bool.not_false)); (· (assumption)))
        refine TA_done (by kernel_rfl) ?_
        repeat ((first | with_reducible refine T_region ?_ | with_reducible refine TL_nil ?_ | with_reducible refine TQ_then ?_ | with_reducible refine TQ_block ?_ | with_reducible refine T_skip ?_ | refine TL_q (op_move rfl) rfl ?_ | refine TL_q (op_assign rfl) rfl ?_ | (refine' TL_q (op_bin rfl rfl ?_) rfl ?_; rotate_left 1; (· (exact bin_add ⟨by omega, by omega⟩))) | (refine T_no rfl ?_ ?_; (· (assumption)))))
        refine TQ_roundS (i + 1, a4, c4, B4) ⟨hil, fun h => absurd h (by simp [hr4]), by dsimp only; rw [hf]; exact hB4⟩ ?_ (fun w h => h) (by dsimp only; omega)
        dsimp only
        rw [hf]
        (repeat ((first | exact trivial | refine ⟨rfl, ?_⟩)))
      · have hf : ((Vd.votesB (l.take (i + 1))).filter fun x => !decide (x.vd = r.1)).map (·.up) = ((Vd.votesB (l.take i)).filter fun x => !decide (x.vd = r.1)).map (·.up) ++ [y.v.up] := by
          rw [ht1, List.filter_append]; simp [hyr]
        have hd0 : decide (y.v.vd = r.1) = false := decide_eq_false hyr
        have hd1 : (!decide (y.v.vd = r.1)) = true := by rw [hd0]; rfl
        repeat ((first | with_reducible refine T_seq ?_ | with_reducible refine T_block ?_ | with_reducible refine T_region ?_ | with_reducible refine TL_nil ?_ | with_reducible refine TQ_then ?_ | with_reducible refine T_skip ?_ | refine TL_q (op_move rfl) rfl ?_ | (refine' TL_q (op_bin rfl rfl ?_) rfl ?_; rotate_left 1; (· (exact bin_lss))) | refine TL_q (op_nilCheck rfl) rfl ?_ | (refine' TL_q (op_pickT rfl ?_ rfl) rfl ?_; (· (exact dT (by (omega))))) | refine TL_q (op_len_slice rfl Try.underlying122) rfl ?_ | refine TL_q (op_fld rfl fld_63_1) rfl ?_ | (refine' TL_q (op_ld rfl pl_3 ?_ ?_) rfl ?_; rotate_left 4; (· repeat ((first | assumption | apply List.mem_cons_of_mem | apply List.mem_append_right))); (· (rfl))) | (refine TL_gpre rfl rfl ?_ ?_; (· (exact dT (by (omega))))) | refine TL_gq2 (op_move rfl) rfl ?_ | (refine T_yes rfl ?_ ?_; (· (with_reducible rfl)))))
        refine T_draw follows_mixed ([(bb, Obj.cells #[.int .i64 want, .slice (some ⟨b1, o1, none⟩) l.length c] 124 (0, 0)), (b1, Obj.cells C1 t1 f1), (b3, Obj.cells #[.int .u8 r.1.code, .slice x1 r.1.sets.length xc1, .slice x2 r.1.soa.length xc2] 42 (0, 0))]) [] ?_
        (refine' TA_take 0 rfl rfl (by kernel_rfl) (quiet_q (op_move rfl)) ?_ ?_; (· (assumption)))
        (refine' TA_take 1 rfl rfl (by kernel_rfl) (quiet_q (op_nilCheck rfl)) ?_ ?_; (· (assumption)))
        (refine' TA_take 2 rfl rfl (by kernel_rfl) (quiet_q (op_fld rfl fld_124_1)) ?_ ?_; (· (assumption)))
        (refine' TA_take 3 rfl rfl (by kernel_rfl) (quiet_q (op_ld rfl pl_122 ?_ ?_)) ?_ ?_; rotate_left 4; (· repeat ((exact List.mem_cons_self))); (· (rfl)); (· (assumption)))
        (refine' TA_take 4 rfl rfl (by kernel_rfl) (quiet_q (op_move rfl)) ?_ ?_; (· (assumption)))
        (refine' TA_take 5 rfl rfl (by kernel_rfl) (quiet_q (op_idx ety_122 rfl rfl ?_)) ?_ ?_; (· omega); (· (assumption)))
        (refine' TA_take 6 rfl rfl (by kernel_rfl) (quiet_q (op_fld rfl fld_141_1)) ?_ ?_; (· (assumption)))
        (refine' TA_take 7 rfl rfl (by kernel_rfl) (quiet_q (op_ld rfl pl_4 ?_ ?_)) ?_ ?_; rotate_left 4; (· repeat ((first | exact List.mem_cons_self | apply List.mem_cons_of_mem))); (· (assumption)); (· (assumption)))
        (refine' TA_take 8 rfl rfl (by kernel_rfl) (quiet_q (op_not rfl)) ?_ ?_; (· (assumption)))
        (refine' TA_take 9 rfl rfl (by kernel_rfl) (quiet_q (op_move rfl)) ?_ ?_; (· (assumption)))
        (refine' TA_take 10 rfl rfl (by kernel_rfl) (quiet_g2 rfl rfl (by (exact Bool.not_false)) (op_move rfl)) ?_ ?_; (· (assumption)))
        (refine' TA_take 11 rfl rfl (by kernel_rfl) (quiet_g2 rfl rfl (by (exact Bool.not_false)) (op_nilCheck rfl)) ?_ ?_; (· (assumption)))
        (refine' TA_take 12 rfl rfl (by kernel_rfl) (quiet_g2 rfl rfl (by (exact Bool.not_false)) (op_fld rfl fld_124_1)) ?_ ?_; (· (assumption)))
        (refine' TA_take 13 rfl rfl (by kernel_rfl) (quiet_g2 rfl rfl (by (exact Bool.not_false)) (op_ld rfl pl_122 ?_ ?_)) ?_ ?_; rotate_left 4; (· repeat ((exact List.mem_cons_self))); (· (rfl)); (· (assumption)))
        (refine' TA_take 14 rfl rfl (by kernel_rfl) (quiet_g2 rfl rfl (by (exact Bool.not_false)) (op_move rfl)) ?_ ?_; (· (assumption)))
        (refine' TA_take 15 rfl rfl (by kernel_rfl) (quiet_g2 rfl rfl (by (exact Bool.not_false)) (op_idx ety_122 rfl rfl ?_)) ?_ ?_; (· omega); (· (assumption)))
        (refine' TA_take 16 rfl rfl (by kernel_rfl) (quiet_g2 rfl rfl (by (exact Bool.not_false)) (op_fld rfl fld_141_0)) ?_ ?_; (· (assumption)))
        (refine' TA_take 17 rfl rfl (by kernel_rfl) (quiet_g2 rfl rfl (by (exact Bool.not_false)) (op_fld rfl fld_63_1)) ?_ ?_; (· (assumption)))
        -- SEVERAL: [18, 19]
        (refine TA_take 18 rfl rfl (by kernel_rfl) (quiet_g2 rfl rfl (by (exact Bool.not_false)) (op_ldA [.int .u8 y.v.vd.code, .slice y1 y.v.vd.sets.length yc1, .slice y2 y.v.vd.soa.length yc2] rfl st_42 (List.mem_cons_of_mem _ (List.mem_cons_self ..)) hyB.vd)) ?_ ?_; (· exact hKm))
        (refine TA_take 19 rfl rfl (by kernel_rfl) (quiet_g2 rfl rfl (by (exact Bool.not_false)) (op_ldAll rfl st_42 (List.mem_cons_of_mem _ (List.mem_cons_of_mem _ (List.mem_cons_self ..))) rfl)) ?_ ?_; (· exact hKm))
        (refine TA_oneGd 20 (by kernel_rfl) rfl rfl rfl rfl (by (exact Bool.not_false)) (op_call hb_23 rfl (vSame_S [.int .u8 y.v.vd.code, .slice y1 y.v.vd.sets.length yc1, .slice y2 y.v.vd.soa.length yc2] [.int .u8 r.1.code, .slice x1 r.1.sets.length xc1, .slice x2 r.1.soa.length xc2] y.v.vd r.1 (mono_vd _ _ _ _ hKr hyB.is) (mono_vd _ _ _ _ hKr hvd))) ?_; rintro _ _ ⟨rfl, rfl⟩; refine ⟨Or.inr hKm, ?_⟩)
        (refine' TA_take 21 rfl rfl (by kernel_rfl) (quiet_g2 rfl rfl (by (exact Bool.not_false)) (op_not rfl)) ?_ ?_; (· (assumption)))
        (refine' TA_take 22 rfl rfl (by kernel_rfl) (quiet_q (op_pickT rfl ?_ rfl)) ?_ ?_; (· (exact Bool.not_false)); (· (assumption)))
        refine TA_done (by kernel_rfl) ?_
        repeat ((first | with_reducible refine T_region ?_ | with_reducible refine TQ_then ?_ | refine TL_q (op_move rfl) rfl ?_ | refine TL_q (op_nilCheck rfl) rfl ?_ | (refine' TL_q (op_idx ety_122 rfl rfl ?_) rfl ?_; (· omega)) | refine TL_q (op_fld rfl fld_63_0) rfl ?_ | refine TL_q (op_fld rfl fld_63_1) rfl ?_ | (refine' TL_q (op_ld rfl pl_3 ?_ ?_) rfl ?_; rotate_left 4; (· repeat ((first | assumption | apply List.mem_cons_of_mem | apply List.mem_append_right))); (· (first | assumption | rfl))) | (refine TL_new (op_lit1 ety_79 rfl rfl) rfl ?_; intro bLit) | (refine T_yes rfl ?_ ?_; (· (assumption)))))
        refine TL_opT (op_pushI ety_79 rfl rfl hB4 (i64_lit hbd) (by omega) (by decide)) rfl ?_
        rintro _ _ ⟨a8, c8, B8, rfl, hB8, rfl⟩
        rw [← hf] at hB8 ⊢
        repeat ((first | with_reducible refine T_region ?_ | with_reducible refine TL_nil ?_ | with_reducible refine TQ_then ?_ | with_reducible refine TQ_block ?_ | refine TL_q (op_move rfl) rfl ?_ | refine TL_q (op_assign rfl) rfl ?_ | (refine' TL_q (op_bin rfl rfl ?_) rfl ?_; rotate_left 1; (· (exact bin_add ⟨by omega, by omega⟩)))))
        refine TQ_roundS (i + 1, a8, c8, B8) ⟨hil, fun h => absurd h (by simp [hr4]), hB8⟩ ?_ (fun w h => h) (by dsimp only; omega)
        (repeat ((first | exact trivial | refine ⟨rfl, ?_⟩)))
  · have hres : (if r.2.2.2 = true then risingI ((vs.filter fun x => !decide (x.vd = r.1)).map (·.up)) else []) = risingI (((Vd.votesB (l.take i)).filter fun x => !decide (x.vd = r.1)).map (·.up)) := by
      cases hr4 : r.2.2.2 with
      | true =>
        have hie : i = l.length := by
          by_cases h : i < l.length
          · exact absurd ⟨h, hr4⟩ hgo
          · omega
        rw [if_pos rfl, hie, List.take_length, hvs]
      | false =>
        rw [hz0 hr4]
        rfl
    rw [hres]
    by_cases hil : i < l.length
    · have hr4 : r.2.2.2 = false := by
        cases h : r.2.2.2 with
        | true => exact absurd ⟨hil, h⟩ hgo
        | false => rfl
      repeat ((first | with_reducible refine T_seq ?_ | with_reducible refine T_region ?_ | with_reducible refine TL_nil ?_ | with_reducible refine TQ_then ?_ | with_reducible refine T_exit ?_ | with_reducible refine TQ_then_exit ?_ | with_reducible refine TQ_block_exit ?_ | refine TL_q (op_move rfl) rfl ?_ | (refine' TL_q (op_bin rfl rfl ?_) rfl ?_; rotate_left 1; (· (exact bin_lss))) | refine TL_q (op_nilCheck rfl) rfl ?_ | (refine' TL_q (op_pickT rfl ?_ rfl) rfl ?_; (· (exact dT (by (omega))))) | refine TL_q (op_len_slice rfl Try.underlying122) rfl ?_ | refine TL_q (op_fld rfl fld_63_1) rfl ?_ | (refine' TL_q (op_ld rfl pl_3 ?_ ?_) rfl ?_; rotate_left 4; (· repeat ((first | assumption | apply List.mem_cons_of_mem | apply List.mem_append_right))); (· (rfl))) | (refine TL_gpre rfl rfl ?_ ?_; (· (exact dT (by (omega))))) | refine TL_gq2 (op_move rfl) rfl ?_ | (refine T_no rfl ?_ ?_; (· (assumption)))))
      refine TL_opT (op_call hb_94 rfl (rising_S _ _ (hB4.sliceR (mono_int _) (by simp) (mem_of_cnt (by intro p; (try simp only [cnt_append, cnt_cons, cnt_nil]) <;> omega))) (by omega))) rfl ?_
      rintro _ _ ⟨aR, cR, BR, rfl, hBR, rfl⟩
      repeat ((first | with_reducible refine TL_nil ?_ | with_reducible refine TQ_then ?_ | with_reducible refine T_ret ?_ | refine TL_q (op_assign rfl) rfl ?_))
      refine TQ_cnt (L' := BR ++ L) ?_ (by intro p; (try simp only [cnt_append, cnt_cons, cnt_nil]) <;> omega)
      refine TQ_ret1 2 _ rfl rfl ?_
      exact ⟨aR, cR, BR, rfl, hBR, rfl⟩
    · repeat ((first | with_reducible refine T_seq ?_ | with_reducible refine T_region ?_ | with_reducible refine TL_nil ?_ | with_reducible refine TQ_then ?_ | with_reducible refine T_exit ?_ | with_reducible refine TQ_then_exit ?_ | with_reducible refine TQ_block_exit ?_ | refine TL_q (op_move rfl) rfl ?_ | (refine' TL_q (op_bin rfl rfl ?_) rfl ?_; rotate_left 1; (· (exact bin_lss))) | refine TL_q (op_nilCheck rfl) rfl ?_ | (refine' TL_q (op_pickF rfl ?_ rfl) rfl ?_; (· (exact dF (by (omega))))) | refine TL_q (op_len_slice rfl Try.underlying122) rfl ?_ | refine TL_q (op_fld rfl fld_63_1) rfl ?_ | (refine' TL_q (op_ld rfl pl_3 ?_ ?_) rfl ?_; rotate_left 4; (· repeat ((first | assumption | apply List.mem_cons_of_mem | apply List.mem_append_right))); (· (rfl))) | (refine TL_gno rfl rfl ?_ rfl ?_; (· (exact dF (by (omega))))) | (refine T_no rfl ?_ ?_; (· (with_reducible rfl)))))
      refine TL_opT (op_call hb_94 rfl (rising_S _ _ (hB4.sliceR (mono_int _) (by simp) (mem_of_cnt (by intro p; (try simp only [cnt_append, cnt_cons, cnt_nil]) <;> omega))) (by omega))) rfl ?_
      rintro _ _ ⟨aR, cR, BR, rfl, hBR, rfl⟩
      repeat ((first | with_reducible refine TL_nil ?_ | with_reducible refine TQ_then ?_ | with_reducible refine T_ret ?_ | refine TL_q (op_assign rfl) rfl ?_))
      refine TQ_cnt (L' := BR ++ L) ?_ (by intro p; (try simp only [cnt_append, cnt_cons, cnt_nil]) <;> omega)
      refine TQ_ret1 2 _ rfl rfl ?_
      exact ⟨aR, cR, BR, rfl, hBR, rfl⟩
end Go.Proofs.Ytdflhdfapnhjjaa
