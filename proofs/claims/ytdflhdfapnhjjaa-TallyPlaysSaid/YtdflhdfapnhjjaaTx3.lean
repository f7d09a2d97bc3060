/-
  Part 3: Vb Vc Ga Gb Gc Ord Rd Ge.
-/
import Derived.Test.YtdflhdfapnhjjaaTx2
import Derived.Test.YtdflhdfapnhjjaaTx1
namespace Go.Proofs.Ytdflhdfapnhjjaa
open Go.RowKit
open Vd (RSet Vdt Vote Rec Quest)
set_option linter.unusedVariables false
set_option linter.unusedSimpArgs false
section
variable {G : World} {P : Program} {n : Nat} {ρ : Slots} {L : Blocks} {ty : TypeId}
/-- A call of a function value. -/
theorem op_callV {f : FuncId} {x : Operand} {xs : List Operand} {ats : Array TypeId} {vs cap : List Value} {Φ : Value → Blocks → Prop} (hb : hasBody P f = true) (hx : ev ρ x = some (.func (.func f) #[] cap.toArray)) (ha : evArgs ρ xs = some vs) (h : Spec P G f (vs ++ cap).toArray L Φ) :
    OpT P G ρ L (.call ⟨.value x, xs.toArray, ats⟩) ty Φ :=
  ⟨fun r hr w hw o ho _ => by
    have hm := evArgs_map hr xs vs ha
    have hrf := hr _ _ hx
    have : execOp r o = callFunc f (vs ++ cap).toArray := by
      simp only [execOp, ho, resolve, hrf, Deferred.ofValue]
      show invoke (.fn (.func f) cap.toArray) _ = _
      simp only [invoke, List.map_toArray, hm]
      simp
    rw [this, run_callFunc hb]
    refine (h.out w hw).mono fun e w' ⟨v, L', h1, h2, h3⟩ => ⟨v, h1, L', h2, h3⟩⟩
end
variable {G : World} {L : Blocks}
theorem mem2 {p q r : Nat × Obj} (h : r ∈ L) : r ∈ p :: q :: L := List.mem_cons_of_mem _ (List.mem_cons_of_mem _ h)
theorem rsR.val {cs : List Value} {s : RSet} (h : rsR L cs s) : ∃ a c, cs = [.string (bs s.name), .int .u16 s.kind, .int .u16 s.cls, .int .u32 s.ttl, .slice a s.data.length c] ∧ sliceR 1 strR L [.slice a s.data.length c] s.data := by
  obtain ⟨d, rfl, hd, _⟩ := h
  obtain ⟨a, c, e, hd⟩ := hd.val
  simp only [List.cons.injEq, and_true] at e
  subst e
  exact ⟨a, c, rfl, hd⟩
set_option maxRecDepth 100000 in
set_option maxHeartbeats 2000000 in
theorem rSame_S (ca cb : List Value) (a b : RSet) (ha : rsR L ca a) (hb : rsR L cb b) : Spec Try.prog G 65 #[.agg ca.toArray, .agg cb.toArray] L fun u M => u = .bool (decide (a = b)) ∧ M = L := by
  obtain ⟨aa, ka, rfl, sa⟩ := ha.val
  obtain ⟨ab, kb, rfl, sb⟩ := hb.val
  refine Spec_of (n := 38) Try.func65 rfl rfl rfl ?_
  cases n1 : a.name == b.name with
  | false =>
    repeat ((first | with_reducible refine T_seq ?_ | with_reducible refine T_region ?_ | with_reducible refine TL_nil ?_ | with_reducible refine TQ_then ?_ | with_reducible refine T_ret ?_ | refine TL_q (op_move rfl) rfl ?_ | refine TL_q (op_assign rfl) rfl ?_ | (refine' TL_q (op_bin rfl rfl ?_) rfl ?_; rotate_left 1; (· (exact sbin_eql))) | (refine' TL_q (op_pickF rfl ?_ rfl) rfl ?_; (· (first | with_reducible rfl | assumption))) | refine TL_q (op_fld rfl fld_60_0) rfl ?_ | (refine' TL_q (op_ld rfl pl_9 ?_ ?_) rfl ?_; rotate_left 4; (· repeat ((first | exact List.mem_cons_self | apply List.mem_cons_of_mem))); (· (rfl))) | (refine TL_gno rfl rfl ?_ rfl ?_; (· (first | assumption | exact Bool.not_true))) | (refine TL_new (op_box rfl rfl) rfl ?_; intro bBox)))
    refine TQ_heap (fun w h => h.tail.tail) ?_
    refine TQ_ret1 4 _ rfl rfl ?_
    exact ⟨by rw [rset_ne (fun h => by rw [h.1] at n1; simp at n1)], rfl⟩
  | true =>
    cases n2 : a.kind == b.kind with
    | false =>
      repeat ((first | with_reducible refine T_seq ?_ | with_reducible refine T_region ?_ | with_reducible refine TL_nil ?_ | with_reducible refine TQ_then ?_ | with_reducible refine T_ret ?_ | refine TL_q (op_move rfl) rfl ?_ | refine TL_q (op_assign rfl) rfl ?_ | (refine' TL_q (op_bin rfl rfl ?_) rfl ?_; rotate_left 1; (· (exact sbin_eql))) | (refine' TL_q (op_pickT rfl ?_ rfl) rfl ?_; (· (assumption))) | (refine' TL_q (op_pickF rfl ?_ rfl) rfl ?_; (· (first | with_reducible rfl | assumption))) | refine TL_q (op_fld rfl fld_60_0) rfl ?_ | (refine' TL_q (op_ld rfl pl_9 ?_ ?_) rfl ?_; rotate_left 4; (· repeat ((first | exact List.mem_cons_self | apply List.mem_cons_of_mem))); (· (rfl))) | (refine TL_gpre rfl rfl ?_ ?_; (· (assumption))) | (refine' TL_gq2 (op_bin rfl rfl ?_) rfl ?_; rotate_left 1; (· (exact bin_eql))) | refine TL_gq2 (op_fld rfl fld_60_1) rfl ?_ | (refine' TL_gq2 (op_ld rfl pl_9 ?_ ?_) rfl ?_; rotate_left 4; (· repeat ((first | exact List.mem_cons_self | apply List.mem_cons_of_mem))); (· (rfl))) | (refine TL_gno rfl rfl ?_ rfl ?_; (· (first | assumption | exact Bool.not_true))) | (refine TL_new (op_box rfl rfl) rfl ?_; intro bBox)))
      refine TQ_heap (fun w h => h.tail.tail) ?_
      refine TQ_ret1 4 _ rfl rfl ?_
      exact ⟨by rw [rset_ne (fun h => by rw [h.2.1] at n2; simp at n2)], rfl⟩
    | true =>
      cases n3 : a.cls == b.cls with
      | false =>
        repeat ((first | with_reducible refine T_seq ?_ | with_reducible refine T_region ?_ | with_reducible refine TL_nil ?_ | with_reducible refine TQ_then ?_ | with_reducible refine T_ret ?_ | refine TL_q (op_move rfl) rfl ?_ | refine TL_q (op_assign rfl) rfl ?_ | (refine' TL_q (op_bin rfl rfl ?_) rfl ?_; rotate_left 1; (· (exact sbin_eql))) | (refine' TL_q (op_pickT rfl ?_ rfl) rfl ?_; (· (assumption))) | (refine' TL_q (op_pickF rfl ?_ rfl) rfl ?_; (· (first | with_reducible rfl | assumption))) | refine TL_q (op_fld rfl fld_60_0) rfl ?_ | (refine' TL_q (op_ld rfl pl_9 ?_ ?_) rfl ?_; rotate_left 4; (· repeat ((first | exact List.mem_cons_self | apply List.mem_cons_of_mem))); (· (rfl))) | (refine TL_gpre rfl rfl ?_ ?_; (· (assumption))) | (refine' TL_gq2 (op_bin rfl rfl ?_) rfl ?_; rotate_left 1; (· (exact bin_eql))) | refine TL_gq2 (op_fld rfl fld_60_1) rfl ?_ | refine TL_gq2 (op_fld rfl fld_60_2) rfl ?_ | (refine' TL_gq2 (op_ld rfl pl_9 ?_ ?_) rfl ?_; rotate_left 4; (· repeat ((first | exact List.mem_cons_self | apply List.mem_cons_of_mem))); (· (rfl))) | (refine TL_gno rfl rfl ?_ rfl ?_; (· (first | assumption | exact Bool.not_true))) | (refine TL_new (op_box rfl rfl) rfl ?_; intro bBox)))
        refine TQ_heap (fun w h => h.tail.tail) ?_
        refine TQ_ret1 4 _ rfl rfl ?_
        exact ⟨by rw [rset_ne (fun h => by rw [h.2.2.1] at n3; simp at n3)], rfl⟩
      | true =>
        cases n4 : a.ttl == b.ttl with
        | false =>
          repeat ((first | with_reducible refine T_seq ?_ | with_reducible refine T_region ?_ | with_reducible refine TL_nil ?_ | with_reducible refine TQ_then ?_ | with_reducible refine T_ret ?_ | refine TL_q (op_move rfl) rfl ?_ | refine TL_q (op_assign rfl) rfl ?_ | (refine' TL_q (op_bin rfl rfl ?_) rfl ?_; rotate_left 1; (· (exact sbin_eql))) | (refine' TL_q (op_pickT rfl ?_ rfl) rfl ?_; (· (assumption))) | (refine' TL_q (op_pickF rfl ?_ rfl) rfl ?_; (· (assumption))) | refine TL_q (op_fld rfl fld_60_0) rfl ?_ | (refine' TL_q (op_ld rfl pl_9 ?_ ?_) rfl ?_; rotate_left 4; (· repeat ((first | exact List.mem_cons_self | apply List.mem_cons_of_mem))); (· (rfl))) | (refine TL_gpre rfl rfl ?_ ?_; (· (assumption))) | (refine' TL_gq2 (op_bin rfl rfl ?_) rfl ?_; rotate_left 1; (· (exact bin_eql))) | refine TL_gq2 (op_fld rfl fld_60_1) rfl ?_ | refine TL_gq2 (op_fld rfl fld_60_2) rfl ?_ | refine TL_gq2 (op_fld rfl fld_60_3) rfl ?_ | (refine' TL_gq2 (op_ld rfl pl_9 ?_ ?_) rfl ?_; rotate_left 4; (· repeat ((first | exact List.mem_cons_self | apply List.mem_cons_of_mem))); (· (rfl))) | (refine TL_gno rfl rfl ?_ rfl ?_; (· (assumption))) | (refine TL_new (op_box rfl rfl) rfl ?_; intro bBox)))
          refine TQ_heap (fun w h => h.tail.tail) ?_
          refine TQ_ret1 4 _ rfl rfl ?_
          exact ⟨by rw [rset_ne (fun h => by rw [h.2.2.2.1] at n4; simp at n4)], rfl⟩
        | true =>
          repeat ((first | with_reducible refine T_seq ?_ | with_reducible refine T_region ?_ | with_reducible refine TL_nil ?_ | with_reducible refine TQ_then ?_ | refine TL_q (op_move rfl) rfl ?_ | refine TL_q (op_assign rfl) rfl ?_ | (refine' TL_q (op_bin rfl rfl ?_) rfl ?_; rotate_left 1; (· (exact sbin_eql))) | (refine' TL_q (op_pickT rfl ?_ rfl) rfl ?_; (· (assumption))) | refine TL_q (op_fld rfl fld_60_0) rfl ?_ | (refine' TL_q (op_ld rfl pl_9 ?_ ?_) rfl ?_; rotate_left 4; (· repeat ((first | exact List.mem_cons_self | apply List.mem_cons_of_mem))); (· (rfl))) | (refine TL_gpre rfl rfl ?_ ?_; (· (assumption))) | (refine' TL_gq2 (op_bin rfl rfl ?_) rfl ?_; rotate_left 1; (· (exact bin_eql))) | refine TL_gq2 (op_fld rfl fld_60_1) rfl ?_ | refine TL_gq2 (op_fld rfl fld_60_2) rfl ?_ | refine TL_gq2 (op_fld rfl fld_60_3) rfl ?_ | refine TL_gq2 (op_fld rfl fld_60_4) rfl ?_ | (refine' TL_gq2 (op_ld rfl pl_9 ?_ ?_) rfl ?_; rotate_left 4; (· repeat ((first | exact List.mem_cons_self | apply List.mem_cons_of_mem))); (· (rfl))) | (refine TL_new (op_box rfl rfl) rfl ?_; intro bBox)))
          refine TG_op (op_call hb_90 rfl (Equal_S _ _ a.data b.data (mono_slice mono_str _ _ _ _ (fun q hq => mem2 hq) sa) (mono_slice mono_str _ _ _ _ (fun q hq => mem2 hq) sb))) rfl ?_
          repeat ((first | with_reducible refine TL_nil ?_ | with_reducible refine TQ_then ?_ | with_reducible refine T_ret ?_ | refine TL_q (op_assign rfl) rfl ?_ | (refine' TL_q (op_pickT rfl ?_ rfl) rfl ?_; (· (assumption)))))
          refine TQ_heap (fun w h => h.tail.tail) ?_
          refine TQ_ret1 4 _ rfl rfl ?_
          refine ⟨?_, rfl⟩
          rw [beq_iff_eq] at n1 n2 n3 n4
          congr 1
          by_cases hd : a.data = b.data
          · simp [rset_eq n1 n2 n3 n4 hd]
          · rw [rset_ne (fun h => hd h.2.2.2.2)]
            simp [hd]
set_option maxRecDepth 100000 in
set_option maxHeartbeats 2000000 in
theorem EqualFunc_S (va vb : Value) (la lb : List RSet) (ha : sliceR 5 rsR L [va] la) (hb : sliceR 5 rsR L [vb] lb) : Spec Try.prog G 64 #[va, vb, .func (.func 65) #[] #[]] L fun u M => u = .bool (decide (la = lb)) ∧ M = L := by
  obtain ⟨aa, ca, e1, ha⟩ := ha.val
  obtain ⟨ab, cb, e2, hb⟩ := hb.val
  simp only [List.cons.injEq, and_true] at e1 e2
  subst e1 e2
  obtain ⟨_, ka1, ka2, ha⟩ := sets_cut ha
  obtain ⟨_, kb1, kb2, hb⟩ := sets_cut hb
  unfold maxLen at ka2 kb2
  refine Spec_of (n := 32) Try.func64 rfl rfl rfl ?_
  by_cases hlen : la.length = lb.length
  · have d0 : (((la.length : Nat) : Int) != ((lb.length : Nat) : Int)) = false := by simp [hlen]
    repeat ((first | with_reducible refine T_seq ?_ | with_reducible refine T_block ?_ | with_reducible refine T_region ?_ | with_reducible refine TL_nil ?_ | with_reducible refine TQ_then ?_ | with_reducible refine T_skip ?_ | refine TL_q (op_move rfl) rfl ?_ | refine TL_q (op_assign rfl) rfl ?_ | (refine' TL_q (op_bin rfl rfl ?_) rfl ?_; rotate_left 1; (· (exact bin_neq))) | refine TL_q (op_len_slice rfl Try.underlying40) rfl ?_ | (refine T_no rfl ?_ ?_; (· (assumption)))))
    refine T_loopS (σ := Nat) (fun k => k ≤ la.length ∧ la.take k = lb.take k) (fun k => [(1, .slice ab lb.length cb), (2, .func (.func 65) #[] #[]), (15, .slice aa la.length ca), (16, .int .i64 (la.length : Nat)), (17, .int .i64 (k : Nat))]) (fun k => L) (fun k => la.length - k) 0 ⟨Nat.zero_le _, by simp⟩ ?_ (fun w h => h) ?_
    (repeat ((first | exact trivial | refine ⟨rfl, ?_⟩)))
    rintro k ⟨hk, heq⟩
    by_cases hlt : k < la.length
    · have d1 : decide (((k : Nat) : Int) < ((la.length : Nat) : Int)) = true := decide_eq_true (by omega)
      obtain ⟨x, hx⟩ : ∃ x, la[k]? = some x := ⟨_, List.getElem?_eq_getElem hlt⟩
      obtain ⟨y, hy⟩ : ∃ y, lb[k]? = some y := ⟨_, List.getElem?_eq_getElem (hlen ▸ hlt)⟩
      rcases ha with rfl | ⟨b1, o1, C1, t1, f1, rfl, m1, q1⟩
      · simp at hlt
      rcases hb with rfl | ⟨b2, o2, C2, t2, f2, rfl, m2, q2⟩
      · simp at hy
      obtain ⟨ca', ha1, ha2, hca⟩ := q1 k x hx
      obtain ⟨cb', hb1, hb2, hcb⟩ := q2 k y hy
      obtain ⟨xa, xc, rfl, _⟩ := ha2.val
      obtain ⟨ya, yc, rfl, _⟩ := hb2.val
      repeat ((first | with_reducible refine T_seq ?_ | with_reducible refine T_block ?_ | with_reducible refine T_region ?_ | with_reducible refine TL_nil ?_ | with_reducible refine TQ_then ?_ | with_reducible refine T_skip ?_ | refine TL_q (op_move rfl) rfl ?_ | (refine' TL_q (op_bin rfl rfl ?_) rfl ?_; rotate_left 1; (· (exact bin_lss))) | (refine' TL_q (op_idx ety_40 rfl rfl ?_) rfl ?_; (· omega)) | (refine T_yes rfl ?_ ?_; (· (assumption)))))
      refine TL_q (op_ldA [.string (bs x.name), .int .u16 x.kind, .int .u16 x.cls, .int .u32 x.ttl, .slice xa x.data.length xc] rfl st_60 m1 hca) rfl ?_
      repeat ((first | with_reducible refine T_seq ?_ | with_reducible refine T_region ?_ | with_reducible refine TL_nil ?_ | with_reducible refine TQ_then ?_ | refine TL_q (op_move rfl) rfl ?_ | refine TL_q (op_assign rfl) rfl ?_ | (refine' TL_q (op_idx ety_40 rfl rfl ?_) rfl ?_; (· omega)) | (refine TL_stAll rfl rfl st_60 rfl rfl rfl ?_) | (refine TL_new (op_alloc zero_60 rfl) rfl ?_; intro bNew)))
      refine TL_q (op_ldA [.string (bs y.name), .int .u16 y.kind, .int .u16 y.cls, .int .u32 y.ttl, .slice ya y.data.length yc] rfl st_60 (List.mem_cons_of_mem _ m2) hcb) rfl ?_
      repeat ((first | with_reducible refine T_seq ?_ | with_reducible refine T_region ?_ | with_reducible refine TL_nil ?_ | with_reducible refine TQ_then ?_ | refine TL_q (op_move rfl) rfl ?_ | (refine' TL_q (op_ldAll rfl st_60 ?_ ?_) rfl ?_; rotate_left 3; (· repeat ((first | exact List.mem_cons_self | apply List.mem_cons_of_mem))); (· (assumption))) | (refine TL_stAll rfl rfl st_60 rfl rfl rfl ?_) | (refine TL_new (op_alloc zero_60 rfl) rfl ?_; intro bNew)))
      refine TL_op (op_callV (cap := []) hb_65 rfl rfl (rSame_S _ _ x y (mono_set _ _ _ _ (fun q hq => mem2 hq) ha2) (mono_set _ _ _ _ (fun q hq => mem2 hq) hb2))) rfl ?_
      by_cases hxy : x = y
      · have d2 : (!decide (x = y)) = false := by simp [hxy]
        repeat ((first | with_reducible refine T_region ?_ | with_reducible refine TL_nil ?_ | with_reducible refine TQ_then ?_ | with_reducible refine TQ_block ?_ | with_reducible refine T_skip ?_ | refine TL_q (op_move rfl) rfl ?_ | (refine' TL_q (op_bin rfl rfl ?_) rfl ?_; rotate_left 1; (· (exact bin_add ⟨by omega, by omega⟩))) | refine TL_q (op_not rfl) rfl ?_ | (refine T_no rfl ?_ ?_; (· (assumption)))))
        refine TQ_roundS (k + 1) ⟨hlt, ?_⟩ ?_ (fun w h => h.tail.tail) (by omega)
        · subst hxy
          exact take_ext heq hx hy
        (repeat ((first | exact trivial | refine ⟨rfl, ?_⟩)))
      · have d2 : (!decide (x = y)) = true := by simp [hxy]
        repeat ((first | with_reducible refine T_seq ?_ | with_reducible refine T_region ?_ | with_reducible refine TL_nil ?_ | with_reducible refine TQ_then ?_ | with_reducible refine T_ret ?_ | with_reducible refine TQ_then_ret ?_ | with_reducible refine TQ_block_ret ?_ | refine TL_q (op_assign rfl) rfl ?_ | refine TL_q (op_not rfl) rfl ?_ | (refine T_yes rfl ?_ ?_; (· (assumption)))))
        refine TQ_heap (fun w h => h.tail.tail) ?_
        refine TQ_ret1 6 _ rfl rfl ?_
        refine ⟨?_, rfl⟩
        have : la ≠ lb := fun e => hxy (by rw [e, hy] at hx; exact (Option.some.inj hx).symm)
        simp [this]
    · have d1 : decide (((k : Nat) : Int) < ((la.length : Nat) : Int)) = false := decide_eq_false (by omega)
      have hkn : k = la.length := by omega
      subst hkn
      rw [List.take_length, hlen, List.take_length] at heq
      repeat ((first | with_reducible refine T_seq ?_ | with_reducible refine T_region ?_ | with_reducible refine TL_nil ?_ | with_reducible refine TQ_then ?_ | with_reducible refine T_exit ?_ | with_reducible refine T_ret ?_ | with_reducible refine TQ_then_exit ?_ | with_reducible refine TQ_block_exit ?_ | refine TL_q (op_assign rfl) rfl ?_ | (refine' TL_q (op_bin rfl rfl ?_) rfl ?_; rotate_left 1; (· (exact bin_lss))) | (refine T_no rfl ?_ ?_; (· (assumption)))))
      refine TQ_ret1 6 _ rfl rfl ?_
      exact ⟨by simp [heq], rfl⟩
  · have d0 : (((la.length : Nat) : Int) != ((lb.length : Nat) : Int)) = true := by simp; omega
    repeat ((first | with_reducible refine T_seq ?_ | with_reducible refine T_region ?_ | with_reducible refine TL_nil ?_ | with_reducible refine TQ_then ?_ | with_reducible refine T_ret ?_ | with_reducible refine TQ_then_ret ?_ | refine TL_q (op_move rfl) rfl ?_ | refine TL_q (op_assign rfl) rfl ?_ | (refine' TL_q (op_bin rfl rfl ?_) rfl ?_; rotate_left 1; (· (exact bin_neq))) | refine TL_q (op_len_slice rfl Try.underlying40) rfl ?_ | (refine T_yes rfl ?_ ?_; (· (assumption)))))
    refine TQ_ret1 6 _ rfl rfl ?_
    refine ⟨?_, rfl⟩
    have : la ≠ lb := fun e => hlen (by rw [e])
    simp [this]
set_option maxRecDepth 100000 in
theorem pSame_S (ca cb : List Value) (a b : Vdt) (ha : vdR L ca a) (hb : vdR L cb b) : Spec Try.prog G 27 #[.agg ca.toArray, .agg cb.toArray] L fun u M => u = .bool (decide (a = b)) ∧ M = L := by
  obtain ⟨a1, a2, rfl, ha1, ha2, _⟩ := ha
  obtain ⟨b1, b2, rfl, hb1, hb2, _⟩ := hb
  refine Spec_of (n := 24) Try.func27 rfl rfl rfl ?_
  cases n1 : a.code == b.code with
  | false =>
    repeat ((first | with_reducible refine T_seq ?_ | with_reducible refine T_region ?_ | with_reducible refine TL_nil ?_ | with_reducible refine TQ_then ?_ | with_reducible refine T_ret ?_ | refine TL_q (op_move rfl) rfl ?_ | refine TL_q (op_assign rfl) rfl ?_ | (refine' TL_q (op_bin rfl rfl ?_) rfl ?_; rotate_left 1; (· (exact bin_eql))) | (refine' TL_q (op_pickF rfl ?_ rfl) rfl ?_; (· (first | with_reducible rfl | assumption))) | refine TL_q (op_fld rfl fld_42_0) rfl ?_ | (refine' TL_q (op_ld rfl pl_5 ?_ ?_) rfl ?_; rotate_left 4; (· repeat ((first | exact List.mem_cons_self | apply List.mem_cons_of_mem))); (· (rfl))) | (refine TL_gno rfl rfl ?_ rfl ?_; (· (first | assumption | exact Bool.not_true))) | (refine TL_new (op_box rfl rfl) rfl ?_; intro bBox)))
    refine TQ_heap (fun w h => h.tail.tail) ?_
    refine TQ_ret1 4 _ rfl rfl ?_
    refine ⟨?_, rfl⟩
    have : ¬ a = b := fun e => by rw [e] at n1; simp at n1
    simp [this]
  | true =>
    repeat ((first | with_reducible refine T_seq ?_ | with_reducible refine T_region ?_ | with_reducible refine TL_nil ?_ | with_reducible refine TQ_then ?_ | refine TL_q (op_move rfl) rfl ?_ | refine TL_q (op_assign rfl) rfl ?_ | (refine' TL_q (op_bin rfl rfl ?_) rfl ?_; rotate_left 1; (· (exact bin_eql))) | refine TL_q (op_fld rfl fld_42_0) rfl ?_ | (refine' TL_q (op_ld rfl pl_5 ?_ ?_) rfl ?_; rotate_left 4; (· repeat ((first | exact List.mem_cons_self | apply List.mem_cons_of_mem))); (· (rfl))) | (refine TL_gpre rfl rfl ?_ ?_; (· (assumption))) | refine TL_gq2 (op_fld rfl fld_42_1) rfl ?_ | (refine' TL_gq2 (op_ld rfl pl_5 ?_ ?_) rfl ?_; rotate_left 4; (· repeat ((first | exact List.mem_cons_self | apply List.mem_cons_of_mem))); (· (rfl))) | (refine TL_new (op_box rfl rfl) rfl ?_; intro bBox)))
    refine TG_op (op_call hb_64 rfl (EqualFunc_S _ _ a.sets b.sets (mono_slice mono_set _ _ _ _ (fun q hq => mem2 hq) ha1) (mono_slice mono_set _ _ _ _ (fun q hq => mem2 hq) hb1))) rfl ?_
    cases n2 : decide (a.sets = b.sets) with
    | false =>
      repeat ((first | with_reducible refine TL_nil ?_ | with_reducible refine TQ_then ?_ | with_reducible refine T_ret ?_ | refine TL_q (op_move rfl) rfl ?_ | refine TL_q (op_assign rfl) rfl ?_ | (refine' TL_q (op_pickT rfl ?_ rfl) rfl ?_; (· (assumption))) | (refine' TL_q (op_pickF rfl ?_ rfl) rfl ?_; (· (with_reducible rfl))) | (refine TL_gno rfl rfl ?_ rfl ?_; (· (exact Bool.not_true)))))
      refine TQ_heap (fun w h => h.tail.tail) ?_
      refine TQ_ret1 4 _ rfl rfl ?_
      refine ⟨?_, rfl⟩
      have : ¬ a = b := fun e => by rw [e] at n2; simp at n2
      simp [this]
    | true =>
      repeat ((first | refine TL_q (op_move rfl) rfl ?_ | (refine' TL_q (op_pickT rfl ?_ rfl) rfl ?_; (· (assumption))) | (refine TL_gpre rfl rfl ?_ ?_; (· (with_reducible rfl))) | refine TL_gq2 (op_fld rfl fld_42_2) rfl ?_ | (refine' TL_gq2 (op_ld rfl pl_5 ?_ ?_) rfl ?_; rotate_left 4; (· repeat ((first | exact List.mem_cons_self | apply List.mem_cons_of_mem))); (· (rfl)))))
      refine TG_op (op_call hb_64 rfl (EqualFunc_S _ _ a.soa b.soa (mono_slice mono_set _ _ _ _ (fun q hq => mem2 hq) ha2) (mono_slice mono_set _ _ _ _ (fun q hq => mem2 hq) hb2))) rfl ?_
      repeat ((first | with_reducible refine TL_nil ?_ | with_reducible refine TQ_then ?_ | with_reducible refine T_ret ?_ | refine TL_q (op_assign rfl) rfl ?_ | (refine' TL_q (op_pickT rfl ?_ rfl) rfl ?_; (· (with_reducible rfl)))))
      refine TQ_heap (fun w h => h.tail.tail) ?_
      refine TQ_ret1 4 _ rfl rfl ?_
      refine ⟨?_, rfl⟩
      simp only [decide_eq_true_eq] at n2
      rw [beq_iff_eq] at n1
      congr 1
      simp [vd_eq, n1, n2]
end Go.Proofs.Ytdflhdfapnhjjaa
namespace Go.Proofs.Ytdflhdfapnhjjaa
open Go.RowKit
open Vd (RSet Vdt Vote Rec Quest)
set_option linter.unusedVariables false
set_option linter.unusedSimpArgs false
section
variable {P : Program}
theorem equalIn_slice {t e : TypeId} {a : Option Addr} {m c : Nat} (d : Nat) (w : World) (h : P.underlying t = some (.slice e)) : (Op.equalIn (d + 1) t (.slice a m c) (.slice none 0 0)).run P w = .ok a.isNone w := by
  cases a <;> simp [Op.equalIn, run_underlying h]
theorem lbin_eql {t e : TypeId} {a : Option Addr} {m c : Nat} (h : P.underlying t = some (.slice e)) : Bin P .eql t (.slice a m c) (.slice none 0 0) (.bool a.isNone) := ⟨fun x y w => by
  simp only [eqGuard, binOp, equal_open]
  simp [equalIn_slice 9999 w h]⟩
end
section
variable {α : Type} {r : Rp α} {sz : Nat} {G : World} {P : Program} {ρ : Slots} {L : Blocks} {ty : TypeId}
/-- What lies somewhere, in one list of cells. -/
theorem laid_of {C : Array Value} : ∀ (m : List α) (off : Nat), (∀ i x, m[i]? = some x → ∃ cs', cs'.length = sz ∧ r L cs' x ∧ ∀ j v, cs'[j]? = some v → C[off + i * sz + j]? = some v) → ∃ news, Laid r sz L news m ∧ ∀ j v, news[j]? = some v → C[off + j]? = some v
  | [], off, _ => ⟨[], rfl, fun j v h => by simp at h⟩
  | x :: m, off, h => by
    obtain ⟨c, h1, h2, h3⟩ := h 0 x rfl
    obtain ⟨news, k1, k2⟩ := laid_of m (off + sz) (fun i y hy => by
      obtain ⟨d, q1, q2, q3⟩ := h (i + 1) y (by simpa using hy)
      refine ⟨d, q1, q2, fun j v hj => ?_⟩
      rw [← q3 j v hj]
      congr 1
      rw [Nat.succ_mul]
      omega)
    refine ⟨c ++ news, ⟨c, news, rfl, h1, h2, k1⟩, fun j v hj => ?_⟩
    by_cases hlt : j < c.length
    · rw [List.getElem?_append_left hlt] at hj
      have := h3 j v hj
      rwa [Nat.zero_mul, Nat.add_zero] at this
    · rw [List.getElem?_append_right (by omega)] at hj
      rw [← k2 _ v hj]
      congr 1
      omega
theorem op_append0 {s x : Operand} {t e : TypeId} {sz bytes : Nat} {z v : Value} {m c : Nat} {a : Option Addr} {xs : List Value} {B : Blocks} (E : ElemTy P t e sz bytes z) (hs : ev ρ s = some v) (hx : ev ρ x = some (.slice a 0 c))
    (hrow : Row e sz v m xs B) (h63 : m + 0 ≤ maxLen) (hby : (m + 0) * bytes ≤ 140737488355328) :
    OpT P G ρ (B ++ L) (.call ⟨.builtin .append, #[s, x], #[t, t]⟩) ty fun v' L' => ∃ B', Row e sz v' (m + 0) (xs ++ []) B' ∧ L' = B' ++ L :=
  ⟨fun r hr w hw o ho _ => by
    obtain ⟨i, hi, hz0, hz1, hz2⟩ := E.info
    have hown := hrow.owns hw
    have key : ∃ v' w', (Builtin.append_ #[t, t] o.type #[v, .slice a 0 c]).run P w = .ok v' w' ∧ w'.ownsRow 0 e sz v' (m + 0) (xs ++ []) ∧ w.grownBy w' v.ownBlock ∧ (v'.ownBlock = v.ownBlock ∨ v'.ownBlock = some w.heap.size) := by
      cases a with
      | none => exact ⟨v, w, run_app0 w t o.type e i c E.und hi 0 sz v m xs hown, by simpa using hown, ⟨rfl, rfl, rfl, Nat.le_refl _, fun _ _ _ => rfl⟩, Or.inl rfl⟩
      | some x =>
        obtain ⟨v', w', q1, q2, q3, _, q5⟩ := run_append_own_at w 0 t o.type e i z sz bytes E.und hi hz0 hz1 hz2 E.cells E.pos v m xs hown x 0 c [] (by simp)
          (fun j y hj => by simp at hj) (by simp) h63 hby (Nat.zero_le _)
        exact ⟨v', w', q1, q2, q3, q5⟩
    obtain ⟨v', w', hrun, q2, q3, q4⟩ := key
    obtain ⟨B', hB, hH⟩ := hrow.after hw q2 q3 q4
    have : (execOp r o).run P w = .ok (.value v') w' := by
      simp [execOp, ho, hr _ _ hs, hr _ _ hx, resolve, invoke, builtin, hrun, Result.andThen]
    rw [this]
    exact ⟨_, ⟨B', hB, rfl⟩, hH⟩⟩
/-- 'append(s, l...)' of things that lie somewhere. -/
theorem op_appendG {s x : Operand} {t e : TypeId} {bytes : Nat} {z : Value} {a a2 : Option Addr} {c c2 : Nat} {l m : List α} {B : Blocks} (E : ElemTy P t e sz bytes z) (hs : ev ρ s = some (.slice a l.length c)) (hx : ev ρ x = some (.slice a2 m.length c2))
    (hrow : ORow r e sz L a c l B) (hr : sliceR sz r L [.slice a2 m.length c2] m) (hone : ∀ cs y, r L cs y → ∀ v ∈ cs, v.oneCell' = true) (h63 : l.length + m.length ≤ maxLen) (hby : (l.length + m.length) * bytes ≤ 140737488355328) :
    OpT P G ρ (B ++ L) (.call ⟨.builtin .append, #[s, x], #[t, t]⟩) ty fun v' L' => ∃ a' c' B', v' = .slice a' (l ++ m).length c' ∧ ORow r e sz L a' c' (l ++ m) B' ∧ L' = B' ++ L := by
  obtain ⟨xs, h1, h2, h3⟩ := hrow.ex
  have hlen : (l ++ m).length = l.length + m.length := by simp
  have laid_one : ∀ (m : List α) (news : List Value), Laid r sz L news m → ∀ v ∈ news, v.oneCell' = true := by
    intro m
    induction m with
    | nil => intro news h v hv; rw [show news = [] from h] at hv; simp at hv
    | cons y m ih =>
      rintro _ ⟨d, ys, rfl, _, q2, q3⟩ v hv
      rcases List.mem_append.1 hv with hv | hv
      · exact hone d y q2 v hv
      · exact ih ys q3 v hv
  obtain ⟨_, _, _, hc⟩ := sliceR.cut hr
  rcases hc with rfl | ⟨b, off, C, te, fr, rfl, q2, q3⟩
  · refine (op_append0 E hs hx h1 h63 hby).post fun v' M ⟨B', k1, k2⟩ => ?_
    obtain ⟨a', c', rfl⟩ := k1.slice
    refine ⟨M, ⟨a', c', B', by rw [hlen]; rfl, ⟨xs, ?_, by simpa using h2, h3⟩, k2⟩, fun w hw => hw⟩
    simpa using k1
  · obtain ⟨news, n1, n2⟩ := laid_of m off q3
    refine (op_append E hs hx h1 ⟨n1.len, laid_one m news n1, Or.inr ⟨b, off, c2, C, te, fr, rfl, q2, n2⟩⟩ h63 hby).post fun v' M ⟨B', k1, k2⟩ => ?_
    obtain ⟨a', c', rfl⟩ := k1.slice
    refine ⟨M, ⟨a', c', B', by rw [hlen], ⟨xs ++ news, by rw [hlen]; exact k1, h2.append n1, fun v hv => ?_⟩, k2⟩, fun w hw => hw⟩
    rcases List.mem_append.1 hv with hv | hv
    · exact h3 v hv
    · exact laid_one m news n1 v hv
end
end Go.Proofs.Ytdflhdfapnhjjaa
namespace Go.Proofs.Ytdflhdfapnhjjaa
open Go.RowKit
open Vd (RSet Vdt Vote Rec Quest Piece)
set_option linter.unusedVariables false
set_option linter.unusedSimpArgs false
--auto
def pieceR : Rp Piece := fun _ cs p => cs = [.string (bs p.s), .bool p.nam] ∧ p.s.length ≤ maxLen
theorem mono_piece : Mono pieceR := fun _ _ _ _ _ h => h
section
variable {α : Type} {r : Rp α} {sz : Nat} {L : Blocks}
theorem ORow.lit1 {e : TypeId} {b : Nat} {cs : List Value} {y : α} (hn : cs.length = sz) (hy : r L cs y) (hone : ∀ v ∈ cs, v.oneCell' = true) : ORow r e sz L (some ⟨b, 0, none⟩) 1 [y] [(b, .cells cs.toArray e (0, 0))] :=
  ⟨cs, ⟨by simp [hn], Or.inr ⟨b, 1, cs.toArray, rfl, rfl, Nat.le_refl _, by unfold maxLen; omega, by simp [hn], by simp; exact List.take_of_length_le (by omega)⟩⟩, Laid.one hn hy, hone⟩
end
theorem piece_one {s : Vd.Bytes} {b : Bool} : ∀ v ∈ ([.string (bs s), .bool b] : List Value), v.oneCell' = true := by
  intro v hv
  simp only [List.mem_cons, List.not_mem_nil, or_false] at hv
  rcases hv with rfl | rfl <;> rfl
variable {G : World} {L : Blocks}
def layV (k : Int) : Value := match Vd.layout k with
  | some (a, m, b) => .tuple #[.int .i64 (a : Nat), .int .i64 (m : Nat), .int .i64 (b : Nat), .bool true]
  | none => .tuple #[.int .i64 0, .int .i64 0, .int .i64 0, .bool false]
set_option maxRecDepth 100000 in
theorem layout_S (k : Int) : Spec Try.prog G 144 #[.int .u16 k] L fun u M => u = layV k ∧ M = L := by
  refine Spec_of (n := 21) Try.func144 rfl rfl rfl ?_
  repeat' ((first | with_reducible refine T_seq ?_ | with_reducible refine T_block ?_ | with_reducible refine T_region ?_ | with_reducible refine TL_nil ?_ | with_reducible refine TQ_then ?_ | with_reducible refine TQ_block ?_ | with_reducible refine T_skip ?_ | with_reducible refine T_ret ?_ | with_reducible refine TQ_then_ret ?_ | with_reducible refine TQ_block_ret ?_ | refine TL_q (op_move rfl) rfl ?_ | refine TL_q (op_assign rfl) rfl ?_ | (refine' TL_q (op_bin rfl rfl ?_) rfl ?_; rotate_left 1; (· (exact bin_eql))) | (refine T_yes rfl ?_ ?_; (· (exact dT (by (assumption))))) | refine T_condD rfl (fun hc => ?_) (fun hc => ?_) | refine TQ_ret4 2 3 4 5 _ _ _ _ rfl rfl rfl rfl rfl ?_))
  all_goals (refine ⟨?_, rfl⟩; simp [layV, Vd.layout, *])
theorem txt_fuel : ∀ (f g : Nat) (l : Vd.Bytes), l.length < f → l.length < g → Vd.txtOk f l = Vd.txtOk g l
  | 0, _, _, h, _ => absurd h (Nat.not_lt_zero _)
  | _ + 1, 0, _, _, h => absurd h (Nat.not_lt_zero _)
  | f + 1, g + 1, [], _, _ => rfl
  | f + 1, g + 1, c :: t, h1, h2 => by
    simp only [Vd.txtOk]
    split
    · exact txt_fuel f g _ (by simp at h1 ⊢; omega) (by simp at h2 ⊢; omega)
    · rfl
theorem drop_c {s : Vd.Bytes} {k : Nat} (h : k < s.length) : ∃ c, s[k]? = some c ∧ s.drop k = c :: s.drop (k + 1) := ⟨s[k], List.getElem?_eq_getElem h, List.drop_eq_getElem_cons h⟩
/-- A row of pieces, and an error. -/
def PcOut (L : Blocks) (x : List Piece × Int) (u : Value) (M : Blocks) : Prop := ∃ a c B, u = .tuple #[.slice a x.1.length c, .int .i64 x.2] ∧ ORow pieceR 188 2 L a c x.1 B ∧ M = B ++ L
set_option maxRecDepth 100000 in
theorem texts_S (s : Vd.Bytes) (hs : s.length ≤ 1000000) : Spec Try.prog G 143 #[.string (bs s)] L (PcOut L (if s = [] then ([], 4) else if Vd.txtOk (s.length + 1) s then ([⟨s, false⟩], 0) else ([], 4))) := by
  refine Spec_of (n := 31) Try.func143 rfl rfl rfl ?_
  repeat' ((first | with_reducible refine T_seq ?_ | with_reducible refine T_block ?_ | with_reducible refine T_region ?_ | with_reducible refine TL_nil ?_ | with_reducible refine TQ_then ?_ | with_reducible refine T_skip ?_ | with_reducible refine T_ret ?_ | with_reducible refine TQ_then_ret ?_ | refine TL_q (op_move rfl) rfl ?_ | refine TL_q (op_assign rfl) rfl ?_ | (refine' TL_q (op_bin rfl rfl ?_) rfl ?_; rotate_left 1; (· (exact sbin_eql))) | refine T_condE rfl (fun hc => ?_) (fun hc => ?_) | refine TQ_ret2 2 3 _ _ rfl rfl rfl ?_))
  · rw [if_pos hc]
    exact ⟨none, 0, [], rfl, ORow.nil _, rfl⟩
  · rw [if_neg hc]
    have hne := hc
    clear hc
    refine T_loopS (σ := Nat) (fun k => k ≤ s.length ∧ Vd.txtOk (s.length + 1 - k) (s.drop k) = Vd.txtOk (s.length + 1) s) (fun k => [(0, .string (bs s)), (4, .int .i64 (k : Nat))]) (fun k => L) (fun k => s.length - k) 0 ⟨Nat.zero_le _, rfl⟩ ?_ (fun w h => h) ?_
    (repeat ((first | exact trivial | refine ⟨rfl, ?_⟩)))
    rintro k ⟨hk, heq⟩
    by_cases hlt : k < s.length
    · obtain ⟨c, hc, hd⟩ := drop_c hlt
      have hc' : s[((k : Nat) : Int).toNat]? = some c := hc
      have hcl : c.toNat ≤ 255 := by have := c.toNat_lt; omega
      rw [hd, show s.length + 1 - k = (s.length - k) + 1 by omega] at heq
      simp only [Vd.txtOk] at heq
      have hdl : (s.drop (k + 1)).length = s.length - (k + 1) := List.length_drop ..
      by_cases hbig : s.length < k + 1 + c.toNat
      · rw [if_neg (by omega)] at heq
        repeat' ((first | with_reducible refine T_seq ?_ | with_reducible refine T_block ?_ | with_reducible refine T_region ?_ | with_reducible refine TL_nil ?_ | with_reducible refine TQ_then ?_ | with_reducible refine T_skip ?_ | with_reducible refine T_ret ?_ | with_reducible refine TQ_then_ret ?_ | with_reducible refine TQ_block_ret ?_ | refine TL_q (op_move rfl) rfl ?_ | refine TL_q (op_assign rfl) rfl ?_ | (refine' TL_q (op_bin rfl rfl ?_) rfl ?_; rotate_left 1; (· (first | exact bin_add ⟨by omega, by omega⟩ | exact bin_lss | exact bin_gtr))) | (refine' TL_q (op_conv_int rfl Try.underlying5 Try.underlying3 ?_) rfl ?_; (· exact ⟨by omega, by omega⟩)) | refine TL_q (op_len_str rfl Try.underlying9) rfl ?_ | (refine' TL_q (op_index_str rfl rfl Try.underlying9 ?_ ?_) rfl ?_; rotate_left 1; (· omega); (· (assumption))) | (refine T_yes rfl ?_ ?_; (· (exact dT (by (omega))))) | refine TQ_ret2 2 3 _ _ rfl rfl rfl ?_))
        rw [← heq]
        exact ⟨none, 0, [], rfl, ORow.nil _, rfl⟩
      · rw [if_pos (by omega)] at heq
        repeat' ((first | with_reducible refine T_seq ?_ | with_reducible refine T_block ?_ | with_reducible refine T_region ?_ | with_reducible refine TL_nil ?_ | with_reducible refine TQ_then ?_ | with_reducible refine TQ_block ?_ | with_reducible refine T_skip ?_ | refine TL_q (op_move rfl) rfl ?_ | refine TL_q (op_assign rfl) rfl ?_ | (refine' TL_q (op_bin rfl rfl ?_) rfl ?_; rotate_left 1; (· (first | exact bin_add ⟨by omega, by omega⟩ | exact bin_lss | exact bin_gtr))) | (refine' TL_q (op_conv_int rfl Try.underlying5 Try.underlying3 ?_) rfl ?_; (· exact ⟨by omega, by omega⟩)) | refine TL_q (op_len_str rfl Try.underlying9) rfl ?_ | (refine' TL_q (op_index_str rfl rfl Try.underlying9 ?_ ?_) rfl ?_; rotate_left 1; (· omega); (· (assumption))) | (refine T_yes rfl ?_ ?_; (· (exact dT (by (omega))))) | (refine T_no rfl ?_ ?_; (· (exact dF (by (omega)))))))
        refine TQ_roundS (k + 1 + c.toNat) ⟨by omega, ?_⟩ ?_ (fun w h => h) (by omega)
        · rw [← heq, List.drop_drop]
          exact txt_fuel _ _ _ (by rw [List.length_drop]; omega) (by rw [List.length_drop]; omega)
        (repeat ((first | exact trivial | refine ⟨rfl, ?_⟩)))
    · have hkn : k = s.length := by omega
      subst hkn
      rw [List.drop_length] at heq
      rw [if_pos (heq.symm.trans (by rw [show s.length + 1 - s.length = 1 by omega]; rfl))]
      repeat' ((first | with_reducible refine T_seq ?_ | with_reducible refine T_region ?_ | with_reducible refine TL_nil ?_ | with_reducible refine TQ_then ?_ | with_reducible refine T_exit ?_ | with_reducible refine T_ret ?_ | with_reducible refine TQ_then_exit ?_ | with_reducible refine TQ_block_exit ?_ | refine TL_q (op_move rfl) rfl ?_ | refine TL_q (op_assign rfl) rfl ?_ | (refine' TL_q (op_bin rfl rfl ?_) rfl ?_; rotate_left 1; (· (exact bin_lss))) | refine TL_q (op_len_str rfl Try.underlying9) rfl ?_ | refine TL_q (op_build rfl (bl_188_0 _)) rfl ?_ | (refine TL_new (op_litN ety_184 rfl rfl (by decide)) rfl ?_; intro bLit) | (refine T_no rfl ?_ ?_; (· (exact dF (by (omega))))) | refine TQ_ret2 2 3 _ _ rfl rfl rfl ?_))
      exact ⟨_, _, _, rfl, ORow.lit1 rfl ⟨rfl, by show s.length ≤ maxLen; unfold maxLen; omega⟩ piece_one, rfl⟩
theorem joined_take {l : List Piece} {k : Nat} {x : Piece} (h : l[k]? = some x) : Vd.joined (l.take (k + 1)) = Vd.joined (l.take k) ++ x.s := by
  rw [List.take_add_one, h]; simp [Vd.joined]
theorem joined_le {l : List Piece} {k : Nat} : (Vd.joined (l.take k)).length ≤ (Vd.joined l).length := by
  conv => rhs; rw [← List.take_append_drop k l]
  unfold Vd.joined
  rw [List.flatMap_append, List.length_append]
  omega
theorem pieces_cut {a : Option Addr} {m c : Nat} {l : List Piece} (h : sliceR 2 pieceR L [.slice a m c] l) : m = l.length ∧ m ≤ c ∧ c ≤ maxLen ∧ (l = [] ∨ ∃ b off C te fr, a = some ⟨b, off, none⟩ ∧ (b, Obj.cells C te fr) ∈ L ∧ ∀ i x, l[i]? = some x → C[off + i * 2 + 0]? = some (.string (bs x.s)) ∧ C[off + i * 2 + 1]? = some (.bool x.nam)) := by
  obtain ⟨h1, h2, h3, h4⟩ := sliceR.cut h
  refine ⟨h1, h2, h3, h4.imp id ?_⟩
  rintro ⟨b, off, C, te, fr, q1, q2, q3⟩
  refine ⟨b, off, C, te, fr, q1, q2, fun i x hx => ?_⟩
  obtain ⟨cs', k1, ⟨k2, _⟩, k3⟩ := q3 i x hx
  subst k2
  exact ⟨k3 0 _ rfl, k3 1 _ rfl⟩
set_option maxRecDepth 100000 in
theorem joined_S (v : Value) (l : List Piece) (hl : sliceR 2 pieceR L [v] l) (hs : (Vd.joined l).length ≤ 1000000000) : Spec Try.prog G 139 #[v] L fun u M => u = .string (bs (Vd.joined l)) ∧ M = L := by
  obtain ⟨a, c, e1, hl⟩ := hl.val
  simp only [List.cons.injEq, and_true] at e1
  subst e1
  obtain ⟨_, k1, k2, hl⟩ := pieces_cut hl
  unfold maxLen at k2
  refine Spec_of (n := 19) Try.func139 rfl rfl rfl ?_
  repeat ((first | with_reducible refine T_seq ?_ | with_reducible refine T_block ?_ | with_reducible refine T_region ?_ | with_reducible refine TL_nil ?_ | with_reducible refine TQ_then ?_ | refine TL_q (op_assign rfl) rfl ?_))
  refine T_loopS (σ := Nat) (fun k => k ≤ l.length) (fun k => [(0, .slice a l.length c), (3, .string (bs (Vd.joined (l.take k)))), (4, .int .i64 (k : Nat))]) (fun k => L) (fun k => l.length - k) 0 (Nat.zero_le _) ?_ (fun w h => h) ?_
  (repeat ((first | exact trivial | refine ⟨rfl, ?_⟩)))
  intro k hk
  by_cases hlt : k < l.length
  · obtain ⟨x, hx⟩ : ∃ x, l[k]? = some x := ⟨_, List.getElem?_eq_getElem hlt⟩
    rcases hl with rfl | ⟨b1, o1, C1, t1, f1, rfl, m1, q1⟩
    · simp at hlt
    obtain ⟨r1, r2⟩ := q1 k x hx
    have hj := joined_take hx
    have hj2 := joined_le (l := l) (k := k + 1)
    have hj3 := congrArg List.length hj
    rw [List.length_append] at hj3
    repeat' ((first | with_reducible refine T_seq ?_ | with_reducible refine T_block ?_ | with_reducible refine T_region ?_ | with_reducible refine TL_nil ?_ | with_reducible refine TQ_then ?_ | with_reducible refine TQ_block ?_ | with_reducible refine T_skip ?_ | refine TL_q (op_move rfl) rfl ?_ | refine TL_q (op_assign rfl) rfl ?_ | (refine' TL_q (op_bin rfl rfl ?_) rfl ?_; rotate_left 1; (· (first | exact bin_add ⟨by omega, by omega⟩ | exact bin_lss | exact sbin_add (by (omega))))) | refine TL_q (op_len_slice rfl Try.underlying184) rfl ?_ | (refine' TL_q (op_idx ety_184 rfl rfl ?_) rfl ?_; (· omega)) | refine TL_q (op_fld rfl fld_188_0) rfl ?_ | (refine' TL_q (op_ld rfl pl_9 ?_ ?_) rfl ?_; rotate_left 4; (· repeat ((assumption))); (· (assumption))) | (refine T_yes rfl ?_ ?_; (· (exact dT (by (omega)))))))
    refine TQ_roundS (k + 1) hlt ?_ (fun w h => h) (by omega)
    rw [hj]
    (repeat ((first | exact trivial | refine ⟨rfl, ?_⟩)))
  · have hkn : k = l.length := by omega
    subst hkn
    repeat' ((first | with_reducible refine T_seq ?_ | with_reducible refine T_region ?_ | with_reducible refine TL_nil ?_ | with_reducible refine TQ_then ?_ | with_reducible refine T_exit ?_ | with_reducible refine T_ret ?_ | with_reducible refine TQ_then_exit ?_ | with_reducible refine TQ_block_exit ?_ | refine TL_q (op_move rfl) rfl ?_ | refine TL_q (op_assign rfl) rfl ?_ | (refine' TL_q (op_bin rfl rfl ?_) rfl ?_; rotate_left 1; (· (exact bin_lss))) | refine TL_q (op_len_slice rfl Try.underlying184) rfl ?_ | (refine T_no rfl ?_ ?_; (· (exact dF (by (omega))))) | refine TQ_ret1 2 _ rfl rfl ?_))
    exact ⟨by rw [List.take_length], rfl⟩
end Go.Proofs.Ytdflhdfapnhjjaa
namespace Go.Proofs.Ytdflhdfapnhjjaa
open Go.RowKit
open Vd (RSet Vdt Vote Rec Quest Piece)
set_option linter.unusedVariables false
set_option linter.unusedSimpArgs false
--auto
variable {G : World} {L : Blocks}
def rdV (x : Vd.Bytes × Int × Int) : Value := .tuple #[.string (bs x.1), .int .i64 x.2.1, .int .i64 x.2.2]
theorem cut_bytes {msg : Vd.Bytes} {p k : Nat} (h : p + k ≤ msg.length) : (msg.take (p + k)).drop p = (msg.drop p).take k := by
  rw [List.drop_take]; congr 1; omega
set_option maxRecDepth 100000 in
set_option maxHeartbeats 1000000 in
theorem Read_S (msg : Vd.Bytes) (at0 : Int) (hs : msg.length ≤ 1000000) : Spec Try.prog G 145 #[.string (bs msg), .int .i64 at0] L fun u M => u = rdV (Vd.readName msg at0) ∧ M = L := by
  refine Spec_of (n := 92) Try.func145 rfl rfl rfl ?_
  by_cases hneg : at0 < 0
  · have hR : Vd.readName msg at0 = ([], 0, 1) := if_pos (Or.inl hneg)
    repeat' ((first | with_reducible refine T_seq ?_ | with_reducible refine T_region ?_ | with_reducible refine TL_nil ?_ | with_reducible refine TQ_then ?_ | with_reducible refine T_ret ?_ | with_reducible refine TQ_then_ret ?_ | refine TL_q (op_move rfl) rfl ?_ | refine TL_q (op_assign rfl) rfl ?_ | (refine' TL_q (op_bin rfl rfl ?_) rfl ?_; rotate_left 1; (· (exact bin_lss))) | (refine' TL_q (op_pickT rfl ?_ rfl) rfl ?_; (· (exact dT (by (assumption))))) | (refine TL_gno rfl rfl ?_ rfl ?_; (· (exact dT (by (assumption))))) | (refine T_yes rfl ?_ ?_; (· (with_reducible rfl))) | refine TQ_ret3 4 5 6 _ _ _ rfl rfl rfl rfl ?_))
    exact ⟨by rw [hR]; rfl, rfl⟩
  by_cases hbig : (msg.length : Int) < at0
  · have hR : Vd.readName msg at0 = ([], 0, 1) := if_pos (Or.inr hbig)
    repeat' ((first | with_reducible refine T_seq ?_ | with_reducible refine T_region ?_ | with_reducible refine TL_nil ?_ | with_reducible refine TQ_then ?_ | with_reducible refine T_ret ?_ | with_reducible refine TQ_then_ret ?_ | refine TL_q (op_move rfl) rfl ?_ | refine TL_q (op_assign rfl) rfl ?_ | (refine' TL_q (op_bin rfl rfl ?_) rfl ?_; rotate_left 1; (· (exact bin_lss))) | (refine' TL_q (op_pickF rfl ?_ rfl) rfl ?_; (· (exact dF (by (assumption))))) | (refine TL_gpre rfl rfl ?_ ?_; (· (exact dF (by (assumption))))) | refine TL_gq2 (op_move rfl) rfl ?_ | (refine' TL_gq2 (op_bin rfl rfl ?_) rfl ?_; rotate_left 1; (· (exact bin_gtr))) | refine TL_gq2 (op_len_str rfl Try.underlying9) rfl ?_ | (refine T_yes rfl ?_ ?_; (· (exact dT (by (assumption))))) | refine TQ_ret3 4 5 6 _ _ _ rfl rfl rfl rfl ?_))
    exact ⟨by rw [hR]; rfl, rfl⟩
  obtain ⟨R, hR1⟩ := Vd.rdName_some msg (Vd.rdFuel at0.toNat []) at0.toNat at0.toNat (-1) [] (Nat.le_refl _)
  have hR : Vd.readName msg at0 = R := by
    unfold Vd.readName
    rw [if_neg (by omega), hR1]
    rfl
  obtain ⟨k0, rfl⟩ : ∃ k : Nat, at0 = (k : Int) := ⟨at0.toNat, by omega⟩
  rw [hR]
  clear hR
  repeat ((first | with_reducible refine T_seq ?_ | with_reducible refine T_block ?_ | with_reducible refine T_region ?_ | with_reducible refine TL_nil ?_ | with_reducible refine TQ_then ?_ | with_reducible refine T_skip ?_ | refine TL_q (op_move rfl) rfl ?_ | refine TL_q (op_assign rfl) rfl ?_ | (refine' TL_q (op_bin rfl rfl ?_) rfl ?_; rotate_left 1; (· (exact bin_lss))) | (refine' TL_q (op_pickF rfl ?_ rfl) rfl ?_; (· (exact Bool.not_true))) | (refine TL_gpre rfl rfl ?_ ?_; (· (exact Bool.not_true))) | refine TL_gq2 (op_move rfl) rfl ?_ | (refine' TL_gq2 (op_bin rfl rfl ?_) rfl ?_; rotate_left 1; (· (exact bin_gtr))) | refine TL_gq2 (op_len_str rfl Try.underlying9) rfl ?_ | (refine T_no rfl ?_ ?_; (· (exact dF (by (assumption)))))))
  refine T_loopS (σ := Nat × Nat × Nat × Int × Vd.Bytes) (fun x => x.2.1 ≤ msg.length ∧ x.2.2.1 ≤ msg.length ∧ (-1 ≤ x.2.2.2.1 ∧ x.2.2.2.1 ≤ msg.length + 2) ∧ x.2.2.2.2.length ≤ 254 ∧ Vd.rdName msg x.1 x.2.1 x.2.2.1 x.2.2.2.1 x.2.2.2.2 = some R)
    (fun x => [(0, .string (bs msg)), (1, .int .i64 (x.2.1 : Nat)), (7, .string (bs x.2.2.2.2)), (8, .int .i64 x.2.2.2.1), (9, .int .i64 (x.2.2.1 : Nat))]) (fun _ => L) (fun x => x.1) (Vd.rdFuel k0 [], k0, k0, -1, []) ⟨by dsimp only; omega, by dsimp only; omega, by dsimp only; omega, by simp, hR1⟩ ?_ (fun w h => h) ?_
  (repeat ((first | exact trivial | refine ⟨rfl, ?_⟩)))
  rintro ⟨f, pos, ahead, next, n⟩ ⟨h1, h2, ⟨h3, h3'⟩, h4, h5⟩
  dsimp only at h1 h2 h3 h3' h4 h5 ⊢
  cases f with
  | zero => cases h5
  | succ f =>
  simp only [Vd.rdName] at h5
  by_cases hlt : pos < msg.length
  · obtain ⟨b, hb, hd⟩ := drop_c hlt
    have hb' : msg[((pos : Nat) : Int).toNat]? = some b := hb
    have hbl : b.toNat ≤ 255 := by have := b.toNat_lt; omega
    rw [hb] at h5
    dsimp only at h5
    by_cases c1 : b.toNat = 0
    · rw [if_pos c1] at h5
      by_cases c2 : next < 0
      · rw [if_pos c2] at h5
        cases h5
        repeat' ((first | with_reducible refine T_seq ?_ | with_reducible refine T_block ?_ | with_reducible refine T_region ?_ | with_reducible refine TL_nil ?_ | with_reducible refine TQ_then ?_ | with_reducible refine T_skip ?_ | with_reducible refine T_ret ?_ | with_reducible refine TQ_then_ret ?_ | with_reducible refine TQ_block_ret ?_ | refine TL_q (op_move rfl) rfl ?_ | refine TL_q (op_assign rfl) rfl ?_ | (refine' TL_q (op_bin rfl rfl ?_) rfl ?_; rotate_left 1; (· (first | exact bin_add ⟨by omega, by omega⟩ | exact bin_eql | exact bin_lss | exact bin_geq | exact sbin_add (by (simp only [List.length_cons, List.length_nil]; omega))))) | (refine' TL_q (op_conv_int rfl Try.underlying5 Try.underlying3 ?_) rfl ?_; (· exact ⟨by omega, by omega⟩)) | refine TL_q (op_len_str rfl Try.underlying9) rfl ?_ | (refine' TL_q (op_index_str rfl rfl Try.underlying9 ?_ ?_) rfl ?_; rotate_left 1; (· omega); (· (assumption))) | (refine T_yes rfl ?_ ?_; (· (exact dT (by (first | assumption | omega))))) | (refine T_no rfl ?_ ?_; (· (exact dF (by (omega))))) | refine TQ_ret3 4 5 6 _ _ _ rfl rfl rfl rfl ?_))
        exact ⟨rfl, rfl⟩
      · rw [if_neg c2] at h5
        cases h5
        repeat' ((first | with_reducible refine T_seq ?_ | with_reducible refine T_block ?_ | with_reducible refine T_region ?_ | with_reducible refine TL_nil ?_ | with_reducible refine TQ_then ?_ | with_reducible refine T_skip ?_ | with_reducible refine T_ret ?_ | with_reducible refine TQ_then_ret ?_ | with_reducible refine TQ_block_ret ?_ | refine TL_q (op_move rfl) rfl ?_ | refine TL_q (op_assign rfl) rfl ?_ | (refine' TL_q (op_bin rfl rfl ?_) rfl ?_; rotate_left 1; (· (first | exact bin_eql | exact bin_lss | exact bin_geq | exact sbin_add (by (simp only [List.length_cons, List.length_nil]; omega))))) | (refine' TL_q (op_conv_int rfl Try.underlying5 Try.underlying3 ?_) rfl ?_; (· exact ⟨by omega, by omega⟩)) | refine TL_q (op_len_str rfl Try.underlying9) rfl ?_ | (refine' TL_q (op_index_str rfl rfl Try.underlying9 ?_ ?_) rfl ?_; rotate_left 1; (· omega); (· (assumption))) | (refine T_yes rfl ?_ ?_; (· (exact dT (by (omega))))) | (refine T_no rfl ?_ ?_; (· (exact dF (by (first | assumption | omega))))) | refine TQ_ret3 4 5 6 _ _ _ rfl rfl rfl rfl ?_))
        exact ⟨rfl, rfl⟩
    rw [if_neg c1] at h5
    by_cases c2 : 192 ≤ b.toNat
    · rw [if_pos c2] at h5
      by_cases hlt2 : pos + 1 < msg.length
      · obtain ⟨c, hc, _⟩ := drop_c hlt2
        have hc' : msg[(((pos : Nat) : Int) + 1).toNat]? = some c := hc
        have hcl : c.toNat ≤ 255 := by have := c.toNat_lt; omega
        rw [hc] at h5
        dsimp only at h5
        by_cases c3 : ahead ≤ (b.toNat - 192) * 256 + c.toNat
        · rw [if_pos c3] at h5
          cases h5
          by_cases c4 : next < 0
          · repeat' ((first | with_reducible refine T_seq ?_ | with_reducible refine T_block ?_ | with_reducible refine T_region ?_ | with_reducible refine TL_nil ?_ | with_reducible refine TQ_then ?_ | with_reducible refine T_skip ?_ | with_reducible refine T_ret ?_ | with_reducible refine TQ_then_ret ?_ | with_reducible refine TQ_block_ret ?_ | refine TL_q (op_move rfl) rfl ?_ | refine TL_q (op_assign rfl) rfl ?_ | (refine' TL_q (op_bin rfl rfl ?_) rfl ?_; rotate_left 1; (· (first | exact bin_add ⟨by omega, by omega⟩ | exact bin_sub ⟨by omega, by omega⟩ | exact bin_mul ⟨by omega, by omega⟩ | exact bin_eql | exact bin_lss | exact bin_geq))) | (refine' TL_q (op_conv_int rfl Try.underlying5 Try.underlying3 ?_) rfl ?_; (· exact ⟨by omega, by omega⟩)) | refine TL_q (op_len_str rfl Try.underlying9) rfl ?_ | (refine' TL_q (op_index_str rfl rfl Try.underlying9 ?_ ?_) rfl ?_; rotate_left 1; (· omega); (· (assumption))) | (refine T_yes rfl ?_ ?_; (· (exact dT (by (first | assumption | omega))))) | (refine T_no rfl ?_ ?_; (· (exact dF (by (omega))))) | refine TQ_ret3 4 5 6 _ _ _ rfl rfl rfl rfl ?_))
            exact ⟨rfl, rfl⟩
          · repeat' ((first | with_reducible refine T_seq ?_ | with_reducible refine T_block ?_ | with_reducible refine T_region ?_ | with_reducible refine TL_nil ?_ | with_reducible refine TQ_then ?_ | with_reducible refine T_skip ?_ | with_reducible refine T_ret ?_ | with_reducible refine TQ_then_ret ?_ | with_reducible refine TQ_block_ret ?_ | refine TL_q (op_move rfl) rfl ?_ | refine TL_q (op_assign rfl) rfl ?_ | (refine' TL_q (op_bin rfl rfl ?_) rfl ?_; rotate_left 1; (· (first | exact bin_add ⟨by omega, by omega⟩ | exact bin_sub ⟨by omega, by omega⟩ | exact bin_mul ⟨by omega, by omega⟩ | exact bin_eql | exact bin_lss | exact bin_geq))) | (refine' TL_q (op_conv_int rfl Try.underlying5 Try.underlying3 ?_) rfl ?_; (· exact ⟨by omega, by omega⟩)) | refine TL_q (op_len_str rfl Try.underlying9) rfl ?_ | (refine' TL_q (op_index_str rfl rfl Try.underlying9 ?_ ?_) rfl ?_; rotate_left 1; (· omega); (· (assumption))) | (refine T_yes rfl ?_ ?_; (· (exact dT (by (omega))))) | (refine T_no rfl ?_ ?_; (· (exact dF (by (first | assumption | omega))))) | refine TQ_ret3 4 5 6 _ _ _ rfl rfl rfl rfl ?_))
            exact ⟨rfl, rfl⟩
        · rw [if_neg c3] at h5
          have e1 : (((b.toNat - 192) * 256 + c.toNat : Nat) : Int) = ((b.toNat : Nat) - 192 : Int) * 256 + (c.toNat : Nat) := by omega
          by_cases c4 : next < 0
          · rw [if_pos c4] at h5
            repeat' ((first | with_reducible refine T_seq ?_ | with_reducible refine T_block ?_ | with_reducible refine T_region ?_ | with_reducible refine TL_nil ?_ | with_reducible refine TQ_then ?_ | with_reducible refine TQ_block ?_ | with_reducible refine T_skip ?_ | refine TL_q (op_move rfl) rfl ?_ | refine TL_q (op_assign rfl) rfl ?_ | (refine' TL_q (op_bin rfl rfl ?_) rfl ?_; rotate_left 1; (· (first | exact bin_add ⟨by omega, by omega⟩ | exact bin_sub ⟨by omega, by omega⟩ | exact bin_mul ⟨by omega, by omega⟩ | exact bin_eql | exact bin_lss | exact bin_geq))) | (refine' TL_q (op_conv_int rfl Try.underlying5 Try.underlying3 ?_) rfl ?_; (· exact ⟨by omega, by omega⟩)) | refine TL_q (op_len_str rfl Try.underlying9) rfl ?_ | (refine' TL_q (op_index_str rfl rfl Try.underlying9 ?_ ?_) rfl ?_; rotate_left 1; (· omega); (· (assumption))) | (refine T_yes rfl ?_ ?_; (· (exact dT (by (first | assumption | omega))))) | (refine T_no rfl ?_ ?_; (· (exact dF (by (omega)))))))
            refine TQ_roundS (f, (b.toNat - 192) * 256 + c.toNat, (b.toNat - 192) * 256 + c.toNat, (pos : Int) + 2, n) ⟨by dsimp only; omega, by dsimp only; omega, by dsimp only; omega, h4, h5⟩ ?_ (fun w h => h) (by dsimp only; omega)
            dsimp only
            rw [e1]
            (repeat ((first | exact trivial | refine ⟨rfl, ?_⟩)))
          · rw [if_neg c4] at h5
            repeat' ((first | with_reducible refine T_seq ?_ | with_reducible refine T_block ?_ | with_reducible refine T_region ?_ | with_reducible refine TL_nil ?_ | with_reducible refine TQ_then ?_ | with_reducible refine TQ_block ?_ | with_reducible refine T_skip ?_ | refine TL_q (op_move rfl) rfl ?_ | refine TL_q (op_assign rfl) rfl ?_ | (refine' TL_q (op_bin rfl rfl ?_) rfl ?_; rotate_left 1; (· (first | exact bin_add ⟨by omega, by omega⟩ | exact bin_sub ⟨by omega, by omega⟩ | exact bin_mul ⟨by omega, by omega⟩ | exact bin_eql | exact bin_lss | exact bin_geq))) | (refine' TL_q (op_conv_int rfl Try.underlying5 Try.underlying3 ?_) rfl ?_; (· exact ⟨by omega, by omega⟩)) | refine TL_q (op_len_str rfl Try.underlying9) rfl ?_ | (refine' TL_q (op_index_str rfl rfl Try.underlying9 ?_ ?_) rfl ?_; rotate_left 1; (· omega); (· (assumption))) | (refine T_yes rfl ?_ ?_; (· (exact dT (by (omega))))) | (refine T_no rfl ?_ ?_; (· (exact dF (by (first | assumption | omega)))))))
            refine TQ_roundS (f, (b.toNat - 192) * 256 + c.toNat, (b.toNat - 192) * 256 + c.toNat, next, n) ⟨by dsimp only; omega, by dsimp only; omega, by dsimp only; omega, h4, h5⟩ ?_ (fun w h => h) (by dsimp only; omega)
            dsimp only
            rw [e1]
            (repeat ((first | exact trivial | refine ⟨rfl, ?_⟩)))
      · rw [List.getElem?_eq_none (by omega)] at h5
        cases h5
        repeat' ((first | with_reducible refine T_seq ?_ | with_reducible refine T_block ?_ | with_reducible refine T_region ?_ | with_reducible refine TL_nil ?_ | with_reducible refine TQ_then ?_ | with_reducible refine T_skip ?_ | with_reducible refine T_ret ?_ | with_reducible refine TQ_then_ret ?_ | with_reducible refine TQ_block_ret ?_ | refine TL_q (op_move rfl) rfl ?_ | refine TL_q (op_assign rfl) rfl ?_ | (refine' TL_q (op_bin rfl rfl ?_) rfl ?_; rotate_left 1; (· (first | exact bin_add ⟨by omega, by omega⟩ | exact bin_eql | exact bin_geq))) | (refine' TL_q (op_conv_int rfl Try.underlying5 Try.underlying3 ?_) rfl ?_; (· exact ⟨by omega, by omega⟩)) | refine TL_q (op_len_str rfl Try.underlying9) rfl ?_ | (refine' TL_q (op_index_str rfl rfl Try.underlying9 ?_ ?_) rfl ?_; rotate_left 1; (· omega); (· (assumption))) | (refine T_yes rfl ?_ ?_; (· (exact dT (by (omega))))) | (refine T_no rfl ?_ ?_; (· (exact dF (by (omega))))) | refine TQ_ret3 4 5 6 _ _ _ rfl rfl rfl rfl ?_))
        exact ⟨rfl, rfl⟩
    rw [if_neg c2] at h5
    by_cases c3 : 64 ≤ b.toNat
    · rw [if_pos c3] at h5
      cases h5
      repeat' ((first | with_reducible refine T_seq ?_ | with_reducible refine T_block ?_ | with_reducible refine T_region ?_ | with_reducible refine TL_nil ?_ | with_reducible refine TQ_then ?_ | with_reducible refine T_skip ?_ | with_reducible refine T_ret ?_ | with_reducible refine TQ_then_ret ?_ | with_reducible refine TQ_block_ret ?_ | refine TL_q (op_move rfl) rfl ?_ | refine TL_q (op_assign rfl) rfl ?_ | (refine' TL_q (op_bin rfl rfl ?_) rfl ?_; rotate_left 1; (· (first | exact bin_eql | exact bin_geq))) | (refine' TL_q (op_conv_int rfl Try.underlying5 Try.underlying3 ?_) rfl ?_; (· exact ⟨by omega, by omega⟩)) | refine TL_q (op_len_str rfl Try.underlying9) rfl ?_ | (refine' TL_q (op_index_str rfl rfl Try.underlying9 ?_ ?_) rfl ?_; rotate_left 1; (· omega); (· (assumption))) | (refine T_yes rfl ?_ ?_; (· (exact dT (by (omega))))) | (refine T_no rfl ?_ ?_; (· (exact dF (by (omega))))) | refine TQ_ret3 4 5 6 _ _ _ rfl rfl rfl rfl ?_))
      exact ⟨rfl, rfl⟩
    rw [if_neg c3] at h5
    by_cases c4 : msg.length < pos + 1 + b.toNat
    · rw [if_pos c4] at h5
      cases h5
      repeat' ((first | with_reducible refine T_seq ?_ | with_reducible refine T_block ?_ | with_reducible refine T_region ?_ | with_reducible refine TL_nil ?_ | with_reducible refine TQ_then ?_ | with_reducible refine T_skip ?_ | with_reducible refine T_ret ?_ | with_reducible refine TQ_then_ret ?_ | with_reducible refine TQ_block_ret ?_ | refine TL_q (op_move rfl) rfl ?_ | refine TL_q (op_assign rfl) rfl ?_ | (refine' TL_q (op_bin rfl rfl ?_) rfl ?_; rotate_left 1; (· (first | exact bin_add ⟨by omega, by omega⟩ | exact bin_eql | exact bin_gtr | exact bin_geq))) | (refine' TL_q (op_conv_int rfl Try.underlying5 Try.underlying3 ?_) rfl ?_; (· exact ⟨by omega, by omega⟩)) | refine TL_q (op_len_str rfl Try.underlying9) rfl ?_ | (refine' TL_q (op_index_str rfl rfl Try.underlying9 ?_ ?_) rfl ?_; rotate_left 1; (· omega); (· (assumption))) | (refine T_yes rfl ?_ ?_; (· (exact dT (by (omega))))) | (refine T_no rfl ?_ ?_; (· (exact dF (by (omega))))) | refine TQ_ret3 4 5 6 _ _ _ rfl rfl rfl rfl ?_))
      exact ⟨rfl, rfl⟩
    rw [if_neg c4] at h5
    have e2 : (msg.take (((pos : Nat) : Int) + 1 + (b.toNat : Nat)).toNat).drop ((pos : Nat) : Int).toNat = (msg.drop pos).take (1 + b.toNat) := by
      rw [show (((pos : Nat) : Int) + 1 + (b.toNat : Nat)).toNat = pos + (1 + b.toNat) by omega]
      exact cut_bytes (by omega)
    have hn : (n ++ (msg.drop pos).take (1 + b.toNat)).length = n.length + (1 + b.toNat) := by rw [List.length_append, List.length_take, List.length_drop]; omega
    have hn2 : ((msg.take (((pos : Nat) : Int) + 1 + (b.toNat : Nat)).toNat).drop ((pos : Nat) : Int).toNat).length = 1 + b.toNat := by rw [e2, List.length_take, List.length_drop]; omega
    have hn3 : (n ++ (msg.take (((pos : Nat) : Int) + 1 + (b.toNat : Nat)).toNat).drop ((pos : Nat) : Int).toNat).length = n.length + (1 + b.toNat) := by rw [e2, hn]
    by_cases c5 : 255 < (n ++ (msg.drop pos).take (1 + b.toNat)).length + 1
    · rw [if_pos c5] at h5
      cases h5
      repeat' ((first | with_reducible refine T_seq ?_ | with_reducible refine T_block ?_ | with_reducible refine T_region ?_ | with_reducible refine TL_nil ?_ | with_reducible refine TQ_then ?_ | with_reducible refine T_skip ?_ | with_reducible refine T_ret ?_ | with_reducible refine TQ_then_ret ?_ | with_reducible refine TQ_block_ret ?_ | refine TL_q (op_move rfl) rfl ?_ | refine TL_q (op_assign rfl) rfl ?_ | (refine' TL_q (op_bin rfl rfl ?_) rfl ?_; rotate_left 1; (· (first | exact bin_add ⟨by omega, by omega⟩ | exact bin_eql | exact bin_gtr | exact bin_geq | exact sbin_add (by (omega))))) | (refine' TL_q (op_conv_int rfl Try.underlying5 Try.underlying3 ?_) rfl ?_; (· exact ⟨by omega, by omega⟩)) | refine TL_q (op_len_str rfl Try.underlying9) rfl ?_ | (refine' TL_q (op_index_str rfl rfl Try.underlying9 ?_ ?_) rfl ?_; rotate_left 1; (· omega); (· (assumption))) | (refine' TL_q (op_slice_str rfl rfl rfl Try.underlying9 ?_ ?_ ?_) rfl ?_; (· omega); (· omega); (· omega)) | (refine T_yes rfl ?_ ?_; (· (exact dT (by (omega))))) | (refine T_no rfl ?_ ?_; (· (exact dF (by (omega))))) | refine TQ_ret3 4 5 6 _ _ _ rfl rfl rfl rfl ?_))
      exact ⟨rfl, rfl⟩
    · rw [if_neg c5] at h5
      repeat' ((first | with_reducible refine T_seq ?_ | with_reducible refine T_block ?_ | with_reducible refine T_region ?_ | with_reducible refine TL_nil ?_ | with_reducible refine TQ_then ?_ | with_reducible refine TQ_block ?_ | with_reducible refine T_skip ?_ | refine TL_q (op_move rfl) rfl ?_ | refine TL_q (op_assign rfl) rfl ?_ | (refine' TL_q (op_bin rfl rfl ?_) rfl ?_; rotate_left 1; (· (first | exact bin_add ⟨by omega, by omega⟩ | exact bin_eql | exact bin_gtr | exact bin_geq | exact sbin_add (by (omega))))) | (refine' TL_q (op_conv_int rfl Try.underlying5 Try.underlying3 ?_) rfl ?_; (· exact ⟨by omega, by omega⟩)) | refine TL_q (op_len_str rfl Try.underlying9) rfl ?_ | (refine' TL_q (op_index_str rfl rfl Try.underlying9 ?_ ?_) rfl ?_; rotate_left 1; (· omega); (· (assumption))) | (refine' TL_q (op_slice_str rfl rfl rfl Try.underlying9 ?_ ?_ ?_) rfl ?_; (· omega); (· omega); (· omega)) | (refine T_no rfl ?_ ?_; (· (exact dF (by (omega)))))))
      refine TQ_roundS (f, pos + 1 + b.toNat, ahead, next, n ++ (msg.drop pos).take (1 + b.toNat)) ⟨by dsimp only; omega, by dsimp only; omega, ⟨by dsimp only; omega, by dsimp only; omega⟩, by dsimp only; omega, h5⟩ ?_ (fun w h => h) (by dsimp only; omega)
      dsimp only
      rw [← e2]
      (repeat ((first | exact trivial | refine ⟨rfl, ?_⟩)))
  · rw [List.getElem?_eq_none (by omega)] at h5
    cases h5
    repeat' ((first | with_reducible refine T_seq ?_ | with_reducible refine T_block ?_ | with_reducible refine T_region ?_ | with_reducible refine TL_nil ?_ | with_reducible refine TQ_then ?_ | with_reducible refine T_ret ?_ | with_reducible refine TQ_then_ret ?_ | with_reducible refine TQ_block_ret ?_ | refine TL_q (op_move rfl) rfl ?_ | refine TL_q (op_assign rfl) rfl ?_ | (refine' TL_q (op_bin rfl rfl ?_) rfl ?_; rotate_left 1; (· (exact bin_geq))) | refine TL_q (op_len_str rfl Try.underlying9) rfl ?_ | (refine T_yes rfl ?_ ?_; (· (exact dT (by (omega))))) | refine TQ_ret3 4 5 6 _ _ _ rfl rfl rfl rfl ?_))
    exact ⟨rfl, rfl⟩
end Go.Proofs.Ytdflhdfapnhjjaa
namespace Go.Proofs.Ytdflhdfapnhjjaa
open Go.RowKit
open Vd (RSet Vdt Vote Rec Quest Piece)
set_option linter.unusedVariables false
set_option linter.unusedSimpArgs false
--auto
variable {G : World} {L : Blocks}
theorem Read_S' (msg : Vd.Bytes) (p : Nat) (n : Vd.Bytes) (next e : Int) (hs : msg.length ≤ 1000000) (h : Vd.readName msg p = (n, next, e)) : Spec Try.prog G 145 #[.string (bs msg), .int .i64 (p : Nat)] L fun u M => u = .tuple #[.string (bs n), .int .i64 next, .int .i64 e] ∧ M = L := by
  have := Read_S (G := G) (L := L) msg p hs
  rw [h] at this
  exact this
theorem op_pushP {P : Program} {ρ : Slots} {ty : TypeId} {s x : Operand} {t e te : TypeId} {bytes bl : Nat} {z : Value} {a : Option Addr} {c : Nat} {y : Piece} {l : List Piece} {B : Blocks} (E : ElemTy P t e 2 bytes z) (hs : ev ρ s = some (.slice a l.length c)) (hx : ev ρ x = some (.slice (some ⟨bl, 0, none⟩) 1 1))
    (hrow : ORow pieceR e 2 L a c l B) (hy : y.s.length ≤ 1000000) (h63 : l.length ≤ 1000000) (hb : bytes ≤ 1000) :
    OpT P G ρ ((bl, .cells #[.string (bs y.s), .bool y.nam] te (0, 0)) :: (B ++ L)) (.call ⟨.builtin .append, #[s, x], #[t, t]⟩) ty fun v' L' => ∃ a' c' B', v' = .slice a' (l ++ [y]).length c' ∧ ORow pieceR e 2 L a' c' (l ++ [y]) B' ∧ L' = B' ++ L :=
  op_push (cs := [.string (bs y.s), .bool y.nam]) E hs hx hrow rfl piece_one ⟨rfl, by unfold maxLen; omega⟩ (by unfold maxLen; omega) (Nat.le_trans (Nat.mul_le_mul (show l.length + 1 ≤ 1000001 by omega) hb) (by decide))
/-- What a name's reading is good for. -/
theorem rdName_le (msg : Vd.Bytes) : ∀ (f pos ahead : Nat) (next : Int) (n : Vd.Bytes) (R : Vd.Bytes × Int × Int), pos ≤ msg.length → ahead ≤ msg.length → next ≤ msg.length → (next < 0 ∨ 1 ≤ next) → n.length ≤ 254 → Vd.rdName msg f pos ahead next n = some R → R.1.length ≤ 255 ∧ 0 ≤ R.2.1 ∧ R.2.1 ≤ msg.length ∧ (0 ≤ R.2.2 ∧ R.2.2 ≤ 10) := by
  intro f
  induction f with
  | zero => intro pos ahead next n R _ _ _ _ _ h; simp [Vd.rdName] at h
  | succ f ih =>
    intro pos ahead next n R h1 h2 h3 h3' h4 h
    simp only [Vd.rdName] at h
    cases hm : msg[pos]? with
    | none => rw [hm] at h; cases h; simp
    | some b =>
      have hlt := (List.getElem?_eq_some_iff.1 hm).1
      rw [hm] at h
      dsimp only at h
      split at h
      · cases h
        refine ⟨by simp; omega, ?_, ?_, by simp⟩ <;> dsimp only <;> split <;> omega
      split at h
      · cases hm2 : msg[pos + 1]? with
        | none => rw [hm2] at h; cases h; simp
        | some c =>
          have hlt2 := (List.getElem?_eq_some_iff.1 hm2).1
          rw [hm2] at h
          dsimp only at h
          split at h
          · cases h; simp
          · refine ih _ _ _ _ _ (by omega) (by omega) ?_ ?_ h4 h <;> split <;> omega
      split at h
      · cases h; simp
      split at h
      · cases h; simp
      split at h
      · cases h; simp
      · exact ih _ _ _ _ _ (by omega) h2 h3 h3' (by omega) h
theorem readName_le (msg : Vd.Bytes) (pos : Nat) (h : pos ≤ msg.length) : (Vd.readName msg pos).1.length ≤ 255 ∧ 0 ≤ (Vd.readName msg pos).2.1 ∧ (Vd.readName msg pos).2.1 ≤ msg.length ∧ (0 ≤ (Vd.readName msg pos).2.2 ∧ (Vd.readName msg pos).2.2 ≤ 10) := by
  obtain ⟨R, hR⟩ := Vd.rdName_some msg (Vd.rdFuel pos []) pos pos (-1) [] (Nat.le_refl _)
  have e : Vd.readName msg pos = R := by
    unfold Vd.readName
    rw [if_neg (by omega)]
    simp only [Int.toNat_natCast]
    rw [hR]
    rfl
  rw [e]
  exact rdName_le msg _ _ _ _ _ R h h (by omega) (by omega) (by simp) hR
/-- The loop over names, from a state. -/
theorem pieceR_mk {s : Vd.Bytes} {b : Bool} {L : Blocks} (h : s.length ≤ 1000000) : pieceR L [.string (bs s), .bool b] ⟨s, b⟩ := ⟨rfl, by show s.length ≤ maxLen; unfold maxLen; omega⟩
set_option maxRecDepth 100000 in
set_option maxHeartbeats 1000000 in
theorem pieces_S (msg : Vd.Bytes) (p : Nat) (k : Int) (hs : msg.length ≤ 1000000) (hp : p ≤ msg.length) : Spec Try.prog G 138 #[.string (bs msg), .int .i64 (p : Nat), .int .u16 k] L (PcOut L (Vd.pieces msg p k)) := by
  refine Spec_of (n := 98) Try.func138 rfl rfl rfl ?_
  by_cases c1 : k = 41
  · have hR : Vd.pieces msg p k = ([], 3) := by unfold Vd.pieces; rw [if_pos c1]
    rw [hR]
    repeat' ((first | with_reducible refine T_seq ?_ | with_reducible refine T_region ?_ | with_reducible refine TL_nil ?_ | with_reducible refine TQ_then ?_ | with_reducible refine T_ret ?_ | with_reducible refine TQ_then_ret ?_ | refine TL_q (op_move rfl) rfl ?_ | refine TL_q (op_assign rfl) rfl ?_ | (refine' TL_q (op_bin rfl rfl ?_) rfl ?_; rotate_left 1; (· (exact bin_eql))) | (refine T_yes rfl ?_ ?_; (· (exact dT (by (assumption))))) | refine TQ_ret2 6 7 _ _ rfl rfl rfl ?_))
    exact ⟨none, 0, [], rfl, ORow.nil _, rfl⟩
  by_cases c2 : k = 16
  · have hR : Vd.pieces msg p k = (if msg.drop p = [] then ([], 4) else if Vd.txtOk ((msg.drop p).length + 1) (msg.drop p) then ([⟨msg.drop p, false⟩], 0) else ([], 4)) := by
      unfold Vd.pieces
      rw [if_neg c1, if_pos c2, txt_fuel (msg.length + 1) ((msg.drop p).length + 1) _ (by simp; omega) (by omega)]
    rw [hR]
    repeat ((first | with_reducible refine T_seq ?_ | with_reducible refine T_region ?_ | with_reducible refine TL_nil ?_ | with_reducible refine TQ_then ?_ | with_reducible refine T_skip ?_ | refine TL_q (op_move rfl) rfl ?_ | refine TL_q (op_assign rfl) rfl ?_ | (refine' TL_q (op_bin rfl rfl ?_) rfl ?_; rotate_left 1; (· (exact bin_eql))) | (refine' TL_q (op_slice_from rfl rfl Try.underlying9 ?_ ?_) rfl ?_; (· omega); (· omega)) | (refine T_yes rfl ?_ ?_; (· (exact dT (by (assumption))))) | (refine T_no rfl ?_ ?_; (· (exact dF (by (assumption)))))))
    refine TL_opT (op_call hb_143 rfl (texts_S (msg.drop p) (by simp; omega))) rfl ?_
    rintro _ _ ⟨a, c, B, rfl, hB, rfl⟩
    repeat' ((first | with_reducible refine TL_nil ?_ | with_reducible refine TQ_then ?_ | with_reducible refine T_ret ?_ | with_reducible refine TQ_then_ret ?_ | refine TL_q (op_assign rfl) rfl ?_ | refine TL_q (op_extract rfl rfl) rfl ?_ | refine TQ_ret2 6 7 _ _ rfl rfl rfl ?_))
    exact ⟨a, c, B, rfl, hB, rfl⟩
  repeat ((first | with_reducible refine T_seq ?_ | with_reducible refine T_region ?_ | with_reducible refine TL_nil ?_ | with_reducible refine TQ_then ?_ | with_reducible refine T_skip ?_ | refine TL_q (op_move rfl) rfl ?_ | refine TL_q (op_assign rfl) rfl ?_ | (refine' TL_q (op_bin rfl rfl ?_) rfl ?_; rotate_left 1; (· (exact bin_eql))) | (refine T_no rfl ?_ ?_; (· (exact dF (by (assumption)))))))
  refine TL_op (op_call hb_144 rfl (layout_S k)) rfl ?_
  cases hl : Vd.layout k with
  | none =>
    have hR : Vd.pieces msg p k = ([⟨msg.drop p, false⟩], 0) := by unfold Vd.pieces; rw [if_neg c1, if_neg c2, hl]
    have e : layV k = .tuple #[.int .i64 0, .int .i64 0, .int .i64 0, .bool false] := by unfold layV; rw [hl]
    rw [hR, e]
    repeat' ((first | with_reducible refine T_seq ?_ | with_reducible refine T_region ?_ | with_reducible refine TL_nil ?_ | with_reducible refine TQ_then ?_ | with_reducible refine T_ret ?_ | with_reducible refine TQ_then_ret ?_ | refine TL_q (op_move rfl) rfl ?_ | refine TL_q (op_assign rfl) rfl ?_ | refine TL_q (op_not rfl) rfl ?_ | refine TL_q (op_extract rfl rfl) rfl ?_ | (refine' TL_q (op_slice_from rfl rfl Try.underlying9 ?_ ?_) rfl ?_; (· omega); (· omega)) | refine TL_q (op_build rfl (bl_188_0 _)) rfl ?_ | (refine TL_new (op_litN ety_184 rfl rfl (by decide)) rfl ?_; intro bLit) | (refine T_yes rfl ?_ ?_; (· (exact Bool.not_false))) | refine TQ_ret2 6 7 _ _ rfl rfl rfl ?_))
    exact ⟨_, _, _, rfl, ORow.lit1 rfl (pieceR_mk (by rw [List.length_drop]; omega)) piece_one, rfl⟩
  | some t =>
  obtain ⟨a, m, b⟩ := t
  have hab : a ≤ 16 ∧ m ≤ 2 ∧ b ≤ 20 := by
    unfold Vd.layout at hl
    repeat (split at hl; · cases hl; omega)
    cases hl
  have e : layV k = .tuple #[.int .i64 (a : Nat), .int .i64 (m : Nat), .int .i64 (b : Nat), .bool true] := by unfold layV; rw [hl]
  have hR : Vd.pieces msg p k = (if msg.length - p < a then ([], 4) else match Vd.names msg m (p + a) [⟨(msg.drop p).take a, false⟩] with
        | (p, out, e) => if e ≠ 0 then ([], e) else if msg.length < p + b then ([], 4) else if p + b < msg.length then ([], 3) else (out ++ [⟨msg.drop p, false⟩], 0)) := by
    unfold Vd.pieces
    rw [if_neg c1, if_neg c2, hl]
  rw [hR, e]
  clear hR e
  by_cases c3 : msg.length - p < a
  · rw [if_pos c3]
    repeat' ((first | with_reducible refine T_seq ?_ | with_reducible refine T_region ?_ | with_reducible refine TL_nil ?_ | with_reducible refine TQ_then ?_ | with_reducible refine T_skip ?_ | with_reducible refine T_ret ?_ | with_reducible refine TQ_then_ret ?_ | refine TL_q (op_move rfl) rfl ?_ | refine TL_q (op_assign rfl) rfl ?_ | (refine' TL_q (op_bin rfl rfl ?_) rfl ?_; rotate_left 1; (· (first | exact bin_sub ⟨by omega, by omega⟩ | exact bin_lss))) | refine TL_q (op_not rfl) rfl ?_ | refine TL_q (op_extract rfl rfl) rfl ?_ | refine TL_q (op_len_str rfl Try.underlying9) rfl ?_ | (refine T_yes rfl ?_ ?_; (· (exact dT (by (first | assumption | omega))))) | (refine T_no rfl ?_ ?_; (· (exact Bool.not_true))) | refine TQ_ret2 6 7 _ _ rfl rfl rfl ?_))
    exact ⟨none, 0, [], rfl, ORow.nil _, rfl⟩
  rw [if_neg c3]
  have ecut : (msg.take (((p : Nat) : Int) + (a : Nat)).toNat).drop ((p : Nat) : Int).toNat = (msg.drop p).take a := by
    rw [show (((p : Nat) : Int) + (a : Nat)).toNat = p + a by omega]
    exact cut_bytes (by omega)
  have hcl : ((msg.drop p).take a).length ≤ 1000000 := by rw [List.length_take, List.length_drop]; omega
  repeat ((first | with_reducible refine T_seq ?_ | with_reducible refine T_block ?_ | with_reducible refine T_region ?_ | with_reducible refine TL_nil ?_ | with_reducible refine TQ_then ?_ | with_reducible refine T_skip ?_ | refine TL_q (op_move rfl) rfl ?_ | refine TL_q (op_assign rfl) rfl ?_ | (refine' TL_q (op_bin rfl rfl ?_) rfl ?_; rotate_left 1; (· (first | exact bin_add ⟨by omega, by omega⟩ | exact bin_sub ⟨by omega, by omega⟩ | exact bin_lss))) | refine TL_q (op_not rfl) rfl ?_ | refine TL_q (op_extract rfl rfl) rfl ?_ | refine TL_q (op_len_str rfl Try.underlying9) rfl ?_ | (refine' TL_q (op_slice_str rfl rfl rfl Try.underlying9 ?_ ?_ ?_) rfl ?_; (· omega); (· omega); (· omega)) | refine TL_q (op_build rfl (bl_188_0 _)) rfl ?_ | (refine TL_new (op_litN ety_184 rfl rfl (by decide)) rfl ?_; intro bLit) | (refine T_no rfl ?_ ?_; (· (first | exact Bool.not_true | exact dF (by (omega)))))))
  refine T_loopS (σ := Nat × Nat × List Piece × Option Addr × Nat × Blocks) (fun x => x.1 ≤ m ∧ x.2.1 ≤ msg.length ∧ x.2.2.1.length = x.1 + 1 ∧ Vd.names msg (m - x.1) x.2.1 x.2.2.1 = Vd.names msg m (p + a) [⟨(msg.drop p).take a, false⟩] ∧ ORow pieceR 188 2 L x.2.2.2.1 x.2.2.2.2.1 x.2.2.1 x.2.2.2.2.2)
    (fun x => [(0, .string (bs msg)), (1, .int .i64 (x.2.1 : Nat)), (9, .int .i64 (m : Nat)), (10, .int .i64 (b : Nat)), (12, .slice x.2.2.2.1 x.2.2.1.length x.2.2.2.2.1), (13, .int .i64 (x.1 : Nat))]) (fun x => x.2.2.2.2.2 ++ L) (fun x => m - x.1)
    (0, p + a, [⟨(msg.drop p).take a, false⟩], some ⟨bLit, 0, none⟩, 1, [(bLit, .cells #[.string (bs ((msg.drop p).take a)), .bool false] 188 (0, 0))]) ⟨Nat.zero_le _, by dsimp only; omega, rfl, rfl, ORow.lit1 rfl (pieceR_mk hcl) piece_one⟩ ?_ (fun w h => by rw [ecut] at h; exact h) ?_
  (repeat ((first | exact trivial | refine ⟨rfl, ?_⟩)))
  rintro ⟨i, pos, out, ao, co, B⟩ ⟨h1, h2, h3, h4, h5⟩
  dsimp only at h1 h2 h3 h4 h5 ⊢
  by_cases hlt : i < m
  · obtain ⟨⟨n, next, e⟩, hrd⟩ : ∃ R, Vd.readName msg pos = R := ⟨_, rfl⟩
    obtain ⟨r1, r2, r3, r4, r5⟩ := readName_le msg pos h2
    rw [hrd] at r1 r2 r3 r4 r5
    dsimp only at r1 r2 r3 r4 r5
    rw [show m - i = (m - (i + 1)) + 1 by omega] at h4
    simp only [Vd.names, hrd] at h4
    repeat ((first | with_reducible refine T_seq ?_ | with_reducible refine T_block ?_ | with_reducible refine T_region ?_ | with_reducible refine TL_nil ?_ | with_reducible refine TQ_then ?_ | with_reducible refine T_skip ?_ | refine TL_q (op_move rfl) rfl ?_ | (refine' TL_q (op_bin rfl rfl ?_) rfl ?_; rotate_left 1; (· (exact bin_lss))) | (refine T_yes rfl ?_ ?_; (· (exact dT (by (omega)))))))
    refine TL_op (op_call hb_145 rfl (Read_S' msg pos n next e hs hrd)) rfl ?_
    by_cases he : e = 0
    · rw [if_neg (by simpa using he)] at h4
      repeat ((first | with_reducible refine T_seq ?_ | with_reducible refine T_region ?_ | with_reducible refine TL_nil ?_ | with_reducible refine TQ_then ?_ | with_reducible refine T_skip ?_ | refine TL_q (op_move rfl) rfl ?_ | refine TL_q (op_assign rfl) rfl ?_ | (refine' TL_q (op_bin rfl rfl ?_) rfl ?_; rotate_left 1; (· (exact bin_neq))) | refine TL_q (op_extract rfl rfl) rfl ?_ | refine TL_q (op_build rfl (bl_188_0_1 _ _)) rfl ?_ | (refine TL_new (op_litN ety_184 rfl rfl (by decide)) rfl ?_; intro bLit) | (refine T_no rfl ?_ ?_; (· (exact nF (by (assumption)))))))
      refine TL_opT (op_pushP (y := ⟨n, true⟩) ety_184 rfl rfl h5 (by dsimp only; omega) (by omega) (by decide)) rfl ?_
      rintro _ _ ⟨a', c', B', rfl, hB', rfl⟩
      repeat ((first | with_reducible refine T_region ?_ | with_reducible refine TL_nil ?_ | with_reducible refine TQ_then ?_ | with_reducible refine TQ_block ?_ | refine TL_q (op_move rfl) rfl ?_ | refine TL_q (op_assign rfl) rfl ?_ | (refine' TL_q (op_bin rfl rfl ?_) rfl ?_; rotate_left 1; (· (exact bin_add ⟨by omega, by omega⟩)))))
      refine TQ_roundS (i + 1, next.toNat, out ++ [⟨n, true⟩], a', c', B') ⟨hlt, by dsimp only; omega, by simp [h3], h4, hB'⟩ ?_ (fun w h => h) (by dsimp only; omega)
      dsimp only
      rw [show ((next.toNat : Nat) : Int) = next by omega]
      (repeat ((first | exact trivial | refine ⟨rfl, ?_⟩)))
    · rw [if_pos (by simpa using he)] at h4
      rw [← h4]
      dsimp only
      rw [if_pos (by simpa using he)]
      repeat ((first | with_reducible refine T_seq ?_ | with_reducible refine T_region ?_ | with_reducible refine TL_nil ?_ | with_reducible refine TQ_then ?_ | with_reducible refine T_ret ?_ | with_reducible refine TQ_then_ret ?_ | with_reducible refine TQ_block_ret ?_ | refine TL_q (op_move rfl) rfl ?_ | refine TL_q (op_assign rfl) rfl ?_ | (refine' TL_q (op_bin rfl rfl ?_) rfl ?_; rotate_left 1; (· (exact bin_neq))) | refine TL_q (op_extract rfl rfl) rfl ?_ | (refine T_yes rfl ?_ ?_; (· (exact nT (by (assumption)))))))
      refine TQ_heap (fun w h => h.sub (List.sublist_append_right _ _)) ?_
      refine TQ_ret2 6 7 _ _ rfl rfl rfl ?_
      exact ⟨none, 0, [], rfl, ORow.nil _, rfl⟩
  · have hi : i = m := by omega
    subst hi
    rw [Nat.sub_self] at h4
    simp only [Vd.names] at h4
    rw [← h4]
    dsimp only
    rw [if_neg (by simp)]
    by_cases c4 : msg.length < pos + b
    · rw [if_pos c4]
      repeat ((first | with_reducible refine T_seq ?_ | with_reducible refine T_region ?_ | with_reducible refine TL_nil ?_ | with_reducible refine TQ_then ?_ | with_reducible refine T_exit ?_ | with_reducible refine T_ret ?_ | with_reducible refine TQ_then_exit ?_ | with_reducible refine TQ_then_ret ?_ | with_reducible refine TQ_block_exit ?_ | refine TL_q (op_move rfl) rfl ?_ | refine TL_q (op_assign rfl) rfl ?_ | (refine' TL_q (op_bin rfl rfl ?_) rfl ?_; rotate_left 1; (· (first | exact bin_sub ⟨by omega, by omega⟩ | exact bin_lss))) | refine TL_q (op_len_str rfl Try.underlying9) rfl ?_ | (refine T_yes rfl ?_ ?_; (· (exact dT (by (omega))))) | (refine T_no rfl ?_ ?_; (· (exact dF (by (omega)))))))
      refine TQ_heap (fun w h => h.sub (List.sublist_append_right _ _)) ?_
      refine TQ_ret2 6 7 _ _ rfl rfl rfl ?_
      exact ⟨none, 0, [], rfl, ORow.nil _, rfl⟩
    rw [if_neg c4]
    by_cases c5 : pos + b < msg.length
    · rw [if_pos c5]
      repeat ((first | with_reducible refine T_seq ?_ | with_reducible refine T_region ?_ | with_reducible refine TL_nil ?_ | with_reducible refine TQ_then ?_ | with_reducible refine T_skip ?_ | with_reducible refine T_exit ?_ | with_reducible refine T_ret ?_ | with_reducible refine TQ_then_exit ?_ | with_reducible refine TQ_then_ret ?_ | with_reducible refine TQ_block_exit ?_ | refine TL_q (op_move rfl) rfl ?_ | refine TL_q (op_assign rfl) rfl ?_ | (refine' TL_q (op_bin rfl rfl ?_) rfl ?_; rotate_left 1; (· (first | exact bin_sub ⟨by omega, by omega⟩ | exact bin_lss | exact bin_gtr))) | refine TL_q (op_len_str rfl Try.underlying9) rfl ?_ | (refine T_yes rfl ?_ ?_; (· (exact dT (by (omega))))) | (refine T_no rfl ?_ ?_; (· (exact dF (by (omega)))))))
      refine TQ_heap (fun w h => h.sub (List.sublist_append_right _ _)) ?_
      refine TQ_ret2 6 7 _ _ rfl rfl rfl ?_
      exact ⟨none, 0, [], rfl, ORow.nil _, rfl⟩
    rw [if_neg c5]
    repeat ((first | with_reducible refine T_seq ?_ | with_reducible refine T_region ?_ | with_reducible refine TL_nil ?_ | with_reducible refine TQ_then ?_ | with_reducible refine T_skip ?_ | with_reducible refine T_exit ?_ | with_reducible refine TQ_then_exit ?_ | with_reducible refine TQ_block_exit ?_ | refine TL_q (op_move rfl) rfl ?_ | (refine' TL_q (op_bin rfl rfl ?_) rfl ?_; rotate_left 1; (· (first | exact bin_sub ⟨by omega, by omega⟩ | exact bin_lss | exact bin_gtr))) | refine TL_q (op_len_str rfl Try.underlying9) rfl ?_ | (refine' TL_q (op_slice_from rfl rfl Try.underlying9 ?_ ?_) rfl ?_; (· omega); (· omega)) | refine TL_q (op_build rfl (bl_188_0 _)) rfl ?_ | (refine TL_new (op_litN ety_184 rfl rfl (by decide)) rfl ?_; intro bLit) | (refine T_no rfl ?_ ?_; (· (exact dF (by (omega)))))))
    refine TL_opT (op_pushP (y := ⟨msg.drop pos, false⟩) ety_184 rfl rfl h5 (by dsimp only; rw [List.length_drop]; omega) (by omega) (by decide)) rfl ?_
    rintro _ _ ⟨a', c', B', rfl, hB', rfl⟩
    repeat' ((first | with_reducible refine TL_nil ?_ | with_reducible refine TQ_then ?_ | with_reducible refine T_ret ?_ | refine TL_q (op_assign rfl) rfl ?_ | refine TQ_ret2 6 7 _ _ rfl rfl rfl ?_))
    exact ⟨_, _, _, rfl, hB', rfl⟩
theorem names_le (msg : Vd.Bytes) : ∀ (m pos : Nat) (out : List Piece), pos ≤ msg.length → (Vd.joined (Vd.names msg m pos out).2.1).length ≤ (Vd.joined out).length + 255 * m
  | 0, pos, out, _ => by simp [Vd.names]
  | m + 1, pos, out, h => by
    obtain ⟨⟨n, next, e⟩, hrd⟩ : ∃ R, Vd.readName msg pos = R := ⟨_, rfl⟩
    obtain ⟨r1, r2, r3, _⟩ := readName_le msg pos h
    rw [hrd] at r1 r2 r3
    dsimp only at r1 r2 r3
    simp only [Vd.names, hrd]
    by_cases he : e = 0
    · rw [if_neg (by simpa using he)]
      have := names_le msg m next.toNat (out ++ [⟨n, true⟩]) (by omega)
      have e : (Vd.joined (out ++ [⟨n, true⟩])).length = (Vd.joined out).length + n.length := by simp [Vd.joined]
      rw [Nat.mul_succ]
      omega
    · rw [if_pos (by simpa using he)]
      dsimp only
      omega
theorem layout_le {k : Int} {a m b : Nat} (hl : Vd.layout k = some (a, m, b)) : a ≤ 16 ∧ m ≤ 2 ∧ b ≤ 20 := by
  unfold Vd.layout at hl
  repeat (split at hl; · cases hl; omega)
  cases hl
theorem pieces_le (msg : Vd.Bytes) (p : Nat) (k : Int) (h : p ≤ msg.length) : (Vd.joined (Vd.pieces msg p k).1).length ≤ 2 * msg.length + 510 := by
  have hd : ∀ q, (Vd.joined [⟨msg.drop q, false⟩]).length ≤ msg.length := fun q => by simp [Vd.joined]
  have h0 : (Vd.joined []).length = 0 := rfl
  unfold Vd.pieces
  split
  · ((dsimp only; omega))
  split
  · split
    · ((dsimp only; omega))
    · split
      · have := hd p; dsimp only; omega
      · ((dsimp only; omega))
  split
  · have := hd p; dsimp only; omega
  · rename_i a m b hl
    have hab := layout_le hl
    split
    · dsimp only; omega
    · have hn := names_le msg m (p + a) [⟨(msg.drop p).take a, false⟩] (by omega)
      have h1 : (Vd.joined [⟨(msg.drop p).take a, false⟩]).length ≤ msg.length := by simp [Vd.joined]; omega
      revert hn
      generalize Vd.names msg m (p + a) [⟨(msg.drop p).take a, false⟩] = r
      obtain ⟨q, out, e⟩ := r
      intro hn
      dsimp only at hn ⊢
      split
      · ((dsimp only; omega))
      split
      · ((dsimp only; omega))
      split
      · ((dsimp only; omega))
      · have := hd q
        have e : (Vd.joined (out ++ [⟨msg.drop q, false⟩])).length = (Vd.joined out).length + (Vd.joined [⟨msg.drop q, false⟩]).length := by simp [Vd.joined]
        dsimp only
        omega
theorem whole_S (k : Int) (d : Vd.Bytes) (hs : d.length ≤ 1000000) : Spec Try.prog G 125 #[.int .u16 k, .string (bs d)] L fun u M => ∃ a c B, u = .tuple #[.slice a (Vd.whole k d).1.length c, .bool (Vd.whole k d).2] ∧ ORow pieceR 188 2 L a c (Vd.whole k d).1 B ∧ M = B ++ L := by
  refine Spec_of (n := 23) Try.func125 rfl rfl rfl ?_
  repeat ((first | with_reducible refine T_seq ?_ | with_reducible refine T_region ?_ | with_reducible refine TL_nil ?_ | with_reducible refine TQ_then ?_ | refine TL_q (op_move rfl) rfl ?_ | refine TL_q (op_assign rfl) rfl ?_))
  refine TL_opT (op_call hb_138 rfl (pieces_S d 0 k hs (Nat.zero_le _))) rfl ?_
  rintro _ _ ⟨a, c, B, rfl, hB, rfl⟩
  obtain ⟨⟨l, e⟩, hle⟩ : ∃ x, Vd.pieces d 0 k = x := ⟨_, rfl⟩
  have hw : Vd.whole k d = if e ≠ 0 ∨ Vd.joined l ≠ d then ([], false) else (l, true) := by unfold Vd.whole; rw [hle]
  rw [hle] at hB ⊢
  dsimp only at hB ⊢
  rw [hw]
  by_cases he : e = 0
  · repeat ((first | with_reducible refine T_seq ?_ | with_reducible refine T_region ?_ | with_reducible refine TL_nil ?_ | with_reducible refine TQ_then ?_ | refine TL_q (op_move rfl) rfl ?_ | refine TL_q (op_assign rfl) rfl ?_ | (refine' TL_q (op_bin rfl rfl ?_) rfl ?_; rotate_left 1; (· (exact bin_neq))) | refine TL_q (op_extract rfl rfl) rfl ?_ | (refine TL_gpre rfl rfl ?_ ?_; (· (exact nF (by (assumption))))) | refine TL_gq2 (op_move rfl) rfl ?_))
    refine TG_op (op_call hb_139 rfl (joined_S _ l (hB.sliceR mono_piece (fun q hq => List.mem_append_right _ hq) (fun q hq => List.mem_append_left _ hq)) (by have := pieces_le d 0 k (Nat.zero_le _); rw [hle] at this; dsimp only at this; omega))) rfl ?_
    by_cases hj : Vd.joined l = d
    · rw [if_neg (by simp [he, hj])]
      repeat' ((first | with_reducible refine T_seq ?_ | with_reducible refine T_region ?_ | with_reducible refine TL_nil ?_ | with_reducible refine TQ_then ?_ | with_reducible refine T_skip ?_ | with_reducible refine T_ret ?_ | refine TL_q (op_move rfl) rfl ?_ | refine TL_q (op_assign rfl) rfl ?_ | (refine' TL_q (op_pickF rfl ?_ rfl) rfl ?_; (· (exact nF (by (assumption))))) | (refine TL_gpre rfl rfl ?_ ?_; (· (exact nF (by (assumption))))) | refine TL_gq2 (op_move rfl) rfl ?_ | (refine' TL_gq2 (op_bin rfl rfl ?_) rfl ?_; rotate_left 1; (· (exact sbin_neq))) | (refine T_no rfl ?_ ?_; (· (exact nF (by (assumption))))) | refine TQ_ret2 4 5 _ _ rfl rfl rfl ?_))
      exact ⟨_, _, _, rfl, hB, rfl⟩
    · rw [if_pos (Or.inr hj)]
      repeat ((first | with_reducible refine T_seq ?_ | with_reducible refine T_region ?_ | with_reducible refine TL_nil ?_ | with_reducible refine TQ_then ?_ | with_reducible refine T_ret ?_ | with_reducible refine TQ_then_ret ?_ | refine TL_q (op_assign rfl) rfl ?_ | (refine' TL_q (op_pickF rfl ?_ rfl) rfl ?_; (· (exact nF (by (assumption))))) | (refine TL_gpre rfl rfl ?_ ?_; (· (exact nF (by (assumption))))) | refine TL_gq2 (op_move rfl) rfl ?_ | (refine' TL_gq2 (op_bin rfl rfl ?_) rfl ?_; rotate_left 1; (· (exact sbin_neq))) | (refine T_yes rfl ?_ ?_; (· (exact nT (by (assumption)))))))
      refine TQ_heap (fun w h => h.sub (List.sublist_append_right _ _)) ?_
      refine TQ_ret2 4 5 _ _ rfl rfl rfl ?_
      exact ⟨none, 0, [], rfl, ORow.nil _, rfl⟩
  · rw [if_pos (Or.inl he)]
    repeat ((first | with_reducible refine T_seq ?_ | with_reducible refine T_region ?_ | with_reducible refine TL_nil ?_ | with_reducible refine TQ_then ?_ | with_reducible refine T_ret ?_ | with_reducible refine TQ_then_ret ?_ | refine TL_q (op_move rfl) rfl ?_ | refine TL_q (op_assign rfl) rfl ?_ | (refine' TL_q (op_bin rfl rfl ?_) rfl ?_; rotate_left 1; (· (exact bin_neq))) | refine TL_q (op_extract rfl rfl) rfl ?_ | (refine' TL_q (op_pickT rfl ?_ rfl) rfl ?_; (· (exact nT (by (assumption))))) | (refine TL_gno rfl rfl ?_ rfl ?_; (· (exact nT (by (assumption))))) | (refine T_yes rfl ?_ ?_; (· (with_reducible rfl)))))
    refine TQ_heap (fun w h => h.sub (List.sublist_append_right _ _)) ?_
    refine TQ_ret2 4 5 _ _ rfl rfl rfl ?_
    exact ⟨none, 0, [], rfl, ORow.nil _, rfl⟩
theorem mayD_S (k : Int) (d : Vd.Bytes) (hs : d.length ≤ 1000000) : Spec Try.prog G 97 #[.int .u16 k, .string (bs d)] L fun u M => u = .bool (Vd.mayD k d) ∧ M = L := by
  refine Spec_of (n := 14) Try.func97 rfl rfl rfl ?_
  repeat ((first | with_reducible refine T_seq ?_ | with_reducible refine T_region ?_ | with_reducible refine TL_nil ?_ | with_reducible refine TQ_then ?_ | refine TL_q (op_move rfl) rfl ?_ | refine TL_q (op_assign rfl) rfl ?_))
  refine TL_opT (op_call hb_125 rfl (whole_S k d hs)) rfl ?_
  rintro _ _ ⟨a, c, B, rfl, hB, rfl⟩
  repeat ((first | with_reducible refine T_seq ?_ | with_reducible refine T_region ?_ | with_reducible refine TL_nil ?_ | with_reducible refine TQ_then ?_ | with_reducible refine T_ret ?_ | refine TL_q (op_move rfl) rfl ?_ | refine TL_q (op_assign rfl) rfl ?_ | refine TL_q (op_extract rfl rfl) rfl ?_))
  refine TQ_heap (fun w h => h.sub (List.sublist_append_right _ _)) ?_
  refine TQ_ret1 4 _ rfl rfl ?_
  exact ⟨rfl, rfl⟩
theorem foldL_take {l : List Piece} {k : Nat} {x : Piece} (h : l[k]? = some x) : (l.take (k + 1)).flatMap Vd.foldP = (l.take k).flatMap Vd.foldP ++ Vd.foldP x := by
  rw [List.take_add_one, h]; simp
theorem fold_le (n : Vd.Bytes) : (Nm.fold n).length ≤ n.length := by
  unfold Nm.fold
  split
  · rw [Nm.low_length]; exact Nat.le_refl _
  · exact Nat.zero_le _
theorem foldL_le : ∀ (l : List Piece), (l.flatMap Vd.foldP).length ≤ (Vd.joined l).length
  | [] => Nat.le_refl _
  | x :: l => by
    have h1 := foldL_le l
    have h2 := fold_le x.s
    have h3 : (Vd.foldP x).length ≤ x.s.length := by unfold Vd.foldP; split <;> omega
    unfold Vd.joined at h1 ⊢
    simp only [List.flatMap_cons, List.length_append]
    omega
theorem foldL_mono (l : List Piece) (k : Nat) : ((l.take k).flatMap Vd.foldP).length ≤ (l.flatMap Vd.foldP).length := by
  conv => rhs; rw [← List.take_append_drop k l]
  rw [List.flatMap_append, List.length_append]
  omega
theorem whole_joined (k : Int) (d : Vd.Bytes) : (Vd.joined (Vd.whole k d).1).length ≤ d.length := by
  unfold Vd.whole
  split
  · simp [Vd.joined]
  · rename_i h
    simp only [not_or, Decidable.not_not] at h
    rw [h.2]
    exact Nat.le_refl _
theorem piece_le {l : List Piece} {x : Piece} (h : x ∈ l) : x.s.length ≤ (Vd.joined l).length := by
  induction l with
  | nil => simp at h
  | cons y l ih =>
    unfold Vd.joined at ih ⊢
    rw [List.flatMap_cons, List.length_append]
    rcases List.mem_cons.1 h with rfl | h
    · omega
    · have := ih h; omega
set_option maxRecDepth 100000 in
set_option maxHeartbeats 1000000 in
theorem foldD_S (k : Int) (d : Vd.Bytes) (hs : d.length ≤ 1000000) : Spec Try.prog G 98 #[.int .u16 k, .string (bs d)] L fun u M => u = .string (bs (Vd.foldD k d)) ∧ M = L := by
  refine Spec_of (n := 42) Try.func98 rfl rfl rfl ?_
  repeat ((first | with_reducible refine T_seq ?_ | with_reducible refine T_region ?_ | with_reducible refine TL_nil ?_ | with_reducible refine TQ_then ?_ | refine TL_q (op_move rfl) rfl ?_ | refine TL_q (op_assign rfl) rfl ?_))
  refine TL_opT (op_call hb_125 rfl (whole_S k d hs)) rfl ?_
  rintro _ _ ⟨a, c, B, rfl, hB, rfl⟩
  have hw := whole_joined k d
  unfold Vd.foldD
  obtain ⟨l, hl⟩ : ∃ l, (Vd.whole k d).1 = l := ⟨_, rfl⟩
  rw [hl] at hB hw ⊢
  have hf := foldL_le l
  have hs2 := hB.sliceR (L' := B ++ L) mono_piece (fun q hq => List.mem_append_right _ hq) (fun q hq => List.mem_append_left _ hq)
  obtain ⟨_, k1, k2, hs2⟩ := pieces_cut hs2
  unfold maxLen at k2
  repeat ((first | with_reducible refine T_seq ?_ | with_reducible refine T_block ?_ | with_reducible refine T_region ?_ | with_reducible refine TL_nil ?_ | with_reducible refine TQ_then ?_ | refine TL_q (op_move rfl) rfl ?_ | refine TL_q (op_assign rfl) rfl ?_ | refine TL_q (op_extract rfl rfl) rfl ?_))
  refine T_loopS (σ := Nat) (fun k => k ≤ l.length) (fun k => [(5, .slice a l.length c), (7, .string (bs ((l.take k).flatMap Vd.foldP))), (8, .int .i64 (k : Nat))]) (fun k => B ++ L) (fun k => l.length - k) 0 (Nat.zero_le _) ?_ (fun w h => h) ?_
  (repeat ((first | exact trivial | refine ⟨rfl, ?_⟩)))
  intro k hk
  by_cases hlt : k < l.length
  · obtain ⟨x, hx⟩ : ∃ x, l[k]? = some x := ⟨_, List.getElem?_eq_getElem hlt⟩
    rcases hs2 with rfl | ⟨b1, o1, C1, t1, f1, rfl, m1, q1⟩
    · simp at hlt
    obtain ⟨r1, r2⟩ := q1 k x hx
    have hj := foldL_take hx
    have hj2 := foldL_mono l (k + 1)
    have hj3 := congrArg List.length hj
    have hxl := piece_le (List.mem_of_getElem? hx)
    rw [List.length_append] at hj3
    cases hn : x.nam with
    | true =>
      have hp : Vd.foldP x = Nm.fold x.s := by unfold Vd.foldP; rw [if_pos hn]
      rw [hn] at r2
      rw [hp] at hj hj3
      repeat' ((first | with_reducible refine T_seq ?_ | with_reducible refine T_block ?_ | with_reducible refine T_region ?_ | with_reducible refine TL_nil ?_ | with_reducible refine TQ_then ?_ | with_reducible refine TQ_block ?_ | with_reducible refine T_skip ?_ | refine TL_q (op_move rfl) rfl ?_ | refine TL_q (op_assign rfl) rfl ?_ | (refine' TL_q (op_bin rfl rfl ?_) rfl ?_; rotate_left 1; (· (first | exact bin_add ⟨by omega, by omega⟩ | exact bin_lss | exact sbin_add (by (omega))))) | refine TL_q (op_len_slice rfl Try.underlying184) rfl ?_ | (refine' TL_q (op_idx ety_184 rfl rfl ?_) rfl ?_; (· omega)) | refine TL_q (op_fld rfl fld_188_0) rfl ?_ | refine TL_q (op_fld rfl fld_188_1) rfl ?_ | (refine' TL_q (op_ld rfl pl_4 ?_ ?_) rfl ?_; rotate_left 4; (· repeat ((assumption))); (· (assumption))) | (refine' TL_op (op_call hb_61 rfl (refFold_S _ ?_)) rfl ?_; (· (omega))) | (refine T_yes rfl ?_ ?_; (· (first | with_reducible rfl | exact dT (by (omega)))))))
      refine TQ_roundS (k + 1) hlt ?_ (fun w h => h) (by omega)
      rw [hj]
      (repeat (first | exact trivial | refine ⟨rfl, ?_⟩))
    | false =>
      have hp : Vd.foldP x = x.s := by unfold Vd.foldP; rw [if_neg (by simp [hn])]
      rw [hn] at r2
      rw [hp] at hj hj3
      repeat' ((first | with_reducible refine T_seq ?_ | with_reducible refine T_block ?_ | with_reducible refine T_region ?_ | with_reducible refine TL_nil ?_ | with_reducible refine TQ_then ?_ | with_reducible refine TQ_block ?_ | with_reducible refine T_skip ?_ | refine TL_q (op_move rfl) rfl ?_ | refine TL_q (op_assign rfl) rfl ?_ | (refine' TL_q (op_bin rfl rfl ?_) rfl ?_; rotate_left 1; (· (first | exact bin_add ⟨by omega, by omega⟩ | exact bin_lss | exact sbin_add (by (omega))))) | refine TL_q (op_len_slice rfl Try.underlying184) rfl ?_ | (refine' TL_q (op_idx ety_184 rfl rfl ?_) rfl ?_; (· omega)) | refine TL_q (op_fld rfl fld_188_0) rfl ?_ | refine TL_q (op_fld rfl fld_188_1) rfl ?_ | (refine' TL_q (op_ld rfl pl_4 ?_ ?_) rfl ?_; rotate_left 4; (· repeat ((assumption))); (· (assumption))) | (refine T_yes rfl ?_ ?_; (· (exact dT (by (first | assumption | omega))))) | (refine T_no rfl ?_ ?_; (· (with_reducible rfl)))))
      refine TQ_roundS (k + 1) hlt ?_ (fun w h => h) (by omega)
      rw [hj]
      (repeat ((first | exact trivial | refine ⟨rfl, ?_⟩)))
  · have hkn : k = l.length := by omega
    subst hkn
    repeat ((first | with_reducible refine T_seq ?_ | with_reducible refine T_region ?_ | with_reducible refine TL_nil ?_ | with_reducible refine TQ_then ?_ | with_reducible refine T_exit ?_ | with_reducible refine T_ret ?_ | with_reducible refine TQ_then_exit ?_ | with_reducible refine TQ_block_exit ?_ | refine TL_q (op_move rfl) rfl ?_ | refine TL_q (op_assign rfl) rfl ?_ | (refine' TL_q (op_bin rfl rfl ?_) rfl ?_; rotate_left 1; (· (exact bin_lss))) | refine TL_q (op_len_slice rfl Try.underlying184) rfl ?_ | (refine T_no rfl ?_ ?_; (· (exact dF (by (omega)))))))
    refine TQ_heap (fun w h => h.sub (List.sublist_append_right _ _)) ?_
    refine TQ_ret1 4 _ rfl rfl ?_
    exact ⟨by rw [List.take_length], rfl⟩
end Go.Proofs.Ytdflhdfapnhjjaa
namespace Go.Proofs.Ytdflhdfapnhjjaa
open Go.RowKit

/-- Something that compares. -/
structure Cmps {α : Type} (c : α → α → Int) : Prop where
  zero : ∀ a b, c a b = 0 ↔ a = b
  anti : ∀ a b, c b a = - c a b
  lo : ∀ a b, -1 ≤ c a b
  trans : ∀ a b d, c a b ≤ 0 → c b d ≤ 0 → c a d ≤ 0
theorem Cmps.self {α : Type} {c : α → α → Int} (h : Cmps c) (a : α) : c a a = 0 := (h.zero a a).2 rfl
theorem Cmps.hi {α : Type} {c : α → α → Int} (h : Cmps c) (a b : α) : c a b ≤ 1 := by have := h.anti b a; have := h.lo b a; omega
theorem Cmps.strict {α : Type} {c : α → α → Int} (h : Cmps c) {a b d : α} (h1 : c a b ≤ 0) (h2 : c b d ≤ 0) : c a d < 0 ↔ (c a b < 0 ∨ c b d < 0) := by
  have h3 := h.trans a b d h1 h2
  constructor
  · intro h4
    by_cases h5 : c a b = 0
    · have := (h.zero a b).1 h5; subst this; exact Or.inr h4
    · left; omega
  · intro h4
    by_cases h5 : c a d = 0
    · have := (h.zero a d).1 h5
      subst this
      have h6 := h.anti a b
      omega
    · omega

def lexC {α : Type} (c : α → α → Int) : List α → List α → Int
  | [], [] => 0
  | [], _ :: _ => -1
  | _ :: _, [] => 1
  | x :: xs, y :: ys => if c x y = 0 then lexC c xs ys else c x y
theorem lexC_cmps {α : Type} {c : α → α → Int} (h : Cmps c) : Cmps (lexC c) := by
  have zero : ∀ a b, lexC c a b = 0 ↔ a = b := by
    intro a
    induction a with
    | nil => intro b; cases b <;> simp [lexC]
    | cons x xs ih =>
      intro b
      cases b with
      | nil => simp [lexC]
      | cons y ys =>
        simp only [lexC]
        split
        · rename_i h0; rw [ih]; have := (h.zero x y).1 h0; subst this; simp
        · rename_i h0
          constructor
          · intro h1; exact absurd h1 h0
          · intro h1; cases h1; exact absurd (h.self x) h0
  have anti : ∀ a b, lexC c b a = - lexC c a b := by
    intro a
    induction a with
    | nil => intro b; cases b <;> simp [lexC]
    | cons x xs ih =>
      intro b
      cases b with
      | nil => simp [lexC]
      | cons y ys =>
        simp only [lexC]
        have ha := h.anti x y
        by_cases h0 : c x y = 0
        · rw [if_pos h0, if_pos (by omega), ih]
        · rw [if_neg h0, if_neg (by omega), ha]
  refine ⟨zero, anti, ?_, ?_⟩
  · intro a
    induction a with
    | nil => intro b; cases b <;> simp [lexC]
    | cons x xs ih =>
      intro b
      cases b with
      | nil => simp [lexC]
      | cons y ys =>
        simp only [lexC]
        split
        · exact ih ys
        · exact h.lo x y
  · intro a
    induction a with
    | nil => intro b d _ _; cases d <;> simp [lexC]
    | cons x xs ih =>
      intro b d h1 h2
      cases b with
      | nil => simp [lexC] at h1
      | cons y ys =>
        cases d with
        | nil => simp [lexC] at h2
        | cons z zs =>
          simp only [lexC] at h1 h2 ⊢
          have hxy := h.zero x y
          have hyz := h.zero y z
          have hxz := h.zero x z
          by_cases k1 : c x y = 0
          · have e := hxy.1 k1
            subst e
            rw [if_pos k1] at h1
            by_cases k2 : c x z = 0
            · rw [if_pos k2] at h2 ⊢; exact ih ys zs h1 h2
            · rw [if_neg k2] at h2 ⊢; exact h2
          · rw [if_neg k1] at h1
            by_cases k2 : c y z = 0
            · have e := hyz.1 k2
              subst e
              rw [if_neg k1]
              exact h1
            · rw [if_neg k2] at h2
              have h3 := h.trans x y z h1 h2
              have h4 := (h.strict h1 h2).2 (Or.inl (by omega))
              rw [if_neg (by omega)]
              exact h3
def byteC (a b : UInt8) : Int := if a < b then -1 else if b < a then 1 else 0
theorem byteC_cmps : Cmps byteC := by
  have key : ∀ a b : UInt8, (a < b ↔ a.toNat < b.toNat) := fun a b => UInt8.lt_iff_toNat_lt
  have val : ∀ a b : UInt8, byteC a b = if a.toNat < b.toNat then -1 else if b.toNat < a.toNat then 1 else 0 := fun a b => by unfold byteC; simp only [key]
  refine ⟨fun a b => ?_, fun a b => ?_, fun a b => ?_, fun a b d => ?_⟩
  · rw [val, ← UInt8.toNat_inj]; split <;> (try split) <;> omega
  · rw [val, val]; split <;> split <;> (try split) <;> omega
  · rw [val]; split <;> (try split) <;> omega
  · rw [val, val, val]; intro h1 h2; split at h1 <;> split at h2 <;> split <;> (try split) <;> (try split at h1) <;> (try split at h2) <;> omega
theorem compareBytes_lex : ∀ a b, Lib.compareBytes a b = lexC byteC a b
  | [], [] => by simp [Lib.compareBytes, lexC]
  | [], _ :: _ => by simp [Lib.compareBytes, lexC]
  | _ :: _, [] => by simp [Lib.compareBytes, lexC]
  | a :: r, b :: t => by
    have ih := compareBytes_lex r t
    rw [Lib.compareBytes, lexC]
    by_cases h1 : a < b
    · simp [byteC, h1]
    · by_cases h2 : b < a
      · simp [byteC, h1, h2]
      · rw [if_neg h1, if_neg h2, if_pos (by simp [byteC, h1, h2]), ih]
theorem compareBytes_cmps : Cmps Lib.compareBytes := by
  have : Lib.compareBytes = lexC byteC := funext fun a => funext fun b => compareBytes_lex a b
  rw [this]; exact lexC_cmps byteC_cmps
/-- The labels, folded, the last one first. -/
def revL (n : Nm.Bytes) : List Nm.Bytes := (Nm.lowL (Nm.labels n)).reverse
theorem cmpN_rev {a b : Nm.Bytes} (ha : Nm.may a = true) (hb : Nm.may b = true) : cmpN a b = cmpR (revL a) (revL b) := by
  obtain ⟨x, hx⟩ := Nm.nm_of_may ha
  obtain ⟨y, hy⟩ := Nm.nm_of_may hb
  simp [cmpN, revL, Nm.labels, hx, hy, cmpL]
theorem cmpN_no {a b : Nm.Bytes} (h : Nm.may a = false ∨ Nm.may b = false) : cmpN a b = 0 := by
  unfold cmpN
  rcases h with h | h
  · rw [Nm.nm_of_not h]
  · rw [Nm.nm_of_not h]; cases Nm.nm a <;> rfl
end Go.Proofs.Ytdflhdfapnhjjaa
namespace Go.Proofs.Ytdflhdfapnhjjaa
open Go.RowKit
set_option linter.unusedVariables false
set_option linter.unusedSimpArgs false

theorem refLabels_S {G : World} {L : Blocks} (n : Nm.Bytes) (h : n.length ≤ 1000000) : Spec Try.prog G 86 #[.string (bs n)] L fun u M => ∃ v B, u = .tuple #[v, .bool (Nm.may n)] ∧ Row 9 1 v (Nm.labels n).length ((Nm.labels n).map txtV) B ∧ M = B ++ L :=
  ⟨fun w hw => (refLabels_any (bs n) w (bs_mil h)).mono fun en w' ⟨v, h1, h2, h3⟩ => by
    have hL : Heap G w' L := ⟨hw.still.trans ⟨h3.os, h3.tape, h3.output, h3.size⟩, hw.nodup, fun p hp => (h3.block p.1 (hw.lt hp)).trans (hw.get p hp)⟩
    rcases h2.2 with ⟨q1, q2⟩ | ⟨g, cap, cur, q1, q2, q3, q4, q5, q6, q7⟩
    · exact ⟨_, _, h1, ⟨v, [], rfl, ⟨h2.1, Or.inl ⟨q1, q2, rfl⟩⟩, rfl⟩, hL⟩
    · refine ⟨_, _, h1, ⟨v, [(g, .cells cur 9 (0, 0))], rfl, ⟨h2.1, Or.inr ⟨g, cap, cur, q1, rfl, q4, q5, q6, q7⟩⟩, rfl⟩, hL.still, ?_, fun p hp => ?_⟩
      · show ((g : Nat) :: L.map (·.1)).Nodup
        rw [List.nodup_cons]
        refine ⟨fun hm => ?_, hL.nodup⟩
        obtain ⟨p, hp, he⟩ := List.mem_map.1 hm
        have := hw.lt hp
        omega
      · rcases List.mem_cons.1 hp with rfl | hp
        · exact q3
        · exact hL.get p hp⟩
theorem bytesLess_cmp : ∀ a b : List UInt8, Op.bytesLess a b = decide (Lib.compareBytes a b = -1)
  | [], [] => by simp [Op.bytesLess, Lib.compareBytes]
  | [], _ :: _ => by simp [Op.bytesLess, Lib.compareBytes]
  | _ :: _, [] => by simp [Op.bytesLess, Lib.compareBytes]
  | a :: r, b :: t => by
    rw [Op.bytesLess, Lib.compareBytes, bytesLess_cmp r t]
    have k1 := @UInt8.lt_iff_toNat_lt a b
    have k2 := @UInt8.lt_iff_toNat_lt b a
    by_cases h1 : a < b
    · simp [h1]
    · by_cases h2 : b < a
      · have : a ≠ b := fun e => by subst e; exact h1 h2
        simp [h1, h2, this]
      · have h1' : ¬ a.toNat < b.toNat := fun h => h1 (k1.2 h)
        have h2' : ¬ b.toNat < a.toNat := fun h => h2 (k2.2 h)
        have : a = b := UInt8.toNat_inj.1 (by omega)
        subst this
        simp
theorem cmpR_drop {xs ys : List Nm.Bytes} {j : Nat} {p q : Nm.Bytes} (h1 : xs[j]? = some p) (h2 : ys[j]? = some q) :
    cmpR (xs.drop j) (ys.drop j) = if Lib.compareBytes p q = 0 then cmpR (xs.drop (j + 1)) (ys.drop (j + 1)) else Lib.compareBytes p q := by
  obtain ⟨k1, e1⟩ := List.getElem?_eq_some_iff.1 h1
  obtain ⟨k2, e2⟩ := List.getElem?_eq_some_iff.1 h2
  rw [List.drop_eq_getElem_cons k1, List.drop_eq_getElem_cons k2, e1, e2]
  rfl
theorem cmpR_end {xs ys : List Nm.Bytes} {j : Nat} (h1 : j ≤ xs.length) (h2 : j ≤ ys.length) (h : ¬ (j < xs.length ∧ j < ys.length)) :
    cmpR (xs.drop j) (ys.drop j) = if xs.length < ys.length then -1 else if ys.length < xs.length then 1 else 0 := by
  by_cases k1 : j < xs.length
  · have k2 : ys.length = j := by omega
    rw [List.drop_of_length_le (l := ys) (by omega), List.drop_eq_getElem_cons k1, if_neg (by omega), if_pos (by omega)]
    rfl
  · have k2 : xs.length = j := by omega
    rw [List.drop_of_length_le (l := xs) (by omega)]
    by_cases k3 : j < ys.length
    · rw [List.drop_eq_getElem_cons k3, if_pos (by omega)]; rfl
    · rw [List.drop_of_length_le (l := ys) (by omega), if_neg (by omega), if_neg (by omega)]; rfl
theorem revL_length (n : Nm.Bytes) : (revL n).length = (Nm.labels n).length := by simp [revL, Nm.lowL]
theorem revL_at (n : Nm.Bytes) (j : Nat) (h : j < (Nm.labels n).length) : ∃ l, (Nm.labels n)[(Nm.labels n).length - (j + 1)]? = some l ∧ (revL n)[j]? = some (Nm.low l) := by
  obtain ⟨l, hl⟩ : ∃ l, (Nm.labels n)[(Nm.labels n).length - (j + 1)]? = some l := ⟨_, List.getElem?_eq_getElem (by omega)⟩
  refine ⟨l, hl, ?_⟩
  unfold revL
  rw [List.getElem?_reverse (by simpa [Nm.lowL] using h)]
  simp only [Nm.lowL, List.length_map, List.getElem?_map]
  rw [show (Nm.labels n).length - 1 - j = (Nm.labels n).length - (j + 1) by omega, hl]
  rfl
theorem labels_len (n : Nm.Bytes) : (Nm.labels n).length ≤ 254 ∧ ∀ l ∈ Nm.labels n, l.length ≤ 63 := by
  unfold Nm.labels
  cases h : Nm.nm n with
  | none => simp
  | some ls => exact ⟨nm_few h, fun l hl => ((Nm.nm_iff.1 h).2.1 l hl).2⟩

set_option maxRecDepth 100000 in
set_option maxHeartbeats 2000000 in
theorem refCompare_S {G : World} {L : Blocks} (a b : Nm.Bytes) (ha : a.length ≤ 1000000) (hb : b.length ≤ 1000000) : Spec Try.prog G 126 #[.string (bs a), .string (bs b)] L fun u M => u = .int .i64 (cmpN a b) ∧ M = L := by
  refine Spec_of (n := 72) Try.func126 rfl rfl rfl ?_
  repeat ((first | with_reducible refine T_seq ?_ | with_reducible refine T_region ?_ | with_reducible refine TL_nil ?_ | with_reducible refine TQ_then ?_ | refine TL_q (op_move rfl) rfl ?_ | refine TL_q (op_assign rfl) rfl ?_))
  refine TL_opT (op_call hb_86 rfl (refLabels_S a ha)) rfl ?_
  rintro _ _ ⟨v5, B5, rfl, hR5, rfl⟩
  repeat ((first | with_reducible refine T_seq ?_ | with_reducible refine T_region ?_ | with_reducible refine TL_nil ?_ | with_reducible refine TQ_then ?_ | refine TL_q (op_move rfl) rfl ?_ | refine TL_q (op_assign rfl) rfl ?_ | refine TL_q (op_extract rfl rfl) rfl ?_))
  refine TL_opT (op_call hb_86 rfl (refLabels_S b hb)) rfl ?_
  rintro _ _ ⟨v7, B7, rfl, hR7, rfl⟩
  obtain ⟨a5, c5, rfl⟩ := hR5.slice
  obtain ⟨a7, c7, rfl⟩ := hR7.slice
  cases ma : Nm.may a with
  | false =>
    have hC : cmpN a b = 0 := cmpN_no (Or.inl ma)
    repeat ((first | with_reducible refine T_seq ?_ | with_reducible refine T_region ?_ | with_reducible refine TL_nil ?_ | with_reducible refine TQ_then ?_ | with_reducible refine T_ret ?_ | with_reducible refine TQ_then_ret ?_ | refine TL_q (op_move rfl) rfl ?_ | refine TL_q (op_assign rfl) rfl ?_ | refine TL_q (op_not rfl) rfl ?_ | refine TL_q (op_extract rfl rfl) rfl ?_ | (refine' TL_q (op_pickT rfl ?_ rfl) rfl ?_; (· (exact Bool.not_false))) | (refine TL_gno rfl rfl ?_ rfl ?_; (· (with_reducible rfl))) | (refine T_yes rfl ?_ ?_; (· (with_reducible rfl)))))
    refine TQ_heap (fun w h => (h.sub (List.sublist_append_right _ _)).sub (List.sublist_append_right _ _)) ?_
    refine TQ_ret1 4 _ rfl rfl ?_
    exact ⟨by rw [hC], rfl⟩
  | true =>
  cases mb : Nm.may b with
  | false =>
    have hC : cmpN a b = 0 := cmpN_no (Or.inr mb)
    repeat ((first | with_reducible refine T_seq ?_ | with_reducible refine T_region ?_ | with_reducible refine TL_nil ?_ | with_reducible refine TQ_then ?_ | with_reducible refine T_ret ?_ | with_reducible refine TQ_then_ret ?_ | refine TL_q (op_move rfl) rfl ?_ | refine TL_q (op_assign rfl) rfl ?_ | refine TL_q (op_not rfl) rfl ?_ | refine TL_q (op_extract rfl rfl) rfl ?_ | (refine' TL_q (op_pickF rfl ?_ rfl) rfl ?_; (· (exact Bool.not_true))) | (refine TL_gpre rfl rfl ?_ ?_; (· (exact Bool.not_true))) | refine TL_gq2 (op_move rfl) rfl ?_ | refine TL_gq2 (op_not rfl) rfl ?_ | (refine T_yes rfl ?_ ?_; (· (exact Bool.not_false)))))
    refine TQ_heap (fun w h => (h.sub (List.sublist_append_right _ _)).sub (List.sublist_append_right _ _)) ?_
    refine TQ_ret1 4 _ rfl rfl ?_
    exact ⟨by rw [hC], rfl⟩
  | true =>
  have hC := cmpN_rev ma mb
  have la := labels_len a
  have lb := labels_len b
  obtain ⟨xa, hxa⟩ : ∃ x, x = Nm.labels a := ⟨_, rfl⟩
  obtain ⟨xb, hxb⟩ : ∃ x, x = Nm.labels b := ⟨_, rfl⟩
  have ra := revL_length a
  have rb := revL_length b
  have qa := revL_at a
  have qb := revL_at b
  rw [← hxa] at la ra qa hR5 ⊢
  rw [← hxb] at lb rb qb hR7 ⊢
  obtain ⟨la1, la2⟩ := la
  obtain ⟨lb1, lb2⟩ := lb
  have sa := hR5.strRow (L := B7 ++ (B5 ++ L)) (fun p hp => by grind)
  have sb := hR7.strRow (L := B7 ++ (B5 ++ L)) (fun p hp => by grind)
  obtain ⟨_, _, hv5, sa⟩ := sa
  cases hv5
  obtain ⟨_, _, hv7, sb⟩ := sb
  cases hv7
  repeat ((first | with_reducible refine T_seq ?_ | with_reducible refine T_block ?_ | with_reducible refine T_region ?_ | with_reducible refine TL_nil ?_ | with_reducible refine TQ_then ?_ | with_reducible refine T_skip ?_ | refine TL_q (op_move rfl) rfl ?_ | refine TL_q (op_assign rfl) rfl ?_ | refine TL_q (op_not rfl) rfl ?_ | refine TL_q (op_extract rfl rfl) rfl ?_ | (refine' TL_q (op_pickF rfl ?_ rfl) rfl ?_; (· (exact Bool.not_true))) | (refine TL_gpre rfl rfl ?_ ?_; (· (exact Bool.not_true))) | refine TL_gq2 (op_move rfl) rfl ?_ | refine TL_gq2 (op_not rfl) rfl ?_ | (refine T_no rfl ?_ ?_; (· (exact Bool.not_true)))))
  refine T_loopS (σ := Nat) (fun j => j ≤ xa.length ∧ j ≤ xb.length ∧ cmpR (revL a) (revL b) = cmpR ((revL a).drop j) ((revL b).drop j)) (fun j => [(5, .slice a5 xa.length c5), (7, .slice a7 xb.length c7), (9, .int .i64 ((j + 1 : Nat) : Int))]) (fun _ => B7 ++ (B5 ++ L)) (fun j => xa.length - j) 0 ⟨by omega, by omega, rfl⟩ ?_ (fun _ h => h) ?_
  (repeat ((first | exact trivial | refine ⟨rfl, ?_⟩)))
  rintro j ⟨hj1, hj2, hinv⟩
  by_cases hlt : j < xa.length ∧ j < xb.length
  · obtain ⟨k1, k2⟩ := hlt
    have d1 : decide (((j + 1 : Nat) : Int) ≤ ((xa.length : Nat) : Int)) = true := decide_eq_true (by omega)
    have d2 : decide (((j + 1 : Nat) : Int) ≤ ((xb.length : Nat) : Int)) = true := decide_eq_true (by omega)
    obtain ⟨p, hp1, hp2⟩ := qa j k1
    obtain ⟨q, hq1, hq2⟩ := qb j k2
    obtain rfl | ⟨b5, o5, C5, t5, f5, rfl, hm5, hc5⟩ := sa
    · simp at k1
    obtain rfl | ⟨b7, o7, C7, t7, f7, rfl, hm7, hc7⟩ := sb
    · simp at k2
    have g5 : C5[o5 + (((xa.length : Nat) : Int) - ((j + 1 : Nat) : Int)).toNat * 1]? = some (.string (bs p)) := by
      rw [show (((xa.length : Nat) : Int) - ((j + 1 : Nat) : Int)).toNat = xa.length - (j + 1) by omega]
      exact hc5 _ _ hp1
    have g7 : C7[o7 + (((xb.length : Nat) : Int) - ((j + 1 : Nat) : Int)).toNat * 1]? = some (.string (bs q)) := by
      rw [show (((xb.length : Nat) : Int) - ((j + 1 : Nat) : Int)).toNat = xb.length - (j + 1) by omega]
      exact hc7 _ _ hq1
    have lp := la2 p (List.mem_of_getElem? hp1)
    have lq := lb2 q (List.mem_of_getElem? hq1)
    have hstep := cmpR_drop hp2 hq2
    have hcb := compareBytes_bd (Nm.low p) (Nm.low q)
    have hbl := bytesLess_cmp (Nm.low p) (Nm.low q)
    have hz := compareBytes_cmps.zero (Nm.low p) (Nm.low q)
    have hK : ∀ p ∈ [(b5, Obj.cells C5 t5 f5), (b7, Obj.cells C7 t7 f7)], p ∈ B7 ++ (B5 ++ L) := by
      intro p hp
      simp only [List.mem_cons, List.not_mem_nil, or_false] at hp
      rcases hp with rfl | rfl
      · exact hm5
      · exact hm7
    clear qa qb hc5 hc7 la2 lb2
    by_cases w1 : Lib.compareBytes (Nm.low p) (Nm.low q) = -1
    · have t1 : Op.bytesLess (Nm.low p) (Nm.low q) = true := by rw [hbl]; exact decide_eq_true w1
      have hfin : cmpN a b = -1 := by rw [hC, hinv, hstep, if_neg (by omega), w1]
      clear hstep hbl hz
      repeat ((first | with_reducible refine T_seq ?_ | with_reducible refine T_block ?_ | with_reducible refine T_region ?_ | with_reducible refine TL_nil ?_ | with_reducible refine TQ_then ?_ | with_reducible refine T_skip ?_ | refine TL_q (op_move rfl) rfl ?_ | (refine' TL_q (op_bin rfl rfl ?_) rfl ?_; rotate_left 1; (· (exact bin_leq))) | (refine' TL_q (op_pickT rfl ?_ rfl) rfl ?_; (· (assumption))) | refine TL_q (op_len_slice rfl Try.underlying58) rfl ?_ | (refine TL_gpre rfl rfl ?_ ?_; (· (assumption))) | refine TL_gq2 (op_move rfl) rfl ?_ | (refine' TL_gq2 (op_bin rfl rfl ?_) rfl ?_; rotate_left 1; (· (exact bin_leq))) | refine TL_gq2 (op_len_slice rfl Try.underlying58) rfl ?_ | (refine T_yes rfl ?_ ?_; (· (assumption)))))
      refine T_draw follows_mixed ([(b5, Obj.cells C5 t5 f5), (b7, Obj.cells C7 t7 f7)]) [] ?_
      (refine' TA_take 0 rfl rfl (by kernel_rfl) (quiet_q (op_move rfl)) ?_ ?_; (· (assumption)))
      (refine' TA_take 1 rfl rfl (by kernel_rfl) (quiet_q (op_move rfl)) ?_ ?_; (· (assumption)))
      (refine' TA_take 2 rfl rfl (by kernel_rfl) (quiet_q (op_len_slice rfl Try.underlying58)) ?_ ?_; (· (assumption)))
      (refine' TA_take 3 rfl rfl (by kernel_rfl) (quiet_q (op_move rfl)) ?_ ?_; (· (assumption)))
      (refine' TA_take 4 rfl rfl (by kernel_rfl) (quiet_q (op_bin rfl rfl ?_)) ?_ ?_; rotate_left 1; (· (exact bin_sub ⟨by omega, by omega⟩)); (· (assumption)))
      (refine' TA_take 5 rfl rfl (by kernel_rfl) (quiet_q (op_idxI ety_58 rfl rfl ?_ ?_)) ?_ ?_; (· omega); (· omega); (· (assumption)))
      (refine' TA_take 6 rfl rfl (by kernel_rfl) (quiet_q (op_ld rfl pl_9 ?_ ?_)) ?_ ?_; rotate_left 4; (· repeat ((exact List.mem_cons_self))); (· (assumption)); (· (assumption)))
      refine' TA_take 7 rfl rfl (by kernel_rfl) (quiet_call hb_87 rfl (fun _ _ => refLow_S _ ?_)) ?_ ?_; (· (omega)); (· (assumption))
      (refine' TA_take 8 rfl rfl (by kernel_rfl) (quiet_q (op_move rfl)) ?_ ?_; (· (assumption)))
      (refine' TA_take 9 rfl rfl (by kernel_rfl) (quiet_q (op_move rfl)) ?_ ?_; (· (assumption)))
      (refine' TA_take 10 rfl rfl (by kernel_rfl) (quiet_q (op_len_slice rfl Try.underlying58)) ?_ ?_; (· (assumption)))
      (refine' TA_take 11 rfl rfl (by kernel_rfl) (quiet_q (op_move rfl)) ?_ ?_; (· (assumption)))
      (refine' TA_take 12 rfl rfl (by kernel_rfl) (quiet_q (op_bin rfl rfl ?_)) ?_ ?_; rotate_left 1; (· (exact bin_sub ⟨by omega, by omega⟩)); (· (assumption)))
      (refine' TA_take 13 rfl rfl (by kernel_rfl) (quiet_q (op_idxI ety_58 rfl rfl ?_ ?_)) ?_ ?_; (· omega); (· omega); (· (assumption)))
      (refine' TA_take 14 rfl rfl (by kernel_rfl) (quiet_q (op_ld rfl pl_9 ?_ ?_)) ?_ ?_; rotate_left 4; (· repeat ((first | exact List.mem_cons_self | apply List.mem_cons_of_mem))); (· (assumption)); (· (assumption)))
      refine' TA_take 15 rfl rfl (by kernel_rfl) (quiet_call hb_87 rfl (fun _ _ => refLow_S _ ?_)) ?_ ?_; (· (omega)); (· (assumption))
      (refine' TA_take 16 rfl rfl (by kernel_rfl) (quiet_q (op_assign rfl)) ?_ ?_; (· (assumption)))
      (refine' TA_take 17 rfl rfl (by kernel_rfl) (quiet_q (op_assign rfl)) ?_ ?_; (· (assumption)))
      refine TA_done (by kernel_rfl) ?_
      repeat ((first | with_reducible refine T_seq ?_ | with_reducible refine T_region ?_ | with_reducible refine TL_nil ?_ | with_reducible refine TQ_then ?_ | with_reducible refine T_ret ?_ | with_reducible refine TQ_then_ret ?_ | with_reducible refine TQ_block_ret ?_ | refine TL_q (op_move rfl) rfl ?_ | refine TL_q (op_assign rfl) rfl ?_ | (refine' TL_q (op_bin rfl rfl ?_) rfl ?_; rotate_left 1; (· (exact sbin_lss))) | (refine T_yes rfl ?_ ?_; (· (assumption)))))
      refine TQ_heap (fun w h => (h.sub (List.sublist_append_right _ _)).sub (List.sublist_append_right _ _)) ?_
      refine TQ_ret1 4 _ rfl rfl ?_
      exact ⟨by rw [hfin], rfl⟩
    · have t1 : Op.bytesLess (Nm.low p) (Nm.low q) = false := by rw [hbl]; exact decide_eq_false w1
      by_cases w2 : Lib.compareBytes (Nm.low p) (Nm.low q) = 0
      · have e := hz.1 w2
        have t2 : (!(Op.bytesLess (Nm.low p) (Nm.low q) || Nm.low p == Nm.low q)) = false := by rw [e]; simp
        clear hbl hz
        repeat ((first | with_reducible refine T_seq ?_ | with_reducible refine T_block ?_ | with_reducible refine T_region ?_ | with_reducible refine TL_nil ?_ | with_reducible refine TQ_then ?_ | with_reducible refine T_skip ?_ | refine TL_q (op_move rfl) rfl ?_ | (refine' TL_q (op_bin rfl rfl ?_) rfl ?_; rotate_left 1; (· (exact bin_leq))) | (refine' TL_q (op_pickT rfl ?_ rfl) rfl ?_; (· (assumption))) | refine TL_q (op_len_slice rfl Try.underlying58) rfl ?_ | (refine TL_gpre rfl rfl ?_ ?_; (· (assumption))) | refine TL_gq2 (op_move rfl) rfl ?_ | (refine' TL_gq2 (op_bin rfl rfl ?_) rfl ?_; rotate_left 1; (· (exact bin_leq))) | refine TL_gq2 (op_len_slice rfl Try.underlying58) rfl ?_ | (refine T_yes rfl ?_ ?_; (· (assumption)))))
        refine T_draw follows_mixed ([(b5, Obj.cells C5 t5 f5), (b7, Obj.cells C7 t7 f7)]) [] ?_
        (refine' TA_take 0 rfl rfl (by kernel_rfl) (quiet_q (op_move rfl)) ?_ ?_; (· (assumption)))
        (refine' TA_take 1 rfl rfl (by kernel_rfl) (quiet_q (op_move rfl)) ?_ ?_; (· (assumption)))
        (refine' TA_take 2 rfl rfl (by kernel_rfl) (quiet_q (op_len_slice rfl Try.underlying58)) ?_ ?_; (· (assumption)))
        (refine' TA_take 3 rfl rfl (by kernel_rfl) (quiet_q (op_move rfl)) ?_ ?_; (· (assumption)))
        (refine' TA_take 4 rfl rfl (by kernel_rfl) (quiet_q (op_bin rfl rfl ?_)) ?_ ?_; rotate_left 1; (· (exact bin_sub ⟨by omega, by omega⟩)); (· (assumption)))
        (refine' TA_take 5 rfl rfl (by kernel_rfl) (quiet_q (op_idxI ety_58 rfl rfl ?_ ?_)) ?_ ?_; (· omega); (· omega); (· (assumption)))
        (refine' TA_take 6 rfl rfl (by kernel_rfl) (quiet_q (op_ld rfl pl_9 ?_ ?_)) ?_ ?_; rotate_left 4; (· repeat ((exact List.mem_cons_self))); (· (assumption)); (· (assumption)))
        refine' TA_take 7 rfl rfl (by kernel_rfl) (quiet_call hb_87 rfl (fun _ _ => refLow_S _ ?_)) ?_ ?_; (· (omega)); (· (assumption))
        (refine' TA_take 8 rfl rfl (by kernel_rfl) (quiet_q (op_move rfl)) ?_ ?_; (· (assumption)))
        (refine' TA_take 9 rfl rfl (by kernel_rfl) (quiet_q (op_move rfl)) ?_ ?_; (· (assumption)))
        (refine' TA_take 10 rfl rfl (by kernel_rfl) (quiet_q (op_len_slice rfl Try.underlying58)) ?_ ?_; (· (assumption)))
        (refine' TA_take 11 rfl rfl (by kernel_rfl) (quiet_q (op_move rfl)) ?_ ?_; (· (assumption)))
        (refine' TA_take 12 rfl rfl (by kernel_rfl) (quiet_q (op_bin rfl rfl ?_)) ?_ ?_; rotate_left 1; (· (exact bin_sub ⟨by omega, by omega⟩)); (· (assumption)))
        (refine' TA_take 13 rfl rfl (by kernel_rfl) (quiet_q (op_idxI ety_58 rfl rfl ?_ ?_)) ?_ ?_; (· omega); (· omega); (· (assumption)))
        (refine' TA_take 14 rfl rfl (by kernel_rfl) (quiet_q (op_ld rfl pl_9 ?_ ?_)) ?_ ?_; rotate_left 4; (· repeat ((first | exact List.mem_cons_self | apply List.mem_cons_of_mem))); (· (assumption)); (· (assumption)))
        refine' TA_take 15 rfl rfl (by kernel_rfl) (quiet_call hb_87 rfl (fun _ _ => refLow_S _ ?_)) ?_ ?_; (· (omega)); (· (assumption))
        (refine' TA_take 16 rfl rfl (by kernel_rfl) (quiet_q (op_assign rfl)) ?_ ?_; (· (assumption)))
        (refine' TA_take 17 rfl rfl (by kernel_rfl) (quiet_q (op_assign rfl)) ?_ ?_; (· (assumption)))
        refine TA_done (by kernel_rfl) ?_
        repeat ((first | with_reducible refine T_seq ?_ | with_reducible refine T_region ?_ | with_reducible refine TL_nil ?_ | with_reducible refine TQ_then ?_ | with_reducible refine TQ_block ?_ | with_reducible refine T_skip ?_ | refine TL_q (op_move rfl) rfl ?_ | refine TL_q (op_assign rfl) rfl ?_ | (refine' TL_q (op_bin rfl rfl ?_) rfl ?_; rotate_left 1; (· (first | exact bin_add ⟨by omega, by omega⟩ | exact sbin_lss | exact sbin_gtr))) | (refine T_no rfl ?_ ?_; (· (assumption)))))
        refine TQ_roundS (j + 1) ⟨by omega, by omega, by rw [hinv, hstep, if_pos w2]⟩ ?_ (fun _ h => h) (by omega)
        (repeat ((first | exact trivial | refine ⟨rfl, ?_⟩)))
      · have hne : ¬ Nm.low p = Nm.low q := fun e => w2 (hz.2 e)
        have t2 : (!(Op.bytesLess (Nm.low p) (Nm.low q) || Nm.low p == Nm.low q)) = true := by rw [t1]; simpa using hne
        have hfin : cmpN a b = 1 := by rw [hC, hinv, hstep, if_neg w2]; omega
        clear hstep hbl hz
        repeat ((first | with_reducible refine T_seq ?_ | with_reducible refine T_block ?_ | with_reducible refine T_region ?_ | with_reducible refine TL_nil ?_ | with_reducible refine TQ_then ?_ | with_reducible refine T_skip ?_ | refine TL_q (op_move rfl) rfl ?_ | (refine' TL_q (op_bin rfl rfl ?_) rfl ?_; rotate_left 1; (· (exact bin_leq))) | (refine' TL_q (op_pickT rfl ?_ rfl) rfl ?_; (· (assumption))) | refine TL_q (op_len_slice rfl Try.underlying58) rfl ?_ | (refine TL_gpre rfl rfl ?_ ?_; (· (assumption))) | refine TL_gq2 (op_move rfl) rfl ?_ | (refine' TL_gq2 (op_bin rfl rfl ?_) rfl ?_; rotate_left 1; (· (exact bin_leq))) | refine TL_gq2 (op_len_slice rfl Try.underlying58) rfl ?_ | (refine T_yes rfl ?_ ?_; (· (assumption)))))
        refine T_draw follows_mixed ([(b5, Obj.cells C5 t5 f5), (b7, Obj.cells C7 t7 f7)]) [] ?_
        (refine' TA_take 0 rfl rfl (by kernel_rfl) (quiet_q (op_move rfl)) ?_ ?_; (· (assumption)))
        (refine' TA_take 1 rfl rfl (by kernel_rfl) (quiet_q (op_move rfl)) ?_ ?_; (· (assumption)))
        (refine' TA_take 2 rfl rfl (by kernel_rfl) (quiet_q (op_len_slice rfl Try.underlying58)) ?_ ?_; (· (assumption)))
        (refine' TA_take 3 rfl rfl (by kernel_rfl) (quiet_q (op_move rfl)) ?_ ?_; (· (assumption)))
        (refine' TA_take 4 rfl rfl (by kernel_rfl) (quiet_q (op_bin rfl rfl ?_)) ?_ ?_; rotate_left 1; (· (exact bin_sub ⟨by omega, by omega⟩)); (· (assumption)))
        (refine' TA_take 5 rfl rfl (by kernel_rfl) (quiet_q (op_idxI ety_58 rfl rfl ?_ ?_)) ?_ ?_; (· omega); (· omega); (· (assumption)))
        (refine' TA_take 6 rfl rfl (by kernel_rfl) (quiet_q (op_ld rfl pl_9 ?_ ?_)) ?_ ?_; rotate_left 4; (· repeat ((exact List.mem_cons_self))); (· (assumption)); (· (assumption)))
        refine' TA_take 7 rfl rfl (by kernel_rfl) (quiet_call hb_87 rfl (fun _ _ => refLow_S _ ?_)) ?_ ?_; (· (omega)); (· (assumption))
        (refine' TA_take 8 rfl rfl (by kernel_rfl) (quiet_q (op_move rfl)) ?_ ?_; (· (assumption)))
        (refine' TA_take 9 rfl rfl (by kernel_rfl) (quiet_q (op_move rfl)) ?_ ?_; (· (assumption)))
        (refine' TA_take 10 rfl rfl (by kernel_rfl) (quiet_q (op_len_slice rfl Try.underlying58)) ?_ ?_; (· (assumption)))
        (refine' TA_take 11 rfl rfl (by kernel_rfl) (quiet_q (op_move rfl)) ?_ ?_; (· (assumption)))
        (refine' TA_take 12 rfl rfl (by kernel_rfl) (quiet_q (op_bin rfl rfl ?_)) ?_ ?_; rotate_left 1; (· (exact bin_sub ⟨by omega, by omega⟩)); (· (assumption)))
        (refine' TA_take 13 rfl rfl (by kernel_rfl) (quiet_q (op_idxI ety_58 rfl rfl ?_ ?_)) ?_ ?_; (· omega); (· omega); (· (assumption)))
        (refine' TA_take 14 rfl rfl (by kernel_rfl) (quiet_q (op_ld rfl pl_9 ?_ ?_)) ?_ ?_; rotate_left 4; (· repeat ((first | exact List.mem_cons_self | apply List.mem_cons_of_mem))); (· (assumption)); (· (assumption)))
        refine' TA_take 15 rfl rfl (by kernel_rfl) (quiet_call hb_87 rfl (fun _ _ => refLow_S _ ?_)) ?_ ?_; (· (omega)); (· (assumption))
        (refine' TA_take 16 rfl rfl (by kernel_rfl) (quiet_q (op_assign rfl)) ?_ ?_; (· (assumption)))
        (refine' TA_take 17 rfl rfl (by kernel_rfl) (quiet_q (op_assign rfl)) ?_ ?_; (· (assumption)))
        refine TA_done (by kernel_rfl) ?_
        repeat ((first | with_reducible refine T_seq ?_ | with_reducible refine T_region ?_ | with_reducible refine TL_nil ?_ | with_reducible refine TQ_then ?_ | with_reducible refine T_skip ?_ | with_reducible refine T_ret ?_ | with_reducible refine TQ_then_ret ?_ | with_reducible refine TQ_block_ret ?_ | refine TL_q (op_move rfl) rfl ?_ | refine TL_q (op_assign rfl) rfl ?_ | (refine' TL_q (op_bin rfl rfl ?_) rfl ?_; rotate_left 1; (· (first | exact sbin_lss | exact sbin_gtr))) | (refine T_yes rfl ?_ ?_; (· (assumption))) | (refine T_no rfl ?_ ?_; (· (assumption)))))
        refine TQ_heap (fun w h => (h.sub (List.sublist_append_right _ _)).sub (List.sublist_append_right _ _)) ?_
        refine TQ_ret1 4 _ rfl rfl ?_
        exact ⟨by rw [hfin], rfl⟩
  · have hend := cmpR_end (xs := revL a) (ys := revL b) (j := j) (by omega) (by omega) (by omega)
    rw [ra, rb] at hend
    have fin : ∀ (K : Prop), (decide (((j + 1 : Nat) : Int) ≤ ((xa.length : Nat) : Int)) = false → K) → (decide (((j + 1 : Nat) : Int) ≤ ((xa.length : Nat) : Int)) = true → decide (((j + 1 : Nat) : Int) ≤ ((xb.length : Nat) : Int)) = false → K) → K := fun K k1 k2 => by
      by_cases hh : j < xa.length
      · exact k2 (decide_eq_true (by omega)) (decide_eq_false (by omega))
      · exact k1 (decide_eq_false (by omega))
    by_cases w1 : xa.length < xb.length
    · have u1 : decide (((xa.length : Nat) : Int) < ((xb.length : Nat) : Int)) = true := decide_eq_true (by omega)
      have hfin : cmpN a b = -1 := by rw [hC, hinv, hend, if_pos w1]
      refine fin _ (fun d1 => ?_) (fun d1 d2 => ?_)
      all_goals
        repeat ((first | with_reducible refine T_seq ?_ | with_reducible refine T_region ?_ | with_reducible refine TL_nil ?_ | with_reducible refine TQ_then ?_ | with_reducible refine T_exit ?_ | with_reducible refine T_ret ?_ | with_reducible refine TQ_then_exit ?_ | with_reducible refine TQ_then_ret ?_ | with_reducible refine TQ_block_exit ?_ | refine TL_q (op_move rfl) rfl ?_ | refine TL_q (op_assign rfl) rfl ?_ | (refine' TL_q (op_bin rfl rfl ?_) rfl ?_; rotate_left 1; (· (first | exact bin_lss | exact bin_leq))) | (refine' TL_q (op_pickT rfl ?_ rfl) rfl ?_; (· (assumption))) | (refine' TL_q (op_pickF rfl ?_ rfl) rfl ?_; (· (assumption))) | refine TL_q (op_len_slice rfl Try.underlying58) rfl ?_ | (refine TL_gpre rfl rfl ?_ ?_; (· (assumption))) | refine TL_gq2 (op_move rfl) rfl ?_ | (refine' TL_gq2 (op_bin rfl rfl ?_) rfl ?_; rotate_left 1; (· (exact bin_leq))) | refine TL_gq2 (op_len_slice rfl Try.underlying58) rfl ?_ | (refine TL_gno rfl rfl ?_ rfl ?_; (· (assumption))) | (refine T_yes rfl ?_ ?_; (· (assumption))) | (refine T_no rfl ?_ ?_; (· (first | with_reducible rfl | assumption)))))
        refine TQ_heap (fun w h => (h.sub (List.sublist_append_right _ _)).sub (List.sublist_append_right _ _)) ?_
        refine TQ_ret1 4 _ rfl rfl ?_
        exact ⟨by rw [hfin], rfl⟩
    · have u1 : decide (((xa.length : Nat) : Int) < ((xb.length : Nat) : Int)) = false := decide_eq_false (by omega)
      by_cases w2 : xb.length < xa.length
      · have u2 : decide (((xb.length : Nat) : Int) < ((xa.length : Nat) : Int)) = true := decide_eq_true (by omega)
        have hfin : cmpN a b = 1 := by rw [hC, hinv, hend, if_neg w1, if_pos w2]
        refine fin _ (fun d1 => ?_) (fun d1 d2 => ?_)
        all_goals
          repeat ((first | with_reducible refine T_seq ?_ | with_reducible refine T_region ?_ | with_reducible refine TL_nil ?_ | with_reducible refine TQ_then ?_ | with_reducible refine T_skip ?_ | with_reducible refine T_exit ?_ | with_reducible refine T_ret ?_ | with_reducible refine TQ_then_exit ?_ | with_reducible refine TQ_then_ret ?_ | with_reducible refine TQ_block_exit ?_ | refine TL_q (op_move rfl) rfl ?_ | refine TL_q (op_assign rfl) rfl ?_ | (refine' TL_q (op_bin rfl rfl ?_) rfl ?_; rotate_left 1; (· (first | exact bin_lss | exact bin_leq | exact bin_gtr))) | (refine' TL_q (op_pickT rfl ?_ rfl) rfl ?_; (· (assumption))) | (refine' TL_q (op_pickF rfl ?_ rfl) rfl ?_; (· (assumption))) | refine TL_q (op_len_slice rfl Try.underlying58) rfl ?_ | (refine TL_gpre rfl rfl ?_ ?_; (· (assumption))) | refine TL_gq2 (op_move rfl) rfl ?_ | (refine' TL_gq2 (op_bin rfl rfl ?_) rfl ?_; rotate_left 1; (· (exact bin_leq))) | refine TL_gq2 (op_len_slice rfl Try.underlying58) rfl ?_ | (refine TL_gno rfl rfl ?_ rfl ?_; (· (assumption))) | (refine T_yes rfl ?_ ?_; (· (assumption))) | (refine T_no rfl ?_ ?_; (· (first | with_reducible rfl | assumption)))))
          refine TQ_heap (fun w h => (h.sub (List.sublist_append_right _ _)).sub (List.sublist_append_right _ _)) ?_
          refine TQ_ret1 4 _ rfl rfl ?_
          exact ⟨by rw [hfin], rfl⟩
      · have u2 : decide (((xb.length : Nat) : Int) < ((xa.length : Nat) : Int)) = false := decide_eq_false (by omega)
        have hfin : cmpN a b = 0 := by rw [hC, hinv, hend, if_neg w1, if_neg w2]
        refine fin _ (fun d1 => ?_) (fun d1 d2 => ?_)
        all_goals
          repeat ((first | with_reducible refine T_seq ?_ | with_reducible refine T_region ?_ | with_reducible refine TL_nil ?_ | with_reducible refine TQ_then ?_ | with_reducible refine T_skip ?_ | with_reducible refine T_exit ?_ | with_reducible refine T_ret ?_ | with_reducible refine TQ_then_exit ?_ | with_reducible refine TQ_block_exit ?_ | refine TL_q (op_move rfl) rfl ?_ | refine TL_q (op_assign rfl) rfl ?_ | (refine' TL_q (op_bin rfl rfl ?_) rfl ?_; rotate_left 1; (· (first | exact bin_lss | exact bin_leq | exact bin_gtr))) | (refine' TL_q (op_pickT rfl ?_ rfl) rfl ?_; (· (assumption))) | (refine' TL_q (op_pickF rfl ?_ rfl) rfl ?_; (· (assumption))) | refine TL_q (op_len_slice rfl Try.underlying58) rfl ?_ | (refine TL_gpre rfl rfl ?_ ?_; (· (assumption))) | refine TL_gq2 (op_move rfl) rfl ?_ | (refine' TL_gq2 (op_bin rfl rfl ?_) rfl ?_; rotate_left 1; (· (exact bin_leq))) | refine TL_gq2 (op_len_slice rfl Try.underlying58) rfl ?_ | (refine TL_gno rfl rfl ?_ rfl ?_; (· (assumption))) | (refine T_no rfl ?_ ?_; (· (first | with_reducible rfl | assumption)))))
          refine TQ_heap (fun w h => (h.sub (List.sublist_append_right _ _)).sub (List.sublist_append_right _ _)) ?_
          refine TQ_ret1 4 _ rfl rfl ?_
          exact ⟨by rw [hfin], rfl⟩
end Go.Proofs.Ytdflhdfapnhjjaa
namespace Go.Proofs.Ytdflhdfapnhjjaa
open Go.RowKit
open Vd (RSet Vdt Vote Rec Quest Piece)
set_option linter.unusedVariables false
set_option linter.unusedSimpArgs false
--auto
variable {G : World} {L : Blocks}
theorem rsR.vals {cs : List Value} {s : RSet} (h : rsR L cs s) : ∃ a c, cs = [.string (bs s.name), .int .u16 s.kind, .int .u16 s.cls, .int .u32 s.ttl, .slice a s.data.length c] ∧ sliceR 1 strR L [.slice a s.data.length c] s.data ∧ s.name.length ≤ maxLen ∧ (0 ≤ s.kind ∧ s.kind ≤ 65535) ∧ (0 ≤ s.cls ∧ s.cls ≤ 65535) ∧ (0 ≤ s.ttl ∧ s.ttl ≤ 4294967295) := by
  obtain ⟨d, rfl, hd, h1, h2, h3, h4⟩ := h
  obtain ⟨a, c, e, hd⟩ := hd.val
  simp only [List.cons.injEq, and_true] at e
  subst e
  exact ⟨a, c, rfl, hd, h1, h2, h3, h4⟩
set_option maxRecDepth 100000 in
theorem Before_S (ca cb : List Value) (a b : RSet) {K : Blocks} (ha : rsR K ca a) (hb : rsR K cb b) (h1 : a.name.length ≤ 1000000) (h2 : b.name.length ≤ 1000000) : Spec Try.prog G 101 #[.agg ca.toArray, .agg cb.toArray] L fun u M => u = .bool (Vd.before a b) ∧ M = L := by
  obtain ⟨aa, ka, rfl, _⟩ := ha.val
  obtain ⟨ab, kb, rfl, _⟩ := hb.val
  refine Spec_of (n := 30) Try.func101 rfl rfl rfl ?_
  repeat' ((first | with_reducible refine T_seq ?_ | with_reducible refine T_region ?_ | with_reducible refine TL_nil ?_ | with_reducible refine TQ_then ?_ | with_reducible refine T_skip ?_ | with_reducible refine T_ret ?_ | with_reducible refine TQ_then_ret ?_ | refine TL_q (op_move rfl) rfl ?_ | refine TL_q (op_assign rfl) rfl ?_ | (refine' TL_q (op_bin rfl rfl ?_) rfl ?_; rotate_left 1; (· (first | exact bin_neq | exact bin_lss))) | refine TL_q (op_fld rfl fld_60_0) rfl ?_ | refine TL_q (op_fld rfl fld_60_1) rfl ?_ | refine TL_q (op_fld rfl fld_60_2) rfl ?_ | (refine' TL_q (op_ld rfl pl_9 ?_ ?_) rfl ?_; rotate_left 4; (· repeat ((first | exact List.mem_cons_self | apply List.mem_cons_of_mem))); (· (rfl))) | (refine' TL_op (op_call hb_126 rfl (refCompare_S _ _ ?_ ?_)) rfl ?_; (· (omega)); (· (omega))) | (refine TL_new (op_boxA rfl) rfl ?_; intro bBox) | refine T_condN rfl (fun hc => ?_) (fun hc => ?_)))
  all_goals (refine TQ_heap (fun w h => h.tail.tail) ?_)
  all_goals
    refine TQ_ret1 4 _ rfl rfl ?_
  all_goals (refine ⟨?_, rfl⟩; simp [Vd.before, *])
set_option maxRecDepth 100000 in
theorem time_S (t : Int) : Spec Try.prog G 99 #[.int .u32 t] L fun u M => u = .int .u32 (Vd.timeT t) ∧ M = L := by
  refine Spec_of (n := 6) Try.func99 rfl rfl rfl ?_
  repeat' ((first | with_reducible refine T_seq ?_ | with_reducible refine T_region ?_ | with_reducible refine TL_nil ?_ | with_reducible refine TQ_then ?_ | with_reducible refine T_skip ?_ | with_reducible refine T_ret ?_ | with_reducible refine TQ_then_ret ?_ | refine TL_q (op_move rfl) rfl ?_ | refine TL_q (op_assign rfl) rfl ?_ | (refine' TL_q (op_bin rfl rfl ?_) rfl ?_; rotate_left 1; (· (exact bin_gtr))) | refine T_condD rfl (fun hc => ?_) (fun hc => ?_) | refine TQ_ret1 2 _ rfl rfl ?_))
  all_goals (refine ⟨?_, rfl⟩; simp [Vd.timeT, *])
theorem op_pushS {P : Program} {ρ : Slots} {ty : TypeId} {s x : Operand} {t e te : TypeId} {bytes bl : Nat} {z : Value} {a : Option Addr} {c : Nat} {y : Vd.Bytes} {l : List Vd.Bytes} {B L0 : Blocks} (E : ElemTy P t e 1 bytes z) (hs : ev ρ s = some (.slice a l.length c)) (hx : ev ρ x = some (.slice (some ⟨bl, 0, none⟩) 1 1))
    (hrow : ORow strR e 1 L0 a c l B) (hy : y.length ≤ maxLen) (h63 : l.length ≤ 1000000) (hb : bytes ≤ 1000) :
    OpT P G ρ ((bl, .cells #[.string (bs y)] te (0, 0)) :: (B ++ L)) (.call ⟨.builtin .append, #[s, x], #[t, t]⟩) ty fun v' L' => ∃ a' c' B', v' = .slice a' (l ++ [y]).length c' ∧ ORow strR e 1 L0 a' c' (l ++ [y]) B' ∧ L' = B' ++ L :=
  op_push (cs := [.string (bs y)]) E hs hx hrow rfl (by intro v hv; rw [List.mem_singleton.1 hv]; rfl) ⟨rfl, hy⟩ (by unfold maxLen; omega) (Nat.le_trans (Nat.mul_le_mul (show l.length + 1 ≤ 1000001 by omega) hb) (by decide))
theorem strs_cut' {a : Option Addr} {m c : Nat} {l : List Vd.Bytes} (h : sliceR 1 strR L [.slice a m c] l) : (∀ x ∈ l, x.length ≤ maxLen) := by
  obtain ⟨_, _, _, h4⟩ := sliceR.cut h
  intro x hx
  rcases h4 with rfl | ⟨b, off, C, te, fr, q1, q2, q3⟩
  · simp at hx
  · obtain ⟨i, hi⟩ := List.getElem?_of_mem hx
    obtain ⟨cs', k1, ⟨k2, k4⟩, k3⟩ := q3 i x hi
    exact k4
set_option maxRecDepth 100000 in
set_option maxHeartbeats 2000000 in
theorem put_S (v : Value) (l : List Vd.Bytes) (s : Vd.Bytes) (hl : sliceR 1 strR L [v] l) (hn : l.length ≤ 100000) (hs : s.length ≤ maxLen) : Spec Try.prog G 100 #[v, .string (bs s)] L fun u M =>
    (u = v ∧ Vd.put l s = l ∧ M = L) ∨ ∃ a c B, u = .slice a (Vd.put l s).length c ∧ ORow strR 9 1 L a c (Vd.put l s) B ∧ M = B ++ L := by
  obtain ⟨a, c, e1, hl⟩ := hl.val
  simp only [List.cons.injEq, and_true] at e1
  subst e1
  have hle := strs_cut' hl
  obtain ⟨_, k1, k2, hl⟩ := strs_cut hl
  unfold maxLen at k2
  refine Spec_of (n := 49) Try.func100 rfl rfl rfl ?_
  repeat ((first | with_reducible refine T_seq ?_ | with_reducible refine T_block ?_ | with_reducible refine T_region ?_ | with_reducible refine TL_nil ?_ | with_reducible refine TQ_then ?_ | refine TL_q (op_assign rfl) rfl ?_))
  refine T_loopS (σ := Nat × List Vd.Bytes × Bool × Option Addr × Nat × Blocks) (fun x => x.1 ≤ l.length ∧ x.2.1.length ≤ x.1 + (if x.2.2.1 then 1 else 0) ∧ Vd.putGo s (l.drop x.1) x.2.1 x.2.2.1 = Vd.putGo s l [] false ∧ ORow strR 9 1 L x.2.2.2.1 x.2.2.2.2.1 x.2.1 x.2.2.2.2.2)
    (fun x => [(0, .slice a l.length c), (1, .string (bs s)), (5, .slice x.2.2.2.1 x.2.1.length x.2.2.2.2.1), (6, .bool x.2.2.1), (7, .int .i64 (x.1 : Nat))]) (fun x => x.2.2.2.2.2 ++ L) (fun x => l.length - x.1) (0, [], false, none, 0, []) ⟨Nat.zero_le _, by simp, rfl, ORow.nil _⟩ ?_ (fun w h => h) ?_
  (repeat ((first | exact trivial | refine ⟨rfl, ?_⟩)))
  rintro ⟨k, out, done, ao, co, B⟩ ⟨h1, h2, h3, h4⟩
  dsimp only at h1 h2 h3 h4 ⊢
  by_cases hlt : k < l.length
  · rcases hl with rfl | ⟨b1, o1, C1, t1, f1, rfl, m1, q1⟩
    · simp at hlt
    have m2 : (b1, Obj.cells C1 t1 f1) ∈ B ++ L := List.mem_append_right _ m1
    have hd := List.drop_eq_getElem_cons hlt
    obtain ⟨x, hx⟩ : ∃ x, l[k]? = some x := ⟨_, List.getElem?_eq_getElem hlt⟩
    have hx' : l[k] = x := by rw [List.getElem?_eq_getElem hlt] at hx; exact Option.some.inj hx
    rw [hx'] at hd
    have r1 := q1 k x hx
    have hxl := hle x (List.mem_of_getElem? hx)
    rw [hd] at h3
    simp only [Vd.putGo] at h3
    by_cases hxs : x = s
    · rw [if_pos hxs] at h3
      subst hxs
      repeat ((first | with_reducible refine T_seq ?_ | with_reducible refine T_block ?_ | with_reducible refine T_region ?_ | with_reducible refine TL_nil ?_ | with_reducible refine TQ_then ?_ | with_reducible refine T_skip ?_ | with_reducible refine T_ret ?_ | with_reducible refine TQ_then_ret ?_ | with_reducible refine TQ_block_ret ?_ | refine TL_q (op_move rfl) rfl ?_ | refine TL_q (op_assign rfl) rfl ?_ | (refine' TL_q (op_bin rfl rfl ?_) rfl ?_; rotate_left 1; (· (first | exact bin_lss | exact sbin_eql))) | refine TL_q (op_len_slice rfl Try.underlying58) rfl ?_ | (refine' TL_q (op_idx ety_58 rfl rfl ?_) rfl ?_; (· omega)) | (refine' TL_q (op_ld rfl pl_9 ?_ ?_) rfl ?_; rotate_left 4; (· repeat ((assumption))); (· (assumption))) | (refine T_yes rfl ?_ ?_; (· (first | exact dT (by (first | assumption | omega)) | exact eT (by (with_reducible rfl)))))))
      refine TQ_heap (fun w h => h.sub (List.sublist_append_right _ _)) ?_
      refine TQ_ret1 4 _ rfl rfl ?_
      refine Or.inl ⟨rfl, ?_, rfl⟩
      unfold Vd.put
      rw [← h3]
    · rw [if_neg hxs] at h3
      have hgo : ∀ (out' : List Vd.Bytes) (done' : Bool), (out' = out ∧ done' = done ∧ (done = true ∨ Vd.gtB x s = false)) ∨ (out' = out ++ [s] ∧ done' = true ∧ done = false ∧ Vd.gtB x s = true) → True := fun _ _ _ => trivial
      have hbl : (if done then 1 else 0 : Nat) ≤ 1 := by split <;> omega
      by_cases hg : done = false ∧ Vd.gtB x s = true
      · obtain ⟨rfl, hg⟩ := hg
        rw [if_pos (by simp [hg])] at h3
        have hg' : (!(Op.bytesLess x s || x == s)) = true := hg
        simp only [Bool.false_eq_true, if_false] at h2
        repeat ((first | with_reducible refine T_seq ?_ | with_reducible refine T_block ?_ | with_reducible refine T_region ?_ | with_reducible refine TL_nil ?_ | with_reducible refine TQ_then ?_ | with_reducible refine T_skip ?_ | refine TL_q (op_move rfl) rfl ?_ | (refine' TL_q (op_bin rfl rfl ?_) rfl ?_; rotate_left 1; (· (first | exact bin_lss | exact sbin_eql))) | refine TL_q (op_not rfl) rfl ?_ | (refine' TL_q (op_pickT rfl ?_ rfl) rfl ?_; (· (exact Bool.not_false))) | refine TL_q (op_len_slice rfl Try.underlying58) rfl ?_ | (refine' TL_q (op_idx ety_58 rfl rfl ?_) rfl ?_; (· omega)) | (refine' TL_q (op_ld rfl pl_9 ?_ ?_) rfl ?_; rotate_left 4; (· repeat ((assumption))); (· (assumption))) | (refine TL_gpre rfl rfl ?_ ?_; (· (exact Bool.not_false))) | refine TL_gq2 (op_move rfl) rfl ?_ | (refine' TL_gq2 (op_bin rfl rfl ?_) rfl ?_; rotate_left 1; (· (exact sbin_gtr))) | (refine' TL_gq2 (op_idx ety_58 rfl rfl ?_) rfl ?_; (· omega)) | (refine' TL_gq2 (op_ld rfl pl_9 ?_ ?_) rfl ?_; rotate_left 4; (· repeat ((assumption))); (· (assumption))) | (refine TL_new (op_lit1 ety_58 rfl rfl) rfl ?_; intro bLit) | (refine T_yes rfl ?_ ?_; (· (first | assumption | exact dT (by (first | assumption | omega))))) | (refine T_no rfl ?_ ?_; (· (exact eF (by (assumption)))))))
        refine TL_opT (op_pushS (y := s) ety_58 rfl rfl h4 hs (by omega) (by decide)) rfl ?_
        rintro _ _ ⟨a', c', B', rfl, hB', rfl⟩
        have m3 : (b1, Obj.cells C1 t1 f1) ∈ B' ++ L := List.mem_append_right _ m1
        repeat ((first | with_reducible refine T_region ?_ | with_reducible refine TL_nil ?_ | with_reducible refine TQ_then ?_ | refine TL_q (op_move rfl) rfl ?_ | refine TL_q (op_assign rfl) rfl ?_ | (refine' TL_q (op_idx ety_58 rfl rfl ?_) rfl ?_; (· omega)) | (refine' TL_q (op_ld rfl pl_9 ?_ ?_) rfl ?_; rotate_left 4; (· repeat ((assumption))); (· (assumption))) | (refine TL_new (op_lit1 ety_58 rfl rfl) rfl ?_; intro bLit)))
        refine TL_opT (op_pushS (y := x) ety_58 rfl rfl hB' hxl (by simp; omega) (by decide)) rfl ?_
        rintro _ _ ⟨a2, c2, B2, rfl, hB2, rfl⟩
        repeat ((first | with_reducible refine T_region ?_ | with_reducible refine TL_nil ?_ | with_reducible refine TQ_then ?_ | with_reducible refine TQ_block ?_ | refine TL_q (op_move rfl) rfl ?_ | refine TL_q (op_assign rfl) rfl ?_ | (refine' TL_q (op_bin rfl rfl ?_) rfl ?_; rotate_left 1; (· (exact bin_add ⟨by omega, by omega⟩)))))
        refine TQ_roundS (k + 1, (out ++ [s]) ++ [x], true, a2, c2, B2) ⟨hlt, by simp; omega, h3, hB2⟩ ?_ (fun w h => h) (by dsimp only; omega)
        (repeat ((first | exact trivial | refine ⟨rfl, ?_⟩)))
      · rw [if_neg (by simpa using hg)] at h3
        have hg3 : done = true ∨ (done = false ∧ (!(Op.bytesLess x s || x == s)) = false) := by
          cases done with
          | true => exact Or.inl rfl
          | false => exact Or.inr ⟨rfl, by have : Vd.gtB x s = false := by simpa using hg
                                           exact this⟩
        rcases hg3 with rfl | ⟨rfl, hg4⟩
        · simp only [if_true] at h2
          repeat ((first | with_reducible refine T_seq ?_ | with_reducible refine T_block ?_ | with_reducible refine T_region ?_ | with_reducible refine TL_nil ?_ | with_reducible refine TQ_then ?_ | with_reducible refine T_skip ?_ | refine TL_q (op_move rfl) rfl ?_ | (refine' TL_q (op_bin rfl rfl ?_) rfl ?_; rotate_left 1; (· (first | exact bin_lss | exact sbin_eql))) | refine TL_q (op_not rfl) rfl ?_ | (refine' TL_q (op_pickF rfl ?_ rfl) rfl ?_; (· (exact Bool.not_true))) | refine TL_q (op_len_slice rfl Try.underlying58) rfl ?_ | (refine' TL_q (op_idx ety_58 rfl rfl ?_) rfl ?_; (· omega)) | (refine' TL_q (op_ld rfl pl_9 ?_ ?_) rfl ?_; rotate_left 4; (· repeat ((assumption))); (· (assumption))) | (refine TL_gno rfl rfl ?_ rfl ?_; (· (with_reducible rfl))) | (refine TL_new (op_lit1 ety_58 rfl rfl) rfl ?_; intro bLit) | (refine T_yes rfl ?_ ?_; (· (exact dT (by (first | assumption | omega))))) | (refine T_no rfl ?_ ?_; (· (first | with_reducible rfl | exact eF (by (assumption)))))))
          refine TL_opT (op_pushS (y := x) ety_58 rfl rfl h4 hxl (by omega) (by decide)) rfl ?_
          rintro _ _ ⟨a2, c2, B2, rfl, hB2, rfl⟩
          repeat ((first | with_reducible refine T_region ?_ | with_reducible refine TL_nil ?_ | with_reducible refine TQ_then ?_ | with_reducible refine TQ_block ?_ | refine TL_q (op_move rfl) rfl ?_ | refine TL_q (op_assign rfl) rfl ?_ | (refine' TL_q (op_bin rfl rfl ?_) rfl ?_; rotate_left 1; (· (exact bin_add ⟨by omega, by omega⟩)))))
          refine TQ_roundS (k + 1, out ++ [x], true, a2, c2, B2) ⟨hlt, by simp; omega, h3, hB2⟩ ?_ (fun w h => h) (by dsimp only; omega)
          (repeat ((first | exact trivial | refine ⟨rfl, ?_⟩)))
        · simp only [Bool.false_eq_true, if_false] at h2
          repeat ((first | with_reducible refine T_seq ?_ | with_reducible refine T_block ?_ | with_reducible refine T_region ?_ | with_reducible refine TL_nil ?_ | with_reducible refine TQ_then ?_ | with_reducible refine T_skip ?_ | refine TL_q (op_move rfl) rfl ?_ | (refine' TL_q (op_bin rfl rfl ?_) rfl ?_; rotate_left 1; (· (first | exact bin_lss | exact sbin_eql))) | refine TL_q (op_not rfl) rfl ?_ | (refine' TL_q (op_pickT rfl ?_ rfl) rfl ?_; (· (exact Bool.not_false))) | refine TL_q (op_len_slice rfl Try.underlying58) rfl ?_ | (refine' TL_q (op_idx ety_58 rfl rfl ?_) rfl ?_; (· omega)) | (refine' TL_q (op_ld rfl pl_9 ?_ ?_) rfl ?_; rotate_left 4; (· repeat ((assumption))); (· (assumption))) | (refine TL_gpre rfl rfl ?_ ?_; (· (exact Bool.not_false))) | refine TL_gq2 (op_move rfl) rfl ?_ | (refine' TL_gq2 (op_bin rfl rfl ?_) rfl ?_; rotate_left 1; (· (exact sbin_gtr))) | (refine' TL_gq2 (op_idx ety_58 rfl rfl ?_) rfl ?_; (· omega)) | (refine' TL_gq2 (op_ld rfl pl_9 ?_ ?_) rfl ?_; rotate_left 4; (· repeat ((assumption))); (· (assumption))) | (refine TL_new (op_lit1 ety_58 rfl rfl) rfl ?_; intro bLit) | (refine T_yes rfl ?_ ?_; (· (exact dT (by (first | assumption | omega))))) | (refine T_no rfl ?_ ?_; (· (first | assumption | exact eF (by (assumption)))))))
          refine TL_opT (op_pushS (y := x) ety_58 rfl rfl h4 hxl (by omega) (by decide)) rfl ?_
          rintro _ _ ⟨a2, c2, B2, rfl, hB2, rfl⟩
          repeat ((first | with_reducible refine T_region ?_ | with_reducible refine TL_nil ?_ | with_reducible refine TQ_then ?_ | with_reducible refine TQ_block ?_ | refine TL_q (op_move rfl) rfl ?_ | refine TL_q (op_assign rfl) rfl ?_ | (refine' TL_q (op_bin rfl rfl ?_) rfl ?_; rotate_left 1; (· (exact bin_add ⟨by omega, by omega⟩)))))
          refine TQ_roundS (k + 1, out ++ [x], false, a2, c2, B2) ⟨hlt, by simp; omega, h3, hB2⟩ ?_ (fun w h => h) (by dsimp only; omega)
          (repeat ((first | exact trivial | refine ⟨rfl, ?_⟩)))
  · have hkn : k = l.length := by omega
    subst hkn
    rw [List.drop_length] at h3
    simp only [Vd.putGo] at h3
    have hp : Vd.put l s = if done then out else out ++ [s] := by unfold Vd.put; rw [← h3]
    cases done with
    | true =>
      repeat' ((first | with_reducible refine T_seq ?_ | with_reducible refine T_region ?_ | with_reducible refine TL_nil ?_ | with_reducible refine TQ_then ?_ | with_reducible refine T_skip ?_ | with_reducible refine T_exit ?_ | with_reducible refine T_ret ?_ | with_reducible refine TQ_then_exit ?_ | with_reducible refine TQ_block_exit ?_ | refine TL_q (op_move rfl) rfl ?_ | refine TL_q (op_assign rfl) rfl ?_ | (refine' TL_q (op_bin rfl rfl ?_) rfl ?_; rotate_left 1; (· (exact bin_lss))) | refine TL_q (op_not rfl) rfl ?_ | refine TL_q (op_len_slice rfl Try.underlying58) rfl ?_ | (refine T_no rfl ?_ ?_; (· (first | exact Bool.not_true | exact dF (by (omega))))) | refine TQ_ret1 4 _ rfl rfl ?_))
      rw [hp]
      exact Or.inr ⟨_, _, _, rfl, h4, rfl⟩
    | false =>
      simp only [Bool.false_eq_true, if_false] at h2
      repeat ((first | with_reducible refine T_seq ?_ | with_reducible refine T_region ?_ | with_reducible refine TL_nil ?_ | with_reducible refine TQ_then ?_ | with_reducible refine T_exit ?_ | with_reducible refine TQ_then_exit ?_ | with_reducible refine TQ_block_exit ?_ | refine TL_q (op_move rfl) rfl ?_ | (refine' TL_q (op_bin rfl rfl ?_) rfl ?_; rotate_left 1; (· (exact bin_lss))) | refine TL_q (op_not rfl) rfl ?_ | refine TL_q (op_len_slice rfl Try.underlying58) rfl ?_ | (refine TL_new (op_lit1 ety_58 rfl rfl) rfl ?_; intro bLit) | (refine T_yes rfl ?_ ?_; (· (exact Bool.not_false))) | (refine T_no rfl ?_ ?_; (· (exact dF (by (omega)))))))
      refine TL_opT (op_pushS (y := s) ety_58 rfl rfl h4 hs (by omega) (by decide)) rfl ?_
      rintro _ _ ⟨a2, c2, B2, rfl, hB2, rfl⟩
      repeat' ((first | with_reducible refine T_seq ?_ | with_reducible refine T_region ?_ | with_reducible refine TL_nil ?_ | with_reducible refine TQ_then ?_ | with_reducible refine T_ret ?_ | refine TL_q (op_move rfl) rfl ?_ | refine TL_q (op_assign rfl) rfl ?_ | refine TQ_ret1 4 _ rfl rfl ?_))
      rw [hp]
      exact Or.inr ⟨_, _, _, rfl, hB2, rfl⟩
end Go.Proofs.Ytdflhdfapnhjjaa
