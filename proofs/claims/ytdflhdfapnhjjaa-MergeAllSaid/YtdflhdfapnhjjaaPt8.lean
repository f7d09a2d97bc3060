/-
  Part 8: Gs Gt Gu Gv.
-/
import Derived.Test.YtdflhdfapnhjjaaPt7
import Derived.Test.YtdflhdfapnhjjaaShelf
import Derived.Sort.OwnSorted
namespace Go.Proofs.Ytdflhdfapnhjjaa
open Go.RowKit
open Vd (RSet Vdt Vote Rec Quest Piece Ballot Said)
set_option linter.unusedVariables false
set_option linter.unusedSimpArgs false
--auto
section
variable {G : World} {P : Program} {n : Nat} {ρ : Slots} {L : Blocks} {ty : TypeId} {Q : Exit → Act → World → Prop} {ops : Array Oper} {K : Blocks} {W : List Nat} {fuel : Nat} {listed : Array Bool}
theorem TA_oneGd (i : Nat) {d j dj : Nat} {want b : Bool} {op : Op} {pos : String} {after : Array Edge} {Φ : Value → Blocks → Prop} (hr : Region.ready .any ops listed = [i]) (hi : ops[i]? = some ⟨some d, op, ty, pos, after, some (j, want)⟩) (hdn : Nat.blt d n = true)
    (hs : guardSlot ops j = some dj) (hv : ρ.lookup dj = some (.bool b)) (hb : b = want)
    (hO : OpT P G ρ L op ty Φ) (h : ∀ v L', Φ v L' → (i ∈ W ∨ ∀ p ∈ K, p ∈ L') ∧ TA P G ops n K W Q fuel (listed.setIfInBounds i true) ((d, v) :: ρ) L') : TA P G ops n K W Q (fuel + 1) listed ρ L := by
  refine ⟨fun h0 => (by rw [hr] at h0; cases h0), fun k hk => ?_⟩
  rw [hr] at hk
  obtain rfl : k = i := by simpa using hk
  exact ⟨_, hi, fun d' e => by cases e; simpa using hdn, true, ⟨dj, _, hs, hv, by simp [gsay, hb]⟩, Or.inl ⟨rfl, Φ, hO, h⟩⟩
end
variable {G : World} {L : Blocks}
theorem vdR.vals {L : Blocks} {cs : List Value} {v : Vdt} (h : vdR L cs v) : ∃ a1 c1 a2 c2, cs = [.int .u8 v.code, .slice a1 v.sets.length c1, .slice a2 v.soa.length c2] ∧ sliceR 5 rsR L [.slice a1 v.sets.length c1] v.sets ∧ sliceR 5 rsR L [.slice a2 v.soa.length c2] v.soa ∧ (0 ≤ v.code ∧ v.code ≤ 255) := by
  obtain ⟨a, b, rfl, h1, h2, h3⟩ := h
  obtain ⟨a1, c1, e1, h1⟩ := h1.val
  obtain ⟨a2, c2, e2, h2⟩ := h2.val
  simp only [List.cons.injEq, and_true] at e1 e2
  subst e1 e2
  exact ⟨a1, c1, a2, c2, rfl, h1, h2, h3⟩
theorem firstAt_lt (l : List Vote) : ∀ j, j ≤ l.length → 0 < l.length → Vd.firstAt l j < l.length
  | 0, _, h => h
  | j + 1, hj, h => by
    have ih := firstAt_lt l j (by omega) h
    rw [Vd.firstAt, List.getElem?_eq_getElem (by omega), List.getElem?_eq_getElem ih]
    dsimp only
    split <;> omega
theorem minTime_snoc (l : List Vote) (x : Vote) (t : Int) : Vd.minTime (l ++ [x]) t = min (Vd.minTime l t) x.time := by simp [Vd.minTime]
theorem minTime_bd : ∀ (l : List Vote) (t : Int), (∀ x ∈ l, 0 ≤ x.time ∧ x.time ≤ 4294967295) → 0 ≤ t ∧ t ≤ 4294967295 → 0 ≤ Vd.minTime l t ∧ Vd.minTime l t ≤ 4294967295
  | [], t, _, h => h
  | s :: l, t, hl, h => by
    have := hl s (List.mem_cons_self ..)
    exact minTime_bd l (min t s.time) (fun x hx => hl x (List.mem_cons_of_mem _ hx)) (by omega)
theorem votes_time {L K : Blocks} {cs : List Value} {l : List Vote} (h : sliceR 5 (fun _ => voteR K) L cs l) : ∀ y ∈ l, 0 ≤ y.time ∧ y.time ≤ 4294967295 := fun y hy => by
  obtain ⟨a, cap, _, _, _, h4⟩ := h
  rcases h4 with rfl | ⟨b, off, C, te, fr, _, _, q3⟩
  · simp at hy
  · obtain ⟨i, hi⟩ := List.getElem?_of_mem hy
    obtain ⟨cs', _, h5, _⟩ := q3 i y hi
    obtain ⟨_, _, _, _, _, _, _, _, k, _⟩ := h5.vals
    exact k
theorem alikeV_snoc (l : List Vote) (x : Vote) (w : Vdt) : Vd.alikeV (l ++ [x]) w = (Vd.alikeV l w && decide (x.vd = w)) := by simp [Vd.alikeV]
theorem endsPut_snoc (q : Quest) (l : List Vote) (x : Vote) (d : List Vd.Bytes) : Vd.endsPut q (l ++ [x]) d = if (Vd.endV q x.vd).2 then (Vd.endV q x.vd).1.data.foldl Vd.put (Vd.endsPut q l d) else Vd.endsPut q l d := by simp [Vd.endsPut]
theorem foldPut_len : ∀ (l d : List Vd.Bytes), (l.foldl Vd.put d).length ≤ d.length + l.length
  | [], d => Nat.le_refl _
  | x :: l, d => by
    have h1 := foldPut_len l (Vd.put d x)
    have h2 := put_len d x
    rw [List.foldl_cons, List.length_cons]
    omega
theorem endsPut_len (q : Quest) (n : Nat) (l : List Vote) (hl : ∀ v ∈ l, (Vd.endV q v.vd).1.data.length ≤ n) : ∀ i, i ≤ l.length → (Vd.endsPut q (l.take i) []).length ≤ i * n
  | 0, _ => by simp [Vd.endsPut]
  | i + 1, h => by
    have ih := endsPut_len q n l hl i (by omega)
    have hx : l[i]? = some l[i] := List.getElem?_eq_getElem (by omega)
    rw [List.take_add_one, hx]
    simp only [Option.toList_some]
    rw [endsPut_snoc, Nat.succ_mul]
    have := hl l[i] (List.getElem_mem _)
    split
    · have := foldPut_len (Vd.endV q l[i].vd).1.data (Vd.endsPut q (l.take i) [])
      omega
    · omega
set_option maxRecDepth 100000 in
set_option maxHeartbeats 4000000 in
theorem rUnion_S {K : Blocks} (v : Value) (q : Quest) (l : List Vote) (hKL : ∀ p ∈ K, p ∈ L) (hq1 : q.name.length ≤ 1000000) (hq2 : 0 ≤ q.kind ∧ q.kind ≤ 65535) (hq3 : 0 ≤ q.cls ∧ q.cls ≤ 65535) (hl : sliceR 5 (fun _ => voteR K) L [v] l) (hn : l.length ≤ 100) (hd : ∀ x ∈ l, (Vd.endV q x.vd).1.data.length ≤ 500 ∧ ∀ d ∈ (Vd.endV q x.vd).1.data, d.length ≤ 1000000) :
    Spec Try.prog G 21 #[.agg #[.string (bs q.name), .int .u16 q.kind, .int .u16 q.cls], v] L fun u M => ∃ cs X, u = .tuple #[.agg cs.toArray, .int .u32 (Vd.union q l).2.1, .bool (Vd.union q l).2.2] ∧ vdR M cs (Vd.union q l).1 ∧ M = X ++ L := by
  obtain ⟨av, cv, e1, hl⟩ := hl.val
  simp only [List.cons.injEq, and_true] at e1
  subst e1
  have hl0 := hl
  obtain ⟨_, ka1, ka2, hl⟩ := sliceR.cut hl
  refine Spec_of (n := 118) Try.func21 rfl rfl rfl ?_
  refine T_seq (T_region (TL_new (op_boxA rfl) rfl ?_))
  intro bQ
  refine TL_new (op_alloc (C := #[.int .u8 0, .slice none 0 0, .slice none 0 0]) zero_42 rfl) rfl ?_
  intro b4
  cases l with
  | nil =>
    have hU : Vd.union q [] = (Vdt.none, 0, false) := rfl
    rw [hU]
    have h0 : ((([] : List Vote).length : Nat) : Int) = 0 := rfl
    cases hm : Nm.may q.name with
    | false =>
      repeat ((first | with_reducible refine T_seq ?_ | with_reducible refine T_region ?_ | with_reducible refine TL_nil ?_ | with_reducible refine TQ_then ?_ | with_reducible refine T_ret ?_ | with_reducible refine TQ_then_ret ?_ | refine TL_q (op_move rfl) rfl ?_ | refine TL_q (op_assign rfl) rfl ?_ | refine TL_q (op_not rfl) rfl ?_ | (refine' TL_q (op_pickT rfl ?_ rfl) rfl ?_; (· (exact xT (by (assumption))))) | refine TL_q (op_fld rfl fld_34_0) rfl ?_ | (refine' TL_q (op_ld rfl pl_3 ?_ ?_) rfl ?_; rotate_left 4; (· repeat ((first | exact List.mem_cons_self | apply List.mem_cons_of_mem))); (· (rfl))) | (refine' TL_op (op_call hb_58 rfl (refMay_S _ ?_)) rfl ?_; (· (omega))) | (refine TL_gno rfl rfl ?_ rfl ?_; (· (exact xT (by (assumption))))) | (refine TL_stAll rfl rfl st_42 rfl rfl rfl ?_) | refine TL_q (op_build rfl (bl_42_ )) rfl ?_ | (refine T_yes rfl ?_ ?_; (· (with_reducible rfl)))))
      refine TQ_retC3 4 42 5 6 rfl rfl rfl rfl st_42 (by repeat ((exact List.mem_cons_self))) rfl (fun w h => Heap.cnt (L' := [] ++ L) h (by intro p; (try simp only [cnt_append, cnt_cons, cnt_nil]) <;> omega)) ?_
      exact ⟨[.int .u8 0, .slice none 0 0, .slice none 0 0], [], rfl, ⟨_, _, rfl, sliceR.nil, sliceR.nil, by simp [Vdt.none]⟩, rfl⟩
    | true =>
      repeat ((first | with_reducible refine T_seq ?_ | with_reducible refine T_region ?_ | with_reducible refine TL_nil ?_ | with_reducible refine TQ_then ?_ | with_reducible refine T_ret ?_ | with_reducible refine TQ_then_ret ?_ | refine TL_q (op_move rfl) rfl ?_ | refine TL_q (op_assign rfl) rfl ?_ | refine TL_q (op_not rfl) rfl ?_ | (refine' TL_q (op_pickF rfl ?_ rfl) rfl ?_; (· (exact xF (by (assumption))))) | refine TL_q (op_fld rfl fld_34_0) rfl ?_ | (refine' TL_q (op_ld rfl pl_3 ?_ ?_) rfl ?_; rotate_left 4; (· repeat ((first | exact List.mem_cons_self | apply List.mem_cons_of_mem))); (· (rfl))) | (refine' TL_op (op_call hb_58 rfl (refMay_S _ ?_)) rfl ?_; (· (omega))) | (refine TL_gpre rfl rfl ?_ ?_; (· (exact xF (by (assumption))))) | refine TL_gq2 (op_move rfl) rfl ?_ | (refine' TL_gq2 (op_bin rfl rfl ?_) rfl ?_; rotate_left 1; (· (exact bin_eql))) | refine TL_gq2 (op_len_slice rfl Try.underlying50) rfl ?_ | (refine TL_stAll rfl rfl st_42 rfl rfl rfl ?_) | refine TL_q (op_build rfl (bl_42_ )) rfl ?_ | (refine T_yes rfl ?_ ?_; (· (exact Bool.not_false)))))
      refine TQ_retC3 4 42 5 6 rfl rfl rfl rfl st_42 (by repeat ((exact List.mem_cons_self))) rfl (fun w h => Heap.cnt (L' := [] ++ L) h (by intro p; (try simp only [cnt_append, cnt_cons, cnt_nil]) <;> omega)) ?_
      exact ⟨[.int .u8 0, .slice none 0 0, .slice none 0 0], [], rfl, ⟨_, _, rfl, sliceR.nil, sliceR.nil, by simp [Vdt.none]⟩, rfl⟩
  | cons w r =>
  obtain ⟨l, hll⟩ : ∃ l, w :: r = l := ⟨_, rfl⟩
  have hlpos : 0 < l.length := by rw [← hll]; simp
  have hw0 : l[0]? = some w := by rw [← hll]; rfl
  have hlne : ¬ ((l.length : Nat) : Int) = 0 := by omega
  have hU : Vd.union q l = if !Nm.may q.name then ((Vdt.none, 0, false) : Vdt × Int × Bool) else if Vd.alikeV l w.vd || decide (Vd.endsPut q l [] = []) then (match l[Vd.firstAt l l.length]? with | some x => x.vd | none => Vdt.none, Vd.minTime l w.time, true) else (⟨0, [⟨Nm.fold q.name, q.kind, q.cls, 0, Vd.endsPut q l []⟩], []⟩, Vd.minTime l w.time, true) := by rw [← hll]; rfl
  rw [hll] at hl hl0 hn hd ka1 ⊢
  cases hm : Nm.may q.name with
  | false =>
    rw [hm] at hU
    simp only [Bool.not_false, if_true] at hU
    rw [hU]
    repeat ((first | with_reducible refine T_seq ?_ | with_reducible refine T_region ?_ | with_reducible refine TL_nil ?_ | with_reducible refine TQ_then ?_ | with_reducible refine T_ret ?_ | with_reducible refine TQ_then_ret ?_ | refine TL_q (op_move rfl) rfl ?_ | refine TL_q (op_assign rfl) rfl ?_ | refine TL_q (op_not rfl) rfl ?_ | (refine' TL_q (op_pickT rfl ?_ rfl) rfl ?_; (· (exact xT (by (assumption))))) | refine TL_q (op_fld rfl fld_34_0) rfl ?_ | (refine' TL_q (op_ld rfl pl_3 ?_ ?_) rfl ?_; rotate_left 4; (· repeat ((first | exact List.mem_cons_self | apply List.mem_cons_of_mem))); (· (rfl))) | (refine' TL_op (op_call hb_58 rfl (refMay_S _ ?_)) rfl ?_; (· (omega))) | (refine TL_gno rfl rfl ?_ rfl ?_; (· (exact xT (by (assumption))))) | (refine TL_stAll rfl rfl st_42 rfl rfl rfl ?_) | refine TL_q (op_build rfl (bl_42_ )) rfl ?_ | (refine T_yes rfl ?_ ?_; (· (with_reducible rfl)))))
    refine TQ_retC3 4 42 5 6 rfl rfl rfl rfl st_42 (by repeat ((exact List.mem_cons_self))) rfl (fun w h => Heap.cnt (L' := [] ++ L) h (by intro p; (try simp only [cnt_append, cnt_cons, cnt_nil]) <;> omega)) ?_
    exact ⟨[.int .u8 0, .slice none 0 0, .slice none 0 0], [], rfl, ⟨_, _, rfl, sliceR.nil, sliceR.nil, by simp [Vdt.none]⟩, rfl⟩
  | true =>
  rw [hm] at hU
  simp only [Bool.not_true, Bool.false_eq_true, if_false] at hU
  obtain ⟨bw, ow, Cw, tw, fw, rfl, mw, qw⟩ : ∃ b off C te fr, av = some ⟨b, off, none⟩ ∧ (b, Obj.cells C te fr) ∈ L ∧ ∀ i x, l[i]? = some x → ∃ cs', cs'.length = 5 ∧ voteR K cs' x ∧ ∀ j v, cs'[j]? = some v → C[off + i * 5 + j]? = some v := by
    rcases hl with h | h
    · rw [h] at hlpos; simp at hlpos
    · exact h
  obtain ⟨csw, _, hwv0, hcw⟩ := qw 0 w hw0
  obtain ⟨w1, wc1, w2, wc2, rfl, hw1, hw2, hw3, hw4, hw5⟩ := hwv0.vals
  rw [show ow + 0 * 5 = ow + (0 : Int).toNat * 5 by rfl] at hcw
  have gw4 : Cw[ow + (0 : Int).toNat * 5 + 4]? = some (.int .u32 w.time) := hcw 4 _ rfl
  have hwr : vdR K [.int .u8 w.vd.code, .slice w1 w.vd.sets.length wc1, .slice w2 w.vd.soa.length wc2] w.vd := ⟨_, _, rfl, hw1, hw2, hw3⟩
  have hwv : ∀ j v, ([.int .u8 w.vd.code, .slice w1 w.vd.sets.length wc1, .slice w2 w.vd.soa.length wc2] : List Value)[j]? = some v → Cw[ow + (0 : Int).toNat * 5 + 1 + j]? = some v := fun j v hj => by
    rw [Nat.add_assoc]
    match j, hj with
    | 0, hj => exact hcw 1 v hj
    | 1, hj => exact hcw 2 v hj
    | 2, hj => exact hcw 3 v hj
  have ht0 : ∀ i, i ≤ l.length → 0 ≤ Vd.minTime (l.take i) w.time ∧ Vd.minTime (l.take i) w.time ≤ 4294967295 := fun i hi => minTime_bd _ _ (fun x hx => votes_time hl0 x (List.mem_of_mem_take hx)) hw4
  have hln := endsPut_len q 500 l (fun x hx => (hd x hx).1)
  repeat ((first | with_reducible refine T_seq ?_ | with_reducible refine T_block ?_ | with_reducible refine T_region ?_ | with_reducible refine TL_nil ?_ | with_reducible refine TQ_then ?_ | with_reducible refine T_skip ?_ | refine TL_q (op_move rfl) rfl ?_ | refine TL_q (op_assign rfl) rfl ?_ | refine TL_q (op_not rfl) rfl ?_ | (refine' TL_q (op_pickF rfl ?_ rfl) rfl ?_; (· (exact xF (by (assumption))))) | (refine' TL_q (op_idx ety_50 rfl rfl ?_) rfl ?_; (· omega)) | refine TL_q (op_fld rfl fld_34_0) rfl ?_ | refine TL_q (op_fld rfl fld_60_4) rfl ?_ | (refine' TL_q (op_ld rfl pl_3 ?_ ?_) rfl ?_; rotate_left 4; (· repeat ((first | assumption | exact List.mem_cons_self | apply List.mem_cons_of_mem))); (· (first | assumption | rfl))) | (refine' TL_op (op_call hb_58 rfl (refMay_S _ ?_)) rfl ?_; (· (omega))) | (refine TL_gpre rfl rfl ?_ ?_; (· (exact xF (by (assumption))))) | refine TL_gq2 (op_move rfl) rfl ?_ | (refine' TL_gq2 (op_bin rfl rfl ?_) rfl ?_; rotate_left 1; (· (exact bin_eql))) | refine TL_gq2 (op_len_slice rfl Try.underlying50) rfl ?_ | (refine T_no rfl ?_ ?_; (· (exact dF (by (assumption)))))))
  refine T_loopS (σ := Nat × Option Addr × Nat × Blocks) (fun y => y.1 ≤ l.length ∧ sliceR 1 strR (y.2.2.2 ++ L) [.slice y.2.1 (Vd.endsPut q (l.take y.1) []).length y.2.2.1] (Vd.endsPut q (l.take y.1) [])) (fun y => [(1, .slice (some ⟨bw, ow, none⟩) l.length cv), (2, .pointer (some ⟨bQ, 0, none⟩)), (4, .pointer (some ⟨b4, 0, none⟩)), (7, .int .u32 (Vd.minTime (l.take y.1) w.time)), (8, .bool (Vd.alikeV (l.take y.1) w.vd)), (9, .int .i64 (Vd.firstAt l y.1 : Nat)), (10, .slice y.2.1 (Vd.endsPut q (l.take y.1) []).length y.2.2.1), (11, .int .i64 (y.1 : Nat))])
    (fun y => (bQ, Obj.cells #[.string (bs q.name), .int .u16 q.kind, .int .u16 q.cls] 34 (0, 0)) :: ((b4, Obj.cells #[.int .u8 0, .slice none 0 0, .slice none 0 0] 42 (0, 0)) :: (y.2.2.2 ++ L))) (fun y => l.length - y.1) (0, none, 0, []) ⟨Nat.zero_le _, sliceR.nil⟩ ?_ (fun w h => h.cnt (by intro p; (try simp only [cnt_append, cnt_cons, cnt_nil]) <;> omega)) ?_
  (repeat ((first | exact trivial | refine ⟨rfl, ?_⟩)))
  rintro ⟨i, ad, cd, Nd⟩ ⟨hi, hdat⟩
  dsimp only at hi hdat ⊢
  have hti := ht0 i hi
  have hlni := hln i hi
  have hfl := firstAt_lt l i hi hlpos
  by_cases hil : i < l.length
  · obtain ⟨x, hx⟩ : ∃ x, l[i]? = some x := ⟨_, List.getElem?_eq_getElem hil⟩
    obtain ⟨f, hf⟩ : ∃ f, l[Vd.firstAt l i]? = some f := ⟨_, List.getElem?_eq_getElem hfl⟩
    have hxm := List.mem_of_getElem? hx
    have htk : l.take (i + 1) = l.take i ++ [x] := by rw [List.take_add_one, hx]; rfl
    have hmt : Vd.minTime (l.take (i + 1)) w.time = min (Vd.minTime (l.take i) w.time) x.time := by rw [htk]; exact minTime_snoc _ _ _
    have hal : Vd.alikeV (l.take (i + 1)) w.vd = (Vd.alikeV (l.take i) w.vd && decide (x.vd = w.vd)) := by rw [htk]; exact alikeV_snoc _ _ _
    have hep : Vd.endsPut q (l.take (i + 1)) [] = if (Vd.endV q x.vd).2 then (Vd.endV q x.vd).1.data.foldl Vd.put (Vd.endsPut q (l.take i) []) else Vd.endsPut q (l.take i) [] := by rw [htk]; exact endsPut_snoc _ _ _ _
    have hfs : Vd.firstAt l (i + 1) = if x.up < f.up then i else Vd.firstAt l i := by rw [Vd.firstAt, hx, hf]
    obtain ⟨csx, _, hxv0, hcx⟩ := qw i x hx
    obtain ⟨csf, _, hfv0, hcf⟩ := qw _ f hf
    obtain ⟨x1, xc1, x2, xc2, rfl, hx1, hx2, hx3, hx4, hx5⟩ := hxv0.vals
    obtain ⟨f1, fc1, f2, fc2, rfl, _⟩ := hfv0.vals
    have gx4 : Cw[ow + i * 5 + 4]? = some (.int .u32 x.time) := hcx 4 _ rfl
    have gx0 : Cw[ow + i * 5 + 0]? = some (.int .i64 x.up) := hcx 0 _ rfl
    have gf0 : Cw[ow + Vd.firstAt l i * 5 + 0]? = some (.int .i64 f.up) := hcf 0 _ rfl
    have hxr : vdR K [.int .u8 x.vd.code, .slice x1 x.vd.sets.length xc1, .slice x2 x.vd.soa.length xc2] x.vd := ⟨_, _, rfl, hx1, hx2, hx3⟩
    have hxv : ∀ j v, ([.int .u8 x.vd.code, .slice x1 x.vd.sets.length xc1, .slice x2 x.vd.soa.length xc2] : List Value)[j]? = some v → Cw[ow + i * 5 + 1 + j]? = some v := fun j v hj => by
      rw [Nat.add_assoc]
      match j, hj with
      | 0, hj => exact hcx 1 v hj
      | 1, hj => exact hcx 2 v hj
      | 2, hj => exact hcx 3 v hj
    have hKc : ∀ p ∈ K, p ∈ (bQ, Obj.cells #[.string (bs q.name), .int .u16 q.kind, .int .u16 q.cls] 34 (0, 0)) :: ((b4, Obj.cells #[.int .u8 0, .slice none 0 0, .slice none 0 0] 42 (0, 0)) :: (Nd ++ L)) := fun p hp => List.mem_cons_of_mem _ (List.mem_cons_of_mem _ (List.mem_append_right _ (hKL p hp)))
    have mwc : (bw, Obj.cells Cw tw fw) ∈ Nd ++ L := List.mem_append_right _ mw
    have hKm : ∀ z ∈ [(bw, Obj.cells Cw tw fw), (bQ, Obj.cells #[.string (bs q.name), .int .u16 q.kind, .int .u16 q.cls] 34 (0, 0))], z ∈ (bQ, Obj.cells #[.string (bs q.name), .int .u16 q.kind, .int .u16 q.cls] 34 (0, 0)) :: ((b4, Obj.cells #[.int .u8 0, .slice none 0 0, .slice none 0 0] 42 (0, 0)) :: (Nd ++ L)) := by
      intro z hz
      simp only [List.mem_cons, List.not_mem_nil, or_false] at hz
      rcases hz with rfl | rfl <;> simp [mw]
    repeat ((first | with_reducible refine T_seq ?_ | with_reducible refine T_block ?_ | with_reducible refine T_region ?_ | with_reducible refine TL_nil ?_ | with_reducible refine TQ_then ?_ | with_reducible refine T_skip ?_ | refine TL_q (op_move rfl) rfl ?_ | refine TL_q (op_assign rfl) rfl ?_ | (refine' TL_q (op_bin rfl rfl ?_) rfl ?_; rotate_left 1; (· (exact bin_lss))) | refine TL_q (op_len_slice rfl Try.underlying50) rfl ?_ | refine TL_q (op_min rfl rfl) rfl ?_ | (refine' TL_q (op_idx ety_50 rfl rfl ?_) rfl ?_; (· omega)) | refine TL_q (op_fld rfl fld_60_4) rfl ?_ | (refine' TL_q (op_ld rfl pl_3 ?_ ?_) rfl ?_; rotate_left 4; (· repeat ((first | assumption | apply List.mem_cons_of_mem))); (· (assumption))) | (refine T_yes rfl ?_ ?_; (· (exact dT (by (omega)))))))
    refine T_midK (σ := Unit) (fun _ => True) (fun _ => [(1, .slice (some ⟨bw, ow, none⟩) l.length cv), (2, .pointer (some ⟨bQ, 0, none⟩)), (4, .pointer (some ⟨b4, 0, none⟩)), (7, .int .u32 (Vd.minTime (l.take (i + 1)) w.time)), (8, .bool (Vd.alikeV (l.take (i + 1)) w.vd)), (9, .int .i64 (Vd.firstAt l i : Nat)), (10, .slice ad (Vd.endsPut q (l.take i) []).length cd), (11, .int .i64 (i : Nat))]) (fun _ => ((bQ, Obj.cells #[.string (bs q.name), .int .u16 q.kind, .int .u16 q.cls] 34 (0, 0)) :: ((b4, Obj.cells #[.int .u8 0, .slice none 0 0, .slice none 0 0] 42 (0, 0)) :: (Nd ++ L)))) ?_ ?_
    · rw [hmt, hal]
      cases hav : Vd.alikeV (l.take i) w.vd with
      | false =>
        refine T_draw follows_mixed ([(bw, Obj.cells Cw tw fw), (bQ, Obj.cells #[.string (bs q.name), .int .u16 q.kind, .int .u16 q.cls] 34 (0, 0))]) [] ?_
        (refine' TA_take 0 rfl rfl (by kernel_rfl) (quiet_q (op_move rfl)) ?_ ?_; (· (assumption)))
        (refine' TA_take 1 rfl rfl (by kernel_rfl) (quiet_q (op_move rfl)) ?_ ?_; (· (assumption)))
        (refine TA_take 2 rfl rfl (by kernel_rfl) (quiet_no2 rfl rfl ?_) ?_ ?_; (· (exact Bool.not_true)); (· (assumption)))
        (refine TA_take 3 rfl rfl (by kernel_rfl) (quiet_no2 rfl rfl ?_) ?_ ?_; (· (exact Bool.not_true)); (· (assumption)))
        (refine TA_take 4 rfl rfl (by kernel_rfl) (quiet_no2 rfl rfl ?_) ?_ ?_; (· (exact Bool.not_true)); (· (assumption)))
        (refine TA_take 5 rfl rfl (by kernel_rfl) (quiet_no2 rfl rfl ?_) ?_ ?_; (· (exact Bool.not_true)); (· (assumption)))
        (refine TA_take 6 rfl rfl (by kernel_rfl) (quiet_no2 rfl rfl ?_) ?_ ?_; (· (exact Bool.not_true)); (· (assumption)))
        (refine TA_take 7 rfl rfl (by kernel_rfl) (quiet_no2 rfl rfl ?_) ?_ ?_; (· (exact Bool.not_true)); (· (assumption)))
        (refine TA_take 8 rfl rfl (by kernel_rfl) (quiet_no2 rfl rfl ?_) ?_ ?_; (· (exact Bool.not_true)); (· (assumption)))
        (refine TA_take 9 rfl rfl (by kernel_rfl) (quiet_no2 rfl rfl ?_) ?_ ?_; (· (exact Bool.not_true)); (· (assumption)))
        (refine TA_take 10 rfl rfl (by kernel_rfl) (quiet_no2 rfl rfl ?_) ?_ ?_; (· (exact Bool.not_true)); (· (assumption)))
        (refine TA_take 11 rfl rfl (by kernel_rfl) (quiet_no2 rfl rfl ?_) ?_ ?_; (· rfl); (· exact hKm))
        (refine' TA_take 12 rfl rfl (by kernel_rfl) (quiet_q (op_pickF rfl ?_ rfl)) ?_ ?_; (· (with_reducible rfl)); (· (assumption)))
        (refine' TA_take 13 rfl rfl (by kernel_rfl) (quiet_q (op_assign rfl)) ?_ ?_; (· (assumption)))
        refine TA_done (by kernel_rfl) ?_
        skip
        refine TQ_mid () trivial ?_ (fun w h => h)
        rw [Bool.false_and]
        (repeat (first | exact trivial | refine ⟨rfl, ?_⟩))
      | true =>
        refine T_draw follows_mixed ([(bw, Obj.cells Cw tw fw), (bQ, Obj.cells #[.string (bs q.name), .int .u16 q.kind, .int .u16 q.cls] 34 (0, 0))]) [] ?_
        (refine' TA_take 0 rfl rfl (by kernel_rfl) (quiet_q (op_move rfl)) ?_ ?_; (· (assumption)))
        (refine' TA_take 1 rfl rfl (by kernel_rfl) (quiet_q (op_move rfl)) ?_ ?_; (· (assumption)))
        (refine' TA_take 2 rfl rfl (by kernel_rfl) (quiet_g2 rfl rfl (by (with_reducible rfl)) (op_move rfl)) ?_ ?_; (· (assumption)))
        (refine' TA_take 3 rfl rfl (by kernel_rfl) (quiet_g2 rfl rfl (by (with_reducible rfl)) (op_move rfl)) ?_ ?_; (· (assumption)))
        (refine' TA_take 4 rfl rfl (by kernel_rfl) (quiet_g2 rfl rfl (by (with_reducible rfl)) (op_idx ety_50 rfl rfl ?_)) ?_ ?_; (· omega); (· (assumption)))
        (refine' TA_take 5 rfl rfl (by kernel_rfl) (quiet_g2 rfl rfl (by (with_reducible rfl)) (op_fld rfl fld_63_1)) ?_ ?_; (· (assumption)))
        (refine' TA_take 6 rfl rfl (by kernel_rfl) (quiet_g2 rfl rfl (by (with_reducible rfl)) (op_ldA [.int .u8 x.vd.code, .slice x1 x.vd.sets.length xc1, .slice x2 x.vd.soa.length xc2] rfl st_42 (List.mem_cons_self ..) hxv)) ?_ ?_; (· (assumption)))
        (refine' TA_take 7 rfl rfl (by kernel_rfl) (quiet_g2 rfl rfl (by (with_reducible rfl)) (op_move rfl)) ?_ ?_; (· (assumption)))
        (refine' TA_take 8 rfl rfl (by kernel_rfl) (quiet_g2 rfl rfl (by (with_reducible rfl)) (op_idxI ety_50 rfl rfl ?_ ?_)) ?_ ?_; (· omega); (· omega); (· (assumption)))
        (refine' TA_take 9 rfl rfl (by kernel_rfl) (quiet_g2 rfl rfl (by (with_reducible rfl)) (op_fld rfl fld_63_1)) ?_ ?_; (· (assumption)))
        (refine' TA_take 10 rfl rfl (by kernel_rfl) (quiet_g2 rfl rfl (by (with_reducible rfl)) (op_ldA [.int .u8 w.vd.code, .slice w1 w.vd.sets.length wc1, .slice w2 w.vd.soa.length wc2] rfl st_42 (List.mem_cons_self ..) hwv)) ?_ ?_; (· (assumption)))
        (skip; (refine TA_oneGd 11 (by kernel_rfl) rfl rfl rfl rfl rfl (op_call hb_23 rfl (vSame_S [.int .u8 x.vd.code, .slice x1 x.vd.sets.length xc1, .slice x2 x.vd.soa.length xc2] [.int .u8 w.vd.code, .slice w1 w.vd.sets.length wc1, .slice w2 w.vd.soa.length wc2] x.vd w.vd (mono_vd _ _ _ _ hKc hxr) (mono_vd _ _ _ _ hKc hwr))) ?_; rintro _ _ ⟨rfl, rfl⟩; refine ⟨Or.inr hKm, ?_⟩))
        (refine' TA_take 12 rfl rfl (by kernel_rfl) (quiet_q (op_pickT rfl ?_ rfl)) ?_ ?_; (· (with_reducible rfl)); (· (assumption)))
        (refine' TA_take 13 rfl rfl (by kernel_rfl) (quiet_q (op_assign rfl)) ?_ ?_; (· (assumption)))
        refine TA_done (by kernel_rfl) ?_
        skip
        refine TQ_mid () trivial ?_ (fun w h => h)
        rw [Bool.true_and]
        (repeat ((first | exact trivial | refine ⟨rfl, ?_⟩)))
    intro _ _
    refine T_mid (σ := Unit) (fun _ => True) (fun _ => [(1, .slice (some ⟨bw, ow, none⟩) l.length cv), (2, .pointer (some ⟨bQ, 0, none⟩)), (4, .pointer (some ⟨b4, 0, none⟩)), (7, .int .u32 (Vd.minTime (l.take (i + 1)) w.time)), (8, .bool (Vd.alikeV (l.take (i + 1)) w.vd)), (9, .int .i64 (Vd.firstAt l (i + 1) : Nat)), (10, .slice ad (Vd.endsPut q (l.take i) []).length cd), (11, .int .i64 (i : Nat))]) (fun _ => ((bQ, Obj.cells #[.string (bs q.name), .int .u16 q.kind, .int .u16 q.cls] 34 (0, 0)) :: ((b4, Obj.cells #[.int .u8 0, .slice none 0 0, .slice none 0 0] 42 (0, 0)) :: (Nd ++ L)))) ?_ ?_
    · rw [hfs]
      by_cases hup : x.up < f.up
      · rw [if_pos hup]
        repeat ((with_reducible refine T_seq ?_))
        refine T_draw follows_mixed ([(bw, Obj.cells Cw tw fw), (bQ, Obj.cells #[.string (bs q.name), .int .u16 q.kind, .int .u16 q.cls] 34 (0, 0))]) [] ?_
        (refine' TA_take 0 rfl rfl (by kernel_rfl) (quiet_q (op_move rfl)) ?_ ?_; (· (assumption)))
        (refine' TA_take 1 rfl rfl (by kernel_rfl) (quiet_q (op_move rfl)) ?_ ?_; (· (assumption)))
        (refine' TA_take 2 rfl rfl (by kernel_rfl) (quiet_q (op_idx ety_50 rfl rfl ?_)) ?_ ?_; (· omega); (· (assumption)))
        (refine' TA_take 3 rfl rfl (by kernel_rfl) (quiet_q (op_fld rfl fld_63_0)) ?_ ?_; (· (assumption)))
        (refine' TA_take 4 rfl rfl (by kernel_rfl) (quiet_q (op_ld rfl pl_3 ?_ ?_)) ?_ ?_; rotate_left 4; (· repeat ((exact List.mem_cons_self))); (· (assumption)); (· (assumption)))
        (refine' TA_take 5 rfl rfl (by kernel_rfl) (quiet_q (op_move rfl)) ?_ ?_; (· (assumption)))
        (refine' TA_take 6 rfl rfl (by kernel_rfl) (quiet_q (op_move rfl)) ?_ ?_; (· (assumption)))
        (refine' TA_take 7 rfl rfl (by kernel_rfl) (quiet_q (op_idx ety_50 rfl rfl ?_)) ?_ ?_; (· omega); (· (assumption)))
        (refine' TA_take 8 rfl rfl (by kernel_rfl) (quiet_q (op_fld rfl fld_63_0)) ?_ ?_; (· (assumption)))
        (refine' TA_take 9 rfl rfl (by kernel_rfl) (quiet_q (op_ld rfl pl_3 ?_ ?_)) ?_ ?_; rotate_left 4; (· repeat ((exact List.mem_cons_self))); (· (assumption)); (· (assumption)))
        (refine' TA_take 10 rfl rfl (by kernel_rfl) (quiet_q (op_bin rfl rfl ?_)) ?_ ?_; rotate_left 1; (· (exact bin_lss)); (· (assumption)))
        refine TA_done (by kernel_rfl) ?_
        repeat ((first | with_reducible refine T_region ?_ | with_reducible refine TL_nil ?_ | with_reducible refine TQ_then ?_ | refine TL_q (op_move rfl) rfl ?_ | refine TL_q (op_assign rfl) rfl ?_ | (refine T_yes rfl ?_ ?_; (· (exact dT (by (assumption)))))))
        refine TQ_mid () trivial ?_ (fun w h => h)
        (repeat ((first | exact trivial | refine ⟨rfl, ?_⟩)))
      · rw [if_neg hup]
        repeat ((with_reducible refine T_seq ?_))
        refine T_draw follows_mixed ([(bw, Obj.cells Cw tw fw), (bQ, Obj.cells #[.string (bs q.name), .int .u16 q.kind, .int .u16 q.cls] 34 (0, 0))]) [] ?_
        (refine' TA_take 0 rfl rfl (by kernel_rfl) (quiet_q (op_move rfl)) ?_ ?_; (· (assumption)))
        (refine' TA_take 1 rfl rfl (by kernel_rfl) (quiet_q (op_move rfl)) ?_ ?_; (· (assumption)))
        (refine' TA_take 2 rfl rfl (by kernel_rfl) (quiet_q (op_idx ety_50 rfl rfl ?_)) ?_ ?_; (· omega); (· (assumption)))
        (refine' TA_take 3 rfl rfl (by kernel_rfl) (quiet_q (op_fld rfl fld_63_0)) ?_ ?_; (· (assumption)))
        (refine' TA_take 4 rfl rfl (by kernel_rfl) (quiet_q (op_ld rfl pl_3 ?_ ?_)) ?_ ?_; rotate_left 4; (· repeat ((exact List.mem_cons_self))); (· (assumption)); (· (assumption)))
        (refine' TA_take 5 rfl rfl (by kernel_rfl) (quiet_q (op_move rfl)) ?_ ?_; (· (assumption)))
        (refine' TA_take 6 rfl rfl (by kernel_rfl) (quiet_q (op_move rfl)) ?_ ?_; (· (assumption)))
        (refine' TA_take 7 rfl rfl (by kernel_rfl) (quiet_q (op_idx ety_50 rfl rfl ?_)) ?_ ?_; (· omega); (· (assumption)))
        (refine' TA_take 8 rfl rfl (by kernel_rfl) (quiet_q (op_fld rfl fld_63_0)) ?_ ?_; (· (assumption)))
        (refine' TA_take 9 rfl rfl (by kernel_rfl) (quiet_q (op_ld rfl pl_3 ?_ ?_)) ?_ ?_; rotate_left 4; (· repeat ((exact List.mem_cons_self))); (· (assumption)); (· (assumption)))
        (refine' TA_take 10 rfl rfl (by kernel_rfl) (quiet_q (op_bin rfl rfl ?_)) ?_ ?_; rotate_left 1; (· (exact bin_lss)); (· (assumption)))
        refine TA_done (by kernel_rfl) ?_
        repeat ((first | with_reducible refine TQ_then ?_ | with_reducible refine T_skip ?_ | (refine T_no rfl ?_ ?_; (· (exact dF (by (assumption)))))))
        refine TQ_mid () trivial ?_ (fun w h => h)
        (repeat ((first | exact trivial | refine ⟨rfl, ?_⟩)))
    intro _ _
    repeat ((with_reducible refine T_seq ?_))
    refine T_midK (σ := Option Addr × Nat × Nat) (fun y => rsR K [.string (bs (Vd.endV q x.vd).1.name), .int .u16 (Vd.endV q x.vd).1.kind, .int .u16 (Vd.endV q x.vd).1.cls, .int .u32 (Vd.endV q x.vd).1.ttl, .slice y.1 (Vd.endV q x.vd).1.data.length y.2.1] (Vd.endV q x.vd).1) (fun y => (12, .pointer (some ⟨y.2.2, 0, none⟩)) :: (13, .bool (Vd.endV q x.vd).2) :: [(1, .slice (some ⟨bw, ow, none⟩) l.length cv), (2, .pointer (some ⟨bQ, 0, none⟩)), (4, .pointer (some ⟨b4, 0, none⟩)), (7, .int .u32 (Vd.minTime (l.take (i + 1)) w.time)), (8, .bool (Vd.alikeV (l.take (i + 1)) w.vd)), (9, .int .i64 (Vd.firstAt l (i + 1) : Nat)), (10, .slice ad (Vd.endsPut q (l.take i) []).length cd), (11, .int .i64 (i : Nat))]) (fun y => (y.2.2, Obj.cells #[.string (bs (Vd.endV q x.vd).1.name), .int .u16 (Vd.endV q x.vd).1.kind, .int .u16 (Vd.endV q x.vd).1.cls, .int .u32 (Vd.endV q x.vd).1.ttl, .slice y.1 (Vd.endV q x.vd).1.data.length y.2.1] 60 (0, 0)) :: ((bQ, Obj.cells #[.string (bs q.name), .int .u16 q.kind, .int .u16 q.cls] 34 (0, 0)) :: ((b4, Obj.cells #[.int .u8 0, .slice none 0 0, .slice none 0 0] 42 (0, 0)) :: (Nd ++ L)))) ?_ ?_
    · clear hal hep
      refine T_draw follows_mixed ([(bw, Obj.cells Cw tw fw), (bQ, Obj.cells #[.string (bs q.name), .int .u16 q.kind, .int .u16 q.cls] 34 (0, 0))]) [] ?_
      (refine' TA_take 0 rfl rfl (by kernel_rfl) (quiet_q (op_ldAll rfl st_34 ?_ ?_)) ?_ ?_; rotate_left 3; (· repeat ((first | exact List.mem_cons_self | apply List.mem_cons_of_mem))); (· (rfl)); (· (assumption)))
      (refine' TA_take 1 rfl rfl (by kernel_rfl) (quiet_q (op_move rfl)) ?_ ?_; (· (assumption)))
      (refine' TA_take 2 rfl rfl (by kernel_rfl) (quiet_q (op_move rfl)) ?_ ?_; (· (assumption)))
      (refine' TA_take 3 rfl rfl (by kernel_rfl) (quiet_q (op_idx ety_50 rfl rfl ?_)) ?_ ?_; (· omega); (· (assumption)))
      (refine' TA_take 4 rfl rfl (by kernel_rfl) (quiet_q (op_fld rfl fld_63_1)) ?_ ?_; (· (assumption)))
      (refine' TA_take 5 rfl rfl (by kernel_rfl) (quiet_q (op_ldA [.int .u8 x.vd.code, .slice x1 x.vd.sets.length xc1, .slice x2 x.vd.soa.length xc2] rfl st_42 (List.mem_cons_self ..) hxv)) ?_ ?_; (· (assumption)))
      refine TA_two 6 10 (by kernel_rfl) ?_ ?_
      · refine Up_ofD rfl rfl rfl rfl (op_call hb_59 rfl (rEnd_S (K := L) (N := K) x.vd q x1 x2 xc1 xc2 (mem_of_cnt (by intro p; (try simp only [cnt_append, cnt_cons, cnt_nil]) <;> omega)) (hx1.imp (r' := fun _ => rsR K) hKL (fun cs s _ h => h)))) ?_; rintro _ _ ⟨cse, rfl, hse, rfl⟩; obtain ⟨ea, ec, rfl, hsd, _⟩ := hse.vals; refine ⟨Or.inr (fun z hz => mem_of_cnt (by intro p; (try simp only [cnt_append, cnt_cons, cnt_nil]) <;> omega) z (hKm z hz)), ?_⟩
        (refine' TA_take 7 rfl rfl (by kernel_rfl) (quiet_q (op_move rfl)) ?_ ?_; (· (assumption)))
        (refine' TA_take 8 rfl rfl (by kernel_rfl) (quiet_q (op_extract rfl rfl)) ?_ ?_; (· (assumption)))
        (refine' TA_take 9 rfl rfl (by kernel_rfl) (quiet_q (op_extract rfl rfl)) ?_ ?_; (· (assumption)))
        refine TA_oneD 10 (by kernel_rfl) rfl rfl rfl rfl (op_alloc (C := #[.string (bs []), .int .u16 0, .int .u16 0, .int .u32 0, .slice none 0 0]) zero_60 rfl) ?_; rintro _ _ ⟨b12, rfl, rfl⟩; refine ⟨Or.inr (fun z hz => mem_of_cnt (by intro p; (try simp only [cnt_append, cnt_cons, cnt_nil]) <;> omega) z (hKm z hz)), ?_⟩
        refine TA_cnt (L' := (b12, Obj.cells #[.string (bs []), .int .u16 0, .int .u16 0, .int .u32 0, .slice none 0 0] 60 (0, 0)) :: ((bQ, Obj.cells #[.string (bs q.name), .int .u16 q.kind, .int .u16 q.cls] 34 (0, 0)) :: ((b4, Obj.cells #[.int .u8 0, .slice none 0 0, .slice none 0 0] 42 (0, 0)) :: (Nd ++ L)))) ?_ (by intro p; (try simp only [cnt_append, cnt_cons, cnt_nil]) <;> omega); refine TA_oneN 11 (by kernel_rfl) rfl rfl rfl (op_stAll rfl rfl st_60 rfl rfl rfl) ?_; rintro _ _ ⟨_, rfl⟩; refine ⟨Or.inr (fun z hz => mem_of_cnt (by intro p; (try simp only [cnt_append, cnt_cons, cnt_nil]) <;> omega) z (hKm z hz)), ?_⟩
        (refine' TA_take 12 rfl rfl (by kernel_rfl) (quiet_q (op_assign rfl)) ?_ ?_; (· (intro p hp; grind)))
        refine TA_done (by kernel_rfl) ?_
        refine TQ_mid (ea, ec, b12) hse ?_ (fun w h => h.cnt (by intro p; (try simp only [cnt_append, cnt_cons, cnt_nil]) <;> omega))
        (repeat ((first | exact trivial | refine ⟨rfl, ?_⟩)))
      · refine Up_ofD rfl rfl rfl rfl (op_alloc (C := #[.string (bs []), .int .u16 0, .int .u16 0, .int .u32 0, .slice none 0 0]) zero_60 rfl) ?_; rintro _ _ ⟨b12, rfl, rfl⟩; refine ⟨Or.inr (fun z hz => mem_of_cnt (by intro p; (try simp only [cnt_append, cnt_cons, cnt_nil]) <;> omega) z (hKm z hz)), ?_⟩
        refine TA_oneD 6 (by kernel_rfl) rfl rfl rfl rfl (op_call hb_59 rfl (rEnd_S (K := L) (N := K) x.vd q x1 x2 xc1 xc2 (mem_of_cnt (by intro p; (try simp only [cnt_append, cnt_cons, cnt_nil]) <;> omega)) (hx1.imp (r' := fun _ => rsR K) hKL (fun cs s _ h => h)))) ?_; rintro _ _ ⟨cse, rfl, hse, rfl⟩; obtain ⟨ea, ec, rfl, hsd, _⟩ := hse.vals; refine ⟨Or.inr (fun z hz => mem_of_cnt (by intro p; (try simp only [cnt_append, cnt_cons, cnt_nil]) <;> omega) z (hKm z hz)), ?_⟩
        (refine' TA_take 7 rfl rfl (by kernel_rfl) (quiet_q (op_move rfl)) ?_ ?_; (· (intro p hp; grind)))
        (refine' TA_take 8 rfl rfl (by kernel_rfl) (quiet_q (op_extract rfl rfl)) ?_ ?_; (· (intro p hp; grind)))
        (refine' TA_take 9 rfl rfl (by kernel_rfl) (quiet_q (op_extract rfl rfl)) ?_ ?_; (· (intro p hp; grind)))
        refine TA_cnt (L' := (b12, Obj.cells #[.string (bs []), .int .u16 0, .int .u16 0, .int .u32 0, .slice none 0 0] 60 (0, 0)) :: ((bQ, Obj.cells #[.string (bs q.name), .int .u16 q.kind, .int .u16 q.cls] 34 (0, 0)) :: ((b4, Obj.cells #[.int .u8 0, .slice none 0 0, .slice none 0 0] 42 (0, 0)) :: (Nd ++ L)))) ?_ (by intro p; (try simp only [cnt_append, cnt_cons, cnt_nil]) <;> omega); refine TA_oneN 11 (by kernel_rfl) rfl rfl rfl (op_stAll rfl rfl st_60 rfl rfl rfl) ?_; rintro _ _ ⟨_, rfl⟩; refine ⟨Or.inr (fun z hz => mem_of_cnt (by intro p; (try simp only [cnt_append, cnt_cons, cnt_nil]) <;> omega) z (hKm z hz)), ?_⟩
        (refine' TA_take 12 rfl rfl (by kernel_rfl) (quiet_q (op_assign rfl)) ?_ ?_; (· (intro p hp; grind)))
        refine TA_done (by kernel_rfl) ?_
        refine TQ_mid (ea, ec, b12) hse ?_ (fun w h => h.cnt (by intro p; (try simp only [cnt_append, cnt_cons, cnt_nil]) <;> omega))
        (repeat ((first | exact trivial | refine ⟨rfl, ?_⟩)))
    rintro ⟨ea, ec, b12⟩ hse
    dsimp only at hse ⊢
    obtain ⟨ea', ec', hee, hsd, _⟩ := hse.vals
    simp only [List.cons.injEq, and_true, true_and, Value.slice.injEq] at hee
    obtain ⟨rfl, rfl⟩ := hee
    have hdx := hd x hxm
    obtain ⟨D, hD⟩ : ∃ D, (Vd.endV q x.vd).1.data = D := ⟨_, rfl⟩
    rw [hD] at hdx hsd hep ⊢
    obtain ⟨_, kd1, kd2, hsdc⟩ := strs_cut hsd
    obtain ⟨d0, hd0⟩ : ∃ d, Vd.endsPut q (l.take i) [] = d := ⟨_, rfl⟩
    rw [hd0] at hdat hlni hep ⊢
    obtain ⟨is, his⟩ : ∃ b, (Vd.endV q x.vd).2 = b := ⟨_, rfl⟩
    rw [his] at hep ⊢
    have hd0l : d0.length ≤ 50000 := by have : i * 500 ≤ 100 * 500 := Nat.mul_le_mul_right _ (by omega); omega
    have hse12 : (b12, Obj.cells #[.string (bs (Vd.endV q x.vd).1.name), .int .u16 (Vd.endV q x.vd).1.kind, .int .u16 (Vd.endV q x.vd).1.cls, .int .u32 (Vd.endV q x.vd).1.ttl, .slice ea D.length ec] 60 (0, 0)) ∈ (b12, Obj.cells #[.string (bs (Vd.endV q x.vd).1.name), .int .u16 (Vd.endV q x.vd).1.kind, .int .u16 (Vd.endV q x.vd).1.cls, .int .u32 (Vd.endV q x.vd).1.ttl, .slice ea D.length ec] 60 (0, 0)) :: ((bQ, Obj.cells #[.string (bs q.name), .int .u16 q.kind, .int .u16 q.cls] 34 (0, 0)) :: ((b4, Obj.cells #[.int .u8 0, .slice none 0 0, .slice none 0 0] 42 (0, 0)) :: (Nd ++ L))) := List.mem_cons_self ..
    repeat ((first | with_reducible refine T_seq ?_ | with_reducible refine T_block ?_ | with_reducible refine T_region ?_ | with_reducible refine TL_nil ?_ | with_reducible refine TQ_then ?_ | refine TL_q (op_assign rfl) rfl ?_))
    refine T_loopS (σ := Nat × Option Addr × Nat × Blocks) (fun y => y.1 ≤ D.length ∧ (is = false → y.1 = 0) ∧ sliceR 1 strR (y.2.2.2 ++ L) [.slice y.2.1 ((D.take y.1).foldl Vd.put d0).length y.2.2.1] ((D.take y.1).foldl Vd.put d0)) (fun y => [(1, .slice (some ⟨bw, ow, none⟩) l.length cv), (2, .pointer (some ⟨bQ, 0, none⟩)), (4, .pointer (some ⟨b4, 0, none⟩)), (7, .int .u32 (Vd.minTime (l.take (i + 1)) w.time)), (8, .bool (Vd.alikeV (l.take (i + 1)) w.vd)), (9, .int .i64 (Vd.firstAt l (i + 1) : Nat)), (10, .slice y.2.1 ((D.take y.1).foldl Vd.put d0).length y.2.2.1), (11, .int .i64 (i : Nat)), (12, .pointer (some ⟨b12, 0, none⟩)), (13, .bool is), (14, .int .i64 (y.1 : Nat))])
      (fun y => (b12, Obj.cells #[.string (bs (Vd.endV q x.vd).1.name), .int .u16 (Vd.endV q x.vd).1.kind, .int .u16 (Vd.endV q x.vd).1.cls, .int .u32 (Vd.endV q x.vd).1.ttl, .slice ea D.length ec] 60 (0, 0)) :: ((bQ, Obj.cells #[.string (bs q.name), .int .u16 q.kind, .int .u16 q.cls] 34 (0, 0)) :: ((b4, Obj.cells #[.int .u8 0, .slice none 0 0, .slice none 0 0] 42 (0, 0)) :: (y.2.2.2 ++ L)))) (fun y => D.length - y.1) (0, ad, cd, Nd) ⟨Nat.zero_le _, fun _ => rfl, hdat⟩ ?_ (fun w h => h) ?_
    (repeat ((first | exact trivial | refine ⟨rfl, ?_⟩)))
    clear hdat hKm hKc
    rintro ⟨k, ad, cd, Nd⟩ ⟨hk, hk0, hdat⟩
    dsimp only at hk hk0 hdat ⊢
    have hfp := foldPut_len (D.take k) d0
    rw [List.length_take] at hfp
    by_cases hgo : k < D.length ∧ is = true
    · obtain ⟨hkl, rfl⟩ := hgo
      obtain ⟨dk, hdk⟩ : ∃ dk, D[k]? = some dk := ⟨_, List.getElem?_eq_getElem hkl⟩
      have hst : (D.take (k + 1)).foldl Vd.put d0 = Vd.put ((D.take k).foldl Vd.put d0) dk := by rw [List.take_add_one, hdk]; simp
      rcases hsdc with h0 | ⟨be, oe, Ce, te, fe, rfl, me, qe⟩
      · rw [h0] at hkl; simp at hkl
      have ge := qe k dk hdk
      have me2 : (be, Obj.cells Ce te fe) ∈ Nd ++ L := List.mem_append_right _ (hKL _ me)
      repeat ((first | with_reducible refine T_seq ?_ | with_reducible refine T_block ?_ | with_reducible refine T_region ?_ | with_reducible refine TL_nil ?_ | with_reducible refine TQ_then ?_ | with_reducible refine T_skip ?_ | refine TL_q (op_move rfl) rfl ?_ | (refine' TL_q (op_bin rfl rfl ?_) rfl ?_; rotate_left 1; (· (exact bin_lss))) | (refine' TL_q (op_pickT rfl ?_ rfl) rfl ?_; (· (exact dT (by (omega))))) | refine TL_q (op_len_slice rfl Try.underlying58) rfl ?_ | (refine' TL_q (op_idx ety_58 rfl rfl ?_) rfl ?_; (· omega)) | refine TL_q (op_fld rfl fld_60_4) rfl ?_ | (refine' TL_q (op_ld rfl pl_3 ?_ ?_) rfl ?_; rotate_left 4; (· repeat ((first | assumption | exact List.mem_cons_self | apply List.mem_cons_of_mem))); (· (first | assumption | rfl))) | (refine TL_gpre rfl rfl ?_ ?_; (· (exact dT (by (omega))))) | refine TL_gq2 (op_move rfl) rfl ?_ | (refine T_yes rfl ?_ ?_; (· (with_reducible rfl)))))
      refine TL_opT (op_call hb_60 rfl (put23_S _ _ dk (mono_slice mono_str _ _ _ _ (mem_of_cnt (by intro p; (try simp only [cnt_append, cnt_cons, cnt_nil]) <;> omega)) hdat) (by omega) (by have := hdx.2 dk (List.mem_of_getElem? hdk); unfold maxLen; omega))) rfl ?_
      rintro _ _ (⟨rfl, hpe, rfl⟩ | ⟨a', c', B', rfl, hB', rfl⟩)
      · repeat ((first | with_reducible refine T_region ?_ | with_reducible refine TL_nil ?_ | with_reducible refine TQ_then ?_ | with_reducible refine TQ_block ?_ | refine TL_q (op_move rfl) rfl ?_ | refine TL_q (op_assign rfl) rfl ?_ | (refine' TL_q (op_bin rfl rfl ?_) rfl ?_; rotate_left 1; (· (exact bin_add ⟨by omega, by omega⟩)))))
        refine TQ_roundS (k + 1, ad, cd, Nd) ⟨hkl, by simp, by dsimp only; rw [hst, hpe]; exact hdat⟩ ?_ (fun w h => h) (by dsimp only; omega)
        dsimp only
        rw [hst, hpe]
        (repeat ((first | exact trivial | refine ⟨rfl, ?_⟩)))
      · repeat ((first | with_reducible refine T_region ?_ | with_reducible refine TL_nil ?_ | with_reducible refine TQ_then ?_ | with_reducible refine TQ_block ?_ | refine TL_q (op_move rfl) rfl ?_ | refine TL_q (op_assign rfl) rfl ?_ | (refine' TL_q (op_bin rfl rfl ?_) rfl ?_; rotate_left 1; (· (exact bin_add ⟨by omega, by omega⟩)))))
        refine TQ_roundS (k + 1, a', c', B' ++ Nd) ⟨hkl, by simp, by dsimp only; rw [hst]; exact (hB'.imp (r' := strR) (L' := []) (fun cs y _ h => h)).sliceR mono_str (by simp) (mem_of_cnt (by intro p; (try simp only [cnt_append, cnt_cons, cnt_nil]) <;> omega))⟩ ?_ (fun w h => h.cnt (by intro p; (try simp only [cnt_append, cnt_cons, cnt_nil]) <;> omega)) (by dsimp only; omega)
        dsimp only
        rw [hst]
        (repeat ((first | exact trivial | refine ⟨rfl, ?_⟩)))
    · have hfin : (D.take k).foldl Vd.put d0 = Vd.endsPut q (l.take (i + 1)) [] := by
        rw [hep]
        cases is with
        | false => rw [hk0 rfl, if_neg (by simp)]; rfl
        | true => rw [if_pos rfl, List.take_of_length_le (by simp at hgo; omega)]
      rw [hfin] at hdat ⊢
      by_cases hkl : k < D.length
      · have hisf : is = false := by cases is with
          | false => rfl
          | true => exact absurd ⟨hkl, rfl⟩ hgo
        subst hisf
        repeat ((first | with_reducible refine T_seq ?_ | with_reducible refine T_region ?_ | with_reducible refine TL_nil ?_ | with_reducible refine TQ_then ?_ | with_reducible refine TQ_block ?_ | with_reducible refine T_exit ?_ | with_reducible refine TQ_then_exit ?_ | with_reducible refine TQ_block_exit ?_ | refine TL_q (op_move rfl) rfl ?_ | refine TL_q (op_assign rfl) rfl ?_ | (refine' TL_q (op_bin rfl rfl ?_) rfl ?_; rotate_left 1; (· (first | exact bin_add ⟨by omega, by omega⟩ | exact bin_lss))) | (refine' TL_q (op_pickT rfl ?_ rfl) rfl ?_; (· (exact dT (by (omega))))) | refine TL_q (op_len_slice rfl Try.underlying58) rfl ?_ | refine TL_q (op_fld rfl fld_60_4) rfl ?_ | (refine' TL_q (op_ld rfl pl_3 ?_ ?_) rfl ?_; rotate_left 4; (· repeat ((exact List.mem_cons_self))); (· (rfl))) | (refine TL_gpre rfl rfl ?_ ?_; (· (exact dT (by (omega))))) | refine TL_gq2 (op_move rfl) rfl ?_ | (refine T_no rfl ?_ ?_; (· (with_reducible rfl)))))
        refine TQ_roundS (i + 1, ad, cd, Nd) ⟨hil, hdat⟩ ?_ (fun w h => h.tail) (by dsimp only; omega)
        (repeat ((first | exact trivial | refine ⟨rfl, ?_⟩)))
      · repeat ((first | with_reducible refine T_seq ?_ | with_reducible refine T_region ?_ | with_reducible refine TL_nil ?_ | with_reducible refine TQ_then ?_ | with_reducible refine TQ_block ?_ | with_reducible refine T_exit ?_ | with_reducible refine TQ_then_exit ?_ | with_reducible refine TQ_block_exit ?_ | refine TL_q (op_move rfl) rfl ?_ | refine TL_q (op_assign rfl) rfl ?_ | (refine' TL_q (op_bin rfl rfl ?_) rfl ?_; rotate_left 1; (· (first | exact bin_add ⟨by omega, by omega⟩ | exact bin_lss))) | (refine' TL_q (op_pickF rfl ?_ rfl) rfl ?_; (· (exact dF (by (omega))))) | refine TL_q (op_len_slice rfl Try.underlying58) rfl ?_ | refine TL_q (op_fld rfl fld_60_4) rfl ?_ | (refine' TL_q (op_ld rfl pl_3 ?_ ?_) rfl ?_; rotate_left 4; (· repeat ((exact List.mem_cons_self))); (· (rfl))) | (refine TL_gno rfl rfl ?_ rfl ?_; (· (exact dF (by (omega))))) | (refine T_no rfl ?_ ?_; (· (with_reducible rfl)))))
        refine TQ_roundS (i + 1, ad, cd, Nd) ⟨hil, hdat⟩ ?_ (fun w h => h.tail) (by dsimp only; omega)
        (repeat ((first | exact trivial | refine ⟨rfl, ?_⟩)))
  · have hie : i = l.length := by omega
    subst hie
    rw [List.take_length] at hdat hti hlni ⊢
    obtain ⟨D, hD⟩ : ∃ D, Vd.endsPut q l [] = D := ⟨_, rfl⟩
    rw [hD] at hdat hU hlni ⊢
    have hcd := (sliceR.cut hdat).2.1
    obtain ⟨f, hf⟩ : ∃ f, l[Vd.firstAt l l.length]? = some f := ⟨_, List.getElem?_eq_getElem hfl⟩
    rw [hf] at hU
    dsimp only at hU
    obtain ⟨csf, _, hfv0, hcf⟩ := qw _ f hf
    obtain ⟨f1, fc1, f2, fc2, rfl, hf1, hf2, hf3, _⟩ := hfv0.vals
    have hfv : ∀ j v, ([.int .u8 f.vd.code, .slice f1 f.vd.sets.length fc1, .slice f2 f.vd.soa.length fc2] : List Value)[j]? = some v → Cw[ow + Vd.firstAt l l.length * 5 + 1 + j]? = some v := fun j v hj => by
      rw [Nat.add_assoc]
      match j, hj with
      | 0, hj => exact hcf 1 v hj
      | 1, hj => exact hcf 2 v hj
      | 2, hj => exact hcf 3 v hj
    have hfr : vdR L [.int .u8 f.vd.code, .slice f1 f.vd.sets.length fc1, .slice f2 f.vd.soa.length fc2] f.vd := mono_vd _ _ _ _ hKL ⟨_, _, rfl, hf1, hf2, hf3⟩
    have mwc : (bw, Obj.cells Cw tw fw) ∈ (bQ, Obj.cells #[.string (bs q.name), .int .u16 q.kind, .int .u16 q.cls] 34 (0, 0)) :: ((b4, Obj.cells #[.int .u8 0, .slice none 0 0, .slice none 0 0] 42 (0, 0)) :: (Nd ++ L)) := by simp [mw]
    by_cases hAD : Vd.alikeV l w.vd = true ∨ D.length = 0
    · have hU2 : Vd.union q l = (f.vd, Vd.minTime l w.time, true) := by
        rw [hU, if_pos]
        rcases hAD with h | h
        · rw [h]; rfl
        · rw [List.eq_nil_of_length_eq_zero h]; simp
      rw [hU2]
      by_cases hA : Vd.alikeV l w.vd = true
      · repeat ((first | with_reducible refine T_seq ?_ | with_reducible refine T_region ?_ | with_reducible refine TL_nil ?_ | with_reducible refine TQ_then ?_ | with_reducible refine T_exit ?_ | with_reducible refine TQ_then_exit ?_ | with_reducible refine TQ_block_exit ?_ | refine TL_q (op_move rfl) rfl ?_ | (refine' TL_q (op_bin rfl rfl ?_) rfl ?_; rotate_left 1; (· (exact bin_lss))) | (refine' TL_q (op_pickT rfl ?_ rfl) rfl ?_; (· (assumption))) | refine TL_q (op_len_slice rfl Try.underlying50) rfl ?_ | (refine' TL_q (op_idx ety_50 rfl rfl ?_) rfl ?_; (· omega)) | refine TL_q (op_fld rfl fld_34_1) rfl ?_ | (refine TL_gno rfl rfl ?_ rfl ?_; (· (assumption))) | (refine T_yes rfl ?_ ?_; (· (with_reducible rfl))) | (refine T_no rfl ?_ ?_; (· (exact dF (by (omega)))))))
        refine TL_q (op_ldA [.int .u8 f.vd.code, .slice f1 f.vd.sets.length fc1, .slice f2 f.vd.soa.length fc2] rfl st_42 mwc hfv) rfl ?_
        repeat ((refine TL_q (op_move rfl) rfl ?_))
        refine TL_cnt (L' := (b4, Obj.cells #[.int .u8 0, .slice none 0 0, .slice none 0 0] 42 (0, 0)) :: L) ?_ (by intro p; (try simp only [cnt_append, cnt_cons, cnt_nil]) <;> omega)
        repeat ((first | with_reducible refine TL_nil ?_ | with_reducible refine TQ_then ?_ | with_reducible refine T_ret ?_ | with_reducible refine TQ_then_ret ?_ | refine TL_q (op_assign rfl) rfl ?_ | (refine TL_stAll rfl rfl st_42 rfl rfl rfl ?_)))
        refine TQ_retC3 4 42 5 6 rfl rfl rfl rfl st_42 (by repeat ((exact List.mem_cons_self))) rfl (fun w h => Heap.cnt (L' := [] ++ L) h (by intro p; (try simp only [cnt_append, cnt_cons, cnt_nil]) <;> omega)) ?_
        exact ⟨[.int .u8 f.vd.code, .slice f1 f.vd.sets.length fc1, .slice f2 f.vd.soa.length fc2], [], rfl, hfr, rfl⟩
      · have hA' : Vd.alikeV l w.vd = false := by simpa using hA
        have hD0 : D.length = 0 := by rcases hAD with h | h; exact absurd h hA; exact h
        repeat ((first | with_reducible refine T_seq ?_ | with_reducible refine T_region ?_ | with_reducible refine TL_nil ?_ | with_reducible refine TQ_then ?_ | with_reducible refine T_exit ?_ | with_reducible refine TQ_then_exit ?_ | with_reducible refine TQ_block_exit ?_ | refine TL_q (op_move rfl) rfl ?_ | (refine' TL_q (op_bin rfl rfl ?_) rfl ?_; rotate_left 1; (· (exact bin_lss))) | (refine' TL_q (op_pickF rfl ?_ rfl) rfl ?_; (· (assumption))) | refine TL_q (op_len_slice rfl Try.underlying50) rfl ?_ | (refine' TL_q (op_idx ety_50 rfl rfl ?_) rfl ?_; (· omega)) | refine TL_q (op_fld rfl fld_34_1) rfl ?_ | (refine TL_gpre rfl rfl ?_ ?_; (· (assumption))) | refine TL_gq2 (op_move rfl) rfl ?_ | (refine' TL_gq2 (op_bin rfl rfl ?_) rfl ?_; rotate_left 1; (· (exact bin_eql))) | refine TL_gq2 (op_len_slice rfl Try.underlying58) rfl ?_ | (refine T_yes rfl ?_ ?_; (· (exact dT (by (omega))))) | (refine T_no rfl ?_ ?_; (· (exact dF (by (omega)))))))
        refine TL_q (op_ldA [.int .u8 f.vd.code, .slice f1 f.vd.sets.length fc1, .slice f2 f.vd.soa.length fc2] rfl st_42 mwc hfv) rfl ?_
        repeat ((refine TL_q (op_move rfl) rfl ?_))
        refine TL_cnt (L' := (b4, Obj.cells #[.int .u8 0, .slice none 0 0, .slice none 0 0] 42 (0, 0)) :: L) ?_ (by intro p; (try simp only [cnt_append, cnt_cons, cnt_nil]) <;> omega)
        repeat ((first | with_reducible refine TL_nil ?_ | with_reducible refine TQ_then ?_ | with_reducible refine T_ret ?_ | with_reducible refine TQ_then_ret ?_ | refine TL_q (op_assign rfl) rfl ?_ | (refine TL_stAll rfl rfl st_42 rfl rfl rfl ?_)))
        refine TQ_retC3 4 42 5 6 rfl rfl rfl rfl st_42 (by repeat ((exact List.mem_cons_self))) rfl (fun w h => Heap.cnt (L' := [] ++ L) h (by intro p; (try simp only [cnt_append, cnt_cons, cnt_nil]) <;> omega)) ?_
        exact ⟨[.int .u8 f.vd.code, .slice f1 f.vd.sets.length fc1, .slice f2 f.vd.soa.length fc2], [], rfl, hfr, rfl⟩
    · simp only [not_or] at hAD
      obtain ⟨hA, hD0⟩ := hAD
      have hA' : Vd.alikeV l w.vd = false := by simpa using hA
      have hU2 : Vd.union q l = (⟨0, [⟨Nm.fold q.name, q.kind, q.cls, 0, D⟩], []⟩, Vd.minTime l w.time, true) := by
        rw [hU, if_neg]
        rw [hA']
        simp only [Bool.false_or, decide_eq_true_eq]
        exact fun e => hD0 (by rw [e]; rfl)
      rw [hU2]
      have hKm : ∀ z ∈ [(bQ, Obj.cells #[.string (bs q.name), .int .u16 q.kind, .int .u16 q.cls] 34 (0, 0))], z ∈ (bQ, Obj.cells #[.string (bs q.name), .int .u16 q.kind, .int .u16 q.cls] 34 (0, 0)) :: ((b4, Obj.cells #[.int .u8 0, .slice none 0 0, .slice none 0 0] 42 (0, 0)) :: (Nd ++ L)) := (mem_of_cnt (by intro p; (try simp only [cnt_append, cnt_cons, cnt_nil]) <;> omega))
      have hD0' : ¬ ((D.length : Nat) : Int) = 0 := by omega
      repeat ((first | with_reducible refine T_seq ?_ | with_reducible refine T_region ?_ | with_reducible refine TL_nil ?_ | with_reducible refine TQ_then ?_ | with_reducible refine T_skip ?_ | with_reducible refine T_exit ?_ | with_reducible refine TQ_then_exit ?_ | with_reducible refine TQ_block_exit ?_ | refine TL_q (op_move rfl) rfl ?_ | (refine' TL_q (op_bin rfl rfl ?_) rfl ?_; rotate_left 1; (· (exact bin_lss))) | (refine' TL_q (op_pickF rfl ?_ rfl) rfl ?_; (· (assumption))) | refine TL_q (op_len_slice rfl Try.underlying50) rfl ?_ | (refine TL_gpre rfl rfl ?_ ?_; (· (assumption))) | refine TL_gq2 (op_move rfl) rfl ?_ | (refine' TL_gq2 (op_bin rfl rfl ?_) rfl ?_; rotate_left 1; (· (exact bin_eql))) | refine TL_gq2 (op_len_slice rfl Try.underlying58) rfl ?_ | (refine T_no rfl ?_ ?_; (· (exact dF (by (first | assumption | omega)))))))
      refine T_draw follows_mixed ([(bQ, Obj.cells #[.string (bs q.name), .int .u16 q.kind, .int .u16 q.cls] 34 (0, 0))]) [] ?_
      (refine' TA_take 0 rfl rfl (by kernel_rfl) (quiet_q (op_fld rfl fld_34_0)) ?_ ?_; (· (assumption)))
      (refine' TA_take 1 rfl rfl (by kernel_rfl) (quiet_q (op_ld rfl pl_9 ?_ ?_)) ?_ ?_; rotate_left 4; (· repeat ((exact List.mem_cons_self))); (· (rfl)); (· (assumption)))
      refine' TA_take 2 rfl rfl (by kernel_rfl) (quiet_call hb_61 rfl (fun _ _ => refFold_S _ ?_)) ?_ ?_; (· (omega)); (· (assumption))
      (refine' TA_take 3 rfl rfl (by kernel_rfl) (quiet_q (op_fld rfl fld_34_1)) ?_ ?_; (· (assumption)))
      (refine' TA_take 4 rfl rfl (by kernel_rfl) (quiet_q (op_ld rfl pl_23 ?_ ?_)) ?_ ?_; rotate_left 4; (· repeat ((exact List.mem_cons_self))); (· (rfl)); (· (assumption)))
      (refine' TA_take 5 rfl rfl (by kernel_rfl) (quiet_q (op_fld rfl fld_34_2)) ?_ ?_; (· (assumption)))
      (refine' TA_take 6 rfl rfl (by kernel_rfl) (quiet_q (op_ld rfl pl_23 ?_ ?_)) ?_ ?_; rotate_left 4; (· repeat ((exact List.mem_cons_self))); (· (rfl)); (· (assumption)))
      (refine' TA_take 7 rfl rfl (by kernel_rfl) (quiet_q (op_move rfl)) ?_ ?_; (· (assumption)))
      (refine' TA_take 8 rfl rfl (by kernel_rfl) (quiet_q (op_build rfl (bl_60_0_1_2_4 _ _ _ _ _ _))) ?_ ?_; (· (assumption)))
      (refine' TA_take 11 rfl rfl (by kernel_rfl) (quiet_q (op_move rfl)) ?_ ?_; (· (assumption)))
      refine TA_oneD 9 (by kernel_rfl) rfl rfl rfl rfl (op_litN ety_40 rfl rfl (by decide)) ?_; rintro _ _ ⟨bL, rfl, rfl⟩; refine ⟨Or.inr (fun z hz => mem_of_cnt (by intro p; (try simp only [cnt_append, cnt_cons, cnt_nil]) <;> omega) z (hKm z hz)), ?_⟩
      (refine' TA_take 10 rfl rfl (by kernel_rfl) (quiet_q (op_build rfl (bl_42_1 _ _ _))) ?_ ?_; (· (intro p hp; grind)))
      refine TA_cnt (L' := (b4, Obj.cells #[.int .u8 0, .slice none 0 0, .slice none 0 0] 42 (0, 0)) :: ((bL, Obj.cells #[.string (bs (Nm.fold q.name)), .int .u16 q.kind, .int .u16 q.cls, .int .u32 0, .slice ad D.length cd] 60 (0, 0)) :: ((bQ, Obj.cells #[.string (bs q.name), .int .u16 q.kind, .int .u16 q.cls] 34 (0, 0)) :: (Nd ++ L)))) ?_ (by intro p; (try simp only [cnt_append, cnt_cons, cnt_nil]) <;> omega); refine TA_oneN 12 (by kernel_rfl) rfl rfl rfl (op_stAll rfl rfl st_42 rfl rfl rfl) ?_; rintro _ _ ⟨_, rfl⟩; refine ⟨Or.inr (mem_of_cnt (by intro p; (try simp only [cnt_append, cnt_cons, cnt_nil]) <;> omega)), ?_⟩
      (refine' TA_take 13 rfl rfl (by kernel_rfl) (quiet_q (op_assign rfl)) ?_ ?_; (· (intro p hp; grind)))
      (refine' TA_take 14 rfl rfl (by kernel_rfl) (quiet_q (op_assign rfl)) ?_ ?_; (· (intro p hp; grind)))
      refine TA_done (by kernel_rfl) ?_
      repeat ((first | with_reducible refine TQ_then ?_ | with_reducible refine T_ret ?_))
      refine TQ_retC3 4 42 5 6 rfl rfl rfl rfl st_42 (by repeat ((exact List.mem_cons_self))) rfl (fun w h => Heap.cnt (L' := ((bL, Obj.cells #[.string (bs (Nm.fold q.name)), .int .u16 q.kind, .int .u16 q.cls, .int .u32 0, .slice ad D.length cd] 60 (0, 0)) :: Nd) ++ L) h (by intro p; (try simp only [cnt_append, cnt_cons, cnt_nil]) <;> omega)) ?_
      refine ⟨[.int .u8 0, .slice (some ⟨bL, 0, none⟩) 1 1, .slice none 0 0], _, rfl, ⟨_, _, rfl, ?_, sliceR.nil, by simp⟩, rfl⟩
      have hr : rsR (Nd ++ L) [.string (bs (Nm.fold q.name)), .int .u16 q.kind, .int .u16 q.cls, .int .u32 0, .slice ad D.length cd] ⟨Nm.fold q.name, q.kind, q.cls, 0, D⟩ := ⟨_, rfl, hdat, by have := fold_255 q.name; unfold maxLen; dsimp only; omega, hq2, hq3, by simp⟩
      exact (rs_lit (b := bL) (e := 60) hr).sliceR mono_set (mem_of_cnt (by intro p; (try simp only [cnt_append, cnt_cons, cnt_nil]) <;> omega)) (mem_of_cnt (by intro p; (try simp only [cnt_append, cnt_cons, cnt_nil]) <;> omega))
end Go.Proofs.Ytdflhdfapnhjjaa
namespace Go.Proofs.Ytdflhdfapnhjjaa
open Go.RowKit
open Vd (RSet Vdt Vote Rec Quest Piece Ballot Said)
set_option linter.unusedVariables false
set_option linter.unusedSimpArgs false
--auto
variable {G : World} {L : Blocks}
theorem vote_eq {a b : Vote} : a = b ↔ a.up = b.up ∧ a.time = b.time ∧ a.vd = b.vd := by
  cases a; cases b; simp only [Vote.mk.injEq]; exact ⟨fun h => ⟨h.1, h.2.2, h.2.1⟩, fun h => ⟨h.1, h.2.2, h.2.1⟩⟩
set_option maxRecDepth 100000 in
set_option maxHeartbeats 2000000 in
theorem rSameV_S (va vb : Value) (la lb : List Vote) (ha : sliceR 5 voteR L [va] la) (hb : sliceR 5 voteR L [vb] lb) : Spec Try.prog G 25 #[va, vb] L fun u M => u = .bool (decide (la = lb)) ∧ M = L := by
  obtain ⟨aa, ca, e1, ha⟩ := ha.val
  obtain ⟨ab, cb, e2, hb⟩ := hb.val
  simp only [List.cons.injEq, and_true] at e1 e2
  subst e1 e2
  obtain ⟨_, ka1, ka2, ha⟩ := sliceR.cut ha
  obtain ⟨_, kb1, kb2, hb⟩ := sliceR.cut hb
  unfold maxLen at ka2 kb2
  refine Spec_of (n := 55) Try.func25 rfl rfl rfl ?_
  by_cases hlen : la.length = lb.length
  · have d0 : (((la.length : Nat) : Int) != ((lb.length : Nat) : Int)) = false := by simp [hlen]
    repeat (first | with_reducible refine T_seq ?_ | with_reducible refine T_block ?_ | with_reducible refine T_region ?_ | with_reducible refine TL_nil ?_ | with_reducible refine TQ_then ?_ | with_reducible refine T_skip ?_ | refine TL_q (op_move rfl) rfl ?_ | refine TL_q (op_assign rfl) rfl ?_ | (refine' TL_q (op_bin rfl rfl ?_) rfl ?_; rotate_left 1; (· (exact bin_neq))) | refine TL_q (op_len_slice rfl Try.underlying50) rfl ?_ | (refine T_no rfl ?_ ?_; (· (assumption))))
    refine T_loopS (σ := Nat) (fun k => k ≤ la.length ∧ la.take k = lb.take k) (fun k => [(0, .slice aa la.length ca), (1, .slice ab lb.length cb), (5, .int .i64 (k : Nat))]) (fun k => L) (fun k => la.length - k) 0 ⟨Nat.zero_le _, by simp⟩ ?_ (fun w h => h) ?_
    (repeat (first | exact trivial | refine ⟨rfl, ?_⟩))
    rintro k ⟨hk, heq⟩
    by_cases hlt : k < la.length
    · obtain ⟨x, hx⟩ : ∃ x, la[k]? = some x := ⟨_, List.getElem?_eq_getElem hlt⟩
      obtain ⟨y, hy⟩ : ∃ y, lb[k]? = some y := ⟨_, List.getElem?_eq_getElem (hlen ▸ hlt)⟩
      rcases ha with rfl | ⟨b1, o1, C1, t1, f1, rfl, m1, q1⟩
      · simp at hlt
      rcases hb with rfl | ⟨b2, o2, C2, t2, f2, rfl, m2, q2⟩
      · simp at hy
      obtain ⟨_, _, hx0, hcx⟩ := q1 k x hx
      obtain ⟨_, _, hy0, hcy⟩ := q2 k y hy
      obtain ⟨x1, xc1, x2, xc2, rfl, p1, p2, p3, _⟩ := hx0.vals
      obtain ⟨y1, yc1, y2, yc2, rfl, r1, r2, r3, _⟩ := hy0.vals
      have hxr : vdR L [.int .u8 x.vd.code, .slice x1 x.vd.sets.length xc1, .slice x2 x.vd.soa.length xc2] x.vd := ⟨_, _, rfl, p1, p2, p3⟩
      have hyr : vdR L [.int .u8 y.vd.code, .slice y1 y.vd.sets.length yc1, .slice y2 y.vd.soa.length yc2] y.vd := ⟨_, _, rfl, r1, r2, r3⟩
      have g1 : C1[o1 + k * 5 + 0]? = some (.int .i64 x.up) := hcx 0 _ rfl
      have g2 : C2[o2 + k * 5 + 0]? = some (.int .i64 y.up) := hcy 0 _ rfl
      have g3 : C1[o1 + k * 5 + 4]? = some (.int .u32 x.time) := hcx 4 _ rfl
      have g4 : C2[o2 + k * 5 + 4]? = some (.int .u32 y.time) := hcy 4 _ rfl
      have hxv : ∀ j v, ([.int .u8 x.vd.code, .slice x1 x.vd.sets.length xc1, .slice x2 x.vd.soa.length xc2] : List Value)[j]? = some v → C1[o1 + k * 5 + 1 + j]? = some v := fun j v hj => by
        rw [Nat.add_assoc]
        match j, hj with
        | 0, hj => exact hcx 1 v hj
        | 1, hj => exact hcx 2 v hj
        | 2, hj => exact hcx 3 v hj
      have hyv : ∀ j v, ([.int .u8 y.vd.code, .slice y1 y.vd.sets.length yc1, .slice y2 y.vd.soa.length yc2] : List Value)[j]? = some v → C2[o2 + k * 5 + 1 + j]? = some v := fun j v hj => by
        rw [Nat.add_assoc]
        match j, hj with
        | 0, hj => exact hcy 1 v hj
        | 1, hj => exact hcy 2 v hj
        | 2, hj => exact hcy 3 v hj
      have hK : ∀ z ∈ [(b1, Obj.cells C1 t1 f1), (b2, Obj.cells C2 t2 f2)], z ∈ L := fun z hz => by
        simp only [List.mem_cons, List.not_mem_nil, or_false] at hz
        rcases hz with rfl | rfl <;> assumption
      have hne : x ≠ y → la ≠ lb := fun hxy e => hxy (by rw [e, hy] at hx; exact (Option.some.inj hx).symm)
      by_cases n1 : x.up = y.up
      · by_cases n2 : x.time = y.time
        · by_cases n3 : x.vd = y.vd
          · have hxy : x = y := vote_eq.2 ⟨n1, n2, n3⟩
            have d3 : (!decide (x.vd = y.vd)) = false := by simp [n3]
            repeat (first | with_reducible refine T_seq ?_ | with_reducible refine T_block ?_ | with_reducible refine T_region ?_ | with_reducible refine TL_nil ?_ | with_reducible refine TQ_then ?_ | with_reducible refine T_skip ?_ | refine TL_q (op_move rfl) rfl ?_ | (refine' TL_q (op_bin rfl rfl ?_) rfl ?_; rotate_left 1; (· (exact bin_lss))) | refine TL_q (op_len_slice rfl Try.underlying50) rfl ?_ | (refine T_yes rfl ?_ ?_; (· (exact dT (by (omega))))))
            refine T_draw follows_mixed ([(b1, Obj.cells C1 t1 f1), (b2, Obj.cells C2 t2 f2)]) [] ?_
            (refine' TA_take 0 rfl rfl (by kernel_rfl) (quiet_q (op_move rfl)) ?_ ?_; (· (assumption)))
            (refine' TA_take 1 rfl rfl (by kernel_rfl) (quiet_q (op_move rfl)) ?_ ?_; (· (assumption)))
            (refine' TA_take 2 rfl rfl (by kernel_rfl) (quiet_q (op_idx ety_50 rfl rfl ?_)) ?_ ?_; (· omega); (· (assumption)))
            (refine' TA_take 3 rfl rfl (by kernel_rfl) (quiet_q (op_fld rfl fld_63_0)) ?_ ?_; (· (assumption)))
            (refine' TA_take 4 rfl rfl (by kernel_rfl) (quiet_q (op_ld rfl pl_3 ?_ ?_)) ?_ ?_; rotate_left 4; (· repeat ((exact List.mem_cons_self))); (· (assumption)); (· (assumption)))
            (refine' TA_take 5 rfl rfl (by kernel_rfl) (quiet_q (op_move rfl)) ?_ ?_; (· (assumption)))
            (refine' TA_take 6 rfl rfl (by kernel_rfl) (quiet_q (op_move rfl)) ?_ ?_; (· (assumption)))
            (refine' TA_take 7 rfl rfl (by kernel_rfl) (quiet_q (op_idx ety_50 rfl rfl ?_)) ?_ ?_; (· omega); (· (assumption)))
            (refine' TA_take 8 rfl rfl (by kernel_rfl) (quiet_q (op_fld rfl fld_63_0)) ?_ ?_; (· (assumption)))
            (refine' TA_take 9 rfl rfl (by kernel_rfl) (quiet_q (op_ld rfl pl_3 ?_ ?_)) ?_ ?_; rotate_left 4; (· repeat (first | exact List.mem_cons_self | apply List.mem_cons_of_mem)); (· (assumption)); (· (assumption)))
            (refine' TA_take 10 rfl rfl (by kernel_rfl) (quiet_q (op_bin rfl rfl ?_)) ?_ ?_; rotate_left 1; (· (exact bin_neq)); (· (assumption)))
            (refine' TA_take 11 rfl rfl (by kernel_rfl) (quiet_q (op_move rfl)) ?_ ?_; (· (assumption)))
            (refine' TA_take 12 rfl rfl (by kernel_rfl) (quiet_g2 rfl rfl (by (exact nF (by (assumption)))) (op_move rfl)) ?_ ?_; (· (assumption)))
            (refine' TA_take 13 rfl rfl (by kernel_rfl) (quiet_g2 rfl rfl (by (exact nF (by (assumption)))) (op_move rfl)) ?_ ?_; (· (assumption)))
            (refine' TA_take 14 rfl rfl (by kernel_rfl) (quiet_g2 rfl rfl (by (exact nF (by (assumption)))) (op_idx ety_50 rfl rfl ?_)) ?_ ?_; (· omega); (· (assumption)))
            (refine' TA_take 15 rfl rfl (by kernel_rfl) (quiet_g2 rfl rfl (by (exact nF (by (assumption)))) (op_fld rfl fld_63_2)) ?_ ?_; (· (assumption)))
            (refine' TA_take 16 rfl rfl (by kernel_rfl) (quiet_g2 rfl rfl (by (exact nF (by (assumption)))) (op_ld rfl pl_36 ?_ ?_)) ?_ ?_; rotate_left 4; (· repeat ((exact List.mem_cons_self))); (· (assumption)); (· (assumption)))
            (refine' TA_take 17 rfl rfl (by kernel_rfl) (quiet_g2 rfl rfl (by (exact nF (by (assumption)))) (op_move rfl)) ?_ ?_; (· (assumption)))
            (refine' TA_take 18 rfl rfl (by kernel_rfl) (quiet_g2 rfl rfl (by (exact nF (by (assumption)))) (op_move rfl)) ?_ ?_; (· (assumption)))
            (refine' TA_take 19 rfl rfl (by kernel_rfl) (quiet_g2 rfl rfl (by (exact nF (by (assumption)))) (op_idx ety_50 rfl rfl ?_)) ?_ ?_; (· omega); (· (assumption)))
            (refine' TA_take 20 rfl rfl (by kernel_rfl) (quiet_g2 rfl rfl (by (exact nF (by (assumption)))) (op_fld rfl fld_63_2)) ?_ ?_; (· (assumption)))
            (refine' TA_take 21 rfl rfl (by kernel_rfl) (quiet_g2 rfl rfl (by (exact nF (by (assumption)))) (op_ld rfl pl_36 ?_ ?_)) ?_ ?_; rotate_left 4; (· repeat (first | exact List.mem_cons_self | apply List.mem_cons_of_mem)); (· (assumption)); (· (assumption)))
            (refine' TA_take 22 rfl rfl (by kernel_rfl) (quiet_g2 rfl rfl (by (exact nF (by (assumption)))) (op_bin rfl rfl ?_)) ?_ ?_; rotate_left 1; (· (exact bin_neq)); (· (assumption)))
            (refine' TA_take 23 rfl rfl (by kernel_rfl) (quiet_q (op_pickF rfl ?_ rfl)) ?_ ?_; (· (exact nF (by (assumption)))); (· (assumption)))
            (refine' TA_take 24 rfl rfl (by kernel_rfl) (quiet_q (op_move rfl)) ?_ ?_; (· (assumption)))
            (refine' TA_take 25 rfl rfl (by kernel_rfl) (quiet_g2 rfl rfl (by (exact nF (by (assumption)))) (op_move rfl)) ?_ ?_; (· (assumption)))
            (refine' TA_take 26 rfl rfl (by kernel_rfl) (quiet_g2 rfl rfl (by (exact nF (by (assumption)))) (op_move rfl)) ?_ ?_; (· (assumption)))
            (refine' TA_take 27 rfl rfl (by kernel_rfl) (quiet_g2 rfl rfl (by (exact nF (by (assumption)))) (op_idx ety_50 rfl rfl ?_)) ?_ ?_; (· omega); (· (assumption)))
            (refine' TA_take 28 rfl rfl (by kernel_rfl) (quiet_g2 rfl rfl (by (exact nF (by (assumption)))) (op_fld rfl fld_63_1)) ?_ ?_; (· (assumption)))
            (refine' TA_take 30 rfl rfl (by kernel_rfl) (quiet_g2 rfl rfl (by (exact nF (by (assumption)))) (op_move rfl)) ?_ ?_; (· (assumption)))
            (refine' TA_take 31 rfl rfl (by kernel_rfl) (quiet_g2 rfl rfl (by (exact nF (by (assumption)))) (op_move rfl)) ?_ ?_; (· (assumption)))
            (refine' TA_take 32 rfl rfl (by kernel_rfl) (quiet_g2 rfl rfl (by (exact nF (by (assumption)))) (op_idx ety_50 rfl rfl ?_)) ?_ ?_; (· omega); (· (assumption)))
            (refine' TA_take 33 rfl rfl (by kernel_rfl) (quiet_g2 rfl rfl (by (exact nF (by (assumption)))) (op_fld rfl fld_63_1)) ?_ ?_; (· (assumption)))
            -- SEVERAL: [29, 34]
            (refine TA_take 29 rfl rfl (by kernel_rfl) (quiet_g2 rfl rfl (by (exact nF (by (assumption)))) (op_ldA [.int .u8 x.vd.code, .slice x1 x.vd.sets.length xc1, .slice x2 x.vd.soa.length xc2] rfl st_42 (List.mem_cons_self ..) hxv)) ?_ ?_; (· exact hK))
            (refine TA_take 34 rfl rfl (by kernel_rfl) (quiet_g2 rfl rfl (by (exact nF (by (assumption)))) (op_ldA [.int .u8 y.vd.code, .slice y1 y.vd.sets.length yc1, .slice y2 y.vd.soa.length yc2] rfl st_42 (List.mem_cons_of_mem _ (List.mem_cons_self ..)) hyv)) ?_ ?_; (· exact hK))
            (refine TA_oneGd 35 (by kernel_rfl) rfl rfl rfl rfl (by (exact nF (by (assumption)))) (op_call hb_23 rfl (vSame_S [.int .u8 x.vd.code, .slice x1 x.vd.sets.length xc1, .slice x2 x.vd.soa.length xc2] [.int .u8 y.vd.code, .slice y1 y.vd.sets.length yc1, .slice y2 y.vd.soa.length yc2] x.vd y.vd hxr hyr)) ?_; rintro _ _ ⟨rfl, rfl⟩; refine ⟨Or.inr hK, ?_⟩)
            (refine' TA_take 36 rfl rfl (by kernel_rfl) (quiet_g2 rfl rfl (by (exact nF (by (assumption)))) (op_not rfl)) ?_ ?_; (· (assumption)))
            (refine' TA_take 37 rfl rfl (by kernel_rfl) (quiet_q (op_pickF rfl ?_ rfl)) ?_ ?_; (· (exact nF (by (assumption)))); (· (assumption)))
            refine TA_done (by kernel_rfl) ?_
            repeat (first | with_reducible refine T_region ?_ | with_reducible refine TL_nil ?_ | with_reducible refine TQ_then ?_ | with_reducible refine TQ_block ?_ | with_reducible refine T_skip ?_ | refine TL_q (op_move rfl) rfl ?_ | refine TL_q (op_assign rfl) rfl ?_ | (refine' TL_q (op_bin rfl rfl ?_) rfl ?_; rotate_left 1; (· (exact bin_add ⟨by omega, by omega⟩))) | (refine T_no rfl ?_ ?_; (· (assumption))))
            refine TQ_roundS (k + 1) ⟨hlt, by subst hxy; exact take_ext heq hx hy⟩ ?_ (fun w h => h) (by omega)
            (repeat (first | exact trivial | refine ⟨rfl, ?_⟩))
          · have d3 : (!decide (x.vd = y.vd)) = true := by simp [n3]
            repeat (first | with_reducible refine T_seq ?_ | with_reducible refine T_block ?_ | with_reducible refine T_region ?_ | with_reducible refine TL_nil ?_ | with_reducible refine TQ_then ?_ | with_reducible refine T_skip ?_ | refine TL_q (op_move rfl) rfl ?_ | (refine' TL_q (op_bin rfl rfl ?_) rfl ?_; rotate_left 1; (· (exact bin_lss))) | refine TL_q (op_len_slice rfl Try.underlying50) rfl ?_ | (refine T_yes rfl ?_ ?_; (· (exact dT (by (omega))))))
            refine T_draw follows_mixed ([(b1, Obj.cells C1 t1 f1), (b2, Obj.cells C2 t2 f2)]) [] ?_
            (refine' TA_take 0 rfl rfl (by kernel_rfl) (quiet_q (op_move rfl)) ?_ ?_; (· (assumption)))
            (refine' TA_take 1 rfl rfl (by kernel_rfl) (quiet_q (op_move rfl)) ?_ ?_; (· (assumption)))
            (refine' TA_take 2 rfl rfl (by kernel_rfl) (quiet_q (op_idx ety_50 rfl rfl ?_)) ?_ ?_; (· omega); (· (assumption)))
            (refine' TA_take 3 rfl rfl (by kernel_rfl) (quiet_q (op_fld rfl fld_63_0)) ?_ ?_; (· (assumption)))
            (refine' TA_take 4 rfl rfl (by kernel_rfl) (quiet_q (op_ld rfl pl_3 ?_ ?_)) ?_ ?_; rotate_left 4; (· repeat ((exact List.mem_cons_self))); (· (assumption)); (· (assumption)))
            (refine' TA_take 5 rfl rfl (by kernel_rfl) (quiet_q (op_move rfl)) ?_ ?_; (· (assumption)))
            (refine' TA_take 6 rfl rfl (by kernel_rfl) (quiet_q (op_move rfl)) ?_ ?_; (· (assumption)))
            (refine' TA_take 7 rfl rfl (by kernel_rfl) (quiet_q (op_idx ety_50 rfl rfl ?_)) ?_ ?_; (· omega); (· (assumption)))
            (refine' TA_take 8 rfl rfl (by kernel_rfl) (quiet_q (op_fld rfl fld_63_0)) ?_ ?_; (· (assumption)))
            (refine' TA_take 9 rfl rfl (by kernel_rfl) (quiet_q (op_ld rfl pl_3 ?_ ?_)) ?_ ?_; rotate_left 4; (· repeat (first | exact List.mem_cons_self | apply List.mem_cons_of_mem)); (· (assumption)); (· (assumption)))
            (refine' TA_take 10 rfl rfl (by kernel_rfl) (quiet_q (op_bin rfl rfl ?_)) ?_ ?_; rotate_left 1; (· (exact bin_neq)); (· (assumption)))
            (refine' TA_take 11 rfl rfl (by kernel_rfl) (quiet_q (op_move rfl)) ?_ ?_; (· (assumption)))
            (refine' TA_take 12 rfl rfl (by kernel_rfl) (quiet_g2 rfl rfl (by (exact nF (by (assumption)))) (op_move rfl)) ?_ ?_; (· (assumption)))
            (refine' TA_take 13 rfl rfl (by kernel_rfl) (quiet_g2 rfl rfl (by (exact nF (by (assumption)))) (op_move rfl)) ?_ ?_; (· (assumption)))
            (refine' TA_take 14 rfl rfl (by kernel_rfl) (quiet_g2 rfl rfl (by (exact nF (by (assumption)))) (op_idx ety_50 rfl rfl ?_)) ?_ ?_; (· omega); (· (assumption)))
            (refine' TA_take 15 rfl rfl (by kernel_rfl) (quiet_g2 rfl rfl (by (exact nF (by (assumption)))) (op_fld rfl fld_63_2)) ?_ ?_; (· (assumption)))
            (refine' TA_take 16 rfl rfl (by kernel_rfl) (quiet_g2 rfl rfl (by (exact nF (by (assumption)))) (op_ld rfl pl_36 ?_ ?_)) ?_ ?_; rotate_left 4; (· repeat ((exact List.mem_cons_self))); (· (assumption)); (· (assumption)))
            (refine' TA_take 17 rfl rfl (by kernel_rfl) (quiet_g2 rfl rfl (by (exact nF (by (assumption)))) (op_move rfl)) ?_ ?_; (· (assumption)))
            (refine' TA_take 18 rfl rfl (by kernel_rfl) (quiet_g2 rfl rfl (by (exact nF (by (assumption)))) (op_move rfl)) ?_ ?_; (· (assumption)))
            (refine' TA_take 19 rfl rfl (by kernel_rfl) (quiet_g2 rfl rfl (by (exact nF (by (assumption)))) (op_idx ety_50 rfl rfl ?_)) ?_ ?_; (· omega); (· (assumption)))
            (refine' TA_take 20 rfl rfl (by kernel_rfl) (quiet_g2 rfl rfl (by (exact nF (by (assumption)))) (op_fld rfl fld_63_2)) ?_ ?_; (· (assumption)))
            (refine' TA_take 21 rfl rfl (by kernel_rfl) (quiet_g2 rfl rfl (by (exact nF (by (assumption)))) (op_ld rfl pl_36 ?_ ?_)) ?_ ?_; rotate_left 4; (· repeat (first | exact List.mem_cons_self | apply List.mem_cons_of_mem)); (· (assumption)); (· (assumption)))
            (refine' TA_take 22 rfl rfl (by kernel_rfl) (quiet_g2 rfl rfl (by (exact nF (by (assumption)))) (op_bin rfl rfl ?_)) ?_ ?_; rotate_left 1; (· (exact bin_neq)); (· (assumption)))
            (refine' TA_take 23 rfl rfl (by kernel_rfl) (quiet_q (op_pickF rfl ?_ rfl)) ?_ ?_; (· (exact nF (by (assumption)))); (· (assumption)))
            (refine' TA_take 24 rfl rfl (by kernel_rfl) (quiet_q (op_move rfl)) ?_ ?_; (· (assumption)))
            (refine' TA_take 25 rfl rfl (by kernel_rfl) (quiet_g2 rfl rfl (by (exact nF (by (assumption)))) (op_move rfl)) ?_ ?_; (· (assumption)))
            (refine' TA_take 26 rfl rfl (by kernel_rfl) (quiet_g2 rfl rfl (by (exact nF (by (assumption)))) (op_move rfl)) ?_ ?_; (· (assumption)))
            (refine' TA_take 27 rfl rfl (by kernel_rfl) (quiet_g2 rfl rfl (by (exact nF (by (assumption)))) (op_idx ety_50 rfl rfl ?_)) ?_ ?_; (· omega); (· (assumption)))
            (refine' TA_take 28 rfl rfl (by kernel_rfl) (quiet_g2 rfl rfl (by (exact nF (by (assumption)))) (op_fld rfl fld_63_1)) ?_ ?_; (· (assumption)))
            (refine' TA_take 30 rfl rfl (by kernel_rfl) (quiet_g2 rfl rfl (by (exact nF (by (assumption)))) (op_move rfl)) ?_ ?_; (· (assumption)))
            (refine' TA_take 31 rfl rfl (by kernel_rfl) (quiet_g2 rfl rfl (by (exact nF (by (assumption)))) (op_move rfl)) ?_ ?_; (· (assumption)))
            (refine' TA_take 32 rfl rfl (by kernel_rfl) (quiet_g2 rfl rfl (by (exact nF (by (assumption)))) (op_idx ety_50 rfl rfl ?_)) ?_ ?_; (· omega); (· (assumption)))
            (refine' TA_take 33 rfl rfl (by kernel_rfl) (quiet_g2 rfl rfl (by (exact nF (by (assumption)))) (op_fld rfl fld_63_1)) ?_ ?_; (· (assumption)))
            -- SEVERAL: [29, 34]
            (refine TA_take 29 rfl rfl (by kernel_rfl) (quiet_g2 rfl rfl (by (exact nF (by (assumption)))) (op_ldA [.int .u8 x.vd.code, .slice x1 x.vd.sets.length xc1, .slice x2 x.vd.soa.length xc2] rfl st_42 (List.mem_cons_self ..) hxv)) ?_ ?_; (· exact hK))
            (refine TA_take 34 rfl rfl (by kernel_rfl) (quiet_g2 rfl rfl (by (exact nF (by (assumption)))) (op_ldA [.int .u8 y.vd.code, .slice y1 y.vd.sets.length yc1, .slice y2 y.vd.soa.length yc2] rfl st_42 (List.mem_cons_of_mem _ (List.mem_cons_self ..)) hyv)) ?_ ?_; (· exact hK))
            (refine TA_oneGd 35 (by kernel_rfl) rfl rfl rfl rfl (by (exact nF (by (assumption)))) (op_call hb_23 rfl (vSame_S [.int .u8 x.vd.code, .slice x1 x.vd.sets.length xc1, .slice x2 x.vd.soa.length xc2] [.int .u8 y.vd.code, .slice y1 y.vd.sets.length yc1, .slice y2 y.vd.soa.length yc2] x.vd y.vd hxr hyr)) ?_; rintro _ _ ⟨rfl, rfl⟩; refine ⟨Or.inr hK, ?_⟩)
            (refine' TA_take 36 rfl rfl (by kernel_rfl) (quiet_g2 rfl rfl (by (exact nF (by (assumption)))) (op_not rfl)) ?_ ?_; (· (assumption)))
            (refine' TA_take 37 rfl rfl (by kernel_rfl) (quiet_q (op_pickF rfl ?_ rfl)) ?_ ?_; (· (exact nF (by (assumption)))); (· (assumption)))
            refine TA_done (by kernel_rfl) ?_
            repeat (first | with_reducible refine T_seq ?_ | with_reducible refine T_region ?_ | with_reducible refine TL_nil ?_ | with_reducible refine TQ_then ?_ | with_reducible refine T_ret ?_ | with_reducible refine TQ_then_ret ?_ | with_reducible refine TQ_block_ret ?_ | refine TL_q (op_assign rfl) rfl ?_ | (refine T_yes rfl ?_ ?_; (· (assumption))))
            refine TQ_ret1 4 _ rfl rfl ?_
            exact ⟨by rw [decide_eq_false (hne (fun e => n3 (by rw [e])))], rfl⟩
        · repeat (first | with_reducible refine T_seq ?_ | with_reducible refine T_block ?_ | with_reducible refine T_region ?_ | with_reducible refine TL_nil ?_ | with_reducible refine TQ_then ?_ | with_reducible refine T_skip ?_ | refine TL_q (op_move rfl) rfl ?_ | (refine' TL_q (op_bin rfl rfl ?_) rfl ?_; rotate_left 1; (· (exact bin_lss))) | refine TL_q (op_len_slice rfl Try.underlying50) rfl ?_ | (refine T_yes rfl ?_ ?_; (· (exact dT (by (omega))))))
          refine T_draw follows_mixed ([(b1, Obj.cells C1 t1 f1), (b2, Obj.cells C2 t2 f2)]) [] ?_
          (refine' TA_take 0 rfl rfl (by kernel_rfl) (quiet_q (op_move rfl)) ?_ ?_; (· (assumption)))
          (refine' TA_take 1 rfl rfl (by kernel_rfl) (quiet_q (op_move rfl)) ?_ ?_; (· (assumption)))
          (refine' TA_take 2 rfl rfl (by kernel_rfl) (quiet_q (op_idx ety_50 rfl rfl ?_)) ?_ ?_; (· omega); (· (assumption)))
          (refine' TA_take 3 rfl rfl (by kernel_rfl) (quiet_q (op_fld rfl fld_63_0)) ?_ ?_; (· (assumption)))
          (refine' TA_take 4 rfl rfl (by kernel_rfl) (quiet_q (op_ld rfl pl_3 ?_ ?_)) ?_ ?_; rotate_left 4; (· repeat ((exact List.mem_cons_self))); (· (assumption)); (· (assumption)))
          (refine' TA_take 5 rfl rfl (by kernel_rfl) (quiet_q (op_move rfl)) ?_ ?_; (· (assumption)))
          (refine' TA_take 6 rfl rfl (by kernel_rfl) (quiet_q (op_move rfl)) ?_ ?_; (· (assumption)))
          (refine' TA_take 7 rfl rfl (by kernel_rfl) (quiet_q (op_idx ety_50 rfl rfl ?_)) ?_ ?_; (· omega); (· (assumption)))
          (refine' TA_take 8 rfl rfl (by kernel_rfl) (quiet_q (op_fld rfl fld_63_0)) ?_ ?_; (· (assumption)))
          (refine' TA_take 9 rfl rfl (by kernel_rfl) (quiet_q (op_ld rfl pl_3 ?_ ?_)) ?_ ?_; rotate_left 4; (· repeat (first | exact List.mem_cons_self | apply List.mem_cons_of_mem)); (· (assumption)); (· (assumption)))
          (refine' TA_take 10 rfl rfl (by kernel_rfl) (quiet_q (op_bin rfl rfl ?_)) ?_ ?_; rotate_left 1; (· (exact bin_neq)); (· (assumption)))
          (refine' TA_take 11 rfl rfl (by kernel_rfl) (quiet_q (op_move rfl)) ?_ ?_; (· (assumption)))
          (refine' TA_take 12 rfl rfl (by kernel_rfl) (quiet_g2 rfl rfl (by (exact nF (by (assumption)))) (op_move rfl)) ?_ ?_; (· (assumption)))
          (refine' TA_take 13 rfl rfl (by kernel_rfl) (quiet_g2 rfl rfl (by (exact nF (by (assumption)))) (op_move rfl)) ?_ ?_; (· (assumption)))
          (refine' TA_take 14 rfl rfl (by kernel_rfl) (quiet_g2 rfl rfl (by (exact nF (by (assumption)))) (op_idx ety_50 rfl rfl ?_)) ?_ ?_; (· omega); (· (assumption)))
          (refine' TA_take 15 rfl rfl (by kernel_rfl) (quiet_g2 rfl rfl (by (exact nF (by (assumption)))) (op_fld rfl fld_63_2)) ?_ ?_; (· (assumption)))
          (refine' TA_take 16 rfl rfl (by kernel_rfl) (quiet_g2 rfl rfl (by (exact nF (by (assumption)))) (op_ld rfl pl_36 ?_ ?_)) ?_ ?_; rotate_left 4; (· repeat ((exact List.mem_cons_self))); (· (assumption)); (· (assumption)))
          (refine' TA_take 17 rfl rfl (by kernel_rfl) (quiet_g2 rfl rfl (by (exact nF (by (assumption)))) (op_move rfl)) ?_ ?_; (· (assumption)))
          (refine' TA_take 18 rfl rfl (by kernel_rfl) (quiet_g2 rfl rfl (by (exact nF (by (assumption)))) (op_move rfl)) ?_ ?_; (· (assumption)))
          (refine' TA_take 19 rfl rfl (by kernel_rfl) (quiet_g2 rfl rfl (by (exact nF (by (assumption)))) (op_idx ety_50 rfl rfl ?_)) ?_ ?_; (· omega); (· (assumption)))
          (refine' TA_take 20 rfl rfl (by kernel_rfl) (quiet_g2 rfl rfl (by (exact nF (by (assumption)))) (op_fld rfl fld_63_2)) ?_ ?_; (· (assumption)))
          (refine' TA_take 21 rfl rfl (by kernel_rfl) (quiet_g2 rfl rfl (by (exact nF (by (assumption)))) (op_ld rfl pl_36 ?_ ?_)) ?_ ?_; rotate_left 4; (· repeat (first | exact List.mem_cons_self | apply List.mem_cons_of_mem)); (· (assumption)); (· (assumption)))
          (refine' TA_take 22 rfl rfl (by kernel_rfl) (quiet_g2 rfl rfl (by (exact nF (by (assumption)))) (op_bin rfl rfl ?_)) ?_ ?_; rotate_left 1; (· (exact bin_neq)); (· (assumption)))
          (refine' TA_take 23 rfl rfl (by kernel_rfl) (quiet_q (op_pickF rfl ?_ rfl)) ?_ ?_; (· (exact nF (by (assumption)))); (· (assumption)))
          (refine' TA_take 24 rfl rfl (by kernel_rfl) (quiet_q (op_move rfl)) ?_ ?_; (· (assumption)))
          (refine TA_take 25 rfl rfl (by kernel_rfl) (quiet_no2 rfl rfl ?_) ?_ ?_; (· (exact nT (by (assumption)))); (· (assumption)))
          (refine TA_take 26 rfl rfl (by kernel_rfl) (quiet_no2 rfl rfl ?_) ?_ ?_; (· (exact nT (by (assumption)))); (· (assumption)))
          (refine TA_take 27 rfl rfl (by kernel_rfl) (quiet_no2 rfl rfl ?_) ?_ ?_; (· (exact nT (by (assumption)))); (· (assumption)))
          (refine TA_take 28 rfl rfl (by kernel_rfl) (quiet_no2 rfl rfl ?_) ?_ ?_; (· (exact nT (by (assumption)))); (· (assumption)))
          (refine TA_take 30 rfl rfl (by kernel_rfl) (quiet_no2 rfl rfl ?_) ?_ ?_; (· (exact nT (by (assumption)))); (· (assumption)))
          (refine TA_take 31 rfl rfl (by kernel_rfl) (quiet_no2 rfl rfl ?_) ?_ ?_; (· (exact nT (by (assumption)))); (· (assumption)))
          (refine TA_take 32 rfl rfl (by kernel_rfl) (quiet_no2 rfl rfl ?_) ?_ ?_; (· (exact nT (by (assumption)))); (· (assumption)))
          (refine TA_take 33 rfl rfl (by kernel_rfl) (quiet_no2 rfl rfl ?_) ?_ ?_; (· (exact nT (by (assumption)))); (· (assumption)))
          -- SEVERAL: [29, 34]
          (refine TA_take 29 rfl rfl (by kernel_rfl) (quiet_no2 rfl rfl ?_) ?_ ?_; (· (exact nT (by (assumption)))); (· exact hK))
          (refine TA_take 34 rfl rfl (by kernel_rfl) (quiet_no2 rfl rfl ?_) ?_ ?_; (· (exact nT (by (assumption)))); (· exact hK))
          (refine TA_take 35 rfl rfl (by kernel_rfl) (quiet_no2 rfl rfl ?_) ?_ ?_; (· (exact nT (by (assumption)))); (· exact hK))
          (refine TA_take 36 rfl rfl (by kernel_rfl) (quiet_no2 rfl rfl ?_) ?_ ?_; (· (exact nT (by (assumption)))); (· (assumption)))
          (refine' TA_take 37 rfl rfl (by kernel_rfl) (quiet_q (op_pickT rfl ?_ rfl)) ?_ ?_; (· (exact nT (by (assumption)))); (· (assumption)))
          refine TA_done (by kernel_rfl) ?_
          repeat (first | with_reducible refine T_seq ?_ | with_reducible refine T_region ?_ | with_reducible refine TL_nil ?_ | with_reducible refine TQ_then ?_ | with_reducible refine T_ret ?_ | with_reducible refine TQ_then_ret ?_ | with_reducible refine TQ_block_ret ?_ | refine TL_q (op_assign rfl) rfl ?_ | (refine T_yes rfl ?_ ?_; (· (with_reducible rfl))))
          refine TQ_ret1 4 _ rfl rfl ?_
          exact ⟨by rw [decide_eq_false (hne (fun e => n2 (by rw [e])))], rfl⟩
      · repeat (first | with_reducible refine T_seq ?_ | with_reducible refine T_block ?_ | with_reducible refine T_region ?_ | with_reducible refine TL_nil ?_ | with_reducible refine TQ_then ?_ | with_reducible refine T_skip ?_ | refine TL_q (op_move rfl) rfl ?_ | (refine' TL_q (op_bin rfl rfl ?_) rfl ?_; rotate_left 1; (· (exact bin_lss))) | refine TL_q (op_len_slice rfl Try.underlying50) rfl ?_ | (refine T_yes rfl ?_ ?_; (· (exact dT (by (omega))))))
        refine T_draw follows_mixed ([(b1, Obj.cells C1 t1 f1), (b2, Obj.cells C2 t2 f2)]) [] ?_
        (refine' TA_take 0 rfl rfl (by kernel_rfl) (quiet_q (op_move rfl)) ?_ ?_; (· (assumption)))
        (refine' TA_take 1 rfl rfl (by kernel_rfl) (quiet_q (op_move rfl)) ?_ ?_; (· (assumption)))
        (refine' TA_take 2 rfl rfl (by kernel_rfl) (quiet_q (op_idx ety_50 rfl rfl ?_)) ?_ ?_; (· omega); (· (assumption)))
        (refine' TA_take 3 rfl rfl (by kernel_rfl) (quiet_q (op_fld rfl fld_63_0)) ?_ ?_; (· (assumption)))
        (refine' TA_take 4 rfl rfl (by kernel_rfl) (quiet_q (op_ld rfl pl_3 ?_ ?_)) ?_ ?_; rotate_left 4; (· repeat ((exact List.mem_cons_self))); (· (assumption)); (· (assumption)))
        (refine' TA_take 5 rfl rfl (by kernel_rfl) (quiet_q (op_move rfl)) ?_ ?_; (· (assumption)))
        (refine' TA_take 6 rfl rfl (by kernel_rfl) (quiet_q (op_move rfl)) ?_ ?_; (· (assumption)))
        (refine' TA_take 7 rfl rfl (by kernel_rfl) (quiet_q (op_idx ety_50 rfl rfl ?_)) ?_ ?_; (· omega); (· (assumption)))
        (refine' TA_take 8 rfl rfl (by kernel_rfl) (quiet_q (op_fld rfl fld_63_0)) ?_ ?_; (· (assumption)))
        (refine' TA_take 9 rfl rfl (by kernel_rfl) (quiet_q (op_ld rfl pl_3 ?_ ?_)) ?_ ?_; rotate_left 4; (· repeat (first | exact List.mem_cons_self | apply List.mem_cons_of_mem)); (· (assumption)); (· (assumption)))
        (refine' TA_take 10 rfl rfl (by kernel_rfl) (quiet_q (op_bin rfl rfl ?_)) ?_ ?_; rotate_left 1; (· (exact bin_neq)); (· (assumption)))
        (refine' TA_take 11 rfl rfl (by kernel_rfl) (quiet_q (op_move rfl)) ?_ ?_; (· (assumption)))
        (refine TA_take 12 rfl rfl (by kernel_rfl) (quiet_no2 rfl rfl ?_) ?_ ?_; (· (exact nT (by (assumption)))); (· (assumption)))
        (refine TA_take 13 rfl rfl (by kernel_rfl) (quiet_no2 rfl rfl ?_) ?_ ?_; (· (exact nT (by (assumption)))); (· (assumption)))
        (refine TA_take 14 rfl rfl (by kernel_rfl) (quiet_no2 rfl rfl ?_) ?_ ?_; (· (exact nT (by (assumption)))); (· (assumption)))
        (refine TA_take 15 rfl rfl (by kernel_rfl) (quiet_no2 rfl rfl ?_) ?_ ?_; (· (exact nT (by (assumption)))); (· (assumption)))
        (refine TA_take 16 rfl rfl (by kernel_rfl) (quiet_no2 rfl rfl ?_) ?_ ?_; (· (exact nT (by (assumption)))); (· (assumption)))
        (refine TA_take 17 rfl rfl (by kernel_rfl) (quiet_no2 rfl rfl ?_) ?_ ?_; (· (exact nT (by (assumption)))); (· (assumption)))
        (refine TA_take 18 rfl rfl (by kernel_rfl) (quiet_no2 rfl rfl ?_) ?_ ?_; (· (exact nT (by (assumption)))); (· (assumption)))
        (refine TA_take 19 rfl rfl (by kernel_rfl) (quiet_no2 rfl rfl ?_) ?_ ?_; (· (exact nT (by (assumption)))); (· (assumption)))
        (refine TA_take 20 rfl rfl (by kernel_rfl) (quiet_no2 rfl rfl ?_) ?_ ?_; (· (exact nT (by (assumption)))); (· (assumption)))
        (refine TA_take 21 rfl rfl (by kernel_rfl) (quiet_no2 rfl rfl ?_) ?_ ?_; (· (exact nT (by (assumption)))); (· (assumption)))
        (refine TA_take 22 rfl rfl (by kernel_rfl) (quiet_no2 rfl rfl ?_) ?_ ?_; (· (exact nT (by (assumption)))); (· (assumption)))
        (refine' TA_take 23 rfl rfl (by kernel_rfl) (quiet_q (op_pickT rfl ?_ rfl)) ?_ ?_; (· (exact nT (by (assumption)))); (· (assumption)))
        (refine' TA_take 24 rfl rfl (by kernel_rfl) (quiet_q (op_move rfl)) ?_ ?_; (· (assumption)))
        (refine TA_take 25 rfl rfl (by kernel_rfl) (quiet_no2 rfl rfl ?_) ?_ ?_; (· (exact Bool.not_false)); (· (assumption)))
        (refine TA_take 26 rfl rfl (by kernel_rfl) (quiet_no2 rfl rfl ?_) ?_ ?_; (· (exact Bool.not_false)); (· (assumption)))
        (refine TA_take 27 rfl rfl (by kernel_rfl) (quiet_no2 rfl rfl ?_) ?_ ?_; (· (exact Bool.not_false)); (· (assumption)))
        (refine TA_take 28 rfl rfl (by kernel_rfl) (quiet_no2 rfl rfl ?_) ?_ ?_; (· (exact Bool.not_false)); (· (assumption)))
        (refine TA_take 30 rfl rfl (by kernel_rfl) (quiet_no2 rfl rfl ?_) ?_ ?_; (· (exact Bool.not_false)); (· (assumption)))
        (refine TA_take 31 rfl rfl (by kernel_rfl) (quiet_no2 rfl rfl ?_) ?_ ?_; (· (exact Bool.not_false)); (· (assumption)))
        (refine TA_take 32 rfl rfl (by kernel_rfl) (quiet_no2 rfl rfl ?_) ?_ ?_; (· (exact Bool.not_false)); (· (assumption)))
        (refine TA_take 33 rfl rfl (by kernel_rfl) (quiet_no2 rfl rfl ?_) ?_ ?_; (· (exact Bool.not_false)); (· (assumption)))
        -- SEVERAL: [29, 34]
        (refine TA_take 29 rfl rfl (by kernel_rfl) (quiet_no2 rfl rfl ?_) ?_ ?_; (· (exact Bool.not_false)); (· exact hK))
        (refine TA_take 34 rfl rfl (by kernel_rfl) (quiet_no2 rfl rfl ?_) ?_ ?_; (· (exact Bool.not_false)); (· exact hK))
        (refine TA_take 35 rfl rfl (by kernel_rfl) (quiet_no2 rfl rfl ?_) ?_ ?_; (· (exact Bool.not_false)); (· exact hK))
        (refine TA_take 36 rfl rfl (by kernel_rfl) (quiet_no2 rfl rfl ?_) ?_ ?_; (· (exact Bool.not_false)); (· (assumption)))
        (refine' TA_take 37 rfl rfl (by kernel_rfl) (quiet_q (op_pickT rfl ?_ rfl)) ?_ ?_; (· (with_reducible rfl)); (· (assumption)))
        refine TA_done (by kernel_rfl) ?_
        repeat (first | with_reducible refine T_seq ?_ | with_reducible refine T_region ?_ | with_reducible refine TL_nil ?_ | with_reducible refine TQ_then ?_ | with_reducible refine T_ret ?_ | with_reducible refine TQ_then_ret ?_ | with_reducible refine TQ_block_ret ?_ | refine TL_q (op_assign rfl) rfl ?_ | (refine T_yes rfl ?_ ?_; (· (with_reducible rfl))))
        refine TQ_ret1 4 _ rfl rfl ?_
        exact ⟨by rw [decide_eq_false (hne (fun e => n1 (by rw [e])))], rfl⟩
    · have hkn : k = la.length := by omega
      subst hkn
      rw [List.take_length, hlen, List.take_length] at heq
      repeat (first | with_reducible refine T_seq ?_ | with_reducible refine T_region ?_ | with_reducible refine TL_nil ?_ | with_reducible refine TQ_then ?_ | with_reducible refine T_exit ?_ | with_reducible refine T_ret ?_ | with_reducible refine TQ_then_exit ?_ | with_reducible refine TQ_block_exit ?_ | refine TL_q (op_move rfl) rfl ?_ | refine TL_q (op_assign rfl) rfl ?_ | (refine' TL_q (op_bin rfl rfl ?_) rfl ?_; rotate_left 1; (· (exact bin_lss))) | refine TL_q (op_len_slice rfl Try.underlying50) rfl ?_ | (refine T_no rfl ?_ ?_; (· (exact dF (by (omega))))))
      refine TQ_ret1 4 _ rfl rfl ?_
      exact ⟨by simp [heq], rfl⟩
  · have d0 : (((la.length : Nat) : Int) != ((lb.length : Nat) : Int)) = true := by simp; omega
    repeat (first | with_reducible refine T_seq ?_ | with_reducible refine T_region ?_ | with_reducible refine TL_nil ?_ | with_reducible refine TQ_then ?_ | with_reducible refine T_ret ?_ | with_reducible refine TQ_then_ret ?_ | refine TL_q (op_move rfl) rfl ?_ | refine TL_q (op_assign rfl) rfl ?_ | (refine' TL_q (op_bin rfl rfl ?_) rfl ?_; rotate_left 1; (· (exact bin_neq))) | refine TL_q (op_len_slice rfl Try.underlying50) rfl ?_ | (refine T_yes rfl ?_ ?_; (· (assumption))))
    refine TQ_ret1 4 _ rfl rfl ?_
    have : la ≠ lb := fun e => hlen (by rw [e])
    exact ⟨by simp [this], rfl⟩
end Go.Proofs.Ytdflhdfapnhjjaa
namespace Go.Proofs.Ytdflhdfapnhjjaa
open Go.RowKit
open Vd (RSet Vdt Vote Rec Quest Piece Ballot Said)
set_option linter.unusedVariables false
set_option linter.unusedSimpArgs false
variable {G : World} {L : Blocks}
theorem laid_str_of : ∀ {l : List Vd.Bytes} {xs : List Value}, Laid strR 1 L xs l → xs = l.map Go.Proofs.encStr ∧ ∀ s ∈ l, s.length ≤ maxLen
  | [], xs, h => ⟨h, by simp⟩
  | s :: l, _, ⟨c, ys, h1, h2, h3, h4⟩ => by
    obtain ⟨k1, k2⟩ := laid_str_of h4
    obtain ⟨rfl, h3⟩ := h3
    refine ⟨by rw [h1, k1]; rfl, fun t ht => ?_⟩
    rcases List.mem_cons.1 ht with rfl | ht
    · exact h3
    · exact k2 t ht
theorem laid_str_mk : ∀ (l : List Vd.Bytes), (∀ s ∈ l, s.length ≤ maxLen) → Laid strR 1 L (l.map Go.Proofs.encStr) l
  | [], _ => rfl
  | s :: l, h => ⟨[.string (bs s)], l.map Go.Proofs.encStr, rfl, rfl, ⟨rfl, h s (List.mem_cons_self ..)⟩, laid_str_mk l fun t ht => h t (List.mem_cons_of_mem _ ht)⟩
theorem enc_one (l : List Vd.Bytes) : ∀ v ∈ l.map Go.Proofs.encStr, v.oneCell' = true := by
  intro v hv
  obtain ⟨s, _, rfl⟩ := List.mem_map.1 hv
  rfl
theorem Row.pre {e : TypeId} {a : Option Addr} {n c k : Nat} {xs : List Value} {B : Blocks} (h : Row e 1 (.slice a n c) n xs B) (hk : k ≤ n) : Row e 1 (.slice a k c) k (xs.take k) B := by
  have hl := h.len
  refine ⟨by rw [List.length_take, hl]; omega, ?_⟩
  rcases h.is with ⟨q1, q2, q3⟩ | ⟨b, cap, cur, q1, q2, q3, q4, q5, q6⟩
  · obtain ⟨rfl, _, rfl⟩ := Value.slice.inj q1
    have : k = 0 := by omega
    subst this
    exact Or.inl ⟨rfl, rfl, q3⟩
  · obtain ⟨rfl, _, rfl⟩ := Value.slice.inj q1
    refine Or.inr ⟨b, c, cur, rfl, q2, by omega, q4, q5, ?_⟩
    rw [← q6, List.take_take]
    congr 1
    omega
theorem Sort_S {K : Blocks} (a : Option Addr) (c : Nat) (l : List Vd.Bytes) (B : Blocks) (hB : ORow strR 9 1 K a c l B) (hn : l.length ≤ 1000000) : Spec Try.prog G 79 #[.slice a l.length c] (B ++ L) fun u M => u = .tuple #[] ∧ ∃ B', ORow strR 9 1 K a c (l.mergeSort fun x y => decide (x ≤ y)) B' ∧ M = B' ++ L := by
  refine ⟨fun w hw => ?_⟩
  obtain ⟨xs, h1, h2, h3⟩ := hB.ex
  obtain ⟨rfl, hle⟩ := laid_str_of h2
  rcases h1.is with ⟨q1, q2, q3⟩ | ⟨b, cap, cur, q1, q2, q3, q4, q5, q6⟩
  · have hl0 : l = [] := List.eq_nil_of_length_eq_zero q2
    subst hl0
    obtain ⟨rfl, _, rfl⟩ := Value.slice.inj q1
    refine (Try.slices_Sort_string_none none 0 w).mono fun e w' ⟨he, hww⟩ => ?_
    subst hww
    exact ⟨_, _, he, ⟨rfl, B, by simpa using hB, rfl⟩, hw⟩
  · obtain ⟨rfl, _, rfl⟩ := Value.slice.inj q1
    have hb : w.heap[b]? = some (.cells cur 9 (0, 0)) := hw.get (b, _) (by rw [q2]; simp)
    have hH := holds_of_block (ss := l) hb (by rw [Nat.mul_one] at q6; exact q6)
    have hlen : (l.mergeSort fun x y => decide (x ≤ y)).length = l.length := List.length_mergeSort l
    refine (Try.slices_Sort_string b 0 c l w hH (Array.getElem?_eq_some_iff.1 hb).1 (by omega)).mono fun e w' ⟨he, n, os, hww⟩ => ?_
    have ho := ownsRow_sorted (w := w) (base := 0) (n := n) (os := os) (ss := l) (ts := l.mergeSort fun x y => decide (x ≤ y)) hlen (Nat.zero_le _) hb q3 q4 q5
    have hg := grownBy_sorted (w := w) (g := b) (n := n) (os := os) (l.mergeSort fun x y => decide (x ≤ y)).toArray
    rw [← hww] at ho hg
    obtain ⟨B', hB', hH'⟩ := h1.after hw ho hg (Or.inl rfl)
    refine ⟨_, _, he, ⟨rfl, B', ⟨_, by rw [hlen]; exact hB', laid_str_mk _ fun s hs => hle s ((List.mem_mergeSort).1 hs), enc_one _⟩, rfl⟩, hH'⟩
theorem compact_len (l : List Vd.Bytes) : (Lib.compact l).length ≤ l.length := by
  unfold Lib.compact Lib.compactUpTo
  rw [List.length_map]
  have := List.length_filter_le (Lib.keeps l.toArray) (List.range l.length)
  simpa using this
theorem compact_sub (l : List Vd.Bytes) : ∀ s ∈ Lib.compact l, s ∈ l := by
  intro s hs
  unfold Lib.compact Lib.compactUpTo at hs
  obtain ⟨i, hi, rfl⟩ := List.mem_map.1 hs
  have hi' := (List.mem_filter.1 hi).1
  rw [List.mem_range] at hi'
  simp [hi']
theorem Compact_S {K : Blocks} (a : Option Addr) (c : Nat) (l : List Vd.Bytes) (B : Blocks) (hB : ORow strR 9 1 K a c l B) (hn : l.length ≤ 1000000) : Spec Try.prog G 80 #[.slice a l.length c] (B ++ L) fun u M => ∃ B', u = .slice a (Lib.compact l).length c ∧ ORow strR 9 1 K a c (Lib.compact l) B' ∧ M = B' ++ L := by
  refine ⟨fun w hw => ?_⟩
  obtain ⟨xs, h1, h2, h3⟩ := hB.ex
  obtain ⟨rfl, hle⟩ := laid_str_of h2
  rcases h1.is with ⟨q1, q2, q3⟩ | ⟨b, cap, cur, q1, q2, q3, q4, q5, q6⟩
  · have hl0 : l = [] := List.eq_nil_of_length_eq_zero q2
    subst hl0
    obtain ⟨rfl, _, rfl⟩ := Value.slice.inj q1
    refine (Try.slices_Compact_string_empty none 0 w).mono fun e w' ⟨he, hww⟩ => ?_
    subst hww
    exact ⟨_, _, he, ⟨B, rfl, hB, rfl⟩, hw⟩
  · obtain ⟨rfl, _, rfl⟩ := Value.slice.inj q1
    have hb : w.heap[b]? = some (.cells cur 9 (0, 0)) := hw.get (b, _) (by rw [q2]; simp)
    have hH := holds_of_block (ss := l) hb (by rw [Nat.mul_one] at q6; exact q6)
    have hcl := compact_len l
    refine (Try.slices_Compact_string b 0 c l w hH (by omega) q3).mono fun e w' ⟨he, n, hww⟩ => ?_
    have hlen : (Lib.compact l ++ List.replicate (l.length - (Lib.compact l).length) []).length = l.length := by simp; omega
    have ho := ownsRow_sorted (w := w) (base := 0) (n := n) (os := #[]) (ss := l) (ts := Lib.compact l ++ List.replicate (l.length - (Lib.compact l).length) []) hlen (Nat.zero_le _) hb q3 q4 q5
    have hg := grownBy_sorted (w := w) (g := b) (n := n) (os := #[]) (Lib.compact l ++ List.replicate (l.length - (Lib.compact l).length) []).toArray
    rw [Go.Sort.grow_empty, ← hww] at ho hg
    obtain ⟨B', hB', hH'⟩ := h1.after hw ho hg (Or.inl rfl)
    refine ⟨_, _, he, ⟨B', rfl, ⟨_, hB'.pre hcl, ?_, fun v hv => enc_one _ v (List.mem_of_mem_take hv)⟩, rfl⟩, hH'⟩
    rw [List.map_append, List.take_left' (by simp)]
    exact laid_str_mk _ fun s hs => hle s (compact_sub l s hs)
end Go.Proofs.Ytdflhdfapnhjjaa
namespace Go.Proofs.Ytdflhdfapnhjjaa
open Go.RowKit
open Vd (RSet Vdt Vote Rec Quest Piece Ballot Said)
set_option linter.unusedVariables false
set_option linter.unusedSimpArgs false
--auto
/-- A vote with its end. -/
def endedR (q : Quest) (K D : Blocks) : List Value → Vote → Prop := fun cs x => ∃ a1 c1 a2 c2 a3 c3, cs = [.int .i64 x.up, .int .u8 x.vd.code, .slice a1 x.vd.sets.length c1, .slice a2 x.vd.soa.length c2, .int .u32 x.time, .string (bs (Vd.endV q x.vd).1.name), .int .u16 (Vd.endV q x.vd).1.kind, .int .u16 (Vd.endV q x.vd).1.cls, .int .u32 (Vd.endV q x.vd).1.ttl, .slice a3 (Vd.endV q x.vd).1.data.length c3, .bool (Vd.endV q x.vd).2] ∧
  voteR K [.int .i64 x.up, .int .u8 x.vd.code, .slice a1 x.vd.sets.length c1, .slice a2 x.vd.soa.length c2, .int .u32 x.time] x ∧ rsR D [.string (bs (Vd.endV q x.vd).1.name), .int .u16 (Vd.endV q x.vd).1.kind, .int .u16 (Vd.endV q x.vd).1.cls, .int .u32 (Vd.endV q x.vd).1.ttl, .slice a3 (Vd.endV q x.vd).1.data.length c3] (Vd.endV q x.vd).1
def endData (q : Quest) (x : Vote) : List Vd.Bytes := if (Vd.endV q x.vd).2 then (Vd.endV q x.vd).1.data else []
def endsAll (q : Quest) (l : List Vote) : List Vd.Bytes := l.flatMap (endData q)
theorem endsAll_take {q : Quest} {l : List Vote} {i : Nat} {x : Vote} (h : l[i]? = some x) : endsAll q (l.take (i + 1)) = endsAll q (l.take i) ++ endData q x := by
  unfold endsAll
  rw [List.take_add_one, h]
  simp
theorem endsAll_len (q : Quest) (n : Nat) (l : List Vote) (hl : ∀ x ∈ l, (Vd.endV q x.vd).1.data.length ≤ n) : ∀ i, i ≤ l.length → (endsAll q (l.take i)).length ≤ i * n
  | 0, _ => by simp [endsAll]
  | i + 1, h => by
    have ih := endsAll_len q n l hl i (by omega)
    have hx : l[i]? = some l[i] := List.getElem?_eq_getElem (by omega)
    rw [endsAll_take hx, List.length_append, Nat.succ_mul]
    have := hl l[i] (List.getElem_mem _)
    unfold endData
    split <;> simp <;> omega
variable {G : World} {L : Blocks}
set_option maxRecDepth 100000 in
set_option maxHeartbeats 4000000 in
theorem combine_S {K D : Blocks} (v : Value) (q : Quest) (l : List Vote) (hDL : ∀ p ∈ D, p ∈ L) (hq1 : q.name.length ≤ 1000000) (hq2 : 0 ≤ q.kind ∧ q.kind ≤ 65535) (hq3 : 0 ≤ q.cls ∧ q.cls ≤ 65535) (hl : sliceR 11 (fun _ => endedR q K D) L [v] l) (hn : l.length ≤ 100) (hd : ∀ x ∈ l, (Vd.endV q x.vd).1.data.length ≤ 500) :
    Spec Try.prog G 54 #[.agg #[.string (bs q.name), .int .u16 q.kind, .int .u16 q.cls], v] L (VdOut L ⟨0, [⟨Nm.fold q.name, q.kind, q.cls, 0, Lib.compact ((endsAll q l).mergeSort fun x y => decide (x ≤ y))⟩], []⟩) := by
  obtain ⟨av, cv, e1, hl⟩ := hl.val
  simp only [List.cons.injEq, and_true] at e1
  subst e1
  obtain ⟨_, ka1, ka2, hl⟩ := sliceR.cut hl
  have hln := endsAll_len q 500 l hd
  refine Spec_of (n := 42) Try.func54 rfl rfl rfl ?_
  refine T_seq (T_region (TL_new (op_boxA rfl) rfl ?_))
  intro bQ
  refine TL_new (op_alloc (C := #[.int .u8 0, .slice none 0 0, .slice none 0 0]) zero_42 rfl) rfl ?_
  intro b4
  have hKm : ∀ z ∈ [(bQ, Obj.cells #[.string (bs q.name), .int .u16 q.kind, .int .u16 q.cls] 34 (0, 0))], z ∈ (b4, Obj.cells #[.int .u8 0, .slice none 0 0, .slice none 0 0] 42 (0, 0)) :: ((bQ, Obj.cells #[.string (bs q.name), .int .u16 q.kind, .int .u16 q.cls] 34 (0, 0)) :: L) := (mem_of_cnt (by intro p; (try simp only [cnt_append, cnt_cons, cnt_nil]) <;> omega))
  repeat (first | with_reducible refine T_seq ?_ | with_reducible refine TL_nil ?_ | with_reducible refine TQ_then ?_)
  refine T_draw follows_mixed ([(bQ, Obj.cells #[.string (bs q.name), .int .u16 q.kind, .int .u16 q.cls] 34 (0, 0))]) [] ?_
  (refine' TA_take 0 rfl rfl (by kernel_rfl) (quiet_q (op_fld rfl fld_34_0)) ?_ ?_; (· (assumption)))
  (refine' TA_take 1 rfl rfl (by kernel_rfl) (quiet_q (op_ld rfl pl_9 ?_ ?_)) ?_ ?_; rotate_left 4; (· repeat ((exact List.mem_cons_self))); (· (rfl)); (· (assumption)))
  refine' TA_take 2 rfl rfl (by kernel_rfl) (quiet_call hb_29 rfl (fun _ _ => Fold_S _ ?_)) ?_ ?_; (· (omega)); (· (assumption))
  (refine' TA_take 3 rfl rfl (by kernel_rfl) (quiet_q (op_fld rfl fld_34_1)) ?_ ?_; (· (assumption)))
  (refine' TA_take 4 rfl rfl (by kernel_rfl) (quiet_q (op_ld rfl pl_23 ?_ ?_)) ?_ ?_; rotate_left 4; (· repeat ((exact List.mem_cons_self))); (· (rfl)); (· (assumption)))
  (refine' TA_take 5 rfl rfl (by kernel_rfl) (quiet_q (op_fld rfl fld_34_2)) ?_ ?_; (· (assumption)))
  (refine' TA_take 6 rfl rfl (by kernel_rfl) (quiet_q (op_ld rfl pl_23 ?_ ?_)) ?_ ?_; rotate_left 4; (· repeat ((exact List.mem_cons_self))); (· (rfl)); (· (assumption)))
  (refine' TA_take 7 rfl rfl (by kernel_rfl) (quiet_q (op_build rfl (bl_60_0_1_2 _ _ _))) ?_ ?_; (· (assumption)))
  refine TA_oneD 8 (by kernel_rfl) rfl rfl rfl rfl (op_alloc (C := #[.string (bs []), .int .u16 0, .int .u16 0, .int .u32 0, .slice none 0 0]) zero_60 rfl) ?_; rintro _ _ ⟨b5, rfl, rfl⟩; refine ⟨Or.inr (mem_of_cnt (by intro p; (try simp only [cnt_append, cnt_cons, cnt_nil]) <;> omega)), ?_⟩
  refine TA_oneN 9 (by kernel_rfl) rfl rfl rfl (op_stAll rfl rfl st_60 rfl rfl rfl) ?_; rintro _ _ ⟨_, rfl⟩; refine ⟨Or.inr (mem_of_cnt (by intro p; (try simp only [cnt_append, cnt_cons, cnt_nil]) <;> omega)), ?_⟩
  refine TA_done (by kernel_rfl) ?_
  repeat (first | with_reducible refine T_seq ?_ | with_reducible refine T_block ?_ | with_reducible refine T_region ?_ | with_reducible refine TL_nil ?_ | with_reducible refine TQ_then ?_ | refine TL_q (op_move rfl) rfl ?_ | refine TL_q (op_len_slice rfl Try.underlying117) rfl ?_)
  refine T_loopS (σ := Nat × Option Addr × Nat × Blocks) (fun y => y.1 ≤ l.length ∧ ORow strR 9 1 [] y.2.1 y.2.2.1 (endsAll q (l.take y.1)) y.2.2.2) (fun y => [(4, .pointer (some ⟨b4, 0, none⟩)), (5, .pointer (some ⟨b5, 0, none⟩)), (16, .slice av l.length cv), (17, .int .i64 (l.length : Nat)), (18, .int .i64 (y.1 : Nat))])
    (fun y => (b5, Obj.cells #[.string (bs (Nm.fold q.name)), .int .u16 q.kind, .int .u16 q.cls, .int .u32 0, .slice y.2.1 (endsAll q (l.take y.1)).length y.2.2.1] 60 (0, 0)) :: ((b4, Obj.cells #[.int .u8 0, .slice none 0 0, .slice none 0 0] 42 (0, 0)) :: (y.2.2.2 ++ L))) (fun y => l.length - y.1) (0, none, 0, []) ⟨Nat.zero_le _, ORow.nil _⟩ ?_ (fun w h => Heap.cnt (L' := (b5, Obj.cells #[.string (bs (Nm.fold q.name)), .int .u16 q.kind, .int .u16 q.cls, .int .u32 0, .slice none 0 0] 60 (0, 0)) :: ((b4, Obj.cells #[.int .u8 0, .slice none 0 0, .slice none 0 0] 42 (0, 0)) :: ([] ++ L))) h (by intro p; (try simp only [cnt_append, cnt_cons, cnt_nil]) <;> omega)) ?_
  (repeat (first | exact trivial | refine ⟨rfl, ?_⟩))
  rintro ⟨i, a, c, B⟩ ⟨hi, hB⟩
  dsimp only at hi hB ⊢
  have hlni := hln i hi
  have hlb : i * 500 ≤ 100 * 500 := Nat.mul_le_mul_right _ (by omega)
  by_cases hil : i < l.length
  · obtain ⟨x, hx⟩ : ∃ x, l[i]? = some x := ⟨_, List.getElem?_eq_getElem hil⟩
    have hxm := List.mem_of_getElem? hx
    have htk := endsAll_take (q := q) hx
    rcases hl with rfl | ⟨b1, o1, C1, t1, f1, rfl, m1, q1⟩
    · simp at hil
    obtain ⟨_, _, ⟨a1, c1, a2, c2, a3, c3, rfl, _, hend⟩, hcx⟩ := q1 i x hx
    obtain ⟨a3', c3', hee, hed, _⟩ := hend.vals
    simp only [List.cons.injEq, and_true, true_and, Value.slice.injEq] at hee
    obtain ⟨rfl, rfl⟩ := hee
    have hdx := hd x hxm
    have m1' : (b1, Obj.cells C1 t1 f1) ∈ (b5, Obj.cells #[.string (bs (Nm.fold q.name)), .int .u16 q.kind, .int .u16 q.cls, .int .u32 0, .slice a (endsAll q (l.take i)).length c] 60 (0, 0)) :: ((b4, Obj.cells #[.int .u8 0, .slice none 0 0, .slice none 0 0] 42 (0, 0)) :: (B ++ L)) := List.mem_cons_of_mem _ (List.mem_cons_of_mem _ (List.mem_append_right _ m1))
    repeat (first | with_reducible refine T_seq ?_ | with_reducible refine T_block ?_ | with_reducible refine T_region ?_ | with_reducible refine TL_nil ?_ | with_reducible refine TQ_then ?_ | with_reducible refine T_skip ?_ | (refine' TL_q (op_bin rfl rfl ?_) rfl ?_; rotate_left 1; (· (exact bin_lss))) | (refine' TL_q (op_idx ety_117 rfl rfl ?_) rfl ?_; (· omega)) | (refine T_yes rfl ?_ ?_; (· (exact dT (by (omega))))))
    refine TL_q (op_ldA [.int .i64 x.up, .int .u8 x.vd.code, .slice a1 x.vd.sets.length c1, .slice a2 x.vd.soa.length c2, .int .u32 x.time, .string (bs (Vd.endV q x.vd).1.name), .int .u16 (Vd.endV q x.vd).1.kind, .int .u16 (Vd.endV q x.vd).1.cls, .int .u32 (Vd.endV q x.vd).1.ttl, .slice a3 (Vd.endV q x.vd).1.data.length c3, .bool (Vd.endV q x.vd).2] rfl st_119 m1' hcx) rfl ?_
    cases his : (Vd.endV q x.vd).2 with
    | false =>
      have hed0 : endData q x = [] := by unfold endData; rw [his]; rfl
      rw [hed0, List.append_nil] at htk
      repeat (first | with_reducible refine T_seq ?_ | with_reducible refine T_region ?_ | with_reducible refine TL_nil ?_ | with_reducible refine TQ_then ?_ | with_reducible refine TQ_block ?_ | with_reducible refine T_skip ?_ | refine TL_q (op_move rfl) rfl ?_ | (refine' TL_q (op_bin rfl rfl ?_) rfl ?_; rotate_left 1; (· (exact bin_add ⟨by omega, by omega⟩))) | refine TL_q (op_fld rfl fld_119_2) rfl ?_ | (refine' TL_q (op_ld rfl pl_4 ?_ ?_) rfl ?_; rotate_left 4; (· repeat ((exact List.mem_cons_self))); (· (rfl))) | (refine TL_stAll rfl rfl st_119 rfl rfl rfl ?_) | (refine TL_new (op_alloc (C := #[(.int .i64 0), (.int .u8 0), (.slice none 0 0), (.slice none 0 0), (.int .u32 0), (.string (bs [])), (.int .u16 0), (.int .u16 0), (.int .u32 0), (.slice none 0 0), (.bool false)]) zero_119 rfl) rfl ?_; intro bNew) | (refine T_no rfl ?_ ?_; (· (with_reducible rfl))))
      refine TQ_roundS (i + 1, a, c, B) ⟨hil, by dsimp only; rw [htk]; exact hB⟩ ?_ (fun w h => by dsimp only; rw [htk]; exact h.tail) (by dsimp only; omega)
      (repeat (first | exact trivial | refine ⟨rfl, ?_⟩))
    | true =>
      have hed0 : endData q x = (Vd.endV q x.vd).1.data := by unfold endData; rw [his]; rfl
      rw [hed0] at htk
      repeat (first | with_reducible refine T_seq ?_ | with_reducible refine T_region ?_ | with_reducible refine TL_nil ?_ | with_reducible refine TQ_then ?_ | refine TL_q (op_fld rfl fld_60_4) rfl ?_ | refine TL_q (op_fld rfl fld_119_1) rfl ?_ | refine TL_q (op_fld rfl fld_119_2) rfl ?_ | (refine' TL_q (op_ld rfl pl_4 ?_ ?_) rfl ?_; rotate_left 4; (· repeat (first | exact List.mem_cons_self | apply List.mem_cons_of_mem)); (· (rfl))) | (refine TL_stAll rfl rfl st_119 rfl rfl rfl ?_) | (refine TL_new (op_alloc (C := #[(.int .i64 0), (.int .u8 0), (.slice none 0 0), (.slice none 0 0), (.int .u32 0), (.string (bs [])), (.int .u16 0), (.int .u16 0), (.int .u32 0), (.slice none 0 0), (.bool false)]) zero_119 rfl) rfl ?_; intro bNew) | (refine T_yes rfl ?_ ?_; (· (with_reducible rfl))))
      refine TL_cnt (L' := B ++ ((b5, Obj.cells #[.string (bs (Nm.fold q.name)), .int .u16 q.kind, .int .u16 q.cls, .int .u32 0, .slice a (endsAll q (l.take i)).length c] 60 (0, 0)) :: ((b4, Obj.cells #[.int .u8 0, .slice none 0 0, .slice none 0 0] 42 (0, 0)) :: L))) ?_ (by intro p; (try simp only [cnt_append, cnt_cons, cnt_nil]) <;> omega)
      refine TL_opT (op_appendG2 (L0 := D) (l := endsAll q (l.take i)) (m := (Vd.endV q x.vd).1.data) ety_58 rfl rfl rfl rfl (hB.mono mono_str (by simp)) hed (fun p hp => List.mem_cons_of_mem _ (List.mem_cons_of_mem _ (hDL p hp))) mono_str str_one (by omega) (by decide)) rfl ?_
      rintro _ _ ⟨a', c', B', rfl, hB', rfl⟩
      refine TL_cnt (L' := (b5, Obj.cells #[.string (bs (Nm.fold q.name)), .int .u16 q.kind, .int .u16 q.cls, .int .u32 0, .slice a (endsAll q (l.take i)).length c] 60 (0, 0)) :: ((b4, Obj.cells #[.int .u8 0, .slice none 0 0, .slice none 0 0] 42 (0, 0)) :: (B' ++ L))) ?_ (by intro p; (try simp only [cnt_append, cnt_cons, cnt_nil]) <;> omega)
      repeat ((refine TL_q (op_fld rfl fld_60_4) rfl ?_))
      refine TL_st (C' := #[.string (bs (Nm.fold q.name)), .int .u16 q.kind, .int .u16 q.cls, .int .u32 0, .slice a' (endsAll q (l.take i) ++ (Vd.endV q x.vd).1.data).length c']) rfl rfl one_58 rfl rfl rfl ?_
      repeat (first | with_reducible refine T_region ?_ | with_reducible refine TL_nil ?_ | with_reducible refine TQ_then ?_ | with_reducible refine TQ_block ?_ | refine TL_q (op_move rfl) rfl ?_ | (refine' TL_q (op_bin rfl rfl ?_) rfl ?_; rotate_left 1; (· (exact bin_add ⟨by omega, by omega⟩))))
      refine TQ_roundS (i + 1, a', c', B') ⟨hil, by dsimp only; rw [htk]; exact hB'.imp (L' := []) (fun cs y _ h => h)⟩ ?_ (fun w h => by dsimp only; rw [htk]; exact h) (by dsimp only; omega)
      (repeat (first | exact trivial | refine ⟨rfl, ?_⟩))
  · have hie : i = l.length := by omega
    subst hie
    rw [List.take_length] at hB hlni ⊢
    repeat (first | with_reducible refine T_seq ?_ | with_reducible refine T_region ?_ | with_reducible refine TL_nil ?_ | with_reducible refine TQ_then ?_ | with_reducible refine T_exit ?_ | with_reducible refine TQ_then_exit ?_ | with_reducible refine TQ_block_exit ?_ | (refine' TL_q (op_bin rfl rfl ?_) rfl ?_; rotate_left 1; (· (exact bin_lss))) | refine TL_q (op_fld rfl fld_60_4) rfl ?_ | (refine' TL_q (op_ld rfl pl_4 ?_ ?_) rfl ?_; rotate_left 4; (· repeat ((exact List.mem_cons_self))); (· (rfl))) | (refine T_no rfl ?_ ?_; (· (exact dF (by (omega))))))
    refine TL_opT (OpT.heap (L' := B ++ ((b5, Obj.cells #[.string (bs (Nm.fold q.name)), .int .u16 q.kind, .int .u16 q.cls, .int .u32 0, .slice a (endsAll q l).length c] 60 (0, 0)) :: ((b4, Obj.cells #[.int .u8 0, .slice none 0 0, .slice none 0 0] 42 (0, 0)) :: L))) (fun w h => h.cnt (by intro p; (try simp only [cnt_append, cnt_cons, cnt_nil]) <;> omega)) (op_call hb_79 rfl (Sort_S a c _ B hB (by omega)))) rfl ?_
    rintro _ _ ⟨rfl, B', hB', rfl⟩
    have hsl : ((endsAll q l).mergeSort fun x y => decide (x ≤ y)).length = (endsAll q l).length := List.length_mergeSort _
    refine TL_cnt (L' := (b5, Obj.cells #[.string (bs (Nm.fold q.name)), .int .u16 q.kind, .int .u16 q.cls, .int .u32 0, .slice a (endsAll q l).length c] 60 (0, 0)) :: ((b4, Obj.cells #[.int .u8 0, .slice none 0 0, .slice none 0 0] 42 (0, 0)) :: (B' ++ L))) ?_ (by intro p; (try simp only [cnt_append, cnt_cons, cnt_nil]) <;> omega)
    repeat (first | with_reducible refine T_seq ?_ | with_reducible refine T_region ?_ | with_reducible refine TL_nil ?_ | with_reducible refine TQ_then ?_ | refine TL_q (op_fld rfl fld_60_4) rfl ?_ | (refine' TL_q (op_ld rfl pl_4 ?_ ?_) rfl ?_; rotate_left 4; (· repeat ((exact List.mem_cons_self))); (· (rfl))))
    rw [← hsl]
    refine TL_opT (OpT.heap (L' := B' ++ ((b5, Obj.cells #[.string (bs (Nm.fold q.name)), .int .u16 q.kind, .int .u16 q.cls, .int .u32 0, .slice a ((endsAll q l).mergeSort fun x y => decide (x ≤ y)).length c] 60 (0, 0)) :: ((b4, Obj.cells #[.int .u8 0, .slice none 0 0, .slice none 0 0] 42 (0, 0)) :: L))) (fun w h => h.cnt (by intro p; (try simp only [cnt_append, cnt_cons, cnt_nil]) <;> omega)) (op_call hb_80 rfl (Compact_S a c _ B' hB' (by rw [hsl]; omega)))) rfl ?_
    rintro _ _ ⟨B2, rfl, hB2, rfl⟩
    refine TL_cnt (L' := (b5, Obj.cells #[.string (bs (Nm.fold q.name)), .int .u16 q.kind, .int .u16 q.cls, .int .u32 0, .slice a ((endsAll q l).mergeSort fun x y => decide (x ≤ y)).length c] 60 (0, 0)) :: ((b4, Obj.cells #[.int .u8 0, .slice none 0 0, .slice none 0 0] 42 (0, 0)) :: (B2 ++ L))) ?_ (by intro p; (try simp only [cnt_append, cnt_cons, cnt_nil]) <;> omega)
    obtain ⟨R, hR⟩ : ∃ R, Lib.compact ((endsAll q l).mergeSort fun x y => decide (x ≤ y)) = R := ⟨_, rfl⟩
    rw [hR] at hB2 ⊢
    repeat ((refine TL_q (op_fld rfl fld_60_4) rfl ?_))
    refine TL_st (C' := #[.string (bs (Nm.fold q.name)), .int .u16 q.kind, .int .u16 q.cls, .int .u32 0, .slice a R.length c]) rfl rfl one_58 rfl rfl rfl ?_
    repeat (first | with_reducible refine T_seq ?_ | with_reducible refine T_region ?_ | with_reducible refine TL_nil ?_ | with_reducible refine TQ_then ?_ | (refine' TL_q (op_ldAll rfl st_60 ?_ ?_) rfl ?_; rotate_left 3; (· repeat ((exact List.mem_cons_self))); (· (rfl))) | refine TL_q (op_build rfl (bl_42_0_1 _ _ _ _)) rfl ?_ | (refine TL_new (op_litN ety_40 rfl rfl (by decide)) rfl ?_; intro bLit))
    refine TL_cnt (L' := (b4, Obj.cells #[.int .u8 0, .slice none 0 0, .slice none 0 0] 42 (0, 0)) :: ((bLit, Obj.cells #[.string (bs (Nm.fold q.name)), .int .u16 q.kind, .int .u16 q.cls, .int .u32 0, .slice a R.length c] 60 (0, 0)) :: (B2 ++ L))) ?_ (by intro p; (try simp only [cnt_append, cnt_cons, cnt_nil]) <;> omega)
    repeat (first | with_reducible refine TL_nil ?_ | with_reducible refine TQ_then ?_ | with_reducible refine T_ret ?_ | (refine TL_stAll rfl rfl st_42 rfl rfl rfl ?_))
    have hr : rsR B2 [.string (bs (Nm.fold q.name)), .int .u16 q.kind, .int .u16 q.cls, .int .u32 0, .slice a R.length c] ⟨Nm.fold q.name, q.kind, q.cls, 0, R⟩ := ⟨_, rfl, hB2.sliceR mono_str (by simp) (fun p h => h), by have := fold_255 q.name; unfold maxLen; dsimp only; omega, hq2, hq3, by simp⟩
    refine TQ_retC 4 42  rfl rfl  st_42 (by repeat ((exact List.mem_cons_self))) rfl (fun w h => Heap.cnt (L' := [] ++ ([(bLit, Obj.cells #[.string (bs (Nm.fold q.name)), .int .u16 q.kind, .int .u16 q.cls, .int .u32 0, .slice a R.length c] 60 (0, 0))] ++ (B2 ++ L))) h (by intro p; (try simp only [cnt_append, cnt_cons, cnt_nil]) <;> omega)) ?_
    exact ⟨_, _, _, none, 0, [], B2, rfl, rs_lit hr, ORow.nil _, hB2.wr, rfl⟩
end Go.Proofs.Ytdflhdfapnhjjaa
