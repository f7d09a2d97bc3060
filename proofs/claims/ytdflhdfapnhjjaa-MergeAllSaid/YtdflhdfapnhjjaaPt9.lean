/-
  Part 9: Gw Qe Qf Qg Gx Qh Gy.
-/
import Derived.Test.YtdflhdfapnhjjaaPt8
import Derived.Test.YtdflhdfapnhjjaaPt6
import Derived.Sort.Walk0
import Derived.Lib.SlicesCompact
namespace Go.Proofs.Ytdflhdfapnhjjaa
open Go.RowKit
open Vd (RSet Vdt Vote Rec Quest Piece Ballot Said)
set_option linter.unusedVariables false
set_option linter.unusedSimpArgs false
--auto
/-- What the program makes of votes. -/
def someEnd (q : Quest) (l : List Vote) : Bool := l.any fun x => (Vd.endV q x.vd).2
def unionP (q : Quest) (l : List Vote) : Vdt × Int × Bool :=
  match l with
  | [] => (Vdt.none, 0, false)
  | w :: r =>
    if !Nm.may q.name then (Vdt.none, 0, false)
    else if !Vd.alikeV (w :: r) w.vd && someEnd q (w :: r) then (⟨0, [⟨Nm.fold q.name, q.kind, q.cls, 0, Lib.compact ((endsAll q (w :: r)).mergeSort fun x y => decide (x ≤ y))⟩], []⟩, Vd.minTime (w :: r) w.time, true)
    else (match (w :: r)[Vd.firstAt (w :: r) (w :: r).length]? with | some x => x.vd | none => Vdt.none, Vd.minTime (w :: r) w.time, true)
/-- A verdict in new memory, a time, whether there is one. -/
def UnOut (L : Blocks) (r : Vdt × Int × Bool) (u : Value) (M : Blocks) : Prop := ∃ a c B a2 c2 B2 N, u = .tuple #[.agg #[.int .u8 r.1.code, .slice a r.1.sets.length c, .slice a2 r.1.soa.length c2], .int .u32 r.2.1, .bool r.2.2] ∧
  ORow rsR 60 5 N a c r.1.sets B ∧ ORow rsR 60 5 N a2 c2 r.1.soa B2 ∧ Wr N ∧ M = B2 ++ (B ++ (N ++ L))
variable {G : World} {L : Blocks}
theorem UnOut.no : UnOut L (Vdt.none, 0, false) (.tuple #[.agg #[.int .u8 0, .slice none 0 0, .slice none 0 0], .int .u32 0, .bool false]) L := ⟨none, 0, [], none, 0, [], [], rfl, ORow.nil _, ORow.nil _, Wr.nil, rfl⟩
theorem vote_vd {K : Blocks} {x : Vote} {u t : Value} {s1 s2 : Value} (h : voteR K [u, .int .u8 x.vd.code, s1, s2, t] x) : vdR K [.int .u8 x.vd.code, s1, s2] x.vd := by
  obtain ⟨a, b, e, h1, h2, h3, _⟩ := h
  simp only [List.cons.injEq, and_true, true_and] at e
  obtain ⟨_, rfl, rfl, _⟩ := e
  exact ⟨_, _, rfl, h1, h2, h3⟩
theorem endedR.mono {q : Quest} {K D D' : Blocks} {cs : List Value} {x : Vote} (hD : ∀ p ∈ D, p ∈ D') (h : endedR q K D cs x) : endedR q K D' cs x := by
  obtain ⟨a1, c1, a2, c2, a3, c3, h1, h2, h3⟩ := h
  exact ⟨a1, c1, a2, c2, a3, c3, h1, h2, mono_set _ _ _ _ hD h3⟩
theorem endedR.one {q : Quest} {K D : Blocks} {cs : List Value} {x : Vote} (h : endedR q K D cs x) : ∀ v ∈ cs, v.oneCell' = true := by
  obtain ⟨a1, c1, a2, c2, a3, c3, rfl, _⟩ := h
  intro v hv
  simp only [List.mem_cons, List.not_mem_nil, or_false] at hv
  rcases hv with rfl | rfl | rfl | rfl | rfl | rfl | rfl | rfl | rfl | rfl | rfl <;> rfl
set_option maxRecDepth 100000 in
set_option maxHeartbeats 4000000 in
theorem pUnion_S {K : Blocks} (v : Value) (q : Quest) (l : List Vote) (hKL : ∀ p ∈ K, p ∈ L) (hq1 : q.name.length ≤ 1000000) (hq2 : 0 ≤ q.kind ∧ q.kind ≤ 65535) (hq3 : 0 ≤ q.cls ∧ q.cls ≤ 65535) (hl : sliceR 5 (fun _ => voteR K) L [v] l) (hn : l.length ≤ 100) (hd : ∀ x ∈ l, (Vd.endV q x.vd).1.data.length ≤ 500) (hs : ∀ x ∈ l, SmV x.vd) :
    Spec Try.prog G 18 #[.agg #[.string (bs q.name), .int .u16 q.kind, .int .u16 q.cls], v] L (UnOut L (unionP q l)) := by
  obtain ⟨av, cv, e1, hl⟩ := hl.val
  simp only [List.cons.injEq, and_true] at e1
  subst e1
  have hl0 := hl
  obtain ⟨_, ka1, ka2, hl⟩ := sliceR.cut hl
  refine Spec_of (n := 110) Try.func18 rfl rfl rfl ?_
  refine T_seq (T_region (TL_new (op_boxA rfl) rfl ?_))
  intro bQ
  refine TL_new (op_alloc (C := #[.int .u8 0, .slice none 0 0, .slice none 0 0]) zero_42 rfl) rfl ?_
  intro b4
  cases l with
  | nil =>
    have hU : unionP q [] = (Vdt.none, 0, false) := rfl
    rw [hU]
    have h0 : ((([] : List Vote).length : Nat) : Int) = 0 := rfl
    repeat (first | with_reducible refine T_seq ?_ | with_reducible refine T_region ?_ | with_reducible refine TL_nil ?_ | with_reducible refine TQ_then ?_ | with_reducible refine T_ret ?_ | with_reducible refine TQ_then_ret ?_ | refine TL_q (op_move rfl) rfl ?_ | refine TL_q (op_assign rfl) rfl ?_ | (refine' TL_q (op_bin rfl rfl ?_) rfl ?_; rotate_left 1; (· (exact bin_eql))) | (refine' TL_q (op_pickT rfl ?_ rfl) rfl ?_; (· (exact Bool.not_false))) | refine TL_q (op_len_slice rfl Try.underlying47) rfl ?_ | (refine TL_gno rfl rfl ?_ rfl ?_; (· (exact Bool.not_false))) | (refine TL_stAll rfl rfl st_42 rfl rfl rfl ?_) | refine TL_q (op_build rfl (bl_42_ )) rfl ?_ | (refine T_yes rfl ?_ ?_; (· (with_reducible rfl))))
    refine TQ_retC3 4 42 5 6 rfl rfl rfl rfl st_42 (by repeat ((exact List.mem_cons_self))) rfl (fun w h => Heap.cnt (L' := L) h (by intro p; (try simp only [cnt_append, cnt_cons, cnt_nil]) <;> omega)) ?_
    exact UnOut.no
  | cons w r =>
  obtain ⟨l, hll⟩ : ∃ l, w :: r = l := ⟨_, rfl⟩
  have hlpos : 0 < l.length := by rw [← hll]; simp
  have hw0 : l[0]? = some w := by rw [← hll]; rfl
  have hlne : ¬ ((l.length : Nat) : Int) = 0 := by omega
  have hU : unionP q l = if !Nm.may q.name then ((Vdt.none, 0, false) : Vdt × Int × Bool) else if !Vd.alikeV l w.vd && someEnd q l then (⟨0, [⟨Nm.fold q.name, q.kind, q.cls, 0, Lib.compact ((endsAll q l).mergeSort fun x y => decide (x ≤ y))⟩], []⟩, Vd.minTime l w.time, true)
    else (match l[Vd.firstAt l l.length]? with | some x => x.vd | none => Vdt.none, Vd.minTime l w.time, true) := by rw [← hll]; rfl
  rw [hll] at hl hl0 hn hd ka1 hs ⊢
  cases hm : Nm.may q.name with
  | false =>
    rw [hm] at hU
    simp only [Bool.not_false, if_true] at hU
    rw [hU]
    repeat (first | with_reducible refine T_seq ?_ | with_reducible refine T_region ?_ | with_reducible refine TL_nil ?_ | with_reducible refine TQ_then ?_ | with_reducible refine T_ret ?_ | with_reducible refine TQ_then_ret ?_ | refine TL_q (op_move rfl) rfl ?_ | refine TL_q (op_assign rfl) rfl ?_ | (refine' TL_q (op_bin rfl rfl ?_) rfl ?_; rotate_left 1; (· (exact bin_eql))) | (refine' TL_q (op_pickF rfl ?_ rfl) rfl ?_; (· (exact dF (by (assumption))))) | refine TL_q (op_len_slice rfl Try.underlying47) rfl ?_ | (refine' TG_op (op_call hb_28 rfl (May_S _ ?_)) rfl ?_; (· (omega))) | (refine TL_gpre rfl rfl ?_ ?_; (· (exact dF (by (assumption))))) | refine TL_gq2 (op_not rfl) rfl ?_ | refine TL_gq2 (op_fld rfl fld_34_0) rfl ?_ | (refine' TL_gq2 (op_ld rfl pl_3 ?_ ?_) rfl ?_; rotate_left 4; (· repeat (first | exact List.mem_cons_self | apply List.mem_cons_of_mem)); (· (rfl))) | (refine TL_stAll rfl rfl st_42 rfl rfl rfl ?_) | refine TL_q (op_build rfl (bl_42_ )) rfl ?_ | (refine T_yes rfl ?_ ?_; (· (exact xT (by (assumption))))))
    refine TQ_retC3 4 42 5 6 rfl rfl rfl rfl st_42 (by repeat ((exact List.mem_cons_self))) rfl (fun w h => Heap.cnt (L' := L) h (by intro p; (try simp only [cnt_append, cnt_cons, cnt_nil]) <;> omega)) ?_
    exact UnOut.no
  | true =>
  rw [hm] at hU
  simp only [Bool.not_true, Bool.false_eq_true, if_false] at hU
  obtain ⟨CM, hCM⟩ : ∃ C, madeCells (Value.agg #[.int .i64 0, .int .u8 0, .slice none 0 0, .slice none 0 0, .int .u32 0, .string (bs []), .int .u16 0, .int .u16 0, .int .u32 0, .slice none 0 0, .bool false]).cells (((l.length : Nat) : Int).toNat * 11) = C := ⟨_, rfl⟩
  repeat (first | with_reducible refine T_seq ?_ | with_reducible refine T_region ?_ | with_reducible refine TL_nil ?_ | with_reducible refine TQ_then ?_ | with_reducible refine T_skip ?_ | refine TL_q (op_move rfl) rfl ?_ | refine TL_q (op_assign rfl) rfl ?_ | (refine' TL_q (op_bin rfl rfl ?_) rfl ?_; rotate_left 1; (· (exact bin_eql))) | (refine' TL_q (op_pickF rfl ?_ rfl) rfl ?_; (· (exact dF (by (assumption))))) | refine TL_q (op_len_slice rfl Try.underlying47) rfl ?_ | (refine' TG_op (op_call hb_28 rfl (May_S _ ?_)) rfl ?_; (· (omega))) | (refine TL_gpre rfl rfl ?_ ?_; (· (exact dF (by (assumption))))) | refine TL_gq2 (op_not rfl) rfl ?_ | refine TL_gq2 (op_fld rfl fld_34_0) rfl ?_ | (refine' TL_gq2 (op_ld rfl pl_3 ?_ ?_) rfl ?_; rotate_left 4; (· repeat (first | exact List.mem_cons_self | apply List.mem_cons_of_mem)); (· (rfl))) | (refine T_no rfl ?_ ?_; (· (exact xF (by (assumption))))))
  refine TL_new (op_make (C := CM) ety_117 rfl rfl (by omega) (by omega) (by omega) (by omega) hCM) rfl ?_
  intro bM
  repeat (first | with_reducible refine T_seq ?_ | with_reducible refine T_block ?_ | with_reducible refine T_region ?_ | with_reducible refine TL_nil ?_ | with_reducible refine TQ_then ?_ | refine TL_q (op_move rfl) rfl ?_ | refine TL_q (op_assign rfl) rfl ?_ | refine TL_q (op_len_slice rfl Try.underlying47) rfl ?_)
  refine T_loopS (σ := Nat × Option Addr × Nat × Blocks × Blocks) (fun y => y.1 ≤ l.length ∧ ORow (fun _ => endedR q K y.2.2.2.2) 119 11 [] y.2.1 y.2.2.1 (l.take y.1) y.2.2.2.1) (fun y => [(2, .pointer (some ⟨bQ, 0, none⟩)), (4, .pointer (some ⟨b4, 0, none⟩)), (7, .slice y.2.1 (l.take y.1).length y.2.2.1), (29, .slice av l.length cv), (30, .int .i64 (l.length : Nat)), (31, .int .i64 (y.1 : Nat))])
    (fun y => (bQ, Obj.cells #[.string (bs q.name), .int .u16 q.kind, .int .u16 q.cls] 34 (0, 0)) :: ((b4, Obj.cells #[.int .u8 0, .slice none 0 0, .slice none 0 0] 42 (0, 0)) :: (y.2.2.2.1 ++ (y.2.2.2.2 ++ L)))) (fun y => l.length - y.1) (0, some ⟨bM, 0, none⟩, ((l.length : Nat) : Int).toNat, [(bM, .cells CM 119 (0, 0))], []) ⟨Nat.zero_le _, ⟨[], Row.made (c := ((l.length : Nat) : Int).toNat) (by rw [← hCM]; exact size_madeCells _ _) (by unfold maxLen; omega), rfl, by simp⟩⟩ ?_ (fun w h => Heap.cnt (L' := (bQ, Obj.cells #[.string (bs q.name), .int .u16 q.kind, .int .u16 q.cls] 34 (0, 0)) :: ((b4, Obj.cells #[.int .u8 0, .slice none 0 0, .slice none 0 0] 42 (0, 0)) :: ([(bM, .cells CM 119 (0, 0))] ++ ([] ++ L)))) h (by intro p; (try simp only [cnt_append, cnt_cons, cnt_nil]) <;> omega)) ?_
  (repeat (first | exact trivial | refine ⟨rfl, ?_⟩))
  rintro ⟨i, a, c, B, D⟩ ⟨hi, hB⟩
  dsimp only at hi hB ⊢
  by_cases hil : i < l.length
  · obtain ⟨x, hx⟩ : ∃ x, l[i]? = some x := ⟨_, List.getElem?_eq_getElem hil⟩
    have hxm := List.mem_of_getElem? hx
    have htk : l.take (i + 1) = l.take i ++ [x] := by rw [List.take_add_one, hx]; rfl
    have htl : (l.take i).length ≤ 100 := by rw [List.length_take]; omega
    rcases hl with rfl | ⟨b1, o1, C1, t1, f1, rfl, m1, q1⟩
    · simp at hil
    obtain ⟨_, _, hxv, hcx⟩ := q1 i x hx
    obtain ⟨a1, c1, a2, c2, rfl, hx1, hx2, hx3, hx4, hx5⟩ := hxv.vals
    have m1' : (b1, Obj.cells C1 t1 f1) ∈ (bQ, Obj.cells #[.string (bs q.name), .int .u16 q.kind, .int .u16 q.cls] 34 (0, 0)) :: ((b4, Obj.cells #[.int .u8 0, .slice none 0 0, .slice none 0 0] 42 (0, 0)) :: (B ++ (D ++ L))) := by simp [m1]
    repeat (first | with_reducible refine T_seq ?_ | with_reducible refine T_block ?_ | with_reducible refine T_region ?_ | with_reducible refine TL_nil ?_ | with_reducible refine TQ_then ?_ | with_reducible refine T_skip ?_ | (refine' TL_q (op_bin rfl rfl ?_) rfl ?_; rotate_left 1; (· (exact bin_lss))) | (refine' TL_q (op_idx ety_47 rfl rfl ?_) rfl ?_; (· omega)) | (refine T_yes rfl ?_ ?_; (· (exact dT (by (omega))))))
    refine TL_q (op_ldA [.int .i64 x.up, .int .u8 x.vd.code, .slice a1 x.vd.sets.length c1, .slice a2 x.vd.soa.length c2, .int .u32 x.time] rfl st_46 m1' hcx) rfl ?_
    refine TL_new (op_alloc (C := #[.int .i64 0, .int .u8 0, .slice none 0 0, .slice none 0 0, .int .u32 0]) zero_46 rfl) rfl ?_
    intro b9
    repeat (first | with_reducible refine T_seq ?_ | with_reducible refine T_region ?_ | with_reducible refine TL_nil ?_ | with_reducible refine TQ_then ?_ | refine TL_q (op_fld rfl fld_46_1) rfl ?_ | (refine' TL_q (op_ldAll rfl st_34 ?_ ?_) rfl ?_; rotate_left 3; (· repeat (first | exact List.mem_cons_self | apply List.mem_cons_of_mem)); (· (rfl))) | (refine' TL_q (op_ldAll rfl st_46 ?_ ?_) rfl ?_; rotate_left 3; (· repeat ((exact List.mem_cons_self))); (· (assumption))) | (refine TL_stAll rfl rfl st_46 rfl rfl rfl ?_) | (refine TL_stAll rfl rfl st_119 rfl rfl rfl ?_) | (refine TL_new (op_alloc (C := #[(.int .i64 0), (.int .u8 0), (.slice none 0 0), (.slice none 0 0), (.int .u32 0), (.string (bs [])), (.int .u16 0), (.int .u16 0), (.int .u32 0), (.slice none 0 0), (.bool false)]) zero_119 rfl) rfl ?_; intro bNew) | refine TL_q (op_build rfl (bl_119_0 _ _ _ _ _)) rfl ?_)
    revert bNew
    intro b10
    refine TL_q (op_ldA [.int .u8 x.vd.code, .slice a1 x.vd.sets.length c1, .slice a2 x.vd.soa.length c2] rfl st_42 (List.mem_cons_of_mem _ (List.mem_cons_self ..)) (fun j v hj => by
      match j, hj with
      | 0, hj => exact hj
      | 1, hj => exact hj
      | 2, hj => exact hj)) rfl ?_
    skip
    refine TL_opT (op_call hb_26 rfl (pEnd_S x.vd q a1 a2 c1 c2 (mono_slice mono_set _ _ _ _ (fun p hp => by have := hKL p hp; simp [this]) hx1) (fun s hsm => (hs x hxm).1.2 s hsm))) rfl ?_
    rintro _ _ ⟨a3, c3, B3, rfl, hB3, rfl, hr3⟩
    refine TL_cnt (L' := (b10, Obj.cells #[.int .i64 x.up, .int .u8 x.vd.code, .slice a1 x.vd.sets.length c1, .slice a2 x.vd.soa.length c2, .int .u32 x.time, .string (bs []), .int .u16 0, .int .u16 0, .int .u32 0, .slice none 0 0, .bool false] 119 (0, 0)) :: ((b9, Obj.cells #[.int .i64 x.up, .int .u8 x.vd.code, .slice a1 x.vd.sets.length c1, .slice a2 x.vd.soa.length c2, .int .u32 x.time] 46 (0, 0)) :: ((bQ, Obj.cells #[.string (bs q.name), .int .u16 q.kind, .int .u16 q.cls] 34 (0, 0)) :: ((b4, Obj.cells #[.int .u8 0, .slice none 0 0, .slice none 0 0] 42 (0, 0)) :: (B ++ ((B3 ++ D) ++ L)))))) ?_ (by intro p; (try simp only [cnt_append, cnt_cons, cnt_nil]) <;> omega)
    repeat (first | refine TL_q (op_move rfl) rfl ?_ | refine TL_q (op_extract rfl rfl) rfl ?_ | refine TL_q (op_fld rfl fld_119_1) rfl ?_)
    refine TL_opN (op_stA (cs := [.string (bs (Vd.endV q x.vd).1.name), .int .u16 (Vd.endV q x.vd).1.kind, .int .u16 (Vd.endV q x.vd).1.cls, .int .u32 (Vd.endV q x.vd).1.ttl, .slice a3 (Vd.endV q x.vd).1.data.length c3]) rfl rfl st_60 hr3.one (by simp)) ?_
    refine TL_heap (L' := (b10, Obj.cells #[.int .i64 x.up, .int .u8 x.vd.code, .slice a1 x.vd.sets.length c1, .slice a2 x.vd.soa.length c2, .int .u32 x.time, .string (bs (Vd.endV q x.vd).1.name), .int .u16 (Vd.endV q x.vd).1.kind, .int .u16 (Vd.endV q x.vd).1.cls, .int .u32 (Vd.endV q x.vd).1.ttl, .slice a3 (Vd.endV q x.vd).1.data.length c3, .bool false] 119 (0, 0)) :: ((b9, Obj.cells #[.int .i64 x.up, .int .u8 x.vd.code, .slice a1 x.vd.sets.length c1, .slice a2 x.vd.soa.length c2, .int .u32 x.time] 46 (0, 0)) :: ((bQ, Obj.cells #[.string (bs q.name), .int .u16 q.kind, .int .u16 q.cls] 34 (0, 0)) :: ((b4, Obj.cells #[.int .u8 0, .slice none 0 0, .slice none 0 0] 42 (0, 0)) :: (B ++ ((B3 ++ D) ++ L)))))) (fun w h => h) ?_
    repeat ((refine TL_q (op_fld rfl fld_119_2) rfl ?_))
    refine TL_st (C' := #[.int .i64 x.up, .int .u8 x.vd.code, .slice a1 x.vd.sets.length c1, .slice a2 x.vd.soa.length c2, .int .u32 x.time, .string (bs (Vd.endV q x.vd).1.name), .int .u16 (Vd.endV q x.vd).1.kind, .int .u16 (Vd.endV q x.vd).1.cls, .int .u32 (Vd.endV q x.vd).1.ttl, .slice a3 (Vd.endV q x.vd).1.data.length c3, .bool (Vd.endV q x.vd).2]) rfl rfl one_4 rfl rfl rfl ?_
    repeat (first | with_reducible refine T_region ?_ | with_reducible refine TL_nil ?_ | with_reducible refine TQ_then ?_ | refine TL_q (op_move rfl) rfl ?_ | (refine' TL_q (op_ldAll rfl st_119 ?_ ?_) rfl ?_; rotate_left 3; (· repeat ((exact List.mem_cons_self))); (· (rfl))) | (refine TL_new (op_litN ety_117 rfl rfl (by decide)) rfl ?_; intro bLit))
    refine TL_cnt (L' := (bLit, Obj.cells #[.int .i64 x.up, .int .u8 x.vd.code, .slice a1 x.vd.sets.length c1, .slice a2 x.vd.soa.length c2, .int .u32 x.time, .string (bs (Vd.endV q x.vd).1.name), .int .u16 (Vd.endV q x.vd).1.kind, .int .u16 (Vd.endV q x.vd).1.cls, .int .u32 (Vd.endV q x.vd).1.ttl, .slice a3 (Vd.endV q x.vd).1.data.length c3, .bool (Vd.endV q x.vd).2] 119 (0, 0)) :: (B ++ ((bQ, Obj.cells #[.string (bs q.name), .int .u16 q.kind, .int .u16 q.cls] 34 (0, 0)) :: ((b4, Obj.cells #[.int .u8 0, .slice none 0 0, .slice none 0 0] 42 (0, 0)) :: ((B3 ++ D) ++ L))))) ?_ (by intro p; (try simp only [cnt_append, cnt_cons, cnt_nil]) <;> omega)
    have hen : endedR q K (B3 ++ D) [.int .i64 x.up, .int .u8 x.vd.code, .slice a1 x.vd.sets.length c1, .slice a2 x.vd.soa.length c2, .int .u32 x.time, .string (bs (Vd.endV q x.vd).1.name), .int .u16 (Vd.endV q x.vd).1.kind, .int .u16 (Vd.endV q x.vd).1.cls, .int .u32 (Vd.endV q x.vd).1.ttl, .slice a3 (Vd.endV q x.vd).1.data.length c3, .bool (Vd.endV q x.vd).2] x := ⟨a1, c1, a2, c2, a3, c3, rfl, hxv, mono_set _ _ _ _ (mem_of_cnt (by intro p; (try simp only [cnt_append, cnt_cons, cnt_nil]) <;> omega)) hr3⟩
    refine TL_opT (op_pushK (L0 := []) (r := endedR q K (B3 ++ D)) (y := x) ety_117 rfl rfl (hB.imp (r' := fun _ => endedR q K (B3 ++ D)) (L' := []) (fun cs y _ h => endedR.mono (mem_of_cnt (by intro p; (try simp only [cnt_append, cnt_cons, cnt_nil]) <;> omega)) h)) rfl (fun v hv => endedR.one hen v hv) hen (by omega) (by decide)) rfl ?_
    rintro _ _ ⟨a', c', B', rfl, hB', rfl⟩
    repeat (first | with_reducible refine T_region ?_ | with_reducible refine TL_nil ?_ | with_reducible refine TQ_then ?_ | with_reducible refine TQ_block ?_ | refine TL_q (op_move rfl) rfl ?_ | refine TL_q (op_assign rfl) rfl ?_ | (refine' TL_q (op_bin rfl rfl ?_) rfl ?_; rotate_left 1; (· (exact bin_add ⟨by omega, by omega⟩))))
    refine TQ_roundS (i + 1, a', c', B', B3 ++ D) ⟨hil, by dsimp only; rw [htk]; exact hB'⟩ ?_ (fun w h => h.cnt (by intro p; (try simp only [cnt_append, cnt_cons, cnt_nil]) <;> omega)) (by dsimp only; omega)
    dsimp only
    rw [htk]
    (repeat (first | exact trivial | refine ⟨rfl, ?_⟩))
  · have hie : i = l.length := by omega
    subst hie
    rw [List.take_length] at hB ⊢
    obtain ⟨bE, cur, rfl, hBe, _, hcE, _, hcur⟩ := hB.block (fun e => by rw [e] at hlpos; simp at hlpos)
    have hmE : (bE, Obj.cells cur 119 (0, 0)) ∈ B ++ (D ++ L) := by rw [hBe]; simp
    obtain ⟨_, _, ⟨w1, wc1, w2, wc2, w3, wc3, rfl, hwv, hwr⟩, _, hcw⟩ := hcur 0 w hw0
    have gw4 : cur[0 + (0 : Int).toNat * 11 + 0 + 4]? = some (.int .u32 w.time) := hcw 4 _ rfl
    have ht0 : ∀ i, i ≤ l.length → 0 ≤ Vd.minTime (l.take i) w.time ∧ Vd.minTime (l.take i) w.time ≤ 4294967295 := fun i hi => minTime_bd _ _ (fun x hx => votes_time hl0 x (List.mem_of_mem_take hx)) (votes_time hl0 w (List.mem_of_getElem? hw0))
    repeat (first | with_reducible refine T_seq ?_ | with_reducible refine T_region ?_ | with_reducible refine TL_nil ?_ | with_reducible refine TQ_then ?_ | with_reducible refine T_exit ?_ | with_reducible refine TQ_then_exit ?_ | with_reducible refine TQ_block_exit ?_ | refine TL_q (op_move rfl) rfl ?_ | refine TL_q (op_assign rfl) rfl ?_ | (refine' TL_q (op_bin rfl rfl ?_) rfl ?_; rotate_left 1; (· (exact bin_lss))) | (refine' TL_q (op_idx ety_117 rfl rfl ?_) rfl ?_; (· omega)) | refine TL_q (op_fld rfl fld_34_0) rfl ?_ | refine TL_q (op_fld rfl fld_46_2) rfl ?_ | (refine' TL_q (op_ld rfl pl_3 ?_ ?_) rfl ?_; rotate_left 4; (· repeat (first | assumption | apply List.mem_cons_of_mem)); (· (assumption))) | (refine T_no rfl ?_ ?_; (· (exact dF (by (omega))))))
    refine TL_q (op_ldA [.int .i64 w.up, .int .u8 w.vd.code, .slice w1 w.vd.sets.length wc1, .slice w2 w.vd.soa.length wc2, .int .u32 w.time, .string (bs (Vd.endV q w.vd).1.name), .int .u16 (Vd.endV q w.vd).1.kind, .int .u16 (Vd.endV q w.vd).1.cls, .int .u32 (Vd.endV q w.vd).1.ttl, .slice w3 (Vd.endV q w.vd).1.data.length wc3, .bool (Vd.endV q w.vd).2] rfl st_119 (List.mem_cons_of_mem _ (List.mem_cons_of_mem _ hmE)) (fun j v hj => by have := hcw j v hj; simpa using this)) rfl ?_
    repeat (first | with_reducible refine T_seq ?_ | with_reducible refine T_block ?_ | with_reducible refine T_region ?_ | with_reducible refine TL_nil ?_ | with_reducible refine TQ_then ?_ | refine TL_q (op_move rfl) rfl ?_ | refine TL_q (op_assign rfl) rfl ?_ | refine TL_q (op_len_slice rfl Try.underlying117) rfl ?_ | (refine TL_stAll rfl rfl st_119 rfl rfl rfl ?_) | (refine TL_new (op_alloc (C := #[(.int .i64 0), (.int .u8 0), (.slice none 0 0), (.slice none 0 0), (.int .u32 0), (.string (bs [])), (.int .u16 0), (.int .u16 0), (.int .u32 0), (.slice none 0 0), (.bool false)]) zero_119 rfl) rfl ?_; intro bNew))
    revert bNew
    intro bW
    refine T_loopS (σ := Nat × List Value) (fun y => y.1 ≤ l.length ∧ ∃ f, l[Vd.firstAt l y.1]? = some f ∧ endedR q K D y.2 f) (fun y => [(2, .pointer (some ⟨bQ, 0, none⟩)), (4, .pointer (some ⟨b4, 0, none⟩)), (5, .int .u32 (Vd.minTime (l.take y.1) w.time)), (7, .slice (some ⟨bE, 0, none⟩) l.length c), (11, .pointer (some ⟨bW, 0, none⟩)), (12, .bool (Vd.alikeV (l.take y.1) w.vd)), (13, .bool (someEnd q (l.take y.1))), (59, .slice (some ⟨bE, 0, none⟩) l.length c), (60, .int .i64 (l.length : Nat)), (61, .int .i64 (y.1 : Nat))]) (fun y => (bW, Obj.cells y.2.toArray 119 (0, 0)) :: ((bQ, Obj.cells #[.string (bs q.name), .int .u16 q.kind, .int .u16 q.cls] 34 (0, 0)) :: ((b4, Obj.cells #[.int .u8 0, .slice none 0 0, .slice none 0 0] 42 (0, 0)) :: (B ++ (D ++ L))))) (fun y => l.length - y.1) (0, [.int .i64 w.up, .int .u8 w.vd.code, .slice w1 w.vd.sets.length wc1, .slice w2 w.vd.soa.length wc2, .int .u32 w.time, .string (bs (Vd.endV q w.vd).1.name), .int .u16 (Vd.endV q w.vd).1.kind, .int .u16 (Vd.endV q w.vd).1.cls, .int .u32 (Vd.endV q w.vd).1.ttl, .slice w3 (Vd.endV q w.vd).1.data.length wc3, .bool (Vd.endV q w.vd).2]) ⟨Nat.zero_le _, w, hw0, _, _, _, _, _, _, rfl, hwv, hwr⟩ ?_ (fun w h => h) ?_
    (repeat (first | exact trivial | refine ⟨rfl, ?_⟩))
    rintro ⟨i, cf⟩ ⟨hi, f, hf, f1, fc1, f2, fc2, f3, fc3, rfl, hfv, hfr⟩
    dsimp only at hi hf ⊢
    have hti := ht0 i hi
    by_cases hil : i < l.length
    · obtain ⟨x, hx⟩ : ∃ x, l[i]? = some x := ⟨_, List.getElem?_eq_getElem hil⟩
      have htk : l.take (i + 1) = l.take i ++ [x] := by rw [List.take_add_one, hx]; rfl
      have hmt : Vd.minTime (l.take (i + 1)) w.time = min (Vd.minTime (l.take i) w.time) x.time := by rw [htk]; exact minTime_snoc _ _ _
      have hal : Vd.alikeV (l.take (i + 1)) w.vd = (Vd.alikeV (l.take i) w.vd && decide (x.vd = w.vd)) := by rw [htk]; exact alikeV_snoc _ _ _
      have hso : someEnd q (l.take (i + 1)) = (someEnd q (l.take i) || (Vd.endV q x.vd).2) := by rw [htk]; simp [someEnd]
      have hfs : Vd.firstAt l (i + 1) = if x.up < f.up then i else Vd.firstAt l i := by rw [Vd.firstAt, hx, hf]
      obtain ⟨_, _, ⟨x1, xc1, x2, xc2, x3, xc3, rfl, hxv, hxr⟩, _, hcx⟩ := hcur i x hx
      repeat (first | with_reducible refine T_seq ?_ | with_reducible refine T_block ?_ | with_reducible refine T_region ?_ | with_reducible refine TL_nil ?_ | with_reducible refine TQ_then ?_ | with_reducible refine T_skip ?_ | (refine' TL_q (op_bin rfl rfl ?_) rfl ?_; rotate_left 1; (· (exact bin_lss))) | (refine' TL_q (op_idx ety_117 rfl rfl ?_) rfl ?_; (· omega)) | (refine T_yes rfl ?_ ?_; (· (exact dT (by (omega))))))
      refine TL_q (op_ldA [.int .i64 x.up, .int .u8 x.vd.code, .slice x1 x.vd.sets.length xc1, .slice x2 x.vd.soa.length xc2, .int .u32 x.time, .string (bs (Vd.endV q x.vd).1.name), .int .u16 (Vd.endV q x.vd).1.kind, .int .u16 (Vd.endV q x.vd).1.cls, .int .u32 (Vd.endV q x.vd).1.ttl, .slice x3 (Vd.endV q x.vd).1.data.length xc3, .bool (Vd.endV q x.vd).2] rfl st_119 (List.mem_cons_of_mem _ (List.mem_cons_of_mem _ (List.mem_cons_of_mem _ hmE))) (fun j v hj => by rw [Nat.zero_add]; exact hcx j v hj)) rfl ?_
      repeat (first | with_reducible refine T_seq ?_ | with_reducible refine T_region ?_ | with_reducible refine TL_nil ?_ | with_reducible refine TQ_then ?_ | refine TL_q (op_move rfl) rfl ?_ | refine TL_q (op_assign rfl) rfl ?_ | (refine' TL_q (op_bin rfl rfl ?_) rfl ?_; rotate_left 1; (· (exact bin_lss))) | refine TL_q (op_min rfl rfl) rfl ?_ | refine TL_q (op_fld rfl fld_34_0) rfl ?_ | refine TL_q (op_fld rfl fld_46_2) rfl ?_ | (refine' TL_q (op_ld rfl pl_3 ?_ ?_) rfl ?_; rotate_left 4; (· repeat (first | exact List.mem_cons_self | apply List.mem_cons_of_mem)); (· (rfl))) | (refine TL_stAll rfl rfl st_119 rfl rfl rfl ?_) | (refine TL_new (op_alloc (C := #[(.int .i64 0), (.int .u8 0), (.slice none 0 0), (.slice none 0 0), (.int .u32 0), (.string (bs [])), (.int .u16 0), (.int .u16 0), (.int .u32 0), (.slice none 0 0), (.bool false)]) zero_119 rfl) rfl ?_; intro bNew))
      revert bNew
      intro b15
      refine T_midK (σ := List Value) (fun y => ∃ g, l[Vd.firstAt l (i + 1)]? = some g ∧ endedR q K D y g) (fun y => [(2, .pointer (some ⟨bQ, 0, none⟩)), (4, .pointer (some ⟨b4, 0, none⟩)), (5, .int .u32 (Vd.minTime (l.take (i + 1)) w.time)), (7, .slice (some ⟨bE, 0, none⟩) l.length c), (11, .pointer (some ⟨bW, 0, none⟩)), (12, .bool (Vd.alikeV (l.take i) w.vd)), (13, .bool (someEnd q (l.take i))), (59, .slice (some ⟨bE, 0, none⟩) l.length c), (60, .int .i64 (l.length : Nat)), (61, .int .i64 (i : Nat)), (15, .pointer (some ⟨b15, 0, none⟩))]) (fun y => (b15, Obj.cells #[.int .i64 x.up, .int .u8 x.vd.code, .slice x1 x.vd.sets.length xc1, .slice x2 x.vd.soa.length xc2, .int .u32 x.time, .string (bs (Vd.endV q x.vd).1.name), .int .u16 (Vd.endV q x.vd).1.kind, .int .u16 (Vd.endV q x.vd).1.cls, .int .u32 (Vd.endV q x.vd).1.ttl, .slice x3 (Vd.endV q x.vd).1.data.length xc3, .bool (Vd.endV q x.vd).2] 119 (0, 0)) :: ((bW, Obj.cells y.toArray 119 (0, 0)) :: ((bQ, Obj.cells #[.string (bs q.name), .int .u16 q.kind, .int .u16 q.cls] 34 (0, 0)) :: ((b4, Obj.cells #[.int .u8 0, .slice none 0 0, .slice none 0 0] 42 (0, 0)) :: (B ++ (D ++ L)))))) ?_ ?_
      · rw [hfs, hmt]
        by_cases hup : x.up < f.up
        · rw [if_pos hup]
          repeat (first | with_reducible refine T_region ?_ | (refine' TL_q (op_ldAll rfl st_119 ?_ ?_) rfl ?_; rotate_left 3; (· repeat ((exact List.mem_cons_self))); (· (assumption))) | (refine T_yes rfl ?_ ?_; (· (exact dT (by (assumption))))))
          refine TL_cnt (L' := (bW, Obj.cells #[.int .i64 f.up, .int .u8 f.vd.code, .slice f1 f.vd.sets.length fc1, .slice f2 f.vd.soa.length fc2, .int .u32 f.time, .string (bs (Vd.endV q f.vd).1.name), .int .u16 (Vd.endV q f.vd).1.kind, .int .u16 (Vd.endV q f.vd).1.cls, .int .u32 (Vd.endV q f.vd).1.ttl, .slice f3 (Vd.endV q f.vd).1.data.length fc3, .bool (Vd.endV q f.vd).2] 119 (0, 0)) :: ((b15, Obj.cells #[.int .i64 x.up, .int .u8 x.vd.code, .slice x1 x.vd.sets.length xc1, .slice x2 x.vd.soa.length xc2, .int .u32 x.time, .string (bs (Vd.endV q x.vd).1.name), .int .u16 (Vd.endV q x.vd).1.kind, .int .u16 (Vd.endV q x.vd).1.cls, .int .u32 (Vd.endV q x.vd).1.ttl, .slice x3 (Vd.endV q x.vd).1.data.length xc3, .bool (Vd.endV q x.vd).2] 119 (0, 0)) :: ((bQ, Obj.cells #[.string (bs q.name), .int .u16 q.kind, .int .u16 q.cls] 34 (0, 0)) :: ((b4, Obj.cells #[.int .u8 0, .slice none 0 0, .slice none 0 0] 42 (0, 0)) :: (B ++ (D ++ L)))))) ?_ (by intro p; (try simp only [cnt_append, cnt_cons, cnt_nil]) <;> omega)
          repeat (first | with_reducible refine TL_nil ?_ | (refine TL_stAll rfl rfl st_119 rfl rfl rfl ?_))
          refine TQ_mid [.int .i64 x.up, .int .u8 x.vd.code, .slice x1 x.vd.sets.length xc1, .slice x2 x.vd.soa.length xc2, .int .u32 x.time, .string (bs (Vd.endV q x.vd).1.name), .int .u16 (Vd.endV q x.vd).1.kind, .int .u16 (Vd.endV q x.vd).1.cls, .int .u32 (Vd.endV q x.vd).1.ttl, .slice x3 (Vd.endV q x.vd).1.data.length xc3, .bool (Vd.endV q x.vd).2] ⟨x, hx, _, _, _, _, _, _, rfl, hxv, hxr⟩ ?_ (fun w h => h.cnt (by intro p; (try simp only [cnt_append, cnt_cons, cnt_nil]) <;> omega))
          (repeat (first | exact trivial | refine ⟨rfl, ?_⟩))
        · rw [if_neg hup]
          repeat (first | with_reducible refine T_skip ?_ | (refine T_no rfl ?_ ?_; (· (exact dF (by (assumption))))))
          refine TQ_mid [.int .i64 f.up, .int .u8 f.vd.code, .slice f1 f.vd.sets.length fc1, .slice f2 f.vd.soa.length fc2, .int .u32 f.time, .string (bs (Vd.endV q f.vd).1.name), .int .u16 (Vd.endV q f.vd).1.kind, .int .u16 (Vd.endV q f.vd).1.cls, .int .u32 (Vd.endV q f.vd).1.ttl, .slice f3 (Vd.endV q f.vd).1.data.length fc3, .bool (Vd.endV q f.vd).2] ⟨f, hf, _, _, _, _, _, _, rfl, hfv, hfr⟩ ?_ (fun w h => h)
          (repeat (first | exact trivial | refine ⟨rfl, ?_⟩))
      · rintro cg ⟨g, hg, hgr⟩
        have hxd : vdR K [.int .u8 x.vd.code, .slice x1 x.vd.sets.length xc1, .slice x2 x.vd.soa.length xc2] x.vd := vote_vd hxv
        have hwd : vdR K [.int .u8 w.vd.code, .slice w1 w.vd.sets.length wc1, .slice w2 w.vd.soa.length wc2] w.vd := vote_vd hwv
        have hKc : ∀ p ∈ K, p ∈ (b15, Obj.cells #[.int .i64 x.up, .int .u8 x.vd.code, .slice x1 x.vd.sets.length xc1, .slice x2 x.vd.soa.length xc2, .int .u32 x.time, .string (bs (Vd.endV q x.vd).1.name), .int .u16 (Vd.endV q x.vd).1.kind, .int .u16 (Vd.endV q x.vd).1.cls, .int .u32 (Vd.endV q x.vd).1.ttl, .slice x3 (Vd.endV q x.vd).1.data.length xc3, .bool (Vd.endV q x.vd).2] 119 (0, 0)) :: ((bW, Obj.cells cg.toArray 119 (0, 0)) :: ((bQ, Obj.cells #[.string (bs q.name), .int .u16 q.kind, .int .u16 q.cls] 34 (0, 0)) :: ((b4, Obj.cells #[.int .u8 0, .slice none 0 0, .slice none 0 0] 42 (0, 0)) :: (B ++ (D ++ L))))) := fun p hp => by have := hKL p hp; simp [this]
        have hKm : ∀ z ∈ [(b15, Obj.cells #[.int .i64 x.up, .int .u8 x.vd.code, .slice x1 x.vd.sets.length xc1, .slice x2 x.vd.soa.length xc2, .int .u32 x.time, .string (bs (Vd.endV q x.vd).1.name), .int .u16 (Vd.endV q x.vd).1.kind, .int .u16 (Vd.endV q x.vd).1.cls, .int .u32 (Vd.endV q x.vd).1.ttl, .slice x3 (Vd.endV q x.vd).1.data.length xc3, .bool (Vd.endV q x.vd).2] 119 (0, 0)), (bE, Obj.cells cur 119 (0, 0))], z ∈ (b15, Obj.cells #[.int .i64 x.up, .int .u8 x.vd.code, .slice x1 x.vd.sets.length xc1, .slice x2 x.vd.soa.length xc2, .int .u32 x.time, .string (bs (Vd.endV q x.vd).1.name), .int .u16 (Vd.endV q x.vd).1.kind, .int .u16 (Vd.endV q x.vd).1.cls, .int .u32 (Vd.endV q x.vd).1.ttl, .slice x3 (Vd.endV q x.vd).1.data.length xc3, .bool (Vd.endV q x.vd).2] 119 (0, 0)) :: ((bW, Obj.cells cg.toArray 119 (0, 0)) :: ((bQ, Obj.cells #[.string (bs q.name), .int .u16 q.kind, .int .u16 q.cls] 34 (0, 0)) :: ((b4, Obj.cells #[.int .u8 0, .slice none 0 0, .slice none 0 0] 42 (0, 0)) :: (B ++ (D ++ L))))) := by
          intro z hz
          simp only [List.mem_cons, List.not_mem_nil, or_false] at hz
          rcases hz with rfl | rfl
          · exact List.mem_cons_self ..
          · exact List.mem_cons_of_mem _ (List.mem_cons_of_mem _ (List.mem_cons_of_mem _ (List.mem_cons_of_mem _ hmE)))
        have hx42 : ∀ j v, ([.int .u8 x.vd.code, .slice x1 x.vd.sets.length xc1, .slice x2 x.vd.soa.length xc2] : List Value)[j]? = some v → (#[.int .i64 x.up, .int .u8 x.vd.code, .slice x1 x.vd.sets.length xc1, .slice x2 x.vd.soa.length xc2, .int .u32 x.time, .string (bs (Vd.endV q x.vd).1.name), .int .u16 (Vd.endV q x.vd).1.kind, .int .u16 (Vd.endV q x.vd).1.cls, .int .u32 (Vd.endV q x.vd).1.ttl, .slice x3 (Vd.endV q x.vd).1.data.length xc3, .bool (Vd.endV q x.vd).2] : Array Value)[0 + 0 + 1 + j]? = some v := fun j v hj => by
          match j, hj with
          | 0, hj => exact hj
          | 1, hj => exact hj
          | 2, hj => exact hj
        have hw42 : ∀ j v, ([.int .u8 w.vd.code, .slice w1 w.vd.sets.length wc1, .slice w2 w.vd.soa.length wc2] : List Value)[j]? = some v → cur[0 + (0 : Int).toNat * 11 + 0 + 1 + j]? = some v := fun j v hj => by
          match j, hj with
          | 0, hj => exact hcw 1 v hj
          | 1, hj => exact hcw 2 v hj
          | 2, hj => exact hcw 3 v hj
        cases hav : Vd.alikeV (l.take i) w.vd with
        | false =>
          rw [hav] at hal
          cases hs0 : someEnd q (l.take i) with
          | false =>
            rw [hs0] at hso
            repeat (first | with_reducible refine T_seq ?_ | with_reducible refine T_region ?_ | with_reducible refine TL_nil ?_ | with_reducible refine TQ_then ?_ | refine TL_q (op_move rfl) rfl ?_ | refine TL_q (op_assign rfl) rfl ?_ | (refine' TL_q (op_pickF rfl ?_ rfl) rfl ?_; (· (with_reducible rfl))) | (refine TL_gpre rfl rfl ?_ ?_; (· (with_reducible rfl))) | refine TL_gq2 (op_fld rfl fld_119_2) rfl ?_ | (refine' TL_gq2 (op_ld rfl pl_3 ?_ ?_) rfl ?_; rotate_left 4; (· repeat ((exact List.mem_cons_self))); (· (rfl))))
            refine T_draw follows_mixed ([(b15, Obj.cells #[.int .i64 x.up, .int .u8 x.vd.code, .slice x1 x.vd.sets.length xc1, .slice x2 x.vd.soa.length xc2, .int .u32 x.time, .string (bs (Vd.endV q x.vd).1.name), .int .u16 (Vd.endV q x.vd).1.kind, .int .u16 (Vd.endV q x.vd).1.cls, .int .u32 (Vd.endV q x.vd).1.ttl, .slice x3 (Vd.endV q x.vd).1.data.length xc3, .bool (Vd.endV q x.vd).2] 119 (0, 0)), (bE, Obj.cells cur 119 (0, 0))]) [] ?_
            (refine' TA_take 0 rfl rfl (by kernel_rfl) (quiet_q (op_move rfl)) ?_ ?_; (· (assumption)))
            (refine' TA_take 1 rfl rfl (by kernel_rfl) (quiet_q (op_move rfl)) ?_ ?_; (· (assumption)))
            (refine TA_take 2 rfl rfl (by kernel_rfl) (quiet_no2 rfl rfl ?_) ?_ ?_; (· (exact Bool.not_true)); (· (assumption)))
            (refine TA_take 3 rfl rfl (by kernel_rfl) (quiet_no2 rfl rfl ?_) ?_ ?_; (· (exact Bool.not_true)); (· (assumption)))
            (refine TA_take 5 rfl rfl (by kernel_rfl) (quiet_no2 rfl rfl ?_) ?_ ?_; (· (exact Bool.not_true)); (· (assumption)))
            (refine TA_take 6 rfl rfl (by kernel_rfl) (quiet_no2 rfl rfl ?_) ?_ ?_; (· (exact Bool.not_true)); (· (assumption)))
            (refine TA_take 7 rfl rfl (by kernel_rfl) (quiet_no2 rfl rfl ?_) ?_ ?_; (· (exact Bool.not_true)); (· (assumption)))
            (refine TA_take 8 rfl rfl (by kernel_rfl) (quiet_no2 rfl rfl ?_) ?_ ?_; (· (exact Bool.not_true)); (· (assumption)))
            -- SEVERAL: [4, 9]
            (refine TA_take 4 rfl rfl (by kernel_rfl) (quiet_no2 rfl rfl ?_) ?_ ?_; (· (exact Bool.not_true)); (· exact hKm))
            (refine TA_take 9 rfl rfl (by kernel_rfl) (quiet_no2 rfl rfl ?_) ?_ ?_; (· (exact Bool.not_true)); (· exact hKm))
            (refine TA_take 10 rfl rfl (by kernel_rfl) (quiet_no2 rfl rfl ?_) ?_ ?_; (· (exact Bool.not_true)); (· exact hKm))
            (refine' TA_take 11 rfl rfl (by kernel_rfl) (quiet_q (op_pickF rfl ?_ rfl)) ?_ ?_; (· (with_reducible rfl)); (· (assumption)))
            (refine' TA_take 12 rfl rfl (by kernel_rfl) (quiet_q (op_assign rfl)) ?_ ?_; (· (assumption)))
            refine TA_done (by kernel_rfl) ?_
            repeat (first | with_reducible refine T_region ?_ | with_reducible refine TL_nil ?_ | with_reducible refine TQ_then ?_ | with_reducible refine TQ_block ?_ | refine TL_q (op_move rfl) rfl ?_ | (refine' TL_q (op_bin rfl rfl ?_) rfl ?_; rotate_left 1; (· (exact bin_add ⟨by omega, by omega⟩))))
            refine TQ_roundS (i + 1, cg) ⟨hil, g, hg, hgr⟩ ?_ (fun w h => h.tail) (by dsimp only; omega)
            dsimp only
            rw [hal, hso, Bool.false_and, Bool.false_or]
            (repeat (first | exact trivial | refine ⟨rfl, ?_⟩))
          | true =>
            rw [hs0] at hso
            repeat (first | with_reducible refine T_seq ?_ | with_reducible refine T_region ?_ | with_reducible refine TL_nil ?_ | with_reducible refine TQ_then ?_ | refine TL_q (op_move rfl) rfl ?_ | refine TL_q (op_assign rfl) rfl ?_ | (refine' TL_q (op_pickT rfl ?_ rfl) rfl ?_; (· (with_reducible rfl))) | (refine TL_gno rfl rfl ?_ rfl ?_; (· (exact Bool.not_false))))
            refine T_draw follows_mixed ([(b15, Obj.cells #[.int .i64 x.up, .int .u8 x.vd.code, .slice x1 x.vd.sets.length xc1, .slice x2 x.vd.soa.length xc2, .int .u32 x.time, .string (bs (Vd.endV q x.vd).1.name), .int .u16 (Vd.endV q x.vd).1.kind, .int .u16 (Vd.endV q x.vd).1.cls, .int .u32 (Vd.endV q x.vd).1.ttl, .slice x3 (Vd.endV q x.vd).1.data.length xc3, .bool (Vd.endV q x.vd).2] 119 (0, 0)), (bE, Obj.cells cur 119 (0, 0))]) [] ?_
            (refine' TA_take 0 rfl rfl (by kernel_rfl) (quiet_q (op_move rfl)) ?_ ?_; (· (assumption)))
            (refine' TA_take 1 rfl rfl (by kernel_rfl) (quiet_q (op_move rfl)) ?_ ?_; (· (assumption)))
            (refine TA_take 2 rfl rfl (by kernel_rfl) (quiet_no2 rfl rfl ?_) ?_ ?_; (· (exact Bool.not_true)); (· (assumption)))
            (refine TA_take 3 rfl rfl (by kernel_rfl) (quiet_no2 rfl rfl ?_) ?_ ?_; (· (exact Bool.not_true)); (· (assumption)))
            (refine TA_take 5 rfl rfl (by kernel_rfl) (quiet_no2 rfl rfl ?_) ?_ ?_; (· (exact Bool.not_true)); (· (assumption)))
            (refine TA_take 6 rfl rfl (by kernel_rfl) (quiet_no2 rfl rfl ?_) ?_ ?_; (· (exact Bool.not_true)); (· (assumption)))
            (refine TA_take 7 rfl rfl (by kernel_rfl) (quiet_no2 rfl rfl ?_) ?_ ?_; (· (exact Bool.not_true)); (· (assumption)))
            (refine TA_take 8 rfl rfl (by kernel_rfl) (quiet_no2 rfl rfl ?_) ?_ ?_; (· (exact Bool.not_true)); (· (assumption)))
            -- SEVERAL: [4, 9]
            (refine TA_take 4 rfl rfl (by kernel_rfl) (quiet_no2 rfl rfl ?_) ?_ ?_; (· (exact Bool.not_true)); (· exact hKm))
            (refine TA_take 9 rfl rfl (by kernel_rfl) (quiet_no2 rfl rfl ?_) ?_ ?_; (· (exact Bool.not_true)); (· exact hKm))
            (refine TA_take 10 rfl rfl (by kernel_rfl) (quiet_no2 rfl rfl ?_) ?_ ?_; (· (exact Bool.not_true)); (· exact hKm))
            (refine' TA_take 11 rfl rfl (by kernel_rfl) (quiet_q (op_pickF rfl ?_ rfl)) ?_ ?_; (· (with_reducible rfl)); (· (assumption)))
            (refine' TA_take 12 rfl rfl (by kernel_rfl) (quiet_q (op_assign rfl)) ?_ ?_; (· (assumption)))
            refine TA_done (by kernel_rfl) ?_
            repeat (first | with_reducible refine T_region ?_ | with_reducible refine TL_nil ?_ | with_reducible refine TQ_then ?_ | with_reducible refine TQ_block ?_ | refine TL_q (op_move rfl) rfl ?_ | (refine' TL_q (op_bin rfl rfl ?_) rfl ?_; rotate_left 1; (· (exact bin_add ⟨by omega, by omega⟩))))
            refine TQ_roundS (i + 1, cg) ⟨hil, g, hg, hgr⟩ ?_ (fun w h => h.tail) (by dsimp only; omega)
            dsimp only
            rw [hal, hso, Bool.false_and, Bool.true_or]
            (repeat (first | exact trivial | refine ⟨rfl, ?_⟩))
        | true =>
          rw [hav] at hal
          cases hs0 : someEnd q (l.take i) with
          | false =>
            rw [hs0] at hso
            repeat (first | with_reducible refine T_seq ?_ | with_reducible refine T_region ?_ | with_reducible refine TL_nil ?_ | with_reducible refine TQ_then ?_ | refine TL_q (op_move rfl) rfl ?_ | refine TL_q (op_assign rfl) rfl ?_ | (refine' TL_q (op_pickF rfl ?_ rfl) rfl ?_; (· (with_reducible rfl))) | (refine TL_gpre rfl rfl ?_ ?_; (· (with_reducible rfl))) | refine TL_gq2 (op_fld rfl fld_119_2) rfl ?_ | (refine' TL_gq2 (op_ld rfl pl_3 ?_ ?_) rfl ?_; rotate_left 4; (· repeat ((exact List.mem_cons_self))); (· (rfl))))
            refine T_draw follows_mixed ([(b15, Obj.cells #[.int .i64 x.up, .int .u8 x.vd.code, .slice x1 x.vd.sets.length xc1, .slice x2 x.vd.soa.length xc2, .int .u32 x.time, .string (bs (Vd.endV q x.vd).1.name), .int .u16 (Vd.endV q x.vd).1.kind, .int .u16 (Vd.endV q x.vd).1.cls, .int .u32 (Vd.endV q x.vd).1.ttl, .slice x3 (Vd.endV q x.vd).1.data.length xc3, .bool (Vd.endV q x.vd).2] 119 (0, 0)), (bE, Obj.cells cur 119 (0, 0))]) [] ?_
            (refine' TA_take 0 rfl rfl (by kernel_rfl) (quiet_q (op_move rfl)) ?_ ?_; (· (assumption)))
            (refine' TA_take 1 rfl rfl (by kernel_rfl) (quiet_q (op_move rfl)) ?_ ?_; (· (assumption)))
            (refine' TA_take 2 rfl rfl (by kernel_rfl) (quiet_g2 rfl rfl (by (with_reducible rfl)) (op_fld rfl fld_119_0)) ?_ ?_; (· (assumption)))
            (refine' TA_take 3 rfl rfl (by kernel_rfl) (quiet_g2 rfl rfl (by (with_reducible rfl)) (op_fld rfl fld_46_1)) ?_ ?_; (· (assumption)))
            (refine' TA_take 5 rfl rfl (by kernel_rfl) (quiet_g2 rfl rfl (by (with_reducible rfl)) (op_move rfl)) ?_ ?_; (· (assumption)))
            (refine' TA_take 6 rfl rfl (by kernel_rfl) (quiet_g2 rfl rfl (by (with_reducible rfl)) (op_idxI ety_117 rfl rfl ?_ ?_)) ?_ ?_; (· omega); (· omega); (· (assumption)))
            (refine' TA_take 7 rfl rfl (by kernel_rfl) (quiet_g2 rfl rfl (by (with_reducible rfl)) (op_fld rfl fld_119_0)) ?_ ?_; (· (assumption)))
            (refine' TA_take 8 rfl rfl (by kernel_rfl) (quiet_g2 rfl rfl (by (with_reducible rfl)) (op_fld rfl fld_46_1)) ?_ ?_; (· (assumption)))
            -- SEVERAL: [4, 9]
            (refine TA_take 4 rfl rfl (by kernel_rfl) (quiet_g2 rfl rfl (by (with_reducible rfl)) (op_ldA [.int .u8 x.vd.code, .slice x1 x.vd.sets.length xc1, .slice x2 x.vd.soa.length xc2] rfl st_42 (List.mem_cons_self ..) hx42)) ?_ ?_; (· exact hKm))
            (refine TA_take 9 rfl rfl (by kernel_rfl) (quiet_g2 rfl rfl (by (with_reducible rfl)) (op_ldA [.int .u8 w.vd.code, .slice w1 w.vd.sets.length wc1, .slice w2 w.vd.soa.length wc2] rfl st_42 (List.mem_cons_of_mem _ (List.mem_cons_self ..)) hw42)) ?_ ?_; (· exact hKm))
            (refine TA_oneGd 10 (by kernel_rfl) rfl rfl rfl rfl (by (with_reducible rfl)) (op_call hb_27 rfl (pSame_S [.int .u8 x.vd.code, .slice x1 x.vd.sets.length xc1, .slice x2 x.vd.soa.length xc2] [.int .u8 w.vd.code, .slice w1 w.vd.sets.length wc1, .slice w2 w.vd.soa.length wc2] x.vd w.vd (mono_vd _ _ _ _ hKc hxd) (mono_vd _ _ _ _ hKc hwd))) ?_; rintro _ _ ⟨rfl, rfl⟩; refine ⟨Or.inr hKm, ?_⟩)
            (refine' TA_take 11 rfl rfl (by kernel_rfl) (quiet_q (op_pickT rfl ?_ rfl)) ?_ ?_; (· (with_reducible rfl)); (· (assumption)))
            (refine' TA_take 12 rfl rfl (by kernel_rfl) (quiet_q (op_assign rfl)) ?_ ?_; (· (assumption)))
            refine TA_done (by kernel_rfl) ?_
            repeat (first | with_reducible refine T_region ?_ | with_reducible refine TL_nil ?_ | with_reducible refine TQ_then ?_ | with_reducible refine TQ_block ?_ | refine TL_q (op_move rfl) rfl ?_ | (refine' TL_q (op_bin rfl rfl ?_) rfl ?_; rotate_left 1; (· (exact bin_add ⟨by omega, by omega⟩))))
            refine TQ_roundS (i + 1, cg) ⟨hil, g, hg, hgr⟩ ?_ (fun w h => h.tail) (by dsimp only; omega)
            dsimp only
            rw [hal, hso, Bool.true_and, Bool.false_or]
            (repeat (first | exact trivial | refine ⟨rfl, ?_⟩))
          | true =>
            rw [hs0] at hso
            repeat (first | with_reducible refine T_seq ?_ | with_reducible refine T_region ?_ | with_reducible refine TL_nil ?_ | with_reducible refine TQ_then ?_ | refine TL_q (op_move rfl) rfl ?_ | refine TL_q (op_assign rfl) rfl ?_ | (refine' TL_q (op_pickT rfl ?_ rfl) rfl ?_; (· (with_reducible rfl))) | (refine TL_gno rfl rfl ?_ rfl ?_; (· (exact Bool.not_false))))
            refine T_draw follows_mixed ([(b15, Obj.cells #[.int .i64 x.up, .int .u8 x.vd.code, .slice x1 x.vd.sets.length xc1, .slice x2 x.vd.soa.length xc2, .int .u32 x.time, .string (bs (Vd.endV q x.vd).1.name), .int .u16 (Vd.endV q x.vd).1.kind, .int .u16 (Vd.endV q x.vd).1.cls, .int .u32 (Vd.endV q x.vd).1.ttl, .slice x3 (Vd.endV q x.vd).1.data.length xc3, .bool (Vd.endV q x.vd).2] 119 (0, 0)), (bE, Obj.cells cur 119 (0, 0))]) [] ?_
            (refine' TA_take 0 rfl rfl (by kernel_rfl) (quiet_q (op_move rfl)) ?_ ?_; (· (assumption)))
            (refine' TA_take 1 rfl rfl (by kernel_rfl) (quiet_q (op_move rfl)) ?_ ?_; (· (assumption)))
            (refine' TA_take 2 rfl rfl (by kernel_rfl) (quiet_g2 rfl rfl (by (with_reducible rfl)) (op_fld rfl fld_119_0)) ?_ ?_; (· (assumption)))
            (refine' TA_take 3 rfl rfl (by kernel_rfl) (quiet_g2 rfl rfl (by (with_reducible rfl)) (op_fld rfl fld_46_1)) ?_ ?_; (· (assumption)))
            (refine' TA_take 5 rfl rfl (by kernel_rfl) (quiet_g2 rfl rfl (by (with_reducible rfl)) (op_move rfl)) ?_ ?_; (· (assumption)))
            (refine' TA_take 6 rfl rfl (by kernel_rfl) (quiet_g2 rfl rfl (by (with_reducible rfl)) (op_idxI ety_117 rfl rfl ?_ ?_)) ?_ ?_; (· omega); (· omega); (· (assumption)))
            (refine' TA_take 7 rfl rfl (by kernel_rfl) (quiet_g2 rfl rfl (by (with_reducible rfl)) (op_fld rfl fld_119_0)) ?_ ?_; (· (assumption)))
            (refine' TA_take 8 rfl rfl (by kernel_rfl) (quiet_g2 rfl rfl (by (with_reducible rfl)) (op_fld rfl fld_46_1)) ?_ ?_; (· (assumption)))
            -- SEVERAL: [4, 9]
            (refine TA_take 4 rfl rfl (by kernel_rfl) (quiet_g2 rfl rfl (by (with_reducible rfl)) (op_ldA [.int .u8 x.vd.code, .slice x1 x.vd.sets.length xc1, .slice x2 x.vd.soa.length xc2] rfl st_42 (List.mem_cons_self ..) hx42)) ?_ ?_; (· exact hKm))
            (refine TA_take 9 rfl rfl (by kernel_rfl) (quiet_g2 rfl rfl (by (with_reducible rfl)) (op_ldA [.int .u8 w.vd.code, .slice w1 w.vd.sets.length wc1, .slice w2 w.vd.soa.length wc2] rfl st_42 (List.mem_cons_of_mem _ (List.mem_cons_self ..)) hw42)) ?_ ?_; (· exact hKm))
            (refine TA_oneGd 10 (by kernel_rfl) rfl rfl rfl rfl (by (with_reducible rfl)) (op_call hb_27 rfl (pSame_S [.int .u8 x.vd.code, .slice x1 x.vd.sets.length xc1, .slice x2 x.vd.soa.length xc2] [.int .u8 w.vd.code, .slice w1 w.vd.sets.length wc1, .slice w2 w.vd.soa.length wc2] x.vd w.vd (mono_vd _ _ _ _ hKc hxd) (mono_vd _ _ _ _ hKc hwd))) ?_; rintro _ _ ⟨rfl, rfl⟩; refine ⟨Or.inr hKm, ?_⟩)
            (refine' TA_take 11 rfl rfl (by kernel_rfl) (quiet_q (op_pickT rfl ?_ rfl)) ?_ ?_; (· (with_reducible rfl)); (· (assumption)))
            (refine' TA_take 12 rfl rfl (by kernel_rfl) (quiet_q (op_assign rfl)) ?_ ?_; (· (assumption)))
            refine TA_done (by kernel_rfl) ?_
            repeat (first | with_reducible refine T_region ?_ | with_reducible refine TL_nil ?_ | with_reducible refine TQ_then ?_ | with_reducible refine TQ_block ?_ | refine TL_q (op_move rfl) rfl ?_ | (refine' TL_q (op_bin rfl rfl ?_) rfl ?_; rotate_left 1; (· (exact bin_add ⟨by omega, by omega⟩))))
            refine TQ_roundS (i + 1, cg) ⟨hil, g, hg, hgr⟩ ?_ (fun w h => h.tail) (by dsimp only; omega)
            dsimp only
            rw [hal, hso, Bool.true_and, Bool.true_or]
            (repeat (first | exact trivial | refine ⟨rfl, ?_⟩))
    · have hie : i = l.length := by omega
      subst hie
      rw [List.take_length] at hti ⊢
      have hKc : ∀ p ∈ K, p ∈ ((bW, Obj.cells #[.int .i64 f.up, .int .u8 f.vd.code, .slice f1 f.vd.sets.length fc1, .slice f2 f.vd.soa.length fc2, .int .u32 f.time, .string (bs (Vd.endV q f.vd).1.name), .int .u16 (Vd.endV q f.vd).1.kind, .int .u16 (Vd.endV q f.vd).1.cls, .int .u32 (Vd.endV q f.vd).1.ttl, .slice f3 (Vd.endV q f.vd).1.data.length fc3, .bool (Vd.endV q f.vd).2] 119 (0, 0)) :: ((bQ, Obj.cells #[.string (bs q.name), .int .u16 q.kind, .int .u16 q.cls] 34 (0, 0)) :: ((b4, Obj.cells #[.int .u8 0, .slice none 0 0, .slice none 0 0] 42 (0, 0)) :: (B ++ (D ++ L))))) := fun p hp => by have := hKL p hp; simp [this]
      rw [hf] at hU
      dsimp only at hU
      cases hA : Vd.alikeV l w.vd with
      | true =>
        rw [hA] at hU
        simp only [Bool.not_true, Bool.false_and, Bool.false_eq_true, if_false] at hU
        rw [hU]
        repeat (first | with_reducible refine T_seq ?_ | with_reducible refine T_region ?_ | with_reducible refine TL_nil ?_ | with_reducible refine TQ_then ?_ | with_reducible refine T_skip ?_ | with_reducible refine T_exit ?_ | with_reducible refine TQ_then_exit ?_ | with_reducible refine TQ_block_exit ?_ | refine TL_q (op_move rfl) rfl ?_ | (refine' TL_q (op_bin rfl rfl ?_) rfl ?_; rotate_left 1; (· (exact bin_lss))) | refine TL_q (op_not rfl) rfl ?_ | (refine' TL_q (op_pickF rfl ?_ rfl) rfl ?_; (· (exact Bool.not_true))) | refine TL_q (op_fld rfl fld_34_0) rfl ?_ | refine TL_q (op_fld rfl fld_46_1) rfl ?_ | (refine TL_gno rfl rfl ?_ rfl ?_; (· (with_reducible rfl))) | (refine T_no rfl ?_ ?_; (· first | with_reducible rfl | exact dF (by (omega)))))
        refine TL_q (op_ldA [.int .u8 f.vd.code, .slice f1 f.vd.sets.length fc1, .slice f2 f.vd.soa.length fc2] rfl st_42 (List.mem_cons_self ..) (fun j v hj => by
          match j, hj with
          | 0, hj => exact hj
          | 1, hj => exact hj
          | 2, hj => exact hj)) rfl ?_
        skip
        refine TL_opT (op_call hb_55 rfl (mCopyVerdict_S [.int .u8 f.vd.code, .slice f1 f.vd.sets.length fc1, .slice f2 f.vd.soa.length fc2] f.vd (mono_vd _ _ _ _ hKc (vote_vd hfv)) (hs f (List.mem_of_getElem? hf)))) rfl ?_
        rintro _ _ ⟨a', c', B', a2', c2', B2', N', rfl, k1, k2, k3, rfl⟩
        repeat ((refine TL_q (op_move rfl) rfl ?_))
        refine TL_cnt (L' := (b4, Obj.cells #[.int .u8 0, .slice none 0 0, .slice none 0 0] 42 (0, 0)) :: (B2' ++ (B' ++ (N' ++ L)))) ?_ (by intro p; (try simp only [cnt_append, cnt_cons, cnt_nil]) <;> omega)
        repeat (first | with_reducible refine TL_nil ?_ | with_reducible refine TQ_then ?_ | with_reducible refine T_ret ?_ | refine TL_q (op_assign rfl) rfl ?_ | (refine TL_stAll rfl rfl st_42 rfl rfl rfl ?_))
        refine TQ_retC3 4 42 5 6 rfl rfl rfl rfl st_42 (by repeat ((exact List.mem_cons_self))) rfl (fun w h => Heap.cnt (L' := B2' ++ (B' ++ (N' ++ L))) h (by intro p; (try simp only [cnt_append, cnt_cons, cnt_nil]) <;> omega)) ?_
        exact ⟨a', c', B', a2', c2', B2', N', rfl, k1, k2, k3, rfl⟩
      | false =>
        cases hS : someEnd q l with
        | false =>
          rw [hA, hS] at hU
          simp only [Bool.not_false, Bool.true_and, Bool.false_eq_true, if_false] at hU
          rw [hU]
          repeat (first | with_reducible refine T_seq ?_ | with_reducible refine T_region ?_ | with_reducible refine TL_nil ?_ | with_reducible refine TQ_then ?_ | with_reducible refine T_skip ?_ | with_reducible refine T_exit ?_ | with_reducible refine TQ_then_exit ?_ | with_reducible refine TQ_block_exit ?_ | refine TL_q (op_move rfl) rfl ?_ | (refine' TL_q (op_bin rfl rfl ?_) rfl ?_; rotate_left 1; (· (exact bin_lss))) | refine TL_q (op_not rfl) rfl ?_ | (refine' TL_q (op_pickT rfl ?_ rfl) rfl ?_; (· (exact Bool.not_false))) | refine TL_q (op_fld rfl fld_34_0) rfl ?_ | refine TL_q (op_fld rfl fld_46_1) rfl ?_ | (refine TL_gpre rfl rfl ?_ ?_; (· (exact Bool.not_false))) | refine TL_gq2 (op_move rfl) rfl ?_ | (refine T_no rfl ?_ ?_; (· first | with_reducible rfl | exact dF (by (omega)))))
          refine TL_q (op_ldA [.int .u8 f.vd.code, .slice f1 f.vd.sets.length fc1, .slice f2 f.vd.soa.length fc2] rfl st_42 (List.mem_cons_self ..) (fun j v hj => by
            match j, hj with
            | 0, hj => exact hj
            | 1, hj => exact hj
            | 2, hj => exact hj)) rfl ?_
          skip
          refine TL_opT (op_call hb_55 rfl (mCopyVerdict_S [.int .u8 f.vd.code, .slice f1 f.vd.sets.length fc1, .slice f2 f.vd.soa.length fc2] f.vd (mono_vd _ _ _ _ hKc (vote_vd hfv)) (hs f (List.mem_of_getElem? hf)))) rfl ?_
          rintro _ _ ⟨a', c', B', a2', c2', B2', N', rfl, k1, k2, k3, rfl⟩
          repeat ((refine TL_q (op_move rfl) rfl ?_))
          refine TL_cnt (L' := (b4, Obj.cells #[.int .u8 0, .slice none 0 0, .slice none 0 0] 42 (0, 0)) :: (B2' ++ (B' ++ (N' ++ L)))) ?_ (by intro p; (try simp only [cnt_append, cnt_cons, cnt_nil]) <;> omega)
          repeat (first | with_reducible refine TL_nil ?_ | with_reducible refine TQ_then ?_ | with_reducible refine T_ret ?_ | refine TL_q (op_assign rfl) rfl ?_ | (refine TL_stAll rfl rfl st_42 rfl rfl rfl ?_))
          refine TQ_retC3 4 42 5 6 rfl rfl rfl rfl st_42 (by repeat ((exact List.mem_cons_self))) rfl (fun w h => Heap.cnt (L' := B2' ++ (B' ++ (N' ++ L))) h (by intro p; (try simp only [cnt_append, cnt_cons, cnt_nil]) <;> omega)) ?_
          exact ⟨a', c', B', a2', c2', B2', N', rfl, k1, k2, k3, rfl⟩
        | true =>
          rw [hA, hS] at hU
          simp only [Bool.not_false, Bool.true_and, if_true] at hU
          rw [hU]
          repeat (first | with_reducible refine T_seq ?_ | with_reducible refine T_region ?_ | with_reducible refine TL_nil ?_ | with_reducible refine TQ_then ?_ | with_reducible refine T_exit ?_ | with_reducible refine TQ_then_exit ?_ | with_reducible refine TQ_block_exit ?_ | refine TL_q (op_move rfl) rfl ?_ | (refine' TL_q (op_bin rfl rfl ?_) rfl ?_; rotate_left 1; (· (exact bin_lss))) | refine TL_q (op_not rfl) rfl ?_ | (refine' TL_q (op_pickT rfl ?_ rfl) rfl ?_; (· (exact Bool.not_false))) | (refine' TL_q (op_ldAll rfl st_34 ?_ ?_) rfl ?_; rotate_left 3; (· repeat (first | exact List.mem_cons_self | apply List.mem_cons_of_mem)); (· (rfl))) | (refine TL_gpre rfl rfl ?_ ?_; (· (exact Bool.not_false))) | refine TL_gq2 (op_move rfl) rfl ?_ | (refine T_yes rfl ?_ ?_; (· (with_reducible rfl))) | (refine T_no rfl ?_ ?_; (· (exact dF (by (omega))))))
          refine TL_opT (op_call hb_54 rfl (combine_S (K := K) (D := D) _ q l (fun p hp => by simp [hp]) hq1 hq2 hq3 ((hB.imp (r' := fun _ => endedR q K D) (L' := []) (fun cs x _ h => h)).sliceR mono_const (by simp) (fun p hp => by simp [hp])) hn hd)) rfl ?_
          rintro _ _ ⟨a', c', B', a2', c2', B2', N', rfl, k1, k2, k3, rfl⟩
          repeat ((refine TL_q (op_move rfl) rfl ?_))
          refine TL_cnt (L' := (b4, Obj.cells #[.int .u8 0, .slice none 0 0, .slice none 0 0] 42 (0, 0)) :: (B2' ++ (B' ++ (N' ++ L)))) ?_ (by intro p; (try simp only [cnt_append, cnt_cons, cnt_nil]) <;> omega)
          repeat (first | with_reducible refine TL_nil ?_ | with_reducible refine TQ_then ?_ | with_reducible refine T_ret ?_ | with_reducible refine TQ_then_ret ?_ | refine TL_q (op_assign rfl) rfl ?_ | (refine TL_stAll rfl rfl st_42 rfl rfl rfl ?_))
          refine TQ_retC3 4 42 5 6 rfl rfl rfl rfl st_42 (by repeat ((exact List.mem_cons_self))) rfl (fun w h => Heap.cnt (L' := B2' ++ (B' ++ (N' ++ L))) h (by intro p; (try simp only [cnt_append, cnt_cons, cnt_nil]) <;> omega)) ?_
          exact ⟨a', c', B', a2', c2', B2', N', rfl, k1, k2, k3, rfl⟩
end Go.Proofs.Ytdflhdfapnhjjaa
namespace Go.Proofs.Ytdflhdfapnhjjaa
namespace Vd
def Rising (l : List Bytes) : Prop := l.Pairwise fun a b => a < b
theorem rising_ext : ∀ {a b : List Bytes}, Rising a → Rising b → (∀ x, x ∈ a ↔ x ∈ b) → a = b
  | [], [], _, _, _ => rfl
  | [], y :: b, _, _, h => absurd ((h y).2 (List.mem_cons_self ..)) (by simp)
  | x :: a, [], _, _, h => absurd ((h x).1 (List.mem_cons_self ..)) (by simp)
  | x :: a, y :: b, ha, hb, h => by
    have ha' := List.pairwise_cons.1 ha
    have hb' := List.pairwise_cons.1 hb
    have hxy : x = y := by
      rcases List.mem_cons.1 ((h x).1 (List.mem_cons_self ..)) with e | hx
      · exact e
      · rcases List.mem_cons.1 ((h y).2 (List.mem_cons_self ..)) with e | hy
        · exact e.symm
        · exact absurd (List.lt_trans (ha'.1 y hy) (hb'.1 x hx)) (List.lt_irrefl x)
    subst hxy
    have ht : ∀ z, z ∈ a ↔ z ∈ b := fun z => by
      constructor
      · intro hz
        rcases List.mem_cons.1 ((h z).1 (List.mem_cons_of_mem _ hz)) with e | hz'
        · subst e; exact absurd (ha'.1 _ hz) (List.lt_irrefl _)
        · exact hz'
      · intro hz
        rcases List.mem_cons.1 ((h z).2 (List.mem_cons_of_mem _ hz)) with e | hz'
        · subst e; exact absurd (hb'.1 _ hz) (List.lt_irrefl _)
        · exact hz'
    rw [rising_ext ha'.2 hb'.2 ht]
theorem gtB_iff (x s : Bytes) : gtB x s = true ↔ s < x := by
  unfold gtB
  rw [Go.Proofs.bytesLess_eq]
  simp only [Bool.not_eq_true', Bool.or_eq_false_iff, decide_eq_false_iff_not, beq_eq_false_iff_ne]
  constructor
  · rintro ⟨h1, h2⟩
    have hle : s ≤ x := List.not_lt.1 h1
    by_cases h : s < x
    · exact h
    · exact absurd (List.le_antisymm (List.not_lt.1 h) hle) h2
  · intro h
    refine ⟨fun h2 => absurd (List.lt_trans h h2) (List.lt_irrefl _), fun e => by subst e; exact absurd h (List.lt_irrefl _)⟩
theorem lt_or {a b : Bytes} : a < b ∨ a = b ∨ b < a := by
  by_cases h1 : a < b
  · exact Or.inl h1
  · by_cases h2 : b < a
    · exact Or.inr (Or.inr h2)
    · exact Or.inr (Or.inl (List.le_antisymm (List.not_lt.1 h2) (List.not_lt.1 h1)))
/-- Behind the place. -/
theorem putGo_done (s : Bytes) : ∀ (l out : List Bytes), (∀ x ∈ l, s < x) → putGo s l out true = .inr (out ++ l, true)
  | [], out, _ => by simp [putGo]
  | x :: l, out, h => by
    have hx := h x (List.mem_cons_self ..)
    rw [putGo, if_neg (fun e => by subst e; exact List.lt_irrefl _ hx), if_neg (by simp), putGo_done s l _ fun y hy => h y (List.mem_cons_of_mem _ hy)]
    simp
theorem putGo_spec (s : Bytes) : ∀ (l out : List Bytes), Rising (out ++ l) → (∀ x ∈ out, x < s) →
    (s ∈ l ∧ putGo s l out false = .inl []) ∨ ∃ o d, putGo s l out false = .inr (o, d) ∧ Rising (if d then o else o ++ [s]) ∧ (∀ x, x ∈ (if d then o else o ++ [s]) ↔ x ∈ out ∨ x ∈ l ∨ x = s) ∧ s ∉ l
  | [], out, hr, ho => by
    refine Or.inr ⟨out, false, rfl, ?_, fun x => by simp, by simp⟩
    simp only [Bool.false_eq_true, if_false]
    rw [List.append_nil] at hr
    exact List.pairwise_append.2 ⟨hr, by simp, fun a ha b hb => by rw [List.mem_singleton.1 hb]; exact ho a ha⟩
  | x :: l, out, hr, ho => by
    by_cases hxs : x = s
    · subst hxs
      exact Or.inl ⟨List.mem_cons_self .., by rw [putGo, if_pos rfl]⟩
    · by_cases hg : s < x
      · have hall : ∀ y ∈ l, s < y := fun y hy => by
          have := (List.pairwise_cons.1 (List.pairwise_append.1 hr).2.1).1 y hy
          exact List.lt_trans hg this
        refine Or.inr ⟨((out ++ [s]) ++ [x]) ++ l, true, ?_, ?_, fun y => by simp; grind, ?_⟩
        · rw [putGo, if_neg hxs, if_pos (by simp [(gtB_iff x s).2 hg]), putGo_done s l _ hall]
        · simp only [if_true]
          have h1 := List.pairwise_append.1 hr
          rw [show ((out ++ [s]) ++ [x]) ++ l = out ++ (s :: x :: l) by simp]
          refine List.pairwise_append.2 ⟨h1.1, List.pairwise_cons.2 ⟨fun y hy => ?_, h1.2.1⟩, fun a ha b hb => ?_⟩
          · rcases List.mem_cons.1 hy with rfl | hy
            · exact hg
            · exact hall y hy
          · rcases List.mem_cons.1 hb with rfl | hb
            · exact ho a ha
            · exact h1.2.2 a ha b hb
        · intro hm
          rcases List.mem_cons.1 hm with e | hm
          · exact hxs e.symm
          · exact List.lt_irrefl _ (hall s hm)
      · have hlt : x < s := by
          rcases lt_or (a := x) (b := s) with h | h | h
          · exact h
          · exact absurd h hxs
          · exact absurd h hg
        have hng : gtB x s = false := by
          cases h : gtB x s with
          | false => rfl
          | true => exact absurd ((gtB_iff x s).1 h) hg
        have := putGo_spec s l (out ++ [x]) (by simpa using hr) (fun y hy => by
          rcases List.mem_append.1 hy with hy | hy
          · exact ho y hy
          · rw [List.mem_singleton.1 hy]; exact hlt)
        rw [putGo, if_neg hxs, if_neg (by simp [hng])]
        rcases this with ⟨h1, h2⟩ | ⟨o, d, h1, h2, h3, h4⟩
        · exact Or.inl ⟨List.mem_cons_of_mem _ h1, h2⟩
        · refine Or.inr ⟨o, d, h1, h2, fun y => by rw [h3]; simp; grind, ?_⟩
          intro hm
          rcases List.mem_cons.1 hm with e | hm
          · exact hxs e.symm
          · exact h4 hm
theorem put_rising {l : List Bytes} (s : Bytes) (h : Rising l) : Rising (put l s) ∧ ∀ x, x ∈ put l s ↔ x ∈ l ∨ x = s := by
  unfold put
  rcases putGo_spec s l [] (by simpa using h) (by simp) with ⟨h1, h2⟩ | ⟨o, d, h1, h2, h3, _⟩
  · rw [h2]
    exact ⟨h, fun x => ⟨fun hx => Or.inl hx, fun hx => hx.elim id fun e => e ▸ h1⟩⟩
  · rw [h1]
    dsimp only
    exact ⟨h2, fun x => by rw [h3]; simp⟩
theorem foldPut_rising : ∀ (d : List Bytes) {l : List Bytes}, Rising l → Rising (d.foldl put l) ∧ ∀ x, x ∈ d.foldl put l ↔ x ∈ l ∨ x ∈ d
  | [], l, h => ⟨h, fun x => by simp⟩
  | s :: d, l, h => by
    obtain ⟨h1, h2⟩ := put_rising s h
    obtain ⟨h3, h4⟩ := foldPut_rising d h1
    exact ⟨h3, fun x => by rw [List.foldl_cons, h4, h2]; simp; grind⟩
theorem le_lt {a b c : Bytes} (h1 : a ≤ b) (h2 : b < c) : a < c := by
  rcases lt_or (a := a) (b := c) with h | h | h
  · exact h
  · subst h; exact absurd h2 (List.not_lt.2 h1)
  · exact absurd (List.lt_trans h2 h) (List.not_lt.2 h1)
theorem compact_up (d : Array Bytes) (hs : ∀ i j, i ≤ j → j < d.size → d[i]! ≤ d[j]!) : ∀ m, m ≤ d.size → Rising (Lib.compactUpTo d m) ∧ ∀ x, x ∈ Lib.compactUpTo d m ↔ ∃ j, j < m ∧ d[j]! = x
  | 0, _ => by
    have h0 : Lib.compactUpTo d 0 = [] := rfl
    rw [h0]
    exact ⟨List.Pairwise.nil, fun x => by simp⟩
  | m + 1, hm => by
    obtain ⟨h1, h2⟩ := compact_up d hs m (by omega)
    rw [Lib.compactUpTo_succ]
    cases hk : Lib.keeps d m with
    | true =>
      simp only [if_true]
      refine ⟨List.pairwise_append.2 ⟨h1, by simp, fun a ha b hb => ?_⟩, fun x => ?_⟩
      · rw [List.mem_singleton.1 hb]
        obtain ⟨j, hj, rfl⟩ := (h2 a).1 ha
        have hne : d[m]! ≠ d[m - 1]! := fun e => by rw [Lib.keeps_neg (by omega) e] at hk; cases hk
        have h3 := hs (m - 1) m (by omega) (by omega)
        have h4 := hs j (m - 1) (by omega) (by omega)
        refine le_lt h4 ?_
        rcases lt_or (a := d[m - 1]!) (b := d[m]!) with h | h | h
        · exact h
        · exact absurd h.symm hne
        · exact absurd h (List.not_lt.2 h3)
      · rw [List.mem_append, h2, List.mem_singleton]
        constructor
        · rintro (⟨j, hj, e⟩ | e)
          · exact ⟨j, by omega, e⟩
          · exact ⟨m, by omega, e.symm⟩
        · rintro ⟨j, hj, e⟩
          by_cases hjm : j = m
          · subst hjm; exact Or.inr e.symm
          · exact Or.inl ⟨j, by omega, e⟩
    | false =>
      simp only [Bool.false_eq_true, if_false, List.append_nil]
      refine ⟨h1, fun x => ?_⟩
      have h0 : 0 < m := by
        rcases Nat.eq_zero_or_pos m with h | h
        · subst h; rw [Lib.keeps_lt_one d 0 (by omega)] at hk; cases hk
        · exact h
      have he : d[m]! = d[m - 1]! := by
        by_cases e : d[m]! = d[m - 1]!
        · exact e
        · rw [Lib.keeps_pos e] at hk; cases hk
      rw [h2]
      constructor
      · rintro ⟨j, hj, e⟩; exact ⟨j, by omega, e⟩
      · rintro ⟨j, hj, e⟩
        by_cases hjm : j = m
        · subst hjm; exact ⟨j - 1, by omega, by rw [← he]; exact e⟩
        · exact ⟨j, by omega, e⟩
theorem compact_rising {l : List Bytes} (h : l.Pairwise fun a b => a ≤ b) : Rising (Lib.compact l) ∧ ∀ x, x ∈ Lib.compact l ↔ x ∈ l := by
  have key := compact_up l.toArray (fun i j hij hj => by
    have hj' : j < l.length := by simpa using hj
    have hi' : i < l.length := by omega
    have e1 : l.toArray[i]! = l[i] := by simp [hi']
    have e2 : l.toArray[j]! = l[j] := by simp [hj']
    rw [e1, e2]
    rcases Nat.lt_or_eq_of_le hij with h1 | h1
    · exact List.pairwise_iff_getElem.1 h i j hi' hj' h1
    · subst h1; exact List.le_refl _) l.length (by simp)
  refine ⟨key.1, fun x => ?_⟩
  unfold Lib.compact
  rw [key.2]
  constructor
  · rintro ⟨j, hj, e⟩
    have : l.toArray[j]! = l[j] := by simp [hj]
    rw [this] at e
    rw [← e]
    exact List.getElem_mem _
  · intro hx
    obtain ⟨j, hj, e⟩ := List.getElem_of_mem hx
    exact ⟨j, hj, by rw [← e]; simp [hj]⟩
theorem sorted_sort (l : List Bytes) : (l.mergeSort fun x y => decide (x ≤ y)).Pairwise fun a b => a ≤ b := by
  have := List.pairwise_mergeSort (le := fun x y : Bytes => decide (x ≤ y)) (fun a b c h1 h2 => by simp at *; exact List.le_trans h1 h2) (fun a b => by simp; exact List.le_total a b) l
  exact this.imp fun h => by simpa using h
/-- Sorted and compacted: the same row as put one by one. -/
theorem compact_put (l : List Bytes) : Lib.compact (l.mergeSort fun x y => decide (x ≤ y)) = l.foldl put [] := by
  obtain ⟨h1, h2⟩ := compact_rising (sorted_sort l)
  obtain ⟨h3, h4⟩ := foldPut_rising l (l := []) List.Pairwise.nil
  exact rising_ext h1 h3 fun x => by rw [h2, h4, List.mem_mergeSort]; simp
end Vd
end Go.Proofs.Ytdflhdfapnhjjaa
namespace Go.Proofs.Ytdflhdfapnhjjaa
open Go.RowKit
open Vd (RSet Vdt Vote Rec Quest Piece Ballot Said)
theorem endsPut_all (q : Quest) : ∀ (l : List Vote) (d : List Vd.Bytes), Vd.endsPut q l d = (endsAll q l).foldl Vd.put d
  | [], d => rfl
  | x :: l, d => by
    have ih := endsPut_all q l
    have h1 : Vd.endsPut q (x :: l) d = Vd.endsPut q l (if (Vd.endV q x.vd).2 then (Vd.endV q x.vd).1.data.foldl Vd.put d else d) := rfl
    have h2 : endsAll q (x :: l) = endData q x ++ endsAll q l := by simp [endsAll]
    rw [h1, h2, ih, List.foldl_append]
    unfold endData
    split <;> rfl
theorem ends_some (q : Quest) (l : List Vote) (h : ∀ x ∈ l, (Vd.endV q x.vd).2 = true → (Vd.endV q x.vd).1.data ≠ []) : Vd.endsPut q l [] = [] ↔ someEnd q l = false := by
  rw [endsPut_all]
  have hm := (Vd.foldPut_rising (endsAll q l) (l := []) List.Pairwise.nil).2
  constructor
  · intro he
    cases hs : someEnd q l with
    | false => rfl
    | true =>
      obtain ⟨x, hx, hx2⟩ := List.any_eq_true.1 hs
      obtain ⟨d, hd⟩ := List.exists_mem_of_ne_nil _ (h x hx hx2)
      have : d ∈ (endsAll q l).foldl Vd.put [] := (hm d).2 (Or.inr (List.mem_flatMap.2 ⟨x, hx, by unfold endData; rw [if_pos hx2]; exact hd⟩))
      rw [he] at this
      simp at this
  · intro hs
    have h0 : endsAll q l = [] := by
      refine List.flatMap_eq_nil_iff.2 fun x hx => ?_
      unfold endData
      rw [if_neg]
      intro hx2
      have : someEnd q l = true := List.any_eq_true.2 ⟨x, hx, hx2⟩
      rw [hs] at this
      cases this
    rw [h0]
    rfl
theorem union_same (q : Quest) (l : List Vote) (h : ∀ x ∈ l, (Vd.endV q x.vd).2 = true → (Vd.endV q x.vd).1.data ≠ []) : unionP q l = Vd.union q l := by
  cases l with
  | nil => rfl
  | cons w r =>
    have he := ends_some q (w :: r) h
    unfold unionP Vd.union
    dsimp only
    split
    · rfl
    · rw [Vd.compact_put, ← endsPut_all]
      by_cases h0 : Vd.endsPut q (w :: r) [] = []
      · rw [he.1 h0, Bool.and_false, if_neg (by simp), if_pos (by simp [h0])]
        rfl
      · have hs : someEnd q (w :: r) = true := by
          cases hs : someEnd q (w :: r) with
          | true => rfl
          | false => exact absurd (he.2 hs) h0
        rw [hs, Bool.and_true]
        cases ha : Vd.alikeV (w :: r) w.vd with
        | true => rw [if_neg (by simp), if_pos (by simp)]; rfl
        | false => rw [if_pos (by simp), if_neg (by simp [h0])]
end Go.Proofs.Ytdflhdfapnhjjaa
namespace Go.Proofs.Ytdflhdfapnhjjaa
open Go.RowKit
open Vd (RSet Vdt Vote Rec Quest Piece Ballot Said)
/-- What all sets of a verdict are. -/
def AllS (p : RSet → Prop) (v : Vdt) : Prop := (∀ s ∈ v.sets, p s) ∧ ∀ s ∈ v.soa, p s
theorem ofM_sets (q : Quest) (m : Vd.Msg) (p : RSet → Prop) (hp : ∀ s, p s → p (Vd.bare s)) (h1 : ∀ s ∈ Vd.group m.answers, p s) (h2 : ∀ s ∈ Vd.group m.auth, p s) : AllS p (Vd.ofM q m).1 := by
  have hnone : AllS p Vdt.none := ⟨by simp [Vdt.none], by simp [Vdt.none]⟩
  obtain ⟨f1, f2, _, _, _⟩ := follow_in q (Vd.group m.answers)
  unfold Vd.ofM
  split
  · exact hnone
  · revert f1 f2
    generalize Vd.follow q (Vd.group m.answers) = t
    obtain ⟨l, pos, last, e⟩ := t
    intro f1 f2
    dsimp only at f1 f2 ⊢
    have hall : ∀ s ∈ (l ++ last).map Vd.bare, p s := fun s hs => by
      obtain ⟨t, ht, rfl⟩ := List.mem_map.1 hs
      rcases List.mem_append.1 ht with ht | ht
      · exact hp t (h1 t (f1 t ht))
      · exact hp t (h1 t (f2 t ht))
    split
    · exact hnone
    split
    · exact hnone
    split
    · exact ⟨hall, by simp⟩
    have hf := findSoa_in (l := Vd.group m.auth) (n := pos) (c := q.cls)
    revert hf
    generalize Vd.findSoa (Vd.group m.auth) pos q.cls = r
    obtain ⟨s, is, e2⟩ := r
    intro hf
    dsimp only at hf ⊢
    split
    · exact hnone
    split
    · exact ⟨hall, by simp⟩
    · rename_i hi
      refine ⟨hall, fun t ht => ?_⟩
      rw [List.mem_singleton.1 ht]
      exact hp s (h2 s (hf (by simpa using hi)))
theorem ofM_len (q : Quest) (m : Vd.Msg) : (Vd.ofM q m).1.sets.length ≤ 10 ∧ (Vd.ofM q m).1.soa.length ≤ 1 := by
  obtain ⟨_, _, f3, f4, _⟩ := follow_in q (Vd.group m.answers)
  unfold Vd.ofM
  split
  · simp [Vdt.none]
  · revert f3 f4
    generalize Vd.follow q (Vd.group m.answers) = t
    obtain ⟨l, pos, last, e⟩ := t
    intro f3 f4
    dsimp only at f3 f4 ⊢
    split
    · simp [Vdt.none]
    split
    · simp [Vdt.none]
    split
    · simp; omega
    split
    · simp [Vdt.none]
    split
    · simp; omega
    · simp; omega
end Go.Proofs.Ytdflhdfapnhjjaa
namespace Go.Proofs.Ytdflhdfapnhjjaa
open Go.RowKit
open Vd (RSet Vdt Vote Rec Quest Piece Ballot Said)
set_option linter.unusedVariables false
set_option linter.unusedSimpArgs false
--auto
variable {G : World} {L : Blocks}
/-- What a statement goes over. -/
def MsgSmall (m : Vd.Msg) : Prop := (m.answers.length ≤ 420 ∧ ∀ x ∈ m.answers, x.name.length ≤ 5000 ∧ x.data.length ≤ 5000) ∧ (m.auth.length ≤ 420 ∧ ∀ x ∈ m.auth, x.name.length ≤ 5000 ∧ x.data.length ≤ 5000)
set_option maxRecDepth 100000 in
set_option maxHeartbeats 4000000 in
theorem long23_S (v : Value) (l : List Said) (hl : sliceR 23 saidR L [v] l) : Spec Try.prog G 19 #[v] L fun u M => ∃ b, u = .bool b ∧ M = L ∧ (b = false → l.length ≤ 60 ∧ ∀ s ∈ l, MsgSmall s.m) := by
  obtain ⟨al, cl, e1, hl⟩ := hl.val
  simp only [List.cons.injEq, and_true] at e1
  subst e1
  obtain ⟨_, ka1, ka2, hl⟩ := sliceR.cut hl
  unfold maxLen at ka2
  refine Spec_of (n := 112) Try.func19 rfl rfl rfl ?_
  repeat (first | with_reducible refine T_seq ?_ | with_reducible refine T_block ?_ | with_reducible refine T_region ?_ | with_reducible refine TL_nil ?_ | with_reducible refine TQ_then ?_ | refine TL_q (op_assign rfl) rfl ?_)
  refine T_loopS (σ := Nat × Int) (fun y => y.1 ≤ l.length ∧ (0 ≤ y.2 ∧ y.2 ≤ 20000) ∧ (y.2 < 5000 → ∀ s ∈ l.take y.1, MsgSmall s.m)) (fun y => [(0, .slice al l.length cl), (3, .int .i64 y.2), (4, .int .i64 (y.1 : Nat))]) (fun y => L) (fun y => l.length - y.1) (0, 0) ⟨Nat.zero_le _, by simp, by simp⟩ ?_ (fun w h => h) ?_
  (repeat (first | exact trivial | refine ⟨rfl, ?_⟩))
  rintro ⟨i, n⟩ ⟨hi, ⟨hn0, hn00⟩, hall⟩
  dsimp only at hi hn0 hn00 hall ⊢
  by_cases hgo : i < l.length ∧ n < 5000
  · obtain ⟨hil, hn5⟩ := hgo
    obtain ⟨s, hs⟩ : ∃ s, l[i]? = some s := ⟨_, List.getElem?_eq_getElem hil⟩
    rcases hl with rfl | ⟨b1, o1, C1, t1, f1, rfl, m1, q1⟩
    · simp at hil
    obtain ⟨cx, _, ⟨cm, rfl, hsm, ht1, hu1⟩, hcx⟩ := q1 i s hs
    obtain ⟨h0, h1, h2, h3, h4, h5, h6, h7, h8, h9, qs, va, vb, xx, kk, e0, e1, e2, e3, e4, rfl, hma, hmb, hcode, _⟩ := hsm
    obtain ⟨aA, cA, ea, hma⟩ := hma.val
    obtain ⟨aB, cB, eb, hmb⟩ := hmb.val
    simp only [List.cons.injEq, and_true] at ea eb
    subst ea eb
    have hAc := (sliceR.cut hma).2
    have hBc := (sliceR.cut hmb).2
    unfold maxLen at hAc hBc
    obtain ⟨hAc1, hAc2, _⟩ := hAc
    obtain ⟨hBc1, hBc2, _⟩ := hBc
    have hn5o := hn5
    clear hn5
    have hn5 := hn5o
    repeat (first | with_reducible refine T_seq ?_ | with_reducible refine T_block ?_ | with_reducible refine T_region ?_ | with_reducible refine TL_nil ?_ | with_reducible refine TQ_then ?_ | with_reducible refine T_skip ?_ | refine TL_q (op_move rfl) rfl ?_ | refine TL_q (op_assign rfl) rfl ?_ | (refine' TL_q (op_bin rfl rfl ?_) rfl ?_; rotate_left 1; (· first | exact bin_add ⟨by omega, by omega⟩ | exact bin_lss)) | (refine' TL_q (op_pickT rfl ?_ rfl) rfl ?_; (· (exact dT (by (omega))))) | refine TL_q (op_len_slice rfl Try.underlying48) rfl ?_ | (refine TL_gpre rfl rfl ?_ ?_; (· (exact dT (by (omega))))) | refine TL_gq2 (op_move rfl) rfl ?_ | (refine' TL_gq2 (op_bin rfl rfl ?_) rfl ?_; rotate_left 1; (· (exact bin_lss))) | (refine T_yes rfl ?_ ?_; (· (exact dT (by (assumption))))))
    refine T_loopS (σ := Nat × Int) (fun y => y.1 ≤ s.m.answers.length ∧ ((n + 40) ≤ y.2 ∧ y.2 ≤ 20000) ∧ 12 * y.1 ≤ y.2 ∧ (y.2 < 5000 → ∀ x ∈ s.m.answers.take y.1, x.name.length ≤ 5000 ∧ x.data.length ≤ 5000)) (fun y => [(0, .slice (some ⟨b1, o1, none⟩) l.length cl), (3, .int .i64 y.2), (4, .int .i64 (i : Nat)), (5, .int .i64 (y.1 : Nat))]) (fun y => L) (fun y => s.m.answers.length - y.1) (0, (n + 40)) ⟨Nat.zero_le _, by dsimp only; omega, by dsimp only; omega, by simp⟩ ?_ (fun w h => h) ?_
    (repeat (first | exact trivial | refine ⟨rfl, ?_⟩))
    rintro ⟨k, n2⟩ ⟨hk, ⟨hn1, hn2⟩, hn3, hfit⟩
    dsimp only at hk hn1 hn2 hn3 hfit ⊢
    by_cases hgo : k < s.m.answers.length ∧ n2 < 5000
    · obtain ⟨hkl, hn5⟩ := hgo
      obtain ⟨x, hx⟩ : ∃ x, s.m.answers[k]? = some x := ⟨_, List.getElem?_eq_getElem hkl⟩
      obtain ⟨b2, o2, C2, t2, f2, ha, m2, cs, _, ⟨rfl, hxn, hxd, _⟩, hcs⟩ := sliceR.at hma hx
      unfold maxLen at hxn hxd
      have e0' : C2[o2 + k * 5 + 0]? = some (.string (bs x.name)) := hcs 0 _ rfl
      have e4' : C2[o2 + k * 5 + 4]? = some (.string (bs x.data)) := hcs 4 _ rfl
      have hA : C1[o1 + i * 23 + 1 + 12]? = some (.slice (some ⟨b2, o2, none⟩) s.m.answers.length cA) := by rw [← ha, Nat.add_assoc]; exact hcx (1 + 12) _ rfl
      have hKm : ∀ z ∈ [(b1, Obj.cells C1 t1 f1), (b2, Obj.cells C2 t2 f2)], z ∈ L := by
        intro z hz
        simp only [List.mem_cons, List.not_mem_nil, or_false] at hz
        rcases hz with rfl | rfl <;> assumption
      repeat (first | with_reducible refine T_seq ?_ | with_reducible refine T_block ?_ | with_reducible refine T_region ?_ | with_reducible refine TL_nil ?_ | with_reducible refine TQ_then ?_ | with_reducible refine T_skip ?_ | refine TL_q (op_move rfl) rfl ?_ | (refine' TL_q (op_bin rfl rfl ?_) rfl ?_; rotate_left 1; (· (exact bin_lss))) | (refine' TL_q (op_pickT rfl ?_ rfl) rfl ?_; (· (exact dT (by (omega))))) | refine TL_q (op_len_slice rfl Try.underlying27) rfl ?_ | (refine' TL_q (op_idx ety_48 rfl rfl ?_) rfl ?_; (· omega)) | refine TL_q (op_fld rfl fld_32_2) rfl ?_ | refine TL_q (op_fld rfl fld_115_1) rfl ?_ | (refine' TL_q (op_ld rfl pl_9 ?_ ?_) rfl ?_; rotate_left 4; (· repeat ((assumption))); (· (assumption))) | (refine TL_gpre rfl rfl ?_ ?_; (· (exact dT (by (omega))))) | refine TL_gq2 (op_move rfl) rfl ?_ | (refine' TL_gq2 (op_bin rfl rfl ?_) rfl ?_; rotate_left 1; (· (exact bin_lss))) | (refine T_yes rfl ?_ ?_; (· (exact dT (by (assumption))))))
      refine T_draw follows_mixed ([(b1, Obj.cells C1 t1 f1), (b2, Obj.cells C2 t2 f2)]) [] ?_
      (refine' TA_take 0 rfl rfl (by kernel_rfl) (quiet_q (op_move rfl)) ?_ ?_; (· (assumption)))
      (refine' TA_take 1 rfl rfl (by kernel_rfl) (quiet_q (op_bin rfl rfl ?_)) ?_ ?_; rotate_left 1; (· (exact bin_add ⟨by omega, by omega⟩)); (· (assumption)))
      (refine' TA_take 2 rfl rfl (by kernel_rfl) (quiet_q (op_move rfl)) ?_ ?_; (· (assumption)))
      (refine' TA_take 3 rfl rfl (by kernel_rfl) (quiet_q (op_move rfl)) ?_ ?_; (· (assumption)))
      (refine' TA_take 4 rfl rfl (by kernel_rfl) (quiet_q (op_idx ety_48 rfl rfl ?_)) ?_ ?_; (· omega); (· (assumption)))
      (refine' TA_take 5 rfl rfl (by kernel_rfl) (quiet_q (op_fld rfl fld_115_1)) ?_ ?_; (· (assumption)))
      (refine' TA_take 6 rfl rfl (by kernel_rfl) (quiet_q (op_fld rfl fld_32_2)) ?_ ?_; (· (assumption)))
      (refine' TA_take 7 rfl rfl (by kernel_rfl) (quiet_q (op_ld rfl pl_27 ?_ ?_)) ?_ ?_; rotate_left 4; (· repeat ((exact List.mem_cons_self))); (· (assumption)); (· (assumption)))
      (refine' TA_take 8 rfl rfl (by kernel_rfl) (quiet_q (op_move rfl)) ?_ ?_; (· (assumption)))
      (refine' TA_take 9 rfl rfl (by kernel_rfl) (quiet_q (op_idx ety_27 rfl rfl ?_)) ?_ ?_; (· omega); (· (assumption)))
      (refine' TA_take 10 rfl rfl (by kernel_rfl) (quiet_q (op_fld rfl fld_112_0)) ?_ ?_; (· (assumption)))
      (refine' TA_take 11 rfl rfl (by kernel_rfl) (quiet_q (op_ld rfl pl_9 ?_ ?_)) ?_ ?_; rotate_left 4; (· repeat (first | exact List.mem_cons_self | apply List.mem_cons_of_mem)); (· (assumption)); (· (assumption)))
      (refine' TA_take 12 rfl rfl (by kernel_rfl) (quiet_q (op_len_str rfl Try.underlying9)) ?_ ?_; (· (assumption)))
      (refine' TA_take 13 rfl rfl (by kernel_rfl) (quiet_q (op_min rfl rfl)) ?_ ?_; (· (assumption)))
      (refine' TA_take 14 rfl rfl (by kernel_rfl) (quiet_q (op_bin rfl rfl ?_)) ?_ ?_; rotate_left 1; (· (exact bin_add ⟨by omega, by omega⟩)); (· (assumption)))
      (refine' TA_take 15 rfl rfl (by kernel_rfl) (quiet_q (op_move rfl)) ?_ ?_; (· (assumption)))
      (refine' TA_take 16 rfl rfl (by kernel_rfl) (quiet_q (op_move rfl)) ?_ ?_; (· (assumption)))
      (refine' TA_take 17 rfl rfl (by kernel_rfl) (quiet_q (op_idx ety_48 rfl rfl ?_)) ?_ ?_; (· omega); (· (assumption)))
      (refine' TA_take 18 rfl rfl (by kernel_rfl) (quiet_q (op_fld rfl fld_115_1)) ?_ ?_; (· (assumption)))
      (refine' TA_take 19 rfl rfl (by kernel_rfl) (quiet_q (op_fld rfl fld_32_2)) ?_ ?_; (· (assumption)))
      (refine' TA_take 20 rfl rfl (by kernel_rfl) (quiet_q (op_ld rfl pl_27 ?_ ?_)) ?_ ?_; rotate_left 4; (· repeat ((exact List.mem_cons_self))); (· (assumption)); (· (assumption)))
      (refine' TA_take 21 rfl rfl (by kernel_rfl) (quiet_q (op_move rfl)) ?_ ?_; (· (assumption)))
      (refine' TA_take 22 rfl rfl (by kernel_rfl) (quiet_q (op_idx ety_27 rfl rfl ?_)) ?_ ?_; (· omega); (· (assumption)))
      (refine' TA_take 23 rfl rfl (by kernel_rfl) (quiet_q (op_fld rfl fld_112_4)) ?_ ?_; (· (assumption)))
      (refine' TA_take 24 rfl rfl (by kernel_rfl) (quiet_q (op_ld rfl pl_9 ?_ ?_)) ?_ ?_; rotate_left 4; (· repeat (first | exact List.mem_cons_self | apply List.mem_cons_of_mem)); (· (assumption)); (· (assumption)))
      (refine' TA_take 25 rfl rfl (by kernel_rfl) (quiet_q (op_len_str rfl Try.underlying9)) ?_ ?_; (· (assumption)))
      (refine' TA_take 26 rfl rfl (by kernel_rfl) (quiet_q (op_min rfl rfl)) ?_ ?_; (· (assumption)))
      (refine' TA_take 27 rfl rfl (by kernel_rfl) (quiet_q (op_bin rfl rfl ?_)) ?_ ?_; rotate_left 1; (· (exact bin_add ⟨by omega, by omega⟩)); (· (assumption)))
      (refine' TA_take 28 rfl rfl (by kernel_rfl) (quiet_q (op_assign rfl)) ?_ ?_; (· (assumption)))
      refine TA_done (by kernel_rfl) ?_
      repeat (first | with_reducible refine T_region ?_ | with_reducible refine TL_nil ?_ | with_reducible refine TQ_then ?_ | with_reducible refine TQ_block ?_ | refine TL_q (op_move rfl) rfl ?_ | refine TL_q (op_assign rfl) rfl ?_ | (refine' TL_q (op_bin rfl rfl ?_) rfl ?_; rotate_left 1; (· (exact bin_add ⟨by omega, by omega⟩))))
      refine TQ_roundS (k + 1, n2 + 12 + min 5000 (x.name.length : Int) + min 5000 (x.data.length : Int)) ⟨hkl, by dsimp only; omega, by dsimp only; omega, fun h y hy => ?_⟩ ?_ (fun w h => h) (by dsimp only; omega)
      · dsimp only at h
        rw [List.take_add_one, hx] at hy
        rcases List.mem_append.1 hy with hy | hy
        · exact hfit hn5 y hy
        · have : y = x := by simpa using hy
          subst this
          omega
      (repeat (first | exact trivial | refine ⟨rfl, ?_⟩))
    · have hfin : n2 < 5000 → s.m.answers.length ≤ 420 ∧ ∀ x ∈ s.m.answers, x.name.length ≤ 5000 ∧ x.data.length ≤ 5000 := fun h => by
        have hke : k = s.m.answers.length := by omega
        have := hfit h
        rw [hke, List.take_length] at this
        exact ⟨by omega, this⟩
      have hA : C1[o1 + i * 23 + 1 + 12]? = some (.slice aA s.m.answers.length cA) := by rw [Nat.add_assoc]; exact hcx (1 + 12) _ rfl
      by_cases hkl : k < s.m.answers.length
      · have hn5 : ¬ n2 < 5000 := fun h => hgo ⟨hkl, h⟩
        repeat (first | with_reducible refine T_seq ?_ | with_reducible refine T_block ?_ | with_reducible refine T_region ?_ | with_reducible refine TL_nil ?_ | with_reducible refine TQ_then ?_ | with_reducible refine T_exit ?_ | with_reducible refine TQ_then_exit ?_ | with_reducible refine TQ_block_exit ?_ | refine TL_q (op_move rfl) rfl ?_ | refine TL_q (op_assign rfl) rfl ?_ | (refine' TL_q (op_bin rfl rfl ?_) rfl ?_; rotate_left 1; (· (exact bin_lss))) | (refine' TL_q (op_pickT rfl ?_ rfl) rfl ?_; (· (exact dT (by (omega))))) | refine TL_q (op_len_slice rfl Try.underlying27) rfl ?_ | (refine' TL_q (op_idx ety_48 rfl rfl ?_) rfl ?_; (· omega)) | refine TL_q (op_fld rfl fld_32_2) rfl ?_ | refine TL_q (op_fld rfl fld_115_1) rfl ?_ | (refine' TL_q (op_ld rfl pl_9 ?_ ?_) rfl ?_; rotate_left 4; (· repeat ((assumption))); (· (assumption))) | (refine TL_gpre rfl rfl ?_ ?_; (· (exact dT (by (omega))))) | refine TL_gq2 (op_move rfl) rfl ?_ | (refine' TL_gq2 (op_bin rfl rfl ?_) rfl ?_; rotate_left 1; (· (exact bin_lss))) | (refine T_no rfl ?_ ?_; (· (exact dF (by (assumption))))))
        obtain ⟨nA, hnA⟩ : ∃ m, n2 = m := ⟨_, rfl⟩
        have hfinA : nA < 5000 → _ := hnA ▸ hfin
        rw [hnA] at hn1 hn2 ⊢
        clear hfin hfit hn3 hgo hA hk hkl
        skip
        refine T_loopS (σ := Nat × Int) (fun y => y.1 ≤ s.m.auth.length ∧ (nA ≤ y.2 ∧ y.2 ≤ 20000) ∧ 12 * y.1 ≤ y.2 ∧ (y.2 < 5000 → ∀ x ∈ s.m.auth.take y.1, x.name.length ≤ 5000 ∧ x.data.length ≤ 5000)) (fun y => [(0, .slice (some ⟨b1, o1, none⟩) l.length cl), (3, .int .i64 y.2), (4, .int .i64 (i : Nat)), (6, .int .i64 (y.1 : Nat))]) (fun y => L) (fun y => s.m.auth.length - y.1) (0, nA) ⟨Nat.zero_le _, by dsimp only; omega, by dsimp only; omega, by simp⟩ ?_ (fun w h => h) ?_
        (repeat (first | exact trivial | refine ⟨rfl, ?_⟩))
        rintro ⟨k, n2⟩ ⟨hk, ⟨hn1, hn2⟩, hn3, hfit⟩
        dsimp only at hk hn1 hn2 hn3 hfit ⊢
        by_cases hgo : k < s.m.auth.length ∧ n2 < 5000
        · obtain ⟨hkl, hn5⟩ := hgo
          obtain ⟨x, hx⟩ : ∃ x, s.m.auth[k]? = some x := ⟨_, List.getElem?_eq_getElem hkl⟩
          obtain ⟨b2, o2, C2, t2, f2, ha, m2, cs, _, ⟨rfl, hxn, hxd, _⟩, hcs⟩ := sliceR.at hmb hx
          unfold maxLen at hxn hxd
          have e0' : C2[o2 + k * 5 + 0]? = some (.string (bs x.name)) := hcs 0 _ rfl
          have e4' : C2[o2 + k * 5 + 4]? = some (.string (bs x.data)) := hcs 4 _ rfl
          have hA : C1[o1 + i * 23 + 1 + 13]? = some (.slice (some ⟨b2, o2, none⟩) s.m.auth.length cB) := by rw [← ha, Nat.add_assoc]; exact hcx (1 + 13) _ rfl
          have hKm : ∀ z ∈ [(b1, Obj.cells C1 t1 f1), (b2, Obj.cells C2 t2 f2)], z ∈ L := by
            intro z hz
            simp only [List.mem_cons, List.not_mem_nil, or_false] at hz
            rcases hz with rfl | rfl <;> assumption
          repeat (first | with_reducible refine T_seq ?_ | with_reducible refine T_block ?_ | with_reducible refine T_region ?_ | with_reducible refine TL_nil ?_ | with_reducible refine TQ_then ?_ | with_reducible refine T_skip ?_ | refine TL_q (op_move rfl) rfl ?_ | (refine' TL_q (op_bin rfl rfl ?_) rfl ?_; rotate_left 1; (· (exact bin_lss))) | (refine' TL_q (op_pickT rfl ?_ rfl) rfl ?_; (· (exact dT (by (omega))))) | refine TL_q (op_len_slice rfl Try.underlying27) rfl ?_ | (refine' TL_q (op_idx ety_48 rfl rfl ?_) rfl ?_; (· omega)) | refine TL_q (op_fld rfl fld_32_3) rfl ?_ | refine TL_q (op_fld rfl fld_115_1) rfl ?_ | (refine' TL_q (op_ld rfl pl_9 ?_ ?_) rfl ?_; rotate_left 4; (· repeat ((assumption))); (· (assumption))) | (refine TL_gpre rfl rfl ?_ ?_; (· (exact dT (by (omega))))) | refine TL_gq2 (op_move rfl) rfl ?_ | (refine' TL_gq2 (op_bin rfl rfl ?_) rfl ?_; rotate_left 1; (· (exact bin_lss))) | (refine T_yes rfl ?_ ?_; (· (exact dT (by (assumption))))))
          refine T_draw follows_mixed ([(b1, Obj.cells C1 t1 f1), (b2, Obj.cells C2 t2 f2)]) [] ?_
          (refine' TA_take 0 rfl rfl (by kernel_rfl) (quiet_q (op_move rfl)) ?_ ?_; (· (assumption)))
          (refine' TA_take 1 rfl rfl (by kernel_rfl) (quiet_q (op_bin rfl rfl ?_)) ?_ ?_; rotate_left 1; (· (exact bin_add ⟨by omega, by omega⟩)); (· (assumption)))
          (refine' TA_take 2 rfl rfl (by kernel_rfl) (quiet_q (op_move rfl)) ?_ ?_; (· (assumption)))
          (refine' TA_take 3 rfl rfl (by kernel_rfl) (quiet_q (op_move rfl)) ?_ ?_; (· (assumption)))
          (refine' TA_take 4 rfl rfl (by kernel_rfl) (quiet_q (op_idx ety_48 rfl rfl ?_)) ?_ ?_; (· omega); (· (assumption)))
          (refine' TA_take 5 rfl rfl (by kernel_rfl) (quiet_q (op_fld rfl fld_115_1)) ?_ ?_; (· (assumption)))
          (refine' TA_take 6 rfl rfl (by kernel_rfl) (quiet_q (op_fld rfl fld_32_3)) ?_ ?_; (· (assumption)))
          (refine' TA_take 7 rfl rfl (by kernel_rfl) (quiet_q (op_ld rfl pl_27 ?_ ?_)) ?_ ?_; rotate_left 4; (· repeat ((exact List.mem_cons_self))); (· (assumption)); (· (assumption)))
          (refine' TA_take 8 rfl rfl (by kernel_rfl) (quiet_q (op_move rfl)) ?_ ?_; (· (assumption)))
          (refine' TA_take 9 rfl rfl (by kernel_rfl) (quiet_q (op_idx ety_27 rfl rfl ?_)) ?_ ?_; (· omega); (· (assumption)))
          (refine' TA_take 10 rfl rfl (by kernel_rfl) (quiet_q (op_fld rfl fld_112_0)) ?_ ?_; (· (assumption)))
          (refine' TA_take 11 rfl rfl (by kernel_rfl) (quiet_q (op_ld rfl pl_9 ?_ ?_)) ?_ ?_; rotate_left 4; (· repeat (first | exact List.mem_cons_self | apply List.mem_cons_of_mem)); (· (assumption)); (· (assumption)))
          (refine' TA_take 12 rfl rfl (by kernel_rfl) (quiet_q (op_len_str rfl Try.underlying9)) ?_ ?_; (· (assumption)))
          (refine' TA_take 13 rfl rfl (by kernel_rfl) (quiet_q (op_min rfl rfl)) ?_ ?_; (· (assumption)))
          (refine' TA_take 14 rfl rfl (by kernel_rfl) (quiet_q (op_bin rfl rfl ?_)) ?_ ?_; rotate_left 1; (· (exact bin_add ⟨by omega, by omega⟩)); (· (assumption)))
          (refine' TA_take 15 rfl rfl (by kernel_rfl) (quiet_q (op_move rfl)) ?_ ?_; (· (assumption)))
          (refine' TA_take 16 rfl rfl (by kernel_rfl) (quiet_q (op_move rfl)) ?_ ?_; (· (assumption)))
          (refine' TA_take 17 rfl rfl (by kernel_rfl) (quiet_q (op_idx ety_48 rfl rfl ?_)) ?_ ?_; (· omega); (· (assumption)))
          (refine' TA_take 18 rfl rfl (by kernel_rfl) (quiet_q (op_fld rfl fld_115_1)) ?_ ?_; (· (assumption)))
          (refine' TA_take 19 rfl rfl (by kernel_rfl) (quiet_q (op_fld rfl fld_32_3)) ?_ ?_; (· (assumption)))
          (refine' TA_take 20 rfl rfl (by kernel_rfl) (quiet_q (op_ld rfl pl_27 ?_ ?_)) ?_ ?_; rotate_left 4; (· repeat ((exact List.mem_cons_self))); (· (assumption)); (· (assumption)))
          (refine' TA_take 21 rfl rfl (by kernel_rfl) (quiet_q (op_move rfl)) ?_ ?_; (· (assumption)))
          (refine' TA_take 22 rfl rfl (by kernel_rfl) (quiet_q (op_idx ety_27 rfl rfl ?_)) ?_ ?_; (· omega); (· (assumption)))
          (refine' TA_take 23 rfl rfl (by kernel_rfl) (quiet_q (op_fld rfl fld_112_4)) ?_ ?_; (· (assumption)))
          (refine' TA_take 24 rfl rfl (by kernel_rfl) (quiet_q (op_ld rfl pl_9 ?_ ?_)) ?_ ?_; rotate_left 4; (· repeat (first | exact List.mem_cons_self | apply List.mem_cons_of_mem)); (· (assumption)); (· (assumption)))
          (refine' TA_take 25 rfl rfl (by kernel_rfl) (quiet_q (op_len_str rfl Try.underlying9)) ?_ ?_; (· (assumption)))
          (refine' TA_take 26 rfl rfl (by kernel_rfl) (quiet_q (op_min rfl rfl)) ?_ ?_; (· (assumption)))
          (refine' TA_take 27 rfl rfl (by kernel_rfl) (quiet_q (op_bin rfl rfl ?_)) ?_ ?_; rotate_left 1; (· (exact bin_add ⟨by omega, by omega⟩)); (· (assumption)))
          (refine' TA_take 28 rfl rfl (by kernel_rfl) (quiet_q (op_assign rfl)) ?_ ?_; (· (assumption)))
          refine TA_done (by kernel_rfl) ?_
          repeat (first | with_reducible refine T_region ?_ | with_reducible refine TL_nil ?_ | with_reducible refine TQ_then ?_ | with_reducible refine TQ_block ?_ | refine TL_q (op_move rfl) rfl ?_ | refine TL_q (op_assign rfl) rfl ?_ | (refine' TL_q (op_bin rfl rfl ?_) rfl ?_; rotate_left 1; (· (exact bin_add ⟨by omega, by omega⟩))))
          refine TQ_roundS (k + 1, n2 + 12 + min 5000 (x.name.length : Int) + min 5000 (x.data.length : Int)) ⟨hkl, by dsimp only; omega, by dsimp only; omega, fun h y hy => ?_⟩ ?_ (fun w h => h) (by dsimp only; omega)
          · dsimp only at h
            rw [List.take_add_one, hx] at hy
            rcases List.mem_append.1 hy with hy | hy
            · exact hfit hn5 y hy
            · have : y = x := by simpa using hy
              subst this
              omega
          (repeat (first | exact trivial | refine ⟨rfl, ?_⟩))
        · have hfin : n2 < 5000 → s.m.auth.length ≤ 420 ∧ ∀ x ∈ s.m.auth, x.name.length ≤ 5000 ∧ x.data.length ≤ 5000 := fun h => by
            have hke : k = s.m.auth.length := by omega
            have := hfit h
            rw [hke, List.take_length] at this
            exact ⟨by omega, this⟩
          have hA : C1[o1 + i * 23 + 1 + 13]? = some (.slice aB s.m.auth.length cB) := by rw [Nat.add_assoc]; exact hcx (1 + 13) _ rfl
          by_cases hkl : k < s.m.auth.length
          · have hn5 : ¬ n2 < 5000 := fun h => hgo ⟨hkl, h⟩
            repeat (first | with_reducible refine T_seq ?_ | with_reducible refine T_region ?_ | with_reducible refine TL_nil ?_ | with_reducible refine TQ_then ?_ | with_reducible refine TQ_block ?_ | with_reducible refine T_exit ?_ | with_reducible refine TQ_then_exit ?_ | with_reducible refine TQ_block_exit ?_ | refine TL_q (op_move rfl) rfl ?_ | refine TL_q (op_assign rfl) rfl ?_ | (refine' TL_q (op_bin rfl rfl ?_) rfl ?_; rotate_left 1; (· first | exact bin_add ⟨by omega, by omega⟩ | exact bin_lss)) | (refine' TL_q (op_pickT rfl ?_ rfl) rfl ?_; (· (exact dT (by (omega))))) | refine TL_q (op_len_slice rfl Try.underlying27) rfl ?_ | (refine' TL_q (op_idx ety_48 rfl rfl ?_) rfl ?_; (· omega)) | refine TL_q (op_fld rfl fld_32_3) rfl ?_ | refine TL_q (op_fld rfl fld_115_1) rfl ?_ | (refine' TL_q (op_ld rfl pl_9 ?_ ?_) rfl ?_; rotate_left 4; (· repeat ((assumption))); (· (assumption))) | (refine TL_gpre rfl rfl ?_ ?_; (· (exact dT (by (omega))))) | refine TL_gq2 (op_move rfl) rfl ?_ | (refine' TL_gq2 (op_bin rfl rfl ?_) rfl ?_; rotate_left 1; (· (exact bin_lss))) | (refine T_no rfl ?_ ?_; (· (exact dF (by (assumption))))))
            refine TQ_roundS (i + 1, n2) ⟨hil, by dsimp only; omega, fun h y hy => ?_⟩ ?_ (fun w h => h) (by dsimp only; omega)
            · dsimp only at h
              rw [List.take_add_one, hs] at hy
              rcases List.mem_append.1 hy with hy | hy
              · exact hall hn5o y hy
              · have : y = s := by simpa using hy
                subst this
                exact ⟨hfinA (by omega), hfin h⟩
            (repeat (first | exact trivial | refine ⟨rfl, ?_⟩))
          · repeat (first | with_reducible refine T_seq ?_ | with_reducible refine T_region ?_ | with_reducible refine TL_nil ?_ | with_reducible refine TQ_then ?_ | with_reducible refine TQ_block ?_ | with_reducible refine T_exit ?_ | with_reducible refine TQ_then_exit ?_ | with_reducible refine TQ_block_exit ?_ | refine TL_q (op_move rfl) rfl ?_ | refine TL_q (op_assign rfl) rfl ?_ | (refine' TL_q (op_bin rfl rfl ?_) rfl ?_; rotate_left 1; (· first | exact bin_add ⟨by omega, by omega⟩ | exact bin_lss)) | (refine' TL_q (op_pickF rfl ?_ rfl) rfl ?_; (· (exact dF (by (omega))))) | refine TL_q (op_len_slice rfl Try.underlying27) rfl ?_ | (refine' TL_q (op_idx ety_48 rfl rfl ?_) rfl ?_; (· omega)) | refine TL_q (op_fld rfl fld_32_3) rfl ?_ | refine TL_q (op_fld rfl fld_115_1) rfl ?_ | (refine' TL_q (op_ld rfl pl_9 ?_ ?_) rfl ?_; rotate_left 4; (· repeat ((assumption))); (· (assumption))) | (refine TL_gno rfl rfl ?_ rfl ?_; (· (exact dF (by (omega))))) | (refine T_no rfl ?_ ?_; (· (with_reducible rfl))))
            refine TQ_roundS (i + 1, n2) ⟨hil, by dsimp only; omega, fun h y hy => ?_⟩ ?_ (fun w h => h) (by dsimp only; omega)
            · dsimp only at h
              rw [List.take_add_one, hs] at hy
              rcases List.mem_append.1 hy with hy | hy
              · exact hall hn5o y hy
              · have : y = s := by simpa using hy
                subst this
                exact ⟨hfinA (by omega), hfin h⟩
            (repeat (first | exact trivial | refine ⟨rfl, ?_⟩))

      · repeat (first | with_reducible refine T_seq ?_ | with_reducible refine T_block ?_ | with_reducible refine T_region ?_ | with_reducible refine TL_nil ?_ | with_reducible refine TQ_then ?_ | with_reducible refine T_exit ?_ | with_reducible refine TQ_then_exit ?_ | with_reducible refine TQ_block_exit ?_ | refine TL_q (op_move rfl) rfl ?_ | refine TL_q (op_assign rfl) rfl ?_ | (refine' TL_q (op_bin rfl rfl ?_) rfl ?_; rotate_left 1; (· (exact bin_lss))) | (refine' TL_q (op_pickF rfl ?_ rfl) rfl ?_; (· (exact dF (by (omega))))) | refine TL_q (op_len_slice rfl Try.underlying27) rfl ?_ | (refine' TL_q (op_idx ety_48 rfl rfl ?_) rfl ?_; (· omega)) | refine TL_q (op_fld rfl fld_32_2) rfl ?_ | refine TL_q (op_fld rfl fld_115_1) rfl ?_ | (refine' TL_q (op_ld rfl pl_9 ?_ ?_) rfl ?_; rotate_left 4; (· repeat ((assumption))); (· (assumption))) | (refine TL_gno rfl rfl ?_ rfl ?_; (· (exact dF (by (omega))))) | (refine T_no rfl ?_ ?_; (· (with_reducible rfl))))
        obtain ⟨nA, hnA⟩ : ∃ m, n2 = m := ⟨_, rfl⟩
        have hfinA : nA < 5000 → _ := hnA ▸ hfin
        rw [hnA] at hn1 hn2 ⊢
        clear hfin hfit hn3 hgo hA hk hkl
        skip
        refine T_loopS (σ := Nat × Int) (fun y => y.1 ≤ s.m.auth.length ∧ (nA ≤ y.2 ∧ y.2 ≤ 20000) ∧ 12 * y.1 ≤ y.2 ∧ (y.2 < 5000 → ∀ x ∈ s.m.auth.take y.1, x.name.length ≤ 5000 ∧ x.data.length ≤ 5000)) (fun y => [(0, .slice (some ⟨b1, o1, none⟩) l.length cl), (3, .int .i64 y.2), (4, .int .i64 (i : Nat)), (6, .int .i64 (y.1 : Nat))]) (fun y => L) (fun y => s.m.auth.length - y.1) (0, nA) ⟨Nat.zero_le _, by dsimp only; omega, by dsimp only; omega, by simp⟩ ?_ (fun w h => h) ?_
        (repeat (first | exact trivial | refine ⟨rfl, ?_⟩))
        rintro ⟨k, n2⟩ ⟨hk, ⟨hn1, hn2⟩, hn3, hfit⟩
        dsimp only at hk hn1 hn2 hn3 hfit ⊢
        by_cases hgo : k < s.m.auth.length ∧ n2 < 5000
        · obtain ⟨hkl, hn5⟩ := hgo
          obtain ⟨x, hx⟩ : ∃ x, s.m.auth[k]? = some x := ⟨_, List.getElem?_eq_getElem hkl⟩
          obtain ⟨b2, o2, C2, t2, f2, ha, m2, cs, _, ⟨rfl, hxn, hxd, _⟩, hcs⟩ := sliceR.at hmb hx
          unfold maxLen at hxn hxd
          have e0' : C2[o2 + k * 5 + 0]? = some (.string (bs x.name)) := hcs 0 _ rfl
          have e4' : C2[o2 + k * 5 + 4]? = some (.string (bs x.data)) := hcs 4 _ rfl
          have hA : C1[o1 + i * 23 + 1 + 13]? = some (.slice (some ⟨b2, o2, none⟩) s.m.auth.length cB) := by rw [← ha, Nat.add_assoc]; exact hcx (1 + 13) _ rfl
          have hKm : ∀ z ∈ [(b1, Obj.cells C1 t1 f1), (b2, Obj.cells C2 t2 f2)], z ∈ L := by
            intro z hz
            simp only [List.mem_cons, List.not_mem_nil, or_false] at hz
            rcases hz with rfl | rfl <;> assumption
          repeat (first | with_reducible refine T_seq ?_ | with_reducible refine T_block ?_ | with_reducible refine T_region ?_ | with_reducible refine TL_nil ?_ | with_reducible refine TQ_then ?_ | with_reducible refine T_skip ?_ | refine TL_q (op_move rfl) rfl ?_ | (refine' TL_q (op_bin rfl rfl ?_) rfl ?_; rotate_left 1; (· (exact bin_lss))) | (refine' TL_q (op_pickT rfl ?_ rfl) rfl ?_; (· (exact dT (by (omega))))) | refine TL_q (op_len_slice rfl Try.underlying27) rfl ?_ | (refine' TL_q (op_idx ety_48 rfl rfl ?_) rfl ?_; (· omega)) | refine TL_q (op_fld rfl fld_32_3) rfl ?_ | refine TL_q (op_fld rfl fld_115_1) rfl ?_ | (refine' TL_q (op_ld rfl pl_9 ?_ ?_) rfl ?_; rotate_left 4; (· repeat ((assumption))); (· (assumption))) | (refine TL_gpre rfl rfl ?_ ?_; (· (exact dT (by (omega))))) | refine TL_gq2 (op_move rfl) rfl ?_ | (refine' TL_gq2 (op_bin rfl rfl ?_) rfl ?_; rotate_left 1; (· (exact bin_lss))) | (refine T_yes rfl ?_ ?_; (· (exact dT (by (assumption))))))
          refine T_draw follows_mixed ([(b1, Obj.cells C1 t1 f1), (b2, Obj.cells C2 t2 f2)]) [] ?_
          (refine' TA_take 0 rfl rfl (by kernel_rfl) (quiet_q (op_move rfl)) ?_ ?_; (· (assumption)))
          (refine' TA_take 1 rfl rfl (by kernel_rfl) (quiet_q (op_bin rfl rfl ?_)) ?_ ?_; rotate_left 1; (· (exact bin_add ⟨by omega, by omega⟩)); (· (assumption)))
          (refine' TA_take 2 rfl rfl (by kernel_rfl) (quiet_q (op_move rfl)) ?_ ?_; (· (assumption)))
          (refine' TA_take 3 rfl rfl (by kernel_rfl) (quiet_q (op_move rfl)) ?_ ?_; (· (assumption)))
          (refine' TA_take 4 rfl rfl (by kernel_rfl) (quiet_q (op_idx ety_48 rfl rfl ?_)) ?_ ?_; (· omega); (· (assumption)))
          (refine' TA_take 5 rfl rfl (by kernel_rfl) (quiet_q (op_fld rfl fld_115_1)) ?_ ?_; (· (assumption)))
          (refine' TA_take 6 rfl rfl (by kernel_rfl) (quiet_q (op_fld rfl fld_32_3)) ?_ ?_; (· (assumption)))
          (refine' TA_take 7 rfl rfl (by kernel_rfl) (quiet_q (op_ld rfl pl_27 ?_ ?_)) ?_ ?_; rotate_left 4; (· repeat ((exact List.mem_cons_self))); (· (assumption)); (· (assumption)))
          (refine' TA_take 8 rfl rfl (by kernel_rfl) (quiet_q (op_move rfl)) ?_ ?_; (· (assumption)))
          (refine' TA_take 9 rfl rfl (by kernel_rfl) (quiet_q (op_idx ety_27 rfl rfl ?_)) ?_ ?_; (· omega); (· (assumption)))
          (refine' TA_take 10 rfl rfl (by kernel_rfl) (quiet_q (op_fld rfl fld_112_0)) ?_ ?_; (· (assumption)))
          (refine' TA_take 11 rfl rfl (by kernel_rfl) (quiet_q (op_ld rfl pl_9 ?_ ?_)) ?_ ?_; rotate_left 4; (· repeat (first | exact List.mem_cons_self | apply List.mem_cons_of_mem)); (· (assumption)); (· (assumption)))
          (refine' TA_take 12 rfl rfl (by kernel_rfl) (quiet_q (op_len_str rfl Try.underlying9)) ?_ ?_; (· (assumption)))
          (refine' TA_take 13 rfl rfl (by kernel_rfl) (quiet_q (op_min rfl rfl)) ?_ ?_; (· (assumption)))
          (refine' TA_take 14 rfl rfl (by kernel_rfl) (quiet_q (op_bin rfl rfl ?_)) ?_ ?_; rotate_left 1; (· (exact bin_add ⟨by omega, by omega⟩)); (· (assumption)))
          (refine' TA_take 15 rfl rfl (by kernel_rfl) (quiet_q (op_move rfl)) ?_ ?_; (· (assumption)))
          (refine' TA_take 16 rfl rfl (by kernel_rfl) (quiet_q (op_move rfl)) ?_ ?_; (· (assumption)))
          (refine' TA_take 17 rfl rfl (by kernel_rfl) (quiet_q (op_idx ety_48 rfl rfl ?_)) ?_ ?_; (· omega); (· (assumption)))
          (refine' TA_take 18 rfl rfl (by kernel_rfl) (quiet_q (op_fld rfl fld_115_1)) ?_ ?_; (· (assumption)))
          (refine' TA_take 19 rfl rfl (by kernel_rfl) (quiet_q (op_fld rfl fld_32_3)) ?_ ?_; (· (assumption)))
          (refine' TA_take 20 rfl rfl (by kernel_rfl) (quiet_q (op_ld rfl pl_27 ?_ ?_)) ?_ ?_; rotate_left 4; (· repeat ((exact List.mem_cons_self))); (· (assumption)); (· (assumption)))
          (refine' TA_take 21 rfl rfl (by kernel_rfl) (quiet_q (op_move rfl)) ?_ ?_; (· (assumption)))
          (refine' TA_take 22 rfl rfl (by kernel_rfl) (quiet_q (op_idx ety_27 rfl rfl ?_)) ?_ ?_; (· omega); (· (assumption)))
          (refine' TA_take 23 rfl rfl (by kernel_rfl) (quiet_q (op_fld rfl fld_112_4)) ?_ ?_; (· (assumption)))
          (refine' TA_take 24 rfl rfl (by kernel_rfl) (quiet_q (op_ld rfl pl_9 ?_ ?_)) ?_ ?_; rotate_left 4; (· repeat (first | exact List.mem_cons_self | apply List.mem_cons_of_mem)); (· (assumption)); (· (assumption)))
          (refine' TA_take 25 rfl rfl (by kernel_rfl) (quiet_q (op_len_str rfl Try.underlying9)) ?_ ?_; (· (assumption)))
          (refine' TA_take 26 rfl rfl (by kernel_rfl) (quiet_q (op_min rfl rfl)) ?_ ?_; (· (assumption)))
          (refine' TA_take 27 rfl rfl (by kernel_rfl) (quiet_q (op_bin rfl rfl ?_)) ?_ ?_; rotate_left 1; (· (exact bin_add ⟨by omega, by omega⟩)); (· (assumption)))
          (refine' TA_take 28 rfl rfl (by kernel_rfl) (quiet_q (op_assign rfl)) ?_ ?_; (· (assumption)))
          refine TA_done (by kernel_rfl) ?_
          repeat (first | with_reducible refine T_region ?_ | with_reducible refine TL_nil ?_ | with_reducible refine TQ_then ?_ | with_reducible refine TQ_block ?_ | refine TL_q (op_move rfl) rfl ?_ | refine TL_q (op_assign rfl) rfl ?_ | (refine' TL_q (op_bin rfl rfl ?_) rfl ?_; rotate_left 1; (· (exact bin_add ⟨by omega, by omega⟩))))
          refine TQ_roundS (k + 1, n2 + 12 + min 5000 (x.name.length : Int) + min 5000 (x.data.length : Int)) ⟨hkl, by dsimp only; omega, by dsimp only; omega, fun h y hy => ?_⟩ ?_ (fun w h => h) (by dsimp only; omega)
          · dsimp only at h
            rw [List.take_add_one, hx] at hy
            rcases List.mem_append.1 hy with hy | hy
            · exact hfit hn5 y hy
            · have : y = x := by simpa using hy
              subst this
              omega
          (repeat (first | exact trivial | refine ⟨rfl, ?_⟩))
        · have hfin : n2 < 5000 → s.m.auth.length ≤ 420 ∧ ∀ x ∈ s.m.auth, x.name.length ≤ 5000 ∧ x.data.length ≤ 5000 := fun h => by
            have hke : k = s.m.auth.length := by omega
            have := hfit h
            rw [hke, List.take_length] at this
            exact ⟨by omega, this⟩
          have hA : C1[o1 + i * 23 + 1 + 13]? = some (.slice aB s.m.auth.length cB) := by rw [Nat.add_assoc]; exact hcx (1 + 13) _ rfl
          by_cases hkl : k < s.m.auth.length
          · have hn5 : ¬ n2 < 5000 := fun h => hgo ⟨hkl, h⟩
            repeat (first | with_reducible refine T_seq ?_ | with_reducible refine T_region ?_ | with_reducible refine TL_nil ?_ | with_reducible refine TQ_then ?_ | with_reducible refine TQ_block ?_ | with_reducible refine T_exit ?_ | with_reducible refine TQ_then_exit ?_ | with_reducible refine TQ_block_exit ?_ | refine TL_q (op_move rfl) rfl ?_ | refine TL_q (op_assign rfl) rfl ?_ | (refine' TL_q (op_bin rfl rfl ?_) rfl ?_; rotate_left 1; (· first | exact bin_add ⟨by omega, by omega⟩ | exact bin_lss)) | (refine' TL_q (op_pickT rfl ?_ rfl) rfl ?_; (· (exact dT (by (omega))))) | refine TL_q (op_len_slice rfl Try.underlying27) rfl ?_ | (refine' TL_q (op_idx ety_48 rfl rfl ?_) rfl ?_; (· omega)) | refine TL_q (op_fld rfl fld_32_3) rfl ?_ | refine TL_q (op_fld rfl fld_115_1) rfl ?_ | (refine' TL_q (op_ld rfl pl_9 ?_ ?_) rfl ?_; rotate_left 4; (· repeat ((assumption))); (· (assumption))) | (refine TL_gpre rfl rfl ?_ ?_; (· (exact dT (by (omega))))) | refine TL_gq2 (op_move rfl) rfl ?_ | (refine' TL_gq2 (op_bin rfl rfl ?_) rfl ?_; rotate_left 1; (· (exact bin_lss))) | (refine T_no rfl ?_ ?_; (· (exact dF (by (assumption))))))
            refine TQ_roundS (i + 1, n2) ⟨hil, by dsimp only; omega, fun h y hy => ?_⟩ ?_ (fun w h => h) (by dsimp only; omega)
            · dsimp only at h
              rw [List.take_add_one, hs] at hy
              rcases List.mem_append.1 hy with hy | hy
              · exact hall hn5o y hy
              · have : y = s := by simpa using hy
                subst this
                exact ⟨hfinA (by omega), hfin h⟩
            (repeat (first | exact trivial | refine ⟨rfl, ?_⟩))
          · repeat (first | with_reducible refine T_seq ?_ | with_reducible refine T_region ?_ | with_reducible refine TL_nil ?_ | with_reducible refine TQ_then ?_ | with_reducible refine TQ_block ?_ | with_reducible refine T_exit ?_ | with_reducible refine TQ_then_exit ?_ | with_reducible refine TQ_block_exit ?_ | refine TL_q (op_move rfl) rfl ?_ | refine TL_q (op_assign rfl) rfl ?_ | (refine' TL_q (op_bin rfl rfl ?_) rfl ?_; rotate_left 1; (· first | exact bin_add ⟨by omega, by omega⟩ | exact bin_lss)) | (refine' TL_q (op_pickF rfl ?_ rfl) rfl ?_; (· (exact dF (by (omega))))) | refine TL_q (op_len_slice rfl Try.underlying27) rfl ?_ | (refine' TL_q (op_idx ety_48 rfl rfl ?_) rfl ?_; (· omega)) | refine TL_q (op_fld rfl fld_32_3) rfl ?_ | refine TL_q (op_fld rfl fld_115_1) rfl ?_ | (refine' TL_q (op_ld rfl pl_9 ?_ ?_) rfl ?_; rotate_left 4; (· repeat ((assumption))); (· (assumption))) | (refine TL_gno rfl rfl ?_ rfl ?_; (· (exact dF (by (omega))))) | (refine T_no rfl ?_ ?_; (· (with_reducible rfl))))
            refine TQ_roundS (i + 1, n2) ⟨hil, by dsimp only; omega, fun h y hy => ?_⟩ ?_ (fun w h => h) (by dsimp only; omega)
            · dsimp only at h
              rw [List.take_add_one, hs] at hy
              rcases List.mem_append.1 hy with hy | hy
              · exact hall hn5o y hy
              · have : y = s := by simpa using hy
                subst this
                exact ⟨hfinA (by omega), hfin h⟩
            (repeat (first | exact trivial | refine ⟨rfl, ?_⟩))

  · by_cases hil : i < l.length
    · have hn5 : ¬ n < 5000 := fun h => hgo ⟨hil, h⟩
      repeat (first | with_reducible refine T_seq ?_ | with_reducible refine T_region ?_ | with_reducible refine TL_nil ?_ | with_reducible refine TQ_then ?_ | with_reducible refine T_exit ?_ | with_reducible refine T_ret ?_ | with_reducible refine TQ_then_exit ?_ | with_reducible refine TQ_block_exit ?_ | refine TL_q (op_move rfl) rfl ?_ | refine TL_q (op_assign rfl) rfl ?_ | (refine' TL_q (op_bin rfl rfl ?_) rfl ?_; rotate_left 1; (· first | exact bin_lss | exact bin_geq)) | (refine' TL_q (op_pickT rfl ?_ rfl) rfl ?_; (· (exact dT (by (omega))))) | refine TL_q (op_len_slice rfl Try.underlying48) rfl ?_ | (refine TL_gpre rfl rfl ?_ ?_; (· (exact dT (by first | assumption | omega)))) | refine TL_gq2 (op_move rfl) rfl ?_ | (refine' TL_gq2 (op_bin rfl rfl ?_) rfl ?_; rotate_left 1; (· (exact bin_lss))) | (refine TL_gno rfl rfl ?_ rfl ?_; (· (exact dT (by (omega))))) | (refine T_no rfl ?_ ?_; (· (exact dF (by (assumption))))))
      refine TQ_ret1 2 _ rfl rfl ?_
      exact ⟨true, rfl, rfl, fun h => by cases h⟩
    · have hie : i = l.length := by omega
      subst hie
      rw [List.take_length] at hall
      by_cases hn5 : n < 5000
      · by_cases h60 : 60 < l.length
        · repeat (first | with_reducible refine T_seq ?_ | with_reducible refine T_region ?_ | with_reducible refine TL_nil ?_ | with_reducible refine TQ_then ?_ | with_reducible refine T_exit ?_ | with_reducible refine T_ret ?_ | with_reducible refine TQ_then_exit ?_ | with_reducible refine TQ_block_exit ?_ | refine TL_q (op_move rfl) rfl ?_ | refine TL_q (op_assign rfl) rfl ?_ | (refine' TL_q (op_bin rfl rfl ?_) rfl ?_; rotate_left 1; (· first | exact bin_lss | exact bin_geq)) | (refine' TL_q (op_pickF rfl ?_ rfl) rfl ?_; (· (exact dF (by (omega))))) | refine TL_q (op_len_slice rfl Try.underlying48) rfl ?_ | (refine TL_gpre rfl rfl ?_ ?_; (· (exact dF (by first | assumption | omega)))) | refine TL_gq2 (op_move rfl) rfl ?_ | (refine' TL_gq2 (op_bin rfl rfl ?_) rfl ?_; rotate_left 1; (· (exact bin_gtr))) | refine TL_gq2 (op_len_slice rfl Try.underlying48) rfl ?_ | (refine TL_gno rfl rfl ?_ rfl ?_; (· (exact dF (by (omega))))) | (refine T_no rfl ?_ ?_; (· (with_reducible rfl))))
          refine TQ_ret1 2 _ rfl rfl ?_
          exact ⟨_, rfl, rfl, fun h => by (simp at h; omega)⟩
        · repeat (first | with_reducible refine T_seq ?_ | with_reducible refine T_region ?_ | with_reducible refine TL_nil ?_ | with_reducible refine TQ_then ?_ | with_reducible refine T_exit ?_ | with_reducible refine T_ret ?_ | with_reducible refine TQ_then_exit ?_ | with_reducible refine TQ_block_exit ?_ | refine TL_q (op_move rfl) rfl ?_ | refine TL_q (op_assign rfl) rfl ?_ | (refine' TL_q (op_bin rfl rfl ?_) rfl ?_; rotate_left 1; (· first | exact bin_lss | exact bin_geq)) | (refine' TL_q (op_pickF rfl ?_ rfl) rfl ?_; (· (exact dF (by (omega))))) | refine TL_q (op_len_slice rfl Try.underlying48) rfl ?_ | (refine TL_gpre rfl rfl ?_ ?_; (· (exact dF (by first | assumption | omega)))) | refine TL_gq2 (op_move rfl) rfl ?_ | (refine' TL_gq2 (op_bin rfl rfl ?_) rfl ?_; rotate_left 1; (· (exact bin_gtr))) | refine TL_gq2 (op_len_slice rfl Try.underlying48) rfl ?_ | (refine TL_gno rfl rfl ?_ rfl ?_; (· (exact dF (by (omega))))) | (refine T_no rfl ?_ ?_; (· (with_reducible rfl))))
          refine TQ_ret1 2 _ rfl rfl ?_
          exact ⟨_, rfl, rfl, fun h => ⟨by omega, hall hn5⟩⟩
      · repeat (first | with_reducible refine T_seq ?_ | with_reducible refine T_region ?_ | with_reducible refine TL_nil ?_ | with_reducible refine TQ_then ?_ | with_reducible refine T_exit ?_ | with_reducible refine T_ret ?_ | with_reducible refine TQ_then_exit ?_ | with_reducible refine TQ_block_exit ?_ | refine TL_q (op_move rfl) rfl ?_ | refine TL_q (op_assign rfl) rfl ?_ | (refine' TL_q (op_bin rfl rfl ?_) rfl ?_; rotate_left 1; (· first | exact bin_lss | exact bin_geq)) | (refine' TL_q (op_pickT rfl ?_ rfl) rfl ?_; (· (exact dT (by (omega))))) | (refine' TL_q (op_pickF rfl ?_ rfl) rfl ?_; (· (exact dF (by (omega))))) | refine TL_q (op_len_slice rfl Try.underlying48) rfl ?_ | (refine TL_gno rfl rfl ?_ rfl ?_; (· first | exact dT (by first | assumption | omega) | exact dF (by (omega)))) | (refine T_no rfl ?_ ?_; (· (with_reducible rfl))))
        refine TQ_ret1 2 _ rfl rfl ?_
        exact ⟨_, rfl, rfl, fun h => by (simp at h)⟩
end Go.Proofs.Ytdflhdfapnhjjaa
namespace Go.Proofs.Ytdflhdfapnhjjaa
open Go.RowKit
open Vd (RSet Vdt Vote Rec Quest Piece Ballot Said)
set_option linter.unusedVariables false
set_option linter.unusedSimpArgs false
/-- Ballots of votes alone, each of another upstream. -/
structure BalOk (p : Vote → Prop) (l : List Ballot) : Prop where
  nd : (l.map fun b => b.v.up).Nodup
  ok : ∀ b ∈ l, b.pass = false ∧ (0 ≤ b.v.up ∧ b.v.up < 9) ∧ p b.v
theorem hasB_iff (l : List Ballot) (u : Int) : Vd.hasB l u = true ↔ u ∈ l.map fun b => b.v.up := by
  unfold Vd.hasB
  rw [List.any_eq_true, List.mem_map]
  simp only [beq_iff_eq]
theorem BalOk.put {p : Vote → Prop} {l : List Ballot} (h : BalOk p l) {x : Vote} (hx : p x) : BalOk p (Vd.putB l ⟨x, false⟩).1 := by
  unfold Vd.putB
  split
  · exact h
  split
  · exact h
  · rename_i h1 h2
    refine ⟨?_, fun b hb => ?_⟩
    · rw [List.map_append]
      refine List.nodup_append.2 ⟨h.nd, by simp, fun a ha b hb => ?_⟩
      rw [List.map_singleton, List.mem_singleton] at hb
      intro e
      refine h2 ((hasB_iff _ _).2 ?_)
      dsimp only at hb ⊢
      rw [← hb, ← e]
      exact ha
    · rcases List.mem_append.1 hb with hb | hb
      · exact h.ok b hb
      · rw [List.mem_singleton.1 hb]
        dsimp only at h1 ⊢
        exact ⟨rfl, by omega, hx⟩
theorem BalOk.cast {p : Vote → Prop} {q : Quest} {l : List Ballot} (h : BalOk p l) {s : Said} (hs : p ⟨s.up, (Vd.ofM q s.m).1, s.time⟩) : BalOk p (Vd.castSaid q l s) := by
  unfold Vd.castSaid
  split
  · exact h.put hs
  · exact h
theorem BalOk.all {p : Vote → Prop} {q : Quest} : ∀ (l : List Said) {b : List Ballot}, BalOk p b → (∀ s ∈ l, p ⟨s.up, (Vd.ofM q s.m).1, s.time⟩) → BalOk p (l.foldl (Vd.castSaid q) b)
  | [], b, h, _ => h
  | s :: l, b, h, hl => BalOk.all l (h.cast (hl s (List.mem_cons_self ..))) fun t ht => hl t (List.mem_cons_of_mem _ ht)
theorem BalOk.votes {p : Vote → Prop} {l : List Ballot} (h : BalOk p l) : Vd.votesB l = l.map (·.v) := by
  unfold Vd.votesB
  rw [List.filter_eq_self.2 fun b hb => by rw [(h.ok b hb).1]; rfl]
/-- Votes of replies. -/
theorem votesOf_ok {p : Vote → Prop} (q : Quest) (l : List Said) (h : ∀ s ∈ l, p ⟨s.up, (Vd.ofM q s.m).1, s.time⟩) : ((Vd.votesOf q l).map (·.up)).Nodup ∧ (∀ v ∈ Vd.votesOf q l, (0 ≤ v.up ∧ v.up < 9) ∧ p v) ∧ (Vd.votesOf q l).length ≤ l.length := by
  have hb := BalOk.all (q := q) l (b := []) ⟨by simp, by simp⟩ h
  have hl := castAll_len q l l.length (Nat.le_refl _)
  rw [List.take_length] at hl
  unfold Vd.votesOf
  rw [hb.votes, List.map_map, List.length_map]
  refine ⟨hb.nd, fun v hv => ?_, hl⟩
  obtain ⟨b, hb1, rfl⟩ := List.mem_map.1 hv
  exact (hb.ok b hb1).2
/-- What sets of a reply that a statement goes over are. -/
def SetSm (s : RSet) : Prop := s.name.length ≤ 255 ∧ s.data.length ≤ 420 ∧ s.data ≠ [] ∧ ∀ d ∈ s.data, d.length ≤ 5000
theorem MsgSmall.sets {m : Vd.Msg} (h : MsgSmall m) (q : Quest) : AllS SetSm (Vd.ofM q m).1 := by
  obtain ⟨⟨a1, a2⟩, b1, b2⟩ := h
  have ga := (group_bd (D := 5000) m.answers fun x hx => (a2 x hx).2).2
  have gb := (group_bd (D := 5000) m.auth fun x hx => (b2 x hx).2).2
  refine ofM_sets q m SetSm (fun s hs => hs) (fun s hs => ?_) (fun s hs => ?_)
  · obtain ⟨h1, h2, h3, h4⟩ := ga s hs
    exact ⟨h1, by omega, h3, h4⟩
  · obtain ⟨h1, h2, h3, h4⟩ := gb s hs
    exact ⟨h1, by omega, h3, h4⟩
theorem MsgSmall.fits {m : Vd.Msg} (h : MsgSmall m) : MsgFits m := by
  obtain ⟨⟨a1, a2⟩, b1, b2⟩ := h
  exact ⟨by omega, fun x hx => ⟨by have := (a2 x hx).1; omega, by have := (a2 x hx).2; omega⟩, by omega, fun x hx => ⟨by have := (b2 x hx).1; omega, by have := (b2 x hx).2; omega⟩⟩
/-- A vote of a reply that a statement goes over. -/
def VoteSm (v : Vote) : Prop := AllS SetSm v.vd ∧ v.vd.sets.length ≤ 10 ∧ v.vd.soa.length ≤ 1
theorem votesOf_sm (q : Quest) (l : List Said) (h : ∀ s ∈ l, MsgSmall s.m) : ((Vd.votesOf q l).map (·.up)).Nodup ∧ (∀ v ∈ Vd.votesOf q l, (0 ≤ v.up ∧ v.up < 9) ∧ VoteSm v) ∧ (Vd.votesOf q l).length ≤ l.length :=
  votesOf_ok q l fun s hs => ⟨(h s hs).sets q, ofM_len q s.m⟩
theorem endV_in {q : Quest} {v : Vdt} (h : (Vd.endV q v).2 = true) : (Vd.endV q v).1 ∈ v.sets ∧ (Vd.endV q v).1.kind = q.kind := by
  unfold Vd.endV at h ⊢
  cases hs : v.sets.getLast? with
  | none => rw [hs] at h; cases h
  | some s =>
    rw [hs] at h
    dsimp only at h ⊢
    by_cases hk : s.kind = q.kind
    · rw [if_pos hk]
      exact ⟨List.mem_of_getLast? hs, hk⟩
    · rw [if_neg hk] at h; cases h
theorem endV_no {q : Quest} {v : Vdt} (h : (Vd.endV q v).2 = false) : (Vd.endV q v).1 = RSet.none := by
  unfold Vd.endV at h ⊢
  cases hs : v.sets.getLast? with
  | none => rfl
  | some s =>
    rw [hs] at h
    dsimp only at h ⊢
    by_cases hk : s.kind = q.kind
    · rw [if_pos hk] at h; cases h
    · rw [if_neg hk]
theorem VoteSm.ends {v : Vote} (h : VoteSm v) (q : Quest) : (Vd.endV q v.vd).1.data.length ≤ 420 ∧ (∀ d ∈ (Vd.endV q v.vd).1.data, d.length ≤ 5000) ∧ ((Vd.endV q v.vd).2 = true → (Vd.endV q v.vd).1.data ≠ []) := by
  cases he : (Vd.endV q v.vd).2 with
  | true =>
    obtain ⟨_, h2, h3, h4⟩ := h.1.1 _ (endV_in he).1
    exact ⟨h2, h4, fun _ => h3⟩
  | false =>
    rw [endV_no he]
    exact ⟨by simp [RSet.none], by simp [RSet.none], fun h => by cases h⟩
theorem VoteSm.smV {v : Vote} (h : VoteSm v) : SmV v.vd := by
  obtain ⟨⟨h1, h2⟩, h3, h4⟩ := h
  exact ⟨⟨by omega, fun s hs => by have := (h1 s hs).2.1; omega⟩, ⟨by omega, fun s hs => by have := (h2 s hs).2.1; omega⟩⟩
theorem unionP_law (q : Quest) (l : List Vote) (h : ∀ v ∈ l, VoteSm v) : unionP q l = Vd.union q l := union_same q l fun v hv => ((h v hv).ends q).2.2
/-! ### the row -/
theorem alikeV_iff {l : List Vote} {w : Vote} (hw : w ∈ l) : Vd.alikeV l w.vd = true ↔ ∀ x ∈ l, ∀ y ∈ l, x.vd = y.vd := by
  unfold Vd.alikeV
  rw [List.all_eq_true]
  simp only [decide_eq_true_eq]
  exact ⟨fun h x hx y hy => (h x hx).trans (h y hy).symm, fun h x hx => h x hx w hw⟩
theorem minTime_le : ∀ (l : List Vote) (t : Int), Vd.minTime l t ≤ t ∧ ∀ x ∈ l, Vd.minTime l t ≤ x.time
  | [], t => ⟨Int.le_refl _, by simp⟩
  | y :: l, t => by
    have ih := minTime_le l (min t y.time)
    have e : Vd.minTime (y :: l) t = Vd.minTime l (min t y.time) := rfl
    rw [e]
    refine ⟨by omega, fun x hx => ?_⟩
    rcases List.mem_cons.1 hx with rfl | hx
    · omega
    · exact ih.2 x hx
theorem minTime_in : ∀ (l : List Vote) (t : Int), Vd.minTime l t = t ∨ ∃ x ∈ l, Vd.minTime l t = x.time
  | [], t => Or.inl rfl
  | y :: l, t => by
    have e : Vd.minTime (y :: l) t = Vd.minTime l (min t y.time) := rfl
    rw [e]
    rcases minTime_in l (min t y.time) with h | ⟨x, hx, h⟩
    · rw [h]
      rcases Int.le_total t y.time with h1 | h1
      · exact Or.inl (by omega)
      · exact Or.inr ⟨y, List.mem_cons_self .., by omega⟩
    · exact Or.inr ⟨x, List.mem_cons_of_mem _ hx, h⟩
theorem minTime_ext {a b : List Vote} {v w : Vote} (hv : v ∈ a) (hw : w ∈ b) (h : ∀ x, x ∈ a ↔ x ∈ b) : Vd.minTime a v.time = Vd.minTime b w.time := by
  have a1 := minTime_le a v.time
  have b1 := minTime_le b w.time
  have a2 : ∃ x ∈ a, Vd.minTime a v.time = x.time := (minTime_in a v.time).elim (fun e => ⟨v, hv, e⟩) id
  have b2 : ∃ x ∈ b, Vd.minTime b w.time = x.time := (minTime_in b w.time).elim (fun e => ⟨w, hw, e⟩) id
  obtain ⟨x, hx, ex⟩ := a2
  obtain ⟨y, hy, ey⟩ := b2
  have h1 := a1.2 y ((h y).2 hy)
  have h2 := b1.2 x ((h x).1 hx)
  omega
theorem firstAt_le (l : List Vote) : ∀ j, j ≤ l.length → ∀ i x f, i < j → l[i]? = some x → l[Vd.firstAt l j]? = some f → f.up ≤ x.up
  | 0, _, i, x, f, hi, _, _ => absurd hi (Nat.not_lt_zero _)
  | j + 1, hj, i, x, f, hi, hx, hf => by
    have h0 : 0 < l.length := by omega
    have hl := firstAt_lt l j (by omega) h0
    obtain ⟨g, hg⟩ : ∃ g, l[Vd.firstAt l j]? = some g := ⟨_, List.getElem?_eq_getElem hl⟩
    obtain ⟨y, hy⟩ : ∃ y, l[j]? = some y := ⟨_, List.getElem?_eq_getElem (by omega)⟩
    have ih := fun i x => firstAt_le l j (by omega) i x g
    rw [Vd.firstAt, hy, hg] at hf
    dsimp only at hf
    by_cases hc : y.up < g.up
    · rw [if_pos hc, hy] at hf
      obtain rfl := Option.some.inj hf
      by_cases hij : i = j
      · subst hij
        rw [hy] at hx
        obtain rfl := Option.some.inj hx
        exact Int.le_refl _
      · have := ih i x (by omega) hx hg
        omega
    · rw [if_neg hc, hg] at hf
      obtain rfl := Option.some.inj hf
      by_cases hij : i = j
      · subst hij
        rw [hy] at hx
        obtain rfl := Option.some.inj hx
        omega
      · exact ih i x (by omega) hx hg
theorem first_ex {l : List Vote} (h : 0 < l.length) : ∃ f, l[Vd.firstAt l l.length]? = some f ∧ f ∈ l ∧ ∀ x ∈ l, f.up ≤ x.up := by
  have hl := firstAt_lt l l.length (Nat.le_refl _) h
  refine ⟨_, List.getElem?_eq_getElem hl, List.getElem_mem _, fun x hx => ?_⟩
  obtain ⟨i, hi, rfl⟩ := List.getElem_of_mem hx
  exact firstAt_le l l.length (Nat.le_refl _) i _ _ hi (List.getElem?_eq_getElem hi) (List.getElem?_eq_getElem hl)
theorem up_inj {l : List Vote} (hn : (l.map (·.up)).Nodup) {x y : Vote} (hx : x ∈ l) (hy : y ∈ l) (h : x.up = y.up) : x = y := by
  obtain ⟨i, hi, rfl⟩ := List.getElem_of_mem hx
  obtain ⟨j, hj, rfl⟩ := List.getElem_of_mem hy
  have := (List.nodup_iff_pairwise_ne.1 hn)
  rcases Nat.lt_trichotomy i j with h1 | h1 | h1
  · have := List.pairwise_iff_getElem.1 this i j (by simpa using hi) (by simpa using hj) h1
    simp only [List.getElem_map] at this
    exact absurd h this
  · subst h1; rfl
  · have := List.pairwise_iff_getElem.1 this j i (by simpa using hj) (by simpa using hi) h1
    simp only [List.getElem_map] at this
    exact absurd h.symm this
theorem unionP_ext (q : Quest) {a b : List Vote} (hn : (a.map (·.up)).Nodup) (ha : a ≠ []) (h : ∀ x, x ∈ a ↔ x ∈ b) : unionP q a = unionP q b := by
  obtain ⟨v, r, rfl⟩ : ∃ v r, a = v :: r := List.exists_cons_of_ne_nil ha
  have hb : b ≠ [] := fun e => by have := (h v).1 (List.mem_cons_self ..); rw [e] at this; simp at this
  obtain ⟨w, s, rfl⟩ : ∃ w s, b = w :: s := List.exists_cons_of_ne_nil hb
  have ht := minTime_ext (v := v) (w := w) (List.mem_cons_self ..) (List.mem_cons_self ..) h
  have hal : Vd.alikeV (v :: r) v.vd = Vd.alikeV (w :: s) w.vd := by
    rw [Bool.eq_iff_iff, alikeV_iff (List.mem_cons_self ..), alikeV_iff (List.mem_cons_self ..)]
    exact ⟨fun k x hx y hy => k x ((h x).2 hx) y ((h y).2 hy), fun k x hx y hy => k x ((h x).1 hx) y ((h y).1 hy)⟩
  have hse : someEnd q (v :: r) = someEnd q (w :: s) := by
    unfold someEnd
    rw [Bool.eq_iff_iff, List.any_eq_true, List.any_eq_true]
    exact ⟨fun ⟨x, hx, k⟩ => ⟨x, (h x).1 hx, k⟩, fun ⟨x, hx, k⟩ => ⟨x, (h x).2 hx, k⟩⟩
  have hco : Lib.compact ((endsAll q (v :: r)).mergeSort fun x y => decide (x ≤ y)) = Lib.compact ((endsAll q (w :: s)).mergeSort fun x y => decide (x ≤ y)) := by
    obtain ⟨k1, k2⟩ := Vd.compact_rising (Vd.sorted_sort (endsAll q (v :: r)))
    obtain ⟨k3, k4⟩ := Vd.compact_rising (Vd.sorted_sort (endsAll q (w :: s)))
    refine Vd.rising_ext k1 k3 fun x => ?_
    rw [k2, k4, List.mem_mergeSort, List.mem_mergeSort]
    unfold endsAll
    rw [List.mem_flatMap, List.mem_flatMap]
    exact ⟨fun ⟨y, hy, k⟩ => ⟨y, (h y).1 hy, k⟩, fun ⟨y, hy, k⟩ => ⟨y, (h y).2 hy, k⟩⟩
  obtain ⟨f, f1, f2, f3⟩ := first_ex (l := v :: r) (by simp)
  obtain ⟨g, g1, g2, g3⟩ := first_ex (l := w :: s) (by simp)
  have hfg : f = g := up_inj hn f2 ((h g).2 g2) (by have := f3 g ((h g).2 g2); have := g3 f ((h f).1 f2); omega)
  unfold unionP
  dsimp only
  rw [ht, hal, hse, hco, f1, g1, hfg]
/-- Votes of one verdict. -/
theorem unionP_alike (q : Quest) {l : List Vote} {w : Vote} (hw : l.head? = some w) (hm : Nm.may q.name = true) (h : ∀ x ∈ l, x.vd = w.vd) : unionP q l = (w.vd, Vd.minTime l w.time, true) := by
  cases l with
  | nil => cases hw
  | cons v r =>
    obtain rfl : v = w := Option.some.inj hw
    have hal : Vd.alikeV (v :: r) v.vd = true := by
      unfold Vd.alikeV
      rw [List.all_eq_true]
      exact fun x hx => decide_eq_true (h x hx)
    obtain ⟨f, f1, f2, _⟩ := first_ex (l := v :: r) (by simp)
    unfold unionP
    dsimp only
    rw [hm, hal, f1]
    simp [h f f2]
theorem unionP_time (q : Quest) {l : List Vote} {w : Vote} (hw : l.head? = some w) (hm : Nm.may q.name = true) : (unionP q l).2.1 = Vd.minTime l w.time ∧ (unionP q l).2.2 = true := by
  cases l with
  | nil => cases hw
  | cons v r =>
    obtain rfl : v = w := Option.some.inj hw
    unfold unionP
    dsimp only
    rw [hm]
    simp only [Bool.not_true, Bool.false_eq_true, if_false]
    split <;> exact ⟨rfl, rfl⟩
theorem unionP_is (q : Quest) (l : List Vote) : (unionP q l).2.2 = (!decide (l.length = 0) && Nm.may q.name) := by
  cases l with
  | nil => rfl
  | cons v r =>
    unfold unionP
    dsimp only
    cases hm : Nm.may q.name with
    | false => simp
    | true =>
      simp only [Bool.not_true, Bool.false_eq_true, if_false]
      split <;> simp
/-- Votes of several verdicts, some with an end. -/
theorem unionP_ends (q : Quest) {l : List Vote} {w : Vote} (hw : l.head? = some w) (hm : Nm.may q.name = true) (ha : Vd.alikeV l w.vd = false) (hs : someEnd q l = true) : (unionP q l).1 = ⟨0, [⟨Nm.fold q.name, q.kind, q.cls, 0, Lib.compact ((endsAll q l).mergeSort fun x y => decide (x ≤ y))⟩], []⟩ := by
  cases l with
  | nil => cases hw
  | cons v r =>
    obtain rfl : v = w := Option.some.inj hw
    unfold unionP
    dsimp only
    rw [hm, ha, hs]
    rfl
theorem ends_data (q : Quest) (l : List Vote) : Vd.Rising (Lib.compact ((endsAll q l).mergeSort fun x y => decide (x ≤ y))) ∧ ∀ d, d ∈ Lib.compact ((endsAll q l).mergeSort fun x y => decide (x ≤ y)) ↔ d ∈ endsAll q l := by
  obtain ⟨k1, k2⟩ := Vd.compact_rising (Vd.sorted_sort (endsAll q l))
  exact ⟨k1, fun d => by rw [k2, List.mem_mergeSort]⟩
end Go.Proofs.Ytdflhdfapnhjjaa
namespace Go.Proofs.Ytdflhdfapnhjjaa
open Go.RowKit
open Vd (RSet Vdt Vote Rec Quest Piece Ballot Said)
set_option linter.unusedVariables false
set_option linter.unusedSimpArgs false
--auto
/-- Where data may lie that are written over. -/
def keysOf (N : Blocks) : List (Nat × Nat) := N.map fun p => (p.1, match p.2 with | .cells C _ _ => C.size | _ => 0)
theorem dataIs_wr {N : Blocks} (h : Wr N) : DataIs (keysOf N) N := fun k hk => by
  obtain ⟨p, hp, rfl⟩ := List.mem_map.1 hk
  obtain ⟨C, te, he⟩ := h p hp
  obtain ⟨b, o⟩ := p
  dsimp only at he
  subst he
  exact ⟨C, te, hp, Nat.le_refl _⟩
theorem ds_of {N : Blocks} {a : Option Addr} {m c : Nat} {l : List Vd.Bytes} (h : sliceR 1 strR N [.slice a m c] l) (hN : Wr N) : DS (keysOf N) a m := by
  obtain ⟨rfl, k1, k2, h⟩ := sliceR.cut h
  rcases h with rfl | ⟨b, off, C, te, fr, rfl, hm, hc⟩
  · exact Or.inl rfl
  · by_cases h0 : l.length = 0
    · exact Or.inl h0
    · refine Or.inr ⟨b, off, C.size, rfl, ?_, ?_, by unfold maxLen at k2; omega⟩
      · refine List.mem_map.2 ⟨_, hm, ?_⟩
        obtain ⟨C', te', e⟩ := hN _ hm
        dsimp only at e
        obtain ⟨rfl, rfl, rfl⟩ := Obj.cells.inj e
        rfl
      · obtain ⟨x, hx⟩ : ∃ x, l[l.length - 1]? = some x := ⟨_, List.getElem?_eq_getElem (by omega)⟩
        obtain ⟨cs, h1, h2, h3⟩ := hc _ x hx
        obtain ⟨v, hv⟩ : ∃ v, cs[0]? = some v := ⟨_, List.getElem?_eq_getElem (by omega)⟩
        have := (Array.getElem?_eq_some_iff.1 (h3 0 v hv)).1
        omega
theorem rowS_of {N B : Blocks} {a : Option Addr} {c : Nat} {l : List RSet} (h : ORow rsR 60 5 N a c l B) (hN : Wr N) : RowS (keysOf N) B a l.length := by
  rcases h.one with ⟨_, e2, e3, _⟩ | ⟨b0, cur0, e1, e2, hsz, hlc⟩
  · exact Or.inl ⟨by rw [e3]; rfl, e2⟩
  · refine Or.inr ⟨b0, cur0, e1, e2, by rw [hsz]; exact Nat.mul_le_mul_right _ hlc, fun i hi => ?_⟩
    obtain ⟨b, cur, k1, k2, _, _, _, hcur⟩ := h.block (fun e => by rw [e] at hi; simp at hi)
    rw [e2] at k2
    simp only [List.cons.injEq, Prod.mk.injEq, Obj.cells.injEq, and_true] at k2
    obtain ⟨rfl, rfl⟩ := k2
    obtain ⟨x, hx⟩ : ∃ x, l[i]? = some x := ⟨_, List.getElem?_eq_getElem hi⟩
    obtain ⟨cs, _, hx2, _, hcs⟩ := hcur i x hx
    obtain ⟨xa, xc, rfl, hxd, _⟩ := hx2.vals
    exact ⟨xa, _, xc, hcs 4 _ rfl, ds_of hxd hN⟩
section
variable {G : World} {L : Blocks}
/-- The cells of a message of one's own. -/
def msgC (code : Int) (a : Option Addr) (n c : Nat) : List Value := [.int .u16 0, .bool false, .int .u8 0, .bool false, .bool false, .bool false, .bool false, .bool false, .bool false, .bool false, .int .u8 code, .slice none 0 0, .slice a n c, .slice none 0 0, .slice none 0 0, .bool false, .int .u16 0, .int .u8 0, .int .u8 0, .int .u16 0, .slice none 0 0]
theorem msgC.one {code : Int} {a : Option Addr} {n c : Nat} : ∀ v ∈ msgC code a n c, v.oneCell' = true := by
  intro v hv
  simp only [msgC, List.mem_cons, List.not_mem_nil, or_false] at hv
  rcases hv with rfl | rfl | rfl | rfl | rfl | rfl | rfl | rfl | rfl | rfl | rfl | rfl | rfl | rfl | rfl | rfl | rfl | rfl | rfl | rfl | rfl <;> rfl
theorem msgC.is {K : Blocks} {code : Int} {a : Option Addr} {c : Nat} {l : List Rec} (h : sliceR 5 recR K [.slice a l.length c] l) (hc : 0 ≤ code ∧ code ≤ 255) : msgR K (msgC code a l.length c) ⟨code, l, []⟩ :=
  ⟨_, _, _, _, _, _, _, _, _, _, _, _, _, _, _, _, _, _, _, _, rfl, h, sliceR.nil, hc, msgC.one⟩
theorem rec_one {n d : Vd.Bytes} {k c t : Int} : ∀ v ∈ ([.string (bs n), .int .u16 k, .int .u16 c, .int .u32 t, .string (bs d)] : List Value), v.oneCell' = true := by
  intro v hv
  simp only [List.mem_cons, List.not_mem_nil, or_false] at hv
  rcases hv with rfl | rfl | rfl | rfl | rfl <;> rfl
theorem a_S : Spec Try.prog G 15 #[] L fun u M => u = .agg #[.string (bs [1, 97, 0]), .int .u16 1, .int .u16 1] ∧ M = L := by
  refine Spec_of (n := 2) Try.func15 rfl rfl rfl ?_
  repeat (first | with_reducible refine T_seq ?_ | with_reducible refine T_block ?_ | with_reducible refine T_region ?_ | with_reducible refine TL_nil ?_ | with_reducible refine TQ_then ?_ | with_reducible refine TQ_block ?_ | with_reducible refine T_skip ?_ | with_reducible refine T_label ?_ | with_reducible refine T_exit ?_ | with_reducible refine T_ret ?_ | with_reducible refine TQ_then_exit ?_ | with_reducible refine TQ_then_ret ?_ | with_reducible refine TQ_then_goto ?_ | with_reducible refine TQ_block_exit ?_ | with_reducible refine TQ_block_ret ?_ | with_reducible refine TQ_block_goto ?_ | with_reducible refine TQ_fall ?_ | (refine TQ_block_past ?_ ?_; (· decide)) | refine TL_q (op_move rfl) rfl ?_ | refine TL_q (op_assign rfl) rfl ?_ | (refine TL_stAll rfl rfl st_34 rfl rfl rfl ?_) | (refine TL_new (op_alloc (C := #[(.string (bs [])), (.int .u16 0), (.int .u16 0)]) zero_34 rfl) rfl ?_; intro bNew) | refine TL_q (op_build rfl (bl_34_0_1_2 _ _ _)) rfl ?_ | (refine T_yes rfl ?_ ?_; (· first | with_reducible rfl | assumption | exact Bool.not_false | exact Bool.not_true | exact dT (by first | assumption | with_reducible rfl | omega) | exact dF (by first | assumption | with_reducible rfl | omega) | exact eT (by first | assumption | with_reducible rfl | omega) | exact eF (by first | assumption | with_reducible rfl | omega) | exact nT (by first | assumption | with_reducible rfl | omega) | exact nF (by first | assumption | with_reducible rfl | omega) | exact xT (by first | assumption | exact dT (by first | assumption | with_reducible rfl | omega) | exact dF (by first | assumption | with_reducible rfl | omega) | exact eT (by first | assumption | with_reducible rfl | omega) | exact eF (by first | assumption | with_reducible rfl | omega) | exact nT (by first | assumption | with_reducible rfl | omega) | exact nF (by first | assumption | with_reducible rfl | omega)) | exact xF (by first | assumption | exact dT (by first | assumption | with_reducible rfl | omega) | exact dF (by first | assumption | with_reducible rfl | omega) | exact eT (by first | assumption | with_reducible rfl | omega) | exact eF (by first | assumption | with_reducible rfl | omega) | exact nT (by first | assumption | with_reducible rfl | omega) | exact nF (by first | assumption | with_reducible rfl | omega)))) | (refine T_no rfl ?_ ?_; (· first | with_reducible rfl | assumption | exact Bool.not_false | exact Bool.not_true | exact dT (by first | assumption | with_reducible rfl | omega) | exact dF (by first | assumption | with_reducible rfl | omega) | exact eT (by first | assumption | with_reducible rfl | omega) | exact eF (by first | assumption | with_reducible rfl | omega) | exact nT (by first | assumption | with_reducible rfl | omega) | exact nF (by first | assumption | with_reducible rfl | omega) | exact xT (by first | assumption | exact dT (by first | assumption | with_reducible rfl | omega) | exact dF (by first | assumption | with_reducible rfl | omega) | exact eT (by first | assumption | with_reducible rfl | omega) | exact eF (by first | assumption | with_reducible rfl | omega) | exact nT (by first | assumption | with_reducible rfl | omega) | exact nF (by first | assumption | with_reducible rfl | omega)) | exact xF (by first | assumption | exact dT (by first | assumption | with_reducible rfl | omega) | exact dF (by first | assumption | with_reducible rfl | omega) | exact eT (by first | assumption | with_reducible rfl | omega) | exact eF (by first | assumption | with_reducible rfl | omega) | exact nT (by first | assumption | with_reducible rfl | omega) | exact nF (by first | assumption | with_reducible rfl | omega)))))
  refine TQ_retC 0 34  rfl rfl  st_34 (by repeat (first | assumption | exact List.mem_cons_self | apply List.mem_cons_of_mem)) rfl (fun w h => h.tail) ?_
  exact ⟨rfl, rfl⟩
/-- A reply with an address of a name. -/
def saysM (n : Vd.Bytes) (c : UInt8) : Vd.Msg := ⟨0, [⟨n, 1, 1, 9, [10, 0, 0, c]⟩], []⟩
theorem says_S (n : Vd.Bytes) (c : UInt8) (x : Int) (hx : x = (c.toNat : Int)) (hn : n.length ≤ 1000000) : Spec Try.prog G 17 #[.string (bs n), .int .u8 x] L fun u M => ∃ a B X, u = .agg (msgC 0 a 1 1).toArray ∧ ORow recR 112 5 [] a 1 (saysM n c).answers B ∧ M = B ++ (X ++ L) := by
  subst hx
  refine Spec_of (n := 12) Try.func17 rfl rfl rfl ?_
  repeat (first | with_reducible refine T_seq ?_ | with_reducible refine T_block ?_ | with_reducible refine T_region ?_ | with_reducible refine TL_nil ?_ | with_reducible refine TQ_then ?_ | with_reducible refine TQ_block ?_ | with_reducible refine T_skip ?_ | with_reducible refine T_label ?_ | with_reducible refine T_exit ?_ | with_reducible refine T_ret ?_ | with_reducible refine TQ_then_exit ?_ | with_reducible refine TQ_then_ret ?_ | with_reducible refine TQ_then_goto ?_ | with_reducible refine TQ_block_exit ?_ | with_reducible refine TQ_block_ret ?_ | with_reducible refine TQ_block_goto ?_ | with_reducible refine TQ_fall ?_ | (refine TQ_block_past ?_ ?_; (· decide)) | refine TL_q (op_move rfl) rfl ?_ | refine TL_q (op_assign rfl) rfl ?_ | (refine TL_stAll rfl rfl st_32 rfl rfl rfl ?_) | (refine TL_new (op_alloc (C := #[(.int .u16 0), (.bool false), (.int .u8 0), (.bool false), (.bool false), (.bool false), (.bool false), (.bool false), (.bool false), (.bool false), (.int .u8 0), (.slice none 0 0), (.slice none 0 0), (.slice none 0 0), (.slice none 0 0), (.bool false), (.int .u16 0), (.int .u8 0), (.int .u8 0), (.int .u16 0), (.slice none 0 0)]) zero_32 rfl) rfl ?_; intro bNew) | refine TL_q (op_build rfl (bl_32_2 _ _ _)) rfl ?_ | refine TL_q (op_build rfl (bl_112_0_1_2_3_4 _ _ _ _ _)) rfl ?_ | (refine TL_new (op_litN ety_27 rfl rfl (by decide)) rfl ?_; intro bLit) | (refine TL_new (op_lit1 ety_27 rfl rfl) rfl ?_; intro bLit) | (refine TL_new (op_lit1 ety_116 rfl rfl) rfl ?_; intro bLit) | (refine T_yes rfl ?_ ?_; (· first | with_reducible rfl | assumption | exact Bool.not_false | exact Bool.not_true | exact dT (by first | assumption | with_reducible rfl | omega) | exact dF (by first | assumption | with_reducible rfl | omega) | exact eT (by first | assumption | with_reducible rfl | omega) | exact eF (by first | assumption | with_reducible rfl | omega) | exact nT (by first | assumption | with_reducible rfl | omega) | exact nF (by first | assumption | with_reducible rfl | omega) | exact xT (by first | assumption | exact dT (by first | assumption | with_reducible rfl | omega) | exact dF (by first | assumption | with_reducible rfl | omega) | exact eT (by first | assumption | with_reducible rfl | omega) | exact eF (by first | assumption | with_reducible rfl | omega) | exact nT (by first | assumption | with_reducible rfl | omega) | exact nF (by first | assumption | with_reducible rfl | omega)) | exact xF (by first | assumption | exact dT (by first | assumption | with_reducible rfl | omega) | exact dF (by first | assumption | with_reducible rfl | omega) | exact eT (by first | assumption | with_reducible rfl | omega) | exact eF (by first | assumption | with_reducible rfl | omega) | exact nT (by first | assumption | with_reducible rfl | omega) | exact nF (by first | assumption | with_reducible rfl | omega)))) | (refine T_no rfl ?_ ?_; (· first | with_reducible rfl | assumption | exact Bool.not_false | exact Bool.not_true | exact dT (by first | assumption | with_reducible rfl | omega) | exact dF (by first | assumption | with_reducible rfl | omega) | exact eT (by first | assumption | with_reducible rfl | omega) | exact eF (by first | assumption | with_reducible rfl | omega) | exact nT (by first | assumption | with_reducible rfl | omega) | exact nF (by first | assumption | with_reducible rfl | omega) | exact xT (by first | assumption | exact dT (by first | assumption | with_reducible rfl | omega) | exact dF (by first | assumption | with_reducible rfl | omega) | exact eT (by first | assumption | with_reducible rfl | omega) | exact eF (by first | assumption | with_reducible rfl | omega) | exact nT (by first | assumption | with_reducible rfl | omega) | exact nF (by first | assumption | with_reducible rfl | omega)) | exact xF (by first | assumption | exact dT (by first | assumption | with_reducible rfl | omega) | exact dF (by first | assumption | with_reducible rfl | omega) | exact eT (by first | assumption | with_reducible rfl | omega) | exact eF (by first | assumption | with_reducible rfl | omega) | exact nT (by first | assumption | with_reducible rfl | omega) | exact nF (by first | assumption | with_reducible rfl | omega)))))
  refine TL_new (op_buildSlice (C := #[.int .u8 10, .int .u8 0, .int .u8 0, .int .u8 (c.toNat : Int)]) (vs := [(0, .int .u8 10), (1, .int .u8 0), (2, .int .u8 0), (3, .int .u8 (c.toNat : Int))]) rfl (rowLitG ety_116 [.int .u8 10, .int .u8 0, .int .u8 0, .int .u8 (c.toNat : Int)] rfl (by intro v hv; simp only [List.mem_cons, List.not_mem_nil, or_false] at hv; rcases hv with rfl | rfl | rfl | rfl <;> rfl) (by decide) rfl)) rfl ?_
  intro bL
  refine TL_q (op_conv_back [10, 0, 0, c] rfl rfl Try.underlying116 Try.underlying5 Try.underlying9 (List.mem_cons_self ..) (fun j hj => ?_)) rfl ?_
  · match j, hj with
    | 0, _ => rfl
    | 1, _ => rfl
    | 2, _ => rfl
    | 3, _ => rfl
  repeat (first | with_reducible refine T_seq ?_ | with_reducible refine T_block ?_ | with_reducible refine T_region ?_ | with_reducible refine TL_nil ?_ | with_reducible refine TQ_then ?_ | with_reducible refine TQ_block ?_ | with_reducible refine T_skip ?_ | with_reducible refine T_label ?_ | with_reducible refine T_exit ?_ | with_reducible refine T_ret ?_ | with_reducible refine TQ_then_exit ?_ | with_reducible refine TQ_then_ret ?_ | with_reducible refine TQ_then_goto ?_ | with_reducible refine TQ_block_exit ?_ | with_reducible refine TQ_block_ret ?_ | with_reducible refine TQ_block_goto ?_ | with_reducible refine TQ_fall ?_ | (refine TQ_block_past ?_ ?_; (· decide)) | refine TL_q (op_move rfl) rfl ?_ | refine TL_q (op_assign rfl) rfl ?_ | (refine TL_stAll rfl rfl st_32 rfl rfl rfl ?_) | (refine TL_new (op_alloc (C := #[(.int .u16 0), (.bool false), (.int .u8 0), (.bool false), (.bool false), (.bool false), (.bool false), (.bool false), (.bool false), (.bool false), (.int .u8 0), (.slice none 0 0), (.slice none 0 0), (.slice none 0 0), (.slice none 0 0), (.bool false), (.int .u16 0), (.int .u8 0), (.int .u8 0), (.int .u16 0), (.slice none 0 0)]) zero_32 rfl) rfl ?_; intro bNew) | refine TL_q (op_build rfl (bl_32_2 _ _ _)) rfl ?_ | refine TL_q (op_build rfl (bl_112_0_1_2_3_4 _ _ _ _ _)) rfl ?_ | (refine TL_new (op_litN ety_27 rfl rfl (by decide)) rfl ?_; intro bLit) | (refine TL_new (op_lit1 ety_27 rfl rfl) rfl ?_; intro bLit) | (refine TL_new (op_lit1 ety_116 rfl rfl) rfl ?_; intro bLit) | (refine T_yes rfl ?_ ?_; (· first | with_reducible rfl | assumption | exact Bool.not_false | exact Bool.not_true | exact dT (by first | assumption | with_reducible rfl | omega) | exact dF (by first | assumption | with_reducible rfl | omega) | exact eT (by first | assumption | with_reducible rfl | omega) | exact eF (by first | assumption | with_reducible rfl | omega) | exact nT (by first | assumption | with_reducible rfl | omega) | exact nF (by first | assumption | with_reducible rfl | omega) | exact xT (by first | assumption | exact dT (by first | assumption | with_reducible rfl | omega) | exact dF (by first | assumption | with_reducible rfl | omega) | exact eT (by first | assumption | with_reducible rfl | omega) | exact eF (by first | assumption | with_reducible rfl | omega) | exact nT (by first | assumption | with_reducible rfl | omega) | exact nF (by first | assumption | with_reducible rfl | omega)) | exact xF (by first | assumption | exact dT (by first | assumption | with_reducible rfl | omega) | exact dF (by first | assumption | with_reducible rfl | omega) | exact eT (by first | assumption | with_reducible rfl | omega) | exact eF (by first | assumption | with_reducible rfl | omega) | exact nT (by first | assumption | with_reducible rfl | omega) | exact nF (by first | assumption | with_reducible rfl | omega)))) | (refine T_no rfl ?_ ?_; (· first | with_reducible rfl | assumption | exact Bool.not_false | exact Bool.not_true | exact dT (by first | assumption | with_reducible rfl | omega) | exact dF (by first | assumption | with_reducible rfl | omega) | exact eT (by first | assumption | with_reducible rfl | omega) | exact eF (by first | assumption | with_reducible rfl | omega) | exact nT (by first | assumption | with_reducible rfl | omega) | exact nF (by first | assumption | with_reducible rfl | omega) | exact xT (by first | assumption | exact dT (by first | assumption | with_reducible rfl | omega) | exact dF (by first | assumption | with_reducible rfl | omega) | exact eT (by first | assumption | with_reducible rfl | omega) | exact eF (by first | assumption | with_reducible rfl | omega) | exact nT (by first | assumption | with_reducible rfl | omega) | exact nF (by first | assumption | with_reducible rfl | omega)) | exact xF (by first | assumption | exact dT (by first | assumption | with_reducible rfl | omega) | exact dF (by first | assumption | with_reducible rfl | omega) | exact eT (by first | assumption | with_reducible rfl | omega) | exact eF (by first | assumption | with_reducible rfl | omega) | exact nT (by first | assumption | with_reducible rfl | omega) | exact nF (by first | assumption | with_reducible rfl | omega)))))
  refine TL_cnt (L' := (bNew, Obj.cells #[.int .u16 0, .bool false, .int .u8 0, .bool false, .bool false, .bool false, .bool false, .bool false, .bool false, .bool false, .int .u8 0, .slice none 0 0, .slice none 0 0, .slice none 0 0, .slice none 0 0, .bool false, .int .u16 0, .int .u8 0, .int .u8 0, .int .u16 0, .slice none 0 0] 32 (0, 0)) :: ((bLit, Obj.cells #[.string (bs n), .int .u16 1, .int .u16 1, .int .u32 9, .string (bs [10, 0, 0, c])] 112 (0, 0)) :: ((bL, Obj.cells #[.int .u8 10, .int .u8 0, .int .u8 0, .int .u8 (c.toNat : Int)] 5 (0, 0)) :: L))) ?_ (by intro p; (try simp only [cnt_append, cnt_cons, cnt_nil]) <;> omega)
  repeat (first | with_reducible refine T_seq ?_ | with_reducible refine T_block ?_ | with_reducible refine T_region ?_ | with_reducible refine TL_nil ?_ | with_reducible refine TQ_then ?_ | with_reducible refine TQ_block ?_ | with_reducible refine T_skip ?_ | with_reducible refine T_label ?_ | with_reducible refine T_exit ?_ | with_reducible refine T_ret ?_ | with_reducible refine TQ_then_exit ?_ | with_reducible refine TQ_then_ret ?_ | with_reducible refine TQ_then_goto ?_ | with_reducible refine TQ_block_exit ?_ | with_reducible refine TQ_block_ret ?_ | with_reducible refine TQ_block_goto ?_ | with_reducible refine TQ_fall ?_ | (refine TQ_block_past ?_ ?_; (· decide)) | refine TL_q (op_move rfl) rfl ?_ | refine TL_q (op_assign rfl) rfl ?_ | (refine TL_stAll rfl rfl st_32 rfl rfl rfl ?_) | (refine TL_new (op_alloc (C := #[(.int .u16 0), (.bool false), (.int .u8 0), (.bool false), (.bool false), (.bool false), (.bool false), (.bool false), (.bool false), (.bool false), (.int .u8 0), (.slice none 0 0), (.slice none 0 0), (.slice none 0 0), (.slice none 0 0), (.bool false), (.int .u16 0), (.int .u8 0), (.int .u8 0), (.int .u16 0), (.slice none 0 0)]) zero_32 rfl) rfl ?_; intro bNew) | refine TL_q (op_build rfl (bl_32_2 _ _ _)) rfl ?_ | refine TL_q (op_build rfl (bl_112_0_1_2_3_4 _ _ _ _ _)) rfl ?_ | (refine TL_new (op_litN ety_27 rfl rfl (by decide)) rfl ?_; intro bLit) | (refine TL_new (op_lit1 ety_27 rfl rfl) rfl ?_; intro bLit) | (refine TL_new (op_lit1 ety_116 rfl rfl) rfl ?_; intro bLit) | (refine T_yes rfl ?_ ?_; (· first | with_reducible rfl | assumption | exact Bool.not_false | exact Bool.not_true | exact dT (by first | assumption | with_reducible rfl | omega) | exact dF (by first | assumption | with_reducible rfl | omega) | exact eT (by first | assumption | with_reducible rfl | omega) | exact eF (by first | assumption | with_reducible rfl | omega) | exact nT (by first | assumption | with_reducible rfl | omega) | exact nF (by first | assumption | with_reducible rfl | omega) | exact xT (by first | assumption | exact dT (by first | assumption | with_reducible rfl | omega) | exact dF (by first | assumption | with_reducible rfl | omega) | exact eT (by first | assumption | with_reducible rfl | omega) | exact eF (by first | assumption | with_reducible rfl | omega) | exact nT (by first | assumption | with_reducible rfl | omega) | exact nF (by first | assumption | with_reducible rfl | omega)) | exact xF (by first | assumption | exact dT (by first | assumption | with_reducible rfl | omega) | exact dF (by first | assumption | with_reducible rfl | omega) | exact eT (by first | assumption | with_reducible rfl | omega) | exact eF (by first | assumption | with_reducible rfl | omega) | exact nT (by first | assumption | with_reducible rfl | omega) | exact nF (by first | assumption | with_reducible rfl | omega)))) | (refine T_no rfl ?_ ?_; (· first | with_reducible rfl | assumption | exact Bool.not_false | exact Bool.not_true | exact dT (by first | assumption | with_reducible rfl | omega) | exact dF (by first | assumption | with_reducible rfl | omega) | exact eT (by first | assumption | with_reducible rfl | omega) | exact eF (by first | assumption | with_reducible rfl | omega) | exact nT (by first | assumption | with_reducible rfl | omega) | exact nF (by first | assumption | with_reducible rfl | omega) | exact xT (by first | assumption | exact dT (by first | assumption | with_reducible rfl | omega) | exact dF (by first | assumption | with_reducible rfl | omega) | exact eT (by first | assumption | with_reducible rfl | omega) | exact eF (by first | assumption | with_reducible rfl | omega) | exact nT (by first | assumption | with_reducible rfl | omega) | exact nF (by first | assumption | with_reducible rfl | omega)) | exact xF (by first | assumption | exact dT (by first | assumption | with_reducible rfl | omega) | exact dF (by first | assumption | with_reducible rfl | omega) | exact eT (by first | assumption | with_reducible rfl | omega) | exact eF (by first | assumption | with_reducible rfl | omega) | exact nT (by first | assumption | with_reducible rfl | omega) | exact nF (by first | assumption | with_reducible rfl | omega)))))
  refine TQ_retC 4 32  rfl rfl  st_32 (by repeat (first | assumption | exact List.mem_cons_self | apply List.mem_cons_of_mem)) rfl (fun w h => Heap.cnt (L' := [(bLit, Obj.cells #[.string (bs n), .int .u16 1, .int .u16 1, .int .u32 9, .string (bs [10, 0, 0, c])] 112 (0, 0))] ++ ([(bL, Obj.cells #[.int .u8 10, .int .u8 0, .int .u8 0, .int .u8 (c.toNat : Int)] 5 (0, 0))] ++ L)) h (by intro p; (try simp only [cnt_append, cnt_cons, cnt_nil]) <;> omega)) ?_
  refine ⟨_, _, _, rfl, ?_, rfl⟩
  exact ORow.lit1 rfl ⟨rfl, by show n.length ≤ maxLen; unfold maxLen; omega, by show 4 ≤ maxLen; decide, ⟨by show (0 : Int) ≤ 1; decide, by show (1 : Int) ≤ 65535; decide⟩, ⟨by show (0 : Int) ≤ 1; decide, by show (1 : Int) ≤ 65535; decide⟩, ⟨by show (0 : Int) ≤ 9; decide, by show (9 : Int) ≤ 4294967295; decide⟩⟩ rec_one
end
end Go.Proofs.Ytdflhdfapnhjjaa
