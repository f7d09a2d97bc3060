/-
  More.
-/
import Derived.Test.YtnhlpifbadncmaaDoorCz6
import Derived.Test.YtnhlpifbadncmaaDoorCz1
import Derived.Test.YtnhlpifbadncmaaDoorCz2
import Derived.Test.YtnhlpifbadncmaaDoorCz3
import Derived.Test.YtnhlpifbadncmaaDoorCz4
import Derived.Test.YtnhlpifbadncmaaDoorCz5
import Derived.Laws.MakeOwn
import Derived.Lib.AppendStr
namespace Go.Proofs.YtnhlpifbadncmaaDoor
open Go.RowKit
set_option linter.unusedVariables false
set_option linter.unusedSimpArgs false
variable {G : World} {P : Program} {n : Nat} {ρ : Slots} {L : Blocks} {ty : TypeId}

/-! ### numbers -/
section
variable {t : TypeId} {k : IntKind} {a b : Int}
end
/-! ### strings -/
section
variable {t : TypeId} {a b : List UInt8}
end
/-! ### conversions -/
theorem op_conv_intW {s d : TypeId} {sd : TypeDesc} {k k' : IntKind} {x : Operand} {a : Int} (hx : ev ρ x = some (.int k a)) (h1 : P.underlying s = some sd) (h2 : P.underlying d = some (.int k')) :
    OpQ P ρ L (.convert s d x) ty (.int k' (k'.wrap a)) :=
  ⟨fun r hr w hw o ho _ => by simp [execOp, ho, hr _ _ hx, convert, run_underlying h1, run_underlying h2, Conv.intToInt]⟩
/-! ### builtins without memory -/
/-! ### addresses -/
/-! ### loads and stores -/
end Go.Proofs.YtnhlpifbadncmaaDoor
namespace Go.Proofs.YtnhlpifbadncmaaDoor
open Go.RowKit Go.Lib
set_option linter.unusedVariables false
set_option linter.unusedSimpArgs false
variable {G : World} {P : Program} {n : Nat} {ρ : Slots} {L : Blocks} {ty : TypeId} {Q : Exit → Act → World → Prop}

/-! ### blocks in a list: one to the front, one away -/
/-! ### new blocks -/
theorem rowLit0 {t e : TypeId} {ti : TypeInfo} (ht : P.underlying t = some (.slice e)) (hi : P.info? e = some ti) : RowLit P t 0 [] e #[] :=
  ⟨fun w => by simp [Instr.buildSlice, run_underlying ht, sizeOf, typeInfo, hi, Instr.fill, newRow, Array.range_zero']⟩
/-! ### rows of one's own -/
/-! ### slices of slices and strings -/
/-! ### calls -/
/-! ### returns -/
end Go.Proofs.YtnhlpifbadncmaaDoor
namespace Go.Proofs.YtnhlpifbadncmaaDoor
open Go.RowKit
set_option linter.unusedVariables false
set_option linter.unusedSimpArgs false
variable {G : World} {P : Program} {n : Nat} {ρ : Slots} {L : Blocks} {ty : TypeId} {Q : Exit → Act → World → Prop} {ops : Array Oper}

/-! ### slots that say the same -/
/-! ### what waits for what -/
/-! ### the moves -/
theorem TA_two {K : Blocks} {W : List Nat} {fuel : Nat} {listed : Array Bool} (i j : Nat) (hr : Region.ready .any ops listed = [i, j]) (h1 : Up P G ops n K W Q fuel listed ρ L i) (h2 : Up P G ops n K W Q fuel listed ρ L j) : TA P G ops n K W Q (fuel + 1) listed ρ L := by
  refine ⟨fun h0 => (by rw [hr] at h0; cases h0), fun k hk => ?_⟩
  rw [hr] at hk
  simp at hk
  rcases hk with rfl | rfl
  · exact h1
  · exact h2
theorem Up_of {K : Blocks} {W : List Nat} {fuel : Nat} {listed : Array Bool} {i : Nat} {oi : Oper} {Φ : Value → Blocks → Prop} (hi : ops[i]? = some oi) (hd : (oi.dst.all fun d => Nat.blt d n) = true) (hg : oi.guard = none)
    (hO : OpT P G ρ L oi.op oi.type Φ) (h : ∀ v L', Φ v L' → (i ∈ W ∨ ∀ p ∈ K, p ∈ L') ∧ TA P G ops n K W Q fuel (listed.setIfInBounds i true) (bindD oi.dst v ρ) L') : Up P G ops n K W Q fuel listed ρ L i :=
  ⟨oi, hi, fun d e => by rw [e] at hd; simpa using hd, true, by unfold Wants; rw [hg], Or.inl ⟨rfl, Φ, hO, h⟩⟩
end Go.Proofs.YtnhlpifbadncmaaDoor
namespace Go.Proofs.YtnhlpifbadncmaaDoor
open Go.RowKit
set_option linter.unusedVariables false
set_option linter.unusedSimpArgs false
variable {G : World} {P : Program} {n : Nat} {ρ : Slots} {L : Blocks} {ty : TypeId} {Q : Exit → Act → World → Prop}

/-! ### closed facts -/
theorem op_lit0 {t e : TypeId} {bytes sz : Nat} {z : Value} (E : ElemTy P t e sz bytes z) : OpNew P G ρ L (.buildSlice t 0 #[]) ty (fun b => .slice (some ⟨b, 0, none⟩) 0 0) (.cells #[] e (0, 0)) := by
  obtain ⟨i, h2, h3, h4, h5⟩ := E.info
  exact op_buildSlice (ps := []) (vs := []) rfl (rowLit0 E.und h2)
end Go.Proofs.YtnhlpifbadncmaaDoor
namespace Go.Proofs.YtnhlpifbadncmaaDoor
open Go.RowKit
set_option linter.unusedVariables false
set_option linter.unusedSimpArgs false
variable {G : World} {P : Program} {n : Nat} {ρ : Slots} {L : Blocks} {ty : TypeId} {Q : Exit → Act → World → Prop}
theorem wrap_u64_nonneg (x : Int) : 0 ≤ IntKind.u64.wrap x ∧ IntKind.u64.wrap x ≤ 18446744073709551615 := by
  unfold IntKind.wrap
  simp only [IntKind.signed, IntKind.bits]
  simp
  omega
end Go.Proofs.YtnhlpifbadncmaaDoor
namespace Go.Proofs.YtnhlpifbadncmaaDoor.Cn
set_option linter.unusedVariables false
set_option linter.unusedSimpArgs false
variable {T : Names}
/-- THE ROW OF ZONES. -/
theorem rows_law (c : Cf) (k w : Nat) : mayP { c with zs := c.zs.drop k ++ c.zs.take k } = mayP c ∧ (mayP c = true → mayP { c with zs := c.zs.take w ++ c.zs.drop (w + 1) } = true) := by
  have hperm : (c.zs.drop k ++ c.zs.take k).Perm c.zs := by
    have := List.perm_append_comm (l₁ := c.zs.drop k) (l₂ := c.zs.take k)
    rwa [List.take_append_drop] at this
  constructor
  · rw [Bool.eq_iff_iff]
    unfold mayP
    rw [Bool.and_eq_true, Bool.and_eq_true, mayZs_iff, mayZs_iff]
    refine and_congr Iff.rfl (and_congr (by rw [hperm.length_eq]) (and_congr ?_ ?_))
    · exact ⟨fun h z hz => h z (hperm.mem_iff.2 hz), fun h z hz => h z (hperm.mem_iff.1 hz)⟩
    · exact (hperm.map _).nodup_iff
  · intro h
    unfold mayP at h ⊢
    rw [Bool.and_eq_true, mayZs_iff] at h ⊢
    obtain ⟨h1, h2, h3, h4⟩ := h
    have hsub : (c.zs.take w ++ c.zs.drop (w + 1)).Sublist c.zs := by
      have a : (c.zs.drop (w + 1)).Sublist (c.zs.drop w) := by rw [← List.drop_drop]; exact List.drop_sublist _ _
      have := List.Sublist.append (List.Sublist.refl (c.zs.take w)) a
      rwa [List.take_append_drop] at this
    exact ⟨h1, Nat.le_trans hsub.length_le h2, fun z hz => h3 z (hsub.subset hz), (hsub.map _).nodup h4⟩
end Go.Proofs.YtnhlpifbadncmaaDoor.Cn
namespace Go.Proofs.YtnhlpifbadncmaaDoor
open Go.RowKit
set_option linter.unusedVariables false
set_option linter.unusedSimpArgs false
variable {G : World} {P : Program} {n : Nat} {ρ : Slots} {L : Blocks} {ty : TypeId} {Q : Exit → Act → World → Prop}
theorem T_mid {σ : Type} {x y : Code} (I : σ → Prop) (ρI : σ → Slots) (LI : σ → Blocks) (hx : T P G n ρ L x (Exit.then (Mid G n I ρI LI) Q)) (hy : ∀ s, I s → T P G n (ρI s) (LI s) y Q) : T P G n ρ L (.seq x y) Q :=
  T_seq (T_mono hx fun e a w h => by
    cases e with
    | normal =>
      obtain ⟨s, h1, h2, h3⟩ := h
      exact (hy s h1).out a w h2 h3
    | _ => exact h)
end Go.Proofs.YtnhlpifbadncmaaDoor
namespace Go.Proofs.YtnhlpifbadncmaaDoor
open Go.RowKit
set_option linter.unusedVariables false
set_option linter.unusedSimpArgs false
variable {G : World} {P : Program} {n : Nat} {ρ : Slots} {L : Blocks} {ty : TypeId} {Q : Exit → Act → World → Prop}
section
variable {α : Type} {r : Rp α} {sz : Nat}
end
theorem TA_cnt {ops : Array Oper} {K : Blocks} {W : List Nat} {L' : Blocks} {fuel : Nat} {listed : Array Bool} (h : TA P G ops n K W Q fuel listed ρ L') (hc : ∀ p, cnt p L' = cnt p L) : TA P G ops n K W Q fuel listed ρ L :=
  TA_heap (fun w hw => hw.cnt fun p => Nat.le_of_eq (hc p)) (fun hk p hp => mem_of_cnt (fun q => Nat.le_of_eq (hc q)) p (hk p hp)) h
end Go.Proofs.YtnhlpifbadncmaaDoor
namespace Go.Proofs.YtnhlpifbadncmaaDoor
open Go.RowKit
open Cn (Zo Cf)
set_option linter.unusedVariables false
set_option linter.unusedSimpArgs false
--auto
variable {G : World} {L : Blocks}
theorem Up_ofD {P : Program} {n : Nat} {ρ : Slots} {Q : Exit → Act → World → Prop} {ops : Array Oper} {K : Blocks} {W : List Nat} {fuel : Nat} {listed : Array Bool} {i d : Nat} {oi : Oper} {Φ : Value → Blocks → Prop} (hi : ops[i]? = some oi) (hd : oi.dst = some d) (hdn : Nat.blt d n = true) (hg : oi.guard = none)
    (hO : OpT P G ρ L oi.op oi.type Φ) (h : ∀ v L', Φ v L' → (i ∈ W ∨ ∀ p ∈ K, p ∈ L') ∧ TA P G ops n K W Q fuel (listed.setIfInBounds i true) ((d, v) :: ρ) L') : Up P G ops n K W Q fuel listed ρ L i :=
  Up_of hi (by rw [hd]; exact hdn) hg hO (by rw [hd]; exact h)
end Go.Proofs.YtnhlpifbadncmaaDoor
namespace Go.Proofs.YtnhlpifbadncmaaDoor
open Go.RowKit
open Cn (Zo Cf)
set_option linter.unusedVariables false
set_option linter.unusedSimpArgs false
--auto
section
variable {G : World} {P : Program} {n : Nat} {ρ : Slots} {L : Blocks} {ty : TypeId} {Q : Exit → Act → World → Prop} {ops : Array Oper} {K : Blocks} {W : List Nat} {fuel : Nat} {listed : Array Bool}
theorem TA_oneGd (i : Nat) {d j dj : Nat} {want b : Bool} {op : Op} {pos : String} {after : Array Edge} {Φ : Value → Blocks → Prop} (hr : Region.ready .any ops listed = [i]) (hi : ops[i]? = some ⟨some d, op, ty, pos, after, some (j, want)⟩) (hdn : Nat.blt d n = true)
    (hs : guardSlot ops j = some dj) (hv : ρ.lookup dj = some (.bool b)) (hb : b = want)
    (hO : OpT P G ρ L op ty Φ) (h : ∀ v L', Φ v L' → (i ∈ W ∨ ∀ p ∈ K, p ∈ L') ∧ TA P G ops n K W Q fuel (listed.setIfInBounds i true) ((d, v) :: ρ) L') : TA P G ops n K W Q (fuel + 1) listed ρ L := by
  refine ⟨fun h0 => (by rw [hr] at h0; cases h0), fun k hk => ?_⟩
  rw [hr] at hk
  obtain rfl : k = i := by simpa using hk
  exact ⟨_, hi, fun d' e => by cases e; simpa using hdn, true, ⟨dj, _, hs, hv, by simp [gsay, hb]⟩, Or.inl ⟨rfl, Φ, hO, h⟩⟩
end
variable {G : World} {L : Blocks}
theorem op_stAll {P : Program} {ρ : Slots} {ty : TypeId} {x y : Operand} {b k : Nat} {t : TypeId} {C D : Array Value} {te : TypeId} (hx : ev ρ x = some (.pointer (some ⟨b, 0, none⟩))) (hy : ev ρ y = some (.agg D))
    (ht : structTy P t k = true) (hC : C.size = k) (hD : D.size = k) (hone : allOne D = true) : OpV P G ρ ((b, Obj.cells C te (0, 0)) :: L) (.store t x y) ty undef ((b, Obj.cells D te (0, 0)) :: L) := by
  have h1 := op_stA (G := G) (P := P) (ρ := ρ) (L := L) (ty := ty) (b := b) (C := C) (te := te) (t := t) (cs := D.toList) hx (by simpa using hy) (by rw [Array.length_toList, hD]; exact ht) (fun v hv => List.all_eq_true.1 hone v hv) (by rw [Array.length_toList, hD, hC]; omega)
  have h2 : putAt C 0 D.toList = D := by
    unfold putAt
    rw [List.drop_eq_nil_of_le (by simp; omega)]
    simp
  rw [h2] at h1
  exact h1
set_option maxRecDepth 100000 in
set_option maxHeartbeats 16000000 in
theorem rows_S (c : Cf) (v : Value) (t q : Int) (hz : sliceR 3 zoR L [v] c.zs) (hg : Glob L) : Spec Tryd.prog G 9 #[.agg (cfCells c v).toArray, .int .i64 t, .int .i64 q] L fun u M => u = .bool true ∧ M = L := by
  have hz0 := hz
  obtain ⟨a, cap, e, hz⟩ := hz.val
  obtain rfl := (List.cons.inj e).1
  clear e
  have hmax := (sliceR.cut hz).2.2.1
  have hcap := (sliceR.cut hz).2.1
  unfold maxLen at hmax
  refine Spec_of (n := 80) Tryd.func9 rfl rfl rfl ?_
  refine T_seq (T_region (TL_new (op_boxA rfl) rfl ?_))
  intro b3
  have g0 : (cfCells (c) (.slice a c.zs.length cap)).toArray[0 + 0]? = some (.int .i64 (c).ups) := rfl
  have g1 : (cfCells (c) (.slice a c.zs.length cap)).toArray[0 + 1]? = some (.int .i64 (c).ded) := rfl
  have g2 : (cfCells (c) (.slice a c.zs.length cap)).toArray[0 + 2]? = some (.int .i64 (c).hdg) := rfl
  have g3 : (cfCells (c) (.slice a c.zs.length cap)).toArray[0 + 3]? = some (.int .i64 (c).wai) := rfl
  have g4 : (cfCells (c) (.slice a c.zs.length cap)).toArray[0 + 4]? = some (.int .i64 (c).tri) := rfl
  have g5 : (cfCells (c) (.slice a c.zs.length cap)).toArray[0 + 5]? = some (.int .i64 (c).res) := rfl
  have g6 : (cfCells (c) (.slice a c.zs.length cap)).toArray[0 + 6]? = some (.int .i64 (c).lim) := rfl
  have g7 : (cfCells (c) (.slice a c.zs.length cap)).toArray[0 + 7]? = some (.int .i64 (c).cac) := rfl
  have g8 : (cfCells (c) (.slice a c.zs.length cap)).toArray[0 + 8]? = some (.int .i64 (c).fli) := rfl
  have g9 : (cfCells (c) (.slice a c.zs.length cap)).toArray[0 + 9]? = some (.int .i64 (c).wtr) := rfl
  have g10 : (cfCells (c) (.slice a c.zs.length cap)).toArray[0 + 10]? = some (.int .i64 (c).ttl) := rfl
  have g11 : (cfCells (c) (.slice a c.zs.length cap)).toArray[0 + 11]? = some (.int .i64 (c).siz) := rfl
  have g12 : (cfCells (c) (.slice a c.zs.length cap)).toArray[0 + 12]? = some (.slice a c.zs.length cap) := rfl
  repeat ((first | with_reducible refine T_seq ?_ | with_reducible refine T_region ?_ | with_reducible refine TL_nil ?_ | with_reducible refine TQ_then ?_ | refine TL_q (op_assign rfl) rfl ?_ | (refine' TL_q (op_ldAll rfl st_25 ?_ ?_) rfl ?_; rotate_left 3; (· repeat ((exact List.mem_cons_self))); (· (rfl)))))
  refine TL_op (op_call hb_16 rfl (large_S c _ (mono_slice mono_zo _ _ _ _ (mem_of_cnt (by intro p; (try simp only [cnt_append, cnt_cons, cnt_nil]) <;> omega)) hz))) rfl ?_
  cases hl : largeB c with
  | true =>
    repeat ((first | with_reducible refine T_seq ?_ | with_reducible refine T_region ?_ | with_reducible refine TL_nil ?_ | with_reducible refine TQ_then ?_ | refine TL_q (op_move rfl) rfl ?_ | (refine' TL_q (op_pickT rfl ?_ rfl) rfl ?_; (· (with_reducible rfl))) | (refine TL_gno rfl rfl ?_ rfl ?_; (· (exact Bool.not_false))) | (refine T_yes rfl ?_ ?_; (· (with_reducible rfl)))))
    refine TL_op (op_call hb_10 rfl (awake_S (hg.mono (mem_of_cnt (by intro p; (try simp only [cnt_append, cnt_cons, cnt_nil]) <;> omega))))) rfl ?_
    repeat ((first | with_reducible refine TL_nil ?_ | with_reducible refine TQ_then ?_ | with_reducible refine T_ret ?_ | with_reducible refine TQ_then_ret ?_ | refine TL_q (op_assign rfl) rfl ?_))
    refine TQ_heap (fun w h => h.tail) ?_
    refine TQ_ret1 6 _ rfl rfl ?_
    exact ⟨rfl, rfl⟩
  | false =>
    obtain ⟨hcl, hlen⟩ := not_large hz hl
    repeat ((first | refine TL_q (op_move rfl) rfl ?_ | (refine TL_gpre rfl rfl ?_ ?_; (· (with_reducible rfl)))))
    refine TG_op (op_call hb_10 rfl (awake_S (hg.mono (mem_of_cnt (by intro p; (try simp only [cnt_append, cnt_cons, cnt_nil]) <;> omega))))) rfl ?_
    repeat ((first | with_reducible refine T_seq ?_ | with_reducible refine T_region ?_ | with_reducible refine TL_nil ?_ | with_reducible refine TQ_then ?_ | with_reducible refine T_skip ?_ | (refine' TL_q (op_bin rfl rfl ?_) rfl ?_; rotate_left 1; (· (exact bin_eql))) | (refine' TL_q (op_pickF rfl ?_ rfl) rfl ?_; (· (with_reducible rfl))) | refine TL_q (op_len_slice rfl Tryd.underlying23) rfl ?_ | refine TL_q (op_fld rfl fld_25_12) rfl ?_ | (refine' TL_q (op_ld rfl pl_23 ?_ ?_) rfl ?_; rotate_left 4; (· repeat ((exact List.mem_cons_self))); (· (assumption))) | (refine TL_gpre rfl rfl ?_ ?_; (· (with_reducible rfl))) | refine TL_gq2 (op_not rfl) rfl ?_ | (refine T_no rfl ?_ ?_; (· (exact Bool.not_true)))))
    by_cases h0 : c.zs.length = 0
    · repeat ((first | with_reducible refine T_seq ?_ | with_reducible refine T_region ?_ | with_reducible refine TL_nil ?_ | with_reducible refine TQ_then ?_ | with_reducible refine T_ret ?_ | with_reducible refine TQ_then_ret ?_ | refine TL_q (op_assign rfl) rfl ?_ | (refine T_yes rfl ?_ ?_; (· (exact dT (by (omega)))))))
      refine TQ_heap (fun w h => h.tail) ?_
      refine TQ_ret1 6 _ rfl rfl ?_
      exact ⟨rfl, rfl⟩
    repeat ((first | with_reducible refine T_seq ?_ | with_reducible refine T_region ?_ | with_reducible refine TQ_then ?_ | with_reducible refine T_skip ?_ | refine TL_q (op_move rfl) rfl ?_ | (refine' TL_q (op_conv_int rfl Tryd.underlying3 Tryd.underlying44 ?_) rfl ?_; (· exact ⟨by omega, by omega⟩)) | refine TL_q (op_conv_intW rfl Tryd.underlying3 Tryd.underlying44) rfl ?_ | refine TL_q (op_len_slice rfl Tryd.underlying23) rfl ?_ | refine TL_q (op_fld rfl fld_25_12) rfl ?_ | (refine' TL_q (op_ld rfl pl_23 ?_ ?_) rfl ?_; rotate_left 4; (· repeat ((exact List.mem_cons_self))); (· (assumption))) | (refine T_no rfl ?_ ?_; (· (exact dF (by (omega)))))))
    have w1 := wrap_u64_nonneg t
    have w2 := wrap_u64_nonneg q
    obtain ⟨tw, htw⟩ : ∃ x, IntKind.u64.wrap t = x := ⟨_, rfl⟩
    obtain ⟨qw, hqw⟩ : ∃ x, IntKind.u64.wrap q = x := ⟨_, rfl⟩
    rw [htw] at w1 ⊢
    rw [hqw] at w2
    have hn : (0 : Int) < (c.zs.length : Nat) := by omega
    have e1 := Int.emod_nonneg tw (show ((c.zs.length : Nat) : Int) ≠ 0 by omega)
    have e2 := Int.emod_lt_of_pos tw hn
    have e3 := Int.emod_nonneg qw (show ((c.zs.length : Nat) : Int) ≠ 0 by omega)
    have e4 := Int.emod_lt_of_pos qw hn
    obtain ⟨k, hk⟩ : ∃ k : Nat, tw % (c.zs.length : Nat) = (k : Nat) := ⟨(tw % (c.zs.length : Nat)).toNat, by omega⟩
    obtain ⟨j, hj⟩ : ∃ k : Nat, qw % (c.zs.length : Nat) = (k : Nat) := ⟨(qw % (c.zs.length : Nat)).toNat, by omega⟩
    repeat ((first | with_reducible refine T_seq ?_ | with_reducible refine T_region ?_ | with_reducible refine TL_nil ?_ | with_reducible refine TQ_then ?_ | refine TL_q (op_move rfl) rfl ?_ | refine TL_q (op_assign rfl) rfl ?_ | (refine' TL_q (op_bin rfl rfl ?_) rfl ?_; rotate_left 1; (· (exact bin_rem (by omega) (by omega)))) | (refine' TL_q (op_conv_int rfl Tryd.underlying3 Tryd.underlying44 ?_) rfl ?_; (· exact ⟨by omega, by omega⟩)) | (refine' TL_q (op_conv_int rfl Tryd.underlying44 Tryd.underlying3 ?_) rfl ?_; (· exact ⟨by omega, by omega⟩)) | refine TL_q (op_conv_intW rfl Tryd.underlying3 Tryd.underlying44) rfl ?_ | refine TL_q (op_conv_intW rfl Tryd.underlying44 Tryd.underlying3) rfl ?_ | refine TL_q (op_len_slice rfl Tryd.underlying23) rfl ?_ | refine TL_q (op_fld rfl fld_25_12) rfl ?_ | (refine' TL_q (op_ld rfl pl_23 ?_ ?_) rfl ?_; rotate_left 4; (· repeat ((exact List.mem_cons_self))); (· (assumption)))))
    rw [hk] at e1 e2 ⊢
    rw [hqw]
    skip
    rw [hj] at e3 e4 ⊢
    skip
    have hwj : IntKind.i64.wrap ((j : Nat) : Int) = ((j : Nat) : Int) := by unfold IntKind.wrap; simp [IntKind.signed, IntKind.bits]; omega
    rw [hwj]
    refine T_cut [(3, .pointer (some ⟨b3, 0, none⟩)), (7, .int .i64 (k : Nat)), (8, .int .i64 (j : Nat))] ((b3, Obj.cells (cfCells c (.slice a c.zs.length cap)).toArray 25 (0, 0)) :: L) ?_ (fun w h => h) ?_
    · (repeat ((first | exact trivial | refine ⟨rfl, ?_⟩)))
    have hK3 : ∀ p ∈ [(b3, Obj.cells (cfCells c (.slice a c.zs.length cap)).toArray 25 (0, 0))], p ∈ (b3, Obj.cells (cfCells c (.slice a c.zs.length cap)).toArray 25 (0, 0)) :: L := by
      intro p hp
      simp only [List.mem_cons, List.not_mem_nil, or_false] at hp
      subst hp
      exact List.mem_cons_self ..
    have hKm := hK3
    refine T_midK (σ := Nat × Nat) (fun _ => True) (fun x => [(3, .pointer (some ⟨b3, 0, none⟩)), (7, .int .i64 (k : Nat)), (8, .int .i64 (j : Nat)), (9, .pointer (some ⟨x.1, 0, none⟩)), (10, .pointer (some ⟨x.2, 0, none⟩))]) (fun x => (x.1, Obj.cells (cfCells c (.slice a c.zs.length cap)).toArray 25 (0, 0)) :: (x.2, Obj.cells (cfCells c (.slice a c.zs.length cap)).toArray 25 (0, 0)) :: (b3, Obj.cells (cfCells c (.slice a c.zs.length cap)).toArray 25 (0, 0)) :: L) ?_ ?_
    · skip
      refine T_draw follows_mixed ([(b3, Obj.cells (cfCells c (.slice a c.zs.length cap)).toArray 25 (0, 0))]) [] ?_
      (refine' TA_take 0 rfl rfl (by kernel_rfl) (quiet_q (op_ldAll rfl st_25 ?_ ?_)) ?_ ?_; rotate_left 3; (· repeat ((exact List.mem_cons_self))); (· (rfl)); (· (assumption)))
      (refine' TA_take 1 rfl rfl (by kernel_rfl) (quiet_q (op_ldAll rfl st_25 ?_ ?_)) ?_ ?_; rotate_left 3; (· repeat ((exact List.mem_cons_self))); (· (rfl)); (· (assumption)))
      refine TA_two 2 3 (by kernel_rfl) ?_ ?_
      · refine Up_ofD rfl rfl rfl rfl (op_alloc (C := (cfCells Cn.zeroC (.slice none 0 0)).toArray) zero_25 rfl) ?_
        rintro _ _ ⟨b9, rfl, rfl⟩
        refine ⟨Or.inr (by (exact (fun z hz => mem_of_cnt (by intro p; (try simp only [cnt_append, cnt_cons, cnt_nil]) <;> omega) z (hKm z hz)))), ?_⟩
        refine TA_oneD 3 (by kernel_rfl) rfl rfl rfl rfl (op_alloc (C := (cfCells Cn.zeroC (.slice none 0 0)).toArray) zero_25 rfl) ?_
        rintro _ _ ⟨b10, rfl, rfl⟩
        refine ⟨Or.inr (by (exact (fun z hz => mem_of_cnt (by intro p; (try simp only [cnt_append, cnt_cons, cnt_nil]) <;> omega) z (hKm z hz)))), ?_⟩
        refine TA_cnt (L' := (b9, Obj.cells (cfCells Cn.zeroC (.slice none 0 0)).toArray 25 (0, 0)) :: (b10, Obj.cells (cfCells Cn.zeroC (.slice none 0 0)).toArray 25 (0, 0)) :: (b3, Obj.cells (cfCells c (.slice a c.zs.length cap)).toArray 25 (0, 0)) :: L) ?_ (by intro p; (try simp only [cnt_append, cnt_cons, cnt_nil]) <;> omega)
        refine TA_oneN 4 (by kernel_rfl) rfl rfl rfl (op_stAll rfl rfl st_25 rfl rfl rfl) ?_
        rintro _ _ ⟨_, rfl⟩
        refine ⟨Or.inr (by (exact (fun z hz => mem_of_cnt (by intro p; (try simp only [cnt_append, cnt_cons, cnt_nil]) <;> omega) z (hKm z hz)))), ?_⟩
        refine TA_cnt (L' := (b10, Obj.cells (cfCells Cn.zeroC (.slice none 0 0)).toArray 25 (0, 0)) :: (b9, Obj.cells (cfCells c (.slice a c.zs.length cap)).toArray 25 (0, 0)) :: (b3, Obj.cells (cfCells c (.slice a c.zs.length cap)).toArray 25 (0, 0)) :: L) ?_ (by intro p; (try simp only [cnt_append, cnt_cons, cnt_nil]) <;> omega)
        refine TA_oneN 5 (by kernel_rfl) rfl rfl rfl (op_stAll rfl rfl st_25 rfl rfl rfl) ?_
        rintro _ _ ⟨_, rfl⟩
        refine ⟨Or.inr (by (exact (fun z hz => mem_of_cnt (by intro p; (try simp only [cnt_append, cnt_cons, cnt_nil]) <;> omega) z (hKm z hz)))), ?_⟩
        refine TA_done (by kernel_rfl) ?_
        refine TQ_mid (b9, b10) trivial ?_ (fun w h => Heap.cnt h (by intro p; (try simp only [cnt_append, cnt_cons, cnt_nil]) <;> omega))
        (repeat ((first | exact trivial | refine ⟨rfl, ?_⟩)))
      · refine Up_ofD rfl rfl rfl rfl (op_alloc (C := (cfCells Cn.zeroC (.slice none 0 0)).toArray) zero_25 rfl) ?_
        rintro _ _ ⟨b10, rfl, rfl⟩
        refine ⟨Or.inr (by (exact (fun z hz => mem_of_cnt (by intro p; (try simp only [cnt_append, cnt_cons, cnt_nil]) <;> omega) z (hKm z hz)))), ?_⟩
        refine TA_oneD 2 (by kernel_rfl) rfl rfl rfl rfl (op_alloc (C := (cfCells Cn.zeroC (.slice none 0 0)).toArray) zero_25 rfl) ?_
        rintro _ _ ⟨b9, rfl, rfl⟩
        refine ⟨Or.inr (by (exact (fun z hz => mem_of_cnt (by intro p; (try simp only [cnt_append, cnt_cons, cnt_nil]) <;> omega) z (hKm z hz)))), ?_⟩
        refine TA_cnt (L' := (b9, Obj.cells (cfCells Cn.zeroC (.slice none 0 0)).toArray 25 (0, 0)) :: (b10, Obj.cells (cfCells Cn.zeroC (.slice none 0 0)).toArray 25 (0, 0)) :: (b3, Obj.cells (cfCells c (.slice a c.zs.length cap)).toArray 25 (0, 0)) :: L) ?_ (by intro p; (try simp only [cnt_append, cnt_cons, cnt_nil]) <;> omega)
        refine TA_oneN 4 (by kernel_rfl) rfl rfl rfl (op_stAll rfl rfl st_25 rfl rfl rfl) ?_
        rintro _ _ ⟨_, rfl⟩
        refine ⟨Or.inr (by (exact (fun z hz => mem_of_cnt (by intro p; (try simp only [cnt_append, cnt_cons, cnt_nil]) <;> omega) z (hKm z hz)))), ?_⟩
        refine TA_cnt (L' := (b10, Obj.cells (cfCells Cn.zeroC (.slice none 0 0)).toArray 25 (0, 0)) :: (b9, Obj.cells (cfCells c (.slice a c.zs.length cap)).toArray 25 (0, 0)) :: (b3, Obj.cells (cfCells c (.slice a c.zs.length cap)).toArray 25 (0, 0)) :: L) ?_ (by intro p; (try simp only [cnt_append, cnt_cons, cnt_nil]) <;> omega)
        refine TA_oneN 5 (by kernel_rfl) rfl rfl rfl (op_stAll rfl rfl st_25 rfl rfl rfl) ?_
        rintro _ _ ⟨_, rfl⟩
        refine ⟨Or.inr (by (exact (fun z hz => mem_of_cnt (by intro p; (try simp only [cnt_append, cnt_cons, cnt_nil]) <;> omega) z (hKm z hz)))), ?_⟩
        refine TA_done (by kernel_rfl) ?_
        refine TQ_mid (b9, b10) trivial ?_ (fun w h => Heap.cnt h (by intro p; (try simp only [cnt_append, cnt_cons, cnt_nil]) <;> omega))
        (repeat ((first | exact trivial | refine ⟨rfl, ?_⟩)))
    rintro ⟨b9, b10⟩ _
    dsimp only
    have hdrop : sliceR 3 zoR L [.slice (cutA a cap k 3) (c.zs.drop k).length (cap - k)] (c.zs.drop k) := by
      have := hz.drop (k := k) (by omega)
      rwa [show c.zs.length - k = (c.zs.drop k).length by rw [List.length_drop]] at this
    have htake : sliceR 3 zoR L [.slice a (c.zs.take k).length cap] (c.zs.take k) := by
      rw [show (c.zs.take k).length = k by rw [List.length_take]; omega]
      exact hz.take (k := k) (by omega)
    clear hKm
    have hKm : ∀ p ∈ [(b3, Obj.cells (cfCells c (.slice a c.zs.length cap)).toArray 25 (0, 0))], p ∈ (b10, Obj.cells (cfCells c (.slice a c.zs.length cap)).toArray 25 (0, 0)) :: (b3, Obj.cells (cfCells c (.slice a c.zs.length cap)).toArray 25 (0, 0)) :: L := fun p hp => List.mem_cons_of_mem _ (hK3 p hp)
    refine T_mid (σ := Option Addr × Nat × Blocks) (fun x => ORow zoR 38 3 [] x.1 x.2.1 (c.zs.drop k ++ c.zs.take k) x.2.2) (fun _ => [(3, .pointer (some ⟨b3, 0, none⟩)), (8, .int .i64 (j : Nat)), (9, .pointer (some ⟨b9, 0, none⟩)), (10, .pointer (some ⟨b10, 0, none⟩))]) (fun x => (b9, Obj.cells (cfCells c (.slice x.1 (c.zs.drop k ++ c.zs.take k).length x.2.1)).toArray 25 (0, 0)) :: (b10, Obj.cells (cfCells c (.slice a c.zs.length cap)).toArray 25 (0, 0)) :: (b3, Obj.cells (cfCells c (.slice a c.zs.length cap)).toArray 25 (0, 0)) :: (x.2.2 ++ L)) ?_ ?_
    · skip
      refine T_draw follows_mixed ([(b3, Obj.cells (cfCells c (.slice a c.zs.length cap)).toArray 25 (0, 0))]) [] ?_
      (refine' TA_take 1 rfl rfl (by kernel_rfl) (quiet_q (op_fld rfl fld_25_12)) ?_ ?_; (· (intro p hp; grind)))
      (refine' TA_take 2 rfl rfl (by kernel_rfl) (quiet_q (op_ld rfl pl_23 ?_ ?_)) ?_ ?_; rotate_left 4; (· repeat ((exact List.mem_cons_self))); (· (assumption)); (· (intro p hp; grind)))
      (refine' TA_take 3 rfl rfl (by kernel_rfl) (quiet_q (op_move rfl)) ?_ ?_; (· (intro p hp; grind)))
      (refine' TA_take 4 rfl rfl (by kernel_rfl) (quiet_q (op_cutFrom ety_23 rfl rfl ?_ ?_)) ?_ ?_; (· omega); (· omega); (· (intro p hp; grind)))
      (refine' TA_take 6 rfl rfl (by kernel_rfl) (quiet_q (op_fld rfl fld_25_12)) ?_ ?_; (· (intro p hp; grind)))
      (refine' TA_take 7 rfl rfl (by kernel_rfl) (quiet_q (op_ld rfl pl_23 ?_ ?_)) ?_ ?_; rotate_left 4; (· repeat ((exact List.mem_cons_self))); (· (assumption)); (· (intro p hp; grind)))
      (refine' TA_take 8 rfl rfl (by kernel_rfl) (quiet_q (op_move rfl)) ?_ ?_; (· (intro p hp; grind)))
      (refine' TA_take 9 rfl rfl (by kernel_rfl) (quiet_q (op_slice_to ety_23 rfl rfl ?_ ?_)) ?_ ?_; (· omega); (· omega); (· (intro p hp; grind)))
      refine TA_oneD 0 (by kernel_rfl) rfl rfl rfl rfl (op_lit0 ety_23) ?_
      rintro _ _ ⟨bE, rfl, rfl⟩
      refine ⟨Or.inr (by (exact (fun z hz => mem_of_cnt (by intro p; (try simp only [cnt_append, cnt_cons, cnt_nil]) <;> omega) z (hKm z hz)))), ?_⟩
      refine TA_cnt (L' := [(bE, Obj.cells #[] 38 (0, 0))] ++ ((b9, Obj.cells (cfCells c (.slice a c.zs.length cap)).toArray 25 (0, 0)) :: (b10, Obj.cells (cfCells c (.slice a c.zs.length cap)).toArray 25 (0, 0)) :: (b3, Obj.cells (cfCells c (.slice a c.zs.length cap)).toArray 25 (0, 0)) :: L)) ?_ (by intro p; (try simp only [cnt_append, cnt_cons, cnt_nil]) <;> omega)
      refine TA_oneD 5 (by kernel_rfl) rfl rfl rfl rfl (op_appendG2 (r := zoR) (L0 := L) (l := []) (m := c.zs.drop k) ety_23 rfl rfl rfl (by rw [List.length_drop]; rfl) ORow.made0 hdrop (mem_of_cnt (by intro p; (try simp only [cnt_append, cnt_cons, cnt_nil]) <;> omega)) mono_zo (fun cs y h => zoR.one h) (by rw [List.length_drop]; simp; omega) (by decide)) ?_
      rintro _ _ ⟨a5, c5, B5, rfl, hB5, rfl⟩
      refine ⟨Or.inr (by (exact (fun z hz => mem_of_cnt (by intro p; (try simp only [cnt_append, cnt_cons, cnt_nil]) <;> omega) z (hKm z hz)))), ?_⟩
      refine TA_cnt (L' := B5 ++ ((b9, Obj.cells (cfCells c (.slice a c.zs.length cap)).toArray 25 (0, 0)) :: (b10, Obj.cells (cfCells c (.slice a c.zs.length cap)).toArray 25 (0, 0)) :: (b3, Obj.cells (cfCells c (.slice a c.zs.length cap)).toArray 25 (0, 0)) :: L)) ?_ (by intro p; (try simp only [cnt_append, cnt_cons, cnt_nil]) <;> omega)
      refine TA_oneD 10 (by kernel_rfl) rfl rfl rfl rfl (op_appendG2 (r := zoR) (L0 := L) (l := [] ++ c.zs.drop k) (m := c.zs.take k) ety_23 rfl rfl rfl (by rw [List.length_take]; omega) hB5 htake (mem_of_cnt (by intro p; (try simp only [cnt_append, cnt_cons, cnt_nil]) <;> omega)) mono_zo (fun cs y h => zoR.one h) (by rw [List.nil_append, List.length_drop, List.length_take]; omega) (by decide)) ?_
      rintro _ _ ⟨a6, c6, B6, rfl, hB6, rfl⟩
      refine ⟨Or.inr (by (exact (fun z hz => mem_of_cnt (by intro p; (try simp only [cnt_append, cnt_cons, cnt_nil]) <;> omega) z (hKm z hz)))), ?_⟩
      (refine' TA_take 11 rfl rfl (by kernel_rfl) (quiet_q (op_fld rfl fld_25_12)) ?_ ?_; (· (intro p hp; grind)))
      refine TA_cnt (L' := (b9, Obj.cells (cfCells c (.slice a c.zs.length cap)).toArray 25 (0, 0)) :: (B6 ++ ((b10, Obj.cells (cfCells c (.slice a c.zs.length cap)).toArray 25 (0, 0)) :: (b3, Obj.cells (cfCells c (.slice a c.zs.length cap)).toArray 25 (0, 0)) :: L))) ?_ (by intro p; (try simp only [cnt_append, cnt_cons, cnt_nil]) <;> omega)
      refine TA_oneN 12 (by kernel_rfl) rfl rfl rfl (op_st rfl rfl one_23 rfl g12 rfl) ?_
      rintro _ _ ⟨_, rfl⟩
      refine ⟨Or.inr (by (exact (fun z hz => mem_of_cnt (by intro p; (try simp only [cnt_append, cnt_cons, cnt_nil]) <;> omega) z (hKm z hz)))), ?_⟩
      refine TA_done (by kernel_rfl) ?_
      refine TQ_mid (a6, c6, B6) (hB6.imp (fun cs x _ h => h)) ?_ (fun w h => by (have h' : Heap G w ((b9, Obj.cells (cfCells c (.slice a6 (c.zs.drop k ++ c.zs.take k).length c6)).toArray 25 (0, 0)) :: (B6 ++ ((b10, Obj.cells (cfCells c (.slice a c.zs.length cap)).toArray 25 (0, 0)) :: (b3, Obj.cells (cfCells c (.slice a c.zs.length cap)).toArray 25 (0, 0)) :: L))) := h); (show Heap G w ((b9, Obj.cells (cfCells c (.slice a6 (c.zs.drop k ++ c.zs.take k).length c6)).toArray 25 (0, 0)) :: (b10, Obj.cells (cfCells c (.slice a c.zs.length cap)).toArray 25 (0, 0)) :: (b3, Obj.cells (cfCells c (.slice a c.zs.length cap)).toArray 25 (0, 0)) :: (B6 ++ L))); exact Heap.cnt h' (by intro p; (try simp only [cnt_append, cnt_cons, cnt_nil]) <;> omega))
      (repeat ((first | exact trivial | refine ⟨rfl, ?_⟩)))
    rintro ⟨a6, c6, B6⟩ hB6
    dsimp only at hB6 ⊢
    have htj : sliceR 3 zoR L [.slice a (c.zs.take j).length cap] (c.zs.take j) := by
      rw [show (c.zs.take j).length = j by rw [List.length_take]; omega]
      exact hz.take (k := j) (by omega)
    have hdj : sliceR 3 zoR L [.slice (cutA a cap (j + 1) 3) (c.zs.drop (j + 1)).length (cap - (j + 1))] (c.zs.drop (j + 1)) := by
      have := hz.drop (k := j + 1) (by omega)
      rwa [show c.zs.length - (j + 1) = (c.zs.drop (j + 1)).length by rw [List.length_drop]] at this
    clear hKm
    have hKm : ∀ p ∈ [(b3, Obj.cells (cfCells c (.slice a c.zs.length cap)).toArray 25 (0, 0))], p ∈ (b9, Obj.cells (cfCells c (.slice a6 (c.zs.drop k ++ c.zs.take k).length c6)).toArray 25 (0, 0)) :: (b3, Obj.cells (cfCells c (.slice a c.zs.length cap)).toArray 25 (0, 0)) :: (B6 ++ L) := by
      intro p hp
      simp only [List.mem_cons, List.not_mem_nil, or_false] at hp
      subst hp
      exact List.mem_cons_of_mem _ (List.mem_cons_self ..)
    refine T_mid (σ := Option Addr × Nat × Blocks) (fun x => ORow zoR 38 3 [] x.1 x.2.1 (c.zs.take j ++ c.zs.drop (j + 1)) x.2.2) (fun _ => [(3, .pointer (some ⟨b3, 0, none⟩)), (9, .pointer (some ⟨b9, 0, none⟩)), (10, .pointer (some ⟨b10, 0, none⟩))]) (fun x => (b10, Obj.cells (cfCells c (.slice x.1 (c.zs.take j ++ c.zs.drop (j + 1)).length x.2.1)).toArray 25 (0, 0)) :: (b9, Obj.cells (cfCells c (.slice a6 (c.zs.drop k ++ c.zs.take k).length c6)).toArray 25 (0, 0)) :: (b3, Obj.cells (cfCells c (.slice a c.zs.length cap)).toArray 25 (0, 0)) :: (x.2.2 ++ (B6 ++ L))) ?_ ?_
    · skip
      refine T_draw follows_mixed ([(b3, Obj.cells (cfCells c (.slice a c.zs.length cap)).toArray 25 (0, 0))]) [] ?_
      (refine' TA_take 1 rfl rfl (by kernel_rfl) (quiet_q (op_fld rfl fld_25_12)) ?_ ?_; (· (intro p hp; grind)))
      (refine' TA_take 2 rfl rfl (by kernel_rfl) (quiet_q (op_ld rfl pl_23 ?_ ?_)) ?_ ?_; rotate_left 4; (· repeat ((exact List.mem_cons_self))); (· (assumption)); (· (intro p hp; grind)))
      (refine' TA_take 3 rfl rfl (by kernel_rfl) (quiet_q (op_move rfl)) ?_ ?_; (· (intro p hp; grind)))
      (refine' TA_take 4 rfl rfl (by kernel_rfl) (quiet_q (op_slice_to ety_23 rfl rfl ?_ ?_)) ?_ ?_; (· omega); (· omega); (· (intro p hp; grind)))
      (refine' TA_take 6 rfl rfl (by kernel_rfl) (quiet_q (op_fld rfl fld_25_12)) ?_ ?_; (· (intro p hp; grind)))
      (refine' TA_take 7 rfl rfl (by kernel_rfl) (quiet_q (op_ld rfl pl_23 ?_ ?_)) ?_ ?_; rotate_left 4; (· repeat ((exact List.mem_cons_self))); (· (assumption)); (· (intro p hp; grind)))
      (refine' TA_take 8 rfl rfl (by kernel_rfl) (quiet_q (op_move rfl)) ?_ ?_; (· (intro p hp; grind)))
      (refine' TA_take 9 rfl rfl (by kernel_rfl) (quiet_q (op_bin rfl rfl ?_)) ?_ ?_; rotate_left 1; (· (exact bin_add ⟨by omega, by omega⟩)); (· (intro p hp; grind)))
      (refine' TA_take 10 rfl rfl (by kernel_rfl) (quiet_q (op_cutFrom ety_23 rfl rfl ?_ ?_)) ?_ ?_; (· omega); (· omega); (· (intro p hp; grind)))
      refine TA_oneD 0 (by kernel_rfl) rfl rfl rfl rfl (op_lit0 ety_23) ?_
      rintro _ _ ⟨bE, rfl, rfl⟩
      refine ⟨Or.inr (by (exact (fun z hz => mem_of_cnt (by intro p; (try simp only [cnt_append, cnt_cons, cnt_nil]) <;> omega) z (hKm z hz)))), ?_⟩
      refine TA_cnt (L' := [(bE, Obj.cells #[] 38 (0, 0))] ++ ((b9, Obj.cells (cfCells c (.slice a6 (c.zs.drop k ++ c.zs.take k).length c6)).toArray 25 (0, 0)) :: (b10, Obj.cells (cfCells c (.slice a c.zs.length cap)).toArray 25 (0, 0)) :: (b3, Obj.cells (cfCells c (.slice a c.zs.length cap)).toArray 25 (0, 0)) :: (B6 ++ L))) ?_ (by intro p; (try simp only [cnt_append, cnt_cons, cnt_nil]) <;> omega)
      refine TA_oneD 5 (by kernel_rfl) rfl rfl rfl rfl (op_appendG2 (r := zoR) (L0 := L) (l := []) (m := c.zs.take j) ety_23 rfl rfl rfl (by rw [List.length_take]; omega) ORow.made0 htj (mem_of_cnt (by intro p; (try simp only [cnt_append, cnt_cons, cnt_nil]) <;> omega)) mono_zo (fun cs y h => zoR.one h) (by rw [List.length_take]; simp; omega) (by decide)) ?_
      rintro _ _ ⟨a7, c7, B7, rfl, hB7, rfl⟩
      refine ⟨Or.inr (by (exact (fun z hz => mem_of_cnt (by intro p; (try simp only [cnt_append, cnt_cons, cnt_nil]) <;> omega) z (hKm z hz)))), ?_⟩
      refine TA_cnt (L' := B7 ++ ((b9, Obj.cells (cfCells c (.slice a6 (c.zs.drop k ++ c.zs.take k).length c6)).toArray 25 (0, 0)) :: (b10, Obj.cells (cfCells c (.slice a c.zs.length cap)).toArray 25 (0, 0)) :: (b3, Obj.cells (cfCells c (.slice a c.zs.length cap)).toArray 25 (0, 0)) :: (B6 ++ L))) ?_ (by intro p; (try simp only [cnt_append, cnt_cons, cnt_nil]) <;> omega)
      refine TA_oneD 11 (by kernel_rfl) rfl rfl rfl rfl (op_appendG2 (r := zoR) (L0 := L) (l := [] ++ c.zs.take j) (m := c.zs.drop (j + 1)) (a2 := cutA a cap (j + 1) 3) (c2 := cap - (j + 1)) ety_23 rfl rfl rfl (by rw [List.length_drop]; rfl) hB7 hdj (mem_of_cnt (by intro p; (try simp only [cnt_append, cnt_cons, cnt_nil]) <;> omega)) mono_zo (fun cs y h => zoR.one h) (by rw [List.nil_append, List.length_drop, List.length_take]; omega) (by decide)) ?_
      rintro _ _ ⟨a8, c8, B8, rfl, hB8, rfl⟩
      refine ⟨Or.inr (by (exact (fun z hz => mem_of_cnt (by intro p; (try simp only [cnt_append, cnt_cons, cnt_nil]) <;> omega) z (hKm z hz)))), ?_⟩
      (refine' TA_take 12 rfl rfl (by kernel_rfl) (quiet_q (op_fld rfl fld_25_12)) ?_ ?_; (· (intro p hp; grind)))
      refine TA_cnt (L' := (b10, Obj.cells (cfCells c (.slice a c.zs.length cap)).toArray 25 (0, 0)) :: (B8 ++ ((b9, Obj.cells (cfCells c (.slice a6 (c.zs.drop k ++ c.zs.take k).length c6)).toArray 25 (0, 0)) :: (b3, Obj.cells (cfCells c (.slice a c.zs.length cap)).toArray 25 (0, 0)) :: (B6 ++ L)))) ?_ (by intro p; (try simp only [cnt_append, cnt_cons, cnt_nil]) <;> omega)
      refine TA_oneN 13 (by kernel_rfl) rfl rfl rfl (op_st rfl rfl one_23 rfl g12 rfl) ?_
      rintro _ _ ⟨_, rfl⟩
      refine ⟨Or.inr (by (exact (fun z hz => mem_of_cnt (by intro p; (try simp only [cnt_append, cnt_cons, cnt_nil]) <;> omega) z (hKm z hz)))), ?_⟩
      refine TA_done (by kernel_rfl) ?_
      refine TQ_mid (a8, c8, B8) (hB8.imp (fun cs x _ h => h)) ?_ (fun w h => by (have h' : Heap G w ((b10, Obj.cells (cfCells c (.slice a8 (c.zs.take j ++ c.zs.drop (j + 1)).length c8)).toArray 25 (0, 0)) :: (B8 ++ ((b9, Obj.cells (cfCells c (.slice a6 (c.zs.drop k ++ c.zs.take k).length c6)).toArray 25 (0, 0)) :: (b3, Obj.cells (cfCells c (.slice a c.zs.length cap)).toArray 25 (0, 0)) :: (B6 ++ L)))) := h); (show Heap G w ((b10, Obj.cells (cfCells c (.slice a8 (c.zs.take j ++ c.zs.drop (j + 1)).length c8)).toArray 25 (0, 0)) :: (b9, Obj.cells (cfCells c (.slice a6 (c.zs.drop k ++ c.zs.take k).length c6)).toArray 25 (0, 0)) :: (b3, Obj.cells (cfCells c (.slice a c.zs.length cap)).toArray 25 (0, 0)) :: (B8 ++ (B6 ++ L)))); exact Heap.cnt h' (by intro p; (try simp only [cnt_append, cnt_cons, cnt_nil]) <;> omega))
      (repeat ((first | exact trivial | refine ⟨rfl, ?_⟩)))
    rintro ⟨a8, c8, B8⟩ hB8
    dsimp only at hB8 ⊢
    obtain ⟨law1, law2⟩ := Cn.rows_law c k j
    have m8 : ∀ z ∈ (c.zs.drop k ++ c.zs.take k), z.name.length ≤ 1000000 := fun z hz => hcl.small z (by rcases List.mem_append.1 hz with h | h; exact List.mem_of_mem_drop h; exact List.mem_of_mem_take h)
    have m9 : ∀ z ∈ (c.zs.take j ++ c.zs.drop (j + 1)), z.name.length ≤ 1000000 := fun z hz => hcl.small z (by rcases List.mem_append.1 hz with h | h; exact List.mem_of_mem_take h; exact List.mem_of_mem_drop h)
    have cl8 : CfL ((b10, Obj.cells (cfCells c (.slice a8 (c.zs.take j ++ c.zs.drop (j + 1)).length c8)).toArray 25 (0, 0)) :: (b9, Obj.cells (cfCells c (.slice a6 (c.zs.drop k ++ c.zs.take k).length c6)).toArray 25 (0, 0)) :: (b3, Obj.cells (cfCells c (.slice a c.zs.length cap)).toArray 25 (0, 0)) :: (B8 ++ (B6 ++ L))) { c with zs := (c.zs.drop k ++ c.zs.take k) } (.slice a6 (c.zs.drop k ++ c.zs.take k).length c6) := ⟨ORow.sliceR mono_zo hB6 (by simp) (mem_of_cnt (by intro p; (try simp only [cnt_append, cnt_cons, cnt_nil]) <;> omega)), m8⟩
    have cl9 : CfL ((b10, Obj.cells (cfCells c (.slice a8 (c.zs.take j ++ c.zs.drop (j + 1)).length c8)).toArray 25 (0, 0)) :: (b9, Obj.cells (cfCells c (.slice a6 (c.zs.drop k ++ c.zs.take k).length c6)).toArray 25 (0, 0)) :: (b3, Obj.cells (cfCells c (.slice a c.zs.length cap)).toArray 25 (0, 0)) :: (B8 ++ (B6 ++ L))) { c with zs := (c.zs.take j ++ c.zs.drop (j + 1)) } (.slice a8 (c.zs.take j ++ c.zs.drop (j + 1)).length c8) := ⟨ORow.sliceR mono_zo hB8 (by simp) (mem_of_cnt (by intro p; (try simp only [cnt_append, cnt_cons, cnt_nil]) <;> omega)), m9⟩
    have cl3 : CfL ((b10, Obj.cells (cfCells c (.slice a8 (c.zs.take j ++ c.zs.drop (j + 1)).length c8)).toArray 25 (0, 0)) :: (b9, Obj.cells (cfCells c (.slice a6 (c.zs.drop k ++ c.zs.take k).length c6)).toArray 25 (0, 0)) :: (b3, Obj.cells (cfCells c (.slice a c.zs.length cap)).toArray 25 (0, 0)) :: (B8 ++ (B6 ++ L))) c (.slice a c.zs.length cap) := hcl.mono (mem_of_cnt (by intro p; (try simp only [cnt_append, cnt_cons, cnt_nil]) <;> omega))
    have em : mayE1 { c with zs := (c.zs.drop k ++ c.zs.take k) } = mayE1 c := by unfold mayE1; rw [law1]
    clear hKm
    have hKm : ∀ p ∈ [(b10, Obj.cells (cfCells c (.slice a8 (c.zs.take j ++ c.zs.drop (j + 1)).length c8)).toArray 25 (0, 0)), (b9, Obj.cells (cfCells c (.slice a6 (c.zs.drop k ++ c.zs.take k).length c6)).toArray 25 (0, 0)), (b3, Obj.cells (cfCells c (.slice a c.zs.length cap)).toArray 25 (0, 0))], p ∈ (b10, Obj.cells (cfCells c (.slice a8 (c.zs.take j ++ c.zs.drop (j + 1)).length c8)).toArray 25 (0, 0)) :: (b9, Obj.cells (cfCells c (.slice a6 (c.zs.drop k ++ c.zs.take k).length c6)).toArray 25 (0, 0)) :: (b3, Obj.cells (cfCells c (.slice a c.zs.length cap)).toArray 25 (0, 0)) :: (B8 ++ (B6 ++ L)) := by
      intro p hp
      simp only [List.mem_cons, List.not_mem_nil, or_false] at hp
      rcases hp with rfl | rfl | rfl <;> simp
    refine T_mid (σ := Unit) (fun _ => True) (fun _ => [(6, .bool true)]) (fun _ => (b10, Obj.cells (cfCells c (.slice a8 (c.zs.take j ++ c.zs.drop (j + 1)).length c8)).toArray 25 (0, 0)) :: (b9, Obj.cells (cfCells c (.slice a6 (c.zs.drop k ++ c.zs.take k).length c6)).toArray 25 (0, 0)) :: (b3, Obj.cells (cfCells c (.slice a c.zs.length cap)).toArray 25 (0, 0)) :: (B8 ++ (B6 ++ L))) ?_ ?_
    · skip
      cases hm : Cn.mayP c with
      | true =>
        have ec : mayE1 c = 0 := mayE1_yes hm
        have e9 : mayE1 { c with zs := (c.zs.take j ++ c.zs.drop (j + 1)) } = 0 := mayE1_yes (law2 hm)
        rw [ec] at em
        refine T_draw follows_mixed ([(b10, Obj.cells (cfCells c (.slice a8 (c.zs.take j ++ c.zs.drop (j + 1)).length c8)).toArray 25 (0, 0)), (b9, Obj.cells (cfCells c (.slice a6 (c.zs.drop k ++ c.zs.take k).length c6)).toArray 25 (0, 0)), (b3, Obj.cells (cfCells c (.slice a c.zs.length cap)).toArray 25 (0, 0))]) [] ?_
        (refine' TA_take 0 rfl rfl (by kernel_rfl) (quiet_q (op_ldAll rfl st_25 ?_ ?_)) ?_ ?_; rotate_left 3; (· repeat ((first | exact List.mem_cons_self | apply List.mem_cons_of_mem))); (· (rfl)); (· (assumption)))
        (refine' TA_take 2 rfl rfl (by kernel_rfl) (quiet_q (op_ldAll rfl st_25 ?_ ?_)) ?_ ?_; rotate_left 3; (· repeat ((first | exact List.mem_cons_self | apply List.mem_cons_of_mem))); (· (rfl)); (· (assumption)))
        refine TA_oneD 1 (by kernel_rfl) rfl rfl rfl rfl (op_call hb_11 rfl (pMay_S { c with zs := (c.zs.drop k ++ c.zs.take k) } (.slice a6 (c.zs.drop k ++ c.zs.take k).length c6) cl8)) ?_
        rintro _ _ ⟨rfl, rfl⟩; rw [em]
        refine ⟨Or.inr (by (exact (fun z hz => mem_of_cnt (by intro p; (try simp only [cnt_append, cnt_cons, cnt_nil]) <;> omega) z (hKm z hz)))), ?_⟩
        refine TA_oneD 3 (by kernel_rfl) rfl rfl rfl rfl (op_call hb_11 rfl (pMay_S c (.slice a c.zs.length cap) cl3)) ?_
        rintro _ _ ⟨rfl, rfl⟩; rw [ec]
        refine ⟨Or.inr (by (exact (fun z hz => mem_of_cnt (by intro p; (try simp only [cnt_append, cnt_cons, cnt_nil]) <;> omega) z (hKm z hz)))), ?_⟩
        (refine' TA_take 4 rfl rfl (by kernel_rfl) (quiet_q (op_bin rfl rfl ?_)) ?_ ?_; rotate_left 1; (· (exact bin_eql)); (· (assumption)))
        (refine' TA_take 5 rfl rfl (by kernel_rfl) (quiet_q (op_move rfl)) ?_ ?_; (· (assumption)))
        (refine' TA_take 6 rfl rfl (by kernel_rfl) (quiet_g2 rfl rfl (by (exact Bool.not_false)) (op_ldAll rfl st_25 ?_ ?_)) ?_ ?_; rotate_left 3; (· repeat ((first | exact List.mem_cons_self | apply List.mem_cons_of_mem))); (· (rfl)); (· (assumption)))
        refine TA_oneGd 7 (by kernel_rfl) rfl rfl rfl rfl (by (exact Bool.not_false)) (op_call hb_11 rfl (pMay_S c (.slice a c.zs.length cap) cl3)) ?_
        rintro _ _ ⟨rfl, rfl⟩; rw [ec]
        refine ⟨Or.inr (by (exact (fun z hz => mem_of_cnt (by intro p; (try simp only [cnt_append, cnt_cons, cnt_nil]) <;> omega) z (hKm z hz)))), ?_⟩
        (refine' TA_take 8 rfl rfl (by kernel_rfl) (quiet_g2 rfl rfl (by (exact Bool.not_false)) (op_bin rfl rfl ?_)) ?_ ?_; rotate_left 1; (· (exact bin_neq)); (· (assumption)))
        (refine' TA_take 9 rfl rfl (by kernel_rfl) (quiet_g2 rfl rfl (by (exact Bool.not_false)) (op_move rfl)) ?_ ?_; (· (assumption)))
        (refine' TA_take 10 rfl rfl (by kernel_rfl) (quiet_g2 rfl rfl (by (exact Bool.not_true)) (op_ldAll rfl st_25 ?_ ?_)) ?_ ?_; rotate_left 3; (· repeat ((exact List.mem_cons_self))); (· (rfl)); (· (assumption)))
        refine TA_oneGd 11 (by kernel_rfl) rfl rfl rfl rfl (by (exact Bool.not_true)) (op_call hb_11 rfl (pMay_S { c with zs := (c.zs.take j ++ c.zs.drop (j + 1)) } (.slice a8 (c.zs.take j ++ c.zs.drop (j + 1)).length c8) cl9)) ?_
        rintro _ _ ⟨rfl, rfl⟩; rw [e9]
        refine ⟨Or.inr (by (exact (fun z hz => mem_of_cnt (by intro p; (try simp only [cnt_append, cnt_cons, cnt_nil]) <;> omega) z (hKm z hz)))), ?_⟩
        (refine' TA_take 12 rfl rfl (by kernel_rfl) (quiet_g2 rfl rfl (by (exact Bool.not_true)) (op_bin rfl rfl ?_)) ?_ ?_; rotate_left 1; (· (exact bin_eql)); (· (assumption)))
        (refine' TA_take 13 rfl rfl (by kernel_rfl) (quiet_g2 rfl rfl (by (exact Bool.not_false)) (op_pickF rfl ?_ rfl)) ?_ ?_; (· (exact Bool.not_true)); (· (assumption)))
        (refine' TA_take 14 rfl rfl (by kernel_rfl) (quiet_q (op_pickT rfl ?_ rfl)) ?_ ?_; (· (exact Bool.not_false)); (· (assumption)))
        (refine' TA_take 15 rfl rfl (by kernel_rfl) (quiet_q (op_assign rfl)) ?_ ?_; (· (assumption)))
        refine TA_done (by kernel_rfl) ?_
        refine TQ_mid () trivial ?_ (fun w h => h)
        (repeat (first | exact trivial | refine ⟨rfl, ?_⟩))
      | false =>
        have ec : mayE1 c = 1 := mayE1_no hm
        rw [ec] at em
        refine T_draw follows_mixed ([(b10, Obj.cells (cfCells c (.slice a8 (c.zs.take j ++ c.zs.drop (j + 1)).length c8)).toArray 25 (0, 0)), (b9, Obj.cells (cfCells c (.slice a6 (c.zs.drop k ++ c.zs.take k).length c6)).toArray 25 (0, 0)), (b3, Obj.cells (cfCells c (.slice a c.zs.length cap)).toArray 25 (0, 0))]) [] ?_
        (refine' TA_take 0 rfl rfl (by kernel_rfl) (quiet_q (op_ldAll rfl st_25 ?_ ?_)) ?_ ?_; rotate_left 3; (· repeat ((first | exact List.mem_cons_self | apply List.mem_cons_of_mem))); (· (rfl)); (· (assumption)))
        (refine' TA_take 2 rfl rfl (by kernel_rfl) (quiet_q (op_ldAll rfl st_25 ?_ ?_)) ?_ ?_; rotate_left 3; (· repeat ((first | exact List.mem_cons_self | apply List.mem_cons_of_mem))); (· (rfl)); (· (assumption)))
        refine TA_oneD 1 (by kernel_rfl) rfl rfl rfl rfl (op_call hb_11 rfl (pMay_S { c with zs := (c.zs.drop k ++ c.zs.take k) } (.slice a6 (c.zs.drop k ++ c.zs.take k).length c6) cl8)) ?_
        rintro _ _ ⟨rfl, rfl⟩; rw [em]
        refine ⟨Or.inr (by (exact (fun z hz => mem_of_cnt (by intro p; (try simp only [cnt_append, cnt_cons, cnt_nil]) <;> omega) z (hKm z hz)))), ?_⟩
        refine TA_oneD 3 (by kernel_rfl) rfl rfl rfl rfl (op_call hb_11 rfl (pMay_S c (.slice a c.zs.length cap) cl3)) ?_
        rintro _ _ ⟨rfl, rfl⟩; rw [ec]
        refine ⟨Or.inr (by (exact (fun z hz => mem_of_cnt (by intro p; (try simp only [cnt_append, cnt_cons, cnt_nil]) <;> omega) z (hKm z hz)))), ?_⟩
        (refine' TA_take 4 rfl rfl (by kernel_rfl) (quiet_q (op_bin rfl rfl ?_)) ?_ ?_; rotate_left 1; (· (exact bin_eql)); (· (assumption)))
        (refine' TA_take 5 rfl rfl (by kernel_rfl) (quiet_q (op_move rfl)) ?_ ?_; (· (assumption)))
        (refine' TA_take 6 rfl rfl (by kernel_rfl) (quiet_g2 rfl rfl (by (exact Bool.not_false)) (op_ldAll rfl st_25 ?_ ?_)) ?_ ?_; rotate_left 3; (· repeat ((first | exact List.mem_cons_self | apply List.mem_cons_of_mem))); (· (rfl)); (· (assumption)))
        refine TA_oneGd 7 (by kernel_rfl) rfl rfl rfl rfl (by (exact Bool.not_false)) (op_call hb_11 rfl (pMay_S c (.slice a c.zs.length cap) cl3)) ?_
        rintro _ _ ⟨rfl, rfl⟩; rw [ec]
        refine ⟨Or.inr (by (exact (fun z hz => mem_of_cnt (by intro p; (try simp only [cnt_append, cnt_cons, cnt_nil]) <;> omega) z (hKm z hz)))), ?_⟩
        (refine' TA_take 8 rfl rfl (by kernel_rfl) (quiet_g2 rfl rfl (by (exact Bool.not_false)) (op_bin rfl rfl ?_)) ?_ ?_; rotate_left 1; (· (exact bin_neq)); (· (assumption)))
        (refine' TA_take 9 rfl rfl (by kernel_rfl) (quiet_g2 rfl rfl (by (exact Bool.not_false)) (op_move rfl)) ?_ ?_; (· (assumption)))
        (refine TA_take 10 rfl rfl (by kernel_rfl) (quiet_no2 rfl rfl ?_) ?_ ?_; (· (exact Bool.not_false)); (· (assumption)))
        (refine TA_take 11 rfl rfl (by kernel_rfl) (quiet_no2 rfl rfl ?_) ?_ ?_; (· (exact Bool.not_false)); (· (assumption)))
        (refine TA_take 12 rfl rfl (by kernel_rfl) (quiet_no2 rfl rfl ?_) ?_ ?_; (· (exact Bool.not_false)); (· (assumption)))
        (refine' TA_take 13 rfl rfl (by kernel_rfl) (quiet_g2 rfl rfl (by (exact Bool.not_false)) (op_pickT rfl ?_ rfl)) ?_ ?_; (· (exact Bool.not_false)); (· (assumption)))
        (refine' TA_take 14 rfl rfl (by kernel_rfl) (quiet_q (op_pickT rfl ?_ rfl)) ?_ ?_; (· (exact Bool.not_false)); (· (assumption)))
        (refine' TA_take 15 rfl rfl (by kernel_rfl) (quiet_q (op_assign rfl)) ?_ ?_; (· (assumption)))
        refine TA_done (by kernel_rfl) ?_
        refine TQ_mid () trivial ?_ (fun w h => h)
        (repeat ((first | exact trivial | refine ⟨rfl, ?_⟩)))
    rintro _ _
    repeat ((with_reducible refine T_ret ?_))
    refine TQ_cnt (L' := L) ?_ (by intro p; (try simp only [cnt_append, cnt_cons, cnt_nil]) <;> omega)
    refine TQ_ret1 6 _ rfl rfl ?_
    exact ⟨rfl, rfl⟩
end Go.Proofs.YtnhlpifbadncmaaDoor
