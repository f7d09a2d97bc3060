/-
  Part 5: Gi Gj Gk St3.
-/
import Derived.Test.YtdflhdfapnhjjaaTx4
import Derived.Test.YtdflhdfapnhjjaaTx2
namespace Go.Proofs.Ytdflhdfapnhjjaa
open Go.RowKit
open Vd (RSet Vdt Vote Rec Quest Piece)
set_option linter.unusedVariables false
set_option linter.unusedSimpArgs false
--auto
variable {G : World} {L : Blocks}
theorem op_pushR {P : Program} {ρ : Slots} {ty : TypeId} {s x : Operand} {t e te : TypeId} {bytes bl : Nat} {z : Value} {a : Option Addr} {c : Nat} {cs : List Value} {y : RSet} {l : List RSet} {B L0 : Blocks} (E : ElemTy P t e 5 bytes z) (hs : ev ρ s = some (.slice a l.length c)) (hx : ev ρ x = some (.slice (some ⟨bl, 0, none⟩) 1 1))
    (hrow : ORow rsR e 5 L0 a c l B) (hy : rsR L0 cs y) (h63 : l.length ≤ 1000000) (hb : bytes ≤ 1000) :
    OpT P G ρ ((bl, .cells cs.toArray te (0, 0)) :: (B ++ L)) (.call ⟨.builtin .append, #[s, x], #[t, t]⟩) ty fun v' L' => ∃ a' c' B', v' = .slice a' (l ++ [y]).length c' ∧ ORow rsR e 5 L0 a' c' (l ++ [y]) B' ∧ L' = B' ++ L :=
  op_push E hs hx hrow hy.len hy.one hy (by unfold maxLen; omega) (Nat.le_trans (Nat.mul_le_mul (show l.length + 1 ≤ 1000001 by omega) hb) (by decide))
theorem new_set {K : Blocks} {bD : Nat} {te : TypeId} {fr : Nat × Nat} {name d : Vd.Bytes} {kind cls ttl : Int} (hm : (bD, Obj.cells #[.string (bs d)] te fr) ∈ K) (hd : d.length ≤ 1000000) (hn : name.length ≤ 1000000) (h1 : 0 ≤ kind ∧ kind ≤ 65535) (h2 : 0 ≤ cls ∧ cls ≤ 65535) (h3 : 0 ≤ ttl ∧ ttl ≤ 4294967295) :
    rsR K [.string (bs name), .int .u16 kind, .int .u16 cls, .int .u32 ttl, .slice (some ⟨bD, 0, none⟩) 1 1] ⟨name, kind, cls, ttl, [d]⟩ := by
  refine ⟨_, rfl, ⟨_, 1, rfl, Nat.le_refl _, by unfold maxLen; omega, Or.inr ⟨bD, 0, _, _, _, rfl, hm, fun i x hx => ?_⟩⟩, by show name.length ≤ maxLen; unfold maxLen; omega, h1, h2, h3⟩
  match i, hx with
  | 0, hx =>
    cases hx
    refine ⟨[.string (bs d)], rfl, ⟨rfl, by unfold maxLen; omega⟩, fun j v hj => ?_⟩
    match j, hj with
    | 0, hj => cases hj; rfl
theorem mono_const {α : Type} {r : List Value → α → Prop} : Mono (fun _ => r) := fun _ _ _ _ _ h => h
theorem timeT_bd {t : Int} (h : 0 ≤ t ∧ t ≤ 4294967295) : 0 ≤ Vd.timeT t ∧ Vd.timeT t ≤ 4294967295 := by unfold Vd.timeT; split <;> omega
theorem cells34 {cur : Array Value} {o : Nat} {x0 x1 x2 x3 x4 y3 y4 : Value} (h : ∀ j v, ([x0, x1, x2, x3, x4] : List Value)[j]? = some v → cur[o + j]? = some v) :
    (∀ j v, ([x0, x1, x2, y3, y4] : List Value)[j]? = some v → ((cur.setIfInBounds (o + 3) y3).setIfInBounds (o + 4) y4)[o + j]? = some v) ∧ (∀ k, k < o ∨ o + 5 ≤ k → ((cur.setIfInBounds (o + 3) y3).setIfInBounds (o + 4) y4)[k]? = cur[k]?) := by
  have h4 := h 4 _ rfl
  have hs := (Array.getElem?_eq_some_iff.1 h4).1
  refine ⟨fun j v hj => ?_, fun k hk => ?_⟩
  · match j, hj with
    | 0, hj => cases hj; rw [Array.getElem?_setIfInBounds_ne (by omega), Array.getElem?_setIfInBounds_ne (by omega)]; exact h 0 _ rfl
    | 1, hj => cases hj; rw [Array.getElem?_setIfInBounds_ne (by omega), Array.getElem?_setIfInBounds_ne (by omega)]; exact h 1 _ rfl
    | 2, hj => cases hj; rw [Array.getElem?_setIfInBounds_ne (by omega), Array.getElem?_setIfInBounds_ne (by omega)]; exact h 2 _ rfl
    | 3, hj => cases hj; rw [Array.getElem?_setIfInBounds_ne (by omega), Array.getElem?_setIfInBounds_self_of_lt (by omega)]
    | 4, hj => cases hj; rw [Array.getElem?_setIfInBounds_self_of_lt (by rw [Array.size_setIfInBounds]; omega)]
  · rw [Array.getElem?_setIfInBounds_ne (by omega), Array.getElem?_setIfInBounds_ne (by omega)]
set_option maxRecDepth 100000 in
set_option maxHeartbeats 4000000 in
theorem Group_S (v : Value) (l : List Rec) (hl : sliceR 5 recR L [v] l) (hn : l.length ≤ 10000) (hnm : ∀ x ∈ l, x.name.length ≤ 1000000) (hdt : ∀ x ∈ l, x.data.length ≤ 1000000) :
    Spec Try.prog G 83 #[v] L fun u M => ∃ a c B N, u = .slice a (Vd.group l).length c ∧ ORow rsR 60 5 N a c (Vd.group l) B ∧ Wr N ∧ M = B ++ (N ++ L) := by
  obtain ⟨a0, c0, e1, hl⟩ := hl.val
  simp only [List.cons.injEq, and_true] at e1
  subst e1
  obtain ⟨_, ka1, ka2, hl⟩ := sliceR.cut hl
  unfold maxLen at ka2
  refine Spec_of (n := 154) Try.func83 rfl rfl rfl ?_
  repeat ((first | with_reducible refine T_seq ?_ | with_reducible refine T_block ?_ | with_reducible refine T_region ?_ | with_reducible refine TL_nil ?_ | with_reducible refine TQ_then ?_ | refine TL_q (op_assign rfl) rfl ?_))
  refine T_loopS (σ := Nat × Option Addr × Nat × Blocks × Blocks) (fun x => x.1 ≤ l.length ∧ ORow rsR 60 5 x.2.2.2.2 x.2.1 x.2.2.1 (Vd.gather (l.take x.1)) x.2.2.2.1 ∧ Wr x.2.2.2.2) (fun x => [(0, .slice a0 l.length c0), (3, .slice x.2.1 (Vd.gather (l.take x.1)).length x.2.2.1), (4, .int .i64 (x.1 : Nat))]) (fun x => x.2.2.2.1 ++ (x.2.2.2.2 ++ L)) (fun x => l.length - x.1) (0, none, 0, [], []) ⟨Nat.zero_le _, ORow.nil _, Wr.nil⟩ ?_ (fun w h => h) ?_
  (repeat ((first | exact trivial | refine ⟨rfl, ?_⟩)))
  rintro ⟨i, a, c, B, N⟩ ⟨hi, hB, hN⟩
  dsimp only at hi hB hN ⊢
  have hbd := gather_bd l hdt i hi
  by_cases hlt : i < l.length
  · rcases hl with rfl | ⟨b1, o1, C1, t1, f1, rfl, m1, q1⟩
    · simp at hlt
    obtain ⟨x, hx⟩ : ∃ x, l[i]? = some x := ⟨_, List.getElem?_eq_getElem hlt⟩
    obtain ⟨cx, _, ⟨rfl, _, _, x1, x2, x3⟩, hcx⟩ := q1 i x hx
    have hxn := hnm x (List.mem_of_getElem? hx)
    have hxd := hdt x (List.mem_of_getElem? hx)
    have hg := gather_take hx
    obtain ⟨sets, hsets⟩ : ∃ s, Vd.gather (l.take i) = s := ⟨_, rfl⟩
    rw [hsets] at hB hbd hg ⊢
    have hfew := hbd.few
    have m2 : (b1, Obj.cells C1 t1 f1) ∈ B ++ (N ++ L) := List.mem_append_right _ (List.mem_append_right _ m1)
    repeat ((first | with_reducible refine T_seq ?_ | with_reducible refine T_block ?_ | with_reducible refine T_region ?_ | with_reducible refine TL_nil ?_ | with_reducible refine TQ_then ?_ | with_reducible refine T_skip ?_ | refine TL_q (op_move rfl) rfl ?_ | (refine' TL_q (op_bin rfl rfl ?_) rfl ?_; rotate_left 1; (· (exact bin_lss))) | refine TL_q (op_len_slice rfl Try.underlying27) rfl ?_ | (refine' TL_q (op_idx ety_27 rfl rfl ?_) rfl ?_; (· omega)) | (refine T_yes rfl ?_ ?_; (· (exact dT (by (omega)))))))
    refine TL_q (op_ldA [.string (bs x.name), .int .u16 x.kind, .int .u16 x.cls, .int .u32 x.ttl, .string (bs x.data)] rfl st_112 m2 hcx) rfl ?_
    cases hm : Nm.may x.name with
    | false =>
      have hadd : Vd.addRec sets x = sets := by unfold Vd.addRec; rw [hm]; rfl
      rw [hadd] at hg
      repeat ((first | with_reducible refine T_seq ?_ | with_reducible refine T_region ?_ | with_reducible refine TL_nil ?_ | with_reducible refine TQ_then ?_ | with_reducible refine T_exit ?_ | with_reducible refine TQ_then_exit ?_ | with_reducible refine TQ_block_exit ?_ | refine TL_q (op_move rfl) rfl ?_ | refine TL_q (op_assign rfl) rfl ?_ | (refine' TL_q (op_bin rfl rfl ?_) rfl ?_; rotate_left 1; (· (exact bin_add ⟨by omega, by omega⟩))) | refine TL_q (op_not rfl) rfl ?_ | (refine' TL_q (op_pickT rfl ?_ rfl) rfl ?_; (· (exact xT (by (assumption))))) | refine TL_q (op_fld rfl fld_60_0) rfl ?_ | (refine' TL_q (op_ld rfl pl_9 ?_ ?_) rfl ?_; rotate_left 4; (· repeat ((exact List.mem_cons_self))); (· (rfl))) | (refine' TL_op (op_call hb_58 rfl (refMay_S _ ?_)) rfl ?_; (· (omega))) | (refine TL_gno rfl rfl ?_ rfl ?_; (· (exact xT (by (assumption))))) | (refine TL_stAll rfl rfl st_112 rfl rfl rfl ?_) | (refine TL_new (op_alloc (C := #[(.string (bs [])), (.int .u16 0), (.int .u16 0), (.int .u32 0), (.string (bs []))]) zero_112 rfl) rfl ?_; intro bNew) | (refine T_yes rfl ?_ ?_; (· (with_reducible rfl)))))
      refine TQ_roundS (i + 1, a, c, B, N) ⟨hlt, by rw [hg]; exact hB, hN⟩ ?_ (fun w h => h.tail) (by dsimp only; omega)
      dsimp only
      rw [hg]
      (repeat (first | exact trivial | refine ⟨rfl, ?_⟩))
    | true =>
    cases hd : Vd.mayD x.kind x.data with
    | false =>
      have hadd : Vd.addRec sets x = sets := by unfold Vd.addRec; rw [hm, hd]; rfl
      rw [hadd] at hg
      repeat ((first | with_reducible refine T_seq ?_ | with_reducible refine T_region ?_ | with_reducible refine TL_nil ?_ | with_reducible refine TQ_then ?_ | with_reducible refine T_exit ?_ | with_reducible refine TQ_then_exit ?_ | with_reducible refine TQ_block_exit ?_ | refine TL_q (op_move rfl) rfl ?_ | refine TL_q (op_assign rfl) rfl ?_ | (refine' TL_q (op_bin rfl rfl ?_) rfl ?_; rotate_left 1; (· (exact bin_add ⟨by omega, by omega⟩))) | refine TL_q (op_not rfl) rfl ?_ | (refine' TL_q (op_pickF rfl ?_ rfl) rfl ?_; (· (exact xF (by (assumption))))) | refine TL_q (op_fld rfl fld_60_0) rfl ?_ | (refine' TL_q (op_ld rfl pl_9 ?_ ?_) rfl ?_; rotate_left 4; (· repeat ((exact List.mem_cons_self))); (· (rfl))) | (refine' TL_op (op_call hb_58 rfl (refMay_S _ ?_)) rfl ?_; (· (omega))) | (refine' TG_op (op_call hb_97 rfl (mayD_S _ _ ?_)) rfl ?_; (· (omega))) | (refine TL_gpre rfl rfl ?_ ?_; (· (exact xF (by (assumption))))) | refine TL_gq2 (op_not rfl) rfl ?_ | refine TL_gq2 (op_fld rfl fld_60_1) rfl ?_ | refine TL_gq2 (op_fld rfl fld_60_4) rfl ?_ | (refine' TL_gq2 (op_ld rfl pl_9 ?_ ?_) rfl ?_; rotate_left 4; (· repeat ((exact List.mem_cons_self))); (· (rfl))) | (refine TL_stAll rfl rfl st_112 rfl rfl rfl ?_) | (refine TL_new (op_alloc (C := #[(.string (bs [])), (.int .u16 0), (.int .u16 0), (.int .u32 0), (.string (bs []))]) zero_112 rfl) rfl ?_; intro bNew) | (refine T_yes rfl ?_ ?_; (· (exact xT (by (assumption)))))))
      refine TQ_roundS (i + 1, a, c, B, N) ⟨hlt, by rw [hg]; exact hB, hN⟩ ?_ (fun w h => h.tail) (by dsimp only; omega)
      dsimp only
      rw [hg]
      (repeat (first | exact trivial | refine ⟨rfl, ?_⟩))
    | true =>
    have hx5 : (Vd.foldD x.kind x.data).length ≤ 1000000 := Nat.le_trans (foldD_len _ _) hxd
    have hf5 : (Nm.fold x.name).length ≤ 1000000 := Nat.le_trans (fold_255 _) (by omega)
    repeat ((first | with_reducible refine T_seq ?_ | with_reducible refine T_block ?_ | with_reducible refine T_region ?_ | with_reducible refine TL_nil ?_ | with_reducible refine TQ_then ?_ | with_reducible refine T_skip ?_ | refine TL_q (op_move rfl) rfl ?_ | refine TL_q (op_assign rfl) rfl ?_ | refine TL_q (op_not rfl) rfl ?_ | (refine' TL_q (op_pickF rfl ?_ rfl) rfl ?_; (· (exact xF (by (assumption))))) | refine TL_q (op_fld rfl fld_60_0) rfl ?_ | refine TL_q (op_fld rfl fld_60_1) rfl ?_ | refine TL_q (op_fld rfl fld_60_4) rfl ?_ | (refine' TL_q (op_ld rfl pl_9 ?_ ?_) rfl ?_; rotate_left 4; (· repeat ((exact List.mem_cons_self))); (· (rfl))) | (refine' TL_op (op_call hb_58 rfl (refMay_S _ ?_)) rfl ?_; (· (omega))) | (refine' TL_op (op_call hb_61 rfl (refFold_S _ ?_)) rfl ?_; (· (omega))) | (refine' TG_op (op_call hb_97 rfl (mayD_S _ _ ?_)) rfl ?_; (· (omega))) | (refine' TL_op (op_call hb_98 rfl (foldD_S _ _ ?_)) rfl ?_; (· (omega))) | (refine TL_gpre rfl rfl ?_ ?_; (· (exact xF (by (assumption))))) | refine TL_gq2 (op_not rfl) rfl ?_ | refine TL_gq2 (op_fld rfl fld_60_1) rfl ?_ | refine TL_gq2 (op_fld rfl fld_60_4) rfl ?_ | (refine' TL_gq2 (op_ld rfl pl_9 ?_ ?_) rfl ?_; rotate_left 4; (· repeat ((exact List.mem_cons_self))); (· (rfl))) | (refine TL_stAll rfl rfl st_112 rfl rfl rfl ?_) | (refine TL_new (op_alloc (C := #[(.string (bs [])), (.int .u16 0), (.int .u16 0), (.int .u32 0), (.string (bs []))]) zero_112 rfl) rfl ?_; intro bNew) | (refine T_no rfl ?_ ?_; (· (exact xF (by (assumption)))))))
    refine T_loopS (σ := Nat) (fun k => k ≤ sets.length) (fun k => [(0, .slice (some ⟨b1, o1, none⟩) l.length c0), (3, .slice a sets.length c), (4, .int .i64 (i : Nat)), (5, .pointer (some ⟨bNew, 0, none⟩)), (6, .string (bs (Nm.fold x.name))), (7, .string (bs (Vd.foldD x.kind x.data))), (8, .int .i64 (kv (Vd.keyAt sets (Nm.fold x.name) x.kind x.cls k))), (9, .int .i64 (k : Nat))])
      (fun k => (bNew, Obj.cells #[.string (bs x.name), .int .u16 x.kind, .int .u16 x.cls, .int .u32 x.ttl, .string (bs x.data)] 112 (0, 0)) :: (B ++ (N ++ L))) (fun k => sets.length - k) 0 (Nat.zero_le _) ?_ (fun w h => h) ?_
    (repeat ((first | exact trivial | refine ⟨rfl, ?_⟩)))
    intro k hk
    by_cases hkl : k < sets.length
    · obtain ⟨s, hs⟩ : ∃ s, sets[k]? = some s := ⟨_, List.getElem?_eq_getElem hkl⟩
      obtain ⟨b2, cur, rfl, rfl, _, _, _, hcur⟩ := hB.block (fun e => by rw [e] at hkl; simp at hkl)
      obtain ⟨cs, _, hs2, _, hcs⟩ := hcur k s hs
      obtain ⟨sa, sc, rfl, _⟩ := hs2.val
      have g0 : cur[0 + k * 5 + 0]? = some (.string (bs s.name)) := by rw [Nat.zero_add]; exact hcs 0 _ rfl
      have g1 : cur[0 + k * 5 + 1]? = some (.int .u16 s.kind) := by rw [Nat.zero_add]; exact hcs 1 _ rfl
      have g2 : cur[0 + k * 5 + 2]? = some (.int .u16 s.cls) := by rw [Nat.zero_add]; exact hcs 2 _ rfl
      have r1 : (#[.string (bs x.name), .int .u16 x.kind, .int .u16 x.cls, .int .u32 x.ttl, .string (bs x.data)] : Array Value)[0 + 1]? = some (.int .u16 x.kind) := rfl
      have r2 : (#[.string (bs x.name), .int .u16 x.kind, .int .u16 x.cls, .int .u32 x.ttl, .string (bs x.data)] : Array Value)[0 + 2]? = some (.int .u16 x.cls) := rfl
      have hst : Vd.keyAt sets (Nm.fold x.name) x.kind x.cls (k + 1) = if Vd.hasKey s (Nm.fold x.name) x.kind x.cls then some k else Vd.keyAt sets (Nm.fold x.name) x.kind x.cls k := by
        rw [Vd.keyAt, hs]
      have hKm : ∀ z ∈ [(b2, Obj.cells cur 60 (0, 0)), (bNew, Obj.cells #[.string (bs x.name), .int .u16 x.kind, .int .u16 x.cls, .int .u32 x.ttl, .string (bs x.data)] 112 (0, 0))], z ∈ (bNew, Obj.cells #[.string (bs x.name), .int .u16 x.kind, .int .u16 x.cls, .int .u32 x.ttl, .string (bs x.data)] 112 (0, 0)) :: ([(b2, Obj.cells cur 60 (0, 0))] ++ (N ++ L)) := (mem_of_cnt (by intro p; (try simp only [cnt_append, cnt_cons, cnt_nil]) <;> omega))
      by_cases k1 : s.name = Nm.fold x.name
      · by_cases k2 : s.kind = x.kind
        · by_cases k3 : s.cls = x.cls
          · rw [if_pos (by simp [Vd.hasKey, k1, k2, k3])] at hst
            repeat ((first | with_reducible refine T_seq ?_ | with_reducible refine T_block ?_ | with_reducible refine T_region ?_ | with_reducible refine TL_nil ?_ | with_reducible refine TQ_then ?_ | with_reducible refine T_skip ?_ | refine TL_q (op_move rfl) rfl ?_ | (refine' TL_q (op_bin rfl rfl ?_) rfl ?_; rotate_left 1; (· (exact bin_lss))) | refine TL_q (op_len_slice rfl Try.underlying40) rfl ?_ | (refine T_yes rfl ?_ ?_; (· (exact dT (by (omega)))))))
            refine T_draw follows_mixed ([(b2, Obj.cells cur 60 (0, 0)), (bNew, Obj.cells #[.string (bs x.name), .int .u16 x.kind, .int .u16 x.cls, .int .u32 x.ttl, .string (bs x.data)] 112 (0, 0))]) [] ?_
            (refine' TA_take 0 rfl rfl (by kernel_rfl) (quiet_q (op_move rfl)) ?_ ?_; (· (assumption)))
            (refine' TA_take 1 rfl rfl (by kernel_rfl) (quiet_q (op_move rfl)) ?_ ?_; (· (assumption)))
            (refine' TA_take 2 rfl rfl (by kernel_rfl) (quiet_q (op_idx ety_40 rfl rfl ?_)) ?_ ?_; (· omega); (· (assumption)))
            (refine' TA_take 3 rfl rfl (by kernel_rfl) (quiet_q (op_fld rfl fld_60_0)) ?_ ?_; (· (assumption)))
            (refine' TA_take 4 rfl rfl (by kernel_rfl) (quiet_q (op_ld rfl pl_9 ?_ ?_)) ?_ ?_; rotate_left 4; (· repeat ((exact List.mem_cons_self))); (· (assumption)); (· (assumption)))
            (refine' TA_take 5 rfl rfl (by kernel_rfl) (quiet_q (op_move rfl)) ?_ ?_; (· (assumption)))
            (refine' TA_take 6 rfl rfl (by kernel_rfl) (quiet_q (op_bin rfl rfl ?_)) ?_ ?_; rotate_left 1; (· (exact sbin_eql)); (· (assumption)))
            (refine' TA_take 7 rfl rfl (by kernel_rfl) (quiet_q (op_move rfl)) ?_ ?_; (· (assumption)))
            (refine' TA_take 8 rfl rfl (by kernel_rfl) (quiet_g2 rfl rfl (by (exact eT (by (assumption)))) (op_move rfl)) ?_ ?_; (· (assumption)))
            (refine' TA_take 9 rfl rfl (by kernel_rfl) (quiet_g2 rfl rfl (by (exact eT (by (assumption)))) (op_move rfl)) ?_ ?_; (· (assumption)))
            (refine' TA_take 10 rfl rfl (by kernel_rfl) (quiet_g2 rfl rfl (by (exact eT (by (assumption)))) (op_idx ety_40 rfl rfl ?_)) ?_ ?_; (· omega); (· (assumption)))
            (refine' TA_take 11 rfl rfl (by kernel_rfl) (quiet_g2 rfl rfl (by (exact eT (by (assumption)))) (op_fld rfl fld_60_1)) ?_ ?_; (· (assumption)))
            (refine' TA_take 12 rfl rfl (by kernel_rfl) (quiet_g2 rfl rfl (by (exact eT (by (assumption)))) (op_ld rfl pl_23 ?_ ?_)) ?_ ?_; rotate_left 4; (· repeat ((exact List.mem_cons_self))); (· (assumption)); (· (assumption)))
            (refine' TA_take 13 rfl rfl (by kernel_rfl) (quiet_g2 rfl rfl (by (exact eT (by (assumption)))) (op_fld rfl fld_112_1)) ?_ ?_; (· (assumption)))
            (refine' TA_take 14 rfl rfl (by kernel_rfl) (quiet_g2 rfl rfl (by (exact eT (by (assumption)))) (op_ld rfl pl_23 ?_ ?_)) ?_ ?_; rotate_left 4; (· repeat ((first | exact List.mem_cons_self | apply List.mem_cons_of_mem))); (· (assumption)); (· (assumption)))
            (refine' TA_take 15 rfl rfl (by kernel_rfl) (quiet_g2 rfl rfl (by (exact eT (by (assumption)))) (op_bin rfl rfl ?_)) ?_ ?_; rotate_left 1; (· (exact bin_eql)); (· (assumption)))
            (refine' TA_take 16 rfl rfl (by kernel_rfl) (quiet_q (op_pickT rfl ?_ rfl)) ?_ ?_; (· (exact eT (by (assumption)))); (· (assumption)))
            (refine' TA_take 17 rfl rfl (by kernel_rfl) (quiet_q (op_move rfl)) ?_ ?_; (· (assumption)))
            (refine' TA_take 18 rfl rfl (by kernel_rfl) (quiet_g2 rfl rfl (by (exact dT (by (assumption)))) (op_move rfl)) ?_ ?_; (· (assumption)))
            (refine' TA_take 19 rfl rfl (by kernel_rfl) (quiet_g2 rfl rfl (by (exact dT (by (assumption)))) (op_move rfl)) ?_ ?_; (· (assumption)))
            (refine' TA_take 20 rfl rfl (by kernel_rfl) (quiet_g2 rfl rfl (by (exact dT (by (assumption)))) (op_idx ety_40 rfl rfl ?_)) ?_ ?_; (· omega); (· (assumption)))
            (refine' TA_take 21 rfl rfl (by kernel_rfl) (quiet_g2 rfl rfl (by (exact dT (by (assumption)))) (op_fld rfl fld_60_2)) ?_ ?_; (· (assumption)))
            (refine' TA_take 22 rfl rfl (by kernel_rfl) (quiet_g2 rfl rfl (by (exact dT (by (assumption)))) (op_ld rfl pl_23 ?_ ?_)) ?_ ?_; rotate_left 4; (· repeat ((exact List.mem_cons_self))); (· (assumption)); (· (assumption)))
            (refine' TA_take 23 rfl rfl (by kernel_rfl) (quiet_g2 rfl rfl (by (exact dT (by (assumption)))) (op_fld rfl fld_112_2)) ?_ ?_; (· (assumption)))
            (refine' TA_take 24 rfl rfl (by kernel_rfl) (quiet_g2 rfl rfl (by (exact dT (by (assumption)))) (op_ld rfl pl_23 ?_ ?_)) ?_ ?_; rotate_left 4; (· repeat ((first | exact List.mem_cons_self | apply List.mem_cons_of_mem))); (· (assumption)); (· (assumption)))
            (refine' TA_take 25 rfl rfl (by kernel_rfl) (quiet_g2 rfl rfl (by (exact dT (by (assumption)))) (op_bin rfl rfl ?_)) ?_ ?_; rotate_left 1; (· (exact bin_eql)); (· (assumption)))
            (refine' TA_take 26 rfl rfl (by kernel_rfl) (quiet_q (op_pickT rfl ?_ rfl)) ?_ ?_; (· (exact dT (by (assumption)))); (· (assumption)))
            refine TA_done (by kernel_rfl) ?_
            repeat ((first | with_reducible refine T_region ?_ | with_reducible refine TL_nil ?_ | with_reducible refine TQ_then ?_ | with_reducible refine TQ_block ?_ | refine TL_q (op_move rfl) rfl ?_ | refine TL_q (op_assign rfl) rfl ?_ | (refine' TL_q (op_bin rfl rfl ?_) rfl ?_; rotate_left 1; (· (exact bin_add ⟨by omega, by omega⟩))) | (refine T_yes rfl ?_ ?_; (· (exact dT (by (assumption)))))))
            refine TQ_roundS (k + 1) hkl ?_ (fun w h => h) (by omega)
            rw [hst]
            (repeat ((first | exact trivial | refine ⟨rfl, ?_⟩)))
          · rw [if_neg (by simp [Vd.hasKey, k3])] at hst
            repeat ((first | with_reducible refine T_seq ?_ | with_reducible refine T_block ?_ | with_reducible refine T_region ?_ | with_reducible refine TL_nil ?_ | with_reducible refine TQ_then ?_ | with_reducible refine T_skip ?_ | refine TL_q (op_move rfl) rfl ?_ | (refine' TL_q (op_bin rfl rfl ?_) rfl ?_; rotate_left 1; (· (exact bin_lss))) | refine TL_q (op_len_slice rfl Try.underlying40) rfl ?_ | (refine T_yes rfl ?_ ?_; (· (exact dT (by (omega)))))))
            refine T_draw follows_mixed ([(b2, Obj.cells cur 60 (0, 0)), (bNew, Obj.cells #[.string (bs x.name), .int .u16 x.kind, .int .u16 x.cls, .int .u32 x.ttl, .string (bs x.data)] 112 (0, 0))]) [] ?_
            (refine' TA_take 0 rfl rfl (by kernel_rfl) (quiet_q (op_move rfl)) ?_ ?_; (· (assumption)))
            (refine' TA_take 1 rfl rfl (by kernel_rfl) (quiet_q (op_move rfl)) ?_ ?_; (· (assumption)))
            (refine' TA_take 2 rfl rfl (by kernel_rfl) (quiet_q (op_idx ety_40 rfl rfl ?_)) ?_ ?_; (· omega); (· (assumption)))
            (refine' TA_take 3 rfl rfl (by kernel_rfl) (quiet_q (op_fld rfl fld_60_0)) ?_ ?_; (· (assumption)))
            (refine' TA_take 4 rfl rfl (by kernel_rfl) (quiet_q (op_ld rfl pl_9 ?_ ?_)) ?_ ?_; rotate_left 4; (· repeat ((exact List.mem_cons_self))); (· (assumption)); (· (assumption)))
            (refine' TA_take 5 rfl rfl (by kernel_rfl) (quiet_q (op_move rfl)) ?_ ?_; (· (assumption)))
            (refine' TA_take 6 rfl rfl (by kernel_rfl) (quiet_q (op_bin rfl rfl ?_)) ?_ ?_; rotate_left 1; (· (exact sbin_eql)); (· (assumption)))
            (refine' TA_take 7 rfl rfl (by kernel_rfl) (quiet_q (op_move rfl)) ?_ ?_; (· (assumption)))
            (refine' TA_take 8 rfl rfl (by kernel_rfl) (quiet_g2 rfl rfl (by (exact eT (by (assumption)))) (op_move rfl)) ?_ ?_; (· (assumption)))
            (refine' TA_take 9 rfl rfl (by kernel_rfl) (quiet_g2 rfl rfl (by (exact eT (by (assumption)))) (op_move rfl)) ?_ ?_; (· (assumption)))
            (refine' TA_take 10 rfl rfl (by kernel_rfl) (quiet_g2 rfl rfl (by (exact eT (by (assumption)))) (op_idx ety_40 rfl rfl ?_)) ?_ ?_; (· omega); (· (assumption)))
            (refine' TA_take 11 rfl rfl (by kernel_rfl) (quiet_g2 rfl rfl (by (exact eT (by (assumption)))) (op_fld rfl fld_60_1)) ?_ ?_; (· (assumption)))
            (refine' TA_take 12 rfl rfl (by kernel_rfl) (quiet_g2 rfl rfl (by (exact eT (by (assumption)))) (op_ld rfl pl_23 ?_ ?_)) ?_ ?_; rotate_left 4; (· repeat ((exact List.mem_cons_self))); (· (assumption)); (· (assumption)))
            (refine' TA_take 13 rfl rfl (by kernel_rfl) (quiet_g2 rfl rfl (by (exact eT (by (assumption)))) (op_fld rfl fld_112_1)) ?_ ?_; (· (assumption)))
            (refine' TA_take 14 rfl rfl (by kernel_rfl) (quiet_g2 rfl rfl (by (exact eT (by (assumption)))) (op_ld rfl pl_23 ?_ ?_)) ?_ ?_; rotate_left 4; (· repeat ((first | exact List.mem_cons_self | apply List.mem_cons_of_mem))); (· (assumption)); (· (assumption)))
            (refine' TA_take 15 rfl rfl (by kernel_rfl) (quiet_g2 rfl rfl (by (exact eT (by (assumption)))) (op_bin rfl rfl ?_)) ?_ ?_; rotate_left 1; (· (exact bin_eql)); (· (assumption)))
            (refine' TA_take 16 rfl rfl (by kernel_rfl) (quiet_q (op_pickT rfl ?_ rfl)) ?_ ?_; (· (exact eT (by (assumption)))); (· (assumption)))
            (refine' TA_take 17 rfl rfl (by kernel_rfl) (quiet_q (op_move rfl)) ?_ ?_; (· (assumption)))
            (refine' TA_take 18 rfl rfl (by kernel_rfl) (quiet_g2 rfl rfl (by (exact dT (by (assumption)))) (op_move rfl)) ?_ ?_; (· (assumption)))
            (refine' TA_take 19 rfl rfl (by kernel_rfl) (quiet_g2 rfl rfl (by (exact dT (by (assumption)))) (op_move rfl)) ?_ ?_; (· (assumption)))
            (refine' TA_take 20 rfl rfl (by kernel_rfl) (quiet_g2 rfl rfl (by (exact dT (by (assumption)))) (op_idx ety_40 rfl rfl ?_)) ?_ ?_; (· omega); (· (assumption)))
            (refine' TA_take 21 rfl rfl (by kernel_rfl) (quiet_g2 rfl rfl (by (exact dT (by (assumption)))) (op_fld rfl fld_60_2)) ?_ ?_; (· (assumption)))
            (refine' TA_take 22 rfl rfl (by kernel_rfl) (quiet_g2 rfl rfl (by (exact dT (by (assumption)))) (op_ld rfl pl_23 ?_ ?_)) ?_ ?_; rotate_left 4; (· repeat ((exact List.mem_cons_self))); (· (assumption)); (· (assumption)))
            (refine' TA_take 23 rfl rfl (by kernel_rfl) (quiet_g2 rfl rfl (by (exact dT (by (assumption)))) (op_fld rfl fld_112_2)) ?_ ?_; (· (assumption)))
            (refine' TA_take 24 rfl rfl (by kernel_rfl) (quiet_g2 rfl rfl (by (exact dT (by (assumption)))) (op_ld rfl pl_23 ?_ ?_)) ?_ ?_; rotate_left 4; (· repeat ((first | exact List.mem_cons_self | apply List.mem_cons_of_mem))); (· (assumption)); (· (assumption)))
            (refine' TA_take 25 rfl rfl (by kernel_rfl) (quiet_g2 rfl rfl (by (exact dT (by (assumption)))) (op_bin rfl rfl ?_)) ?_ ?_; rotate_left 1; (· (exact bin_eql)); (· (assumption)))
            (refine' TA_take 26 rfl rfl (by kernel_rfl) (quiet_q (op_pickT rfl ?_ rfl)) ?_ ?_; (· (exact dT (by (assumption)))); (· (assumption)))
            refine TA_done (by kernel_rfl) ?_
            repeat ((first | with_reducible refine T_region ?_ | with_reducible refine TL_nil ?_ | with_reducible refine TQ_then ?_ | with_reducible refine TQ_block ?_ | with_reducible refine T_skip ?_ | refine TL_q (op_move rfl) rfl ?_ | refine TL_q (op_assign rfl) rfl ?_ | (refine' TL_q (op_bin rfl rfl ?_) rfl ?_; rotate_left 1; (· (exact bin_add ⟨by omega, by omega⟩))) | (refine T_no rfl ?_ ?_; (· (exact dF (by (assumption)))))))
            refine TQ_roundS (k + 1) hkl ?_ (fun w h => h) (by omega)
            rw [hst]
            (repeat ((first | exact trivial | refine ⟨rfl, ?_⟩)))
        · rw [if_neg (by simp [Vd.hasKey, k2])] at hst
          repeat ((first | with_reducible refine T_seq ?_ | with_reducible refine T_block ?_ | with_reducible refine T_region ?_ | with_reducible refine TL_nil ?_ | with_reducible refine TQ_then ?_ | with_reducible refine T_skip ?_ | refine TL_q (op_move rfl) rfl ?_ | (refine' TL_q (op_bin rfl rfl ?_) rfl ?_; rotate_left 1; (· (exact bin_lss))) | refine TL_q (op_len_slice rfl Try.underlying40) rfl ?_ | (refine T_yes rfl ?_ ?_; (· (exact dT (by (omega)))))))
          refine T_draw follows_mixed ([(b2, Obj.cells cur 60 (0, 0)), (bNew, Obj.cells #[.string (bs x.name), .int .u16 x.kind, .int .u16 x.cls, .int .u32 x.ttl, .string (bs x.data)] 112 (0, 0))]) [] ?_
          (refine' TA_take 0 rfl rfl (by kernel_rfl) (quiet_q (op_move rfl)) ?_ ?_; (· (assumption)))
          (refine' TA_take 1 rfl rfl (by kernel_rfl) (quiet_q (op_move rfl)) ?_ ?_; (· (assumption)))
          (refine' TA_take 2 rfl rfl (by kernel_rfl) (quiet_q (op_idx ety_40 rfl rfl ?_)) ?_ ?_; (· omega); (· (assumption)))
          (refine' TA_take 3 rfl rfl (by kernel_rfl) (quiet_q (op_fld rfl fld_60_0)) ?_ ?_; (· (assumption)))
          (refine' TA_take 4 rfl rfl (by kernel_rfl) (quiet_q (op_ld rfl pl_9 ?_ ?_)) ?_ ?_; rotate_left 4; (· repeat ((exact List.mem_cons_self))); (· (assumption)); (· (assumption)))
          (refine' TA_take 5 rfl rfl (by kernel_rfl) (quiet_q (op_move rfl)) ?_ ?_; (· (assumption)))
          (refine' TA_take 6 rfl rfl (by kernel_rfl) (quiet_q (op_bin rfl rfl ?_)) ?_ ?_; rotate_left 1; (· (exact sbin_eql)); (· (assumption)))
          (refine' TA_take 7 rfl rfl (by kernel_rfl) (quiet_q (op_move rfl)) ?_ ?_; (· (assumption)))
          (refine' TA_take 8 rfl rfl (by kernel_rfl) (quiet_g2 rfl rfl (by (exact eT (by (assumption)))) (op_move rfl)) ?_ ?_; (· (assumption)))
          (refine' TA_take 9 rfl rfl (by kernel_rfl) (quiet_g2 rfl rfl (by (exact eT (by (assumption)))) (op_move rfl)) ?_ ?_; (· (assumption)))
          (refine' TA_take 10 rfl rfl (by kernel_rfl) (quiet_g2 rfl rfl (by (exact eT (by (assumption)))) (op_idx ety_40 rfl rfl ?_)) ?_ ?_; (· omega); (· (assumption)))
          (refine' TA_take 11 rfl rfl (by kernel_rfl) (quiet_g2 rfl rfl (by (exact eT (by (assumption)))) (op_fld rfl fld_60_1)) ?_ ?_; (· (assumption)))
          (refine' TA_take 12 rfl rfl (by kernel_rfl) (quiet_g2 rfl rfl (by (exact eT (by (assumption)))) (op_ld rfl pl_23 ?_ ?_)) ?_ ?_; rotate_left 4; (· repeat ((exact List.mem_cons_self))); (· (assumption)); (· (assumption)))
          (refine' TA_take 13 rfl rfl (by kernel_rfl) (quiet_g2 rfl rfl (by (exact eT (by (assumption)))) (op_fld rfl fld_112_1)) ?_ ?_; (· (assumption)))
          (refine' TA_take 14 rfl rfl (by kernel_rfl) (quiet_g2 rfl rfl (by (exact eT (by (assumption)))) (op_ld rfl pl_23 ?_ ?_)) ?_ ?_; rotate_left 4; (· repeat ((first | exact List.mem_cons_self | apply List.mem_cons_of_mem))); (· (assumption)); (· (assumption)))
          (refine' TA_take 15 rfl rfl (by kernel_rfl) (quiet_g2 rfl rfl (by (exact eT (by (assumption)))) (op_bin rfl rfl ?_)) ?_ ?_; rotate_left 1; (· (exact bin_eql)); (· (assumption)))
          (refine' TA_take 16 rfl rfl (by kernel_rfl) (quiet_q (op_pickT rfl ?_ rfl)) ?_ ?_; (· (exact eT (by (assumption)))); (· (assumption)))
          (refine' TA_take 17 rfl rfl (by kernel_rfl) (quiet_q (op_move rfl)) ?_ ?_; (· (assumption)))
          (refine TA_take 18 rfl rfl (by kernel_rfl) (quiet_no2 rfl rfl ?_) ?_ ?_; (· (exact dF (by (assumption)))); (· (assumption)))
          (refine TA_take 19 rfl rfl (by kernel_rfl) (quiet_no2 rfl rfl ?_) ?_ ?_; (· (exact dF (by (assumption)))); (· (assumption)))
          (refine TA_take 20 rfl rfl (by kernel_rfl) (quiet_no2 rfl rfl ?_) ?_ ?_; (· (exact dF (by (assumption)))); (· (assumption)))
          (refine TA_take 21 rfl rfl (by kernel_rfl) (quiet_no2 rfl rfl ?_) ?_ ?_; (· (exact dF (by (assumption)))); (· (assumption)))
          (refine TA_take 22 rfl rfl (by kernel_rfl) (quiet_no2 rfl rfl ?_) ?_ ?_; (· (exact dF (by (assumption)))); (· (assumption)))
          (refine TA_take 23 rfl rfl (by kernel_rfl) (quiet_no2 rfl rfl ?_) ?_ ?_; (· (exact dF (by (assumption)))); (· (assumption)))
          (refine TA_take 24 rfl rfl (by kernel_rfl) (quiet_no2 rfl rfl ?_) ?_ ?_; (· (exact dF (by (assumption)))); (· (assumption)))
          (refine TA_take 25 rfl rfl (by kernel_rfl) (quiet_no2 rfl rfl ?_) ?_ ?_; (· (exact dF (by (assumption)))); (· (assumption)))
          (refine' TA_take 26 rfl rfl (by kernel_rfl) (quiet_q (op_pickF rfl ?_ rfl)) ?_ ?_; (· (exact dF (by (assumption)))); (· (assumption)))
          refine TA_done (by kernel_rfl) ?_
          repeat ((first | with_reducible refine T_region ?_ | with_reducible refine TL_nil ?_ | with_reducible refine TQ_then ?_ | with_reducible refine TQ_block ?_ | with_reducible refine T_skip ?_ | refine TL_q (op_move rfl) rfl ?_ | refine TL_q (op_assign rfl) rfl ?_ | (refine' TL_q (op_bin rfl rfl ?_) rfl ?_; rotate_left 1; (· (exact bin_add ⟨by omega, by omega⟩))) | (refine T_no rfl ?_ ?_; (· (with_reducible rfl)))))
          refine TQ_roundS (k + 1) hkl ?_ (fun w h => h) (by omega)
          rw [hst]
          (repeat ((first | exact trivial | refine ⟨rfl, ?_⟩)))
      · rw [if_neg (by simp [Vd.hasKey, k1])] at hst
        repeat ((first | with_reducible refine T_seq ?_ | with_reducible refine T_block ?_ | with_reducible refine T_region ?_ | with_reducible refine TL_nil ?_ | with_reducible refine TQ_then ?_ | with_reducible refine T_skip ?_ | refine TL_q (op_move rfl) rfl ?_ | (refine' TL_q (op_bin rfl rfl ?_) rfl ?_; rotate_left 1; (· (exact bin_lss))) | refine TL_q (op_len_slice rfl Try.underlying40) rfl ?_ | (refine T_yes rfl ?_ ?_; (· (exact dT (by (omega)))))))
        refine T_draw follows_mixed ([(b2, Obj.cells cur 60 (0, 0)), (bNew, Obj.cells #[.string (bs x.name), .int .u16 x.kind, .int .u16 x.cls, .int .u32 x.ttl, .string (bs x.data)] 112 (0, 0))]) [] ?_
        (refine' TA_take 0 rfl rfl (by kernel_rfl) (quiet_q (op_move rfl)) ?_ ?_; (· (assumption)))
        (refine' TA_take 1 rfl rfl (by kernel_rfl) (quiet_q (op_move rfl)) ?_ ?_; (· (assumption)))
        (refine' TA_take 2 rfl rfl (by kernel_rfl) (quiet_q (op_idx ety_40 rfl rfl ?_)) ?_ ?_; (· omega); (· (assumption)))
        (refine' TA_take 3 rfl rfl (by kernel_rfl) (quiet_q (op_fld rfl fld_60_0)) ?_ ?_; (· (assumption)))
        (refine' TA_take 4 rfl rfl (by kernel_rfl) (quiet_q (op_ld rfl pl_9 ?_ ?_)) ?_ ?_; rotate_left 4; (· repeat ((exact List.mem_cons_self))); (· (assumption)); (· (assumption)))
        (refine' TA_take 5 rfl rfl (by kernel_rfl) (quiet_q (op_move rfl)) ?_ ?_; (· (assumption)))
        (refine' TA_take 6 rfl rfl (by kernel_rfl) (quiet_q (op_bin rfl rfl ?_)) ?_ ?_; rotate_left 1; (· (exact sbin_eql)); (· (assumption)))
        (refine' TA_take 7 rfl rfl (by kernel_rfl) (quiet_q (op_move rfl)) ?_ ?_; (· (assumption)))
        (refine TA_take 8 rfl rfl (by kernel_rfl) (quiet_no2 rfl rfl ?_) ?_ ?_; (· (exact eF (by (assumption)))); (· (assumption)))
        (refine TA_take 9 rfl rfl (by kernel_rfl) (quiet_no2 rfl rfl ?_) ?_ ?_; (· (exact eF (by (assumption)))); (· (assumption)))
        (refine TA_take 10 rfl rfl (by kernel_rfl) (quiet_no2 rfl rfl ?_) ?_ ?_; (· (exact eF (by (assumption)))); (· (assumption)))
        (refine TA_take 11 rfl rfl (by kernel_rfl) (quiet_no2 rfl rfl ?_) ?_ ?_; (· (exact eF (by (assumption)))); (· (assumption)))
        (refine TA_take 12 rfl rfl (by kernel_rfl) (quiet_no2 rfl rfl ?_) ?_ ?_; (· (exact eF (by (assumption)))); (· (assumption)))
        (refine TA_take 13 rfl rfl (by kernel_rfl) (quiet_no2 rfl rfl ?_) ?_ ?_; (· (exact eF (by (assumption)))); (· (assumption)))
        (refine TA_take 14 rfl rfl (by kernel_rfl) (quiet_no2 rfl rfl ?_) ?_ ?_; (· (exact eF (by (assumption)))); (· (assumption)))
        (refine TA_take 15 rfl rfl (by kernel_rfl) (quiet_no2 rfl rfl ?_) ?_ ?_; (· (exact eF (by (assumption)))); (· (assumption)))
        (refine' TA_take 16 rfl rfl (by kernel_rfl) (quiet_q (op_pickF rfl ?_ rfl)) ?_ ?_; (· (exact eF (by (assumption)))); (· (assumption)))
        (refine' TA_take 17 rfl rfl (by kernel_rfl) (quiet_q (op_move rfl)) ?_ ?_; (· (assumption)))
        (refine TA_take 18 rfl rfl (by kernel_rfl) (quiet_no2 rfl rfl ?_) ?_ ?_; (· (exact Bool.not_true)); (· (assumption)))
        (refine TA_take 19 rfl rfl (by kernel_rfl) (quiet_no2 rfl rfl ?_) ?_ ?_; (· (exact Bool.not_true)); (· (assumption)))
        (refine TA_take 20 rfl rfl (by kernel_rfl) (quiet_no2 rfl rfl ?_) ?_ ?_; (· (exact Bool.not_true)); (· (assumption)))
        (refine TA_take 21 rfl rfl (by kernel_rfl) (quiet_no2 rfl rfl ?_) ?_ ?_; (· (exact Bool.not_true)); (· (assumption)))
        (refine TA_take 22 rfl rfl (by kernel_rfl) (quiet_no2 rfl rfl ?_) ?_ ?_; (· (exact Bool.not_true)); (· (assumption)))
        (refine TA_take 23 rfl rfl (by kernel_rfl) (quiet_no2 rfl rfl ?_) ?_ ?_; (· (exact Bool.not_true)); (· (assumption)))
        (refine TA_take 24 rfl rfl (by kernel_rfl) (quiet_no2 rfl rfl ?_) ?_ ?_; (· (exact Bool.not_true)); (· (assumption)))
        (refine TA_take 25 rfl rfl (by kernel_rfl) (quiet_no2 rfl rfl ?_) ?_ ?_; (· (exact Bool.not_true)); (· (assumption)))
        (refine' TA_take 26 rfl rfl (by kernel_rfl) (quiet_q (op_pickF rfl ?_ rfl)) ?_ ?_; (· (with_reducible rfl)); (· (assumption)))
        refine TA_done (by kernel_rfl) ?_
        repeat ((first | with_reducible refine T_region ?_ | with_reducible refine TL_nil ?_ | with_reducible refine TQ_then ?_ | with_reducible refine TQ_block ?_ | with_reducible refine T_skip ?_ | refine TL_q (op_move rfl) rfl ?_ | refine TL_q (op_assign rfl) rfl ?_ | (refine' TL_q (op_bin rfl rfl ?_) rfl ?_; rotate_left 1; (· (exact bin_add ⟨by omega, by omega⟩))) | (refine T_no rfl ?_ ?_; (· (with_reducible rfl)))))
        refine TQ_roundS (k + 1) hkl ?_ (fun w h => h) (by omega)
        rw [hst]
        (repeat ((first | exact trivial | refine ⟨rfl, ?_⟩)))
    · have hkn : k = sets.length := by omega
      subst hkn
      clear hk hkl
      cases hj : Vd.keyAt sets (Nm.fold x.name) x.kind x.cls sets.length with
      | none =>
        have hadd : Vd.addRec sets x = sets ++ [⟨Nm.fold x.name, x.kind, x.cls, Vd.timeT x.ttl, [Vd.foldD x.kind x.data]⟩] := by unfold Vd.addRec; rw [hm, hd, hj]; rfl
        rw [hadd] at hg
        have hkv : kv none = -1 := rfl
        rw [hkv]
        have hKm : ∀ z ∈ [(bNew, Obj.cells #[.string (bs x.name), .int .u16 x.kind, .int .u16 x.cls, .int .u32 x.ttl, .string (bs x.data)] 112 (0, 0))], z ∈ (bNew, Obj.cells #[.string (bs x.name), .int .u16 x.kind, .int .u16 x.cls, .int .u32 x.ttl, .string (bs x.data)] 112 (0, 0)) :: (B ++ (N ++ L)) := (mem_of_cnt (by intro p; (try simp only [cnt_append, cnt_cons, cnt_nil]) <;> omega))
        have htt := timeT_bd x3
        repeat ((first | with_reducible refine T_seq ?_ | with_reducible refine T_region ?_ | with_reducible refine TL_nil ?_ | with_reducible refine TQ_then ?_ | with_reducible refine T_exit ?_ | with_reducible refine TQ_then_exit ?_ | with_reducible refine TQ_block_exit ?_ | refine TL_q (op_move rfl) rfl ?_ | (refine' TL_q (op_bin rfl rfl ?_) rfl ?_; rotate_left 1; (· (exact bin_lss))) | refine TL_q (op_len_slice rfl Try.underlying40) rfl ?_ | (refine T_yes rfl ?_ ?_; (· (exact Bool.not_false))) | (refine T_no rfl ?_ ?_; (· (exact dF (by (omega)))))))
        refine T_draw follows_mixed ([(bNew, Obj.cells #[.string (bs x.name), .int .u16 x.kind, .int .u16 x.cls, .int .u32 x.ttl, .string (bs x.data)] 112 (0, 0))]) [] ?_
        (refine' TA_take 0 rfl rfl (by kernel_rfl) (quiet_q (op_move rfl)) ?_ ?_; (· (assumption)))
        (refine' TA_take 1 rfl rfl (by kernel_rfl) (quiet_q (op_move rfl)) ?_ ?_; (· (assumption)))
        (refine' TA_take 2 rfl rfl (by kernel_rfl) (quiet_q (op_fld rfl fld_112_1)) ?_ ?_; (· (assumption)))
        (refine' TA_take 3 rfl rfl (by kernel_rfl) (quiet_q (op_ld rfl pl_23 ?_ ?_)) ?_ ?_; rotate_left 4; (· repeat ((exact List.mem_cons_self))); (· (rfl)); (· (assumption)))
        (refine' TA_take 4 rfl rfl (by kernel_rfl) (quiet_q (op_fld rfl fld_112_2)) ?_ ?_; (· (assumption)))
        (refine' TA_take 5 rfl rfl (by kernel_rfl) (quiet_q (op_ld rfl pl_23 ?_ ?_)) ?_ ?_; rotate_left 4; (· repeat ((exact List.mem_cons_self))); (· (rfl)); (· (assumption)))
        (refine' TA_take 6 rfl rfl (by kernel_rfl) (quiet_q (op_fld rfl fld_112_3)) ?_ ?_; (· (assumption)))
        (refine' TA_take 7 rfl rfl (by kernel_rfl) (quiet_q (op_ld rfl pl_36 ?_ ?_)) ?_ ?_; rotate_left 4; (· repeat ((exact List.mem_cons_self))); (· (rfl)); (· (assumption)))
        refine' TA_take 8 rfl rfl (by kernel_rfl) (quiet_call hb_99 rfl (fun _ _ => time_S _ )) ?_ ?_; (· (assumption))
        (refine' TA_take 9 rfl rfl (by kernel_rfl) (quiet_q (op_move rfl)) ?_ ?_; (· (assumption)))
        refine TA_oneD 10 (by kernel_rfl) rfl rfl rfl rfl (op_lit1 ety_58 rfl rfl) ?_; rintro _ _ ⟨bD, rfl, rfl⟩; refine ⟨Or.inr (mem_of_cnt (by intro p; (try simp only [cnt_append, cnt_cons, cnt_nil]) <;> omega)), ?_⟩
        (refine' TA_take 11 rfl rfl (by kernel_rfl) (quiet_q (op_build rfl (bl_60_0_1_2_3_4 _ _ _ _ _ _ _))) ?_ ?_; (· (intro p hp; grind)))
        refine TA_oneD 12 (by kernel_rfl) rfl rfl rfl rfl (op_litN ety_40 rfl rfl (by decide)) ?_; rintro _ _ ⟨bS, rfl, rfl⟩; refine ⟨Or.inr (mem_of_cnt (by intro p; (try simp only [cnt_append, cnt_cons, cnt_nil]) <;> omega)), ?_⟩
        refine TA_cnt (L' := (bS, Obj.cells #[.string (bs (Nm.fold x.name)), .int .u16 x.kind, .int .u16 x.cls, .int .u32 (Vd.timeT x.ttl), .slice (some ⟨bD, 0, none⟩) 1 1] 60 (0, 0)) :: (B ++ ((bNew, Obj.cells #[.string (bs x.name), .int .u16 x.kind, .int .u16 x.cls, .int .u32 x.ttl, .string (bs x.data)] 112 (0, 0)) :: (((bD, Obj.cells #[.string (bs (Vd.foldD x.kind x.data))] 9 (0, 0)) :: N) ++ L)))) ?_ (by intro p; (try simp only [cnt_append, cnt_cons, cnt_nil]) <;> omega); refine TA_oneD 13 (by kernel_rfl) rfl rfl rfl rfl (op_pushR (L0 := (bD, Obj.cells #[.string (bs (Vd.foldD x.kind x.data))] 9 (0, 0)) :: N) (cs := [.string (bs (Nm.fold x.name)), .int .u16 x.kind, .int .u16 x.cls, .int .u32 (Vd.timeT x.ttl), .slice (some ⟨bD, 0, none⟩) 1 1]) (y := ⟨Nm.fold x.name, x.kind, x.cls, Vd.timeT x.ttl, [Vd.foldD x.kind x.data]⟩) ety_40 rfl rfl (hB.mono mono_set (mem_of_cnt (by intro p; (try simp only [cnt_append, cnt_cons, cnt_nil]) <;> omega))) (new_set (List.mem_cons_self ..) hx5 hf5 x1 x2 htt) (by omega) (by decide)) ?_; rintro _ _ ⟨a', c', B', rfl, hB', rfl⟩; refine ⟨Or.inr (mem_of_cnt (by intro p; (try simp only [cnt_append, cnt_cons, cnt_nil]) <;> omega)), ?_⟩
        (refine' TA_take 14 rfl rfl (by kernel_rfl) (quiet_q (op_assign rfl)) ?_ ?_; (· (intro p hp; grind)))
        refine TA_done (by kernel_rfl) ?_
        repeat ((first | with_reducible refine T_region ?_ | with_reducible refine TL_nil ?_ | with_reducible refine TQ_then ?_ | with_reducible refine T_exit ?_ | with_reducible refine TQ_then_exit ?_ | with_reducible refine TQ_block_exit ?_ | refine TL_q (op_move rfl) rfl ?_ | refine TL_q (op_assign rfl) rfl ?_ | (refine' TL_q (op_bin rfl rfl ?_) rfl ?_; rotate_left 1; (· (exact bin_add ⟨by omega, by omega⟩)))))
        refine TQ_roundS (i + 1, a', c', B', (bD, Obj.cells #[.string (bs (Vd.foldD x.kind x.data))] 9 (0, 0)) :: N) ⟨hlt, by rw [hg]; exact hB', Wr.cons hN⟩ ?_ (fun w h => h.cnt (by intro p; (try simp only [cnt_append, cnt_cons, cnt_nil]) <;> omega)) (by dsimp only; omega)
        dsimp only
        rw [hg]
        (repeat (first | exact trivial | refine ⟨rfl, ?_⟩))
      | some j =>
        have hjl := keyAt_lt _ j hj (Nat.le_refl _)
        have hkv : kv (some j) = (j : Nat) := rfl
        rw [hkv]
        obtain ⟨s, hs⟩ : ∃ s, sets[j]? = some s := ⟨_, List.getElem?_eq_getElem hjl⟩
        have hadd : Vd.addRec sets x = sets.set j { s with ttl := min s.ttl (Vd.timeT x.ttl), data := Vd.put s.data (Vd.foldD x.kind x.data) } := by unfold Vd.addRec; rw [hm, hd, hj]; dsimp only; rw [hs]; rfl
        rw [hadd] at hg
        obtain ⟨b2, cur, rfl, hBe, _, _, hcsz, hcur⟩ := hB.block (fun e => by rw [e] at hjl; simp at hjl)
        obtain ⟨cs, _, hs2, _, hcs⟩ := hcur j s hs
        obtain ⟨sa, sc, rfl, hsl, n1, n2, n3, n4⟩ := hs2.vals
        subst hBe
        have htt := timeT_bd x3
        have g3 : cur[0 + j * 5 + 3]? = some (.int .u32 s.ttl) := by rw [Nat.zero_add]; exact hcs 3 _ rfl
        have hKm : ∀ z ∈ [(b2, Obj.cells cur 60 (0, 0)), (bNew, Obj.cells #[.string (bs x.name), .int .u16 x.kind, .int .u16 x.cls, .int .u32 x.ttl, .string (bs x.data)] 112 (0, 0))], z ∈ (bNew, Obj.cells #[.string (bs x.name), .int .u16 x.kind, .int .u16 x.cls, .int .u32 x.ttl, .string (bs x.data)] 112 (0, 0)) :: ([(b2, Obj.cells cur 60 (0, 0))] ++ (N ++ L)) := (mem_of_cnt (by intro p; (try simp only [cnt_append, cnt_cons, cnt_nil]) <;> omega))
        repeat ((first | with_reducible refine T_seq ?_ | with_reducible refine T_region ?_ | with_reducible refine TL_nil ?_ | with_reducible refine TQ_then ?_ | with_reducible refine T_skip ?_ | with_reducible refine T_exit ?_ | with_reducible refine TQ_then_exit ?_ | with_reducible refine TQ_block_exit ?_ | refine TL_q (op_move rfl) rfl ?_ | (refine' TL_q (op_bin rfl rfl ?_) rfl ?_; rotate_left 1; (· (exact bin_lss))) | refine TL_q (op_len_slice rfl Try.underlying40) rfl ?_ | (refine T_no rfl ?_ ?_; (· (first | exact Bool.not_true | exact dF (by (omega)))))))
        refine T_draw follows_mixed ([(b2, Obj.cells cur 60 (0, 0)), (bNew, Obj.cells #[.string (bs x.name), .int .u16 x.kind, .int .u16 x.cls, .int .u32 x.ttl, .string (bs x.data)] 112 (0, 0))]) [13] ?_
        (refine' TA_take 0 rfl rfl (by kernel_rfl) (quiet_q (op_move rfl)) ?_ ?_; (· (assumption)))
        (refine' TA_take 1 rfl rfl (by kernel_rfl) (quiet_q (op_move rfl)) ?_ ?_; (· (assumption)))
        (refine' TA_take 2 rfl rfl (by kernel_rfl) (quiet_q (op_move rfl)) ?_ ?_; (· (assumption)))
        (refine' TA_take 3 rfl rfl (by kernel_rfl) (quiet_q (op_move rfl)) ?_ ?_; (· (assumption)))
        (refine' TA_take 4 rfl rfl (by kernel_rfl) (quiet_q (op_idx ety_40 rfl rfl ?_)) ?_ ?_; (· omega); (· (assumption)))
        (refine' TA_take 5 rfl rfl (by kernel_rfl) (quiet_q (op_fld rfl fld_60_3)) ?_ ?_; (· (assumption)))
        (refine' TA_take 6 rfl rfl (by kernel_rfl) (quiet_q (op_ld rfl pl_36 ?_ ?_)) ?_ ?_; rotate_left 4; (· repeat ((exact List.mem_cons_self))); (· (assumption)); (· (assumption)))
        (refine' TA_take 7 rfl rfl (by kernel_rfl) (quiet_q (op_fld rfl fld_112_3)) ?_ ?_; (· (assumption)))
        (refine' TA_take 8 rfl rfl (by kernel_rfl) (quiet_q (op_ld rfl pl_36 ?_ ?_)) ?_ ?_; rotate_left 4; (· repeat ((first | exact List.mem_cons_self | apply List.mem_cons_of_mem))); (· (rfl)); (· (assumption)))
        refine' TA_take 9 rfl rfl (by kernel_rfl) (quiet_call hb_99 rfl (fun _ _ => time_S _ )) ?_ ?_; (· (assumption))
        (refine' TA_take 10 rfl rfl (by kernel_rfl) (quiet_q (op_min rfl rfl)) ?_ ?_; (· (assumption)))
        (refine' TA_take 11 rfl rfl (by kernel_rfl) (quiet_q (op_idx ety_40 rfl rfl ?_)) ?_ ?_; (· omega); (· (assumption)))
        (refine' TA_take 12 rfl rfl (by kernel_rfl) (quiet_q (op_fld rfl fld_60_3)) ?_ ?_; (· (assumption)))
        refine TA_cnt (L' := (b2, Obj.cells cur 60 (0, 0)) :: ((bNew, Obj.cells #[.string (bs x.name), .int .u16 x.kind, .int .u16 x.cls, .int .u32 x.ttl, .string (bs x.data)] 112 (0, 0)) :: (N ++ L))) ?_ (by intro p; (try simp only [cnt_append, cnt_cons, cnt_nil]) <;> omega); refine TA_oneN 13 (by kernel_rfl) rfl rfl rfl (op_st rfl rfl one_36 rfl g3 rfl) ?_; rintro _ _ ⟨_, rfl⟩; refine ⟨Or.inl (by simp), ?_⟩
        refine TA_done (by kernel_rfl) ?_
        have g4 : (cur.setIfInBounds (0 + j * 5 + 3) (.int .u32 (min s.ttl (Vd.timeT x.ttl))))[0 + j * 5 + 4]? = some (.slice sa s.data.length sc) := by
          rw [Array.getElem?_setIfInBounds_ne (by omega), Nat.zero_add]
          exact hcs 4 _ rfl
        have hsn := hbd.data s (List.mem_of_getElem? hs)
        have hc34 : ∀ y4 : Value, _ := fun y4 => cells34 (o := 0 + j * 5) (y3 := .int .u32 (min s.ttl (Vd.timeT x.ttl))) (y4 := y4) (fun jj v hv => by rw [Nat.zero_add]; exact hcs jj v hv)
        have hb34 : 0 ≤ min s.ttl (Vd.timeT x.ttl) ∧ min s.ttl (Vd.timeT x.ttl) ≤ 4294967295 := by omega
        repeat ((first | with_reducible refine T_region ?_ | with_reducible refine TQ_then ?_ | refine TL_q (op_move rfl) rfl ?_ | (refine' TL_q (op_idx ety_40 rfl rfl ?_) rfl ?_; (· omega)) | refine TL_q (op_fld rfl fld_60_4) rfl ?_ | (refine' TL_q (op_ld rfl pl_9 ?_ ?_) rfl ?_; rotate_left 4; (· repeat ((exact List.mem_cons_self))); (· (assumption)))))
        refine TL_opT (op_call hb_100 rfl (put_S _ s.data (Vd.foldD x.kind x.data) (mono_slice mono_str _ _ _ _ (mem_of_cnt (by intro p; (try simp only [cnt_append, cnt_cons, cnt_nil]) <;> omega)) hsl) (by omega) (by unfold maxLen; omega))) rfl ?_
        rintro _ _ (⟨rfl, hpe, rfl⟩ | ⟨a', c', B', rfl, hB', rfl⟩)
        · obtain ⟨hin, hout⟩ := hc34 (.slice sa s.data.length sc)
          repeat ((first | with_reducible refine T_region ?_ | with_reducible refine TL_nil ?_ | with_reducible refine TQ_then ?_ | with_reducible refine TQ_block ?_ | refine TL_q (op_move rfl) rfl ?_ | refine TL_q (op_assign rfl) rfl ?_ | (refine' TL_q (op_bin rfl rfl ?_) rfl ?_; rotate_left 1; (· (exact bin_add ⟨by omega, by omega⟩))) | (refine' TL_q (op_idx ety_40 rfl rfl ?_) rfl ?_; (· omega)) | refine TL_q (op_fld rfl fld_60_4) rfl ?_ | (refine' TL_st rfl rfl one_36 rfl ?_ rfl ?_; rotate_left 1; (· (assumption)))))
          refine TQ_roundS (i + 1, some ⟨b2, 0, none⟩, c, [(b2, Obj.cells ((cur.setIfInBounds (0 + j * 5 + 3) (.int .u32 (min s.ttl (Vd.timeT x.ttl)))).setIfInBounds (0 + j * 5 + 4) (.slice sa s.data.length sc)) 60 (0, 0))], N) ⟨hlt, ?_, hN⟩ ?_ (fun w h => h.cnt (by intro p; (try simp only [cnt_append, cnt_cons, cnt_nil]) <;> omega)) (by dsimp only; omega)
          · dsimp only
            rw [hg, hpe]
            exact hB.set rfl hjl rfl (⟨_, rfl, hsl, n1, n2, n3, hb34⟩ : rsR N [.string (bs s.name), .int .u16 s.kind, .int .u16 s.cls, .int .u32 (min s.ttl (Vd.timeT x.ttl)), .slice sa s.data.length sc] { s with ttl := min s.ttl (Vd.timeT x.ttl), data := s.data }) (by intro v hv; simp only [List.mem_cons, List.not_mem_nil, or_false] at hv; rcases hv with rfl | rfl | rfl | rfl | rfl <;> rfl) (by simp) (by simpa only [Nat.zero_add] using hin) (by simpa only [Nat.zero_add] using hout)
          dsimp only
          rw [hg]
          rw [List.length_set]
          (repeat ((first | exact trivial | refine ⟨rfl, ?_⟩)))
        · obtain ⟨hin, hout⟩ := hc34 (.slice a' (Vd.put s.data (Vd.foldD x.kind x.data)).length c')
          refine TL_cnt (L' := (b2, Obj.cells (cur.setIfInBounds (0 + j * 5 + 3) (.int .u32 (min s.ttl (Vd.timeT x.ttl)))) 60 (0, 0)) :: ((bNew, Obj.cells #[.string (bs x.name), .int .u16 x.kind, .int .u16 x.cls, .int .u32 x.ttl, .string (bs x.data)] 112 (0, 0)) :: ((B' ++ N) ++ L))) ?_ (by intro p; (try simp only [cnt_append, cnt_cons, cnt_nil]) <;> omega)
          repeat ((first | with_reducible refine T_region ?_ | with_reducible refine TL_nil ?_ | with_reducible refine TQ_then ?_ | with_reducible refine TQ_block ?_ | refine TL_q (op_move rfl) rfl ?_ | refine TL_q (op_assign rfl) rfl ?_ | (refine' TL_q (op_bin rfl rfl ?_) rfl ?_; rotate_left 1; (· (exact bin_add ⟨by omega, by omega⟩))) | (refine' TL_q (op_idx ety_40 rfl rfl ?_) rfl ?_; (· omega)) | refine TL_q (op_fld rfl fld_60_4) rfl ?_ | (refine' TL_st rfl rfl one_36 rfl ?_ rfl ?_; rotate_left 1; (· (assumption)))))
          refine TQ_roundS (i + 1, some ⟨b2, 0, none⟩, c, [(b2, Obj.cells ((cur.setIfInBounds (0 + j * 5 + 3) (.int .u32 (min s.ttl (Vd.timeT x.ttl)))).setIfInBounds (0 + j * 5 + 4) (.slice a' (Vd.put s.data (Vd.foldD x.kind x.data)).length c')) 60 (0, 0))], B' ++ N) ⟨hlt, ?_, hB'.wr.append hN⟩ ?_ (fun w h => h.cnt (by intro p; (try simp only [cnt_append, cnt_cons, cnt_nil]) <;> omega)) (by dsimp only; omega)
          · dsimp only
            rw [hg]
            exact (hB.mono (L' := B' ++ N) mono_set (mem_of_cnt (by intro p; (try simp only [cnt_append, cnt_cons, cnt_nil]) <;> omega))).set rfl hjl rfl (⟨_, rfl, ORow.sliceR (L' := B' ++ N) mono_str (hB'.imp (L' := []) (fun cs y _ h => h)) (by simp) (mem_of_cnt (by intro p; (try simp only [cnt_append, cnt_cons, cnt_nil]) <;> omega)), n1, n2, n3, hb34⟩ : rsR (B' ++ N) [.string (bs s.name), .int .u16 s.kind, .int .u16 s.cls, .int .u32 (min s.ttl (Vd.timeT x.ttl)), .slice a' (Vd.put s.data (Vd.foldD x.kind x.data)).length c'] { s with ttl := min s.ttl (Vd.timeT x.ttl), data := Vd.put s.data (Vd.foldD x.kind x.data) }) (by intro v hv; simp only [List.mem_cons, List.not_mem_nil, or_false] at hv; rcases hv with rfl | rfl | rfl | rfl | rfl <;> rfl) (by simp) (by simpa only [Nat.zero_add] using hin) (by simpa only [Nat.zero_add] using hout)
          dsimp only
          rw [hg]
          rw [List.length_set]
          (repeat ((first | exact trivial | refine ⟨rfl, ?_⟩)))
  · have hil : i = l.length := by omega
    subst hil
    rw [List.take_length] at hB hbd ⊢
    obtain ⟨S0, hS0⟩ : ∃ s, Vd.gather l = s := ⟨_, rfl⟩
    have hG : Vd.group l = Vd.rise S0.length S0 := by unfold Vd.group; rw [hS0]
    rw [hS0] at hB hbd ⊢
    rw [hG]
    have hfew := hbd.few
    repeat ((first | with_reducible refine T_seq ?_ | with_reducible refine T_block ?_ | with_reducible refine T_region ?_ | with_reducible refine TL_nil ?_ | with_reducible refine TQ_then ?_ | with_reducible refine T_exit ?_ | with_reducible refine TQ_then_exit ?_ | with_reducible refine TQ_block_exit ?_ | refine TL_q (op_move rfl) rfl ?_ | refine TL_q (op_assign rfl) rfl ?_ | (refine' TL_q (op_bin rfl rfl ?_) rfl ?_; rotate_left 1; (· (exact bin_lss))) | refine TL_q (op_len_slice rfl Try.underlying27) rfl ?_ | (refine T_no rfl ?_ ?_; (· (exact dF (by (omega)))))))
    refine T_loopS (σ := List RSet × Option Addr × Nat × Blocks × List RSet × Option Addr × Nat × Blocks) (fun x => x.2.2.2.2.1 ++ Vd.rise x.1.length x.1 = Vd.rise S0.length S0 ∧ ORow rsR 60 5 N x.2.1 x.2.2.1 x.1 x.2.2.2.1 ∧ ORow rsR 60 5 N x.2.2.2.2.2.1 x.2.2.2.2.2.2.1 x.2.2.2.2.1 x.2.2.2.2.2.2.2 ∧ (∀ s ∈ x.1, s.name.length ≤ 255) ∧ x.2.2.2.2.1.length + x.1.length ≤ 10000)
      (fun x => [(3, .slice x.2.1 x.1.length x.2.2.1), (10, .slice x.2.2.2.2.2.1 x.2.2.2.2.1.length x.2.2.2.2.2.2.1)]) (fun x => x.2.2.2.2.2.2.2 ++ (x.2.2.2.1 ++ (N ++ L))) (fun x => x.1.length) (S0, a, c, B, [], none, 0, []) ⟨rfl, hB, ORow.nil _, hbd.name, by dsimp only; simp; omega⟩ ?_ (fun w h => h) ?_
    (repeat ((first | exact trivial | refine ⟨rfl, ?_⟩)))
    clear hB hbd hfew
    rintro ⟨sets, a, c, B, out, ao, co, Bo⟩ ⟨h1, hB, hBo, hnm, hle⟩
    dsimp only at h1 hB hBo hnm hle ⊢
    by_cases hpos : 0 < sets.length
    · have hcap := hB.cap
      obtain ⟨b2, cur, rfl, hBe, _, _, _, hcur⟩ := hB.block (fun e => by rw [e] at hpos; simp at hpos)
      repeat ((first | with_reducible refine T_seq ?_ | with_reducible refine T_block ?_ | with_reducible refine T_region ?_ | with_reducible refine TL_nil ?_ | with_reducible refine TQ_then ?_ | with_reducible refine T_skip ?_ | refine TL_q (op_move rfl) rfl ?_ | refine TL_q (op_assign rfl) rfl ?_ | (refine' TL_q (op_bin rfl rfl ?_) rfl ?_; rotate_left 1; (· (exact bin_gtr))) | refine TL_q (op_len_slice rfl Try.underlying40) rfl ?_ | (refine T_yes rfl ?_ ?_; (· (exact dT (by (omega)))))))
      refine T_loopS (σ := Nat) (fun k => k < sets.length) (fun k => [(3, .slice (some ⟨b2, 0, none⟩) sets.length c), (10, .slice ao out.length co), (11, .int .i64 (Vd.leastAt sets k : Nat)), (12, .int .i64 ((k + 1 : Nat) : Int))]) (fun k => Bo ++ (B ++ (N ++ L))) (fun k => sets.length - k) 0 hpos ?_ (fun w h => h) ?_
      (repeat ((first | exact trivial | refine ⟨rfl, ?_⟩)))
      intro k hk
      obtain ⟨hm1, hm2⟩ := leastAt_lt sets k hk
      by_cases hk1 : k + 1 < sets.length
      · obtain ⟨s, hs⟩ : ∃ s, sets[k + 1]? = some s := ⟨_, List.getElem?_eq_getElem hk1⟩
        obtain ⟨t, ht⟩ : ∃ t, sets[Vd.leastAt sets k]? = some t := ⟨_, List.getElem?_eq_getElem hm1⟩
        have hst := leastAt_step hs ht
        obtain ⟨cs, _, hs2, _, hcs⟩ := hcur _ s hs
        obtain ⟨ct, _, ht2, _, hct⟩ := hcur _ t ht
        obtain ⟨sa, sc, rfl, _⟩ := hs2.val
        obtain ⟨ta, tc, rfl, _⟩ := ht2.val
        have hsn := hnm s (List.mem_of_getElem? hs)
        have htn := hnm t (List.mem_of_getElem? ht)
        rw [← Nat.zero_add ((k + 1) * 5)] at hcs
        rw [← Nat.zero_add (Vd.leastAt sets k * 5)] at hct
        have hKm : ∀ z ∈ [(b2, Obj.cells cur 60 (0, 0))], z ∈ Bo ++ (B ++ (N ++ L)) := by rw [hBe]; exact (mem_of_cnt (by intro p; (try simp only [cnt_append, cnt_cons, cnt_nil]) <;> omega))
        cases hb : Vd.before s t with
        | true =>
          rw [hb, if_pos rfl] at hst
          repeat ((first | with_reducible refine T_seq ?_ | with_reducible refine T_block ?_ | with_reducible refine T_region ?_ | with_reducible refine TL_nil ?_ | with_reducible refine TQ_then ?_ | with_reducible refine T_skip ?_ | refine TL_q (op_move rfl) rfl ?_ | (refine' TL_q (op_bin rfl rfl ?_) rfl ?_; rotate_left 1; (· (exact bin_lss))) | refine TL_q (op_len_slice rfl Try.underlying40) rfl ?_ | (refine T_yes rfl ?_ ?_; (· (exact dT (by (omega)))))))
          refine T_draw follows_mixed ([(b2, Obj.cells cur 60 (0, 0))]) [] ?_
          (refine' TA_take 0 rfl rfl (by kernel_rfl) (quiet_q (op_move rfl)) ?_ ?_; (· (assumption)))
          (refine' TA_take 1 rfl rfl (by kernel_rfl) (quiet_q (op_move rfl)) ?_ ?_; (· (assumption)))
          (refine' TA_take 2 rfl rfl (by kernel_rfl) (quiet_q (op_idx ety_40 rfl rfl ?_)) ?_ ?_; (· omega); (· (assumption)))
          (refine' TA_take 3 rfl rfl (by kernel_rfl) (quiet_q (op_ldA [.string (bs s.name), .int .u16 s.kind, .int .u16 s.cls, .int .u32 s.ttl, .slice sa s.data.length sc] rfl st_60 (List.mem_cons_self ..) hcs)) ?_ ?_; (· (assumption)))
          (refine' TA_take 4 rfl rfl (by kernel_rfl) (quiet_q (op_move rfl)) ?_ ?_; (· (assumption)))
          (refine' TA_take 5 rfl rfl (by kernel_rfl) (quiet_q (op_move rfl)) ?_ ?_; (· (assumption)))
          (refine' TA_take 6 rfl rfl (by kernel_rfl) (quiet_q (op_idx ety_40 rfl rfl ?_)) ?_ ?_; (· omega); (· (assumption)))
          (refine' TA_take 7 rfl rfl (by kernel_rfl) (quiet_q (op_ldA [.string (bs t.name), .int .u16 t.kind, .int .u16 t.cls, .int .u32 t.ttl, .slice ta t.data.length tc] rfl st_60 (List.mem_cons_self ..) hct)) ?_ ?_; (· (assumption)))
          refine' TA_take 8 rfl rfl (by kernel_rfl) (quiet_call hb_101 rfl (fun _ _ => (Before_S _ _ _ _ hs2 ht2) ?_ ?_)) ?_ ?_; (· (omega)); (· (omega)); (· (assumption))
          refine TA_done (by kernel_rfl) ?_
          repeat ((first | with_reducible refine T_region ?_ | with_reducible refine TL_nil ?_ | with_reducible refine TQ_then ?_ | with_reducible refine TQ_block ?_ | refine TL_q (op_move rfl) rfl ?_ | refine TL_q (op_assign rfl) rfl ?_ | (refine' TL_q (op_bin rfl rfl ?_) rfl ?_; rotate_left 1; (· (exact bin_add ⟨by omega, by omega⟩))) | (refine T_yes rfl ?_ ?_; (· (assumption)))))
          refine TQ_roundS (k + 1) hk1 ?_ (fun w h => h) (by omega)
          rw [hst]
          (repeat (first | exact trivial | refine ⟨rfl, ?_⟩))
        | false =>
          rw [hb, if_neg (by simp)] at hst
          repeat ((first | with_reducible refine T_seq ?_ | with_reducible refine T_block ?_ | with_reducible refine T_region ?_ | with_reducible refine TL_nil ?_ | with_reducible refine TQ_then ?_ | with_reducible refine T_skip ?_ | refine TL_q (op_move rfl) rfl ?_ | (refine' TL_q (op_bin rfl rfl ?_) rfl ?_; rotate_left 1; (· (exact bin_lss))) | refine TL_q (op_len_slice rfl Try.underlying40) rfl ?_ | (refine T_yes rfl ?_ ?_; (· (exact dT (by (omega)))))))
          refine T_draw follows_mixed ([(b2, Obj.cells cur 60 (0, 0))]) [] ?_
          (refine' TA_take 0 rfl rfl (by kernel_rfl) (quiet_q (op_move rfl)) ?_ ?_; (· (assumption)))
          (refine' TA_take 1 rfl rfl (by kernel_rfl) (quiet_q (op_move rfl)) ?_ ?_; (· (assumption)))
          (refine' TA_take 2 rfl rfl (by kernel_rfl) (quiet_q (op_idx ety_40 rfl rfl ?_)) ?_ ?_; (· omega); (· (assumption)))
          (refine' TA_take 3 rfl rfl (by kernel_rfl) (quiet_q (op_ldA [.string (bs s.name), .int .u16 s.kind, .int .u16 s.cls, .int .u32 s.ttl, .slice sa s.data.length sc] rfl st_60 (List.mem_cons_self ..) hcs)) ?_ ?_; (· (assumption)))
          (refine' TA_take 4 rfl rfl (by kernel_rfl) (quiet_q (op_move rfl)) ?_ ?_; (· (assumption)))
          (refine' TA_take 5 rfl rfl (by kernel_rfl) (quiet_q (op_move rfl)) ?_ ?_; (· (assumption)))
          (refine' TA_take 6 rfl rfl (by kernel_rfl) (quiet_q (op_idx ety_40 rfl rfl ?_)) ?_ ?_; (· omega); (· (assumption)))
          (refine' TA_take 7 rfl rfl (by kernel_rfl) (quiet_q (op_ldA [.string (bs t.name), .int .u16 t.kind, .int .u16 t.cls, .int .u32 t.ttl, .slice ta t.data.length tc] rfl st_60 (List.mem_cons_self ..) hct)) ?_ ?_; (· (assumption)))
          refine' TA_take 8 rfl rfl (by kernel_rfl) (quiet_call hb_101 rfl (fun _ _ => (Before_S _ _ _ _ hs2 ht2) ?_ ?_)) ?_ ?_; (· (omega)); (· (omega)); (· (assumption))
          refine TA_done (by kernel_rfl) ?_
          repeat ((first | with_reducible refine T_region ?_ | with_reducible refine TL_nil ?_ | with_reducible refine TQ_then ?_ | with_reducible refine TQ_block ?_ | with_reducible refine T_skip ?_ | refine TL_q (op_move rfl) rfl ?_ | refine TL_q (op_assign rfl) rfl ?_ | (refine' TL_q (op_bin rfl rfl ?_) rfl ?_; rotate_left 1; (· (exact bin_add ⟨by omega, by omega⟩))) | (refine T_no rfl ?_ ?_; (· (assumption)))))
          refine TQ_roundS (k + 1) hk1 ?_ (fun w h => h) (by omega)
          rw [hst]
          (repeat ((first | exact trivial | refine ⟨rfl, ?_⟩)))
      · have hkl : sets.length = k + 1 := by omega
        obtain ⟨mi, hmi⟩ : ∃ m, Vd.leastAt sets k = m := ⟨_, rfl⟩
        rw [hmi] at hm1 hm2 ⊢
        obtain ⟨s, hs⟩ : ∃ s, sets[mi]? = some s := ⟨_, List.getElem?_eq_getElem hm1⟩
        obtain ⟨cs, _, hs2, _, hcs⟩ := hcur _ s hs
        obtain ⟨sa, sc, rfl, _⟩ := hs2.val
        rw [← Nat.zero_add (mi * 5)] at hcs
        have hmem : (b2, Obj.cells cur 60 (0, 0)) ∈ Bo ++ (B ++ (N ++ L)) := by rw [hBe]; simp
        have hrise : Vd.rise sets.length sets = [s] ++ Vd.rise (sets.eraseIdx mi).length (sets.eraseIdx mi) := by
          have he : (sets.eraseIdx mi).length = k := by rw [List.length_eraseIdx_of_lt hm1]; omega
          rw [he, hkl]
          match sets, hkl with
          | t :: r, hkl =>
            have hr : r.length = k := by simpa using hkl
            rw [Vd.rise, hr, hmi, hs]
        have hsl : sliceR 5 (fun _ => rsR N) (B ++ N) [.slice (some ⟨b2, 0, none⟩) sets.length c] sets := (hB.imp (r' := fun _ => rsR N) (L' := N) (fun cs x _ h => h)).sliceR mono_const (mem_of_cnt (by intro p; (try simp only [cnt_append, cnt_cons, cnt_nil]) <;> omega)) (mem_of_cnt (by intro p; (try simp only [cnt_append, cnt_cons, cnt_nil]) <;> omega))
        have htake : sliceR 5 (fun _ => rsR N) (B ++ N) [.slice (some ⟨b2, 0, none⟩) (sets.take mi).length c] (sets.take mi) := by
          have h := hsl.take (k := mi) (by omega)
          have e : (sets.take mi).length = mi := by rw [List.length_take]; omega
          rw [e]
          exact h
        have hdrop := hsl.drop (k := mi + 1) (by omega)
        rw [show sets.length - (mi + 1) = (sets.drop (mi + 1)).length by rw [List.length_drop]] at hdrop
        repeat ((first | with_reducible refine T_seq ?_ | with_reducible refine T_region ?_ | with_reducible refine TL_nil ?_ | with_reducible refine TQ_then ?_ | with_reducible refine T_exit ?_ | with_reducible refine TQ_then_exit ?_ | with_reducible refine TQ_block_exit ?_ | refine TL_q (op_move rfl) rfl ?_ | (refine' TL_q (op_bin rfl rfl ?_) rfl ?_; rotate_left 1; (· (exact bin_lss))) | refine TL_q (op_len_slice rfl Try.underlying40) rfl ?_ | (refine' TL_q (op_idx ety_40 rfl rfl ?_) rfl ?_; (· omega)) | (refine T_no rfl ?_ ?_; (· (exact dF (by (omega)))))))
        refine TL_q (op_ldA [.string (bs s.name), .int .u16 s.kind, .int .u16 s.cls, .int .u32 s.ttl, .slice sa s.data.length sc] rfl st_60 hmem hcs) rfl ?_
        repeat ((refine TL_new (op_litN ety_40 rfl rfl (by decide)) rfl ?_; intro bLit))
        refine TL_opT (op_pushR (L0 := N) (y := s) ety_40 rfl rfl hBo hs2 (by omega) (by decide)) rfl ?_
        rintro _ _ ⟨a2, c2, B2, rfl, hB2, rfl⟩
        repeat ((first | with_reducible refine TL_nil ?_ | with_reducible refine TQ_then ?_ | refine TL_q (op_assign rfl) rfl ?_))
        refine T_draw follows_mixed ([]) [] ?_
        (refine' TA_take 1 rfl rfl (by kernel_rfl) (quiet_q (op_move rfl)) ?_ ?_; (· (intro p hp; grind)))
        (refine' TA_take 2 rfl rfl (by kernel_rfl) (quiet_q (op_move rfl)) ?_ ?_; (· (intro p hp; grind)))
        (refine' TA_take 3 rfl rfl (by kernel_rfl) (quiet_q (op_slice_to ety_40 rfl rfl (by omega) (by omega))) ?_ ?_; (· (intro p hp; grind)))
        (refine' TA_take 5 rfl rfl (by kernel_rfl) (quiet_q (op_move rfl)) ?_ ?_; (· (intro p hp; grind)))
        (refine' TA_take 6 rfl rfl (by kernel_rfl) (quiet_q (op_move rfl)) ?_ ?_; (· (intro p hp; grind)))
        (refine' TA_take 7 rfl rfl (by kernel_rfl) (quiet_q (op_bin rfl rfl ?_)) ?_ ?_; rotate_left 1; (· (exact bin_add ⟨by omega, by omega⟩)); (· (intro p hp; grind)))
        (refine' TA_take 8 rfl rfl (by kernel_rfl) (quiet_q (op_cutFrom ety_40 rfl rfl (by omega) (by omega))) ?_ ?_; (· (intro p hp; grind)))
        refine TA_oneD 0 (by kernel_rfl) rfl rfl rfl rfl (op_lit0 ety_40) ?_; rintro _ _ ⟨b0, rfl, rfl⟩; refine ⟨Or.inr (fun p hp => absurd hp (by simp)), ?_⟩
        refine TA_cnt (L' := [(b0, Obj.cells #[] 60 (0, 0))] ++ (B2 ++ (B ++ (N ++ L)))) ?_ (by intro p; (try simp only [cnt_append, cnt_cons, cnt_nil]) <;> omega); refine TA_oneD 4 (by kernel_rfl) rfl rfl rfl rfl (op_appendG2 (r := fun _ => rsR N) (L0 := B ++ N) (l := []) (m := sets.take mi) ety_40 rfl rfl rfl (by rw [List.length_take]; omega) ORow.made htake (mem_of_cnt (by intro p; (try simp only [cnt_append, cnt_cons, cnt_nil]) <;> omega)) mono_const (fun cs y h => rsR.one h) (by simp; omega) (by decide)) ?_; rintro _ _ ⟨a3, c3, B3, rfl, hB3, rfl⟩; refine ⟨Or.inr (fun p hp => absurd hp (by simp)), ?_⟩
        refine TA_oneD 9 (by kernel_rfl) rfl rfl rfl rfl (op_appendG2 (r := fun _ => rsR N) (L0 := B ++ N) (l := [] ++ sets.take mi) (m := sets.drop (mi + 1)) ety_40 rfl rfl rfl (by rw [List.length_drop]; omega) hB3 hdrop (mem_of_cnt (by intro p; (try simp only [cnt_append, cnt_cons, cnt_nil]) <;> omega)) mono_const (fun cs y h => rsR.one h) (by simp; omega) (by decide)) ?_; rintro _ _ ⟨a4, c4, B4, rfl, hB4, rfl⟩; refine ⟨Or.inr (fun p hp => absurd hp (by simp)), ?_⟩
        (refine' TA_take 10 rfl rfl (by kernel_rfl) (quiet_q (op_assign rfl)) ?_ ?_; (· (intro p hp; grind)))
        refine TA_done (by kernel_rfl) ?_
        repeat ((with_reducible refine TQ_block ?_))
        refine TQ_roundS (sets.eraseIdx mi, a4, c4, B4, out ++ [s], a2, c2, B2) ⟨?_, ?_, hB2, fun t ht => hnm t (List.mem_of_mem_eraseIdx ht), ?_⟩ ?_ (fun w h => h.cnt (by intro p; (try simp only [cnt_append, cnt_cons, cnt_nil]) <;> omega)) ?_
        · dsimp only
          rw [List.append_assoc, ← hrise]
          exact h1
        · have := hB4.imp (r' := rsR) (L' := N) (fun cs x _ h => h)
          rw [List.nil_append, erase_cut] at this
          exact this
        · dsimp only
          rw [List.length_eraseIdx_of_lt hm1, List.length_append]
          simp
          omega
        · dsimp only
          rw [List.nil_append, erase_cut]
          (repeat ((first | exact trivial | refine ⟨rfl, ?_⟩)))
        · dsimp only
          rw [List.length_eraseIdx_of_lt hm1]
          omega
    · have h0 : sets = [] := List.eq_nil_of_length_eq_zero (by omega)
      subst h0
      have hr : Vd.rise ([] : List RSet).length ([] : List RSet) = [] := rfl
      rw [hr, List.append_nil] at h1
      rw [← h1]
      repeat ((first | with_reducible refine T_seq ?_ | with_reducible refine T_region ?_ | with_reducible refine TL_nil ?_ | with_reducible refine TQ_then ?_ | with_reducible refine T_exit ?_ | with_reducible refine T_ret ?_ | with_reducible refine TQ_then_exit ?_ | with_reducible refine TQ_block_exit ?_ | refine TL_q (op_move rfl) rfl ?_ | refine TL_q (op_assign rfl) rfl ?_ | (refine' TL_q (op_bin rfl rfl ?_) rfl ?_; rotate_left 1; (· (exact bin_gtr))) | refine TL_q (op_len_slice rfl Try.underlying40) rfl ?_ | (refine T_no rfl ?_ ?_; (· (exact Bool.not_true)))))
      refine TQ_cnt (L' := Bo ++ (N ++ L)) ?_ (by intro p; (try simp only [cnt_append, cnt_cons, cnt_nil]) <;> omega)
      refine TQ_ret1 2 _ rfl rfl ?_
      exact ⟨_, _, _, _, rfl, hBo, hN, rfl⟩
end Go.Proofs.Ytdflhdfapnhjjaa
namespace Go.Proofs.Ytdflhdfapnhjjaa
open Go.RowKit
open Vd (RSet Vdt Vote Rec Quest Piece)
set_option linter.unusedVariables false
set_option linter.unusedSimpArgs false
--auto
variable {G : World} {L : Blocks}
def questR : Rp Quest := fun _ cs q => cs = [.string (bs q.name), .int .u16 q.kind, .int .u16 q.cls] ∧ q.name.length ≤ maxLen ∧ (0 ≤ q.kind ∧ q.kind ≤ 65535) ∧ (0 ≤ q.cls ∧ q.cls ≤ 65535)
/-- Rows, a name, an error. -/
def TrOut (N L : Blocks) (x : Vd.Trail) (u : Value) (M : Blocks) : Prop := ∃ a c B a2 c2 B2, u = .tuple #[.slice a x.chain.length c, .string (bs x.pos), .slice a2 x.last.length c2, .int .i64 x.e] ∧ ORow rsR 60 5 N a c x.chain B ∧ ORow rsR 60 5 N a2 c2 x.last B2 ∧ M = B2 ++ (B ++ L)
theorem TrOut.bad {N : Blocks} (e : Int) (p : Vd.Bytes) : TrOut N L ⟨[], p, [], e⟩ (.tuple #[.slice none 0 0, .string (bs p), .slice none 0 0, .int .i64 e]) L := ⟨none, 0, [], none, 0, [], rfl, ORow.nil _, ORow.nil _, rfl⟩
theorem rs_lit {N : Blocks} {cs : List Value} {s : RSet} {b : Nat} {e : TypeId} (h : rsR N cs s) : ORow rsR e 5 N (some ⟨b, 0, none⟩) 1 [s] [(b, .cells cs.toArray e (0, 0))] := ORow.lit1 h.len h h.one
theorem findS_name {l : List RSet} {n : Vd.Bytes} {k c : Int} (h : (Vd.findS l n k c).2 = true) : (Vd.findS l n k c).1 ∈ l := by
  unfold Vd.findS at h ⊢
  split
  · rename_i s hs
    exact List.mem_of_find?_eq_some hs
  · rename_i hs
    rw [hs] at h
    cases h
set_option maxRecDepth 100000 in
set_option maxHeartbeats 4000000 in
theorem Follow_S {K N : Blocks} (cq : List Value) (q : Quest) (v : Value) (l : List RSet) (hq : questR L cq q) (hqn : q.name.length ≤ 1000000) (hK : ∀ p ∈ K, p ∈ L) (hN : ∀ p ∈ N, p ∈ L) (hl : sliceR 5 (fun _ => rsR N) K [v] l) (hs : ∀ s ∈ l, s.name.length ≤ 1000000) (hd : ∀ s ∈ l, ∀ d ∈ s.data, d.length ≤ 1000000) :
    Spec Try.prog G 82 #[.agg cq.toArray, v] L (TrOut N L (Vd.follow q l)) := by
  obtain ⟨rfl, _, hk0, hc0⟩ := hq
  obtain ⟨av, cv, e1, hl⟩ := hl.val
  simp only [List.cons.injEq, and_true] at e1
  subst e1
  refine Spec_of (n := 111) Try.func82 rfl rfl rfl ?_
  cases hm : Nm.may q.name with
  | false =>
    have hT : Vd.follow q l = ⟨[], [], [], 1⟩ := by unfold Vd.follow; rw [hm]; rfl
    rw [hT]
    repeat ((first | with_reducible refine T_seq ?_ | with_reducible refine T_region ?_ | with_reducible refine TL_nil ?_ | with_reducible refine TQ_then ?_ | with_reducible refine T_ret ?_ | with_reducible refine TQ_then_ret ?_ | refine TL_q (op_assign rfl) rfl ?_ | refine TL_q (op_not rfl) rfl ?_ | refine TL_q (op_fld rfl fld_34_0) rfl ?_ | (refine' TL_q (op_ld rfl pl_9 ?_ ?_) rfl ?_; rotate_left 4; (· repeat ((exact List.mem_cons_self))); (· (rfl))) | (refine' TL_op (op_call hb_58 rfl (refMay_S _ ?_)) rfl ?_; (· (omega))) | (refine TL_new (op_boxA rfl) rfl ?_; intro bBox) | (refine T_yes rfl ?_ ?_; (· (exact xT (by (assumption)))))))
    refine TQ_heap (fun w h => h.tail) ?_
    refine TQ_ret4 4 5 6 7 _ _ _ _ rfl rfl rfl rfl rfl ?_
    exact TrOut.bad _ _
  | true =>
  have hT : Vd.follow q l = Vd.followGo q l 9 (Nm.fold q.name) [Nm.fold q.name] [] := by unfold Vd.follow; rw [hm]; rfl
  rw [hT]
  have hf0 := fold_255 q.name
  repeat ((first | with_reducible refine T_seq ?_ | with_reducible refine T_block ?_ | with_reducible refine T_region ?_ | with_reducible refine TL_nil ?_ | with_reducible refine TQ_then ?_ | with_reducible refine T_skip ?_ | refine TL_q (op_move rfl) rfl ?_ | refine TL_q (op_assign rfl) rfl ?_ | refine TL_q (op_not rfl) rfl ?_ | refine TL_q (op_fld rfl fld_34_0) rfl ?_ | (refine' TL_q (op_ld rfl pl_9 ?_ ?_) rfl ?_; rotate_left 4; (· repeat ((exact List.mem_cons_self))); (· (rfl))) | (refine' TL_op (op_call hb_58 rfl (refMay_S _ ?_)) rfl ?_; (· (omega))) | (refine' TL_op (op_call hb_61 rfl (refFold_S _ ?_)) rfl ?_; (· (omega))) | (refine TL_new (op_boxA rfl) rfl ?_; intro bBox) | (refine TL_new (op_lit1 ety_58 rfl rfl) rfl ?_; intro bLit) | (refine T_no rfl ?_ ?_; (· (exact xF (by (assumption)))))))
  refine T_loopS (σ := Vd.Bytes × List Vd.Bytes × List RSet × Option Addr × Nat × Blocks × Option Addr × Nat × Blocks) (fun x => Vd.followGo q l (9 - x.2.2.1.length) x.1 x.2.1 x.2.2.1 = Vd.followGo q l 9 (Nm.fold q.name) [Nm.fold q.name] [] ∧ x.2.2.1.length ≤ 8 ∧ x.2.1.length = x.2.2.1.length + 1 ∧ x.1.length ≤ 255 ∧ ORow strR 9 1 L x.2.2.2.1 x.2.2.2.2.1 x.2.1 x.2.2.2.2.2.1 ∧ ORow rsR 60 5 N x.2.2.2.2.2.2.1 x.2.2.2.2.2.2.2.1 x.2.2.1 x.2.2.2.2.2.2.2.2)
    (fun x => [(1, .slice av l.length cv), (2, .pointer (some ⟨bBox, 0, none⟩)), (8, .string (bs x.1)), (9, .slice x.2.2.2.1 x.2.1.length x.2.2.2.2.1), (10, .slice x.2.2.2.2.2.2.1 x.2.2.1.length x.2.2.2.2.2.2.2.1)])
    (fun x => (bBox, Obj.cells #[.string (bs q.name), .int .u16 q.kind, .int .u16 q.cls] 34 (0, 0)) :: (x.2.2.2.2.2.1 ++ (x.2.2.2.2.2.2.2.2 ++ L))) (fun x => 9 - x.2.2.1.length) (Nm.fold q.name, [Nm.fold q.name], [], some ⟨bLit, 0, none⟩, 1, [(bLit, Obj.cells #[.string (bs (Nm.fold q.name))] 9 (0, 0))], none, 0, []) ⟨rfl, by simp, rfl, hf0, ORow.lit1 rfl ⟨rfl, by unfold maxLen; omega⟩ (by intro v hv; rw [List.mem_singleton.1 hv]; rfl), ORow.nil _⟩ ?_ (fun w h => h.cnt (by intro p; (try simp only [cnt_append, cnt_cons, cnt_nil]) <;> omega)) ?_
  (repeat ((first | exact trivial | refine ⟨rfl, ?_⟩)))
  rintro ⟨pos, met, chain, am, cm, Bm, ac, cc, Bc⟩ ⟨h1, h2, h3, h4, hM, hC⟩
  dsimp only at h1 h2 h3 h4 hM hC ⊢
  have htail : ∀ (hend : Vd.trailEnd q l pos chain = Vd.followGo q l 9 (Nm.fold q.name) [Nm.fold q.name] []), True := fun _ => trivial
  obtain ⟨f, hf⟩ : ∃ f, 9 - chain.length = f + 1 := ⟨8 - chain.length, by omega⟩
  have hf' : 9 - (chain.length + 1) = f := by omega
  rw [hf] at h1
  rw [Vd.followGo] at h1
  by_cases hk5 : q.kind = 5
  · rw [if_pos hk5] at h1
    repeat ((first | with_reducible refine T_seq ?_ | with_reducible refine T_region ?_ | with_reducible refine TL_nil ?_ | with_reducible refine TQ_then ?_ | with_reducible refine T_exit ?_ | with_reducible refine TQ_then_exit ?_ | with_reducible refine TQ_block_exit ?_ | refine TL_q (op_move rfl) rfl ?_ | (refine' TL_q (op_bin rfl rfl ?_) rfl ?_; rotate_left 1; (· (exact bin_neq))) | refine TL_q (op_fld rfl fld_34_1) rfl ?_ | refine TL_q (op_fld rfl fld_34_2) rfl ?_ | (refine' TL_q (op_ld rfl pl_9 ?_ ?_) rfl ?_; rotate_left 4; (· repeat ((exact List.mem_cons_self))); (· (rfl))) | (refine T_no rfl ?_ ?_; (· (exact nF (by (assumption)))))))
    refine TL_opT (op_call hb_96 rfl (rFind_S _ l pos q.kind q.cls (fun p hp => List.mem_cons_of_mem _ (List.mem_append_right _ (List.mem_append_right _ (hK p hp)))) hl (by omega) hs)) rfl ?_
    rintro _ _ ⟨cs2, rfl, hs2, rfl⟩
    obtain ⟨⟨s2, is2⟩, hF2⟩ : ∃ x, Vd.findS l pos q.kind q.cls = x := ⟨_, rfl⟩
    unfold Vd.trailEnd at h1
    rw [hF2] at hs2 h1 ⊢
    dsimp only at hs2 h1 ⊢
    obtain ⟨a2, c2, rfl, _⟩ := hs2.vals
    rw [← h1]
    cases is2 with
    | false =>
      simp only [Bool.false_eq_true, if_false]
      repeat ((first | with_reducible refine T_seq ?_ | with_reducible refine T_region ?_ | with_reducible refine TL_nil ?_ | with_reducible refine TQ_then ?_ | with_reducible refine T_ret ?_ | with_reducible refine TQ_then_ret ?_ | refine TL_q (op_move rfl) rfl ?_ | refine TL_q (op_assign rfl) rfl ?_ | refine TL_q (op_not rfl) rfl ?_ | refine TL_q (op_extract rfl rfl) rfl ?_ | (refine TL_stAll rfl rfl st_60 rfl rfl rfl ?_) | (refine TL_new (op_alloc (C := #[(.string (bs [])), (.int .u16 0), (.int .u16 0), (.int .u32 0), (.slice none 0 0)]) zero_60 rfl) rfl ?_; intro bNew) | (refine T_yes rfl ?_ ?_; (· (exact Bool.not_false)))))
      refine TQ_cnt (L' := Bc ++ L) ?_ (by intro p; (try simp only [cnt_append, cnt_cons, cnt_nil]) <;> omega)
      refine TQ_ret4 4 5 6 7 _ _ _ _ rfl rfl rfl rfl rfl ?_
      exact ⟨ac, cc, Bc, none, 0, [], rfl, hC, ORow.nil _, rfl⟩
    | true =>
      simp only [if_true]
      repeat ((first | with_reducible refine T_seq ?_ | with_reducible refine T_region ?_ | with_reducible refine TL_nil ?_ | with_reducible refine TQ_then ?_ | with_reducible refine T_skip ?_ | refine TL_q (op_move rfl) rfl ?_ | refine TL_q (op_assign rfl) rfl ?_ | refine TL_q (op_not rfl) rfl ?_ | refine TL_q (op_extract rfl rfl) rfl ?_ | (refine TL_stAll rfl rfl st_60 rfl rfl rfl ?_) | (refine TL_new (op_alloc (C := #[(.string (bs [])), (.int .u16 0), (.int .u16 0), (.int .u32 0), (.slice none 0 0)]) zero_60 rfl) rfl ?_; intro bNew) | (refine T_no rfl ?_ ?_; (· (exact Bool.not_true)))))
      revert bNew
      intro bS2
      have hKm : ∀ z ∈ [(bS2, Obj.cells #[.string (bs s2.name), .int .u16 s2.kind, .int .u16 s2.cls, .int .u32 s2.ttl, .slice a2 s2.data.length c2] 60 (0, 0))], z ∈ (bS2, Obj.cells #[.string (bs s2.name), .int .u16 s2.kind, .int .u16 s2.cls, .int .u32 s2.ttl, .slice a2 s2.data.length c2] 60 (0, 0)) :: ((bBox, Obj.cells #[.string (bs q.name), .int .u16 q.kind, .int .u16 q.cls] 34 (0, 0)) :: (Bm ++ (Bc ++ L))) := fun z hz => by rw [List.mem_singleton.1 hz]; exact List.mem_cons_self ..
      refine T_draw follows_mixed ([(bS2, Obj.cells #[.string (bs s2.name), .int .u16 s2.kind, .int .u16 s2.cls, .int .u32 s2.ttl, .slice a2 s2.data.length c2] 60 (0, 0))]) [] ?_
      (refine' TA_take 0 rfl rfl (by kernel_rfl) (quiet_q (op_move rfl)) ?_ ?_; (· (assumption)))
      (refine' TA_take 1 rfl rfl (by kernel_rfl) (quiet_q (op_move rfl)) ?_ ?_; (· (assumption)))
      (refine' TA_take 2 rfl rfl (by kernel_rfl) (quiet_q (op_ldAll rfl st_60 ?_ ?_)) ?_ ?_; rotate_left 3; (· repeat ((exact List.mem_cons_self))); (· (rfl)); (· (assumption)))
      (refine' TA_take 4 rfl rfl (by kernel_rfl) (quiet_q (op_assign rfl)) ?_ ?_; (· (assumption)))
      (refine' TA_take 5 rfl rfl (by kernel_rfl) (quiet_q (op_assign rfl)) ?_ ?_; (· (assumption)))
      refine TA_oneD 3 (by kernel_rfl) rfl rfl rfl rfl (op_litN ety_40 rfl rfl (by decide)) ?_; rintro _ _ ⟨bL2, rfl, rfl⟩; refine ⟨Or.inr (fun p hp => List.mem_cons_of_mem _ (hKm p hp)), ?_⟩
      (refine' TA_take 6 rfl rfl (by kernel_rfl) (quiet_q (op_assign rfl)) ?_ ?_; (· (intro p hp; grind)))
      (refine' TA_take 7 rfl rfl (by kernel_rfl) (quiet_q (op_assign rfl)) ?_ ?_; (· (intro p hp; grind)))
      refine TA_done (by kernel_rfl) ?_
      repeat ((first | with_reducible refine TQ_then ?_ | with_reducible refine T_ret ?_))
      refine TQ_cnt (L' := [(bL2, Obj.cells #[.string (bs s2.name), .int .u16 s2.kind, .int .u16 s2.cls, .int .u32 s2.ttl, .slice a2 s2.data.length c2] 60 (0, 0))] ++ (Bc ++ L)) ?_ (by intro p; (try simp only [cnt_append, cnt_cons, cnt_nil]) <;> omega)
      refine TQ_ret4 4 5 6 7 _ _ _ _ rfl rfl rfl rfl rfl ?_
      exact ⟨ac, cc, Bc, _, _, _, rfl, hC, rs_lit hs2, rfl⟩
  rw [if_neg hk5] at h1
  obtain ⟨⟨s1, is1⟩, hF1⟩ : ∃ x, Vd.findS l pos 5 q.cls = x := ⟨_, rfl⟩
  repeat ((first | with_reducible refine T_seq ?_ | with_reducible refine T_block ?_ | with_reducible refine T_region ?_ | with_reducible refine TL_nil ?_ | with_reducible refine TQ_then ?_ | with_reducible refine T_skip ?_ | refine TL_q (op_move rfl) rfl ?_ | (refine' TL_q (op_bin rfl rfl ?_) rfl ?_; rotate_left 1; (· (exact bin_neq))) | refine TL_q (op_fld rfl fld_34_1) rfl ?_ | refine TL_q (op_fld rfl fld_34_2) rfl ?_ | (refine' TL_q (op_ld rfl pl_9 ?_ ?_) rfl ?_; rotate_left 4; (· repeat ((exact List.mem_cons_self))); (· (rfl))) | (refine T_yes rfl ?_ ?_; (· (exact nT (by (assumption)))))))
  refine TL_opT (op_call hb_96 rfl (rFind_S _ l pos 5 q.cls (fun p hp => List.mem_cons_of_mem _ (List.mem_append_right _ (List.mem_append_right _ (hK p hp)))) hl (by omega) hs)) rfl ?_
  rintro _ _ ⟨cs1, rfl, hs1, rfl⟩
  rw [hF1] at hs1 h1 ⊢
  dsimp only at hs1 h1 ⊢
  obtain ⟨a1, c1, rfl, hs1d, _⟩ := hs1.vals
  cases is1 with
  | false =>
    simp only [Bool.not_false, Bool.not_true, Bool.true_or, Bool.false_or, if_true, Bool.false_eq_true, if_false] at h1
    repeat ((first | with_reducible refine T_seq ?_ | with_reducible refine T_region ?_ | with_reducible refine TL_nil ?_ | with_reducible refine TQ_then ?_ | with_reducible refine T_exit ?_ | with_reducible refine TQ_then_exit ?_ | with_reducible refine TQ_block_exit ?_ | (refine TQ_block_past ?_ ?_; (· decide)) | refine TL_q (op_move rfl) rfl ?_ | refine TL_q (op_assign rfl) rfl ?_ | refine TL_q (op_not rfl) rfl ?_ | refine TL_q (op_extract rfl rfl) rfl ?_ | refine TL_q (op_fld rfl fld_34_1) rfl ?_ | refine TL_q (op_fld rfl fld_34_2) rfl ?_ | (refine' TL_q (op_ld rfl pl_9 ?_ ?_) rfl ?_; rotate_left 4; (· repeat ((first | exact List.mem_cons_self | apply List.mem_cons_of_mem))); (· (rfl))) | (refine TL_stAll rfl rfl st_60 rfl rfl rfl ?_) | (refine TL_new (op_alloc (C := #[(.string (bs [])), (.int .u16 0), (.int .u16 0), (.int .u32 0), (.slice none 0 0)]) zero_60 rfl) rfl ?_; intro bNew) | (refine T_yes rfl ?_ ?_; (· (exact Bool.not_false)))))
    revert bNew
    intro bS1
    refine TL_opT (op_call hb_96 rfl (rFind_S _ l pos q.kind q.cls (fun p hp => List.mem_cons_of_mem _ (List.mem_cons_of_mem _ (List.mem_append_right _ (List.mem_append_right _ (hK p hp))))) hl (by omega) hs)) rfl ?_
    rintro _ _ ⟨cs2, rfl, hs2, rfl⟩
    obtain ⟨⟨s2, is2⟩, hF2⟩ : ∃ x, Vd.findS l pos q.kind q.cls = x := ⟨_, rfl⟩
    unfold Vd.trailEnd at h1
    rw [hF2] at hs2 h1 ⊢
    dsimp only at hs2 h1 ⊢
    obtain ⟨a2, c2, rfl, _⟩ := hs2.vals
    rw [← h1]
    cases is2 with
    | false =>
      simp only [Bool.false_eq_true, if_false]
      repeat ((first | with_reducible refine T_seq ?_ | with_reducible refine T_region ?_ | with_reducible refine TL_nil ?_ | with_reducible refine TQ_then ?_ | with_reducible refine T_ret ?_ | with_reducible refine TQ_then_ret ?_ | refine TL_q (op_move rfl) rfl ?_ | refine TL_q (op_assign rfl) rfl ?_ | refine TL_q (op_not rfl) rfl ?_ | refine TL_q (op_extract rfl rfl) rfl ?_ | (refine TL_stAll rfl rfl st_60 rfl rfl rfl ?_) | (refine TL_new (op_alloc (C := #[(.string (bs [])), (.int .u16 0), (.int .u16 0), (.int .u32 0), (.slice none 0 0)]) zero_60 rfl) rfl ?_; intro bNew) | (refine T_yes rfl ?_ ?_; (· (exact Bool.not_false)))))
      refine TQ_cnt (L' := Bc ++ L) ?_ (by intro p; (try simp only [cnt_append, cnt_cons, cnt_nil]) <;> omega)
      refine TQ_ret4 4 5 6 7 _ _ _ _ rfl rfl rfl rfl rfl ?_
      exact ⟨ac, cc, Bc, none, 0, [], rfl, hC, ORow.nil _, rfl⟩
    | true =>
      simp only [if_true]
      repeat ((first | with_reducible refine T_seq ?_ | with_reducible refine T_region ?_ | with_reducible refine TL_nil ?_ | with_reducible refine TQ_then ?_ | with_reducible refine T_skip ?_ | refine TL_q (op_move rfl) rfl ?_ | refine TL_q (op_assign rfl) rfl ?_ | refine TL_q (op_not rfl) rfl ?_ | refine TL_q (op_extract rfl rfl) rfl ?_ | (refine TL_stAll rfl rfl st_60 rfl rfl rfl ?_) | (refine TL_new (op_alloc (C := #[(.string (bs [])), (.int .u16 0), (.int .u16 0), (.int .u32 0), (.slice none 0 0)]) zero_60 rfl) rfl ?_; intro bNew) | (refine T_no rfl ?_ ?_; (· (exact Bool.not_true)))))
      revert bNew
      intro bS2
      have hKm : ∀ z ∈ [(bS2, Obj.cells #[.string (bs s2.name), .int .u16 s2.kind, .int .u16 s2.cls, .int .u32 s2.ttl, .slice a2 s2.data.length c2] 60 (0, 0))], z ∈ (bS2, Obj.cells #[.string (bs s2.name), .int .u16 s2.kind, .int .u16 s2.cls, .int .u32 s2.ttl, .slice a2 s2.data.length c2] 60 (0, 0)) :: ((bS1, Obj.cells #[.string (bs s1.name), .int .u16 s1.kind, .int .u16 s1.cls, .int .u32 s1.ttl, .slice a1 s1.data.length c1] 60 (0, 0)) :: ((bBox, Obj.cells #[.string (bs q.name), .int .u16 q.kind, .int .u16 q.cls] 34 (0, 0)) :: (Bm ++ (Bc ++ L)))) := fun z hz => by rw [List.mem_singleton.1 hz]; exact List.mem_cons_self ..
      refine T_draw follows_mixed ([(bS2, Obj.cells #[.string (bs s2.name), .int .u16 s2.kind, .int .u16 s2.cls, .int .u32 s2.ttl, .slice a2 s2.data.length c2] 60 (0, 0))]) [] ?_
      (refine' TA_take 0 rfl rfl (by kernel_rfl) (quiet_q (op_move rfl)) ?_ ?_; (· (assumption)))
      (refine' TA_take 1 rfl rfl (by kernel_rfl) (quiet_q (op_move rfl)) ?_ ?_; (· (assumption)))
      (refine' TA_take 2 rfl rfl (by kernel_rfl) (quiet_q (op_ldAll rfl st_60 ?_ ?_)) ?_ ?_; rotate_left 3; (· repeat ((exact List.mem_cons_self))); (· (rfl)); (· (assumption)))
      (refine' TA_take 4 rfl rfl (by kernel_rfl) (quiet_q (op_assign rfl)) ?_ ?_; (· (assumption)))
      (refine' TA_take 5 rfl rfl (by kernel_rfl) (quiet_q (op_assign rfl)) ?_ ?_; (· (assumption)))
      refine TA_oneD 3 (by kernel_rfl) rfl rfl rfl rfl (op_litN ety_40 rfl rfl (by decide)) ?_; rintro _ _ ⟨bL2, rfl, rfl⟩; refine ⟨Or.inr (fun p hp => List.mem_cons_of_mem _ (hKm p hp)), ?_⟩
      (refine' TA_take 6 rfl rfl (by kernel_rfl) (quiet_q (op_assign rfl)) ?_ ?_; (· (intro p hp; grind)))
      (refine' TA_take 7 rfl rfl (by kernel_rfl) (quiet_q (op_assign rfl)) ?_ ?_; (· (intro p hp; grind)))
      refine TA_done (by kernel_rfl) ?_
      repeat ((first | with_reducible refine TQ_then ?_ | with_reducible refine T_ret ?_))
      refine TQ_cnt (L' := [(bL2, Obj.cells #[.string (bs s2.name), .int .u16 s2.kind, .int .u16 s2.cls, .int .u32 s2.ttl, .slice a2 s2.data.length c2] 60 (0, 0))] ++ (Bc ++ L)) ?_ (by intro p; (try simp only [cnt_append, cnt_cons, cnt_nil]) <;> omega)
      refine TQ_ret4 4 5 6 7 _ _ _ _ rfl rfl rfl rfl rfl ?_
      exact ⟨ac, cc, Bc, _, _, _, rfl, hC, rs_lit hs2, rfl⟩
  | true =>
  simp only [Bool.not_false, Bool.not_true, Bool.true_or, Bool.false_or, if_true, Bool.false_eq_true, if_false] at h1
  by_cases h8 : 8 ≤ chain.length
  · rw [if_pos h8] at h1
    rw [← h1]
    repeat ((first | with_reducible refine T_seq ?_ | with_reducible refine T_region ?_ | with_reducible refine TL_nil ?_ | with_reducible refine TQ_then ?_ | with_reducible refine T_skip ?_ | with_reducible refine T_ret ?_ | with_reducible refine TQ_then_ret ?_ | with_reducible refine TQ_block_ret ?_ | refine TL_q (op_move rfl) rfl ?_ | refine TL_q (op_assign rfl) rfl ?_ | (refine' TL_q (op_bin rfl rfl ?_) rfl ?_; rotate_left 1; (· (exact bin_geq))) | refine TL_q (op_not rfl) rfl ?_ | refine TL_q (op_extract rfl rfl) rfl ?_ | refine TL_q (op_len_slice rfl Try.underlying40) rfl ?_ | (refine TL_stAll rfl rfl st_60 rfl rfl rfl ?_) | (refine TL_new (op_alloc (C := #[(.string (bs [])), (.int .u16 0), (.int .u16 0), (.int .u32 0), (.slice none 0 0)]) zero_60 rfl) rfl ?_; intro bNew) | (refine T_yes rfl ?_ ?_; (· (exact dT (by (first | assumption | omega))))) | (refine T_no rfl ?_ ?_; (· (exact Bool.not_true)))))
    refine TQ_cnt (L' := L) ?_ (by intro p; (try simp only [cnt_append, cnt_cons, cnt_nil]) <;> omega)
    refine TQ_ret4 4 5 6 7 _ _ _ _ rfl rfl rfl rfl rfl ?_
    exact TrOut.bad _ _
  rw [if_neg h8] at h1
  obtain ⟨⟨s2, is2⟩, hF2⟩ : ∃ x, Vd.findS l pos q.kind q.cls = x := ⟨_, rfl⟩
  repeat ((first | with_reducible refine T_seq ?_ | with_reducible refine T_region ?_ | with_reducible refine TL_nil ?_ | with_reducible refine TQ_then ?_ | with_reducible refine T_skip ?_ | refine TL_q (op_move rfl) rfl ?_ | refine TL_q (op_assign rfl) rfl ?_ | (refine' TL_q (op_bin rfl rfl ?_) rfl ?_; rotate_left 1; (· (exact bin_geq))) | refine TL_q (op_not rfl) rfl ?_ | refine TL_q (op_extract rfl rfl) rfl ?_ | refine TL_q (op_len_slice rfl Try.underlying40) rfl ?_ | refine TL_q (op_fld rfl fld_34_1) rfl ?_ | refine TL_q (op_fld rfl fld_34_2) rfl ?_ | (refine' TL_q (op_ld rfl pl_9 ?_ ?_) rfl ?_; rotate_left 4; (· repeat ((first | exact List.mem_cons_self | apply List.mem_cons_of_mem))); (· (rfl))) | (refine TL_stAll rfl rfl st_60 rfl rfl rfl ?_) | (refine TL_new (op_alloc (C := #[(.string (bs [])), (.int .u16 0), (.int .u16 0), (.int .u32 0), (.slice none 0 0)]) zero_60 rfl) rfl ?_; intro bNew) | (refine T_no rfl ?_ ?_; (· (first | exact Bool.not_true | exact dF (by (omega)))))))
  revert bNew
  intro bS1
  refine TL_opT (op_call hb_96 rfl (rFind_S _ l pos q.kind q.cls (fun p hp => List.mem_cons_of_mem _ (List.mem_cons_of_mem _ (List.mem_append_right _ (List.mem_append_right _ (hK p hp))))) hl (by omega) hs)) rfl ?_
  rintro _ _ ⟨cs2, rfl, hs2, rfl⟩
  rw [hF2] at hs2 h1 ⊢
  dsimp only at hs2 h1 ⊢
  obtain ⟨a2, c2, rfl, _⟩ := hs2.vals
  have hs1l : s1 ∈ l := by have := findS_name (l := l) (n := pos) (k := 5) (c := q.cls); rw [hF1] at this; exact this rfl
  by_cases hd1 : s1.data.length = 1
  · obtain ⟨d, hdd⟩ : ∃ d, s1.data = [d] := by
      match hh : s1.data, hd1 with
      | [d], _ => exact ⟨d, rfl⟩
    have hdl := hd s1 hs1l d (by rw [hdd]; exact List.mem_cons_self ..)
    obtain ⟨_, _, _, hs1c⟩ := strs_cut hs1d
    rcases hs1c with h0 | ⟨b3, o3, C3, t3, f3, rfl, m3, q3⟩
    · rw [h0] at hd1; simp at hd1
    have m3 := List.mem_append_right Bm (List.mem_append_right Bc (hN _ m3))
    have g3 : C3[o3 + (0 : Int).toNat * 1]? = some (.string (bs d)) := q3 0 d (by rw [hdd]; rfl)
    rw [hdd] at h1
    dsimp only at h1
    have hd1' : ((s1.data.length : Nat) : Int) = 1 := by omega
    cases hmd : Nm.may d with
    | false =>
      rw [hmd] at h1
      simp only [Bool.not_false, Bool.not_true, Bool.true_or, Bool.false_or, if_true, Bool.false_eq_true, if_false] at h1
      rw [← h1]
      repeat ((first | with_reducible refine T_seq ?_ | with_reducible refine T_region ?_ | with_reducible refine TL_nil ?_ | with_reducible refine TQ_then ?_ | with_reducible refine T_ret ?_ | with_reducible refine TQ_then_ret ?_ | with_reducible refine TQ_block_ret ?_ | refine TL_q (op_move rfl) rfl ?_ | refine TL_q (op_assign rfl) rfl ?_ | (refine' TL_q (op_bin rfl rfl ?_) rfl ?_; rotate_left 1; (· (exact bin_neq))) | refine TL_q (op_extract rfl rfl) rfl ?_ | (refine' TL_q (op_pickT rfl ?_ rfl) rfl ?_; (· (exact xT (by (assumption))))) | (refine' TL_q (op_pickF rfl ?_ rfl) rfl ?_; (· (exact nF (by (assumption))))) | refine TL_q (op_len_slice rfl Try.underlying58) rfl ?_ | refine TL_q (op_fld rfl fld_60_4) rfl ?_ | (refine' TL_q (op_ld rfl pl_9 ?_ ?_) rfl ?_; rotate_left 4; (· repeat ((first | exact List.mem_cons_self | apply List.mem_cons_of_mem))); (· (rfl))) | (refine' TG_op (op_call hb_58 rfl (refMay_S _ ?_)) rfl ?_; (· (omega))) | (refine TL_gpre rfl rfl ?_ ?_; (· (exact nF (by (assumption))))) | refine TL_gq2 (op_not rfl) rfl ?_ | (refine' TL_gq2 (op_idxI ety_58 rfl rfl ?_ ?_) rfl ?_; (· omega); (· omega)) | refine TL_gq2 (op_fld rfl fld_60_4) rfl ?_ | (refine' TL_gq2 (op_ld rfl pl_9 ?_ ?_) rfl ?_; rotate_left 4; (· repeat ((first | assumption | exact List.mem_cons_self | apply List.mem_cons_of_mem))); (· (first | assumption | rfl))) | (refine TL_gno rfl rfl ?_ rfl ?_; (· (exact xT (by (assumption))))) | (refine TL_stAll rfl rfl st_60 rfl rfl rfl ?_) | (refine TL_new (op_alloc (C := #[(.string (bs [])), (.int .u16 0), (.int .u16 0), (.int .u32 0), (.slice none 0 0)]) zero_60 rfl) rfl ?_; intro bNew) | (refine T_yes rfl ?_ ?_; (· (with_reducible rfl)))))
      refine TQ_cnt (L' := L) ?_ (by intro p; (try simp only [cnt_append, cnt_cons, cnt_nil]) <;> omega)
      refine TQ_ret4 4 5 6 7 _ _ _ _ rfl rfl rfl rfl rfl ?_
      exact TrOut.bad _ _
    | true =>
    rw [hmd] at h1
    cases is2 with
    | true =>
      simp only [Bool.not_false, Bool.not_true, Bool.true_or, Bool.false_or, if_true, Bool.false_eq_true, if_false] at h1
      rw [← h1]
      repeat ((first | with_reducible refine T_seq ?_ | with_reducible refine T_region ?_ | with_reducible refine TL_nil ?_ | with_reducible refine TQ_then ?_ | with_reducible refine T_ret ?_ | with_reducible refine TQ_then_ret ?_ | with_reducible refine TQ_block_ret ?_ | refine TL_q (op_move rfl) rfl ?_ | refine TL_q (op_assign rfl) rfl ?_ | (refine' TL_q (op_bin rfl rfl ?_) rfl ?_; rotate_left 1; (· (exact bin_neq))) | refine TL_q (op_extract rfl rfl) rfl ?_ | (refine' TL_q (op_pickF rfl ?_ rfl) rfl ?_; (· (first | exact nF (by (assumption)) | exact xF (by (assumption))))) | refine TL_q (op_len_slice rfl Try.underlying58) rfl ?_ | refine TL_q (op_fld rfl fld_60_4) rfl ?_ | (refine' TL_q (op_ld rfl pl_9 ?_ ?_) rfl ?_; rotate_left 4; (· repeat ((first | exact List.mem_cons_self | apply List.mem_cons_of_mem))); (· (rfl))) | (refine' TG_op (op_call hb_58 rfl (refMay_S _ ?_)) rfl ?_; (· (omega))) | (refine TL_gpre rfl rfl ?_ ?_; (· (first | exact nF (by (assumption)) | exact xF (by (assumption))))) | refine TL_gq2 (op_move rfl) rfl ?_ | refine TL_gq2 (op_not rfl) rfl ?_ | (refine' TL_gq2 (op_idxI ety_58 rfl rfl ?_ ?_) rfl ?_; (· omega); (· omega)) | refine TL_gq2 (op_fld rfl fld_60_4) rfl ?_ | (refine' TL_gq2 (op_ld rfl pl_9 ?_ ?_) rfl ?_; rotate_left 4; (· repeat ((first | assumption | exact List.mem_cons_self | apply List.mem_cons_of_mem))); (· (first | assumption | rfl))) | (refine TL_stAll rfl rfl st_60 rfl rfl rfl ?_) | (refine TL_new (op_alloc (C := #[(.string (bs [])), (.int .u16 0), (.int .u16 0), (.int .u32 0), (.slice none 0 0)]) zero_60 rfl) rfl ?_; intro bNew) | (refine T_yes rfl ?_ ?_; (· (with_reducible rfl)))))
      refine TQ_cnt (L' := L) ?_ (by intro p; (try simp only [cnt_append, cnt_cons, cnt_nil]) <;> omega)
      refine TQ_ret4 4 5 6 7 _ _ _ _ rfl rfl rfl rfl rfl ?_
      exact TrOut.bad _ _
    | false =>
    simp only [Bool.not_false, Bool.not_true, Bool.true_or, Bool.false_or, if_true, Bool.false_eq_true, if_false] at h1
    have hfd := fold_255 d
    have hcapm := hM.cap
    repeat ((first | with_reducible refine T_seq ?_ | with_reducible refine T_block ?_ | with_reducible refine T_region ?_ | with_reducible refine TL_nil ?_ | with_reducible refine TQ_then ?_ | with_reducible refine T_skip ?_ | refine TL_q (op_move rfl) rfl ?_ | refine TL_q (op_assign rfl) rfl ?_ | (refine' TL_q (op_bin rfl rfl ?_) rfl ?_; rotate_left 1; (· (exact bin_neq))) | refine TL_q (op_extract rfl rfl) rfl ?_ | (refine' TL_q (op_pickF rfl ?_ rfl) rfl ?_; (· (first | exact nF (by (assumption)) | exact xF (by (assumption))))) | refine TL_q (op_len_slice rfl Try.underlying58) rfl ?_ | (refine' TL_q (op_idxI ety_58 rfl rfl ?_ ?_) rfl ?_; (· omega); (· omega)) | refine TL_q (op_fld rfl fld_60_4) rfl ?_ | (refine' TL_q (op_ld rfl pl_9 ?_ ?_) rfl ?_; rotate_left 4; (· repeat ((first | assumption | exact List.mem_cons_self | apply List.mem_cons_of_mem))); (· (first | assumption | rfl))) | (refine' TG_op (op_call hb_58 rfl (refMay_S _ ?_)) rfl ?_; (· (omega))) | (refine' TL_op (op_call hb_61 rfl (refFold_S _ ?_)) rfl ?_; (· (omega))) | (refine TL_gpre rfl rfl ?_ ?_; (· (first | exact nF (by (assumption)) | exact xF (by (assumption))))) | refine TL_gq2 (op_move rfl) rfl ?_ | refine TL_gq2 (op_not rfl) rfl ?_ | (refine' TL_gq2 (op_idxI ety_58 rfl rfl ?_ ?_) rfl ?_; (· omega); (· omega)) | refine TL_gq2 (op_fld rfl fld_60_4) rfl ?_ | (refine' TL_gq2 (op_ld rfl pl_9 ?_ ?_) rfl ?_; rotate_left 4; (· repeat ((first | assumption | exact List.mem_cons_self | apply List.mem_cons_of_mem))); (· (first | assumption | rfl))) | (refine TL_stAll rfl rfl st_60 rfl rfl rfl ?_) | (refine TL_new (op_alloc (C := #[(.string (bs [])), (.int .u16 0), (.int .u16 0), (.int .u32 0), (.slice none 0 0)]) zero_60 rfl) rfl ?_; intro bNew) | (refine T_no rfl ?_ ?_; (· (with_reducible rfl)))))
    refine T_loopS (σ := Nat) (fun i => i ≤ met.length ∧ (met.take i).contains (Nm.fold d) = false) (fun i => [(1, .slice av l.length cv), (2, .pointer (some ⟨bBox, 0, none⟩)), (8, .string (bs (Nm.fold d))), (9, .slice am met.length cm), (10, .slice ac chain.length cc), (11, .pointer (some ⟨bS1, 0, none⟩)), (15, .int .i64 (i : Nat))])
      (fun i => (bBox, Obj.cells #[.string (bs q.name), .int .u16 q.kind, .int .u16 q.cls] 34 (0, 0)) :: ((bS1, Obj.cells #[.string (bs s1.name), .int .u16 s1.kind, .int .u16 s1.cls, .int .u32 s1.ttl, .slice (some ⟨b3, o3, none⟩) s1.data.length c1] 60 (0, 0)) :: (Bm ++ (Bc ++ L)))) (fun i => met.length - i) 0 ⟨Nat.zero_le _, by simp⟩ ?_ (fun w h => h.cnt (by intro p; (try simp only [cnt_append, cnt_cons, cnt_nil]) <;> omega)) ?_
    (repeat ((first | exact trivial | refine ⟨rfl, ?_⟩)))
    rintro i ⟨hi, hcon⟩
    by_cases hil : i < met.length
    · obtain ⟨b4, cur, rfl, hBe, _, _, _, hcur⟩ := hM.block (fun e => by rw [e] at hil; simp at hil)
      obtain ⟨y, hy⟩ : ∃ y, met[i]? = some y := ⟨_, List.getElem?_eq_getElem hil⟩
      obtain ⟨cy, _, ⟨rfl, _⟩, _, hcy⟩ := hcur i y hy
      have g4 : cur[0 + i * 1]? = some (.string (bs y)) := by rw [Nat.zero_add]; exact hcy 0 _ rfl
      have m4 : (b4, Obj.cells cur 9 (0, 0)) ∈ (bBox, Obj.cells #[.string (bs q.name), .int .u16 q.kind, .int .u16 q.cls] 34 (0, 0)) :: ((bS1, Obj.cells #[.string (bs s1.name), .int .u16 s1.kind, .int .u16 s1.cls, .int .u32 s1.ttl, .slice (some ⟨b3, o3, none⟩) s1.data.length c1] 60 (0, 0)) :: (Bm ++ (Bc ++ L))) := by rw [hBe]; simp
      by_cases hyd : y = Nm.fold d
      · have hc : met.contains (Nm.fold d) = true := by rw [List.contains_iff_mem, ← hyd]; exact List.mem_of_getElem? hy
        rw [hc] at h1
        simp only [if_true] at h1
        rw [← h1]
        repeat ((first | with_reducible refine T_seq ?_ | with_reducible refine T_block ?_ | with_reducible refine T_region ?_ | with_reducible refine TL_nil ?_ | with_reducible refine TQ_then ?_ | with_reducible refine T_skip ?_ | with_reducible refine T_ret ?_ | with_reducible refine TQ_then_ret ?_ | with_reducible refine TQ_block_ret ?_ | refine TL_q (op_move rfl) rfl ?_ | refine TL_q (op_assign rfl) rfl ?_ | (refine' TL_q (op_bin rfl rfl ?_) rfl ?_; rotate_left 1; (· (first | exact bin_lss | exact sbin_eql))) | refine TL_q (op_len_slice rfl Try.underlying58) rfl ?_ | (refine' TL_q (op_idx ety_58 rfl rfl ?_) rfl ?_; (· omega)) | (refine' TL_q (op_ld rfl pl_9 ?_ ?_) rfl ?_; rotate_left 4; (· repeat ((assumption))); (· (assumption))) | (refine T_yes rfl ?_ ?_; (· (first | exact dT (by (first | assumption | omega)) | exact eT (by (assumption)))))))
        refine TQ_cnt (L' := L) ?_ (by intro p; (try simp only [cnt_append, cnt_cons, cnt_nil]) <;> omega)
        refine TQ_ret4 4 5 6 7 _ _ _ _ rfl rfl rfl rfl rfl ?_
        exact TrOut.bad _ _
      · repeat ((first | with_reducible refine T_seq ?_ | with_reducible refine T_block ?_ | with_reducible refine T_region ?_ | with_reducible refine TL_nil ?_ | with_reducible refine TQ_then ?_ | with_reducible refine TQ_block ?_ | with_reducible refine T_skip ?_ | refine TL_q (op_move rfl) rfl ?_ | refine TL_q (op_assign rfl) rfl ?_ | (refine' TL_q (op_bin rfl rfl ?_) rfl ?_; rotate_left 1; (· (first | exact bin_add ⟨by omega, by omega⟩ | exact bin_lss | exact sbin_eql))) | refine TL_q (op_len_slice rfl Try.underlying58) rfl ?_ | (refine' TL_q (op_idx ety_58 rfl rfl ?_) rfl ?_; (· omega)) | (refine' TL_q (op_ld rfl pl_9 ?_ ?_) rfl ?_; rotate_left 4; (· repeat ((assumption))); (· (assumption))) | (refine T_yes rfl ?_ ?_; (· (exact dT (by (first | assumption | omega))))) | (refine T_no rfl ?_ ?_; (· (exact eF (by (assumption)))))))
        refine TQ_roundS (i + 1) ⟨hil, ?_⟩ ?_ (fun w h => h) (by omega)
        · rw [List.take_add_one, hy, List.contains_eq_any_beq, List.any_append, ← List.contains_eq_any_beq, hcon]
          simp
          exact fun e => hyd e.symm
        (repeat ((first | exact trivial | refine ⟨rfl, ?_⟩)))
    · have hie : i = met.length := by omega
      subst hie
      rw [List.take_length] at hcon
      rw [hcon] at h1
      simp only [Bool.false_eq_true, if_false] at h1
      repeat ((first | with_reducible refine T_seq ?_ | with_reducible refine T_region ?_ | with_reducible refine TL_nil ?_ | with_reducible refine TQ_then ?_ | with_reducible refine T_exit ?_ | with_reducible refine TQ_then_exit ?_ | with_reducible refine TQ_block_exit ?_ | refine TL_q (op_move rfl) rfl ?_ | (refine' TL_q (op_bin rfl rfl ?_) rfl ?_; rotate_left 1; (· (exact bin_lss))) | refine TL_q (op_len_slice rfl Try.underlying58) rfl ?_ | (refine TL_new (op_lit1 ety_58 rfl rfl) rfl ?_; intro bLit) | (refine T_no rfl ?_ ?_; (· (exact dF (by (omega)))))))
      refine TL_cnt (L' := (bLit, Obj.cells #[.string (bs (Nm.fold d))] 9 (0, 0)) :: (Bm ++ ((bBox, Obj.cells #[.string (bs q.name), .int .u16 q.kind, .int .u16 q.cls] 34 (0, 0)) :: ((bS1, Obj.cells #[.string (bs s1.name), .int .u16 s1.kind, .int .u16 s1.cls, .int .u32 s1.ttl, .slice (some ⟨b3, o3, none⟩) s1.data.length c1] 60 (0, 0)) :: (Bc ++ L))))) ?_ (by intro p; (try simp only [cnt_append, cnt_cons, cnt_nil]) <;> omega)
      refine TL_opT (op_pushS (L0 := L) (y := Nm.fold d) ety_58 rfl rfl hM (by unfold maxLen; omega) (by omega) (by decide)) rfl ?_
      rintro _ _ ⟨am', cm', Bm', rfl, hM', rfl⟩
      refine TL_cnt (L' := (bS1, Obj.cells #[.string (bs s1.name), .int .u16 s1.kind, .int .u16 s1.cls, .int .u32 s1.ttl, .slice (some ⟨b3, o3, none⟩) s1.data.length c1] 60 (0, 0)) :: ((bBox, Obj.cells #[.string (bs q.name), .int .u16 q.kind, .int .u16 q.cls] 34 (0, 0)) :: (Bm' ++ (Bc ++ L)))) ?_ (by intro p; (try simp only [cnt_append, cnt_cons, cnt_nil]) <;> omega)
      repeat ((first | with_reducible refine T_region ?_ | with_reducible refine TL_nil ?_ | with_reducible refine TQ_then ?_ | refine TL_q (op_move rfl) rfl ?_ | refine TL_q (op_assign rfl) rfl ?_ | (refine' TL_q (op_ldAll rfl st_60 ?_ ?_) rfl ?_; rotate_left 3; (· repeat ((exact List.mem_cons_self))); (· (rfl))) | (refine TL_new (op_litN ety_40 rfl rfl (by decide)) rfl ?_; intro bLit)))
      refine TL_cnt (L' := (bLit, Obj.cells #[.string (bs s1.name), .int .u16 s1.kind, .int .u16 s1.cls, .int .u32 s1.ttl, .slice (some ⟨b3, o3, none⟩) s1.data.length c1] 60 (0, 0)) :: (Bc ++ ((bBox, Obj.cells #[.string (bs q.name), .int .u16 q.kind, .int .u16 q.cls] 34 (0, 0)) :: (Bm' ++ L)))) ?_ (by intro p; (try simp only [cnt_append, cnt_cons, cnt_nil]) <;> omega)
      refine TL_opT (op_pushR (L0 := N) (y := s1) ety_40 rfl rfl hC hs1 (by omega) (by decide)) rfl ?_
      rintro _ _ ⟨ac', cc', Bc', rfl, hC', rfl⟩
      repeat ((first | with_reducible refine TL_nil ?_ | with_reducible refine TQ_block ?_ | refine TL_q (op_assign rfl) rfl ?_))
      refine TQ_roundS (Nm.fold d, met ++ [Nm.fold d], chain ++ [s1], am', cm', Bm', ac', cc', Bc') ⟨?_, by dsimp only; simp; omega, by simp [h3], hfd, hM', hC'⟩ ?_ (fun w h => h.cnt (by intro p; (try simp only [cnt_append, cnt_cons, cnt_nil]) <;> omega)) (by dsimp only; simp; omega)
      · dsimp only
        rw [List.length_append, List.length_singleton, hf']
        exact h1
      (repeat ((first | exact trivial | refine ⟨rfl, ?_⟩)))
  · have hd1' : ¬ ((s1.data.length : Nat) : Int) = 1 := by omega
    have h1' : (⟨[], [], [], 3⟩ : Vd.Trail) = Vd.followGo q l 9 (Nm.fold q.name) [Nm.fold q.name] [] := by
      rw [← h1]
      match hh : s1.data, hd1 with
      | [], _ => rfl
      | [d], h => simp at h
      | _ :: _ :: _, _ => rfl
    rw [← h1']
    repeat ((first | with_reducible refine T_seq ?_ | with_reducible refine T_region ?_ | with_reducible refine TL_nil ?_ | with_reducible refine TQ_then ?_ | with_reducible refine T_ret ?_ | with_reducible refine TQ_then_ret ?_ | with_reducible refine TQ_block_ret ?_ | refine TL_q (op_move rfl) rfl ?_ | refine TL_q (op_assign rfl) rfl ?_ | (refine' TL_q (op_bin rfl rfl ?_) rfl ?_; rotate_left 1; (· (exact bin_neq))) | refine TL_q (op_extract rfl rfl) rfl ?_ | (refine' TL_q (op_pickT rfl ?_ rfl) rfl ?_; (· (first | with_reducible rfl | exact nT (by (assumption))))) | refine TL_q (op_len_slice rfl Try.underlying58) rfl ?_ | refine TL_q (op_fld rfl fld_60_4) rfl ?_ | (refine' TL_q (op_ld rfl pl_9 ?_ ?_) rfl ?_; rotate_left 4; (· repeat ((first | exact List.mem_cons_self | apply List.mem_cons_of_mem))); (· (rfl))) | (refine TL_gno rfl rfl ?_ rfl ?_; (· (first | exact Bool.not_false | exact nT (by (assumption))))) | (refine TL_stAll rfl rfl st_60 rfl rfl rfl ?_) | (refine TL_new (op_alloc (C := #[(.string (bs [])), (.int .u16 0), (.int .u16 0), (.int .u32 0), (.slice none 0 0)]) zero_60 rfl) rfl ?_; intro bNew) | (refine T_yes rfl ?_ ?_; (· (with_reducible rfl)))))
    refine TQ_cnt (L' := L) ?_ (by intro p; (try simp only [cnt_append, cnt_cons, cnt_nil]) <;> omega)
    refine TQ_ret4 4 5 6 7 _ _ _ _ rfl rfl rfl rfl rfl ?_
    exact TrOut.bad _ _
end Go.Proofs.Ytdflhdfapnhjjaa
namespace Go.Proofs.Ytdflhdfapnhjjaa
open Go.RowKit
open Vd (RSet Vdt Vote Rec Quest Piece)
set_option linter.unusedVariables false
set_option linter.unusedSimpArgs false
def msgR : Rp Vd.Msg := fun L cs m => ∃ h0 h1 h2 h3 h4 h5 h6 h7 h8 h9 q a b x k e0 e1 e2 e3 e4, cs = [h0, h1, h2, h3, h4, h5, h6, h7, h8, h9, .int .u8 m.code, q, a, b, x, k, e0, e1, e2, e3, e4] ∧ sliceR 5 recR L [a] m.answers ∧ sliceR 5 recR L [b] m.auth ∧ (0 ≤ m.code ∧ m.code ≤ 255) ∧ ∀ v ∈ cs, v.oneCell' = true
theorem mono_msg : Mono msgR := by
  rintro L L' cs m hL ⟨h0, h1, h2, h3, h4, h5, h6, h7, h8, h9, q, a, b, x, k, e0, e1, e2, e3, e4, p1, p2, p3, p4, p5⟩
  exact ⟨h0, h1, h2, h3, h4, h5, h6, h7, h8, h9, q, a, b, x, k, e0, e1, e2, e3, e4, p1, mono_slice mono_rec L L' _ _ hL p2, mono_slice mono_rec L L' _ _ hL p3, p4, p5⟩
theorem rise_mem : ∀ (f : Nat) (l : List RSet) (s : RSet), s ∈ Vd.rise f l → s ∈ l
  | 0, l, s, h => by simp [Vd.rise] at h
  | f + 1, [], s, h => by simp [Vd.rise] at h
  | f + 1, t :: l, s, h => by
    rw [Vd.rise] at h
    rcases List.mem_append.1 h with h | h
    · split at h
      · rename_i x hx
        rw [List.mem_singleton.1 h]
        exact List.mem_of_getElem? hx
      · simp at h
    · exact List.mem_of_mem_eraseIdx (rise_mem f _ s h)
theorem rise_len : ∀ (f : Nat) (l : List RSet), (Vd.rise f l).length ≤ f
  | 0, l => by simp [Vd.rise]
  | f + 1, [] => by simp [Vd.rise]
  | f + 1, t :: l => by
    rw [Vd.rise, List.length_append]
    have h1 := rise_len f ((t :: l).eraseIdx (Vd.leastAt (t :: l) l.length))
    split
    · simp only [List.length_singleton]; omega
    · simp only [List.length_nil]; omega
theorem group_bd {D : Nat} (l : List Rec) (hl : ∀ x ∈ l, x.data.length ≤ D) : (Vd.group l).length ≤ l.length ∧ ∀ s ∈ Vd.group l, s.name.length ≤ 255 ∧ s.data.length ≤ l.length ∧ s.data ≠ [] ∧ ∀ d ∈ s.data, d.length ≤ D := by
  have h := gather_bd l hl l.length (Nat.le_refl _)
  rw [List.take_length] at h
  refine ⟨Nat.le_trans (rise_len _ _) h.few, fun s hs => ?_⟩
  have hm := rise_mem _ _ s hs
  exact ⟨h.name s hm, h.data s hm, h.one s hm, h.datum s hm⟩
theorem trailEnd_in {q : Quest} {l chain : List RSet} {pos : Vd.Bytes} (hc : ∀ s ∈ chain, s ∈ l) : (∀ s ∈ (Vd.trailEnd q l pos chain).chain, s ∈ l) ∧ (∀ s ∈ (Vd.trailEnd q l pos chain).last, s ∈ l) ∧ (Vd.trailEnd q l pos chain).chain.length ≤ chain.length ∧ (Vd.trailEnd q l pos chain).last.length ≤ 1 ∧ (Vd.trailEnd q l pos chain).pos.length ≤ pos.length := by
  unfold Vd.trailEnd
  split
  · rename_i h
    refine ⟨hc, fun s hs => ?_, Nat.le_refl _, by simp, Nat.le_refl _⟩
    rw [List.mem_singleton.1 hs]
    exact findS_name h
  · exact ⟨hc, by simp, Nat.le_refl _, by simp, Nat.le_refl _⟩
theorem followGo_in {q : Quest} {l : List RSet} : ∀ (f : Nat) (pos : Vd.Bytes) (met : List Vd.Bytes) (chain : List RSet), (∀ s ∈ chain, s ∈ l) → pos.length ≤ 255 →
    (∀ s ∈ (Vd.followGo q l f pos met chain).chain, s ∈ l) ∧ (∀ s ∈ (Vd.followGo q l f pos met chain).last, s ∈ l) ∧ (Vd.followGo q l f pos met chain).chain.length ≤ chain.length + f ∧ (Vd.followGo q l f pos met chain).last.length ≤ 1 ∧ (Vd.followGo q l f pos met chain).pos.length ≤ 255
  | 0, pos, met, chain, hc, hp => by
    have := trailEnd_in (q := q) (pos := pos) hc
    exact ⟨this.1, this.2.1, by have := this.2.2.1; rw [Vd.followGo]; omega, this.2.2.2.1, Nat.le_trans this.2.2.2.2 hp⟩
  | f + 1, pos, met, chain, hc, hp => by
    have he := trailEnd_in (q := q) (pos := pos) hc
    have hend : (∀ s ∈ (Vd.trailEnd q l pos chain).chain, s ∈ l) ∧ (∀ s ∈ (Vd.trailEnd q l pos chain).last, s ∈ l) ∧ (Vd.trailEnd q l pos chain).chain.length ≤ chain.length + (f + 1) ∧ (Vd.trailEnd q l pos chain).last.length ≤ 1 ∧ (Vd.trailEnd q l pos chain).pos.length ≤ 255 := ⟨he.1, he.2.1, by have := he.2.2.1; omega, he.2.2.2.1, Nat.le_trans he.2.2.2.2 hp⟩
    rw [Vd.followGo]
    split
    · exact hend
    split
    · exact hend
    rename_i h5 hf
    split
    · simp
    split
    · rename_i d hd
      split
      · simp
      split
      · simp
      · have := followGo_in (q := q) f (Nm.fold d) (met ++ [Nm.fold d]) (chain ++ [(Vd.findS l pos 5 q.cls).1]) (fun s hs => by
          rcases List.mem_append.1 hs with hs | hs
          · exact hc s hs
          · rw [List.mem_singleton.1 hs]; exact findS_name (by simpa using hf)) (fold_255 _)
        refine ⟨this.1, this.2.1, ?_, this.2.2.2.1, this.2.2.2.2⟩
        have h := this.2.2.1
        simp at h ⊢
        omega
    · simp
theorem follow_in (q : Quest) (l : List RSet) : (∀ s ∈ (Vd.follow q l).chain, s ∈ l) ∧ (∀ s ∈ (Vd.follow q l).last, s ∈ l) ∧ (Vd.follow q l).chain.length ≤ 9 ∧ (Vd.follow q l).last.length ≤ 1 ∧ (Vd.follow q l).pos.length ≤ 255 := by
  unfold Vd.follow
  split
  · have := followGo_in (q := q) (l := l) 9 (Nm.fold q.name) [Nm.fold q.name] [] (by simp) (fold_255 _)
    simpa using this
  · simp
theorem recs_ttl {L : Blocks} {cs : List Value} {l : List Rec} (h : sliceR 5 recR L cs l) : ∀ y ∈ l, 0 ≤ y.ttl ∧ y.ttl ≤ 4294967295 := fun y hy => by
  obtain ⟨a, cap, _, _, _, h4⟩ := h
  rcases h4 with rfl | ⟨b, off, C, te, fr, _, _, q3⟩
  · simp at hy
  · obtain ⟨i, hi⟩ := List.getElem?_of_mem hy
    obtain ⟨cs', _, ⟨_, _, _, _, _, k⟩, _⟩ := q3 i y hi
    exact k
theorem gather_ttl (l : List Rec) (hl : ∀ y ∈ l, 0 ≤ y.ttl ∧ y.ttl ≤ 4294967295) : ∀ i, i ≤ l.length → ∀ s ∈ Vd.gather (l.take i), 0 ≤ s.ttl ∧ s.ttl ≤ 4294967295
  | 0, _ => by simp [Vd.gather]
  | i + 1, h => by
    have hx : l[i]? = some l[i] := List.getElem?_eq_getElem (by omega)
    have ih := gather_ttl l hl i (by omega)
    have ht := timeT_bd (hl l[i] (List.getElem_mem _))
    rw [gather_take hx]
    unfold Vd.addRec
    split
    · split
      · intro s hs
        rcases List.mem_append.1 hs with hs | hs
        · exact ih s hs
        · rw [List.mem_singleton.1 hs]; exact ht
      · split
        · rename_i j hj s hs
          intro t htm
          rcases List.mem_or_eq_of_mem_set htm with htm | rfl
          · exact ih t htm
          · have := ih s (List.mem_of_getElem? hs)
            dsimp only
            omega
        · exact ih
    · exact ih
theorem group_ttl (l : List Rec) (hl : ∀ y ∈ l, 0 ≤ y.ttl ∧ y.ttl ≤ 4294967295) : ∀ s ∈ Vd.group l, 0 ≤ s.ttl ∧ s.ttl ≤ 4294967295 := fun s hs => by
  have := gather_ttl l hl l.length (Nat.le_refl _) s
  rw [List.take_length] at this
  exact this (rise_mem _ _ s hs)
theorem findSoa_in {l : List RSet} {n : Vd.Bytes} {c : Int} (h : (Vd.findSoa l n c).2.1 = true) : (Vd.findSoa l n c).1 ∈ l := by
  unfold Vd.findSoa at h ⊢
  split at h
  · cases h
  · rename_i hb
    rw [if_neg hb]
    split at h
    · rename_i s hs
      split at h
      · cases h
      · rename_i hd
        rw [if_neg hd]
        exact List.mem_of_getElem? hs
    · cases h
theorem last4_bd : ∀ (d : Vd.Bytes) (n : Int), 0 ≤ n ∧ n ≤ 4294967295 → 0 ≤ d.foldl (fun n c => (n * 256 + ((c : UInt8).toNat : Int)) % 4294967296) n ∧ d.foldl (fun n c => (n * 256 + ((c : UInt8).toNat : Int)) % 4294967296) n ≤ 4294967295
  | [], n, h => h
  | c :: d, n, h => last4_bd d ((n * 256 + ((c : UInt8).toNat : Int)) % 4294967296) (by omega)
theorem soaTime_bd (s : RSet) : Vd.soaTime s ≤ 4294967295 := by
  unfold Vd.soaTime
  split
  · omega
  split
  · rename_i d hd
    split
    · split
      · omega
      · have := last4_bd (d.drop (d.length - 4)) 0 (by omega)
        unfold Vd.last4
        omega
    · omega
  · omega
theorem leastT_snoc (l : List RSet) (s : RSet) (t : Int) : Vd.leastT (l ++ [s]) t = min (Vd.leastT l t) s.ttl := by simp [Vd.leastT]
theorem leastT_bd : ∀ (l : List RSet) (t : Int), (∀ s ∈ l, 0 ≤ s.ttl ∧ s.ttl ≤ 4294967295) → 0 ≤ t ∧ t ≤ 4294967295 → 0 ≤ Vd.leastT l t ∧ Vd.leastT l t ≤ 4294967295
  | [], t, _, h => h
  | s :: l, t, hl, h => by
    have := hl s (List.mem_cons_self ..)
    exact leastT_bd l (min t s.ttl) (fun x hx => hl x (List.mem_cons_of_mem _ hx)) (by omega)
end Go.Proofs.Ytdflhdfapnhjjaa
namespace Go.Proofs.Ytdflhdfapnhjjaa
open Go.RowKit
set_option linter.unusedVariables false
set_option linter.unusedSimpArgs false
variable {G : World} {P : Program} {n : Nat} {ρ : Slots} {L : Blocks} {ty : TypeId} {Q : Exit → Act → World → Prop}
def Mid {σ : Type} (G : World) (n : Nat) (I : σ → Prop) (ρI : σ → Slots) (LI : σ → Blocks) (a : Act) (w : World) : Prop := ∃ x, I x ∧ Env n (ρI x) a ∧ Heap G w (LI x)
theorem T_mid {σ : Type} {x y : Code} (I : σ → Prop) (ρI : σ → Slots) (LI : σ → Blocks) (hx : T P G n ρ L x (Exit.then (Mid G n I ρI LI) Q)) (hy : ∀ s, I s → T P G n (ρI s) (LI s) y Q) : T P G n ρ L (.seq x y) Q :=
  T_seq (T_mono hx fun e a w h => by
    cases e with
    | normal =>
      obtain ⟨s, h1, h2, h3⟩ := h
      exact (hy s h1).out a w h2 h3
    | _ => exact h)
theorem TQ_mid {σ : Type} {I : σ → Prop} {ρI : σ → Slots} {LI : σ → Blocks} (x : σ) (hI : I x) (hs : Sub (ρI x) ρ) (hl : ∀ w, Heap G w L → Heap G w (LI x)) : TQ G n ρ L .normal (Exit.then (Mid G n I ρI LI) Q) :=
  ⟨fun a w he hw => ⟨x, hI, he.weak hs.get, hl w hw⟩⟩
end Go.Proofs.Ytdflhdfapnhjjaa
