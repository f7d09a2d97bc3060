/-
  Part 8: CG CI CJ Cv OpC CK.
-/
import Derived.Test.YtnhlpifbadncmaaDoorCu7
import Derived.Test.YtnhlpifbadncmaaDoorCu6
import Derived.Test.YtnhlpifbadncmaaDoorCu4
import Derived.Test.YtnhlpifbadncmaaDoorCu3
import Derived.Test.YtnhlpifbadncmaaDoorRows
import Derived.Lib.LaidTab
import Derived.Stop.LaidErr
import Derived.MakeChecks
import Derived.Shelf.Vars
namespace Go.Proofs.YtnhlpifbadncmaaDoor
open Go.RowKit
open Cn (Zo Cf)
set_option linter.unusedVariables false
set_option linter.unusedSimpArgs false
--auto
variable {G : World} {L : Blocks}
theorem bits_ne {ws : List Nm.Bytes} {t : Nat} (h : Cn.bitsGo (-1) 0 ws = some t) : t = 0 ↔ ws = [] := by
  constructor
  · rintro rfl
    rw [(Cn.bits_back h).1]
    rfl
  · rintro rfl
    exact (Option.some.inj h).symm
section
variable {l x1 x2 x3 : Nm.Bytes} {t : List Nm.Bytes} {n : Nm.Bytes} {p tr : Nat}
theorem rz_len (h : Cn.spl 32 l = Cn.zoneW :: x2 :: x3 :: t) (h1 : Cn.polP x3 = some p) (h3 : ¬ (p = 3 ↔ t ≠ [])) : Cn.readZone theT l = none := by
  cases hb : Cn.bitsGo (-1) 0 t with
  | none => exact rz_bits h hb
  | some tr =>
    refine rz_bad h h1 hb fun e => h3 ?_
    rw [decide_eq_decide] at e
    rw [e]
    exact not_congr (bits_ne hb)
theorem rz_fin (h : Cn.spl 32 l = Cn.zoneW :: x2 :: x3 :: t) (h0 : Cn.readName theT x2 = some n) (h1 : Cn.polP x3 = some p) (hb : Cn.bitsGo (-1) 0 t = some tr) (h3 : p = 3 ↔ t ≠ []) : Cn.readZone theT l = some ⟨n, p, tr⟩ :=
  rz_ok h h0 h1 hb (by rw [decide_eq_decide, h3]; exact (not_congr (bits_ne hb)).symm)
theorem rz_two (h : Cn.spl 32 l = [x1, x2]) : Cn.readZone theT l = none := by unfold Cn.readZone; rw [h]
end
/-- The policy of a word, of the first so many. -/
def polU (w : Nm.Bytes) : Nat → Nat
  | 0 => 0
  | n + 1 => if rPol (n + 1) = w then n + 1 else polU w n
theorem polU_4 (w : Nm.Bytes) : polU w 4 = (Cn.polP w).getD 0 := by
  have e : polU w 4 = if Cn.refuseW = w then 4 else if Cn.trustedW = w then 3 else if Cn.unionW = w then 2 else if Cn.strictW = w then 1 else 0 := rfl
  rw [e]
  unfold Cn.polP
  by_cases h1 : w = Cn.strictW
  · subst h1; decide
  by_cases h2 : w = Cn.unionW
  · subst h2; decide
  by_cases h3 : w = Cn.refuseW
  · subst h3; decide
  by_cases h4 : w = Cn.trustedW
  · subst h4; decide
  rw [if_neg h1, if_neg h2, if_neg h3, if_neg h4, if_neg (Ne.symm h3), if_neg (Ne.symm h4), if_neg (Ne.symm h2), if_neg (Ne.symm h1)]
  rfl
/-- What the document's zone tells. -/
def rZoneV (l : Nm.Bytes) : Value := match Cn.readZone theT l with
  | some z => .tuple #[zoV z, .bool true]
  | none => .tuple #[.agg #[.string (bs []), .int .u8 0, .int .u16 0], .bool false]
theorem rZone_no {l : Nm.Bytes} (h : Cn.readZone theT l = none) : rZoneV l = .tuple #[.agg #[.string (bs []), .int .u8 0, .int .u16 0], .bool false] := by unfold rZoneV; rw [h]
theorem rZone_yes {l : Nm.Bytes} {z : Zo} (h : Cn.readZone theT l = some z) : rZoneV l = .tuple #[.agg #[.string (bs z.name), .int .u8 (z.pol : Nat), .int .u16 (z.tru : Nat)], .bool true] := by unfold rZoneV; rw [h]; rfl
theorem rz_few {l : Nm.Bytes} (h : (Cn.spl 32 l).length < 3) : Cn.readZone theT l = none := by
  have hne := Cn.spl_ne 32 l
  match hw : Cn.spl 32 l, hne with
  | [], hne => exact absurd rfl hne
  | [_], _ => exact rz_one hw
  | [_, _], _ => exact rz_two hw
  | _ :: _ :: _ :: _, _ => rw [hw] at h; simp at h; omega
theorem rNum_cases (w : Nm.Bytes) (most : Nat) : (∃ n, Cn.numP w most = some n ∧ rNumV w most = .tuple #[.int .i64 (n : Nat), .bool true]) ∨ (Cn.numP w most = none ∧ ∃ n : Nat, n ≤ 10000000000 ∧ rNumV w most = .tuple #[.int .i64 (n : Nat), .bool false]) := by
  unfold Cn.numP rNumV
  cases hd : Cn.okD w with
  | false => exact Or.inr ⟨rfl, 0, by decide, rfl⟩
  | true =>
    have hall : w.all Cn.isDig = true ∧ w.length ≤ 10 := by
      unfold Cn.okD at hd
      simp only [Bool.and_eq_true, decide_eq_true_iff] at hd
      exact ⟨hd.2, hd.1.1.2⟩
    have hv := Cn.valD_lt w hall.1
    have hp := pow10_le hall.2
    by_cases hm : Cn.valD w ≤ most
    · exact Or.inl ⟨Cn.valD w, by rw [decide_eq_true hm]; rfl, by dsimp only; rw [decide_eq_true (by omega)]⟩
    · exact Or.inr ⟨by rw [decide_eq_false hm]; rfl, Cn.valD w, by omega, by dsimp only; rw [decide_eq_false (by omega)]⟩
theorem bin_shl16k {P : Program} {t : TypeId} {k : IntKind} {u : Nat} (h : u ≤ 15) : Bin P .shl t (.int .u16 1) (.int k (u : Nat)) (.int .u16 ((2 ^ u : Nat) : Int)) := ⟨fun x y w => by
  have hv : ∀ u : Fin 16, IntKind.wrap .u16 ((1 : Int) * 2 ^ (min u.val (IntKind.bits .u16))) = ((2 ^ u.val : Nat) : Int) := by decide +kernel
  have := hv ⟨u, by omega⟩
  dsimp only at this
  have hneg : ¬ ((u : Nat) : Int) < 0 := by omega
  simp only [eqGuard, binOp, Op.shift, if_neg hneg, Int.toNat_natCast, this]
  rfl⟩
set_option maxRecDepth 100000 in
set_option maxHeartbeats 8000000 in
theorem rZone_S (l : Nm.Bytes) (hl : l.length ≤ 100000) : Spec Tryd.prog G 45 #[.string (bs l)] L fun u M => u = rZoneV l ∧ M = L := by
  have hlen := spl_len 32 l
  have hcnt := spl_count 32 l
  refine Spec_of (n := 101) Tryd.func45 rfl rfl rfl ?_
  repeat ((first | with_reducible refine T_seq ?_ | with_reducible refine T_region ?_ | with_reducible refine TL_nil ?_ | with_reducible refine TQ_then ?_ | refine TL_q (op_move rfl) rfl ?_ | refine TL_q (op_assign rfl) rfl ?_ | (refine TL_new (op_alloc (C := #[(.string (bs [])), (.int .u8 0), (.int .u16 0)]) zero_38 rfl) rfl ?_; intro bNew)))
  obtain ⟨b2, hb2⟩ : ∃ b, bNew = b := ⟨_, rfl⟩
  rw [hb2]
  clear hb2 bNew
  refine TL_opT (op_call hb_43 rfl (rWords_S l (by omega))) rfl ?_
  rintro _ _ ⟨a, cap, B, rfl, hB, rfl⟩
  have hfew := rz_few (l := l)
  have hne := Cn.spl_ne 32 l
  obtain ⟨ws, hws⟩ : ∃ ws, Cn.spl 32 l = ws := ⟨_, rfl⟩
  rw [hws] at hB hlen hcnt hfew hne ⊢
  obtain ⟨b4, cur, rfl, rfl, hcap, hmax, hsz, hat⟩ := hB.block hne
  have hcell : ∀ i x, ws[i]? = some x → cur[0 + i * 1]? = some (.string (bs x)) := fun i x hx => by
    obtain ⟨cs, _, ⟨rfl, _⟩, _, h⟩ := hat i x hx
    have := h 0 _ rfl
    rwa [Nat.add_zero, ← Nat.zero_add (i * 1)] at this
  clear hat hB
  unfold maxLen at hmax
  refine TL_cnt (L' := (b2, Obj.cells #[.string (bs []), .int .u8 0, .int .u16 0] 38 (0, 0)) :: (b4, Obj.cells cur 9 (0, 0)) :: L) ?_ (by intro p; (try simp only [cnt_append, cnt_cons, cnt_nil]) <;> omega)
  by_cases h3 : ws.length < 3
  · rw [rZone_no (hfew h3)]
    repeat ((first | with_reducible refine T_seq ?_ | with_reducible refine T_region ?_ | with_reducible refine TL_nil ?_ | with_reducible refine TQ_then ?_ | with_reducible refine T_ret ?_ | with_reducible refine TQ_then_ret ?_ | refine TL_q (op_move rfl) rfl ?_ | refine TL_q (op_assign rfl) rfl ?_ | (refine' TL_q (op_bin rfl rfl ?_) rfl ?_; rotate_left 1; (· (exact bin_lss))) | (refine' TL_q (op_pickT rfl ?_ rfl) rfl ?_; (· (exact dT (by (omega))))) | refine TL_q (op_len_slice rfl Tryd.underlying70) rfl ?_ | (refine TL_gno rfl rfl ?_ rfl ?_; (· (exact dT (by (omega))))) | (refine TL_stAll rfl rfl st_38 rfl rfl rfl ?_) | refine TL_q (op_build rfl (bl_38_ )) rfl ?_ | (refine T_yes rfl ?_ ?_; (· (with_reducible rfl)))))
    refine TQ_retC2 2 38 3 rfl rfl rfl st_38 (by repeat ((exact List.mem_cons_self))) rfl (fun w h => Heap.cnt (L' := L) h (by intro p; (try simp only [cnt_append, cnt_cons, cnt_nil]) <;> omega)) ?_
    exact ⟨rfl, rfl⟩
  obtain ⟨x1, x2, x3, t, hwe⟩ : ∃ x1 x2 x3 t, ws = x1 :: x2 :: x3 :: t := by
    match ws, h3 with
    | [], h => simp at h
    | [_], h => simp at h
    | [_, _], h => simp at h
    | x1 :: x2 :: x3 :: t, _ => exact ⟨x1, x2, x3, t, rfl⟩
  have c0 := hcell 0 x1 (by rw [hwe]; rfl)
  have c1 := hcell 1 x2 (by rw [hwe]; rfl)
  have c2 := hcell 2 x3 (by rw [hwe]; rfl)
  have hx1 := hlen x1 (by rw [hwe]; simp)
  have hx2 := hlen x2 (by rw [hwe]; simp)
  have hx3 := hlen x3 (by rw [hwe]; simp)
  have htl : ws.length = t.length + 3 := by rw [hwe]; rfl
  have hd3 : ws.drop 3 = t := by rw [hwe]; rfl
  have hspl := hws.trans hwe
  by_cases hz : x1 = Cn.zoneW
  rotate_left
  · rw [rZone_no (rz_word hspl hz)]
    unfold Cn.zoneW at hz
    repeat ((first | with_reducible refine T_seq ?_ | with_reducible refine T_region ?_ | with_reducible refine TL_nil ?_ | with_reducible refine TQ_then ?_ | with_reducible refine T_ret ?_ | with_reducible refine TQ_then_ret ?_ | refine TL_q (op_move rfl) rfl ?_ | refine TL_q (op_assign rfl) rfl ?_ | (refine' TL_q (op_bin rfl rfl ?_) rfl ?_; rotate_left 1; (· (exact bin_lss))) | (refine' TL_q (op_pickF rfl ?_ rfl) rfl ?_; (· (exact dF (by (omega))))) | refine TL_q (op_len_slice rfl Tryd.underlying70) rfl ?_ | (refine TL_gpre rfl rfl ?_ ?_; (· (exact dF (by (omega))))) | refine TL_gq2 (op_move rfl) rfl ?_ | (refine' TL_gq2 (op_bin rfl rfl ?_) rfl ?_; rotate_left 1; (· (exact sbin_neq))) | (refine' TL_gq2 (op_idxI ety_70 rfl rfl ?_ ?_) rfl ?_; (· omega); (· omega)) | (refine' TL_gq2 (op_ld rfl pl_5 ?_ ?_) rfl ?_; rotate_left 4; (· repeat ((first | exact List.mem_cons_self | apply List.mem_cons_of_mem))); (· (assumption))) | (refine TL_stAll rfl rfl st_38 rfl rfl rfl ?_) | refine TL_q (op_build rfl (bl_38_ )) rfl ?_ | (refine T_yes rfl ?_ ?_; (· (exact nT (by (assumption)))))))
    refine TQ_retC2 2 38 3 rfl rfl rfl st_38 (by repeat ((exact List.mem_cons_self))) rfl (fun w h => Heap.cnt (L' := L) h (by intro p; (try simp only [cnt_append, cnt_cons, cnt_nil]) <;> omega)) ?_
    exact ⟨rfl, rfl⟩
  subst hz
  have c0' : cur[0 + 0 * 1]? = some (.string (bs [122, 111, 110, 101])) := c0
  clear c0
  repeat ((first | with_reducible refine T_seq ?_ | with_reducible refine T_region ?_ | with_reducible refine TL_nil ?_ | with_reducible refine TQ_then ?_ | with_reducible refine T_skip ?_ | refine TL_q (op_move rfl) rfl ?_ | refine TL_q (op_assign rfl) rfl ?_ | (refine' TL_q (op_bin rfl rfl ?_) rfl ?_; rotate_left 1; (· (exact bin_lss))) | (refine' TL_q (op_pickF rfl ?_ rfl) rfl ?_; (· (exact dF (by (omega))))) | refine TL_q (op_len_slice rfl Tryd.underlying70) rfl ?_ | (refine' TL_q (op_idxI ety_70 rfl rfl ?_ ?_) rfl ?_; (· omega); (· omega)) | (refine' TL_q (op_ld rfl pl_5 ?_ ?_) rfl ?_; rotate_left 4; (· repeat ((first | exact List.mem_cons_self | apply List.mem_cons_of_mem))); (· (assumption))) | (refine TL_gpre rfl rfl ?_ ?_; (· (exact dF (by (omega))))) | refine TL_gq2 (op_move rfl) rfl ?_ | (refine' TL_gq2 (op_bin rfl rfl ?_) rfl ?_; rotate_left 1; (· (exact sbin_neq))) | (refine' TL_gq2 (op_idxI ety_70 rfl rfl ?_ ?_) rfl ?_; (· omega); (· omega)) | (refine' TL_gq2 (op_ld rfl pl_5 ?_ ?_) rfl ?_; rotate_left 4; (· repeat ((first | exact List.mem_cons_self | apply List.mem_cons_of_mem))); (· (assumption))) | (refine T_no rfl ?_ ?_; (· (exact Bool.not_true)))))
  refine TL_op (op_call hb_61 rfl (refParse_S x2 (by omega))) rfl ?_
  unfold parseOut
  repeat ((first | with_reducible refine T_seq ?_ | with_reducible refine TL_nil ?_ | with_reducible refine TQ_then ?_ | refine TL_q (op_move rfl) rfl ?_ | refine TL_q (op_assign rfl) rfl ?_ | refine TL_q (op_extract rfl rfl) rfl ?_))
  refine T_cut [(2, .pointer (some ⟨b2, 0, none⟩)), (4, .slice (some ⟨b4, 0, none⟩) ws.length cap), (5, .string (bs (parseV x2))), (6, .int .i64 (parseE x2))] ((b2, Obj.cells #[.string (bs []), .int .u8 0, .int .u16 0] 38 (0, 0)) :: (b4, Obj.cells cur 9 (0, 0)) :: L) ?_ (fun w h => h) ?_
  (repeat ((first | exact trivial | refine ⟨rfl, ?_⟩)))
  have hKm : ∀ p ∈ [(b4, Obj.cells cur 9 (0, 0))], p ∈ (b2, Obj.cells #[.string (bs []), .int .u8 0, .int .u16 0] 38 (0, 0)) :: (b4, Obj.cells cur 9 (0, 0)) :: L := by
    intro p hp
    simp only [List.mem_cons, List.not_mem_nil, or_false] at hp
    subst hp
    exact List.mem_cons_of_mem _ (List.mem_cons_self ..)
  by_cases he : parseE x2 = 0
  rotate_left
  · have hrn : Cn.readName theT x2 = none := if_neg fun k => he k.1
    rw [rZone_no (rz_name hspl hrn)]
    refine T_draw follows_mixed ([(b4, Obj.cells cur 9 (0, 0))]) [] ?_
    (refine' TA_take 0 rfl rfl (by kernel_rfl) (quiet_q (op_move rfl)) ?_ ?_; (· (assumption)))
    (refine' TA_take 1 rfl rfl (by kernel_rfl) (quiet_q (op_bin rfl rfl ?_)) ?_ ?_; rotate_left 1; (· (exact bin_neq)); (· (assumption)))
    (refine' TA_take 2 rfl rfl (by kernel_rfl) (quiet_q (op_move rfl)) ?_ ?_; (· (assumption)))
    (refine TA_take 3 rfl rfl (by kernel_rfl) (quiet_no2 rfl rfl ?_) ?_ ?_; (· (exact nT (by (assumption)))); (· (assumption)))
    (refine TA_take 4 rfl rfl (by kernel_rfl) (quiet_no2 rfl rfl ?_) ?_ ?_; (· (exact nT (by (assumption)))); (· (assumption)))
    (refine TA_take 5 rfl rfl (by kernel_rfl) (quiet_no2 rfl rfl ?_) ?_ ?_; (· (exact nT (by (assumption)))); (· (assumption)))
    (refine TA_take 6 rfl rfl (by kernel_rfl) (quiet_no2 rfl rfl ?_) ?_ ?_; (· (exact nT (by (assumption)))); (· (assumption)))
    (refine TA_take 7 rfl rfl (by kernel_rfl) (quiet_no2 rfl rfl ?_) ?_ ?_; (· (exact nT (by (assumption)))); (· (assumption)))
    (refine TA_take 8 rfl rfl (by kernel_rfl) (quiet_no2 rfl rfl ?_) ?_ ?_; (· (exact nT (by (assumption)))); (· (assumption)))
    (refine' TA_take 9 rfl rfl (by kernel_rfl) (quiet_q (op_pickT rfl ?_ rfl)) ?_ ?_; (· (exact nT (by (assumption)))); (· (assumption)))
    refine TA_done (by kernel_rfl) ?_
    repeat ((first | with_reducible refine T_seq ?_ | with_reducible refine T_region ?_ | with_reducible refine TL_nil ?_ | with_reducible refine TQ_then ?_ | with_reducible refine T_ret ?_ | with_reducible refine TQ_then_ret ?_ | refine TL_q (op_assign rfl) rfl ?_ | (refine TL_stAll rfl rfl st_38 rfl rfl rfl ?_) | refine TL_q (op_build rfl (bl_38_ )) rfl ?_ | (refine T_yes rfl ?_ ?_; (· (with_reducible rfl)))))
    refine TQ_retC2 2 38 3 rfl rfl rfl st_38 (by repeat ((exact List.mem_cons_self))) rfl (fun w h => Heap.cnt (L' := L) h (by intro p; (try simp only [cnt_append, cnt_cons, cnt_nil]) <;> omega)) ?_
    exact ⟨rfl, rfl⟩
  have hmay := parse_may he
  have hpv := may_255 hmay
  by_cases ht : textN (parseV x2) = x2
  rotate_left
  · have hrn : Cn.readName theT x2 = none := if_neg fun k => ht k.2
    rw [rZone_no (rz_name hspl hrn)]
    refine T_draw follows_mixed ([(b4, Obj.cells cur 9 (0, 0))]) [] ?_
    (refine' TA_take 0 rfl rfl (by kernel_rfl) (quiet_q (op_move rfl)) ?_ ?_; (· (assumption)))
    (refine' TA_take 1 rfl rfl (by kernel_rfl) (quiet_q (op_bin rfl rfl ?_)) ?_ ?_; rotate_left 1; (· (exact bin_neq)); (· (assumption)))
    (refine' TA_take 2 rfl rfl (by kernel_rfl) (quiet_q (op_move rfl)) ?_ ?_; (· (assumption)))
    (refine' TA_take 3 rfl rfl (by kernel_rfl) (quiet_g2 rfl rfl (by (exact nF (by (assumption)))) (op_move rfl)) ?_ ?_; (· (assumption)))
    (refine' TA_take 4 rfl rfl (by kernel_rfl) (quiet_callG2 rfl rfl (by (exact nF (by (assumption)))) hb_39 rfl (fun _ _ => refText_S _ ?_)) ?_ ?_; (· (omega)); (· (assumption)))
    (refine' TA_take 5 rfl rfl (by kernel_rfl) (quiet_g2 rfl rfl (by (exact nF (by (assumption)))) (op_move rfl)) ?_ ?_; (· (assumption)))
    (refine' TA_take 6 rfl rfl (by kernel_rfl) (quiet_g2 rfl rfl (by (exact nF (by (assumption)))) (op_idxI ety_70 rfl rfl ?_ ?_)) ?_ ?_; (· omega); (· omega); (· (assumption)))
    (refine' TA_take 7 rfl rfl (by kernel_rfl) (quiet_g2 rfl rfl (by (exact nF (by (assumption)))) (op_ld rfl pl_9 ?_ ?_)) ?_ ?_; rotate_left 4; (· repeat ((exact List.mem_cons_self))); (· (assumption)); (· (assumption)))
    (refine' TA_take 8 rfl rfl (by kernel_rfl) (quiet_g2 rfl rfl (by (exact nF (by (assumption)))) (op_bin rfl rfl ?_)) ?_ ?_; rotate_left 1; (· (exact sbin_neq)); (· (assumption)))
    (refine' TA_take 9 rfl rfl (by kernel_rfl) (quiet_q (op_pickF rfl ?_ rfl)) ?_ ?_; (· (exact nF (by (assumption)))); (· (assumption)))
    refine TA_done (by kernel_rfl) ?_
    repeat ((first | with_reducible refine T_seq ?_ | with_reducible refine T_region ?_ | with_reducible refine TL_nil ?_ | with_reducible refine TQ_then ?_ | with_reducible refine T_ret ?_ | with_reducible refine TQ_then_ret ?_ | refine TL_q (op_assign rfl) rfl ?_ | (refine TL_stAll rfl rfl st_38 rfl rfl rfl ?_) | refine TL_q (op_build rfl (bl_38_ )) rfl ?_ | (refine T_yes rfl ?_ ?_; (· (exact nT (by (assumption)))))))
    refine TQ_retC2 2 38 3 rfl rfl rfl st_38 (by repeat ((exact List.mem_cons_self))) rfl (fun w h => Heap.cnt (L' := L) h (by intro p; (try simp only [cnt_append, cnt_cons, cnt_nil]) <;> omega)) ?_
    exact ⟨rfl, rfl⟩
  have hrn : Cn.readName theT x2 = some (parseV x2) := if_pos ⟨he, ht⟩
  refine T_draw follows_mixed ([(b4, Obj.cells cur 9 (0, 0))]) [] ?_
  (refine' TA_take 0 rfl rfl (by kernel_rfl) (quiet_q (op_move rfl)) ?_ ?_; (· (assumption)))
  (refine' TA_take 1 rfl rfl (by kernel_rfl) (quiet_q (op_bin rfl rfl ?_)) ?_ ?_; rotate_left 1; (· (exact bin_neq)); (· (assumption)))
  (refine' TA_take 2 rfl rfl (by kernel_rfl) (quiet_q (op_move rfl)) ?_ ?_; (· (assumption)))
  (refine' TA_take 3 rfl rfl (by kernel_rfl) (quiet_g2 rfl rfl (by (exact nF (by (assumption)))) (op_move rfl)) ?_ ?_; (· (assumption)))
  (refine' TA_take 4 rfl rfl (by kernel_rfl) (quiet_callG2 rfl rfl (by (exact nF (by (assumption)))) hb_39 rfl (fun _ _ => refText_S _ ?_)) ?_ ?_; (· (omega)); (· (assumption)))
  (refine' TA_take 5 rfl rfl (by kernel_rfl) (quiet_g2 rfl rfl (by (exact nF (by (assumption)))) (op_move rfl)) ?_ ?_; (· (assumption)))
  (refine' TA_take 6 rfl rfl (by kernel_rfl) (quiet_g2 rfl rfl (by (exact nF (by (assumption)))) (op_idxI ety_70 rfl rfl ?_ ?_)) ?_ ?_; (· omega); (· omega); (· (assumption)))
  (refine' TA_take 7 rfl rfl (by kernel_rfl) (quiet_g2 rfl rfl (by (exact nF (by (assumption)))) (op_ld rfl pl_9 ?_ ?_)) ?_ ?_; rotate_left 4; (· repeat ((exact List.mem_cons_self))); (· (assumption)); (· (assumption)))
  (refine' TA_take 8 rfl rfl (by kernel_rfl) (quiet_g2 rfl rfl (by (exact nF (by (assumption)))) (op_bin rfl rfl ?_)) ?_ ?_; rotate_left 1; (· (exact sbin_neq)); (· (assumption)))
  (refine' TA_take 9 rfl rfl (by kernel_rfl) (quiet_q (op_pickF rfl ?_ rfl)) ?_ ?_; (· (exact nF (by (assumption)))); (· (assumption)))
  refine TA_done (by kernel_rfl) ?_
  clear hKm
  obtain ⟨nm, hnm⟩ : ∃ nm, parseV x2 = nm := ⟨_, rfl⟩
  rw [hnm] at hrn hpv ht ⊢
  repeat ((first | with_reducible refine T_seq ?_ | with_reducible refine T_block ?_ | with_reducible refine T_region ?_ | with_reducible refine TL_nil ?_ | with_reducible refine TQ_then ?_ | with_reducible refine T_skip ?_ | refine TL_q (op_move rfl) rfl ?_ | refine TL_q (op_assign rfl) rfl ?_ | (refine TL_stAll rfl rfl st_38 rfl rfl rfl ?_) | (refine TL_new (op_alloc (C := #[(.string (bs [])), (.int .u8 0), (.int .u16 0)]) zero_38 rfl) rfl ?_; intro bNew) | refine TL_q (op_build rfl (bl_38_0 _)) rfl ?_ | (refine T_no rfl ?_ ?_; (· (exact nF (by (assumption)))))))
  obtain ⟨b7, hb7⟩ : ∃ b, bNew = b := ⟨_, rfl⟩
  rw [hb7]
  clear hb7 bNew
  refine T_loopS (σ := Nat) (fun j => j ≤ 4) (fun j => [(2, .pointer (some ⟨b2, 0, none⟩)), (4, .slice (some ⟨b4, 0, none⟩) ws.length cap), (7, .pointer (some ⟨b7, 0, none⟩)), (8, .int .u8 ((j + 1 : Nat)))]) (fun j => (b7, Obj.cells #[.string (bs nm), .int .u8 (polU x3 j : Nat), .int .u16 0] 38 (0, 0)) :: (b2, Obj.cells #[.string (bs []), .int .u8 0, .int .u16 0] 38 (0, 0)) :: (b4, Obj.cells cur 9 (0, 0)) :: L) (fun j => 4 - j) 0 (by omega) ?_ (fun _ h => h) ?_
  (repeat ((first | exact trivial | refine ⟨rfl, ?_⟩)))
  rintro j hj
  have z1 : (#[.string (bs nm), .int .u8 (polU x3 j : Nat), .int .u16 0] : Array Value)[0 + 1]? = some (.int .u8 (polU x3 j : Nat)) := rfl
  have z2 : (#[.string (bs nm), .int .u8 (polU x3 j : Nat), .int .u16 0] : Array Value)[0 + 2]? = some (.int .u16 0) := rfl
  by_cases hj4 : j < 4
  · have hKm : ∀ p ∈ [(b4, Obj.cells cur 9 (0, 0))], p ∈ (b7, Obj.cells #[.string (bs nm), .int .u8 (polU x3 j : Nat), .int .u16 0] 38 (0, 0)) :: (b2, Obj.cells #[.string (bs []), .int .u8 0, .int .u16 0] 38 (0, 0)) :: (b4, Obj.cells cur 9 (0, 0)) :: L := by
      intro p hp
      simp only [List.mem_cons, List.not_mem_nil, or_false] at hp
      subst hp
      exact List.mem_cons_of_mem _ (List.mem_cons_of_mem _ (List.mem_cons_self ..))
    by_cases hpw : rPol (j + 1) = x3
    · have hp : polU x3 (j + 1) = j + 1 := by unfold polU; rw [if_pos hpw]
      repeat ((first | with_reducible refine T_seq ?_ | with_reducible refine T_block ?_ | with_reducible refine T_region ?_ | with_reducible refine TL_nil ?_ | with_reducible refine TQ_then ?_ | with_reducible refine T_skip ?_ | refine TL_q (op_move rfl) rfl ?_ | (refine' TL_q (op_bin rfl rfl ?_) rfl ?_; rotate_left 1; (· (exact bin_leq))) | (refine T_yes rfl ?_ ?_; (· (exact dT (by (omega)))))))
      refine T_draw follows_mixed ([(b4, Obj.cells cur 9 (0, 0))]) [] ?_
      (refine' TA_take 0 rfl rfl (by kernel_rfl) (quiet_q (op_move rfl)) ?_ ?_; (· (assumption)))
      refine' TA_take 1 rfl rfl (by kernel_rfl) (quiet_call hb_40 rfl (fun _ _ => rPolicy_S _ ?_)) ?_ ?_; (· (omega)); (· (assumption))
      (refine' TA_take 2 rfl rfl (by kernel_rfl) (quiet_q (op_move rfl)) ?_ ?_; (· (assumption)))
      (refine' TA_take 3 rfl rfl (by kernel_rfl) (quiet_q (op_idxI ety_70 rfl rfl ?_ ?_)) ?_ ?_; (· omega); (· omega); (· (assumption)))
      (refine' TA_take 4 rfl rfl (by kernel_rfl) (quiet_q (op_ld rfl pl_9 ?_ ?_)) ?_ ?_; rotate_left 4; (· repeat ((exact List.mem_cons_self))); (· (assumption)); (· (assumption)))
      (refine' TA_take 5 rfl rfl (by kernel_rfl) (quiet_q (op_bin rfl rfl ?_)) ?_ ?_; rotate_left 1; (· (exact sbin_eql)); (· (assumption)))
      refine TA_done (by kernel_rfl) ?_
      repeat ((first | with_reducible refine T_region ?_ | with_reducible refine TL_nil ?_ | with_reducible refine TQ_then ?_ | with_reducible refine TQ_block ?_ | refine TL_q (op_move rfl) rfl ?_ | refine TL_q (op_assign rfl) rfl ?_ | (refine' TL_q (op_bin rfl rfl ?_) rfl ?_; rotate_left 1; (· (exact bin_add ⟨by omega, by omega⟩))) | refine TL_q (op_fld rfl fld_38_1) rfl ?_ | (refine' TL_st rfl rfl one_5 rfl ?_ rfl ?_; rotate_left 1; (· (assumption))) | (refine T_yes rfl ?_ ?_; (· (exact eT (by (assumption)))))))
      refine TQ_roundS (j + 1) (by omega) ?_ (fun _ h => by rw [hp]; exact h) (by omega)
      (repeat ((first | exact trivial | refine ⟨rfl, ?_⟩)))
    · have hp : polU x3 (j + 1) = polU x3 j := by rw [polU, if_neg hpw]
      repeat ((first | with_reducible refine T_seq ?_ | with_reducible refine T_block ?_ | with_reducible refine T_region ?_ | with_reducible refine TL_nil ?_ | with_reducible refine TQ_then ?_ | with_reducible refine T_skip ?_ | refine TL_q (op_move rfl) rfl ?_ | (refine' TL_q (op_bin rfl rfl ?_) rfl ?_; rotate_left 1; (· (exact bin_leq))) | (refine T_yes rfl ?_ ?_; (· (exact dT (by (omega)))))))
      refine T_draw follows_mixed ([(b4, Obj.cells cur 9 (0, 0))]) [] ?_
      (refine' TA_take 0 rfl rfl (by kernel_rfl) (quiet_q (op_move rfl)) ?_ ?_; (· (assumption)))
      refine' TA_take 1 rfl rfl (by kernel_rfl) (quiet_call hb_40 rfl (fun _ _ => rPolicy_S _ ?_)) ?_ ?_; (· (omega)); (· (assumption))
      (refine' TA_take 2 rfl rfl (by kernel_rfl) (quiet_q (op_move rfl)) ?_ ?_; (· (assumption)))
      (refine' TA_take 3 rfl rfl (by kernel_rfl) (quiet_q (op_idxI ety_70 rfl rfl ?_ ?_)) ?_ ?_; (· omega); (· omega); (· (assumption)))
      (refine' TA_take 4 rfl rfl (by kernel_rfl) (quiet_q (op_ld rfl pl_9 ?_ ?_)) ?_ ?_; rotate_left 4; (· repeat ((exact List.mem_cons_self))); (· (assumption)); (· (assumption)))
      (refine' TA_take 5 rfl rfl (by kernel_rfl) (quiet_q (op_bin rfl rfl ?_)) ?_ ?_; rotate_left 1; (· (exact sbin_eql)); (· (assumption)))
      refine TA_done (by kernel_rfl) ?_
      repeat ((first | with_reducible refine T_region ?_ | with_reducible refine TL_nil ?_ | with_reducible refine TQ_then ?_ | with_reducible refine TQ_block ?_ | with_reducible refine T_skip ?_ | refine TL_q (op_move rfl) rfl ?_ | refine TL_q (op_assign rfl) rfl ?_ | (refine' TL_q (op_bin rfl rfl ?_) rfl ?_; rotate_left 1; (· (exact bin_add ⟨by omega, by omega⟩))) | (refine T_no rfl ?_ ?_; (· (exact eF (by (assumption)))))))
      refine TQ_roundS (j + 1) (by omega) ?_ (fun _ h => by rw [hp]; exact h) (by omega)
      (repeat ((first | exact trivial | refine ⟨rfl, ?_⟩)))
  obtain rfl : j = 4 := by omega
  rw [polU_4] at z1 z2 ⊢
  obtain ⟨q, hq⟩ : ∃ q, (Cn.polP x3).getD 0 = q := ⟨_, rfl⟩
  rw [hq] at z1 z2 ⊢
  by_cases hq0 : q = 0
  · have hpn : Cn.polP x3 = none := by
      cases hpp : Cn.polP x3 with
      | none => rfl
      | some p =>
        rw [hpp] at hq
        have := (Cn.polP_some hpp).2.1
        simp only [Option.getD_some] at hq
        omega
    rw [rZone_no (rz_pol hspl hpn)]
    repeat ((first | with_reducible refine T_seq ?_ | with_reducible refine T_region ?_ | with_reducible refine TL_nil ?_ | with_reducible refine TQ_then ?_ | with_reducible refine T_exit ?_ | with_reducible refine TQ_then_exit ?_ | with_reducible refine TQ_block_exit ?_ | refine TL_q (op_move rfl) rfl ?_ | (refine' TL_q (op_bin rfl rfl ?_) rfl ?_; rotate_left 1; (· (first | exact bin_eql | exact bin_leq))) | (refine' TL_q (op_pickT rfl ?_ rfl) rfl ?_; (· (exact dT (by (omega))))) | refine TL_q (op_fld rfl fld_38_1) rfl ?_ | (refine' TL_q (op_ld rfl pl_5 ?_ ?_) rfl ?_; rotate_left 4; (· repeat ((exact List.mem_cons_self))); (· (assumption))) | (refine TL_gno rfl rfl ?_ rfl ?_; (· (exact dT (by (omega))))) | refine TL_q (op_build rfl (bl_38_ )) rfl ?_ | (refine T_yes rfl ?_ ?_; (· (with_reducible rfl))) | (refine T_no rfl ?_ ?_; (· (exact Bool.not_true)))))
    refine TL_cnt (L' := (b2, Obj.cells #[.string (bs []), .int .u8 0, .int .u16 0] 38 (0, 0)) :: (b7, Obj.cells #[.string (bs nm), .int .u8 (q : Nat), .int .u16 0] 38 (0, 0)) :: (b4, Obj.cells cur 9 (0, 0)) :: L) ?_ (by intro p; (try simp only [cnt_append, cnt_cons, cnt_nil]) <;> omega)
    repeat ((first | with_reducible refine TL_nil ?_ | with_reducible refine TQ_then ?_ | with_reducible refine T_ret ?_ | with_reducible refine TQ_then_ret ?_ | refine TL_q (op_assign rfl) rfl ?_ | (refine TL_stAll rfl rfl st_38 rfl rfl rfl ?_)))
    refine TQ_retC2 2 38 3 rfl rfl rfl st_38 (by repeat ((exact List.mem_cons_self))) rfl (fun w h => Heap.cnt (L' := L) h (by intro p; (try simp only [cnt_append, cnt_cons, cnt_nil]) <;> omega)) ?_
    exact ⟨rfl, rfl⟩
  have hpp : Cn.polP x3 = some q := by
    cases hpp : Cn.polP x3 with
    | none => rw [hpp] at hq; exact absurd hq.symm hq0
    | some p => rw [hpp] at hq; rw [show p = q from hq]
  have hq4 := (Cn.polP_some hpp).2.2
  have htn : t ≠ [] ↔ 3 < ws.length := by
    rw [htl, ← List.length_pos_iff]
    omega
  by_cases hag : q = 3 ↔ t ≠ []
  rotate_left
  · rw [rZone_no (rz_len hspl hpp hag)]
    rw [htn] at hag
    have h67 : (!((((q : Nat) : Int) == 3) == decide ((3 : Int) < ((ws.length : Nat) : Int)))) = true := by
      by_cases p3 : q = 3
      · rw [beq_iff_eq.2 (by omega : ((q : Nat) : Int) = 3), decide_eq_false (by omega)]; rfl
      · rw [beq_false_of_ne (by omega : ((q : Nat) : Int) ≠ 3), decide_eq_true (by omega)]; rfl
    repeat ((first | with_reducible refine T_seq ?_ | with_reducible refine T_region ?_ | with_reducible refine TL_nil ?_ | with_reducible refine TQ_then ?_ | with_reducible refine T_exit ?_ | with_reducible refine TQ_then_exit ?_ | with_reducible refine TQ_block_exit ?_ | refine TL_q (op_move rfl) rfl ?_ | (refine' TL_q (op_bin rfl rfl ?_) rfl ?_; rotate_left 1; (· (first | exact bin_eql | exact bin_leq))) | (refine' TL_q (op_pickF rfl ?_ rfl) rfl ?_; (· (exact dF (by (omega))))) | refine TL_q (op_fld rfl fld_38_1) rfl ?_ | (refine' TL_q (op_ld rfl pl_5 ?_ ?_) rfl ?_; rotate_left 4; (· repeat ((exact List.mem_cons_self))); (· (assumption))) | (refine TL_gpre rfl rfl ?_ ?_; (· (exact dF (by (omega))))) | refine TL_gq2 (op_move rfl) rfl ?_ | (refine' TL_gq2 (op_bin rfl rfl ?_) rfl ?_; rotate_left 1; (· (first | exact bin_eql | exact bin_gtr | exact bbin_neq Tryd.underlying4))) | refine TL_gq2 (op_len_slice rfl Tryd.underlying70) rfl ?_ | refine TL_gq2 (op_fld rfl fld_38_1) rfl ?_ | (refine' TL_gq2 (op_ld rfl pl_5 ?_ ?_) rfl ?_; rotate_left 4; (· repeat ((exact List.mem_cons_self))); (· (assumption))) | refine TL_q (op_build rfl (bl_38_ )) rfl ?_ | (refine T_yes rfl ?_ ?_; (· (assumption))) | (refine T_no rfl ?_ ?_; (· (exact Bool.not_true)))))
    refine TL_cnt (L' := (b2, Obj.cells #[.string (bs []), .int .u8 0, .int .u16 0] 38 (0, 0)) :: (b7, Obj.cells #[.string (bs nm), .int .u8 (q : Nat), .int .u16 0] 38 (0, 0)) :: (b4, Obj.cells cur 9 (0, 0)) :: L) ?_ (by intro p; (try simp only [cnt_append, cnt_cons, cnt_nil]) <;> omega)
    repeat ((first | with_reducible refine TL_nil ?_ | with_reducible refine TQ_then ?_ | with_reducible refine T_ret ?_ | with_reducible refine TQ_then_ret ?_ | refine TL_q (op_assign rfl) rfl ?_ | (refine TL_stAll rfl rfl st_38 rfl rfl rfl ?_)))
    refine TQ_retC2 2 38 3 rfl rfl rfl st_38 (by repeat ((exact List.mem_cons_self))) rfl (fun w h => Heap.cnt (L' := L) h (by intro p; (try simp only [cnt_append, cnt_cons, cnt_nil]) <;> omega)) ?_
    exact ⟨rfl, rfl⟩
  have h67 : (!((((q : Nat) : Int) == 3) == decide ((3 : Int) < ((ws.length : Nat) : Int)))) = false := by
    rw [htn] at hag
    by_cases p3 : q = 3
    · rw [beq_iff_eq.2 (by omega : ((q : Nat) : Int) = 3), decide_eq_true (by omega)]; rfl
    · rw [beq_false_of_ne (by omega : ((q : Nat) : Int) ≠ 3), decide_eq_false (by omega)]; rfl
  repeat ((first | with_reducible refine T_seq ?_ | with_reducible refine T_block ?_ | with_reducible refine T_region ?_ | with_reducible refine TL_nil ?_ | with_reducible refine TQ_then ?_ | with_reducible refine T_skip ?_ | with_reducible refine T_exit ?_ | with_reducible refine TQ_then_exit ?_ | with_reducible refine TQ_block_exit ?_ | refine TL_q (op_move rfl) rfl ?_ | refine TL_q (op_assign rfl) rfl ?_ | (refine' TL_q (op_bin rfl rfl ?_) rfl ?_; rotate_left 1; (· (first | exact bin_eql | exact bin_leq))) | (refine' TL_q (op_pickF rfl ?_ rfl) rfl ?_; (· (exact dF (by (omega))))) | refine TL_q (op_fld rfl fld_38_1) rfl ?_ | (refine' TL_q (op_ld rfl pl_5 ?_ ?_) rfl ?_; rotate_left 4; (· repeat ((exact List.mem_cons_self))); (· (assumption))) | (refine TL_gpre rfl rfl ?_ ?_; (· (exact dF (by (omega))))) | refine TL_gq2 (op_move rfl) rfl ?_ | (refine' TL_gq2 (op_bin rfl rfl ?_) rfl ?_; rotate_left 1; (· (first | exact bin_eql | exact bin_gtr | exact bbin_neq Tryd.underlying4))) | refine TL_gq2 (op_len_slice rfl Tryd.underlying70) rfl ?_ | refine TL_gq2 (op_fld rfl fld_38_1) rfl ?_ | (refine' TL_gq2 (op_ld rfl pl_5 ?_ ?_) rfl ?_; rotate_left 4; (· repeat ((exact List.mem_cons_self))); (· (assumption))) | (refine T_no rfl ?_ ?_; (· (first | assumption | exact Bool.not_true)))))
  refine T_loopS (σ := Nat × Int × Nat) (fun x => (3 ≤ x.1 ∧ x.1 ≤ ws.length) ∧ (-1 ≤ x.2.1 ∧ x.2.1 ≤ 15) ∧ x.2.2 < 65536 ∧ Cn.bitsGo (-1) 0 t = Cn.bitsGo x.2.1 x.2.2 (ws.drop x.1)) (fun x => [(2, .pointer (some ⟨b2, 0, none⟩)), (4, .slice (some ⟨b4, 0, none⟩) ws.length cap), (7, .pointer (some ⟨b7, 0, none⟩)), (9, .int .i64 x.2.1), (10, .int .i64 (x.1 : Nat))]) (fun x => (b7, Obj.cells #[.string (bs nm), .int .u8 (q : Nat), .int .u16 (x.2.2 : Nat)] 38 (0, 0)) :: (b2, Obj.cells #[.string (bs []), .int .u8 0, .int .u16 0] 38 (0, 0)) :: (b4, Obj.cells cur 9 (0, 0)) :: L) (fun x => ws.length - x.1) (3, -1, 0) ⟨⟨by omega, by dsimp only; omega⟩, by decide, by decide, by dsimp only; rw [hd3]⟩ ?_ (fun _ h => h) ?_
  (repeat ((first | exact trivial | refine ⟨rfl, ?_⟩)))
  rintro ⟨i, last, tr⟩ ⟨⟨hi3, hil⟩, ⟨hl1, hl2⟩, htr, hgo⟩
  dsimp only at hi3 hil hl1 hl2 htr hgo ⊢
  clear z1 z2
  have z1 : (#[.string (bs nm), .int .u8 (q : Nat), .int .u16 (tr : Nat)] : Array Value)[0 + 1]? = some (.int .u8 (q : Nat)) := rfl
  have z2 : (#[.string (bs nm), .int .u8 (q : Nat), .int .u16 (tr : Nat)] : Array Value)[0 + 2]? = some (.int .u16 (tr : Nat)) := rfl
  by_cases hlt : i < ws.length
  · obtain ⟨w, hw⟩ : ∃ w, ws[i]? = some w := ⟨_, List.getElem?_eq_getElem hlt⟩
    have hwc := hcell i w hw
    have hwl := hlen w (List.mem_of_getElem? hw)
    have hd : ws.drop i = w :: ws.drop (i + 1) := by
      obtain ⟨h1, h2⟩ := List.getElem?_eq_some_iff.1 hw
      rw [List.drop_eq_getElem_cons h1, h2]
    rw [hd, Cn.bitsGo] at hgo
    repeat ((first | with_reducible refine T_seq ?_ | with_reducible refine T_block ?_ | with_reducible refine T_region ?_ | with_reducible refine TL_nil ?_ | with_reducible refine TQ_then ?_ | with_reducible refine T_skip ?_ | refine TL_q (op_move rfl) rfl ?_ | (refine' TL_q (op_bin rfl rfl ?_) rfl ?_; rotate_left 1; (· (exact bin_lss))) | refine TL_q (op_len_slice rfl Tryd.underlying70) rfl ?_ | (refine' TL_q (op_idx ety_70 rfl rfl ?_) rfl ?_; (· omega)) | (refine' TL_q (op_ld rfl pl_5 ?_ ?_) rfl ?_; rotate_left 4; (· repeat ((first | exact List.mem_cons_self | apply List.mem_cons_of_mem))); (· (assumption))) | (refine T_yes rfl ?_ ?_; (· (exact dT (by (omega)))))))
    refine TL_op (op_call hb_44 rfl (rNumber_S w 15 (by omega) (by omega))) rfl ?_
    rcases rNum_cases w 15 with ⟨u, hn, hv⟩ | ⟨hn, u, hu, hv⟩
    rotate_left
    · rw [hn] at hgo
      rw [hv, rZone_no (rz_bits hspl hgo)]
      repeat ((first | with_reducible refine T_seq ?_ | with_reducible refine T_region ?_ | with_reducible refine TL_nil ?_ | with_reducible refine TQ_then ?_ | refine TL_q (op_move rfl) rfl ?_ | refine TL_q (op_assign rfl) rfl ?_ | refine TL_q (op_not rfl) rfl ?_ | refine TL_q (op_extract rfl rfl) rfl ?_ | (refine' TL_q (op_pickT rfl ?_ rfl) rfl ?_; (· (exact Bool.not_false))) | (refine TL_gno rfl rfl ?_ rfl ?_; (· (with_reducible rfl))) | refine TL_q (op_build rfl (bl_38_ )) rfl ?_ | (refine T_yes rfl ?_ ?_; (· (with_reducible rfl)))))
      refine TL_cnt (L' := (b2, Obj.cells #[.string (bs []), .int .u8 0, .int .u16 0] 38 (0, 0)) :: (b7, Obj.cells #[.string (bs nm), .int .u8 (q : Nat), .int .u16 (tr : Nat)] 38 (0, 0)) :: (b4, Obj.cells cur 9 (0, 0)) :: L) ?_ (by intro p; (try simp only [cnt_append, cnt_cons, cnt_nil]) <;> omega)
      repeat ((first | with_reducible refine TL_nil ?_ | with_reducible refine TQ_then ?_ | with_reducible refine T_ret ?_ | with_reducible refine TQ_then_ret ?_ | with_reducible refine TQ_block_ret ?_ | refine TL_q (op_assign rfl) rfl ?_ | (refine TL_stAll rfl rfl st_38 rfl rfl rfl ?_)))
      refine TQ_retC2 2 38 3 rfl rfl rfl st_38 (by repeat ((exact List.mem_cons_self))) rfl (fun w h => Heap.cnt (L' := L) h (by intro p; (try simp only [cnt_append, cnt_cons, cnt_nil]) <;> omega)) ?_
      exact ⟨rfl, rfl⟩
    have hu15 := (Cn.numP_some hn).2
    rw [hn] at hgo
    dsimp only at hgo
    rw [hv]
    by_cases hul : (u : Int) ≤ last
    · rw [if_pos hul] at hgo
      rw [rZone_no (rz_bits hspl hgo)]
      repeat ((first | with_reducible refine T_seq ?_ | with_reducible refine T_region ?_ | with_reducible refine TL_nil ?_ | with_reducible refine TQ_then ?_ | refine TL_q (op_move rfl) rfl ?_ | refine TL_q (op_assign rfl) rfl ?_ | refine TL_q (op_not rfl) rfl ?_ | refine TL_q (op_extract rfl rfl) rfl ?_ | (refine' TL_q (op_pickF rfl ?_ rfl) rfl ?_; (· (exact Bool.not_true))) | (refine TL_gpre rfl rfl ?_ ?_; (· (exact Bool.not_true))) | refine TL_gq2 (op_move rfl) rfl ?_ | (refine' TL_gq2 (op_bin rfl rfl ?_) rfl ?_; rotate_left 1; (· (exact bin_leq))) | refine TL_q (op_build rfl (bl_38_ )) rfl ?_ | (refine T_yes rfl ?_ ?_; (· (exact dT (by (assumption)))))))
      refine TL_cnt (L' := (b2, Obj.cells #[.string (bs []), .int .u8 0, .int .u16 0] 38 (0, 0)) :: (b7, Obj.cells #[.string (bs nm), .int .u8 (q : Nat), .int .u16 (tr : Nat)] 38 (0, 0)) :: (b4, Obj.cells cur 9 (0, 0)) :: L) ?_ (by intro p; (try simp only [cnt_append, cnt_cons, cnt_nil]) <;> omega)
      repeat ((first | with_reducible refine TL_nil ?_ | with_reducible refine TQ_then ?_ | with_reducible refine T_ret ?_ | with_reducible refine TQ_then_ret ?_ | with_reducible refine TQ_block_ret ?_ | refine TL_q (op_assign rfl) rfl ?_ | (refine TL_stAll rfl rfl st_38 rfl rfl rfl ?_)))
      refine TQ_retC2 2 38 3 rfl rfl rfl st_38 (by repeat ((exact List.mem_cons_self))) rfl (fun w h => Heap.cnt (L' := L) h (by intro p; (try simp only [cnt_append, cnt_cons, cnt_nil]) <;> omega)) ?_
      exact ⟨rfl, rfl⟩
    · rw [if_neg hul] at hgo
      have hpw : 2 ^ u < 65536 := by
        have : 2 ^ u ≤ 2 ^ 15 := Nat.pow_le_pow_right (by decide) hu15
        omega
      have hor : tr ||| 2 ^ u < 65536 := Nat.or_lt_two_pow (n := 16) htr hpw
      repeat ((first | with_reducible refine T_seq ?_ | with_reducible refine T_region ?_ | with_reducible refine TL_nil ?_ | with_reducible refine TQ_then ?_ | with_reducible refine T_skip ?_ | refine TL_q (op_move rfl) rfl ?_ | refine TL_q (op_assign rfl) rfl ?_ | refine TL_q (op_not rfl) rfl ?_ | refine TL_q (op_extract rfl rfl) rfl ?_ | (refine' TL_q (op_pickF rfl ?_ rfl) rfl ?_; (· (exact Bool.not_true))) | (refine' TL_q (op_conv_int rfl Tryd.underlying3 Tryd.underlying44 ?_) rfl ?_; (· exact ⟨by omega, by omega⟩)) | refine TL_q (op_fld rfl fld_38_2) rfl ?_ | (refine' TL_q (op_ld rfl pl_5 ?_ ?_) rfl ?_; rotate_left 4; (· repeat ((exact List.mem_cons_self))); (· (assumption))) | (refine TL_gpre rfl rfl ?_ ?_; (· (exact Bool.not_true))) | refine TL_gq2 (op_move rfl) rfl ?_ | (refine' TL_gq2 (op_bin rfl rfl ?_) rfl ?_; rotate_left 1; (· (exact bin_leq))) | (refine T_no rfl ?_ ?_; (· (exact dF (by (assumption)))))))
      refine TL_q (op_bin rfl rfl (bin_shl16k hu15)) rfl ?_
      refine TL_q (op_bin rfl rfl (bin_or16 htr hpw)) rfl ?_
      have hst : (#[.string (bs nm), .int .u8 (q : Nat), .int .u16 (tr : Nat)] : Array Value).setIfInBounds (0 + 2) (.int .u16 ((tr ||| 2 ^ u : Nat) : Int)) = #[.string (bs nm), .int .u8 (q : Nat), .int .u16 ((tr ||| 2 ^ u : Nat) : Int)] := rfl
      repeat ((first | with_reducible refine T_region ?_ | with_reducible refine TL_nil ?_ | with_reducible refine TQ_then ?_ | with_reducible refine TQ_block ?_ | refine TL_q (op_move rfl) rfl ?_ | refine TL_q (op_assign rfl) rfl ?_ | (refine' TL_q (op_bin rfl rfl ?_) rfl ?_; rotate_left 1; (· (exact bin_add ⟨by omega, by omega⟩))) | refine TL_q (op_fld rfl fld_38_2) rfl ?_ | (refine' TL_st rfl rfl one_5 rfl ?_ rfl ?_; rotate_left 1; (· (assumption)))))
      refine TQ_roundS (i + 1, (u : Int), tr ||| 2 ^ u) ⟨⟨by dsimp only; omega, by dsimp only; omega⟩, ⟨by dsimp only; omega, by dsimp only; omega⟩, hor, hgo⟩ ?_ (fun _ h => h) (by dsimp only; omega)
      (repeat ((first | exact trivial | refine ⟨rfl, ?_⟩)))
  obtain rfl : i = ws.length := by omega
  rw [List.drop_length, Cn.bitsGo] at hgo
  rw [rZone_yes (rz_fin hspl hrn hpp hgo hag)]
  repeat ((first | with_reducible refine T_seq ?_ | with_reducible refine T_region ?_ | with_reducible refine TL_nil ?_ | with_reducible refine TQ_then ?_ | with_reducible refine T_exit ?_ | with_reducible refine TQ_then_exit ?_ | with_reducible refine TQ_block_exit ?_ | refine TL_q (op_move rfl) rfl ?_ | (refine' TL_q (op_bin rfl rfl ?_) rfl ?_; rotate_left 1; (· (exact bin_lss))) | refine TL_q (op_len_slice rfl Tryd.underlying70) rfl ?_ | (refine' TL_q (op_ldAll rfl st_38 ?_ ?_) rfl ?_; rotate_left 3; (· repeat ((exact List.mem_cons_self))); (· (rfl))) | (refine T_no rfl ?_ ?_; (· (exact dF (by (omega)))))))
  refine TL_cnt (L' := (b2, Obj.cells #[.string (bs []), .int .u8 0, .int .u16 0] 38 (0, 0)) :: (b7, Obj.cells #[.string (bs nm), .int .u8 (q : Nat), .int .u16 (tr : Nat)] 38 (0, 0)) :: (b4, Obj.cells cur 9 (0, 0)) :: L) ?_ (by intro p; (try simp only [cnt_append, cnt_cons, cnt_nil]) <;> omega)
  repeat ((first | with_reducible refine TL_nil ?_ | with_reducible refine TQ_then ?_ | with_reducible refine T_ret ?_ | refine TL_q (op_assign rfl) rfl ?_ | (refine TL_stAll rfl rfl st_38 rfl rfl rfl ?_)))
  refine TQ_retC2 2 38 3 rfl rfl rfl st_38 (by repeat ((exact List.mem_cons_self))) rfl (fun w h => Heap.cnt (L' := L) h (by intro p; (try simp only [cnt_append, cnt_cons, cnt_nil]) <;> omega)) ?_
  exact ⟨rfl, rfl⟩
end Go.Proofs.YtnhlpifbadncmaaDoor
namespace Go.Proofs.YtnhlpifbadncmaaDoor
open Go.RowKit
open Cn (Zo Cf)
set_option linter.unusedVariables false
set_option linter.unusedSimpArgs false
--auto
section
variable {G : World} {P : Program} {n : Nat} {ρ : Slots} {L : Blocks} {ty : TypeId} {Q : Exit → Act → World → Prop} {ops : Array Oper} {K : Blocks} {W : List Nat} {fuel : Nat} {listed : Array Bool}
theorem TA_oneGd (i : Nat) {d j dj : Nat} {want b : Bool} {op : Op} {pos : String} {after : Array Edge} {Φ : Value → Blocks → Prop} (hr : Region.ready .any ops listed = [i]) (hi : ops[i]? = some ⟨some d, op, ty, pos, after, some (j, want)⟩) (hdn : Nat.blt d n = true)
    (hs : guardSlot ops j = some dj) (hv : ρ.lookup dj = some (.bool b)) (hb : b = want)
    (hO : OpT P G ρ L op ty Φ) (h : ∀ v L', Φ v L' → (i ∈ W ∨ ∀ p ∈ K, p ∈ L') ∧ TA P G ops n K W Q fuel (listed.setIfInBounds i true) ((d, v) :: ρ) L') : TA P G ops n K W Q (fuel + 1) listed ρ L := by
  refine ⟨fun h0 => (by rw [hr] at h0; cases h0), fun k hk => ?_⟩
  rw [hr] at hk
  obtain rfl : k = i := by simpa using hk
  exact ⟨_, hi, fun d' e => by cases e; simpa using hdn, true, ⟨dj, _, hs, hv, by simp [gsay, hb]⟩, Or.inl ⟨rfl, Φ, hO, h⟩⟩
end
variable {G : World} {L : Blocks}
def numR : Rp Int := fun _ cs n => cs = [.int .i64 n]
theorem drop_line {s : Nm.Bytes} {f i : Nat} {c : UInt8} (hf : f ≤ i) (hc : s[i]? = some c) : s.drop f = (s.take i).drop f ++ c :: s.drop (i + 1) := by
  obtain ⟨h1, h2⟩ := List.getElem?_eq_some_iff.1 hc
  have e : s = s.take i ++ c :: s.drop (i + 1) := by
    rw [← h2, ← List.drop_eq_getElem_cons h1, List.take_append_drop]
  have hl : f ≤ (s.take i).length := by rw [List.length_take]; omega
  calc s.drop f = (s.take i ++ c :: s.drop (i + 1)).drop f := by rw [← e]
    _ = _ := List.drop_append_of_le_length hl
theorem mid_snoc {s : Nm.Bytes} {f i : Nat} {c : UInt8} (hf : f ≤ i) (hc : s[i]? = some c) : (s.take (i + 1)).drop f = (s.take i).drop f ++ [c] := by
  obtain ⟨h1, h2⟩ := List.getElem?_eq_some_iff.1 hc
  have hl : f ≤ (s.take i).length := by rw [List.length_take]; omega
  rw [List.take_add_one, hc]
  exact List.drop_append_of_le_length hl
section
variable {l x1 x2 : Nm.Bytes} {k : Nat}
theorem rn_len (h : (Cn.spl 32 l).length ≠ 2) : Cn.readNum k l = none := by
  unfold Cn.readNum
  split
  · rename_i e
    rw [e] at h
    exact absurd rfl h
  · rfl
theorem rn_word {w : Nm.Bytes} (h : Cn.spl 32 l = [x1, x2]) (hw : Cn.words12[k]? = some w) (hx : x1 ≠ w) : Cn.readNum k l = none := by
  unfold Cn.readNum
  rw [h]
  dsimp only
  rw [hw, if_neg (fun e => hx (Option.some.inj e))]
theorem rn_num (h : Cn.spl 32 l = [x1, x2]) (hn : Cn.numP x2 2147483647 = none) : Cn.readNum k l = none := by
  unfold Cn.readNum
  rw [h]
  dsimp only
  rw [hn]
  split <;> rfl
theorem rn_ok {n : Nat} (h : Cn.spl 32 l = [x1, x2]) (hw : Cn.words12[k]? = some x1) (hn : Cn.numP x2 2147483647 = some n) : Cn.readNum k l = some (n : Int) := by
  unfold Cn.readNum
  rw [h]
  dsimp only
  rw [hw, if_pos rfl, hn]
  rfl
end
theorem op_stAllP {P : Program} {ρ : Slots} {ty : TypeId} {x y : Operand} {b k : Nat} {t : TypeId} {C D : Array Value} {te : TypeId} (hx : ev ρ x = some (.pointer (some ⟨b, 0, none⟩))) (hy : ev ρ y = some (.agg D))
    (ht : structTy P t k = true) (hC : C.size = k) (hD : D.size = k) (hone : allOne D = true) : OpV P G ρ ((b, Obj.cells C te (0, 0)) :: L) (.store t x y) ty undef ((b, Obj.cells D te (0, 0)) :: L) := by
  have h1 := op_stA (G := G) (P := P) (ρ := ρ) (L := L) (ty := ty) (b := b) (C := C) (te := te) (t := t) (cs := D.toList) hx (by simpa using hy) (by rw [Array.length_toList, hD]; exact ht) (fun v hv => List.all_eq_true.1 hone v hv) (by rw [Array.length_toList, hD, hC]; omega)
  have h2 : putAt C 0 D.toList = D := by
    unfold putAt
    rw [List.drop_eq_nil_of_le (by simp; omega)]
    simp
  rw [h2] at h1
  exact h1
set_option maxRecDepth 100000 in
set_option maxHeartbeats 4000000 in
theorem rWith_S (vs : List Int) (bn cap : Nat) (cur : Array Value) (h12 : vs.length = 12) (hm : (bn, Obj.cells cur 3 (0, 0)) ∈ L) (hc : ∀ i x, vs[i]? = some x → cur[0 + i * 1]? = some (.int .i64 x)) (hcap : 12 ≤ cap) (hmax : cap ≤ 9223372036854775807) :
    Spec Tryd.prog G 46 #[.slice (some ⟨bn, 0, none⟩) 12 cap] L fun u M => u = .agg (cfCells (Cn.ofN vs []) (.slice none 0 0)).toArray ∧ M = L := by
  match vs, h12 with
  | [v0, v1, v2, v3, v4, v5, v6, v7, v8, v9, v10, v11], _ =>
    have g0 := hc 0 v0 rfl
    have g1 := hc 1 v1 rfl
    have g2 := hc 2 v2 rfl
    have g3 := hc 3 v3 rfl
    have g4 := hc 4 v4 rfl
    have g5 := hc 5 v5 rfl
    have g6 := hc 6 v6 rfl
    have g7 := hc 7 v7 rfl
    have g8 := hc 8 v8 rfl
    have g9 := hc 9 v9 rfl
    have g10 := hc 10 v10 rfl
    have g11 := hc 11 v11 rfl
    clear hc
    refine Spec_of (n := 40) Tryd.func46 rfl rfl rfl ?_
    repeat ((first | with_reducible refine T_seq ?_ | with_reducible refine T_region ?_ | with_reducible refine TL_nil ?_ | with_reducible refine TQ_then ?_ | (refine TL_new (op_alloc (C := #[(.int .i64 0), (.int .i64 0), (.int .i64 0), (.int .i64 0), (.int .i64 0), (.int .i64 0), (.int .i64 0), (.int .i64 0), (.int .i64 0), (.int .i64 0), (.int .i64 0), (.int .i64 0), (.slice none 0 0)]) zero_25 rfl) rfl ?_; intro bNew)))
    obtain ⟨b2, hb2⟩ : ∃ b, bNew = b := ⟨_, rfl⟩
    rw [hb2]
    clear hb2 bNew
    have hKm : ∀ p ∈ [(bn, Obj.cells cur 3 (0, 0))], p ∈ L := by
      intro p hp
      simp only [List.mem_cons, List.not_mem_nil, or_false] at hp
      subst hp
      exact hm
    refine T_draw follows_mixed ([(bn, Obj.cells cur 3 (0, 0))]) [] ?_
    (refine' TA_take 0 rfl rfl (by kernel_rfl) (quiet_q (op_move rfl)) ?_ ?_; (· (intro p hp; grind)))
    (refine' TA_take 1 rfl rfl (by kernel_rfl) (quiet_q (op_idxI ety_68 rfl rfl ?_ ?_)) ?_ ?_; (· omega); (· omega); (· (intro p hp; grind)))
    (refine' TA_take 2 rfl rfl (by kernel_rfl) (quiet_q (op_ld rfl pl_3 ?_ ?_)) ?_ ?_; rotate_left 4; (· repeat ((exact List.mem_cons_self))); (· (assumption)); (· (intro p hp; grind)))
    (refine' TA_take 3 rfl rfl (by kernel_rfl) (quiet_q (op_move rfl)) ?_ ?_; (· (intro p hp; grind)))
    (refine' TA_take 4 rfl rfl (by kernel_rfl) (quiet_q (op_idxI ety_68 rfl rfl ?_ ?_)) ?_ ?_; (· omega); (· omega); (· (intro p hp; grind)))
    (refine' TA_take 5 rfl rfl (by kernel_rfl) (quiet_q (op_ld rfl pl_3 ?_ ?_)) ?_ ?_; rotate_left 4; (· repeat ((exact List.mem_cons_self))); (· (assumption)); (· (intro p hp; grind)))
    (refine' TA_take 6 rfl rfl (by kernel_rfl) (quiet_q (op_move rfl)) ?_ ?_; (· (intro p hp; grind)))
    (refine' TA_take 7 rfl rfl (by kernel_rfl) (quiet_q (op_idxI ety_68 rfl rfl ?_ ?_)) ?_ ?_; (· omega); (· omega); (· (intro p hp; grind)))
    (refine' TA_take 8 rfl rfl (by kernel_rfl) (quiet_q (op_ld rfl pl_3 ?_ ?_)) ?_ ?_; rotate_left 4; (· repeat ((exact List.mem_cons_self))); (· (assumption)); (· (intro p hp; grind)))
    (refine' TA_take 9 rfl rfl (by kernel_rfl) (quiet_q (op_move rfl)) ?_ ?_; (· (intro p hp; grind)))
    (refine' TA_take 10 rfl rfl (by kernel_rfl) (quiet_q (op_idxI ety_68 rfl rfl ?_ ?_)) ?_ ?_; (· omega); (· omega); (· (intro p hp; grind)))
    (refine' TA_take 11 rfl rfl (by kernel_rfl) (quiet_q (op_ld rfl pl_3 ?_ ?_)) ?_ ?_; rotate_left 4; (· repeat ((exact List.mem_cons_self))); (· (assumption)); (· (intro p hp; grind)))
    (refine' TA_take 12 rfl rfl (by kernel_rfl) (quiet_q (op_move rfl)) ?_ ?_; (· (intro p hp; grind)))
    (refine' TA_take 13 rfl rfl (by kernel_rfl) (quiet_q (op_idxI ety_68 rfl rfl ?_ ?_)) ?_ ?_; (· omega); (· omega); (· (intro p hp; grind)))
    (refine' TA_take 14 rfl rfl (by kernel_rfl) (quiet_q (op_ld rfl pl_3 ?_ ?_)) ?_ ?_; rotate_left 4; (· repeat ((exact List.mem_cons_self))); (· (assumption)); (· (intro p hp; grind)))
    (refine' TA_take 15 rfl rfl (by kernel_rfl) (quiet_q (op_move rfl)) ?_ ?_; (· (intro p hp; grind)))
    (refine' TA_take 16 rfl rfl (by kernel_rfl) (quiet_q (op_idxI ety_68 rfl rfl ?_ ?_)) ?_ ?_; (· omega); (· omega); (· (intro p hp; grind)))
    (refine' TA_take 17 rfl rfl (by kernel_rfl) (quiet_q (op_ld rfl pl_3 ?_ ?_)) ?_ ?_; rotate_left 4; (· repeat ((exact List.mem_cons_self))); (· (assumption)); (· (intro p hp; grind)))
    (refine' TA_take 18 rfl rfl (by kernel_rfl) (quiet_q (op_move rfl)) ?_ ?_; (· (intro p hp; grind)))
    (refine' TA_take 19 rfl rfl (by kernel_rfl) (quiet_q (op_idxI ety_68 rfl rfl ?_ ?_)) ?_ ?_; (· omega); (· omega); (· (intro p hp; grind)))
    (refine' TA_take 20 rfl rfl (by kernel_rfl) (quiet_q (op_ld rfl pl_3 ?_ ?_)) ?_ ?_; rotate_left 4; (· repeat ((exact List.mem_cons_self))); (· (assumption)); (· (intro p hp; grind)))
    (refine' TA_take 21 rfl rfl (by kernel_rfl) (quiet_q (op_move rfl)) ?_ ?_; (· (intro p hp; grind)))
    (refine' TA_take 22 rfl rfl (by kernel_rfl) (quiet_q (op_idxI ety_68 rfl rfl ?_ ?_)) ?_ ?_; (· omega); (· omega); (· (intro p hp; grind)))
    (refine' TA_take 23 rfl rfl (by kernel_rfl) (quiet_q (op_ld rfl pl_3 ?_ ?_)) ?_ ?_; rotate_left 4; (· repeat ((exact List.mem_cons_self))); (· (assumption)); (· (intro p hp; grind)))
    (refine' TA_take 24 rfl rfl (by kernel_rfl) (quiet_q (op_move rfl)) ?_ ?_; (· (intro p hp; grind)))
    (refine' TA_take 25 rfl rfl (by kernel_rfl) (quiet_q (op_idxI ety_68 rfl rfl ?_ ?_)) ?_ ?_; (· omega); (· omega); (· (intro p hp; grind)))
    (refine' TA_take 26 rfl rfl (by kernel_rfl) (quiet_q (op_ld rfl pl_3 ?_ ?_)) ?_ ?_; rotate_left 4; (· repeat ((exact List.mem_cons_self))); (· (assumption)); (· (intro p hp; grind)))
    (refine' TA_take 27 rfl rfl (by kernel_rfl) (quiet_q (op_move rfl)) ?_ ?_; (· (intro p hp; grind)))
    (refine' TA_take 28 rfl rfl (by kernel_rfl) (quiet_q (op_idxI ety_68 rfl rfl ?_ ?_)) ?_ ?_; (· omega); (· omega); (· (intro p hp; grind)))
    (refine' TA_take 29 rfl rfl (by kernel_rfl) (quiet_q (op_ld rfl pl_3 ?_ ?_)) ?_ ?_; rotate_left 4; (· repeat ((exact List.mem_cons_self))); (· (assumption)); (· (intro p hp; grind)))
    (refine' TA_take 30 rfl rfl (by kernel_rfl) (quiet_q (op_move rfl)) ?_ ?_; (· (intro p hp; grind)))
    (refine' TA_take 31 rfl rfl (by kernel_rfl) (quiet_q (op_idxI ety_68 rfl rfl ?_ ?_)) ?_ ?_; (· omega); (· omega); (· (intro p hp; grind)))
    (refine' TA_take 32 rfl rfl (by kernel_rfl) (quiet_q (op_ld rfl pl_3 ?_ ?_)) ?_ ?_; rotate_left 4; (· repeat ((exact List.mem_cons_self))); (· (assumption)); (· (intro p hp; grind)))
    (refine' TA_take 33 rfl rfl (by kernel_rfl) (quiet_q (op_move rfl)) ?_ ?_; (· (intro p hp; grind)))
    (refine' TA_take 34 rfl rfl (by kernel_rfl) (quiet_q (op_idxI ety_68 rfl rfl ?_ ?_)) ?_ ?_; (· omega); (· omega); (· (intro p hp; grind)))
    (refine' TA_take 35 rfl rfl (by kernel_rfl) (quiet_q (op_ld rfl pl_3 ?_ ?_)) ?_ ?_; rotate_left 4; (· repeat ((exact List.mem_cons_self))); (· (assumption)); (· (intro p hp; grind)))
    (refine' TA_take 36 rfl rfl (by kernel_rfl) (quiet_q (op_build rfl (bl_25_0_1_2_3_4_5_6_7_8_9_10_11 _ _ _ _ _ _ _ _ _ _ _ _))) ?_ ?_; (· (intro p hp; grind)))
    refine TA_oneN 37 (by kernel_rfl) rfl rfl rfl (op_stAllP rfl rfl st_25 rfl rfl rfl) ?_
    rintro _ _ ⟨_, rfl⟩
    refine ⟨Or.inr (by (exact (fun z hz => mem_of_cnt (by intro p; (try simp only [cnt_append, cnt_cons, cnt_nil]) <;> omega) z (hKm z hz)))), ?_⟩
    refine TA_done (by kernel_rfl) ?_
    repeat ((first | with_reducible refine TQ_then ?_ | with_reducible refine T_ret ?_))
    refine TQ_retC 2 25  rfl rfl  st_25 (by repeat ((exact List.mem_cons_self))) rfl (fun w h => h.tail) ?_
    exact ⟨rfl, rfl⟩
set_option maxRecDepth 100000 in
set_option maxHeartbeats 8000000 in
theorem rParse_S (s : Nm.Bytes) (hs : s.length ≤ 5000) : Spec Tryd.prog G 22 #[.string (bs s)] L fun u M => PRes (Cn.parseP theT s) L u M := by
  refine Spec_of (n := 106) Tryd.func22 rfl rfl rfl ?_
  repeat ((first | with_reducible refine T_seq ?_ | with_reducible refine T_block ?_ | with_reducible refine T_region ?_ | with_reducible refine TL_nil ?_ | with_reducible refine TQ_then ?_ | with_reducible refine T_skip ?_ | refine TL_q (op_move rfl) rfl ?_ | refine TL_q (op_assign rfl) rfl ?_ | (refine' TL_q (op_bin rfl rfl ?_) rfl ?_; rotate_left 1; (· (exact bin_gtr))) | refine TL_q (op_len_str rfl Tryd.underlying9) rfl ?_ | (refine TL_new (op_alloc (C := #[(.int .i64 0), (.int .i64 0), (.int .i64 0), (.int .i64 0), (.int .i64 0), (.int .i64 0), (.int .i64 0), (.int .i64 0), (.int .i64 0), (.int .i64 0), (.int .i64 0), (.int .i64 0), (.slice none 0 0)]) zero_25 rfl) rfl ?_; intro bNew) | (refine T_no rfl ?_ ?_; (· (exact dF (by (omega)))))))
  obtain ⟨b2, hb2⟩ : ∃ b, bNew = b := ⟨_, rfl⟩
  rw [hb2]
  clear hb2 bNew
  refine T_loopS (σ := (Nat × Nat × Nat) × (List Int × Option Addr × Nat × Blocks) × (List Zo × Option Addr × Nat × Blocks)) (fun x => (x.1.1 ≤ x.1.2.1 ∧ x.1.2.1 ≤ s.length) ∧ (10 : UInt8) ∉ (s.take x.1.2.1).drop x.1.1 ∧ PInv s x.1.2.2 (s.drop x.1.1) x.2.1.1 x.2.2.1 ∧ ORow numR 3 1 [] x.2.1.2.1 x.2.1.2.2.1 x.2.1.1 x.2.1.2.2.2 ∧ ORow zoR 38 3 [] x.2.2.2.1 x.2.2.2.2.1 x.2.2.1 x.2.2.2.2.2)
    (fun x => [(0, .string (bs s)), (2, .pointer (some ⟨b2, 0, none⟩)), (5, .slice x.2.1.2.1 x.2.1.1.length x.2.1.2.2.1), (6, .slice x.2.2.2.1 x.2.2.1.length x.2.2.2.2.1), (7, .int .i64 ((x.1.2.2 : Nat) + 1)), (8, .int .i64 (x.1.1 : Nat)), (9, .int .i64 (x.1.2.1 : Nat))])
    (fun x => (b2, Obj.cells (cfCells Cn.zeroC (.slice none 0 0)).toArray 25 (0, 0)) :: (x.2.1.2.2.2 ++ (x.2.2.2.2.2 ++ L))) (fun x => s.length - x.1.2.1) ((0, 0, 0), ([], none, 0, []), ([], none, 0, [])) ⟨⟨Nat.le_refl _, Nat.zero_le _⟩, by simp, by dsimp only; rw [List.drop_zero]; exact PInv.zero s, ORow.nil _, ORow.nil _⟩ ?_ (fun _ h => h) ?_
  (repeat ((first | exact trivial | refine ⟨rfl, ?_⟩)))
  rintro ⟨⟨f, i, k⟩, ⟨vs, a1, c1, B1⟩, ⟨zs, a2, c2, B2⟩⟩ ⟨⟨hfi, hil⟩, h10, hI, hB1, hB2⟩
  dsimp only at hfi hil h10 hI hB1 hB2 ⊢
  have hsz := hI.size
  rw [List.length_drop] at hsz
  have hvl := hI.vl
  have hzl := hI.zl
  by_cases hlt : i < s.length
  · obtain ⟨c, hc⟩ : ∃ c, s[i]? = some c := ⟨_, List.getElem?_eq_getElem hlt⟩
    have hcb := c.toNat_lt
    by_cases hc10 : c.toNat = 10
    rotate_left
    · have hcn : c ≠ 10 := fun e => hc10 (by rw [e]; rfl)
      repeat ((first | with_reducible refine T_seq ?_ | with_reducible refine T_block ?_ | with_reducible refine T_region ?_ | with_reducible refine TL_nil ?_ | with_reducible refine TQ_then ?_ | with_reducible refine T_skip ?_ | with_reducible refine T_exit ?_ | with_reducible refine TQ_then_exit ?_ | with_reducible refine TQ_block_exit ?_ | refine TL_q (op_move rfl) rfl ?_ | refine TL_q (op_assign rfl) rfl ?_ | (refine' TL_q (op_bin rfl rfl ?_) rfl ?_; rotate_left 1; (· (first | exact bin_add ⟨by omega, by omega⟩ | exact bin_neq | exact bin_lss))) | refine TL_q (op_len_str rfl Tryd.underlying9) rfl ?_ | (refine' TL_q (op_index_str rfl rfl Tryd.underlying9 ?_ ?_) rfl ?_; rotate_left 1; (· omega); (· (assumption))) | (refine T_yes rfl ?_ ?_; (· (first | exact dT (by (first | assumption | omega)) | exact nT (by (omega)))))))
      refine TQ_roundS ((f, i + 1, k), (vs, a1, c1, B1), (zs, a2, c2, B2)) ⟨⟨by dsimp only; omega, by dsimp only; omega⟩, ?_, hI, hB1, hB2⟩ ?_ (fun _ h => h) (by dsimp only; omega)
      · dsimp only
        rw [mid_snoc hfi hc, List.mem_append]
        rintro (q | q)
        · exact h10 q
        · exact hcn (List.mem_singleton.1 q).symm
      (repeat ((first | exact trivial | refine ⟨rfl, ?_⟩)))
    have hc' : c = 10 := UInt8.toNat_inj.1 hc10
    have hdl := drop_line hfi hc
    rw [hc'] at hdl
    rw [hdl] at hI
    obtain ⟨l, hl⟩ : ∃ l, (s.take i).drop f = l := ⟨_, rfl⟩
    rw [hl] at hI h10
    have hll : l.length ≤ 5000 := by rw [← hl, List.length_drop, List.length_take]; omega
    have hsl : List.drop ((f : Int)).toNat (List.take ((i : Int)).toNat s) = l := by rw [Int.toNat_natCast, Int.toNat_natCast]; exact hl
    have hnew : (10 : UInt8) ∉ (s.take (i + 1)).drop (i + 1) := by rw [List.drop_eq_nil_of_le (by rw [List.length_take]; omega)]; simp
    by_cases hk : k < 12
    · have hk12 : (k : Int) + 1 ≤ 12 := by omega
      repeat ((first | with_reducible refine T_seq ?_ | with_reducible refine T_block ?_ | with_reducible refine T_region ?_ | with_reducible refine TL_nil ?_ | with_reducible refine TQ_then ?_ | with_reducible refine T_skip ?_ | refine TL_q (op_move rfl) rfl ?_ | refine TL_q (op_assign rfl) rfl ?_ | (refine' TL_q (op_bin rfl rfl ?_) rfl ?_; rotate_left 1; (· (first | exact bin_add ⟨by omega, by omega⟩ | exact bin_neq | exact bin_lss | exact bin_leq))) | refine TL_q (op_len_str rfl Tryd.underlying9) rfl ?_ | (refine' TL_q (op_index_str rfl rfl Tryd.underlying9 ?_ ?_) rfl ?_; rotate_left 1; (· omega); (· (assumption))) | (refine' TL_q (op_slice_str rfl rfl rfl Tryd.underlying9 ?_ ?_ ?_) rfl ?_; (· omega); (· omega); (· omega)) | (refine T_yes rfl ?_ ?_; (· (exact dT (by (first | assumption | omega))))) | (refine T_no rfl ?_ ?_; (· (exact nF (by (omega)))))))
      rw [hsl]
      skip
      refine TL_opT (op_call hb_43 rfl (rWords_S l (by omega))) rfl ?_
      rintro _ _ ⟨a, cap, B, rfl, hB, rfl⟩
      have hlen := spl_len 32 l
      have hcnt := spl_count 32 l
      have hrnl := rn_len (l := l) (k := k)
      have hne := Cn.spl_ne 32 l
      obtain ⟨ws, hws⟩ : ∃ ws, Cn.spl 32 l = ws := ⟨_, rfl⟩
      rw [hws] at hB hlen hcnt hrnl hne ⊢
      obtain ⟨b4, cur, rfl, rfl, hcap, hmax, hsz, hat⟩ := hB.block hne
      have hcell : ∀ i x, ws[i]? = some x → cur[0 + i * 1]? = some (.string (bs x)) := fun i x hx => by
        obtain ⟨cs, _, ⟨rfl, _⟩, _, h⟩ := hat i x hx
        have := h 0 _ rfl
        rwa [Nat.add_zero, ← Nat.zero_add (i * 1)] at this
      clear hat hB
      unfold maxLen at hmax
      have hKm : ∀ p ∈ [(b4, Obj.cells cur 9 (0, 0))], p ∈ (b4, Obj.cells cur 9 (0, 0)) :: (b2, Obj.cells (cfCells Cn.zeroC (.slice none 0 0)).toArray 25 (0, 0)) :: (B1 ++ (B2 ++ L)) := by
        intro p hp
        simp only [List.mem_cons, List.not_mem_nil, or_false] at hp
        subst hp
        exact List.mem_cons_self ..
      by_cases h2 : ws.length = 2
      rotate_left
      · rw [hI.bad (by omega) h10 (Or.inl ⟨hk, hrnl h2⟩)]
        repeat ((first | with_reducible refine T_seq ?_ | with_reducible refine TL_nil ?_ | with_reducible refine TQ_then ?_ | refine TL_q (op_assign rfl) rfl ?_))
        refine T_draw follows_mixed ([(b4, Obj.cells cur 9 (0, 0))]) [] ?_
        (refine' TA_take 0 rfl rfl (by kernel_rfl) (quiet_q (op_move rfl)) ?_ ?_; (· (assumption)))
        (refine' TA_take 1 rfl rfl (by kernel_rfl) (quiet_q (op_len_slice rfl Tryd.underlying70)) ?_ ?_; (· (assumption)))
        (refine' TA_take 2 rfl rfl (by kernel_rfl) (quiet_q (op_bin rfl rfl ?_)) ?_ ?_; rotate_left 1; (· (exact bin_neq)); (· (assumption)))
        (refine' TA_take 3 rfl rfl (by kernel_rfl) (quiet_q (op_move rfl)) ?_ ?_; (· (assumption)))
        (refine TA_take 4 rfl rfl (by kernel_rfl) (quiet_no2 rfl rfl ?_) ?_ ?_; (· (exact nT (by (omega)))); (· (assumption)))
        (refine TA_take 5 rfl rfl (by kernel_rfl) (quiet_no2 rfl rfl ?_) ?_ ?_; (· (exact nT (by (omega)))); (· (assumption)))
        (refine TA_take 6 rfl rfl (by kernel_rfl) (quiet_no2 rfl rfl ?_) ?_ ?_; (· (exact nT (by (omega)))); (· (assumption)))
        (refine TA_take 7 rfl rfl (by kernel_rfl) (quiet_no2 rfl rfl ?_) ?_ ?_; (· (exact nT (by (omega)))); (· (assumption)))
        (refine TA_take 8 rfl rfl (by kernel_rfl) (quiet_no2 rfl rfl ?_) ?_ ?_; (· (exact nT (by (omega)))); (· (assumption)))
        (refine TA_take 9 rfl rfl (by kernel_rfl) (quiet_no2 rfl rfl ?_) ?_ ?_; (· (exact nT (by (omega)))); (· (assumption)))
        (refine TA_take 10 rfl rfl (by kernel_rfl) (quiet_no2 rfl rfl ?_) ?_ ?_; (· (exact nT (by (omega)))); (· (assumption)))
        (refine TA_take 11 rfl rfl (by kernel_rfl) (quiet_no2 rfl rfl ?_) ?_ ?_; (· (exact nT (by (omega)))); (· (assumption)))
        (refine TA_take 12 rfl rfl (by kernel_rfl) (quiet_no2 rfl rfl ?_) ?_ ?_; (· (exact nT (by (omega)))); (· (assumption)))
        (refine' TA_take 13 rfl rfl (by kernel_rfl) (quiet_q (op_pickT rfl ?_ rfl)) ?_ ?_; (· (exact nT (by (omega)))); (· (assumption)))
        refine TA_done (by kernel_rfl) ?_
        repeat ((first | with_reducible refine T_seq ?_ | with_reducible refine T_region ?_ | with_reducible refine TQ_then ?_ | refine TL_q (op_move rfl) rfl ?_ | refine TL_q (op_build rfl (bl_25_ )) rfl ?_ | (refine T_yes rfl ?_ ?_; (· (with_reducible rfl)))))
        refine TL_cnt (L' := (b2, Obj.cells (cfCells Cn.zeroC (.slice none 0 0)).toArray 25 (0, 0)) :: L) ?_ (by intro p; (try simp only [cnt_append, cnt_cons, cnt_nil]) <;> omega)
        repeat ((first | with_reducible refine TL_nil ?_ | with_reducible refine TQ_then ?_ | with_reducible refine T_ret ?_ | with_reducible refine TQ_then_ret ?_ | with_reducible refine TQ_block_ret ?_ | refine TL_q (op_assign rfl) rfl ?_ | (refine TL_stAll rfl rfl st_25 rfl rfl rfl ?_)))
        refine TQ_retC3 2 25 3 4 rfl rfl rfl rfl st_25 (by repeat ((exact List.mem_cons_self))) rfl (fun w h => h.tail) ?_
        exact ⟨none, 0, [], rfl, ORow.nil _, rfl⟩
      obtain ⟨x1, x2, hwe⟩ : ∃ x1 x2, ws = [x1, x2] := by
        match ws, h2 with
        | [x1, x2], _ => exact ⟨x1, x2, rfl⟩
      have d0 := hcell 0 x1 (by rw [hwe]; rfl)
      have d1 := hcell 1 x2 (by rw [hwe]; rfl)
      have hx1 := hlen x1 (by rw [hwe]; simp)
      have hx2 := hlen x2 (by rw [hwe]; simp)
      have hspl := hws.trans hwe
      obtain ⟨w', hw'⟩ : ∃ w', Cn.words12[k]? = some w' := ⟨_, List.getElem?_eq_getElem hk⟩
      have hword : (Cn.words12.map txtV).toArray[0 + ((k : Int) + 1 - 1).toNat * 1]? = some (.string (bs w')) := by
        rw [show 0 + ((k : Int) + 1 - 1).toNat * 1 = k by omega, List.getElem?_toArray, List.getElem?_map, hw']; rfl
      by_cases hww : x1 = w'
      rotate_left
      · rw [hI.bad (by omega) h10 (Or.inl ⟨hk, rn_word hspl hw' hww⟩)]
        repeat ((first | with_reducible refine T_seq ?_ | with_reducible refine TL_nil ?_ | with_reducible refine TQ_then ?_ | refine TL_q (op_assign rfl) rfl ?_))
        refine T_draw follows_mixed ([(b4, Obj.cells cur 9 (0, 0))]) [] ?_
        (refine' TA_take 0 rfl rfl (by kernel_rfl) (quiet_q (op_move rfl)) ?_ ?_; (· (assumption)))
        (refine' TA_take 1 rfl rfl (by kernel_rfl) (quiet_q (op_len_slice rfl Tryd.underlying70)) ?_ ?_; (· (assumption)))
        (refine' TA_take 2 rfl rfl (by kernel_rfl) (quiet_q (op_bin rfl rfl ?_)) ?_ ?_; rotate_left 1; (· (exact bin_neq)); (· (assumption)))
        (refine' TA_take 3 rfl rfl (by kernel_rfl) (quiet_q (op_move rfl)) ?_ ?_; (· (assumption)))
        (refine' TA_take 4 rfl rfl (by kernel_rfl) (quiet_g2 rfl rfl (by (exact nF (by (omega)))) (op_move rfl)) ?_ ?_; (· (assumption)))
        (refine' TA_take 5 rfl rfl (by kernel_rfl) (quiet_g2 rfl rfl (by (exact nF (by (omega)))) (op_idxI ety_70 rfl rfl ?_ ?_)) ?_ ?_; (· omega); (· omega); (· (assumption)))
        (refine' TA_take 6 rfl rfl (by kernel_rfl) (quiet_g2 rfl rfl (by (exact nF (by (omega)))) (op_ld rfl pl_9 ?_ ?_)) ?_ ?_; rotate_left 4; (· repeat ((exact List.mem_cons_self))); (· (assumption)); (· (assumption)))
        (refine' TA_take 8 rfl rfl (by kernel_rfl) (quiet_g2 rfl rfl (by (exact nF (by (omega)))) (op_move rfl)) ?_ ?_; (· (assumption)))
        (refine' TA_take 9 rfl rfl (by kernel_rfl) (quiet_g2 rfl rfl (by (exact nF (by (omega)))) (op_bin rfl rfl ?_)) ?_ ?_; rotate_left 1; (· (exact bin_sub ⟨by omega, by omega⟩)); (· (assumption)))
        refine TA_oneGd 7 (by kernel_rfl) rfl rfl rfl rfl (by (exact nF (by (omega)))) (op_call hb_37 rfl rWord12_S) ?_
        rintro _ _ ⟨bW, rfl, rfl⟩
        refine ⟨Or.inr (by (exact (fun z hz => mem_of_cnt (by intro p; (try simp only [cnt_append, cnt_cons, cnt_nil]) <;> omega) z (hKm z hz)))), ?_⟩
        (refine' TA_take 10 rfl rfl (by kernel_rfl) (quiet_g2 rfl rfl (by (exact nF (by (omega)))) (op_idxI ety_70 rfl rfl ?_ ?_)) ?_ ?_; (· omega); (· omega); (· (intro p hp; grind)))
        refine TA_oneGd 11 (by kernel_rfl) rfl rfl rfl rfl (by (exact nF (by (omega)))) ((op_ld (L := (bW, Obj.cells (Cn.words12.map txtV).toArray 9 (0, 0)) :: (b4, Obj.cells cur 9 (0, 0)) :: (b2, Obj.cells (cfCells Cn.zeroC (.slice none 0 0)).toArray 25 (0, 0)) :: (B1 ++ (B2 ++ L))) rfl pl_9 (List.mem_cons_self ..) hword).v) ?_
        rintro _ _ ⟨rfl, rfl⟩
        refine ⟨Or.inr (by (exact (fun z hz => mem_of_cnt (by intro p; (try simp only [cnt_append, cnt_cons, cnt_nil]) <;> omega) z (hKm z hz)))), ?_⟩
        (refine' TA_take 12 rfl rfl (by kernel_rfl) (quiet_g2 rfl rfl (by (exact nF (by (omega)))) (op_bin rfl rfl ?_)) ?_ ?_; rotate_left 1; (· (exact sbin_neq)); (· (intro p hp; grind)))
        (refine' TA_take 13 rfl rfl (by kernel_rfl) (quiet_q (op_pickF rfl ?_ rfl)) ?_ ?_; (· (exact nF (by (omega)))); (· (intro p hp; grind)))
        refine TA_done (by kernel_rfl) ?_
        repeat ((first | with_reducible refine T_seq ?_ | with_reducible refine T_region ?_ | with_reducible refine TQ_then ?_ | refine TL_q (op_move rfl) rfl ?_ | refine TL_q (op_build rfl (bl_25_ )) rfl ?_ | (refine T_yes rfl ?_ ?_; (· (exact nT (by (assumption)))))))
        refine TL_cnt (L' := (b2, Obj.cells (cfCells Cn.zeroC (.slice none 0 0)).toArray 25 (0, 0)) :: L) ?_ (by intro p; (try simp only [cnt_append, cnt_cons, cnt_nil]) <;> omega)
        repeat ((first | with_reducible refine TL_nil ?_ | with_reducible refine TQ_then ?_ | with_reducible refine T_ret ?_ | with_reducible refine TQ_then_ret ?_ | with_reducible refine TQ_block_ret ?_ | refine TL_q (op_assign rfl) rfl ?_ | (refine TL_stAll rfl rfl st_25 rfl rfl rfl ?_)))
        refine TQ_retC3 2 25 3 4 rfl rfl rfl rfl st_25 (by repeat ((exact List.mem_cons_self))) rfl (fun w h => h.tail) ?_
        exact ⟨none, 0, [], rfl, ORow.nil _, rfl⟩
      subst hww
      repeat ((first | with_reducible refine T_seq ?_ | with_reducible refine TL_nil ?_ | with_reducible refine TQ_then ?_ | refine TL_q (op_assign rfl) rfl ?_))
      refine T_draw follows_mixed ([(b4, Obj.cells cur 9 (0, 0))]) [] ?_
      (refine' TA_take 0 rfl rfl (by kernel_rfl) (quiet_q (op_move rfl)) ?_ ?_; (· (assumption)))
      (refine' TA_take 1 rfl rfl (by kernel_rfl) (quiet_q (op_len_slice rfl Tryd.underlying70)) ?_ ?_; (· (assumption)))
      (refine' TA_take 2 rfl rfl (by kernel_rfl) (quiet_q (op_bin rfl rfl ?_)) ?_ ?_; rotate_left 1; (· (exact bin_neq)); (· (assumption)))
      (refine' TA_take 3 rfl rfl (by kernel_rfl) (quiet_q (op_move rfl)) ?_ ?_; (· (assumption)))
      (refine' TA_take 4 rfl rfl (by kernel_rfl) (quiet_g2 rfl rfl (by (exact nF (by (omega)))) (op_move rfl)) ?_ ?_; (· (assumption)))
      (refine' TA_take 5 rfl rfl (by kernel_rfl) (quiet_g2 rfl rfl (by (exact nF (by (omega)))) (op_idxI ety_70 rfl rfl ?_ ?_)) ?_ ?_; (· omega); (· omega); (· (assumption)))
      (refine' TA_take 6 rfl rfl (by kernel_rfl) (quiet_g2 rfl rfl (by (exact nF (by (omega)))) (op_ld rfl pl_9 ?_ ?_)) ?_ ?_; rotate_left 4; (· repeat ((exact List.mem_cons_self))); (· (assumption)); (· (assumption)))
      (refine' TA_take 8 rfl rfl (by kernel_rfl) (quiet_g2 rfl rfl (by (exact nF (by (omega)))) (op_move rfl)) ?_ ?_; (· (assumption)))
      (refine' TA_take 9 rfl rfl (by kernel_rfl) (quiet_g2 rfl rfl (by (exact nF (by (omega)))) (op_bin rfl rfl ?_)) ?_ ?_; rotate_left 1; (· (exact bin_sub ⟨by omega, by omega⟩)); (· (assumption)))
      refine TA_oneGd 7 (by kernel_rfl) rfl rfl rfl rfl (by (exact nF (by (omega)))) (op_call hb_37 rfl rWord12_S) ?_
      rintro _ _ ⟨bW, rfl, rfl⟩
      refine ⟨Or.inr (by (exact (fun z hz => mem_of_cnt (by intro p; (try simp only [cnt_append, cnt_cons, cnt_nil]) <;> omega) z (hKm z hz)))), ?_⟩
      (refine' TA_take 10 rfl rfl (by kernel_rfl) (quiet_g2 rfl rfl (by (exact nF (by (omega)))) (op_idxI ety_70 rfl rfl ?_ ?_)) ?_ ?_; (· omega); (· omega); (· (intro p hp; grind)))
      refine TA_oneGd 11 (by kernel_rfl) rfl rfl rfl rfl (by (exact nF (by (omega)))) ((op_ld (L := (bW, Obj.cells (Cn.words12.map txtV).toArray 9 (0, 0)) :: (b4, Obj.cells cur 9 (0, 0)) :: (b2, Obj.cells (cfCells Cn.zeroC (.slice none 0 0)).toArray 25 (0, 0)) :: (B1 ++ (B2 ++ L))) rfl pl_9 (List.mem_cons_self ..) hword).v) ?_
      rintro _ _ ⟨rfl, rfl⟩
      refine ⟨Or.inr (by (exact (fun z hz => mem_of_cnt (by intro p; (try simp only [cnt_append, cnt_cons, cnt_nil]) <;> omega) z (hKm z hz)))), ?_⟩
      (refine' TA_take 12 rfl rfl (by kernel_rfl) (quiet_g2 rfl rfl (by (exact nF (by (omega)))) (op_bin rfl rfl ?_)) ?_ ?_; rotate_left 1; (· (exact sbin_neq)); (· (intro p hp; grind)))
      (refine' TA_take 13 rfl rfl (by kernel_rfl) (quiet_q (op_pickF rfl ?_ rfl)) ?_ ?_; (· (exact nF (by (omega)))); (· (intro p hp; grind)))
      refine TA_done (by kernel_rfl) ?_
      clear hKm
      repeat ((first | with_reducible refine T_seq ?_ | with_reducible refine T_region ?_ | with_reducible refine TQ_then ?_ | with_reducible refine T_skip ?_ | refine TL_q (op_move rfl) rfl ?_ | (refine' TL_q (op_idxI ety_70 rfl rfl ?_ ?_) rfl ?_; (· omega); (· omega)) | (refine' TL_q (op_ld rfl pl_9 ?_ ?_) rfl ?_; rotate_left 4; (· repeat ((first | exact List.mem_cons_self | apply List.mem_cons_of_mem))); (· (assumption))) | (refine T_no rfl ?_ ?_; (· (exact nF (by (with_reducible rfl)))))))
      refine TL_op (op_call hb_44 rfl (rNumber_S x2 2147483647 (by omega) (by omega))) rfl ?_
      rcases rNum_cases x2 2147483647 with ⟨n, hn, hv⟩ | ⟨hn, n, hu, hv⟩
      rotate_left
      · rw [hI.bad (by omega) h10 (Or.inl ⟨hk, rn_num hspl hn⟩), hv]
        repeat ((first | with_reducible refine T_seq ?_ | with_reducible refine T_region ?_ | with_reducible refine TL_nil ?_ | with_reducible refine TQ_then ?_ | refine TL_q (op_move rfl) rfl ?_ | refine TL_q (op_assign rfl) rfl ?_ | refine TL_q (op_not rfl) rfl ?_ | refine TL_q (op_extract rfl rfl) rfl ?_ | refine TL_q (op_build rfl (bl_25_ )) rfl ?_ | (refine T_yes rfl ?_ ?_; (· (exact Bool.not_false)))))
        refine TL_cnt (L' := (b2, Obj.cells (cfCells Cn.zeroC (.slice none 0 0)).toArray 25 (0, 0)) :: L) ?_ (by intro p; (try simp only [cnt_append, cnt_cons, cnt_nil]) <;> omega)
        repeat ((first | with_reducible refine TL_nil ?_ | with_reducible refine TQ_then ?_ | with_reducible refine T_ret ?_ | with_reducible refine TQ_then_ret ?_ | with_reducible refine TQ_block_ret ?_ | refine TL_q (op_assign rfl) rfl ?_ | (refine TL_stAll rfl rfl st_25 rfl rfl rfl ?_)))
        refine TQ_retC3 2 25 3 4 rfl rfl rfl rfl st_25 (by repeat ((exact List.mem_cons_self))) rfl (fun w h => h.tail) ?_
        exact ⟨none, 0, [], rfl, ORow.nil _, rfl⟩
      have hn2 := (Cn.numP_some hn).2
      rw [hv]
      repeat ((first | with_reducible refine T_seq ?_ | with_reducible refine T_region ?_ | with_reducible refine TL_nil ?_ | with_reducible refine TQ_then ?_ | with_reducible refine T_skip ?_ | refine TL_q (op_move rfl) rfl ?_ | refine TL_q (op_assign rfl) rfl ?_ | refine TL_q (op_not rfl) rfl ?_ | refine TL_q (op_extract rfl rfl) rfl ?_ | (refine TL_new (op_lit1 ety_68 rfl rfl) rfl ?_; intro bLit) | (refine T_no rfl ?_ ?_; (· (exact Bool.not_true)))))
      obtain ⟨bL, hbL⟩ : ∃ b, bLit = b := ⟨_, rfl⟩
      rw [hbL]
      clear hbL bLit
      refine TL_cnt (L' := (bL, Obj.cells #[(#[Value.int .i64 (n : Nat), .bool true] : Array Value)[0]] 3 (0, 0)) :: (B1 ++ ((b2, Obj.cells (cfCells Cn.zeroC (.slice none 0 0)).toArray 25 (0, 0)) :: (B2 ++ L)))) ?_ (by intro p; (try simp only [cnt_append, cnt_cons, cnt_nil]) <;> omega)
      refine TL_opT (op_push (r := numR) (cs := [.int .i64 (n : Nat)]) (y := (n : Int)) ety_68 rfl rfl hB1 rfl (by intro v hv; rw [List.mem_singleton.1 hv]; rfl) rfl (by unfold maxLen; omega) (Nat.le_trans (Nat.mul_le_mul (show vs.length + 1 ≤ 1000001 by omega) (Nat.le_refl _)) (by decide))) rfl ?_
      rintro _ _ ⟨a', c', B', rfl, hB', rfl⟩
      repeat ((first | with_reducible refine T_region ?_ | with_reducible refine TL_nil ?_ | with_reducible refine TQ_then ?_ | with_reducible refine TQ_block ?_ | refine TL_q (op_move rfl) rfl ?_ | refine TL_q (op_assign rfl) rfl ?_ | (refine' TL_q (op_bin rfl rfl ?_) rfl ?_; rotate_left 1; (· (exact bin_add ⟨by omega, by omega⟩)))))
      refine TQ_roundS ((i + 1, i + 1, k + 1), (vs ++ [(n : Int)], a', c', B'), (zs, a2, c2, B2)) ⟨⟨Nat.le_refl _, by dsimp only; omega⟩, hnew, hI.num h10 hk (rn_ok hspl hw' hn), hB', hB2⟩ ?_ (fun w h => Heap.cnt h (by intro p; (try simp only [cnt_append, cnt_cons, cnt_nil]) <;> omega)) (by dsimp only; omega)
      dsimp only
      rw [show (((k + 1 : Nat)) : Int) + 1 = (k : Int) + 1 + 1 by omega]
      (repeat ((first | exact trivial | refine ⟨rfl, ?_⟩)))
    · have hk12 : ¬ (k : Int) + 1 ≤ 12 := by omega
      repeat ((first | with_reducible refine T_seq ?_ | with_reducible refine T_block ?_ | with_reducible refine T_region ?_ | with_reducible refine TL_nil ?_ | with_reducible refine TQ_then ?_ | with_reducible refine T_skip ?_ | refine TL_q (op_move rfl) rfl ?_ | refine TL_q (op_assign rfl) rfl ?_ | (refine' TL_q (op_bin rfl rfl ?_) rfl ?_; rotate_left 1; (· (first | exact bin_add ⟨by omega, by omega⟩ | exact bin_neq | exact bin_lss | exact bin_leq))) | refine TL_q (op_len_str rfl Tryd.underlying9) rfl ?_ | (refine' TL_q (op_index_str rfl rfl Tryd.underlying9 ?_ ?_) rfl ?_; rotate_left 1; (· omega); (· (assumption))) | (refine' TL_q (op_slice_str rfl rfl rfl Tryd.underlying9 ?_ ?_ ?_) rfl ?_; (· omega); (· omega); (· omega)) | (refine T_yes rfl ?_ ?_; (· (exact dT (by (first | assumption | omega))))) | (refine T_no rfl ?_ ?_; (· (first | exact dF (by (assumption)) | exact nF (by (omega)))))))
      rw [hsl]
      skip
      refine TL_op (op_call hb_45 rfl (rZone_S l (by omega))) rfl ?_
      cases hz : Cn.readZone theT l with
      | none =>
        rw [hI.bad (by omega) h10 (Or.inr ⟨by omega, hz⟩), rZone_no hz]
        repeat ((first | with_reducible refine T_seq ?_ | with_reducible refine T_region ?_ | with_reducible refine TL_nil ?_ | with_reducible refine TQ_then ?_ | refine TL_q (op_move rfl) rfl ?_ | refine TL_q (op_assign rfl) rfl ?_ | refine TL_q (op_not rfl) rfl ?_ | refine TL_q (op_extract rfl rfl) rfl ?_ | (refine TL_stAll rfl rfl st_38 rfl rfl rfl ?_) | (refine TL_new (op_alloc (C := #[(.string (bs [])), (.int .u8 0), (.int .u16 0)]) zero_38 rfl) rfl ?_; intro bNew) | refine TL_q (op_build rfl (bl_25_ )) rfl ?_ | (refine T_yes rfl ?_ ?_; (· (exact Bool.not_false)))))
        refine TL_cnt (L' := (b2, Obj.cells (cfCells Cn.zeroC (.slice none 0 0)).toArray 25 (0, 0)) :: L) ?_ (by intro p; (try simp only [cnt_append, cnt_cons, cnt_nil]) <;> omega)
        repeat ((first | with_reducible refine TL_nil ?_ | with_reducible refine TQ_then ?_ | with_reducible refine T_ret ?_ | with_reducible refine TQ_then_ret ?_ | with_reducible refine TQ_block_ret ?_ | refine TL_q (op_assign rfl) rfl ?_ | (refine TL_stAll rfl rfl st_25 rfl rfl rfl ?_)))
        refine TQ_retC3 2 25 3 4 rfl rfl rfl rfl st_25 (by repeat ((exact List.mem_cons_self))) rfl (fun w h => h.tail) ?_
        exact ⟨none, 0, [], rfl, ORow.nil _, rfl⟩
      | some z =>
        have hzg := readZone_rng hz
        rw [rZone_yes hz]
        repeat ((first | with_reducible refine T_seq ?_ | with_reducible refine T_region ?_ | with_reducible refine TL_nil ?_ | with_reducible refine TQ_then ?_ | with_reducible refine T_skip ?_ | refine TL_q (op_move rfl) rfl ?_ | refine TL_q (op_assign rfl) rfl ?_ | refine TL_q (op_not rfl) rfl ?_ | refine TL_q (op_extract rfl rfl) rfl ?_ | (refine' TL_q (op_ldAll rfl st_38 ?_ ?_) rfl ?_; rotate_left 3; (· repeat ((exact List.mem_cons_self))); (· (rfl))) | (refine TL_stAll rfl rfl st_38 rfl rfl rfl ?_) | (refine TL_new (op_alloc (C := #[(.string (bs [])), (.int .u8 0), (.int .u16 0)]) zero_38 rfl) rfl ?_; intro bNew) | (refine TL_new (op_litN ety_23 rfl rfl (by decide)) rfl ?_; intro bLit) | (refine T_no rfl ?_ ?_; (· (exact Bool.not_true)))))
        obtain ⟨b14, hb14⟩ : ∃ b, bNew = b := ⟨_, rfl⟩
        rw [hb14]
        clear hb14 bNew
        obtain ⟨bL, hbL⟩ : ∃ b, bLit = b := ⟨_, rfl⟩
        rw [hbL]
        clear hbL bLit
        refine TL_cnt (L' := (bL, Obj.cells ([.string (bs z.name), .int .u8 (z.pol : Nat), .int .u16 (z.tru : Nat)] : List Value).toArray 38 (0, 0)) :: (B2 ++ ((b2, Obj.cells (cfCells Cn.zeroC (.slice none 0 0)).toArray 25 (0, 0)) :: (B1 ++ L)))) ?_ (by intro p; (try simp only [cnt_append, cnt_cons, cnt_nil]) <;> omega)
        refine TL_opT (op_push (r := zoR) (cs := [.string (bs z.name), .int .u8 (z.pol : Nat), .int .u16 (z.tru : Nat)]) (y := z) ety_23 rfl rfl hB2 rfl (by intro v hv; simp only [List.mem_cons, List.not_mem_nil, or_false] at hv; rcases hv with rfl | rfl | rfl <;> rfl) ⟨rfl, by unfold maxLen; omega, by omega, by omega⟩ (by unfold maxLen; omega) (Nat.le_trans (Nat.mul_le_mul (show zs.length + 1 ≤ 1000001 by omega) (Nat.le_refl _)) (by decide))) rfl ?_
        rintro _ _ ⟨a', c', B', rfl, hB', rfl⟩
        repeat ((first | with_reducible refine T_region ?_ | with_reducible refine TL_nil ?_ | with_reducible refine TQ_then ?_ | with_reducible refine TQ_block ?_ | refine TL_q (op_move rfl) rfl ?_ | refine TL_q (op_assign rfl) rfl ?_ | (refine' TL_q (op_bin rfl rfl ?_) rfl ?_; rotate_left 1; (· (exact bin_add ⟨by omega, by omega⟩)))))
        refine TQ_roundS ((i + 1, i + 1, k + 1), (vs, a1, c1, B1), (zs ++ [z], a', c', B')) ⟨⟨Nat.le_refl _, by dsimp only; omega⟩, hnew, hI.zone h10 (by omega) hz, hB1, hB'⟩ ?_ (fun w h => Heap.cnt h (by intro p; (try simp only [cnt_append, cnt_cons, cnt_nil]) <;> omega)) (by dsimp only; omega)
        dsimp only
        rw [show (((k + 1 : Nat)) : Int) + 1 = (k : Int) + 1 + 1 by omega]
        (repeat ((first | exact trivial | refine ⟨rfl, ?_⟩)))
  · obtain rfl : i = s.length := by omega
    rw [List.take_length] at h10
    by_cases hgo : k < 12 ∨ f < s.length
    · rw [hI.open' (by omega) h10 (by rcases hgo with h | h; exact Or.inl h; exact Or.inr (fun e => by have := congrArg List.length e; rw [List.length_drop, List.length_nil] at this; omega))]
      by_cases hfl : f < s.length
      · repeat ((first | with_reducible refine T_seq ?_ | with_reducible refine T_region ?_ | with_reducible refine TL_nil ?_ | with_reducible refine TQ_then ?_ | with_reducible refine T_exit ?_ | with_reducible refine T_ret ?_ | with_reducible refine TQ_then_exit ?_ | with_reducible refine TQ_then_ret ?_ | with_reducible refine TQ_block_exit ?_ | refine TL_q (op_move rfl) rfl ?_ | refine TL_q (op_assign rfl) rfl ?_ | (refine' TL_q (op_bin rfl rfl ?_) rfl ?_; rotate_left 1; (· (exact bin_lss))) | (refine' TL_q (op_pickT rfl ?_ rfl) rfl ?_; (· (exact dT (by (omega))))) | refine TL_q (op_len_str rfl Tryd.underlying9) rfl ?_ | (refine TL_gno rfl rfl ?_ rfl ?_; (· (exact dT (by (omega))))) | (refine TL_stAll rfl rfl st_25 rfl rfl rfl ?_) | refine TL_q (op_build rfl (bl_25_ )) rfl ?_ | (refine T_yes rfl ?_ ?_; (· (with_reducible rfl))) | (refine T_no rfl ?_ ?_; (· (exact dF (by (omega)))))))
        refine TQ_retC3 2 25 3 4 rfl rfl rfl rfl st_25 (by repeat ((exact List.mem_cons_self))) rfl (fun w h => Heap.cnt (L' := L) h (by intro p; (try simp only [cnt_append, cnt_cons, cnt_nil]) <;> omega)) ?_
        exact ⟨none, 0, [], rfl, ORow.nil _, rfl⟩
      · have hk12 : (k : Int) + 1 ≤ 12 := by omega
        repeat ((first | with_reducible refine T_seq ?_ | with_reducible refine T_region ?_ | with_reducible refine TL_nil ?_ | with_reducible refine TQ_then ?_ | with_reducible refine T_exit ?_ | with_reducible refine T_ret ?_ | with_reducible refine TQ_then_exit ?_ | with_reducible refine TQ_then_ret ?_ | with_reducible refine TQ_block_exit ?_ | refine TL_q (op_move rfl) rfl ?_ | refine TL_q (op_assign rfl) rfl ?_ | (refine' TL_q (op_bin rfl rfl ?_) rfl ?_; rotate_left 1; (· (exact bin_lss))) | (refine' TL_q (op_pickF rfl ?_ rfl) rfl ?_; (· (exact dF (by (omega))))) | refine TL_q (op_len_str rfl Tryd.underlying9) rfl ?_ | (refine TL_gpre rfl rfl ?_ ?_; (· (exact dF (by (omega))))) | refine TL_gq2 (op_move rfl) rfl ?_ | (refine' TL_gq2 (op_bin rfl rfl ?_) rfl ?_; rotate_left 1; (· (exact bin_leq))) | (refine TL_stAll rfl rfl st_25 rfl rfl rfl ?_) | refine TL_q (op_build rfl (bl_25_ )) rfl ?_ | (refine T_yes rfl ?_ ?_; (· (exact dT (by (assumption))))) | (refine T_no rfl ?_ ?_; (· (exact dF (by (omega)))))))
        refine TQ_retC3 2 25 3 4 rfl rfl rfl rfl st_25 (by repeat ((exact List.mem_cons_self))) rfl (fun w h => Heap.cnt (L' := L) h (by intro p; (try simp only [cnt_append, cnt_cons, cnt_nil]) <;> omega)) ?_
        exact ⟨none, 0, [], rfl, ORow.nil _, rfl⟩
    · have hk12 : ¬ (k : Int) + 1 ≤ 12 := by omega
      have hfl : ¬ f < s.length := by omega
      rw [List.drop_eq_nil_of_le (by omega)] at hI
      rw [hI.end' (by omega) (by omega)]
      have hv12 : vs.length = 12 := by omega
      obtain ⟨bn, cur, rfl, rfl, hcap, hmax, hsz1, hat⟩ := hB1.block (fun e => by rw [e] at hv12; simp at hv12)
      have hcell : ∀ i x, vs[i]? = some x → cur[0 + i * 1]? = some (.int .i64 x) := fun i x hx => by
        obtain ⟨cs, _, rfl, _, h⟩ := hat i x hx
        have := h 0 _ rfl
        rwa [Nat.add_zero, ← Nat.zero_add (i * 1)] at this
      clear hat
      unfold maxLen at hmax
      rw [hv12]
      repeat ((first | with_reducible refine T_seq ?_ | with_reducible refine T_region ?_ | with_reducible refine TL_nil ?_ | with_reducible refine TQ_then ?_ | with_reducible refine T_skip ?_ | with_reducible refine T_exit ?_ | with_reducible refine TQ_then_exit ?_ | with_reducible refine TQ_block_exit ?_ | refine TL_q (op_move rfl) rfl ?_ | (refine' TL_q (op_bin rfl rfl ?_) rfl ?_; rotate_left 1; (· (exact bin_lss))) | (refine' TL_q (op_pickF rfl ?_ rfl) rfl ?_; (· (exact dF (by (omega))))) | refine TL_q (op_len_str rfl Tryd.underlying9) rfl ?_ | (refine TL_gpre rfl rfl ?_ ?_; (· (exact dF (by (omega))))) | refine TL_gq2 (op_move rfl) rfl ?_ | (refine' TL_gq2 (op_bin rfl rfl ?_) rfl ?_; rotate_left 1; (· (exact bin_leq))) | (refine T_no rfl ?_ ?_; (· (exact dF (by (first | assumption | omega)))))))
      refine TL_op (op_call hb_46 rfl (rWith_S vs bn c1 cur hv12 (List.mem_cons_of_mem _ (List.mem_append_left _ (List.mem_cons_self ..))) hcell (by omega) (by omega))) rfl ?_
      repeat ((first | with_reducible refine T_seq ?_ | with_reducible refine T_region ?_ | with_reducible refine TL_nil ?_ | with_reducible refine TQ_then ?_ | refine TL_q (op_move rfl) rfl ?_ | refine TL_q (op_fld rfl fld_25_12) rfl ?_ | (refine' TL_q (op_ldAll rfl st_25 ?_ ?_) rfl ?_; rotate_left 3; (· repeat ((exact List.mem_cons_self))); (· (rfl))) | (refine' TL_st rfl rfl one_23 rfl ?_ rfl ?_; rotate_left 1; (· (rfl))) | (refine TL_stAll rfl rfl st_25 rfl rfl rfl ?_) | (refine TL_new (op_alloc (C := #[(.int .i64 0), (.int .i64 0), (.int .i64 0), (.int .i64 0), (.int .i64 0), (.int .i64 0), (.int .i64 0), (.int .i64 0), (.int .i64 0), (.int .i64 0), (.int .i64 0), (.int .i64 0), (.slice none 0 0)]) zero_25 rfl) rfl ?_; intro bNew)))
      obtain ⟨b16, hb16⟩ : ∃ b, bNew = b := ⟨_, rfl⟩
      rw [hb16]
      clear hb16 bNew
      have hset : (cfCells (Cn.ofN vs []) (.slice none 0 0)).toArray.setIfInBounds (0 + 12) (.slice a2 zs.length c2) = (cfCells (Cn.ofN vs zs) (.slice a2 zs.length c2)).toArray := rfl
      rw [hset]
      have hcl : ∀ L' : Blocks, (∀ p ∈ B2, p ∈ L') → CfL L' (Cn.ofN vs zs) (.slice a2 zs.length c2) := fun L' hp => ⟨ORow.sliceR mono_zo hB2 (by simp) hp, fun z hz => by have := (hI.zr z hz).1; omega⟩
      refine TL_op (op_call hb_19 rfl (rMay_S _ _ (hcl _ (mem_of_cnt (by intro p; (try simp only [cnt_append, cnt_cons, cnt_nil]) <;> omega))))) rfl ?_
      cases hm : Cn.mayP (Cn.ofN vs zs) with
      | true =>
        rw [mayE1_yes hm, if_pos rfl]
        repeat ((first | with_reducible refine T_seq ?_ | with_reducible refine T_region ?_ | with_reducible refine TL_nil ?_ | with_reducible refine TQ_then ?_ | with_reducible refine T_skip ?_ | (refine' TL_q (op_bin rfl rfl ?_) rfl ?_; rotate_left 1; (· (exact bin_neq))) | (refine' TL_q (op_ldAll rfl st_25 ?_ ?_) rfl ?_; rotate_left 3; (· repeat ((exact List.mem_cons_self))); (· (rfl))) | (refine T_no rfl ?_ ?_; (· (exact Bool.not_true)))))
        refine TL_cnt (L' := (b2, Obj.cells (cfCells Cn.zeroC (.slice none 0 0)).toArray 25 (0, 0)) :: (b16, Obj.cells (cfCells (Cn.ofN vs zs) (.slice a2 zs.length c2)).toArray 25 (0, 0)) :: (B2 ++ L)) ?_ (by intro p; (try simp only [cnt_append, cnt_cons, cnt_nil]) <;> omega)
        repeat ((first | with_reducible refine TL_nil ?_ | with_reducible refine TQ_then ?_ | with_reducible refine T_ret ?_ | refine TL_q (op_assign rfl) rfl ?_ | (refine TL_stAll rfl rfl st_25 rfl rfl rfl ?_)))
        refine TQ_retC3 2 25 3 4 rfl rfl rfl rfl st_25 (by repeat ((exact List.mem_cons_self))) rfl (fun w h => Heap.cnt (L' := B2 ++ L) h (by intro p; (try simp only [cnt_append, cnt_cons, cnt_nil]) <;> omega)) ?_
        exact ⟨a2, c2, B2, rfl, hB2, rfl⟩
      | false =>
        rw [mayE1_no hm, if_neg (by decide)]
        repeat ((first | with_reducible refine T_seq ?_ | with_reducible refine T_region ?_ | with_reducible refine TL_nil ?_ | with_reducible refine TQ_then ?_ | (refine' TL_q (op_bin rfl rfl ?_) rfl ?_; rotate_left 1; (· (exact bin_neq))) | refine TL_q (op_build rfl (bl_25_ )) rfl ?_ | (refine T_yes rfl ?_ ?_; (· (exact Bool.not_false)))))
        refine TL_cnt (L' := (b2, Obj.cells (cfCells Cn.zeroC (.slice none 0 0)).toArray 25 (0, 0)) :: L) ?_ (by intro p; (try simp only [cnt_append, cnt_cons, cnt_nil]) <;> omega)
        repeat ((first | with_reducible refine TL_nil ?_ | with_reducible refine TQ_then ?_ | with_reducible refine T_ret ?_ | with_reducible refine TQ_then_ret ?_ | refine TL_q (op_assign rfl) rfl ?_ | (refine TL_stAll rfl rfl st_25 rfl rfl rfl ?_)))
        refine TQ_retC3 2 25 3 4 rfl rfl rfl rfl st_25 (by repeat ((exact List.mem_cons_self))) rfl (fun w h => h.tail) ?_
        exact ⟨none, 0, [], rfl, ORow.nil _, rfl⟩
end Go.Proofs.YtnhlpifbadncmaaDoor
namespace Go.Proofs.YtnhlpifbadncmaaDoor
open Go.RowKit
open Cn (Zo Cf)
set_option linter.unusedVariables false
set_option linter.unusedSimpArgs false
--auto
variable {G : World} {L : Blocks}
set_option maxRecDepth 100000 in
set_option maxHeartbeats 16000000 in
theorem shows_S (c : Cf) (v : Value) (hz : sliceR 3 zoR L [v] c.zs) (hg : Glob L) : Spec Tryd.prog G 4 #[.agg (cfCells c v).toArray] L fun u M => u = .bool true ∧ M = L := by
  refine Spec_of (n := 53) Tryd.func4 rfl rfl rfl ?_
  refine T_seq (T_region (TL_new (op_boxA rfl) rfl ?_))
  intro b1
  have g0 : (cfCells (c) (v)).toArray[0 + 0]? = some (.int .i64 (c).ups) := rfl
  have g1 : (cfCells (c) (v)).toArray[0 + 1]? = some (.int .i64 (c).ded) := rfl
  have g2 : (cfCells (c) (v)).toArray[0 + 2]? = some (.int .i64 (c).hdg) := rfl
  have g3 : (cfCells (c) (v)).toArray[0 + 3]? = some (.int .i64 (c).wai) := rfl
  have g4 : (cfCells (c) (v)).toArray[0 + 4]? = some (.int .i64 (c).tri) := rfl
  have g5 : (cfCells (c) (v)).toArray[0 + 5]? = some (.int .i64 (c).res) := rfl
  have g6 : (cfCells (c) (v)).toArray[0 + 6]? = some (.int .i64 (c).lim) := rfl
  have g7 : (cfCells (c) (v)).toArray[0 + 7]? = some (.int .i64 (c).cac) := rfl
  have g8 : (cfCells (c) (v)).toArray[0 + 8]? = some (.int .i64 (c).fli) := rfl
  have g9 : (cfCells (c) (v)).toArray[0 + 9]? = some (.int .i64 (c).wtr) := rfl
  have g10 : (cfCells (c) (v)).toArray[0 + 10]? = some (.int .i64 (c).ttl) := rfl
  have g11 : (cfCells (c) (v)).toArray[0 + 11]? = some (.int .i64 (c).siz) := rfl
  have g12 : (cfCells (c) (v)).toArray[0 + 12]? = some (v) := rfl
  repeat ((first | with_reducible refine T_seq ?_ | with_reducible refine T_region ?_ | with_reducible refine TL_nil ?_ | with_reducible refine TQ_then ?_ | refine TL_q (op_assign rfl) rfl ?_ | (refine' TL_q (op_ldAll rfl st_25 ?_ ?_) rfl ?_; rotate_left 3; (· repeat ((exact List.mem_cons_self))); (· (rfl)))))
  refine TL_op (op_call hb_16 rfl (large_S c v (mono_slice mono_zo _ _ _ _ (mem_of_cnt (by intro p; (try simp only [cnt_append, cnt_cons, cnt_nil]) <;> omega)) hz))) rfl ?_
  cases hl : largeB c with
  | true =>
    repeat ((first | with_reducible refine T_seq ?_ | with_reducible refine T_region ?_ | with_reducible refine TL_nil ?_ | with_reducible refine TQ_then ?_ | (refine T_yes rfl ?_ ?_; (· (with_reducible rfl)))))
    refine TL_op (op_call hb_10 rfl (awake_S (hg.mono (mem_of_cnt (by intro p; (try simp only [cnt_append, cnt_cons, cnt_nil]) <;> omega))))) rfl ?_
    repeat ((first | with_reducible refine TL_nil ?_ | with_reducible refine TQ_then ?_ | with_reducible refine T_ret ?_ | with_reducible refine TQ_then_ret ?_ | refine TL_q (op_assign rfl) rfl ?_))
    refine TQ_heap (fun w h => h.tail) ?_
    refine TQ_ret1 2 _ rfl rfl ?_
    exact ⟨rfl, rfl⟩
  | false =>
    obtain ⟨hcl, hlen⟩ := not_large hz hl
    repeat ((first | with_reducible refine T_seq ?_ | with_reducible refine T_region ?_ | with_reducible refine TL_nil ?_ | with_reducible refine TQ_then ?_ | with_reducible refine T_skip ?_ | (refine' TL_q (op_ldAll rfl st_25 ?_ ?_) rfl ?_; rotate_left 3; (· repeat ((exact List.mem_cons_self))); (· (rfl))) | (refine T_no rfl ?_ ?_; (· (with_reducible rfl)))))
    refine TL_opT (op_call hb_17 rfl (own_S c v (mono_slice mono_zo _ _ _ _ (mem_of_cnt (by intro p; (try simp only [cnt_append, cnt_cons, cnt_nil]) <;> omega)) hz) hlen)) rfl ?_
    rintro _ _ ⟨a', c', B, rfl, hB, rfl⟩
    repeat ((first | with_reducible refine T_seq ?_ | with_reducible refine T_region ?_ | with_reducible refine TL_nil ?_ | with_reducible refine TQ_then ?_ | (refine' TL_q (op_ldAll rfl st_25 ?_ ?_) rfl ?_; rotate_left 3; (· repeat ((exact List.mem_cons_self))); (· (rfl))) | (refine TL_stAll rfl rfl st_25 rfl rfl rfl ?_) | (refine TL_new (op_alloc (C := #[(.int .i64 0), (.int .i64 0), (.int .i64 0), (.int .i64 0), (.int .i64 0), (.int .i64 0), (.int .i64 0), (.int .i64 0), (.int .i64 0), (.int .i64 0), (.int .i64 0), (.int .i64 0), (.slice none 0 0)]) zero_25 rfl) rfl ?_; intro bNew)))
    obtain ⟨b3, hb3⟩ : ∃ b, bNew = b := ⟨_, rfl⟩
    rw [hb3]
    clear hb3 bNew
    have cl3 : CfL ((b3, Obj.cells (cfCells c (.slice a' c.zs.length c')).toArray 25 (0, 0)) :: (B ++ ((b1, Obj.cells (cfCells c v).toArray 25 (0, 0)) :: L))) c (.slice a' c.zs.length c') := ⟨ORow.sliceR mono_zo hB (by simp) (mem_of_cnt (by intro p; (try simp only [cnt_append, cnt_cons, cnt_nil]) <;> omega)), hcl.small⟩
    have cl1 : CfL ((b3, Obj.cells (cfCells c (.slice a' c.zs.length c')).toArray 25 (0, 0)) :: (B ++ ((b1, Obj.cells (cfCells c v).toArray 25 (0, 0)) :: L))) c v := hcl.mono (mem_of_cnt (by intro p; (try simp only [cnt_append, cnt_cons, cnt_nil]) <;> omega))
    have hg3 : Glob ((b3, Obj.cells (cfCells c (.slice a' c.zs.length c')).toArray 25 (0, 0)) :: (B ++ ((b1, Obj.cells (cfCells c v).toArray 25 (0, 0)) :: L))) := hg.mono (mem_of_cnt (by intro p; (try simp only [cnt_append, cnt_cons, cnt_nil]) <;> omega))
    refine TL_op (op_call hb_13 rfl (pShow_S c _ cl3 hg3)) rfl ?_
    have hsv : showV c = .tuple #[.string (bs (Cn.showP theT c).1), .int .i64 (Cn.showP theT c).2] := rfl
    obtain ⟨⟨t, e⟩, hs⟩ : ∃ r, Cn.showP theT c = r := ⟨_, rfl⟩
    rw [hs] at hsv
    dsimp only at hsv
    rw [hsv]
    repeat ((first | with_reducible refine T_seq ?_ | with_reducible refine T_region ?_ | with_reducible refine TL_nil ?_ | with_reducible refine TQ_then ?_ | refine TL_q (op_move rfl) rfl ?_ | refine TL_q (op_assign rfl) rfl ?_ | refine TL_q (op_extract rfl rfl) rfl ?_ | (refine' TL_q (op_ldAll rfl st_25 ?_ ?_) rfl ?_; rotate_left 3; (· repeat ((first | exact List.mem_cons_self | apply List.mem_cons_of_mem | apply List.mem_append_right))); (· (rfl)))))
    refine TL_op (op_call hb_18 rfl (rShow_S c v cl1)) rfl ?_
    rw [hsv]
    repeat ((first | with_reducible refine T_seq ?_ | with_reducible refine TL_nil ?_ | with_reducible refine TQ_then ?_ | refine TL_q (op_move rfl) rfl ?_ | refine TL_q (op_assign rfl) rfl ?_ | refine TL_q (op_extract rfl rfl) rfl ?_))
    have hKm : ∀ p ∈ [(b3, Obj.cells (cfCells c (.slice a' c.zs.length c')).toArray 25 (0, 0)), (b1, Obj.cells (cfCells c v).toArray 25 (0, 0))], p ∈ (b3, Obj.cells (cfCells c (.slice a' c.zs.length c')).toArray 25 (0, 0)) :: (B ++ ((b1, Obj.cells (cfCells c v).toArray 25 (0, 0)) :: L)) := by
      intro p hp
      simp only [List.mem_cons, List.not_mem_nil, or_false] at hp
      rcases hp with rfl | rfl <;> simp
    have hsame : sameC c c = true := by rw [sameC_eq]; exact decide_eq_true rfl
    obtain ⟨n, hn⟩ : ∃ n, mayE1 c = n := ⟨_, rfl⟩
    obtain ⟨m, hm⟩ : ∃ n, Cn.liesP c = n := ⟨_, rfl⟩
    refine T_midK (σ := Unit) (fun _ => True) (fun _ => [(2, .bool true)]) (fun _ => (b3, Obj.cells (cfCells c (.slice a' c.zs.length c')).toArray 25 (0, 0)) :: (B ++ ((b1, Obj.cells (cfCells c v).toArray 25 (0, 0)) :: L))) ?_ ?_
    · skip
      refine T_draw follows_mixed ([(b3, Obj.cells (cfCells c (.slice a' c.zs.length c')).toArray 25 (0, 0)), (b1, Obj.cells (cfCells c v).toArray 25 (0, 0))]) [] ?_
      (refine' TA_take 0 rfl rfl (by kernel_rfl) (quiet_q (op_ldAll rfl st_25 ?_ ?_)) ?_ ?_; rotate_left 3; (· repeat ((exact List.mem_cons_self))); (· (rfl)); (· (assumption)))
      (refine' TA_take 2 rfl rfl (by kernel_rfl) (quiet_q (op_ldAll rfl st_25 ?_ ?_)) ?_ ?_; rotate_left 3; (· repeat ((first | exact List.mem_cons_self | apply List.mem_cons_of_mem))); (· (rfl)); (· (assumption)))
      refine TA_oneD 1 (by kernel_rfl) rfl rfl rfl rfl (op_call hb_11 rfl (pMay_S c _ cl3)) ?_
      rintro _ _ ⟨rfl, rfl⟩; rw [hn]
      refine ⟨Or.inr (by (exact (fun z hz => mem_of_cnt (by intro p; (try simp only [cnt_append, cnt_cons, cnt_nil]) <;> omega) z (hKm z hz)))), ?_⟩
      refine TA_oneD 3 (by kernel_rfl) rfl rfl rfl rfl (op_call hb_19 rfl (rMay_S c _ cl1)) ?_
      rintro _ _ ⟨rfl, rfl⟩; rw [hn]
      refine ⟨Or.inr (by (exact (fun z hz => mem_of_cnt (by intro p; (try simp only [cnt_append, cnt_cons, cnt_nil]) <;> omega) z (hKm z hz)))), ?_⟩
      (refine' TA_take 4 rfl rfl (by kernel_rfl) (quiet_q (op_bin rfl rfl ?_)) ?_ ?_; rotate_left 1; (· (exact bin_eql)); (· (assumption)))
      (refine' TA_take 5 rfl rfl (by kernel_rfl) (quiet_q (op_move rfl)) ?_ ?_; (· (assumption)))
      (refine' TA_take 6 rfl rfl (by kernel_rfl) (quiet_g2 rfl rfl (by (exact dT (by (with_reducible rfl)))) (op_ldAll rfl st_25 ?_ ?_)) ?_ ?_; rotate_left 3; (· repeat ((exact List.mem_cons_self))); (· (rfl)); (· (assumption)))
      (refine' TA_take 8 rfl rfl (by kernel_rfl) (quiet_g2 rfl rfl (by (exact dT (by (with_reducible rfl)))) (op_ldAll rfl st_25 ?_ ?_)) ?_ ?_; rotate_left 3; (· repeat ((first | exact List.mem_cons_self | apply List.mem_cons_of_mem))); (· (rfl)); (· (assumption)))
      refine TA_oneGd 7 (by kernel_rfl) rfl rfl rfl rfl (by (exact dT (by (with_reducible rfl)))) (op_call hb_12 rfl (pLies_S c _ cl3)) ?_
      rintro _ _ ⟨rfl, rfl⟩; rw [hm]
      refine ⟨Or.inr (by (exact (fun z hz => mem_of_cnt (by intro p; (try simp only [cnt_append, cnt_cons, cnt_nil]) <;> omega) z (hKm z hz)))), ?_⟩
      refine TA_oneGd 9 (by kernel_rfl) rfl rfl rfl rfl (by (exact dT (by (with_reducible rfl)))) (op_call hb_20 rfl (rLies_S c _ cl1)) ?_
      rintro _ _ ⟨rfl, rfl⟩; rw [hm]
      refine ⟨Or.inr (by (exact (fun z hz => mem_of_cnt (by intro p; (try simp only [cnt_append, cnt_cons, cnt_nil]) <;> omega) z (hKm z hz)))), ?_⟩
      (refine' TA_take 10 rfl rfl (by kernel_rfl) (quiet_g2 rfl rfl (by (exact dT (by (with_reducible rfl)))) (op_bin rfl rfl ?_)) ?_ ?_; rotate_left 1; (· (exact bin_eql)); (· (assumption)))
      (refine' TA_take 11 rfl rfl (by kernel_rfl) (quiet_q (op_pickT rfl ?_ rfl)) ?_ ?_; (· (exact dT (by (with_reducible rfl)))); (· (assumption)))
      (refine' TA_take 12 rfl rfl (by kernel_rfl) (quiet_q (op_move rfl)) ?_ ?_; (· (assumption)))
      (refine' TA_take 13 rfl rfl (by kernel_rfl) (quiet_g2 rfl rfl (by (exact dT (by (with_reducible rfl)))) (op_move rfl)) ?_ ?_; (· (assumption)))
      (refine' TA_take 14 rfl rfl (by kernel_rfl) (quiet_g2 rfl rfl (by (exact dT (by (with_reducible rfl)))) (op_move rfl)) ?_ ?_; (· (assumption)))
      (refine' TA_take 15 rfl rfl (by kernel_rfl) (quiet_g2 rfl rfl (by (exact dT (by (with_reducible rfl)))) (op_bin rfl rfl ?_)) ?_ ?_; rotate_left 1; (· (exact sbin_eql)); (· (assumption)))
      (refine' TA_take 16 rfl rfl (by kernel_rfl) (quiet_q (op_pickT rfl ?_ rfl)) ?_ ?_; (· (exact dT (by (with_reducible rfl)))); (· (assumption)))
      (refine' TA_take 17 rfl rfl (by kernel_rfl) (quiet_q (op_move rfl)) ?_ ?_; (· (assumption)))
      (refine' TA_take 18 rfl rfl (by kernel_rfl) (quiet_g2 rfl rfl (by (exact eT (by (with_reducible rfl)))) (op_move rfl)) ?_ ?_; (· (assumption)))
      (refine' TA_take 19 rfl rfl (by kernel_rfl) (quiet_g2 rfl rfl (by (exact eT (by (with_reducible rfl)))) (op_move rfl)) ?_ ?_; (· (assumption)))
      (refine' TA_take 20 rfl rfl (by kernel_rfl) (quiet_g2 rfl rfl (by (exact eT (by (with_reducible rfl)))) (op_bin rfl rfl ?_)) ?_ ?_; rotate_left 1; (· (exact bin_eql)); (· (assumption)))
      (refine' TA_take 21 rfl rfl (by kernel_rfl) (quiet_q (op_pickT rfl ?_ rfl)) ?_ ?_; (· (exact eT (by (with_reducible rfl)))); (· (assumption)))
      (refine' TA_take 22 rfl rfl (by kernel_rfl) (quiet_q (op_move rfl)) ?_ ?_; (· (assumption)))
      (refine' TA_take 23 rfl rfl (by kernel_rfl) (quiet_g2 rfl rfl (by (exact dT (by (with_reducible rfl)))) (op_ldAll rfl st_25 ?_ ?_)) ?_ ?_; rotate_left 3; (· repeat ((exact List.mem_cons_self))); (· (rfl)); (· (assumption)))
      (refine' TA_take 24 rfl rfl (by kernel_rfl) (quiet_g2 rfl rfl (by (exact dT (by (with_reducible rfl)))) (op_ldAll rfl st_25 ?_ ?_)) ?_ ?_; rotate_left 3; (· repeat ((first | exact List.mem_cons_self | apply List.mem_cons_of_mem))); (· (rfl)); (· (assumption)))
      refine TA_oneGd 25 (by kernel_rfl) rfl rfl rfl rfl (by (exact dT (by (with_reducible rfl)))) (op_call hb_21 rfl (rSame_S c c _ _ cl3.row cl1.row)) ?_
      rintro _ _ ⟨rfl, rfl⟩; rw [hsame]
      refine ⟨Or.inr (by (exact (fun z hz => mem_of_cnt (by intro p; (try simp only [cnt_append, cnt_cons, cnt_nil]) <;> omega) z (hKm z hz)))), ?_⟩
      (refine' TA_take 26 rfl rfl (by kernel_rfl) (quiet_q (op_pickT rfl ?_ rfl)) ?_ ?_; (· (exact dT (by (with_reducible rfl)))); (· (assumption)))
      (refine' TA_take 27 rfl rfl (by kernel_rfl) (quiet_q (op_move rfl)) ?_ ?_; (· (assumption)))
      refine TA_oneGd 28 (by kernel_rfl) rfl rfl rfl rfl (by (with_reducible rfl)) (op_call hb_10 rfl (awake_S hg3)) ?_
      rintro _ _ ⟨rfl, rfl⟩
      refine ⟨Or.inr (by (exact (fun z hz => mem_of_cnt (by intro p; (try simp only [cnt_append, cnt_cons, cnt_nil]) <;> omega) z (hKm z hz)))), ?_⟩
      (refine' TA_take 29 rfl rfl (by kernel_rfl) (quiet_q (op_pickT rfl ?_ rfl)) ?_ ?_; (· (with_reducible rfl)); (· (assumption)))
      (refine' TA_take 30 rfl rfl (by kernel_rfl) (quiet_q (op_assign rfl)) ?_ ?_; (· (assumption)))
      refine TA_done (by kernel_rfl) ?_
      refine TQ_mid () trivial ?_ (fun w h => h)
      (repeat ((first | exact trivial | refine ⟨rfl, ?_⟩)))
    rintro _ _
    repeat ((with_reducible refine T_ret ?_))
    refine TQ_cnt (L' := L) ?_ (by intro p; (try simp only [cnt_append, cnt_cons, cnt_nil]) <;> omega)
    refine TQ_ret1 2 _ rfl rfl ?_
    exact ⟨rfl, rfl⟩
end Go.Proofs.YtnhlpifbadncmaaDoor
namespace Go.Proofs.YtnhlpifbadncmaaDoor
open Go.ChangeShapes Go.WideShapes Go.ChangeAt Go.RowKit
set_option linter.unusedVariables false
set_option linter.unusedSimpArgs false
/-- The list of every row. -/
def laidL : List (String × DataW Unit) := [("math/bits.deBruijn32tab", Rows.laid_math_bits_deBruijn32tab), ("math/bits.deBruijn64tab", Rows.laid_math_bits_deBruijn64tab), ("internal/strconv.uint64pow10", Rows.laid_internal_strconv_uint64pow10), ("unicode/utf8.acceptRanges", Rows.laid_unicode_utf8_acceptRanges), ("hustings/conf.words", Rows.laid_hustings_conf_words), ("unicode/utf8.first", Rows.laid_unicode_utf8_first)]
theorem words_cells {H : Type} {enc : TypeId × Value → H} {P : Program} {w : World} {base : Nat} {sp : Nat → Bool} {held : Bool} {fuel : Nat} {t e : TypeId} {n : Nat} {cs : List Value} {zs : List (List UInt8)} {p : List MemPlace}
    (ht : P.underlying t = some (.array n e)) (he : P.underlying e = some .string) (hce : P.cellsOf e = 1) (hct : P.cellsOf t = n)
    (h : DataW.trod enc P w base sp held fuel t cs = some (.agg (zs.map fun z => .lit (.string z)), p)) : cs = zs.map fun z => Value.string (bs z) := by
  cases fuel with
  | zero => simp [DataW.trod] at h
  | succ fuel =>
    simp only [DataW.trod, ht, hce, hct, Nat.mul_one] at h
    split at h
    · rename_i hl
      obtain ⟨xs, hm, hx⟩ := Option.map_eq_some_iff.1 h
      have hxs : xs.map (·.1) = zs.map fun z => (DataW.lit (.string z) : DataW H) := by
        have := congrArg Prod.fst hx
        simpa using this
      have hxl : xs.length = n := by simpa using Lib.mapM_length hm
      have hzl : zs.length = n := by
        have := congrArg List.length hxs
        simp at this
        omega
      apply List.ext_getElem?
      intro i
      by_cases hi : i < n
      · obtain ⟨b, hb, hf⟩ := Lib.mapM_at hm i i (by simp [hi])
        obtain ⟨s, hc, rfl, _⟩ := DataW.trod_string he hf
        have h1 : cs[i]? = some (.string s) := by
          have := congrArg (·[0]?) hc
          simpa [List.getElem?_take, List.getElem?_drop] using this
        have h2 : (xs.map (·.1))[i]? = some (DataW.lit (.string s.data.toList) : DataW H) := by simp [hb]
        rw [hxs] at h2
        simp only [List.getElem?_map, Option.map_eq_some_iff, DataW.lit.injEq, Lit.string.injEq] at h2
        obtain ⟨z', hz', hzz⟩ := h2
        have : bs z' = s := by
          rw [hzz]
          rfl
        simp [h1, hz', this]
      · rw [List.getElem?_eq_none (by omega), List.getElem?_eq_none (by simp; omega)]
    · cases h
theorem glob_words : Tryd.prog.globalNamed "hustings/conf.words" = some 0 := by kernel_rfl
theorem type_words : (Tryd.prog.globals[0]?).map (·.type) = some 57 := by kernel_rfl
theorem type_pow : (Tryd.prog.globals[2]?).map (·.type) = some 122 := by kernel_rfl
theorem var_block {P : Program} {w : World} {n : String} {g : Nat} {cs : Array Value} (hg : P.globalNamed n = some g) (h : w.var? P n = some cs) : ∃ t fr, w.heap[g]? = some (.cells cs t fr) := by
  unfold World.var? at h
  rw [hg, Option.bind_some] at h
  split at h
  · rename_i cs' t fr hh
    cases h
    exact ⟨t, fr, hh⟩
  · cases h
theorem glob_of {W : World} (h : laidMetH Tryd.prog laidL W) (hs : W.ShapedOpen Tryd.prog) : Glob (allBlocks W) := by
  rw [Go.MakeChecks.laidMetH_plain _ _ _ (by kernel_rfl)] at h
  have h3 := h.tail.tail
  have hpow : Lib.TabIs Tryd.prog W "internal/strconv.uint64pow10" .u64 Lib.pow10Tab := Lib.tabIs_of_head (rest := _) glob_pow type_pow Tryd.underlying122 Tryd.underlying111 (by kernel_rfl) (by kernel_rfl) h3
  obtain ⟨t2, fr2, hp⟩ := var_block glob_pow hpow
  have h5 := h3.tail.tail
  obtain ⟨ps, ⟨g', t', cs, fuel, p, q, hg', ht', hvar, hd, _, _⟩, _⟩ := h5
  obtain rfl := Option.some.inj (glob_words.symm.trans hg')
  obtain rfl := Option.some.inj (type_words.symm.trans ht')
  have hcs := words_cells (zs := Cn.words12) Tryd.underlying57 Tryd.underlying9 (by kernel_rfl) (by kernel_rfl) hd
  obtain ⟨t3, fr3, hw⟩ := var_block glob_words hvar
  obtain ⟨cs1, hh, hs1, _⟩ := hs.1 1 #[.int .i64 0] 3 (of_decide_eq_true (by kernel_rfl)) (by kernel_rfl)
  obtain ⟨m, hm⟩ := cell_of_shapedOpen_int (k := .i64) (zero := #[.int .i64 0]) (t := 3) hs (g := 1) (of_decide_eq_true (by kernel_rfl)) (by kernel_rfl) rfl (by kernel_rfl) (by kernel_rfl) Tryd.underlying3
  have hc1 : cs1 = #[.int .i64 m] := by
    have h1 : cs1.size = 1 := hs1
    have h2 : cs1[0]? = some (.int .i64 m) := by simpa [World.cell?, hh] using hm
    apply Array.ext (by simpa using h1)
    intro i h3 h4
    have : i = 0 := by omega
    subst this
    have := (Array.getElem?_eq_some_iff.1 h2).2
    simpa using this
  subst hc1
  refine ⟨⟨m, _, _, mem_all hh⟩, ⟨t2, fr2, mem_all hp⟩, ⟨t3, fr3, ?_⟩⟩
  have e : cs = (Cn.words12.map txtV).toArray := by
    apply Array.toList_inj.1
    rw [hcs]
    rfl
  rw [e] at hw
  exact mem_all hw
/-- The cells of a datum. -/
def leafV : Nat → DataW Unit → List Value
  | 0, _ => []
  | n + 1, .lit (.int k z) => [.int k z]
  | n + 1, .lit (.string s) => [.string ⟨s.toArray⟩]
  | n + 1, .agg l => l.flatMap (leafV n)
  | _ + 1, _ => []
def putCells (d : DataW Unit) : Obj → Obj
  | .cells _ t fr => .cells (leafV 5 d).toArray t fr
  | o => o
/-- A world for the witness: the settled one, the listed variables holding what their text lays. -/
noncomputable def laidWorld (os : Os) : World :=
  { World.holding Tryd.prog os ⟨#[], #[], []⟩ with heap := (((((World.holding Tryd.prog os ⟨#[], #[], []⟩).heap.modify 0 (putCells Rows.laid_hustings_conf_words)).modify 2 (putCells Rows.laid_internal_strconv_uint64pow10)).modify 3 (putCells Rows.laid_math_bits_deBruijn32tab)).modify 4 (putCells Rows.laid_math_bits_deBruijn64tab) |>.modify 5 (putCells Rows.laid_unicode_utf8_first)).modify 6 (putCells Rows.laid_unicode_utf8_acceptRanges) }
end Go.Proofs.YtnhlpifbadncmaaDoor
namespace Go.Proofs.YtnhlpifbadncmaaDoor
open Go.ChangeShapes Go.WideShapes Go.ChangeAt Go.RowKit
open Go.ChangeMaps (open_string shut_string)
open Cn (Zo Cf)
set_option linter.unusedVariables false
set_option linter.unusedSimpArgs false
theorem own : ownKnob Tryd.prog.godebug = none := by kernel_rfl
theorem laidOut : laidOutB Tryd.prog = true := by kernel_rfl
section
variable {H : Type} {enc : TypeId × Value → H} {W : World} {v : Value} {d : DataW H} {p : List MemPlace} {base : Nat}
theorem bd16 {n : Int} (h : InLit .u16 n) : 0 ≤ n ∧ n ≤ 65535 := by unfold InLit Lit.wf at h; simp [IntKind.min, IntKind.max, IntKind.bits, IntKind.signed] at h; omega
theorem bd8 {n : Int} (h : InLit .u8 n) : 0 ≤ n ∧ n ≤ 255 := by unfold InLit Lit.wf at h; simp [IntKind.min, IntKind.max, IntKind.bits, IntKind.signed] at h; omega
theorem bd64 {n : Int} (h : InLit .i64 n) : -9223372036854775808 ≤ n ∧ n ≤ 9223372036854775807 := by unfold InLit Lit.wf at h; simp [IntKind.min, IntKind.max, IntKind.bits, IntKind.signed] at h; omega

set_option maxRecDepth 100000 in
theorem opens_zo : Opens enc Tryd.prog W 38 3 zoR := fun fuel cs x hf => by
  obtain ⟨hlen, hfs⟩ := opens_fields Tryd.underlying38 hf
  have hc : Tryd.prog.cellsOf 38 = 3 := by kernel_rfl
  rw [hc] at hlen
  have c0 : Tryd.prog.cellsOf 9 = 1 := by kernel_rfl
  have c1 : Tryd.prog.cellsOf 5 = 1 := by kernel_rfl
  have c2 : Tryd.prog.cellsOf 36 = 1 := by kernel_rfl
  obtain ⟨n0, y0, g0⟩ := hfs 0 _ rfl
  have g0 : DataW.trod enc Tryd.prog W 0 (fun _ => true) true n0 9 ((cs.drop 0).take (Tryd.prog.cellsOf 9)) = some y0 := g0
  rw [c0] at g0
  obtain ⟨a0, k0, w0⟩ := (opens_string Tryd.underlying9).at g0
  obtain ⟨n1, y1, g1⟩ := hfs 1 _ rfl
  have g1 : DataW.trod enc Tryd.prog W 0 (fun _ => true) true n1 5 ((cs.drop 1).take (Tryd.prog.cellsOf 5)) = some y1 := g1
  rw [c1] at g1
  obtain ⟨a1, k1, w1⟩ := (opens_int Tryd.underlying5).at g1
  obtain ⟨n2, y2, g2⟩ := hfs 2 _ rfl
  have g2 : DataW.trod enc Tryd.prog W 0 (fun _ => true) true n2 36 ((cs.drop 2).take (Tryd.prog.cellsOf 36)) = some y2 := g2
  rw [c2] at g2
  obtain ⟨a2, k2, w2⟩ := (opens_int Tryd.underlying36).at g2
  refine ⟨hlen, ⟨a0, a1.toNat, a2.toNat⟩, ?_⟩
  match cs, hlen with
  | [x0, x1, x2], _ =>
    obtain rfl : x0 = _ := by simpa using k0
    obtain rfl : x1 = _ := by simpa using k1
    obtain rfl : x2 = _ := by simpa using k2
    have q1 := bd8 w1
    have q2 := bd16 w2
    refine ⟨?_, w0, by show a1.toNat ≤ 255; omega, by show a2.toNat ≤ 65535; omega⟩
    show _ = [_, Value.int .u8 ((a1.toNat : Nat) : Int), Value.int .u16 ((a2.toNat : Nat) : Int)]
    rw [Int.toNat_of_nonneg q1.1, Int.toNat_of_nonneg q2.1]
set_option maxRecDepth 100000 in
theorem opens_cf : Opens enc Tryd.prog W 25 13 cfR := fun fuel cs x hf => by
  obtain ⟨hlen, hfs⟩ := opens_fields Tryd.underlying25 hf
  have hc : Tryd.prog.cellsOf 25 = 13 := by kernel_rfl
  rw [hc] at hlen
  have c0 : Tryd.prog.cellsOf 3 = 1 := by kernel_rfl
  have c1 : Tryd.prog.cellsOf 23 = 1 := by kernel_rfl
  obtain ⟨n0, y0, g0⟩ := hfs 0 _ rfl
  have g0 : DataW.trod enc Tryd.prog W 0 (fun _ => true) true n0 3 ((cs.drop 0).take (Tryd.prog.cellsOf 3)) = some y0 := g0
  rw [c0] at g0
  obtain ⟨a0, k0, w0⟩ := (opens_int Tryd.underlying3).at g0
  obtain ⟨n1, y1, g1⟩ := hfs 1 _ rfl
  have g1 : DataW.trod enc Tryd.prog W 0 (fun _ => true) true n1 3 ((cs.drop 1).take (Tryd.prog.cellsOf 3)) = some y1 := g1
  rw [c0] at g1
  obtain ⟨a1, k1, w1⟩ := (opens_int Tryd.underlying3).at g1
  obtain ⟨n2, y2, g2⟩ := hfs 2 _ rfl
  have g2 : DataW.trod enc Tryd.prog W 0 (fun _ => true) true n2 3 ((cs.drop 2).take (Tryd.prog.cellsOf 3)) = some y2 := g2
  rw [c0] at g2
  obtain ⟨a2, k2, w2⟩ := (opens_int Tryd.underlying3).at g2
  obtain ⟨n3, y3, g3⟩ := hfs 3 _ rfl
  have g3 : DataW.trod enc Tryd.prog W 0 (fun _ => true) true n3 3 ((cs.drop 3).take (Tryd.prog.cellsOf 3)) = some y3 := g3
  rw [c0] at g3
  obtain ⟨a3, k3, w3⟩ := (opens_int Tryd.underlying3).at g3
  obtain ⟨n4, y4, g4⟩ := hfs 4 _ rfl
  have g4 : DataW.trod enc Tryd.prog W 0 (fun _ => true) true n4 3 ((cs.drop 4).take (Tryd.prog.cellsOf 3)) = some y4 := g4
  rw [c0] at g4
  obtain ⟨a4, k4, w4⟩ := (opens_int Tryd.underlying3).at g4
  obtain ⟨n5, y5, g5⟩ := hfs 5 _ rfl
  have g5 : DataW.trod enc Tryd.prog W 0 (fun _ => true) true n5 3 ((cs.drop 5).take (Tryd.prog.cellsOf 3)) = some y5 := g5
  rw [c0] at g5
  obtain ⟨a5, k5, w5⟩ := (opens_int Tryd.underlying3).at g5
  obtain ⟨n6, y6, g6⟩ := hfs 6 _ rfl
  have g6 : DataW.trod enc Tryd.prog W 0 (fun _ => true) true n6 3 ((cs.drop 6).take (Tryd.prog.cellsOf 3)) = some y6 := g6
  rw [c0] at g6
  obtain ⟨a6, k6, w6⟩ := (opens_int Tryd.underlying3).at g6
  obtain ⟨n7, y7, g7⟩ := hfs 7 _ rfl
  have g7 : DataW.trod enc Tryd.prog W 0 (fun _ => true) true n7 3 ((cs.drop 7).take (Tryd.prog.cellsOf 3)) = some y7 := g7
  rw [c0] at g7
  obtain ⟨a7, k7, w7⟩ := (opens_int Tryd.underlying3).at g7
  obtain ⟨n8, y8, g8⟩ := hfs 8 _ rfl
  have g8 : DataW.trod enc Tryd.prog W 0 (fun _ => true) true n8 3 ((cs.drop 8).take (Tryd.prog.cellsOf 3)) = some y8 := g8
  rw [c0] at g8
  obtain ⟨a8, k8, w8⟩ := (opens_int Tryd.underlying3).at g8
  obtain ⟨n9, y9, g9⟩ := hfs 9 _ rfl
  have g9 : DataW.trod enc Tryd.prog W 0 (fun _ => true) true n9 3 ((cs.drop 9).take (Tryd.prog.cellsOf 3)) = some y9 := g9
  rw [c0] at g9
  obtain ⟨a9, k9, w9⟩ := (opens_int Tryd.underlying3).at g9
  obtain ⟨n10, y10, g10⟩ := hfs 10 _ rfl
  have g10 : DataW.trod enc Tryd.prog W 0 (fun _ => true) true n10 3 ((cs.drop 10).take (Tryd.prog.cellsOf 3)) = some y10 := g10
  rw [c0] at g10
  obtain ⟨a10, k10, w10⟩ := (opens_int Tryd.underlying3).at g10
  obtain ⟨n11, y11, g11⟩ := hfs 11 _ rfl
  have g11 : DataW.trod enc Tryd.prog W 0 (fun _ => true) true n11 3 ((cs.drop 11).take (Tryd.prog.cellsOf 3)) = some y11 := g11
  rw [c0] at g11
  obtain ⟨a11, k11, w11⟩ := (opens_int Tryd.underlying3).at g11
  obtain ⟨n12, y12, g12⟩ := hfs 12 _ rfl
  have g12 : DataW.trod enc Tryd.prog W 0 (fun _ => true) true n12 23 ((cs.drop 12).take (Tryd.prog.cellsOf 23)) = some y12 := g12
  rw [c1] at g12
  obtain ⟨a12, k12⟩ := (opens_slice Tryd.underlying23 (by kernel_rfl) (by decide) (opens_zo (enc := enc))).at g12
  refine ⟨hlen, ⟨a0, a1, a2, a3, a4, a5, a6, a7, a8, a9, a10, a11, a12⟩, ?_⟩
  match cs, hlen with
  | [x0, x1, x2, x3, x4, x5, x6, x7, x8, x9, x10, x11, x12], _ =>
    obtain rfl : x0 = _ := by simpa using k0
    obtain rfl : x1 = _ := by simpa using k1
    obtain rfl : x2 = _ := by simpa using k2
    obtain rfl : x3 = _ := by simpa using k3
    obtain rfl : x4 = _ := by simpa using k4
    obtain rfl : x5 = _ := by simpa using k5
    obtain rfl : x6 = _ := by simpa using k6
    obtain rfl : x7 = _ := by simpa using k7
    obtain rfl : x8 = _ := by simpa using k8
    obtain rfl : x9 = _ := by simpa using k9
    obtain rfl : x10 = _ := by simpa using k10
    obtain rfl : x11 = _ := by simpa using k11
    exact ⟨x12, rfl, by simpa using k12, ⟨bd64 w0, bd64 w1, bd64 w2, bd64 w3, bd64 w4, bd64 w5, bd64 w6, bd64 w7, bd64 w8, bd64 w9, bd64 w10, bd64 w11⟩⟩
set_option maxRecDepth 100000 in
theorem opened_cf (hv : Value.okWide Tryd.prog W .any base 25 v) (h : DataW.Trod enc Tryd.prog W 0 (fun _ => true) true 25 v d p) : ∃ c sv, v = .agg (cfCells c sv).toArray ∧ sliceR 3 zoR (allBlocks W) [sv] c.zs ∧ CfIn c := by
  obtain ⟨cs, rfl, hsz⟩ := okWide_struct Tryd.underlying25 hv
  obtain ⟨fuel, hf⟩ := h
  obtain ⟨c, sv, hq, h1, h2⟩ := opens_cf.at hf
  refine ⟨c, sv, ?_, h1, h2⟩
  have e : cs.toList = cfCells c sv := by simpa [Value.cells] using hq
  rw [← e]
set_option maxRecDepth 100000 in
theorem opened_strC (hv : Value.okWide Tryd.prog W .any base 9 v) (h : DataW.Trod enc Tryd.prog W 0 (fun _ => true) true 9 v d p) : ∃ s : Nm.Bytes, v = .string (bs s) ∧ s.length ≤ maxLen := by
  obtain ⟨s, rfl, _, _, hw⟩ := open_string Tryd.underlying9 hv h
  exact ⟨s.data.toList, rfl, by simpa using hw⟩
end
end Go.Proofs.YtnhlpifbadncmaaDoor
namespace Go.Proofs.YtnhlpifbadncmaaDoor
open Go.RowKit
open Cn (Zo Cf)
set_option linter.unusedVariables false
set_option linter.unusedSimpArgs false
--auto
variable {G : World} {L : Blocks}
theorem putAt_size {C : Array Value} {off : Nat} {cs : List Value} (h : off + cs.length ≤ C.size) : (putAt C off cs).size = C.size := by
  unfold putAt
  simp
  omega
set_option maxRecDepth 100000 in
set_option maxHeartbeats 16000000 in
theorem reads_S (s : Nm.Bytes) (hsm : s.length ≤ maxLen) (hg : Glob L) : Spec Tryd.prog G 5 #[.string (bs s)] L fun u M => u = .bool true ∧ M = L := by
  unfold maxLen at hsm
  refine Spec_of (n := 58) Tryd.func5 rfl rfl rfl ?_
  by_cases hs : 5000 < s.length
  · repeat ((first | with_reducible refine T_seq ?_ | with_reducible refine T_region ?_ | with_reducible refine TL_nil ?_ | with_reducible refine TQ_then ?_ | refine TL_q (op_move rfl) rfl ?_ | refine TL_q (op_assign rfl) rfl ?_ | (refine' TL_q (op_bin rfl rfl ?_) rfl ?_; rotate_left 1; (· (exact bin_gtr))) | refine TL_q (op_len_str rfl Tryd.underlying9) rfl ?_ | (refine T_yes rfl ?_ ?_; (· (exact dT (by (omega)))))))
    refine TL_op (op_call hb_10 rfl (awake_S (hg.mono (mem_of_cnt (by intro p; (try simp only [cnt_append, cnt_cons, cnt_nil]) <;> omega))))) rfl ?_
    repeat ((first | with_reducible refine TL_nil ?_ | with_reducible refine TQ_then ?_ | with_reducible refine T_ret ?_ | with_reducible refine TQ_then_ret ?_ | refine TL_q (op_assign rfl) rfl ?_))
    refine TQ_ret1 2 _ rfl rfl ?_
    exact ⟨rfl, rfl⟩
  repeat ((first | with_reducible refine T_seq ?_ | with_reducible refine T_region ?_ | with_reducible refine TL_nil ?_ | with_reducible refine TQ_then ?_ | with_reducible refine T_skip ?_ | refine TL_q (op_move rfl) rfl ?_ | refine TL_q (op_assign rfl) rfl ?_ | (refine' TL_q (op_bin rfl rfl ?_) rfl ?_; rotate_left 1; (· (exact bin_gtr))) | refine TL_q (op_len_str rfl Tryd.underlying9) rfl ?_ | (refine T_no rfl ?_ ?_; (· (exact dF (by (omega)))))))
  refine TL_opT (op_call hb_22 rfl (rParse_S s (by omega))) rfl ?_
  rintro _ _ ⟨a, cap, B, rfl, hB, rfl⟩
  obtain ⟨⟨d, line, e⟩, hr⟩ : ∃ r, Cn.parseP theT s = r := ⟨_, rfl⟩
  rw [hr] at hB
  simp only [hr]
  dsimp only at hB ⊢
  unfold parseOutV
  repeat ((first | with_reducible refine T_seq ?_ | with_reducible refine T_block ?_ | with_reducible refine T_region ?_ | with_reducible refine TL_nil ?_ | with_reducible refine TQ_then ?_ | refine TL_q (op_move rfl) rfl ?_ | refine TL_q (op_assign rfl) rfl ?_ | refine TL_q (op_extract rfl rfl) rfl ?_ | (refine TL_stAll rfl rfl st_25 rfl rfl rfl ?_) | (refine TL_new (op_alloc (C := #[(.int .i64 0), (.int .i64 0), (.int .i64 0), (.int .i64 0), (.int .i64 0), (.int .i64 0), (.int .i64 0), (.int .i64 0), (.int .i64 0), (.int .i64 0), (.int .i64 0), (.int .i64 0), (.slice none 0 0)]) zero_25 rfl) rfl ?_; intro bNew)))
  obtain ⟨b3, hb3⟩ : ∃ b, bNew = b := ⟨_, rfl⟩
  rw [hb3]
  clear hb3 bNew
  have hsame : sameC d d = true := by rw [sameC_eq]; exact decide_eq_true rfl
  refine T_loopS (σ := Nat) (fun k => k ≤ 2) (fun k => [(0, .string (bs s)), (3, .pointer (some ⟨b3, 0, none⟩)), (4, .int .i64 line), (5, .int .i64 e), (6, .int .i64 (k : Nat))]) (fun _ => (b3, Obj.cells (cfCells d (.slice a d.zs.length cap)).toArray 25 (0, 0)) :: (B ++ L)) (fun k => 2 - k) 0 (by omega) ?_ (fun _ h => h) ?_
  (repeat ((first | exact trivial | refine ⟨rfl, ?_⟩)))
  rintro k hk
  by_cases hlt : k < 2
  · repeat ((first | with_reducible refine T_seq ?_ | with_reducible refine T_block ?_ | with_reducible refine T_region ?_ | with_reducible refine TL_nil ?_ | with_reducible refine TQ_then ?_ | with_reducible refine T_skip ?_ | refine TL_q (op_move rfl) rfl ?_ | (refine' TL_q (op_bin rfl rfl ?_) rfl ?_; rotate_left 1; (· (exact bin_lss))) | (refine T_yes rfl ?_ ?_; (· (exact dT (by (omega)))))))
    refine TL_opT (op_call hb_23 rfl (pParse_S s (by omega) (Or.inr (by omega)) (hg.mono (mem_of_cnt (by intro p; (try simp only [cnt_append, cnt_cons, cnt_nil]) <;> omega))))) rfl ?_
    rintro _ _ ⟨a2, cap2, B2, rfl, hB2, rfl⟩
    rw [hr] at hB2
    simp only [hr]
    dsimp only at hB2 ⊢
    unfold parseOutV
    repeat ((first | with_reducible refine T_seq ?_ | with_reducible refine T_region ?_ | with_reducible refine TL_nil ?_ | with_reducible refine TQ_then ?_ | refine TL_q (op_move rfl) rfl ?_ | refine TL_q (op_assign rfl) rfl ?_ | (refine' TL_q (op_bin rfl rfl ?_) rfl ?_; rotate_left 1; (· (exact bin_neq))) | refine TL_q (op_extract rfl rfl) rfl ?_ | (refine' TL_q (op_pickF rfl ?_ rfl) rfl ?_; (· (exact nF (by (with_reducible rfl))))) | (refine TL_gpre rfl rfl ?_ ?_; (· (exact nF (by (with_reducible rfl))))) | refine TL_gq2 (op_move rfl) rfl ?_ | (refine' TL_gq2 (op_bin rfl rfl ?_) rfl ?_; rotate_left 1; (· (exact bin_neq))) | (refine' TL_gq2 (op_ldAll rfl st_25 ?_ ?_) rfl ?_; rotate_left 3; (· repeat ((first | exact List.mem_cons_self | apply List.mem_cons_of_mem | apply List.mem_append_right))); (· (rfl))) | (refine TL_stAll rfl rfl st_25 rfl rfl rfl ?_) | (refine TL_new (op_alloc (C := #[(.int .i64 0), (.int .i64 0), (.int .i64 0), (.int .i64 0), (.int .i64 0), (.int .i64 0), (.int .i64 0), (.int .i64 0), (.int .i64 0), (.int .i64 0), (.int .i64 0), (.int .i64 0), (.slice none 0 0)]) zero_25 rfl) rfl ?_; intro bNew)))
    obtain ⟨b7, hb7⟩ : ∃ b, bNew = b := ⟨_, rfl⟩
    rw [hb7]
    clear hb7 bNew
    refine TG_op (op_call hb_21 rfl (rSame_S d d _ _ (ORow.sliceR mono_zo hB2 (by simp) (mem_of_cnt (by intro p; (try simp only [cnt_append, cnt_cons, cnt_nil]) <;> omega))) (ORow.sliceR mono_zo hB (by simp) (mem_of_cnt (by intro p; (try simp only [cnt_append, cnt_cons, cnt_nil]) <;> omega))))) rfl ?_
    rw [hsame]
    by_cases hz : d.zs = []
    · have hz0 : d.zs.length = 0 := by rw [hz]; rfl
      have g0 : (cfCells (d) (.slice a2 d.zs.length cap2)).toArray[0 + 0]? = some (.int .i64 (d).ups) := rfl
      have g1 : (cfCells (d) (.slice a2 d.zs.length cap2)).toArray[0 + 1]? = some (.int .i64 (d).ded) := rfl
      have g2 : (cfCells (d) (.slice a2 d.zs.length cap2)).toArray[0 + 2]? = some (.int .i64 (d).hdg) := rfl
      have g3 : (cfCells (d) (.slice a2 d.zs.length cap2)).toArray[0 + 3]? = some (.int .i64 (d).wai) := rfl
      have g4 : (cfCells (d) (.slice a2 d.zs.length cap2)).toArray[0 + 4]? = some (.int .i64 (d).tri) := rfl
      have g5 : (cfCells (d) (.slice a2 d.zs.length cap2)).toArray[0 + 5]? = some (.int .i64 (d).res) := rfl
      have g6 : (cfCells (d) (.slice a2 d.zs.length cap2)).toArray[0 + 6]? = some (.int .i64 (d).lim) := rfl
      have g7 : (cfCells (d) (.slice a2 d.zs.length cap2)).toArray[0 + 7]? = some (.int .i64 (d).cac) := rfl
      have g8 : (cfCells (d) (.slice a2 d.zs.length cap2)).toArray[0 + 8]? = some (.int .i64 (d).fli) := rfl
      have g9 : (cfCells (d) (.slice a2 d.zs.length cap2)).toArray[0 + 9]? = some (.int .i64 (d).wtr) := rfl
      have g10 : (cfCells (d) (.slice a2 d.zs.length cap2)).toArray[0 + 10]? = some (.int .i64 (d).ttl) := rfl
      have g11 : (cfCells (d) (.slice a2 d.zs.length cap2)).toArray[0 + 11]? = some (.int .i64 (d).siz) := rfl
      have g12 : (cfCells (d) (.slice a2 d.zs.length cap2)).toArray[0 + 12]? = some (.slice a2 d.zs.length cap2) := rfl
      repeat ((first | with_reducible refine T_seq ?_ | with_reducible refine T_block ?_ | with_reducible refine T_region ?_ | with_reducible refine TL_nil ?_ | with_reducible refine TQ_then ?_ | with_reducible refine T_skip ?_ | refine TL_q (op_assign rfl) rfl ?_ | (refine' TL_q (op_pickF rfl ?_ rfl) rfl ?_; (· (exact nF (by (with_reducible rfl))))) | (refine TL_gpre rfl rfl ?_ ?_; (· (exact nF (by (with_reducible rfl))))) | refine TL_gq2 (op_not rfl) rfl ?_ | (refine T_no rfl ?_ ?_; (· (exact Bool.not_true)))))
      refine T_loopS (σ := Unit) (fun _ => True) (fun _ => [(0, .string (bs s)), (3, .pointer (some ⟨b3, 0, none⟩)), (4, .int .i64 line), (5, .int .i64 e), (6, .int .i64 (k : Nat)), (7, .pointer (some ⟨b7, 0, none⟩)), (10, .int .i64 0)]) (fun _ => (b7, Obj.cells (cfCells d (.slice a2 d.zs.length cap2)).toArray 25 (0, 0)) :: (b3, Obj.cells (cfCells d (.slice a d.zs.length cap)).toArray 25 (0, 0)) :: (B ++ L)) (fun _ => 0) () trivial ?_ (fun w h => Heap.cnt h (by intro p; (try simp only [cnt_append, cnt_cons, cnt_nil]) <;> omega)) ?_
      (repeat ((first | exact trivial | refine ⟨rfl, ?_⟩)))
      rintro _ _
      repeat ((first | with_reducible refine T_seq ?_ | with_reducible refine T_region ?_ | with_reducible refine TL_nil ?_ | with_reducible refine TQ_then ?_ | with_reducible refine TQ_block ?_ | with_reducible refine T_exit ?_ | with_reducible refine TQ_then_exit ?_ | with_reducible refine TQ_block_exit ?_ | refine TL_q (op_move rfl) rfl ?_ | refine TL_q (op_assign rfl) rfl ?_ | (refine' TL_q (op_bin rfl rfl ?_) rfl ?_; rotate_left 1; (· (first | exact bin_add ⟨by omega, by omega⟩ | exact bin_lss))) | refine TL_q (op_len_slice rfl Tryd.underlying23) rfl ?_ | refine TL_q (op_fld rfl fld_25_12) rfl ?_ | (refine' TL_q (op_ld rfl pl_23 ?_ ?_) rfl ?_; rotate_left 4; (· repeat ((exact List.mem_cons_self))); (· (assumption))) | (refine T_no rfl ?_ ?_; (· (exact dF (by (omega)))))))
      refine TQ_roundS (k + 1) (by omega) ?_ (fun w h => Heap.cnt h (by intro p; (try simp only [cnt_append, cnt_cons, cnt_nil]) <;> omega)) (by omega)
      (repeat ((first | exact trivial | refine ⟨rfl, ?_⟩)))
    · obtain ⟨bz, cur, rfl, rfl, hcap, hmax, hsz, hat⟩ := hB2.block hz
      clear hat
      unfold maxLen at hmax
      have g0 : (cfCells (d) (.slice (some ⟨bz, 0, none⟩) d.zs.length cap2)).toArray[0 + 0]? = some (.int .i64 (d).ups) := rfl
      have g1 : (cfCells (d) (.slice (some ⟨bz, 0, none⟩) d.zs.length cap2)).toArray[0 + 1]? = some (.int .i64 (d).ded) := rfl
      have g2 : (cfCells (d) (.slice (some ⟨bz, 0, none⟩) d.zs.length cap2)).toArray[0 + 2]? = some (.int .i64 (d).hdg) := rfl
      have g3 : (cfCells (d) (.slice (some ⟨bz, 0, none⟩) d.zs.length cap2)).toArray[0 + 3]? = some (.int .i64 (d).wai) := rfl
      have g4 : (cfCells (d) (.slice (some ⟨bz, 0, none⟩) d.zs.length cap2)).toArray[0 + 4]? = some (.int .i64 (d).tri) := rfl
      have g5 : (cfCells (d) (.slice (some ⟨bz, 0, none⟩) d.zs.length cap2)).toArray[0 + 5]? = some (.int .i64 (d).res) := rfl
      have g6 : (cfCells (d) (.slice (some ⟨bz, 0, none⟩) d.zs.length cap2)).toArray[0 + 6]? = some (.int .i64 (d).lim) := rfl
      have g7 : (cfCells (d) (.slice (some ⟨bz, 0, none⟩) d.zs.length cap2)).toArray[0 + 7]? = some (.int .i64 (d).cac) := rfl
      have g8 : (cfCells (d) (.slice (some ⟨bz, 0, none⟩) d.zs.length cap2)).toArray[0 + 8]? = some (.int .i64 (d).fli) := rfl
      have g9 : (cfCells (d) (.slice (some ⟨bz, 0, none⟩) d.zs.length cap2)).toArray[0 + 9]? = some (.int .i64 (d).wtr) := rfl
      have g10 : (cfCells (d) (.slice (some ⟨bz, 0, none⟩) d.zs.length cap2)).toArray[0 + 10]? = some (.int .i64 (d).ttl) := rfl
      have g11 : (cfCells (d) (.slice (some ⟨bz, 0, none⟩) d.zs.length cap2)).toArray[0 + 11]? = some (.int .i64 (d).siz) := rfl
      have g12 : (cfCells (d) (.slice (some ⟨bz, 0, none⟩) d.zs.length cap2)).toArray[0 + 12]? = some (.slice (some ⟨bz, 0, none⟩) d.zs.length cap2) := rfl
      repeat ((first | with_reducible refine T_seq ?_ | with_reducible refine T_block ?_ | with_reducible refine T_region ?_ | with_reducible refine TL_nil ?_ | with_reducible refine TQ_then ?_ | with_reducible refine T_skip ?_ | refine TL_q (op_assign rfl) rfl ?_ | (refine' TL_q (op_pickF rfl ?_ rfl) rfl ?_; (· (exact nF (by (with_reducible rfl))))) | (refine TL_gpre rfl rfl ?_ ?_; (· (exact nF (by (with_reducible rfl))))) | refine TL_gq2 (op_not rfl) rfl ?_ | (refine T_no rfl ?_ ?_; (· (exact Bool.not_true)))))
      refine T_loopS (σ := Nat × Array Value) (fun x => x.1 ≤ d.zs.length ∧ x.2.size = cap2 * 3) (fun x => [(0, .string (bs s)), (3, .pointer (some ⟨b3, 0, none⟩)), (4, .int .i64 line), (5, .int .i64 e), (6, .int .i64 (k : Nat)), (7, .pointer (some ⟨b7, 0, none⟩)), (10, .int .i64 (x.1 : Nat))]) (fun x => (b7, Obj.cells (cfCells d (.slice (some ⟨bz, 0, none⟩) d.zs.length cap2)).toArray 25 (0, 0)) :: (bz, Obj.cells x.2 38 (0, 0)) :: (b3, Obj.cells (cfCells d (.slice a d.zs.length cap)).toArray 25 (0, 0)) :: (B ++ L)) (fun x => d.zs.length - x.1) (0, cur) ⟨Nat.zero_le _, hsz⟩ ?_ (fun w h => Heap.cnt h (by intro p; (try simp only [cnt_append, cnt_cons, cnt_nil]) <;> omega)) ?_
      (repeat ((first | exact trivial | refine ⟨rfl, ?_⟩)))
      rintro ⟨j, cur⟩ ⟨hj, hsz⟩
      dsimp only at hj hsz ⊢
      by_cases hjl : j < d.zs.length
      · repeat ((first | with_reducible refine T_seq ?_ | with_reducible refine T_block ?_ | with_reducible refine T_region ?_ | with_reducible refine TL_nil ?_ | with_reducible refine TQ_then ?_ | with_reducible refine T_skip ?_ | refine TL_q (op_move rfl) rfl ?_ | (refine' TL_q (op_bin rfl rfl ?_) rfl ?_; rotate_left 1; (· (exact bin_lss))) | refine TL_q (op_len_slice rfl Tryd.underlying23) rfl ?_ | (refine' TL_q (op_idx ety_23 rfl rfl ?_) rfl ?_; (· omega)) | refine TL_q (op_fld rfl fld_25_12) rfl ?_ | (refine' TL_q (op_ld rfl pl_23 ?_ ?_) rfl ?_; rotate_left 4; (· repeat ((exact List.mem_cons_self))); (· (assumption))) | refine TL_q (op_build rfl (bl_38_1 _)) rfl ?_ | (refine T_yes rfl ?_ ?_; (· (exact dT (by (omega)))))))
        refine TL_cnt (L' := (bz, Obj.cells cur 38 (0, 0)) :: (b7, Obj.cells (cfCells d (.slice (some ⟨bz, 0, none⟩) d.zs.length cap2)).toArray 25 (0, 0)) :: (b3, Obj.cells (cfCells d (.slice a d.zs.length cap)).toArray 25 (0, 0)) :: (B ++ L)) ?_ (by intro p; (try simp only [cnt_append, cnt_cons, cnt_nil]) <;> omega)
        refine TL_opN (op_stA (cs := [.string (bs []), .int .u8 99, .int .u16 0]) rfl rfl st_38 (by intro v hv; simp only [List.mem_cons, List.not_mem_nil, or_false] at hv; rcases hv with rfl | rfl | rfl <;> rfl) (by rw [hsz]; show 0 + j * 3 + 3 ≤ cap2 * 3; omega)) ?_
        repeat ((first | with_reducible refine T_region ?_ | with_reducible refine TL_nil ?_ | with_reducible refine TQ_then ?_ | with_reducible refine TQ_block ?_ | refine TL_q (op_move rfl) rfl ?_ | refine TL_q (op_assign rfl) rfl ?_ | (refine' TL_q (op_bin rfl rfl ?_) rfl ?_; rotate_left 1; (· (exact bin_add ⟨by omega, by omega⟩)))))
        refine TQ_roundS (j + 1, putAt cur (0 + j * 3) [.string (bs []), .int .u8 99, .int .u16 0]) ⟨by dsimp only; omega, (putAt_size (cs := [.string (bs []), .int .u8 99, .int .u16 0]) (by rw [hsz]; show 0 + j * 3 + 3 ≤ cap2 * 3; omega)).trans hsz⟩ ?_ (fun w h => Heap.cnt h (by intro p; (try simp only [cnt_append, cnt_cons, cnt_nil]) <;> omega)) (by dsimp only; omega)
        (repeat ((first | exact trivial | refine ⟨rfl, ?_⟩)))
      · repeat ((first | with_reducible refine T_seq ?_ | with_reducible refine T_region ?_ | with_reducible refine TL_nil ?_ | with_reducible refine TQ_then ?_ | with_reducible refine TQ_block ?_ | with_reducible refine T_exit ?_ | with_reducible refine TQ_then_exit ?_ | with_reducible refine TQ_block_exit ?_ | refine TL_q (op_move rfl) rfl ?_ | refine TL_q (op_assign rfl) rfl ?_ | (refine' TL_q (op_bin rfl rfl ?_) rfl ?_; rotate_left 1; (· (first | exact bin_add ⟨by omega, by omega⟩ | exact bin_lss))) | refine TL_q (op_len_slice rfl Tryd.underlying23) rfl ?_ | refine TL_q (op_fld rfl fld_25_12) rfl ?_ | (refine' TL_q (op_ld rfl pl_23 ?_ ?_) rfl ?_; rotate_left 4; (· repeat ((exact List.mem_cons_self))); (· (assumption))) | (refine T_no rfl ?_ ?_; (· (exact dF (by (omega)))))))
        refine TQ_roundS (k + 1) (by omega) ?_ (fun w h => Heap.cnt h (by intro p; (try simp only [cnt_append, cnt_cons, cnt_nil]) <;> omega)) (by omega)
        (repeat ((first | exact trivial | refine ⟨rfl, ?_⟩)))
  · repeat ((first | with_reducible refine T_seq ?_ | with_reducible refine T_region ?_ | with_reducible refine TL_nil ?_ | with_reducible refine TQ_then ?_ | with_reducible refine T_exit ?_ | with_reducible refine TQ_then_exit ?_ | with_reducible refine TQ_block_exit ?_ | refine TL_q (op_move rfl) rfl ?_ | (refine' TL_q (op_bin rfl rfl ?_) rfl ?_; rotate_left 1; (· (exact bin_lss))) | (refine T_no rfl ?_ ?_; (· (exact dF (by (omega)))))))
    refine TL_op (op_call hb_10 rfl (awake_S (hg.mono (mem_of_cnt (by intro p; (try simp only [cnt_append, cnt_cons, cnt_nil]) <;> omega))))) rfl ?_
    repeat ((first | with_reducible refine TL_nil ?_ | with_reducible refine TQ_then ?_ | with_reducible refine T_ret ?_ | refine TL_q (op_assign rfl) rfl ?_))
    refine TQ_cnt (L' := L) ?_ (by intro p; (try simp only [cnt_append, cnt_cons, cnt_nil]) <;> omega)
    refine TQ_ret1 2 _ rfl rfl ?_
    exact ⟨rfl, rfl⟩
end Go.Proofs.YtnhlpifbadncmaaDoor
