/-
  Pt12: Ug.
-/
import Derived.Test.YtdflhdfapnhjjaaPt11
namespace Go.Proofs.Ytdflhdfapnhjjaa
open Go.RowKit
open Vd (RSet Vdt Vote Rec Quest Piece Ballot Said)
set_option linter.unusedVariables false
set_option linter.unusedSimpArgs false
--auto
variable {G : World} {L : Blocks}
theorem n1s : [saysM [1, 97, 0] 3, saysM [1, 97, 0] 1, saysM [1, 97, 0] 3].all smallB = true := by decide +kernel
theorem n1f : FitsU qA [saysM [1, 97, 0] 3, saysM [1, 97, 0] 1, saysM [1, 97, 0] 3] = true := by decide +kernel
theorem n1 : toldU qA [saysM [1, 97, 0] 3, saysM [1, 97, 0] 1, saysM [1, 97, 0] 3] = (0, [1, 3], 18, true) := by decide +kernel
theorem n2s : [saysM [1, 97, 0] 2, saysM [1, 97, 0] 2].all smallB = true := by decide +kernel
theorem n2f : FitsU qA [saysM [1, 97, 0] 2, saysM [1, 97, 0] 2] = true := by decide +kernel
theorem n2 : toldU qA [saysM [1, 97, 0] 2, saysM [1, 97, 0] 2] = (0, [2], 19, true) := by decide +kernel
theorem n3s : [noM, voidM].all smallB = true := by decide +kernel
theorem n3f : FitsU qA [noM, voidM] = true := by decide +kernel
theorem n3 : toldU qA [noM, voidM] = (3, [110, 111, 110, 101], 19, true) := by decide +kernel
theorem n4s : [voidM, noM, noM].all smallB = true := by decide +kernel
theorem n4f : FitsU qA [voidM, noM, noM] = true := by decide +kernel
theorem n4 : toldU qA [voidM, noM, noM] = (0, [110, 111, 110, 101], 18, true) := by decide +kernel
theorem n5f : FitsU qA [] = true := by decide +kernel
theorem n5 : toldU qA [] = (0, [110, 111, 110, 101], 0, false) := by decide +kernel
theorem msgs3 {K L : Blocks} {c1 c2 c3 : List Value} {m1 m2 m3 : Vd.Msg} {b : Nat} {te : TypeId} {fr : Nat × Nat} (h1 : msgR K c1 m1) (h2 : msgR K c2 m2) (h3 : msgR K c3 m3) (hm : (b, Obj.cells (c1 ++ (c2 ++ c3)).toArray te fr) ∈ L) : sliceR 21 (fun _ => msgR K) L [.slice (some ⟨b, 0, none⟩) 3 3] [m1, m2, m3] :=
  (Laid.append (Laid.one h1.len h1) (Laid.append (Laid.one h2.len h2) (Laid.one h3.len h3))).sliceR (l := [m1, m2, m3]) hm ⟨Nat.le_refl _, by unfold maxLen; simp⟩
theorem lit3 {t e : TypeId} {bytes : Nat} {z : Value} (E : ElemTy Try.prog t e 21 bytes z) {c1 c2 c3 : List Value} (h1 : c1.length = 21) (h2 : c2.length = 21) (h3 : c3.length = 21) : RowLit Try.prog t 3 [(0, .agg c1.toArray), (1, .agg c2.toArray), (2, .agg c3.toArray)] e (c1 ++ (c2 ++ c3)).toArray :=
  rowLitG E [.agg c1.toArray, .agg c2.toArray, .agg c3.toArray] rfl (fun v hv => by
    simp only [List.mem_cons, List.not_mem_nil, or_false] at hv
    rcases hv with rfl | rfl | rfl
    · simpa [Value.cells] using h1
    · simpa [Value.cells] using h2
    · simpa [Value.cells] using h3) (by decide) (by simp [Value.cells])
theorem badU : unionP ⟨[97], 1, 1⟩ [⟨1, Vdt.none, 0⟩] = (Vdt.none, 0, false) := by decide +kernel
theorem votes1 {L : Blocks} {b : Nat} {te : TypeId} {fr : Nat × Nat} (hm : (b, Obj.cells #[.int .i64 1, .int .u8 0, .slice none 0 0, .slice none 0 0, .int .u32 0] te fr) ∈ L) : sliceR 5 (fun _ => voteR []) L [.slice (some ⟨b, 0, none⟩) 1 1] [⟨1, Vdt.none, 0⟩] :=
  (Laid.one (r := voteR) (L := []) (c := [.int .i64 1, .int .u8 0, .slice none 0 0, .slice none 0 0, .int .u32 0]) rfl ⟨_, _, rfl, sliceR.nil, sliceR.nil, by decide, by decide, by decide⟩).sliceR (l := [⟨1, Vdt.none, 0⟩]) hm ⟨Nat.le_refl _, by unfold maxLen; simp⟩
set_option maxRecDepth 100000 in
set_option maxHeartbeats 4000000 in
theorem mergeNames_S : Spec Try.prog G 3 #[] L fun u M => u = .bool true ∧ M = L := by
  have g0 : (#[.string (bs [1, 97, 0]), .int .u16 1, .int .u16 1] : Array Value)[0 + 0]? = some (.string (bs [1, 97, 0])) := rfl
  refine Spec_of (n := 169) Try.func3 rfl rfl rfl ?_
  repeat ((first | with_reducible refine T_seq ?_ | with_reducible refine T_region ?_ | with_reducible refine TL_nil ?_ | with_reducible refine TQ_then ?_ | refine TL_q (op_assign rfl) rfl ?_))
  refine TL_op (op_call hb_14 rfl awake23_S) rfl ?_
  repeat ((first | with_reducible refine T_seq ?_ | with_reducible refine T_region ?_ | with_reducible refine TL_nil ?_ | with_reducible refine TQ_then ?_ | with_reducible refine T_skip ?_ | refine TL_q (op_move rfl) rfl ?_ | refine TL_q (op_not rfl) rfl ?_ | (refine' TL_q (op_pickF rfl ?_ rfl) rfl ?_; (· (exact Bool.not_true))) | (refine TL_stAll rfl rfl st_32 rfl rfl rfl ?_) | (refine TL_new (op_alloc (C := #[(.int .u16 0), (.bool false), (.int .u8 0), (.bool false), (.bool false), (.bool false), (.bool false), (.bool false), (.bool false), (.bool false), (.int .u8 0), (.slice none 0 0), (.slice none 0 0), (.slice none 0 0), (.slice none 0 0), (.bool false), (.int .u16 0), (.int .u8 0), (.int .u8 0), (.int .u16 0), (.slice none 0 0)]) zero_32 rfl) rfl ?_; intro bNew) | refine TL_q (op_build rfl (bl_25_10 _)) rfl ?_ | refine TL_q (op_build rfl (bl_32_0 _ _ _ _ _ _ _ _ _ _ _)) rfl ?_ | (refine T_no rfl ?_ ?_; (· (with_reducible rfl)))))
  obtain ⟨b1, hb1⟩ : ∃ b, bNew = b := ⟨_, rfl⟩
  rw [hb1]
  clear hb1 bNew
  refine TL_op (op_call hb_15 rfl a_S) rfl ?_
  repeat ((first | with_reducible refine T_seq ?_ | with_reducible refine TL_nil ?_ | with_reducible refine TQ_then ?_ | (refine TL_stAll rfl rfl st_34 rfl rfl rfl ?_) | (refine TL_new (op_alloc (C := #[(.string (bs [])), (.int .u16 0), (.int .u16 0)]) zero_34 rfl) rfl ?_; intro bNew)))
  obtain ⟨b2, hb2⟩ : ∃ b, bNew = b := ⟨_, rfl⟩
  rw [hb2]
  clear hb2 bNew
  refine T_heap (L' := (b2, Obj.cells #[.string (bs [1, 97, 0]), .int .u16 1, .int .u16 1] 34 (0, 0)) :: ((b1, Obj.cells (msgC 3 none 0 0).toArray 32 (0, 0)) :: L)) (fun w h => h) ?_
  have hKm : ∀ z ∈ [(b2, Obj.cells #[.string (bs [1, 97, 0]), .int .u16 1, .int .u16 1] 34 (0, 0))], z ∈ (b2, Obj.cells #[.string (bs [1, 97, 0]), .int .u16 1, .int .u16 1] 34 (0, 0)) :: ((b1, Obj.cells (msgC 3 none 0 0).toArray 32 (0, 0)) :: L) := by
    intro z hz
    rw [List.mem_singleton.1 hz]
    exact List.mem_cons_self ..
  have hsays : ∀ {D : Blocks} {c : UInt8} {a : Option Addr} {B : Blocks}, ORow recR 112 5 [] a 1 (saysM [1, 97, 0] c).answers B → (∀ p ∈ B, p ∈ D) → msgR D (msgC 0 a 1 1) (saysM [1, 97, 0] c) := fun {D c a B} hB hD => msgC.is (l := (saysM [1, 97, 0] c).answers) (hB.sliceR mono_rec (by simp) hD) (by decide)
  refine T_draw follows_mixed ([(b2, Obj.cells #[.string (bs [1, 97, 0]), .int .u16 1, .int .u16 1] 34 (0, 0))]) [] ?_
  (refine' TA_take 0 rfl rfl (by kernel_rfl) (quiet_q (op_ldAll rfl st_34 ?_ ?_)) ?_ ?_; rotate_left 3; (· repeat ((exact List.mem_cons_self))); (· (rfl)); (· (assumption)))
  (refine' TA_take 1 rfl rfl (by kernel_rfl) (quiet_q (op_fld rfl fld_34_0)) ?_ ?_; (· (assumption)))
  (refine' TA_take 2 rfl rfl (by kernel_rfl) (quiet_q (op_ld rfl pl_9 ?_ ?_)) ?_ ?_; rotate_left 4; (· repeat ((exact List.mem_cons_self))); (· (assumption)); (· (assumption)))
  (refine' TA_take 4 rfl rfl (by kernel_rfl) (quiet_q (op_fld rfl fld_34_0)) ?_ ?_; (· (assumption)))
  (refine' TA_take 5 rfl rfl (by kernel_rfl) (quiet_q (op_ld rfl pl_9 ?_ ?_)) ?_ ?_; rotate_left 4; (· repeat ((exact List.mem_cons_self))); (· (assumption)); (· (assumption)))
  (refine' TA_take 7 rfl rfl (by kernel_rfl) (quiet_q (op_fld rfl fld_34_0)) ?_ ?_; (· (assumption)))
  (refine' TA_take 8 rfl rfl (by kernel_rfl) (quiet_q (op_ld rfl pl_9 ?_ ?_)) ?_ ?_; rotate_left 4; (· repeat ((exact List.mem_cons_self))); (· (assumption)); (· (assumption)))
  refine TA_oneD 3 (by kernel_rfl) rfl rfl rfl rfl (op_call hb_17 rfl (says_S [1, 97, 0] 3 3 rfl (by decide))) ?_
  rintro _ _ ⟨a3, B3, X3, rfl, hB3, rfl⟩
  refine ⟨Or.inr (by (exact (fun z hz => mem_of_cnt (by intro p; (try simp only [cnt_append, cnt_cons, cnt_nil]) <;> omega) z (hKm z hz)))), ?_⟩
  refine TA_oneD 6 (by kernel_rfl) rfl rfl rfl rfl (op_call hb_17 rfl (says_S [1, 97, 0] 1 1 rfl (by decide))) ?_
  rintro _ _ ⟨a4, B4, X4, rfl, hB4, rfl⟩
  refine ⟨Or.inr (by (exact (fun z hz => mem_of_cnt (by intro p; (try simp only [cnt_append, cnt_cons, cnt_nil]) <;> omega) z (hKm z hz)))), ?_⟩
  refine TA_oneD 9 (by kernel_rfl) rfl rfl rfl rfl (op_call hb_17 rfl (says_S [1, 97, 0] 3 3 rfl (by decide))) ?_
  rintro _ _ ⟨a5, B5, X5, rfl, hB5, rfl⟩
  refine ⟨Or.inr (by (exact (fun z hz => mem_of_cnt (by intro p; (try simp only [cnt_append, cnt_cons, cnt_nil]) <;> omega) z (hKm z hz)))), ?_⟩
  refine TA_oneD 10 (by kernel_rfl) rfl rfl rfl rfl (op_buildSlice (C := (msgC 0 a3 1 1 ++ (msgC 0 a4 1 1 ++ msgC 0 a5 1 1)).toArray) (vs := [(0, .agg (msgC 0 a3 1 1).toArray), (1, .agg (msgC 0 a4 1 1).toArray), (2, .agg (msgC 0 a5 1 1).toArray)]) rfl (lit3 ety_113 msgC_len msgC_len msgC_len)) ?_
  rintro _ _ ⟨bM, rfl, rfl⟩
  refine ⟨Or.inr (by (exact (fun z hz => mem_of_cnt (by intro p; (try simp only [cnt_append, cnt_cons, cnt_nil]) <;> omega) z (hKm z hz)))), ?_⟩
  refine TA_oneD 11 (by kernel_rfl) rfl rfl rfl rfl (op_call hb_16 rfl (told_E (K := B5 ++ (B4 ++ B3)) _ [saysM [1, 97, 0] 3, saysM [1, 97, 0] 1, saysM [1, 97, 0] 3] (mem_of_cnt (by intro p; (try simp only [cnt_append, cnt_cons, cnt_nil]) <;> omega)) (msgs3 (hsays hB3 (mem_of_cnt (by intro p; (try simp only [cnt_append, cnt_cons, cnt_nil]) <;> omega))) (hsays hB4 (mem_of_cnt (by intro p; (try simp only [cnt_append, cnt_cons, cnt_nil]) <;> omega))) (hsays hB5 (mem_of_cnt (by intro p; (try simp only [cnt_append, cnt_cons, cnt_nil]) <;> omega))) (List.mem_cons_self ..)) (by decide) n1s n1f n1)) ?_
  rintro _ _ ⟨rfl, XX, rfl⟩
  refine ⟨Or.inr (by (exact (fun z hz => mem_of_cnt (by intro p; (try simp only [cnt_append, cnt_cons, cnt_nil]) <;> omega) z (hKm z hz)))), ?_⟩
  (refine' TA_take 12 rfl rfl (by kernel_rfl) (quiet_q (op_move rfl)) ?_ ?_; (· (intro p hp; grind)))
  (refine' TA_take 13 rfl rfl (by kernel_rfl) (quiet_q (op_extract rfl rfl)) ?_ ?_; (· (intro p hp; grind)))
  (refine' TA_take 14 rfl rfl (by kernel_rfl) (quiet_q (op_extract rfl rfl)) ?_ ?_; (· (intro p hp; grind)))
  (refine' TA_take 15 rfl rfl (by kernel_rfl) (quiet_q (op_extract rfl rfl)) ?_ ?_; (· (intro p hp; grind)))
  (refine' TA_take 16 rfl rfl (by kernel_rfl) (quiet_q (op_extract rfl rfl)) ?_ ?_; (· (intro p hp; grind)))
  (refine' TA_take 17 rfl rfl (by kernel_rfl) (quiet_q (op_assign rfl)) ?_ ?_; (· (intro p hp; grind)))
  (refine' TA_take 18 rfl rfl (by kernel_rfl) (quiet_q (op_assign rfl)) ?_ ?_; (· (intro p hp; grind)))
  (refine' TA_take 19 rfl rfl (by kernel_rfl) (quiet_q (op_assign rfl)) ?_ ?_; (· (intro p hp; grind)))
  (refine' TA_take 20 rfl rfl (by kernel_rfl) (quiet_q (op_assign rfl)) ?_ ?_; (· (intro p hp; grind)))
  refine TA_done (by kernel_rfl) ?_
  repeat ((first | with_reducible refine T_seq ?_ | with_reducible refine TQ_then ?_))
  refine T_cnt (L' := (b2, Obj.cells #[.string (bs [1, 97, 0]), .int .u16 1, .int .u16 1] 34 (0, 0)) :: ((b1, Obj.cells (msgC 3 none 0 0).toArray 32 (0, 0)) :: L)) ?_ (by intro p; (try simp only [cnt_append, cnt_cons, cnt_nil]) <;> omega)
  refine T_draw follows_mixed ([(b2, Obj.cells #[.string (bs [1, 97, 0]), .int .u16 1, .int .u16 1] 34 (0, 0))]) [] ?_
  (refine' TA_take 0 rfl rfl (by kernel_rfl) (quiet_q (op_ldAll rfl st_34 ?_ ?_)) ?_ ?_; rotate_left 3; (· repeat ((exact List.mem_cons_self))); (· (rfl)); (· (assumption)))
  (refine' TA_take 1 rfl rfl (by kernel_rfl) (quiet_q (op_fld rfl fld_34_0)) ?_ ?_; (· (assumption)))
  (refine' TA_take 2 rfl rfl (by kernel_rfl) (quiet_q (op_ld rfl pl_9 ?_ ?_)) ?_ ?_; rotate_left 4; (· repeat ((exact List.mem_cons_self))); (· (assumption)); (· (assumption)))
  (refine' TA_take 4 rfl rfl (by kernel_rfl) (quiet_q (op_fld rfl fld_34_0)) ?_ ?_; (· (assumption)))
  (refine' TA_take 5 rfl rfl (by kernel_rfl) (quiet_q (op_ld rfl pl_9 ?_ ?_)) ?_ ?_; rotate_left 4; (· repeat ((exact List.mem_cons_self))); (· (assumption)); (· (assumption)))
  refine TA_oneD 3 (by kernel_rfl) rfl rfl rfl rfl (op_call hb_17 rfl (says_S [1, 97, 0] 2 2 rfl (by decide))) ?_
  rintro _ _ ⟨a3', B3', X3', rfl, hB3', rfl⟩
  refine ⟨Or.inr (by (exact (fun z hz => mem_of_cnt (by intro p; (try simp only [cnt_append, cnt_cons, cnt_nil]) <;> omega) z (hKm z hz)))), ?_⟩
  refine TA_oneD 6 (by kernel_rfl) rfl rfl rfl rfl (op_call hb_17 rfl (says_S [1, 97, 0] 2 2 rfl (by decide))) ?_
  rintro _ _ ⟨a4', B4', X4', rfl, hB4', rfl⟩
  refine ⟨Or.inr (by (exact (fun z hz => mem_of_cnt (by intro p; (try simp only [cnt_append, cnt_cons, cnt_nil]) <;> omega) z (hKm z hz)))), ?_⟩
  refine TA_oneD 7 (by kernel_rfl) rfl rfl rfl rfl (op_buildSlice (C := (msgC 0 a3' 1 1 ++ msgC 0 a4' 1 1).toArray) (vs := [(0, .agg (msgC 0 a3' 1 1).toArray), (1, .agg (msgC 0 a4' 1 1).toArray)]) rfl (lit2 ety_113 msgC_len msgC_len)) ?_
  rintro _ _ ⟨bM', rfl, rfl⟩
  refine ⟨Or.inr (by (exact (fun z hz => mem_of_cnt (by intro p; (try simp only [cnt_append, cnt_cons, cnt_nil]) <;> omega) z (hKm z hz)))), ?_⟩
  refine TA_oneD 8 (by kernel_rfl) rfl rfl rfl rfl (op_call hb_16 rfl (told_E (K := B4' ++ B3') _ [saysM [1, 97, 0] 2, saysM [1, 97, 0] 2] (mem_of_cnt (by intro p; (try simp only [cnt_append, cnt_cons, cnt_nil]) <;> omega)) (msgs2 (hsays hB3' (mem_of_cnt (by intro p; (try simp only [cnt_append, cnt_cons, cnt_nil]) <;> omega))) (hsays hB4' (mem_of_cnt (by intro p; (try simp only [cnt_append, cnt_cons, cnt_nil]) <;> omega))) (List.mem_cons_self ..)) (by decide) n2s n2f n2)) ?_
  rintro _ _ ⟨rfl, XX', rfl⟩
  refine ⟨Or.inr (by (exact (fun z hz => mem_of_cnt (by intro p; (try simp only [cnt_append, cnt_cons, cnt_nil]) <;> omega) z (hKm z hz)))), ?_⟩
  (refine' TA_take 9 rfl rfl (by kernel_rfl) (quiet_q (op_move rfl)) ?_ ?_; (· (intro p hp; grind)))
  (refine' TA_take 10 rfl rfl (by kernel_rfl) (quiet_q (op_extract rfl rfl)) ?_ ?_; (· (intro p hp; grind)))
  (refine' TA_take 11 rfl rfl (by kernel_rfl) (quiet_q (op_extract rfl rfl)) ?_ ?_; (· (intro p hp; grind)))
  (refine' TA_take 12 rfl rfl (by kernel_rfl) (quiet_q (op_extract rfl rfl)) ?_ ?_; (· (intro p hp; grind)))
  (refine' TA_take 13 rfl rfl (by kernel_rfl) (quiet_q (op_extract rfl rfl)) ?_ ?_; (· (intro p hp; grind)))
  (refine' TA_take 14 rfl rfl (by kernel_rfl) (quiet_q (op_assign rfl)) ?_ ?_; (· (intro p hp; grind)))
  (refine' TA_take 15 rfl rfl (by kernel_rfl) (quiet_q (op_assign rfl)) ?_ ?_; (· (intro p hp; grind)))
  (refine' TA_take 16 rfl rfl (by kernel_rfl) (quiet_q (op_assign rfl)) ?_ ?_; (· (intro p hp; grind)))
  (refine' TA_take 17 rfl rfl (by kernel_rfl) (quiet_q (op_assign rfl)) ?_ ?_; (· (intro p hp; grind)))
  refine TA_done (by kernel_rfl) ?_
  repeat ((first | with_reducible refine T_seq ?_ | with_reducible refine T_region ?_ | with_reducible refine TQ_then ?_ | (refine' TL_q (op_ldAll rfl st_32 ?_ ?_) rfl ?_; rotate_left 3; (· repeat ((first | exact List.mem_cons_self | apply List.mem_cons_of_mem | apply List.mem_append_right))); (· (rfl))) | (refine' TL_q (op_ldAll rfl st_34 ?_ ?_) rfl ?_; rotate_left 3; (· repeat ((first | exact List.mem_cons_self | apply List.mem_cons_of_mem | apply List.mem_append_right))); (· (rfl))) | refine TL_q (op_build rfl (bl_32_ )) rfl ?_))
  refine TL_new (op_buildSlice (C := (msgC 3 none 0 0 ++ msgC 0 none 0 0).toArray) (vs := [(0, .agg (msgC 3 none 0 0).toArray), (1, .agg (msgC 0 none 0 0).toArray)]) rfl (lit2 ety_113 msgC_len msgC_len)) rfl ?_
  intro bN
  refine TL_opT (op_call hb_16 rfl (told_E (K := []) _ [noM, voidM] (by simp) (msgs2 (none_is (by decide)) (none_is (by decide)) (List.mem_cons_self ..)) (by decide) n3s n3f n3)) rfl ?_
  rintro _ _ ⟨rfl, Y1, rfl⟩
  repeat ((first | with_reducible refine T_seq ?_ | with_reducible refine T_region ?_ | with_reducible refine TL_nil ?_ | with_reducible refine TQ_then ?_ | refine TL_q (op_move rfl) rfl ?_ | refine TL_q (op_assign rfl) rfl ?_ | refine TL_q (op_extract rfl rfl) rfl ?_ | (refine' TL_q (op_ldAll rfl st_32 ?_ ?_) rfl ?_; rotate_left 3; (· repeat ((first | exact List.mem_cons_self | apply List.mem_cons_of_mem | apply List.mem_append_right))); (· (rfl))) | (refine' TL_q (op_ldAll rfl st_34 ?_ ?_) rfl ?_; rotate_left 3; (· repeat ((first | exact List.mem_cons_self | apply List.mem_cons_of_mem | apply List.mem_append_right))); (· (rfl))) | refine TL_q (op_build rfl (bl_32_ )) rfl ?_))
  refine TL_new (op_buildSlice (C := (msgC 0 none 0 0 ++ (msgC 3 none 0 0 ++ msgC 3 none 0 0)).toArray) (vs := [(0, .agg (msgC 0 none 0 0).toArray), (1, .agg (msgC 3 none 0 0).toArray), (2, .agg (msgC 3 none 0 0).toArray)]) rfl (lit3 ety_113 msgC_len msgC_len msgC_len)) rfl ?_
  intro bO
  refine TL_opT (op_call hb_16 rfl (told_E (K := []) _ [voidM, noM, noM] (by simp) (msgs3 (none_is (by decide)) (none_is (by decide)) (none_is (by decide)) (List.mem_cons_self ..)) (by decide) n4s n4f n4)) rfl ?_
  rintro _ _ ⟨rfl, Y2, rfl⟩
  repeat ((first | with_reducible refine T_seq ?_ | with_reducible refine T_region ?_ | with_reducible refine TL_nil ?_ | with_reducible refine TQ_then ?_ | refine TL_q (op_move rfl) rfl ?_ | refine TL_q (op_assign rfl) rfl ?_ | refine TL_q (op_extract rfl rfl) rfl ?_ | (refine' TL_q (op_ldAll rfl st_34 ?_ ?_) rfl ?_; rotate_left 3; (· repeat ((first | exact List.mem_cons_self | apply List.mem_cons_of_mem | apply List.mem_append_right))); (· (rfl)))))
  refine TL_opT (op_call hb_16 rfl (told_E (K := []) (.slice none 0 0) [] (by simp) sliceR.nil (by decide) rfl n5f n5)) rfl ?_
  rintro _ _ ⟨rfl, Y3, rfl⟩
  refine TL_cnt (L' := (b2, Obj.cells #[.string (bs [1, 97, 0]), .int .u16 1, .int .u16 1] 34 (0, 0)) :: L) ?_ (by intro p; (try simp only [cnt_append, cnt_cons, cnt_nil]) <;> omega)
  repeat ((first | with_reducible refine T_seq ?_ | with_reducible refine T_region ?_ | with_reducible refine TL_nil ?_ | with_reducible refine TQ_then ?_ | refine TL_q (op_move rfl) rfl ?_ | refine TL_q (op_assign rfl) rfl ?_ | refine TL_q (op_extract rfl rfl) rfl ?_ | refine TL_q (op_fld rfl fld_34_0) rfl ?_ | (refine' TL_q (op_ldAll rfl st_34 ?_ ?_) rfl ?_; rotate_left 3; (· repeat ((exact List.mem_cons_self))); (· (rfl))) | (refine' TL_st rfl rfl one_9 rfl ?_ rfl ?_; rotate_left 1; (· (assumption))) | (refine TL_stAll rfl rfl st_34 rfl rfl rfl ?_) | (refine TL_new (op_alloc (C := #[(.string (bs [])), (.int .u16 0), (.int .u16 0)]) zero_34 rfl) rfl ?_; intro bNew) | refine TL_q (op_build rfl (bl_46_0 _)) rfl ?_ | (refine TL_new (op_litN ety_47 rfl rfl (by decide)) rfl ?_; intro bLit)))
  refine TL_opT (op_call hb_18 rfl (pUnion_S (K := []) _ ⟨[97], 1, 1⟩ [⟨1, Vdt.none, 0⟩] (by simp) (by decide) (by decide) (by decide) (votes1 (List.mem_cons_self ..)) (by decide) (by decide) (fun x hx => by rw [List.mem_singleton.1 hx]; exact ⟨⟨by decide, by simp [Vdt.none]⟩, ⟨by decide, by simp [Vdt.none]⟩⟩))) rfl ?_
  rintro _ _ ⟨a1, c1, B1, a2, c2, B2, N, rfl, hB1, hB2, hN, rfl⟩
  rw [badU]
  repeat ((first | with_reducible refine T_seq ?_ | with_reducible refine T_region ?_ | with_reducible refine TL_nil ?_ | with_reducible refine TQ_then ?_ | with_reducible refine T_ret ?_ | refine TL_q (op_move rfl) rfl ?_ | refine TL_q (op_assign rfl) rfl ?_ | (refine' TL_q (op_bin rfl rfl ?_) rfl ?_; rotate_left 1; (· (exact bin_eql))) | refine TL_q (op_extract rfl rfl) rfl ?_ | (refine' TL_q (op_pickT rfl ?_ rfl) rfl ?_; (· (first | with_reducible rfl | exact Bool.not_false))) | (refine TL_gpre rfl rfl ?_ ?_; (· (first | with_reducible rfl | exact Bool.not_false))) | refine TL_gq2 (op_move rfl) rfl ?_ | (refine' TL_gq2 (op_bin rfl rfl ?_) rfl ?_; rotate_left 1; (· (first | exact bin_eql | exact sbin_eql))) | refine TL_gq2 (op_not rfl) rfl ?_ | (refine TL_stAll rfl rfl st_34 rfl rfl rfl ?_) | (refine TL_new (op_alloc (C := #[(.int .u8 0), (.slice none 0 0), (.slice none 0 0)]) zero_42 rfl) rfl ?_; intro bNew)))
  refine TQ_cnt (L' := L) ?_ (by intro p; (try simp only [cnt_append, cnt_cons, cnt_nil]) <;> omega)
  refine TQ_ret1 0 _ rfl rfl ?_
  exact ⟨rfl, rfl⟩
theorem mergeNames_walk (W : World) : Calls Try.prog 3 #[] W fun e w' => e = .returned (.bool true) ∧ Below W.heap.size W w' := Spec.below mergeNames_S
end Go.Proofs.Ytdflhdfapnhjjaa
