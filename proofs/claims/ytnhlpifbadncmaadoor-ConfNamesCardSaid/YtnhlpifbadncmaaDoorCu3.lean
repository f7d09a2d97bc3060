/-
  Part 3: OldS Tx Tp Lt Lu Rp Rq Ord Rc Rt St2 OpG Rw.
-/
import Derived.Test.YtnhlpifbadncmaaDoorCu2
import Derived.Test.YtnhlpifbadncmaaDoorCu1
import Derived.ProofKit
import Derived.OpenShut
import Derived.ShutString
import Derived.ChangeOld
import Derived.Deep.Slices
import Derived.Deep.Strs
namespace Go.Proofs.YtnhlpifbadncmaaDoor
open Go.RowKit
set_option linter.unusedVariables false
set_option linter.unusedSimpArgs false
section
variable {G : World} {L : Blocks} {P : Program}
/-- A row of its own that an elder contract tells. -/
theorem Spec.ofRow {f : FuncId} {args : Array Value} {e : TypeId} {sz m : Nat} {xs : List Value} (h : ∀ w, Calls P f args w fun en w' => ∃ v, en = .returned v ∧ w'.ownsRow w.heap.size e sz v m xs ∧ Below w.heap.size w w') :
    Spec P G f args L fun u M => ∃ B, Row e sz u m xs B ∧ M = B ++ L :=
  ⟨fun w hw => (h w).mono fun en w' ⟨v, h1, h2, h3⟩ => by
    have hL : Heap G w' L := ⟨hw.still.trans ⟨h3.os, h3.tape, h3.output, h3.size⟩, hw.nodup, fun p hp => (h3.block p.1 (hw.lt hp)).trans (hw.get p hp)⟩
    rcases h2.2 with ⟨q1, q2⟩ | ⟨g, cap, cur, q1, q2, q3, q4, q5, q6, q7⟩
    · exact ⟨v, _, h1, ⟨[], ⟨h2.1, Or.inl ⟨q1, q2, rfl⟩⟩, rfl⟩, hL⟩
    · refine ⟨v, _, h1, ⟨[(g, .cells cur e (0, 0))], ⟨h2.1, Or.inr ⟨g, cap, cur, q1, rfl, q4, q5, q6, q7⟩⟩, rfl⟩, hL.still, ?_, fun p hp => ?_⟩
      · show ((g : Nat) :: L.map (·.1)).Nodup
        rw [List.nodup_cons]
        refine ⟨fun hm => ?_, hL.nodup⟩
        obtain ⟨p, hp, he⟩ := List.mem_map.1 hm
        have := hw.lt hp
        omega
      · rcases List.mem_cons.1 hp with rfl | hp
        · exact q3
        · exact hL.get p hp⟩
end
variable {G : World} {L : Blocks}
theorem bs_max {l : Nm.Bytes} (h : l.length ≤ 1000000) : (bs l).size ≤ maxLen := by rw [bs_size]; unfold maxLen; omega
theorem bs_mil {l : Nm.Bytes} (h : l.length ≤ 1000000) : (bs l).size ≤ 1000000 := by rw [bs_size]; exact h
theorem May_S (l : Nm.Bytes) (h : l.length ≤ 1000000) : Spec Tryd.prog G 51 #[.string (bs l)] L fun u M => u = .bool (Nm.may l) ∧ M = L := Spec.ofSame fun w => may_any (bs l) w (bs_max h)
theorem Fold_S (l : Nm.Bytes) (h : l.length ≤ 1000000) : Spec Tryd.prog G 52 #[.string (bs l)] L fun u M => u = .string (bs (Nm.fold l)) ∧ M = L := Spec.ofBelow fun w => fold_any (bs l) w (bs_max h)
theorem labels_S (n : Nm.Bytes) (ls : List Nm.Bytes) (h : Nm.nm n = some ls) : Spec Tryd.prog G 55 #[.string (bs n)] L fun u M => ∃ B, Row 9 1 u ls.length (ls.map txtV) B ∧ M = B ++ L :=
  Spec.ofRow fun w => by
    obtain ⟨h1, h2, h3⟩ := Nm.nm_iff.1 h
    exact labels_any (bs n) ls w h1 h2 (by rw [bs_size]; exact h3)
theorem refFold_S (l : Nm.Bytes) (h : l.length ≤ 1000000) : Spec Tryd.prog G 42 #[.string (bs l)] L fun u M => u = .string (bs (Nm.fold l)) ∧ M = L := Spec.ofBelow fun w => refFold_any (bs l) w (bs_mil h)
end Go.Proofs.YtnhlpifbadncmaaDoor
namespace Go.Proofs.YtnhlpifbadncmaaDoor
open Go.RowKit
set_option linter.unusedVariables false
set_option linter.unusedSimpArgs false

def txtL (l : Nm.Bytes) : Nm.Bytes := l.flatMap wr ++ [46]
def txtOf (ls : List Nm.Bytes) : Nm.Bytes := ls.flatMap txtL
def textN (n : Nm.Bytes) : Nm.Bytes := match Nm.nm n with
  | none => []
  | some [] => [46]
  | some ls => txtOf ls
theorem wr_len (c : UInt8) : 1 ≤ (wr c).length ∧ (wr c).length ≤ 4 := by
  unfold wr; split
  · simp
  · split <;> simp
theorem flat_wr_len (l : Nm.Bytes) : (l.flatMap wr).length ≤ 4 * l.length := by
  induction l with
  | nil => simp
  | cons c l ih => have := wr_len c; rw [List.flatMap_cons, List.length_append, List.length_cons]; omega
theorem txtOf_len (ls : List Nm.Bytes) : (txtOf ls).length ≤ 4 * lblSum ls := by
  induction ls with
  | nil => simp [txtOf]
  | cons l ls ih =>
    have := flat_wr_len l
    rw [lblSum_cons]
    simp only [txtOf, List.flatMap_cons, List.length_append, txtL, List.length_singleton] at ih ⊢
    omega
theorem txtOf_snoc (ls : List Nm.Bytes) (l : Nm.Bytes) : txtOf (ls ++ [l]) = txtOf ls ++ txtL l := by simp [txtOf]
theorem nm_root {n : Nm.Bytes} (h : Nm.nm n = some []) : n = [0] := (Nm.nm_iff.1 h).1
theorem nm_not_root {n : Nm.Bytes} {l : Nm.Bytes} {ls : List Nm.Bytes} (h : Nm.nm n = some (l :: ls)) : n ≠ [0] := by
  obtain ⟨h1, h2, _⟩ := Nm.nm_iff.1 h
  intro e
  rw [e] at h1
  have := (Nm.ok_cons.1 h2).1.1
  simp [Nm.enc] at h1
  rw [h1.2.1] at this
  simp at this
theorem nm_sum {n : Nm.Bytes} {ls : List Nm.Bytes} (h : Nm.nm n = some ls) : lblSum ls ≤ 254 := by
  obtain ⟨h1, _, h3⟩ := Nm.nm_iff.1 h
  have := Nm.enc_length ls
  rw [← h1] at this
  unfold lblSum
  omega
theorem nm_few {n : Nm.Bytes} {ls : List Nm.Bytes} (h : Nm.nm n = some ls) : ls.length ≤ 254 := by
  obtain ⟨h1, _, h3⟩ := Nm.nm_iff.1 h
  have := Nm.length_lt_enc ls
  rw [← h1] at this
  omega

set_option maxRecDepth 100000 in
set_option maxHeartbeats 1000000 in
theorem Text_spec {G : World} {L : Blocks} (n : Nm.Bytes) (hn : n.length ≤ 1000000) :
    Spec Tryd.prog G 32 #[.string (bs n)] L fun u M => u = .string (bs (textN n)) ∧ M = L := by
  cases hnm : Nm.nm n with
  | none =>
    refine Spec_of (n := 32) Tryd.func32 rfl rfl rfl ?_
    repeat ((first | with_reducible refine T_seq ?_ | with_reducible refine T_region ?_ | with_reducible refine TL_nil ?_ | with_reducible refine TQ_then ?_ | refine TL_q (op_move rfl) rfl ?_ | refine TL_q (op_assign rfl) rfl ?_))
    refine TL_op (op_call hb_51 rfl (May_S n hn)) rfl ?_
    rw [Nm.may_none hnm]
    repeat ((first | with_reducible refine T_seq ?_ | with_reducible refine T_region ?_ | with_reducible refine TL_nil ?_ | with_reducible refine TQ_then ?_ | with_reducible refine T_ret ?_ | with_reducible refine TQ_then_ret ?_ | refine TL_q (op_assign rfl) rfl ?_ | refine TL_q (op_not rfl) rfl ?_ | (refine T_yes rfl ?_ ?_; (· (exact Bool.not_false)))))
    refine TQ_ret1 2 _ rfl rfl ?_
    exact ⟨by simp [textN, hnm]; rfl, rfl⟩
  | some ls0 =>
    cases ls0 with
    | nil =>
      have e1 : (n == [0]) = true := by simpa using nm_root hnm
      refine Spec_of (n := 32) Tryd.func32 rfl rfl rfl ?_
      repeat ((first | with_reducible refine T_seq ?_ | with_reducible refine T_region ?_ | with_reducible refine TL_nil ?_ | with_reducible refine TQ_then ?_ | refine TL_q (op_move rfl) rfl ?_ | refine TL_q (op_assign rfl) rfl ?_))
      refine TL_op (op_call hb_51 rfl (May_S n hn)) rfl ?_
      rw [Nm.may_some hnm]
      repeat ((first | with_reducible refine T_seq ?_ | with_reducible refine T_region ?_ | with_reducible refine TL_nil ?_ | with_reducible refine TQ_then ?_ | with_reducible refine T_skip ?_ | with_reducible refine T_ret ?_ | with_reducible refine TQ_then_ret ?_ | refine TL_q (op_move rfl) rfl ?_ | refine TL_q (op_assign rfl) rfl ?_ | (refine' TL_q (op_bin rfl rfl ?_) rfl ?_; rotate_left 1; (· (exact sbin_eql))) | refine TL_q (op_not rfl) rfl ?_ | (refine T_yes rfl ?_ ?_; (· (assumption))) | (refine T_no rfl ?_ ?_; (· (exact Bool.not_true)))))
      refine TQ_ret1 2 _ rfl rfl ?_
      exact ⟨by simp [textN, hnm]; rfl, rfl⟩
    | cons l0 r0 =>
      have e1 : (n == [0]) = false := by simpa using nm_not_root hnm
      obtain ⟨ls, hls⟩ : ∃ ls, ls = l0 :: r0 := ⟨_, rfl⟩
      have hT : textN n = txtOf ls := by simp only [textN, hnm]; rw [hls]
      have hne : txtOf ls ≠ [] := by rw [hls]; simp [txtOf, txtL]
      rw [← hls] at hnm
      have hsum := nm_sum hnm
      have hfew := nm_few hnm
      clear hls
      refine Spec_of (n := 32) Tryd.func32 rfl rfl rfl ?_
      repeat ((first | with_reducible refine T_seq ?_ | with_reducible refine T_region ?_ | with_reducible refine TL_nil ?_ | with_reducible refine TQ_then ?_ | refine TL_q (op_move rfl) rfl ?_ | refine TL_q (op_assign rfl) rfl ?_))
      refine TL_op (op_call hb_51 rfl (May_S n hn)) rfl ?_
      rw [Nm.may_some hnm]
      repeat ((first | with_reducible refine T_seq ?_ | with_reducible refine T_region ?_ | with_reducible refine TL_nil ?_ | with_reducible refine TQ_then ?_ | with_reducible refine T_skip ?_ | refine TL_q (op_move rfl) rfl ?_ | (refine' TL_q (op_bin rfl rfl ?_) rfl ?_; rotate_left 1; (· (exact sbin_eql))) | refine TL_q (op_not rfl) rfl ?_ | (refine TL_new (op_alloc zero_50 rfl) rfl ?_; intro bNew) | (refine T_no rfl ?_ ?_; (· (first | assumption | exact Bool.not_true)))))
      refine TL_opT (op_call hb_55 rfl (labels_S n ls hnm)) rfl ?_
      rintro v1 _ ⟨B1, hR1, rfl⟩
      obtain ⟨a1, c1, rfl⟩ := hR1.slice
      have hrow := hR1.strRow (L := B1) (fun p hp => hp)
      obtain ⟨a, cap, hveq, hcells⟩ := id hrow
      cases hveq
      repeat ((first | with_reducible refine T_block ?_ | with_reducible refine TL_nil ?_ | with_reducible refine TQ_then ?_ | refine TL_q (op_move rfl) rfl ?_ | refine TL_q (op_len_slice rfl Tryd.underlying70) rfl ?_))
      refine T_loopS (σ := Nat × Blocks) (fun x => x.1 ≤ ls.length ∧ BuildRep bNew (txtOf (ls.take x.1)) x.2)
        (fun x => [(3, .pointer (some ⟨bNew, 0, none⟩)), (13, .slice a1 ls.length c1), (14, .int .i64 (ls.length : Nat)), (15, .int .i64 (x.1 : Nat))]) (fun x => x.2 ++ (B1 ++ L)) (fun x => ls.length - x.1) (0, [(bNew, .cells #[.pointer none, .slice none 0 0] 50 (0, 0))]) ⟨by omega, ⟨_, _, [], Or.inl rfl, Row.nil _ _, rfl⟩⟩ ?_ (fun _ h => h.perm List.perm_middle) ?_
      (repeat ((first | exact trivial | refine ⟨rfl, ?_⟩)))
      rintro ⟨k, B⟩ ⟨hk, hrep⟩
      dsimp only at hk hrep
      have hlenk := txtOf_len (ls.take k)
      have hsumk := lblSum_take ls k
      by_cases hlt : k < ls.length
      · obtain rfl | ⟨b, off, C, te, fr, rfl, hm, hc⟩ := hcells
        · simp at hlt
        obtain ⟨l, hlk⟩ : ∃ l, ls[k]? = some l := ⟨_, List.getElem?_eq_getElem hlt⟩
        have hcell := hc k l hlk
        have htk : ls.take (k + 1) = ls.take k ++ [l] := by rw [List.take_add_one, hlk]; rfl
        have hll : l.length ≤ 254 := by
          have := lblSum_take ls (k + 1)
          rw [htk, lblSum_append, lblSum_cons] at this
          omega
        have d1 : decide ((k : Int) < (ls.length : Int)) = true := decide_eq_true (by omega)
        have hm' : (b, Obj.cells C te fr) ∈ B ++ (B1 ++ L) := List.mem_append_right _ (List.mem_append_left _ hm)
        repeat ((first | with_reducible refine T_seq ?_ | with_reducible refine T_block ?_ | with_reducible refine T_region ?_ | with_reducible refine TL_nil ?_ | with_reducible refine TQ_then ?_ | with_reducible refine T_skip ?_ | refine TL_q (op_assign rfl) rfl ?_ | (refine' TL_q (op_bin rfl rfl ?_) rfl ?_; rotate_left 1; (· (exact bin_lss))) | (refine' TL_q (op_idx ety_70 rfl rfl ?_) rfl ?_; (· omega)) | (refine' TL_q (op_ld rfl pl_9 ?_ ?_) rfl ?_; rotate_left 4; (· repeat ((assumption))); (· (assumption))) | (refine T_yes rfl ?_ ?_; (· (assumption)))))
        refine T_loopS (σ := Nat × Blocks) (fun x => x.1 ≤ l.length ∧ BuildRep bNew (txtOf (ls.take k) ++ (l.take x.1).flatMap wr) x.2)
          (fun x => [(3, .pointer (some ⟨bNew, 0, none⟩)), (5, .string (bs l)), (6, .int .i64 (x.1 : Nat)), (13, .slice (some ⟨b, off, none⟩) ls.length c1), (14, .int .i64 (ls.length : Nat)), (15, .int .i64 (k : Nat))]) (fun x => x.2 ++ (B1 ++ L)) (fun x => l.length - x.1) (0, B) ⟨by omega, by simpa using hrep⟩ ?_ (fun _ h => h) ?_
        (repeat ((first | exact trivial | refine ⟨rfl, ?_⟩)))
        rintro ⟨i, B2⟩ ⟨hi, hrep2⟩
        dsimp only at hi hrep2
        have hlen2 := flat_wr_len (l.take i)
        have hlen3 : (l.take i).length ≤ i := List.length_take_le _ _
        by_cases hil : i < l.length
        · obtain ⟨c, hc2⟩ : ∃ c, l[i]? = some c := ⟨_, List.getElem?_eq_getElem hil⟩
          have hc3 : l[((i : Nat) : Int).toNat]? = some c := hc2
          have hti : l.take (i + 1) = l.take i ++ [c] := by rw [List.take_add_one, hc2]; rfl
          have d2 : decide ((i : Int) < (l.length : Int)) = true := decide_eq_true (by omega)
          repeat ((first | with_reducible refine T_seq ?_ | with_reducible refine T_block ?_ | with_reducible refine T_region ?_ | with_reducible refine TL_nil ?_ | with_reducible refine TQ_then ?_ | with_reducible refine T_skip ?_ | refine TL_q (op_move rfl) rfl ?_ | (refine' TL_q (op_bin rfl rfl ?_) rfl ?_; rotate_left 1; (· (exact bin_lss))) | refine TL_q (op_len_str rfl Tryd.underlying9) rfl ?_ | (refine' TL_q (op_index_str rfl rfl Tryd.underlying9 ?_ ?_) rfl ?_; rotate_left 1; (· omega); (· (assumption))) | (refine T_yes rfl ?_ ?_; (· (assumption)))))
          refine TL_opT (op_call hb_56 rfl (write_spec bNew _ B2 c hrep2 (by rw [List.length_append]; omega))) rfl ?_
          rintro _ _ ⟨B3, hB3, rfl⟩
          repeat ((first | with_reducible refine T_region ?_ | with_reducible refine TL_nil ?_ | with_reducible refine TQ_then ?_ | with_reducible refine TQ_block ?_ | refine TL_q (op_move rfl) rfl ?_ | refine TL_q (op_assign rfl) rfl ?_ | (refine' TL_q (op_bin rfl rfl ?_) rfl ?_; rotate_left 1; (· (exact bin_add ⟨by omega, by omega⟩)))))
          refine TQ_roundS (i + 1, B3) ⟨by omega, ?_⟩ ?_ (fun _ h => h) (by omega)
          · rw [hti, List.flatMap_append, ← List.append_assoc]; simpa using hB3
          (repeat ((first | exact trivial | refine ⟨rfl, ?_⟩)))
        · have hie : i = l.length := by omega
          subst hie
          rw [List.take_length] at hrep2
          have d2 : decide ((l.length : Int) < (l.length : Int)) = false := by simp
          repeat ((first | with_reducible refine T_seq ?_ | with_reducible refine T_region ?_ | with_reducible refine TL_nil ?_ | with_reducible refine TQ_then ?_ | with_reducible refine T_exit ?_ | with_reducible refine TQ_then_exit ?_ | with_reducible refine TQ_block_exit ?_ | refine TL_q (op_move rfl) rfl ?_ | (refine' TL_q (op_bin rfl rfl ?_) rfl ?_; rotate_left 1; (· (exact bin_lss))) | refine TL_q (op_len_str rfl Tryd.underlying9) rfl ?_ | (refine T_no rfl ?_ ?_; (· (assumption)))))
          refine TL_opT (op_call hb_30 rfl (WriteByte_spec bNew _ B2 46 hrep2 (by rw [List.take_length] at hlen2; rw [List.length_append]; omega))) rfl ?_
          rintro _ _ ⟨rfl, B3, hB3, rfl⟩
          repeat ((first | with_reducible refine T_region ?_ | with_reducible refine TL_nil ?_ | with_reducible refine TQ_then ?_ | with_reducible refine TQ_block ?_ | refine TL_q (op_move rfl) rfl ?_ | (refine' TL_q (op_bin rfl rfl ?_) rfl ?_; rotate_left 1; (· (exact bin_add ⟨by omega, by omega⟩)))))
          refine TQ_roundS (k + 1, B3) ⟨by omega, ?_⟩ ?_ (fun _ h => h) (by omega)
          · rw [htk, txtOf_snoc]; simpa [txtL] using hB3
          (repeat ((first | exact trivial | refine ⟨rfl, ?_⟩)))
      · have hkl : k = ls.length := by omega
        subst hkl
        rw [List.take_length] at hrep
        have d1 : decide ((ls.length : Int) < (ls.length : Int)) = false := by simp
        repeat ((first | with_reducible refine T_seq ?_ | with_reducible refine T_region ?_ | with_reducible refine TL_nil ?_ | with_reducible refine TQ_then ?_ | with_reducible refine T_exit ?_ | with_reducible refine TQ_then_exit ?_ | with_reducible refine TQ_block_exit ?_ | (refine' TL_q (op_bin rfl rfl ?_) rfl ?_; rotate_left 1; (· (exact bin_lss))) | (refine T_no rfl ?_ ?_; (· (assumption)))))
        refine TL_op (op_call hb_34 rfl (String_spec bNew _ B hrep hne)) rfl ?_
        repeat ((first | with_reducible refine TL_nil ?_ | with_reducible refine TQ_then ?_ | with_reducible refine T_ret ?_ | refine TL_q (op_assign rfl) rfl ?_))
        refine TQ_heap (fun w h => h.sub (List.sublist_append_right _ _)) ?_
        refine TQ_ret1 2 _ rfl rfl ?_
        exact ⟨by rw [hT], rfl⟩
end Go.Proofs.YtnhlpifbadncmaaDoor
namespace Go.Proofs.YtnhlpifbadncmaaDoor
open Go.RowKit
set_option linter.unusedVariables false
set_option linter.unusedSimpArgs false

theorem run_wr (s : Scan) (he : s.esc = 0) (c : UInt8) : ∃ v, runS s (wr c) = some { s with label := s.label ++ [c], val := v } := by
  obtain ⟨ls, lb, esc, val⟩ := s
  simp only at he
  subst he
  have hc := c.toNat_lt
  have t92 : ∀ (ls : List Nm.Bytes) (lb : Nm.Bytes) (v : Nat), takeS ⟨ls, lb, 0, v⟩ 92 = (true, ⟨ls, lb, 1, 0⟩) := fun ls lb v => by simp [takeS]
  unfold wr
  split
  · rename_i h
    have hn : isDig c.toNat = false := by simp [isDig]; omega
    have t2 : takeS ⟨ls, lb, 1, 0⟩ c.toNat = (true, ⟨ls, lb ++ [c], 0, 0⟩) := by
      unfold takeS
      rw [if_neg (by omega), if_pos (by simp)]
      simp [escS, hn]
    refine ⟨0, ?_⟩
    simp only [runS]
    rw [show ((92 : UInt8).toNat) = 92 from rfl, t92]
    simp only [if_true]
    rw [t2]
    simp
  · rename_i h
    split
    · rename_i h2
      obtain ⟨d1, hd1⟩ : ∃ d, d = c.toNat / 100 := ⟨_, rfl⟩
      obtain ⟨d2, hd2⟩ : ∃ d, d = c.toNat / 10 % 10 := ⟨_, rfl⟩
      obtain ⟨d3, hd3⟩ : ∃ d, d = c.toNat % 10 := ⟨_, rfl⟩
      have hsum : (d1 * 10 + d2) * 10 + d3 = c.toNat := by omega
      have b1 : d1 ≤ 2 := by omega
      have b2 : d2 ≤ 9 := by omega
      have b3 : d3 ≤ 9 := by omega
      rw [← hd1, ← hd2, ← hd3]
      have e : ∀ d, d ≤ 9 → (UInt8.ofNat (48 + d)).toNat = 48 + d := fun d hd => by simp; omega
      have dg : ∀ d, d ≤ 9 → isDig (48 + d) = true := fun d hd => by simp [isDig]; omega
      have tk : ∀ (d : Nat) (hd : d ≤ 9) (s : Scan), 0 < s.esc → takeS s (48 + d) = escS s (48 + d) := fun d hd s hs => by
        unfold takeS; rw [if_neg (by omega), if_pos hs]
      refine ⟨c.toNat, ?_⟩
      simp only [runS]
      rw [show ((92 : UInt8).toNat) = 92 from rfl, t92]
      simp only [if_true]
      rw [e d1 (by omega), tk d1 (by omega) _ (by simp)]
      have x1 : escS ⟨ls, lb, 1, 0⟩ (48 + d1) = (true, ⟨ls, lb, 2, d1⟩) := by simp [escS, dg d1 (by omega)]
      rw [x1]
      simp only [if_true]
      rw [e d2 b2, tk d2 b2 _ (by simp)]
      have x2 : escS ⟨ls, lb, 2, d1⟩ (48 + d2) = (true, ⟨ls, lb, 3, d1 * 10 + d2⟩) := by simp [escS, dg d2 b2]
      rw [x2]
      simp only [if_true]
      rw [e d3 b3, tk d3 b3 _ (by simp)]
      have x3 : escS ⟨ls, lb, 3, d1 * 10 + d2⟩ (48 + d3) = (true, ⟨ls, lb ++ [c], 0, c.toNat⟩) := by
        unfold escS
        rw [if_pos (dg d3 b3), if_neg (by simp), if_neg (by simp; omega)]
        have : (d1 * 10 + d2) * 10 + (48 + d3 - 48) = c.toNat := by omega
        simp only [this]
        simp
      rw [x3]
      simp
    · rename_i h2
      refine ⟨val, ?_⟩
      have t1 : takeS ⟨ls, lb, 0, val⟩ c.toNat = (true, ⟨ls, lb ++ [c], 0, val⟩) := by
        unfold takeS
        rw [if_neg h2, if_neg (by simp), if_neg (by omega), if_neg (by omega)]
        simp
      simp only [runS]
      rw [t1]
      simp
theorem run_label : ∀ (l : Nm.Bytes) (s : Scan), s.esc = 0 → ∃ v, runS s (l.flatMap wr) = some { s with label := s.label ++ l, val := v }
  | [], s, h => ⟨s.val, by simp [runS]⟩
  | c :: l, s, h => by
    obtain ⟨v, hv⟩ := run_wr s h c
    obtain ⟨v2, hv2⟩ := run_label l { s with label := s.label ++ [c], val := v } h
    refine ⟨v2, ?_⟩
    rw [List.flatMap_cons, runS_append, hv]
    simp only [Option.bind_some]
    rw [hv2]
    simp
theorem run_text : ∀ (ls : List Nm.Bytes) (acc : List Nm.Bytes) (v : Nat), (∀ l ∈ ls, l ≠ []) → ∃ v', runS ⟨acc, [], 0, v⟩ (txtOf ls) = some ⟨acc ++ ls, [], 0, v'⟩
  | [], acc, v, _ => ⟨v, by simp [txtOf, runS]⟩
  | l :: ls, acc, v, h => by
    obtain ⟨v1, h1⟩ := run_label l ⟨acc, [], 0, v⟩ rfl
    obtain ⟨v2, h2⟩ := run_text ls (acc ++ [l]) v1 (fun x hx => h x (List.mem_cons_of_mem _ hx))
    refine ⟨v2, ?_⟩
    have hl : l ≠ [] := h l (List.mem_cons_self ..)
    have t46 : takeS ⟨acc, l, 0, v1⟩ 46 = (true, ⟨acc ++ [l], [], 0, v1⟩) := by simp [takeS, hl]
    have e : txtOf (l :: ls) = l.flatMap wr ++ (46 :: txtOf ls) := by simp [txtOf, txtL]
    rw [e, runS_append, h1]
    simp only [Option.bind_some, List.nil_append, runS]
    rw [show ((46 : UInt8).toNat) = 46 from rfl, t46]
    simp only [if_true]
    rw [h2]
    simp
theorem textL_text {ls : List Nm.Bytes} (h : ∀ l ∈ ls, l ≠ []) (h0 : ls ≠ []) : textL (txtOf ls) = some ls := by
  obtain ⟨v, hv⟩ := run_text ls [] 0 h
  unfold textL
  rw [show scan0 = ⟨[], [], 0, 0⟩ from rfl, hv]
  simp [endS, h0]
theorem ok_all {ls : List Nm.Bytes} (h : Nm.Ok ls) : ls.all okLbl = true := List.all_eq_true.2 fun l hl => by have := h l hl; simp [okLbl]; omega
theorem all_ok {ls : List Nm.Bytes} (h : ls.all okLbl = true) : Nm.Ok ls := fun l hl => by have := List.all_eq_true.1 h l hl; simp [okLbl] at this; omega
theorem join_name {n : Nm.Bytes} {ls : List Nm.Bytes} (h : Nm.nm n = some ls) : joinE ls = 0 ∧ joinV ls = n := by
  obtain ⟨h1, h2, h3⟩ := Nm.nm_iff.1 h
  have hs := nm_sum h
  have hE : joinE ls = 0 := by unfold joinE; rw [if_pos (ok_all h2), if_neg (by omega)]
  exact ⟨hE, by unfold joinV; rw [if_pos hE, h1]⟩
theorem name_join {ls : List Nm.Bytes} (h : joinE ls = 0) : Nm.nm (Nm.enc ls) = some ls := by
  unfold joinE at h
  split at h
  · rename_i h1
    split at h
    · simp at h
    · rename_i h2
      refine Nm.nm_iff.2 ⟨rfl, all_ok h1, ?_⟩
      rw [Nm.enc_length]
      unfold lblSum at h2
      omega
  · simp at h
theorem last46 : ∀ {ls : List Nm.Bytes}, ls ≠ [] → ∃ t, txtOf ls = t ++ [46]
  | [], h => absurd rfl h
  | [l], _ => ⟨l.flatMap wr, by simp [txtOf, txtL]⟩
  | l :: x :: ls, _ => by
    obtain ⟨t, ht⟩ := last46 (ls := x :: ls) (by simp)
    refine ⟨txtL l ++ t, ?_⟩
    have : txtOf (l :: x :: ls) = txtL l ++ txtOf (x :: ls) := by simp [txtOf]
    rw [this, ht, List.append_assoc]
theorem text_name {n : Nm.Bytes} {l : Nm.Bytes} {ls : List Nm.Bytes} (h : Nm.nm n = some (l :: ls)) : textN n = txtOf (l :: ls) := by simp [textN, h]
/-- **Parse of Text is the name.** -/
theorem parse_text {n : Nm.Bytes} (h : Nm.may n = true) : parseV (textN n) = n ∧ parseE (textN n) = 0 ∧ (textN n).length ≤ 2000 ∧ ∃ t, textN n = t ++ [46] := by
  obtain ⟨ls, hls⟩ := Nm.nm_of_may h
  cases ls with
  | nil =>
    have e : textN n = [46] := by simp [textN, hls]
    have := nm_root hls
    rw [e]
    exact ⟨by rw [this]; rfl, rfl, by decide, [], rfl⟩
  | cons l r =>
    have e := text_name hls
    have hne : ∀ x ∈ l :: r, x ≠ [] := fun x hx e => by have := ((Nm.nm_iff.1 hls).2.1 x hx).1; rw [e] at this; simp at this
    have hT := textL_text hne (by simp)
    have hnot : txtOf (l :: r) ≠ [46] := by
      intro e1
      rw [e1] at hT
      have : textL [46] = none := by decide
      rw [this] at hT
      cases hT
    have hany : (l :: r).any (fun l => decide (63 < l.length)) = false := List.any_eq_false.2 fun x hx => by have := ((Nm.nm_iff.1 hls).2.1 x hx).2; simp; omega
    obtain ⟨j1, j2⟩ := join_name hls
    have hlen := txtOf_len (l :: r)
    have hs := nm_sum hls
    rw [e]
    refine ⟨?_, ?_, by omega, last46 (by simp)⟩
    · unfold parseV; rw [if_neg hnot, hT]; simp only [hany]; exact j2
    · unfold parseE; rw [if_neg hnot, hT]; simp only [hany]; exact j1
/-- What is read is a name, or nothing. -/
theorem parse_may {t : Nm.Bytes} (h : parseE t = 0) : Nm.may (parseV t) = true := by
  unfold parseE at h
  unfold parseV
  split
  · decide
  · rename_i h1
    rw [if_neg h1] at h
    cases hT : textL t with
    | none => rw [hT] at h; simp at h
    | some ls =>
      rw [hT] at h
      simp only at h ⊢
      split
      · rename_i h2; rw [if_pos h2] at h; simp at h
      · rename_i h2
        rw [if_neg h2] at h
        unfold joinV
        rw [if_pos h]
        exact Nm.may_some (name_join h)
end Go.Proofs.YtnhlpifbadncmaaDoor
namespace Go.Proofs.YtnhlpifbadncmaaDoor
open Go.RowKit
set_option linter.unusedVariables false
set_option linter.unusedSimpArgs false

theorem dropc {t : Nm.Bytes} {k : Nat} {c : UInt8} (h : t[k]? = some c) : t.drop k = c :: t.drop (k + 1) := by
  obtain ⟨hl, hc⟩ := List.getElem?_eq_some_iff.1 h
  rw [List.drop_eq_getElem_cons hl, hc]
theorem drop_end {t : Nm.Bytes} {k : Nat} (h : t.length ≤ k) : t.drop k = [] := List.drop_eq_nil_of_le h
theorem take_out (s : Scan) (c : Nat) (h : c < 33 ∨ 126 < c) : (takeS s c).1 = false := by unfold takeS; rw [if_pos h]
theorem take_92 (s : Scan) (h : s.esc = 0) : takeS s 92 = (true, { s with esc := 1, val := 0 }) := by
  obtain ⟨ls, lb, esc, val⟩ := s; simp only at h; subst h; simp [takeS]
theorem take_esc (s : Scan) (c : Nat) (h : 0 < s.esc) (h1 : 33 ≤ c) (h2 : c ≤ 126) : takeS s c = escS s c := by
  unfold takeS; rw [if_neg (by omega), if_pos h]
theorem esc_dig (s : Scan) (c : Nat) (h : isDig c = true) (h3 : s.esc < 3) : escS s c = (true, { s with val := s.val * 10 + (c - 48), esc := s.esc + 1 }) := by
  unfold escS; rw [if_pos h, if_pos h3]
theorem esc_no (s : Scan) (c : Nat) (h : isDig c = false) (h3 : 1 < s.esc) : escS s c = (false, s) := by
  unfold escS; rw [if_neg (by simp [h]), if_pos h3]
theorem dig_in {c : Nat} (h : isDig c = true) : 48 ≤ c ∧ c ≤ 57 := by simpa [isDig] using h
/-- What the reference's letter says. -/
def LetterOut (t : Nm.Bytes) (k : Nat) (c : UInt8) (n : Nat) : Prop :=
  (n = 0 ∧ ∀ s : Scan, s.esc = 0 → ∀ s', runS s (t.drop k) = some s' → 0 < s'.esc) ∨
  (1 ≤ n ∧ k + n ≤ t.length ∧ ∀ s : Scan, s.esc = 0 → ∃ v, runS s ((t.drop k).take n) = some { s with label := s.label ++ [c], val := v })
section
variable {t : Nm.Bytes} {k : Nat} {c d d2 d3 : UInt8}
theorem lo_out (h : t[k]? = some c) (hc : c.toNat < 33 ∨ 126 < c.toNat) : LetterOut t k 0 0 := Or.inl ⟨rfl, fun s hs s' hr => by
  rw [dropc h] at hr; simp [runS, take_out s c.toNat hc] at hr⟩
theorem lo_one (h : t[k]? = some c) (h1 : 33 ≤ c.toNat) (h2 : c.toNat ≤ 126) (h3 : c.toNat ≠ 92) (h4 : c.toNat ≠ 46) : LetterOut t k c 1 := Or.inr ⟨Nat.le_refl _, (List.getElem?_eq_some_iff.1 h).1, fun s hs => ⟨s.val, by
  rw [dropc h]
  have : takeS s c.toNat = (true, { s with label := s.label ++ [c] }) := by
    unfold takeS; rw [if_neg (by omega), if_neg (by omega), if_neg h3, if_neg h4]; simp
  simp [runS, this]⟩⟩
theorem lo_end (h : t[k]? = some 92) (hl : t.length ≤ k + 1) : LetterOut t k 0 0 := Or.inl ⟨rfl, fun s hs s' hr => by
  rw [dropc h, drop_end hl] at hr
  simp [runS, take_92 s hs] at hr
  rw [← hr]; exact Nat.one_pos⟩
theorem lo_two (h : t[k]? = some 92) (hd : t[k + 1]? = some d) (h1 : 33 ≤ d.toNat) (h2 : d.toNat ≤ 126) (h3 : isDig d.toNat = false) : LetterOut t k d 2 := Or.inr ⟨by decide, (List.getElem?_eq_some_iff.1 hd).1, fun s hs => ⟨0, by
  rw [dropc h, dropc hd]
  have e2 : takeS { s with esc := 1, val := 0 } d.toNat = (true, { s with label := s.label ++ [d], val := 0 }) := by
    rw [take_esc _ _ Nat.one_pos h1 h2]
    unfold escS
    rw [if_neg (by simp [h3]), if_neg (by simp)]
    obtain ⟨ls, lb, esc, val⟩ := s; simp only at hs; subst hs
    simp
  simp [runS, take_92 s hs, e2]⟩⟩
theorem lo_two_out (h : t[k]? = some 92) (hd : t[k + 1]? = some d) (h1 : d.toNat < 33 ∨ 126 < d.toNat) : LetterOut t k 0 0 := Or.inl ⟨rfl, fun s hs s' hr => by
  rw [dropc h, dropc hd] at hr
  simp [runS, take_92 s hs, take_out _ d.toNat h1] at hr⟩
theorem run_dig (s : Scan) (c : UInt8) (r : Nm.Bytes) (h : isDig c.toNat = true) (h0 : 0 < s.esc) (h3 : s.esc < 3) : runS s (c :: r) = runS { s with val := s.val * 10 + (c.toNat - 48), esc := s.esc + 1 } r := by
  have := dig_in h
  simp [runS, take_esc s c.toNat h0 (by omega) (by omega), esc_dig s c.toNat h h3]
theorem run_nodig (s : Scan) (c : UInt8) (r : Nm.Bytes) (h : isDig c.toNat = false) (h0 : 1 < s.esc) : runS s (c :: r) = none := by
  by_cases hc : c.toNat < 33 ∨ 126 < c.toNat
  · simp [runS, take_out s c.toNat hc]
  · simp [runS, take_esc s c.toNat (by omega) (by omega) (by omega), esc_no s c.toNat h h0]
theorem run_92 (s : Scan) (r : Nm.Bytes) (hs : s.esc = 0) : runS s (92 :: r) = runS { s with esc := 1, val := 0 } r := by
  have := take_92 s hs
  simp [runS, this]
theorem lo_short (h : t[k]? = some 92) (hd : t[k + 1]? = some d) (h1 : isDig d.toNat = true) (hl : t.length ≤ k + 3) : LetterOut t k 0 0 := Or.inl ⟨rfl, fun s hs s' hr => by
  rw [dropc h, dropc hd, run_92 s _ hs, run_dig _ _ _ h1 (by simp) (by simp)] at hr
  cases e : t[k + 2]? with
  | none =>
    rw [drop_end (by simpa using e)] at hr
    simp [runS] at hr
    rw [← hr]; exact Nat.succ_pos _
  | some x =>
    rw [dropc e, drop_end hl] at hr
    cases hx : isDig x.toNat with
    | true =>
      rw [run_dig _ _ _ hx (by simp) (by simp)] at hr
      simp [runS] at hr
      rw [← hr]; exact Nat.succ_pos _
    | false => rw [run_nodig _ _ _ hx (by simp)] at hr; cases hr⟩
theorem lo_no2 (h : t[k]? = some 92) (hd : t[k + 1]? = some d) (h1 : isDig d.toNat = true) (hd2 : t[k + 2]? = some d2) (h2 : isDig d2.toNat = false) : LetterOut t k 0 0 := Or.inl ⟨rfl, fun s hs s' hr => by
  rw [dropc h, dropc hd, run_92 s _ hs, run_dig _ _ _ h1 (by simp) (by simp), dropc hd2, run_nodig _ _ _ h2 (by simp)] at hr
  cases hr⟩
theorem lo_no3 (h : t[k]? = some 92) (hd : t[k + 1]? = some d) (h1 : isDig d.toNat = true) (hd2 : t[k + 2]? = some d2) (h2 : isDig d2.toNat = true) (hd3 : t[k + 3]? = some d3) (h3 : isDig d3.toNat = false) : LetterOut t k 0 0 := Or.inl ⟨rfl, fun s hs s' hr => by
  rw [dropc h, dropc hd, run_92 s _ hs, run_dig _ _ _ h1 (by simp) (by simp), dropc hd2, run_dig _ _ _ h2 (by simp) (by simp), dropc hd3, run_nodig _ _ _ h3 (by simp)] at hr
  cases hr⟩
theorem run_dig3 (s : Scan) (c : UInt8) (r : Nm.Bytes) (h : isDig c.toNat = true) (h3 : s.esc = 3) (m : Nat) (hm : s.val * 10 + (c.toNat - 48) = m) : runS s (c :: r) = if 255 < m then none else runS { s with label := s.label ++ [UInt8.ofNat m], val := m, esc := 0 } r := by
  have := dig_in h
  have e : takeS s c.toNat = if 255 < m then (false, { s with val := m }) else (true, { s with label := s.label ++ [UInt8.ofNat m], val := m, esc := 0 }) := by
    rw [take_esc s c.toNat (by omega) (by omega) (by omega)]
    unfold escS
    rw [if_pos h, if_neg (by omega), hm]
  by_cases hb : 255 < m
  · rw [if_pos hb] at e ⊢
    simp [runS, e]
  · rw [if_neg hb] at e ⊢
    simp [runS, e]
theorem lo_big (h : t[k]? = some 92) (hd : t[k + 1]? = some d) (h1 : isDig d.toNat = true) (hd2 : t[k + 2]? = some d2) (h2 : isDig d2.toNat = true) (hd3 : t[k + 3]? = some d3) (h3 : isDig d3.toNat = true) (hb : 255 < 100 * (d.toNat - 48) + 10 * (d2.toNat - 48) + (d3.toNat - 48)) : LetterOut t k 0 0 := Or.inl ⟨rfl, fun s hs s' hr => by
  rw [dropc h, dropc hd, run_92 s _ hs, run_dig _ _ _ h1 (by simp) (by simp), dropc hd2, run_dig _ _ _ h2 (by simp) (by simp), dropc hd3, run_dig3 _ _ _ h3 rfl (100 * (d.toNat - 48) + 10 * (d2.toNat - 48) + (d3.toNat - 48)) (by dsimp only; omega), if_pos hb] at hr
  cases hr⟩
theorem lo_four (h : t[k]? = some 92) (hd : t[k + 1]? = some d) (h1 : isDig d.toNat = true) (hd2 : t[k + 2]? = some d2) (h2 : isDig d2.toNat = true) (hd3 : t[k + 3]? = some d3) (h3 : isDig d3.toNat = true) {n : Nat} (hn : n = 100 * (d.toNat - 48) + 10 * (d2.toNat - 48) + (d3.toNat - 48)) (hb : n ≤ 255) : LetterOut t k (UInt8.ofNat n) 4 := Or.inr ⟨by decide, (List.getElem?_eq_some_iff.1 hd3).1, fun s hs => ⟨n, by
  rw [dropc h, dropc hd, dropc hd2, dropc hd3]
  simp only [List.take_succ_cons, List.take_zero]
  rw [run_92 s _ hs, run_dig _ _ _ h1 (by simp) (by simp), run_dig _ _ _ h2 (by simp) (by simp), run_dig3 _ _ _ h3 rfl n (by dsimp only; omega), if_neg (by omega)]
  obtain ⟨ls, lb, esc, val⟩ := s; simp only at hs; subst hs
  simp [runS]⟩⟩
end
theorem digit_S {G : World} {L : Blocks} (c : UInt8) : Spec Tryd.prog G 81 #[.int .u8 (c.toNat : Int)] L fun u M => u = .bool (isDig c.toNat) ∧ M = L := by
  by_cases h1 : 48 ≤ c.toNat
  · have e1 : decide ((48 : Int) ≤ (c.toNat : Int)) = true := decide_eq_true (by omega)
    refine Spec_of (n := 9) Tryd.func81 rfl rfl rfl ?_
    repeat (first | with_reducible refine T_seq ?_ | with_reducible refine T_block ?_ | with_reducible refine T_region ?_ | with_reducible refine TL_nil ?_ | with_reducible refine TQ_then ?_ | with_reducible refine TQ_block ?_ | with_reducible refine T_skip ?_ | with_reducible refine T_label ?_ | with_reducible refine T_exit ?_ | with_reducible refine T_ret ?_ | with_reducible refine TQ_then_exit ?_ | with_reducible refine TQ_then_ret ?_ | with_reducible refine TQ_then_goto ?_ | with_reducible refine TQ_block_exit ?_ | with_reducible refine TQ_block_ret ?_ | with_reducible refine TQ_block_goto ?_ | with_reducible refine TQ_fall ?_ | (refine TQ_block_past ?_ ?_; (· decide)) | refine TL_q (op_move rfl) rfl ?_ | refine TL_q (op_assign rfl) rfl ?_ | (refine' TL_q (op_bin rfl rfl ?_) rfl ?_; rotate_left 1; (· first | exact bin_leq | exact bin_geq)) | (refine' TL_q (op_pickT rfl ?_ rfl) rfl ?_; (· first | with_reducible rfl | assumption | exact Bool.not_false | exact Bool.not_true)) | (refine' TL_q (op_pickF rfl ?_ rfl) rfl ?_; (· first | with_reducible rfl | assumption | exact Bool.not_false | exact Bool.not_true)) | (refine TL_gpre rfl rfl ?_ ?_; (· first | with_reducible rfl | assumption | exact Bool.not_false | exact Bool.not_true)) | refine TL_gq2 (op_move rfl) rfl ?_ | refine TL_gq2 (op_assign rfl) rfl ?_ | (refine' TL_gq2 (op_bin rfl rfl ?_) rfl ?_; rotate_left 1; (· first | exact bin_leq | exact bin_geq)) | (refine' TL_gq2 (op_pickT rfl ?_ rfl) rfl ?_; (· first | with_reducible rfl | assumption | exact Bool.not_false | exact Bool.not_true)) | (refine' TL_gq2 (op_pickF rfl ?_ rfl) rfl ?_; (· first | with_reducible rfl | assumption | exact Bool.not_false | exact Bool.not_true)) | (refine TL_gno rfl rfl ?_ rfl ?_; (· first | with_reducible rfl | assumption | exact Bool.not_false | exact Bool.not_true)) | refine TL_gundef rfl rfl rfl ?_ | (refine T_yes rfl ?_ ?_; (· first | with_reducible rfl | assumption | exact Bool.not_false | exact Bool.not_true)) | (refine T_no rfl ?_ ?_; (· first | with_reducible rfl | assumption | exact Bool.not_false | exact Bool.not_true)))
    refine TQ_ret1 2 _ rfl rfl ?_
    exact ⟨by
      have : decide ((c.toNat : Int) ≤ 57) = isDig c.toNat := by
        simp only [isDig, decide_eq_true h1, Bool.true_and]; congr 1; exact propext ⟨fun _ => by omega, fun _ => by omega⟩
      rw [this], rfl⟩
  · have e1 : decide ((48 : Int) ≤ (c.toNat : Int)) = false := decide_eq_false (by omega)
    refine Spec_of (n := 9) Tryd.func81 rfl rfl rfl ?_
    repeat (first | with_reducible refine T_seq ?_ | with_reducible refine T_block ?_ | with_reducible refine T_region ?_ | with_reducible refine TL_nil ?_ | with_reducible refine TQ_then ?_ | with_reducible refine TQ_block ?_ | with_reducible refine T_skip ?_ | with_reducible refine T_label ?_ | with_reducible refine T_exit ?_ | with_reducible refine T_ret ?_ | with_reducible refine TQ_then_exit ?_ | with_reducible refine TQ_then_ret ?_ | with_reducible refine TQ_then_goto ?_ | with_reducible refine TQ_block_exit ?_ | with_reducible refine TQ_block_ret ?_ | with_reducible refine TQ_block_goto ?_ | with_reducible refine TQ_fall ?_ | (refine TQ_block_past ?_ ?_; (· decide)) | refine TL_q (op_move rfl) rfl ?_ | refine TL_q (op_assign rfl) rfl ?_ | (refine' TL_q (op_bin rfl rfl ?_) rfl ?_; rotate_left 1; (· first | exact bin_leq | exact bin_geq)) | (refine' TL_q (op_pickT rfl ?_ rfl) rfl ?_; (· first | with_reducible rfl | assumption | exact Bool.not_false | exact Bool.not_true)) | (refine' TL_q (op_pickF rfl ?_ rfl) rfl ?_; (· first | with_reducible rfl | assumption | exact Bool.not_false | exact Bool.not_true)) | (refine TL_gpre rfl rfl ?_ ?_; (· first | with_reducible rfl | assumption | exact Bool.not_false | exact Bool.not_true)) | refine TL_gq2 (op_move rfl) rfl ?_ | refine TL_gq2 (op_assign rfl) rfl ?_ | (refine' TL_gq2 (op_bin rfl rfl ?_) rfl ?_; rotate_left 1; (· first | exact bin_leq | exact bin_geq)) | (refine' TL_gq2 (op_pickT rfl ?_ rfl) rfl ?_; (· first | with_reducible rfl | assumption | exact Bool.not_false | exact Bool.not_true)) | (refine' TL_gq2 (op_pickF rfl ?_ rfl) rfl ?_; (· first | with_reducible rfl | assumption | exact Bool.not_false | exact Bool.not_true)) | (refine TL_gno rfl rfl ?_ rfl ?_; (· first | with_reducible rfl | assumption | exact Bool.not_false | exact Bool.not_true)) | refine TL_gundef rfl rfl rfl ?_ | (refine T_yes rfl ?_ ?_; (· first | with_reducible rfl | assumption | exact Bool.not_false | exact Bool.not_true)) | (refine T_no rfl ?_ ?_; (· first | with_reducible rfl | assumption | exact Bool.not_false | exact Bool.not_true)))
    refine TQ_ret1 2 _ rfl rfl ?_
    exact ⟨by simp [isDig, h1], rfl⟩
end Go.Proofs.YtnhlpifbadncmaaDoor
namespace Go.Proofs.YtnhlpifbadncmaaDoor
open Go.RowKit
set_option linter.unusedVariables false
set_option linter.unusedSimpArgs false
def letOut (c : UInt8) (n : Nat) : Value := .tuple #[.int .u8 (c.toNat : Int), .int .i64 (n : Nat)]
set_option maxRecDepth 100000 in
set_option maxHeartbeats 4000000 in
theorem letter_S {G : World} {L : Blocks} (t : Nm.Bytes) (k : Nat) (c : UInt8) (hc : t[k]? = some c) (h46 : c.toNat ≠ 46) (ht : t.length ≤ 100000) :
    Spec Tryd.prog G 70 #[.string (bs t), .int .i64 (k : Nat)] L fun u M => (∃ d n, u = letOut d n ∧ LetterOut t k d n) ∧ M = L := by
  have hkl := (List.getElem?_eq_some_iff.1 hc).1
  have i0 : t[Int.toNat ((k : Nat) : Int)]? = some c := by simpa using hc
  have hc256 := c.toNat_lt
  by_cases h1 : c.toNat < 33
  · have e1 : decide ((c.toNat : Int) < 33) = true := decide_eq_true (by omega)
    refine Spec_of (n := 103) Tryd.func70 rfl rfl rfl ?_
    repeat ((first | with_reducible refine T_seq ?_ | with_reducible refine T_region ?_ | with_reducible refine TL_nil ?_ | with_reducible refine TQ_then ?_ | with_reducible refine T_ret ?_ | with_reducible refine TQ_then_ret ?_ | refine TL_q (op_move rfl) rfl ?_ | refine TL_q (op_assign rfl) rfl ?_ | (refine' TL_q (op_bin rfl rfl ?_) rfl ?_; rotate_left 1; (· (exact bin_lss))) | (refine' TL_q (op_pickT rfl ?_ rfl) rfl ?_; (· (assumption))) | (refine' TL_q (op_index_str rfl rfl Tryd.underlying9 ?_ ?_) rfl ?_; rotate_left 1; (· omega); (· (assumption))) | (refine TL_gno rfl rfl ?_ rfl ?_; (· (assumption))) | (refine T_yes rfl ?_ ?_; (· (with_reducible rfl)))))
    refine TQ_ret2 4 5 _ _ rfl rfl rfl ?_
    exact ⟨⟨0, 0, rfl, lo_out hc (Or.inl h1)⟩, rfl⟩
  have e1 : decide ((c.toNat : Int) < 33) = false := decide_eq_false (by omega)
  by_cases h2 : 126 < c.toNat
  · have e2 : decide ((126 : Int) < (c.toNat : Int)) = true := decide_eq_true (by omega)
    refine Spec_of (n := 103) Tryd.func70 rfl rfl rfl ?_
    repeat ((first | with_reducible refine T_seq ?_ | with_reducible refine T_region ?_ | with_reducible refine TL_nil ?_ | with_reducible refine TQ_then ?_ | with_reducible refine T_ret ?_ | with_reducible refine TQ_then_ret ?_ | refine TL_q (op_move rfl) rfl ?_ | refine TL_q (op_assign rfl) rfl ?_ | (refine' TL_q (op_bin rfl rfl ?_) rfl ?_; rotate_left 1; (· (exact bin_lss))) | (refine' TL_q (op_pickF rfl ?_ rfl) rfl ?_; (· (assumption))) | (refine' TL_q (op_index_str rfl rfl Tryd.underlying9 ?_ ?_) rfl ?_; rotate_left 1; (· omega); (· (assumption))) | (refine TL_gpre rfl rfl ?_ ?_; (· (assumption))) | refine TL_gq2 (op_move rfl) rfl ?_ | (refine' TL_gq2 (op_bin rfl rfl ?_) rfl ?_; rotate_left 1; (· (exact bin_gtr))) | (refine T_yes rfl ?_ ?_; (· (assumption)))))
    refine TQ_ret2 4 5 _ _ rfl rfl rfl ?_
    exact ⟨⟨0, 0, rfl, lo_out hc (Or.inr h2)⟩, rfl⟩
  have e2 : decide ((126 : Int) < (c.toNat : Int)) = false := decide_eq_false (by omega)
  by_cases h3 : c.toNat = 92
  case neg =>
    have e3 : ((c.toNat : Int) != 92) = true := by simp; omega
    refine Spec_of (n := 103) Tryd.func70 rfl rfl rfl ?_
    repeat ((first | with_reducible refine T_seq ?_ | with_reducible refine T_region ?_ | with_reducible refine TL_nil ?_ | with_reducible refine TQ_then ?_ | with_reducible refine T_skip ?_ | with_reducible refine T_ret ?_ | with_reducible refine TQ_then_ret ?_ | refine TL_q (op_move rfl) rfl ?_ | refine TL_q (op_assign rfl) rfl ?_ | (refine' TL_q (op_bin rfl rfl ?_) rfl ?_; rotate_left 1; (· (first | exact bin_neq | exact bin_lss))) | (refine' TL_q (op_pickF rfl ?_ rfl) rfl ?_; (· (assumption))) | (refine' TL_q (op_index_str rfl rfl Tryd.underlying9 ?_ ?_) rfl ?_; rotate_left 1; (· omega); (· (assumption))) | (refine TL_gpre rfl rfl ?_ ?_; (· (assumption))) | refine TL_gq2 (op_move rfl) rfl ?_ | (refine' TL_gq2 (op_bin rfl rfl ?_) rfl ?_; rotate_left 1; (· (exact bin_gtr))) | (refine T_yes rfl ?_ ?_; (· (assumption))) | (refine T_no rfl ?_ ?_; (· (assumption)))))
    refine TQ_ret2 4 5 _ _ rfl rfl rfl ?_
    exact ⟨⟨c, 1, rfl, lo_one hc (by omega) (by omega) h3 h46⟩, rfl⟩
  have e3 : ((c.toNat : Int) != 92) = false := by simp; omega
  have hc92 : t[k]? = some 92 := by rw [hc]; congr 1; exact UInt8.toNat_inj.1 h3
  by_cases hl1 : k + 1 < t.length
  case neg =>
    have g1 : decide (((k : Nat) : Int) + 1 < ((t.length : Nat) : Int)) = false := decide_eq_false (by omega)
    have g3 : decide (((k : Nat) : Int) + 3 < ((t.length : Nat) : Int)) = false := decide_eq_false (by omega)
    refine Spec_of (n := 103) Tryd.func70 rfl rfl rfl ?_
    repeat ((first | with_reducible refine T_seq ?_ | with_reducible refine T_region ?_ | with_reducible refine TL_nil ?_ | with_reducible refine TQ_then ?_ | with_reducible refine T_skip ?_ | with_reducible refine T_ret ?_ | refine TL_q (op_move rfl) rfl ?_ | refine TL_q (op_assign rfl) rfl ?_ | (refine' TL_q (op_bin rfl rfl ?_) rfl ?_; rotate_left 1; (· (first | exact bin_add ⟨by omega, by omega⟩ | exact bin_neq | exact bin_lss))) | (refine' TL_q (op_pickF rfl ?_ rfl) rfl ?_; (· (first | with_reducible rfl | assumption | exact Bool.not_true))) | refine TL_q (op_len_str rfl Tryd.underlying9) rfl ?_ | (refine' TL_q (op_index_str rfl rfl Tryd.underlying9 ?_ ?_) rfl ?_; rotate_left 1; (· omega); (· (assumption))) | (refine TL_gpre rfl rfl ?_ ?_; (· (exact Bool.not_true))) | refine TL_gq2 (op_move rfl) rfl ?_ | (refine' TL_gq2 (op_bin rfl rfl ?_) rfl ?_; rotate_left 1; (· (exact bin_gtr))) | (refine TL_gno rfl rfl ?_ rfl ?_; (· (first | assumption | exact Bool.not_true))) | (refine T_no rfl ?_ ?_; (· (first | with_reducible rfl | exact Bool.not_true)))))
    refine TQ_ret2 4 5 _ _ rfl rfl rfl ?_
    exact ⟨⟨0, 0, rfl, lo_end hc92 (by omega)⟩, rfl⟩
  have g1 : decide (((k : Nat) : Int) + 1 < ((t.length : Nat) : Int)) = true := decide_eq_true (by omega)
  obtain ⟨d, hd⟩ : ∃ d, t[k + 1]? = some d := ⟨_, List.getElem?_eq_getElem hl1⟩
  have i1 : t[Int.toNat (((k : Nat) : Int) + 1)]? = some d := by rw [show (((k : Nat) : Int) + 1).toNat = k + 1 by omega]; exact hd
  have hd256 := d.toNat_lt
  cases hdg : isDig d.toNat with
  | false =>
    have n1 : (!isDig d.toNat) = true := by rw [hdg]; rfl
    by_cases h4 : 33 ≤ d.toNat
    case pos =>
      have e4 : decide ((33 : Int) ≤ (d.toNat : Int)) = true := decide_eq_true (by omega)
      by_cases h5 : d.toNat ≤ 126
      case pos =>
        have e5 : decide ((d.toNat : Int) ≤ 126) = true := decide_eq_true (by omega)
        refine Spec_of (n := 103) Tryd.func70 rfl rfl rfl ?_
        repeat ((first | with_reducible refine T_seq ?_ | with_reducible refine T_region ?_ | with_reducible refine TL_nil ?_ | with_reducible refine TQ_then ?_ | with_reducible refine T_skip ?_ | with_reducible refine T_ret ?_ | with_reducible refine TQ_then_ret ?_ | refine TL_q (op_move rfl) rfl ?_ | refine TL_q (op_assign rfl) rfl ?_ | (refine' TL_q (op_bin rfl rfl ?_) rfl ?_; rotate_left 1; (· (first | exact bin_add ⟨by omega, by omega⟩ | exact bin_neq | exact bin_lss))) | (refine' TL_q (op_pickT rfl ?_ rfl) rfl ?_; (· (assumption))) | (refine' TL_q (op_pickF rfl ?_ rfl) rfl ?_; (· (exact Bool.not_true))) | refine TL_q (op_len_str rfl Tryd.underlying9) rfl ?_ | (refine' TL_q (op_index_str rfl rfl Tryd.underlying9 ?_ ?_) rfl ?_; rotate_left 1; (· omega); (· (assumption))) | (refine' TG_op (op_call hb_81 rfl (digit_S _ )) rfl ?_) | (refine TL_gpre rfl rfl ?_ ?_; (· (first | assumption | exact Bool.not_true))) | refine TL_gq2 (op_move rfl) rfl ?_ | (refine' TL_gq2 (op_bin rfl rfl ?_) rfl ?_; rotate_left 1; (· (first | exact bin_add ⟨by omega, by omega⟩ | exact bin_leq | exact bin_gtr | exact bin_geq))) | refine TL_gq2 (op_not rfl) rfl ?_ | (refine' TL_gq2 (op_index_str rfl rfl Tryd.underlying9 ?_ ?_) rfl ?_; rotate_left 1; (· omega); (· (assumption))) | (refine T_yes rfl ?_ ?_; (· (assumption))) | (refine T_no rfl ?_ ?_; (· (exact Bool.not_true)))))
        refine TQ_ret2 4 5 _ _ rfl rfl rfl ?_
        exact ⟨⟨d, 2, rfl, lo_two hc92 hd h4 h5 hdg⟩, rfl⟩
      case neg =>
        have e5 : decide ((d.toNat : Int) ≤ 126) = false := decide_eq_false (by omega)
        by_cases hl3 : k + 3 < t.length
        · have g3 : decide (((k : Nat) : Int) + 3 < ((t.length : Nat) : Int)) = true := decide_eq_true (by omega)
          refine Spec_of (n := 103) Tryd.func70 rfl rfl rfl ?_
          repeat ((first | with_reducible refine T_seq ?_ | with_reducible refine T_region ?_ | with_reducible refine TL_nil ?_ | with_reducible refine TQ_then ?_ | with_reducible refine T_skip ?_ | with_reducible refine T_ret ?_ | refine TL_q (op_move rfl) rfl ?_ | refine TL_q (op_assign rfl) rfl ?_ | (refine' TL_q (op_bin rfl rfl ?_) rfl ?_; rotate_left 1; (· (first | exact bin_add ⟨by omega, by omega⟩ | exact bin_neq | exact bin_lss))) | (refine' TL_q (op_pickT rfl ?_ rfl) rfl ?_; (· (assumption))) | (refine' TL_q (op_pickF rfl ?_ rfl) rfl ?_; (· (first | with_reducible rfl | assumption | exact Bool.not_true))) | refine TL_q (op_len_str rfl Tryd.underlying9) rfl ?_ | (refine' TL_q (op_index_str rfl rfl Tryd.underlying9 ?_ ?_) rfl ?_; rotate_left 1; (· omega); (· (assumption))) | (refine' TG_op (op_call hb_81 rfl (digit_S _ )) rfl ?_) | (refine TL_gpre rfl rfl ?_ ?_; (· (first | assumption | exact Bool.not_true))) | refine TL_gq2 (op_move rfl) rfl ?_ | (refine' TL_gq2 (op_bin rfl rfl ?_) rfl ?_; rotate_left 1; (· (first | exact bin_add ⟨by omega, by omega⟩ | exact bin_leq | exact bin_gtr | exact bin_geq))) | refine TL_gq2 (op_not rfl) rfl ?_ | (refine' TL_gq2 (op_index_str rfl rfl Tryd.underlying9 ?_ ?_) rfl ?_; rotate_left 1; (· omega); (· (assumption))) | (refine TL_gno rfl rfl ?_ rfl ?_; (· (first | assumption | exact Bool.not_true))) | (refine T_no rfl ?_ ?_; (· (first | with_reducible rfl | assumption | exact Bool.not_true)))))
          refine TQ_ret2 4 5 _ _ rfl rfl rfl ?_
          exact ⟨⟨0, 0, rfl, lo_two_out hc92 hd (by omega)⟩, rfl⟩
        · have g3 : decide (((k : Nat) : Int) + 3 < ((t.length : Nat) : Int)) = false := decide_eq_false (by omega)
          refine Spec_of (n := 103) Tryd.func70 rfl rfl rfl ?_
          repeat ((first | with_reducible refine T_seq ?_ | with_reducible refine T_region ?_ | with_reducible refine TL_nil ?_ | with_reducible refine TQ_then ?_ | with_reducible refine T_skip ?_ | with_reducible refine T_ret ?_ | refine TL_q (op_move rfl) rfl ?_ | refine TL_q (op_assign rfl) rfl ?_ | (refine' TL_q (op_bin rfl rfl ?_) rfl ?_; rotate_left 1; (· (first | exact bin_add ⟨by omega, by omega⟩ | exact bin_neq | exact bin_lss))) | (refine' TL_q (op_pickT rfl ?_ rfl) rfl ?_; (· (assumption))) | (refine' TL_q (op_pickF rfl ?_ rfl) rfl ?_; (· (first | with_reducible rfl | assumption | exact Bool.not_true))) | refine TL_q (op_len_str rfl Tryd.underlying9) rfl ?_ | (refine' TL_q (op_index_str rfl rfl Tryd.underlying9 ?_ ?_) rfl ?_; rotate_left 1; (· omega); (· (assumption))) | (refine' TG_op (op_call hb_81 rfl (digit_S _ )) rfl ?_) | (refine TL_gpre rfl rfl ?_ ?_; (· (first | assumption | exact Bool.not_true))) | refine TL_gq2 (op_move rfl) rfl ?_ | (refine' TL_gq2 (op_bin rfl rfl ?_) rfl ?_; rotate_left 1; (· (first | exact bin_add ⟨by omega, by omega⟩ | exact bin_leq | exact bin_gtr | exact bin_geq))) | refine TL_gq2 (op_not rfl) rfl ?_ | (refine' TL_gq2 (op_index_str rfl rfl Tryd.underlying9 ?_ ?_) rfl ?_; rotate_left 1; (· omega); (· (assumption))) | (refine TL_gno rfl rfl ?_ rfl ?_; (· (first | assumption | exact Bool.not_true))) | (refine T_no rfl ?_ ?_; (· (first | with_reducible rfl | assumption | exact Bool.not_true)))))
          refine TQ_ret2 4 5 _ _ rfl rfl rfl ?_
          exact ⟨⟨0, 0, rfl, lo_two_out hc92 hd (by omega)⟩, rfl⟩
    case neg =>
      have e4 : decide ((33 : Int) ≤ (d.toNat : Int)) = false := decide_eq_false (by omega)
      by_cases hl3 : k + 3 < t.length
      · have g3 : decide (((k : Nat) : Int) + 3 < ((t.length : Nat) : Int)) = true := decide_eq_true (by omega)
        refine Spec_of (n := 103) Tryd.func70 rfl rfl rfl ?_
        repeat ((first | with_reducible refine T_seq ?_ | with_reducible refine T_region ?_ | with_reducible refine TL_nil ?_ | with_reducible refine TQ_then ?_ | with_reducible refine T_skip ?_ | with_reducible refine T_ret ?_ | refine TL_q (op_move rfl) rfl ?_ | refine TL_q (op_assign rfl) rfl ?_ | (refine' TL_q (op_bin rfl rfl ?_) rfl ?_; rotate_left 1; (· (first | exact bin_add ⟨by omega, by omega⟩ | exact bin_neq | exact bin_lss))) | (refine' TL_q (op_pickT rfl ?_ rfl) rfl ?_; (· (assumption))) | (refine' TL_q (op_pickF rfl ?_ rfl) rfl ?_; (· (first | with_reducible rfl | assumption | exact Bool.not_true))) | refine TL_q (op_len_str rfl Tryd.underlying9) rfl ?_ | (refine' TL_q (op_index_str rfl rfl Tryd.underlying9 ?_ ?_) rfl ?_; rotate_left 1; (· omega); (· (assumption))) | (refine' TG_op (op_call hb_81 rfl (digit_S _ )) rfl ?_) | (refine TL_gpre rfl rfl ?_ ?_; (· (first | assumption | exact Bool.not_true))) | refine TL_gq2 (op_move rfl) rfl ?_ | (refine' TL_gq2 (op_bin rfl rfl ?_) rfl ?_; rotate_left 1; (· (first | exact bin_add ⟨by omega, by omega⟩ | exact bin_gtr | exact bin_geq))) | refine TL_gq2 (op_not rfl) rfl ?_ | (refine' TL_gq2 (op_index_str rfl rfl Tryd.underlying9 ?_ ?_) rfl ?_; rotate_left 1; (· omega); (· (assumption))) | (refine TL_gno rfl rfl ?_ rfl ?_; (· (first | assumption | exact Bool.not_true))) | (refine T_no rfl ?_ ?_; (· (first | with_reducible rfl | exact Bool.not_true)))))
        refine TQ_ret2 4 5 _ _ rfl rfl rfl ?_
        exact ⟨⟨0, 0, rfl, lo_two_out hc92 hd (by omega)⟩, rfl⟩
      · have g3 : decide (((k : Nat) : Int) + 3 < ((t.length : Nat) : Int)) = false := decide_eq_false (by omega)
        refine Spec_of (n := 103) Tryd.func70 rfl rfl rfl ?_
        repeat ((first | with_reducible refine T_seq ?_ | with_reducible refine T_region ?_ | with_reducible refine TL_nil ?_ | with_reducible refine TQ_then ?_ | with_reducible refine T_skip ?_ | with_reducible refine T_ret ?_ | refine TL_q (op_move rfl) rfl ?_ | refine TL_q (op_assign rfl) rfl ?_ | (refine' TL_q (op_bin rfl rfl ?_) rfl ?_; rotate_left 1; (· (first | exact bin_add ⟨by omega, by omega⟩ | exact bin_neq | exact bin_lss))) | (refine' TL_q (op_pickT rfl ?_ rfl) rfl ?_; (· (assumption))) | (refine' TL_q (op_pickF rfl ?_ rfl) rfl ?_; (· (first | with_reducible rfl | assumption | exact Bool.not_true))) | refine TL_q (op_len_str rfl Tryd.underlying9) rfl ?_ | (refine' TL_q (op_index_str rfl rfl Tryd.underlying9 ?_ ?_) rfl ?_; rotate_left 1; (· omega); (· (assumption))) | (refine' TG_op (op_call hb_81 rfl (digit_S _ )) rfl ?_) | (refine TL_gpre rfl rfl ?_ ?_; (· (first | assumption | exact Bool.not_true))) | refine TL_gq2 (op_move rfl) rfl ?_ | (refine' TL_gq2 (op_bin rfl rfl ?_) rfl ?_; rotate_left 1; (· (first | exact bin_add ⟨by omega, by omega⟩ | exact bin_gtr | exact bin_geq))) | refine TL_gq2 (op_not rfl) rfl ?_ | (refine' TL_gq2 (op_index_str rfl rfl Tryd.underlying9 ?_ ?_) rfl ?_; rotate_left 1; (· omega); (· (assumption))) | (refine TL_gno rfl rfl ?_ rfl ?_; (· (first | assumption | exact Bool.not_true))) | (refine T_no rfl ?_ ?_; (· (first | with_reducible rfl | exact Bool.not_true)))))
        refine TQ_ret2 4 5 _ _ rfl rfl rfl ?_
        exact ⟨⟨0, 0, rfl, lo_two_out hc92 hd (by omega)⟩, rfl⟩
  | true =>
    have n1 : (!isDig d.toNat) = false := by rw [hdg]; rfl
    have r1 := dig_in hdg
    by_cases hl3 : k + 3 < t.length
    case neg =>
      have g3 : decide (((k : Nat) : Int) + 3 < ((t.length : Nat) : Int)) = false := decide_eq_false (by omega)
      refine Spec_of (n := 103) Tryd.func70 rfl rfl rfl ?_
      repeat ((first | with_reducible refine T_seq ?_ | with_reducible refine T_region ?_ | with_reducible refine TL_nil ?_ | with_reducible refine TQ_then ?_ | with_reducible refine T_skip ?_ | with_reducible refine T_ret ?_ | refine TL_q (op_move rfl) rfl ?_ | refine TL_q (op_assign rfl) rfl ?_ | (refine' TL_q (op_bin rfl rfl ?_) rfl ?_; rotate_left 1; (· (first | exact bin_add ⟨by omega, by omega⟩ | exact bin_neq | exact bin_lss))) | (refine' TL_q (op_pickT rfl ?_ rfl) rfl ?_; (· (assumption))) | (refine' TL_q (op_pickF rfl ?_ rfl) rfl ?_; (· (first | with_reducible rfl | assumption | exact Bool.not_true))) | refine TL_q (op_len_str rfl Tryd.underlying9) rfl ?_ | (refine' TL_q (op_index_str rfl rfl Tryd.underlying9 ?_ ?_) rfl ?_; rotate_left 1; (· omega); (· (assumption))) | (refine' TG_op (op_call hb_81 rfl (digit_S _ )) rfl ?_) | (refine TL_gpre rfl rfl ?_ ?_; (· (first | assumption | exact Bool.not_true))) | refine TL_gq2 (op_move rfl) rfl ?_ | (refine' TL_gq2 (op_bin rfl rfl ?_) rfl ?_; rotate_left 1; (· (first | exact bin_add ⟨by omega, by omega⟩ | exact bin_gtr))) | refine TL_gq2 (op_not rfl) rfl ?_ | (refine' TL_gq2 (op_index_str rfl rfl Tryd.underlying9 ?_ ?_) rfl ?_; rotate_left 1; (· omega); (· (assumption))) | (refine TL_gno rfl rfl ?_ rfl ?_; (· (first | assumption | exact Bool.not_true))) | (refine T_no rfl ?_ ?_; (· (first | with_reducible rfl | exact Bool.not_true)))))
      refine TQ_ret2 4 5 _ _ rfl rfl rfl ?_
      exact ⟨⟨0, 0, rfl, lo_short hc92 hd hdg (by omega)⟩, rfl⟩
    have g3 : decide (((k : Nat) : Int) + 3 < ((t.length : Nat) : Int)) = true := decide_eq_true (by omega)
    obtain ⟨d2, hd2⟩ : ∃ d, t[k + 2]? = some d := ⟨_, List.getElem?_eq_getElem (by omega)⟩
    have i2 : t[Int.toNat (((k : Nat) : Int) + 2)]? = some d2 := by rw [show (((k : Nat) : Int) + 2).toNat = k + 2 by omega]; exact hd2
    obtain ⟨d3, hd3⟩ : ∃ d, t[k + 3]? = some d := ⟨_, List.getElem?_eq_getElem hl3⟩
    have i3 : t[Int.toNat (((k : Nat) : Int) + 3)]? = some d3 := by rw [show (((k : Nat) : Int) + 3).toNat = k + 3 by omega]; exact hd3
    cases hdg2 : isDig d2.toNat with
    | false =>
      refine Spec_of (n := 103) Tryd.func70 rfl rfl rfl ?_
      repeat ((first | with_reducible refine T_seq ?_ | with_reducible refine T_region ?_ | with_reducible refine TL_nil ?_ | with_reducible refine TQ_then ?_ | with_reducible refine T_skip ?_ | with_reducible refine T_ret ?_ | refine TL_q (op_move rfl) rfl ?_ | refine TL_q (op_assign rfl) rfl ?_ | (refine' TL_q (op_bin rfl rfl ?_) rfl ?_; rotate_left 1; (· (first | exact bin_add ⟨by omega, by omega⟩ | exact bin_neq | exact bin_lss))) | (refine' TL_q (op_pickT rfl ?_ rfl) rfl ?_; (· (assumption))) | (refine' TL_q (op_pickF rfl ?_ rfl) rfl ?_; (· (first | with_reducible rfl | assumption | exact Bool.not_true))) | refine TL_q (op_len_str rfl Tryd.underlying9) rfl ?_ | (refine' TL_q (op_index_str rfl rfl Tryd.underlying9 ?_ ?_) rfl ?_; rotate_left 1; (· omega); (· (assumption))) | (refine' TG_op (op_call hb_81 rfl (digit_S _ )) rfl ?_) | (refine TL_gpre rfl rfl ?_ ?_; (· (first | assumption | exact Bool.not_true))) | refine TL_gq2 (op_move rfl) rfl ?_ | (refine' TL_gq2 (op_bin rfl rfl ?_) rfl ?_; rotate_left 1; (· (first | exact bin_add ⟨by omega, by omega⟩ | exact bin_gtr))) | refine TL_gq2 (op_not rfl) rfl ?_ | (refine' TL_gq2 (op_index_str rfl rfl Tryd.underlying9 ?_ ?_) rfl ?_; rotate_left 1; (· omega); (· (assumption))) | (refine TL_gno rfl rfl ?_ rfl ?_; (· (first | assumption | exact Bool.not_true))) | (refine T_no rfl ?_ ?_; (· (first | with_reducible rfl | exact Bool.not_true)))))
      refine TQ_ret2 4 5 _ _ rfl rfl rfl ?_
      exact ⟨⟨0, 0, rfl, lo_no2 hc92 hd hdg hd2 hdg2⟩, rfl⟩
    | true =>
      have r2 := dig_in hdg2
      cases hdg3 : isDig d3.toNat with
      | false =>
        refine Spec_of (n := 103) Tryd.func70 rfl rfl rfl ?_
        repeat ((first | with_reducible refine T_seq ?_ | with_reducible refine T_region ?_ | with_reducible refine TL_nil ?_ | with_reducible refine TQ_then ?_ | with_reducible refine T_skip ?_ | with_reducible refine T_ret ?_ | refine TL_q (op_move rfl) rfl ?_ | refine TL_q (op_assign rfl) rfl ?_ | (refine' TL_q (op_bin rfl rfl ?_) rfl ?_; rotate_left 1; (· (first | exact bin_add ⟨by omega, by omega⟩ | exact bin_neq | exact bin_lss))) | (refine' TL_q (op_pickT rfl ?_ rfl) rfl ?_; (· (assumption))) | (refine' TL_q (op_pickF rfl ?_ rfl) rfl ?_; (· (first | with_reducible rfl | assumption | exact Bool.not_true))) | refine TL_q (op_len_str rfl Tryd.underlying9) rfl ?_ | (refine' TL_q (op_index_str rfl rfl Tryd.underlying9 ?_ ?_) rfl ?_; rotate_left 1; (· omega); (· (assumption))) | (refine' TG_op (op_call hb_81 rfl (digit_S _ )) rfl ?_) | (refine TL_gpre rfl rfl ?_ ?_; (· (first | assumption | exact Bool.not_true))) | refine TL_gq2 (op_move rfl) rfl ?_ | (refine' TL_gq2 (op_bin rfl rfl ?_) rfl ?_; rotate_left 1; (· (first | exact bin_add ⟨by omega, by omega⟩ | exact bin_gtr))) | refine TL_gq2 (op_not rfl) rfl ?_ | (refine' TL_gq2 (op_index_str rfl rfl Tryd.underlying9 ?_ ?_) rfl ?_; rotate_left 1; (· omega); (· (assumption))) | (refine TL_gno rfl rfl ?_ rfl ?_; (· (first | assumption | exact Bool.not_true))) | (refine T_no rfl ?_ ?_; (· (first | with_reducible rfl | assumption | exact Bool.not_true)))))
        refine TQ_ret2 4 5 _ _ rfl rfl rfl ?_
        exact ⟨⟨0, 0, rfl, lo_no3 hc92 hd hdg hd2 hdg2 hd3 hdg3⟩, rfl⟩
      | true =>
        have r3 := dig_in hdg3
        by_cases hb : 100 * (d.toNat - 48) + 10 * (d2.toNat - 48) + (d3.toNat - 48) ≤ 255
        · have e9 : decide ((100 : Int) * ((d.toNat : Int) - 48) + 10 * ((d2.toNat : Int) - 48) + ((d3.toNat : Int) - 48) ≤ 255) = true := decide_eq_true (by omega)
          refine Spec_of (n := 103) Tryd.func70 rfl rfl rfl ?_
          repeat ((first | with_reducible refine T_seq ?_ | with_reducible refine T_region ?_ | with_reducible refine TL_nil ?_ | with_reducible refine TQ_then ?_ | with_reducible refine T_skip ?_ | refine TL_q (op_move rfl) rfl ?_ | refine TL_q (op_assign rfl) rfl ?_ | (refine' TL_q (op_bin rfl rfl ?_) rfl ?_; rotate_left 1; (· (first | exact bin_add ⟨by omega, by omega⟩ | exact bin_neq | exact bin_lss))) | (refine' TL_q (op_pickT rfl ?_ rfl) rfl ?_; (· (assumption))) | (refine' TL_q (op_pickF rfl ?_ rfl) rfl ?_; (· (first | with_reducible rfl | assumption | exact Bool.not_true))) | refine TL_q (op_len_str rfl Tryd.underlying9) rfl ?_ | (refine' TL_q (op_index_str rfl rfl Tryd.underlying9 ?_ ?_) rfl ?_; rotate_left 1; (· omega); (· (assumption))) | (refine' TG_op (op_call hb_81 rfl (digit_S _ )) rfl ?_) | (refine TL_gpre rfl rfl ?_ ?_; (· (first | assumption | exact Bool.not_true))) | refine TL_gq2 (op_move rfl) rfl ?_ | (refine' TL_gq2 (op_bin rfl rfl ?_) rfl ?_; rotate_left 1; (· (first | exact bin_add ⟨by omega, by omega⟩ | exact bin_gtr))) | refine TL_gq2 (op_not rfl) rfl ?_ | (refine' TL_gq2 (op_index_str rfl rfl Tryd.underlying9 ?_ ?_) rfl ?_; rotate_left 1; (· omega); (· (assumption))) | (refine TL_gno rfl rfl ?_ rfl ?_; (· (first | assumption | exact Bool.not_true))) | (refine T_yes rfl ?_ ?_; (· (assumption))) | (refine T_no rfl ?_ ?_; (· (first | with_reducible rfl | exact Bool.not_true)))))
          refine T_draw follows_mixed (([] : Blocks)) [] ?_
          (refine' TA_take 0 rfl rfl (by kernel_rfl) (quiet_q (op_move rfl)) ?_ ?_; (· (intro p hp; grind)))
          (refine' TA_take 1 rfl rfl (by kernel_rfl) (quiet_q (op_move rfl)) ?_ ?_; (· (intro p hp; grind)))
          (refine' TA_take 2 rfl rfl (by kernel_rfl) (quiet_q (op_bin rfl rfl ?_)) ?_ ?_; rotate_left 1; (· (exact bin_add ⟨by omega, by omega⟩)); (· (intro p hp; grind)))
          (refine' TA_take 3 rfl rfl (by kernel_rfl) (quiet_q (op_index_str rfl rfl Tryd.underlying9 ?_ ?_)) ?_ ?_; rotate_left 1; (· omega); (· (assumption)); (· (intro p hp; grind)))
          (refine' TA_take 4 rfl rfl (by kernel_rfl) (quiet_q (op_bin rfl rfl ?_)) ?_ ?_; rotate_left 1; (· (exact bin_sub ⟨by omega, by omega⟩)); (· (intro p hp; grind)))
          (refine' TA_take 5 rfl rfl (by kernel_rfl) (quiet_q (op_conv_int rfl Tryd.underlying5 Tryd.underlying3 ?_)) ?_ ?_; (· exact ⟨by omega, by omega⟩); (· (intro p hp; grind)))
          (refine' TA_take 6 rfl rfl (by kernel_rfl) (quiet_q (op_bin rfl rfl ?_)) ?_ ?_; rotate_left 1; (· (exact bin_mul ⟨by omega, by omega⟩)); (· (intro p hp; grind)))
          (refine' TA_take 7 rfl rfl (by kernel_rfl) (quiet_q (op_move rfl)) ?_ ?_; (· (intro p hp; grind)))
          (refine' TA_take 8 rfl rfl (by kernel_rfl) (quiet_q (op_move rfl)) ?_ ?_; (· (intro p hp; grind)))
          (refine' TA_take 9 rfl rfl (by kernel_rfl) (quiet_q (op_bin rfl rfl ?_)) ?_ ?_; rotate_left 1; (· (exact bin_add ⟨by omega, by omega⟩)); (· (intro p hp; grind)))
          (refine' TA_take 10 rfl rfl (by kernel_rfl) (quiet_q (op_index_str rfl rfl Tryd.underlying9 ?_ ?_)) ?_ ?_; rotate_left 1; (· omega); (· (assumption)); (· (intro p hp; grind)))
          (refine' TA_take 11 rfl rfl (by kernel_rfl) (quiet_q (op_bin rfl rfl ?_)) ?_ ?_; rotate_left 1; (· (exact bin_sub ⟨by omega, by omega⟩)); (· (intro p hp; grind)))
          (refine' TA_take 12 rfl rfl (by kernel_rfl) (quiet_q (op_conv_int rfl Tryd.underlying5 Tryd.underlying3 ?_)) ?_ ?_; (· exact ⟨by omega, by omega⟩); (· (intro p hp; grind)))
          (refine' TA_take 13 rfl rfl (by kernel_rfl) (quiet_q (op_bin rfl rfl ?_)) ?_ ?_; rotate_left 1; (· (exact bin_mul ⟨by omega, by omega⟩)); (· (intro p hp; grind)))
          (refine' TA_take 14 rfl rfl (by kernel_rfl) (quiet_q (op_bin rfl rfl ?_)) ?_ ?_; rotate_left 1; (· (exact bin_add ⟨by omega, by omega⟩)); (· (intro p hp; grind)))
          (refine' TA_take 15 rfl rfl (by kernel_rfl) (quiet_q (op_move rfl)) ?_ ?_; (· (intro p hp; grind)))
          (refine' TA_take 16 rfl rfl (by kernel_rfl) (quiet_q (op_move rfl)) ?_ ?_; (· (intro p hp; grind)))
          (refine' TA_take 17 rfl rfl (by kernel_rfl) (quiet_q (op_bin rfl rfl ?_)) ?_ ?_; rotate_left 1; (· (exact bin_add ⟨by omega, by omega⟩)); (· (intro p hp; grind)))
          (refine' TA_take 18 rfl rfl (by kernel_rfl) (quiet_q (op_index_str rfl rfl Tryd.underlying9 ?_ ?_)) ?_ ?_; rotate_left 1; (· omega); (· (assumption)); (· (intro p hp; grind)))
          (refine' TA_take 19 rfl rfl (by kernel_rfl) (quiet_q (op_bin rfl rfl ?_)) ?_ ?_; rotate_left 1; (· (exact bin_sub ⟨by omega, by omega⟩)); (· (intro p hp; grind)))
          (refine' TA_take 20 rfl rfl (by kernel_rfl) (quiet_q (op_conv_int rfl Tryd.underlying5 Tryd.underlying3 ?_)) ?_ ?_; (· exact ⟨by omega, by omega⟩); (· (intro p hp; grind)))
          (refine' TA_take 21 rfl rfl (by kernel_rfl) (quiet_q (op_bin rfl rfl ?_)) ?_ ?_; rotate_left 1; (· (exact bin_add ⟨by omega, by omega⟩)); (· (intro p hp; grind)))
          (refine' TA_take 22 rfl rfl (by kernel_rfl) (quiet_q (op_assign rfl)) ?_ ?_; (· (intro p hp; grind)))
          refine TA_done (by kernel_rfl) ?_
          repeat ((first | with_reducible refine T_seq ?_ | with_reducible refine T_region ?_ | with_reducible refine TL_nil ?_ | with_reducible refine TQ_then ?_ | with_reducible refine T_ret ?_ | with_reducible refine TQ_then_ret ?_ | refine TL_q (op_move rfl) rfl ?_ | refine TL_q (op_assign rfl) rfl ?_ | (refine' TL_q (op_bin rfl rfl ?_) rfl ?_; rotate_left 1; (· (exact bin_leq))) | (refine' TL_q (op_conv_int rfl Tryd.underlying3 Tryd.underlying5 ?_) rfl ?_; (· exact ⟨by omega, by omega⟩)) | (refine T_yes rfl ?_ ?_; (· (assumption)))))
          refine TQ_ret2 4 5 _ _ rfl rfl rfl ?_
          refine ⟨⟨UInt8.ofNat (100 * (d.toNat - 48) + 10 * (d2.toNat - 48) + (d3.toNat - 48)), 4, ?_, lo_four hc92 hd hdg hd2 hdg2 hd3 hdg3 rfl hb⟩, rfl⟩
          have hv : ((UInt8.ofNat (100 * (d.toNat - 48) + 10 * (d2.toNat - 48) + (d3.toNat - 48))).toNat : Int) = 100 * ((d.toNat : Int) - 48) + 10 * ((d2.toNat : Int) - 48) + ((d3.toNat : Int) - 48) := by
            rw [UInt8.toNat_ofNat_of_lt' (by show _ < 256; omega)]
            omega
          unfold letOut
          rw [hv]
          rfl
        · have e9 : decide ((100 : Int) * ((d.toNat : Int) - 48) + 10 * ((d2.toNat : Int) - 48) + ((d3.toNat : Int) - 48) ≤ 255) = false := decide_eq_false (by omega)
          refine Spec_of (n := 103) Tryd.func70 rfl rfl rfl ?_
          repeat ((first | with_reducible refine T_seq ?_ | with_reducible refine T_region ?_ | with_reducible refine TL_nil ?_ | with_reducible refine TQ_then ?_ | with_reducible refine T_skip ?_ | refine TL_q (op_move rfl) rfl ?_ | refine TL_q (op_assign rfl) rfl ?_ | (refine' TL_q (op_bin rfl rfl ?_) rfl ?_; rotate_left 1; (· (first | exact bin_add ⟨by omega, by omega⟩ | exact bin_neq | exact bin_lss))) | (refine' TL_q (op_pickT rfl ?_ rfl) rfl ?_; (· (assumption))) | (refine' TL_q (op_pickF rfl ?_ rfl) rfl ?_; (· (first | with_reducible rfl | assumption | exact Bool.not_true))) | refine TL_q (op_len_str rfl Tryd.underlying9) rfl ?_ | (refine' TL_q (op_index_str rfl rfl Tryd.underlying9 ?_ ?_) rfl ?_; rotate_left 1; (· omega); (· (assumption))) | (refine' TG_op (op_call hb_81 rfl (digit_S _ )) rfl ?_) | (refine TL_gpre rfl rfl ?_ ?_; (· (first | assumption | exact Bool.not_true))) | refine TL_gq2 (op_move rfl) rfl ?_ | (refine' TL_gq2 (op_bin rfl rfl ?_) rfl ?_; rotate_left 1; (· (first | exact bin_add ⟨by omega, by omega⟩ | exact bin_gtr))) | refine TL_gq2 (op_not rfl) rfl ?_ | (refine' TL_gq2 (op_index_str rfl rfl Tryd.underlying9 ?_ ?_) rfl ?_; rotate_left 1; (· omega); (· (assumption))) | (refine TL_gno rfl rfl ?_ rfl ?_; (· (first | assumption | exact Bool.not_true))) | (refine T_yes rfl ?_ ?_; (· (assumption))) | (refine T_no rfl ?_ ?_; (· (first | with_reducible rfl | exact Bool.not_true)))))
          refine T_draw follows_mixed (([] : Blocks)) [] ?_
          (refine' TA_take 0 rfl rfl (by kernel_rfl) (quiet_q (op_move rfl)) ?_ ?_; (· (intro p hp; grind)))
          (refine' TA_take 1 rfl rfl (by kernel_rfl) (quiet_q (op_move rfl)) ?_ ?_; (· (intro p hp; grind)))
          (refine' TA_take 2 rfl rfl (by kernel_rfl) (quiet_q (op_bin rfl rfl ?_)) ?_ ?_; rotate_left 1; (· (exact bin_add ⟨by omega, by omega⟩)); (· (intro p hp; grind)))
          (refine' TA_take 3 rfl rfl (by kernel_rfl) (quiet_q (op_index_str rfl rfl Tryd.underlying9 ?_ ?_)) ?_ ?_; rotate_left 1; (· omega); (· (assumption)); (· (intro p hp; grind)))
          (refine' TA_take 4 rfl rfl (by kernel_rfl) (quiet_q (op_bin rfl rfl ?_)) ?_ ?_; rotate_left 1; (· (exact bin_sub ⟨by omega, by omega⟩)); (· (intro p hp; grind)))
          (refine' TA_take 5 rfl rfl (by kernel_rfl) (quiet_q (op_conv_int rfl Tryd.underlying5 Tryd.underlying3 ?_)) ?_ ?_; (· exact ⟨by omega, by omega⟩); (· (intro p hp; grind)))
          (refine' TA_take 6 rfl rfl (by kernel_rfl) (quiet_q (op_bin rfl rfl ?_)) ?_ ?_; rotate_left 1; (· (exact bin_mul ⟨by omega, by omega⟩)); (· (intro p hp; grind)))
          (refine' TA_take 7 rfl rfl (by kernel_rfl) (quiet_q (op_move rfl)) ?_ ?_; (· (intro p hp; grind)))
          (refine' TA_take 8 rfl rfl (by kernel_rfl) (quiet_q (op_move rfl)) ?_ ?_; (· (intro p hp; grind)))
          (refine' TA_take 9 rfl rfl (by kernel_rfl) (quiet_q (op_bin rfl rfl ?_)) ?_ ?_; rotate_left 1; (· (exact bin_add ⟨by omega, by omega⟩)); (· (intro p hp; grind)))
          (refine' TA_take 10 rfl rfl (by kernel_rfl) (quiet_q (op_index_str rfl rfl Tryd.underlying9 ?_ ?_)) ?_ ?_; rotate_left 1; (· omega); (· (assumption)); (· (intro p hp; grind)))
          (refine' TA_take 11 rfl rfl (by kernel_rfl) (quiet_q (op_bin rfl rfl ?_)) ?_ ?_; rotate_left 1; (· (exact bin_sub ⟨by omega, by omega⟩)); (· (intro p hp; grind)))
          (refine' TA_take 12 rfl rfl (by kernel_rfl) (quiet_q (op_conv_int rfl Tryd.underlying5 Tryd.underlying3 ?_)) ?_ ?_; (· exact ⟨by omega, by omega⟩); (· (intro p hp; grind)))
          (refine' TA_take 13 rfl rfl (by kernel_rfl) (quiet_q (op_bin rfl rfl ?_)) ?_ ?_; rotate_left 1; (· (exact bin_mul ⟨by omega, by omega⟩)); (· (intro p hp; grind)))
          (refine' TA_take 14 rfl rfl (by kernel_rfl) (quiet_q (op_bin rfl rfl ?_)) ?_ ?_; rotate_left 1; (· (exact bin_add ⟨by omega, by omega⟩)); (· (intro p hp; grind)))
          (refine' TA_take 15 rfl rfl (by kernel_rfl) (quiet_q (op_move rfl)) ?_ ?_; (· (intro p hp; grind)))
          (refine' TA_take 16 rfl rfl (by kernel_rfl) (quiet_q (op_move rfl)) ?_ ?_; (· (intro p hp; grind)))
          (refine' TA_take 17 rfl rfl (by kernel_rfl) (quiet_q (op_bin rfl rfl ?_)) ?_ ?_; rotate_left 1; (· (exact bin_add ⟨by omega, by omega⟩)); (· (intro p hp; grind)))
          (refine' TA_take 18 rfl rfl (by kernel_rfl) (quiet_q (op_index_str rfl rfl Tryd.underlying9 ?_ ?_)) ?_ ?_; rotate_left 1; (· omega); (· (assumption)); (· (intro p hp; grind)))
          (refine' TA_take 19 rfl rfl (by kernel_rfl) (quiet_q (op_bin rfl rfl ?_)) ?_ ?_; rotate_left 1; (· (exact bin_sub ⟨by omega, by omega⟩)); (· (intro p hp; grind)))
          (refine' TA_take 20 rfl rfl (by kernel_rfl) (quiet_q (op_conv_int rfl Tryd.underlying5 Tryd.underlying3 ?_)) ?_ ?_; (· exact ⟨by omega, by omega⟩); (· (intro p hp; grind)))
          (refine' TA_take 21 rfl rfl (by kernel_rfl) (quiet_q (op_bin rfl rfl ?_)) ?_ ?_; rotate_left 1; (· (exact bin_add ⟨by omega, by omega⟩)); (· (intro p hp; grind)))
          (refine' TA_take 22 rfl rfl (by kernel_rfl) (quiet_q (op_assign rfl)) ?_ ?_; (· (intro p hp; grind)))
          refine TA_done (by kernel_rfl) ?_
          repeat ((first | with_reducible refine T_seq ?_ | with_reducible refine T_region ?_ | with_reducible refine TL_nil ?_ | with_reducible refine TQ_then ?_ | with_reducible refine T_skip ?_ | with_reducible refine T_ret ?_ | refine TL_q (op_move rfl) rfl ?_ | refine TL_q (op_assign rfl) rfl ?_ | (refine' TL_q (op_bin rfl rfl ?_) rfl ?_; rotate_left 1; (· (exact bin_leq))) | (refine T_no rfl ?_ ?_; (· (assumption)))))
          refine TQ_ret2 4 5 _ _ rfl rfl rfl ?_
          exact ⟨⟨0, 0, rfl, lo_big hc92 hd hdg hd2 hdg2 hd3 hdg3 (by omega)⟩, rfl⟩
end Go.Proofs.YtnhlpifbadncmaaDoor
namespace Go.Proofs.YtnhlpifbadncmaaDoor
open Go.RowKit
set_option linter.unusedVariables false
set_option linter.unusedSimpArgs false
theorem Spec.ofBelowH {P : Program} {G : World} {L : Blocks} {f : FuncId} {args : Array Value} {v : Value} (h : ∀ w, Heap G w L → Calls P f args w fun e w' => e = .returned v ∧ Below w.heap.size w w') : Spec P G f args L fun u L' => u = v ∧ L' = L :=
  ⟨fun w hw => (h w hw).mono fun _ w' ⟨h1, h2⟩ => ⟨v, L, h1, ⟨rfl, rfl⟩, hw.still.trans ⟨h2.os, h2.tape, h2.output, h2.size⟩, hw.nodup, fun p hp => (h2.block p.1 (hw.lt hp)).trans (hw.get p hp)⟩⟩
theorem StrRow.sRow {G w : World} {L : Blocks} {v : Value} {ls : List Nm.Bytes} (h : StrRow L v ls) (hw : Heap G w L) : SRow w v ls := by
  obtain ⟨a, cap, h1, h2⟩ := h
  refine ⟨a, cap, h1, h2.imp id ?_⟩
  rintro ⟨b, off, C, te, fr, h3, h4, h5⟩
  refine ⟨b, off, h3, hw.lt h4, fun i n hi => ?_⟩
  have := hw.cell h4 (h5 i n hi)
  rw [Nat.mul_one] at this
  exact this
theorem refBytes_S {G : World} {L : Blocks} (v : Value) (ls : List Nm.Bytes) (hr : StrRow L v ls) (hok : ∀ l ∈ ls, l.length ≤ 63) (hlen : ls.length ≤ 1000) :
    Spec Tryd.prog G 60 #[v] L fun u M => u = .string (bs (Nm.enc ls)) ∧ M = L := Spec.ofBelowH fun w hw => refBytes_any v ls w (hr.sRow hw) hok hlen
theorem few_sum (ls : List Nm.Bytes) : ls.length ≤ lblSum ls := by
  induction ls with
  | nil => simp
  | cons l ls ih => rw [lblSum_cons]; simp; omega
set_option maxRecDepth 100000 in
set_option maxHeartbeats 1000000 in
theorem refJoin_S {G : World} {L : Blocks} (v : Value) (ls : List Nm.Bytes) (hr : StrRow L v ls) (hn : ls.length ≤ 1000000) (hl : ∀ l ∈ ls, l.length ≤ 1000000000000) :
    Spec Tryd.prog G 71 #[v] L fun u M => u = .tuple #[.string (bs (joinV ls)), .int .i64 (joinE ls)] ∧ M = L := by
  have hr0 := hr
  obtain ⟨a, cap, rfl, hrow⟩ := hr
  refine Spec_of (n := 45) Tryd.func71 rfl rfl rfl ?_
  repeat ((first | with_reducible refine T_seq ?_ | with_reducible refine T_block ?_ | with_reducible refine T_region ?_ | with_reducible refine TL_nil ?_ | with_reducible refine TQ_then ?_ | refine TL_q (op_assign rfl) rfl ?_))
  refine T_loopS (σ := Nat) (fun k => k ≤ ls.length ∧ (ls.take k).all okLbl = true) (fun k => [(0, .slice a ls.length cap), (4, .int .i64 1), (5, .int .i64 (k : Nat))]) (fun _ => L) (fun k => ls.length - k) 0 ⟨by omega, by simp⟩ ?_ (fun _ h => h) ?_
  (repeat ((first | exact trivial | refine ⟨rfl, ?_⟩)))
  rintro k ⟨hk, hall⟩
  by_cases hlt : k < ls.length
  · obtain rfl | ⟨b, off, C, te, fr, rfl, hm, hc⟩ := hrow
    · simp at hlt
    obtain ⟨l, hlk⟩ : ∃ l, ls[k]? = some l := ⟨_, List.getElem?_eq_getElem hlt⟩
    have hcell := hc k l hlk
    have hll := hl l (List.mem_of_getElem? hlk)
    have htk : ls.take (k + 1) = ls.take k ++ [l] := by rw [List.take_add_one, hlk]; rfl
    have d1 : decide (((k : Nat) : Int) < ((ls.length : Nat) : Int)) = true := decide_eq_true (by omega)
    by_cases h0 : l.length < 1
    · have e1 : decide (((l.length : Nat) : Int) < 1) = true := decide_eq_true (by omega)
      have hE : joinE ls = 1 := joinE_bad (List.mem_of_getElem? hlk) (by simp [okLbl]; omega)
      repeat ((first | with_reducible refine T_seq ?_ | with_reducible refine T_block ?_ | with_reducible refine T_region ?_ | with_reducible refine TL_nil ?_ | with_reducible refine TQ_then ?_ | with_reducible refine T_skip ?_ | with_reducible refine T_ret ?_ | with_reducible refine TQ_then_ret ?_ | with_reducible refine TQ_block_ret ?_ | refine TL_q (op_move rfl) rfl ?_ | refine TL_q (op_assign rfl) rfl ?_ | (refine' TL_q (op_bin rfl rfl ?_) rfl ?_; rotate_left 1; (· (exact bin_lss))) | (refine' TL_q (op_pickT rfl ?_ rfl) rfl ?_; (· (assumption))) | refine TL_q (op_len_str rfl Tryd.underlying9) rfl ?_ | refine TL_q (op_len_slice rfl Tryd.underlying70) rfl ?_ | (refine' TL_q (op_idx ety_70 rfl rfl ?_) rfl ?_; (· omega)) | (refine' TL_q (op_ld rfl pl_9 ?_ ?_) rfl ?_; rotate_left 4; (· repeat ((assumption))); (· (assumption))) | (refine TL_gno rfl rfl ?_ rfl ?_; (· (assumption))) | (refine T_yes rfl ?_ ?_; (· (first | with_reducible rfl | assumption)))))
      refine TQ_ret2 2 3 _ _ rfl rfl rfl ?_
      exact ⟨by rw [joinV_bad (by rw [hE]; decide), hE]; rfl, rfl⟩
    · have e1 : decide (((l.length : Nat) : Int) < 1) = false := decide_eq_false (by omega)
      by_cases h63 : 63 < l.length
      · have e2 : decide ((63 : Int) < ((l.length : Nat) : Int)) = true := decide_eq_true (by omega)
        have hE : joinE ls = 1 := joinE_bad (List.mem_of_getElem? hlk) (by simp [okLbl]; omega)
        repeat ((first | with_reducible refine T_seq ?_ | with_reducible refine T_block ?_ | with_reducible refine T_region ?_ | with_reducible refine TL_nil ?_ | with_reducible refine TQ_then ?_ | with_reducible refine T_skip ?_ | with_reducible refine T_ret ?_ | with_reducible refine TQ_then_ret ?_ | with_reducible refine TQ_block_ret ?_ | refine TL_q (op_move rfl) rfl ?_ | refine TL_q (op_assign rfl) rfl ?_ | (refine' TL_q (op_bin rfl rfl ?_) rfl ?_; rotate_left 1; (· (exact bin_lss))) | (refine' TL_q (op_pickF rfl ?_ rfl) rfl ?_; (· (assumption))) | refine TL_q (op_len_str rfl Tryd.underlying9) rfl ?_ | refine TL_q (op_len_slice rfl Tryd.underlying70) rfl ?_ | (refine' TL_q (op_idx ety_70 rfl rfl ?_) rfl ?_; (· omega)) | (refine' TL_q (op_ld rfl pl_9 ?_ ?_) rfl ?_; rotate_left 4; (· repeat ((assumption))); (· (assumption))) | (refine TL_gpre rfl rfl ?_ ?_; (· (assumption))) | refine TL_gq2 (op_move rfl) rfl ?_ | (refine' TL_gq2 (op_bin rfl rfl ?_) rfl ?_; rotate_left 1; (· (exact bin_gtr))) | refine TL_gq2 (op_len_str rfl Tryd.underlying9) rfl ?_ | (refine' TL_gq2 (op_idx ety_70 rfl rfl ?_) rfl ?_; (· omega)) | (refine' TL_gq2 (op_ld rfl pl_9 ?_ ?_) rfl ?_; rotate_left 4; (· repeat ((assumption))); (· (assumption))) | (refine T_yes rfl ?_ ?_; (· (assumption)))))
        refine TQ_ret2 2 3 _ _ rfl rfl rfl ?_
        exact ⟨by rw [joinV_bad (by rw [hE]; decide), hE]; rfl, rfl⟩
      · have e2 : decide ((63 : Int) < ((l.length : Nat) : Int)) = false := decide_eq_false (by omega)
        repeat ((first | with_reducible refine T_seq ?_ | with_reducible refine T_block ?_ | with_reducible refine T_region ?_ | with_reducible refine TL_nil ?_ | with_reducible refine TQ_then ?_ | with_reducible refine TQ_block ?_ | with_reducible refine T_skip ?_ | refine TL_q (op_move rfl) rfl ?_ | refine TL_q (op_assign rfl) rfl ?_ | (refine' TL_q (op_bin rfl rfl ?_) rfl ?_; rotate_left 1; (· (first | exact bin_add ⟨by omega, by omega⟩ | exact bin_lss))) | (refine' TL_q (op_pickF rfl ?_ rfl) rfl ?_; (· (assumption))) | refine TL_q (op_len_str rfl Tryd.underlying9) rfl ?_ | refine TL_q (op_len_slice rfl Tryd.underlying70) rfl ?_ | (refine' TL_q (op_idx ety_70 rfl rfl ?_) rfl ?_; (· omega)) | (refine' TL_q (op_ld rfl pl_9 ?_ ?_) rfl ?_; rotate_left 4; (· repeat ((assumption))); (· (assumption))) | (refine TL_gpre rfl rfl ?_ ?_; (· (assumption))) | refine TL_gq2 (op_move rfl) rfl ?_ | (refine' TL_gq2 (op_bin rfl rfl ?_) rfl ?_; rotate_left 1; (· (exact bin_gtr))) | refine TL_gq2 (op_len_str rfl Tryd.underlying9) rfl ?_ | (refine' TL_gq2 (op_idx ety_70 rfl rfl ?_) rfl ?_; (· omega)) | (refine' TL_gq2 (op_ld rfl pl_9 ?_ ?_) rfl ?_; rotate_left 4; (· repeat ((assumption))); (· (assumption))) | (refine T_yes rfl ?_ ?_; (· (assumption))) | (refine T_no rfl ?_ ?_; (· (assumption)))))
        refine TQ_roundS (k + 1) ⟨by omega, ?_⟩ ?_ (fun _ h => h) (by omega)
        · rw [htk, List.all_append, hall]; simp [okLbl]; omega
        (repeat ((first | exact trivial | refine ⟨rfl, ?_⟩)))
  · have hkl : k = ls.length := by omega
    subst hkl
    have d1 : decide (((ls.length : Nat) : Int) < ((ls.length : Nat) : Int)) = false := decide_eq_false (by omega)
    rw [List.take_length] at hall
    have hsum := lblSum_le _ hall
    repeat ((first | with_reducible refine T_seq ?_ | with_reducible refine T_block ?_ | with_reducible refine T_region ?_ | with_reducible refine TL_nil ?_ | with_reducible refine TQ_then ?_ | with_reducible refine T_exit ?_ | with_reducible refine TQ_then_exit ?_ | with_reducible refine TQ_block_exit ?_ | refine TL_q (op_move rfl) rfl ?_ | refine TL_q (op_assign rfl) rfl ?_ | (refine' TL_q (op_bin rfl rfl ?_) rfl ?_; rotate_left 1; (· (exact bin_lss))) | refine TL_q (op_len_slice rfl Tryd.underlying70) rfl ?_ | (refine T_no rfl ?_ ?_; (· (assumption)))))
    refine T_loopS (σ := Nat) (fun k => k ≤ ls.length ∧ 1 + lblSum (ls.take k) ≤ 255) (fun k => [(0, .slice a ls.length cap), (4, .int .i64 ((1 + lblSum (ls.take k) : Nat) : Int)), (6, .int .i64 (k : Nat))]) (fun _ => L) (fun k => ls.length - k) 0 ⟨by omega, by simp [lblSum]⟩ ?_ (fun _ h => h) ?_
    (repeat ((first | exact trivial | refine ⟨rfl, ?_⟩)))
    rintro k ⟨hk, hs⟩
    by_cases hlt : k < ls.length
    · obtain rfl | ⟨b, off, C, te, fr, rfl, hm, hc⟩ := hrow
      · simp at hlt
      obtain ⟨l, hlk⟩ : ∃ l, ls[k]? = some l := ⟨_, List.getElem?_eq_getElem hlt⟩
      have hcell := hc k l hlk
      have hll := hl l (List.mem_of_getElem? hlk)
      have htk : lblSum (ls.take (k + 1)) = lblSum (ls.take k) + (l.length + 1) := by rw [List.take_add_one, hlk, lblSum_append]; simp [lblSum]
      have d1 : decide (((k : Nat) : Int) < ((ls.length : Nat) : Int)) = true := decide_eq_true (by omega)
      have hle := lblSum_take ls (k + 1)
      obtain ⟨m, hm0⟩ : ∃ m, m = 1 + lblSum (ls.take k) := ⟨_, rfl⟩
      rw [← hm0] at hs ⊢
      by_cases h255 : 255 < m + 1 + l.length
      · have e2 : decide ((255 : Int) < ((m : Nat) : Int) + 1 + ((l.length : Nat) : Int)) = true := decide_eq_true (by omega)
        have hE : joinE ls = 5 := by unfold joinE; rw [if_pos hall, if_pos (by omega)]
        repeat ((first | with_reducible refine T_seq ?_ | with_reducible refine T_block ?_ | with_reducible refine T_region ?_ | with_reducible refine TL_nil ?_ | with_reducible refine TQ_then ?_ | with_reducible refine T_skip ?_ | with_reducible refine T_ret ?_ | with_reducible refine TQ_then_ret ?_ | with_reducible refine TQ_block_ret ?_ | refine TL_q (op_move rfl) rfl ?_ | refine TL_q (op_assign rfl) rfl ?_ | (refine' TL_q (op_bin rfl rfl ?_) rfl ?_; rotate_left 1; (· (first | exact bin_add ⟨by omega, by omega⟩ | exact bin_lss | exact bin_gtr))) | refine TL_q (op_len_str rfl Tryd.underlying9) rfl ?_ | refine TL_q (op_len_slice rfl Tryd.underlying70) rfl ?_ | (refine' TL_q (op_idx ety_70 rfl rfl ?_) rfl ?_; (· omega)) | (refine' TL_q (op_ld rfl pl_9 ?_ ?_) rfl ?_; rotate_left 4; (· repeat ((assumption))); (· (assumption))) | (refine T_yes rfl ?_ ?_; (· (assumption)))))
        refine TQ_ret2 2 3 _ _ rfl rfl rfl ?_
        exact ⟨by rw [joinV_bad (by rw [hE]; decide), hE]; rfl, rfl⟩
      · have e2 : decide ((255 : Int) < ((m : Nat) : Int) + 1 + ((l.length : Nat) : Int)) = false := decide_eq_false (by omega)
        repeat ((first | with_reducible refine T_seq ?_ | with_reducible refine T_block ?_ | with_reducible refine T_region ?_ | with_reducible refine TL_nil ?_ | with_reducible refine TQ_then ?_ | with_reducible refine TQ_block ?_ | with_reducible refine T_skip ?_ | refine TL_q (op_move rfl) rfl ?_ | refine TL_q (op_assign rfl) rfl ?_ | (refine' TL_q (op_bin rfl rfl ?_) rfl ?_; rotate_left 1; (· (first | exact bin_add ⟨by omega, by omega⟩ | exact bin_lss | exact bin_gtr))) | refine TL_q (op_len_str rfl Tryd.underlying9) rfl ?_ | refine TL_q (op_len_slice rfl Tryd.underlying70) rfl ?_ | (refine' TL_q (op_idx ety_70 rfl rfl ?_) rfl ?_; (· omega)) | (refine' TL_q (op_ld rfl pl_9 ?_ ?_) rfl ?_; rotate_left 4; (· repeat ((assumption))); (· (assumption))) | (refine T_yes rfl ?_ ?_; (· (assumption))) | (refine T_no rfl ?_ ?_; (· (assumption)))))
        refine TQ_roundS (k + 1) ⟨by omega, by omega⟩ ?_ (fun _ h => h) (by omega)
        refine ⟨rfl, ?_, rfl, trivial⟩
        exact congrArg (fun i : Int => some (Value.int .i64 i)) (by omega)
    · have hkl : k = ls.length := by omega
      subst hkl
      rw [List.take_length] at hs
      have hE : joinE ls = 0 := by unfold joinE; rw [if_pos hall, if_neg (by omega)]
      have h1000 : ls.length ≤ 1000 := by
        have := few_sum ls
        omega
      repeat ((first | with_reducible refine T_seq ?_ | with_reducible refine T_region ?_ | with_reducible refine TL_nil ?_ | with_reducible refine TQ_then ?_ | with_reducible refine T_exit ?_ | with_reducible refine TQ_then_exit ?_ | with_reducible refine TQ_block_exit ?_ | refine TL_q (op_move rfl) rfl ?_ | (refine' TL_q (op_bin rfl rfl ?_) rfl ?_; rotate_left 1; (· (exact bin_lss))) | refine TL_q (op_len_slice rfl Tryd.underlying70) rfl ?_ | (refine T_no rfl ?_ ?_; (· (assumption)))))
      refine TL_op (op_call hb_60 rfl (refBytes_S _ ls hr0 (fun l hl => by have := List.all_eq_true.1 hall l hl; simp [okLbl] at this; omega) h1000)) rfl ?_
      repeat ((first | with_reducible refine TL_nil ?_ | with_reducible refine TQ_then ?_ | with_reducible refine T_ret ?_ | refine TL_q (op_assign rfl) rfl ?_))
      refine TQ_ret2 2 3 _ _ rfl rfl rfl ?_
      exact ⟨by rw [hE]; unfold joinV; rw [if_pos hE], rfl⟩
end Go.Proofs.YtnhlpifbadncmaaDoor
namespace Go.Proofs.YtnhlpifbadncmaaDoor
open Go.RowKit
set_option linter.unusedVariables false
set_option linter.unusedSimpArgs false
theorem parse_ref {t : Nm.Bytes} {ls : List Nm.Bytes} (hdot : t ≠ [46]) (hT : textL t = some ls) (hne : ∀ l ∈ ls, l ≠ []) : parseV t = joinV ls ∧ parseE t = if joinE ls = 0 then 0 else 5 := by
  unfold parseV parseE
  rw [if_neg hdot, if_neg hdot, hT]
  simp only
  by_cases h : ls.any (fun l => decide (63 < l.length)) = true
  · rw [if_pos h, if_pos h]
    obtain ⟨l, hl, h2⟩ := List.any_eq_true.1 h
    have hE : joinE ls = 1 := joinE_bad hl (by simp at h2; simp [okLbl]; omega)
    exact ⟨(joinV_bad (by rw [hE]; decide)).symm, by rw [hE]; rfl⟩
  · rw [if_neg h, if_neg h]
    refine ⟨rfl, ?_⟩
    have hall : ls.all okLbl = true := List.all_eq_true.2 fun l hl => by
      have h1 : ¬ 63 < l.length := fun h2 => h (List.any_eq_true.2 ⟨l, hl, by simpa using h2⟩)
      have h3 : 1 ≤ l.length := List.length_pos_iff.2 (hne l hl)
      simp [okLbl]; omega
    unfold joinE
    rw [if_pos hall]
    split <;> rfl
theorem textL_stuck {t a b : Nm.Bytes} {s : Scan} (ht : t = a ++ b) (hr : runS scan0 a = some s) (h : ∀ s', runS s b = some s' → 0 < s'.esc) : textL t = none := by
  unfold textL
  rw [ht, runS_append, hr]
  simp only [Option.bind_some]
  cases e : runS s b with
  | none => rfl
  | some s' => simp [endS, h s' e]
set_option maxRecDepth 100000 in
set_option maxHeartbeats 2000000 in
theorem refParse_S {G : World} {L : Blocks} (t : Nm.Bytes) (ht : t.length ≤ 100000) :
    Spec Tryd.prog G 61 #[.string (bs t)] L fun u M => u = parseOut t ∧ M = L := by
  by_cases hdot : t = [46]
  · subst hdot
    have e1 : (([46] : List UInt8) == [46]) = true := by decide
    refine Spec_of (n := 62) Tryd.func61 rfl rfl rfl ?_
    repeat ((first | with_reducible refine T_seq ?_ | with_reducible refine T_region ?_ | with_reducible refine TL_nil ?_ | with_reducible refine TQ_then ?_ | with_reducible refine T_ret ?_ | with_reducible refine TQ_then_ret ?_ | refine TL_q (op_move rfl) rfl ?_ | refine TL_q (op_assign rfl) rfl ?_ | (refine' TL_q (op_bin rfl rfl ?_) rfl ?_; rotate_left 1; (· (exact sbin_eql))) | (refine T_yes rfl ?_ ?_; (· (assumption)))))
    refine TQ_ret2 2 3 _ _ rfl rfl rfl ?_
    exact ⟨rfl, rfl⟩
  have e1 : (t == [46]) = false := by simpa using hdot
  have hNone : textL t = none → parseOut t = .tuple #[.string (bs []), .int .i64 3] := fun h => by
    unfold parseOut parseV parseE
    rw [if_neg hdot, if_neg hdot, h]
  have hSome : ∀ ls, textL t = some ls → (∀ l ∈ ls, l ≠ []) → parseOut t = .tuple #[.string (bs (joinV ls)), .int .i64 (if joinE ls = 0 then 0 else 5)] := fun ls h hne => by
    unfold parseOut
    rw [(parse_ref hdot h hne).1, (parse_ref hdot h hne).2]
  refine Spec_of (n := 62) Tryd.func61 rfl rfl rfl ?_
  repeat ((first | with_reducible refine T_seq ?_ | with_reducible refine T_block ?_ | with_reducible refine T_region ?_ | with_reducible refine TL_nil ?_ | with_reducible refine TQ_then ?_ | with_reducible refine T_skip ?_ | refine TL_q (op_move rfl) rfl ?_ | refine TL_q (op_assign rfl) rfl ?_ | (refine' TL_q (op_bin rfl rfl ?_) rfl ?_; rotate_left 1; (· (exact sbin_eql))) | (refine T_no rfl ?_ ?_; (· (assumption)))))
  refine T_loopS (σ := Nat × Scan × Value × Blocks) (fun x => x.1 ≤ t.length ∧ runS scan0 (t.take x.1) = some x.2.1 ∧ x.2.1.esc = 0 ∧ (∀ l ∈ x.2.1.labels, l ≠ [] ∧ l.length ≤ 100000) ∧ Row 9 1 x.2.2.1 x.2.1.labels.length (x.2.1.labels.map txtV) x.2.2.2)
    (fun x => [(0, .string (bs t)), (4, x.2.2.1), (5, .string (bs x.2.1.label)), (6, .int .i64 (x.1 : Nat))]) (fun x => x.2.2.2 ++ L) (fun x => t.length - x.1) (0, scan0, .slice none 0 0, []) ⟨Nat.zero_le _, rfl, rfl, (by intro l hl; simp [scan0] at hl), Row.nil _ _⟩ ?_ (fun _ h => h) ?_
  (repeat ((first | exact trivial | refine ⟨rfl, ?_⟩)))
  rintro ⟨k, st, v4, B⟩ ⟨hk, hrun, hesc, hne', hR⟩
  dsimp only at hk hrun hesc hne' hR ⊢
  have hok := runS_ok _ _ _ 0 scan0_ok hrun
  have hlk : (t.take k).length ≤ k := List.length_take_le _ _
  obtain ⟨ho1, ho2, ho3⟩ := hok
  obtain ⟨ls, lb, esc, val⟩ := st
  dsimp only at hesc hne' hR ho1 ho2 ho3 ⊢
  subst hesc
  have hne : ∀ l ∈ ls, l ≠ [] := fun l hl => (hne' l hl).1
  have hR0 := hR
  obtain ⟨a4, c4, rfl⟩ := hR.slice
  by_cases hlt : k < t.length
  · obtain ⟨c, hc⟩ : ∃ c, t[k]? = some c := ⟨_, List.getElem?_eq_getElem hlt⟩
    have i0 : t[Int.toNat ((k : Nat) : Int)]? = some c := by simpa using hc
    have d1 : decide (((k : Nat) : Int) < ((t.length : Nat) : Int)) = true := decide_eq_true (by omega)
    have htk : t.take (k + 1) = t.take k ++ [c] := by rw [List.take_add_one, hc]; rfl
    have hsplit : t = t.take k ++ t.drop k := (List.take_append_drop k t).symm
    by_cases h46 : c.toNat = 46
    · have e2 : (((c.toNat : Nat) : Int) == 46) = true := by simp [h46]
      by_cases hlb : lb = []
      · subst hlb
        have e3 : (([] : List UInt8) == []) = true := by decide
        have hT : textL t = none := textL_none (by rw [hsplit, runS_append, hrun, dropc hc]; simp [runS, h46, takeS])
        repeat ((first | with_reducible refine T_seq ?_ | with_reducible refine T_block ?_ | with_reducible refine T_region ?_ | with_reducible refine TL_nil ?_ | with_reducible refine TQ_then ?_ | with_reducible refine T_skip ?_ | with_reducible refine T_ret ?_ | with_reducible refine TQ_then_ret ?_ | with_reducible refine TQ_block_ret ?_ | refine TL_q (op_move rfl) rfl ?_ | refine TL_q (op_assign rfl) rfl ?_ | (refine' TL_q (op_bin rfl rfl ?_) rfl ?_; rotate_left 1; (· (first | exact bin_eql | exact bin_lss | exact sbin_eql))) | refine TL_q (op_len_str rfl Tryd.underlying9) rfl ?_ | (refine' TL_q (op_index_str rfl rfl Tryd.underlying9 ?_ ?_) rfl ?_; rotate_left 1; (· omega); (· (assumption))) | (refine T_yes rfl ?_ ?_; (· (assumption)))))
        refine TQ_heap (fun w h => h.sub (List.sublist_append_right _ _)) ?_
        refine TQ_ret2 2 3 _ _ rfl rfl rfl ?_
        exact ⟨by rw [hNone hT]; rfl, rfl⟩
      · have e3 : (lb == []) = false := by simpa using hlb
        have hT : takeS ⟨ls, lb, 0, val⟩ c.toNat = (true, ⟨ls ++ [lb], [], 0, val⟩) := by rw [h46]; simp [takeS, hlb]
        repeat ((first | with_reducible refine T_seq ?_ | with_reducible refine T_block ?_ | with_reducible refine T_region ?_ | with_reducible refine TL_nil ?_ | with_reducible refine TQ_then ?_ | with_reducible refine T_skip ?_ | refine TL_q (op_move rfl) rfl ?_ | (refine' TL_q (op_bin rfl rfl ?_) rfl ?_; rotate_left 1; (· (first | exact bin_eql | exact bin_lss | exact sbin_eql))) | refine TL_q (op_len_str rfl Tryd.underlying9) rfl ?_ | (refine' TL_q (op_index_str rfl rfl Tryd.underlying9 ?_ ?_) rfl ?_; rotate_left 1; (· omega); (· (assumption))) | (refine TL_new (op_lit1 ety_70 rfl rfl) rfl ?_; intro bLit) | (refine T_yes rfl ?_ ?_; (· (assumption))) | (refine T_no rfl ?_ ?_; (· (assumption)))))
        refine TL_app1 ety_70 rfl rfl hR0 rfl (by unfold maxLen; omega) (by omega) rfl ?_
        intro v8 B8 hR8
        obtain ⟨a8, c8, rfl⟩ := hR8.slice
        repeat ((first | with_reducible refine T_seq ?_ | with_reducible refine T_region ?_ | with_reducible refine TL_nil ?_ | with_reducible refine TQ_then ?_ | with_reducible refine T_exit ?_ | with_reducible refine TQ_then_exit ?_ | with_reducible refine TQ_block_exit ?_ | refine TL_q (op_move rfl) rfl ?_ | refine TL_q (op_assign rfl) rfl ?_ | (refine' TL_q (op_bin rfl rfl ?_) rfl ?_; rotate_left 1; (· (exact bin_add ⟨by omega, by omega⟩)))))
        refine TQ_roundS (k + 1, ⟨ls ++ [lb], [], 0, val⟩, .slice a8 (ls.length + 1) c8, B8) ⟨by omega, ?_, rfl, ?_, ?_⟩ ?_ (fun _ h => h) (by dsimp only; omega)
        · rw [htk, runS_append, hrun]; simp [runS, hT]
        · intro l hl
          rcases List.mem_append.1 hl with h | h
          · exact hne' l h
          · rw [List.mem_singleton.1 h]; exact ⟨hlb, by omega⟩
        · simpa [txtV] using hR8
        (repeat ((first | exact trivial | refine ⟨rfl, ?_⟩)))
    · have e2 : (((c.toNat : Nat) : Int) == 46) = false := by simp; omega
      repeat ((first | with_reducible refine T_seq ?_ | with_reducible refine T_block ?_ | with_reducible refine T_region ?_ | with_reducible refine TL_nil ?_ | with_reducible refine TQ_then ?_ | with_reducible refine T_skip ?_ | refine TL_q (op_move rfl) rfl ?_ | (refine' TL_q (op_bin rfl rfl ?_) rfl ?_; rotate_left 1; (· (first | exact bin_eql | exact bin_lss))) | refine TL_q (op_len_str rfl Tryd.underlying9) rfl ?_ | (refine' TL_q (op_index_str rfl rfl Tryd.underlying9 ?_ ?_) rfl ?_; rotate_left 1; (· omega); (· (assumption))) | (refine T_yes rfl ?_ ?_; (· (assumption))) | (refine T_no rfl ?_ ?_; (· (assumption)))))
      refine TL_opT (op_call hb_70 rfl (letter_S t k c hc h46 ht)) rfl ?_
      rintro _ _ ⟨⟨d, n, rfl, ho⟩, hM⟩
      subst hM
      unfold letOut
      rcases ho with ⟨rfl, hbad⟩ | ⟨hn1, hn2, hgo⟩
      · have e3 : (((0 : Nat) : Int) == 0) = true := by decide
        have hT : textL t = none := textL_stuck hsplit hrun (hbad _ rfl)
        repeat ((first | with_reducible refine T_seq ?_ | with_reducible refine T_region ?_ | with_reducible refine TL_nil ?_ | with_reducible refine TQ_then ?_ | with_reducible refine T_ret ?_ | with_reducible refine TQ_then_ret ?_ | with_reducible refine TQ_block_ret ?_ | refine TL_q (op_move rfl) rfl ?_ | refine TL_q (op_assign rfl) rfl ?_ | (refine' TL_q (op_bin rfl rfl ?_) rfl ?_; rotate_left 1; (· (exact bin_eql))) | refine TL_q (op_extract rfl rfl) rfl ?_ | (refine T_yes rfl ?_ ?_; (· (assumption)))))
        refine TQ_heap (fun w h => h.sub (List.sublist_append_right _ _)) ?_
        refine TQ_ret2 2 3 _ _ rfl rfl rfl ?_
        exact ⟨by rw [hNone hT]; rfl, rfl⟩
      · have e3 : (((n : Nat) : Int) == 0) = false := by simp; omega
        obtain ⟨v2, hv2⟩ := hgo ⟨ls, lb, 0, val⟩ rfl
        have back : ∀ (j : Nat) (hj : j < [d].length), (#[Value.int .u8 (d.toNat : Int)] : Array Value)[0 + j]? = some (.int .u8 (([d][j]).toNat : Int)) := fun j hj => by
          have : j = 0 := by simpa using hj
          subst this
          rfl
        have hb2 : lb.length + [d].length ≤ 9223372036854775807 := by simp only [List.length_singleton]; omega
        repeat ((first | with_reducible refine T_seq ?_ | with_reducible refine T_region ?_ | with_reducible refine TL_nil ?_ | with_reducible refine TQ_then ?_ | with_reducible refine T_skip ?_ | refine TL_q (op_move rfl) rfl ?_ | refine TL_q (op_assign rfl) rfl ?_ | (refine' TL_q (op_bin rfl rfl ?_) rfl ?_; rotate_left 1; (· (exact bin_eql))) | refine TL_q (op_extract rfl rfl) rfl ?_ | (refine TL_new (op_lit1 ety_48 rfl rfl) rfl ?_; intro bLit) | (refine T_no rfl ?_ ?_; (· (assumption)))))
        refine TL_q (op_conv_back [d] rfl rfl Tryd.underlying48 Tryd.underlying5 Tryd.underlying9 (List.mem_cons_self ..) back) rfl ?_
        refine TL_q (op_bin rfl rfl (sbin_add hb2)) rfl ?_
        repeat ((first | with_reducible refine T_region ?_ | with_reducible refine TL_nil ?_ | with_reducible refine TQ_then ?_ | with_reducible refine TQ_block ?_ | refine TL_q (op_move rfl) rfl ?_ | refine TL_q (op_assign rfl) rfl ?_ | (refine' TL_q (op_bin rfl rfl ?_) rfl ?_; rotate_left 1; (· (exact bin_add ⟨by omega, by omega⟩)))))
        refine TQ_roundS (k + n, ⟨ls, lb ++ [d], 0, v2⟩, .slice a4 ls.length c4, B) ⟨by omega, ?_, rfl, hne', hR0⟩ ?_ (fun _ h => h.tail) (by dsimp only; omega)
        · rw [List.take_add, runS_append, hrun]; exact hv2
        (repeat ((first | exact trivial | refine ⟨rfl, ?_⟩)))
  · have hkl : k = t.length := by omega
    subst hkl
    rw [List.take_length] at hrun
    have d1 : decide (((t.length : Nat) : Int) < ((t.length : Nat) : Int)) = false := decide_eq_false (by omega)
    by_cases hlb : lb = []
    · subst hlb
      have e3 : (!(([] : List UInt8) == [])) = false := by decide
      cases ls with
      | nil =>
        have hT : textL t = none := by unfold textL; rw [hrun]; simp [endS]
        have e4 : (((([] : List Nm.Bytes).length : Nat) : Int) == 0) = true := by decide
        repeat ((first | with_reducible refine T_seq ?_ | with_reducible refine T_region ?_ | with_reducible refine TL_nil ?_ | with_reducible refine TQ_then ?_ | with_reducible refine T_skip ?_ | with_reducible refine T_exit ?_ | with_reducible refine T_ret ?_ | with_reducible refine TQ_then_exit ?_ | with_reducible refine TQ_then_ret ?_ | with_reducible refine TQ_block_exit ?_ | refine TL_q (op_move rfl) rfl ?_ | refine TL_q (op_assign rfl) rfl ?_ | (refine' TL_q (op_bin rfl rfl ?_) rfl ?_; rotate_left 1; (· (first | exact bin_eql | exact bin_lss | exact sbin_neq))) | refine TL_q (op_len_str rfl Tryd.underlying9) rfl ?_ | refine TL_q (op_len_slice rfl Tryd.underlying70) rfl ?_ | (refine T_yes rfl ?_ ?_; (· (assumption))) | (refine T_no rfl ?_ ?_; (· (assumption)))))
        refine TQ_heap (fun w h => h.sub (List.sublist_append_right _ _)) ?_
        refine TQ_ret2 2 3 _ _ rfl rfl rfl ?_
        exact ⟨by rw [hNone hT]; rfl, rfl⟩
      | cons l r =>
        have hT : textL t = some (l :: r) := by unfold textL; rw [hrun]; simp [endS]
        have e4 : ((((l :: r).length : Nat) : Int) == 0) = false := by simp; omega
        repeat ((first | with_reducible refine T_seq ?_ | with_reducible refine T_region ?_ | with_reducible refine TL_nil ?_ | with_reducible refine TQ_then ?_ | with_reducible refine T_skip ?_ | with_reducible refine T_exit ?_ | with_reducible refine TQ_then_exit ?_ | with_reducible refine TQ_block_exit ?_ | refine TL_q (op_move rfl) rfl ?_ | (refine' TL_q (op_bin rfl rfl ?_) rfl ?_; rotate_left 1; (· (first | exact bin_eql | exact bin_lss | exact sbin_neq))) | refine TL_q (op_len_str rfl Tryd.underlying9) rfl ?_ | refine TL_q (op_len_slice rfl Tryd.underlying70) rfl ?_ | (refine T_no rfl ?_ ?_; (· (assumption)))))
        refine TL_op (op_call hb_71 rfl (refJoin_S _ (l :: r) (hR0.strRow (fun p hp => List.mem_append_left _ hp)) (by omega) (fun x hx => by have := (hne' x hx).2; omega))) rfl ?_
        by_cases hE : joinE (l :: r) = 0
        · have e5 : (joinE (l :: r) != 0) = false := by simp [hE]
          repeat ((first | with_reducible refine T_seq ?_ | with_reducible refine T_region ?_ | with_reducible refine TL_nil ?_ | with_reducible refine TQ_then ?_ | with_reducible refine T_skip ?_ | with_reducible refine T_ret ?_ | refine TL_q (op_move rfl) rfl ?_ | refine TL_q (op_assign rfl) rfl ?_ | (refine' TL_q (op_bin rfl rfl ?_) rfl ?_; rotate_left 1; (· (exact bin_neq))) | refine TL_q (op_extract rfl rfl) rfl ?_ | (refine T_no rfl ?_ ?_; (· (assumption)))))
          refine TQ_heap (fun w h => h.sub (List.sublist_append_right _ _)) ?_
          refine TQ_ret2 2 3 _ _ rfl rfl rfl ?_
          exact ⟨by rw [hSome _ hT hne, if_pos hE]; rfl, rfl⟩
        · have e5 : (joinE (l :: r) != 0) = true := by simp [hE]
          repeat ((first | with_reducible refine T_seq ?_ | with_reducible refine T_region ?_ | with_reducible refine TL_nil ?_ | with_reducible refine TQ_then ?_ | with_reducible refine T_ret ?_ | with_reducible refine TQ_then_ret ?_ | refine TL_q (op_move rfl) rfl ?_ | refine TL_q (op_assign rfl) rfl ?_ | (refine' TL_q (op_bin rfl rfl ?_) rfl ?_; rotate_left 1; (· (exact bin_neq))) | refine TL_q (op_extract rfl rfl) rfl ?_ | (refine T_yes rfl ?_ ?_; (· (assumption)))))
          refine TQ_heap (fun w h => h.sub (List.sublist_append_right _ _)) ?_
          refine TQ_ret2 2 3 _ _ rfl rfl rfl ?_
          exact ⟨by rw [hSome _ hT hne, if_neg hE, joinV_bad hE]; rfl, rfl⟩
    · have e3 : (!(lb == [])) = true := by simpa using hlb
      have hT : textL t = some (ls ++ [lb]) := by unfold textL; rw [hrun]; simp [endS, hlb]
      have hne2 : ∀ l ∈ ls ++ [lb], l ≠ [] := fun l hl => by
        rcases List.mem_append.1 hl with h | h
        · exact hne l h
        · rw [List.mem_singleton.1 h]; exact hlb
      have hlen2 : ∀ l ∈ ls ++ [lb], l.length ≤ 100000 := fun l hl => by
        rcases List.mem_append.1 hl with h | h
        · exact (hne' l h).2
        · rw [List.mem_singleton.1 h]; omega
      have e4 : ((((ls ++ [lb]).length : Nat) : Int) == 0) = false := by simp; omega
      repeat ((first | with_reducible refine T_seq ?_ | with_reducible refine T_region ?_ | with_reducible refine TL_nil ?_ | with_reducible refine TQ_then ?_ | with_reducible refine T_exit ?_ | with_reducible refine TQ_then_exit ?_ | with_reducible refine TQ_block_exit ?_ | refine TL_q (op_move rfl) rfl ?_ | (refine' TL_q (op_bin rfl rfl ?_) rfl ?_; rotate_left 1; (· (first | exact bin_lss | exact sbin_neq))) | refine TL_q (op_len_str rfl Tryd.underlying9) rfl ?_ | (refine TL_new (op_lit1 ety_70 rfl rfl) rfl ?_; intro bLit) | (refine T_yes rfl ?_ ?_; (· (assumption))) | (refine T_no rfl ?_ ?_; (· (assumption)))))
      refine TL_app1 ety_70 rfl rfl hR0 rfl (by unfold maxLen; omega) (by omega) rfl ?_
      intro v8 B8 hR8
      have hR9 : Row 9 1 v8 (ls ++ [lb]).length ((ls ++ [lb]).map txtV) B8 := by simpa [txtV] using hR8
      obtain ⟨a8, c8, rfl⟩ := hR9.slice
      repeat ((first | with_reducible refine T_seq ?_ | with_reducible refine T_region ?_ | with_reducible refine TL_nil ?_ | with_reducible refine TQ_then ?_ | with_reducible refine T_skip ?_ | refine TL_q (op_move rfl) rfl ?_ | refine TL_q (op_assign rfl) rfl ?_ | (refine' TL_q (op_bin rfl rfl ?_) rfl ?_; rotate_left 1; (· (exact bin_eql))) | refine TL_q (op_len_slice rfl Tryd.underlying70) rfl ?_ | (refine T_no rfl ?_ ?_; (· (assumption)))))
      refine TL_op (op_call hb_71 rfl (refJoin_S _ (ls ++ [lb]) (hR9.strRow (fun p hp => List.mem_append_left _ hp)) (by simp; omega) (fun x hx => by have := hlen2 x hx; omega))) rfl ?_
      by_cases hE : joinE (ls ++ [lb]) = 0
      · have e5 : (joinE (ls ++ [lb]) != 0) = false := by simp [hE]
        repeat ((first | with_reducible refine T_seq ?_ | with_reducible refine T_region ?_ | with_reducible refine TL_nil ?_ | with_reducible refine TQ_then ?_ | with_reducible refine T_skip ?_ | with_reducible refine T_ret ?_ | refine TL_q (op_move rfl) rfl ?_ | refine TL_q (op_assign rfl) rfl ?_ | (refine' TL_q (op_bin rfl rfl ?_) rfl ?_; rotate_left 1; (· (exact bin_neq))) | refine TL_q (op_extract rfl rfl) rfl ?_ | (refine T_no rfl ?_ ?_; (· (assumption)))))
        refine TQ_heap (fun w h => h.sub (List.sublist_append_right _ _)) ?_
        refine TQ_ret2 2 3 _ _ rfl rfl rfl ?_
        exact ⟨by rw [hSome _ hT hne2, if_pos hE]; rfl, rfl⟩
      · have e5 : (joinE (ls ++ [lb]) != 0) = true := by simp [hE]
        repeat ((first | with_reducible refine T_seq ?_ | with_reducible refine T_region ?_ | with_reducible refine TL_nil ?_ | with_reducible refine TQ_then ?_ | with_reducible refine T_ret ?_ | with_reducible refine TQ_then_ret ?_ | refine TL_q (op_move rfl) rfl ?_ | refine TL_q (op_assign rfl) rfl ?_ | (refine' TL_q (op_bin rfl rfl ?_) rfl ?_; rotate_left 1; (· (exact bin_neq))) | refine TL_q (op_extract rfl rfl) rfl ?_ | (refine T_yes rfl ?_ ?_; (· (assumption)))))
        refine TQ_heap (fun w h => h.sub (List.sublist_append_right _ _)) ?_
        refine TQ_ret2 2 3 _ _ rfl rfl rfl ?_
        exact ⟨by rw [hSome _ hT hne2, if_neg hE, joinV_bad hE]; rfl, rfl⟩
end Go.Proofs.YtnhlpifbadncmaaDoor
namespace Go.Proofs.YtnhlpifbadncmaaDoor
open Go.RowKit

/-- Something that compares. -/
structure Cmps {α : Type} (c : α → α → Int) : Prop where
  zero : ∀ a b, c a b = 0 ↔ a = b
  anti : ∀ a b, c b a = - c a b
  lo : ∀ a b, -1 ≤ c a b
  trans : ∀ a b d, c a b ≤ 0 → c b d ≤ 0 → c a d ≤ 0
theorem Cmps.hi {α : Type} {c : α → α → Int} (h : Cmps c) (a b : α) : c a b ≤ 1 := by have := h.anti b a; have := h.lo b a; omega
def lexC {α : Type} (c : α → α → Int) : List α → List α → Int
  | [], [] => 0
  | [], _ :: _ => -1
  | _ :: _, [] => 1
  | x :: xs, y :: ys => if c x y = 0 then lexC c xs ys else c x y
def byteC (a b : UInt8) : Int := if a < b then -1 else if b < a then 1 else 0
/-- The labels, folded, the last one first. -/
def revL (n : Nm.Bytes) : List Nm.Bytes := (Nm.lowL (Nm.labels n)).reverse
end Go.Proofs.YtnhlpifbadncmaaDoor
namespace Go.Proofs.YtnhlpifbadncmaaDoor
open Go.RowKit
set_option linter.unusedVariables false
set_option linter.unusedSimpArgs false

theorem refLabels_S {G : World} {L : Blocks} (n : Nm.Bytes) (h : n.length ≤ 1000000) : Spec Tryd.prog G 57 #[.string (bs n)] L fun u M => ∃ v B, u = .tuple #[v, .bool (Nm.may n)] ∧ Row 9 1 v (Nm.labels n).length ((Nm.labels n).map txtV) B ∧ M = B ++ L :=
  ⟨fun w hw => (refLabels_any (bs n) w (bs_mil h)).mono fun en w' ⟨v, h1, h2, h3⟩ => by
    have hL : Heap G w' L := ⟨hw.still.trans ⟨h3.os, h3.tape, h3.output, h3.size⟩, hw.nodup, fun p hp => (h3.block p.1 (hw.lt hp)).trans (hw.get p hp)⟩
    rcases h2.2 with ⟨q1, q2⟩ | ⟨g, cap, cur, q1, q2, q3, q4, q5, q6, q7⟩
    · exact ⟨_, _, h1, ⟨v, [], rfl, ⟨h2.1, Or.inl ⟨q1, q2, rfl⟩⟩, rfl⟩, hL⟩
    · refine ⟨_, _, h1, ⟨v, [(g, .cells cur 9 (0, 0))], rfl, ⟨h2.1, Or.inr ⟨g, cap, cur, q1, rfl, q4, q5, q6, q7⟩⟩, rfl⟩, hL.still, ?_, fun p hp => ?_⟩
      · show ((g : Nat) :: L.map (·.1)).Nodup
        rw [List.nodup_cons]
        refine ⟨fun hm => ?_, hL.nodup⟩
        obtain ⟨p, hp, he⟩ := List.mem_map.1 hm
        have := hw.lt hp
        omega
      · rcases List.mem_cons.1 hp with rfl | hp
        · exact q3
        · exact hL.get p hp⟩
end Go.Proofs.YtnhlpifbadncmaaDoor
namespace Go.Proofs.YtnhlpifbadncmaaDoor
open Go.RowKit
set_option linter.unusedVariables false
set_option linter.unusedSimpArgs false

theorem rowLit3 {P : Program} {t e : TypeId} {v0 v1 v2 z : Int} {k : IntKind} {bytes : Nat} (E : ElemTy P t e 1 bytes (.int k z)) : RowLit P t 3 [(0, .int k v0), (1, .int k v1), (2, .int k v2)] e #[.int k v0, .int k v1, .int k v2] :=
  ⟨fun w => by
    obtain ⟨i, h2, h3, h4, h5⟩ := E.info
    have hr3 : Array.range 3 = #[0, 1, 2] := by decide
    simp [Instr.buildSlice, run_underlying E.und, sizeOf, typeInfo, h2, h4, zeroValue, h3, Instr.fill, Value.cells, newRow, hr3]⟩
def dig3 (c : UInt8) : Nm.Bytes := [UInt8.ofNat (48 + c.toNat / 100), UInt8.ofNat (48 + c.toNat / 10 % 10), UInt8.ofNat (48 + c.toNat % 10)]
set_option maxRecDepth 100000 in
set_option maxHeartbeats 2000000 in
theorem digits_S {G : World} {L : Blocks} (c : UInt8) : Spec Tryd.prog G 58 #[.int .u8 (c.toNat : Int)] L fun u M => u = .string (bs (dig3 c)) ∧ M = L := by
  have hc := c.toNat_lt
  refine Spec_of (n := 15) Tryd.func58 rfl rfl rfl ?_
  repeat ((first | with_reducible refine T_seq ?_ | with_reducible refine T_region ?_ | with_reducible refine TL_nil ?_ | with_reducible refine TQ_then ?_ | refine TL_q (op_move rfl) rfl ?_ | refine TL_q (op_assign rfl) rfl ?_ | (refine' TL_q (op_bin rfl rfl ?_) rfl ?_; rotate_left 1; (· (first | exact bin_add ⟨by omega, by omega⟩ | exact bin_quo (by omega) (by omega) ⟨by omega, by omega⟩ | exact bin_rem (by omega) (by omega))))))
  refine TL_new (op_buildSlice rfl (rowLit3 ety_48)) rfl ?_
  intro b
  refine TL_q (op_conv_back (dig3 c) rfl rfl Tryd.underlying48 Tryd.underlying5 Tryd.underlying9 (List.mem_cons_self ..) ?_) rfl ?_
  · intro j hj
    have hj3 : j < 3 := by simpa [dig3] using hj
    have : j = 0 ∨ j = 1 ∨ j = 2 := by omega
    rcases this with rfl | rfl | rfl
    · exact congrArg (fun i : Int => some (Value.int .u8 i)) (by simp [dig3]; omega)
    · exact congrArg (fun i : Int => some (Value.int .u8 i)) (by simp [dig3]; omega)
    · exact congrArg (fun i : Int => some (Value.int .u8 i)) (by simp [dig3]; omega)
  repeat ((first | with_reducible refine TL_nil ?_ | with_reducible refine TQ_then ?_ | with_reducible refine T_ret ?_ | refine TL_q (op_assign rfl) rfl ?_))
  refine TQ_heap (fun w h => h.tail) ?_
  refine TQ_ret1 2 _ rfl rfl ?_
  exact ⟨rfl, rfl⟩

set_option maxRecDepth 100000 in
set_option maxHeartbeats 2000000 in
theorem refText_S {G : World} {L : Blocks} (n : Nm.Bytes) (hn : n.length ≤ 1000000) : Spec Tryd.prog G 39 #[.string (bs n)] L fun u M => u = .string (bs (textN n)) ∧ M = L := by
  refine Spec_of (n := 67) Tryd.func39 rfl rfl rfl ?_
  repeat ((first | with_reducible refine T_seq ?_ | with_reducible refine T_region ?_ | with_reducible refine TL_nil ?_ | with_reducible refine TQ_then ?_ | refine TL_q (op_move rfl) rfl ?_ | refine TL_q (op_assign rfl) rfl ?_))
  refine TL_opT (op_call hb_57 rfl (refLabels_S n hn)) rfl ?_
  rintro _ _ ⟨v3, B3, rfl, hR3, rfl⟩
  obtain ⟨a3, c3, rfl⟩ := hR3.slice
  cases mn : Nm.may n with
  | false =>
    have hT : textN n = [] := by simp [textN, Nm.nm_of_not mn]
    repeat ((first | with_reducible refine T_seq ?_ | with_reducible refine T_region ?_ | with_reducible refine TL_nil ?_ | with_reducible refine TQ_then ?_ | with_reducible refine T_ret ?_ | with_reducible refine TQ_then_ret ?_ | refine TL_q (op_move rfl) rfl ?_ | refine TL_q (op_assign rfl) rfl ?_ | refine TL_q (op_not rfl) rfl ?_ | refine TL_q (op_extract rfl rfl) rfl ?_ | (refine T_yes rfl ?_ ?_; (· (exact Bool.not_false)))))
    refine TQ_heap (fun w h => h.sub (List.sublist_append_right _ _)) ?_
    refine TQ_ret1 2 _ rfl rfl ?_
    exact ⟨by rw [hT]; rfl, rfl⟩
  | true =>
    obtain ⟨ls, hls⟩ := Nm.nm_of_may mn
    have hlab : Nm.labels n = ls := by simp [Nm.labels, hls]
    rw [hlab] at hR3 ⊢
    have hsum := nm_sum hls
    have hfew := nm_few hls
    cases ls with
    | nil =>
      have hT : textN n = [46] := by simp [textN, hls]
      have e1 : ((((([] : List Nm.Bytes).length : Nat)) : Int) == 0) = true := by decide
      repeat ((first | with_reducible refine T_seq ?_ | with_reducible refine T_region ?_ | with_reducible refine TL_nil ?_ | with_reducible refine TQ_then ?_ | with_reducible refine T_skip ?_ | with_reducible refine T_ret ?_ | with_reducible refine TQ_then_ret ?_ | refine TL_q (op_move rfl) rfl ?_ | refine TL_q (op_assign rfl) rfl ?_ | (refine' TL_q (op_bin rfl rfl ?_) rfl ?_; rotate_left 1; (· (exact bin_eql))) | refine TL_q (op_not rfl) rfl ?_ | refine TL_q (op_extract rfl rfl) rfl ?_ | refine TL_q (op_len_slice rfl Tryd.underlying70) rfl ?_ | (refine T_yes rfl ?_ ?_; (· (assumption))) | (refine T_no rfl ?_ ?_; (· (exact Bool.not_true)))))
      refine TQ_heap (fun w h => h.sub (List.sublist_append_right _ _)) ?_
      refine TQ_ret1 2 _ rfl rfl ?_
      exact ⟨by rw [hT]; rfl, rfl⟩
    | cons l0 r0 =>
      have hT := text_name hls
      have e1 : ((((l0 :: r0).length : Nat) : Int) == 0) = false := by simp; omega
      obtain ⟨ls, hle⟩ : ∃ ls, ls = l0 :: r0 := ⟨_, rfl⟩
      rw [← hle] at hT hsum hfew hR3 e1 hls ⊢
      have hrow := hR3.strRow (L := B3 ++ L) (fun p hp => List.mem_append_left _ hp)
      obtain ⟨_, _, hveq, hcells⟩ := hrow
      cases hveq
      clear hle hlab
      repeat ((first | with_reducible refine T_seq ?_ | with_reducible refine T_block ?_ | with_reducible refine T_region ?_ | with_reducible refine TL_nil ?_ | with_reducible refine TQ_then ?_ | with_reducible refine T_skip ?_ | refine TL_q (op_move rfl) rfl ?_ | refine TL_q (op_assign rfl) rfl ?_ | (refine' TL_q (op_bin rfl rfl ?_) rfl ?_; rotate_left 1; (· (exact bin_eql))) | refine TL_q (op_not rfl) rfl ?_ | refine TL_q (op_extract rfl rfl) rfl ?_ | refine TL_q (op_len_slice rfl Tryd.underlying70) rfl ?_ | (refine T_no rfl ?_ ?_; (· (first | assumption | exact Bool.not_true)))))
      refine T_loopS (σ := Nat) (fun k => k ≤ ls.length) (fun k => [(3, .slice a3 ls.length c3), (5, .string (bs (txtOf (ls.take k)))), (6, .int .i64 (k : Nat))]) (fun _ => B3 ++ L) (fun k => ls.length - k) 0 (by omega) ?_ (fun _ h => h) ?_
      (repeat ((first | exact trivial | refine ⟨rfl, ?_⟩)))
      intro k hk
      have hlenk := txtOf_len (ls.take k)
      have hsumk := lblSum_take ls k
      by_cases hlt : k < ls.length
      · obtain rfl | ⟨b, off, C, te, fr, rfl, hm, hc⟩ := hcells
        · simp at hlt
        obtain ⟨l, hlk⟩ : ∃ l, ls[k]? = some l := ⟨_, List.getElem?_eq_getElem hlt⟩
        have hcell := hc k l hlk
        have htk : ls.take (k + 1) = ls.take k ++ [l] := by rw [List.take_add_one, hlk]; rfl
        have hll : l.length ≤ 254 := by
          have := lblSum_take ls (k + 1)
          rw [htk, lblSum_append, lblSum_cons] at this
          omega
        have d1 : decide ((k : Int) < (ls.length : Int)) = true := decide_eq_true (by omega)
        repeat ((first | with_reducible refine T_seq ?_ | with_reducible refine T_block ?_ | with_reducible refine T_region ?_ | with_reducible refine TL_nil ?_ | with_reducible refine TQ_then ?_ | with_reducible refine T_skip ?_ | refine TL_q (op_move rfl) rfl ?_ | refine TL_q (op_assign rfl) rfl ?_ | (refine' TL_q (op_bin rfl rfl ?_) rfl ?_; rotate_left 1; (· (exact bin_lss))) | refine TL_q (op_len_slice rfl Tryd.underlying70) rfl ?_ | (refine T_yes rfl ?_ ?_; (· (assumption)))))
        refine T_loopS (σ := Nat) (fun i => i ≤ l.length) (fun i => [(3, .slice (some ⟨b, off, none⟩) ls.length c3), (5, .string (bs (txtOf (ls.take k) ++ (l.take i).flatMap wr))), (6, .int .i64 (k : Nat)), (7, .int .i64 (i : Nat))]) (fun _ => B3 ++ L) (fun i => l.length - i) 0 (by omega) ?_ (fun _ h => h) ?_
        · refine ⟨rfl, ?_, rfl, rfl, trivial⟩
          simp
          rfl
        intro i hi
        have hlen2 := flat_wr_len (l.take i)
        have hlen3 : (l.take i).length ≤ i := List.length_take_le _ _
        by_cases hil : i < l.length
        · obtain ⟨c, hc2⟩ : ∃ c, l[i]? = some c := ⟨_, List.getElem?_eq_getElem hil⟩
          have hc3 : l[((i : Nat) : Int).toNat]? = some c := hc2
          have hti : l.take (i + 1) = l.take i ++ [c] := by rw [List.take_add_one, hc2]; rfl
          have d2 : decide ((i : Int) < (l.length : Int)) = true := decide_eq_true (by omega)
          have hcn := c.toNat_lt
          obtain ⟨A, hA⟩ : ∃ A, A = txtOf (ls.take k) ++ (l.take i).flatMap wr := ⟨_, rfl⟩
          have hAl : A.length ≤ 100000 := by rw [hA, List.length_append]; omega
          have hAn : txtOf (ls.take k) ++ (l.take (i + 1)).flatMap wr = A ++ wr c := by rw [hti, List.flatMap_append, hA]; simp
          have back : ∀ (j : Nat) (hj : j < [c].length), (#[Value.int .u8 (c.toNat : Int)] : Array Value)[0 + j]? = some (.int .u8 (([c][j]).toNat : Int)) := fun j hj => by
            have : j = 0 := by simpa using hj
            subst this
            rfl
          rw [← hA]
          clear hA
          by_cases h46 : c.toNat = 46 ∨ c.toNat = 92
          · have hw : wr c = [92, c] := by unfold wr; rw [if_pos h46]
            have e3 : decide (((c.toNat : Nat) : Int) < 33) = false := decide_eq_false (by omega)
            have e4 : decide ((126 : Int) < ((c.toNat : Nat) : Int)) = false := decide_eq_false (by omega)
            have hb1 : A.length + ([92] : Nm.Bytes).length ≤ 9223372036854775807 := by simp only [List.length_singleton]; omega
            have hb2 : (A ++ [92]).length + [c].length ≤ 9223372036854775807 := by simp only [List.length_append, List.length_singleton]; omega
            have fin : ∀ (K : Prop), ((((c.toNat : Nat) : Int) == 46) = true → K) → ((((c.toNat : Nat) : Int) == 46) = false → (((c.toNat : Nat) : Int) == 92) = true → K) → K := fun K k1 k2 => by
              by_cases hh : c.toNat = 46
              · exact k1 (by simp [hh])
              · exact k2 (by simp; omega) (by simp; omega)
            refine fin _ (fun f1 => ?_) (fun f1 f2 => ?_)
            all_goals
              repeat ((first | with_reducible refine T_seq ?_ | with_reducible refine T_block ?_ | with_reducible refine T_region ?_ | with_reducible refine TL_nil ?_ | with_reducible refine TQ_then ?_ | with_reducible refine T_skip ?_ | refine TL_q (op_move rfl) rfl ?_ | refine TL_q (op_assign rfl) rfl ?_ | (refine' TL_q (op_bin rfl rfl ?_) rfl ?_; rotate_left 1; (· (first | exact bin_eql | exact bin_lss | exact sbin_add (by (omega))))) | (refine' TL_q (op_pickT rfl ?_ rfl) rfl ?_; (· (assumption))) | (refine' TL_q (op_pickF rfl ?_ rfl) rfl ?_; (· (assumption))) | refine TL_q (op_len_str rfl Tryd.underlying9) rfl ?_ | (refine' TL_q (op_index_str rfl rfl Tryd.underlying9 ?_ ?_) rfl ?_; rotate_left 1; (· omega); (· (assumption))) | (refine' TL_q (op_idx ety_70 rfl rfl ?_) rfl ?_; (· omega)) | (refine' TL_q (op_ld rfl pl_9 ?_ ?_) rfl ?_; rotate_left 4; (· repeat ((assumption))); (· (assumption))) | (refine TL_gpre rfl rfl ?_ ?_; (· (assumption))) | refine TL_gq2 (op_move rfl) rfl ?_ | (refine' TL_gq2 (op_bin rfl rfl ?_) rfl ?_; rotate_left 1; (· (first | exact bin_eql | exact bin_gtr))) | (refine TL_gno rfl rfl ?_ rfl ?_; (· (assumption))) | (refine TL_new (op_lit1 ety_48 rfl rfl) rfl ?_; intro bLit) | (refine T_yes rfl ?_ ?_; (· (first | with_reducible rfl | assumption))) | (refine T_no rfl ?_ ?_; (· (assumption)))))
              refine TL_q (op_conv_back [c] rfl rfl Tryd.underlying48 Tryd.underlying5 Tryd.underlying9 (List.mem_cons_self ..) back) rfl ?_
              refine TL_q (op_bin rfl rfl (sbin_add hb2)) rfl ?_
              repeat ((first | with_reducible refine T_region ?_ | with_reducible refine TL_nil ?_ | with_reducible refine TQ_then ?_ | with_reducible refine TQ_block ?_ | refine TL_q (op_move rfl) rfl ?_ | refine TL_q (op_assign rfl) rfl ?_ | (refine' TL_q (op_bin rfl rfl ?_) rfl ?_; rotate_left 1; (· (exact bin_add ⟨by omega, by omega⟩)))))
              refine TQ_roundS (i + 1) (by omega) ?_ (fun _ h => h.tail) (by omega)
              refine ⟨rfl, ?_, rfl, rfl, trivial⟩
              rw [hAn, hw]
              simp
              rfl
          · have f1 : (((c.toNat : Nat) : Int) == 46) = false := by simp; omega
            have f2 : (((c.toNat : Nat) : Int) == 92) = false := by simp; omega
            by_cases h33 : c.toNat < 33 ∨ 126 < c.toNat
            · have hw : wr c = 92 :: dig3 c := by unfold wr; rw [if_neg h46, if_pos h33]; rfl
              have hd3 : (dig3 c).length = 3 := rfl
              have fin : ∀ (K : Prop), (decide (((c.toNat : Nat) : Int) < 33) = true → K) → (decide (((c.toNat : Nat) : Int) < 33) = false → decide ((126 : Int) < ((c.toNat : Nat) : Int)) = true → K) → K := fun K k1 k2 => by
                by_cases hh : c.toNat < 33
                · exact k1 (decide_eq_true (by omega))
                · exact k2 (decide_eq_false (by omega)) (decide_eq_true (by omega))
              have hb0 : A.length + ([92] : Nm.Bytes).length ≤ 9223372036854775807 := by simp only [List.length_singleton]; omega
              have hb1 : (A ++ [92]).length + (dig3 c).length ≤ 9223372036854775807 := by rw [hd3]; simp only [List.length_append, List.length_singleton]; omega
              refine fin _ (fun e3 => ?_) (fun e3 e4 => ?_)
              all_goals
                repeat ((first | with_reducible refine T_seq ?_ | with_reducible refine T_block ?_ | with_reducible refine T_region ?_ | with_reducible refine TL_nil ?_ | with_reducible refine TQ_then ?_ | with_reducible refine TQ_block ?_ | with_reducible refine T_skip ?_ | refine TL_q (op_move rfl) rfl ?_ | refine TL_q (op_assign rfl) rfl ?_ | (refine' TL_q (op_bin rfl rfl ?_) rfl ?_; rotate_left 1; (· (first | exact bin_add ⟨by omega, by omega⟩ | exact bin_eql | exact bin_lss | exact sbin_add (by (omega))))) | (refine' TL_q (op_pickT rfl ?_ rfl) rfl ?_; (· (assumption))) | (refine' TL_q (op_pickF rfl ?_ rfl) rfl ?_; (· (assumption))) | refine TL_q (op_len_str rfl Tryd.underlying9) rfl ?_ | (refine' TL_q (op_index_str rfl rfl Tryd.underlying9 ?_ ?_) rfl ?_; rotate_left 1; (· omega); (· (assumption))) | (refine' TL_q (op_idx ety_70 rfl rfl ?_) rfl ?_; (· omega)) | (refine' TL_q (op_ld rfl pl_9 ?_ ?_) rfl ?_; rotate_left 4; (· repeat ((assumption))); (· (assumption))) | (refine' TL_op (op_call hb_58 rfl (digits_S _ )) rfl ?_) | (refine TL_gpre rfl rfl ?_ ?_; (· (assumption))) | refine TL_gq2 (op_move rfl) rfl ?_ | (refine' TL_gq2 (op_bin rfl rfl ?_) rfl ?_; rotate_left 1; (· (first | exact bin_eql | exact bin_gtr))) | (refine TL_gno rfl rfl ?_ rfl ?_; (· (assumption))) | (refine T_yes rfl ?_ ?_; (· (first | with_reducible rfl | assumption))) | (refine T_no rfl ?_ ?_; (· (assumption)))))
                refine TQ_roundS (i + 1) (by omega) ?_ (fun _ h => h) (by omega)
                refine ⟨rfl, ?_, rfl, rfl, trivial⟩
                rw [hAn, hw]
                simp
                rfl
            · have hw : wr c = [c] := by unfold wr; rw [if_neg h46, if_neg h33]
              have e3 : decide (((c.toNat : Nat) : Int) < 33) = false := decide_eq_false (by omega)
              have e4 : decide ((126 : Int) < ((c.toNat : Nat) : Int)) = false := decide_eq_false (by omega)
              have hb2 : A.length + [c].length ≤ 9223372036854775807 := by simp only [List.length_singleton]; omega
              repeat ((first | with_reducible refine T_seq ?_ | with_reducible refine T_block ?_ | with_reducible refine T_region ?_ | with_reducible refine TL_nil ?_ | with_reducible refine TQ_then ?_ | with_reducible refine T_skip ?_ | refine TL_q (op_move rfl) rfl ?_ | refine TL_q (op_assign rfl) rfl ?_ | (refine' TL_q (op_bin rfl rfl ?_) rfl ?_; rotate_left 1; (· (first | exact bin_eql | exact bin_lss))) | (refine' TL_q (op_pickF rfl ?_ rfl) rfl ?_; (· (assumption))) | refine TL_q (op_len_str rfl Tryd.underlying9) rfl ?_ | (refine' TL_q (op_index_str rfl rfl Tryd.underlying9 ?_ ?_) rfl ?_; rotate_left 1; (· omega); (· (assumption))) | (refine' TL_q (op_idx ety_70 rfl rfl ?_) rfl ?_; (· omega)) | (refine' TL_q (op_ld rfl pl_9 ?_ ?_) rfl ?_; rotate_left 4; (· repeat ((assumption))); (· (assumption))) | (refine TL_gpre rfl rfl ?_ ?_; (· (assumption))) | refine TL_gq2 (op_move rfl) rfl ?_ | (refine' TL_gq2 (op_bin rfl rfl ?_) rfl ?_; rotate_left 1; (· (first | exact bin_eql | exact bin_gtr))) | (refine TL_new (op_lit1 ety_48 rfl rfl) rfl ?_; intro bLit) | (refine T_yes rfl ?_ ?_; (· (assumption))) | (refine T_no rfl ?_ ?_; (· (assumption)))))
              refine TL_q (op_conv_back [c] rfl rfl Tryd.underlying48 Tryd.underlying5 Tryd.underlying9 (List.mem_cons_self ..) back) rfl ?_
              refine TL_q (op_bin rfl rfl (sbin_add hb2)) rfl ?_
              repeat ((first | with_reducible refine T_region ?_ | with_reducible refine TL_nil ?_ | with_reducible refine TQ_then ?_ | with_reducible refine TQ_block ?_ | refine TL_q (op_move rfl) rfl ?_ | refine TL_q (op_assign rfl) rfl ?_ | (refine' TL_q (op_bin rfl rfl ?_) rfl ?_; rotate_left 1; (· (exact bin_add ⟨by omega, by omega⟩)))))
              refine TQ_roundS (i + 1) (by omega) ?_ (fun _ h => h.tail) (by omega)
              refine ⟨rfl, ?_, rfl, rfl, trivial⟩
              rw [hAn, hw]
              rfl
        · have hie : i = l.length := by omega
          subst hie
          have d2 : decide ((l.length : Int) < (l.length : Int)) = false := by simp
          rw [List.take_length] at hlen2
          have hb5 : (txtOf (ls.take k) ++ (l.take l.length).flatMap wr).length + ([46] : Nm.Bytes).length ≤ 9223372036854775807 := by rw [List.take_length, List.length_append]; simp only [List.length_singleton]; omega
          repeat ((first | with_reducible refine T_seq ?_ | with_reducible refine T_region ?_ | with_reducible refine TL_nil ?_ | with_reducible refine TQ_then ?_ | with_reducible refine TQ_block ?_ | with_reducible refine T_exit ?_ | with_reducible refine TQ_then_exit ?_ | with_reducible refine TQ_block_exit ?_ | refine TL_q (op_move rfl) rfl ?_ | refine TL_q (op_assign rfl) rfl ?_ | (refine' TL_q (op_bin rfl rfl ?_) rfl ?_; rotate_left 1; (· (first | exact bin_add ⟨by omega, by omega⟩ | exact bin_lss | exact sbin_add (by (omega))))) | refine TL_q (op_len_str rfl Tryd.underlying9) rfl ?_ | (refine' TL_q (op_idx ety_70 rfl rfl ?_) rfl ?_; (· omega)) | (refine' TL_q (op_ld rfl pl_9 ?_ ?_) rfl ?_; rotate_left 4; (· repeat ((assumption))); (· (assumption))) | (refine T_no rfl ?_ ?_; (· (assumption)))))
          refine TQ_roundS (k + 1) (by omega) ?_ (fun _ h => h) (by omega)
          refine ⟨rfl, ?_, rfl, trivial⟩
          rw [htk, txtOf_snoc, List.take_length]
          simp [txtL]
          rfl
      · have hkl : k = ls.length := by omega
        subst hkl
        have d1 : decide ((ls.length : Int) < (ls.length : Int)) = false := by simp
        repeat ((first | with_reducible refine T_seq ?_ | with_reducible refine T_region ?_ | with_reducible refine TL_nil ?_ | with_reducible refine TQ_then ?_ | with_reducible refine T_exit ?_ | with_reducible refine T_ret ?_ | with_reducible refine TQ_then_exit ?_ | with_reducible refine TQ_block_exit ?_ | refine TL_q (op_move rfl) rfl ?_ | refine TL_q (op_assign rfl) rfl ?_ | (refine' TL_q (op_bin rfl rfl ?_) rfl ?_; rotate_left 1; (· (exact bin_lss))) | refine TL_q (op_len_slice rfl Tryd.underlying70) rfl ?_ | (refine T_no rfl ?_ ?_; (· (assumption)))))
        refine TQ_heap (fun w h => h.sub (List.sublist_append_right _ _)) ?_
        refine TQ_ret1 2 _ rfl rfl ?_
        exact ⟨by rw [hT, List.take_length], rfl⟩
end Go.Proofs.YtnhlpifbadncmaaDoor
namespace Go.Proofs.YtnhlpifbadncmaaDoor
open Go.RowKit
set_option linter.unusedVariables false
set_option linter.unusedSimpArgs false
variable {G : World} {P : Program} {n : Nat} {ρ : Slots} {L : Blocks} {ty : TypeId} {Q : Exit → Act → World → Prop}
theorem TQ_retC {fn : Func} {Φ : Value → Blocks → Prop} (a t : Nat) {b k : Nat} {C : Array Value} {te : TypeId} {fr : Nat × Nat} {L' : Blocks} (hr : fn.results = #[.cell a t]) (hv : ρ.lookup a = some (.pointer (some ⟨b, 0, none⟩)))
    (ht : structTy P t k = true) (hm : (b, Obj.cells C te fr) ∈ L) (hk : C.size = k) (hl : ∀ w, Heap G w L → Heap G w L') (h : Φ (.agg C) L') : TQ G n ρ L .ret (bodyPost P fn (RetPost G Φ)) :=
  ⟨fun ac w he hw => ⟨he.defers, .agg C, by
    have h1 : ac.tmps.getD a undef = .pointer (some ⟨b, 0, none⟩) := he.reads (.tmp a) _ hv
    unfold structTy at ht
    cases hu : P.underlying t with
    | none => simp [hu] at ht
    | some d =>
      cases hi : P.info? t with
      | none => simp [hi] at ht
      | some i =>
        cases d with
        | struct fs =>
          simp [hu, hi] at ht
          have ha : (isAgg t).run P w = .ok true w := by
            unfold isAgg
            simp [run_underlying hu]
          have hc := run_loadCells_list (P := P) (w := w) ⟨b, 0, none⟩ C.toList (fun j v hj => by rw [addr_add, Nat.zero_add]; exact hw.cell hm (by simpa using hj))
          rw [Array.length_toList, hk] at hc
          rw [Array.getD_eq_getD_getElem?] at h1
          simp only [results, hr]
          simp [h1, asAddr, loadVar, ha, sizeOf, typeInfo, hi, ht, hc]
        | _ => simp [hu] at ht, _, L', rfl, h, hl w hw⟩⟩
end Go.Proofs.YtnhlpifbadncmaaDoor
namespace Go.Proofs.YtnhlpifbadncmaaDoor
open Go.ChangeShapes Go.WideShapes Go.ChangeAt Go.RowKit
set_option linter.unusedVariables false
set_option linter.unusedSimpArgs false
/-- How a thing lies in cells. -/
abbrev Rp (α : Type) := Blocks → List Value → α → Prop
def Mono {α : Type} (r : Rp α) : Prop := ∀ L L' cs a, (∀ p ∈ L, p ∈ L') → r L cs a → r L' cs a
def InLit (k : IntKind) (n : Int) : Prop := (Lit.int k n).wf = true
def intR (k : IntKind) : Rp Int := fun _ cs n => cs = [.int k n] ∧ InLit k n
def boolR : Rp Bool := fun _ cs b => cs = [.bool b]
def strR : Rp (List UInt8) := fun _ cs s => cs = [.string (bs s)] ∧ s.length ≤ maxLen
def sliceR {α : Type} (sz : Nat) (r : Rp α) : Rp (List α) := fun L cs l => ∃ a cap, cs = [.slice a l.length cap] ∧ l.length ≤ cap ∧ cap ≤ maxLen ∧ (l = [] ∨ ∃ b off C te fr, a = some ⟨b, off, none⟩ ∧ (b, Obj.cells C te fr) ∈ L ∧
  ∀ i x, l[i]? = some x → ∃ cs', cs'.length = sz ∧ r L cs' x ∧ ∀ j v, cs'[j]? = some v → C[off + i * sz + j]? = some v)
theorem mono_slice {α : Type} {sz : Nat} {r : Rp α} (h : Mono r) : Mono (sliceR sz r) := by
  rintro L L' cs l hL ⟨a, cap, h1, h2, h3, h4⟩
  refine ⟨a, cap, h1, h2, h3, h4.imp id ?_⟩
  rintro ⟨b, off, C, te, fr, q1, q2, q3⟩
  refine ⟨b, off, C, te, fr, q1, hL _ q2, fun i x hx => ?_⟩
  obtain ⟨cs', k1, k2, k3⟩ := q3 i x hx
  exact ⟨cs', k1, h L L' cs' x hL k2, k3⟩
section
variable {H : Type} {enc : TypeId × Value → H} {P : Program} {W : World}
/-- What is handed in lies so. -/
def Opens {α : Type} (enc : TypeId × Value → H) (P : Program) (W : World) (t : TypeId) (n : Nat) (r : Rp α) : Prop := ∀ fuel cs x, DataW.trod enc P W 0 (fun _ => true) true fuel t cs = some x → cs.length = n ∧ ∃ a, r (allBlocks W) cs a
theorem opens_int {t : TypeId} {k : IntKind} (hu : P.underlying t = some (.int k)) : Opens enc P W t 1 (intR k) := fun fuel cs x h => by
  obtain ⟨a, e, _, wa⟩ := DataW.trod_int hu h
  subst e
  exact ⟨rfl, a, rfl, wa⟩
theorem opens_string {t : TypeId} (hu : P.underlying t = some .string) : Opens enc P W t 1 strR := fun fuel cs x h => by
  obtain ⟨s, e, _, hs⟩ := DataW.trod_string hu h
  subst e
  exact ⟨rfl, s.data.toList, rfl, by simpa using hs⟩
theorem block_of_cell {a : Addr} {v : Value} (h : W.cell? a = some v) : a.spot = none → ∃ C te fr, W.heap[a.block]? = some (.cells C te fr) := by
  intro _
  unfold World.cell? at h
  split at h
  · exact ⟨_, _, _, by assumption⟩
  all_goals simp at h
theorem opens_slice {α : Type} [Inhabited α] {t e : TypeId} {sz : Nat} {r : Rp α} (hu : P.underlying t = some (.slice e)) (hc : P.cellsOf e = sz) (hp : 0 < sz) (h : Opens enc P W e sz r) : Opens enc P W t 1 (sliceR sz r) := fun fuel cs x hf => by
  rcases Deep.open_slice hu hf with ⟨hcs, _⟩ | ⟨x, len, cap, m, n, D, Pl, hcs, _, hl, hm, hmm, _, hall⟩
  · subst hcs
    exact ⟨rfl, [], none, 0, rfl, by simp, by simp, Or.inl rfl⟩
  · subst hcs
    refine ⟨rfl, ?_⟩
    simp at hmm
    have hel : ∀ i, i < len → ∃ a : α, ∃ cs', cs'.length = sz ∧ r (allBlocks W) cs' a ∧ ∀ j u, cs'[j]? = some u → W.cell? (x.add (i * sz + j)) = some u := by
      intro i hi
      obtain ⟨cs', h1, h2⟩ := hall i (by omega)
      obtain ⟨k1, a, k2⟩ := h _ _ _ h2
      obtain ⟨_, _, hat⟩ := World.cells?_some h1
      refine ⟨a, cs', k1, k2, fun j u hj => ?_⟩
      have hj3 := (List.getElem?_eq_some_iff.1 hj).1
      rw [← Deep.add_add, ← hc, hat j (by rw [hc, ← k1]; exact hj3), hj]
    obtain ⟨f, hf2⟩ := Deep.choose_lt hel
    have hlen : ((List.range len).map f).length = len := by simp
    refine ⟨(List.range len).map f, some x, cap, by rw [hlen], by rw [hlen]; exact hl, hm, ?_⟩
    by_cases h0 : len = 0
    · left; subst h0; rfl
    · right
      obtain ⟨cs0, g1, _, g2⟩ := hf2 0 (by omega)
      obtain ⟨v0, hv0⟩ : ∃ v0, cs0[0]? = some v0 := ⟨_, List.getElem?_eq_getElem (by omega)⟩
      have hc0 := g2 0 _ hv0
      obtain ⟨b, off, spot⟩ := x
      have hspot : spot = none := by simpa [Addr.add] using World.cell?_spot hc0
      subst hspot
      rw [addr_add] at hc0
      obtain ⟨C, te, fr, hb⟩ := block_of_cell hc0 rfl
      refine ⟨b, off, C, te, fr, rfl, mem_all hb, fun i a hi => ?_⟩
      rw [List.getElem?_map, Option.map_eq_some_iff] at hi
      obtain ⟨k, hk, rfl⟩ := hi
      obtain ⟨hkl, hkk⟩ := List.getElem?_eq_some_iff.1 hk
      simp at hkl hkk
      subst hkk
      obtain ⟨cs', g1, g2, g3⟩ := hf2 i hkl
      refine ⟨cs', g1, g2, fun j v hj => ?_⟩
      have := g3 j v hj
      rw [addr_add] at this
      unfold World.cell? at this
      dsimp only at this
      rw [show W.heap[b]? = some (.cells C te fr) from hb] at this
      rw [Nat.add_assoc]
      simpa using this
/-- A struct's fields. -/
theorem opens_fields {t : TypeId} {fs : Array Field} {fuel : Nat} {cs : List Value} {x : DataW H × List MemPlace} (hu : P.underlying t = some (.struct fs)) (h : DataW.trod enc P W 0 (fun _ => true) true fuel t cs = some x) :
    cs.length = P.cellsOf t ∧ ∀ (i : Nat) (f : Field), fs[i]? = some f → ∃ n y, DataW.trod enc P W 0 (fun _ => true) true n f.type ((cs.drop f.offset).take (P.cellsOf f.type)) = some y := by
  obtain ⟨xs, n, _, rfl, hl, hlen, hf⟩ := DataW.trod_struct hu h
  refine ⟨hl, fun i f hi => ?_⟩
  have hi' : i < xs.length := by rw [hlen]; have := (Array.getElem?_eq_some_iff.1 hi).1; simpa using this
  exact ⟨n, xs[i], by rw [hf i f hi]; exact List.getElem?_eq_getElem hi'⟩
theorem Opens.at {α : Type} {r : Rp α} {t : TypeId} {n : Nat} (h : Opens enc P W t n r) {fuel : Nat} {cs : List Value} {x : DataW H × List MemPlace} (hx : DataW.trod enc P W 0 (fun _ => true) true fuel t cs = some x) : ∃ a, r (allBlocks W) cs a := (h fuel cs x hx).2
end
end Go.Proofs.YtnhlpifbadncmaaDoor
namespace Go.Proofs.YtnhlpifbadncmaaDoor
open Go.RowKit
set_option linter.unusedVariables false
set_option linter.unusedSimpArgs false
/-- Things in cells, one behind the other. -/
def Laid {α : Type} (r : Rp α) (sz : Nat) (L : Blocks) : List Value → List α → Prop
  | xs, [] => xs = []
  | xs, x :: l => ∃ c ys, xs = c ++ ys ∧ c.length = sz ∧ r L c x ∧ Laid r sz L ys l
section
variable {α : Type} {r : Rp α} {sz : Nat} {L : Blocks}
theorem Laid.mono (hr : Mono r) {L' : Blocks} (hL : ∀ p ∈ L, p ∈ L') : ∀ {l : List α} {xs : List Value}, Laid r sz L xs l → Laid r sz L' xs l
  | [], _, h => h
  | x :: l, _, ⟨c, ys, h1, h2, h3, h4⟩ => ⟨c, ys, h1, h2, hr _ _ _ _ hL h3, Laid.mono hr hL h4⟩
theorem Laid.append : ∀ {l m : List α} {xs ys : List Value}, Laid r sz L xs l → Laid r sz L ys m → Laid r sz L (xs ++ ys) (l ++ m)
  | [], m, _, _, h, k => by rw [show _ = [] from h]; exact k
  | x :: l, m, _, ys, ⟨c, zs, h1, h2, h3, h4⟩, k => ⟨c, zs ++ ys, by rw [h1, List.append_assoc], h2, h3, h4.append k⟩
theorem Laid.one {c : List Value} {x : α} (hn : c.length = sz) (h : r L c x) : Laid r sz L c [x] := ⟨c, [], by simp, hn, h, rfl⟩
theorem Laid.len : ∀ {l : List α} {xs : List Value}, Laid r sz L xs l → xs.length = l.length * sz
  | [], _, h => by rw [show _ = [] from h]; simp
  | x :: l, _, ⟨c, zs, h1, h2, h3, h4⟩ => by rw [h1, List.length_append, h2, h4.len, List.length_cons, Nat.succ_mul]; omega
theorem Laid.at : ∀ {l : List α} {xs : List Value}, Laid r sz L xs l → ∀ {i : Nat} {x : α}, l[i]? = some x → ∃ c, c.length = sz ∧ r L c x ∧ ∀ j v, c[j]? = some v → xs[i * sz + j]? = some v
  | [], _, _, i, x, h => by simp at h
  | y :: l, _, ⟨c, zs, h1, h2, h3, h4⟩, 0, x, h => by
    simp at h
    subst h
    refine ⟨c, h2, h3, fun j v hj => ?_⟩
    have := (List.getElem?_eq_some_iff.1 hj).1
    rw [h1, Nat.zero_mul, Nat.zero_add, List.getElem?_append_left this]
    exact hj
  | y :: l, _, ⟨c, zs, h1, h2, h3, h4⟩, i + 1, x, h => by
    obtain ⟨d, k1, k2, k3⟩ := h4.at (i := i) (x := x) (by simpa using h)
    refine ⟨d, k1, k2, fun j v hj => ?_⟩
    rw [h1, List.getElem?_append_right (by rw [h2, Nat.succ_mul]; omega), h2, ← k3 j v hj]
    congr 1
    rw [Nat.succ_mul]
    omega
theorem Laid.take : ∀ {l : List α} {xs : List Value} (k : Nat), Laid r sz L xs l → k ≤ l.length → Laid r sz L (xs.take (k * sz)) (l.take k)
  | l, xs, 0, h, _ => by simp [Laid]
  | [], xs, k + 1, h, hk => by simp at hk
  | x :: l, _, k + 1, ⟨c, zs, h1, h2, h3, h4⟩, hk => by
    refine ⟨c, zs.take (k * sz), ?_, h2, h3, h4.take k (by simpa using hk)⟩
    rw [h1, List.take_append, h2, List.take_of_length_le (by rw [h2, Nat.succ_mul]; omega)]
    congr 2
    rw [Nat.succ_mul]
    omega
/-- A row of one's own. -/
structure ORow (r : Rp α) (e : TypeId) (sz : Nat) (L : Blocks) (a : Option Addr) (c : Nat) (l : List α) (B : Blocks) : Prop where
  ex : ∃ xs, Row e sz (.slice a l.length c) l.length xs B ∧ Laid r sz L xs l ∧ ∀ x ∈ xs, x.oneCell' = true
theorem ORow.nil (e : TypeId) : ORow r e sz L none 0 [] [] := ⟨[], Row.nil _ _, rfl, by simp⟩
theorem ORow.mono (hr : Mono r) {L' : Blocks} (hL : ∀ p ∈ L, p ∈ L') {e : TypeId} {a : Option Addr} {c : Nat} {l : List α} {B : Blocks} (h : ORow r e sz L a c l B) : ORow r e sz L' a c l B := by
  obtain ⟨xs, h1, h2, h3⟩ := h.ex
  exact ⟨xs, h1, h2.mono hr hL, h3⟩
/-- A row of one's own, as one that lies somewhere. -/
theorem ORow.sliceR (hr : Mono r) {L' : Blocks} {e : TypeId} {a : Option Addr} {c : Nat} {l : List α} {B : Blocks} (h : ORow r e sz L a c l B) (hL : ∀ p ∈ L, p ∈ L') (hB : ∀ p ∈ B, p ∈ L') : sliceR sz r L' [.slice a l.length c] l := by
  obtain ⟨xs, h1, h2, h3⟩ := h.ex
  have h2' := h2.mono hr hL
  rcases h1.is with ⟨q1, q2, q3⟩ | ⟨b, cap, cur, q1, q2, q3, q4, q5, q6⟩
  · obtain ⟨rfl, e1, rfl⟩ := Value.slice.inj q1
    exact ⟨none, 0, rfl, by omega, by unfold maxLen; omega, Or.inl (List.eq_nil_of_length_eq_zero q2)⟩
  · obtain ⟨rfl, e1, rfl⟩ := Value.slice.inj q1
    refine ⟨_, c, rfl, q3, q4, Or.inr ⟨b, 0, cur, e, (0, 0), rfl, hB _ (by rw [q2]; exact List.mem_cons_self ..), fun i x hx => ?_⟩⟩
    obtain ⟨cs', k1, k2, k3⟩ := h2'.at hx
    refine ⟨cs', k1, k2, fun j v hj => ?_⟩
    have hil := (List.getElem?_eq_some_iff.1 hx).1
    have hjl := (List.getElem?_eq_some_iff.1 hj).1
    have hlt : i * sz + j < l.length * sz := by
      have : (i + 1) * sz ≤ l.length * sz := Nat.mul_le_mul_right _ hil
      rw [Nat.succ_mul] at this
      omega
    have := k3 j v hj
    rw [← q6, List.getElem?_take_of_lt hlt] at this
    rw [Nat.zero_add]
    simpa using this
/-- What lies somewhere, cut. -/
theorem sliceR.cut {a : Option Addr} {m c : Nat} {l : List α} (h : sliceR sz r L [.slice a m c] l) : m = l.length ∧ m ≤ c ∧ c ≤ maxLen ∧ (l = [] ∨ ∃ b off C te fr, a = some ⟨b, off, none⟩ ∧ (b, Obj.cells C te fr) ∈ L ∧
    ∀ i x, l[i]? = some x → ∃ cs', cs'.length = sz ∧ r L cs' x ∧ ∀ j v, cs'[j]? = some v → C[off + i * sz + j]? = some v) := by
  obtain ⟨a', c', h1, h2, h3, h4⟩ := h
  simp only [List.cons.injEq, and_true] at h1
  obtain ⟨rfl, rfl, rfl⟩ := Value.slice.inj h1
  exact ⟨rfl, h2, h3, h4⟩
theorem sliceR.val {cs : List Value} {l : List α} (h : sliceR sz r L cs l) : ∃ a c, cs = [.slice a l.length c] ∧ sliceR sz r L [.slice a l.length c] l := by
  obtain ⟨a, c, h1, h2⟩ := h
  exact ⟨a, c, h1, a, c, rfl, h2⟩
theorem sliceR.nil : sliceR sz r L [.slice none 0 0] ([] : List α) := ⟨none, 0, rfl, by simp, by unfold maxLen; omega, Or.inl rfl⟩
end
section
variable {G : World} {P : Program} {n : Nat} {ρ : Slots} {L : Blocks} {ty : TypeId} {Q : Exit → Act → World → Prop}
/-- 'append(s, x)' of a thing of several cells: it has been laid into a block of its own. -/
theorem op_appN {s x : Operand} {t e te : TypeId} {sz bytes bl : Nat} {z v : Value} {cs : List Value} {m : Nat} {xs : List Value} {B : Blocks} (E : ElemTy P t e sz bytes z) (hs : ev ρ s = some v) (hx : ev ρ x = some (.slice (some ⟨bl, 0, none⟩) 1 1))
    (hrow : Row e sz v m xs B) (hn : cs.length = sz) (hone : ∀ v ∈ cs, v.oneCell' = true) (h63 : m + 1 ≤ maxLen) (hby : (m + 1) * bytes ≤ 140737488355328) :
    OpT P G ρ ((bl, .cells cs.toArray te (0, 0)) :: (B ++ L)) (.call ⟨.builtin .append, #[s, x], #[t, t]⟩) ty fun v' L' => ∃ B', Row e sz v' (m + 1) (xs ++ cs) B' ∧ L' = B' ++ L :=
  (OpT.heap (L' := B ++ ((bl, .cells cs.toArray te (0, 0)) :: L)) (fun w hw => hw.perm List.perm_middle.symm) (op_append E hs hx hrow ⟨by omega, hone, Or.inr ⟨bl, 0, 1, cs.toArray, te, (0, 0), rfl, List.mem_cons_self .., fun j y hj => by rw [Nat.zero_add]; simpa using hj⟩⟩ h63 hby)).post fun v' M ⟨B', h1, h2⟩ =>
    ⟨B' ++ L, ⟨B', h1, rfl⟩, fun w hw => (h2 ▸ hw : Heap G w (B' ++ _)).sub ((List.Sublist.refl B').append (List.sublist_cons_self _ _))⟩
/-- .. as a row of things. -/
theorem op_push {α : Type} {r : Rp α} {s x : Operand} {t e te : TypeId} {sz bytes bl : Nat} {z : Value} {a : Option Addr} {c : Nat} {cs : List Value} {y : α} {l : List α} {B L0 : Blocks} (E : ElemTy P t e sz bytes z) (hs : ev ρ s = some (.slice a l.length c)) (hx : ev ρ x = some (.slice (some ⟨bl, 0, none⟩) 1 1))
    (hrow : ORow r e sz L0 a c l B) (hn : cs.length = sz) (hone : ∀ v ∈ cs, v.oneCell' = true) (hy : r L0 cs y) (h63 : l.length + 1 ≤ maxLen) (hby : (l.length + 1) * bytes ≤ 140737488355328) :
    OpT P G ρ ((bl, .cells cs.toArray te (0, 0)) :: (B ++ L)) (.call ⟨.builtin .append, #[s, x], #[t, t]⟩) ty fun v' L' => ∃ a' c' B', v' = .slice a' (l ++ [y]).length c' ∧ ORow r e sz L0 a' c' (l ++ [y]) B' ∧ L' = B' ++ L := by
  obtain ⟨xs, h1, h2, h3⟩ := hrow.ex
  refine (op_appN E hs hx h1 hn hone h63 hby).post fun v' M ⟨B', k1, k2⟩ => ?_
  obtain ⟨a', c', rfl⟩ := k1.slice
  have hlen : (l ++ [y]).length = l.length + 1 := by simp
  refine ⟨M, ⟨a', c', B', by rw [hlen], ⟨xs ++ cs, by rw [hlen]; exact k1, h2.append (Laid.one hn hy), fun x hx => ?_⟩, k2⟩, fun w hw => hw⟩
  rcases List.mem_append.1 hx with hx | hx
  · exact h3 x hx
  · exact hone x hx
/-- A literal of one thing of several cells. -/
theorem op_litN {t e : TypeId} {x : Operand} {sz bytes : Nat} {z : Value} {cs : List Value} (E : ElemTy P t e sz bytes z) (hx : ev ρ x = some (.agg cs.toArray)) (hn : cs.length = sz) (hsz : sz ≤ 1000) :
    OpNew P G ρ L (.buildSlice t 1 #[(0, x)]) ty (fun b => .slice (some ⟨b, 0, none⟩) 1 1) (.cells cs.toArray e (0, 0)) :=
  op_buildSlice (ps := [(0, x)]) (vs := [(0, .agg cs.toArray)]) (by simp [evParts, hx]) (rowLitG E [.agg cs.toArray] rfl (fun v hv => by rw [List.mem_singleton.1 hv]; simpa [Value.cells] using hn) (by omega) (by simp [Value.cells]))
end
end Go.Proofs.YtnhlpifbadncmaaDoor
