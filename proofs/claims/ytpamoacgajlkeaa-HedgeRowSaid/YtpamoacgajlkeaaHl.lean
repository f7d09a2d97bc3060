/-
  THE WALK of HedgeGone.
-/
import Derived.Test.YtpamoacgajlkeaaHk
import Derived.Test.YtpamoacgajlkeaaGm
namespace Go.Proofs.Ytpamoacgajlkeaa
open Go.RowKit
open Hg (En Pl)
set_option linter.unusedVariables false
--store2
variable {G : World} {L : Blocks}
def arr9 (f : Int → Int) : Array Value := #[.int .i64 (f 0), .int .i64 (f 1), .int .i64 (f 2), .int .i64 (f 3), .int .i64 (f 4), .int .i64 (f 5), .int .i64 (f 6), .int .i64 (f 7), .int .i64 (f 8)]
theorem arr9_at (f : Int → Int) (u : Int) (h0 : 0 ≤ u) (h8 : u ≤ 8) : (arr9 f)[0 + u.toNat * 1]? = some (.int .i64 (f u)) := by
  rcases int9 h0 h8 with rfl | rfl | rfl | rfl | rfl | rfl | rfl | rfl | rfl <;> rfl
theorem arr9_set (f : Int → Int) (u x : Int) (h0 : 0 ≤ u) (h8 : u ≤ 8) : (arr9 f).setIfInBounds (0 + u.toNat * 1) (.int .i64 x) = arr9 fun v => if v = u then x else f v := by
  rcases int9 h0 h8 with rfl | rfl | rfl | rfl | rfl | rfl | rfl | rfl | rfl <;> simp [arr9]
theorem arr9_congr {f g : Int → Int} (h : ∀ u, 0 ≤ u → u ≤ 8 → f u = g u) : arr9 f = arr9 g := by
  simp only [arr9]
  rw [h 0 (by omega) (by omega), h 1 (by omega) (by omega), h 2 (by omega) (by omega), h 3 (by omega) (by omega), h 4 (by omega) (by omega), h 5 (by omega) (by omega), h 6 (by omega) (by omega), h 7 (by omega) (by omega), h 8 (by omega) (by omega)]
theorem perm3 {A B C Z : Blocks} {p q : Nat × Obj} : (A ++ (B ++ (C ++ (p :: q :: Z)))).Perm (p :: q :: (A ++ (B ++ (C ++ Z)))) := by
  have := (perm2 (p := p) (q := q) (B := A ++ (B ++ C)) (L := Z)).symm
  simpa using this
section
variable {l : List Int} {want every wait tries : Nat} {st : Int} {t : Nat}
theorem firstJ_yes (h0 : 0 ≤ st) (s : List Int) (x : Int) (h : Hg.firstJ l want every st t s x < 0) (v : Int) : (if v = x then st + ((t + 1 : Nat) : Int) else Hg.firstJ l want every st t s v) = Hg.firstJ l want every st t (s ++ [x]) v := by
  have hx : Hg.firstF l want every st t x < 0 := by
    unfold Hg.firstJ at h
    split at h
    · omega
    · exact h
  by_cases hv : v = x
  · subst hv
    rw [if_pos rfl]
    unfold Hg.firstJ
    rw [if_pos ⟨hx, by simp⟩]
  · rw [if_neg hv]
    unfold Hg.firstJ
    simp [hv]
theorem firstJ_no (s : List Int) (x : Int) (h : ¬ Hg.firstJ l want every st t s x < 0) (v : Int) : Hg.firstJ l want every st t s v = Hg.firstJ l want every st t (s ++ [x]) v := by
  by_cases hv : v = x
  · subst hv
    by_cases hm : v ∈ s
    · simp [Hg.firstJ, hm]
    · have hx : ¬ Hg.firstF l want every st t v < 0 := by
        unfold Hg.firstJ at h
        rw [if_neg (fun h => hm h.2)] at h
        exact h
      simp [Hg.firstJ, hx]
  · simp [Hg.firstJ, hv]
theorem goneJ_step (s : List Int) (x v : Int) : (if v = x then st + ((t + 1 : Nat) : Int) else Hg.goneJ l want every wait tries st t s v) = Hg.goneJ l want every wait tries st t (s ++ [x]) v := by
  by_cases hv : v = x
  · subst hv
    simp [Hg.goneJ]
  · simp [Hg.goneJ, hv]
end
set_option maxRecDepth 100000 in
set_option maxHeartbeats 8000000 in
theorem hedgeGone_S (vl : Value) (raw : List Int) (w0 e0 t0 r0 n0 : Int) (hl : IRow L vl raw) (hrl : raw.length ≤ 9223372036854775807) :
    Spec Try.prog G 3 #[planV vl w0 e0 t0 r0 n0] L fun u N => u = .bool true ∧ N = L := by
  refine Spec_of (n := 194) Try.func3 rfl rfl rfl ?_
  repeat (first | with_reducible refine T_seq ?_ | with_reducible refine T_region ?_ | with_reducible refine TL_nil ?_ | with_reducible refine TQ_then ?_ | refine TL_q (op_assign rfl) rfl ?_ | (refine' TL_q (op_ldAll rfl st_24 ?_ ?_) rfl ?_; rotate_left 3; (· repeat (first | assumption | exact List.mem_cons_self | apply List.mem_cons_of_mem)); (· first | assumption | rfl)) | (refine TL_new (op_box rfl rfl) rfl ?_; intro bBox))
  refine TL_opT (op_call hb_6 rfl (fit_S vl raw w0 e0 t0 r0 n0 (hl.mono fun q hq => List.mem_cons_of_mem _ hq) hrl)) rfl ?_
  rintro _ _ ⟨l, want, every, wait, tries, st, a, c, B, hF, rfl, hR, rfl⟩
  have hlc : l.length ≤ c := hR.cap_le
  have h9 := hF.len
  unfold planV
  repeat (first | with_reducible refine T_seq ?_ | with_reducible refine T_region ?_ | with_reducible refine TL_nil ?_ | with_reducible refine TQ_then ?_ | (refine' TL_q (op_ldAll rfl st_24 ?_ ?_) rfl ?_; rotate_left 3; (· repeat (first | assumption | exact List.mem_cons_self | apply List.mem_cons_of_mem)); (· first | assumption | rfl)) | (refine TL_stAll rfl rfl st_24 rfl rfl rfl ?_) | (refine TL_new (op_alloc zero_24 rfl) rfl ?_; intro bNew))
  refine TL_heap (L' := (bNew, Obj.cells #[.slice a l.length c, .int .i64 want, .int .i64 every, .int .i64 wait, .int .i64 tries, .int .i64 st] 24 (0, 0)) :: (B ++ L)) (fun w h => h.sub ((List.Sublist.append_left (List.sublist_cons_self _ _) _).cons_cons _)) ?_
  have hi2 : IRow ((bNew, Obj.cells #[.slice a l.length c, .int .i64 want, .int .i64 every, .int .i64 wait, .int .i64 tries, .int .i64 st] 24 (0, 0)) :: (B ++ L)) (.slice a l.length c) l := hR.irow fun q hq => List.mem_cons_of_mem _ (mem_l hq)
  have hi3 : IRow B (.slice a l.length c) l := hR.irow fun q hq => hq
  refine TL_opT (op_call hb_7 rfl (begun_S a c l want every wait tries st hF hi2 hlc)) rfl ?_
  rintro _ _ ⟨bp, M, rfl, hM, rfl⟩
  obtain ⟨hnd, hrg, hw, he, ha, ht, hn⟩ := hF
  obtain ⟨want, rfl⟩ : ∃ n : Nat, want = n := ⟨want.toNat, by omega⟩
  obtain ⟨every, rfl⟩ : ∃ n : Nat, every = n := ⟨every.toNat, by omega⟩
  obtain ⟨wait, rfl⟩ : ∃ n : Nat, wait = n := ⟨wait.toNat, by omega⟩
  obtain ⟨tries, rfl⟩ : ∃ n : Nat, tries = n := ⟨tries.toNat, by omega⟩
  rw [Hg.sp_start (by omega) (by omega) (by omega)] at hM
  have c0 : (#[.slice a l.length c, .int .i64 (want : Int), .int .i64 (every : Int), .int .i64 (wait : Int), .int .i64 (tries : Int), .int .i64 st] : Array Value)[0 + 0]? = some (.slice a l.length c) := rfl
  have c1 : (#[.slice a l.length c, .int .i64 (want : Int), .int .i64 (every : Int), .int .i64 (wait : Int), .int .i64 (tries : Int), .int .i64 st] : Array Value)[0 + 1]? = some (.int .i64 (want : Int)) := rfl
  have c2 : (#[.slice a l.length c, .int .i64 (want : Int), .int .i64 (every : Int), .int .i64 (wait : Int), .int .i64 (tries : Int), .int .i64 st] : Array Value)[0 + 2]? = some (.int .i64 (every : Int)) := rfl
  have c3 : (#[.slice a l.length c, .int .i64 (want : Int), .int .i64 (every : Int), .int .i64 (wait : Int), .int .i64 (tries : Int), .int .i64 st] : Array Value)[0 + 3]? = some (.int .i64 (wait : Int)) := rfl
  have c4 : (#[.slice a l.length c, .int .i64 (want : Int), .int .i64 (every : Int), .int .i64 (wait : Int), .int .i64 (tries : Int), .int .i64 st] : Array Value)[0 + 4]? = some (.int .i64 (tries : Int)) := rfl
  have c5 : (#[.slice a l.length c, .int .i64 (want : Int), .int .i64 (every : Int), .int .i64 (wait : Int), .int .i64 (tries : Int), .int .i64 st] : Array Value)[0 + 5]? = some (.int .i64 st) := rfl
  clear hi2
  generalize (#[.slice a l.length c, .int .i64 (want : Int), .int .i64 (every : Int), .int .i64 (wait : Int), .int .i64 (tries : Int), .int .i64 st] : Array Value) = C3 at *
  have g3 : Option.isNone (some (⟨bp, 0, none⟩ : Addr)) = false := rfl
  repeat (first | with_reducible refine T_seq ?_ | with_reducible refine T_region ?_ | with_reducible refine TL_nil ?_ | with_reducible refine TQ_then ?_ | refine TL_q (op_move rfl) rfl ?_ | refine TL_q (op_assign rfl) rfl ?_ | (refine' TL_q (op_bin rfl rfl ?_) rfl ?_; rotate_left 1; (· first | exact bin_add ⟨by omega, by omega⟩ | exact bin_sub ⟨by omega, by omega⟩ | exact bin_mul ⟨by omega, by omega⟩ | exact bin_eql | exact bin_neq | exact bin_lss | exact bin_leq | exact bin_geq | exact sbin_eql | exact sbin_neq | exact sbin_lss | exact sbin_add (by omega) | exact pbin_eql Try.underlying26 | exact pbin_neq Try.underlying26)) | (refine TL_gpre rfl rfl ?_ ?_; (· first | with_reducible rfl | assumption | exact Bool.not_false | exact Bool.not_true)))
  refine TG_op (op_call hb_8 rfl awake_S) rfl ?_
  repeat (first | with_reducible refine T_seq ?_ | with_reducible refine T_block ?_ | with_reducible refine T_region ?_ | with_reducible refine TL_nil ?_ | with_reducible refine TQ_then ?_ | with_reducible refine T_skip ?_ | refine TL_q (op_assign rfl) rfl ?_ | (refine' TL_q (op_pickF rfl ?_ rfl) rfl ?_; (· first | with_reducible rfl | assumption | exact Bool.not_false | exact Bool.not_true)) | (refine TL_gpre rfl rfl ?_ ?_; (· first | with_reducible rfl | assumption | exact Bool.not_false | exact Bool.not_true)) | refine TL_gq2 (op_not rfl) rfl ?_ | (refine TL_new (op_alloc zero_29 rfl) rfl ?_; intro bNew) | (refine T_no rfl ?_ ?_; (· first | with_reducible rfl | assumption | exact Bool.not_false | exact Bool.not_true)))
  rename_i b3 b5
  refine T_loopS (σ := Nat) (fun k => k ≤ 9) (fun k => [(3, .pointer (some ⟨b3, 0, none⟩)), (4, .pointer (some ⟨bp, 0, none⟩)), (5, .pointer (some ⟨b5, 0, none⟩)), (6, .pointer (some ⟨bNew, 0, none⟩)), (7, .int .i64 (k : Nat))]) (fun k => (bNew, .cells (arr9 fun u => if u < (k : Nat) then -1 else 0) 29 (0, 0)) :: (b5, .cells (arr9 fun u => if u < (k : Nat) then -1 else 0) 29 (0, 0)) :: (M ++ ((b3, .cells C3 24 (0, 0)) :: (B ++ L)))) (fun k => 9 - k) 0 (by decide) ?_ (fun w h => h) ?_
  (repeat (first | exact trivial | refine ⟨rfl, ?_⟩))
  · intro k hk
    by_cases hlt : k < 9
    · have e1 : decide (((k : Nat) : Int) < 9) = true := decide_eq_true (by omega)
      have a0 := arr9_at (fun u => if u < (k : Nat) then -1 else 0) (k : Nat) (by omega) (by omega)
      repeat (first | with_reducible refine T_seq ?_ | with_reducible refine T_block ?_ | with_reducible refine T_region ?_ | with_reducible refine TL_nil ?_ | with_reducible refine TQ_then ?_ | with_reducible refine TQ_block ?_ | with_reducible refine T_skip ?_ | refine TL_q (op_move rfl) rfl ?_ | refine TL_q (op_assign rfl) rfl ?_ | (refine' TL_q (op_bin rfl rfl ?_) rfl ?_; rotate_left 1; (· first | exact bin_add ⟨by omega, by omega⟩ | exact bin_sub ⟨by omega, by omega⟩ | exact bin_mul ⟨by omega, by omega⟩ | exact bin_eql | exact bin_neq | exact bin_lss | exact bin_leq | exact bin_geq | exact sbin_eql | exact sbin_neq | exact sbin_lss | exact sbin_add (by omega) | exact pbin_eql Try.underlying26 | exact pbin_neq Try.underlying26)) | (refine' TL_q (op_idxA arr_29 rfl rfl ?_ ?_) rfl ?_; (· omega); (· omega)) | (refine' TL_st rfl rfl one_2 rfl ?_ rfl ?_; rotate_left 1; (· first | assumption | rfl)) | (refine' TL_st2 rfl rfl one_2 rfl ?_ rfl ?_; rotate_left 1; (· first | assumption | rfl)) | (refine T_yes rfl ?_ ?_; (· first | with_reducible rfl | assumption | exact Bool.not_false | exact Bool.not_true)))
      refine TQ_roundS (k + 1) hlt ?_ (fun w h => ?_) (by omega)
      (repeat (first | exact trivial | refine ⟨rfl, ?_⟩))
      rw [arr9_set _ _ _ (by omega) (by omega)] at h
      rw [arr9_congr (f := fun u => if u < ((k + 1 : Nat) : Int) then -1 else 0) (g := fun v => if v = ((k : Nat) : Int) then -1 else if v < ((k : Nat) : Int) then -1 else 0)]
      · exact h
      · intro u h0 h8
        split <;> split <;> first | rfl | (split <;> omega) | omega
    have e1 : decide (((k : Nat) : Int) < 9) = false := decide_eq_false (by omega)
    have hk9 : k = 9 := by omega
    subst hk9
    have z1 : arr9 (fun u => if u < ((9 : Nat) : Int) then -1 else 0) = arr9 fun _ => -1 := arr9_congr fun u h0 h8 => by rw [if_pos (by omega)]
    rw [z1]
    repeat (first | with_reducible refine T_seq ?_ | with_reducible refine T_block ?_ | with_reducible refine T_region ?_ | with_reducible refine TL_nil ?_ | with_reducible refine TQ_then ?_ | with_reducible refine T_exit ?_ | with_reducible refine TQ_then_exit ?_ | with_reducible refine TQ_block_exit ?_ | refine TL_q (op_move rfl) rfl ?_ | refine TL_q (op_assign rfl) rfl ?_ | (refine' TL_q (op_bin rfl rfl ?_) rfl ?_; rotate_left 1; (· first | exact bin_add ⟨by omega, by omega⟩ | exact bin_sub ⟨by omega, by omega⟩ | exact bin_mul ⟨by omega, by omega⟩ | exact bin_eql | exact bin_neq | exact bin_lss | exact bin_leq | exact bin_geq | exact sbin_eql | exact sbin_neq | exact sbin_lss | exact sbin_add (by omega) | exact pbin_eql Try.underlying26 | exact pbin_neq Try.underlying26)) | (refine T_no rfl ?_ ?_; (· first | with_reducible rfl | assumption | exact Bool.not_false | exact Bool.not_true)))
    refine T_loopS (σ := Nat) (fun i => i ≤ l.length ∧ i ≤ want) (fun i => [(3, .pointer (some ⟨b3, 0, none⟩)), (4, .pointer (some ⟨bp, 0, none⟩)), (5, .pointer (some ⟨b5, 0, none⟩)), (6, .pointer (some ⟨bNew, 0, none⟩)), (8, .int .i64 (i : Nat))]) (fun i => (bNew, .cells (arr9 fun _ => -1) 29 (0, 0)) :: (b5, .cells (arr9 fun u => if u ∈ l.take i then st else -1) 29 (0, 0)) :: (M ++ ((b3, .cells C3 24 (0, 0)) :: (B ++ L)))) (fun i => l.length - i) 0 ⟨Nat.zero_le _, Nat.zero_le _⟩ ?_ (fun w h => ?_) ?_
    (repeat (first | exact trivial | refine ⟨rfl, ?_⟩))
    · rw [arr9_congr (f := fun u => if u ∈ l.take 0 then st else -1) (g := fun _ => -1) (fun u _ _ => by simp)]
      exact h
    rintro i ⟨hi, hiw⟩
    by_cases hlt : i < l.length ∧ i < want
    · obtain ⟨hlt, hltw⟩ := hlt
      have e1 : decide (((i : Nat) : Int) < ((l.length : Nat) : Int)) = true := decide_eq_true (by omega)
      have e2 : decide (((i : Nat) : Int) < ((want : Nat) : Int)) = true := decide_eq_true (by omega)
      obtain ⟨x, hx⟩ : ∃ x, l[i]? = some x := ⟨_, List.getElem?_eq_getElem hlt⟩
      obtain ⟨r1, r2⟩ := hrg x (List.mem_of_getElem? hx)
      obtain ⟨a', c', hv, hi3'⟩ := hi3
      cases hv
      rcases hi3' with rfl | ⟨b1, o1, C1, t1, f1, rfl, m1, q1⟩
      · simp at hlt
      have cx := q1 i x hx
      have a0 := arr9_at (fun u => if u ∈ l.take i then st else -1) x r1 r2
      have m3 : (b3, Obj.cells C3 24 (0, 0)) ∈ (bNew, Obj.cells (arr9 fun _ => -1) 29 (0, 0)) :: (b5, Obj.cells (arr9 fun u => if u ∈ l.take i then st else -1) 29 (0, 0)) :: (M ++ ((b3, Obj.cells C3 24 (0, 0)) :: (B ++ L))) := List.mem_cons_of_mem _ (List.mem_cons_of_mem _ (mem_r (List.mem_cons_self ..)))
      have hK : ∀ q ∈ [(b3, Obj.cells C3 24 (0, 0)), (b1, Obj.cells C1 t1 f1)], q ∈ (bNew, Obj.cells (arr9 fun _ => -1) 29 (0, 0)) :: (b5, Obj.cells (arr9 fun u => if u ∈ l.take i then st else -1) 29 (0, 0)) :: (M ++ ((b3, Obj.cells C3 24 (0, 0)) :: (B ++ L))) := fun q hq => by
        simp only [List.mem_cons, List.not_mem_nil, or_false] at hq
        rcases hq with rfl | rfl
        · exact m3
        · exact List.mem_cons_of_mem _ (List.mem_cons_of_mem _ (mem_r (List.mem_cons_of_mem _ (mem_l m1))))
      repeat (first | with_reducible refine T_seq ?_ | with_reducible refine T_block ?_ | with_reducible refine T_region ?_ | with_reducible refine TL_nil ?_ | with_reducible refine TQ_then ?_ | with_reducible refine T_skip ?_ | refine TL_q (op_move rfl) rfl ?_ | (refine' TL_q (op_bin rfl rfl ?_) rfl ?_; rotate_left 1; (· first | exact bin_add ⟨by omega, by omega⟩ | exact bin_sub ⟨by omega, by omega⟩ | exact bin_mul ⟨by omega, by omega⟩ | exact bin_eql | exact bin_neq | exact bin_lss | exact bin_leq | exact bin_geq | exact sbin_eql | exact sbin_neq | exact sbin_lss | exact sbin_add (by omega) | exact pbin_eql Try.underlying26 | exact pbin_neq Try.underlying26)) | (refine' TL_q (op_pickT rfl ?_ rfl) rfl ?_; (· first | with_reducible rfl | assumption | exact Bool.not_false | exact Bool.not_true)) | refine TL_q (op_len_slice rfl Try.underlying22) rfl ?_ | refine TL_q (op_fld rfl fld_24_0) rfl ?_ | (refine' TL_q (op_ld rfl pl_2 ?_ ?_) rfl ?_; rotate_left 4; (· repeat (first | assumption | exact List.mem_cons_self | apply List.mem_cons_of_mem)); (· first | assumption | rfl)) | (refine TL_gpre rfl rfl ?_ ?_; (· first | with_reducible rfl | assumption | exact Bool.not_false | exact Bool.not_true)) | refine TL_gq2 (op_move rfl) rfl ?_ | (refine' TL_gq2 (op_bin rfl rfl ?_) rfl ?_; rotate_left 1; (· first | exact bin_add ⟨by omega, by omega⟩ | exact bin_sub ⟨by omega, by omega⟩ | exact bin_mul ⟨by omega, by omega⟩ | exact bin_eql | exact bin_neq | exact bin_lss | exact bin_leq | exact bin_geq | exact sbin_eql | exact sbin_neq | exact sbin_lss | exact sbin_add (by omega) | exact pbin_eql Try.underlying26 | exact pbin_neq Try.underlying26)) | refine TL_gq2 (op_fld rfl fld_24_1) rfl ?_ | (refine' TL_gq2 (op_ld rfl pl_2 ?_ ?_) rfl ?_; rotate_left 4; (· repeat (first | assumption | exact List.mem_cons_self | apply List.mem_cons_of_mem)); (· first | assumption | rfl)) | (refine T_yes rfl ?_ ?_; (· first | with_reducible rfl | assumption | exact Bool.not_false | exact Bool.not_true)))
      refine T_draw follows_mixed ([(b3, Obj.cells C3 24 (0, 0)), (b1, Obj.cells C1 t1 f1)]) [8] ?_
      first | (refine' TA_take 0 rfl rfl (by kernel_rfl) (quiet_q (op_fld rfl fld_24_0)) ?_ ?_; (· first | assumption | (intro p hp; grind)))
      first | (refine' TA_take 1 rfl rfl (by kernel_rfl) (quiet_q (op_ld rfl pl_22 ?_ ?_)) ?_ ?_; rotate_left 4; (· repeat (first | assumption | exact List.mem_cons_self | apply List.mem_cons_of_mem)); (· first | assumption | rfl); (· first | assumption | (intro p hp; grind)))
      first | (refine' TA_take 2 rfl rfl (by kernel_rfl) (quiet_q (op_move rfl)) ?_ ?_; (· first | assumption | (intro p hp; grind)))
      first | (refine' TA_take 3 rfl rfl (by kernel_rfl) (quiet_q (op_idx ety_22 rfl rfl ?_)) ?_ ?_; (· omega); (· first | assumption | (intro p hp; grind))) | (refine' TA_take 3 rfl rfl (by kernel_rfl) (quiet_q (op_idxI ety_22 rfl rfl ?_ ?_)) ?_ ?_; (· omega); (· omega); (· first | assumption | (intro p hp; grind)))
      first | (refine' TA_take 4 rfl rfl (by kernel_rfl) (quiet_q (op_ld rfl pl_3 ?_ ?_)) ?_ ?_; rotate_left 4; (· repeat (first | assumption | exact List.mem_cons_self | apply List.mem_cons_of_mem)); (· first | assumption | rfl); (· first | assumption | (intro p hp; grind)))
      first | (refine' TA_take 5 rfl rfl (by kernel_rfl) (quiet_q (op_fld rfl fld_24_5)) ?_ ?_; (· first | assumption | (intro p hp; grind)))
      first | (refine' TA_take 6 rfl rfl (by kernel_rfl) (quiet_q (op_ld rfl pl_2 ?_ ?_)) ?_ ?_; rotate_left 4; (· repeat (first | assumption | exact List.mem_cons_self | apply List.mem_cons_of_mem)); (· first | assumption | rfl); (· first | assumption | (intro p hp; grind)))
      first | (refine' TA_take 7 rfl rfl (by kernel_rfl) (quiet_q (op_idxA arr_29 rfl rfl ?_ ?_)) ?_ ?_; (· omega); (· omega); (· first | assumption | (intro p hp; grind)))
      refine TA_perm (List.Perm.swap _ _ _) ?_; refine TA_oneN 8 (by kernel_rfl) rfl rfl rfl (op_st rfl rfl one_2 rfl a0 rfl) ?_; rintro _ _ ⟨rfl, rfl⟩; refine ⟨Or.inl (by decide), ?_⟩
      refine TA_done (by kernel_rfl) ?_
      repeat (first | with_reducible refine T_region ?_ | with_reducible refine TL_nil ?_ | with_reducible refine TQ_then ?_ | with_reducible refine TQ_block ?_ | refine TL_q (op_move rfl) rfl ?_ | refine TL_q (op_assign rfl) rfl ?_ | (refine' TL_q (op_bin rfl rfl ?_) rfl ?_; rotate_left 1; (· first | exact bin_add ⟨by omega, by omega⟩ | exact bin_sub ⟨by omega, by omega⟩ | exact bin_mul ⟨by omega, by omega⟩ | exact bin_eql | exact bin_neq | exact bin_lss | exact bin_leq | exact bin_geq | exact sbin_eql | exact sbin_neq | exact sbin_lss | exact sbin_add (by omega) | exact pbin_eql Try.underlying26 | exact pbin_neq Try.underlying26)))
      refine TQ_roundS (i + 1) ⟨hlt, hltw⟩ ?_ (fun w h => ?_) (by omega)
      (repeat (first | exact trivial | refine ⟨rfl, ?_⟩))
      rw [arr9_set _ _ _ r1 r2] at h
      rw [arr9_congr (f := fun u => if u ∈ l.take (i + 1) then st else -1) (g := fun v => if v = x then st else if v ∈ l.take i then st else -1)]
      · exact h.perm (List.Perm.swap _ _ _)
      · intro u h0 h8
        obtain ⟨hil, rfl⟩ := List.getElem?_eq_some_iff.1 hx
        rw [List.take_succ_eq_append_getElem hil]
        simp only [List.mem_append, List.mem_singleton]
        split <;> split <;> first | rfl | (split <;> simp_all) | simp_all
    have hz : l.take i = l.take want := by
      by_cases h : i < l.length
      · rw [show i = want by omega]
      · rw [List.take_of_length_le (by omega), List.take_of_length_le (by omega)]
    rw [hz, arr9_congr (f := fun u => if u ∈ l.take want then st else -1) (g := Hg.firstF l want every st 0) (fun u _ _ => Hg.first_zero hnd (by omega) u), arr9_congr (f := fun _ => -1) (g := Hg.goneF l want every wait tries st 0) (fun u _ _ => (Hg.gone_zero (by omega) (by omega) u).symm)]
    have m3 : (b3, Obj.cells C3 24 (0, 0)) ∈ (bNew, Obj.cells (arr9 (Hg.goneF l want every wait tries st 0)) 29 (0, 0)) :: (b5, Obj.cells (arr9 (Hg.firstF l want every st 0)) 29 (0, 0)) :: (M ++ ((b3, Obj.cells C3 24 (0, 0)) :: (B ++ L))) := List.mem_cons_of_mem _ (List.mem_cons_of_mem _ (mem_r (List.mem_cons_self ..)))
    have key : (i < l.length ∧ ¬ i < want) ∨ ¬ i < l.length := by omega
    rcases key with ⟨k1, k2⟩ | k1
    have e1 : decide (((i : Nat) : Int) < ((l.length : Nat) : Int)) = true := decide_eq_true (by omega)
    have e2 : decide (((i : Nat) : Int) < ((want : Nat) : Int)) = false := decide_eq_false (by omega)
    repeat (first | with_reducible refine T_seq ?_ | with_reducible refine T_block ?_ | with_reducible refine T_region ?_ | with_reducible refine TL_nil ?_ | with_reducible refine TQ_then ?_ | with_reducible refine T_exit ?_ | with_reducible refine TQ_then_exit ?_ | with_reducible refine TQ_block_exit ?_ | refine TL_q (op_move rfl) rfl ?_ | refine TL_q (op_assign rfl) rfl ?_ | (refine' TL_q (op_bin rfl rfl ?_) rfl ?_; rotate_left 1; (· first | exact bin_add ⟨by omega, by omega⟩ | exact bin_sub ⟨by omega, by omega⟩ | exact bin_mul ⟨by omega, by omega⟩ | exact bin_eql | exact bin_neq | exact bin_lss | exact bin_leq | exact bin_geq | exact sbin_eql | exact sbin_neq | exact sbin_lss | exact sbin_add (by omega) | exact pbin_eql Try.underlying26 | exact pbin_neq Try.underlying26)) | (refine' TL_q (op_pickT rfl ?_ rfl) rfl ?_; (· first | with_reducible rfl | assumption | exact Bool.not_false | exact Bool.not_true)) | refine TL_q (op_len_slice rfl Try.underlying22) rfl ?_ | refine TL_q (op_fld rfl fld_24_0) rfl ?_ | (refine' TL_q (op_ld rfl pl_2 ?_ ?_) rfl ?_; rotate_left 4; (· repeat (first | assumption | exact List.mem_cons_self | apply List.mem_cons_of_mem)); (· first | assumption | rfl)) | (refine TL_gpre rfl rfl ?_ ?_; (· first | with_reducible rfl | assumption | exact Bool.not_false | exact Bool.not_true)) | refine TL_gq2 (op_move rfl) rfl ?_ | (refine' TL_gq2 (op_bin rfl rfl ?_) rfl ?_; rotate_left 1; (· first | exact bin_add ⟨by omega, by omega⟩ | exact bin_sub ⟨by omega, by omega⟩ | exact bin_mul ⟨by omega, by omega⟩ | exact bin_eql | exact bin_neq | exact bin_lss | exact bin_leq | exact bin_geq | exact sbin_eql | exact sbin_neq | exact sbin_lss | exact sbin_add (by omega) | exact pbin_eql Try.underlying26 | exact pbin_neq Try.underlying26)) | refine TL_gq2 (op_fld rfl fld_24_1) rfl ?_ | (refine' TL_gq2 (op_ld rfl pl_2 ?_ ?_) rfl ?_; rotate_left 4; (· repeat (first | assumption | exact List.mem_cons_self | apply List.mem_cons_of_mem)); (· first | assumption | rfl)) | (refine T_no rfl ?_ ?_; (· first | with_reducible rfl | assumption | exact Bool.not_false | exact Bool.not_true)))
    rotate_left
    have e1 : decide (((i : Nat) : Int) < ((l.length : Nat) : Int)) = false := decide_eq_false (by omega)
    repeat (first | with_reducible refine T_seq ?_ | with_reducible refine T_block ?_ | with_reducible refine T_region ?_ | with_reducible refine TL_nil ?_ | with_reducible refine TQ_then ?_ | with_reducible refine T_exit ?_ | with_reducible refine TQ_then_exit ?_ | with_reducible refine TQ_block_exit ?_ | refine TL_q (op_move rfl) rfl ?_ | refine TL_q (op_assign rfl) rfl ?_ | (refine' TL_q (op_bin rfl rfl ?_) rfl ?_; rotate_left 1; (· first | exact bin_add ⟨by omega, by omega⟩ | exact bin_sub ⟨by omega, by omega⟩ | exact bin_mul ⟨by omega, by omega⟩ | exact bin_eql | exact bin_neq | exact bin_lss | exact bin_leq | exact bin_geq | exact sbin_eql | exact sbin_neq | exact sbin_lss | exact sbin_add (by omega) | exact pbin_eql Try.underlying26 | exact pbin_neq Try.underlying26)) | (refine' TL_q (op_pickF rfl ?_ rfl) rfl ?_; (· first | with_reducible rfl | assumption | exact Bool.not_false | exact Bool.not_true)) | refine TL_q (op_len_slice rfl Try.underlying22) rfl ?_ | refine TL_q (op_fld rfl fld_24_0) rfl ?_ | (refine' TL_q (op_ld rfl pl_2 ?_ ?_) rfl ?_; rotate_left 4; (· repeat (first | assumption | exact List.mem_cons_self | apply List.mem_cons_of_mem)); (· first | assumption | rfl)) | (refine TL_gno rfl rfl ?_ rfl ?_; (· first | with_reducible rfl | assumption | exact Bool.not_false | exact Bool.not_true)) | (refine T_no rfl ?_ ?_; (· first | with_reducible rfl | assumption | exact Bool.not_false | exact Bool.not_true)))
    all_goals (
      refine T_loopS (σ := Nat × Blocks) (fun x => x.1 ≤ 265 ∧ IsPlan bp (Hg.SP l want every wait tries st x.1) x.2) (fun x => [(3, .pointer (some ⟨b3, 0, none⟩)), (4, .pointer (some ⟨bp, 0, none⟩)), (5, .pointer (some ⟨b5, 0, none⟩)), (6, .pointer (some ⟨bNew, 0, none⟩)), (9, .int .i64 ((x.1 + 1 : Nat) : Int))]) (fun x => (bNew, .cells (arr9 (Hg.goneF l want every wait tries st x.1)) 29 (0, 0)) :: (b5, .cells (arr9 (Hg.firstF l want every st x.1)) 29 (0, 0)) :: (x.2 ++ ((b3, .cells C3 24 (0, 0)) :: (B ++ L)))) (fun x => 265 - x.1) (0, M) ⟨Nat.zero_le _, hM⟩ ?_ (fun w h => h) ?_
      (repeat (first | exact trivial | refine ⟨rfl, ?_⟩))
      clear m3 hM
      rintro ⟨k, M⟩ ⟨hk, hM⟩
      dsimp only at hk hM ⊢
      have m3 : (b3, Obj.cells C3 24 (0, 0)) ∈ (bNew, Obj.cells (arr9 (Hg.goneF l want every wait tries st k)) 29 (0, 0)) :: (b5, Obj.cells (arr9 (Hg.firstF l want every st k)) 29 (0, 0)) :: (M ++ ((b3, Obj.cells C3 24 (0, 0)) :: (B ++ L))) := List.mem_cons_of_mem _ (List.mem_cons_of_mem _ (mem_r (List.mem_cons_self ..)))
      by_cases hlt : k < 265
      · have e1 : decide (((k + 1 : Nat) : Int) ≤ 265) = true := decide_eq_true (by omega)
        obtain ⟨l1, l2, l3, l4, l5, l6⟩ := Hg.sp_law (l := l) (want := want) (every := every) (wait := wait) (tries := tries) (st := st) (t := k) hnd hn.1 (by omega) (by omega) (by omega) (by unfold Hg.top; omega)
        have hl1 := (flat_tick (Hg.SP l want every wait tries st k) (st + (k + 1 : Nat))).resolve_right (by have := hM.len; omega)
        repeat (first | with_reducible refine T_seq ?_ | with_reducible refine T_block ?_ | with_reducible refine T_region ?_ | with_reducible refine TL_nil ?_ | with_reducible refine TQ_then ?_ | with_reducible refine T_skip ?_ | refine TL_q (op_move rfl) rfl ?_ | (refine' TL_q (op_bin rfl rfl ?_) rfl ?_; rotate_left 1; (· first | exact bin_add ⟨by omega, by omega⟩ | exact bin_sub ⟨by omega, by omega⟩ | exact bin_mul ⟨by omega, by omega⟩ | exact bin_eql | exact bin_neq | exact bin_lss | exact bin_leq | exact bin_geq | exact sbin_eql | exact sbin_neq | exact sbin_lss | exact sbin_add (by omega) | exact pbin_eql Try.underlying26 | exact pbin_neq Try.underlying26)) | refine TL_q (op_fld rfl fld_24_5) rfl ?_ | (refine' TL_q (op_ld rfl pl_2 ?_ ?_) rfl ?_; rotate_left 4; (· repeat (first | assumption | exact List.mem_cons_self | apply List.mem_cons_of_mem)); (· first | assumption | rfl)) | (refine T_yes rfl ?_ ?_; (· first | with_reducible rfl | assumption | exact Bool.not_false | exact Bool.not_true)))
        refine TL_perm perm2 ?_
        refine TL_opT (op_call hb_9 rfl (Tick_P hM rfl (st + (k + 1 : Nat)))) rfl ?_
        rintro _ _ ⟨ag, cg, az, cz, Bg, Bs, M', rfl, hRg, hRs, hM', rfl⟩
        rw [l1] at hM'
        obtain ⟨gone, hgone⟩ : ∃ x, x = (Hg.tick (Hg.SP l want every wait tries st k) (st + (k + 1 : Nat))).2.1 := ⟨_, rfl⟩
        obtain ⟨sends, hsends⟩ : ∃ x, x = (Hg.tick (Hg.SP l want every wait tries st k) (st + (k + 1 : Nat))).2.2 := ⟨_, rfl⟩
        rw [← hgone] at l3 l4 l6 hl1 hRg ⊢
        rw [← hsends] at l2 l5 hl1 hRs ⊢
        clear l1 hM m3
        refine TL_perm perm3 ?_
        repeat (first | with_reducible refine T_seq ?_ | with_reducible refine T_block ?_ | with_reducible refine T_region ?_ | with_reducible refine TL_nil ?_ | with_reducible refine TQ_then ?_ | refine TL_q (op_move rfl) rfl ?_ | refine TL_q (op_assign rfl) rfl ?_ | refine TL_q (op_extract rfl rfl) rfl ?_)
        refine T_loopS (σ := Nat) (fun j => j ≤ sends.length) (fun j => [(3, .pointer (some ⟨b3, 0, none⟩)), (4, .pointer (some ⟨bp, 0, none⟩)), (5, .pointer (some ⟨b5, 0, none⟩)), (6, .pointer (some ⟨bNew, 0, none⟩)), (9, .int .i64 ((k + 1 : Nat) : Int)), (10, .slice ag gone.length cg), (11, .slice az sends.length cz), (12, .int .i64 (j : Nat))]) (fun j => (bNew, Obj.cells (arr9 (Hg.goneF l want every wait tries st k)) 29 (0, 0)) :: (b5, .cells (arr9 (Hg.firstJ l want every st k (sends.take j))) 29 (0, 0)) :: (M' ++ (Bg ++ (Bs ++ ((b3, .cells C3 24 (0, 0)) :: (B ++ L)))))) (fun j => sends.length - j) 0 (Nat.zero_le _) ?_ (fun w h => ?_) ?_
        (repeat (first | exact trivial | refine ⟨rfl, ?_⟩))
        · rw [arr9_congr (f := Hg.firstJ l want every st k (sends.take 0)) (g := Hg.firstF l want every st k) (fun u _ _ => by simp [Hg.firstJ])]
          exact h
        intro j hj
        by_cases hjl : j < sends.length
        · have e2 : decide (((j : Nat) : Int) < ((sends.length : Nat) : Int)) = true := decide_eq_true (by omega)
          obtain ⟨x, hx⟩ : ∃ x, sends[j]? = some x := ⟨_, List.getElem?_eq_getElem hjl⟩
          have hxl := l2 x (List.mem_of_getElem? hx)
          obtain ⟨r1, r2⟩ := hrg x hxl
          obtain ⟨a', c', hv, hi4⟩ := hRs.irow (L := Bs) fun q hq => hq
          cases hv
          rcases hi4 with rfl | ⟨b1, o1, C1, t1, f1, rfl, m1, q1⟩
          · simp at hjl
          have cx := q1 j x hx
          have a0 := arr9_at (Hg.firstJ l want every st k (sends.take j)) x r1 r2
          have e3 : decide (x < 0) = false := decide_eq_false (by omega)
          have e4 : decide (9 ≤ x) = false := decide_eq_false (by omega)
          have m1' : (b1, Obj.cells C1 t1 f1) ∈ M' ++ (Bg ++ (Bs ++ ((b3, Obj.cells C3 24 (0, 0)) :: (B ++ L)))) := mem_r (mem_r (mem_l m1))
          have m3' : (b3, Obj.cells C3 24 (0, 0)) ∈ M' ++ (Bg ++ (Bs ++ ((b3, Obj.cells C3 24 (0, 0)) :: (B ++ L)))) := mem_r (mem_r (mem_r (List.mem_cons_self ..)))
          have hK : ∀ q ∈ [(b3, Obj.cells C3 24 (0, 0)), (b1, Obj.cells C1 t1 f1)], q ∈ (bNew, Obj.cells (arr9 (Hg.goneF l want every wait tries st k)) 29 (0, 0)) :: (b5, Obj.cells (arr9 (Hg.firstJ l want every st k (sends.take j))) 29 (0, 0)) :: (M' ++ (Bg ++ (Bs ++ ((b3, Obj.cells C3 24 (0, 0)) :: (B ++ L))))) := fun q hq => by
            simp only [List.mem_cons, List.not_mem_nil, or_false] at hq
            rcases hq with rfl | rfl
            · exact List.mem_cons_of_mem _ (List.mem_cons_of_mem _ m3')
            · exact List.mem_cons_of_mem _ (List.mem_cons_of_mem _ m1')
          have htk : sends.take (j + 1) = sends.take j ++ [x] := by
            obtain ⟨hi, rfl⟩ := List.getElem?_eq_some_iff.1 hx
            rw [List.take_succ_eq_append_getElem hi]
          by_cases hneg : Hg.firstJ l want every st k (sends.take j) x < 0
          · have e5 : decide (Hg.firstJ l want every st k (sends.take j) x < 0) = true := decide_eq_true hneg
            repeat (first | with_reducible refine T_seq ?_ | with_reducible refine T_block ?_ | with_reducible refine T_region ?_ | with_reducible refine TL_nil ?_ | with_reducible refine TQ_then ?_ | with_reducible refine T_skip ?_ | refine TL_q (op_move rfl) rfl ?_ | (refine' TL_q (op_bin rfl rfl ?_) rfl ?_; rotate_left 1; (· first | exact bin_add ⟨by omega, by omega⟩ | exact bin_sub ⟨by omega, by omega⟩ | exact bin_mul ⟨by omega, by omega⟩ | exact bin_eql | exact bin_neq | exact bin_lss | exact bin_leq | exact bin_geq | exact sbin_eql | exact sbin_neq | exact sbin_lss | exact sbin_add (by omega) | exact pbin_eql Try.underlying26 | exact pbin_neq Try.underlying26)) | (refine' TL_q (op_pickF rfl ?_ rfl) rfl ?_; (· first | with_reducible rfl | assumption | exact Bool.not_false | exact Bool.not_true)) | refine TL_q (op_len_slice rfl Try.underlying22) rfl ?_ | (refine' TL_q (op_idx ety_22 rfl rfl ?_) rfl ?_; (· omega)) | (refine' TL_q (op_idxA arr_29 rfl rfl ?_ ?_) rfl ?_; (· omega); (· omega)) | (refine' TL_q (op_ld rfl pl_2 ?_ ?_) rfl ?_; rotate_left 4; (· repeat (first | assumption | exact List.mem_cons_self | apply List.mem_cons_of_mem)); (· first | assumption | rfl)) | (refine TL_gpre rfl rfl ?_ ?_; (· first | with_reducible rfl | assumption | exact Bool.not_false | exact Bool.not_true)) | refine TL_gq2 (op_move rfl) rfl ?_ | (refine' TL_gq2 (op_bin rfl rfl ?_) rfl ?_; rotate_left 1; (· first | exact bin_add ⟨by omega, by omega⟩ | exact bin_sub ⟨by omega, by omega⟩ | exact bin_mul ⟨by omega, by omega⟩ | exact bin_eql | exact bin_neq | exact bin_lss | exact bin_leq | exact bin_geq | exact sbin_eql | exact sbin_neq | exact sbin_lss | exact sbin_add (by omega) | exact pbin_eql Try.underlying26 | exact pbin_neq Try.underlying26)) | (refine' TL_gq2 (op_idx ety_22 rfl rfl ?_) rfl ?_; (· omega)) | (refine' TL_gq2 (op_ld rfl pl_2 ?_ ?_) rfl ?_; rotate_left 4; (· repeat (first | assumption | exact List.mem_cons_self | apply List.mem_cons_of_mem)); (· first | assumption | rfl)) | (refine T_yes rfl ?_ ?_; (· first | with_reducible rfl | assumption | exact Bool.not_false | exact Bool.not_true)) | (refine T_no rfl ?_ ?_; (· first | with_reducible rfl | assumption | exact Bool.not_false | exact Bool.not_true)))
            refine T_draw follows_mixed ([(b3, Obj.cells C3 24 (0, 0)), (b1, Obj.cells C1 t1 f1)]) [9] ?_
            first | (refine' TA_take 0 rfl rfl (by kernel_rfl) (quiet_q (op_move rfl)) ?_ ?_; (· first | assumption | (intro p hp; grind)))
            first | (refine' TA_take 1 rfl rfl (by kernel_rfl) (quiet_q (op_move rfl)) ?_ ?_; (· first | assumption | (intro p hp; grind)))
            first | (refine' TA_take 2 rfl rfl (by kernel_rfl) (quiet_q (op_idx ety_22 rfl rfl ?_)) ?_ ?_; (· omega); (· first | assumption | (intro p hp; grind))) | (refine' TA_take 2 rfl rfl (by kernel_rfl) (quiet_q (op_idxI ety_22 rfl rfl ?_ ?_)) ?_ ?_; (· omega); (· omega); (· first | assumption | (intro p hp; grind)))
            first | (refine' TA_take 3 rfl rfl (by kernel_rfl) (quiet_q (op_ld rfl pl_3 ?_ ?_)) ?_ ?_; rotate_left 4; (· repeat (first | assumption | exact List.mem_cons_self | apply List.mem_cons_of_mem)); (· first | assumption | rfl); (· first | assumption | (intro p hp; grind)))
            first | (refine' TA_take 4 rfl rfl (by kernel_rfl) (quiet_q (op_fld rfl fld_24_5)) ?_ ?_; (· first | assumption | (intro p hp; grind)))
            first | (refine' TA_take 5 rfl rfl (by kernel_rfl) (quiet_q (op_ld rfl pl_2 ?_ ?_)) ?_ ?_; rotate_left 4; (· repeat (first | assumption | exact List.mem_cons_self | apply List.mem_cons_of_mem)); (· first | assumption | rfl); (· first | assumption | (intro p hp; grind)))
            first | (refine' TA_take 6 rfl rfl (by kernel_rfl) (quiet_q (op_move rfl)) ?_ ?_; (· first | assumption | (intro p hp; grind)))
            first | (refine' TA_take 7 rfl rfl (by kernel_rfl) (quiet_q (op_bin rfl rfl ?_)) ?_ ?_; rotate_left 1; (· first | exact bin_add ⟨by omega, by omega⟩ | exact bin_sub ⟨by omega, by omega⟩ | exact bin_mul ⟨by omega, by omega⟩ | exact bin_quo (by omega) (by omega) ⟨by omega, by omega⟩ | exact bin_rem (by omega) (by omega) | exact bin_eql | exact bin_neq | exact bin_lss | exact bin_leq | exact bin_gtr | exact bin_geq | exact sbin_eql | exact sbin_neq | exact sbin_lss | exact sbin_gtr | exact sbin_add (by omega)); (· first | assumption | (intro p hp; grind)))
            first | (refine' TA_take 8 rfl rfl (by kernel_rfl) (quiet_q (op_idxA arr_29 rfl rfl ?_ ?_)) ?_ ?_; (· omega); (· omega); (· first | assumption | (intro p hp; grind)))
            refine TA_perm (List.Perm.swap _ _ _) ?_; refine TA_oneN 9 (by kernel_rfl) rfl rfl rfl (op_st rfl rfl one_2 rfl a0 rfl) ?_; rintro _ _ ⟨rfl, rfl⟩; refine ⟨Or.inl (by decide), ?_⟩
            refine TA_done (by kernel_rfl) ?_
            repeat (first | with_reducible refine T_region ?_ | with_reducible refine TL_nil ?_ | with_reducible refine TQ_then ?_ | with_reducible refine TQ_block ?_ | refine TL_q (op_move rfl) rfl ?_ | refine TL_q (op_assign rfl) rfl ?_ | (refine' TL_q (op_bin rfl rfl ?_) rfl ?_; rotate_left 1; (· first | exact bin_add ⟨by omega, by omega⟩ | exact bin_sub ⟨by omega, by omega⟩ | exact bin_mul ⟨by omega, by omega⟩ | exact bin_eql | exact bin_neq | exact bin_lss | exact bin_leq | exact bin_geq | exact sbin_eql | exact sbin_neq | exact sbin_lss | exact sbin_add (by omega) | exact pbin_eql Try.underlying26 | exact pbin_neq Try.underlying26)))
            refine TQ_roundS (j + 1) hjl ?_ (fun w h => ?_) (by omega)
            (repeat (first | exact trivial | refine ⟨rfl, ?_⟩))
            rw [arr9_set _ _ _ r1 r2, arr9_congr (fun u _ _ => firstJ_yes hn.1 (sends.take j) x hneg u), ← htk] at h
            exact h.perm (List.Perm.swap _ _ _)
          · have e5 : decide (Hg.firstJ l want every st k (sends.take j) x < 0) = false := decide_eq_false hneg
            repeat (first | with_reducible refine T_seq ?_ | with_reducible refine T_block ?_ | with_reducible refine T_region ?_ | with_reducible refine TL_nil ?_ | with_reducible refine TQ_then ?_ | with_reducible refine TQ_block ?_ | with_reducible refine T_skip ?_ | refine TL_q (op_move rfl) rfl ?_ | refine TL_q (op_assign rfl) rfl ?_ | (refine' TL_q (op_bin rfl rfl ?_) rfl ?_; rotate_left 1; (· first | exact bin_add ⟨by omega, by omega⟩ | exact bin_sub ⟨by omega, by omega⟩ | exact bin_mul ⟨by omega, by omega⟩ | exact bin_eql | exact bin_neq | exact bin_lss | exact bin_leq | exact bin_geq | exact sbin_eql | exact sbin_neq | exact sbin_lss | exact sbin_add (by omega) | exact pbin_eql Try.underlying26 | exact pbin_neq Try.underlying26)) | (refine' TL_q (op_pickF rfl ?_ rfl) rfl ?_; (· first | with_reducible rfl | assumption | exact Bool.not_false | exact Bool.not_true)) | refine TL_q (op_len_slice rfl Try.underlying22) rfl ?_ | (refine' TL_q (op_idx ety_22 rfl rfl ?_) rfl ?_; (· omega)) | (refine' TL_q (op_idxA arr_29 rfl rfl ?_ ?_) rfl ?_; (· omega); (· omega)) | (refine' TL_q (op_ld rfl pl_2 ?_ ?_) rfl ?_; rotate_left 4; (· repeat (first | assumption | exact List.mem_cons_self | apply List.mem_cons_of_mem)); (· first | assumption | rfl)) | (refine TL_gpre rfl rfl ?_ ?_; (· first | with_reducible rfl | assumption | exact Bool.not_false | exact Bool.not_true)) | refine TL_gq2 (op_move rfl) rfl ?_ | (refine' TL_gq2 (op_bin rfl rfl ?_) rfl ?_; rotate_left 1; (· first | exact bin_add ⟨by omega, by omega⟩ | exact bin_sub ⟨by omega, by omega⟩ | exact bin_mul ⟨by omega, by omega⟩ | exact bin_eql | exact bin_neq | exact bin_lss | exact bin_leq | exact bin_geq | exact sbin_eql | exact sbin_neq | exact sbin_lss | exact sbin_add (by omega) | exact pbin_eql Try.underlying26 | exact pbin_neq Try.underlying26)) | (refine' TL_gq2 (op_idx ety_22 rfl rfl ?_) rfl ?_; (· omega)) | (refine' TL_gq2 (op_ld rfl pl_2 ?_ ?_) rfl ?_; rotate_left 4; (· repeat (first | assumption | exact List.mem_cons_self | apply List.mem_cons_of_mem)); (· first | assumption | rfl)) | (refine T_yes rfl ?_ ?_; (· first | with_reducible rfl | assumption | exact Bool.not_false | exact Bool.not_true)) | (refine T_no rfl ?_ ?_; (· first | with_reducible rfl | assumption | exact Bool.not_false | exact Bool.not_true)))
            refine TQ_roundS (j + 1) hjl ?_ (fun w h => ?_) (by omega)
            (repeat (first | exact trivial | refine ⟨rfl, ?_⟩))
            rw [arr9_congr (fun u _ _ => firstJ_no (sends.take j) x hneg u), ← htk] at h
            exact h
        have e2 : decide (((j : Nat) : Int) < ((sends.length : Nat) : Int)) = false := decide_eq_false (by omega)
        have hjn : j = sends.length := by omega
        subst hjn
        rw [List.take_length, arr9_congr (fun u _ _ => l5 u)]
        repeat (first | with_reducible refine T_seq ?_ | with_reducible refine T_block ?_ | with_reducible refine T_region ?_ | with_reducible refine TL_nil ?_ | with_reducible refine TQ_then ?_ | with_reducible refine T_exit ?_ | with_reducible refine TQ_then_exit ?_ | with_reducible refine TQ_block_exit ?_ | refine TL_q (op_move rfl) rfl ?_ | refine TL_q (op_assign rfl) rfl ?_ | (refine' TL_q (op_bin rfl rfl ?_) rfl ?_; rotate_left 1; (· first | exact bin_add ⟨by omega, by omega⟩ | exact bin_sub ⟨by omega, by omega⟩ | exact bin_mul ⟨by omega, by omega⟩ | exact bin_eql | exact bin_neq | exact bin_lss | exact bin_leq | exact bin_geq | exact sbin_eql | exact sbin_neq | exact sbin_lss | exact sbin_add (by omega) | exact pbin_eql Try.underlying26 | exact pbin_neq Try.underlying26)) | refine TL_q (op_len_slice rfl Try.underlying22) rfl ?_ | (refine T_no rfl ?_ ?_; (· first | with_reducible rfl | assumption | exact Bool.not_false | exact Bool.not_true)))
        refine T_loopS (σ := Nat) (fun j => j ≤ gone.length) (fun j => [(3, .pointer (some ⟨b3, 0, none⟩)), (4, .pointer (some ⟨bp, 0, none⟩)), (5, .pointer (some ⟨b5, 0, none⟩)), (6, .pointer (some ⟨bNew, 0, none⟩)), (9, .int .i64 ((k + 1 : Nat) : Int)), (10, .slice ag gone.length cg), (13, .int .i64 (j : Nat))]) (fun j => (bNew, .cells (arr9 (Hg.goneJ l want every wait tries st k (gone.take j))) 29 (0, 0)) :: (b5, .cells (arr9 (Hg.firstF l want every st (k + 1))) 29 (0, 0)) :: (M' ++ (Bg ++ (Bs ++ ((b3, .cells C3 24 (0, 0)) :: (B ++ L)))))) (fun j => gone.length - j) 0 (Nat.zero_le _) ?_ (fun w h => ?_) ?_
        (repeat (first | exact trivial | refine ⟨rfl, ?_⟩))
        · rw [arr9_congr (f := Hg.goneJ l want every wait tries st k (gone.take 0)) (g := Hg.goneF l want every wait tries st k) (fun u _ _ => by simp [Hg.goneJ])]
          exact h
        intro j hj
        by_cases hjl : j < gone.length
        · have e2 : decide (((j : Nat) : Int) < ((gone.length : Nat) : Int)) = true := decide_eq_true (by omega)
          obtain ⟨x, hx⟩ : ∃ x, gone[j]? = some x := ⟨_, List.getElem?_eq_getElem hjl⟩
          obtain ⟨hxl, hxg⟩ := l3 x (List.mem_of_getElem? hx)
          obtain ⟨r1, r2⟩ := hrg x hxl
          obtain ⟨a', c', hv, hi4⟩ := hRg.irow (L := Bg) fun q hq => hq
          cases hv
          rcases hi4 with rfl | ⟨b1, o1, C1, t1, f1, rfl, m1, q1⟩
          · simp at hjl
          have cx := q1 j x hx
          have a0 := arr9_at (Hg.goneJ l want every wait tries st k (gone.take j)) x r1 r2
          have e3 : decide (x < 0) = false := decide_eq_false (by omega)
          have e4 : decide (9 ≤ x) = false := decide_eq_false (by omega)
          have m1' : (b1, Obj.cells C1 t1 f1) ∈ M' ++ (Bg ++ (Bs ++ ((b3, Obj.cells C3 24 (0, 0)) :: (B ++ L)))) := mem_r (mem_l m1)
          have m3' : (b3, Obj.cells C3 24 (0, 0)) ∈ M' ++ (Bg ++ (Bs ++ ((b3, Obj.cells C3 24 (0, 0)) :: (B ++ L)))) := mem_r (mem_r (mem_r (List.mem_cons_self ..)))
          have hK : ∀ q ∈ [(b3, Obj.cells C3 24 (0, 0)), (b1, Obj.cells C1 t1 f1)], q ∈ (bNew, Obj.cells (arr9 (Hg.goneJ l want every wait tries st k (gone.take j))) 29 (0, 0)) :: (b5, Obj.cells (arr9 (Hg.firstF l want every st (k + 1))) 29 (0, 0)) :: (M' ++ (Bg ++ (Bs ++ ((b3, Obj.cells C3 24 (0, 0)) :: (B ++ L))))) := fun q hq => by
            simp only [List.mem_cons, List.not_mem_nil, or_false] at hq
            rcases hq with rfl | rfl
            · exact List.mem_cons_of_mem _ (List.mem_cons_of_mem _ m3')
            · exact List.mem_cons_of_mem _ (List.mem_cons_of_mem _ m1')
          have htk : gone.take (j + 1) = gone.take j ++ [x] := by
            obtain ⟨hi, rfl⟩ := List.getElem?_eq_some_iff.1 hx
            rw [List.take_succ_eq_append_getElem hi]
          have hnot : x ∉ gone.take j := by
            intro hm
            obtain ⟨hi, rfl⟩ := List.getElem?_eq_some_iff.1 hx
            obtain ⟨i2, hi2, e⟩ := List.getElem_of_mem hm
            have hi2' : i2 < j := by simp at hi2; omega
            rw [List.getElem_take] at e
            have := (List.getElem_inj l4).1 e
            omega
          have hval : Hg.goneJ l want every wait tries st k (gone.take j) x = -1 := by unfold Hg.goneJ; rw [if_neg hnot]; exact hxg
          have e5 : decide (0 ≤ Hg.goneJ l want every wait tries st k (gone.take j) x) = false := decide_eq_false (by omega)
          repeat (first | with_reducible refine T_seq ?_ | with_reducible refine T_block ?_ | with_reducible refine T_region ?_ | with_reducible refine TL_nil ?_ | with_reducible refine TQ_then ?_ | with_reducible refine T_skip ?_ | refine TL_q (op_move rfl) rfl ?_ | (refine' TL_q (op_bin rfl rfl ?_) rfl ?_; rotate_left 1; (· first | exact bin_add ⟨by omega, by omega⟩ | exact bin_sub ⟨by omega, by omega⟩ | exact bin_mul ⟨by omega, by omega⟩ | exact bin_eql | exact bin_neq | exact bin_lss | exact bin_leq | exact bin_geq | exact sbin_eql | exact sbin_neq | exact sbin_lss | exact sbin_add (by omega) | exact pbin_eql Try.underlying26 | exact pbin_neq Try.underlying26)) | (refine' TL_q (op_pickF rfl ?_ rfl) rfl ?_; (· first | with_reducible rfl | assumption | exact Bool.not_false | exact Bool.not_true)) | refine TL_q (op_len_slice rfl Try.underlying22) rfl ?_ | (refine' TL_q (op_idx ety_22 rfl rfl ?_) rfl ?_; (· omega)) | (refine' TL_q (op_ld rfl pl_2 ?_ ?_) rfl ?_; rotate_left 4; (· repeat (first | assumption | exact List.mem_cons_self | apply List.mem_cons_of_mem)); (· first | assumption | rfl)) | (refine TL_gpre rfl rfl ?_ ?_; (· first | with_reducible rfl | assumption | exact Bool.not_false | exact Bool.not_true)) | refine TL_gq2 (op_move rfl) rfl ?_ | (refine' TL_gq2 (op_bin rfl rfl ?_) rfl ?_; rotate_left 1; (· first | exact bin_add ⟨by omega, by omega⟩ | exact bin_sub ⟨by omega, by omega⟩ | exact bin_mul ⟨by omega, by omega⟩ | exact bin_eql | exact bin_neq | exact bin_lss | exact bin_leq | exact bin_geq | exact sbin_eql | exact sbin_neq | exact sbin_lss | exact sbin_add (by omega) | exact pbin_eql Try.underlying26 | exact pbin_neq Try.underlying26)) | (refine' TL_gq2 (op_idx ety_22 rfl rfl ?_) rfl ?_; (· omega)) | (refine' TL_gq2 (op_idxA arr_29 rfl rfl ?_ ?_) rfl ?_; (· omega); (· omega)) | (refine' TL_gq2 (op_ld rfl pl_2 ?_ ?_) rfl ?_; rotate_left 4; (· repeat (first | assumption | exact List.mem_cons_self | apply List.mem_cons_of_mem)); (· first | assumption | rfl)) | (refine T_yes rfl ?_ ?_; (· first | with_reducible rfl | assumption | exact Bool.not_false | exact Bool.not_true)) | (refine T_no rfl ?_ ?_; (· first | with_reducible rfl | assumption | exact Bool.not_false | exact Bool.not_true)))
          refine T_draw follows_mixed ([(b3, Obj.cells C3 24 (0, 0)), (b1, Obj.cells C1 t1 f1)]) [9] ?_
          first | (refine' TA_take 0 rfl rfl (by kernel_rfl) (quiet_q (op_move rfl)) ?_ ?_; (· first | assumption | (intro p hp; grind)))
          first | (refine' TA_take 1 rfl rfl (by kernel_rfl) (quiet_q (op_move rfl)) ?_ ?_; (· first | assumption | (intro p hp; grind)))
          first | (refine' TA_take 2 rfl rfl (by kernel_rfl) (quiet_q (op_idx ety_22 rfl rfl ?_)) ?_ ?_; (· omega); (· first | assumption | (intro p hp; grind))) | (refine' TA_take 2 rfl rfl (by kernel_rfl) (quiet_q (op_idxI ety_22 rfl rfl ?_ ?_)) ?_ ?_; (· omega); (· omega); (· first | assumption | (intro p hp; grind)))
          first | (refine' TA_take 3 rfl rfl (by kernel_rfl) (quiet_q (op_ld rfl pl_3 ?_ ?_)) ?_ ?_; rotate_left 4; (· repeat (first | assumption | exact List.mem_cons_self | apply List.mem_cons_of_mem)); (· first | assumption | rfl); (· first | assumption | (intro p hp; grind)))
          first | (refine' TA_take 4 rfl rfl (by kernel_rfl) (quiet_q (op_fld rfl fld_24_5)) ?_ ?_; (· first | assumption | (intro p hp; grind)))
          first | (refine' TA_take 5 rfl rfl (by kernel_rfl) (quiet_q (op_ld rfl pl_2 ?_ ?_)) ?_ ?_; rotate_left 4; (· repeat (first | assumption | exact List.mem_cons_self | apply List.mem_cons_of_mem)); (· first | assumption | rfl); (· first | assumption | (intro p hp; grind)))
          first | (refine' TA_take 6 rfl rfl (by kernel_rfl) (quiet_q (op_move rfl)) ?_ ?_; (· first | assumption | (intro p hp; grind)))
          first | (refine' TA_take 7 rfl rfl (by kernel_rfl) (quiet_q (op_bin rfl rfl ?_)) ?_ ?_; rotate_left 1; (· first | exact bin_add ⟨by omega, by omega⟩ | exact bin_sub ⟨by omega, by omega⟩ | exact bin_mul ⟨by omega, by omega⟩ | exact bin_quo (by omega) (by omega) ⟨by omega, by omega⟩ | exact bin_rem (by omega) (by omega) | exact bin_eql | exact bin_neq | exact bin_lss | exact bin_leq | exact bin_gtr | exact bin_geq | exact sbin_eql | exact sbin_neq | exact sbin_lss | exact sbin_gtr | exact sbin_add (by omega)); (· first | assumption | (intro p hp; grind)))
          first | (refine' TA_take 8 rfl rfl (by kernel_rfl) (quiet_q (op_idxA arr_29 rfl rfl ?_ ?_)) ?_ ?_; (· omega); (· omega); (· first | assumption | (intro p hp; grind)))
          refine TA_oneN 9 (by kernel_rfl) rfl rfl rfl (op_st rfl rfl one_2 rfl a0 rfl) ?_; rintro _ _ ⟨rfl, rfl⟩; refine ⟨Or.inl (by decide), ?_⟩
          refine TA_done (by kernel_rfl) ?_
          repeat (first | with_reducible refine T_region ?_ | with_reducible refine TL_nil ?_ | with_reducible refine TQ_then ?_ | with_reducible refine TQ_block ?_ | refine TL_q (op_move rfl) rfl ?_ | refine TL_q (op_assign rfl) rfl ?_ | (refine' TL_q (op_bin rfl rfl ?_) rfl ?_; rotate_left 1; (· first | exact bin_add ⟨by omega, by omega⟩ | exact bin_sub ⟨by omega, by omega⟩ | exact bin_mul ⟨by omega, by omega⟩ | exact bin_eql | exact bin_neq | exact bin_lss | exact bin_leq | exact bin_geq | exact sbin_eql | exact sbin_neq | exact sbin_lss | exact sbin_add (by omega) | exact pbin_eql Try.underlying26 | exact pbin_neq Try.underlying26)))
          refine TQ_roundS (j + 1) hjl ?_ (fun w h => ?_) (by omega)
          (repeat (first | exact trivial | refine ⟨rfl, ?_⟩))
          rw [arr9_set _ _ _ r1 r2, arr9_congr (fun u _ _ => goneJ_step (gone.take j) x u), ← htk] at h
          exact h
        have e2 : decide (((j : Nat) : Int) < ((gone.length : Nat) : Int)) = false := decide_eq_false (by omega)
        have hjn : j = gone.length := by omega
        subst hjn
        rw [List.take_length, arr9_congr (fun u _ _ => l6 u)]
        repeat (first | with_reducible refine T_seq ?_ | with_reducible refine T_region ?_ | with_reducible refine TL_nil ?_ | with_reducible refine TQ_then ?_ | with_reducible refine TQ_block ?_ | with_reducible refine T_exit ?_ | with_reducible refine TQ_then_exit ?_ | with_reducible refine TQ_block_exit ?_ | refine TL_q (op_move rfl) rfl ?_ | refine TL_q (op_assign rfl) rfl ?_ | (refine' TL_q (op_bin rfl rfl ?_) rfl ?_; rotate_left 1; (· first | exact bin_add ⟨by omega, by omega⟩ | exact bin_sub ⟨by omega, by omega⟩ | exact bin_mul ⟨by omega, by omega⟩ | exact bin_eql | exact bin_neq | exact bin_lss | exact bin_leq | exact bin_geq | exact sbin_eql | exact sbin_neq | exact sbin_lss | exact sbin_add (by omega) | exact pbin_eql Try.underlying26 | exact pbin_neq Try.underlying26)) | refine TL_q (op_len_slice rfl Try.underlying22) rfl ?_ | (refine T_no rfl ?_ ?_; (· first | with_reducible rfl | assumption | exact Bool.not_false | exact Bool.not_true)))
        refine TQ_roundS (k + 1, M') ⟨hlt, hM'⟩ ?_ (fun w h => ?_) (by dsimp only; omega)
        (repeat (first | exact trivial | refine ⟨rfl, ?_⟩))
        exact h.sub (((List.Sublist.append_left sub2 _).cons_cons _).cons_cons _)
      have e1 : decide (((k + 1 : Nat) : Int) ≤ 265) = false := decide_eq_false (by omega)
      have hk265 : k = 265 := by omega
      subst hk265
      repeat (first | with_reducible refine T_seq ?_ | with_reducible refine T_block ?_ | with_reducible refine T_region ?_ | with_reducible refine TL_nil ?_ | with_reducible refine TQ_then ?_ | with_reducible refine T_exit ?_ | with_reducible refine TQ_then_exit ?_ | with_reducible refine TQ_block_exit ?_ | refine TL_q (op_move rfl) rfl ?_ | refine TL_q (op_assign rfl) rfl ?_ | (refine' TL_q (op_bin rfl rfl ?_) rfl ?_; rotate_left 1; (· first | exact bin_add ⟨by omega, by omega⟩ | exact bin_sub ⟨by omega, by omega⟩ | exact bin_mul ⟨by omega, by omega⟩ | exact bin_eql | exact bin_neq | exact bin_lss | exact bin_leq | exact bin_geq | exact sbin_eql | exact sbin_neq | exact sbin_lss | exact sbin_add (by omega) | exact pbin_eql Try.underlying26 | exact pbin_neq Try.underlying26)) | (refine T_no rfl ?_ ?_; (· first | with_reducible rfl | assumption | exact Bool.not_false | exact Bool.not_true)))
      obtain ⟨z1, z2, z3⟩ := Hg.sp_end (l := l) (want := want) (every := every) (wait := wait) (tries := tries) (st := st) hnd h9 (by omega) (by omega) (by omega) (by omega) (by omega) (by omega)
      refine T_loopS (σ := Nat) (fun i => i ≤ l.length) (fun i => [(3, .pointer (some ⟨b3, 0, none⟩)), (4, .pointer (some ⟨bp, 0, none⟩)), (5, .pointer (some ⟨b5, 0, none⟩)), (6, .pointer (some ⟨bNew, 0, none⟩)), (14, .int .i64 (i : Nat))]) (fun i => (bNew, Obj.cells (arr9 (Hg.goneF l want every wait tries st 265)) 29 (0, 0)) :: (b5, Obj.cells (arr9 (Hg.firstF l want every st 265)) 29 (0, 0)) :: (M ++ ((b3, Obj.cells C3 24 (0, 0)) :: (B ++ L)))) (fun i => l.length - i) 0 (Nat.zero_le _) ?_ (fun w h => h) ?_
      (repeat (first | exact trivial | refine ⟨rfl, ?_⟩))
      intro i hi
      by_cases hlt : i < l.length
      · have e2 : decide (((i : Nat) : Int) < ((l.length : Nat) : Int)) = true := decide_eq_true (by omega)
        obtain ⟨x, hx⟩ : ∃ x, l[i]? = some x := ⟨_, List.getElem?_eq_getElem hlt⟩
        obtain ⟨r1, r2⟩ := hrg x (List.mem_of_getElem? hx)
        obtain ⟨y1, y2⟩ := z3 i x hx
        obtain ⟨a', c', hv, hi3'⟩ := hi3
        cases hv
        rcases hi3' with rfl | ⟨b1, o1, C1, t1, f1, rfl, m1, q1⟩
        · simp at hlt
        have cx := q1 i x hx
        have m1' : (b1, Obj.cells C1 t1 f1) ∈ (bNew, Obj.cells (arr9 (Hg.goneF l want every wait tries st 265)) 29 (0, 0)) :: (b5, Obj.cells (arr9 (Hg.firstF l want every st 265)) 29 (0, 0)) :: (M ++ ((b3, Obj.cells C3 24 (0, 0)) :: (B ++ L))) := List.mem_cons_of_mem _ (List.mem_cons_of_mem _ (mem_r (List.mem_cons_of_mem _ (mem_l m1))))
        have a0 := arr9_at (Hg.firstF l want every st 265) x r1 r2
        have a1 := arr9_at (Hg.goneF l want every wait tries st 265) x r1 r2
        have hK : ∀ q ∈ [(b5, Obj.cells (arr9 (Hg.firstF l want every st 265)) 29 (0, 0)), (bNew, Obj.cells (arr9 (Hg.goneF l want every wait tries st 265)) 29 (0, 0)), (b3, Obj.cells C3 24 (0, 0))], q ∈ (bNew, Obj.cells (arr9 (Hg.goneF l want every wait tries st 265)) 29 (0, 0)) :: (b5, Obj.cells (arr9 (Hg.firstF l want every st 265)) 29 (0, 0)) :: (M ++ ((b3, Obj.cells C3 24 (0, 0)) :: (B ++ L))) := fun q hq => by
          simp only [List.mem_cons, List.not_mem_nil, or_false] at hq
          rcases hq with rfl | rfl | rfl
          · exact List.mem_cons_of_mem _ (List.mem_cons_self ..)
          · exact List.mem_cons_self ..
          · exact m3
        have htw0 : (0 : Int) ≤ ((tries : Nat) : Int) * ((wait : Nat) : Int) := Int.mul_nonneg (by omega) (by omega)
        have htw1 : ((tries : Nat) : Int) * ((wait : Nat) : Int) ≤ 4 * 20 := Int.mul_le_mul (by omega) (by omega) (by omega) (by omega)
        by_cases hwi : want ≤ i
        · have e3 : decide (((want : Nat) : Int) ≤ ((i : Nat) : Int)) = true := decide_eq_true (by omega)
          have hg : ((Hg.gOf want every i : Nat) : Int) = (((i : Nat) : Int) - ((want : Nat) : Int) + 1) * ((every : Nat) : Int) := by
            unfold Hg.gOf
            rw [if_neg (by omega), Int.natCast_mul]
            congr 1
            omega
          have hge0 : (0 : Int) ≤ (((i : Nat) : Int) - ((want : Nat) : Int) + 1) * ((every : Nat) : Int) := Int.mul_nonneg (by omega) (by omega)
          have hge1 : (((i : Nat) : Int) - ((want : Nat) : Int) + 1) * ((every : Nat) : Int) ≤ 9 * 20 := Int.mul_le_mul (by omega) (by omega) (by omega) (by omega)
          rw [hg] at y1 y2
          have e4 : (Hg.firstF l want every st 265 x != st + (((i : Nat) : Int) - ((want : Nat) : Int) + 1) * ((every : Nat) : Int)) = false := by rw [y1]; simp
          have e5 : (Hg.goneF l want every wait tries st 265 x != st + (((i : Nat) : Int) - ((want : Nat) : Int) + 1) * ((every : Nat) : Int) + ((tries : Nat) : Int) * ((wait : Nat) : Int)) = false := by rw [y2]; simp
          repeat (first | with_reducible refine T_seq ?_ | with_reducible refine T_block ?_ | with_reducible refine T_region ?_ | with_reducible refine TL_nil ?_ | with_reducible refine TQ_then ?_ | with_reducible refine T_skip ?_ | refine TL_q (op_move rfl) rfl ?_ | refine TL_q (op_assign rfl) rfl ?_ | (refine' TL_q (op_bin rfl rfl ?_) rfl ?_; rotate_left 1; (· first | exact bin_add ⟨by omega, by omega⟩ | exact bin_sub ⟨by omega, by omega⟩ | exact bin_mul ⟨by omega, by omega⟩ | exact bin_eql | exact bin_neq | exact bin_lss | exact bin_leq | exact bin_geq | exact sbin_eql | exact sbin_neq | exact sbin_lss | exact sbin_add (by omega) | exact pbin_eql Try.underlying26 | exact pbin_neq Try.underlying26)) | refine TL_q (op_len_slice rfl Try.underlying22) rfl ?_ | (refine' TL_q (op_idx ety_22 rfl rfl ?_) rfl ?_; (· omega)) | refine TL_q (op_fld rfl fld_24_0) rfl ?_ | refine TL_q (op_fld rfl fld_24_1) rfl ?_ | refine TL_q (op_fld rfl fld_24_2) rfl ?_ | refine TL_q (op_fld rfl fld_24_5) rfl ?_ | (refine' TL_q (op_ld rfl pl_2 ?_ ?_) rfl ?_; rotate_left 4; (· repeat (first | assumption | exact List.mem_cons_self | apply List.mem_cons_of_mem)); (· first | assumption | rfl)) | (refine T_yes rfl ?_ ?_; (· first | with_reducible rfl | assumption | exact Bool.not_false | exact Bool.not_true)))
          refine T_draw follows_mixed ([(b5, Obj.cells (arr9 (Hg.firstF l want every st 265)) 29 (0, 0)), (bNew, Obj.cells (arr9 (Hg.goneF l want every wait tries st 265)) 29 (0, 0)), (b3, Obj.cells C3 24 (0, 0))]) [] ?_
          first | (refine' TA_take 0 rfl rfl (by kernel_rfl) (quiet_q (op_move rfl)) ?_ ?_; (· first | assumption | (intro p hp; grind)))
          first | (refine' TA_take 1 rfl rfl (by kernel_rfl) (quiet_q (op_idxA arr_29 rfl rfl ?_ ?_)) ?_ ?_; (· omega); (· omega); (· first | assumption | (intro p hp; grind)))
          first | (refine' TA_take 2 rfl rfl (by kernel_rfl) (quiet_q (op_ld rfl pl_2 ?_ ?_)) ?_ ?_; rotate_left 4; (· repeat (first | assumption | exact List.mem_cons_self | apply List.mem_cons_of_mem)); (· first | assumption | rfl); (· first | assumption | (intro p hp; grind)))
          first | (refine' TA_take 3 rfl rfl (by kernel_rfl) (quiet_q (op_move rfl)) ?_ ?_; (· first | assumption | (intro p hp; grind)))
          first | (refine' TA_take 4 rfl rfl (by kernel_rfl) (quiet_q (op_bin rfl rfl ?_)) ?_ ?_; rotate_left 1; (· first | exact bin_add ⟨by omega, by omega⟩ | exact bin_sub ⟨by omega, by omega⟩ | exact bin_mul ⟨by omega, by omega⟩ | exact bin_quo (by omega) (by omega) ⟨by omega, by omega⟩ | exact bin_rem (by omega) (by omega) | exact bin_eql | exact bin_neq | exact bin_lss | exact bin_leq | exact bin_gtr | exact bin_geq | exact sbin_eql | exact sbin_neq | exact sbin_lss | exact sbin_gtr | exact sbin_add (by omega)); (· first | assumption | (intro p hp; grind)))
          first | (refine' TA_take 5 rfl rfl (by kernel_rfl) (quiet_q (op_move rfl)) ?_ ?_; (· first | assumption | (intro p hp; grind)))
          first | (refine' TA_take 6 rfl rfl (by kernel_rfl) (quiet_g2 rfl rfl (by first | with_reducible rfl | assumption | exact Bool.not_false | exact Bool.not_true) (op_move rfl)) ?_ ?_; (· first | assumption | (intro p hp; grind))) | (refine TA_take 6 rfl rfl (by kernel_rfl) (quiet_no2 rfl rfl ?_) ?_ ?_; (· first | with_reducible rfl | assumption | exact Bool.not_false | exact Bool.not_true); (· first | assumption | (intro p hp; grind)))
          first | (refine' TA_take 7 rfl rfl (by kernel_rfl) (quiet_g2 rfl rfl (by first | with_reducible rfl | assumption | exact Bool.not_false | exact Bool.not_true) (op_idxA arr_29 rfl rfl ?_ ?_)) ?_ ?_; (· omega); (· omega); (· first | assumption | (intro p hp; grind))) | (refine TA_take 7 rfl rfl (by kernel_rfl) (quiet_no2 rfl rfl ?_) ?_ ?_; (· first | with_reducible rfl | assumption | exact Bool.not_false | exact Bool.not_true); (· first | assumption | (intro p hp; grind)))
          first | (refine' TA_take 8 rfl rfl (by kernel_rfl) (quiet_g2 rfl rfl (by first | with_reducible rfl | assumption | exact Bool.not_false | exact Bool.not_true) (op_ld rfl pl_2 ?_ ?_)) ?_ ?_; rotate_left 4; (· repeat (first | assumption | exact List.mem_cons_self | apply List.mem_cons_of_mem)); (· first | assumption | rfl); (· first | assumption | (intro p hp; grind))) | (refine TA_take 8 rfl rfl (by kernel_rfl) (quiet_no2 rfl rfl ?_) ?_ ?_; (· first | with_reducible rfl | assumption | exact Bool.not_false | exact Bool.not_true); (· first | assumption | (intro p hp; grind)))
          first | (refine' TA_take 9 rfl rfl (by kernel_rfl) (quiet_g2 rfl rfl (by first | with_reducible rfl | assumption | exact Bool.not_false | exact Bool.not_true) (op_move rfl)) ?_ ?_; (· first | assumption | (intro p hp; grind))) | (refine TA_take 9 rfl rfl (by kernel_rfl) (quiet_no2 rfl rfl ?_) ?_ ?_; (· first | with_reducible rfl | assumption | exact Bool.not_false | exact Bool.not_true); (· first | assumption | (intro p hp; grind)))
          first | (refine' TA_take 10 rfl rfl (by kernel_rfl) (quiet_g2 rfl rfl (by first | with_reducible rfl | assumption | exact Bool.not_false | exact Bool.not_true) (op_fld rfl fld_24_4)) ?_ ?_; (· first | assumption | (intro p hp; grind))) | (refine TA_take 10 rfl rfl (by kernel_rfl) (quiet_no2 rfl rfl ?_) ?_ ?_; (· first | with_reducible rfl | assumption | exact Bool.not_false | exact Bool.not_true); (· first | assumption | (intro p hp; grind)))
          first | (refine' TA_take 11 rfl rfl (by kernel_rfl) (quiet_g2 rfl rfl (by first | with_reducible rfl | assumption | exact Bool.not_false | exact Bool.not_true) (op_ld rfl pl_3 ?_ ?_)) ?_ ?_; rotate_left 4; (· repeat (first | assumption | exact List.mem_cons_self | apply List.mem_cons_of_mem)); (· first | assumption | rfl); (· first | assumption | (intro p hp; grind))) | (refine TA_take 11 rfl rfl (by kernel_rfl) (quiet_no2 rfl rfl ?_) ?_ ?_; (· first | with_reducible rfl | assumption | exact Bool.not_false | exact Bool.not_true); (· first | assumption | (intro p hp; grind)))
          first | (refine' TA_take 12 rfl rfl (by kernel_rfl) (quiet_g2 rfl rfl (by first | with_reducible rfl | assumption | exact Bool.not_false | exact Bool.not_true) (op_fld rfl fld_24_3)) ?_ ?_; (· first | assumption | (intro p hp; grind))) | (refine TA_take 12 rfl rfl (by kernel_rfl) (quiet_no2 rfl rfl ?_) ?_ ?_; (· first | with_reducible rfl | assumption | exact Bool.not_false | exact Bool.not_true); (· first | assumption | (intro p hp; grind)))
          first | (refine' TA_take 13 rfl rfl (by kernel_rfl) (quiet_g2 rfl rfl (by first | with_reducible rfl | assumption | exact Bool.not_false | exact Bool.not_true) (op_ld rfl pl_3 ?_ ?_)) ?_ ?_; rotate_left 4; (· repeat (first | assumption | exact List.mem_cons_self | apply List.mem_cons_of_mem)); (· first | assumption | rfl); (· first | assumption | (intro p hp; grind))) | (refine TA_take 13 rfl rfl (by kernel_rfl) (quiet_no2 rfl rfl ?_) ?_ ?_; (· first | with_reducible rfl | assumption | exact Bool.not_false | exact Bool.not_true); (· first | assumption | (intro p hp; grind)))
          first | (refine' TA_take 14 rfl rfl (by kernel_rfl) (quiet_g2 rfl rfl (by first | with_reducible rfl | assumption | exact Bool.not_false | exact Bool.not_true) (op_bin rfl rfl ?_)) ?_ ?_; rotate_left 1; (· first | exact bin_add ⟨by omega, by omega⟩ | exact bin_sub ⟨by omega, by omega⟩ | exact bin_mul ⟨by omega, by omega⟩ | exact bin_quo (by omega) (by omega) ⟨by omega, by omega⟩ | exact bin_rem (by omega) (by omega) | exact bin_eql | exact bin_neq | exact bin_lss | exact bin_leq | exact bin_gtr | exact bin_geq | exact sbin_eql | exact sbin_neq | exact sbin_lss | exact sbin_gtr | exact sbin_add (by omega)); (· first | assumption | (intro p hp; grind))) | (refine TA_take 14 rfl rfl (by kernel_rfl) (quiet_no2 rfl rfl ?_) ?_ ?_; (· first | with_reducible rfl | assumption | exact Bool.not_false | exact Bool.not_true); (· first | assumption | (intro p hp; grind)))
          first | (refine' TA_take 15 rfl rfl (by kernel_rfl) (quiet_g2 rfl rfl (by first | with_reducible rfl | assumption | exact Bool.not_false | exact Bool.not_true) (op_bin rfl rfl ?_)) ?_ ?_; rotate_left 1; (· first | exact bin_add ⟨by omega, by omega⟩ | exact bin_sub ⟨by omega, by omega⟩ | exact bin_mul ⟨by omega, by omega⟩ | exact bin_quo (by omega) (by omega) ⟨by omega, by omega⟩ | exact bin_rem (by omega) (by omega) | exact bin_eql | exact bin_neq | exact bin_lss | exact bin_leq | exact bin_gtr | exact bin_geq | exact sbin_eql | exact sbin_neq | exact sbin_lss | exact sbin_gtr | exact sbin_add (by omega)); (· first | assumption | (intro p hp; grind))) | (refine TA_take 15 rfl rfl (by kernel_rfl) (quiet_no2 rfl rfl ?_) ?_ ?_; (· first | with_reducible rfl | assumption | exact Bool.not_false | exact Bool.not_true); (· first | assumption | (intro p hp; grind)))
          first | (refine' TA_take 16 rfl rfl (by kernel_rfl) (quiet_g2 rfl rfl (by first | with_reducible rfl | assumption | exact Bool.not_false | exact Bool.not_true) (op_bin rfl rfl ?_)) ?_ ?_; rotate_left 1; (· first | exact bin_add ⟨by omega, by omega⟩ | exact bin_sub ⟨by omega, by omega⟩ | exact bin_mul ⟨by omega, by omega⟩ | exact bin_quo (by omega) (by omega) ⟨by omega, by omega⟩ | exact bin_rem (by omega) (by omega) | exact bin_eql | exact bin_neq | exact bin_lss | exact bin_leq | exact bin_gtr | exact bin_geq | exact sbin_eql | exact sbin_neq | exact sbin_lss | exact sbin_gtr | exact sbin_add (by omega)); (· first | assumption | (intro p hp; grind))) | (refine TA_take 16 rfl rfl (by kernel_rfl) (quiet_no2 rfl rfl ?_) ?_ ?_; (· first | with_reducible rfl | assumption | exact Bool.not_false | exact Bool.not_true); (· first | assumption | (intro p hp; grind)))
          first | (refine' TA_take 17 rfl rfl (by kernel_rfl) (quiet_q (op_pickT rfl ?_ rfl)) ?_ ?_; (· first | with_reducible rfl | assumption | exact Bool.not_false | exact Bool.not_true); (· first | assumption | (intro p hp; grind))) | (refine' TA_take 17 rfl rfl (by kernel_rfl) (quiet_q (op_pickF rfl ?_ rfl)) ?_ ?_; (· first | with_reducible rfl | assumption | exact Bool.not_false | exact Bool.not_true); (· first | assumption | (intro p hp; grind)))
          refine TA_done (by kernel_rfl) ?_
          repeat (first | with_reducible refine T_region ?_ | with_reducible refine TL_nil ?_ | with_reducible refine TQ_then ?_ | with_reducible refine TQ_block ?_ | with_reducible refine T_skip ?_ | refine TL_q (op_move rfl) rfl ?_ | refine TL_q (op_assign rfl) rfl ?_ | (refine' TL_q (op_bin rfl rfl ?_) rfl ?_; rotate_left 1; (· first | exact bin_add ⟨by omega, by omega⟩ | exact bin_sub ⟨by omega, by omega⟩ | exact bin_mul ⟨by omega, by omega⟩ | exact bin_eql | exact bin_neq | exact bin_lss | exact bin_leq | exact bin_geq | exact sbin_eql | exact sbin_neq | exact sbin_lss | exact sbin_add (by omega) | exact pbin_eql Try.underlying26 | exact pbin_neq Try.underlying26)) | (refine T_no rfl ?_ ?_; (· first | with_reducible rfl | assumption | exact Bool.not_false | exact Bool.not_true)))
          refine TQ_roundS (i + 1) hlt ?_ (fun w h => h) (by omega)
          (repeat (first | exact trivial | refine ⟨rfl, ?_⟩))
        · have e3 : decide (((want : Nat) : Int) ≤ ((i : Nat) : Int)) = false := decide_eq_false (by omega)
          have hg : ((Hg.gOf want every i : Nat) : Int) = 0 := by
            unfold Hg.gOf
            rw [if_pos (by omega)]
            rfl
          rw [hg, Int.add_zero] at y1 y2
          have e4 : (Hg.firstF l want every st 265 x != st) = false := by rw [y1]; simp
          have e5 : (Hg.goneF l want every wait tries st 265 x != st + ((tries : Nat) : Int) * ((wait : Nat) : Int)) = false := by rw [y2]; simp
          repeat (first | with_reducible refine T_seq ?_ | with_reducible refine T_block ?_ | with_reducible refine T_region ?_ | with_reducible refine TL_nil ?_ | with_reducible refine TQ_then ?_ | with_reducible refine T_skip ?_ | refine TL_q (op_move rfl) rfl ?_ | refine TL_q (op_assign rfl) rfl ?_ | (refine' TL_q (op_bin rfl rfl ?_) rfl ?_; rotate_left 1; (· first | exact bin_add ⟨by omega, by omega⟩ | exact bin_sub ⟨by omega, by omega⟩ | exact bin_mul ⟨by omega, by omega⟩ | exact bin_eql | exact bin_neq | exact bin_lss | exact bin_leq | exact bin_geq | exact sbin_eql | exact sbin_neq | exact sbin_lss | exact sbin_add (by omega) | exact pbin_eql Try.underlying26 | exact pbin_neq Try.underlying26)) | refine TL_q (op_len_slice rfl Try.underlying22) rfl ?_ | (refine' TL_q (op_idx ety_22 rfl rfl ?_) rfl ?_; (· omega)) | refine TL_q (op_fld rfl fld_24_0) rfl ?_ | refine TL_q (op_fld rfl fld_24_1) rfl ?_ | refine TL_q (op_fld rfl fld_24_5) rfl ?_ | (refine' TL_q (op_ld rfl pl_2 ?_ ?_) rfl ?_; rotate_left 4; (· repeat (first | assumption | exact List.mem_cons_self | apply List.mem_cons_of_mem)); (· first | assumption | rfl)) | (refine T_yes rfl ?_ ?_; (· first | with_reducible rfl | assumption | exact Bool.not_false | exact Bool.not_true)) | (refine T_no rfl ?_ ?_; (· first | with_reducible rfl | assumption | exact Bool.not_false | exact Bool.not_true)))
          refine T_draw follows_mixed ([(b5, Obj.cells (arr9 (Hg.firstF l want every st 265)) 29 (0, 0)), (bNew, Obj.cells (arr9 (Hg.goneF l want every wait tries st 265)) 29 (0, 0)), (b3, Obj.cells C3 24 (0, 0))]) [] ?_
          first | (refine' TA_take 0 rfl rfl (by kernel_rfl) (quiet_q (op_move rfl)) ?_ ?_; (· first | assumption | (intro p hp; grind)))
          first | (refine' TA_take 1 rfl rfl (by kernel_rfl) (quiet_q (op_idxA arr_29 rfl rfl ?_ ?_)) ?_ ?_; (· omega); (· omega); (· first | assumption | (intro p hp; grind)))
          first | (refine' TA_take 2 rfl rfl (by kernel_rfl) (quiet_q (op_ld rfl pl_2 ?_ ?_)) ?_ ?_; rotate_left 4; (· repeat (first | assumption | exact List.mem_cons_self | apply List.mem_cons_of_mem)); (· first | assumption | rfl); (· first | assumption | (intro p hp; grind)))
          first | (refine' TA_take 3 rfl rfl (by kernel_rfl) (quiet_q (op_move rfl)) ?_ ?_; (· first | assumption | (intro p hp; grind)))
          first | (refine' TA_take 4 rfl rfl (by kernel_rfl) (quiet_q (op_bin rfl rfl ?_)) ?_ ?_; rotate_left 1; (· first | exact bin_add ⟨by omega, by omega⟩ | exact bin_sub ⟨by omega, by omega⟩ | exact bin_mul ⟨by omega, by omega⟩ | exact bin_quo (by omega) (by omega) ⟨by omega, by omega⟩ | exact bin_rem (by omega) (by omega) | exact bin_eql | exact bin_neq | exact bin_lss | exact bin_leq | exact bin_gtr | exact bin_geq | exact sbin_eql | exact sbin_neq | exact sbin_lss | exact sbin_gtr | exact sbin_add (by omega)); (· first | assumption | (intro p hp; grind)))
          first | (refine' TA_take 5 rfl rfl (by kernel_rfl) (quiet_q (op_move rfl)) ?_ ?_; (· first | assumption | (intro p hp; grind)))
          first | (refine' TA_take 6 rfl rfl (by kernel_rfl) (quiet_g2 rfl rfl (by first | with_reducible rfl | assumption | exact Bool.not_false | exact Bool.not_true) (op_move rfl)) ?_ ?_; (· first | assumption | (intro p hp; grind))) | (refine TA_take 6 rfl rfl (by kernel_rfl) (quiet_no2 rfl rfl ?_) ?_ ?_; (· first | with_reducible rfl | assumption | exact Bool.not_false | exact Bool.not_true); (· first | assumption | (intro p hp; grind)))
          first | (refine' TA_take 7 rfl rfl (by kernel_rfl) (quiet_g2 rfl rfl (by first | with_reducible rfl | assumption | exact Bool.not_false | exact Bool.not_true) (op_idxA arr_29 rfl rfl ?_ ?_)) ?_ ?_; (· omega); (· omega); (· first | assumption | (intro p hp; grind))) | (refine TA_take 7 rfl rfl (by kernel_rfl) (quiet_no2 rfl rfl ?_) ?_ ?_; (· first | with_reducible rfl | assumption | exact Bool.not_false | exact Bool.not_true); (· first | assumption | (intro p hp; grind)))
          first | (refine' TA_take 8 rfl rfl (by kernel_rfl) (quiet_g2 rfl rfl (by first | with_reducible rfl | assumption | exact Bool.not_false | exact Bool.not_true) (op_ld rfl pl_2 ?_ ?_)) ?_ ?_; rotate_left 4; (· repeat (first | assumption | exact List.mem_cons_self | apply List.mem_cons_of_mem)); (· first | assumption | rfl); (· first | assumption | (intro p hp; grind))) | (refine TA_take 8 rfl rfl (by kernel_rfl) (quiet_no2 rfl rfl ?_) ?_ ?_; (· first | with_reducible rfl | assumption | exact Bool.not_false | exact Bool.not_true); (· first | assumption | (intro p hp; grind)))
          first | (refine' TA_take 9 rfl rfl (by kernel_rfl) (quiet_g2 rfl rfl (by first | with_reducible rfl | assumption | exact Bool.not_false | exact Bool.not_true) (op_move rfl)) ?_ ?_; (· first | assumption | (intro p hp; grind))) | (refine TA_take 9 rfl rfl (by kernel_rfl) (quiet_no2 rfl rfl ?_) ?_ ?_; (· first | with_reducible rfl | assumption | exact Bool.not_false | exact Bool.not_true); (· first | assumption | (intro p hp; grind)))
          first | (refine' TA_take 10 rfl rfl (by kernel_rfl) (quiet_g2 rfl rfl (by first | with_reducible rfl | assumption | exact Bool.not_false | exact Bool.not_true) (op_fld rfl fld_24_4)) ?_ ?_; (· first | assumption | (intro p hp; grind))) | (refine TA_take 10 rfl rfl (by kernel_rfl) (quiet_no2 rfl rfl ?_) ?_ ?_; (· first | with_reducible rfl | assumption | exact Bool.not_false | exact Bool.not_true); (· first | assumption | (intro p hp; grind)))
          first | (refine' TA_take 11 rfl rfl (by kernel_rfl) (quiet_g2 rfl rfl (by first | with_reducible rfl | assumption | exact Bool.not_false | exact Bool.not_true) (op_ld rfl pl_3 ?_ ?_)) ?_ ?_; rotate_left 4; (· repeat (first | assumption | exact List.mem_cons_self | apply List.mem_cons_of_mem)); (· first | assumption | rfl); (· first | assumption | (intro p hp; grind))) | (refine TA_take 11 rfl rfl (by kernel_rfl) (quiet_no2 rfl rfl ?_) ?_ ?_; (· first | with_reducible rfl | assumption | exact Bool.not_false | exact Bool.not_true); (· first | assumption | (intro p hp; grind)))
          first | (refine' TA_take 12 rfl rfl (by kernel_rfl) (quiet_g2 rfl rfl (by first | with_reducible rfl | assumption | exact Bool.not_false | exact Bool.not_true) (op_fld rfl fld_24_3)) ?_ ?_; (· first | assumption | (intro p hp; grind))) | (refine TA_take 12 rfl rfl (by kernel_rfl) (quiet_no2 rfl rfl ?_) ?_ ?_; (· first | with_reducible rfl | assumption | exact Bool.not_false | exact Bool.not_true); (· first | assumption | (intro p hp; grind)))
          first | (refine' TA_take 13 rfl rfl (by kernel_rfl) (quiet_g2 rfl rfl (by first | with_reducible rfl | assumption | exact Bool.not_false | exact Bool.not_true) (op_ld rfl pl_3 ?_ ?_)) ?_ ?_; rotate_left 4; (· repeat (first | assumption | exact List.mem_cons_self | apply List.mem_cons_of_mem)); (· first | assumption | rfl); (· first | assumption | (intro p hp; grind))) | (refine TA_take 13 rfl rfl (by kernel_rfl) (quiet_no2 rfl rfl ?_) ?_ ?_; (· first | with_reducible rfl | assumption | exact Bool.not_false | exact Bool.not_true); (· first | assumption | (intro p hp; grind)))
          first | (refine' TA_take 14 rfl rfl (by kernel_rfl) (quiet_g2 rfl rfl (by first | with_reducible rfl | assumption | exact Bool.not_false | exact Bool.not_true) (op_bin rfl rfl ?_)) ?_ ?_; rotate_left 1; (· first | exact bin_add ⟨by omega, by omega⟩ | exact bin_sub ⟨by omega, by omega⟩ | exact bin_mul ⟨by omega, by omega⟩ | exact bin_quo (by omega) (by omega) ⟨by omega, by omega⟩ | exact bin_rem (by omega) (by omega) | exact bin_eql | exact bin_neq | exact bin_lss | exact bin_leq | exact bin_gtr | exact bin_geq | exact sbin_eql | exact sbin_neq | exact sbin_lss | exact sbin_gtr | exact sbin_add (by omega)); (· first | assumption | (intro p hp; grind))) | (refine TA_take 14 rfl rfl (by kernel_rfl) (quiet_no2 rfl rfl ?_) ?_ ?_; (· first | with_reducible rfl | assumption | exact Bool.not_false | exact Bool.not_true); (· first | assumption | (intro p hp; grind)))
          first | (refine' TA_take 15 rfl rfl (by kernel_rfl) (quiet_g2 rfl rfl (by first | with_reducible rfl | assumption | exact Bool.not_false | exact Bool.not_true) (op_bin rfl rfl ?_)) ?_ ?_; rotate_left 1; (· first | exact bin_add ⟨by omega, by omega⟩ | exact bin_sub ⟨by omega, by omega⟩ | exact bin_mul ⟨by omega, by omega⟩ | exact bin_quo (by omega) (by omega) ⟨by omega, by omega⟩ | exact bin_rem (by omega) (by omega) | exact bin_eql | exact bin_neq | exact bin_lss | exact bin_leq | exact bin_gtr | exact bin_geq | exact sbin_eql | exact sbin_neq | exact sbin_lss | exact sbin_gtr | exact sbin_add (by omega)); (· first | assumption | (intro p hp; grind))) | (refine TA_take 15 rfl rfl (by kernel_rfl) (quiet_no2 rfl rfl ?_) ?_ ?_; (· first | with_reducible rfl | assumption | exact Bool.not_false | exact Bool.not_true); (· first | assumption | (intro p hp; grind)))
          first | (refine' TA_take 16 rfl rfl (by kernel_rfl) (quiet_g2 rfl rfl (by first | with_reducible rfl | assumption | exact Bool.not_false | exact Bool.not_true) (op_bin rfl rfl ?_)) ?_ ?_; rotate_left 1; (· first | exact bin_add ⟨by omega, by omega⟩ | exact bin_sub ⟨by omega, by omega⟩ | exact bin_mul ⟨by omega, by omega⟩ | exact bin_quo (by omega) (by omega) ⟨by omega, by omega⟩ | exact bin_rem (by omega) (by omega) | exact bin_eql | exact bin_neq | exact bin_lss | exact bin_leq | exact bin_gtr | exact bin_geq | exact sbin_eql | exact sbin_neq | exact sbin_lss | exact sbin_gtr | exact sbin_add (by omega)); (· first | assumption | (intro p hp; grind))) | (refine TA_take 16 rfl rfl (by kernel_rfl) (quiet_no2 rfl rfl ?_) ?_ ?_; (· first | with_reducible rfl | assumption | exact Bool.not_false | exact Bool.not_true); (· first | assumption | (intro p hp; grind)))
          first | (refine' TA_take 17 rfl rfl (by kernel_rfl) (quiet_q (op_pickT rfl ?_ rfl)) ?_ ?_; (· first | with_reducible rfl | assumption | exact Bool.not_false | exact Bool.not_true); (· first | assumption | (intro p hp; grind))) | (refine' TA_take 17 rfl rfl (by kernel_rfl) (quiet_q (op_pickF rfl ?_ rfl)) ?_ ?_; (· first | with_reducible rfl | assumption | exact Bool.not_false | exact Bool.not_true); (· first | assumption | (intro p hp; grind)))
          refine TA_done (by kernel_rfl) ?_
          repeat (first | with_reducible refine T_region ?_ | with_reducible refine TL_nil ?_ | with_reducible refine TQ_then ?_ | with_reducible refine TQ_block ?_ | with_reducible refine T_skip ?_ | refine TL_q (op_move rfl) rfl ?_ | refine TL_q (op_assign rfl) rfl ?_ | (refine' TL_q (op_bin rfl rfl ?_) rfl ?_; rotate_left 1; (· first | exact bin_add ⟨by omega, by omega⟩ | exact bin_sub ⟨by omega, by omega⟩ | exact bin_mul ⟨by omega, by omega⟩ | exact bin_eql | exact bin_neq | exact bin_lss | exact bin_leq | exact bin_geq | exact sbin_eql | exact sbin_neq | exact sbin_lss | exact sbin_add (by omega) | exact pbin_eql Try.underlying26 | exact pbin_neq Try.underlying26)) | (refine T_no rfl ?_ ?_; (· first | with_reducible rfl | assumption | exact Bool.not_false | exact Bool.not_true)))
          refine TQ_roundS (i + 1) hlt ?_ (fun w h => h) (by omega)
          (repeat (first | exact trivial | refine ⟨rfl, ?_⟩))
      have e2 : decide (((i : Nat) : Int) < ((l.length : Nat) : Int)) = false := decide_eq_false (by omega)
      repeat (first | with_reducible refine T_seq ?_ | with_reducible refine T_region ?_ | with_reducible refine TL_nil ?_ | with_reducible refine TQ_then ?_ | with_reducible refine T_exit ?_ | with_reducible refine TQ_then_exit ?_ | with_reducible refine TQ_block_exit ?_ | refine TL_q (op_move rfl) rfl ?_ | (refine' TL_q (op_bin rfl rfl ?_) rfl ?_; rotate_left 1; (· first | exact bin_add ⟨by omega, by omega⟩ | exact bin_sub ⟨by omega, by omega⟩ | exact bin_mul ⟨by omega, by omega⟩ | exact bin_eql | exact bin_neq | exact bin_lss | exact bin_leq | exact bin_geq | exact sbin_eql | exact sbin_neq | exact sbin_lss | exact sbin_add (by omega) | exact pbin_eql Try.underlying26 | exact pbin_neq Try.underlying26)) | refine TL_q (op_len_slice rfl Try.underlying22) rfl ?_ | refine TL_q (op_fld rfl fld_24_0) rfl ?_ | (refine' TL_q (op_ld rfl pl_2 ?_ ?_) rfl ?_; rotate_left 4; (· repeat (first | assumption | exact List.mem_cons_self | apply List.mem_cons_of_mem)); (· first | assumption | rfl)) | (refine T_no rfl ?_ ?_; (· first | with_reducible rfl | assumption | exact Bool.not_false | exact Bool.not_true)))
      refine TL_perm perm2 ?_
      refine TL_op (op_call hb_10 rfl (Open_P hM)) rfl ?_
      rw [z1]
      repeat (first | refine TL_q (op_move rfl) rfl ?_ | (refine' TL_q (op_bin rfl rfl ?_) rfl ?_; rotate_left 1; (· first | exact bin_add ⟨by omega, by omega⟩ | exact bin_sub ⟨by omega, by omega⟩ | exact bin_mul ⟨by omega, by omega⟩ | exact bin_eql | exact bin_neq | exact bin_lss | exact bin_leq | exact bin_geq | exact sbin_eql | exact sbin_neq | exact sbin_lss | exact sbin_add (by omega) | exact pbin_eql Try.underlying26 | exact pbin_neq Try.underlying26)) | (refine TL_gpre rfl rfl ?_ ?_; (· first | with_reducible rfl | assumption | exact Bool.not_false | exact Bool.not_true)) | refine TL_gq2 (op_move rfl) rfl ?_)
      refine TG_op (op_call hb_11 rfl (Left_P hM)) rfl ?_
      rw [z2]
      repeat (first | with_reducible refine TL_nil ?_ | with_reducible refine TQ_then ?_ | with_reducible refine T_ret ?_ | refine TL_q (op_assign rfl) rfl ?_ | (refine' TL_q (op_pickT rfl ?_ rfl) rfl ?_; (· first | with_reducible rfl | assumption | exact Bool.not_false | exact Bool.not_true)) | (refine TL_gpre rfl rfl ?_ ?_; (· first | with_reducible rfl | assumption | exact Bool.not_false | exact Bool.not_true)) | (refine' TL_gq2 (op_bin rfl rfl ?_) rfl ?_; rotate_left 1; (· first | exact bin_add ⟨by omega, by omega⟩ | exact bin_sub ⟨by omega, by omega⟩ | exact bin_mul ⟨by omega, by omega⟩ | exact bin_eql | exact bin_neq | exact bin_lss | exact bin_leq | exact bin_geq | exact sbin_eql | exact sbin_neq | exact sbin_lss | exact sbin_add (by omega) | exact pbin_eql Try.underlying26 | exact pbin_neq Try.underlying26)))
      refine TQ_heap (L' := L) (fun w h => h.sub (((List.sublist_append_right B L).cons _ |>.cons _ |>.cons _).trans (List.sublist_append_right _ _))) ?_
      refine TQ_ret1 2 _ rfl rfl ?_
      exact ⟨rfl, rfl⟩
    )
theorem hedgeGone_walk (vl : Value) (raw : List Int) (w0 e0 t0 r0 n0 : Int) (W : World) (hl : IRow (allBlocks W) vl raw) (hrl : raw.length ≤ 9223372036854775807) :
    Calls Try.prog 3 #[planV vl w0 e0 t0 r0 n0] W fun e w' => e = .returned (.bool true) ∧ Below W.heap.size W w' :=
  Spec.below (hedgeGone_S vl raw w0 e0 t0 r0 n0 hl hrl)
end Go.Proofs.Ytpamoacgajlkeaa
