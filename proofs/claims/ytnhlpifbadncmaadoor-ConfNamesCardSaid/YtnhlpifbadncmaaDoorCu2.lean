/-
  Part 2: Jn Sc SlRange Pa Sb Base WMay WLower WLabels WName SRow Cmp App WRef1 WRef2 WRef3 WRef4.
-/
import Derived.Test.YtnhlpifbadncmaaDoorCu1
import Derived.Laws.RangeString
import Derived.Laws.RangeAny
import Derived.Lib.Builder
import Derived.Lib.UnsafeStr
import Derived.Laws.Externs
import Derived.Test.YtnhlpifbadncmaaDoorRows
import Derived.WalkKit
import Derived.WalkSpells
import Derived.WalkLawsBesides
import Derived.Lib.Hide
import Derived.Lib.ConvBytes
import Derived.Lib.QuietBelow
import Derived.BigQuiet
import Derived.StillTailTactics
import Derived.Deep.DeepCutAuto
import Derived.Lib.Strings
import Derived.Lib.IndexBytes
import Derived.Lib.Bytealg
import Derived.Deep.RegionLaw
import Derived.Laws.OwnMore
import Derived.OwnWalk
namespace Go.Proofs.YtnhlpifbadncmaaDoor
open Go.RowKit
set_option linter.unusedVariables false
set_option linter.unusedSimpArgs false

/-- A slice of strings in memory. -/
def StrRow (L : Blocks) (v : Value) (ls : List Nm.Bytes) : Prop :=
  ∃ a cap, v = .slice a ls.length cap ∧ (ls = [] ∨ ∃ b off C te fr, a = some ⟨b, off, none⟩ ∧ (b, Obj.cells C te fr) ∈ L ∧ ∀ i l, ls[i]? = some l → C[off + i * 1]? = some (.string (bs l)))
theorem StrRow.mono {L L' : Blocks} {v : Value} {ls : List Nm.Bytes} (h : StrRow L v ls) (hs : ∀ p ∈ L, p ∈ L') : StrRow L' v ls := by
  obtain ⟨a, cap, h1, h2⟩ := h
  refine ⟨a, cap, h1, h2.imp id ?_⟩
  rintro ⟨b, off, C, te, fr, h3, h4, h5⟩
  exact ⟨b, off, C, te, fr, h3, hs _ h4, h5⟩

def okLbl (l : Nm.Bytes) : Bool := decide (1 ≤ l.length) && decide (l.length ≤ 63)
def lblSum (ls : List Nm.Bytes) : Nat := (ls.map fun l => l.length + 1).sum
def joinE (ls : List Nm.Bytes) : Int := if ls.all okLbl then (if 255 < 1 + lblSum ls then 5 else 0) else 1
def joinV (ls : List Nm.Bytes) : Nm.Bytes := if joinE ls = 0 then Nm.enc ls else []
/-- The bytes of labels, without the end. -/
def encQ (ls : List Nm.Bytes) : Nm.Bytes := ls.flatMap fun l => UInt8.ofNat l.length :: l
theorem enc_encQ : ∀ ls : List Nm.Bytes, Nm.enc ls = encQ ls ++ [0]
  | [] => rfl
  | l :: ls => by simp [Nm.enc, encQ, enc_encQ ls]
theorem encQ_cons (l : Nm.Bytes) (ls : List Nm.Bytes) : encQ (l :: ls) = UInt8.ofNat l.length :: (l ++ encQ ls) := by simp [encQ]
theorem lblSum_cons (l : Nm.Bytes) (ls : List Nm.Bytes) : lblSum (l :: ls) = l.length + 1 + lblSum ls := by simp [lblSum]
theorem lblSum_append (a b : List Nm.Bytes) : lblSum (a ++ b) = lblSum a + lblSum b := by simp [lblSum]
theorem encQ_append (a b : List Nm.Bytes) : encQ (a ++ b) = encQ a ++ encQ b := by simp [encQ]
theorem encQ_length (ls : List Nm.Bytes) : (encQ ls).length = lblSum ls := by
  induction ls with
  | nil => rfl
  | cons l ls ih => rw [encQ_cons, lblSum_cons, ← ih]; simp; omega
theorem lblSum_take (ls : List Nm.Bytes) (k : Nat) : lblSum (ls.take k) ≤ lblSum ls := by
  have : lblSum ls = lblSum (ls.take k) + lblSum (ls.drop k) := by rw [← lblSum_append, List.take_append_drop]
  omega
theorem lblSum_le (ls : List Nm.Bytes) (h : ls.all okLbl = true) : lblSum ls ≤ 64 * ls.length := by
  induction ls with
  | nil => simp [lblSum]
  | cons l ls ih =>
    simp only [List.all_cons, Bool.and_eq_true] at h
    have := ih h.2
    simp [okLbl] at h
    rw [lblSum_cons]
    simp
    omega

theorem joinE_bad {ls : List Nm.Bytes} {l : Nm.Bytes} (hm : l ∈ ls) (h : okLbl l = false) : joinE ls = 1 := by
  unfold joinE
  rw [if_neg]
  intro hall
  have := List.all_eq_true.1 hall l hm
  rw [h] at this
  cases this
theorem joinV_bad {ls : List Nm.Bytes} (h : joinE ls ≠ 0) : joinV ls = [] := by unfold joinV; rw [if_neg h]

set_option maxRecDepth 100000 in
set_option maxHeartbeats 1000000 in
theorem Join_spec {G : World} {L : Blocks} (v : Value) (ls : List Nm.Bytes) (hr : StrRow L v ls) (hn : ls.length ≤ 1000000) (hl : ∀ l ∈ ls, l.length ≤ 1000000000000) :
    Spec Tryd.prog G 76 #[v] L fun u M => u = .tuple #[.string (bs (joinV ls)), .int .i64 (joinE ls)] ∧ M = L := by
  obtain ⟨a, cap, rfl, hrow⟩ := hr
  refine Spec_of (n := 54) Tryd.func76 rfl rfl rfl ?_
  repeat ((first | with_reducible refine T_seq ?_ | with_reducible refine T_block ?_ | with_reducible refine T_region ?_ | with_reducible refine TL_nil ?_ | with_reducible refine TQ_then ?_ | refine TL_q (op_move rfl) rfl ?_ | refine TL_q (op_assign rfl) rfl ?_ | refine TL_q (op_len_slice rfl Tryd.underlying70) rfl ?_))
  refine T_loopS (σ := Nat) (fun k => k ≤ ls.length ∧ (ls.take k).all okLbl = true) (fun k => [(0, .slice a ls.length cap), (4, .int .i64 ((1 + lblSum (ls.take k) : Nat) : Int)), (10, .slice a ls.length cap), (11, .int .i64 (ls.length : Nat)), (12, .int .i64 (k : Nat))]) (fun _ => L) (fun k => ls.length - k) 0 ⟨by omega, by simp⟩ ?_ (fun _ h => h) ?_
  (repeat ((first | exact trivial | refine ⟨rfl, ?_⟩)))
  rintro k ⟨hk, hall⟩
  have hsum := lblSum_le _ hall
  have hlk : (ls.take k).length ≤ k := List.length_take_le _ _
  by_cases hlt : k < ls.length
  · obtain rfl | ⟨b, off, C, te, fr, rfl, hm, hc⟩ := hrow
    · simp at hlt
    obtain ⟨l, hlk⟩ : ∃ l, ls[k]? = some l := ⟨_, List.getElem?_eq_getElem hlt⟩
    have hcell := hc k l hlk
    have hll := hl l (List.mem_of_getElem? hlk)
    have htk : ls.take (k + 1) = ls.take k ++ [l] := by rw [List.take_add_one, hlk]; rfl
    have d1 : decide ((k : Int) < (ls.length : Int)) = true := by simpa using hlt
    by_cases h0 : l.length = 0
    · have e1 : ((l.length : Int) == 0) = true := by simp [h0]
      have hE : joinE ls = 1 := joinE_bad (List.mem_of_getElem? hlk) (by simp [okLbl, h0])
      repeat ((first | with_reducible refine T_seq ?_ | with_reducible refine T_block ?_ | with_reducible refine T_region ?_ | with_reducible refine TL_nil ?_ | with_reducible refine TQ_then ?_ | with_reducible refine T_skip ?_ | with_reducible refine T_ret ?_ | with_reducible refine TQ_then_ret ?_ | with_reducible refine TQ_block_ret ?_ | refine TL_q (op_move rfl) rfl ?_ | refine TL_q (op_assign rfl) rfl ?_ | (refine' TL_q (op_bin rfl rfl ?_) rfl ?_; rotate_left 1; (· (first | exact bin_eql | exact bin_lss))) | (refine' TL_q (op_pickT rfl ?_ rfl) rfl ?_; (· (assumption))) | refine TL_q (op_len_str rfl Tryd.underlying9) rfl ?_ | (refine' TL_q (op_idx ety_70 rfl rfl ?_) rfl ?_; (· omega)) | (refine' TL_q (op_ld rfl pl_9 ?_ ?_) rfl ?_; rotate_left 4; (· repeat ((assumption))); (· (assumption))) | (refine TL_gno rfl rfl ?_ rfl ?_; (· (assumption))) | (refine T_yes rfl ?_ ?_; (· (first | with_reducible rfl | assumption)))))
      refine TQ_ret2 2 3 _ _ rfl rfl rfl ?_
      exact ⟨by rw [joinV_bad (by rw [hE]; decide), hE]; rfl, rfl⟩
    · have e1 : ((l.length : Int) == 0) = false := by simp [h0]
      by_cases h63 : 63 < l.length
      · have e2 : decide ((63 : Int) < (l.length : Int)) = true := decide_eq_true (by omega)
        have hE : joinE ls = 1 := joinE_bad (List.mem_of_getElem? hlk) (by simp [okLbl]; omega)
        repeat ((first | with_reducible refine T_seq ?_ | with_reducible refine T_block ?_ | with_reducible refine T_region ?_ | with_reducible refine TL_nil ?_ | with_reducible refine TQ_then ?_ | with_reducible refine T_skip ?_ | with_reducible refine T_ret ?_ | with_reducible refine TQ_then_ret ?_ | with_reducible refine TQ_block_ret ?_ | refine TL_q (op_move rfl) rfl ?_ | refine TL_q (op_assign rfl) rfl ?_ | (refine' TL_q (op_bin rfl rfl ?_) rfl ?_; rotate_left 1; (· (first | exact bin_eql | exact bin_lss))) | (refine' TL_q (op_pickF rfl ?_ rfl) rfl ?_; (· (assumption))) | refine TL_q (op_len_str rfl Tryd.underlying9) rfl ?_ | (refine' TL_q (op_idx ety_70 rfl rfl ?_) rfl ?_; (· omega)) | (refine' TL_q (op_ld rfl pl_9 ?_ ?_) rfl ?_; rotate_left 4; (· repeat ((assumption))); (· (assumption))) | (refine TL_gpre rfl rfl ?_ ?_; (· (assumption))) | refine TL_gq2 (op_move rfl) rfl ?_ | (refine' TL_gq2 (op_bin rfl rfl ?_) rfl ?_; rotate_left 1; (· (exact bin_gtr))) | refine TL_gq2 (op_len_str rfl Tryd.underlying9) rfl ?_ | (refine T_yes rfl ?_ ?_; (· (assumption)))))
        refine TQ_ret2 2 3 _ _ rfl rfl rfl ?_
        exact ⟨by rw [joinV_bad (by rw [hE]; decide), hE]; rfl, rfl⟩
      · have e2 : decide ((63 : Int) < (l.length : Int)) = false := decide_eq_false (by omega)
        repeat ((first | with_reducible refine T_seq ?_ | with_reducible refine T_block ?_ | with_reducible refine T_region ?_ | with_reducible refine TL_nil ?_ | with_reducible refine TQ_then ?_ | with_reducible refine TQ_block ?_ | with_reducible refine T_skip ?_ | refine TL_q (op_move rfl) rfl ?_ | refine TL_q (op_assign rfl) rfl ?_ | (refine' TL_q (op_bin rfl rfl ?_) rfl ?_; rotate_left 1; (· (first | exact bin_add ⟨by omega, by omega⟩ | exact bin_eql | exact bin_lss))) | (refine' TL_q (op_pickF rfl ?_ rfl) rfl ?_; (· (assumption))) | refine TL_q (op_len_str rfl Tryd.underlying9) rfl ?_ | (refine' TL_q (op_idx ety_70 rfl rfl ?_) rfl ?_; (· omega)) | (refine' TL_q (op_ld rfl pl_9 ?_ ?_) rfl ?_; rotate_left 4; (· repeat ((assumption))); (· (assumption))) | (refine TL_gpre rfl rfl ?_ ?_; (· (assumption))) | refine TL_gq2 (op_move rfl) rfl ?_ | (refine' TL_gq2 (op_bin rfl rfl ?_) rfl ?_; rotate_left 1; (· (exact bin_gtr))) | refine TL_gq2 (op_len_str rfl Tryd.underlying9) rfl ?_ | (refine T_yes rfl ?_ ?_; (· (assumption))) | (refine T_no rfl ?_ ?_; (· (assumption)))))
        refine TQ_roundS (k + 1) ⟨by omega, ?_⟩ ?_ (fun _ h => h) (by omega)
        · rw [htk, List.all_append, hall]; simp [okLbl]; omega
        · rw [htk, lblSum_append]
          refine ⟨rfl, ?_, rfl, rfl, rfl, trivial⟩
          exact congrArg (fun i : Int => some (Value.int .i64 i)) (by rw [lblSum_cons]; simp [lblSum]; omega)
  · have hkl : k = ls.length := by omega
    subst hkl
    have d1 : decide ((ls.length : Int) < (ls.length : Int)) = false := by simp
    rw [List.take_length] at hall hsum
    by_cases h255 : 255 < 1 + lblSum ls
    · have e2 : decide ((255 : Int) < ((1 + lblSum (ls.take ls.length) : Nat) : Int)) = true := by rw [List.take_length]; simp; omega
      have hE : joinE ls = 5 := by unfold joinE; rw [if_pos hall, if_pos h255]
      repeat ((first | with_reducible refine T_seq ?_ | with_reducible refine T_region ?_ | with_reducible refine TL_nil ?_ | with_reducible refine TQ_then ?_ | with_reducible refine T_exit ?_ | with_reducible refine T_ret ?_ | with_reducible refine TQ_then_exit ?_ | with_reducible refine TQ_then_ret ?_ | with_reducible refine TQ_block_exit ?_ | refine TL_q (op_move rfl) rfl ?_ | refine TL_q (op_assign rfl) rfl ?_ | (refine' TL_q (op_bin rfl rfl ?_) rfl ?_; rotate_left 1; (· (first | exact bin_lss | exact bin_gtr))) | (refine T_yes rfl ?_ ?_; (· (assumption))) | (refine T_no rfl ?_ ?_; (· (assumption)))))
      refine TQ_ret2 2 3 _ _ rfl rfl rfl ?_
      exact ⟨by rw [joinV_bad (by rw [hE]; decide), hE]; rfl, rfl⟩
    · have e2 : decide ((255 : Int) < ((1 + lblSum (ls.take ls.length) : Nat) : Int)) = false := by rw [List.take_length]; simp; omega
      have hE : joinE ls = 0 := by unfold joinE; rw [if_pos hall, if_neg h255]
      have hs0 : lblSum (ls.take ls.length) = lblSum ls := by rw [List.take_length]
      repeat ((first | with_reducible refine T_seq ?_ | with_reducible refine T_region ?_ | with_reducible refine TL_nil ?_ | with_reducible refine TQ_then ?_ | with_reducible refine T_skip ?_ | with_reducible refine T_exit ?_ | with_reducible refine TQ_then_exit ?_ | with_reducible refine TQ_block_exit ?_ | refine TL_q (op_move rfl) rfl ?_ | (refine' TL_q (op_bin rfl rfl ?_) rfl ?_; rotate_left 1; (· (first | exact bin_lss | exact bin_gtr))) | (refine T_no rfl ?_ ?_; (· (assumption)))))
      refine TL_new (op_make ety_48 rfl rfl (by omega) (by omega) (by omega) (by omega) rfl) rfl ?_
      intro b7
      repeat ((first | with_reducible refine T_seq ?_ | with_reducible refine T_block ?_ | with_reducible refine T_region ?_ | with_reducible refine TL_nil ?_ | with_reducible refine TQ_then ?_ | refine TL_q (op_move rfl) rfl ?_ | refine TL_q (op_assign rfl) rfl ?_ | refine TL_q (op_len_slice rfl Tryd.underlying70) rfl ?_))
      refine T_loopS (σ := Nat × Value × Blocks) (fun x => x.1 ≤ ls.length ∧ Row 5 1 x.2.1 (lblSum (ls.take x.1)) ((encQ (ls.take x.1)).map fun c => Value.int .u8 (c.toNat : Int)) x.2.2)
        (fun x => [(7, x.2.1), (34, .slice a ls.length cap), (35, .int .i64 (ls.length : Nat)), (36, .int .i64 (x.1 : Nat))]) (fun x => x.2.2 ++ L) (fun x => ls.length - x.1) (0, _, [(b7, _)]) ⟨by omega, Row.made (size_madeCells _ _) (by unfold maxLen; omega)⟩ ?_ (fun _ h => h) ?_
      (repeat ((first | exact trivial | refine ⟨rfl, ?_⟩)))
      rintro ⟨k, v7, B⟩ ⟨hk, hR⟩
      dsimp only at hk hR
      have hst := lblSum_take ls k
      by_cases hlt : k < ls.length
      · obtain rfl | ⟨b, off, C, te, fr, rfl, hm, hc⟩ := hrow
        · simp at hlt
        obtain ⟨l, hlk⟩ : ∃ l, ls[k]? = some l := ⟨_, List.getElem?_eq_getElem hlt⟩
        have hcell := hc k l hlk
        have hll : l.length ≤ 63 := by
          have := List.all_eq_true.1 hall l (List.mem_of_getElem? hlk)
          simp [okLbl] at this
          omega
        have htk : ls.take (k + 1) = ls.take k ++ [l] := by rw [List.take_add_one, hlk]; rfl
        have hsum1 : lblSum (ls.take k) + (l.length + 1) ≤ lblSum ls := by
          have := lblSum_take ls (k + 1)
          rw [htk, lblSum_append, lblSum_cons] at this
          simp [lblSum] at this ⊢
          omega
        have d3 : decide ((k : Int) < (ls.length : Int)) = true := decide_eq_true (by omega)
        have hm' : (b, Obj.cells C te fr) ∈ B ++ L := List.mem_append_right _ hm
        repeat ((first | with_reducible refine T_seq ?_ | with_reducible refine T_block ?_ | with_reducible refine T_region ?_ | with_reducible refine TL_nil ?_ | with_reducible refine TQ_then ?_ | with_reducible refine T_skip ?_ | refine TL_q (op_move rfl) rfl ?_ | refine TL_q (op_assign rfl) rfl ?_ | (refine' TL_q (op_bin rfl rfl ?_) rfl ?_; rotate_left 1; (· (exact bin_lss))) | (refine' TL_q (op_conv_int rfl Tryd.underlying3 Tryd.underlying5 ?_) rfl ?_; (· exact ⟨by omega, by omega⟩)) | refine TL_q (op_len_str rfl Tryd.underlying9) rfl ?_ | (refine' TL_q (op_idx ety_70 rfl rfl ?_) rfl ?_; (· omega)) | (refine' TL_q (op_ld rfl pl_9 ?_ ?_) rfl ?_; rotate_left 4; (· repeat ((assumption))); (· (assumption))) | (refine TL_new (op_lit1 ety_48 rfl rfl) rfl ?_; intro bLit) | (refine T_yes rfl ?_ ?_; (· (assumption)))))
        refine TL_app1 ety_48 rfl rfl hR rfl (by unfold maxLen; omega) (by omega) rfl ?_
        intro v8 B8 hR8
        repeat ((first | with_reducible refine T_region ?_ | with_reducible refine TL_nil ?_ | with_reducible refine TQ_then ?_ | refine TL_q (op_move rfl) rfl ?_ | refine TL_q (op_assign rfl) rfl ?_))
        refine TL_appS ety_48 Tryd.underlying9 rfl rfl hR8 (by omega) rfl ?_
        intro v9 B9 hR9
        repeat ((first | with_reducible refine T_region ?_ | with_reducible refine TL_nil ?_ | with_reducible refine TQ_then ?_ | with_reducible refine TQ_block ?_ | refine TL_q (op_move rfl) rfl ?_ | refine TL_q (op_assign rfl) rfl ?_ | (refine' TL_q (op_bin rfl rfl ?_) rfl ?_; rotate_left 1; (· (exact bin_add ⟨by omega, by omega⟩)))))
        refine TQ_roundS (k + 1, v9, B9) ⟨by omega, ?_⟩ ?_ (fun _ h => h) (by omega)
        · rw [htk, lblSum_append, encQ_append, lblSum_cons, encQ_cons]
          have e3 : (UInt8.ofNat l.length).toNat = l.length := by simp; omega
          have e4 : lblSum (ls.take k) + (l.length + 1 + lblSum []) = lblSum (ls.take k) + 1 + l.length := by simp [lblSum]; omega
          show Row _ 1 v9 (lblSum (ls.take k) + (l.length + 1 + lblSum [])) _ B9
          rw [e4]
          simpa [encQ, e3] using hR9
        (repeat ((first | exact trivial | refine ⟨rfl, ?_⟩)))
      · have hkl : k = ls.length := by omega
        subst hkl
        rw [List.take_length] at hR
        have d3 : decide ((ls.length : Int) < (ls.length : Int)) = false := by simp
        repeat ((first | with_reducible refine T_seq ?_ | with_reducible refine T_region ?_ | with_reducible refine TL_nil ?_ | with_reducible refine TQ_then ?_ | with_reducible refine T_exit ?_ | with_reducible refine TQ_then_exit ?_ | with_reducible refine TQ_block_exit ?_ | refine TL_q (op_move rfl) rfl ?_ | (refine' TL_q (op_bin rfl rfl ?_) rfl ?_; rotate_left 1; (· (exact bin_lss))) | (refine TL_new (op_lit1 ety_48 rfl rfl) rfl ?_; intro bLit) | (refine T_no rfl ?_ ?_; (· (assumption)))))
        refine TL_app1 ety_48 rfl rfl hR rfl (by unfold maxLen; omega) (by omega) rfl ?_
        intro v8 B8 hR8
        have hR9 : Row 5 1 v8 (Nm.enc ls).length ((Nm.enc ls).map fun c => Value.int .u8 (c.toNat : Int)) B8 := by
          rw [enc_encQ]
          simpa [encQ_length] using hR8
        refine TL_q (op_back_row rfl Tryd.underlying48 Tryd.underlying5 Tryd.underlying9 hR9 (fun p hp => List.mem_append_left _ hp)) rfl ?_
        repeat ((first | with_reducible refine TL_nil ?_ | with_reducible refine TQ_then ?_ | with_reducible refine T_ret ?_ | refine TL_q (op_assign rfl) rfl ?_))
        refine TQ_heap (fun w h => h.sub (List.sublist_append_right _ _)) ?_
        refine TQ_ret2 2 3 _ _ rfl rfl rfl ?_
        exact ⟨by rw [joinV, if_pos hE, hE], rfl⟩
end Go.Proofs.YtnhlpifbadncmaaDoor
namespace Go.Proofs.YtnhlpifbadncmaaDoor
open Go.RowKit
set_option linter.unusedVariables false
set_option linter.unusedSimpArgs false

structure Scan where
  labels : List Nm.Bytes
  label : Nm.Bytes
  esc : Nat
  val : Nat
def isDig (r : Nat) : Bool := decide (48 ≤ r) && decide (r ≤ 57)
def escS (s : Scan) (r : Nat) : Bool × Scan :=
  if isDig r then
    if s.esc < 3 then (true, { s with val := s.val * 10 + (r - 48), esc := s.esc + 1 })
    else if 255 < s.val * 10 + (r - 48) then (false, { s with val := s.val * 10 + (r - 48) })
    else (true, { s with label := s.label ++ [UInt8.ofNat (s.val * 10 + (r - 48))], val := s.val * 10 + (r - 48), esc := 0 })
  else if 1 < s.esc then (false, s)
  else (true, { s with label := s.label ++ [UInt8.ofNat r], esc := 0 })
def takeS (s : Scan) (r : Nat) : Bool × Scan :=
  if r < 33 ∨ 126 < r then (false, s)
  else if 0 < s.esc then escS s r
  else if r = 92 then (true, { s with esc := 1, val := 0 })
  else if r = 46 then (if s.label = [] then (false, s) else (true, { s with labels := s.labels ++ [s.label], label := [] }))
  else (true, { s with label := s.label ++ [UInt8.ofNat r] })
def endS (s : Scan) : Bool × Scan :=
  if 0 < s.esc then (false, s)
  else if s.label = [] then (!s.labels.isEmpty, s)
  else (true, { s with labels := s.labels ++ [s.label], label := [] })

def byteV (c : UInt8) : Value := .int .u8 (c.toNat : Int)
def txtV (l : Nm.Bytes) : Value := .string (bs l)
/-- A scanner in memory. -/
structure ScanRep (b : Nat) (s : Scan) (B : Blocks) : Prop where
  is : ∃ v1 v2 B1 B2, Row 9 1 v1 s.labels.length (s.labels.map txtV) B1 ∧ Row 5 1 v2 s.label.length (s.label.map byteV) B2 ∧
    B = (b, .cells #[v1, v2, .int .i64 (s.esc : Nat), .int .i64 (s.val : Nat)] 108 (0, 0)) :: (B1 ++ B2)
theorem perm_mid (p : Nat × Obj) (B1 B2 L : Blocks) : (p :: ((B1 ++ B2) ++ L)).Perm (B2 ++ (p :: (B1 ++ L))) := by
  have h1 : ((B1 ++ B2) ++ L).Perm (B2 ++ (B1 ++ L)) := by
    rw [← List.append_assoc]
    exact List.perm_append_comm.append_right L
  exact (h1.cons p).trans List.perm_middle.symm
theorem perm_fst (p : Nat × Obj) (B1 B2 L : Blocks) : (p :: ((B1 ++ B2) ++ L)).Perm (B1 ++ (p :: (B2 ++ L))) := by
  rw [List.append_assoc]
  exact List.perm_middle.symm
theorem perm_back1 (p : Nat × Obj) (B1 B2 L : Blocks) : (p :: (B1 ++ (B2 ++ L))).Perm ((p :: (B1 ++ B2)) ++ L) := by
  rw [List.cons_append, List.append_assoc]
theorem perm_back2 (p : Nat × Obj) (B1 B2 L : Blocks) : (p :: (B2 ++ (B1 ++ L))).Perm ((p :: (B1 ++ B2)) ++ L) := by
  have h1 : (B2 ++ (B1 ++ L)).Perm ((B1 ++ B2) ++ L) := by
    rw [← List.append_assoc]
    exact List.perm_append_comm.append_right L
  exact h1.cons p
theorem Row.snoc1 {v : Value} {l : Nm.Bytes} {c : UInt8} {n : Int} {B : Blocks} (hn : (c.toNat : Int) = n) (h : Row 5 1 v (l.length + 1) (l.map byteV ++ [.int .u8 n]) B) : Row 5 1 v (l ++ [c]).length ((l ++ [c]).map byteV) B := by
  subst hn
  simpa [byteV] using h
theorem Row.snocS {v : Value} {ls : List Nm.Bytes} {l : Nm.Bytes} {B : Blocks} (h : Row 9 1 v (ls.length + 1) (ls.map txtV ++ [.string (bs l)]) B) : Row 9 1 v (ls ++ [l]).length ((ls ++ [l]).map txtV) B := by
  simpa [txtV] using h

set_option maxRecDepth 100000 in
set_option maxHeartbeats 1000000 in
theorem esc_spec {G : World} {L : Blocks} (b : Nat) (s : Scan) (B : Blocks) (r : Nat) (hs : ScanRep b s B) (h1 : 33 ≤ r) (h2 : r ≤ 126) (hv : s.val ≤ 1000) (he : s.esc ≤ 3) (hl : s.label.length ≤ 1000000) :
    Spec Tryd.prog G 89 #[.pointer (some ⟨b, 0, none⟩), .int .i32 (r : Nat)] (B ++ L) fun u M => u = .bool (escS s r).1 ∧ ∃ B', ScanRep b (escS s r).2 B' ∧ M = B' ++ L := by
  obtain ⟨v1, v2, B1, B2, hR1, hR2, rfl⟩ := hs.is
  obtain ⟨a2, c2, rfl⟩ := hR2.slice
  by_cases hd : 48 ≤ r ∧ r ≤ 57
  · have hdig : isDig r = true := by simp [isDig]; omega
    have e1 : decide ((48 : Int) ≤ ((r : Nat) : Int)) = true := decide_eq_true (by omega)
    have e3 : (!(decide (((r : Nat) : Int) ≤ 57))) = false := by rw [decide_eq_true (by omega)]; rfl
    by_cases h3 : s.esc < 3
    · have e4 : decide (((s.esc : Nat) : Int) < 3) = true := decide_eq_true (by omega)
      refine Spec_of (n := 79) Tryd.func89 rfl rfl rfl ?_
      repeat ((first | with_reducible refine T_seq ?_ | with_reducible refine T_region ?_ | with_reducible refine TL_nil ?_ | with_reducible refine TQ_then ?_ | with_reducible refine T_skip ?_ | with_reducible refine T_ret ?_ | with_reducible refine TQ_then_ret ?_ | refine TL_q (op_move rfl) rfl ?_ | refine TL_q (op_assign rfl) rfl ?_ | (refine' TL_q (op_bin rfl rfl ?_) rfl ?_; rotate_left 1; (· (first | exact bin_add ⟨by omega, by omega⟩ | exact bin_sub ⟨by omega, by omega⟩ | exact bin_mul ⟨by omega, by omega⟩ | exact bin_lss | exact bin_geq))) | refine TL_q (op_not rfl) rfl ?_ | refine TL_q (op_nilCheck rfl) rfl ?_ | (refine' TL_q (op_pickT rfl ?_ rfl) rfl ?_; (· (assumption))) | (refine' TL_q (op_conv_int rfl Tryd.underlying21 Tryd.underlying3 ?_) rfl ?_; (· exact ⟨by omega, by omega⟩)) | refine TL_q (op_fld rfl fld_108_2) rfl ?_ | refine TL_q (op_fld rfl fld_108_3) rfl ?_ | (refine' TL_q (op_ld rfl pl_3 ?_ ?_) rfl ?_; rotate_left 4; (· repeat ((exact List.mem_cons_self))); (· (rfl))) | (refine TL_gpre rfl rfl ?_ ?_; (· (assumption))) | refine TL_gq2 (op_move rfl) rfl ?_ | (refine' TL_gq2 (op_bin rfl rfl ?_) rfl ?_; rotate_left 1; (· (exact bin_leq))) | (refine' TL_st rfl rfl one_3 rfl ?_ rfl ?_; rotate_left 1; (· (rfl))) | (refine T_yes rfl ?_ ?_; (· (assumption))) | (refine T_no rfl ?_ ?_; (· (assumption)))))
      refine TQ_ret1 4 _ rfl rfl ?_
      refine ⟨by simp [escS, hdig, h3], _, ⟨_, _, B1, B2, by simpa [escS, hdig, h3] using hR1, by simpa [escS, hdig, h3] using hR2, rfl⟩, ?_⟩
      rw [escS, if_pos hdig, if_pos h3]
      have e5 : ((s.val : Nat) : Int) * 10 + (((r : Nat) : Int) - 48) = ((s.val * 10 + (r - 48) : Nat) : Int) := by omega
      show (b, Obj.cells #[v1, _, _, Value.int .i64 (((s.val : Nat) : Int) * 10 + (((r : Nat) : Int) - 48))] _ _) :: _ = _
      rw [e5]
      rfl
    · have e4 : decide (((s.esc : Nat) : Int) < 3) = false := decide_eq_false (by omega)
      have e5 : ((s.val : Nat) : Int) * 10 + (((r : Nat) : Int) - 48) = ((s.val * 10 + (r - 48) : Nat) : Int) := by omega
      by_cases h4 : 255 < s.val * 10 + (r - 48)
      · have e6 : decide ((255 : Int) < ((s.val : Nat) : Int) * 10 + (((r : Nat) : Int) - 48)) = true := decide_eq_true (by omega)
        refine Spec_of (n := 79) Tryd.func89 rfl rfl rfl ?_
        repeat ((first | with_reducible refine T_seq ?_ | with_reducible refine T_region ?_ | with_reducible refine TL_nil ?_ | with_reducible refine TQ_then ?_ | with_reducible refine T_skip ?_ | with_reducible refine T_ret ?_ | with_reducible refine TQ_then_ret ?_ | refine TL_q (op_move rfl) rfl ?_ | refine TL_q (op_assign rfl) rfl ?_ | (refine' TL_q (op_bin rfl rfl ?_) rfl ?_; rotate_left 1; (· (first | exact bin_add ⟨by omega, by omega⟩ | exact bin_sub ⟨by omega, by omega⟩ | exact bin_mul ⟨by omega, by omega⟩ | exact bin_lss | exact bin_gtr | exact bin_geq))) | refine TL_q (op_not rfl) rfl ?_ | refine TL_q (op_nilCheck rfl) rfl ?_ | (refine' TL_q (op_pickT rfl ?_ rfl) rfl ?_; (· (assumption))) | (refine' TL_q (op_conv_int rfl Tryd.underlying21 Tryd.underlying3 ?_) rfl ?_; (· exact ⟨by omega, by omega⟩)) | refine TL_q (op_fld rfl fld_108_2) rfl ?_ | refine TL_q (op_fld rfl fld_108_3) rfl ?_ | (refine' TL_q (op_ld rfl pl_3 ?_ ?_) rfl ?_; rotate_left 4; (· repeat ((exact List.mem_cons_self))); (· (rfl))) | (refine TL_gpre rfl rfl ?_ ?_; (· (assumption))) | refine TL_gq2 (op_move rfl) rfl ?_ | (refine' TL_gq2 (op_bin rfl rfl ?_) rfl ?_; rotate_left 1; (· (exact bin_leq))) | (refine' TL_st rfl rfl one_3 rfl ?_ rfl ?_; rotate_left 1; (· (rfl))) | (refine T_yes rfl ?_ ?_; (· (assumption))) | (refine T_no rfl ?_ ?_; (· (assumption)))))
        refine TQ_ret1 4 _ rfl rfl ?_
        refine ⟨by simp [escS, hdig, h3, h4], _, ⟨_, _, B1, B2, by simpa [escS, hdig, h3, h4] using hR1, by simpa [escS, hdig, h3, h4] using hR2, rfl⟩, ?_⟩
        rw [escS, if_pos hdig, if_neg h3, if_pos h4]
        show (b, Obj.cells #[v1, _, _, Value.int .i64 (((s.val : Nat) : Int) * 10 + (((r : Nat) : Int) - 48))] _ _) :: _ = _
        rw [e5]
        rfl
      · have e6 : decide ((255 : Int) < ((s.val : Nat) : Int) * 10 + (((r : Nat) : Int) - 48)) = false := decide_eq_false (by omega)
        refine Spec_of (n := 79) Tryd.func89 rfl rfl rfl ?_
        repeat ((first | with_reducible refine T_seq ?_ | with_reducible refine T_region ?_ | with_reducible refine TL_nil ?_ | with_reducible refine TQ_then ?_ | with_reducible refine T_skip ?_ | refine TL_q (op_move rfl) rfl ?_ | refine TL_q (op_assign rfl) rfl ?_ | (refine' TL_q (op_bin rfl rfl ?_) rfl ?_; rotate_left 1; (· (first | exact bin_add ⟨by omega, by omega⟩ | exact bin_sub ⟨by omega, by omega⟩ | exact bin_mul ⟨by omega, by omega⟩ | exact bin_lss | exact bin_gtr | exact bin_geq))) | refine TL_q (op_not rfl) rfl ?_ | refine TL_q (op_nilCheck rfl) rfl ?_ | (refine' TL_q (op_pickT rfl ?_ rfl) rfl ?_; (· (assumption))) | (refine' TL_q (op_conv_int rfl Tryd.underlying21 Tryd.underlying3 ?_) rfl ?_; (· exact ⟨by omega, by omega⟩)) | refine TL_q (op_fld rfl fld_108_2) rfl ?_ | refine TL_q (op_fld rfl fld_108_3) rfl ?_ | (refine' TL_q (op_ld rfl pl_3 ?_ ?_) rfl ?_; rotate_left 4; (· repeat ((exact List.mem_cons_self))); (· (rfl))) | (refine TL_gpre rfl rfl ?_ ?_; (· (assumption))) | refine TL_gq2 (op_move rfl) rfl ?_ | (refine' TL_gq2 (op_bin rfl rfl ?_) rfl ?_; rotate_left 1; (· (exact bin_leq))) | (refine' TL_st rfl rfl one_3 rfl ?_ rfl ?_; rotate_left 1; (· (rfl))) | (refine T_no rfl ?_ ?_; (· (assumption)))))
        refine T_draw follows_mixed ([(b, .cells #[v1, .slice a2 s.label.length c2, .int .i64 (s.esc : Nat), .int .i64 (((s.val : Nat) : Int) * 10 + (((r : Nat) : Int) - 48))] 108 (0, 0))]) [14] ?_
        (refine' TA_take 0 rfl rfl (by kernel_rfl) (quiet_q (op_move rfl)) ?_ ?_; (· (intro p hp; grind)))
        (refine' TA_take 1 rfl rfl (by kernel_rfl) (quiet_q (op_move rfl)) ?_ ?_; (· (intro p hp; grind)))
        (refine' TA_take 2 rfl rfl (by kernel_rfl) (quiet_q (op_nilCheck rfl)) ?_ ?_; (· (intro p hp; grind)))
        (refine' TA_take 3 rfl rfl (by kernel_rfl) (quiet_q (op_fld rfl fld_108_1)) ?_ ?_; (· (intro p hp; grind)))
        (refine' TA_take 4 rfl rfl (by kernel_rfl) (quiet_q (op_ld rfl pl_48 ?_ ?_)) ?_ ?_; rotate_left 4; (· repeat ((exact List.mem_cons_self))); (· (rfl)); (· (intro p hp; grind)))
        (refine' TA_take 5 rfl rfl (by kernel_rfl) (quiet_q (op_move rfl)) ?_ ?_; (· (intro p hp; grind)))
        (refine' TA_take 6 rfl rfl (by kernel_rfl) (quiet_q (op_nilCheck rfl)) ?_ ?_; (· (intro p hp; grind)))
        (refine' TA_take 7 rfl rfl (by kernel_rfl) (quiet_q (op_fld rfl fld_108_3)) ?_ ?_; (· (intro p hp; grind)))
        (refine' TA_take 8 rfl rfl (by kernel_rfl) (quiet_q (op_ld rfl pl_3 ?_ ?_)) ?_ ?_; rotate_left 4; (· repeat ((exact List.mem_cons_self))); (· (rfl)); (· (intro p hp; grind)))
        (refine' TA_take 9 rfl rfl (by kernel_rfl) (quiet_q (op_conv_int rfl Tryd.underlying3 Tryd.underlying5 ?_)) ?_ ?_; (· exact ⟨by omega, by omega⟩); (· (intro p hp; grind)))
        refine TA_oneD 10 (by kernel_rfl) rfl rfl rfl rfl (op_lit1 ety_48 rfl rfl) ?_; rintro _ _ ⟨bLit, rfl, rfl⟩; refine ⟨Or.inr (by (intro p hp; grind)), TA_perm ((perm_mid _ B1 B2 L).cons _) ?_⟩
        refine TA_oneD 11 (by kernel_rfl) rfl rfl rfl rfl (op_app1 ety_48 rfl rfl hR2 rfl (by unfold maxLen; omega) (by omega)) ?_; rintro v8 _ ⟨B8, hR8, rfl⟩; obtain ⟨a8, c8, rfl⟩ := hR8.slice; refine ⟨Or.inr (by (intro p hp; grind)), ?_⟩
        (refine' TA_take 12 rfl rfl (by kernel_rfl) (quiet_q (op_nilCheck rfl)) ?_ ?_; (· (intro p hp; grind)))
        (refine' TA_take 13 rfl rfl (by kernel_rfl) (quiet_q (op_fld rfl fld_108_1)) ?_ ?_; (· (intro p hp; grind)))
        refine TA_perm List.perm_middle (TA_oneN 14 (by kernel_rfl) rfl rfl rfl (op_st rfl rfl one_48 rfl rfl rfl) ?_); rintro _ _ ⟨rfl, rfl⟩; refine ⟨Or.inl (by simp), ?_⟩
        refine TA_done (by kernel_rfl) ?_
        repeat ((first | with_reducible refine T_seq ?_ | with_reducible refine T_region ?_ | with_reducible refine TL_nil ?_ | with_reducible refine TQ_then ?_ | with_reducible refine T_ret ?_ | refine TL_q (op_move rfl) rfl ?_ | refine TL_q (op_assign rfl) rfl ?_ | refine TL_q (op_nilCheck rfl) rfl ?_ | refine TL_q (op_fld rfl fld_108_2) rfl ?_ | (refine' TL_st rfl rfl one_3 rfl ?_ rfl ?_; rotate_left 1; (· (rfl)))))
        refine TQ_heap (fun w h => h.perm (perm_back2 _ B1 B8 L)) ?_
        refine TQ_ret1 4 _ rfl rfl ?_
        have hR9 := Row.snoc1 (c := UInt8.ofNat (s.val * 10 + (r - 48))) (by simp; omega) hR8
        refine ⟨by simp [escS, hdig, h3, h4], _, ⟨_, _, B1, B8, by simpa [escS, hdig, h3, h4] using hR1, by simpa [escS, hdig, h3, h4] using hR9, rfl⟩, ?_⟩
        rw [escS, if_pos hdig, if_neg h3, if_neg h4]
        show ((b, Obj.cells #[v1, _, _, Value.int .i64 (((s.val : Nat) : Int) * 10 + (((r : Nat) : Int) - 48))] _ _) :: _) ++ L = _
        rw [e5]
        rfl
  · have hdig : isDig r = false := by simp [isDig]; omega
    have hcase : (r < 48) ∨ (57 < r) := by omega
    by_cases h3 : 1 < s.esc
    · have e4 : decide ((1 : Int) < ((s.esc : Nat) : Int)) = true := decide_eq_true (by omega)
      rcases hcase with hc | hc
      · have e1 : decide ((48 : Int) ≤ ((r : Nat) : Int)) = false := decide_eq_false (by omega)
        refine Spec_of (n := 79) Tryd.func89 rfl rfl rfl ?_
        repeat ((first | with_reducible refine T_seq ?_ | with_reducible refine T_region ?_ | with_reducible refine TL_nil ?_ | with_reducible refine TQ_then ?_ | with_reducible refine T_ret ?_ | with_reducible refine TQ_then_ret ?_ | refine TL_q (op_move rfl) rfl ?_ | refine TL_q (op_assign rfl) rfl ?_ | (refine' TL_q (op_bin rfl rfl ?_) rfl ?_; rotate_left 1; (· (first | exact bin_gtr | exact bin_geq))) | refine TL_q (op_not rfl) rfl ?_ | refine TL_q (op_nilCheck rfl) rfl ?_ | (refine' TL_q (op_pickF rfl ?_ rfl) rfl ?_; (· (assumption))) | refine TL_q (op_fld rfl fld_108_2) rfl ?_ | (refine' TL_q (op_ld rfl pl_3 ?_ ?_) rfl ?_; rotate_left 4; (· repeat ((exact List.mem_cons_self))); (· (rfl))) | (refine TL_gno rfl rfl ?_ rfl ?_; (· (assumption))) | (refine T_yes rfl ?_ ?_; (· (first | assumption | exact Bool.not_false)))))
        refine TQ_ret1 4 _ rfl rfl ?_
        exact ⟨by simp [escS, hdig, h3], _, by rw [escS, hdig]; simp only [h3, if_true]; exact hs, rfl⟩
      · have e1 : decide ((48 : Int) ≤ ((r : Nat) : Int)) = true := decide_eq_true (by omega)
        have e2 : (!(decide (((r : Nat) : Int) ≤ 57))) = true := by rw [decide_eq_false (by omega)]; rfl
        refine Spec_of (n := 79) Tryd.func89 rfl rfl rfl ?_
        repeat ((first | with_reducible refine T_seq ?_ | with_reducible refine T_region ?_ | with_reducible refine TL_nil ?_ | with_reducible refine TQ_then ?_ | with_reducible refine T_ret ?_ | with_reducible refine TQ_then_ret ?_ | refine TL_q (op_move rfl) rfl ?_ | refine TL_q (op_assign rfl) rfl ?_ | (refine' TL_q (op_bin rfl rfl ?_) rfl ?_; rotate_left 1; (· (first | exact bin_gtr | exact bin_geq))) | refine TL_q (op_not rfl) rfl ?_ | refine TL_q (op_nilCheck rfl) rfl ?_ | (refine' TL_q (op_pickT rfl ?_ rfl) rfl ?_; (· (assumption))) | refine TL_q (op_fld rfl fld_108_2) rfl ?_ | (refine' TL_q (op_ld rfl pl_3 ?_ ?_) rfl ?_; rotate_left 4; (· repeat ((exact List.mem_cons_self))); (· (rfl))) | (refine TL_gpre rfl rfl ?_ ?_; (· (assumption))) | refine TL_gq2 (op_move rfl) rfl ?_ | (refine' TL_gq2 (op_bin rfl rfl ?_) rfl ?_; rotate_left 1; (· (exact bin_leq))) | (refine T_yes rfl ?_ ?_; (· (assumption)))))
        refine TQ_ret1 4 _ rfl rfl ?_
        exact ⟨by simp [escS, hdig, h3], _, by rw [escS, hdig]; simp only [h3, if_true]; exact hs, rfl⟩
    · have e4 : decide ((1 : Int) < ((s.esc : Nat) : Int)) = false := decide_eq_false (by omega)
      rcases hcase with hc | hc
      · have e1 : decide ((48 : Int) ≤ ((r : Nat) : Int)) = false := decide_eq_false (by omega)
        refine Spec_of (n := 79) Tryd.func89 rfl rfl rfl ?_
        repeat ((first | with_reducible refine T_seq ?_ | with_reducible refine T_region ?_ | with_reducible refine TL_nil ?_ | with_reducible refine TQ_then ?_ | with_reducible refine T_skip ?_ | refine TL_q (op_move rfl) rfl ?_ | refine TL_q (op_assign rfl) rfl ?_ | (refine' TL_q (op_bin rfl rfl ?_) rfl ?_; rotate_left 1; (· (first | exact bin_gtr | exact bin_geq))) | refine TL_q (op_not rfl) rfl ?_ | refine TL_q (op_nilCheck rfl) rfl ?_ | (refine' TL_q (op_pickF rfl ?_ rfl) rfl ?_; (· (assumption))) | (refine' TL_q (op_conv_int rfl Tryd.underlying21 Tryd.underlying5 ?_) rfl ?_; (· exact ⟨by omega, by omega⟩)) | refine TL_q (op_fld rfl fld_108_1) rfl ?_ | refine TL_q (op_fld rfl fld_108_2) rfl ?_ | (refine' TL_q (op_ld rfl pl_3 ?_ ?_) rfl ?_; rotate_left 4; (· repeat ((exact List.mem_cons_self))); (· (rfl))) | (refine TL_gno rfl rfl ?_ rfl ?_; (· (assumption))) | (refine TL_new (op_lit1 ety_48 rfl rfl) rfl ?_; intro bLit) | (refine T_yes rfl ?_ ?_; (· (exact Bool.not_false))) | (refine T_no rfl ?_ ?_; (· (assumption)))))
        refine TL_perm ((perm_mid _ B1 B2 L).cons _) ?_
        refine TL_app1 ety_48 rfl rfl hR2 rfl (by unfold maxLen; omega) (by omega) rfl ?_
        intro v8 B8 hR8
        obtain ⟨a8, c8, rfl⟩ := hR8.slice
        refine TL_perm List.perm_middle ?_
        repeat ((first | with_reducible refine T_seq ?_ | with_reducible refine T_region ?_ | with_reducible refine TL_nil ?_ | with_reducible refine TQ_then ?_ | with_reducible refine T_ret ?_ | with_reducible refine TQ_then_ret ?_ | refine TL_q (op_move rfl) rfl ?_ | refine TL_q (op_assign rfl) rfl ?_ | refine TL_q (op_nilCheck rfl) rfl ?_ | refine TL_q (op_fld rfl fld_108_1) rfl ?_ | refine TL_q (op_fld rfl fld_108_2) rfl ?_ | (refine' TL_st rfl rfl one_3 rfl ?_ rfl ?_; rotate_left 1; (· (rfl)))))
        refine TQ_heap (fun w h => h.perm (perm_back2 _ B1 B8 L)) ?_
        refine TQ_ret1 4 _ rfl rfl ?_
        have hR9 := Row.snoc1 (c := UInt8.ofNat r) (by simp; omega) hR8
        exact ⟨by simp [escS, hdig, h3], _, ⟨_, _, B1, B8, by simpa [escS, hdig, h3] using hR1, by simpa [escS, hdig, h3] using hR9, rfl⟩, by rw [escS, hdig]; simp only [h3, if_false]; rfl⟩
      · have e1 : decide ((48 : Int) ≤ ((r : Nat) : Int)) = true := decide_eq_true (by omega)
        have e2 : (!(decide (((r : Nat) : Int) ≤ 57))) = true := by rw [decide_eq_false (by omega)]; rfl
        refine Spec_of (n := 79) Tryd.func89 rfl rfl rfl ?_
        repeat ((first | with_reducible refine T_seq ?_ | with_reducible refine T_region ?_ | with_reducible refine TL_nil ?_ | with_reducible refine TQ_then ?_ | with_reducible refine T_skip ?_ | refine TL_q (op_move rfl) rfl ?_ | refine TL_q (op_assign rfl) rfl ?_ | (refine' TL_q (op_bin rfl rfl ?_) rfl ?_; rotate_left 1; (· (first | exact bin_gtr | exact bin_geq))) | refine TL_q (op_not rfl) rfl ?_ | refine TL_q (op_nilCheck rfl) rfl ?_ | (refine' TL_q (op_pickT rfl ?_ rfl) rfl ?_; (· (assumption))) | (refine' TL_q (op_conv_int rfl Tryd.underlying21 Tryd.underlying5 ?_) rfl ?_; (· exact ⟨by omega, by omega⟩)) | refine TL_q (op_fld rfl fld_108_1) rfl ?_ | refine TL_q (op_fld rfl fld_108_2) rfl ?_ | (refine' TL_q (op_ld rfl pl_3 ?_ ?_) rfl ?_; rotate_left 4; (· repeat ((exact List.mem_cons_self))); (· (rfl))) | (refine TL_gpre rfl rfl ?_ ?_; (· (assumption))) | refine TL_gq2 (op_move rfl) rfl ?_ | (refine' TL_gq2 (op_bin rfl rfl ?_) rfl ?_; rotate_left 1; (· (exact bin_leq))) | (refine TL_new (op_lit1 ety_48 rfl rfl) rfl ?_; intro bLit) | (refine T_yes rfl ?_ ?_; (· (assumption))) | (refine T_no rfl ?_ ?_; (· (assumption)))))
        refine TL_perm ((perm_mid _ B1 B2 L).cons _) ?_
        refine TL_app1 ety_48 rfl rfl hR2 rfl (by unfold maxLen; omega) (by omega) rfl ?_
        intro v8 B8 hR8
        obtain ⟨a8, c8, rfl⟩ := hR8.slice
        refine TL_perm List.perm_middle ?_
        repeat ((first | with_reducible refine T_seq ?_ | with_reducible refine T_region ?_ | with_reducible refine TL_nil ?_ | with_reducible refine TQ_then ?_ | with_reducible refine T_ret ?_ | with_reducible refine TQ_then_ret ?_ | refine TL_q (op_move rfl) rfl ?_ | refine TL_q (op_assign rfl) rfl ?_ | refine TL_q (op_nilCheck rfl) rfl ?_ | refine TL_q (op_fld rfl fld_108_1) rfl ?_ | refine TL_q (op_fld rfl fld_108_2) rfl ?_ | (refine' TL_st rfl rfl one_3 rfl ?_ rfl ?_; rotate_left 1; (· (rfl)))))
        refine TQ_heap (fun w h => h.perm (perm_back2 _ B1 B8 L)) ?_
        refine TQ_ret1 4 _ rfl rfl ?_
        have hR9 := Row.snoc1 (c := UInt8.ofNat r) (by simp; omega) hR8
        exact ⟨by simp [escS, hdig, h3], _, ⟨_, _, B1, B8, by simpa [escS, hdig, h3] using hR1, by simpa [escS, hdig, h3] using hR9, rfl⟩, by rw [escS, hdig]; simp only [h3, if_false]; rfl⟩

set_option maxRecDepth 100000 in
set_option maxHeartbeats 1000000 in
theorem take_spec {G : World} {L : Blocks} (b : Nat) (s : Scan) (B : Blocks) (r : Nat) (hs : ScanRep b s B) (hr : r ≤ 2147483647) (hv : s.val ≤ 1000) (he : s.esc ≤ 3) (hl : s.label.length ≤ 1000000) (hls : s.labels.length ≤ 1000000) :
    Spec Tryd.prog G 74 #[.pointer (some ⟨b, 0, none⟩), .int .i32 (r : Nat)] (B ++ L) fun u M => u = .bool (takeS s r).1 ∧ ∃ B', ScanRep b (takeS s r).2 B' ∧ M = B' ++ L := by
  obtain ⟨v1, v2, B1, B2, hR1, hR2, rfl⟩ := hs.is
  obtain ⟨a1, c1, rfl⟩ := hR1.slice
  obtain ⟨a2, c2, rfl⟩ := hR2.slice
  by_cases h33 : r < 33
  · have e1 : decide (((r : Nat) : Int) < 33) = true := decide_eq_true (by omega)
    have hT : takeS s r = (false, s) := by unfold takeS; rw [if_pos (Or.inl h33)]
    refine Spec_of (n := 69) Tryd.func74 rfl rfl rfl ?_
    repeat ((first | with_reducible refine T_seq ?_ | with_reducible refine T_region ?_ | with_reducible refine TL_nil ?_ | with_reducible refine TQ_then ?_ | with_reducible refine T_ret ?_ | with_reducible refine TQ_then_ret ?_ | refine TL_q (op_move rfl) rfl ?_ | refine TL_q (op_assign rfl) rfl ?_ | (refine' TL_q (op_bin rfl rfl ?_) rfl ?_; rotate_left 1; (· (exact bin_lss))) | (refine' TL_q (op_pickT rfl ?_ rfl) rfl ?_; (· (assumption))) | (refine TL_gno rfl rfl ?_ rfl ?_; (· (assumption))) | (refine T_yes rfl ?_ ?_; (· (with_reducible rfl)))))
    refine TQ_ret1 4 _ rfl rfl ?_
    exact ⟨by rw [hT], _, by rw [hT]; exact hs, rfl⟩
  have e1 : decide (((r : Nat) : Int) < 33) = false := decide_eq_false (by omega)
  by_cases h126 : 126 < r
  · have e2 : decide ((126 : Int) < ((r : Nat) : Int)) = true := decide_eq_true (by omega)
    have hT : takeS s r = (false, s) := by unfold takeS; rw [if_pos (Or.inr h126)]
    refine Spec_of (n := 69) Tryd.func74 rfl rfl rfl ?_
    repeat ((first | with_reducible refine T_seq ?_ | with_reducible refine T_region ?_ | with_reducible refine TL_nil ?_ | with_reducible refine TQ_then ?_ | with_reducible refine T_ret ?_ | with_reducible refine TQ_then_ret ?_ | refine TL_q (op_move rfl) rfl ?_ | refine TL_q (op_assign rfl) rfl ?_ | (refine' TL_q (op_bin rfl rfl ?_) rfl ?_; rotate_left 1; (· (exact bin_lss))) | (refine' TL_q (op_pickF rfl ?_ rfl) rfl ?_; (· (assumption))) | (refine TL_gpre rfl rfl ?_ ?_; (· (assumption))) | refine TL_gq2 (op_move rfl) rfl ?_ | (refine' TL_gq2 (op_bin rfl rfl ?_) rfl ?_; rotate_left 1; (· (exact bin_gtr))) | (refine T_yes rfl ?_ ?_; (· (assumption)))))
    refine TQ_ret1 4 _ rfl rfl ?_
    exact ⟨by rw [hT], _, by rw [hT]; exact hs, rfl⟩
  have e2 : decide ((126 : Int) < ((r : Nat) : Int)) = false := decide_eq_false (by omega)
  have hin : ¬ (r < 33 ∨ 126 < r) := by omega
  by_cases h0 : 0 < s.esc
  · have e3 : decide ((0 : Int) < ((s.esc : Nat) : Int)) = true := decide_eq_true (by omega)
    have hT : takeS s r = escS s r := by unfold takeS; rw [if_neg hin, if_pos h0]
    refine Spec_of (n := 69) Tryd.func74 rfl rfl rfl ?_
    repeat ((first | with_reducible refine T_seq ?_ | with_reducible refine T_region ?_ | with_reducible refine TL_nil ?_ | with_reducible refine TQ_then ?_ | with_reducible refine T_skip ?_ | refine TL_q (op_move rfl) rfl ?_ | refine TL_q (op_assign rfl) rfl ?_ | (refine' TL_q (op_bin rfl rfl ?_) rfl ?_; rotate_left 1; (· (first | exact bin_lss | exact bin_gtr))) | refine TL_q (op_nilCheck rfl) rfl ?_ | (refine' TL_q (op_pickF rfl ?_ rfl) rfl ?_; (· (assumption))) | refine TL_q (op_fld rfl fld_108_2) rfl ?_ | (refine' TL_q (op_ld rfl pl_3 ?_ ?_) rfl ?_; rotate_left 4; (· repeat ((exact List.mem_cons_self))); (· (rfl))) | (refine TL_gpre rfl rfl ?_ ?_; (· (assumption))) | refine TL_gq2 (op_move rfl) rfl ?_ | (refine' TL_gq2 (op_bin rfl rfl ?_) rfl ?_; rotate_left 1; (· (exact bin_gtr))) | (refine T_yes rfl ?_ ?_; (· (assumption))) | (refine T_no rfl ?_ ?_; (· (assumption)))))
    refine TL_opT (op_call hb_89 rfl (esc_spec b s _ r hs (by omega) (by omega) hv he hl)) rfl ?_
    rintro _ _ ⟨rfl, B', hB', rfl⟩
    repeat ((first | with_reducible refine TL_nil ?_ | with_reducible refine TQ_then ?_ | with_reducible refine T_ret ?_ | with_reducible refine TQ_then_ret ?_ | refine TL_q (op_assign rfl) rfl ?_))
    refine TQ_ret1 4 _ rfl rfl ?_
    exact ⟨by rw [hT], _, by rw [hT]; exact hB', rfl⟩
  have e3 : decide ((0 : Int) < ((s.esc : Nat) : Int)) = false := decide_eq_false (by omega)
  by_cases h92 : r = 92
  · have e4 : (((r : Nat) : Int) == 92) = true := by simp [h92]
    have hT : takeS s r = (true, { s with esc := 1, val := 0 }) := by unfold takeS; rw [if_neg hin, if_neg h0, if_pos h92]
    refine Spec_of (n := 69) Tryd.func74 rfl rfl rfl ?_
    repeat ((first | with_reducible refine T_seq ?_ | with_reducible refine T_block ?_ | with_reducible refine T_region ?_ | with_reducible refine TL_nil ?_ | with_reducible refine TQ_then ?_ | with_reducible refine TQ_block ?_ | with_reducible refine T_skip ?_ | with_reducible refine T_ret ?_ | refine TL_q (op_move rfl) rfl ?_ | refine TL_q (op_assign rfl) rfl ?_ | (refine' TL_q (op_bin rfl rfl ?_) rfl ?_; rotate_left 1; (· (first | exact bin_eql | exact bin_lss | exact bin_gtr))) | refine TL_q (op_nilCheck rfl) rfl ?_ | (refine' TL_q (op_pickF rfl ?_ rfl) rfl ?_; (· (assumption))) | refine TL_q (op_fld rfl fld_108_2) rfl ?_ | refine TL_q (op_fld rfl fld_108_3) rfl ?_ | (refine' TL_q (op_ld rfl pl_3 ?_ ?_) rfl ?_; rotate_left 4; (· repeat ((exact List.mem_cons_self))); (· (rfl))) | (refine TL_gpre rfl rfl ?_ ?_; (· (assumption))) | refine TL_gq2 (op_move rfl) rfl ?_ | (refine' TL_gq2 (op_bin rfl rfl ?_) rfl ?_; rotate_left 1; (· (exact bin_gtr))) | (refine' TL_st rfl rfl one_3 rfl ?_ rfl ?_; rotate_left 1; (· (rfl))) | (refine T_yes rfl ?_ ?_; (· (assumption))) | (refine T_no rfl ?_ ?_; (· (assumption)))))
    refine TQ_ret1 4 _ rfl rfl ?_
    exact ⟨by rw [hT], _, by rw [hT]; exact ⟨_, _, B1, B2, hR1, hR2, rfl⟩, rfl⟩
  have e4 : (((r : Nat) : Int) == 92) = false := by simp; omega
  by_cases h46 : r = 46
  · have e5 : (((r : Nat) : Int) == 46) = true := by simp [h46]
    by_cases hlab : s.label = []
    · have e6 : (((s.label.length : Nat) : Int) == 0) = true := by simp [hlab]
      have hT : takeS s r = (false, s) := by unfold takeS; rw [if_neg hin, if_neg h0, if_neg h92, if_pos h46, if_pos hlab]
      refine Spec_of (n := 69) Tryd.func74 rfl rfl rfl ?_
      repeat ((first | with_reducible refine T_seq ?_ | with_reducible refine T_block ?_ | with_reducible refine T_region ?_ | with_reducible refine TL_nil ?_ | with_reducible refine TQ_then ?_ | with_reducible refine T_skip ?_ | with_reducible refine T_ret ?_ | with_reducible refine TQ_then_ret ?_ | with_reducible refine TQ_block_ret ?_ | refine TL_q (op_move rfl) rfl ?_ | refine TL_q (op_assign rfl) rfl ?_ | (refine' TL_q (op_bin rfl rfl ?_) rfl ?_; rotate_left 1; (· (first | exact bin_eql | exact bin_lss | exact bin_gtr))) | refine TL_q (op_nilCheck rfl) rfl ?_ | (refine' TL_q (op_pickF rfl ?_ rfl) rfl ?_; (· (assumption))) | refine TL_q (op_len_slice rfl Tryd.underlying48) rfl ?_ | refine TL_q (op_fld rfl fld_108_1) rfl ?_ | refine TL_q (op_fld rfl fld_108_2) rfl ?_ | (refine' TL_q (op_ld rfl pl_3 ?_ ?_) rfl ?_; rotate_left 4; (· repeat ((exact List.mem_cons_self))); (· (rfl))) | (refine TL_gpre rfl rfl ?_ ?_; (· (assumption))) | refine TL_gq2 (op_move rfl) rfl ?_ | (refine' TL_gq2 (op_bin rfl rfl ?_) rfl ?_; rotate_left 1; (· (exact bin_gtr))) | (refine T_yes rfl ?_ ?_; (· (assumption))) | (refine T_no rfl ?_ ?_; (· (assumption)))))
      refine TQ_ret1 4 _ rfl rfl ?_
      exact ⟨by rw [hT], _, by rw [hT]; exact hs, rfl⟩
    · have e6 : (((s.label.length : Nat) : Int) == 0) = false := by simp [hlab]
      have hT : takeS s r = (true, { s with labels := s.labels ++ [s.label], label := [] }) := by unfold takeS; rw [if_neg hin, if_neg h0, if_neg h92, if_pos h46, if_neg hlab]
      refine Spec_of (n := 69) Tryd.func74 rfl rfl rfl ?_
      repeat ((first | with_reducible refine T_seq ?_ | with_reducible refine T_block ?_ | with_reducible refine T_region ?_ | with_reducible refine TL_nil ?_ | with_reducible refine TQ_then ?_ | with_reducible refine T_skip ?_ | refine TL_q (op_move rfl) rfl ?_ | refine TL_q (op_assign rfl) rfl ?_ | (refine' TL_q (op_bin rfl rfl ?_) rfl ?_; rotate_left 1; (· (first | exact bin_eql | exact bin_lss | exact bin_gtr))) | refine TL_q (op_nilCheck rfl) rfl ?_ | (refine' TL_q (op_pickF rfl ?_ rfl) rfl ?_; (· (assumption))) | refine TL_q (op_len_slice rfl Tryd.underlying48) rfl ?_ | refine TL_q (op_fld rfl fld_108_1) rfl ?_ | refine TL_q (op_fld rfl fld_108_2) rfl ?_ | (refine' TL_q (op_ld rfl pl_3 ?_ ?_) rfl ?_; rotate_left 4; (· repeat ((exact List.mem_cons_self))); (· (rfl))) | (refine TL_gpre rfl rfl ?_ ?_; (· (assumption))) | refine TL_gq2 (op_move rfl) rfl ?_ | (refine' TL_gq2 (op_bin rfl rfl ?_) rfl ?_; rotate_left 1; (· (exact bin_gtr))) | (refine T_yes rfl ?_ ?_; (· (assumption))) | (refine T_no rfl ?_ ?_; (· (assumption)))))
      refine T_draw follows_mixed ((b, .cells #[.slice a1 s.labels.length c1, .slice a2 s.label.length c2, .int .i64 (s.esc : Nat), .int .i64 (s.val : Nat)] 108 (0, 0)) :: B2) [14] ?_
      (refine' TA_take 0 rfl rfl (by kernel_rfl) (quiet_q (op_move rfl)) ?_ ?_; (· (intro p hp; grind)))
      (refine' TA_take 1 rfl rfl (by kernel_rfl) (quiet_q (op_move rfl)) ?_ ?_; (· (intro p hp; grind)))
      (refine' TA_take 2 rfl rfl (by kernel_rfl) (quiet_q (op_nilCheck rfl)) ?_ ?_; (· (intro p hp; grind)))
      (refine' TA_take 3 rfl rfl (by kernel_rfl) (quiet_q (op_fld rfl fld_108_0)) ?_ ?_; (· (intro p hp; grind)))
      (refine' TA_take 4 rfl rfl (by kernel_rfl) (quiet_q (op_ld rfl pl_70 ?_ ?_)) ?_ ?_; rotate_left 4; (· repeat ((exact List.mem_cons_self))); (· (rfl)); (· (intro p hp; grind)))
      (refine' TA_take 5 rfl rfl (by kernel_rfl) (quiet_q (op_move rfl)) ?_ ?_; (· (intro p hp; grind)))
      (refine' TA_take 6 rfl rfl (by kernel_rfl) (quiet_q (op_nilCheck rfl)) ?_ ?_; (· (intro p hp; grind)))
      (refine' TA_take 7 rfl rfl (by kernel_rfl) (quiet_q (op_fld rfl fld_108_1)) ?_ ?_; (· (intro p hp; grind)))
      (refine' TA_take 8 rfl rfl (by kernel_rfl) (quiet_q (op_ld rfl pl_48 ?_ ?_)) ?_ ?_; rotate_left 4; (· repeat ((exact List.mem_cons_self))); (· (rfl)); (· (intro p hp; grind)))
      (refine' TA_take 9 rfl rfl (by kernel_rfl) (quiet_q (op_back_row rfl Tryd.underlying48 Tryd.underlying5 Tryd.underlying9 hR2 (fun p hp => List.mem_cons_of_mem _ hp))) ?_ ?_; (· (intro p hp; grind)))
      refine TA_oneD 10 (by kernel_rfl) rfl rfl rfl rfl (op_lit1 ety_70 rfl rfl) ?_; rintro _ _ ⟨bLit, rfl, rfl⟩; refine ⟨Or.inr (by (intro p hp; grind)), TA_perm ((perm_fst _ B1 B2 L).cons _) ?_⟩
      refine TA_oneD 11 (by kernel_rfl) rfl rfl rfl rfl (op_app1 ety_70 rfl rfl hR1 rfl (by unfold maxLen; omega) (by omega)) ?_; rintro v8 _ ⟨B8, hR8, rfl⟩; obtain ⟨a8, c8, rfl⟩ := hR8.slice; refine ⟨Or.inr (by (intro p hp; grind)), ?_⟩
      (refine' TA_take 12 rfl rfl (by kernel_rfl) (quiet_q (op_nilCheck rfl)) ?_ ?_; (· (intro p hp; grind)))
      (refine' TA_take 13 rfl rfl (by kernel_rfl) (quiet_q (op_fld rfl fld_108_0)) ?_ ?_; (· (intro p hp; grind)))
      refine TA_perm List.perm_middle (TA_oneN 14 (by kernel_rfl) rfl rfl rfl (op_st rfl rfl one_70 rfl rfl rfl) ?_); rintro _ _ ⟨rfl, rfl⟩; refine ⟨Or.inl (by simp), ?_⟩
      refine TA_done (by kernel_rfl) ?_
      repeat ((first | with_reducible refine T_region ?_ | with_reducible refine TQ_then ?_ | refine TL_q (op_move rfl) rfl ?_ | refine TL_q (op_nilCheck rfl) rfl ?_ | refine TL_q (op_fld rfl fld_108_1) rfl ?_ | (refine' TL_q (op_ld rfl pl_3 ?_ ?_) rfl ?_; rotate_left 4; (· repeat ((exact List.mem_cons_self))); (· (rfl)))))
      refine TL_q (op_slice_to ety_48 rfl rfl (by omega) (by omega)) rfl ?_
      repeat ((first | with_reducible refine T_seq ?_ | with_reducible refine T_region ?_ | with_reducible refine TL_nil ?_ | with_reducible refine TQ_then ?_ | with_reducible refine TQ_block ?_ | with_reducible refine T_ret ?_ | refine TL_q (op_assign rfl) rfl ?_ | refine TL_q (op_nilCheck rfl) rfl ?_ | refine TL_q (op_fld rfl fld_108_1) rfl ?_ | (refine' TL_st rfl rfl one_3 rfl ?_ rfl ?_; rotate_left 1; (· (rfl)))))
      refine TQ_heap (fun w h => h.perm (perm_back1 _ B8 B2 L)) ?_
      refine TQ_ret1 4 _ rfl rfl ?_
      exact ⟨by rw [hT], _, by rw [hT]; exact ⟨_, _, B8, B2, Row.snocS hR8, hR2.cut0, rfl⟩, by congr 4 <;> simp⟩
  have e5 : (((r : Nat) : Int) == 46) = false := by simp; omega
  have hT : takeS s r = (true, { s with label := s.label ++ [UInt8.ofNat r] }) := by unfold takeS; rw [if_neg hin, if_neg h0, if_neg h92, if_neg h46]
  refine Spec_of (n := 69) Tryd.func74 rfl rfl rfl ?_
  repeat ((first | with_reducible refine T_seq ?_ | with_reducible refine T_block ?_ | with_reducible refine T_region ?_ | with_reducible refine TL_nil ?_ | with_reducible refine TQ_then ?_ | with_reducible refine T_skip ?_ | refine TL_q (op_move rfl) rfl ?_ | refine TL_q (op_assign rfl) rfl ?_ | (refine' TL_q (op_bin rfl rfl ?_) rfl ?_; rotate_left 1; (· (first | exact bin_eql | exact bin_lss | exact bin_gtr))) | refine TL_q (op_nilCheck rfl) rfl ?_ | (refine' TL_q (op_pickF rfl ?_ rfl) rfl ?_; (· (assumption))) | (refine' TL_q (op_conv_int rfl Tryd.underlying21 Tryd.underlying5 ?_) rfl ?_; (· exact ⟨by omega, by omega⟩)) | refine TL_q (op_fld rfl fld_108_1) rfl ?_ | refine TL_q (op_fld rfl fld_108_2) rfl ?_ | (refine' TL_q (op_ld rfl pl_3 ?_ ?_) rfl ?_; rotate_left 4; (· repeat ((exact List.mem_cons_self))); (· (rfl))) | (refine TL_gpre rfl rfl ?_ ?_; (· (assumption))) | refine TL_gq2 (op_move rfl) rfl ?_ | (refine' TL_gq2 (op_bin rfl rfl ?_) rfl ?_; rotate_left 1; (· (exact bin_gtr))) | (refine TL_new (op_lit1 ety_48 rfl rfl) rfl ?_; intro bLit) | (refine T_no rfl ?_ ?_; (· (assumption)))))
  refine TL_perm ((perm_mid _ B1 B2 L).cons _) ?_
  refine TL_app1 ety_48 rfl rfl hR2 rfl (by unfold maxLen; omega) (by omega) rfl ?_
  intro v8 B8 hR8
  obtain ⟨a8, c8, rfl⟩ := hR8.slice
  refine TL_perm List.perm_middle ?_
  repeat ((first | with_reducible refine T_seq ?_ | with_reducible refine T_region ?_ | with_reducible refine TL_nil ?_ | with_reducible refine TQ_then ?_ | with_reducible refine TQ_block ?_ | with_reducible refine T_ret ?_ | refine TL_q (op_assign rfl) rfl ?_ | refine TL_q (op_nilCheck rfl) rfl ?_ | refine TL_q (op_fld rfl fld_108_1) rfl ?_ | (refine' TL_st rfl rfl one_3 rfl ?_ rfl ?_; rotate_left 1; (· (rfl)))))
  refine TQ_heap (fun w h => h.perm (perm_back2 _ B1 B8 L)) ?_
  refine TQ_ret1 4 _ rfl rfl ?_
  exact ⟨by rw [hT], _, by rw [hT]; exact ⟨_, _, B1, B8, hR1, Row.snoc1 (by simp; omega) hR8, rfl⟩, rfl⟩

set_option maxRecDepth 100000 in
set_option maxHeartbeats 1000000 in
theorem end_spec {G : World} {L : Blocks} (b : Nat) (s : Scan) (B : Blocks) (hs : ScanRep b s B) (he : s.esc ≤ 3) (hl : s.label.length ≤ 1000000) (hls : s.labels.length ≤ 1000000) :
    Spec Tryd.prog G 75 #[.pointer (some ⟨b, 0, none⟩)] (B ++ L) fun u M => u = .bool (endS s).1 ∧ ∃ B', ScanRep b (endS s).2 B' ∧ M = B' ++ L := by
  obtain ⟨v1, v2, B1, B2, hR1, hR2, rfl⟩ := hs.is
  obtain ⟨a1, c1, rfl⟩ := hR1.slice
  obtain ⟨a2, c2, rfl⟩ := hR2.slice
  by_cases h0 : 0 < s.esc
  · have e3 : decide ((0 : Int) < ((s.esc : Nat) : Int)) = true := decide_eq_true (by omega)
    have hT : endS s = (false, s) := by unfold endS; rw [if_pos h0]
    refine Spec_of (n := 37) Tryd.func75 rfl rfl rfl ?_
    repeat ((first | with_reducible refine T_seq ?_ | with_reducible refine T_region ?_ | with_reducible refine TL_nil ?_ | with_reducible refine TQ_then ?_ | with_reducible refine T_ret ?_ | with_reducible refine TQ_then_ret ?_ | refine TL_q (op_move rfl) rfl ?_ | refine TL_q (op_assign rfl) rfl ?_ | (refine' TL_q (op_bin rfl rfl ?_) rfl ?_; rotate_left 1; (· (exact bin_gtr))) | refine TL_q (op_nilCheck rfl) rfl ?_ | refine TL_q (op_fld rfl fld_108_2) rfl ?_ | (refine' TL_q (op_ld rfl pl_3 ?_ ?_) rfl ?_; rotate_left 4; (· repeat ((exact List.mem_cons_self))); (· (rfl))) | (refine T_yes rfl ?_ ?_; (· (assumption)))))
    refine TQ_ret1 2 _ rfl rfl ?_
    exact ⟨by rw [hT], _, by rw [hT]; exact hs, rfl⟩
  have e3 : decide ((0 : Int) < ((s.esc : Nat) : Int)) = false := decide_eq_false (by omega)
  by_cases hlab : s.label = []
  · have e6 : decide ((0 : Int) < ((s.label.length : Nat) : Int)) = false := by simp [hlab]
    have hT : endS s = (!s.labels.isEmpty, s) := by unfold endS; rw [if_neg h0, if_pos hlab]
    refine Spec_of (n := 37) Tryd.func75 rfl rfl rfl ?_
    repeat ((first | with_reducible refine T_seq ?_ | with_reducible refine T_region ?_ | with_reducible refine TL_nil ?_ | with_reducible refine TQ_then ?_ | with_reducible refine T_skip ?_ | with_reducible refine T_ret ?_ | refine TL_q (op_move rfl) rfl ?_ | refine TL_q (op_assign rfl) rfl ?_ | (refine' TL_q (op_bin rfl rfl ?_) rfl ?_; rotate_left 1; (· (exact bin_gtr))) | refine TL_q (op_nilCheck rfl) rfl ?_ | refine TL_q (op_len_slice rfl Tryd.underlying48) rfl ?_ | refine TL_q (op_len_slice rfl Tryd.underlying70) rfl ?_ | refine TL_q (op_fld rfl fld_108_0) rfl ?_ | refine TL_q (op_fld rfl fld_108_1) rfl ?_ | refine TL_q (op_fld rfl fld_108_2) rfl ?_ | (refine' TL_q (op_ld rfl pl_3 ?_ ?_) rfl ?_; rotate_left 4; (· repeat ((exact List.mem_cons_self))); (· (rfl))) | (refine T_no rfl ?_ ?_; (· (assumption)))))
    refine TQ_ret1 2 _ rfl rfl ?_
    refine ⟨?_, _, by rw [hT]; exact hs, rfl⟩
    rw [hT]
    cases s.labels <;> simp <;> omega
  · have e6 : decide ((0 : Int) < ((s.label.length : Nat) : Int)) = true := by simp; exact List.length_pos_iff.2 hlab
    have hT : endS s = (true, { s with labels := s.labels ++ [s.label], label := [] }) := by unfold endS; rw [if_neg h0, if_neg hlab]
    refine Spec_of (n := 37) Tryd.func75 rfl rfl rfl ?_
    repeat ((first | with_reducible refine T_seq ?_ | with_reducible refine T_region ?_ | with_reducible refine TL_nil ?_ | with_reducible refine TQ_then ?_ | with_reducible refine T_skip ?_ | refine TL_q (op_move rfl) rfl ?_ | refine TL_q (op_assign rfl) rfl ?_ | (refine' TL_q (op_bin rfl rfl ?_) rfl ?_; rotate_left 1; (· (exact bin_gtr))) | refine TL_q (op_nilCheck rfl) rfl ?_ | refine TL_q (op_len_slice rfl Tryd.underlying48) rfl ?_ | refine TL_q (op_fld rfl fld_108_1) rfl ?_ | refine TL_q (op_fld rfl fld_108_2) rfl ?_ | (refine' TL_q (op_ld rfl pl_3 ?_ ?_) rfl ?_; rotate_left 4; (· repeat ((exact List.mem_cons_self))); (· (rfl))) | (refine T_yes rfl ?_ ?_; (· (assumption))) | (refine T_no rfl ?_ ?_; (· (assumption)))))
    refine T_draw follows_mixed ((b, .cells #[.slice a1 s.labels.length c1, .slice a2 s.label.length c2, .int .i64 (s.esc : Nat), .int .i64 (s.val : Nat)] 108 (0, 0)) :: B2) [14] ?_
    (refine' TA_take 0 rfl rfl (by kernel_rfl) (quiet_q (op_move rfl)) ?_ ?_; (· (intro p hp; grind)))
    (refine' TA_take 1 rfl rfl (by kernel_rfl) (quiet_q (op_move rfl)) ?_ ?_; (· (intro p hp; grind)))
    (refine' TA_take 2 rfl rfl (by kernel_rfl) (quiet_q (op_nilCheck rfl)) ?_ ?_; (· (intro p hp; grind)))
    (refine' TA_take 3 rfl rfl (by kernel_rfl) (quiet_q (op_fld rfl fld_108_0)) ?_ ?_; (· (intro p hp; grind)))
    (refine' TA_take 4 rfl rfl (by kernel_rfl) (quiet_q (op_ld rfl pl_70 ?_ ?_)) ?_ ?_; rotate_left 4; (· repeat ((exact List.mem_cons_self))); (· (rfl)); (· (intro p hp; grind)))
    (refine' TA_take 5 rfl rfl (by kernel_rfl) (quiet_q (op_move rfl)) ?_ ?_; (· (intro p hp; grind)))
    (refine' TA_take 6 rfl rfl (by kernel_rfl) (quiet_q (op_nilCheck rfl)) ?_ ?_; (· (intro p hp; grind)))
    (refine' TA_take 7 rfl rfl (by kernel_rfl) (quiet_q (op_fld rfl fld_108_1)) ?_ ?_; (· (intro p hp; grind)))
    (refine' TA_take 8 rfl rfl (by kernel_rfl) (quiet_q (op_ld rfl pl_48 ?_ ?_)) ?_ ?_; rotate_left 4; (· repeat ((exact List.mem_cons_self))); (· (rfl)); (· (intro p hp; grind)))
    (refine' TA_take 9 rfl rfl (by kernel_rfl) (quiet_q (op_back_row rfl Tryd.underlying48 Tryd.underlying5 Tryd.underlying9 hR2 (fun p hp => List.mem_cons_of_mem _ hp))) ?_ ?_; (· (intro p hp; grind)))
    refine TA_oneD 10 (by kernel_rfl) rfl rfl rfl rfl (op_lit1 ety_70 rfl rfl) ?_; rintro _ _ ⟨bLit, rfl, rfl⟩; refine ⟨Or.inr (by (intro p hp; grind)), TA_perm ((perm_fst _ B1 B2 L).cons _) ?_⟩
    refine TA_oneD 11 (by kernel_rfl) rfl rfl rfl rfl (op_app1 ety_70 rfl rfl hR1 rfl (by unfold maxLen; omega) (by omega)) ?_; rintro v8 _ ⟨B8, hR8, rfl⟩; obtain ⟨a8, c8, rfl⟩ := hR8.slice; refine ⟨Or.inr (by (intro p hp; grind)), ?_⟩
    (refine' TA_take 12 rfl rfl (by kernel_rfl) (quiet_q (op_nilCheck rfl)) ?_ ?_; (· (intro p hp; grind)))
    (refine' TA_take 13 rfl rfl (by kernel_rfl) (quiet_q (op_fld rfl fld_108_0)) ?_ ?_; (· (intro p hp; grind)))
    refine TA_perm List.perm_middle (TA_oneN 14 (by kernel_rfl) rfl rfl rfl (op_st rfl rfl one_70 rfl rfl rfl) ?_); rintro _ _ ⟨rfl, rfl⟩; refine ⟨Or.inl (by simp), ?_⟩
    refine TA_done (by kernel_rfl) ?_
    repeat ((first | with_reducible refine T_seq ?_ | with_reducible refine T_region ?_ | with_reducible refine TL_nil ?_ | with_reducible refine TQ_then ?_ | with_reducible refine T_ret ?_ | refine TL_q (op_move rfl) rfl ?_ | refine TL_q (op_assign rfl) rfl ?_ | (refine' TL_q (op_bin rfl rfl ?_) rfl ?_; rotate_left 1; (· (exact bin_gtr))) | refine TL_q (op_nilCheck rfl) rfl ?_ | refine TL_q (op_len_slice rfl Tryd.underlying70) rfl ?_ | refine TL_q (op_fld rfl fld_108_0) rfl ?_ | refine TL_q (op_fld rfl fld_108_1) rfl ?_ | (refine' TL_q (op_ld rfl pl_3 ?_ ?_) rfl ?_; rotate_left 4; (· repeat ((exact List.mem_cons_self))); (· (rfl))) | (refine' TL_st rfl rfl one_48 rfl ?_ rfl ?_; rotate_left 1; (· (rfl)))))
    refine TQ_heap (L' := ((b, .cells #[.slice a8 (s.labels.length + 1) c8, .slice none 0 0, .int .i64 (s.esc : Nat), .int .i64 (s.val : Nat)] 108 (0, 0)) :: (B8 ++ [])) ++ L) (fun w h => h.sub ?_) ?_
    · rw [List.append_nil]
      exact ((List.Sublist.refl B8).append (List.sublist_append_right B2 L)).cons_cons _
    refine TQ_ret1 2 _ rfl rfl ?_
    exact ⟨by rw [hT]; simp, _, by rw [hT]; exact ⟨_, _, B8, [], Row.snocS hR8, Row.nil _ _, rfl⟩, by simp⟩
end Go.Proofs.YtnhlpifbadncmaaDoor
namespace Go.Proofs.YtnhlpifbadncmaaDoor
open Go.RowKit
set_option linter.unusedVariables false
set_option linter.unusedSimpArgs false
variable {G : World} {P : Program} {n : Nat} {ρ : Slots} {L : Blocks} {ty : TypeId} {Q : Exit → Act → World → Prop}

theorem op_range_str {x : Operand} {t : TypeId} {s : List UInt8} (hx : ev ρ x = some (.string (bs s))) (ht : P.underlying t = some .string) : OpNew P G ρ L (.range t x) ty (fun b => .pointer (some ⟨b, 0, none⟩)) (.stringIter (bs s) 0) :=
  .run fun r hr w o ho _ => by
    simp [execOp, ho, hr _ _ hx, Instr.range, run_underlying ht]
theorem Heap.setObj {w : World} {b : Nat} {o o' : Obj} (h : Heap G w ((b, o) :: L)) : Heap G { w with heap := w.heap.setIfInBounds b o' } ((b, o') :: L) := by
  have hlt := h.lt (List.mem_cons_self (a := (b, o)))
  refine h.update ⟨rfl, rfl, rfl, by simp⟩ ?_ (fun j hj hne => ?_)
  · show (w.heap.setIfInBounds b o')[b]? = _
    rw [Array.getElem?_setIfInBounds_self_of_lt hlt]
  · show (w.heap.setIfInBounds b o')[j]? = _
    rw [Array.getElem?_setIfInBounds_ne (Ne.symm hne)]
theorem op_next_any {x : Operand} {b k : Nat} {s : List UInt8} (hx : ev ρ x = some (.pointer (some ⟨b, 0, none⟩))) (hk : k < s.length) :
    OpV P G ρ ((b, .stringIter (bs s) k) :: L) (.next x true) ty (.tuple #[.bool true, .int .i64 (k : Nat), .int .i32 ((Utf8.decode (bs s) k).1 : Nat)]) ((b, .stringIter (bs s) (k + (Utf8.decode (bs s) k).2)) :: L) :=
  .run fun r hr w hw o ho _ => by
    have h0 := hw.get _ (List.mem_cons_self ..)
    refine ⟨{ w with heap := w.heap.setIfInBounds b (.stringIter (bs s) (k + (Utf8.decode (bs s) k).2)) }, ?_, hw.setObj⟩
    have hs : k < (bs s).size := by rw [bs_size]; exact hk
    simp only [execOp, ho, hr _ _ hx, Instr.next, getObj, setObj, Sem.run_bind, Sem.run, h0, Result.andThen, hs, if_true]
    simp [goInt]
theorem op_next_end {x : Operand} {b k : Nat} {s : List UInt8} (hx : ev ρ x = some (.pointer (some ⟨b, 0, none⟩))) (hk : s.length ≤ k) (hm : (b, Obj.stringIter (bs s) k) ∈ L) :
    OpQ P ρ L (.next x true) ty (.tuple #[.bool false]) :=
  ⟨fun r hr w hw o ho _ => by
    have h0 := hw.get _ hm
    have hs : ¬ k < (bs s).size := by rw [bs_size]; omega
    simp only [execOp, ho, hr _ _ hx, Instr.next, getObj, Sem.run_bind, Sem.run, h0, Result.andThen, hs, if_false]
    simp⟩
theorem bs_at {s : List UInt8} {k : Nat} (h : k < (bs s).size) {c : UInt8} (hc : s[k]? = some c) : (bs s)[k]'h = c := by
  obtain ⟨h1, h2⟩ := List.getElem?_eq_some_iff.1 hc
  rw [← h2]
  rfl
theorem decode_low {s : List UInt8} {k : Nat} {c : UInt8} (hc : s[k]? = some c) (h : c.toNat < 128) : Utf8.decode (bs s) k = (c.toNat, 1) := by
  have hk : k < (bs s).size := by rw [bs_size]; exact (List.getElem?_eq_some_iff.1 hc).1
  rw [decode_ascii (bs s) k hk (by rw [bs_at hk hc]; exact h), bs_at hk hc]
theorem decode_up {s : List UInt8} {k : Nat} {c : UInt8} (hc : s[k]? = some c) (h : 128 ≤ c.toNat) : 128 ≤ (Utf8.decode (bs s) k).1 ∧ (Utf8.decode (bs s) k).1 ≤ 2147483647 := by
  have hk : k < (bs s).size := by rw [bs_size]; exact (List.getElem?_eq_some_iff.1 hc).1
  exact ⟨(decode_high (bs s) k hk (by rw [bs_at hk hc]; exact h)).1, decode_le _ _⟩
end Go.Proofs.YtnhlpifbadncmaaDoor
namespace Go.Proofs.YtnhlpifbadncmaaDoor
open Go.RowKit
set_option linter.unusedVariables false
set_option linter.unusedSimpArgs false

def scan0 : Scan := ⟨[], [], 0, 0⟩
def runS : Scan → Nm.Bytes → Option Scan
  | s, [] => some s
  | s, c :: t => if (takeS s c.toNat).1 then runS (takeS s c.toNat).2 t else none
/-- The labels of a text, or none. -/
def textL (t : Nm.Bytes) : Option (List Nm.Bytes) := match runS scan0 t with
  | some s => if (endS s).1 then some (endS s).2.labels else none
  | none => none
def parseE (t : Nm.Bytes) : Int := if t = [46] then 0 else match textL t with
  | none => 3
  | some ls => if ls.any (fun l => decide (63 < l.length)) then 5 else joinE ls
def parseV (t : Nm.Bytes) : Nm.Bytes := if t = [46] then [0] else match textL t with
  | none => []
  | some ls => if ls.any (fun l => decide (63 < l.length)) then [] else joinV ls

theorem runS_append (a b : Nm.Bytes) : ∀ s, runS s (a ++ b) = (runS s a).bind fun s' => runS s' b := by
  induction a with
  | nil => intro s; rfl
  | cons c t ih =>
    intro s
    simp only [List.cons_append, runS]
    split
    · exact ih _
    · rfl
theorem takeS_high (s : Scan) (r : Nat) (h : 126 < r) : takeS s r = (false, s) := by unfold takeS; rw [if_pos (Or.inr h)]
/-- What a scanner's numbers are. -/
def ScanOk (s : Scan) (k : Nat) : Prop := ((s.esc = 0 ∧ s.val ≤ 999) ∨ (s.esc = 1 ∧ s.val = 0) ∨ (s.esc = 2 ∧ s.val ≤ 9) ∨ (s.esc = 3 ∧ s.val ≤ 99)) ∧ s.label.length ≤ k ∧ s.labels.length ≤ k
theorem takeS_ok {s : Scan} {k r : Nat} (h : ScanOk s k) (ht : (takeS s r).1 = true) : ScanOk (takeS s r).2 (k + 1) := by
  obtain ⟨h1, h2, h3⟩ := h
  unfold takeS at ht ⊢
  split
  · rename_i hh; rw [if_pos hh] at ht; simp at ht
  · rename_i hh
    rw [if_neg hh] at ht
    split
    · rename_i h4
      rw [if_pos h4] at ht
      unfold escS at ht ⊢
      split
      · rename_i h5
        simp only [isDig, Bool.and_eq_true, decide_eq_true_eq] at h5
        split
        · refine ⟨?_, by simp; omega, by simp; omega⟩
          simp only
          omega
        · rename_i h6
          split
          · rename_i h7
            rw [if_pos (by simp [isDig, h5]), if_neg h6, if_pos h7] at ht
            simp at ht
          · exact ⟨Or.inl ⟨rfl, by show s.val * 10 + (r - 48) ≤ 999; omega⟩, by simp; omega, by simp; omega⟩
      · split
        · rename_i h5 h6; rw [if_neg h5, if_pos h6] at ht; simp at ht
        · exact ⟨Or.inl ⟨rfl, by show s.val ≤ 999; omega⟩, by simp; omega, by simp; omega⟩
    · split
      · exact ⟨by simp, by simp; omega, by simp; omega⟩
      · split
        · split
          · exact ⟨h1, by show s.label.length ≤ k + 1; omega, by show s.labels.length ≤ k + 1; omega⟩
          · exact ⟨h1, by simp, by simp; omega⟩
        · exact ⟨h1, by simp; omega, by simp; omega⟩
theorem runS_ok : ∀ (t : Nm.Bytes) (s s' : Scan) (k : Nat), ScanOk s k → runS s t = some s' → ScanOk s' (k + t.length)
  | [], s, s', k, h, hr => by simp [runS] at hr; subst hr; exact h
  | c :: t, s, s', k, h, hr => by
    simp only [runS] at hr
    split at hr
    · rename_i ht
      have := runS_ok t _ s' (k + 1) (takeS_ok h ht) hr
      rw [show k + (c :: t).length = k + 1 + t.length by simp; omega]
      exact this
    · cases hr
theorem scan0_ok : ScanOk scan0 0 := ⟨Or.inl ⟨rfl, by decide⟩, by decide, by decide⟩
theorem Row.strRow {L B : Blocks} {v : Value} {ls : List Nm.Bytes} (h : Row 9 1 v ls.length (ls.map txtV) B) (hB : ∀ p ∈ B, p ∈ L) : StrRow L v ls := by
  rcases h.is with ⟨h1, h2, _⟩ | ⟨b, cap, cur, h1, h2, h3, h4, h5, h6⟩
  · exact ⟨none, 0, by rw [h1, h2], Or.inl (List.eq_nil_of_length_eq_zero h2)⟩
  · refine ⟨_, cap, h1, Or.inr ⟨b, 0, cur, 9, (0, 0), rfl, hB _ (by rw [h2]; exact List.mem_cons_self ..), fun i l hi => ?_⟩⟩
    have hil := (List.getElem?_eq_some_iff.1 hi).1
    have : (cur.toList.take (ls.length * 1))[i]? = some (txtV l) := by rw [h6, List.getElem?_map, hi]; rfl
    rw [List.getElem?_take_of_lt (by omega)] at this
    simpa [txtV] using this
theorem textL_none {t : Nm.Bytes} (h : runS scan0 t = none) : textL t = none := by unfold textL; rw [h]

/-- What Parse returns. -/
def parseOut (t : Nm.Bytes) : Value := .tuple #[.string (bs (parseV t)), .int .i64 (parseE t)]

set_option maxRecDepth 100000 in
set_option maxHeartbeats 1000000 in
theorem Parse_spec {G : World} {L : Blocks} (t : Nm.Bytes) (ht : t.length ≤ 100000) :
    Spec Tryd.prog G 65 #[.string (bs t)] L fun u M => u = parseOut t ∧ M = L := by
  by_cases hdot : t = [46]
  · subst hdot
    have e1 : (([46] : List UInt8) == [46]) = true := by decide
    refine Spec_of (n := 37) Tryd.func65 rfl rfl rfl ?_
    repeat ((first | with_reducible refine T_seq ?_ | with_reducible refine T_region ?_ | with_reducible refine TL_nil ?_ | with_reducible refine TQ_then ?_ | with_reducible refine T_ret ?_ | with_reducible refine TQ_then_ret ?_ | refine TL_q (op_move rfl) rfl ?_ | refine TL_q (op_assign rfl) rfl ?_ | (refine' TL_q (op_bin rfl rfl ?_) rfl ?_; rotate_left 1; (· (exact sbin_eql))) | (refine T_yes rfl ?_ ?_; (· (assumption)))))
    refine TQ_ret2 2 3 _ _ rfl rfl rfl ?_
    exact ⟨rfl, rfl⟩
  have hP : parseE t = (match textL t with | none => 3 | some ls => if ls.any (fun l => decide (63 < l.length)) then 5 else joinE ls) ∧ parseV t = (match textL t with | none => [] | some ls => if ls.any (fun l => decide (63 < l.length)) then [] else joinV ls) := by
    unfold parseE parseV; rw [if_neg hdot, if_neg hdot]; exact ⟨rfl, rfl⟩
  have e1 : (t == [46]) = false := by simpa using hdot
  refine Spec_of (n := 37) Tryd.func65 rfl rfl rfl ?_
  repeat ((first | with_reducible refine T_seq ?_ | with_reducible refine T_region ?_ | with_reducible refine TL_nil ?_ | with_reducible refine TQ_then ?_ | with_reducible refine T_skip ?_ | refine TL_q (op_move rfl) rfl ?_ | refine TL_q (op_assign rfl) rfl ?_ | (refine' TL_q (op_bin rfl rfl ?_) rfl ?_; rotate_left 1; (· (exact sbin_eql))) | (refine TL_new (op_alloc zero_108 rfl) rfl ?_; intro bNew) | (refine T_no rfl ?_ ?_; (· (assumption)))))
  refine TL_new (op_range_str rfl Tryd.underlying9) rfl ?_
  intro bi
  repeat ((first | with_reducible refine T_block ?_ | with_reducible refine TL_nil ?_ | with_reducible refine TQ_then ?_))
  refine T_loopS (σ := Nat × Scan × Blocks) (fun x => x.1 ≤ t.length ∧ runS scan0 (t.take x.1) = some x.2.1 ∧ ScanRep bNew x.2.1 x.2.2)
    (fun x => [(4, .pointer (some ⟨bNew, 0, none⟩)), (12, .pointer (some ⟨bi, 0, none⟩))]) (fun x => (bi, .stringIter (bs t) x.1) :: (x.2.2 ++ L)) (fun x => t.length - x.1) (0, scan0, [(bNew, .cells #[.slice none 0 0, .slice none 0 0, .int .i64 0, .int .i64 0] 108 (0, 0))]) ⟨by omega, rfl, ⟨_, _, [], [], Row.nil _ _, Row.nil _ _, rfl⟩⟩ ?_ (fun _ h => h) ?_
  (repeat ((first | exact trivial | refine ⟨rfl, ?_⟩)))
  rintro ⟨k, st, B⟩ ⟨hk, hrun, hrep⟩
  dsimp only at hk hrun hrep
  have hok := runS_ok _ _ _ 0 scan0_ok hrun
  have hlk : (t.take k).length ≤ k := List.length_take_le _ _
  obtain ⟨ho1, ho2, ho3⟩ := hok
  by_cases hlt : k < t.length
  · obtain ⟨c, hc⟩ : ∃ c, t[k]? = some c := ⟨_, List.getElem?_eq_getElem hlt⟩
    have htk : t.take (k + 1) = t.take k ++ [c] := by rw [List.take_add_one, hc]; rfl
    have hsplit : t = t.take k ++ c :: t.drop (k + 1) := by
      conv => lhs; rw [← List.take_append_drop k t]
      rw [List.drop_eq_getElem_cons hlt]
      congr 2
      rw [List.getElem?_eq_getElem hlt] at hc
      exact Option.some.inj hc
    by_cases hc128 : c.toNat < 128
    · have hdec := decode_low hc hc128
      repeat ((first | with_reducible refine T_seq ?_ | with_reducible refine T_region ?_))
      refine TL_op (op_next_any rfl hlt) rfl ?_
      rw [hdec]
      repeat ((first | with_reducible refine T_seq ?_ | with_reducible refine T_block ?_ | with_reducible refine T_region ?_ | with_reducible refine TL_nil ?_ | with_reducible refine TQ_then ?_ | with_reducible refine T_skip ?_ | refine TL_q (op_move rfl) rfl ?_ | refine TL_q (op_assign rfl) rfl ?_ | refine TL_q (op_extract rfl rfl) rfl ?_ | (refine T_yes rfl ?_ ?_; (· (with_reducible rfl)))))
      refine TL_perm List.perm_middle.symm ?_
      refine TL_opT (op_call hb_74 rfl (take_spec bNew st B c.toNat hrep (by omega) (by omega) (by omega) (by omega) (by omega))) rfl ?_
      rintro _ _ ⟨rfl, B', hB', rfl⟩
      cases htake : (takeS st c.toNat).1 with
      | true =>
        repeat ((first | with_reducible refine TL_nil ?_ | with_reducible refine TQ_then ?_ | with_reducible refine TQ_block ?_ | with_reducible refine T_skip ?_ | refine TL_q (op_not rfl) rfl ?_ | (refine T_no rfl ?_ ?_; (· (exact Bool.not_true)))))
        refine TQ_roundS (k + 1, (takeS st c.toNat).2, B') ⟨by omega, ?_, hB'⟩ ?_ (fun _ h => h.perm List.perm_middle) (by omega)
        · rw [htk, runS_append, hrun]
          simp [runS, htake]
        (repeat (first | exact trivial | refine ⟨rfl, ?_⟩))
      | false =>
        have hT : textL t = none := textL_none (by rw [hsplit, runS_append, hrun]; simp [runS, htake])
        repeat ((first | with_reducible refine T_seq ?_ | with_reducible refine T_region ?_ | with_reducible refine TL_nil ?_ | with_reducible refine TQ_then ?_ | with_reducible refine T_ret ?_ | with_reducible refine TQ_then_ret ?_ | with_reducible refine TQ_block_ret ?_ | refine TL_q (op_assign rfl) rfl ?_ | refine TL_q (op_not rfl) rfl ?_ | (refine T_yes rfl ?_ ?_; (· (exact Bool.not_false)))))
        refine TQ_heap (fun w h => h.sub ((List.sublist_cons_self _ _).trans (List.sublist_append_right _ _))) ?_
        refine TQ_ret2 2 3 _ _ rfl rfl rfl ?_
        exact ⟨by unfold parseOut; rw [hP.1, hP.2, hT]; rfl, rfl⟩
    · have hdec := decode_up hc (by omega)
      have hT : textL t = none := textL_none (by rw [hsplit, runS_append, hrun]; simp [runS, takeS_high st c.toNat (by omega)])
      repeat ((first | with_reducible refine T_seq ?_ | with_reducible refine T_region ?_))
      refine TL_op (op_next_any rfl hlt) rfl ?_
      repeat ((first | with_reducible refine T_seq ?_ | with_reducible refine T_block ?_ | with_reducible refine T_region ?_ | with_reducible refine TL_nil ?_ | with_reducible refine TQ_then ?_ | with_reducible refine T_skip ?_ | refine TL_q (op_move rfl) rfl ?_ | refine TL_q (op_assign rfl) rfl ?_ | refine TL_q (op_extract rfl rfl) rfl ?_ | (refine T_yes rfl ?_ ?_; (· (with_reducible rfl)))))
      refine TL_perm List.perm_middle.symm ?_
      refine TL_opT (op_call hb_74 rfl (take_spec bNew st B (Utf8.decode (bs t) k).1 hrep (by omega) (by omega) (by omega) (by omega) (by omega))) rfl ?_
      rintro _ _ ⟨rfl, B', hB', rfl⟩
      rw [takeS_high st _ (by omega)]
      repeat ((first | with_reducible refine T_seq ?_ | with_reducible refine T_region ?_ | with_reducible refine TL_nil ?_ | with_reducible refine TQ_then ?_ | with_reducible refine T_ret ?_ | with_reducible refine TQ_then_ret ?_ | with_reducible refine TQ_block_ret ?_ | refine TL_q (op_assign rfl) rfl ?_ | refine TL_q (op_not rfl) rfl ?_ | (refine T_yes rfl ?_ ?_; (· (exact Bool.not_false)))))
      refine TQ_heap (fun w h => h.sub ((List.sublist_cons_self _ _).trans (List.sublist_append_right _ _))) ?_
      refine TQ_ret2 2 3 _ _ rfl rfl rfl ?_
      exact ⟨by unfold parseOut; rw [hP.1, hP.2, hT]; rfl, rfl⟩
  · have hkl : k = t.length := by omega
    subst hkl
    rw [List.take_length] at hrun
    repeat ((first | with_reducible refine T_seq ?_ | with_reducible refine T_region ?_))
    refine TL_q (op_next_end rfl (Nat.le_refl _) (List.mem_cons_self ..)) rfl ?_
    repeat ((first | with_reducible refine T_seq ?_ | with_reducible refine T_region ?_ | with_reducible refine TL_nil ?_ | with_reducible refine TQ_then ?_ | with_reducible refine T_exit ?_ | with_reducible refine TQ_then_exit ?_ | with_reducible refine TQ_block_exit ?_ | refine TL_q (op_extract rfl rfl) rfl ?_ | (refine T_no rfl ?_ ?_; (· (with_reducible rfl)))))
    refine TL_perm List.perm_middle.symm ?_
    refine TL_opT (op_call hb_75 rfl (end_spec bNew st B hrep (by omega) (by omega) (by omega))) rfl ?_
    rintro _ _ ⟨rfl, B', hB', rfl⟩
    cases hend : (endS st).1 with
    | false =>
      have hT : textL t = none := by unfold textL; rw [hrun]; simp [hend]
      repeat ((first | with_reducible refine T_seq ?_ | with_reducible refine T_region ?_ | with_reducible refine TL_nil ?_ | with_reducible refine TQ_then ?_ | with_reducible refine T_ret ?_ | with_reducible refine TQ_then_ret ?_ | refine TL_q (op_assign rfl) rfl ?_ | refine TL_q (op_not rfl) rfl ?_ | (refine T_yes rfl ?_ ?_; (· (exact Bool.not_false)))))
      refine TQ_heap (fun w h => h.sub ((List.sublist_cons_self _ _).trans (List.sublist_append_right _ _))) ?_
      refine TQ_ret2 2 3 _ _ rfl rfl rfl ?_
      exact ⟨by unfold parseOut; rw [hP.1, hP.2, hT]; rfl, rfl⟩
    | true =>
      have hT : textL t = some (endS st).2.labels := by unfold textL; rw [hrun]; simp [hend]
      obtain ⟨ls, hls⟩ : ∃ ls, ls = (endS st).2.labels := ⟨_, rfl⟩
      have hll : ls.length ≤ 100001 := by
        rw [hls]; unfold endS
        split
        · show st.labels.length ≤ _; omega
        · split
          · show st.labels.length ≤ _; omega
          · simp; omega
      obtain ⟨v1, v2, B1, B2, hR1, hR2, rfl⟩ := hB'.is
      rw [← hls] at hT hR1
      obtain ⟨a1, c1, rfl⟩ := hR1.slice
      repeat ((first | with_reducible refine T_seq ?_ | with_reducible refine T_block ?_ | with_reducible refine T_region ?_ | with_reducible refine TL_nil ?_ | with_reducible refine TQ_then ?_ | with_reducible refine T_skip ?_ | refine TL_q (op_move rfl) rfl ?_ | refine TL_q (op_not rfl) rfl ?_ | refine TL_q (op_len_slice rfl Tryd.underlying70) rfl ?_ | refine TL_q (op_fld rfl fld_108_0) rfl ?_ | (refine' TL_q (op_ld rfl pl_9 ?_ ?_) rfl ?_; rotate_left 4; (· repeat ((exact List.mem_cons_self))); (· (rfl))) | (refine T_no rfl ?_ ?_; (· (exact Bool.not_true)))))
      have hrow := hR1.strRow (L := ((bNew, .cells #[.slice a1 ls.length c1, v2, .int .i64 ((endS st).2.esc : Nat), .int .i64 ((endS st).2.val : Nat)] 108 (0, 0)) :: (B1 ++ B2)) ++ ((bi, .stringIter (bs t) t.length) :: L)) (fun p hp => by grind)
      obtain ⟨a, cap, hveq, hcells⟩ := id hrow
      cases hveq
      refine T_loopS (σ := Nat) (fun k => k ≤ ls.length ∧ (ls.take k).any (fun l => decide (63 < l.length)) = false) (fun k => [(4, .pointer (some ⟨bNew, 0, none⟩)), (22, .slice a1 ls.length c1), (23, .int .i64 (ls.length : Nat)), (24, .int .i64 (k : Nat))]) (fun _ => _) (fun k => ls.length - k) 0 ⟨by omega, rfl⟩ ?_ (fun _ h => h) ?_
      (repeat ((first | exact trivial | refine ⟨rfl, ?_⟩)))
      rintro k ⟨hk, hany⟩
      by_cases hlt : k < ls.length
      · obtain rfl | ⟨b, off, C, te, fr, rfl, hm, hc⟩ := hcells
        · simp at hlt
        obtain ⟨l, hlk⟩ : ∃ l, ls[k]? = some l := ⟨_, List.getElem?_eq_getElem hlt⟩
        have hcell := hc k l hlk
        have d1 : decide ((k : Int) < (ls.length : Int)) = true := decide_eq_true (by omega)
        have htk : ls.take (k + 1) = ls.take k ++ [l] := by rw [List.take_add_one, hlk]; rfl
        by_cases h63 : 63 < l.length
        · have d2 : decide ((63 : Int) < ((l.length : Nat) : Int)) = true := decide_eq_true (by omega)
          have hA : ls.any (fun l => decide (63 < l.length)) = true := List.any_eq_true.2 ⟨l, List.mem_of_getElem? hlk, by simpa using h63⟩
          repeat ((first | with_reducible refine T_seq ?_ | with_reducible refine T_block ?_ | with_reducible refine T_region ?_ | with_reducible refine TL_nil ?_ | with_reducible refine TQ_then ?_ | with_reducible refine T_skip ?_ | with_reducible refine T_ret ?_ | with_reducible refine TQ_then_ret ?_ | with_reducible refine TQ_block_ret ?_ | refine TL_q (op_move rfl) rfl ?_ | refine TL_q (op_assign rfl) rfl ?_ | (refine' TL_q (op_bin rfl rfl ?_) rfl ?_; rotate_left 1; (· (first | exact bin_lss | exact bin_gtr))) | refine TL_q (op_len_str rfl Tryd.underlying9) rfl ?_ | (refine' TL_q (op_idx ety_70 rfl rfl ?_) rfl ?_; (· omega)) | (refine' TL_q (op_ld rfl pl_9 ?_ ?_) rfl ?_; rotate_left 4; (· repeat ((assumption))); (· (assumption))) | (refine T_yes rfl ?_ ?_; (· (assumption)))))
          refine TQ_heap (fun w h => h.sub ((List.sublist_cons_self _ _).trans (List.sublist_append_right _ _))) ?_
          refine TQ_ret2 2 3 _ _ rfl rfl rfl ?_
          exact ⟨by unfold parseOut; rw [hP.1, hP.2, hT]; simp only [hA, if_true]; rfl, rfl⟩
        · have d2 : decide ((63 : Int) < ((l.length : Nat) : Int)) = false := decide_eq_false (by omega)
          repeat ((first | with_reducible refine T_seq ?_ | with_reducible refine T_block ?_ | with_reducible refine T_region ?_ | with_reducible refine TL_nil ?_ | with_reducible refine TQ_then ?_ | with_reducible refine TQ_block ?_ | with_reducible refine T_skip ?_ | refine TL_q (op_move rfl) rfl ?_ | refine TL_q (op_assign rfl) rfl ?_ | (refine' TL_q (op_bin rfl rfl ?_) rfl ?_; rotate_left 1; (· (first | exact bin_add ⟨by omega, by omega⟩ | exact bin_lss | exact bin_gtr))) | refine TL_q (op_len_str rfl Tryd.underlying9) rfl ?_ | (refine' TL_q (op_idx ety_70 rfl rfl ?_) rfl ?_; (· omega)) | (refine' TL_q (op_ld rfl pl_9 ?_ ?_) rfl ?_; rotate_left 4; (· repeat ((assumption))); (· (assumption))) | (refine T_yes rfl ?_ ?_; (· (assumption))) | (refine T_no rfl ?_ ?_; (· (assumption)))))
          refine TQ_roundS (k + 1) ⟨by omega, ?_⟩ ?_ (fun _ h => h) (by omega)
          · rw [htk, List.any_append, hany]; simp; omega
          (repeat ((first | exact trivial | refine ⟨rfl, ?_⟩)))
      · have hkl : k = ls.length := by omega
        subst hkl
        rw [List.take_length] at hany
        have d1 : decide ((ls.length : Int) < (ls.length : Int)) = false := by simp
        have hle : ∀ l ∈ ls, l.length ≤ 1000000000000 := fun l hl => by
          have := List.any_eq_false.1 hany l hl
          simp at this
          omega
        repeat ((first | with_reducible refine T_seq ?_ | with_reducible refine T_region ?_ | with_reducible refine TL_nil ?_ | with_reducible refine TQ_then ?_ | with_reducible refine T_exit ?_ | with_reducible refine TQ_then_exit ?_ | with_reducible refine TQ_block_exit ?_ | (refine' TL_q (op_bin rfl rfl ?_) rfl ?_; rotate_left 1; (· (exact bin_lss))) | refine TL_q (op_fld rfl fld_108_0) rfl ?_ | (refine' TL_q (op_ld rfl pl_9 ?_ ?_) rfl ?_; rotate_left 4; (· repeat ((exact List.mem_cons_self))); (· (rfl))) | (refine T_no rfl ?_ ?_; (· (assumption)))))
        refine TL_opT (op_call hb_76 rfl (Join_spec _ ls hrow (by omega) hle)) rfl ?_
        rintro _ _ ⟨rfl, rfl⟩
        repeat ((first | with_reducible refine TL_nil ?_ | with_reducible refine TQ_then ?_ | with_reducible refine T_ret ?_ | refine TL_q (op_assign rfl) rfl ?_ | refine TL_q (op_extract rfl rfl) rfl ?_))
        refine TQ_heap (fun w h => h.sub ((List.sublist_cons_self _ _).trans (List.sublist_append_right _ _))) ?_
        refine TQ_ret2 2 3 _ _ rfl rfl rfl ?_
        refine ⟨?_, rfl⟩
        unfold parseOut
        rw [hP.1, hP.2, hT]
        simp only [hany]
        rfl
end Go.Proofs.YtnhlpifbadncmaaDoor
namespace Go.Proofs.YtnhlpifbadncmaaDoor
open Go.RowKit
set_option linter.unusedVariables false
set_option linter.unusedSimpArgs false
section
variable {G : World} {P : Program} {n : Nat} {ρ : Slots} {L : Blocks} {ty : TypeId} {Q : Exit → Act → World → Prop}
theorem pbin_same {t e : TypeId} {j : TypeInfo} {a : Addr} (hp : P.underlying t = some (.pointer e)) (he : P.info? e = some j) : Bin P .neq t (.pointer (some a)) (.pointer (some a)) (.bool false) := ⟨fun x y w => by
  simp only [eqGuard]
  simpa using Lib.run_neq_ptr_same w a hp he⟩
theorem Has.shape {w : World} {b : Nat} {C : Array Value} {e : TypeId} {fr : Nat × Nat} (h : Has w L) (hm : (b, Obj.cells C e fr) ∈ L) : w.shape? b = some (e, C.size) := by
  unfold World.shape?; rw [h.get _ hm]
theorem op_to_unsafe {s d t : TypeId} {x : Operand} {j : TypeInfo} {b off : Nat} {C : Array Value} {te : TypeId} {fr : Nat × Nat} (hx : ev ρ x = some (.pointer (some ⟨b, off, none⟩))) (hs : P.underlying s = some (.pointer t)) (hd : P.underlying d = some .unsafePointer)
    (ht : P.info? t = some j) (hj : Nat.beq j.size 0 = false) (hm : (b, Obj.cells C te fr) ∈ L) (ho : off < C.size) : OpQ P ρ L (.convert s d x) ty (.pointer (some ⟨b, off, none⟩)) :=
  ⟨fun r hr w hw o ho' _ => by
    simp only [execOp, ho', hr _ _ hx]
    rw [Sem.run_bind, Lib.run_to_unsafe w ⟨b, off, none⟩ hs hd ht (Nat.ne_of_beq_eq_false hj) (hw.shape hm) ho]
    rfl⟩
theorem op_from_unsafe {s d u : TypeId} {x : Operand} {j : TypeInfo} {b off : Nat} {C : Array Value} {te : TypeId} {fr : Nat × Nat} (hx : ev ρ x = some (.pointer (some ⟨b, off, none⟩))) (hs : P.underlying s = some .unsafePointer) (hd : P.underlying d = some (.pointer u))
    (hu : P.info? u = some j) (hm : (b, Obj.cells C te fr) ∈ L) (hl : liesAt P P.depth te (C.size / P.cellsOf te) off u 1 = true) : OpQ P ρ L (.convert s d x) ty (.pointer (some ⟨b, off, none⟩)) :=
  ⟨fun r hr w hw o ho' _ => by
    simp only [execOp, ho', hr _ _ hx]
    rw [Sem.run_bind, Lib.run_from_unsafe w ⟨b, off, none⟩ hs hd hu (hw.shape hm) hl]
    rfl⟩
theorem op_noEscape {f : FuncId} {fn : Func} {x : Operand} {ats : Array TypeId} {v : Value} (hx : ev ρ x = some v) (hf : P.funcs[f]? = some fn) (hname : (fn.name == "runtime.NumGoroutine") = false) (hb : fn.body.isNone = true) (hn : Extern.findNext fn = none) (he : Extern.find fn = some Extern.AbiNoEscape.same) :
    OpQ P ρ L (.call ⟨.value (.func f), #[x], ats⟩) ty v :=
  ⟨fun r hr w hw o ho _ => by
    have hrf : r (.func f) = .func (.func f) #[] #[] := hr _ _ rfl
    have : execOp r o = callFunc f #[v] := by
      simp only [execOp, ho, resolve, hrf, Deferred.ofValue]
      show invoke (.fn (.func f) #[]) _ = _
      simp [invoke, hr _ _ hx]
    rw [this, run_callFunc_extern hf hname hb hn he, Lib.run_noEscape]
    rfl⟩
theorem op_sliceData {x : Operand} {t : TypeId} {g m c : Nat} (hx : ev ρ x = some (.slice (some ⟨g, 0, none⟩) m c)) (hc : c ≠ 0) : OpQ P ρ L (.call ⟨.builtin .unsafeSliceData, #[x], #[t]⟩) ty (.pointer (some ⟨g, 0, none⟩)) :=
  ⟨fun r hr w hw o ho _ => by simp [execOp, ho, hr _ _ hx, resolve, invoke, builtin, Lib.run_unsafeSliceData_row w _ _ _ _ _ hc]⟩
theorem op_unsafeString {x y : Operand} {pt it e : TypeId} {g cap : Nat} {cur : Array Value} {l : List UInt8} (hx : ev ρ x = some (.pointer (some ⟨g, 0, none⟩))) (hy : ev ρ y = some (.int .i64 (l.length : Nat))) (hp : P.underlying pt = some (.pointer e)) (hc : P.cellsOf e = 1)
    (h0 : l ≠ []) (hn : l.length ≤ cap) (hcap : cap ≤ maxLen) (hsz : cur.size = cap) (hcells : ∀ (j : Nat) (c : UInt8), l[j]? = some c → cur[j]? = some (Value.int .u8 (c.toNat : Int))) :
    OpV P G ρ ((g, .cells cur e (0, 0)) :: L) (.call ⟨.builtin .unsafeString, #[x, y], #[pt, it]⟩) ty (.string (bs l)) L :=
  .run fun r hr w hw o ho _ => by
    have hm := List.mem_cons_self (a := (g, Obj.cells cur e (0, 0))) (l := L)
    have hrun := Lib.run_unsafeString_row (P := P) w pt it o.type e hp hc g cur.size (hw.has.shape hm) l h0 (by omega) (by unfold maxLen at hcap; omega) (fun j c hj => by rw [addr_add, Nat.zero_add]; exact hw.cell hm (hcells j c hj))
    refine ⟨w.freeze ⟨g, 0, none⟩ l.length, ?_, ?_⟩
    · simp [execOp, ho, hr _ _ hx, hr _ _ hy, resolve, invoke, builtin, hrun]
      rfl
    · refine ⟨hw.still.trans ?_, hw.tail.nodup, fun p hp => ?_⟩
      · unfold World.freeze
        split
        · exact Still.refl _
        · exact ⟨rfl, rfl, rfl, by simp⟩
      · have hne : p.1 ≠ g := hw.ne hp
        unfold World.freeze
        split
        · exact hw.tail.get p hp
        · show (w.heap.modify g _)[p.1]? = _
          rw [Array.getElem?_modify, if_neg (Ne.symm hne)]
          exact hw.tail.get p hp
end

theorem lies_builder : liesAt Tryd.prog Tryd.prog.depth 50 (2 / Tryd.prog.cellsOf 50) 0 50 1 = true := by kernel_rfl
theorem cells_byte : Tryd.prog.cellsOf 5 = 1 := by kernel_rfl
theorem info_builder : (Tryd.prog.info? 50).map (fun i => Nat.beq i.size 0) = some false := by kernel_rfl

/-- A builder in memory that holds these bytes. -/
structure BuildRep (b : Nat) (l : Nm.Bytes) (B : Blocks) : Prop where
  is : ∃ p v B1, (p = .pointer none ∨ p = .pointer (some ⟨b, 0, none⟩)) ∧ Row 5 1 v l.length (l.map fun c => Value.int .u8 (c.toNat : Int)) B1 ∧ B = (b, .cells #[p, v] 50 (0, 0)) :: B1

set_option maxRecDepth 100000 in
set_option maxHeartbeats 1000000 in
theorem copyCheck_spec {G : World} {L : Blocks} (b : Nat) (p v : Value) (hp : p = .pointer none ∨ p = .pointer (some ⟨b, 0, none⟩)) :
    Spec Tryd.prog G 53 #[.pointer (some ⟨b, 0, none⟩)] ((b, .cells #[p, v] 50 (0, 0)) :: L) fun u M => M = (b, .cells #[.pointer (some ⟨b, 0, none⟩), v] 50 (0, 0)) :: L := by
  obtain ⟨j, hj, hj0⟩ : ∃ j, Tryd.prog.info? 50 = some j ∧ Nat.beq j.size 0 = false := by
    have := info_builder
    cases h : Tryd.prog.info? 50 with
    | none => rw [h] at this; cases this
    | some j => rw [h] at this; exact ⟨j, rfl, Option.some.inj this⟩
  rcases hp with rfl | rfl
  · refine Spec_of (n := 20) Tryd.func53 rfl rfl rfl ?_
    repeat ((first | with_reducible refine T_seq ?_ | with_reducible refine T_region ?_ | with_reducible refine TL_nil ?_ | with_reducible refine TQ_then ?_ | refine TL_q (op_move rfl) rfl ?_ | (refine' TL_q (op_bin rfl rfl ?_) rfl ?_; rotate_left 1; (· (exact pbin_eql Tryd.underlying47))) | refine TL_q (op_nilCheck rfl) rfl ?_ | refine TL_q (op_fld rfl fld_50_0) rfl ?_ | (refine' TL_q (op_ld rfl pl_47 ?_ ?_) rfl ?_; rotate_left 4; (· repeat ((exact List.mem_cons_self))); (· (rfl))) | (refine T_yes rfl ?_ ?_; (· (exact Bool.not_false)))))
    refine TL_q (op_to_unsafe rfl Tryd.underlying47 Tryd.underlying99 hj hj0 (List.mem_cons_self ..) (by simp)) rfl ?_
    refine TL_q (op_noEscape rfl Tryd.func68 rfl rfl rfl rfl) rfl ?_
    refine TL_q (op_from_unsafe rfl Tryd.underlying99 Tryd.underlying47 hj (List.mem_cons_self ..) lies_builder) rfl ?_
    repeat ((first | with_reducible refine TL_nil ?_ | with_reducible refine TQ_fall ?_ | refine TL_q (op_nilCheck rfl) rfl ?_ | refine TL_q (op_fld rfl fld_50_0) rfl ?_ | (refine' TL_st rfl rfl one_47 rfl ?_ rfl ?_; rotate_left 1; (· (rfl)))))
    refine TQ_ret0 rfl ?_
    rfl
  · refine Spec_of (n := 20) Tryd.func53 rfl rfl rfl ?_
    repeat ((first | with_reducible refine T_seq ?_ | with_reducible refine T_region ?_ | with_reducible refine TL_nil ?_ | with_reducible refine TQ_then ?_ | refine TL_q (op_move rfl) rfl ?_ | (refine' TL_q (op_bin rfl rfl ?_) rfl ?_; rotate_left 1; (· (exact pbin_eql Tryd.underlying47))) | refine TL_q (op_nilCheck rfl) rfl ?_ | refine TL_q (op_fld rfl fld_50_0) rfl ?_ | (refine' TL_q (op_ld rfl pl_47 ?_ ?_) rfl ?_; rotate_left 4; (· repeat ((exact List.mem_cons_self))); (· (rfl))) | (refine T_no rfl ?_ ?_; (· (exact Bool.not_true)))))
    refine TL_q (op_bin rfl rfl (pbin_same Tryd.underlying47 hj)) rfl ?_
    repeat ((first | with_reducible refine TL_nil ?_ | with_reducible refine TQ_then ?_ | with_reducible refine T_skip ?_ | with_reducible refine TQ_fall ?_ | (refine T_no rfl ?_ ?_; (· (with_reducible rfl)))))
    refine TQ_ret0 rfl ?_
    rfl

set_option maxRecDepth 100000 in
set_option maxHeartbeats 1000000 in
theorem WriteByte_spec {G : World} {L : Blocks} (b : Nat) (l : Nm.Bytes) (B : Blocks) (c : UInt8) (h : BuildRep b l B) (hl : l.length ≤ 10000000) :
    Spec Tryd.prog G 30 #[.pointer (some ⟨b, 0, none⟩), .int .u8 (c.toNat : Int)] (B ++ L) fun u M => u = .nilIface ∧ ∃ B', BuildRep b (l ++ [c]) B' ∧ M = B' ++ L := by
  obtain ⟨p, v, B1, hp, hR, rfl⟩ := h.is
  obtain ⟨a1, c1, rfl⟩ := hR.slice
  refine Spec_of (n := 17) Tryd.func30 rfl rfl rfl ?_
  repeat ((first | with_reducible refine T_seq ?_ | with_reducible refine T_region ?_ | with_reducible refine TL_nil ?_ | with_reducible refine TQ_then ?_ | refine TL_q (op_move rfl) rfl ?_ | refine TL_q (op_assign rfl) rfl ?_))
  refine TL_opT (op_call hb_53 rfl (copyCheck_spec b p _ hp)) rfl ?_
  rintro u8 _ rfl
  repeat ((first | with_reducible refine T_seq ?_ | with_reducible refine T_region ?_ | with_reducible refine TL_nil ?_ | with_reducible refine TQ_then ?_ | refine TL_q (op_move rfl) rfl ?_ | refine TL_q (op_nilCheck rfl) rfl ?_ | refine TL_q (op_fld rfl fld_50_1) rfl ?_ | (refine' TL_q (op_ld rfl pl_48 ?_ ?_) rfl ?_; rotate_left 4; (· repeat ((exact List.mem_cons_self))); (· (rfl))) | (refine TL_new (op_lit1 ety_48 rfl rfl) rfl ?_; intro bLit)))
  refine TL_perm (List.perm_middle.symm.cons _) ?_
  refine TL_app1 ety_48 rfl rfl hR rfl (by unfold maxLen; omega) (by omega) rfl ?_
  intro v8 B8 hR8
  obtain ⟨a8, c8, rfl⟩ := hR8.slice
  refine TL_perm List.perm_middle ?_
  repeat ((first | with_reducible refine T_seq ?_ | with_reducible refine T_region ?_ | with_reducible refine TL_nil ?_ | with_reducible refine TQ_then ?_ | with_reducible refine T_ret ?_ | refine TL_q (op_assign rfl) rfl ?_ | refine TL_q (op_nilCheck rfl) rfl ?_ | refine TL_q (op_fld rfl fld_50_1) rfl ?_ | (refine' TL_st rfl rfl one_48 rfl ?_ rfl ?_; rotate_left 1; (· (rfl)))))
  refine TQ_ret1 4 _ rfl rfl ?_
  exact ⟨rfl, _, ⟨_, _, B8, Or.inr rfl, by simpa using hR8, rfl⟩, rfl⟩

set_option maxRecDepth 100000 in
set_option maxHeartbeats 1000000 in
theorem String_spec {G : World} {L : Blocks} (b : Nat) (l : Nm.Bytes) (B : Blocks) (h : BuildRep b l B) (h0 : l ≠ []) :
    Spec Tryd.prog G 34 #[.pointer (some ⟨b, 0, none⟩)] (B ++ L) fun u M => u = .string (bs l) ∧ M = L := by
  obtain ⟨p, v, B1, hp, hR, rfl⟩ := h.is
  have hl0 : l.length ≠ 0 := by simpa using h0
  rcases hR.is with ⟨_, h2, _⟩ | ⟨g, cap, cur, rfl, rfl, h3, h4, h5, h6⟩
  · exact absurd h2 hl0
  refine Spec_of (n := 14) Tryd.func34 rfl rfl rfl ?_
  repeat ((first | with_reducible refine T_seq ?_ | with_reducible refine T_region ?_ | with_reducible refine TL_nil ?_ | with_reducible refine TQ_then ?_ | refine TL_q (op_assign rfl) rfl ?_))
  refine T_draw follows_mixed ([(b, .cells #[p, .slice (some ⟨g, 0, none⟩) l.length cap] 50 (0, 0))]) [] ?_
  (refine' TA_take 0 rfl rfl (by kernel_rfl) (quiet_q (op_move rfl)) ?_ ?_; (· (intro p hp; grind)))
  (refine' TA_take 1 rfl rfl (by kernel_rfl) (quiet_q (op_nilCheck rfl)) ?_ ?_; (· (intro p hp; grind)))
  (refine' TA_take 2 rfl rfl (by kernel_rfl) (quiet_q (op_fld rfl fld_50_1)) ?_ ?_; (· (intro p hp; grind)))
  (refine' TA_take 3 rfl rfl (by kernel_rfl) (quiet_q (op_ld rfl pl_48 ?_ ?_)) ?_ ?_; rotate_left 4; (· repeat ((exact List.mem_cons_self))); (· (rfl)); (· (intro p hp; grind)))
  (refine' TA_take 4 rfl rfl (by kernel_rfl) (quiet_q (op_sliceData rfl (by omega))) ?_ ?_; (· (intro p hp; grind)))
  (refine' TA_take 5 rfl rfl (by kernel_rfl) (quiet_q (op_move rfl)) ?_ ?_; (· (intro p hp; grind)))
  (refine' TA_take 6 rfl rfl (by kernel_rfl) (quiet_q (op_nilCheck rfl)) ?_ ?_; (· (intro p hp; grind)))
  (refine' TA_take 7 rfl rfl (by kernel_rfl) (quiet_q (op_fld rfl fld_50_1)) ?_ ?_; (· (intro p hp; grind)))
  (refine' TA_take 8 rfl rfl (by kernel_rfl) (quiet_q (op_ld rfl pl_48 ?_ ?_)) ?_ ?_; rotate_left 4; (· repeat ((exact List.mem_cons_self))); (· (rfl)); (· (intro p hp; grind)))
  (refine' TA_take 9 rfl rfl (by kernel_rfl) (quiet_q (op_len_slice rfl Tryd.underlying48)) ?_ ?_; (· (intro p hp; grind)))
  refine TA_perm (List.Perm.swap _ _ _) (TA_oneD 10 (by kernel_rfl) rfl rfl rfl rfl (op_unsafeString rfl rfl Tryd.underlying90 cells_byte h0 h3 h4 (by rw [h5]; omega) ?_) ?_); (· intro j c hj; have hjl := (List.getElem?_eq_some_iff.1 hj).1; have : (cur.toList.take (l.length * 1))[j]? = some (Value.int .u8 (c.toNat : Int)) := (by rw [h6, List.getElem?_map, hj]; rfl); rw [List.getElem?_take_of_lt (by omega)] at this; simpa using this); rintro _ _ ⟨rfl, rfl⟩; refine ⟨Or.inr (by (intro p hp; grind)), ?_⟩
  (refine' TA_take 11 rfl rfl (by kernel_rfl) (quiet_q (op_assign rfl)) ?_ ?_; (· (intro p hp; grind)))
  refine TA_done (by kernel_rfl) ?_
  repeat ((first | with_reducible refine TQ_then ?_ | with_reducible refine T_ret ?_))
  refine TQ_heap (fun w h => h.tail) ?_
  refine TQ_ret1 2 _ rfl rfl ?_
  exact ⟨rfl, rfl⟩

/-! ### name.write -/
def wr (c : UInt8) : Nm.Bytes :=
  if c.toNat = 46 ∨ c.toNat = 92 then [92, c]
  else if c.toNat < 33 ∨ 126 < c.toNat then [92, UInt8.ofNat (48 + c.toNat / 100), UInt8.ofNat (48 + c.toNat / 10 % 10), UInt8.ofNat (48 + c.toNat % 10)]
  else [c]

set_option maxRecDepth 100000 in
set_option maxHeartbeats 1000000 in
theorem write_spec {G : World} {L : Blocks} (b : Nat) (l : Nm.Bytes) (B : Blocks) (c : UInt8) (h : BuildRep b l B) (hl : l.length ≤ 1000000) :
    Spec Tryd.prog G 56 #[.pointer (some ⟨b, 0, none⟩), .int .u8 (c.toNat : Int)] (B ++ L) fun u M => ∃ B', BuildRep b (l ++ wr c) B' ∧ M = B' ++ L := by
  have hc := c.toNat_lt
  by_cases h46 : c.toNat = 46 ∨ c.toNat = 92
  · have hw : wr c = [92, c] := by unfold wr; rw [if_pos h46]
    by_cases h1 : c.toNat = 46
    · have e1 : (((c.toNat : Nat) : Int) == 46) = true := by simp [h1]
      refine Spec_of (n := 44) Tryd.func56 rfl rfl rfl ?_
      repeat ((first | with_reducible refine T_seq ?_ | with_reducible refine T_block ?_ | with_reducible refine T_region ?_ | with_reducible refine TL_nil ?_ | with_reducible refine TQ_then ?_ | refine TL_q (op_move rfl) rfl ?_ | refine TL_q (op_assign rfl) rfl ?_ | (refine' TL_q (op_bin rfl rfl ?_) rfl ?_; rotate_left 1; (· (exact bin_eql))) | (refine' TL_q (op_pickT rfl ?_ rfl) rfl ?_; (· (assumption))) | (refine TL_gno rfl rfl ?_ rfl ?_; (· (assumption))) | (refine T_yes rfl ?_ ?_; (· (with_reducible rfl)))))
      refine TL_opT (op_call hb_30 rfl (WriteByte_spec b l B 92 h (by omega))) rfl ?_
      rintro _ _ ⟨rfl, B', hB', rfl⟩
      repeat ((first | with_reducible refine T_region ?_ | with_reducible refine TL_nil ?_ | with_reducible refine TQ_then ?_ | refine TL_q (op_move rfl) rfl ?_))
      refine TL_opT (op_call hb_30 rfl (WriteByte_spec b _ B' c hB' (by simp; omega))) rfl ?_
      rintro _ _ ⟨rfl, B2, hB2, rfl⟩
      repeat ((first | with_reducible refine TL_nil ?_ | with_reducible refine TQ_block ?_ | with_reducible refine TQ_fall ?_))
      refine TQ_ret0 rfl ⟨B2, by rw [hw]; simpa using hB2, rfl⟩
    · have e1 : (((c.toNat : Nat) : Int) == 46) = false := by simp; omega
      have e2 : (((c.toNat : Nat) : Int) == 92) = true := by simp; omega
      refine Spec_of (n := 44) Tryd.func56 rfl rfl rfl ?_
      repeat ((first | with_reducible refine T_seq ?_ | with_reducible refine T_block ?_ | with_reducible refine T_region ?_ | with_reducible refine TL_nil ?_ | with_reducible refine TQ_then ?_ | refine TL_q (op_move rfl) rfl ?_ | refine TL_q (op_assign rfl) rfl ?_ | (refine' TL_q (op_bin rfl rfl ?_) rfl ?_; rotate_left 1; (· (exact bin_eql))) | (refine' TL_q (op_pickF rfl ?_ rfl) rfl ?_; (· (assumption))) | (refine TL_gpre rfl rfl ?_ ?_; (· (assumption))) | refine TL_gq2 (op_move rfl) rfl ?_ | (refine' TL_gq2 (op_bin rfl rfl ?_) rfl ?_; rotate_left 1; (· (exact bin_eql))) | (refine T_yes rfl ?_ ?_; (· (assumption)))))
      refine TL_opT (op_call hb_30 rfl (WriteByte_spec b l B 92 h (by omega))) rfl ?_
      rintro _ _ ⟨rfl, B', hB', rfl⟩
      repeat ((first | with_reducible refine T_region ?_ | with_reducible refine TL_nil ?_ | with_reducible refine TQ_then ?_ | refine TL_q (op_move rfl) rfl ?_))
      refine TL_opT (op_call hb_30 rfl (WriteByte_spec b _ B' c hB' (by simp; omega))) rfl ?_
      rintro _ _ ⟨rfl, B2, hB2, rfl⟩
      repeat ((first | with_reducible refine TL_nil ?_ | with_reducible refine TQ_block ?_ | with_reducible refine TQ_fall ?_))
      refine TQ_ret0 rfl ⟨B2, by rw [hw]; simpa using hB2, rfl⟩
  · have e1 : (((c.toNat : Nat) : Int) == 46) = false := by simp; omega
    have e2 : (((c.toNat : Nat) : Int) == 92) = false := by simp; omega
    by_cases h33 : c.toNat < 33 ∨ 126 < c.toNat
    · have hw : wr c = [92, UInt8.ofNat (48 + c.toNat / 100), UInt8.ofNat (48 + c.toNat / 10 % 10), UInt8.ofNat (48 + c.toNat % 10)] := by unfold wr; rw [if_neg h46, if_pos h33]
      have b1 : Value.int .u8 ((48 : Int) + (c.toNat : Int) / 100) = .int .u8 ((UInt8.ofNat (48 + c.toNat / 100)).toNat : Int) := congrArg _ (by simp; omega)
      have b2 : Value.int .u8 ((48 : Int) + (c.toNat : Int) / 10 % 10) = .int .u8 ((UInt8.ofNat (48 + c.toNat / 10 % 10)).toNat : Int) := congrArg _ (by simp; omega)
      have b3 : Value.int .u8 ((48 : Int) + (c.toNat : Int) % 10) = .int .u8 ((UInt8.ofNat (48 + c.toNat % 10)).toNat : Int) := congrArg _ (by simp; omega)
      have fin : ∀ (K : Prop), (decide (((c.toNat : Nat) : Int) < 33) = true → K) → (decide (((c.toNat : Nat) : Int) < 33) = false → decide ((126 : Int) < ((c.toNat : Nat) : Int)) = true → K) → K := fun K k1 k2 => by
        by_cases hh : c.toNat < 33
        · exact k1 (decide_eq_true (by omega))
        · exact k2 (decide_eq_false (by omega)) (decide_eq_true (by omega))
      refine fin _ (fun e3 => ?_) (fun e3 e4 => ?_)
      · refine Spec_of (n := 44) Tryd.func56 rfl rfl rfl ?_
        repeat ((first | with_reducible refine T_seq ?_ | with_reducible refine T_block ?_ | with_reducible refine T_region ?_ | with_reducible refine TL_nil ?_ | with_reducible refine TQ_then ?_ | refine TL_q (op_move rfl) rfl ?_ | refine TL_q (op_assign rfl) rfl ?_ | (refine' TL_q (op_bin rfl rfl ?_) rfl ?_; rotate_left 1; (· (first | exact bin_eql | exact bin_lss))) | (refine' TL_q (op_pickT rfl ?_ rfl) rfl ?_; (· (assumption))) | (refine' TL_q (op_pickF rfl ?_ rfl) rfl ?_; (· (assumption))) | (refine TL_gpre rfl rfl ?_ ?_; (· (assumption))) | refine TL_gq2 (op_move rfl) rfl ?_ | (refine' TL_gq2 (op_bin rfl rfl ?_) rfl ?_; rotate_left 1; (· (exact bin_eql))) | (refine TL_gno rfl rfl ?_ rfl ?_; (· (assumption))) | (refine T_yes rfl ?_ ?_; (· (with_reducible rfl))) | (refine T_no rfl ?_ ?_; (· (assumption)))))
        refine TL_opT (op_call hb_30 rfl (WriteByte_spec b l B 92 h (by omega))) rfl ?_
        rintro _ _ ⟨rfl, B', hB', rfl⟩
        repeat ((first | with_reducible refine T_seq ?_ | with_reducible refine T_region ?_ | with_reducible refine TL_nil ?_ | with_reducible refine TQ_then ?_ | refine TL_q (op_move rfl) rfl ?_ | (refine' TL_q (op_bin rfl rfl ?_) rfl ?_; rotate_left 1; (· (first | exact bin_add ⟨by omega, by omega⟩ | exact bin_quo (by omega) (by omega) ⟨by omega, by omega⟩)))))
        rw [b1]
        refine TL_opT (op_call hb_30 rfl (WriteByte_spec b _ B' _ hB' (by simp; omega))) rfl ?_
        rintro _ _ ⟨rfl, B2, hB2, rfl⟩
        repeat ((first | with_reducible refine T_seq ?_ | with_reducible refine T_region ?_ | with_reducible refine TL_nil ?_ | with_reducible refine TQ_then ?_ | refine TL_q (op_move rfl) rfl ?_ | (refine' TL_q (op_bin rfl rfl ?_) rfl ?_; rotate_left 1; (· (first | exact bin_add ⟨by omega, by omega⟩ | exact bin_quo (by omega) (by omega) ⟨by omega, by omega⟩ | exact bin_rem (by omega) (by omega))))))
        rw [b2]
        refine TL_opT (op_call hb_30 rfl (WriteByte_spec b _ B2 _ hB2 (by simp; omega))) rfl ?_
        rintro _ _ ⟨rfl, B3, hB3, rfl⟩
        repeat ((first | with_reducible refine T_region ?_ | with_reducible refine TL_nil ?_ | with_reducible refine TQ_then ?_ | refine TL_q (op_move rfl) rfl ?_ | (refine' TL_q (op_bin rfl rfl ?_) rfl ?_; rotate_left 1; (· (first | exact bin_add ⟨by omega, by omega⟩ | exact bin_rem (by omega) (by omega))))))
        rw [b3]
        refine TL_opT (op_call hb_30 rfl (WriteByte_spec b _ B3 _ hB3 (by simp; omega))) rfl ?_
        rintro _ _ ⟨rfl, B4, hB4, rfl⟩
        repeat ((first | with_reducible refine TL_nil ?_ | with_reducible refine TQ_block ?_ | with_reducible refine TQ_fall ?_))
        refine TQ_ret0 rfl ⟨B4, by rw [hw]; simpa using hB4, rfl⟩
      · refine Spec_of (n := 44) Tryd.func56 rfl rfl rfl ?_
        repeat ((first | with_reducible refine T_seq ?_ | with_reducible refine T_block ?_ | with_reducible refine T_region ?_ | with_reducible refine TL_nil ?_ | with_reducible refine TQ_then ?_ | refine TL_q (op_move rfl) rfl ?_ | refine TL_q (op_assign rfl) rfl ?_ | (refine' TL_q (op_bin rfl rfl ?_) rfl ?_; rotate_left 1; (· (first | exact bin_eql | exact bin_lss))) | (refine' TL_q (op_pickF rfl ?_ rfl) rfl ?_; (· (assumption))) | (refine TL_gpre rfl rfl ?_ ?_; (· (assumption))) | refine TL_gq2 (op_move rfl) rfl ?_ | (refine' TL_gq2 (op_bin rfl rfl ?_) rfl ?_; rotate_left 1; (· (first | exact bin_eql | exact bin_gtr))) | (refine T_yes rfl ?_ ?_; (· (assumption))) | (refine T_no rfl ?_ ?_; (· (assumption)))))
        refine TL_opT (op_call hb_30 rfl (WriteByte_spec b l B 92 h (by omega))) rfl ?_
        rintro _ _ ⟨rfl, B', hB', rfl⟩
        repeat ((first | with_reducible refine T_seq ?_ | with_reducible refine T_region ?_ | with_reducible refine TL_nil ?_ | with_reducible refine TQ_then ?_ | refine TL_q (op_move rfl) rfl ?_ | (refine' TL_q (op_bin rfl rfl ?_) rfl ?_; rotate_left 1; (· (first | exact bin_add ⟨by omega, by omega⟩ | exact bin_quo (by omega) (by omega) ⟨by omega, by omega⟩)))))
        rw [b1]
        refine TL_opT (op_call hb_30 rfl (WriteByte_spec b _ B' _ hB' (by simp; omega))) rfl ?_
        rintro _ _ ⟨rfl, B2, hB2, rfl⟩
        repeat ((first | with_reducible refine T_seq ?_ | with_reducible refine T_region ?_ | with_reducible refine TL_nil ?_ | with_reducible refine TQ_then ?_ | refine TL_q (op_move rfl) rfl ?_ | (refine' TL_q (op_bin rfl rfl ?_) rfl ?_; rotate_left 1; (· (first | exact bin_add ⟨by omega, by omega⟩ | exact bin_quo (by omega) (by omega) ⟨by omega, by omega⟩ | exact bin_rem (by omega) (by omega))))))
        rw [b2]
        refine TL_opT (op_call hb_30 rfl (WriteByte_spec b _ B2 _ hB2 (by simp; omega))) rfl ?_
        rintro _ _ ⟨rfl, B3, hB3, rfl⟩
        repeat ((first | with_reducible refine T_region ?_ | with_reducible refine TL_nil ?_ | with_reducible refine TQ_then ?_ | refine TL_q (op_move rfl) rfl ?_ | (refine' TL_q (op_bin rfl rfl ?_) rfl ?_; rotate_left 1; (· (first | exact bin_add ⟨by omega, by omega⟩ | exact bin_rem (by omega) (by omega))))))
        rw [b3]
        refine TL_opT (op_call hb_30 rfl (WriteByte_spec b _ B3 _ hB3 (by simp; omega))) rfl ?_
        rintro _ _ ⟨rfl, B4, hB4, rfl⟩
        repeat ((first | with_reducible refine TL_nil ?_ | with_reducible refine TQ_block ?_ | with_reducible refine TQ_fall ?_))
        refine TQ_ret0 rfl ⟨B4, by rw [hw]; simpa using hB4, rfl⟩
    · have hw : wr c = [c] := by unfold wr; rw [if_neg h46, if_neg h33]
      have e3 : decide (((c.toNat : Nat) : Int) < 33) = false := decide_eq_false (by omega)
      have e4 : decide ((126 : Int) < ((c.toNat : Nat) : Int)) = false := decide_eq_false (by omega)
      refine Spec_of (n := 44) Tryd.func56 rfl rfl rfl ?_
      repeat ((first | with_reducible refine T_seq ?_ | with_reducible refine T_block ?_ | with_reducible refine T_region ?_ | with_reducible refine TL_nil ?_ | with_reducible refine TQ_then ?_ | refine TL_q (op_move rfl) rfl ?_ | refine TL_q (op_assign rfl) rfl ?_ | (refine' TL_q (op_bin rfl rfl ?_) rfl ?_; rotate_left 1; (· (first | exact bin_eql | exact bin_lss))) | (refine' TL_q (op_pickF rfl ?_ rfl) rfl ?_; (· (assumption))) | (refine TL_gpre rfl rfl ?_ ?_; (· (assumption))) | refine TL_gq2 (op_move rfl) rfl ?_ | (refine' TL_gq2 (op_bin rfl rfl ?_) rfl ?_; rotate_left 1; (· (first | exact bin_eql | exact bin_gtr))) | (refine T_no rfl ?_ ?_; (· (assumption)))))
      refine TL_opT (op_call hb_30 rfl (WriteByte_spec b l B c h (by omega))) rfl ?_
      rintro _ _ ⟨rfl, B', hB', rfl⟩
      repeat ((first | with_reducible refine TL_nil ?_ | with_reducible refine TQ_block ?_ | with_reducible refine TQ_fall ?_))
      refine TQ_ret0 rfl ⟨B', by rw [hw]; exact hB', rfl⟩
end Go.Proofs.YtnhlpifbadncmaaDoor
namespace Go.Proofs.YtnhlpifbadncmaaDoor
open Go.RowKit

/-- A string's value. -/
def strV (l : List UInt8) : Value := .string ⟨l.toArray⟩

theorem ret_bool {a b : Bool} (h : a = b) : Ending.returned (.bool a) = .returned (.bool b) := by rw [h]
theorem ret_str {a b : ByteArray} (h : a = b) : Ending.returned (.string a) = .returned (.string b) := by rw [h]
theorem drop_at (s : ByteArray) (k : Nat) (h : k < s.size) : s.data.toList.drop k = s[k] :: s.data.toList.drop (k + 1) := by
  rw [List.drop_eq_getElem_cons (by simpa using h)]; rfl
theorem may_short {l : Nm.Bytes} (h : ¬ 255 < l.length) : Nm.may l = (Nm.lbl l).isSome := by
  unfold Nm.may Nm.nm; rw [if_pos (by omega)]
theorem may_long {l : Nm.Bytes} (h : 255 < l.length) : Nm.may l = false := by
  unfold Nm.may Nm.nm; rw [if_neg (by omega)]; rfl

theorem add_mk (b o j : Nat) : (⟨b, o, none⟩ : Addr).add j = ⟨b, o + j, none⟩ := by
  unfold Addr.add; split
  · rename_i h; subst h; rfl
  · rfl
theorem setCell_new (w : World) (C : Array Value) (t : TypeId) (fr : Nat × Nat) (k : Nat) (v : Value) :
    (w.alloc (.cells C t fr)).setCell ⟨w.heap.size, k, none⟩ v = w.alloc (.cells (C.setIfInBounds k v) t fr) := by
  show ({ w with heap := (w.heap.push (.cells C t fr)).modify w.heap.size _ } : World) = { w with heap := w.heap.push _ }
  congr 1
  apply Array.ext_getElem?
  intro i
  rw [Array.getElem?_modify]
  by_cases h : w.heap.size = i
  · subst h; simp
  · simp [h, Array.getElem?_push, Ne.symm h]
/-- A row of bytes, as 'string(b)' reads it. -/
theorem run_back {P : Program} (W : World) (src dst e : TypeId) (b n cap : Nat) (l : List UInt8) (hn : n = l.length) (hs : P.underlying src = some (.slice e)) (he : P.underlying e = some (.int .u8)) (hd : P.underlying dst = some .string)
    (hc : ∀ j (hj : j < l.length), W.cell? ⟨b, j, none⟩ = some (.int .u8 (l[j].toNat : Int))) :
    (convert src dst (.slice (some ⟨b, 0, none⟩) n cap)).run P W = .ok (.string ⟨l.toArray⟩) W := by
  subst hn
  exact run_convert_bytes_back W src dst e ⟨b, 0, none⟩ cap l hs he hd (fun j hj => by rw [add_mk, Nat.zero_add]; exact hc j hj)

theorem bytesRow_ge (s : ByteArray) (cap : Nat) : s.size ≤ (bytesRow s cap).size := by
  unfold bytesRow; simp


end Go.Proofs.YtnhlpifbadncmaaDoor
namespace Go.Proofs.YtnhlpifbadncmaaDoor
open Go.RowKit

set_option maxHeartbeats 400000 in
theorem may_any (s : ByteArray) (w : World) (hs : s.size ≤ maxLen) :
    Calls Tryd.prog 51 #[.string s] w fun e w' => e = .returned (.bool (Nm.may s.data.toList)) ∧ w = w' := by
  unfold maxLen at hs
  by_cases h0 : s.size = 0
  · have : s = ByteArray.empty := by simpa using h0
    subst this
    go_enter Tryd.func51, Tryd.ntmps51
    go_wp2
    go_ret
    exact ⟨rfl, rfl⟩
  · have h0' : ((s.size : Int) == 0) = false := beq_eq_false_iff_ne.2 (by omega)
    by_cases hlong : 255 < s.size
    · have hm : Hid (Nm.may s.data.toList = false) := may_long (by simpa using hlong)
      go_enter Tryd.func51, Tryd.ntmps51
      go_wp2
      go_ret
      exact ⟨ret_bool hm.out.symm, rfl⟩
    · have hl' : decide (255 < s.size) = false := by simpa using hlong
      have hm : Hid (Nm.may s.data.toList = (Nm.lbl s.data.toList).isSome) := may_short (by simpa using hlong)
      go_enter Tryd.func51, Tryd.ntmps51
      go_wp2
      go_loop [3, 4] (fun i _ => ∃ k : Nat, k ≤ 319 ∧ i = .int .i64 k ∧ (Nm.lbl (s.data.toList.drop k)).isSome = Nm.may s.data.toList) (fun i _ => s.size - (intOf i).toNat)
      case atStart => exact ⟨0, by omega, rfl, by rw [hm.out]; rfl⟩
      case round =>
        obtain ⟨k, hk, rfl, hr⟩ := hrel
        have HR := Lib.hid hr
        clear hr
        by_cases hlt : k < s.size
        · have hd := Lib.hid (drop_at s k hlt)
          obtain ⟨c, hc⟩ : ∃ c, s[k] = c := ⟨_, rfl⟩
          have hd2 : Hid (s.data.toList.drop k = c :: s.data.toList.drop (k + 1)) := by have := hd.out; rwa [hc] at this
          clear hd
          have hlen : (s.data.toList.drop (k + 1)).length = s.size - (k + 1) := by simp
          have HL := Lib.hid hlen
          clear hlen
          have hb := c.toNat_lt
          by_cases hz : c = 0
          · subst hz
            go_wp2
            go_ret
            refine ⟨ret_bool ?_, rfl⟩
            rw [← HR.out, hd2.out, Nm.lbl_cons, if_pos rfl]
            by_cases hq : k + 1 = s.size
            · rw [if_pos (List.eq_nil_of_length_eq_zero (by rw [HL.out]; omega))]
              exact beq_iff_eq.2 (by omega)
            · rw [if_neg (fun hn => by rw [hn] at HL; have := HL.out; simp at this; omega)]
              exact beq_eq_false_iff_ne.2 (by omega)
          · have hz1 : 1 ≤ c.toNat := by
              rcases Nat.eq_zero_or_pos c.toNat with h | h
              · exact absurd (UInt8.toNat_inj.1 (by simpa using h)) hz
              · exact h
            have hz2 : ((c.toNat : Int) == 0) = false := beq_eq_false_iff_ne.2 (by omega)
            have HZ := Lib.hid hz
            clear hz
            by_cases h63 : 63 < c.toNat
            · go_wp2
              go_ret
              refine ⟨ret_bool ?_, rfl⟩
              rw [← HR.out, hd2.out, Nm.lbl_cons, if_neg HZ.out, if_pos h63]
              rfl
            · go_wp2
              go_round
              case rel =>
                refine ⟨k + (1 + c.toNat), by omega, by go_num, ?_⟩
                rw [← HR.out, hd2.out, Nm.lbl_cons, if_neg HZ.out, if_neg h63]
                by_cases hq : s.size - (k + 1) < c.toNat
                · rw [if_pos (by rw [HL.out]; exact hq), List.drop_of_length_le (by simp; omega)]
                  rfl
                · rw [if_neg (by rw [HL.out]; exact hq), List.drop_drop, Option.isSome_map]
                  congr 3
                  omega
              case measure => simp [intOf]; omega
        · go_wp2
          go_ret
          refine ⟨ret_bool ?_, rfl⟩
          rw [← HR.out, List.drop_of_length_le (by simp; omega)]
          rfl
end Go.Proofs.YtnhlpifbadncmaaDoor
namespace Go.Proofs.YtnhlpifbadncmaaDoor
open Go.RowKit

theorem lowB_yes (c : UInt8) (h1 : 65 ≤ c.toNat) (h2 : c.toNat ≤ 90) : ((Nm.lowB c).toNat : Int) = (c.toNat : Int) + 32 := by
  unfold Nm.lowB
  rw [if_pos ⟨UInt8.le_iff_toNat_le.2 (by simpa using h1), UInt8.le_iff_toNat_le.2 (by simpa using h2)⟩]
  rw [UInt8.toNat_add]
  have : (32 : UInt8).toNat = 32 := rfl
  rw [this]
  omega
theorem lowB_no (c : UInt8) (h : ¬ (65 ≤ c.toNat ∧ c.toNat ≤ 90)) : Nm.lowB c = c := by
  unfold Nm.lowB
  rw [if_neg]
  rintro ⟨h1, h2⟩
  exact h ⟨by simpa using UInt8.le_iff_toNat_le.1 h1, by simpa using UInt8.le_iff_toNat_le.1 h2⟩
/-- The bytes of a row, the first k of them folded. -/
def LowTo (l : List UInt8) (k : Nat) (C : Array Value) : Prop :=
  ∀ j (hj : j < l.length), C[j]? = some (.int .u8 ((if j < k then Nm.lowB l[j] else l[j]).toNat : Int))

theorem LowTo.start (s : ByteArray) (cap : Nat) : LowTo s.data.toList 0 (bytesRow s cap) := by
  intro j hj
  rw [bytesRow_at s cap j (by simpa using hj)]
  simp
theorem LowTo.same {l : List UInt8} {k : Nat} {C : Array Value} (h : LowTo l k C) (hk : k < l.length) (he : Nm.lowB l[k] = l[k]) : LowTo l (k + 1) C := by
  intro j hj
  rw [h j hj]
  by_cases h1 : j < k
  · rw [if_pos h1, if_pos (by omega)]
  · by_cases h2 : j = k
    · subst h2; rw [if_neg h1, if_pos (by omega), he]
    · rw [if_neg h1, if_neg (by omega)]
theorem LowTo.put {l : List UInt8} {k : Nat} {C : Array Value} (h : LowTo l k C) (hk : k < l.length) (hC : l.length ≤ C.size) : LowTo l (k + 1) (C.setIfInBounds k (.int .u8 ((Nm.lowB l[k]).toNat : Int))) := by
  intro j hj
  by_cases h2 : k = j
  · subst h2; rw [Array.getElem?_setIfInBounds_self_of_lt (by omega), if_pos (by omega)]
  · rw [Array.getElem?_setIfInBounds_ne h2, h j hj]
    by_cases h1 : j < k
    · rw [if_pos h1, if_pos (by omega)]
    · rw [if_neg h1, if_neg (by omega)]
theorem LowTo.fin {l : List UInt8} {C : Array Value} (h : LowTo l l.length C) (j : Nat) (hj : j < (Nm.low l).length) : C[j]? = some (.int .u8 ((Nm.low l)[j].toNat : Int)) := by
  have hj' : j < l.length := by simpa [Nm.low] using hj
  rw [h j hj', if_pos hj']
  simp [Nm.low]
set_option maxHeartbeats 400000 in
theorem lower_any (s : ByteArray) (w : World) (hs : s.size ≤ maxLen) :
    Calls Tryd.prog 67 #[.string s] w fun e w' => e = .returned (.string ⟨(Nm.low s.data.toList).toArray⟩) ∧ Below w.heap.size w w' := by
  unfold maxLen at hs
  have kc := fun (w : World) (s : ByteArray) => run_bytes_of_string (P := Tryd.prog) w 9 48 5 s Tryd.underlying9 Tryd.underlying48 Tryd.underlying5
  go_enter Tryd.func67, Tryd.ntmps67
  go_wp2
  generalize hcap : grownCap w s.size 0 5 = cap
  clear hcap kc
  have hM := bytesRow_ge s cap
  have hC0 := LowTo.start s cap
  obtain ⟨C0, hC0e⟩ : ∃ C, C = bytesRow s cap := ⟨_, rfl⟩
  rw [← hC0e] at hM hC0 ⊢
  clear hC0e
  go_loopw [4, 5, 10] (fun _ _ i wr => ∃ (k : Nat) (C : Array Value), k ≤ s.size ∧ i = .int .i64 k ∧ C.size = C0.size ∧ LowTo s.data.toList k C ∧ wr = (w.alloc (.cells C 5 (C0.size, C0.size + 1))).drew) (fun _ _ i _ => s.size - (intOf i).toNat)
  case atStart => exact ⟨0, C0, by omega, rfl, rfl, hC0, rfl⟩
  case round =>
    obtain ⟨k, C, hk, rfl, hCs, hC, rfl⟩ := hrel
    have HC := Lib.hid hC
    have HCs := Lib.hid hCs
    clear hC hCs hC0
    by_cases hlt : k < s.size
    · have hcell : (w.alloc (.cells C 5 (C0.size, C0.size + 1))).cell? ⟨w.heap.size, k, none⟩ = some (.int .u8 (s[k].toNat : Int)) := by
        rw [World.cell?_alloc_mark]
        have := HC.out k (by simpa using hlt)
        rw [this, if_neg (by omega)]
        rfl
      have hfr : (w.alloc (.cells C 5 (C0.size, C0.size + 1))).frozen? ⟨w.heap.size, k, none⟩ = false := by
        rw [World.frozen?_alloc_mark]
        simp
        omega
      have hnx := Lib.hid (HC.out.put (k := k) (by simpa using hlt) (by rw [HCs.out]; simpa using hM))
      have hnx2 := Lib.hid (HC.out.same (k := k) (by simpa using hlt))
      obtain ⟨c, hc⟩ : ∃ c, s[k] = c := ⟨_, rfl⟩
      have hc2 : Hid (s.data.toList[k]'(by simpa using hlt) = c) := hc
      have hb := c.toNat_lt
      by_cases h65 : 65 ≤ c.toNat ∧ c.toNat ≤ 90
      · obtain ⟨ha, hz⟩ := h65
        go_wp2
        have hc3 := Lib.hid (lowB_yes c ha hz)
        go_wp2
        refine ⟨⟨k + 1, _, by omega, by go_num, ?_, hnx.out, ?_⟩, by simp [intOf]; omega⟩
        · simpa using HCs.out
        · rw [hc2.out, hc3.out, setCell_new]
      · have hsm := Lib.hid (hnx2.out (by rw [hc2.out]; exact lowB_no c h65))
        go_wp2
        all_goals exact ⟨⟨k + 1, C, by omega, by go_num, HCs.out, hsm.out, rfl⟩, by simp [intOf]; omega⟩
    · obtain rfl : k = s.size := by omega
      have hfin := HC.out
      have hbk := fun W hc => run_back (P := Tryd.prog) W 48 9 5 w.heap.size s.size cap (Nm.low s.data.toList) (by simp [Nm.low]) Tryd.underlying48 Tryd.underlying5 Tryd.underlying9 hc
      have hbk2 := hbk (w.alloc (.cells C 5 (C0.size, C0.size + 1))).drew (fun j hj => by
        show (w.alloc (.cells C 5 (C0.size, C0.size + 1))).cell? _ = _
        rw [World.cell?_alloc_mark]
        exact LowTo.fin (by simpa using hfin) j hj)
      clear hbk hfin
      go_wp2
      go_ret
      exact ⟨rfl, ((Below.refl _ _).alloc (Nat.le_refl _) _).drew⟩
end Go.Proofs.YtnhlpifbadncmaaDoor
namespace Go.Proofs.YtnhlpifbadncmaaDoor
open Go.RowKit

theorem info_string : (Tryd.prog.info? 9).map (fun i => (i.zero, i.size, i.bytes)) = some (some (.string ByteArray.empty), 1, 16) := by kernel_rfl

theorem enc_head {l : Nm.Bytes} {ls : List Nm.Bytes} (h : Nm.Ok (l :: ls)) : (UInt8.ofNat l.length).toNat = l.length := by
  have := (Nm.ok_cons.1 h).1
  simp
  omega

set_option maxRecDepth 100000 in
set_option maxHeartbeats 400000 in
theorem labels_any (s : ByteArray) (ls : List Nm.Bytes) (w : World) (hs : s.data.toList = Nm.enc ls) (hok : Nm.Ok ls) (hl : s.size ≤ 255) :
    Calls Tryd.prog 55 #[.string s] w fun e w' => ∃ v, e = .returned v ∧ w'.ownsRow w.heap.size 9 1 v ls.length (ls.map strV) ∧ Below w.heap.size w w' := by
  have HS := Lib.hid hs
  have HOK := Lib.hid hok
  clear hs hok
  obtain ⟨i0, hi, hz0, hz1, hz2⟩ := info_parts info_string
  go_enter Tryd.func55, Tryd.ntmps55
  go_wp2
  go_loopw [3, 4, 5] (fun v i _ wr => ∃ (k : Nat) (a b : List Nm.Bytes), ls = a ++ b ∧ i = .int .i64 k ∧ s.data.toList.drop k = Nm.enc b ∧ wr.ownsRow w.heap.size 9 1 v a.length (a.map strV) ∧ Below w.heap.size w wr) (fun _ i _ _ => s.size - (intOf i).toNat)
  case atStart => exact ⟨0, [], ls, rfl, rfl, HS.out, World.ownsRow_nil _ _ _ _, Below.refl _ _⟩
  case round =>
    obtain ⟨k, a, b, hab, rfl, hd, hown, hbel⟩ := hrel
    have HAB := Lib.hid hab
    have HD := Lib.hid hd
    clear hab hd
    have hlt : k < s.size := by
      have := congrArg List.length HD.out
      rw [Nm.enc_length] at this
      simp at this
      omega
    obtain ⟨c, hc⟩ : ∃ c, s[k] = c := ⟨_, rfl⟩
    have hd2 : Hid (s.data.toList.drop k = c :: s.data.toList.drop (k + 1)) := by have := drop_at s k hlt; rwa [hc] at this
    have hb := c.toNat_lt
    cases b with
    | nil =>
      have hc0 : c = 0 := by have := HD.out; rw [hd2.out] at this; simp [Nm.enc] at this; exact this.1
      subst hc0
      go_wp2
      go_ret
      have := HAB.out
      rw [List.append_nil] at this
      subst this
      exact ⟨_, rfl, hown, hbel⟩
    | cons l b =>
      have hokb : Nm.Ok (l :: b) := by
        have := HOK.out
        rw [HAB.out] at this
        exact fun x hx => this x (List.mem_append_right _ hx)
      have HOKB := Lib.hid hokb
      clear hokb
      have hh : c = UInt8.ofNat l.length ∧ s.data.toList.drop (k + 1) = l ++ Nm.enc b := by
        have := HD.out
        rw [hd2.out] at this
        simpa [Nm.enc] using this
      have hcn : c.toNat = l.length := by rw [hh.1]; exact enc_head HOKB.out
      have hl1 := (Nm.ok_cons.1 HOKB.out).1
      have HH := Lib.hid hh.2
      clear hh
      have hle : k + 1 + c.toNat ≤ s.size := by
        have := congrArg List.length HH.out
        simp at this
        omega
      have hle2 : a.length ≤ 300 := by
        have h1 := Nm.length_lt_enc ls
        rw [← HS.out, HAB.out] at h1
        simp at h1
        omega
      have hex : Hid (Value.string (s.extract (k + 1) (k + 1 + c.toNat)) = strV l) := by
        unfold strV
        congr 1
        apply ByteArray.ext
        apply Array.toList_inj.1
        rw [Lib.extract_data, HH.out]
        simp [hcn]
      have hc0 : ((c.toNat : Int) != 0) = true := by rw [bne_iff_ne]; omega
      have HCN := Lib.hid hcn
      clear hcn
      go_wp2_with (at_builtin; refine wpList_append_own _ rfl _ _ 70 rfl w.heap.size 9 i0 (.string ByteArray.empty) 1 16 Tryd.underlying70 hi hz0 hz1 hz2 rfl (by decide) _ _ _ rfl (hown.alloc _) ⟨wr.heap.size, 0, none⟩ 1 1 [.string (s.extract (k + 1) (k + 1 + c.toNat))] rfl rfl (cell_one_new _ _ _) ?c2 ?c3 ?c4 ?c5 ?_)
      case c2 => simp [Value.oneCell']
      case c3 => unfold maxLen; omega
      case c4 => omega
      case c5 => have := hbel.size; simp; omega
      intro v' w1 hown' hgrow _
      have hbel1 := hbel.trans (((Below.refl w.heap.size wr).alloc hbel.size _).grown hgrow (by have := hbel.size; simp; omega) (fun q hq => (hown.lt q hq).1))
      have hfin0 : w1.ownsRow w.heap.size 9 1 v' (a ++ [l]).length ((a ++ [l]).map strV) := by
        have := hown'
        rw [hex.out] at this
        simpa using this
      have hfin := Lib.hid hfin0
      clear hown' hgrow hown hbel hfin0
      go_wp2
      go_roundw
      case rel =>
        refine ⟨k + 1 + c.toNat, a ++ [l], b, ?_, by go_num, ?_, hfin.out, hbel1⟩
        · rw [HAB.out]; simp
        · rw [← List.drop_drop, HH.out, HCN.out]; simp
      case measure => simp [intOf]; omega
end Go.Proofs.YtnhlpifbadncmaaDoor
namespace Go.Proofs.YtnhlpifbadncmaaDoor
open Go.RowKit

theorem fold_any (s : ByteArray) (w : World) (hs : s.size ≤ maxLen) :
    Calls Tryd.prog 52 #[.string s] w fun e w' => e = .returned (strV (Nm.fold s.data.toList)) ∧ Below w.heap.size w w' := by
  cases hm : Nm.may s.data.toList with
  | false =>
    have hv : Nm.fold s.data.toList = [] := by simp [Nm.fold, hm]
    have HV := Lib.hid hv
    have HM := Lib.hid hm
    clear hv hm
    go_enter Tryd.func52, Tryd.ntmps52
    go_wp2_with fail
    refine (may_any _ _ hs).mono ?_
    rintro e w' ⟨rfl, rfl⟩
    rw [HM.out]
    go_wp2_with fail
    go_ret
    rw [HV.out]
    exact ⟨rfl, Below.refl _ _⟩
  | true =>
    have hv : Nm.fold s.data.toList = Nm.low s.data.toList := by simp [Nm.fold, hm]
    have HV := Lib.hid hv
    have HM := Lib.hid hm
    clear hv hm
    go_enter Tryd.func52, Tryd.ntmps52
    go_wp2_with fail
    refine (may_any _ _ hs).mono ?_
    rintro e w' ⟨rfl, rfl⟩
    rw [HM.out]
    go_wp2_with fail
    refine (lower_any _ _ hs).mono ?_
    rintro e w' ⟨rfl, hb⟩
    go_wp2_with fail
    go_ret
    rw [HV.out]
    exact ⟨rfl, hb⟩

end Go.Proofs.YtnhlpifbadncmaaDoor
namespace Go.Proofs.YtnhlpifbadncmaaDoor
open Go.RowKit

/-- A slice of strings in memory. -/
def SRow (w : World) (v : Value) (ns : List Nm.Bytes) : Prop :=
  ∃ a cap, v = .slice a ns.length cap ∧ (ns = [] ∨ ∃ b off, a = some ⟨b, off, none⟩ ∧ b < w.heap.size ∧ ∀ i n, ns[i]? = some n → w.cell? ⟨b, off + i, none⟩ = some (strV n))

theorem SRow.below {w w' : World} {v : Value} {ns : List Nm.Bytes} (h : SRow w v ns) {B : Nat} (hb : Below B w w') (hB : w.heap.size ≤ B) : SRow w' v ns := by
  obtain ⟨a, cap, hv, h⟩ := h
  refine ⟨a, cap, hv, h.imp id ?_⟩
  rintro ⟨b, off, ha, hlt, hc⟩
  refine ⟨b, off, ha, Nat.lt_of_lt_of_le hlt hb.size, fun i n hi => ?_⟩
  rw [hb.cell (Nat.lt_of_lt_of_le hlt hB)]
  exact hc i n hi


theorem SRow.own {w : World} {base : Nat} {v : Value} {ns : List Nm.Bytes} {e : TypeId} (h : w.ownsRow base e 1 v ns.length (ns.map strV)) : SRow w v ns := by
  obtain ⟨_, ⟨rfl, h0⟩ | ⟨g, cap, cur, rfl, _, hg, _, _, _, htk⟩⟩ := h
  · have : ns = [] := List.eq_nil_of_length_eq_zero h0
    subst this
    exact ⟨none, 0, rfl, Or.inl rfl⟩
  · refine ⟨_, cap, rfl, Or.inr ⟨g, 0, rfl, (Array.getElem?_eq_some_iff.1 hg).1, fun i n hi => ?_⟩⟩
    have hil : i < ns.length := (List.getElem?_eq_some_iff.1 hi).1
    unfold World.cell?
    rw [hg]
    have : (cur.toList.take (ns.length * 1))[i]? = some (strV n) := by rw [htk, List.getElem?_map, hi]; rfl
    rw [List.getElem?_take_of_lt (by omega)] at this
    simpa using this

end Go.Proofs.YtnhlpifbadncmaaDoor
namespace Go.Proofs.YtnhlpifbadncmaaDoor
open Go.RowKit

/-- The order of labels, the last one first. -/
def cmpR : List Nm.Bytes → List Nm.Bytes → Int
  | [], [] => 0
  | [], _ :: _ => -1
  | _ :: _, [] => 1
  | x :: xs, y :: ys => if Lib.compareBytes x y = 0 then cmpR xs ys else Lib.compareBytes x y
def cmpL (a b : List Nm.Bytes) : Int := cmpR (Nm.lowL a).reverse (Nm.lowL b).reverse
def cmpN (n m : Nm.Bytes) : Int := match Nm.nm n, Nm.nm m with | some a, some b => cmpL a b | _, _ => 0

end Go.Proofs.YtnhlpifbadncmaaDoor
namespace Go.Proofs.YtnhlpifbadncmaaDoor
open Go.RowKit

/-- What a slice of m elements holds, cell by cell. -/
def RowOf (w : World) (v : Value) (m size : Nat) (news : List Value) : Prop :=
  news.length = m * size ∧ (∀ u ∈ news, u.oneCell' = true) ∧ ((∃ c, v = .slice none 0 c ∧ m = 0) ∨ ∃ ad c, v = .slice (some ad) m c ∧ ∀ j u, news[j]? = some u → w.cell? (ad.add j) = some u)

variable {P : Program}

theorem RowOf.below {w w' : World} {v : Value} {m size : Nat} {news : List Value} (h : RowOf w v m size news) (hb : ∀ a, w'.cell? a = w.cell? a ∨ w.cell? a = none) : RowOf w' v m size news := by
  obtain ⟨h1, h2, h3 | ⟨ad, c, h3, h4⟩⟩ := h
  · exact ⟨h1, h2, Or.inl h3⟩
  · refine ⟨h1, h2, Or.inr ⟨ad, c, h3, fun j u hj => ?_⟩⟩
    have := h4 j u hj
    rcases hb (ad.add j) with h | h
    · rw [h]; exact this
    · rw [h] at this; cases this

end Go.Proofs.YtnhlpifbadncmaaDoor
namespace Go.Proofs.YtnhlpifbadncmaaDoor
open Go.RowKit

theorem byteSize (s : Nm.Bytes) : (⟨s.toArray⟩ : ByteArray).size = s.length := by show s.toArray.size = s.length; simp
theorem cat2 (a b : Nm.Bytes) : (({ data := a.toArray } : ByteArray) ++ { data := b.toArray }) = ⟨(a ++ b).toArray⟩ := by
  apply ByteArray.ext
  apply Array.toList_inj.1
  simp [ByteArray.data_append]

/-- 'string([]byte{c})'. -/
theorem run_onebyte (W : World) (c : UInt8) (n : Int) (hn : n = (c.toNat : Int)) : (convert 48 9 (.slice (some ⟨W.heap.size, 0, none⟩) 1 1)).run Tryd.prog (W.alloc (.cells #[.int .u8 n] 5)) = .ok (.string ⟨[c].toArray⟩) (W.alloc (.cells #[.int .u8 n] 5)) := by
  subst hn
  exact run_back _ 48 9 5 W.heap.size 1 1 [c] rfl Tryd.underlying48 Tryd.underlying5 Tryd.underlying9 (fun j hj => by
    rw [World.cell?_alloc_mark]
    match j, hj with
    | 0, _ => rfl)

theorem lbl_none_of_head {c : UInt8} {t : Nm.Bytes} (hz : ¬ c = 0) (h : 63 < c.toNat ∨ t.length < c.toNat) : Nm.lbl (c :: t) = none := by
  rw [Nm.lbl_cons, if_neg hz]
  by_cases h63 : 63 < c.toNat
  · rw [if_pos h63]
  · rw [if_neg h63, if_pos (by omega)]

/-- What Labels of the reference leaves. -/
def LabelsPost (n : Nm.Bytes) (w : World) (e : Ending) (w' : World) : Prop :=
  ∃ v, e = .returned (.tuple #[v, .bool (Nm.may n)]) ∧ w'.ownsRow w.heap.size 9 1 v (Nm.labels n).length ((Nm.labels n).map strV) ∧ Below w.heap.size w w'

set_option maxRecDepth 100000 in
set_option maxHeartbeats 1000000 in
theorem refLabels_any (s : ByteArray) (w : World) (hs : s.size ≤ 1000000) :
    Calls Tryd.prog 57 #[.string s] w (LabelsPost s.data.toList w) := by
  obtain ⟨i0, hi, hz0, hz1, hz2⟩ := info_parts info_string
  go_enter Tryd.func57, Tryd.ntmps57
  go_wp2_with fail
  go_loopw [4, 5, 6] (fun v i _ wr => ∃ (k : Nat) (a : List Nm.Bytes), k ≤ s.size ∧ a.length ≤ k ∧ i = .int .i64 k ∧ Nm.lbl s.data.toList = (Nm.lbl (s.data.toList.drop k)).map (a ++ ·) ∧ wr.ownsRow w.heap.size 9 1 v a.length (a.map strV) ∧ Below w.heap.size w wr) (fun _ i _ _ => s.size - (intOf i).toNat)
  case atStart => exact ⟨0, [], by omega, by simp, rfl, by simp, World.ownsRow_nil _ _ _ _, Below.refl _ _⟩
  case round =>
    obtain ⟨k, a, hk, hal, rfl, hl, hown, hbel⟩ := hrel
    have HL := Lib.hid hl
    have HOWN := Lib.hid hown
    have HBEL := Lib.hid hbel
    have hwsz := hbel.size
    clear hl hown hbel
    by_cases hlt : k < s.size
    · obtain ⟨c, hc⟩ : ∃ c, s[k] = c := ⟨_, rfl⟩
      have hd2 : Hid (s.data.toList.drop k = c :: s.data.toList.drop (k + 1)) := by have := drop_at s k hlt; rwa [hc] at this
      have hb := c.toNat_lt
      have HTL := Lib.hid (show (s.data.toList.drop (k + 1)).length = s.size - (k + 1) by simp)
      by_cases hz : c = 0
      · subst hz
        -- the end
        have HLB := Lib.hid (show Nm.lbl s.data.toList = (if s.size = k + 1 then some a else none) by
          rw [HL.out, hd2.out, Nm.lbl_cons, if_pos rfl]
          by_cases hq : s.size = k + 1
          · rw [if_pos (List.eq_nil_of_length_eq_zero (by rw [HTL.out]; omega)), if_pos hq]; simp
          · rw [if_neg (fun hn => by have := HTL.out; rw [hn] at this; simp at this; omega), if_neg hq]; rfl)
        by_cases hq : s.size = k + 1
        · by_cases h255 : 255 < s.size
          · have HN := Lib.hid (show Nm.nm s.data.toList = none by unfold Nm.nm; rw [if_neg (by simp; omega)])
            have HQ := Lib.hid hq
            have hq1 : ((k : Int) != (s.size : Int) - 1) = false := by simp; omega
            clear hq
            go_wp2_with fail
            go_ret2
            refine ⟨_, by rw [Nm.may_none HN.out]; rfl, ?_, HBEL.out⟩
            unfold Nm.labels; rw [HN.out]
            exact World.ownsRow_nil _ _ _ _
          · have HN := Lib.hid (show Nm.nm s.data.toList = some a by unfold Nm.nm; rw [if_pos (by simp; omega), HLB.out, if_pos hq])
            have HQ := Lib.hid hq
            have hq1 : ((k : Int) != (s.size : Int) - 1) = false := by simp; omega
            clear hq
            go_wp2_with fail
            go_ret2
            refine ⟨_, by rw [Nm.may_some HN.out]; rfl, ?_, HBEL.out⟩
            unfold Nm.labels; rw [HN.out]
            exact HOWN.out
        · have HN := Lib.hid (show Nm.nm s.data.toList = none by unfold Nm.nm; split; rw [HLB.out, if_neg hq]; rfl)
          have hq1 : ((k : Int) != (s.size : Int) - 1) = true := by rw [bne_iff_ne]; omega
          clear hq
          go_wp2_with fail
          go_ret2
          refine ⟨_, by rw [Nm.may_none HN.out]; rfl, ?_, HBEL.out⟩
          unfold Nm.labels; rw [HN.out]
          exact World.ownsRow_nil _ _ _ _
      · have hz1' : 1 ≤ c.toNat := by
          rcases Nat.eq_zero_or_pos c.toNat with h | h
          · exact absurd (UInt8.toNat_inj.1 (by simpa using h)) hz
          · exact h
        have hz2' : ((c.toNat : Int) == 0) = false := beq_eq_false_iff_ne.2 (by omega)
        have hz3' : ((c.toNat : Int) != 0) = true := by rw [bne_iff_ne]; omega
        have HZ := Lib.hid hz
        clear hz
        by_cases hbad : 63 < c.toNat ∨ s.size < k + 1 + c.toNat
        · have HN := Lib.hid (show Nm.nm s.data.toList = none by
            unfold Nm.nm; split
            · rw [HL.out, hd2.out, lbl_none_of_head HZ.out (by rw [HTL.out]; omega)]; rfl
            · rfl)
          rcases hbad with h1 | h1
          · go_wp2_with fail
            go_ret2
            refine ⟨_, by rw [Nm.may_none HN.out]; rfl, ?_, HBEL.out⟩
            unfold Nm.labels; rw [HN.out]
            exact World.ownsRow_nil _ _ _ _
          · by_cases h63 : 63 < c.toNat
            · go_wp2_with fail
              go_ret2
              refine ⟨_, by rw [Nm.may_none HN.out]; rfl, ?_, HBEL.out⟩
              unfold Nm.labels; rw [HN.out]
              exact World.ownsRow_nil _ _ _ _
            · go_wp2_with fail
              go_ret2
              refine ⟨_, by rw [Nm.may_none HN.out]; rfl, ?_, HBEL.out⟩
              unfold Nm.labels; rw [HN.out]
              exact World.ownsRow_nil _ _ _ _
        · have h63 : ¬ 63 < c.toNat := fun h => hbad (Or.inl h)
          have hle : k + 1 + c.toNat ≤ s.size := by omega
          clear hbad
          obtain ⟨l, hld⟩ : ∃ l, l = (s.data.toList.drop (k + 1)).take c.toNat := ⟨_, rfl⟩
          have HEX := Lib.hid (show Value.string (s.extract (k + 1) (k + 1 + c.toNat)) = strV l by
            unfold strV
            congr 1
            apply ByteArray.ext
            apply Array.toList_inj.1
            rw [Lib.extract_data, hld]
            simp)
          have HN := Lib.hid (show Nm.lbl s.data.toList = (Nm.lbl (s.data.toList.drop (k + 1 + c.toNat))).map ((a ++ [l]) ++ ·) by
            rw [HL.out, hd2.out, Nm.lbl_cons, if_neg HZ.out, if_neg h63, if_neg (by rw [HTL.out]; omega), Option.map_map, List.drop_drop, hld]
            congr 1
            funext x
            simp)
          clear hld
          go_wp2_with (at_builtin; refine wpList_append_own _ rfl _ _ 70 rfl w.heap.size 9 i0 (.string ByteArray.empty) 1 16 Tryd.underlying70 hi hz0 hz1 hz2 rfl (by decide) _ a.length _ rfl (HOWN.out.alloc _) ⟨wr.heap.size, 0, none⟩ 1 1 [.string (s.extract (k + 1) (k + 1 + c.toNat))] rfl rfl (cell_one_new _ _ _) ?c2 ?c3 ?c4 ?c5 ?_)
          case c2 => simp [Value.oneCell']
          case c3 => unfold maxLen; omega
          case c4 => omega
          case c5 => simp; omega
          intro v' w1 hown' hgrow _
          have HB1 := Lib.hid ((HBEL.out.alloc hwsz _).grown hgrow (by simp; omega) (fun q hq => (HOWN.out.lt q hq).1))
          have hfin0 : w1.ownsRow w.heap.size 9 1 v' (a ++ [l]).length ((a ++ [l]).map strV) := by
            have := hown'
            rw [HEX.out] at this
            simpa using this
          have HFIN := Lib.hid hfin0
          clear hown' hgrow hfin0
          go_wp2_with fail
          exact ⟨⟨k + 1 + c.toNat, a ++ [l], by omega, by simp; omega, by go_num, HN.out, HFIN.out, HB1.out⟩, by simp [intOf]; omega⟩
    · have HN := Lib.hid (show Nm.nm s.data.toList = none by
        unfold Nm.nm; split
        · rw [HL.out, List.drop_of_length_le (by simp; omega)]; rfl
        · rfl)
      have hq1 : ((k : Int) != (s.size : Int) - 1) = true := by rw [bne_iff_ne]; omega
      go_wp2_with fail
      go_ret2
      refine ⟨_, by rw [Nm.may_none HN.out]; rfl, ?_, HBEL.out⟩
      unfold Nm.labels; rw [HN.out]
      exact World.ownsRow_nil _ _ _ _

theorem refMay_any (s : ByteArray) (w : World) (hs : s.size ≤ 1000000) :
    Calls Tryd.prog 41 #[.string s] w fun e w' => e = .returned (.bool (Nm.may s.data.toList)) ∧ Below w.heap.size w w' := by
  go_enter Tryd.func41, Tryd.ntmps41
  go_wp2_with fail
  refine (refLabels_any s _ hs).mono ?_
  rintro e w1 ⟨v, rfl, ho, hb⟩
  go_wp2_with fail
  go_ret
  exact ⟨rfl, hb⟩

set_option maxHeartbeats 1000000 in
theorem refLow_any (s : ByteArray) (w : World) (hs : s.size ≤ 1000000) :
    Calls Tryd.prog 59 #[.string s] w fun e w' => e = .returned (.string ⟨(Nm.low s.data.toList).toArray⟩) ∧ Below w.heap.size w w' := by
  go_enter Tryd.func59, Tryd.ntmps59
  go_wp2_with fail
  go_loopw [3, 4, 5] (fun o i _ wr => ∃ k : Nat, k ≤ s.size ∧ i = .int .i64 k ∧ o = .string ⟨(Nm.low (s.data.toList.take k)).toArray⟩ ∧ Below w.heap.size w wr) (fun _ i _ _ => s.size - (intOf i).toNat)
  case atStart => exact ⟨0, by omega, rfl, rfl, Below.refl _ _⟩
  case round =>
    obtain ⟨k, hk, rfl, rfl, hbel⟩ := hrel
    by_cases hlt : k < s.size
    · obtain ⟨c, hc⟩ : ∃ c, s[k] = c := ⟨_, rfl⟩
      have hb := c.toNat_lt
      have HT := Lib.hid (show Nm.low (s.data.toList.take (k + 1)) = Nm.low (s.data.toList.take k) ++ [Nm.lowB c] by
        rw [List.take_succ_eq_append_getElem (by simpa using hlt), Nm.low_append]
        congr 1
        show [Nm.lowB _] = _
        rw [← hc]
        rfl)
      obtain ⟨acc, hacc⟩ : ∃ acc, acc = Nm.low (s.data.toList.take k) := ⟨_, rfl⟩
      have hal : acc.length ≤ 1000000 := by rw [hacc, Nm.low_length]; simp; omega
      rw [← hacc]
      rw [← hacc] at HT
      clear hacc
      have HBEL := Lib.hid hbel
      have hwsz := hbel.size
      clear hbel
      by_cases h65 : 65 ≤ c.toNat ∧ c.toNat ≤ 90
      · obtain ⟨ha, hz⟩ := h65
        have hone := fun W : World => run_onebyte W (Nm.lowB c) ((c.toNat : Int) + 32) (lowB_yes c ha hz).symm
        go_wp2_with fail
        refine ⟨⟨k + 1, by omega, by go_num, ?_, HBEL.out.alloc hwsz _⟩, by simp [intOf]; omega⟩
        rw [HT.out]
        exact congrArg Value.string (cat2 acc [Nm.lowB c])
      · have hone := fun W : World => run_onebyte W (Nm.lowB c) (c.toNat : Int) (by rw [lowB_no c h65])
        go_wp2_with fail
        all_goals
          refine ⟨⟨k + 1, by omega, by go_num, ?_, HBEL.out.alloc hwsz _⟩, by simp [intOf]; omega⟩
          rw [HT.out]
          exact congrArg Value.string (cat2 acc [Nm.lowB c])
    · obtain rfl : k = s.size := by omega
      have he : s.data.toList.take s.size = s.data.toList := List.take_of_length_le (by simp)
      rw [he]
      go_wp2_with fail
      go_ret
      exact ⟨rfl, hbel⟩

end Go.Proofs.YtnhlpifbadncmaaDoor
namespace Go.Proofs.YtnhlpifbadncmaaDoor
open Go.RowKit

def encP (ls : List Nm.Bytes) : Nm.Bytes := ls.flatMap fun l => UInt8.ofNat l.length :: l
theorem encP_enc : ∀ ls, Nm.enc ls = encP ls ++ [0]
  | [] => rfl
  | l :: ls => by simp [Nm.enc, encP_enc ls, encP]
theorem encP_snoc (ls : List Nm.Bytes) (l : Nm.Bytes) : encP (ls ++ [l]) = encP ls ++ (UInt8.ofNat l.length :: l) := by simp [encP]
theorem encP_length (ls : List Nm.Bytes) (h : ∀ l ∈ ls, l.length ≤ 63) : (encP ls).length ≤ 64 * ls.length := by
  induction ls with
  | nil => simp [encP]
  | cons l ls ih =>
    have h1 := h l (by simp)
    have h2 := ih (fun x hx => h x (by simp [hx]))
    simp [encP] at h2 ⊢
    omega
theorem cat3' (a : Nm.Bytes) (c : UInt8) (b : Nm.Bytes) : (({ data := a.toArray } : ByteArray) ++ { data := #[c] } ++ { data := b.toArray }) = ⟨(a ++ (c :: b)).toArray⟩ := by
  apply ByteArray.ext
  apply Array.toList_inj.1
  simp [ByteArray.data_append]

set_option maxRecDepth 100000 in
set_option maxHeartbeats 1000000 in
theorem refBytes_any (v : Value) (ls : List Nm.Bytes) (w : World) (hr : SRow w v ls) (hok : ∀ l ∈ ls, l.length ≤ 63) (hlen : ls.length ≤ 1000) :
    Calls Tryd.prog 60 #[v] w fun e w' => e = .returned (.string ⟨(Nm.enc ls).toArray⟩) ∧ Below w.heap.size w w' := by
  obtain ⟨a, cap, rfl, hrow⟩ := hr
  have HROW := Lib.hid hrow
  have HOK := Lib.hid hok
  clear hrow hok
  go_enter Tryd.func60, Tryd.ntmps60
  go_wp2_with fail
  go_loopw [3, 4] (fun o i wr => ∃ k : Nat, k ≤ ls.length ∧ i = .int .i64 k ∧ o = .string ⟨(encP (ls.take k)).toArray⟩ ∧ Below w.heap.size w wr) (fun _ i _ => ls.length - (intOf i).toNat)
  case atStart => exact ⟨0, by omega, rfl, rfl, Below.refl _ _⟩
  case round =>
    obtain ⟨k, hk, rfl, rfl, hbel⟩ := hrel
    by_cases hlt : k < ls.length
    · obtain hz0 | ⟨b, off, ha, hlb, hcc⟩ := HROW.out
      · subst hz0; simp at hlt
      subst ha
      obtain ⟨l, hl⟩ : ∃ l, ls[k]? = some l := ⟨_, List.getElem?_eq_getElem hlt⟩
      have hll := HOK.out l (List.mem_of_getElem? hl)
      have d0 : wr.cell? ⟨b, off + k, none⟩ = some (.string ⟨l.toArray⟩) := (hbel.cell hlb).trans (hcc k l hl)
      have HT := Lib.hid (show encP (ls.take (k + 1)) = encP (ls.take k) ++ (UInt8.ofNat l.length :: l) by rw [List.take_add_one, hl]; exact encP_snoc _ _)
      have hal := encP_length (ls.take k) (fun x hx => HOK.out x (List.mem_of_mem_take hx))
      have htl : (ls.take k).length ≤ k := List.length_take_le _ _
      obtain ⟨acc, hacc⟩ : ∃ acc, acc = encP (ls.take k) := ⟨_, rfl⟩
      rw [← hacc] at hal
      have hal2 : acc.length ≤ 100000 := by omega
      rw [← hacc]
      rw [← hacc] at HT
      have hbw : b < wr.heap.size := World.block_lt_of_cell? wr _ d0
      have HBEL := Lib.hid hbel
      have hwsz := hbel.size
      clear hacc hcc hl hbel hal htl
      have e1 : (UInt8.ofNat l.length).toNat = l.length := by simp; omega
      have hone : (convert 48 9 (.slice (some ⟨wr.heap.size, 0, none⟩) 1 1)).run Tryd.prog (wr.alloc (.cells #[.int .u8 (l.length : Int)] 5)).drew = .ok (.string ⟨[UInt8.ofNat l.length].toArray⟩) (wr.alloc (.cells #[.int .u8 (l.length : Int)] 5)).drew :=
        run_back _ 48 9 5 wr.heap.size 1 1 [UInt8.ofNat l.length] rfl Tryd.underlying48 Tryd.underlying5 Tryd.underlying9 (fun j hj => by
          show (wr.alloc (.cells #[.int .u8 (l.length : Int)] 5)).cell? _ = _
          rw [World.cell?_alloc_mark]
          match j, hj with
          | 0, _ =>
            show some (Value.int .u8 (l.length : Int)) = some (.int .u8 ((UInt8.ofNat l.length).toNat : Int))
            rw [e1])
      have hk0 : (0 : Int) ≤ (k : Int) := by omega
      have hk1 : (k : Int) < (ls.length : Int) := by omega
      have hw8 : IntKind.u8.wrap (l.length : Int) = (l.length : Int) := by simp [IntKind.wrap, IntKind.signed, IntKind.bits]; omega
      clear e1
      go_upto_region 5 with fail
      go_region
      all_goals (clear hone hw8; go_wp2_with fail)
      all_goals
        refine ⟨⟨k + 1, by omega, by go_num, ?_, HBEL.out.trans (((Below.refl _ _).alloc hwsz _).drew)⟩, by simp [intOf]; omega⟩
        rw [HT.out]
        exact congrArg Value.string (cat3' acc (UInt8.ofNat l.length) l)
    · obtain rfl : k = ls.length := by omega
      rw [List.take_length]
      have hal := encP_length ls HOK.out
      have HE := Lib.hid (show (({ data := (encP ls).toArray } : ByteArray) ++ { data := #[0] }) = ⟨(Nm.enc ls).toArray⟩ by rw [encP_enc]; exact cat2 (encP ls) [0])
      obtain ⟨acc, hacc⟩ : ∃ acc, acc = encP ls := ⟨_, rfl⟩
      rw [← hacc]
      rw [← hacc] at hal HE
      clear hacc
      have hal2 : acc.length ≤ 100000 := by omega
      clear hal
      go_wp2_with fail
      go_ret
      exact ⟨ret_str HE.out, hbel⟩

end Go.Proofs.YtnhlpifbadncmaaDoor
namespace Go.Proofs.YtnhlpifbadncmaaDoor
open Go.RowKit

theorem own_kept {w w' : World} {base : Nat} {e : TypeId} {size : Nat} {v : Value} {n : Nat} {xs : List Value} (h : w.ownsRow base e size v n xs) (hb : Below w.heap.size w w') : w'.ownsRow base e size v n xs := by
  obtain ⟨h1, h2 | ⟨g, cap, cur, hv, h3, hg, h4⟩⟩ := h
  · exact ⟨h1, Or.inl h2⟩
  · exact ⟨h1, Or.inr ⟨g, cap, cur, hv, h3, (hb.block g (Array.getElem?_eq_some_iff.1 hg).1).trans hg, h4⟩⟩

theorem labels_some {n : Nm.Bytes} {ls : List Nm.Bytes} (h : Nm.nm n = some ls) : Nm.labels n = ls := by simp [Nm.labels, h]
theorem fold_enc {n : Nm.Bytes} {ls : List Nm.Bytes} (h : Nm.nm n = some ls) : Nm.enc (Nm.lowL ls) = Nm.fold n := by
  unfold Nm.fold
  rw [Nm.may_some h, if_pos rfl]
  obtain ⟨h1, h2, _⟩ := Nm.nm_iff.1 h
  rw [h1, Nm.low_enc _ h2]
theorem labels_count {n : Nm.Bytes} {ls : List Nm.Bytes} (h : Nm.nm n = some ls) : ls.length ≤ 255 := by
  obtain ⟨h1, _, h3⟩ := Nm.nm_iff.1 h
  have := Nm.length_lt_enc ls
  rw [← h1] at this
  omega

set_option maxRecDepth 100000 in
set_option maxHeartbeats 1000000 in
theorem refFold_any (s : ByteArray) (w : World) (hs : s.size ≤ 1000000) :
    Calls Tryd.prog 42 #[.string s] w fun e w' => e = .returned (.string ⟨(Nm.fold s.data.toList).toArray⟩) ∧ Below w.heap.size w w' := by
  obtain ⟨i0, hi, hz0, hz1, hz2⟩ := info_parts info_string
  go_enter Tryd.func42, Tryd.ntmps42
  go_wp2_with fail
  refine (refLabels_any s _ hs).mono ?_
  rintro e w1 ⟨v, rfl, ho, hb⟩
  cases hm : Nm.may s.data.toList
  · go_wp2_with fail
    go_ret
    exact ⟨ret_str (by unfold Nm.fold; rw [hm]; rfl), hb⟩
  · obtain ⟨ls, hnm⟩ := Nm.nm_of_may hm
    rw [labels_some hnm] at ho
    have hcount := labels_count hnm
    have HOK := Lib.hid (Nm.nm_iff.1 hnm).2.1
    have HNM := Lib.hid hnm
    obtain ⟨a, cap, rfl, hrow⟩ := SRow.own ho
    have HROW := Lib.hid hrow
    have HB := Lib.hid hb
    have hw1 := hb.size
    clear hrow hb ho hm hnm
    go_wp2_with fail
    go_loopw [5, 6] (fun o i wr => ∃ k : Nat, k ≤ ls.length ∧ i = .int .i64 k ∧ wr.ownsRow w1.heap.size 9 1 o k ((Nm.lowL (ls.take k)).map strV) ∧ Below w1.heap.size w1 wr) (fun _ i _ => ls.length - (intOf i).toNat)
    case atStart => exact ⟨0, by omega, rfl, World.ownsRow_nil _ _ _ _, Below.refl _ _⟩
    case round =>
      obtain ⟨k, hk, rfl, hown, hbel⟩ := hrel
      have HOWN := Lib.hid hown
      by_cases hlt : k < ls.length
      · obtain hz0' | ⟨b, off, ha, hlb, hcc⟩ := HROW.out
        · subst hz0'; simp at hlt
        subst ha
        obtain ⟨l, hl⟩ : ∃ l, ls[k]? = some l := ⟨_, List.getElem?_eq_getElem hlt⟩
        have hll := HOK.out l (List.mem_of_getElem? hl)
        have d0 : wr.cell? ⟨b, off + k, none⟩ = some (.string ⟨l.toArray⟩) := (hbel.cell hlb).trans (hcc k l hl)
        have HT := Lib.hid (show (Nm.lowL (ls.take (k + 1))).map strV = (Nm.lowL (ls.take k)).map strV ++ [strV (Nm.low l)] by rw [List.take_add_one, hl]; simp [Nm.lowL])
        have hbw : b < wr.heap.size := World.block_lt_of_cell? wr _ d0
        have HBEL := Lib.hid hbel
        have hwsz := hbel.size
        have hk0 : (0 : Int) ≤ (k : Int) := by omega
        have hk1 : (k : Int) < (ls.length : Int) := by omega
        clear hcc hl hbel hown
        go_wp2_with fail
        refine (refLow_any ⟨l.toArray⟩ _ (by rw [byteSize]; omega)).mono ?_
        rintro e w2 ⟨rfl, hb2⟩
        have HB2 := Lib.hid hb2
        have hsz2 := hb2.size
        have HOWN2 := Lib.hid (own_kept HOWN.out hb2)
        clear hb2
        go_wp2_with (at_builtin; refine wpList_append_own _ rfl _ _ 70 rfl w1.heap.size 9 i0 (.string ByteArray.empty) 1 16 Tryd.underlying70 hi hz0 hz1 hz2 rfl (by decide) _ k _ rfl (HOWN2.out.alloc _) ⟨w2.heap.size, 0, none⟩ 1 1 [.string ⟨(Nm.low l).toArray⟩] rfl rfl (cell_one_new _ _ _) ?c2 ?c3 ?c4 ?c5 ?_)
        case c2 => simp [Value.oneCell']
        case c3 => unfold maxLen; omega
        case c4 => omega
        case c5 => simp; omega
        intro v' w3 hown' hgrow _
        have HB3 := Lib.hid (((HBEL.out.trans (HB2.out.mono hwsz)).alloc (Nat.le_trans hwsz hsz2) _).grown hgrow (by simp; omega) (fun q hq => (HOWN2.out.lt q hq).1))
        have hfin0 : w3.ownsRow w1.heap.size 9 1 v' (k + 1) ((Nm.lowL (ls.take (k + 1))).map strV) := by
          rw [HT.out]
          exact hown'
        have HFIN := Lib.hid hfin0
        clear hown' hgrow hfin0
        go_wp2_with fail
        exact ⟨⟨k + 1, by omega, by go_num, HFIN.out, HB3.out⟩, by simp [intOf]; omega⟩
      · obtain rfl : k = ls.length := by omega
        rw [List.take_length] at HOWN
        have hr : SRow wr _ (Nm.lowL ls) := SRow.own (e := 9) (base := w1.heap.size) (by have h := HOWN.out; rwa [show ls.length = (Nm.lowL ls).length by simp [Nm.lowL]] at h)
        have HR := Lib.hid hr
        have HBEL := Lib.hid hbel
        clear hr hown hbel
        go_wp2_with fail
        refine (refBytes_any _ (Nm.lowL ls) _ HR.out (fun l hl => (Nm.lowL_ok HOK.out l hl).2) (by simp [Nm.lowL]; omega)).mono ?_
        rintro e w2 ⟨rfl, hb2⟩
        go_wp2_with fail
        go_ret
        exact ⟨ret_str (by rw [fold_enc HNM.out]), HB.out.trans ((HBEL.out.trans (hb2.mono HBEL.out.size)).mono hw1)⟩

end Go.Proofs.YtnhlpifbadncmaaDoor
namespace Go.Proofs.YtnhlpifbadncmaaDoor
open Go.RowKit

def strLen : Value → Nat
  | .string s => s.size
  | _ => 0

end Go.Proofs.YtnhlpifbadncmaaDoor
