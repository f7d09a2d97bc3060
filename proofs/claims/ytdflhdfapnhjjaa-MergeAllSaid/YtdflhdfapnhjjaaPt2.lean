/-
  Part 2: Nm Base WMay WLower WLabels WName SRow Cmp Pd Fr Hs Au Ty App WRef1 WRef2.
-/
import Derived.Test.YtdflhdfapnhjjaaRows
import Derived.WalkKit
import Derived.WalkSpells
import Derived.WalkLawsBesides
import Derived.Lib.Hide
import Derived.Lib.ConvBytes
import Derived.Lib.QuietBelow
import Derived.BigQuiet
import Derived.StillTailTactics
import Derived.Deep.DeepCutAuto
import Derived.Lib.Strings
import Derived.Lib.IndexBytes
import Derived.Lib.Bytealg
import Derived.Test.YtdflhdfapnhjjaaPt1
import Derived.Lib.MinMax
import Derived.ScopeJumps
import Derived.Deep.RegionLaw
import Derived.Laws.OwnMore
import Derived.OwnWalk
namespace Go.Proofs.Ytdflhdfapnhjjaa.Nm

abbrev Bytes := List UInt8

/-- The labels of bytes, with fuel. -/
def scan : Nat → Bytes → Option (List Bytes)
  | 0, _ => none
  | _ + 1, [] => none
  | f + 1, c :: t =>
    if c = 0 then (if t = [] then some [] else none)
    else if 63 < c.toNat then none
    else if t.length < c.toNat then none
    else (scan f (t.drop c.toNat)).map (t.take c.toNat :: ·)

theorem scan_same : ∀ (f g : Nat) (l : Bytes), l.length ≤ f → l.length ≤ g → scan f l = scan g l
  | 0, 0, _, _, _ => rfl
  | 0, g + 1, l, h, _ => by
    cases l with
    | nil => rfl
    | cons c t => simp at h
  | f + 1, 0, l, _, h => by
    cases l with
    | nil => rfl
    | cons c t => simp at h
  | f + 1, g + 1, [], _, _ => rfl
  | f + 1, g + 1, c :: t, h1, h2 => by
    have e1 : (t.drop c.toNat).length ≤ f := by simp at h1 ⊢; omega
    have e2 : (t.drop c.toNat).length ≤ g := by simp at h2 ⊢; omega
    simp only [scan]
    rw [scan_same f g _ e1 e2]
theorem scan_fuel (f : Nat) (l : Bytes) (h : l.length ≤ f) : scan f l = scan l.length l := scan_same f _ l h (Nat.le_refl _)

/-- The labels of bytes. -/
def lbl (l : Bytes) : Option (List Bytes) := scan l.length l

theorem lbl_nil : lbl [] = none := rfl
theorem lbl_cons (c : UInt8) (t : Bytes) : lbl (c :: t) =
    if c = 0 then (if t = [] then some [] else none)
    else if 63 < c.toNat then none
    else if t.length < c.toNat then none
    else (lbl (t.drop c.toNat)).map (t.take c.toNat :: ·) := by
  unfold lbl
  simp only [scan, List.length_cons]
  rw [scan_fuel t.length (t.drop c.toNat) (by simp)]

/-- The labels of a name. -/
def nm (l : Bytes) : Option (List Bytes) := if l.length ≤ 255 then lbl l else none
/-- Is it a name? -/
def may (l : Bytes) : Bool := (nm l).isSome

def lowB (c : UInt8) : UInt8 := if 65 ≤ c ∧ c ≤ 90 then c + 32 else c
def low (l : Bytes) : Bytes := l.map lowB

/-- The bytes of labels. -/
def enc : List Bytes → Bytes
  | [] => [0]
  | l :: ls => UInt8.ofNat l.length :: (l ++ enc ls)

/-- Labels that may be. -/
def Ok (ls : List Bytes) : Prop := ∀ l ∈ ls, 1 ≤ l.length ∧ l.length ≤ 63

theorem ok_nil : Ok [] := by intro l h; cases h
theorem ok_cons {l : Bytes} {ls : List Bytes} : Ok (l :: ls) ↔ (1 ≤ l.length ∧ l.length ≤ 63) ∧ Ok ls := by
  unfold Ok; simp

theorem enc_ne (ls : List Bytes) : enc ls ≠ [] := by cases ls <;> simp [enc]
theorem enc_length (ls : List Bytes) : (enc ls).length = (ls.map fun l => l.length + 1).sum + 1 := by
  induction ls with
  | nil => rfl
  | cons l ls ih => simp [enc, ih]; omega

theorem length_lt_enc (ls : List Bytes) : ls.length < (enc ls).length := by
  induction ls with
  | nil => simp [enc]
  | cons l ls ih => simp [enc]; omega

theorem lbl_enc : ∀ ls : List Bytes, Ok ls → lbl (enc ls) = some ls
  | [], _ => by simp [enc, lbl_cons]
  | l :: ls, h => by
    obtain ⟨⟨h1, h2⟩, h3⟩ := ok_cons.1 h
    have e : (UInt8.ofNat l.length).toNat = l.length := by simp; omega
    have n0 : ¬ UInt8.ofNat l.length = 0 := by
      intro k
      have := congrArg UInt8.toNat k
      rw [e] at this
      simp at this
      subst this
      simp at h1
    simp only [enc]
    rw [lbl_cons, if_neg n0, e, if_neg (by omega), if_neg (by simp)]
    simp [lbl_enc ls h3]

theorem lbl_some : ∀ (n : Nat) (l : Bytes) (ls : List Bytes), l.length ≤ n → lbl l = some ls → l = enc ls ∧ Ok ls
  | _, [], _, _, h => by simp [lbl_nil] at h
  | 0, _ :: _, _, h, _ => by simp at h
  | n + 1, c :: t, ls, hl, h => by
    rw [lbl_cons] at h
    split at h
    · rename_i hc
      split at h
      · rename_i ht
        cases h
        subst hc ht
        exact ⟨rfl, ok_nil⟩
      · cases h
    · rename_i hc
      split at h
      · cases h
      · rename_i h63
        split at h
        · cases h
        · rename_i hlen
          have hd : (t.drop c.toNat).length ≤ n := by simp at hl ⊢; omega
          cases hr : lbl (t.drop c.toNat) with
          | none => simp [hr] at h
          | some ls' =>
            simp [hr] at h
            subst h
            obtain ⟨h1, h2⟩ := lbl_some n _ _ hd hr
            have hc1 : 1 ≤ c.toNat := by
              rcases Nat.eq_zero_or_pos c.toNat with h0 | h0
              · exact absurd (UInt8.toNat_inj.1 (by simpa using h0)) hc
              · exact h0
            have ht : (t.take c.toNat).length = c.toNat := by simp; omega
            refine ⟨?_, ok_cons.2 ⟨by omega, h2⟩⟩
            simp only [enc, ht, ← h1, List.take_append_drop]
            congr 1
            exact UInt8.toNat_inj.1 (by simp)

theorem lbl_iff {l : Bytes} {ls : List Bytes} : lbl l = some ls ↔ l = enc ls ∧ Ok ls :=
  ⟨fun h => lbl_some l.length l ls (Nat.le_refl _) h, fun h => by rw [h.1]; exact lbl_enc ls h.2⟩

theorem nm_iff {l : Bytes} {ls : List Bytes} : nm l = some ls ↔ l = enc ls ∧ Ok ls ∧ l.length ≤ 255 := by
  unfold nm
  split
  · rename_i h; rw [lbl_iff]; simp [h]
  · rename_i h; simp [h]

theorem may_iff {l : Bytes} : may l = true ↔ ∃ ls, l = enc ls ∧ Ok ls ∧ l.length ≤ 255 := by
  unfold may
  rw [Option.isSome_iff_exists]
  simp only [nm_iff]

theorem enc_inj {a b : List Bytes} (ha : Ok a) (hb : Ok b) (h : enc a = enc b) : a = b := by
  have h1 := lbl_enc a ha
  rw [h, lbl_enc b hb] at h1
  exact (Option.some.inj h1).symm

/-! ### folding -/
theorem low_length (l : Bytes) : (low l).length = l.length := by simp [low]
theorem low_append (a b : Bytes) : low (a ++ b) = low a ++ low b := by simp [low]
theorem lowB_small (c : UInt8) (h : c.toNat < 65) : lowB c = c := by
  unfold lowB
  rw [if_neg]
  rintro ⟨h1, _⟩
  have := UInt8.le_iff_toNat_le.1 h1
  simp at this
  omega
theorem lowB_idem (c : UInt8) : lowB (lowB c) = lowB c := by
  unfold lowB
  split
  · rename_i h
    rw [if_neg]
    rintro ⟨h1, h2⟩
    have a1 := UInt8.le_iff_toNat_le.1 h.1
    have a2 := UInt8.le_iff_toNat_le.1 h.2
    have b1 := UInt8.le_iff_toNat_le.1 h1
    have b2 := UInt8.le_iff_toNat_le.1 h2
    simp at a1 a2 b1 b2
    omega
  · rfl
theorem low_idem (l : Bytes) : low (low l) = low l := by
  simp only [low, List.map_map]
  exact List.map_congr_left fun c _ => lowB_idem c

def lowL (ls : List Bytes) : List Bytes := ls.map low
theorem lowL_ok {ls : List Bytes} (h : Ok ls) : Ok (lowL ls) := by
  intro l hl
  obtain ⟨x, hx, rfl⟩ := List.mem_map.1 hl
  rw [low_length]
  exact h x hx
theorem low_enc : ∀ ls : List Bytes, Ok ls → low (enc ls) = enc (lowL ls)
  | [], _ => by simp [enc, low, lowL, lowB_small]
  | l :: ls, h => by
    obtain ⟨⟨h1, h2⟩, h3⟩ := ok_cons.1 h
    have ih := low_enc ls h3
    have e : (UInt8.ofNat l.length).toNat = l.length := by simp; omega
    have e1 : lowB (UInt8.ofNat l.length) = UInt8.ofNat l.length := lowB_small _ (by rw [e]; omega)
    have : low (enc (l :: ls)) = lowB (UInt8.ofNat l.length) :: (low l ++ low (enc ls)) := by
      simp [enc, low]
    rw [this, e1, ih]
    simp [enc, lowL, low_length]
theorem lowL_idem (ls : List Bytes) : lowL (lowL ls) = lowL ls := by
  simp only [lowL, List.map_map]
  exact List.map_congr_left fun c _ => low_idem c

theorem nm_low {n : Bytes} {ls : List Bytes} (h : nm n = some ls) : nm (low n) = some (lowL ls) := by
  obtain ⟨h1, h2, h3⟩ := nm_iff.1 h
  rw [nm_iff]
  refine ⟨?_, lowL_ok h2, by rw [low_length]; exact h3⟩
  rw [h1, low_enc ls h2]

/-! ### the functions by their words -/
def fold (n : Bytes) : Bytes := if may n then low n else []
def labels (n : Bytes) : List Bytes := (nm n).getD []
def parentN (n : Bytes) : Bytes := match nm n with | some (_ :: ls) => enc ls | _ => []
def parentB (n : Bytes) : Bool := match nm n with | some (_ :: _) => true | _ => false
def same (a b : Bytes) : Bool := may a && may b && (low a == low b)
def within (n z : Bytes) : Bool :=
  match nm n, nm z with
  | some a, some b => (lowL b).isSuffixOf (lowL a)
  | _, _ => false

theorem may_some {n : Bytes} {ls : List Bytes} (h : nm n = some ls) : may n = true := by simp [may, h]
theorem may_none {n : Bytes} (h : nm n = none) : may n = false := by simp [may, h]
theorem nm_of_may {n : Bytes} (h : may n = true) : ∃ ls, nm n = some ls := Option.isSome_iff_exists.1 h
theorem nm_of_not {n : Bytes} (h : may n = false) : nm n = none := by simpa [may] using h

/-! ### within -/
theorem enc_append_length (a b : List Bytes) : (enc (a ++ b)).length = (a.map fun l => l.length + 1).sum + (enc b).length := by
  rw [enc_length, enc_length]; simp; omega
theorem enc_lowL_length (a : List Bytes) : (enc (lowL a)).length = (enc a).length := by
  rw [enc_length, enc_length]
  simp only [lowL, List.map_map]
  congr 2
  exact List.map_congr_left fun l _ => by simp [low]

/-- What the search for a boundary knows. -/
def Upto (a a2 : List Bytes) (zl : Nat) : Prop := (∃ a1, a = a1 ++ a2) ∧ ∀ x y, a = x ++ y → a2.length < y.length → zl < (enc y).length
theorem Upto.start (a : List Bytes) (zl : Nat) : Upto a a zl := by
  refine ⟨⟨[], rfl⟩, fun x y h hl => ?_⟩
  rw [h] at hl
  simp at hl
  omega
theorem Upto.step {a a2 : List Bytes} {l : Bytes} {zl : Nat} (h : Upto a (l :: a2) zl) (hz : zl < (enc (l :: a2)).length) : Upto a a2 zl := by
  obtain ⟨⟨a1, h1⟩, h2⟩ := h
  refine ⟨⟨a1 ++ [l], by simp [h1]⟩, fun x y hxy hl => ?_⟩
  by_cases hq : (l :: a2).length < y.length
  · exact h2 x y hxy hq
  · have hlen : y.length = (l :: a2).length := by simp at hq ⊢; omega
    have : y = l :: a2 := by
      have e := hxy.symm.trans h1
      exact (List.append_inj' e hlen).2
    rw [this]
    exact hz
theorem Upto.fin {a a2 b : List Bytes} (ha : Ok a) (hb : Ok b) (h : Upto a a2 (enc b).length) (hle : (enc a2).length ≤ (enc b).length) :
    (lowL b).isSuffixOf (lowL a) = (low (enc a2) == low (enc b)) := by
  obtain ⟨⟨a1, h1⟩, h2⟩ := h
  have ha2 : Ok a2 := fun l hl => ha l (by rw [h1]; exact List.mem_append_right _ hl)
  rw [Bool.eq_iff_iff, List.isSuffixOf_iff_suffix, beq_iff_eq, low_enc _ ha2, low_enc _ hb]
  constructor
  · rintro ⟨x', hx⟩
    have hal : (lowL a).length = a.length := by simp [lowL]
    have hbl : (lowL b).length = b.length := by simp [lowL]
    have hn : x'.length + b.length = a.length := by
      have := congrArg List.length hx
      simp [hbl, hal] at this
      exact this
    have hy : lowL (a.drop x'.length) = lowL b := by
      have e : lowL a = lowL (a.take x'.length) ++ lowL (a.drop x'.length) := by
        simp only [lowL, ← List.map_append, List.take_append_drop]
      rw [e] at hx
      refine ((List.append_inj' hx ?_).2).symm
      simp [lowL]
      omega
    have hyl : (enc (a.drop x'.length)).length = (enc b).length := by
      rw [← enc_lowL_length, hy, enc_lowL_length]
    have hcases : (a.drop x'.length).length = a2.length := by
      rcases Nat.lt_trichotomy (a.drop x'.length).length a2.length with hlt | heq | hgt
      · exfalso
        have e : a1 ++ a2 = a.take x'.length ++ a.drop x'.length := by rw [← h1, List.take_append_drop]
        have hs : (a2.drop (a2.length - (a.drop x'.length).length)) = a.drop x'.length := by
          have e2 : a1 ++ a2.take (a2.length - (a.drop x'.length).length) ++ a2.drop (a2.length - (a.drop x'.length).length) = a.take x'.length ++ a.drop x'.length := by
            rw [List.append_assoc, List.take_append_drop]
            exact e
          exact (List.append_inj' e2 (by simp at hlt ⊢; omega)).2
        have e3 : (enc a2).length = ((a2.take (a2.length - (a.drop x'.length).length)).map fun l => l.length + 1).sum + (enc (a.drop x'.length)).length := by
          conv => lhs; rw [← List.take_append_drop (a2.length - (a.drop x'.length).length) a2]
          rw [enc_append_length, hs]
        have hpos : 0 < ((a2.take (a2.length - (a.drop x'.length).length)).map fun l => l.length + 1).sum := by
          cases hc : a2.take (a2.length - (a.drop x'.length).length) with
          | nil =>
            have := congrArg List.length hc
            simp at this hlt
            omega
          | cons u v => simp; omega
        omega
      · exact heq
      · exfalso
        have := h2 (a.take x'.length) (a.drop x'.length) (by rw [List.take_append_drop]) hgt
        omega
    have : a.drop x'.length = a2 := by
      have e : a1 ++ a2 = a.take x'.length ++ a.drop x'.length := by rw [← h1, List.take_append_drop]
      exact (List.append_inj' e hcases.symm).2.symm
    rw [← this, hy]
  · intro h
    have := enc_inj (lowL_ok ha2) (lowL_ok hb) h
    rw [h1, ← this]
    exact ⟨lowL a1, by simp [lowL]⟩

end Go.Proofs.Ytdflhdfapnhjjaa.Nm
namespace Go.Proofs.Ytdflhdfapnhjjaa
open Go.RowKit

/-- A string's value. -/
def strV (l : List UInt8) : Value := .string ⟨l.toArray⟩

theorem ret_bool {a b : Bool} (h : a = b) : Ending.returned (.bool a) = .returned (.bool b) := by rw [h]
theorem ret_str {a b : ByteArray} (h : a = b) : Ending.returned (.string a) = .returned (.string b) := by rw [h]
theorem drop_at (s : ByteArray) (k : Nat) (h : k < s.size) : s.data.toList.drop k = s[k] :: s.data.toList.drop (k + 1) := by
  rw [List.drop_eq_getElem_cons (by simpa using h)]; rfl
theorem may_short {l : Nm.Bytes} (h : ¬ 255 < l.length) : Nm.may l = (Nm.lbl l).isSome := by
  unfold Nm.may Nm.nm; rw [if_pos (by omega)]
theorem may_long {l : Nm.Bytes} (h : 255 < l.length) : Nm.may l = false := by
  unfold Nm.may Nm.nm; rw [if_neg (by omega)]; rfl

theorem add_mk (b o j : Nat) : (⟨b, o, none⟩ : Addr).add j = ⟨b, o + j, none⟩ := by
  unfold Addr.add; split
  · rename_i h; subst h; rfl
  · rfl
theorem setCell_new (w : World) (C : Array Value) (t : TypeId) (fr : Nat × Nat) (k : Nat) (v : Value) :
    (w.alloc (.cells C t fr)).setCell ⟨w.heap.size, k, none⟩ v = w.alloc (.cells (C.setIfInBounds k v) t fr) := by
  show ({ w with heap := (w.heap.push (.cells C t fr)).modify w.heap.size _ } : World) = { w with heap := w.heap.push _ }
  congr 1
  apply Array.ext_getElem?
  intro i
  rw [Array.getElem?_modify]
  by_cases h : w.heap.size = i
  · subst h; simp
  · simp [h, Array.getElem?_push, Ne.symm h]
/-- A row of bytes, as 'string(b)' reads it. -/
theorem run_back {P : Program} (W : World) (src dst e : TypeId) (b n cap : Nat) (l : List UInt8) (hn : n = l.length) (hs : P.underlying src = some (.slice e)) (he : P.underlying e = some (.int .u8)) (hd : P.underlying dst = some .string)
    (hc : ∀ j (hj : j < l.length), W.cell? ⟨b, j, none⟩ = some (.int .u8 (l[j].toNat : Int))) :
    (convert src dst (.slice (some ⟨b, 0, none⟩) n cap)).run P W = .ok (.string ⟨l.toArray⟩) W := by
  subst hn
  exact run_convert_bytes_back W src dst e ⟨b, 0, none⟩ cap l hs he hd (fun j hj => by rw [add_mk, Nat.zero_add]; exact hc j hj)

theorem bytesRow_ge (s : ByteArray) (cap : Nat) : s.size ≤ (bytesRow s cap).size := by
  unfold bytesRow; simp


/-- A callee's contract, in a region that draws its order. -/
theorem Calls.inGrown {P : Program} {f : FuncId} {args : Array Value} {w : World} {v : Value}
    (h : ∀ W, Calls P f args W fun e w' => e = .returned v ∧ Below W.heap.size W w') (d : Nat) (os : Array Obj) :
    Calls P f args (Sort.grow (redrawn w d) os) fun e w'' => e = .returned v ∧ ∃ p : Regrown, w'' = Sort.grow (redrawn w p.d) p.os := Calls.regrown_of (h _)
theorem Calls.sameBelow {P : Program} {f : FuncId} {args : Array Value} {v : Value} {W : World}
    (h : Calls P f args W fun e w' => e = .returned v ∧ W = w') : Calls P f args W fun e w' => e = .returned v ∧ Below W.heap.size W w' :=
  h.mono fun e w' ⟨he, hw⟩ => by subst hw; exact ⟨he, Below.refl _ _⟩

end Go.Proofs.Ytdflhdfapnhjjaa
namespace Go.Proofs.Ytdflhdfapnhjjaa
open Go.RowKit

set_option maxHeartbeats 400000 in
theorem may_any (s : ByteArray) (w : World) (hs : s.size ≤ maxLen) :
    Calls Try.prog 28 #[.string s] w fun e w' => e = .returned (.bool (Nm.may s.data.toList)) ∧ w = w' := by
  unfold maxLen at hs
  by_cases h0 : s.size = 0
  · have : s = ByteArray.empty := by simpa using h0
    subst this
    go_enter Try.func28, Try.ntmps28
    go_wp2
    go_ret
    exact ⟨rfl, rfl⟩
  · have h0' : ((s.size : Int) == 0) = false := beq_eq_false_iff_ne.2 (by omega)
    by_cases hlong : 255 < s.size
    · have hm : Hid (Nm.may s.data.toList = false) := may_long (by simpa using hlong)
      go_enter Try.func28, Try.ntmps28
      go_wp2
      go_ret
      exact ⟨ret_bool hm.out.symm, rfl⟩
    · have hl' : decide (255 < s.size) = false := by simpa using hlong
      have hm : Hid (Nm.may s.data.toList = (Nm.lbl s.data.toList).isSome) := may_short (by simpa using hlong)
      go_enter Try.func28, Try.ntmps28
      go_wp2
      go_loop [3, 4] (fun i _ => ∃ k : Nat, k ≤ 319 ∧ i = .int .i64 k ∧ (Nm.lbl (s.data.toList.drop k)).isSome = Nm.may s.data.toList) (fun i _ => s.size - (intOf i).toNat)
      case atStart => exact ⟨0, by omega, rfl, by rw [hm.out]; rfl⟩
      case round =>
        obtain ⟨k, hk, rfl, hr⟩ := hrel
        have HR := Lib.hid hr
        clear hr
        by_cases hlt : k < s.size
        · have hd := Lib.hid (drop_at s k hlt)
          obtain ⟨c, hc⟩ : ∃ c, s[k] = c := ⟨_, rfl⟩
          have hd2 : Hid (s.data.toList.drop k = c :: s.data.toList.drop (k + 1)) := by have := hd.out; rwa [hc] at this
          clear hd
          have hlen : (s.data.toList.drop (k + 1)).length = s.size - (k + 1) := by simp
          have HL := Lib.hid hlen
          clear hlen
          have hb := c.toNat_lt
          by_cases hz : c = 0
          · subst hz
            go_wp2
            go_ret
            refine ⟨ret_bool ?_, rfl⟩
            rw [← HR.out, hd2.out, Nm.lbl_cons, if_pos rfl]
            by_cases hq : k + 1 = s.size
            · rw [if_pos (List.eq_nil_of_length_eq_zero (by rw [HL.out]; omega))]
              exact beq_iff_eq.2 (by omega)
            · rw [if_neg (fun hn => by rw [hn] at HL; have := HL.out; simp at this; omega)]
              exact beq_eq_false_iff_ne.2 (by omega)
          · have hz1 : 1 ≤ c.toNat := by
              rcases Nat.eq_zero_or_pos c.toNat with h | h
              · exact absurd (UInt8.toNat_inj.1 (by simpa using h)) hz
              · exact h
            have hz2 : ((c.toNat : Int) == 0) = false := beq_eq_false_iff_ne.2 (by omega)
            have HZ := Lib.hid hz
            clear hz
            by_cases h63 : 63 < c.toNat
            · go_wp2
              go_ret
              refine ⟨ret_bool ?_, rfl⟩
              rw [← HR.out, hd2.out, Nm.lbl_cons, if_neg HZ.out, if_pos h63]
              rfl
            · go_wp2
              go_round
              case rel =>
                refine ⟨k + (1 + c.toNat), by omega, by go_num, ?_⟩
                rw [← HR.out, hd2.out, Nm.lbl_cons, if_neg HZ.out, if_neg h63]
                by_cases hq : s.size - (k + 1) < c.toNat
                · rw [if_pos (by rw [HL.out]; exact hq), List.drop_of_length_le (by simp; omega)]
                  rfl
                · rw [if_neg (by rw [HL.out]; exact hq), List.drop_drop, Option.isSome_map]
                  congr 3
                  omega
              case measure => simp [intOf]; omega
        · go_wp2
          go_ret
          refine ⟨ret_bool ?_, rfl⟩
          rw [← HR.out, List.drop_of_length_le (by simp; omega)]
          rfl
end Go.Proofs.Ytdflhdfapnhjjaa
namespace Go.Proofs.Ytdflhdfapnhjjaa
open Go.RowKit

theorem lowB_yes (c : UInt8) (h1 : 65 ≤ c.toNat) (h2 : c.toNat ≤ 90) : ((Nm.lowB c).toNat : Int) = (c.toNat : Int) + 32 := by
  unfold Nm.lowB
  rw [if_pos ⟨UInt8.le_iff_toNat_le.2 (by simpa using h1), UInt8.le_iff_toNat_le.2 (by simpa using h2)⟩]
  rw [UInt8.toNat_add]
  have : (32 : UInt8).toNat = 32 := rfl
  rw [this]
  omega
theorem lowB_no (c : UInt8) (h : ¬ (65 ≤ c.toNat ∧ c.toNat ≤ 90)) : Nm.lowB c = c := by
  unfold Nm.lowB
  rw [if_neg]
  rintro ⟨h1, h2⟩
  exact h ⟨by simpa using UInt8.le_iff_toNat_le.1 h1, by simpa using UInt8.le_iff_toNat_le.1 h2⟩
/-- The bytes of a row, the first k of them folded. -/
def LowTo (l : List UInt8) (k : Nat) (C : Array Value) : Prop :=
  ∀ j (hj : j < l.length), C[j]? = some (.int .u8 ((if j < k then Nm.lowB l[j] else l[j]).toNat : Int))

theorem LowTo.start (s : ByteArray) (cap : Nat) : LowTo s.data.toList 0 (bytesRow s cap) := by
  intro j hj
  rw [bytesRow_at s cap j (by simpa using hj)]
  simp
theorem LowTo.same {l : List UInt8} {k : Nat} {C : Array Value} (h : LowTo l k C) (hk : k < l.length) (he : Nm.lowB l[k] = l[k]) : LowTo l (k + 1) C := by
  intro j hj
  rw [h j hj]
  by_cases h1 : j < k
  · rw [if_pos h1, if_pos (by omega)]
  · by_cases h2 : j = k
    · subst h2; rw [if_neg h1, if_pos (by omega), he]
    · rw [if_neg h1, if_neg (by omega)]
theorem LowTo.put {l : List UInt8} {k : Nat} {C : Array Value} (h : LowTo l k C) (hk : k < l.length) (hC : l.length ≤ C.size) : LowTo l (k + 1) (C.setIfInBounds k (.int .u8 ((Nm.lowB l[k]).toNat : Int))) := by
  intro j hj
  by_cases h2 : k = j
  · subst h2; rw [Array.getElem?_setIfInBounds_self_of_lt (by omega), if_pos (by omega)]
  · rw [Array.getElem?_setIfInBounds_ne h2, h j hj]
    by_cases h1 : j < k
    · rw [if_pos h1, if_pos (by omega)]
    · rw [if_neg h1, if_neg (by omega)]
theorem LowTo.fin {l : List UInt8} {C : Array Value} (h : LowTo l l.length C) (j : Nat) (hj : j < (Nm.low l).length) : C[j]? = some (.int .u8 ((Nm.low l)[j].toNat : Int)) := by
  have hj' : j < l.length := by simpa [Nm.low] using hj
  rw [h j hj', if_pos hj']
  simp [Nm.low]
set_option maxHeartbeats 400000 in
theorem lower_any (s : ByteArray) (w : World) (hs : s.size ≤ maxLen) :
    Calls Try.prog 66 #[.string s] w fun e w' => e = .returned (.string ⟨(Nm.low s.data.toList).toArray⟩) ∧ Below w.heap.size w w' := by
  unfold maxLen at hs
  have kc := fun (w : World) (s : ByteArray) => run_bytes_of_string (P := Try.prog) w 9 116 5 s Try.underlying9 Try.underlying116 Try.underlying5
  go_enter Try.func66, Try.ntmps66
  go_wp2
  generalize hcap : grownCap w s.size 0 5 = cap
  clear hcap kc
  have hM := bytesRow_ge s cap
  have hC0 := LowTo.start s cap
  obtain ⟨C0, hC0e⟩ : ∃ C, C = bytesRow s cap := ⟨_, rfl⟩
  rw [← hC0e] at hM hC0 ⊢
  clear hC0e
  go_loopw [4, 5, 10] (fun _ _ i wr => ∃ (k : Nat) (C : Array Value), k ≤ s.size ∧ i = .int .i64 k ∧ C.size = C0.size ∧ LowTo s.data.toList k C ∧ wr = (w.alloc (.cells C 5 (C0.size, C0.size + 1))).drew) (fun _ _ i _ => s.size - (intOf i).toNat)
  case atStart => exact ⟨0, C0, by omega, rfl, rfl, hC0, rfl⟩
  case round =>
    obtain ⟨k, C, hk, rfl, hCs, hC, rfl⟩ := hrel
    have HC := Lib.hid hC
    have HCs := Lib.hid hCs
    clear hC hCs hC0
    by_cases hlt : k < s.size
    · have hcell : (w.alloc (.cells C 5 (C0.size, C0.size + 1))).cell? ⟨w.heap.size, k, none⟩ = some (.int .u8 (s[k].toNat : Int)) := by
        rw [World.cell?_alloc_mark]
        have := HC.out k (by simpa using hlt)
        rw [this, if_neg (by omega)]
        rfl
      have hfr : (w.alloc (.cells C 5 (C0.size, C0.size + 1))).frozen? ⟨w.heap.size, k, none⟩ = false := by
        rw [World.frozen?_alloc_mark]
        simp
        omega
      have hnx := Lib.hid (HC.out.put (k := k) (by simpa using hlt) (by rw [HCs.out]; simpa using hM))
      have hnx2 := Lib.hid (HC.out.same (k := k) (by simpa using hlt))
      obtain ⟨c, hc⟩ : ∃ c, s[k] = c := ⟨_, rfl⟩
      have hc2 : Hid (s.data.toList[k]'(by simpa using hlt) = c) := hc
      have hb := c.toNat_lt
      by_cases h65 : 65 ≤ c.toNat ∧ c.toNat ≤ 90
      · obtain ⟨ha, hz⟩ := h65
        go_wp2
        have hc3 := Lib.hid (lowB_yes c ha hz)
        go_wp2
        refine ⟨⟨k + 1, _, by omega, by go_num, ?_, hnx.out, ?_⟩, by simp [intOf]; omega⟩
        · simpa using HCs.out
        · rw [hc2.out, hc3.out, setCell_new]
      · have hsm := Lib.hid (hnx2.out (by rw [hc2.out]; exact lowB_no c h65))
        go_wp2
        all_goals exact ⟨⟨k + 1, C, by omega, by go_num, HCs.out, hsm.out, rfl⟩, by simp [intOf]; omega⟩
    · obtain rfl : k = s.size := by omega
      have hfin := HC.out
      have hbk := fun W hc => run_back (P := Try.prog) W 116 9 5 w.heap.size s.size cap (Nm.low s.data.toList) (by simp [Nm.low]) Try.underlying116 Try.underlying5 Try.underlying9 hc
      have hbk2 := hbk (w.alloc (.cells C 5 (C0.size, C0.size + 1))).drew (fun j hj => by
        show (w.alloc (.cells C 5 (C0.size, C0.size + 1))).cell? _ = _
        rw [World.cell?_alloc_mark]
        exact LowTo.fin (by simpa using hfin) j hj)
      clear hbk hfin
      go_wp2
      go_ret
      exact ⟨rfl, ((Below.refl _ _).alloc (Nat.le_refl _) _).drew⟩
end Go.Proofs.Ytdflhdfapnhjjaa
namespace Go.Proofs.Ytdflhdfapnhjjaa
open Go.RowKit

theorem info_string : (Try.prog.info? 9).map (fun i => (i.zero, i.size, i.bytes)) = some (some (.string ByteArray.empty), 1, 16) := by kernel_rfl

theorem enc_head {l : Nm.Bytes} {ls : List Nm.Bytes} (h : Nm.Ok (l :: ls)) : (UInt8.ofNat l.length).toNat = l.length := by
  have := (Nm.ok_cons.1 h).1
  simp
  omega

end Go.Proofs.Ytdflhdfapnhjjaa
namespace Go.Proofs.Ytdflhdfapnhjjaa
open Go.RowKit

theorem nm_size {s : ByteArray} {ls : List Nm.Bytes} (h : Nm.nm s.data.toList = some ls) : s.size ≤ 255 := by
  have := (Nm.nm_iff.1 h).2.2
  simpa using this

theorem fold_any (s : ByteArray) (w : World) (hs : s.size ≤ maxLen) :
    Calls Try.prog 29 #[.string s] w fun e w' => e = .returned (strV (Nm.fold s.data.toList)) ∧ Below w.heap.size w w' := by
  cases hm : Nm.may s.data.toList with
  | false =>
    have hv : Nm.fold s.data.toList = [] := by simp [Nm.fold, hm]
    have HV := Lib.hid hv
    have HM := Lib.hid hm
    clear hv hm
    go_enter Try.func29, Try.ntmps29
    go_wp2_with fail
    refine (may_any _ _ hs).mono ?_
    rintro e w' ⟨rfl, rfl⟩
    rw [HM.out]
    go_wp2_with fail
    go_ret
    rw [HV.out]
    exact ⟨rfl, Below.refl _ _⟩
  | true =>
    have hv : Nm.fold s.data.toList = Nm.low s.data.toList := by simp [Nm.fold, hm]
    have HV := Lib.hid hv
    have HM := Lib.hid hm
    clear hv hm
    go_enter Try.func29, Try.ntmps29
    go_wp2_with fail
    refine (may_any _ _ hs).mono ?_
    rintro e w' ⟨rfl, rfl⟩
    rw [HM.out]
    go_wp2_with fail
    refine (lower_any _ _ hs).mono ?_
    rintro e w' ⟨rfl, hb⟩
    go_wp2_with fail
    go_ret
    rw [HV.out]
    exact ⟨rfl, hb⟩

end Go.Proofs.Ytdflhdfapnhjjaa
namespace Go.Proofs.Ytdflhdfapnhjjaa
open Go.RowKit

/-- A slice of strings in memory. -/
def SRow (w : World) (v : Value) (ns : List Nm.Bytes) : Prop :=
  ∃ a cap, v = .slice a ns.length cap ∧ (ns = [] ∨ ∃ b off, a = some ⟨b, off, none⟩ ∧ b < w.heap.size ∧ ∀ i n, ns[i]? = some n → w.cell? ⟨b, off + i, none⟩ = some (strV n))

theorem SRow.below {w w' : World} {v : Value} {ns : List Nm.Bytes} (h : SRow w v ns) {B : Nat} (hb : Below B w w') (hB : w.heap.size ≤ B) : SRow w' v ns := by
  obtain ⟨a, cap, hv, h⟩ := h
  refine ⟨a, cap, hv, h.imp id ?_⟩
  rintro ⟨b, off, ha, hlt, hc⟩
  refine ⟨b, off, ha, Nat.lt_of_lt_of_le hlt hb.size, fun i n hi => ?_⟩
  rw [hb.cell (Nat.lt_of_lt_of_le hlt hB)]
  exact hc i n hi


theorem SRow.own {w : World} {base : Nat} {v : Value} {ns : List Nm.Bytes} {e : TypeId} (h : w.ownsRow base e 1 v ns.length (ns.map strV)) : SRow w v ns := by
  obtain ⟨_, ⟨rfl, h0⟩ | ⟨g, cap, cur, rfl, _, hg, _, _, _, htk⟩⟩ := h
  · have : ns = [] := List.eq_nil_of_length_eq_zero h0
    subst this
    exact ⟨none, 0, rfl, Or.inl rfl⟩
  · refine ⟨_, cap, rfl, Or.inr ⟨g, 0, rfl, (Array.getElem?_eq_some_iff.1 hg).1, fun i n hi => ?_⟩⟩
    have hil : i < ns.length := (List.getElem?_eq_some_iff.1 hi).1
    unfold World.cell?
    rw [hg]
    have : (cur.toList.take (ns.length * 1))[i]? = some (strV n) := by rw [htk, List.getElem?_map, hi]; rfl
    rw [List.getElem?_take_of_lt (by omega)] at this
    simpa using this

end Go.Proofs.Ytdflhdfapnhjjaa
namespace Go.Proofs.Ytdflhdfapnhjjaa
open Go.RowKit

/-- The order of labels, the last one first. -/
def cmpR : List Nm.Bytes → List Nm.Bytes → Int
  | [], [] => 0
  | [], _ :: _ => -1
  | _ :: _, [] => 1
  | x :: xs, y :: ys => if Lib.compareBytes x y = 0 then cmpR xs ys else Lib.compareBytes x y
def cmpL (a b : List Nm.Bytes) : Int := cmpR (Nm.lowL a).reverse (Nm.lowL b).reverse
def cmpN (n m : Nm.Bytes) : Int := match Nm.nm n, Nm.nm m with | some a, some b => cmpL a b | _, _ => 0

theorem take_rev {α : Type} (l : List α) (p : Nat) (x : α) (h : l[p]? = some x) : (l.take (p + 1)).reverse = x :: (l.take p).reverse := by
  rw [List.take_add_one, h]
  simp

theorem compareBytes_bd : ∀ a b : List UInt8, Lib.compareBytes a b = -1 ∨ Lib.compareBytes a b = 0 ∨ Lib.compareBytes a b = 1
  | [], [] => by simp [Lib.compareBytes]
  | [], _ :: _ => by simp [Lib.compareBytes]
  | _ :: _, [] => by simp [Lib.compareBytes]
  | a :: r, b :: t => by
    unfold Lib.compareBytes
    split
    · simp
    · split
      · simp
      · exact compareBytes_bd r t

end Go.Proofs.Ytdflhdfapnhjjaa
namespace Go.Proofs.Ytdflhdfapnhjjaa
namespace Vd
structure Piece where
  s : Bytes
  nam : Bool
deriving DecidableEq
/-- ahead, names, behind; none: another form. -/
def layout (k : Int) : Option (Nat × Nat × Nat) :=
  if k = 1 then some (4, 0, 0) else if k = 28 then some (16, 0, 0) else if k = 2 ∨ k = 5 ∨ k = 12 then some (0, 1, 0) else if k = 15 then some (2, 1, 0) else if k = 6 then some (0, 2, 20) else if k = 33 then some (6, 1, 0) else none
/-- From a place on there are whole texts. -/
def txtOk : Nat → Bytes → Bool
  | 0, _ => true
  | _ + 1, [] => true
  | f + 1, c :: t => if c.toNat ≤ t.length then txtOk f (t.drop c.toNat) else false
/-- A name in a message: its bytes, the place behind, the error. -/
def rdName (msg : Bytes) : Nat → Nat → Nat → Int → Bytes → Option (Bytes × Int × Int)
  | 0, _, _, _, _ => none
  | f + 1, pos, ahead, next, n =>
    match msg[pos]? with
    | none => some ([], 0, 4)
    | some b =>
      if b.toNat = 0 then some (n ++ [0], if next < 0 then (pos : Int) + 1 else next, 0)
      else if 192 ≤ b.toNat then
        match msg[pos + 1]? with
        | none => some ([], 0, 4)
        | some c =>
          if ahead ≤ (b.toNat - 192) * 256 + c.toNat then some ([], 0, 8)
          else rdName msg f ((b.toNat - 192) * 256 + c.toNat) ((b.toNat - 192) * 256 + c.toNat) (if next < 0 then (pos : Int) + 2 else next) n
      else if 64 ≤ b.toNat then some ([], 0, 3)
      else if msg.length < pos + 1 + b.toNat then some ([], 0, 4)
      else if 255 < (n ++ (msg.drop pos).take (1 + b.toNat)).length + 1 then some ([], 0, 5)
      else rdName msg f (pos + 1 + b.toNat) ahead next (n ++ (msg.drop pos).take (1 + b.toNat))
def rdFuel (ahead : Nat) (n : Bytes) : Nat := ahead * 256 + (256 - n.length) + 1
theorem rdFuel_pos (ahead : Nat) (n : Bytes) : 1 ≤ rdFuel ahead n := Nat.succ_le_succ (Nat.zero_le _)
theorem rdFuel_jump {a b : Nat} {n : Bytes} (h : b < a) : rdFuel b n < rdFuel a n := by unfold rdFuel; omega
theorem rdFuel_on {a : Nat} {n m : Bytes} (h : n.length < m.length) (h2 : m.length ≤ 255) : rdFuel a m < rdFuel a n := by unfold rdFuel; omega
theorem rdName_some (msg : Bytes) : ∀ (f pos ahead : Nat) (next : Int) (n : Bytes), rdFuel ahead n ≤ f → ∃ r, rdName msg f pos ahead next n = some r := by
  intro f
  induction f with
  | zero => intro pos ahead next n h; exact absurd (Nat.le_trans (rdFuel_pos ahead n) h) (by decide)
  | succ f ih =>
    intro pos ahead next n h
    simp only [rdName]
    cases h1 : msg[pos]? with
    | none => exact ⟨_, rfl⟩
    | some b =>
      dsimp only
      by_cases c1 : b.toNat = 0
      · rw [if_pos c1]; exact ⟨_, rfl⟩
      rw [if_neg c1]
      by_cases c2 : 192 ≤ b.toNat
      · rw [if_pos c2]
        cases h2 : msg[pos + 1]? with
        | none => exact ⟨_, rfl⟩
        | some c =>
          dsimp only
          by_cases c3 : ahead ≤ (b.toNat - 192) * 256 + c.toNat
          · rw [if_pos c3]; exact ⟨_, rfl⟩
          rw [if_neg c3]
          exact ih _ _ _ _ (by have := rdFuel_jump (n := n) (Nat.lt_of_not_le c3); omega)
      rw [if_neg c2]
      by_cases c4 : 64 ≤ b.toNat
      · rw [if_pos c4]; exact ⟨_, rfl⟩
      rw [if_neg c4]
      by_cases c5 : msg.length < pos + 1 + b.toNat
      · rw [if_pos c5]; exact ⟨_, rfl⟩
      rw [if_neg c5]
      by_cases c6 : 255 < (n ++ (msg.drop pos).take (1 + b.toNat)).length + 1
      · rw [if_pos c6]; exact ⟨_, rfl⟩
      rw [if_neg c6]
      refine ih _ _ _ _ ?_
      have : (n ++ (msg.drop pos).take (1 + b.toNat)).length = n.length + (1 + b.toNat) := by rw [List.length_append, List.length_take, List.length_drop]; omega
      have := rdFuel_on (a := ahead) (n := n) (m := n ++ (msg.drop pos).take (1 + b.toNat)) (by omega) (by omega)
      omega
/-- P4.1 -/
def readName (msg : Bytes) (pos : Int) : Bytes × Int × Int :=
  if pos < 0 ∨ (msg.length : Int) < pos then ([], 0, 1) else (rdName msg (rdFuel pos.toNat []) pos.toNat pos.toNat (-1) []).getD ([], 0, 0)
def names (msg : Bytes) : Nat → Nat → List Piece → Nat × List Piece × Int
  | 0, pos, out => (pos, out, 0)
  | k + 1, pos, out => match readName msg pos with
    | (n, next, e) => if e ≠ 0 then (pos, out, e) else names msg k next.toNat (out ++ [⟨n, true⟩])
def pieces (msg : Bytes) (pos : Nat) (k : Int) : List Piece × Int :=
  if k = 41 then ([], 3)
  else if k = 16 then (if msg.drop pos = [] then ([], 4) else if txtOk (msg.length + 1) (msg.drop pos) then ([⟨msg.drop pos, false⟩], 0) else ([], 4))
  else match layout k with
    | none => ([⟨msg.drop pos, false⟩], 0)
    | some (a, m, b) =>
      if msg.length - pos < a then ([], 4)
      else match names msg m (pos + a) [⟨(msg.drop pos).take a, false⟩] with
        | (p, out, e) => if e ≠ 0 then ([], e) else if msg.length < p + b then ([], 4) else if p + b < msg.length then ([], 3) else (out ++ [⟨msg.drop p, false⟩], 0)
def joined (l : List Piece) : Bytes := l.flatMap (·.s)
def whole (k : Int) (d : Bytes) : List Piece × Bool := if (pieces d 0 k).2 ≠ 0 ∨ joined (pieces d 0 k).1 ≠ d then ([], false) else ((pieces d 0 k).1, true)
def mayD (k : Int) (d : Bytes) : Bool := (whole k d).2
def foldP (p : Piece) : Bytes := if p.nam then Nm.fold p.s else p.s
def foldD (k : Int) (d : Bytes) : Bytes := (whole k d).1.flatMap foldP

/-! ### sets -/
def before (a b : RSet) : Bool := if cmpN a.name b.name ≠ 0 then decide (cmpN a.name b.name < 0) else if a.kind ≠ b.kind then decide (a.kind < b.kind) else decide (a.cls < b.cls)
def gtB (a b : Bytes) : Bool := !(Op.bytesLess a b || a == b)
/-- A datum more, rising, each once. -/
def putGo (s : Bytes) : List Bytes → List Bytes → Bool → List Bytes ⊕ (List Bytes × Bool)
  | [], out, done => .inr (out, done)
  | x :: l, out, done => if x = s then .inl [] else if !done && gtB x s then putGo s l ((out ++ [s]) ++ [x]) true else putGo s l (out ++ [x]) done
def put (l : List Bytes) (s : Bytes) : List Bytes := match putGo s l [] false with
  | .inl _ => l
  | .inr (out, done) => if done then out else out ++ [s]
def timeT (t : Int) : Int := if 2147483647 < t then 0 else t
def hasKey (s : RSet) (n : Bytes) (k c : Int) : Bool := s.name == n && s.kind == k && s.cls == c
/-- The last place of a key. -/
def keyAt (sets : List RSet) (n : Bytes) (k c : Int) : Nat → Option Nat
  | 0 => none
  | j + 1 => match sets[j]? with
    | some s => if hasKey s n k c then some j else keyAt sets n k c j
    | none => keyAt sets n k c j
def addRec (sets : List RSet) (x : Rec) : List RSet :=
  if Nm.may x.name && mayD x.kind x.data then
    match keyAt sets (Nm.fold x.name) x.kind x.cls sets.length with
    | none => sets ++ [⟨Nm.fold x.name, x.kind, x.cls, timeT x.ttl, [foldD x.kind x.data]⟩]
    | some j => match sets[j]? with
      | some s => sets.set j { s with ttl := min s.ttl (timeT x.ttl), data := put s.data (foldD x.kind x.data) }
      | none => sets
  else sets
def gather (l : List Rec) : List RSet := l.foldl addRec []
/-- The place of the first of the least ones. -/
def leastAt (sets : List RSet) : Nat → Nat
  | 0 => 0
  | j + 1 => match sets[j + 1]?, sets[leastAt sets j]? with
    | some s, some t => if before s t then j + 1 else leastAt sets j
    | _, _ => leastAt sets j
def rise : Nat → List RSet → List RSet
  | 0, _ => []
  | _ + 1, [] => []
  | f + 1, s :: l => (match (s :: l)[leastAt (s :: l) l.length]? with | some x => [x] | none => []) ++ rise f ((s :: l).eraseIdx (leastAt (s :: l) l.length))
def group (l : List Rec) : List RSet := rise (gather l).length (gather l)
def findS (l : List RSet) (n : Bytes) (k c : Int) : RSet × Bool := match l.find? fun s => Nm.same s.name n && s.kind == k && s.cls == c with
  | some s => (s, true)
  | none => (RSet.none, false)
structure Trail where
  chain : List RSet
  pos : Bytes
  last : List RSet
  e : Int
deriving DecidableEq
def trailEnd (q : Quest) (l : List RSet) (pos : Bytes) (chain : List RSet) : Trail :=
  if (findS l pos q.kind q.cls).2 then ⟨chain, pos, [(findS l pos q.kind q.cls).1], 0⟩ else ⟨chain, pos, [], 0⟩
def followGo (q : Quest) (l : List RSet) : Nat → Bytes → List Bytes → List RSet → Trail
  | 0, pos, _, chain => trailEnd q l pos chain
  | f + 1, pos, met, chain =>
    if q.kind = 5 then trailEnd q l pos chain
    else if !(findS l pos 5 q.cls).2 then trailEnd q l pos chain
    else if 8 ≤ chain.length then ⟨[], [], [], 5⟩
    else match (findS l pos 5 q.cls).1.data with
      | [d] =>
        if !Nm.may d || (findS l pos q.kind q.cls).2 then ⟨[], [], [], 3⟩
        else if met.contains (Nm.fold d) then ⟨[], [], [], 8⟩
        else followGo q l f (Nm.fold d) (met ++ [Nm.fold d]) (chain ++ [(findS l pos 5 q.cls).1])
      | _ => ⟨[], [], [], 3⟩
def follow (q : Quest) (l : List RSet) : Trail := if Nm.may q.name then followGo q l 9 (Nm.fold q.name) [Nm.fold q.name] [] else ⟨[], [], [], 1⟩
def nLabels (n : Bytes) : Nat := (Nm.labels n).length
def fits (s : RSet) (n : Bytes) (c : Int) : Bool := s.kind == 6 && s.cls == c && Nm.within n s.name
/-- The place of the first of those that fit and have most labels. -/
def bestAt (l : List RSet) (n : Bytes) (c : Int) : Nat → Int
  | 0 => -1
  | j + 1 => match l[j]? with
    | some s => if fits s n c && (decide (bestAt l n c j < 0) || (match l[(bestAt l n c j).toNat]? with | some t => decide (nLabels t.name < nLabels s.name) | none => false)) then (j : Int) else bestAt l n c j
    | none => bestAt l n c j
def findSoa (l : List RSet) (n : Bytes) (c : Int) : RSet × Bool × Int :=
  if bestAt l n c l.length < 0 then (RSet.none, false, 0) else match l[(bestAt l n c l.length).toNat]? with
    | some s => if s.data.length ≠ 1 then (RSet.none, false, 3) else (s, true, 0)
    | none => (RSet.none, false, 0)
def last4 (d : Bytes) : Int := (d.drop (d.length - 4)).foldl (fun n c => (n * 256 + c.toNat) % 4294967296) (0 : Int)
def soaTime (s : RSet) : Int := if s.kind ≠ 6 then 0 else match s.data with
  | [d] => if mayD 6 d then (if 2147483647 < last4 d ∨ 2147483647 < s.ttl then 0 else min (last4 d) s.ttl) else 0
  | _ => 0
def leastT (l : List RSet) (t : Int) : Int := l.foldl (fun t s => min t s.ttl) t
def bare (s : RSet) : RSet := { s with ttl := 0 }
structure Msg where
  code : Int
  answers : List Rec
  auth : List Rec
def ofM (q : Quest) (m : Msg) : Vdt × Int × Int :=
  if !Nm.may q.name || (m.code != 0 && m.code != 3) then (Vdt.none, 0, 1)
  else match follow q (group m.answers) with
    | ⟨l, pos, last, e⟩ =>
      if e ≠ 0 then (Vdt.none, 0, e)
      else if m.code = 3 ∧ last ≠ [] then (Vdt.none, 0, 3)
      else if last ≠ [] then (⟨m.code, (l ++ last).map bare, []⟩, leastT (l ++ last) 2147483647, 0)
      else match findSoa (group m.auth) pos q.cls with
        | (s, is, e) =>
          if e ≠ 0 then (Vdt.none, 0, e)
          else if !is then (⟨m.code, (l ++ last).map bare, []⟩, 0, 0)
          else (⟨m.code, (l ++ last).map bare, [bare s]⟩, min (leastT (l ++ last) 2147483647) (soaTime s), 0)
def endV (q : Quest) (v : Vdt) : RSet × Bool := match v.sets.getLast? with
  | some s => if s.kind = q.kind then (s, true) else (RSet.none, false)
  | none => (RSet.none, false)
end Vd
end Go.Proofs.Ytdflhdfapnhjjaa
namespace Go.Proofs.Ytdflhdfapnhjjaa
open Go.RowKit
set_option linter.unusedVariables false
open Classical in
/-- Is it this one? -/
noncomputable def hit (p q : Nat × Obj) : Nat := if p = q then 1 else 0
noncomputable def cnt (p : Nat × Obj) : Blocks → Nat
  | [] => 0
  | q :: L => hit p q + cnt p L
theorem cnt_nil (p : Nat × Obj) : cnt p [] = 0 := rfl
theorem cnt_cons (p q : Nat × Obj) (L : Blocks) : cnt p (q :: L) = hit p q + cnt p L := rfl
theorem cnt_append (p : Nat × Obj) : ∀ A B : Blocks, cnt p (A ++ B) = cnt p A + cnt p B
  | [], B => by simp [cnt]
  | q :: A, B => by rw [List.cons_append, cnt_cons, cnt_cons, cnt_append p A B]; omega
theorem cnt_pos {p : Nat × Obj} : ∀ {L : Blocks}, p ∈ L ↔ 1 ≤ cnt p L
  | [] => by simp [cnt]
  | q :: L => by
    rw [cnt_cons, List.mem_cons, cnt_pos (L := L)]
    unfold hit
    by_cases h : p = q
    · rw [if_pos h]; simp [h]
    · rw [if_neg h]; simp [h]
theorem cnt_keys {p : Nat × Obj} : ∀ {L : Blocks}, (L.map (·.1)).Nodup → cnt p L ≤ 1
  | [], _ => by simp [cnt]
  | q :: L, h => by
    rw [List.map_cons, List.nodup_cons] at h
    rw [cnt_cons]
    have h2 := cnt_keys (p := p) h.2
    unfold hit
    by_cases e : p = q
    · subst e
      rw [if_pos rfl]
      by_cases h0 : 1 ≤ cnt p L
      · exact absurd (List.mem_map.2 ⟨p, cnt_pos.2 h0, rfl⟩) h.1
      · omega
    · rw [if_neg e]; omega
theorem keys_inj : ∀ {L : Blocks}, (L.map (·.1)).Nodup → ∀ {p q : Nat × Obj}, p ∈ L → q ∈ L → p.1 = q.1 → p = q
  | [], _, p, q, h, _, _ => by simp at h
  | r :: L, hn, p, q, hp, hq, e => by
    rw [List.map_cons, List.nodup_cons] at hn
    rcases List.mem_cons.1 hp with rfl | hp' <;> rcases List.mem_cons.1 hq with rfl | hq'
    · rfl
    · exact absurd (List.mem_map.2 ⟨q, hq', e.symm⟩) hn.1
    · exact absurd (List.mem_map.2 ⟨p, hp', e⟩) hn.1
    · exact keys_inj hn.2 hp' hq' e
theorem keys_of_cnt : ∀ {L L' : Blocks}, (∀ p, cnt p L' ≤ cnt p L) → (L.map (·.1)).Nodup → (L'.map (·.1)).Nodup
  | L, [], _, _ => by simp
  | L, q :: L', h, hn => by
    rw [List.map_cons, List.nodup_cons]
    refine ⟨fun hm => ?_, keys_of_cnt (L := L) (fun p => by have := h p; rw [cnt_cons] at this; omega) hn⟩
    obtain ⟨r, hr, e⟩ := List.mem_map.1 hm
    have h1 : 1 ≤ cnt r L' := cnt_pos.1 hr
    have hq : q ∈ L := cnt_pos.2 (by have := h q; rw [cnt_cons] at this; have h0 : hit q q = 1 := by simp [hit]
                                     omega)
    have hr' : r ∈ L := cnt_pos.2 (by have := h r; rw [cnt_cons] at this; omega)
    have := keys_inj hn hr' hq e
    subst this
    have h2 := h r
    rw [cnt_cons] at h2
    have h3 := cnt_keys (p := r) hn
    have h0 : hit r r = 1 := by simp [hit]
    omega
variable {G : World} {P : Program} {n : Nat} {ρ : Slots} {L : Blocks} {ty : TypeId} {Q : Exit → Act → World → Prop}
theorem Heap.cnt {w : World} {L' : Blocks} (h : Heap G w L) (hc : ∀ p, Go.Proofs.Ytdflhdfapnhjjaa.cnt p L' ≤ Go.Proofs.Ytdflhdfapnhjjaa.cnt p L) : Heap G w L' :=
  ⟨h.still, keys_of_cnt hc h.nodup, fun p hp => h.get p (cnt_pos.2 (Nat.le_trans (cnt_pos.1 hp) (hc p)))⟩
theorem mem_of_cnt {L' : Blocks} (hc : ∀ p, cnt p L' ≤ cnt p L) : ∀ p ∈ L', p ∈ L := fun p hp => cnt_pos.2 (Nat.le_trans (cnt_pos.1 hp) (hc p))
/-! ### rows written in place -/
section
variable {α : Type} {r : Rp α} {sz : Nat}
theorem Laid.set : ∀ {l : List α} {xs : List Value} {i : Nat} {y : α} {cs : List Value}, Laid r sz L xs l → i < l.length → cs.length = sz → r L cs y → Laid r sz L (xs.take (i * sz) ++ cs ++ xs.drop (i * sz + sz)) (l.set i y)
  | [], _, i, y, cs, _, hi, _, _ => by simp at hi
  | x :: l, _, 0, y, cs, ⟨c, zs, h1, h2, h3, h4⟩, _, hn, hy => by
    refine ⟨cs, zs, ?_, hn, hy, h4⟩
    rw [h1, Nat.zero_mul, List.take_zero, List.nil_append, Nat.zero_add, ← h2, List.drop_left]
  | x :: l, _, i + 1, y, cs, ⟨c, zs, h1, h2, h3, h4⟩, hi, hn, hy => by
    refine ⟨c, zs.take (i * sz) ++ cs ++ zs.drop (i * sz + sz), ?_, h2, h3, h4.set (by simpa using hi) hn hy⟩
    rw [h1, Nat.succ_mul, List.take_append, List.drop_append, h2, List.take_of_length_le (by omega), List.drop_of_length_le (l := c) (by omega)]
    rw [show i * sz + sz - sz = i * sz by omega, show i * sz + sz + sz - sz = i * sz + sz by omega]
    simp
/-- A thing of a row of one's own, written anew. -/
theorem ORow.set {e : TypeId} {a : Option Addr} {c : Nat} {l : List α} {B : Blocks} {i b : Nat} {y : α} {cs : List Value} {cur cur' : Array Value} (h : ORow r e sz L a c l B) (hB : B = [(b, .cells cur e (0, 0))]) (hi : i < l.length) (hn : cs.length = sz) (hy : r L cs y) (hone : ∀ v ∈ cs, v.oneCell' = true)
    (hs : cur'.size = cur.size) (hin : ∀ j v, cs[j]? = some v → cur'[i * sz + j]? = some v) (hout : ∀ k, k < i * sz ∨ i * sz + sz ≤ k → cur'[k]? = cur[k]?) : ORow r e sz L a c (l.set i y) [(b, .cells cur' e (0, 0))] := by
  obtain ⟨xs, h1, h2, h3⟩ := h.ex
  have hlen := h2.len
  have hle : i * sz + sz ≤ l.length * sz := by
    have : (i + 1) * sz ≤ l.length * sz := Nat.mul_le_mul_right _ hi
    rw [Nat.succ_mul] at this
    exact this
  rcases h1.is with ⟨_, _, q3⟩ | ⟨b', cap, cur0, q1, q2, q3, q4, q5, q6⟩
  · rw [q3] at hB; simp at hB
  · rw [q2] at hB
    simp only [List.cons.injEq, Prod.mk.injEq, Obj.cells.injEq, and_true] at hB
    obtain ⟨rfl, rfl⟩ := hB
    refine ⟨xs.take (i * sz) ++ cs ++ xs.drop (i * sz + sz), ⟨?_, Or.inr ⟨b', cap, cur', ?_, rfl, ?_, q4, by rw [hs]; exact q5, ?_⟩⟩, h2.set hi hn hy, fun v hv => ?_⟩
    · simp only [List.length_append, List.length_take, List.length_drop, List.length_set, hlen, hn]; omega
    · rw [List.length_set]; exact q1
    · rw [List.length_set]; exact q3
    · rw [List.length_set]
      apply List.ext_getElem?
      intro k
      have hx : ∀ k, k < l.length * sz → xs[k]? = cur0[k]? := fun k hk => by
        rw [← q6, List.getElem?_take_of_lt hk]; simp
      by_cases hk : k < l.length * sz
      · rw [List.getElem?_take_of_lt hk, Array.getElem?_toList]
        by_cases k1 : k < i * sz
        · rw [hout k (Or.inl k1), List.append_assoc, List.getElem?_append_left (by rw [List.length_take]; omega), List.getElem?_take_of_lt k1, hx k hk]
        · by_cases k2 : k < i * sz + sz
          · rw [List.append_assoc, List.getElem?_append_right (by rw [List.length_take]; omega), List.getElem?_append_left (by rw [List.length_take]; omega)]
            have hm : min (i * sz) xs.length = i * sz := by omega
            rw [List.length_take, hm]
            obtain ⟨v, hv⟩ : ∃ v, cs[k - i * sz]? = some v := ⟨_, List.getElem?_eq_getElem (by omega)⟩
            rw [hv]
            have := hin _ v hv
            rw [show i * sz + (k - i * sz) = k by omega] at this
            exact this
          · rw [hout k (Or.inr (by omega)), List.getElem?_append_right (by simp only [List.length_append, List.length_take]; omega)]
            have hm : (xs.take (i * sz) ++ cs).length = i * sz + sz := by simp only [List.length_append, List.length_take]; omega
            rw [hm, List.getElem?_drop, show i * sz + sz + (k - (i * sz + sz)) = k by omega, hx k hk]
      · rw [List.getElem?_eq_none (by simp; omega), List.getElem?_eq_none (by simp only [List.length_append, List.length_take, List.length_drop]; omega)]
    · rcases List.mem_append.1 hv with hv | hv
      · rcases List.mem_append.1 hv with hv | hv
        · exact h3 v (List.mem_of_mem_take hv)
        · exact hone v hv
      · exact h3 v (List.mem_of_mem_drop hv)
/-- The block of a row of one's own that is not empty. -/
theorem ORow.block {e : TypeId} {a : Option Addr} {c : Nat} {l : List α} {B : Blocks} (h : ORow r e sz L a c l B) (hl : l ≠ []) : ∃ b cur, a = some ⟨b, 0, none⟩ ∧ B = [(b, .cells cur e (0, 0))] ∧ l.length ≤ c ∧ c ≤ maxLen ∧ cur.size = c * sz ∧
    ∀ i x, l[i]? = some x → ∃ cs, cs.length = sz ∧ r L cs x ∧ (∀ v ∈ cs, v.oneCell' = true) ∧ ∀ j v, cs[j]? = some v → cur[i * sz + j]? = some v := by
  obtain ⟨xs, h1, h2, h3⟩ := h.ex
  rcases h1.is with ⟨_, q2, _⟩ | ⟨b, cap, cur, q1, q2, q3, q4, q5, q6⟩
  · exact absurd (List.eq_nil_of_length_eq_zero q2) hl
  · obtain ⟨rfl, _, rfl⟩ := Value.slice.inj q1
    refine ⟨b, cur, rfl, q2, q3, q4, q5, fun i x hx => ?_⟩
    obtain ⟨cs, k1, k2, k3⟩ := h2.at hx
    refine ⟨cs, k1, k2, fun v hv => ?_, fun j v hj => ?_⟩
    · obtain ⟨j, hj⟩ := List.getElem?_of_mem hv
      exact h3 v (List.mem_of_getElem? (k3 j v hj))
    · have hil := (List.getElem?_eq_some_iff.1 hx).1
      have hjl := (List.getElem?_eq_some_iff.1 hj).1
      have hlt : i * sz + j < l.length * sz := by
        have : (i + 1) * sz ≤ l.length * sz := Nat.mul_le_mul_right _ hil
        rw [Nat.succ_mul] at this
        omega
      have := k3 j v hj
      rw [← q6, List.getElem?_take_of_lt hlt] at this
      simpa using this
end
end Go.Proofs.Ytdflhdfapnhjjaa
namespace Go.Proofs.Ytdflhdfapnhjjaa
open Go.RowKit
set_option linter.unusedVariables false
variable {G : World} {P : Program} {n : Nat} {ρ : Slots} {L : Blocks} {ty : TypeId} {Q : Exit → Act → World → Prop}
theorem op_min {x y : Operand} {k k' : IntKind} {a b : Int} {ts : Array TypeId} (hx : ev ρ x = some (.int k a)) (hy : ev ρ y = some (.int k' b)) : OpQ P ρ L (.call ⟨.builtin .min, #[x, y], ts⟩) ty (.int k (min a b)) :=
  ⟨fun r hr w hw o ho _ => by simp [execOp, ho, hr _ _ hx, hr _ _ hy, resolve, invoke, builtin, Lib.run_min_ints, Result.andThen]⟩
theorem op_max {x y : Operand} {k k' : IntKind} {a b : Int} {ts : Array TypeId} (hx : ev ρ x = some (.int k a)) (hy : ev ρ y = some (.int k' b)) : OpQ P ρ L (.call ⟨.builtin .max, #[x, y], ts⟩) ty (.int k (max a b)) :=
  ⟨fun r hr w hw o ho _ => by simp [execOp, ho, hr _ _ hx, hr _ _ hy, resolve, invoke, builtin, Lib.run_max_ints, Result.andThen]⟩
/-- A store into the second block. -/
theorem TL_st2 {ops : Array Oper} {x y : Operand} {pos : String} {after : Array Edge} {rest : List Oper} {b off : Nat} {t : TypeId} {C C' : Array Value} {te : TypeId} {v u : Value} {p : Nat × Obj} (hx : ev ρ x = some (.pointer (some ⟨b, off, none⟩))) (hy : ev ρ y = some v)
    (h1 : oneTy P t = true) (hone : v.oneCell' = true) (hv : C[off]? = some u) (hC : C.setIfInBounds off v = C') (h : TL P G ops n ρ (p :: (b, Obj.cells C' te (0, 0)) :: L) rest Q) :
    TL P G ops n ρ (p :: (b, Obj.cells C te (0, 0)) :: L) (⟨none, .store t x y, ty, pos, after, none⟩ :: rest) Q :=
  TL_perm (List.Perm.swap _ _ _) (TL_st hx hy h1 hone hv hC (TL_perm (List.Perm.swap _ _ _) h))
theorem T_mono {c : Code} {Q' : Exit → Act → World → Prop} (h : T P G n ρ L c Q) (hi : ∀ e a w, Q e a w → Q' e a w) : T P G n ρ L c Q' := ⟨fun a w he hw b k cs => by
  obtain ⟨e, a', w', hq, h2⟩ := h.out a w he hw b k cs
  exact ⟨e, a', w', hi _ _ _ hq, h2⟩⟩
theorem TQ_jump_ret {l : Nat} {J : Act → World → Prop} (h : TQ G n ρ L .ret Q) : TQ G n ρ L .ret (Exit.jump l J Q) := ⟨fun a w he hw => h.out a w he hw⟩
theorem TQ_jump_normal {l : Nat} {J : Act → World → Prop} (h : TQ G n ρ L .normal Q) : TQ G n ρ L .normal (Exit.jump l J Q) := ⟨fun a w he hw => h.out a w he hw⟩
theorem TQ_jump {σ : Type} {l m : Nat} {I : σ → Prop} {ρI : σ → Slots} {LI : σ → Blocks} {μ : σ → Nat} (x : σ) (hI : I x) (hs : Sub (ρI x) ρ) (hl : ∀ w, Heap G w L → Heap G w (LI x)) (hm : μ x < m) : TQ G n ρ L (.goto l) (Exit.jump l (LoopInv G n I ρI LI μ m) Q) :=
  ⟨fun a w he hw => ⟨rfl, x, hI, he.weak hs.get, hl w hw, hm⟩⟩
theorem least {S : Nat → Prop} (h : ∃ m, S m) : ∃ m, S m ∧ ∀ k, S k → m ≤ k := by
  obtain ⟨m, hm⟩ := h
  induction m using Nat.strongRecOn with
  | _ m ih =>
    by_cases hk : ∃ k, k < m ∧ S k
    · obtain ⟨k, h1, h2⟩ := hk
      exact ih k h1 h2
    · exact ⟨m, hm, fun k hk' => Nat.le_of_not_lt fun hlt => hk ⟨k, hlt, hk'⟩⟩
open Classical in
noncomputable def leastOf (S : Nat → Prop) : Nat := if h : ∃ m, S m then Classical.choose (least h) else 0
theorem leastOf_mem {S : Nat → Prop} (h : ∃ m, S m) : S (leastOf S) := by
  unfold leastOf
  rw [dif_pos h]
  exact (Classical.choose_spec (least h)).1
theorem leastOf_le {S : Nat → Prop} {k : Nat} (hk : S k) : leastOf S ≤ k := by
  unfold leastOf
  rw [dif_pos ⟨k, hk⟩]
  exact (Classical.choose_spec (least ⟨k, hk⟩)).2 k hk
/-- A scope with jumps back to one label. -/
theorem T_scope {σ : Type} {c rest : Code} (l : Nat) (hf : findLabel c l = some rest) (I : σ → Prop) (ρI : σ → Slots) (LI : σ → Blocks) (μ : σ → Nat)
    (first : (∀ x, I x → T P G n (ρI x) (LI x) rest (Exit.jump l (fun a w => ∃ x, I x ∧ Env n (ρI x) a ∧ Heap G w (LI x)) Q)) → T P G n ρ L c (Exit.jump l (fun a w => ∃ x, I x ∧ Env n (ρI x) a ∧ Heap G w (LI x)) Q))
    (pass : ∀ x, I x → T P G n (ρI x) (LI x) rest (Exit.jump l (LoopInv G n I ρI LI μ (μ x)) Q)) : T P G n ρ L (.scope c) Q := by
  have first' := first fun x hx => T_mono (pass x hx) fun e a w h => by
    cases e <;> first | exact h | exact ⟨h.1, by obtain ⟨y, h1, h2, h3, _⟩ := h.2; exact ⟨y, h1, h2, h3⟩⟩
  have hex : ∀ a w, (∃ x, I x ∧ Env n (ρI x) a ∧ Heap G w (LI x)) → ∃ m, ∃ x, I x ∧ Env n (ρI x) a ∧ Heap G w (LI x) ∧ μ x = m := fun a w ⟨x, h1, h2, h3⟩ => ⟨_, x, h1, h2, h3, rfl⟩
  refine ⟨fun a w he hw => wp_scope_jumps l (fun a w => ∃ x, I x ∧ Env n (ρI x) a ∧ Heap G w (LI x)) (fun a w => leastOf fun m => ∃ x, I x ∧ Env n (ρI x) a ∧ Heap G w (LI x) ∧ μ x = m) hf (first'.out a w he hw) fun a w hJ => ?_⟩
  obtain ⟨x, hI, h2, h3, hm⟩ := leastOf_mem (hex a w hJ)
  refine fun b k cs => ?_
  obtain ⟨e, a', w', hq, harr⟩ := (pass x hI).out a w h2 h3 b k cs
  refine ⟨e, a', w', ?_, harr⟩
  cases e with
  | goto l' =>
    obtain ⟨hl, y, g1, g2, g3, g4⟩ := hq
    exact ⟨hl, ⟨y, g1, g2, g3⟩, Nat.lt_of_le_of_lt (leastOf_le ⟨y, g1, g2, g3, rfl⟩) (hm ▸ g4)⟩
  | _ => exact hq
end Go.Proofs.Ytdflhdfapnhjjaa
namespace Go.Proofs.Ytdflhdfapnhjjaa
open Go.RowKit
set_option linter.unusedVariables false
theorem dT {p : Prop} [Decidable p] (h : p) : decide p = true := decide_eq_true h
theorem dF {p : Prop} [Decidable p] (h : ¬ p) : decide p = false := decide_eq_false h
section
variable {α : Type} [BEq α] [LawfulBEq α] {a b : α}
theorem eT (h : a = b) : (a == b) = true := beq_iff_eq.2 h
theorem eF (h : ¬ a = b) : (a == b) = false := beq_false_of_ne h
theorem nT (h : ¬ a = b) : (a != b) = true := bne_iff_ne.2 h
theorem nF (h : a = b) : (a != b) = false := by rw [h]; simp
end
theorem xT {b : Bool} (h : b = false) : (!b) = true := by rw [h]; rfl
theorem xF {b : Bool} (h : b = true) : (!b) = false := by rw [h]; rfl
variable {G : World} {P : Program} {n : Nat} {ρ : Slots} {L : Blocks} {ty : TypeId} {Q : Exit → Act → World → Prop}
section
variable {c : Operand} {x y : Code}
theorem T_condB {b : Bool} (hc : ev ρ c = some (.bool b)) (ht : b = true → T P G n ρ L x Q) (hf : b = false → T P G n ρ L y Q) : T P G n ρ L (.cond c x y) Q := T_cond hc ht hf
theorem T_condX {b : Bool} (hc : ev ρ c = some (.bool !b)) (ht : b = false → T P G n ρ L x Q) (hf : b = true → T P G n ρ L y Q) : T P G n ρ L (.cond c x y) Q := T_cond hc (fun h => ht (by simpa using h)) (fun h => hf (by simpa using h))
theorem T_condD {p : Prop} [Decidable p] (hc : ev ρ c = some (.bool (decide p))) (ht : p → T P G n ρ L x Q) (hf : ¬ p → T P G n ρ L y Q) : T P G n ρ L (.cond c x y) Q := T_cond hc (fun h => ht (of_decide_eq_true h)) (fun h => hf (of_decide_eq_false h))
theorem T_condXD {p : Prop} [Decidable p] (hc : ev ρ c = some (.bool !decide p)) (ht : ¬ p → T P G n ρ L x Q) (hf : p → T P G n ρ L y Q) : T P G n ρ L (.cond c x y) Q := T_condX hc (fun h => ht (of_decide_eq_false h)) (fun h => hf (of_decide_eq_true h))
theorem T_condE {α : Type} [BEq α] [LawfulBEq α] {a b : α} (hc : ev ρ c = some (.bool (a == b))) (ht : a = b → T P G n ρ L x Q) (hf : ¬ a = b → T P G n ρ L y Q) : T P G n ρ L (.cond c x y) Q := T_cond hc (fun h => ht (beq_iff_eq.1 h)) (fun h => hf (fun e => by rw [eT e] at h; cases h))
theorem T_condN {α : Type} [BEq α] [LawfulBEq α] {a b : α} (hc : ev ρ c = some (.bool (a != b))) (ht : ¬ a = b → T P G n ρ L x Q) (hf : a = b → T P G n ρ L y Q) : T P G n ρ L (.cond c x y) Q := T_cond hc (fun h => ht (bne_iff_ne.1 h)) (fun h => hf (by simpa using h))
theorem T_condXE {α : Type} [BEq α] [LawfulBEq α] {a b : α} (hc : ev ρ c = some (.bool !(a == b))) (ht : ¬ a = b → T P G n ρ L x Q) (hf : a = b → T P G n ρ L y Q) : T P G n ρ L (.cond c x y) Q := T_condX hc (fun h => ht (fun e => by rw [eT e] at h; cases h)) (fun h => hf (beq_iff_eq.1 h))
end
/-! a guard that is not decided -/
section
variable {ops : Array Oper} {d j dj : Nat} {op : Op} {pos : String} {after : Array Edge} {rest : List Oper}
theorem TL_gboth {b want : Bool} (hs : guardSlot ops j = some dj) (hv : ρ.lookup dj = some (.bool b)) (ht : b = want → TL P G ops n ρ L (⟨some d, op, ty, pos, after, some (j, want)⟩ :: rest) Q) (hf : b = !want → TL P G ops n ρ L (⟨some d, op, ty, pos, after, some (j, want)⟩ :: rest) Q) :
    TL P G ops n ρ L (⟨some d, op, ty, pos, after, some (j, want)⟩ :: rest) Q := by
  by_cases h : b = want
  · exact ht h
  · exact hf (by cases b <;> cases want <;> simp_all)
theorem TL_gD {p : Prop} [Decidable p] {want : Bool} (hs : guardSlot ops j = some dj) (hv : ρ.lookup dj = some (.bool (decide p))) (ht : p → TL P G ops n ρ L (⟨some d, op, ty, pos, after, some (j, want)⟩ :: rest) Q) (hf : ¬ p → TL P G ops n ρ L (⟨some d, op, ty, pos, after, some (j, want)⟩ :: rest) Q) :
    TL P G ops n ρ L (⟨some d, op, ty, pos, after, some (j, want)⟩ :: rest) Q := by
  by_cases h : p
  · exact ht h
  · exact hf h
theorem TL_gE {α : Type} [BEq α] [LawfulBEq α] {a b : α} {want : Bool} (hs : guardSlot ops j = some dj) (hv : ρ.lookup dj = some (.bool (a == b))) (ht : a = b → TL P G ops n ρ L (⟨some d, op, ty, pos, after, some (j, want)⟩ :: rest) Q) (hf : ¬ a = b → TL P G ops n ρ L (⟨some d, op, ty, pos, after, some (j, want)⟩ :: rest) Q) :
    TL P G ops n ρ L (⟨some d, op, ty, pos, after, some (j, want)⟩ :: rest) Q := by
  by_cases h : a = b
  · exact ht h
  · exact hf h
theorem TL_gN {α : Type} [BEq α] [LawfulBEq α] {a b : α} {want : Bool} (hs : guardSlot ops j = some dj) (hv : ρ.lookup dj = some (.bool (a != b))) (ht : ¬ a = b → TL P G ops n ρ L (⟨some d, op, ty, pos, after, some (j, want)⟩ :: rest) Q) (hf : a = b → TL P G ops n ρ L (⟨some d, op, ty, pos, after, some (j, want)⟩ :: rest) Q) :
    TL P G ops n ρ L (⟨some d, op, ty, pos, after, some (j, want)⟩ :: rest) Q := by
  by_cases h : a = b
  · exact hf h
  · exact ht h
theorem TL_gX {b want : Bool} (hs : guardSlot ops j = some dj) (hv : ρ.lookup dj = some (.bool !b)) (ht : b = true → TL P G ops n ρ L (⟨some d, op, ty, pos, after, some (j, want)⟩ :: rest) Q) (hf : b = false → TL P G ops n ρ L (⟨some d, op, ty, pos, after, some (j, want)⟩ :: rest) Q) :
    TL P G ops n ρ L (⟨some d, op, ty, pos, after, some (j, want)⟩ :: rest) Q := by
  cases b
  · exact hf rfl
  · exact ht rfl
theorem TL_gB {b want : Bool} (hs : guardSlot ops j = some dj) (hv : ρ.lookup dj = some (.bool b)) (ht : b = true → TL P G ops n ρ L (⟨some d, op, ty, pos, after, some (j, want)⟩ :: rest) Q) (hf : b = false → TL P G ops n ρ L (⟨some d, op, ty, pos, after, some (j, want)⟩ :: rest) Q) :
    TL P G ops n ρ L (⟨some d, op, ty, pos, after, some (j, want)⟩ :: rest) Q := by
  cases b
  · exact hf rfl
  · exact ht rfl
end
theorem op_boxA {t : TypeId} {x : Operand} {C : Array Value} (hx : ev ρ x = some (.agg C)) : OpNew P G ρ L (.box t x) ty (fun b => .pointer (some ⟨b, 0, none⟩)) (.cells C t (0, 0)) := op_box hx rfl
/-! results -/
theorem TQ_ret3 {fn : Func} {Φ : Value → Blocks → Prop} (t u s : Nat) (v x y : Value) (hr : fn.results = #[.tmp t, .tmp u, .tmp s]) (hv : ρ.lookup t = some v) (hx : ρ.lookup u = some x) (hy : ρ.lookup s = some y) (h : Φ (.tuple #[v, x, y]) L) : TQ G n ρ L .ret (bodyPost P fn (RetPost G Φ)) :=
  ⟨fun a w he hw => ⟨he.defers, .tuple #[v, x, y], by
    have h1 : a.tmps.getD t undef = v := he.reads (.tmp t) v hv
    have h2 : a.tmps.getD u undef = x := he.reads (.tmp u) x hx
    have h3 : a.tmps.getD s undef = y := he.reads (.tmp s) y hy
    simp only [results, hr]
    simp
    exact ⟨by simpa using h1, by simpa using h2, by simpa using h3⟩, _, L, rfl, h, hw⟩⟩
theorem TQ_ret4 {fn : Func} {Φ : Value → Blocks → Prop} (t u s r : Nat) (v x y z : Value) (hr : fn.results = #[.tmp t, .tmp u, .tmp s, .tmp r]) (hv : ρ.lookup t = some v) (hx : ρ.lookup u = some x) (hy : ρ.lookup s = some y) (hz : ρ.lookup r = some z) (h : Φ (.tuple #[v, x, y, z]) L) : TQ G n ρ L .ret (bodyPost P fn (RetPost G Φ)) :=
  ⟨fun a w he hw => ⟨he.defers, .tuple #[v, x, y, z], by
    have h1 : a.tmps.getD t undef = v := he.reads (.tmp t) v hv
    have h2 : a.tmps.getD u undef = x := he.reads (.tmp u) x hx
    have h3 : a.tmps.getD s undef = y := he.reads (.tmp s) y hy
    have h4 : a.tmps.getD r undef = z := he.reads (.tmp r) z hz
    simp only [results, hr]
    simp
    exact ⟨by simpa using h1, by simpa using h2, by simpa using h3, by simpa using h4⟩, _, L, rfl, h, hw⟩⟩
theorem cell_run {a : Nat} {b k : Nat} {t : TypeId} {C : Array Value} {te : TypeId} {fr : Nat × Nat} {ac : Act} {w : World} (he : Env n ρ ac) (hv : ρ.lookup a = some (.pointer (some ⟨b, 0, none⟩))) (ht : structTy P t k = true) (hg : w.heap[b]? = some (.cells C te fr)) (hk : C.size = k) :
    ac.tmps.getD a undef = .pointer (some ⟨b, 0, none⟩) ∧ (loadVar t ⟨b, 0, none⟩).run P w = .ok (.agg C) w := by
  have h1 : ac.tmps.getD a undef = .pointer (some ⟨b, 0, none⟩) := he.reads (.tmp a) _ hv
  refine ⟨h1, ?_⟩
  unfold structTy at ht
  cases hu : P.underlying t with
  | none => simp [hu] at ht
  | some d =>
    cases hi : P.info? t with
    | none => simp [hi] at ht
    | some i =>
      cases d with
      | struct fs =>
        simp [hu, hi] at ht
        have ha : (isAgg t).run P w = .ok true w := by
          unfold isAgg
          simp [run_underlying hu]
        have hc := run_loadCells_list (P := P) (w := w) ⟨b, 0, none⟩ C.toList (fun j v hj => by
          rw [addr_add, Nat.zero_add]
          unfold World.cell?
          rw [hg]
          simpa using hj)
        rw [Array.length_toList, hk] at hc
        simp [loadVar, ha, sizeOf, typeInfo, hi, ht, hc]
      | _ => simp [hu] at ht
theorem TQ_retC2 {fn : Func} {Φ : Value → Blocks → Prop} (a t u : Nat) {b k : Nat} {C : Array Value} {te : TypeId} {fr : Nat × Nat} {x : Value} {L' : Blocks} (hr : fn.results = #[.cell a t, .tmp u]) (hv : ρ.lookup a = some (.pointer (some ⟨b, 0, none⟩))) (hx : ρ.lookup u = some x)
    (ht : structTy P t k = true) (hm : (b, Obj.cells C te fr) ∈ L) (hk : C.size = k) (hl : ∀ w, Heap G w L → Heap G w L') (h : Φ (.tuple #[.agg C, x]) L') : TQ G n ρ L .ret (bodyPost P fn (RetPost G Φ)) :=
  ⟨fun ac w he hw => ⟨he.defers, .tuple #[.agg C, x], by
    obtain ⟨h1, h0⟩ := cell_run he hv ht (hw.get _ hm) hk
    have h2 : ac.tmps.getD u undef = x := he.reads (.tmp u) x hx
    rw [Array.getD_eq_getD_getElem?] at h1 h2
    simp only [results, hr]
    simp
    simp [h1, asAddr, h0, h2], _, L', rfl, h, hl w hw⟩⟩
theorem TQ_retC3 {fn : Func} {Φ : Value → Blocks → Prop} (a t u s : Nat) {b k : Nat} {C : Array Value} {te : TypeId} {fr : Nat × Nat} {x y : Value} {L' : Blocks} (hr : fn.results = #[.cell a t, .tmp u, .tmp s]) (hv : ρ.lookup a = some (.pointer (some ⟨b, 0, none⟩))) (hx : ρ.lookup u = some x) (hy : ρ.lookup s = some y)
    (ht : structTy P t k = true) (hm : (b, Obj.cells C te fr) ∈ L) (hk : C.size = k) (hl : ∀ w, Heap G w L → Heap G w L') (h : Φ (.tuple #[.agg C, x, y]) L') : TQ G n ρ L .ret (bodyPost P fn (RetPost G Φ)) :=
  ⟨fun ac w he hw => ⟨he.defers, .tuple #[.agg C, x, y], by
    obtain ⟨h1, h0⟩ := cell_run he hv ht (hw.get _ hm) hk
    have h2 : ac.tmps.getD u undef = x := he.reads (.tmp u) x hx
    have h3 : ac.tmps.getD s undef = y := he.reads (.tmp s) y hy
    rw [Array.getD_eq_getD_getElem?] at h1 h2 h3
    simp only [results, hr]
    simp
    simp [h1, asAddr, h0, h2, h3], _, L', rfl, h, hl w hw⟩⟩
end Go.Proofs.Ytdflhdfapnhjjaa
namespace Go.Proofs.Ytdflhdfapnhjjaa
open Go.RowKit
theorem follows_mixed : Try.prog.follows .mixedOrders = true := by kernel_rfl
theorem pl_2 : plainTy Try.prog 2 = true := by kernel_rfl
theorem one_2 : oneTy Try.prog 2 = true := by kernel_rfl
theorem zero_2 : zeroOf Try.prog 2 = some (.int .i64 0) := by kernel_rfl
theorem pl_3 : plainTy Try.prog 3 = true := by kernel_rfl
theorem one_3 : oneTy Try.prog 3 = true := by kernel_rfl
theorem zero_3 : zeroOf Try.prog 3 = some (.int .i64 0) := by kernel_rfl
theorem pl_4 : plainTy Try.prog 4 = true := by kernel_rfl
theorem one_4 : oneTy Try.prog 4 = true := by kernel_rfl
theorem zero_4 : zeroOf Try.prog 4 = some (.bool false) := by kernel_rfl
theorem pl_5 : plainTy Try.prog 5 = true := by kernel_rfl
theorem one_5 : oneTy Try.prog 5 = true := by kernel_rfl
theorem zero_5 : zeroOf Try.prog 5 = some (.int .u8 0) := by kernel_rfl
theorem pl_6 : plainTy Try.prog 6 = true := by kernel_rfl
theorem one_6 : oneTy Try.prog 6 = true := by kernel_rfl
theorem zero_6 : zeroOf Try.prog 6 = some (.int .u8 0) := by kernel_rfl
theorem zero_7 : zeroOf Try.prog 7 = some (.agg #[(.int .i64 0), (.int .i64 0), (.bool false), (.int .u8 0)]) := by kernel_rfl
theorem st_7 : structTy Try.prog 7 4 = true := by kernel_rfl
theorem zero_8 : zeroOf Try.prog 8 = some (.agg #[(.int .i64 0), (.int .i64 0), (.bool false), (.int .u8 0)]) := by kernel_rfl
theorem st_8 : structTy Try.prog 8 4 = true := by kernel_rfl
theorem fld_8_0 : fieldOff Try.prog 8 0 = some 0 := by kernel_rfl
theorem fld_8_1 : fieldOff Try.prog 8 1 = some 1 := by kernel_rfl
theorem fld_8_2 : fieldOff Try.prog 8 2 = some 2 := by kernel_rfl
theorem fld_8_3 : fieldOff Try.prog 8 3 = some 3 := by kernel_rfl
theorem pl_9 : plainTy Try.prog 9 = true := by kernel_rfl
theorem one_9 : oneTy Try.prog 9 = true := by kernel_rfl
theorem zero_9 : zeroOf Try.prog 9 = some (.string (bs [])) := by kernel_rfl
theorem pl_10 : plainTy Try.prog 10 = true := by kernel_rfl
theorem one_10 : oneTy Try.prog 10 = true := by kernel_rfl
theorem zero_10 : zeroOf Try.prog 10 = some (.string (bs [])) := by kernel_rfl
theorem pl_11 : plainTy Try.prog 11 = true := by kernel_rfl
theorem one_11 : oneTy Try.prog 11 = true := by kernel_rfl
theorem zero_11 : zeroOf Try.prog 11 = some (.string (bs [])) := by kernel_rfl
theorem pl_12 : plainTy Try.prog 12 = true := by kernel_rfl
theorem one_12 : oneTy Try.prog 12 = true := by kernel_rfl
theorem zero_12 : zeroOf Try.prog 12 = some (.int .u64 0) := by kernel_rfl
theorem zero_13 : zeroOf Try.prog 13 = some (.agg #[(.string (bs [])), (.int .u64 0)]) := by kernel_rfl
theorem st_13 : structTy Try.prog 13 2 = true := by kernel_rfl
theorem zero_14 : zeroOf Try.prog 14 = some (.agg #[(.string (bs [])), (.int .u64 0)]) := by kernel_rfl
theorem st_14 : structTy Try.prog 14 2 = true := by kernel_rfl
theorem fld_14_0 : fieldOff Try.prog 14 0 = some 0 := by kernel_rfl
theorem fld_14_1 : fieldOff Try.prog 14 1 = some 1 := by kernel_rfl
theorem pl_15 : plainTy Try.prog 15 = true := by kernel_rfl
theorem one_15 : oneTy Try.prog 15 = true := by kernel_rfl
theorem zero_15 : zeroOf Try.prog 15 = some (.pointer none) := by kernel_rfl
theorem pl_16 : plainTy Try.prog 16 = true := by kernel_rfl
theorem one_16 : oneTy Try.prog 16 = true := by kernel_rfl
theorem zero_16 : zeroOf Try.prog 16 = some (.pointer none) := by kernel_rfl
theorem pl_17 : plainTy Try.prog 17 = true := by kernel_rfl
theorem one_17 : oneTy Try.prog 17 = true := by kernel_rfl
theorem zero_17 : zeroOf Try.prog 17 = some (.pointer none) := by kernel_rfl
theorem zero_18 : zeroOf Try.prog 18 = some (.agg #[(.pointer none)]) := by kernel_rfl
theorem st_18 : structTy Try.prog 18 1 = true := by kernel_rfl
theorem zero_19 : zeroOf Try.prog 19 = some (.agg #[(.pointer none)]) := by kernel_rfl
theorem st_19 : structTy Try.prog 19 1 = true := by kernel_rfl
theorem fld_19_0 : fieldOff Try.prog 19 0 = some 0 := by kernel_rfl
theorem pl_21 : plainTy Try.prog 21 = true := by kernel_rfl
theorem one_21 : oneTy Try.prog 21 = true := by kernel_rfl
theorem zero_21 : zeroOf Try.prog 21 = some (.int .i32 0) := by kernel_rfl
theorem pl_23 : plainTy Try.prog 23 = true := by kernel_rfl
theorem one_23 : oneTy Try.prog 23 = true := by kernel_rfl
theorem zero_23 : zeroOf Try.prog 23 = some (.int .u16 0) := by kernel_rfl
theorem zero_24 : zeroOf Try.prog 24 = some (.agg #[(.int .u16 0), (.bool false), (.int .u8 0), (.bool false), (.bool false), (.bool false), (.bool false), (.bool false), (.bool false), (.bool false), (.int .u8 0)]) := by kernel_rfl
theorem st_24 : structTy Try.prog 24 11 = true := by kernel_rfl
theorem zero_25 : zeroOf Try.prog 25 = some (.agg #[(.int .u16 0), (.bool false), (.int .u8 0), (.bool false), (.bool false), (.bool false), (.bool false), (.bool false), (.bool false), (.bool false), (.int .u8 0)]) := by kernel_rfl
theorem st_25 : structTy Try.prog 25 11 = true := by kernel_rfl
theorem fld_25_0 : fieldOff Try.prog 25 0 = some 0 := by kernel_rfl
theorem fld_25_1 : fieldOff Try.prog 25 1 = some 1 := by kernel_rfl
theorem fld_25_2 : fieldOff Try.prog 25 2 = some 2 := by kernel_rfl
theorem fld_25_3 : fieldOff Try.prog 25 3 = some 3 := by kernel_rfl
theorem fld_25_4 : fieldOff Try.prog 25 4 = some 4 := by kernel_rfl
theorem fld_25_5 : fieldOff Try.prog 25 5 = some 5 := by kernel_rfl
theorem fld_25_6 : fieldOff Try.prog 25 6 = some 6 := by kernel_rfl
theorem fld_25_7 : fieldOff Try.prog 25 7 = some 7 := by kernel_rfl
theorem fld_25_8 : fieldOff Try.prog 25 8 = some 8 := by kernel_rfl
theorem fld_25_9 : fieldOff Try.prog 25 9 = some 9 := by kernel_rfl
theorem fld_25_10 : fieldOff Try.prog 25 10 = some 10 := by kernel_rfl
theorem pl_26 : plainTy Try.prog 26 = true := by kernel_rfl
theorem one_26 : oneTy Try.prog 26 = true := by kernel_rfl
theorem zero_26 : zeroOf Try.prog 26 = some (.slice none 0 0) := by kernel_rfl
theorem info_26 : (Try.prog.info? 34).map (fun i => (i.zero, i.size, i.bytes)) = some (some (.agg #[(.string (bs [])), (.int .u16 0), (.int .u16 0)]), 3, 24) := by kernel_rfl
theorem ety_26 : ElemTy Try.prog 26 34 3 24 (.agg #[(.string (bs [])), (.int .u16 0), (.int .u16 0)]) := by
  obtain ⟨i, h1, h2, h3, h4⟩ := info_parts info_26
  exact ⟨Try.underlying26, ⟨i, h1, h2, h3, h4⟩, rfl, by decide⟩
theorem pl_27 : plainTy Try.prog 27 = true := by kernel_rfl
theorem one_27 : oneTy Try.prog 27 = true := by kernel_rfl
theorem zero_27 : zeroOf Try.prog 27 = some (.slice none 0 0) := by kernel_rfl
theorem info_27 : (Try.prog.info? 112).map (fun i => (i.zero, i.size, i.bytes)) = some (some (.agg #[(.string (bs [])), (.int .u16 0), (.int .u16 0), (.int .u32 0), (.string (bs []))]), 5, 40) := by kernel_rfl
theorem ety_27 : ElemTy Try.prog 27 112 5 40 (.agg #[(.string (bs [])), (.int .u16 0), (.int .u16 0), (.int .u32 0), (.string (bs []))]) := by
  obtain ⟨i, h1, h2, h3, h4⟩ := info_parts info_27
  exact ⟨Try.underlying27, ⟨i, h1, h2, h3, h4⟩, rfl, by decide⟩
theorem pl_28 : plainTy Try.prog 28 = true := by kernel_rfl
theorem one_28 : oneTy Try.prog 28 = true := by kernel_rfl
theorem zero_28 : zeroOf Try.prog 28 = some (.slice none 0 0) := by kernel_rfl
theorem info_28 : (Try.prog.info? 227).map (fun i => (i.zero, i.size, i.bytes)) = some (some (.agg #[(.int .u16 0), (.string (bs []))]), 2, 24) := by kernel_rfl
theorem ety_28 : ElemTy Try.prog 28 227 2 24 (.agg #[(.int .u16 0), (.string (bs []))]) := by
  obtain ⟨i, h1, h2, h3, h4⟩ := info_parts info_28
  exact ⟨Try.underlying28, ⟨i, h1, h2, h3, h4⟩, rfl, by decide⟩
theorem zero_29 : zeroOf Try.prog 29 = some (.agg #[(.int .u16 0), (.int .u8 0), (.int .u8 0), (.int .u16 0), (.slice none 0 0)]) := by kernel_rfl
theorem st_29 : structTy Try.prog 29 5 = true := by kernel_rfl
theorem zero_30 : zeroOf Try.prog 30 = some (.agg #[(.int .u16 0), (.int .u8 0), (.int .u8 0), (.int .u16 0), (.slice none 0 0)]) := by kernel_rfl
theorem st_30 : structTy Try.prog 30 5 = true := by kernel_rfl
theorem fld_30_0 : fieldOff Try.prog 30 0 = some 0 := by kernel_rfl
theorem fld_30_1 : fieldOff Try.prog 30 1 = some 1 := by kernel_rfl
theorem fld_30_2 : fieldOff Try.prog 30 2 = some 2 := by kernel_rfl
theorem fld_30_3 : fieldOff Try.prog 30 3 = some 3 := by kernel_rfl
theorem fld_30_4 : fieldOff Try.prog 30 4 = some 4 := by kernel_rfl
theorem zero_31 : zeroOf Try.prog 31 = some (.agg #[(.int .u16 0), (.bool false), (.int .u8 0), (.bool false), (.bool false), (.bool false), (.bool false), (.bool false), (.bool false), (.bool false), (.int .u8 0), (.slice none 0 0), (.slice none 0 0), (.slice none 0 0), (.slice none 0 0), (.bool false), (.int .u16 0), (.int .u8 0), (.int .u8 0), (.int .u16 0), (.slice none 0 0)]) := by kernel_rfl
theorem st_31 : structTy Try.prog 31 21 = true := by kernel_rfl
theorem zero_32 : zeroOf Try.prog 32 = some (.agg #[(.int .u16 0), (.bool false), (.int .u8 0), (.bool false), (.bool false), (.bool false), (.bool false), (.bool false), (.bool false), (.bool false), (.int .u8 0), (.slice none 0 0), (.slice none 0 0), (.slice none 0 0), (.slice none 0 0), (.bool false), (.int .u16 0), (.int .u8 0), (.int .u8 0), (.int .u16 0), (.slice none 0 0)]) := by kernel_rfl
theorem st_32 : structTy Try.prog 32 21 = true := by kernel_rfl
theorem fld_32_0 : fieldOff Try.prog 32 0 = some 0 := by kernel_rfl
theorem fld_32_1 : fieldOff Try.prog 32 1 = some 11 := by kernel_rfl
theorem fld_32_2 : fieldOff Try.prog 32 2 = some 12 := by kernel_rfl
theorem fld_32_3 : fieldOff Try.prog 32 3 = some 13 := by kernel_rfl
theorem fld_32_4 : fieldOff Try.prog 32 4 = some 14 := by kernel_rfl
theorem fld_32_5 : fieldOff Try.prog 32 5 = some 15 := by kernel_rfl
theorem fld_32_6 : fieldOff Try.prog 32 6 = some 16 := by kernel_rfl
theorem zero_33 : zeroOf Try.prog 33 = some (.agg #[(.string (bs [])), (.int .u16 0), (.int .u16 0)]) := by kernel_rfl
theorem st_33 : structTy Try.prog 33 3 = true := by kernel_rfl
theorem zero_34 : zeroOf Try.prog 34 = some (.agg #[(.string (bs [])), (.int .u16 0), (.int .u16 0)]) := by kernel_rfl
theorem st_34 : structTy Try.prog 34 3 = true := by kernel_rfl
theorem fld_34_0 : fieldOff Try.prog 34 0 = some 0 := by kernel_rfl
theorem fld_34_1 : fieldOff Try.prog 34 1 = some 1 := by kernel_rfl
theorem fld_34_2 : fieldOff Try.prog 34 2 = some 2 := by kernel_rfl
theorem pl_36 : plainTy Try.prog 36 = true := by kernel_rfl
theorem one_36 : oneTy Try.prog 36 = true := by kernel_rfl
theorem zero_36 : zeroOf Try.prog 36 = some (.int .u32 0) := by kernel_rfl
theorem pl_40 : plainTy Try.prog 40 = true := by kernel_rfl
theorem one_40 : oneTy Try.prog 40 = true := by kernel_rfl
theorem zero_40 : zeroOf Try.prog 40 = some (.slice none 0 0) := by kernel_rfl
theorem info_40 : (Try.prog.info? 60).map (fun i => (i.zero, i.size, i.bytes)) = some (some (.agg #[(.string (bs [])), (.int .u16 0), (.int .u16 0), (.int .u32 0), (.slice none 0 0)]), 5, 48) := by kernel_rfl
theorem ety_40 : ElemTy Try.prog 40 60 5 48 (.agg #[(.string (bs [])), (.int .u16 0), (.int .u16 0), (.int .u32 0), (.slice none 0 0)]) := by
  obtain ⟨i, h1, h2, h3, h4⟩ := info_parts info_40
  exact ⟨Try.underlying40, ⟨i, h1, h2, h3, h4⟩, rfl, by decide⟩
theorem zero_41 : zeroOf Try.prog 41 = some (.agg #[(.int .u8 0), (.slice none 0 0), (.slice none 0 0)]) := by kernel_rfl
theorem st_41 : structTy Try.prog 41 3 = true := by kernel_rfl
theorem zero_42 : zeroOf Try.prog 42 = some (.agg #[(.int .u8 0), (.slice none 0 0), (.slice none 0 0)]) := by kernel_rfl
theorem st_42 : structTy Try.prog 42 3 = true := by kernel_rfl
theorem fld_42_0 : fieldOff Try.prog 42 0 = some 0 := by kernel_rfl
theorem fld_42_1 : fieldOff Try.prog 42 1 = some 1 := by kernel_rfl
theorem fld_42_2 : fieldOff Try.prog 42 2 = some 2 := by kernel_rfl
theorem zero_45 : zeroOf Try.prog 45 = some (.agg #[(.int .i64 0), (.int .u8 0), (.slice none 0 0), (.slice none 0 0), (.int .u32 0)]) := by kernel_rfl
theorem st_45 : structTy Try.prog 45 5 = true := by kernel_rfl
theorem zero_46 : zeroOf Try.prog 46 = some (.agg #[(.int .i64 0), (.int .u8 0), (.slice none 0 0), (.slice none 0 0), (.int .u32 0)]) := by kernel_rfl
theorem st_46 : structTy Try.prog 46 5 = true := by kernel_rfl
theorem fld_46_0 : fieldOff Try.prog 46 0 = some 0 := by kernel_rfl
theorem fld_46_1 : fieldOff Try.prog 46 1 = some 1 := by kernel_rfl
theorem fld_46_2 : fieldOff Try.prog 46 2 = some 4 := by kernel_rfl
theorem pl_47 : plainTy Try.prog 47 = true := by kernel_rfl
theorem one_47 : oneTy Try.prog 47 = true := by kernel_rfl
theorem zero_47 : zeroOf Try.prog 47 = some (.slice none 0 0) := by kernel_rfl
theorem info_47 : (Try.prog.info? 46).map (fun i => (i.zero, i.size, i.bytes)) = some (some (.agg #[(.int .i64 0), (.int .u8 0), (.slice none 0 0), (.slice none 0 0), (.int .u32 0)]), 5, 72) := by kernel_rfl
theorem ety_47 : ElemTy Try.prog 47 46 5 72 (.agg #[(.int .i64 0), (.int .u8 0), (.slice none 0 0), (.slice none 0 0), (.int .u32 0)]) := by
  obtain ⟨i, h1, h2, h3, h4⟩ := info_parts info_47
  exact ⟨Try.underlying47, ⟨i, h1, h2, h3, h4⟩, rfl, by decide⟩
theorem pl_48 : plainTy Try.prog 48 = true := by kernel_rfl
theorem one_48 : oneTy Try.prog 48 = true := by kernel_rfl
theorem zero_48 : zeroOf Try.prog 48 = some (.slice none 0 0) := by kernel_rfl
theorem info_48 : (Try.prog.info? 115).map (fun i => (i.zero, i.size, i.bytes)) = some (some (.agg #[(.int .i64 0), (.int .u16 0), (.bool false), (.int .u8 0), (.bool false), (.bool false), (.bool false), (.bool false), (.bool false), (.bool false), (.bool false), (.int .u8 0), (.slice none 0 0), (.slice none 0 0), (.slice none 0 0), (.slice none 0 0), (.bool false), (.int .u16 0), (.int .u8 0), (.int .u8 0), (.int .u16 0), (.slice none 0 0), (.int .u32 0)]), 23, 168) := by kernel_rfl
theorem ety_48 : ElemTy Try.prog 48 115 23 168 (.agg #[(.int .i64 0), (.int .u16 0), (.bool false), (.int .u8 0), (.bool false), (.bool false), (.bool false), (.bool false), (.bool false), (.bool false), (.bool false), (.int .u8 0), (.slice none 0 0), (.slice none 0 0), (.slice none 0 0), (.slice none 0 0), (.bool false), (.int .u16 0), (.int .u8 0), (.int .u8 0), (.int .u16 0), (.slice none 0 0), (.int .u32 0)]) := by
  obtain ⟨i, h1, h2, h3, h4⟩ := info_parts info_48
  exact ⟨Try.underlying48, ⟨i, h1, h2, h3, h4⟩, rfl, by decide⟩
theorem pl_50 : plainTy Try.prog 50 = true := by kernel_rfl
theorem one_50 : oneTy Try.prog 50 = true := by kernel_rfl
theorem zero_50 : zeroOf Try.prog 50 = some (.slice none 0 0) := by kernel_rfl
theorem info_50 : (Try.prog.info? 63).map (fun i => (i.zero, i.size, i.bytes)) = some (some (.agg #[(.int .i64 0), (.int .u8 0), (.slice none 0 0), (.slice none 0 0), (.int .u32 0)]), 5, 72) := by kernel_rfl
theorem ety_50 : ElemTy Try.prog 50 63 5 72 (.agg #[(.int .i64 0), (.int .u8 0), (.slice none 0 0), (.slice none 0 0), (.int .u32 0)]) := by
  obtain ⟨i, h1, h2, h3, h4⟩ := info_parts info_50
  exact ⟨Try.underlying50, ⟨i, h1, h2, h3, h4⟩, rfl, by decide⟩
theorem pl_58 : plainTy Try.prog 58 = true := by kernel_rfl
theorem one_58 : oneTy Try.prog 58 = true := by kernel_rfl
theorem zero_58 : zeroOf Try.prog 58 = some (.slice none 0 0) := by kernel_rfl
theorem info_58 : (Try.prog.info? 9).map (fun i => (i.zero, i.size, i.bytes)) = some (some (.string (bs [])), 1, 16) := by kernel_rfl
theorem ety_58 : ElemTy Try.prog 58 9 1 16 (.string (bs [])) := by
  obtain ⟨i, h1, h2, h3, h4⟩ := info_parts info_58
  exact ⟨Try.underlying58, ⟨i, h1, h2, h3, h4⟩, rfl, by decide⟩
theorem zero_59 : zeroOf Try.prog 59 = some (.agg #[(.string (bs [])), (.int .u16 0), (.int .u16 0), (.int .u32 0), (.slice none 0 0)]) := by kernel_rfl
theorem st_59 : structTy Try.prog 59 5 = true := by kernel_rfl
theorem zero_60 : zeroOf Try.prog 60 = some (.agg #[(.string (bs [])), (.int .u16 0), (.int .u16 0), (.int .u32 0), (.slice none 0 0)]) := by kernel_rfl
theorem st_60 : structTy Try.prog 60 5 = true := by kernel_rfl
theorem fld_60_0 : fieldOff Try.prog 60 0 = some 0 := by kernel_rfl
theorem fld_60_1 : fieldOff Try.prog 60 1 = some 1 := by kernel_rfl
theorem fld_60_2 : fieldOff Try.prog 60 2 = some 2 := by kernel_rfl
theorem fld_60_3 : fieldOff Try.prog 60 3 = some 3 := by kernel_rfl
theorem fld_60_4 : fieldOff Try.prog 60 4 = some 4 := by kernel_rfl
theorem zero_63 : zeroOf Try.prog 63 = some (.agg #[(.int .i64 0), (.int .u8 0), (.slice none 0 0), (.slice none 0 0), (.int .u32 0)]) := by kernel_rfl
theorem st_63 : structTy Try.prog 63 5 = true := by kernel_rfl
theorem fld_63_0 : fieldOff Try.prog 63 0 = some 0 := by kernel_rfl
theorem fld_63_1 : fieldOff Try.prog 63 1 = some 1 := by kernel_rfl
theorem fld_63_2 : fieldOff Try.prog 63 2 = some 4 := by kernel_rfl
theorem pl_67 : plainTy Try.prog 67 = true := by kernel_rfl
theorem one_67 : oneTy Try.prog 67 = true := by kernel_rfl
theorem zero_67 : zeroOf Try.prog 67 = some (.int .u64 0) := by kernel_rfl
theorem pl_69 : plainTy Try.prog 69 = true := by kernel_rfl
theorem one_69 : oneTy Try.prog 69 = true := by kernel_rfl
theorem zero_69 : zeroOf Try.prog 69 = some (.slice none 0 0) := by kernel_rfl
theorem info_69 : (Try.prog.info? 73).map (fun i => (i.zero, i.size, i.bytes)) = some (some (.agg #[(.int .u8 0), (.int .i64 0), (.int .u8 0), (.slice none 0 0), (.slice none 0 0), (.int .u32 0), (.string (bs [])), (.int .u16 0), (.int .u16 0), (.int .u16 0), (.bool false), (.int .u8 0), (.bool false), (.bool false), (.bool false), (.bool false), (.bool false), (.bool false), (.bool false), (.int .u8 0), (.slice none 0 0), (.slice none 0 0), (.slice none 0 0), (.slice none 0 0), (.bool false), (.int .u16 0), (.int .u8 0), (.int .u8 0), (.int .u16 0), (.slice none 0 0)]), 30, 256) := by kernel_rfl
theorem ety_69 : ElemTy Try.prog 69 73 30 256 (.agg #[(.int .u8 0), (.int .i64 0), (.int .u8 0), (.slice none 0 0), (.slice none 0 0), (.int .u32 0), (.string (bs [])), (.int .u16 0), (.int .u16 0), (.int .u16 0), (.bool false), (.int .u8 0), (.bool false), (.bool false), (.bool false), (.bool false), (.bool false), (.bool false), (.bool false), (.int .u8 0), (.slice none 0 0), (.slice none 0 0), (.slice none 0 0), (.slice none 0 0), (.bool false), (.int .u16 0), (.int .u8 0), (.int .u8 0), (.int .u16 0), (.slice none 0 0)]) := by
  obtain ⟨i, h1, h2, h3, h4⟩ := info_parts info_69
  exact ⟨Try.underlying69, ⟨i, h1, h2, h3, h4⟩, rfl, by decide⟩
theorem zero_71 : zeroOf Try.prog 71 = some (.agg #[(.bool false), (.bool false), (.bool false), (.bool false), (.bool false), (.bool false), (.bool false), (.bool false), (.bool false)]) := by kernel_rfl
theorem arr_71 : arrTy Try.prog 71 = some (9, 1) := by kernel_rfl
theorem zero_72 : zeroOf Try.prog 72 = some (.agg #[(.int .u8 0), (.int .i64 0), (.int .u8 0), (.slice none 0 0), (.slice none 0 0), (.int .u32 0), (.string (bs [])), (.int .u16 0), (.int .u16 0), (.int .u16 0), (.bool false), (.int .u8 0), (.bool false), (.bool false), (.bool false), (.bool false), (.bool false), (.bool false), (.bool false), (.int .u8 0), (.slice none 0 0), (.slice none 0 0), (.slice none 0 0), (.slice none 0 0), (.bool false), (.int .u16 0), (.int .u8 0), (.int .u8 0), (.int .u16 0), (.slice none 0 0)]) := by kernel_rfl
theorem st_72 : structTy Try.prog 72 30 = true := by kernel_rfl
theorem zero_73 : zeroOf Try.prog 73 = some (.agg #[(.int .u8 0), (.int .i64 0), (.int .u8 0), (.slice none 0 0), (.slice none 0 0), (.int .u32 0), (.string (bs [])), (.int .u16 0), (.int .u16 0), (.int .u16 0), (.bool false), (.int .u8 0), (.bool false), (.bool false), (.bool false), (.bool false), (.bool false), (.bool false), (.bool false), (.int .u8 0), (.slice none 0 0), (.slice none 0 0), (.slice none 0 0), (.slice none 0 0), (.bool false), (.int .u16 0), (.int .u8 0), (.int .u8 0), (.int .u16 0), (.slice none 0 0)]) := by kernel_rfl
theorem st_73 : structTy Try.prog 73 30 = true := by kernel_rfl
theorem fld_73_0 : fieldOff Try.prog 73 0 = some 0 := by kernel_rfl
theorem fld_73_1 : fieldOff Try.prog 73 1 = some 1 := by kernel_rfl
theorem fld_73_2 : fieldOff Try.prog 73 2 = some 6 := by kernel_rfl
theorem fld_73_3 : fieldOff Try.prog 73 3 = some 9 := by kernel_rfl
theorem pl_76 : plainTy Try.prog 76 = true := by kernel_rfl
theorem one_76 : oneTy Try.prog 76 = true := by kernel_rfl
theorem zero_76 : zeroOf Try.prog 76 = some (.pointer none) := by kernel_rfl
theorem pl_79 : plainTy Try.prog 79 = true := by kernel_rfl
theorem one_79 : oneTy Try.prog 79 = true := by kernel_rfl
theorem zero_79 : zeroOf Try.prog 79 = some (.slice none 0 0) := by kernel_rfl
theorem info_79 : (Try.prog.info? 3).map (fun i => (i.zero, i.size, i.bytes)) = some (some (.int .i64 0), 1, 8) := by kernel_rfl
theorem ety_79 : ElemTy Try.prog 79 3 1 8 (.int .i64 0) := by
  obtain ⟨i, h1, h2, h3, h4⟩ := info_parts info_79
  exact ⟨Try.underlying79, ⟨i, h1, h2, h3, h4⟩, rfl, by decide⟩
theorem pl_90 : plainTy Try.prog 90 = true := by kernel_rfl
theorem one_90 : oneTy Try.prog 90 = true := by kernel_rfl
theorem zero_90 : zeroOf Try.prog 90 = some (.int .i64 0) := by kernel_rfl
theorem zero_96 : zeroOf Try.prog 96 = some (.agg #[(.int .u8 0), (.int .i64 0)]) := by kernel_rfl
theorem st_96 : structTy Try.prog 96 2 = true := by kernel_rfl
theorem zero_97 : zeroOf Try.prog 97 = some (.agg #[(.int .u8 0), (.int .i64 0)]) := by kernel_rfl
theorem st_97 : structTy Try.prog 97 2 = true := by kernel_rfl
theorem fld_97_0 : fieldOff Try.prog 97 0 = some 0 := by kernel_rfl
theorem fld_97_1 : fieldOff Try.prog 97 1 = some 1 := by kernel_rfl
theorem zero_98 : zeroOf Try.prog 98 = some (.agg #[(.int .u8 0), (.int .i64 0), (.int .u8 0), (.int .i64 0), (.int .u8 0), (.int .i64 0), (.int .u8 0), (.int .i64 0), (.int .u8 0), (.int .i64 0), (.int .u8 0), (.int .i64 0), (.int .u8 0), (.int .i64 0), (.int .u8 0), (.int .i64 0), (.int .u8 0), (.int .i64 0)]) := by kernel_rfl
theorem arr_98 : arrTy Try.prog 98 = some (9, 2) := by kernel_rfl
theorem zero_99 : zeroOf Try.prog 99 = some (.agg #[(.int .i64 0), (.int .u8 0), (.int .i64 0), (.int .u8 0), (.int .i64 0), (.int .u8 0), (.int .i64 0), (.int .u8 0), (.int .i64 0), (.int .u8 0), (.int .i64 0), (.int .u8 0), (.int .i64 0), (.int .u8 0), (.int .i64 0), (.int .u8 0), (.int .i64 0), (.int .u8 0), (.int .i64 0), (.slice none 0 0)]) := by kernel_rfl
theorem st_99 : structTy Try.prog 99 20 = true := by kernel_rfl
theorem zero_100 : zeroOf Try.prog 100 = some (.agg #[(.int .i64 0), (.int .u8 0), (.int .i64 0), (.int .u8 0), (.int .i64 0), (.int .u8 0), (.int .i64 0), (.int .u8 0), (.int .i64 0), (.int .u8 0), (.int .i64 0), (.int .u8 0), (.int .i64 0), (.int .u8 0), (.int .i64 0), (.int .u8 0), (.int .i64 0), (.int .u8 0), (.int .i64 0), (.slice none 0 0)]) := by kernel_rfl
theorem st_100 : structTy Try.prog 100 20 = true := by kernel_rfl
theorem fld_100_0 : fieldOff Try.prog 100 0 = some 0 := by kernel_rfl
theorem fld_100_1 : fieldOff Try.prog 100 1 = some 1 := by kernel_rfl
theorem fld_100_2 : fieldOff Try.prog 100 2 = some 19 := by kernel_rfl
theorem pl_103 : plainTy Try.prog 103 = true := by kernel_rfl
theorem one_103 : oneTy Try.prog 103 = true := by kernel_rfl
theorem zero_103 : zeroOf Try.prog 103 = some (.pointer none) := by kernel_rfl
theorem zero_111 : zeroOf Try.prog 111 = some (.agg #[(.string (bs [])), (.int .u16 0), (.int .u16 0), (.int .u32 0), (.string (bs []))]) := by kernel_rfl
theorem st_111 : structTy Try.prog 111 5 = true := by kernel_rfl
theorem zero_112 : zeroOf Try.prog 112 = some (.agg #[(.string (bs [])), (.int .u16 0), (.int .u16 0), (.int .u32 0), (.string (bs []))]) := by kernel_rfl
theorem st_112 : structTy Try.prog 112 5 = true := by kernel_rfl
theorem fld_112_0 : fieldOff Try.prog 112 0 = some 0 := by kernel_rfl
theorem fld_112_1 : fieldOff Try.prog 112 1 = some 1 := by kernel_rfl
theorem fld_112_2 : fieldOff Try.prog 112 2 = some 2 := by kernel_rfl
theorem fld_112_3 : fieldOff Try.prog 112 3 = some 3 := by kernel_rfl
theorem fld_112_4 : fieldOff Try.prog 112 4 = some 4 := by kernel_rfl
theorem pl_113 : plainTy Try.prog 113 = true := by kernel_rfl
theorem one_113 : oneTy Try.prog 113 = true := by kernel_rfl
theorem zero_113 : zeroOf Try.prog 113 = some (.slice none 0 0) := by kernel_rfl
theorem info_113 : (Try.prog.info? 32).map (fun i => (i.zero, i.size, i.bytes)) = some (some (.agg #[(.int .u16 0), (.bool false), (.int .u8 0), (.bool false), (.bool false), (.bool false), (.bool false), (.bool false), (.bool false), (.bool false), (.int .u8 0), (.slice none 0 0), (.slice none 0 0), (.slice none 0 0), (.slice none 0 0), (.bool false), (.int .u16 0), (.int .u8 0), (.int .u8 0), (.int .u16 0), (.slice none 0 0)]), 21, 152) := by kernel_rfl
theorem ety_113 : ElemTy Try.prog 113 32 21 152 (.agg #[(.int .u16 0), (.bool false), (.int .u8 0), (.bool false), (.bool false), (.bool false), (.bool false), (.bool false), (.bool false), (.bool false), (.int .u8 0), (.slice none 0 0), (.slice none 0 0), (.slice none 0 0), (.slice none 0 0), (.bool false), (.int .u16 0), (.int .u8 0), (.int .u8 0), (.int .u16 0), (.slice none 0 0)]) := by
  obtain ⟨i, h1, h2, h3, h4⟩ := info_parts info_113
  exact ⟨Try.underlying113, ⟨i, h1, h2, h3, h4⟩, rfl, by decide⟩
theorem zero_114 : zeroOf Try.prog 114 = some (.agg #[(.int .i64 0), (.int .u16 0), (.bool false), (.int .u8 0), (.bool false), (.bool false), (.bool false), (.bool false), (.bool false), (.bool false), (.bool false), (.int .u8 0), (.slice none 0 0), (.slice none 0 0), (.slice none 0 0), (.slice none 0 0), (.bool false), (.int .u16 0), (.int .u8 0), (.int .u8 0), (.int .u16 0), (.slice none 0 0), (.int .u32 0)]) := by kernel_rfl
theorem st_114 : structTy Try.prog 114 23 = true := by kernel_rfl
theorem zero_115 : zeroOf Try.prog 115 = some (.agg #[(.int .i64 0), (.int .u16 0), (.bool false), (.int .u8 0), (.bool false), (.bool false), (.bool false), (.bool false), (.bool false), (.bool false), (.bool false), (.int .u8 0), (.slice none 0 0), (.slice none 0 0), (.slice none 0 0), (.slice none 0 0), (.bool false), (.int .u16 0), (.int .u8 0), (.int .u8 0), (.int .u16 0), (.slice none 0 0), (.int .u32 0)]) := by kernel_rfl
theorem st_115 : structTy Try.prog 115 23 = true := by kernel_rfl
theorem fld_115_0 : fieldOff Try.prog 115 0 = some 0 := by kernel_rfl
theorem fld_115_1 : fieldOff Try.prog 115 1 = some 1 := by kernel_rfl
theorem fld_115_2 : fieldOff Try.prog 115 2 = some 22 := by kernel_rfl
theorem pl_116 : plainTy Try.prog 116 = true := by kernel_rfl
theorem one_116 : oneTy Try.prog 116 = true := by kernel_rfl
theorem zero_116 : zeroOf Try.prog 116 = some (.slice none 0 0) := by kernel_rfl
theorem info_116 : (Try.prog.info? 5).map (fun i => (i.zero, i.size, i.bytes)) = some (some (.int .u8 0), 1, 1) := by kernel_rfl
theorem ety_116 : ElemTy Try.prog 116 5 1 1 (.int .u8 0) := by
  obtain ⟨i, h1, h2, h3, h4⟩ := info_parts info_116
  exact ⟨Try.underlying116, ⟨i, h1, h2, h3, h4⟩, rfl, by decide⟩
theorem pl_117 : plainTy Try.prog 117 = true := by kernel_rfl
theorem one_117 : oneTy Try.prog 117 = true := by kernel_rfl
theorem zero_117 : zeroOf Try.prog 117 = some (.slice none 0 0) := by kernel_rfl
theorem info_117 : (Try.prog.info? 119).map (fun i => (i.zero, i.size, i.bytes)) = some (some (.agg #[(.int .i64 0), (.int .u8 0), (.slice none 0 0), (.slice none 0 0), (.int .u32 0), (.string (bs [])), (.int .u16 0), (.int .u16 0), (.int .u32 0), (.slice none 0 0), (.bool false)]), 11, 128) := by kernel_rfl
theorem ety_117 : ElemTy Try.prog 117 119 11 128 (.agg #[(.int .i64 0), (.int .u8 0), (.slice none 0 0), (.slice none 0 0), (.int .u32 0), (.string (bs [])), (.int .u16 0), (.int .u16 0), (.int .u32 0), (.slice none 0 0), (.bool false)]) := by
  obtain ⟨i, h1, h2, h3, h4⟩ := info_parts info_117
  exact ⟨Try.underlying117, ⟨i, h1, h2, h3, h4⟩, rfl, by decide⟩
theorem zero_118 : zeroOf Try.prog 118 = some (.agg #[(.int .i64 0), (.int .u8 0), (.slice none 0 0), (.slice none 0 0), (.int .u32 0), (.string (bs [])), (.int .u16 0), (.int .u16 0), (.int .u32 0), (.slice none 0 0), (.bool false)]) := by kernel_rfl
theorem st_118 : structTy Try.prog 118 11 = true := by kernel_rfl
theorem zero_119 : zeroOf Try.prog 119 = some (.agg #[(.int .i64 0), (.int .u8 0), (.slice none 0 0), (.slice none 0 0), (.int .u32 0), (.string (bs [])), (.int .u16 0), (.int .u16 0), (.int .u32 0), (.slice none 0 0), (.bool false)]) := by kernel_rfl
theorem st_119 : structTy Try.prog 119 11 = true := by kernel_rfl
theorem fld_119_0 : fieldOff Try.prog 119 0 = some 0 := by kernel_rfl
theorem fld_119_1 : fieldOff Try.prog 119 1 = some 5 := by kernel_rfl
theorem fld_119_2 : fieldOff Try.prog 119 2 = some 10 := by kernel_rfl
theorem pl_122 : plainTy Try.prog 122 = true := by kernel_rfl
theorem one_122 : oneTy Try.prog 122 = true := by kernel_rfl
theorem zero_122 : zeroOf Try.prog 122 = some (.slice none 0 0) := by kernel_rfl
theorem info_122 : (Try.prog.info? 141).map (fun i => (i.zero, i.size, i.bytes)) = some (some (.agg #[(.int .i64 0), (.int .u8 0), (.slice none 0 0), (.slice none 0 0), (.int .u32 0), (.bool false)]), 6, 80) := by kernel_rfl
theorem ety_122 : ElemTy Try.prog 122 141 6 80 (.agg #[(.int .i64 0), (.int .u8 0), (.slice none 0 0), (.slice none 0 0), (.int .u32 0), (.bool false)]) := by
  obtain ⟨i, h1, h2, h3, h4⟩ := info_parts info_122
  exact ⟨Try.underlying122, ⟨i, h1, h2, h3, h4⟩, rfl, by decide⟩
theorem zero_123 : zeroOf Try.prog 123 = some (.agg #[(.int .i64 0), (.slice none 0 0)]) := by kernel_rfl
theorem st_123 : structTy Try.prog 123 2 = true := by kernel_rfl
theorem zero_124 : zeroOf Try.prog 124 = some (.agg #[(.int .i64 0), (.slice none 0 0)]) := by kernel_rfl
theorem st_124 : structTy Try.prog 124 2 = true := by kernel_rfl
theorem fld_124_0 : fieldOff Try.prog 124 0 = some 0 := by kernel_rfl
theorem fld_124_1 : fieldOff Try.prog 124 1 = some 1 := by kernel_rfl
theorem pl_130 : plainTy Try.prog 130 = true := by kernel_rfl
theorem one_130 : oneTy Try.prog 130 = true := by kernel_rfl
theorem zero_130 : zeroOf Try.prog 130 = some (.slice none 0 0) := by kernel_rfl
theorem info_130 : (Try.prog.info? 40).map (fun i => (i.zero, i.size, i.bytes)) = some (some (.slice none 0 0), 1, 24) := by kernel_rfl
theorem ety_130 : ElemTy Try.prog 130 40 1 24 (.slice none 0 0) := by
  obtain ⟨i, h1, h2, h3, h4⟩ := info_parts info_130
  exact ⟨Try.underlying130, ⟨i, h1, h2, h3, h4⟩, rfl, by decide⟩
theorem zero_140 : zeroOf Try.prog 140 = some (.agg #[(.int .i64 0), (.int .u8 0), (.slice none 0 0), (.slice none 0 0), (.int .u32 0), (.bool false)]) := by kernel_rfl
theorem st_140 : structTy Try.prog 140 6 = true := by kernel_rfl
theorem zero_141 : zeroOf Try.prog 141 = some (.agg #[(.int .i64 0), (.int .u8 0), (.slice none 0 0), (.slice none 0 0), (.int .u32 0), (.bool false)]) := by kernel_rfl
theorem st_141 : structTy Try.prog 141 6 = true := by kernel_rfl
theorem fld_141_0 : fieldOff Try.prog 141 0 = some 0 := by kernel_rfl
theorem fld_141_1 : fieldOff Try.prog 141 1 = some 5 := by kernel_rfl
theorem zero_155 : zeroOf Try.prog 155 = some (.agg #[(.int .i64 0), (.int .i64 0), (.int .i64 0), (.int .i64 0), (.int .i64 0), (.int .i64 0), (.int .i64 0), (.int .i64 0), (.int .i64 0)]) := by kernel_rfl
theorem arr_155 : arrTy Try.prog 155 = some (9, 1) := by kernel_rfl
theorem pl_167 : plainTy Try.prog 167 = true := by kernel_rfl
theorem one_167 : oneTy Try.prog 167 = true := by kernel_rfl
theorem zero_167 : zeroOf Try.prog 167 = some (.int .i64 0) := by kernel_rfl
theorem pl_177 : plainTy Try.prog 177 = true := by kernel_rfl
theorem one_177 : oneTy Try.prog 177 = true := by kernel_rfl
theorem zero_177 : zeroOf Try.prog 177 = some (.int .u64 0) := by kernel_rfl
theorem pl_184 : plainTy Try.prog 184 = true := by kernel_rfl
theorem one_184 : oneTy Try.prog 184 = true := by kernel_rfl
theorem zero_184 : zeroOf Try.prog 184 = some (.slice none 0 0) := by kernel_rfl
theorem info_184 : (Try.prog.info? 188).map (fun i => (i.zero, i.size, i.bytes)) = some (some (.agg #[(.string (bs [])), (.bool false)]), 2, 24) := by kernel_rfl
theorem ety_184 : ElemTy Try.prog 184 188 2 24 (.agg #[(.string (bs [])), (.bool false)]) := by
  obtain ⟨i, h1, h2, h3, h4⟩ := info_parts info_184
  exact ⟨Try.underlying184, ⟨i, h1, h2, h3, h4⟩, rfl, by decide⟩
theorem zero_187 : zeroOf Try.prog 187 = some (.agg #[(.string (bs [])), (.bool false)]) := by kernel_rfl
theorem st_187 : structTy Try.prog 187 2 = true := by kernel_rfl
theorem zero_188 : zeroOf Try.prog 188 = some (.agg #[(.string (bs [])), (.bool false)]) := by kernel_rfl
theorem st_188 : structTy Try.prog 188 2 = true := by kernel_rfl
theorem fld_188_0 : fieldOff Try.prog 188 0 = some 0 := by kernel_rfl
theorem fld_188_1 : fieldOff Try.prog 188 1 = some 1 := by kernel_rfl
theorem pl_190 : plainTy Try.prog 190 = true := by kernel_rfl
theorem one_190 : oneTy Try.prog 190 = true := by kernel_rfl
theorem zero_190 : zeroOf Try.prog 190 = some (.int .u64 0) := by kernel_rfl
theorem pl_194 : plainTy Try.prog 194 = true := by kernel_rfl
theorem one_194 : oneTy Try.prog 194 = true := by kernel_rfl
theorem zero_194 : zeroOf Try.prog 194 = some (.pointer none) := by kernel_rfl
theorem pl_203 : plainTy Try.prog 203 = true := by kernel_rfl
theorem one_203 : oneTy Try.prog 203 = true := by kernel_rfl
theorem zero_203 : zeroOf Try.prog 203 = some (.pointer none) := by kernel_rfl
theorem zero_213 : zeroOf Try.prog 213 = some (.agg #[(.pointer none), (.pointer none), (.pointer none), (.string (bs []))]) := by kernel_rfl
theorem st_213 : structTy Try.prog 213 4 = true := by kernel_rfl
theorem zero_214 : zeroOf Try.prog 214 = some (.agg #[(.pointer none), (.pointer none), (.pointer none), (.string (bs []))]) := by kernel_rfl
theorem st_214 : structTy Try.prog 214 4 = true := by kernel_rfl
theorem fld_214_0 : fieldOff Try.prog 214 0 = some 0 := by kernel_rfl
theorem fld_214_1 : fieldOff Try.prog 214 1 = some 1 := by kernel_rfl
theorem fld_214_2 : fieldOff Try.prog 214 2 = some 2 := by kernel_rfl
theorem fld_214_3 : fieldOff Try.prog 214 3 = some 3 := by kernel_rfl
theorem zero_215 : zeroOf Try.prog 215 = some (.agg #[]) := by kernel_rfl
theorem arr_215 : arrTy Try.prog 215 = some (0, 1) := by kernel_rfl
theorem zero_216 : zeroOf Try.prog 216 = some (.agg #[]) := by kernel_rfl
theorem zero_217 : zeroOf Try.prog 217 = some (.agg #[]) := by kernel_rfl
theorem pl_218 : plainTy Try.prog 218 = true := by kernel_rfl
theorem one_218 : oneTy Try.prog 218 = true := by kernel_rfl
theorem zero_218 : zeroOf Try.prog 218 = some (.int .u8 0) := by kernel_rfl
theorem pl_219 : plainTy Try.prog 219 = true := by kernel_rfl
theorem one_219 : oneTy Try.prog 219 = true := by kernel_rfl
theorem zero_219 : zeroOf Try.prog 219 = some (.int .u8 0) := by kernel_rfl
theorem pl_221 : plainTy Try.prog 221 = true := by kernel_rfl
theorem one_221 : oneTy Try.prog 221 = true := by kernel_rfl
theorem zero_221 : zeroOf Try.prog 221 = some (.pointer none) := by kernel_rfl
theorem pl_222 : plainTy Try.prog 222 = true := by kernel_rfl
theorem one_222 : oneTy Try.prog 222 = true := by kernel_rfl
theorem zero_222 : zeroOf Try.prog 222 = some (.int .i32 0) := by kernel_rfl
theorem pl_223 : plainTy Try.prog 223 = true := by kernel_rfl
theorem one_223 : oneTy Try.prog 223 = true := by kernel_rfl
theorem zero_223 : zeroOf Try.prog 223 = some (.int .i32 0) := by kernel_rfl
theorem zero_224 : zeroOf Try.prog 224 = some (.agg #[(.int .u64 0), (.int .u64 0), (.int .u32 0), (.int .u8 0), (.int .u8 0), (.int .u8 0), (.int .u8 0), .nilFunc, (.pointer none), (.int .i32 0), (.int .i32 0)]) := by kernel_rfl
theorem st_224 : structTy Try.prog 224 11 = true := by kernel_rfl
theorem zero_225 : zeroOf Try.prog 225 = some (.agg #[(.int .u64 0), (.int .u64 0), (.int .u32 0), (.int .u8 0), (.int .u8 0), (.int .u8 0), (.int .u8 0), .nilFunc, (.pointer none), (.int .i32 0), (.int .i32 0)]) := by kernel_rfl
theorem st_225 : structTy Try.prog 225 11 = true := by kernel_rfl
theorem fld_225_0 : fieldOff Try.prog 225 0 = some 0 := by kernel_rfl
theorem fld_225_1 : fieldOff Try.prog 225 1 = some 1 := by kernel_rfl
theorem fld_225_2 : fieldOff Try.prog 225 2 = some 2 := by kernel_rfl
theorem fld_225_3 : fieldOff Try.prog 225 3 = some 3 := by kernel_rfl
theorem fld_225_4 : fieldOff Try.prog 225 4 = some 4 := by kernel_rfl
theorem fld_225_5 : fieldOff Try.prog 225 5 = some 5 := by kernel_rfl
theorem fld_225_6 : fieldOff Try.prog 225 6 = some 6 := by kernel_rfl
theorem fld_225_7 : fieldOff Try.prog 225 7 = some 7 := by kernel_rfl
theorem fld_225_8 : fieldOff Try.prog 225 8 = some 8 := by kernel_rfl
theorem fld_225_9 : fieldOff Try.prog 225 9 = some 9 := by kernel_rfl
theorem fld_225_10 : fieldOff Try.prog 225 10 = some 10 := by kernel_rfl
theorem zero_226 : zeroOf Try.prog 226 = some (.agg #[(.int .u16 0), (.string (bs []))]) := by kernel_rfl
theorem st_226 : structTy Try.prog 226 2 = true := by kernel_rfl
theorem zero_227 : zeroOf Try.prog 227 = some (.agg #[(.int .u16 0), (.string (bs []))]) := by kernel_rfl
theorem st_227 : structTy Try.prog 227 2 = true := by kernel_rfl
theorem fld_227_0 : fieldOff Try.prog 227 0 = some 0 := by kernel_rfl
theorem fld_227_1 : fieldOff Try.prog 227 1 = some 1 := by kernel_rfl
theorem bl_25_10 (x0 : Int) : Built Try.prog 25 [(10, .int .u8 x0)] (.agg #[(.int .u16 0), (.bool false), (.int .u8 0), (.bool false), (.bool false), (.bool false), (.bool false), (.bool false), (.bool false), (.bool false), .int .u8 x0]) := ⟨fun w => by kernel_rfl⟩
theorem bl_32_  : Built Try.prog 32 [] (.agg #[(.int .u16 0), (.bool false), (.int .u8 0), (.bool false), (.bool false), (.bool false), (.bool false), (.bool false), (.bool false), (.bool false), (.int .u8 0), (.slice none 0 0), (.slice none 0 0), (.slice none 0 0), (.slice none 0 0), (.bool false), (.int .u16 0), (.int .u8 0), (.int .u8 0), (.int .u16 0), (.slice none 0 0)]) := ⟨fun w => by kernel_rfl⟩
theorem bl_32_0 (x0 x1 x2 x3 x4 x5 x6 x7 x8 x9 x10 : Value) : Built Try.prog 32 [(0, .agg #[x0, x1, x2, x3, x4, x5, x6, x7, x8, x9, x10])] (.agg #[x0, x1, x2, x3, x4, x5, x6, x7, x8, x9, x10, (.slice none 0 0), (.slice none 0 0), (.slice none 0 0), (.slice none 0 0), (.bool false), (.int .u16 0), (.int .u8 0), (.int .u8 0), (.int .u16 0), (.slice none 0 0)]) := ⟨fun w => by kernel_rfl⟩
theorem bl_32_2 (x0 : Option Addr) (m0 c0 : Nat) : Built Try.prog 32 [(2, .slice x0 m0 c0)] (.agg #[(.int .u16 0), (.bool false), (.int .u8 0), (.bool false), (.bool false), (.bool false), (.bool false), (.bool false), (.bool false), (.bool false), (.int .u8 0), (.slice none 0 0), .slice x0 m0 c0, (.slice none 0 0), (.slice none 0 0), (.bool false), (.int .u16 0), (.int .u8 0), (.int .u8 0), (.int .u16 0), (.slice none 0 0)]) := ⟨fun w => by kernel_rfl⟩
theorem bl_34_0_1_2 (x0 : ByteArray) (x1 : Int) (x2 : Int) : Built Try.prog 34 [(0, .string x0), (1, .int .u16 x1), (2, .int .u16 x2)] (.agg #[.string x0, .int .u16 x1, .int .u16 x2]) := ⟨fun w => by kernel_rfl⟩
theorem bl_42_  : Built Try.prog 42 [] (.agg #[(.int .u8 0), (.slice none 0 0), (.slice none 0 0)]) := ⟨fun w => by kernel_rfl⟩
theorem bl_42_0 (x0 : Int) : Built Try.prog 42 [(0, .int .u8 x0)] (.agg #[.int .u8 x0, (.slice none 0 0), (.slice none 0 0)]) := ⟨fun w => by kernel_rfl⟩
theorem bl_42_0_1 (x0 : Int) (x1 : Option Addr) (m1 c1 : Nat) : Built Try.prog 42 [(0, .int .u8 x0), (1, .slice x1 m1 c1)] (.agg #[.int .u8 x0, .slice x1 m1 c1, (.slice none 0 0)]) := ⟨fun w => by kernel_rfl⟩
theorem bl_42_0_1_2 (x0 : Int) (x1 : Option Addr) (m1 c1 : Nat) (x2 : Option Addr) (m2 c2 : Nat) : Built Try.prog 42 [(0, .int .u8 x0), (1, .slice x1 m1 c1), (2, .slice x2 m2 c2)] (.agg #[.int .u8 x0, .slice x1 m1 c1, .slice x2 m2 c2]) := ⟨fun w => by kernel_rfl⟩
theorem bl_42_1 (x0 : Option Addr) (m0 c0 : Nat) : Built Try.prog 42 [(1, .slice x0 m0 c0)] (.agg #[(.int .u8 0), .slice x0 m0 c0, (.slice none 0 0)]) := ⟨fun w => by kernel_rfl⟩
theorem bl_46_  : Built Try.prog 46 [] (.agg #[(.int .i64 0), (.int .u8 0), (.slice none 0 0), (.slice none 0 0), (.int .u32 0)]) := ⟨fun w => by kernel_rfl⟩
theorem bl_46_0 (x0 : Int) : Built Try.prog 46 [(0, .int .i64 x0)] (.agg #[.int .i64 x0, (.int .u8 0), (.slice none 0 0), (.slice none 0 0), (.int .u32 0)]) := ⟨fun w => by kernel_rfl⟩
theorem bl_46_0_1 (x0 : Int) (x1 x2 x3 : Value) : Built Try.prog 46 [(0, .int .i64 x0), (1, .agg #[x1, x2, x3])] (.agg #[.int .i64 x0, x1, x2, x3, (.int .u32 0)]) := ⟨fun w => by kernel_rfl⟩
theorem bl_46_0_1_2 (x0 : Int) (x1 x2 x3 : Value) (x4 : Int) : Built Try.prog 46 [(0, .int .i64 x0), (1, .agg #[x1, x2, x3]), (2, .int .u32 x4)] (.agg #[.int .i64 x0, x1, x2, x3, .int .u32 x4]) := ⟨fun w => by kernel_rfl⟩
theorem bl_60_  : Built Try.prog 60 [] (.agg #[(.string (bs [])), (.int .u16 0), (.int .u16 0), (.int .u32 0), (.slice none 0 0)]) := ⟨fun w => by kernel_rfl⟩
theorem bl_60_0 (x0 : ByteArray) : Built Try.prog 60 [(0, .string x0)] (.agg #[.string x0, (.int .u16 0), (.int .u16 0), (.int .u32 0), (.slice none 0 0)]) := ⟨fun w => by kernel_rfl⟩
theorem bl_60_0_1_2 (x0 : ByteArray) (x1 : Int) (x2 : Int) : Built Try.prog 60 [(0, .string x0), (1, .int .u16 x1), (2, .int .u16 x2)] (.agg #[.string x0, .int .u16 x1, .int .u16 x2, (.int .u32 0), (.slice none 0 0)]) := ⟨fun w => by kernel_rfl⟩
theorem bl_60_0_1_2_3_4 (x0 : ByteArray) (x1 : Int) (x2 : Int) (x3 : Int) (x4 : Option Addr) (m4 c4 : Nat) : Built Try.prog 60 [(0, .string x0), (1, .int .u16 x1), (2, .int .u16 x2), (3, .int .u32 x3), (4, .slice x4 m4 c4)] (.agg #[.string x0, .int .u16 x1, .int .u16 x2, .int .u32 x3, .slice x4 m4 c4]) := ⟨fun w => by kernel_rfl⟩
theorem bl_60_0_1_2_4 (x0 : ByteArray) (x1 : Int) (x2 : Int) (x3 : Option Addr) (m3 c3 : Nat) : Built Try.prog 60 [(0, .string x0), (1, .int .u16 x1), (2, .int .u16 x2), (4, .slice x3 m3 c3)] (.agg #[.string x0, .int .u16 x1, .int .u16 x2, (.int .u32 0), .slice x3 m3 c3]) := ⟨fun w => by kernel_rfl⟩
theorem bl_63_0 (x0 : Int) : Built Try.prog 63 [(0, .int .i64 x0)] (.agg #[.int .i64 x0, (.int .u8 0), (.slice none 0 0), (.slice none 0 0), (.int .u32 0)]) := ⟨fun w => by kernel_rfl⟩
theorem bl_63_0_1_2 (x0 : Int) (x1 x2 x3 : Value) (x4 : Int) : Built Try.prog 63 [(0, .int .i64 x0), (1, .agg #[x1, x2, x3]), (2, .int .u32 x4)] (.agg #[.int .i64 x0, x1, x2, x3, .int .u32 x4]) := ⟨fun w => by kernel_rfl⟩
theorem bl_97_  : Built Try.prog 97 [] (.agg #[(.int .u8 0), (.int .i64 0)]) := ⟨fun w => by kernel_rfl⟩
theorem bl_97_0 (x0 : Int) : Built Try.prog 97 [(0, .int .u8 x0)] (.agg #[.int .u8 x0, (.int .i64 0)]) := ⟨fun w => by kernel_rfl⟩
theorem bl_97_0_1 (x0 : Int) (x1 : Int) : Built Try.prog 97 [(0, .int .u8 x0), (1, .int .i64 x1)] (.agg #[.int .u8 x0, .int .i64 x1]) := ⟨fun w => by kernel_rfl⟩
theorem bl_100_  : Built Try.prog 100 [] (.agg #[(.int .i64 0), (.int .u8 0), (.int .i64 0), (.int .u8 0), (.int .i64 0), (.int .u8 0), (.int .i64 0), (.int .u8 0), (.int .i64 0), (.int .u8 0), (.int .i64 0), (.int .u8 0), (.int .i64 0), (.int .u8 0), (.int .i64 0), (.int .u8 0), (.int .i64 0), (.int .u8 0), (.int .i64 0), (.slice none 0 0)]) := ⟨fun w => by kernel_rfl⟩
theorem bl_100_0 (x0 : Int) : Built Try.prog 100 [(0, .int .i64 x0)] (.agg #[.int .i64 x0, (.int .u8 0), (.int .i64 0), (.int .u8 0), (.int .i64 0), (.int .u8 0), (.int .i64 0), (.int .u8 0), (.int .i64 0), (.int .u8 0), (.int .i64 0), (.int .u8 0), (.int .i64 0), (.int .u8 0), (.int .i64 0), (.int .u8 0), (.int .i64 0), (.int .u8 0), (.int .i64 0), (.slice none 0 0)]) := ⟨fun w => by kernel_rfl⟩
theorem bl_112_0_1_2_3_4 (x0 : ByteArray) (x1 : Int) (x2 : Int) (x3 : Int) (x4 : ByteArray) : Built Try.prog 112 [(0, .string x0), (1, .int .u16 x1), (2, .int .u16 x2), (3, .int .u32 x3), (4, .string x4)] (.agg #[.string x0, .int .u16 x1, .int .u16 x2, .int .u32 x3, .string x4]) := ⟨fun w => by kernel_rfl⟩
theorem bl_115_0_1_2 (x0 : Int) (x1 x2 x3 x4 x5 x6 x7 x8 x9 x10 x11 x12 x13 x14 x15 x16 x17 x18 x19 x20 x21 : Value) (x22 : Int) : Built Try.prog 115 [(0, .int .i64 x0), (1, .agg #[x1, x2, x3, x4, x5, x6, x7, x8, x9, x10, x11, x12, x13, x14, x15, x16, x17, x18, x19, x20, x21]), (2, .int .u32 x22)] (.agg #[.int .i64 x0, x1, x2, x3, x4, x5, x6, x7, x8, x9, x10, x11, x12, x13, x14, x15, x16, x17, x18, x19, x20, x21, .int .u32 x22]) := ⟨fun w => by kernel_rfl⟩
theorem bl_119_0 (x0 x1 x2 x3 x4 : Value) : Built Try.prog 119 [(0, .agg #[x0, x1, x2, x3, x4])] (.agg #[x0, x1, x2, x3, x4, (.string (bs [])), (.int .u16 0), (.int .u16 0), (.int .u32 0), (.slice none 0 0), (.bool false)]) := ⟨fun w => by kernel_rfl⟩
theorem bl_124_0 (x0 : Int) : Built Try.prog 124 [(0, .int .i64 x0)] (.agg #[.int .i64 x0, (.slice none 0 0)]) := ⟨fun w => by kernel_rfl⟩
theorem bl_124_0_1 (x0 : Int) (x1 : Option Addr) (m1 c1 : Nat) : Built Try.prog 124 [(0, .int .i64 x0), (1, .slice x1 m1 c1)] (.agg #[.int .i64 x0, .slice x1 m1 c1]) := ⟨fun w => by kernel_rfl⟩
theorem bl_141_0 (x0 x1 x2 x3 x4 : Value) : Built Try.prog 141 [(0, .agg #[x0, x1, x2, x3, x4])] (.agg #[x0, x1, x2, x3, x4, (.bool false)]) := ⟨fun w => by kernel_rfl⟩
theorem bl_141_0_1 (x0 x1 x2 x3 x4 : Value) (x5 : Bool) : Built Try.prog 141 [(0, .agg #[x0, x1, x2, x3, x4]), (1, .bool x5)] (.agg #[x0, x1, x2, x3, x4, .bool x5]) := ⟨fun w => by kernel_rfl⟩
theorem bl_188_0 (x0 : ByteArray) : Built Try.prog 188 [(0, .string x0)] (.agg #[.string x0, (.bool false)]) := ⟨fun w => by kernel_rfl⟩
theorem bl_188_0_1 (x0 : ByteArray) (x1 : Bool) : Built Try.prog 188 [(0, .string x0), (1, .bool x1)] (.agg #[.string x0, .bool x1]) := ⟨fun w => by kernel_rfl⟩
theorem hb_3 : hasBody Try.prog 3 = true := by kernel_rfl
theorem hb_4 : hasBody Try.prog 4 = true := by kernel_rfl
theorem hb_5 : hasBody Try.prog 5 = true := by kernel_rfl
theorem hb_6 : hasBody Try.prog 6 = true := by kernel_rfl
theorem hb_7 : hasBody Try.prog 7 = true := by kernel_rfl
theorem hb_8 : hasBody Try.prog 8 = true := by kernel_rfl
theorem hb_9 : hasBody Try.prog 9 = true := by kernel_rfl
theorem hb_10 : hasBody Try.prog 10 = true := by kernel_rfl
theorem hb_11 : hasBody Try.prog 11 = true := by kernel_rfl
theorem hb_12 : hasBody Try.prog 12 = true := by kernel_rfl
theorem hb_13 : hasBody Try.prog 13 = true := by kernel_rfl
theorem hb_14 : hasBody Try.prog 14 = true := by kernel_rfl
theorem hb_15 : hasBody Try.prog 15 = true := by kernel_rfl
theorem hb_16 : hasBody Try.prog 16 = true := by kernel_rfl
theorem hb_17 : hasBody Try.prog 17 = true := by kernel_rfl
theorem hb_18 : hasBody Try.prog 18 = true := by kernel_rfl
theorem hb_19 : hasBody Try.prog 19 = true := by kernel_rfl
theorem hb_20 : hasBody Try.prog 20 = true := by kernel_rfl
theorem hb_21 : hasBody Try.prog 21 = true := by kernel_rfl
theorem hb_22 : hasBody Try.prog 22 = true := by kernel_rfl
theorem hb_23 : hasBody Try.prog 23 = true := by kernel_rfl
theorem hb_24 : hasBody Try.prog 24 = true := by kernel_rfl
theorem hb_25 : hasBody Try.prog 25 = true := by kernel_rfl
theorem hb_26 : hasBody Try.prog 26 = true := by kernel_rfl
theorem hb_27 : hasBody Try.prog 27 = true := by kernel_rfl
theorem hb_28 : hasBody Try.prog 28 = true := by kernel_rfl
theorem hb_29 : hasBody Try.prog 29 = true := by kernel_rfl
theorem hb_30 : hasBody Try.prog 30 = true := by kernel_rfl
theorem hb_31 : hasBody Try.prog 31 = true := by kernel_rfl
theorem hb_32 : hasBody Try.prog 32 = true := by kernel_rfl
theorem hb_33 : hasBody Try.prog 33 = true := by kernel_rfl
theorem hb_34 : hasBody Try.prog 34 = true := by kernel_rfl
theorem hb_35 : hasBody Try.prog 35 = true := by kernel_rfl
theorem hb_36 : hasBody Try.prog 36 = true := by kernel_rfl
theorem hb_37 : hasBody Try.prog 37 = true := by kernel_rfl
theorem hb_38 : hasBody Try.prog 38 = true := by kernel_rfl
theorem hb_39 : hasBody Try.prog 39 = true := by kernel_rfl
theorem hb_40 : hasBody Try.prog 40 = true := by kernel_rfl
theorem hb_41 : hasBody Try.prog 41 = true := by kernel_rfl
theorem hb_42 : hasBody Try.prog 42 = true := by kernel_rfl
theorem hb_43 : hasBody Try.prog 43 = true := by kernel_rfl
theorem hb_44 : hasBody Try.prog 44 = true := by kernel_rfl
theorem hb_45 : hasBody Try.prog 45 = true := by kernel_rfl
theorem hb_46 : hasBody Try.prog 46 = true := by kernel_rfl
theorem hb_47 : hasBody Try.prog 47 = true := by kernel_rfl
theorem hb_48 : hasBody Try.prog 48 = true := by kernel_rfl
theorem hb_49 : hasBody Try.prog 49 = true := by kernel_rfl
theorem hb_50 : hasBody Try.prog 50 = true := by kernel_rfl
theorem hb_51 : hasBody Try.prog 51 = true := by kernel_rfl
theorem hb_52 : hasBody Try.prog 52 = true := by kernel_rfl
theorem hb_53 : hasBody Try.prog 53 = true := by kernel_rfl
theorem hb_54 : hasBody Try.prog 54 = true := by kernel_rfl
theorem hb_55 : hasBody Try.prog 55 = true := by kernel_rfl
theorem hb_56 : hasBody Try.prog 56 = true := by kernel_rfl
theorem hb_57 : hasBody Try.prog 57 = true := by kernel_rfl
theorem hb_58 : hasBody Try.prog 58 = true := by kernel_rfl
theorem hb_59 : hasBody Try.prog 59 = true := by kernel_rfl
theorem hb_60 : hasBody Try.prog 60 = true := by kernel_rfl
theorem hb_61 : hasBody Try.prog 61 = true := by kernel_rfl
theorem hb_62 : hasBody Try.prog 62 = true := by kernel_rfl
theorem hb_63 : hasBody Try.prog 63 = true := by kernel_rfl
theorem hb_64 : hasBody Try.prog 64 = true := by kernel_rfl
theorem hb_65 : hasBody Try.prog 65 = true := by kernel_rfl
theorem hb_66 : hasBody Try.prog 66 = true := by kernel_rfl
theorem hb_67 : hasBody Try.prog 67 = true := by kernel_rfl
theorem hb_68 : hasBody Try.prog 68 = true := by kernel_rfl
theorem hb_69 : hasBody Try.prog 69 = true := by kernel_rfl
theorem hb_70 : hasBody Try.prog 70 = true := by kernel_rfl
theorem hb_71 : hasBody Try.prog 71 = true := by kernel_rfl
theorem hb_72 : hasBody Try.prog 72 = true := by kernel_rfl
theorem hb_73 : hasBody Try.prog 73 = true := by kernel_rfl
theorem hb_74 : hasBody Try.prog 74 = true := by kernel_rfl
theorem hb_75 : hasBody Try.prog 75 = true := by kernel_rfl
theorem hb_76 : hasBody Try.prog 76 = true := by kernel_rfl
theorem hb_77 : hasBody Try.prog 77 = true := by kernel_rfl
theorem hb_78 : hasBody Try.prog 78 = true := by kernel_rfl
theorem hb_79 : hasBody Try.prog 79 = true := by kernel_rfl
theorem hb_80 : hasBody Try.prog 80 = true := by kernel_rfl
theorem hb_81 : hasBody Try.prog 81 = true := by kernel_rfl
theorem hb_82 : hasBody Try.prog 82 = true := by kernel_rfl
theorem hb_83 : hasBody Try.prog 83 = true := by kernel_rfl
theorem hb_84 : hasBody Try.prog 84 = true := by kernel_rfl
theorem hb_85 : hasBody Try.prog 85 = true := by kernel_rfl
theorem hb_86 : hasBody Try.prog 86 = true := by kernel_rfl
theorem hb_87 : hasBody Try.prog 87 = true := by kernel_rfl
theorem hb_88 : hasBody Try.prog 88 = true := by kernel_rfl
theorem hb_89 : hasBody Try.prog 89 = true := by kernel_rfl
theorem hb_90 : hasBody Try.prog 90 = true := by kernel_rfl
theorem hb_91 : hasBody Try.prog 91 = true := by kernel_rfl
theorem hb_92 : hasBody Try.prog 92 = true := by kernel_rfl
theorem hb_93 : hasBody Try.prog 93 = true := by kernel_rfl
theorem hb_94 : hasBody Try.prog 94 = true := by kernel_rfl
theorem hb_95 : hasBody Try.prog 95 = true := by kernel_rfl
theorem hb_96 : hasBody Try.prog 96 = true := by kernel_rfl
theorem hb_97 : hasBody Try.prog 97 = true := by kernel_rfl
theorem hb_98 : hasBody Try.prog 98 = true := by kernel_rfl
theorem hb_99 : hasBody Try.prog 99 = true := by kernel_rfl
theorem hb_100 : hasBody Try.prog 100 = true := by kernel_rfl
theorem hb_101 : hasBody Try.prog 101 = true := by kernel_rfl
theorem hb_102 : hasBody Try.prog 102 = true := by kernel_rfl
theorem hb_103 : hasBody Try.prog 103 = true := by kernel_rfl
theorem hb_104 : hasBody Try.prog 104 = true := by kernel_rfl
theorem hb_105 : hasBody Try.prog 105 = true := by kernel_rfl
theorem hb_106 : hasBody Try.prog 106 = true := by kernel_rfl
theorem hb_107 : hasBody Try.prog 107 = true := by kernel_rfl
theorem hb_108 : hasBody Try.prog 108 = true := by kernel_rfl
theorem hb_109 : hasBody Try.prog 109 = true := by kernel_rfl
theorem hb_110 : hasBody Try.prog 110 = true := by kernel_rfl
theorem hb_111 : hasBody Try.prog 111 = true := by kernel_rfl
theorem hb_112 : hasBody Try.prog 112 = true := by kernel_rfl
theorem hb_113 : hasBody Try.prog 113 = true := by kernel_rfl
theorem hb_114 : hasBody Try.prog 114 = true := by kernel_rfl
theorem hb_115 : hasBody Try.prog 115 = true := by kernel_rfl
theorem hb_116 : hasBody Try.prog 116 = true := by kernel_rfl
theorem hb_117 : hasBody Try.prog 117 = true := by kernel_rfl
theorem hb_118 : hasBody Try.prog 118 = true := by kernel_rfl
theorem hb_119 : hasBody Try.prog 119 = true := by kernel_rfl
theorem hb_120 : hasBody Try.prog 120 = true := by kernel_rfl
theorem hb_121 : hasBody Try.prog 121 = true := by kernel_rfl
theorem hb_122 : hasBody Try.prog 122 = true := by kernel_rfl
theorem hb_123 : hasBody Try.prog 123 = true := by kernel_rfl
theorem hb_124 : hasBody Try.prog 124 = true := by kernel_rfl
theorem hb_125 : hasBody Try.prog 125 = true := by kernel_rfl
theorem hb_126 : hasBody Try.prog 126 = true := by kernel_rfl
theorem hb_127 : hasBody Try.prog 127 = true := by kernel_rfl
theorem hb_128 : hasBody Try.prog 128 = true := by kernel_rfl
theorem hb_129 : hasBody Try.prog 129 = true := by kernel_rfl
theorem hb_131 : hasBody Try.prog 131 = true := by kernel_rfl
theorem hb_132 : hasBody Try.prog 132 = true := by kernel_rfl
theorem hb_133 : hasBody Try.prog 133 = true := by kernel_rfl
theorem hb_134 : hasBody Try.prog 134 = true := by kernel_rfl
theorem hb_135 : hasBody Try.prog 135 = true := by kernel_rfl
theorem hb_136 : hasBody Try.prog 136 = true := by kernel_rfl
theorem hb_137 : hasBody Try.prog 137 = true := by kernel_rfl
theorem hb_138 : hasBody Try.prog 138 = true := by kernel_rfl
theorem hb_139 : hasBody Try.prog 139 = true := by kernel_rfl
theorem hb_140 : hasBody Try.prog 140 = true := by kernel_rfl
theorem hb_141 : hasBody Try.prog 141 = true := by kernel_rfl
theorem hb_142 : hasBody Try.prog 142 = true := by kernel_rfl
theorem hb_143 : hasBody Try.prog 143 = true := by kernel_rfl
theorem hb_144 : hasBody Try.prog 144 = true := by kernel_rfl
theorem hb_145 : hasBody Try.prog 145 = true := by kernel_rfl
end Go.Proofs.Ytdflhdfapnhjjaa
namespace Go.Proofs.Ytdflhdfapnhjjaa
open Go.RowKit

/-- What a slice of m elements holds, cell by cell. -/
def RowOf (w : World) (v : Value) (m size : Nat) (news : List Value) : Prop :=
  news.length = m * size ∧ (∀ u ∈ news, u.oneCell' = true) ∧ ((∃ c, v = .slice none 0 c ∧ m = 0) ∨ ∃ ad c, v = .slice (some ad) m c ∧ ∀ j u, news[j]? = some u → w.cell? (ad.add j) = some u)

variable {P : Program}

theorem run_app_none (w : World) (base : Nat) (t ty e : TypeId) (i : TypeInfo) (size c : Nat) (ht : P.underlying t = some (.slice e)) (hi : P.info? e = some i)
    (v : Value) (n : Nat) (xs : List Value) (hown : w.ownsRow base e size v n xs) :
    (Builtin.append_ #[t, t] ty #[v, .slice none 0 c]).run P w = .ok v w := by
  rcases hown.2 with ⟨rfl, rfl⟩ | ⟨g, cap, cur, rfl, _, _, hnc, _⟩
  · simp [Builtin.append_, run_underlying ht, sizeOf, typeInfo, hi, Builtin.lenOf, Builtin.firstCells]
  · simp [Builtin.append_, run_underlying ht, sizeOf, typeInfo, hi, Builtin.lenOf, Builtin.firstCells, hnc, storeCells]

theorem run_app (w : World) (base : Nat) (t ty e : TypeId) (i : TypeInfo) (z : Value) (size bytes : Nat) (ht : P.underlying t = some (.slice e)) (hi : P.info? e = some i) (hz : i.zero = some z)
    (hsize : i.size = size) (hby : i.bytes = bytes) (hzs : z.cells.size = size) (hsz : 0 < size)
    (v : Value) (n : Nat) (xs : List Value) (hown : w.ownsRow base e size v n xs) (x : Value) (m : Nat) (news : List Value) (hx : RowOf w x m size news)
    (h63 : n + m ≤ maxLen) (hbytes : (n + m) * bytes ≤ 140737488355328) (hbase : base ≤ w.heap.size) :
    ∃ v' w', (Builtin.append_ #[t, t] ty #[v, x]).run P w = .ok v' w' ∧ w'.ownsRow base e size v' (n + m) (xs ++ news) ∧ w.grownBy w' v.ownBlock := by
  obtain ⟨h1, h2, ⟨c, rfl, rfl⟩ | ⟨ad, c, rfl, h3⟩⟩ := hx
  · have : news = [] := List.eq_nil_of_length_eq_zero (by omega)
    subst this
    exact ⟨v, w, run_app_none w base t ty e i size c ht hi v n xs hown, by simpa using hown, ⟨rfl, rfl, rfl, Nat.le_refl _, fun _ _ _ => rfl⟩⟩
  · obtain ⟨v', w', r1, r2, r3, _⟩ := run_append_own w base t ty e i z size bytes ht hi hz hsize hby hzs hsz v n xs hown ad m c news h1 h3 h2 h63 hbytes hbase
    exact ⟨v', w', r1, r2, r3⟩

theorem wp_app {o : Oper} {a : Act} {w : World} {K : Act → World → Prop} {Q : Exit → Act → World → Prop} (s x : Operand) (t : TypeId)
    (ho : o.op = .call { callee := .builtin .append, args := #[s, x], argTypes := #[t, t] })
    (base : Nat) (e : TypeId) (i : TypeInfo) (z : Value) (size bytes : Nat) (ht : P.underlying t = some (.slice e)) (hi : P.info? e = some i) (hz : i.zero = some z)
    (hsize : i.size = size) (hby : i.bytes = bytes) (hzs : z.cells.size = size) (hsz : 0 < size)
    (v : Value) (n : Nat) (xs : List Value) (hs : a.eval s = v) (hown : w.ownsRow base e size v n xs) (xv : Value) (m : Nat) (news : List Value) (hx : a.eval x = xv) (hr : RowOf w xv m size news)
    (h63 : n + m ≤ maxLen) (hbytes : (n + m) * bytes ≤ 140737488355328) (hbase : base ≤ w.heap.size)
    (h : ∀ v' w', w'.ownsRow base e size v' (n + m) (xs ++ news) → w.grownBy w' v.ownBlock → K (a.put o.dst v') w') : o.wp P a w K Q := by
  obtain ⟨v', w', hrun, r1, r2⟩ := run_app (P := P) w base t o.type e i z size bytes ht hi hz hsize hby hzs hsz v n xs hown xv m news hr h63 hbytes hbase
  unfold Oper.wp
  simp [execOp, ho, resolve, invoke, builtin, hs, hx, hrun, Result.andThen]
  exact h v' w' r1 r2

theorem step_app {ops : Array Oper} {o : Oper} {a : Act} {w : World} {K : Act → World → Prop} {Q : Exit → Act → World → Prop} {E : Prop} (hgd : o.guard = none) (s x : Operand) (t : TypeId)
    (ho : o.op = .call { callee := .builtin .append, args := #[s, x], argTypes := #[t, t] })
    (base : Nat) (e : TypeId) (i : TypeInfo) (z : Value) (size bytes : Nat) (ht : P.underlying t = some (.slice e)) (hi : P.info? e = some i) (hz : i.zero = some z)
    (hsize : i.size = size) (hby : i.bytes = bytes) (hzs : z.cells.size = size) (hsz : 0 < size)
    (v : Value) (n : Nat) (xs : List Value) (hs : a.eval s = v) (hown : w.ownsRow base e size v n xs) (xv : Value) (m : Nat) (news : List Value) (hx : a.eval x = xv) (hr : RowOf w xv m size news)
    (h63 : n + m ≤ maxLen) (hbytes : (n + m) * bytes ≤ 140737488355328) (hbase : base ≤ w.heap.size)
    (h : ∀ v' w', w'.ownsRow base e size v' (n + m) (xs ++ news) → w.grownBy w' v.ownBlock → K (a.put o.dst v') w') :
    if Region.wanted o (yielded ops a.tmps) = true then Oper.wp P o a w K Q else E := by
  have hw : Region.wanted o (yielded ops a.tmps) = true := by simp [Region.wanted, hgd]
  rw [if_pos hw]
  exact wp_app s x t ho base e i z size bytes ht hi hz hsize hby hzs hsz v n xs hs hown xv m news hx hr h63 hbytes hbase h

theorem wpList_app {ops : Array Oper} {rest : List Oper} {o : Oper} {a : Act} {w : World} {Q : Exit → Act → World → Prop} (hgd : o.guard = none) (s x : Operand) (t : TypeId)
    (ho : o.op = .call { callee := .builtin .append, args := #[s, x], argTypes := #[t, t] })
    (base : Nat) (e : TypeId) (i : TypeInfo) (z : Value) (size bytes : Nat) (ht : P.underlying t = some (.slice e)) (hi : P.info? e = some i) (hz : i.zero = some z)
    (hsize : i.size = size) (hby : i.bytes = bytes) (hzs : z.cells.size = size) (hsz : 0 < size)
    (v : Value) (n : Nat) (xs : List Value) (hs : a.eval s = v) (hown : w.ownsRow base e size v n xs) (xv : Value) (m : Nat) (news : List Value) (hx : a.eval x = xv) (hr : RowOf w xv m size news)
    (h63 : n + m ≤ maxLen) (hbytes : (n + m) * bytes ≤ 140737488355328) (hbase : base ≤ w.heap.size)
    (h : ∀ v' w', w'.ownsRow base e size v' (n + m) (xs ++ news) → w.grownBy w' v.ownBlock → wpList P ops Q rest (a.put o.dst v') w') : wpList P ops Q (o :: rest) a w :=
  wpList_plain hgd fun _ hK => wp_app s x t ho base e i z size bytes ht hi hz hsize hby hzs hsz v n xs hs hown xv m news hx hr h63 hbytes hbase fun v' w' h1 h2 => hK _ _ (h v' w' h1 h2)

/-- An empty row of one's own, laid by 'T{}'. -/
theorem own0_a (w : World) (t : TypeId) (size : Nat) : (w.alloc (.cells #[] t)).drew.ownsRow w.heap.size t size (.slice (some ⟨w.heap.size, 0, none⟩) 0 0) 0 [] :=
  ⟨by simp, Or.inr ⟨_, _, #[], rfl, Nat.le_refl _, heap_alloc_new w _, Nat.le_refl _, by simp, by simp, by simp⟩⟩
theorem own0_b (w : World) (t : TypeId) (size : Nat) (o : Obj) : ((w.alloc (.cells #[] t)).alloc o).drew.ownsRow w.heap.size t size (.slice (some ⟨w.heap.size, 0, none⟩) 0 0) 0 [] :=
  (own0_a w t size).alloc o
theorem own0_c (w : World) (t : TypeId) (size : Nat) (o : Obj) : ((w.alloc o).alloc (.cells #[] t)).drew.ownsRow w.heap.size t size (.slice (some ⟨w.heap.size + 1, 0, none⟩) 0 0) 0 [] := by
  have h := own0_a (w.alloc o) t size
  have e : (w.alloc o).heap.size = w.heap.size + 1 := by simp
  rw [e] at h
  obtain ⟨h1, h2 | ⟨g, cap, cur, h3, h4, h5⟩⟩ := h
  · exact ⟨h1, Or.inl h2⟩
  · exact ⟨h1, Or.inr ⟨g, cap, cur, h3, by omega, h5⟩⟩

theorem RowOf.below {w w' : World} {v : Value} {m size : Nat} {news : List Value} (h : RowOf w v m size news) (hb : ∀ a, w'.cell? a = w.cell? a ∨ w.cell? a = none) : RowOf w' v m size news := by
  obtain ⟨h1, h2, h3 | ⟨ad, c, h3, h4⟩⟩ := h
  · exact ⟨h1, h2, Or.inl h3⟩
  · refine ⟨h1, h2, Or.inr ⟨ad, c, h3, fun j u hj => ?_⟩⟩
    have := h4 j u hj
    rcases hb (ad.add j) with h | h
    · rw [h]; exact this
    · rw [h] at this; cases this

end Go.Proofs.Ytdflhdfapnhjjaa
namespace Go.Proofs.Ytdflhdfapnhjjaa
open Go.RowKit

theorem byteSize (s : Nm.Bytes) : (⟨s.toArray⟩ : ByteArray).size = s.length := by show s.toArray.size = s.length; simp
theorem cat2 (a b : Nm.Bytes) : (({ data := a.toArray } : ByteArray) ++ { data := b.toArray }) = ⟨(a ++ b).toArray⟩ := by
  apply ByteArray.ext
  apply Array.toList_inj.1
  simp [ByteArray.data_append]

/-- 'string([]byte{c})'. -/
theorem run_onebyte (W : World) (c : UInt8) (n : Int) (hn : n = (c.toNat : Int)) : (convert 116 9 (.slice (some ⟨W.heap.size, 0, none⟩) 1 1)).run Try.prog (W.alloc (.cells #[.int .u8 n] 5)) = .ok (.string ⟨[c].toArray⟩) (W.alloc (.cells #[.int .u8 n] 5)) := by
  subst hn
  exact run_back _ 116 9 5 W.heap.size 1 1 [c] rfl Try.underlying116 Try.underlying5 Try.underlying9 (fun j hj => by
    rw [World.cell?_alloc_mark]
    match j, hj with
    | 0, _ => rfl)

theorem lbl_none_of_head {c : UInt8} {t : Nm.Bytes} (hz : ¬ c = 0) (h : 63 < c.toNat ∨ t.length < c.toNat) : Nm.lbl (c :: t) = none := by
  rw [Nm.lbl_cons, if_neg hz]
  by_cases h63 : 63 < c.toNat
  · rw [if_pos h63]
  · rw [if_neg h63, if_pos (by omega)]

/-- What Labels of the reference leaves. -/
def LabelsPost (n : Nm.Bytes) (w : World) (e : Ending) (w' : World) : Prop :=
  ∃ v, e = .returned (.tuple #[v, .bool (Nm.may n)]) ∧ w'.ownsRow w.heap.size 9 1 v (Nm.labels n).length ((Nm.labels n).map strV) ∧ Below w.heap.size w w'

set_option maxRecDepth 100000 in
set_option maxHeartbeats 1000000 in
theorem refLabels_any (s : ByteArray) (w : World) (hs : s.size ≤ 1000000) :
    Calls Try.prog 86 #[.string s] w (LabelsPost s.data.toList w) := by
  obtain ⟨i0, hi, hz0, hz1, hz2⟩ := info_parts info_string
  go_enter Try.func86, Try.ntmps86
  go_wp2_with fail
  go_loopw [4, 5, 6] (fun v i _ wr => ∃ (k : Nat) (a : List Nm.Bytes), k ≤ s.size ∧ a.length ≤ k ∧ i = .int .i64 k ∧ Nm.lbl s.data.toList = (Nm.lbl (s.data.toList.drop k)).map (a ++ ·) ∧ wr.ownsRow w.heap.size 9 1 v a.length (a.map strV) ∧ Below w.heap.size w wr) (fun _ i _ _ => s.size - (intOf i).toNat)
  case atStart => exact ⟨0, [], by omega, by simp, rfl, by simp, World.ownsRow_nil _ _ _ _, Below.refl _ _⟩
  case round =>
    obtain ⟨k, a, hk, hal, rfl, hl, hown, hbel⟩ := hrel
    have HL := Lib.hid hl
    have HOWN := Lib.hid hown
    have HBEL := Lib.hid hbel
    have hwsz := hbel.size
    clear hl hown hbel
    by_cases hlt : k < s.size
    · obtain ⟨c, hc⟩ : ∃ c, s[k] = c := ⟨_, rfl⟩
      have hd2 : Hid (s.data.toList.drop k = c :: s.data.toList.drop (k + 1)) := by have := drop_at s k hlt; rwa [hc] at this
      have hb := c.toNat_lt
      have HTL := Lib.hid (show (s.data.toList.drop (k + 1)).length = s.size - (k + 1) by simp)
      by_cases hz : c = 0
      · subst hz
        -- the end
        have HLB := Lib.hid (show Nm.lbl s.data.toList = (if s.size = k + 1 then some a else none) by
          rw [HL.out, hd2.out, Nm.lbl_cons, if_pos rfl]
          by_cases hq : s.size = k + 1
          · rw [if_pos (List.eq_nil_of_length_eq_zero (by rw [HTL.out]; omega)), if_pos hq]; simp
          · rw [if_neg (fun hn => by have := HTL.out; rw [hn] at this; simp at this; omega), if_neg hq]; rfl)
        by_cases hq : s.size = k + 1
        · by_cases h255 : 255 < s.size
          · have HN := Lib.hid (show Nm.nm s.data.toList = none by unfold Nm.nm; rw [if_neg (by simp; omega)])
            have HQ := Lib.hid hq
            have hq1 : ((k : Int) != (s.size : Int) - 1) = false := by simp; omega
            clear hq
            go_wp2_with fail
            go_ret2
            refine ⟨_, by rw [Nm.may_none HN.out]; rfl, ?_, HBEL.out⟩
            unfold Nm.labels; rw [HN.out]
            exact World.ownsRow_nil _ _ _ _
          · have HN := Lib.hid (show Nm.nm s.data.toList = some a by unfold Nm.nm; rw [if_pos (by simp; omega), HLB.out, if_pos hq])
            have HQ := Lib.hid hq
            have hq1 : ((k : Int) != (s.size : Int) - 1) = false := by simp; omega
            clear hq
            go_wp2_with fail
            go_ret2
            refine ⟨_, by rw [Nm.may_some HN.out]; rfl, ?_, HBEL.out⟩
            unfold Nm.labels; rw [HN.out]
            exact HOWN.out
        · have HN := Lib.hid (show Nm.nm s.data.toList = none by unfold Nm.nm; split; rw [HLB.out, if_neg hq]; rfl)
          have hq1 : ((k : Int) != (s.size : Int) - 1) = true := by rw [bne_iff_ne]; omega
          clear hq
          go_wp2_with fail
          go_ret2
          refine ⟨_, by rw [Nm.may_none HN.out]; rfl, ?_, HBEL.out⟩
          unfold Nm.labels; rw [HN.out]
          exact World.ownsRow_nil _ _ _ _
      · have hz1' : 1 ≤ c.toNat := by
          rcases Nat.eq_zero_or_pos c.toNat with h | h
          · exact absurd (UInt8.toNat_inj.1 (by simpa using h)) hz
          · exact h
        have hz2' : ((c.toNat : Int) == 0) = false := beq_eq_false_iff_ne.2 (by omega)
        have hz3' : ((c.toNat : Int) != 0) = true := by rw [bne_iff_ne]; omega
        have HZ := Lib.hid hz
        clear hz
        by_cases hbad : 63 < c.toNat ∨ s.size < k + 1 + c.toNat
        · have HN := Lib.hid (show Nm.nm s.data.toList = none by
            unfold Nm.nm; split
            · rw [HL.out, hd2.out, lbl_none_of_head HZ.out (by rw [HTL.out]; omega)]; rfl
            · rfl)
          rcases hbad with h1 | h1
          · go_wp2_with fail
            go_ret2
            refine ⟨_, by rw [Nm.may_none HN.out]; rfl, ?_, HBEL.out⟩
            unfold Nm.labels; rw [HN.out]
            exact World.ownsRow_nil _ _ _ _
          · by_cases h63 : 63 < c.toNat
            · go_wp2_with fail
              go_ret2
              refine ⟨_, by rw [Nm.may_none HN.out]; rfl, ?_, HBEL.out⟩
              unfold Nm.labels; rw [HN.out]
              exact World.ownsRow_nil _ _ _ _
            · go_wp2_with fail
              go_ret2
              refine ⟨_, by rw [Nm.may_none HN.out]; rfl, ?_, HBEL.out⟩
              unfold Nm.labels; rw [HN.out]
              exact World.ownsRow_nil _ _ _ _
        · have h63 : ¬ 63 < c.toNat := fun h => hbad (Or.inl h)
          have hle : k + 1 + c.toNat ≤ s.size := by omega
          clear hbad
          obtain ⟨l, hld⟩ : ∃ l, l = (s.data.toList.drop (k + 1)).take c.toNat := ⟨_, rfl⟩
          have HEX := Lib.hid (show Value.string (s.extract (k + 1) (k + 1 + c.toNat)) = strV l by
            unfold strV
            congr 1
            apply ByteArray.ext
            apply Array.toList_inj.1
            rw [Lib.extract_data, hld]
            simp)
          have HN := Lib.hid (show Nm.lbl s.data.toList = (Nm.lbl (s.data.toList.drop (k + 1 + c.toNat))).map ((a ++ [l]) ++ ·) by
            rw [HL.out, hd2.out, Nm.lbl_cons, if_neg HZ.out, if_neg h63, if_neg (by rw [HTL.out]; omega), Option.map_map, List.drop_drop, hld]
            congr 1
            funext x
            simp)
          clear hld
          go_wp2_with (at_builtin; refine wpList_append_own _ rfl _ _ 58 rfl w.heap.size 9 i0 (.string ByteArray.empty) 1 16 Try.underlying58 hi hz0 hz1 hz2 rfl (by decide) _ a.length _ rfl (HOWN.out.alloc _) ⟨wr.heap.size, 0, none⟩ 1 1 [.string (s.extract (k + 1) (k + 1 + c.toNat))] rfl rfl (cell_one_new _ _ _) ?c2 ?c3 ?c4 ?c5 ?_)
          case c2 => simp [Value.oneCell']
          case c3 => unfold maxLen; omega
          case c4 => omega
          case c5 => simp; omega
          intro v' w1 hown' hgrow _
          have HB1 := Lib.hid ((HBEL.out.alloc hwsz _).grown hgrow (by simp; omega) (fun q hq => (HOWN.out.lt q hq).1))
          have hfin0 : w1.ownsRow w.heap.size 9 1 v' (a ++ [l]).length ((a ++ [l]).map strV) := by
            have := hown'
            rw [HEX.out] at this
            simpa using this
          have HFIN := Lib.hid hfin0
          clear hown' hgrow hfin0
          go_wp2_with fail
          exact ⟨⟨k + 1 + c.toNat, a ++ [l], by omega, by simp; omega, by go_num, HN.out, HFIN.out, HB1.out⟩, by simp [intOf]; omega⟩
    · have HN := Lib.hid (show Nm.nm s.data.toList = none by
        unfold Nm.nm; split
        · rw [HL.out, List.drop_of_length_le (by simp; omega)]; rfl
        · rfl)
      have hq1 : ((k : Int) != (s.size : Int) - 1) = true := by rw [bne_iff_ne]; omega
      go_wp2_with fail
      go_ret2
      refine ⟨_, by rw [Nm.may_none HN.out]; rfl, ?_, HBEL.out⟩
      unfold Nm.labels; rw [HN.out]
      exact World.ownsRow_nil _ _ _ _

theorem refMay_any (s : ByteArray) (w : World) (hs : s.size ≤ 1000000) :
    Calls Try.prog 58 #[.string s] w fun e w' => e = .returned (.bool (Nm.may s.data.toList)) ∧ Below w.heap.size w w' := by
  go_enter Try.func58, Try.ntmps58
  go_wp2_with fail
  refine (refLabels_any s _ hs).mono ?_
  rintro e w1 ⟨v, rfl, ho, hb⟩
  go_wp2_with fail
  go_ret
  exact ⟨rfl, hb⟩

set_option maxHeartbeats 1000000 in
theorem refLow_any (s : ByteArray) (w : World) (hs : s.size ≤ 1000000) :
    Calls Try.prog 87 #[.string s] w fun e w' => e = .returned (.string ⟨(Nm.low s.data.toList).toArray⟩) ∧ Below w.heap.size w w' := by
  go_enter Try.func87, Try.ntmps87
  go_wp2_with fail
  go_loopw [3, 4, 5] (fun o i _ wr => ∃ k : Nat, k ≤ s.size ∧ i = .int .i64 k ∧ o = .string ⟨(Nm.low (s.data.toList.take k)).toArray⟩ ∧ Below w.heap.size w wr) (fun _ i _ _ => s.size - (intOf i).toNat)
  case atStart => exact ⟨0, by omega, rfl, rfl, Below.refl _ _⟩
  case round =>
    obtain ⟨k, hk, rfl, rfl, hbel⟩ := hrel
    by_cases hlt : k < s.size
    · obtain ⟨c, hc⟩ : ∃ c, s[k] = c := ⟨_, rfl⟩
      have hb := c.toNat_lt
      have HT := Lib.hid (show Nm.low (s.data.toList.take (k + 1)) = Nm.low (s.data.toList.take k) ++ [Nm.lowB c] by
        rw [List.take_succ_eq_append_getElem (by simpa using hlt), Nm.low_append]
        congr 1
        show [Nm.lowB _] = _
        rw [← hc]
        rfl)
      obtain ⟨acc, hacc⟩ : ∃ acc, acc = Nm.low (s.data.toList.take k) := ⟨_, rfl⟩
      have hal : acc.length ≤ 1000000 := by rw [hacc, Nm.low_length]; simp; omega
      rw [← hacc]
      rw [← hacc] at HT
      clear hacc
      have HBEL := Lib.hid hbel
      have hwsz := hbel.size
      clear hbel
      by_cases h65 : 65 ≤ c.toNat ∧ c.toNat ≤ 90
      · obtain ⟨ha, hz⟩ := h65
        have hone := fun W : World => run_onebyte W (Nm.lowB c) ((c.toNat : Int) + 32) (lowB_yes c ha hz).symm
        go_wp2_with fail
        refine ⟨⟨k + 1, by omega, by go_num, ?_, HBEL.out.alloc hwsz _⟩, by simp [intOf]; omega⟩
        rw [HT.out]
        exact congrArg Value.string (cat2 acc [Nm.lowB c])
      · have hone := fun W : World => run_onebyte W (Nm.lowB c) (c.toNat : Int) (by rw [lowB_no c h65])
        go_wp2_with fail
        all_goals
          refine ⟨⟨k + 1, by omega, by go_num, ?_, HBEL.out.alloc hwsz _⟩, by simp [intOf]; omega⟩
          rw [HT.out]
          exact congrArg Value.string (cat2 acc [Nm.lowB c])
    · obtain rfl : k = s.size := by omega
      have he : s.data.toList.take s.size = s.data.toList := List.take_of_length_le (by simp)
      rw [he]
      go_wp2_with fail
      go_ret
      exact ⟨rfl, hbel⟩

end Go.Proofs.Ytdflhdfapnhjjaa
namespace Go.Proofs.Ytdflhdfapnhjjaa
open Go.RowKit

def encP (ls : List Nm.Bytes) : Nm.Bytes := ls.flatMap fun l => UInt8.ofNat l.length :: l
theorem encP_enc : ∀ ls, Nm.enc ls = encP ls ++ [0]
  | [] => rfl
  | l :: ls => by simp [Nm.enc, encP_enc ls, encP]
theorem encP_snoc (ls : List Nm.Bytes) (l : Nm.Bytes) : encP (ls ++ [l]) = encP ls ++ (UInt8.ofNat l.length :: l) := by simp [encP]
theorem encP_length (ls : List Nm.Bytes) (h : ∀ l ∈ ls, l.length ≤ 63) : (encP ls).length ≤ 64 * ls.length := by
  induction ls with
  | nil => simp [encP]
  | cons l ls ih =>
    have h1 := h l (by simp)
    have h2 := ih (fun x hx => h x (by simp [hx]))
    simp [encP] at h2 ⊢
    omega
theorem cat3' (a : Nm.Bytes) (c : UInt8) (b : Nm.Bytes) : (({ data := a.toArray } : ByteArray) ++ { data := #[c] } ++ { data := b.toArray }) = ⟨(a ++ (c :: b)).toArray⟩ := by
  apply ByteArray.ext
  apply Array.toList_inj.1
  simp [ByteArray.data_append]

set_option maxRecDepth 100000 in
set_option maxHeartbeats 1000000 in
theorem refBytes_any (v : Value) (ls : List Nm.Bytes) (w : World) (hr : SRow w v ls) (hok : ∀ l ∈ ls, l.length ≤ 63) (hlen : ls.length ≤ 1000) :
    Calls Try.prog 88 #[v] w fun e w' => e = .returned (.string ⟨(Nm.enc ls).toArray⟩) ∧ Below w.heap.size w w' := by
  obtain ⟨a, cap, rfl, hrow⟩ := hr
  have HROW := Lib.hid hrow
  have HOK := Lib.hid hok
  clear hrow hok
  go_enter Try.func88, Try.ntmps88
  go_wp2_with fail
  go_loopw [3, 4] (fun o i wr => ∃ k : Nat, k ≤ ls.length ∧ i = .int .i64 k ∧ o = .string ⟨(encP (ls.take k)).toArray⟩ ∧ Below w.heap.size w wr) (fun _ i _ => ls.length - (intOf i).toNat)
  case atStart => exact ⟨0, by omega, rfl, rfl, Below.refl _ _⟩
  case round =>
    obtain ⟨k, hk, rfl, rfl, hbel⟩ := hrel
    by_cases hlt : k < ls.length
    · obtain hz0 | ⟨b, off, ha, hlb, hcc⟩ := HROW.out
      · subst hz0; simp at hlt
      subst ha
      obtain ⟨l, hl⟩ : ∃ l, ls[k]? = some l := ⟨_, List.getElem?_eq_getElem hlt⟩
      have hll := HOK.out l (List.mem_of_getElem? hl)
      have d0 : wr.cell? ⟨b, off + k, none⟩ = some (.string ⟨l.toArray⟩) := (hbel.cell hlb).trans (hcc k l hl)
      have HT := Lib.hid (show encP (ls.take (k + 1)) = encP (ls.take k) ++ (UInt8.ofNat l.length :: l) by rw [List.take_add_one, hl]; exact encP_snoc _ _)
      have hal := encP_length (ls.take k) (fun x hx => HOK.out x (List.mem_of_mem_take hx))
      have htl : (ls.take k).length ≤ k := List.length_take_le _ _
      obtain ⟨acc, hacc⟩ : ∃ acc, acc = encP (ls.take k) := ⟨_, rfl⟩
      rw [← hacc] at hal
      have hal2 : acc.length ≤ 100000 := by omega
      rw [← hacc]
      rw [← hacc] at HT
      have hbw : b < wr.heap.size := World.block_lt_of_cell? wr _ d0
      have HBEL := Lib.hid hbel
      have hwsz := hbel.size
      clear hacc hcc hl hbel hal htl
      have e1 : (UInt8.ofNat l.length).toNat = l.length := by simp; omega
      have hone : (convert 116 9 (.slice (some ⟨wr.heap.size, 0, none⟩) 1 1)).run Try.prog (wr.alloc (.cells #[.int .u8 (l.length : Int)] 5)).drew = .ok (.string ⟨[UInt8.ofNat l.length].toArray⟩) (wr.alloc (.cells #[.int .u8 (l.length : Int)] 5)).drew :=
        run_back _ 116 9 5 wr.heap.size 1 1 [UInt8.ofNat l.length] rfl Try.underlying116 Try.underlying5 Try.underlying9 (fun j hj => by
          show (wr.alloc (.cells #[.int .u8 (l.length : Int)] 5)).cell? _ = _
          rw [World.cell?_alloc_mark]
          match j, hj with
          | 0, _ =>
            show some (Value.int .u8 (l.length : Int)) = some (.int .u8 ((UInt8.ofNat l.length).toNat : Int))
            rw [e1])
      have hk0 : (0 : Int) ≤ (k : Int) := by omega
      have hk1 : (k : Int) < (ls.length : Int) := by omega
      have hw8 : IntKind.u8.wrap (l.length : Int) = (l.length : Int) := by simp [IntKind.wrap, IntKind.signed, IntKind.bits]; omega
      clear e1
      go_upto_region 5 with fail
      go_region
      all_goals (clear hone hw8; go_wp2_with fail)
      all_goals
        refine ⟨⟨k + 1, by omega, by go_num, ?_, HBEL.out.trans (((Below.refl _ _).alloc hwsz _).drew)⟩, by simp [intOf]; omega⟩
        rw [HT.out]
        exact congrArg Value.string (cat3' acc (UInt8.ofNat l.length) l)
    · obtain rfl : k = ls.length := by omega
      rw [List.take_length]
      have hal := encP_length ls HOK.out
      have HE := Lib.hid (show (({ data := (encP ls).toArray } : ByteArray) ++ { data := #[0] }) = ⟨(Nm.enc ls).toArray⟩ by rw [encP_enc]; exact cat2 (encP ls) [0])
      obtain ⟨acc, hacc⟩ : ∃ acc, acc = encP ls := ⟨_, rfl⟩
      rw [← hacc]
      rw [← hacc] at hal HE
      clear hacc
      have hal2 : acc.length ≤ 100000 := by omega
      clear hal
      go_wp2_with fail
      go_ret
      exact ⟨ret_str HE.out, hbel⟩

end Go.Proofs.Ytdflhdfapnhjjaa
