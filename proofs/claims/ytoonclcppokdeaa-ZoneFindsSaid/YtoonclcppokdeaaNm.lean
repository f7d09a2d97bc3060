/-
  PLAIN: names as bytes and as labels. No program in sight.
-/
namespace Go.Proofs.Ytoonclcppokdeaa.Nm

abbrev Bytes := List UInt8

/-- The labels of bytes, with fuel. -/
def scan : Nat → Bytes → Option (List Bytes)
  | 0, _ => none
  | _ + 1, [] => none
  | f + 1, c :: t =>
    if c = 0 then (if t = [] then some [] else none)
    else if 63 < c.toNat then none
    else if t.length < c.toNat then none
    else (scan f (t.drop c.toNat)).map (t.take c.toNat :: ·)

theorem scan_same : ∀ (f g : Nat) (l : Bytes), l.length ≤ f → l.length ≤ g → scan f l = scan g l
  | 0, 0, _, _, _ => rfl
  | 0, g + 1, l, h, _ => by
    cases l with
    | nil => rfl
    | cons c t => simp at h
  | f + 1, 0, l, _, h => by
    cases l with
    | nil => rfl
    | cons c t => simp at h
  | f + 1, g + 1, [], _, _ => rfl
  | f + 1, g + 1, c :: t, h1, h2 => by
    have e1 : (t.drop c.toNat).length ≤ f := by simp at h1 ⊢; omega
    have e2 : (t.drop c.toNat).length ≤ g := by simp at h2 ⊢; omega
    simp only [scan]
    rw [scan_same f g _ e1 e2]
theorem scan_fuel (f : Nat) (l : Bytes) (h : l.length ≤ f) : scan f l = scan l.length l := scan_same f _ l h (Nat.le_refl _)

/-- The labels of bytes. -/
def lbl (l : Bytes) : Option (List Bytes) := scan l.length l

theorem lbl_nil : lbl [] = none := rfl
theorem lbl_cons (c : UInt8) (t : Bytes) : lbl (c :: t) =
    if c = 0 then (if t = [] then some [] else none)
    else if 63 < c.toNat then none
    else if t.length < c.toNat then none
    else (lbl (t.drop c.toNat)).map (t.take c.toNat :: ·) := by
  unfold lbl
  simp only [scan, List.length_cons]
  rw [scan_fuel t.length (t.drop c.toNat) (by simp)]

/-- The labels of a name. -/
def nm (l : Bytes) : Option (List Bytes) := if l.length ≤ 255 then lbl l else none
/-- Is it a name? -/
def may (l : Bytes) : Bool := (nm l).isSome

def lowB (c : UInt8) : UInt8 := if 65 ≤ c ∧ c ≤ 90 then c + 32 else c
def low (l : Bytes) : Bytes := l.map lowB

/-- The bytes of labels. -/
def enc : List Bytes → Bytes
  | [] => [0]
  | l :: ls => UInt8.ofNat l.length :: (l ++ enc ls)

/-- Labels that may be. -/
def Ok (ls : List Bytes) : Prop := ∀ l ∈ ls, 1 ≤ l.length ∧ l.length ≤ 63

theorem ok_nil : Ok [] := by intro l h; cases h
theorem ok_cons {l : Bytes} {ls : List Bytes} : Ok (l :: ls) ↔ (1 ≤ l.length ∧ l.length ≤ 63) ∧ Ok ls := by
  unfold Ok; simp

theorem enc_ne (ls : List Bytes) : enc ls ≠ [] := by cases ls <;> simp [enc]
theorem enc_length (ls : List Bytes) : (enc ls).length = (ls.map fun l => l.length + 1).sum + 1 := by
  induction ls with
  | nil => rfl
  | cons l ls ih => simp [enc, ih]; omega

theorem length_lt_enc (ls : List Bytes) : ls.length < (enc ls).length := by
  induction ls with
  | nil => simp [enc]
  | cons l ls ih => simp [enc]; omega

theorem lbl_enc : ∀ ls : List Bytes, Ok ls → lbl (enc ls) = some ls
  | [], _ => by simp [enc, lbl_cons]
  | l :: ls, h => by
    obtain ⟨⟨h1, h2⟩, h3⟩ := ok_cons.1 h
    have e : (UInt8.ofNat l.length).toNat = l.length := by simp; omega
    have n0 : ¬ UInt8.ofNat l.length = 0 := by
      intro k
      have := congrArg UInt8.toNat k
      rw [e] at this
      simp at this
      subst this
      simp at h1
    simp only [enc]
    rw [lbl_cons, if_neg n0, e, if_neg (by omega), if_neg (by simp)]
    simp [lbl_enc ls h3]

theorem lbl_some : ∀ (n : Nat) (l : Bytes) (ls : List Bytes), l.length ≤ n → lbl l = some ls → l = enc ls ∧ Ok ls
  | _, [], _, _, h => by simp [lbl_nil] at h
  | 0, _ :: _, _, h, _ => by simp at h
  | n + 1, c :: t, ls, hl, h => by
    rw [lbl_cons] at h
    split at h
    · rename_i hc
      split at h
      · rename_i ht
        cases h
        subst hc ht
        exact ⟨rfl, ok_nil⟩
      · cases h
    · rename_i hc
      split at h
      · cases h
      · rename_i h63
        split at h
        · cases h
        · rename_i hlen
          have hd : (t.drop c.toNat).length ≤ n := by simp at hl ⊢; omega
          cases hr : lbl (t.drop c.toNat) with
          | none => simp [hr] at h
          | some ls' =>
            simp [hr] at h
            subst h
            obtain ⟨h1, h2⟩ := lbl_some n _ _ hd hr
            have hc1 : 1 ≤ c.toNat := by
              rcases Nat.eq_zero_or_pos c.toNat with h0 | h0
              · exact absurd (UInt8.toNat_inj.1 (by simpa using h0)) hc
              · exact h0
            have ht : (t.take c.toNat).length = c.toNat := by simp; omega
            refine ⟨?_, ok_cons.2 ⟨by omega, h2⟩⟩
            simp only [enc, ht, ← h1, List.take_append_drop]
            congr 1
            exact UInt8.toNat_inj.1 (by simp)

theorem lbl_iff {l : Bytes} {ls : List Bytes} : lbl l = some ls ↔ l = enc ls ∧ Ok ls :=
  ⟨fun h => lbl_some l.length l ls (Nat.le_refl _) h, fun h => by rw [h.1]; exact lbl_enc ls h.2⟩

theorem nm_iff {l : Bytes} {ls : List Bytes} : nm l = some ls ↔ l = enc ls ∧ Ok ls ∧ l.length ≤ 255 := by
  unfold nm
  split
  · rename_i h; rw [lbl_iff]; simp [h]
  · rename_i h; simp [h]

theorem may_iff {l : Bytes} : may l = true ↔ ∃ ls, l = enc ls ∧ Ok ls ∧ l.length ≤ 255 := by
  unfold may
  rw [Option.isSome_iff_exists]
  simp only [nm_iff]

theorem enc_inj {a b : List Bytes} (ha : Ok a) (hb : Ok b) (h : enc a = enc b) : a = b := by
  have h1 := lbl_enc a ha
  rw [h, lbl_enc b hb] at h1
  exact (Option.some.inj h1).symm

/-! ### folding -/
theorem low_length (l : Bytes) : (low l).length = l.length := by simp [low]
theorem low_append (a b : Bytes) : low (a ++ b) = low a ++ low b := by simp [low]
theorem lowB_small (c : UInt8) (h : c.toNat < 65) : lowB c = c := by
  unfold lowB
  rw [if_neg]
  rintro ⟨h1, _⟩
  have := UInt8.le_iff_toNat_le.1 h1
  simp at this
  omega
theorem lowB_idem (c : UInt8) : lowB (lowB c) = lowB c := by
  unfold lowB
  split
  · rename_i h
    rw [if_neg]
    rintro ⟨h1, h2⟩
    have a1 := UInt8.le_iff_toNat_le.1 h.1
    have a2 := UInt8.le_iff_toNat_le.1 h.2
    have b1 := UInt8.le_iff_toNat_le.1 h1
    have b2 := UInt8.le_iff_toNat_le.1 h2
    simp at a1 a2 b1 b2
    omega
  · rfl
theorem low_idem (l : Bytes) : low (low l) = low l := by
  simp only [low, List.map_map]
  exact List.map_congr_left fun c _ => lowB_idem c

def lowL (ls : List Bytes) : List Bytes := ls.map low
theorem lowL_ok {ls : List Bytes} (h : Ok ls) : Ok (lowL ls) := by
  intro l hl
  obtain ⟨x, hx, rfl⟩ := List.mem_map.1 hl
  rw [low_length]
  exact h x hx
theorem low_enc : ∀ ls : List Bytes, Ok ls → low (enc ls) = enc (lowL ls)
  | [], _ => by simp [enc, low, lowL, lowB_small]
  | l :: ls, h => by
    obtain ⟨⟨h1, h2⟩, h3⟩ := ok_cons.1 h
    have ih := low_enc ls h3
    have e : (UInt8.ofNat l.length).toNat = l.length := by simp; omega
    have e1 : lowB (UInt8.ofNat l.length) = UInt8.ofNat l.length := lowB_small _ (by rw [e]; omega)
    have : low (enc (l :: ls)) = lowB (UInt8.ofNat l.length) :: (low l ++ low (enc ls)) := by
      simp [enc, low]
    rw [this, e1, ih]
    simp [enc, lowL, low_length]
theorem lowL_idem (ls : List Bytes) : lowL (lowL ls) = lowL ls := by
  simp only [lowL, List.map_map]
  exact List.map_congr_left fun c _ => low_idem c

theorem nm_low {n : Bytes} {ls : List Bytes} (h : nm n = some ls) : nm (low n) = some (lowL ls) := by
  obtain ⟨h1, h2, h3⟩ := nm_iff.1 h
  rw [nm_iff]
  refine ⟨?_, lowL_ok h2, by rw [low_length]; exact h3⟩
  rw [h1, low_enc ls h2]

/-! ### the functions by their words -/
def fold (n : Bytes) : Bytes := if may n then low n else []
def labels (n : Bytes) : List Bytes := (nm n).getD []
def parentN (n : Bytes) : Bytes := match nm n with | some (_ :: ls) => enc ls | _ => []
def parentB (n : Bytes) : Bool := match nm n with | some (_ :: _) => true | _ => false
def same (a b : Bytes) : Bool := may a && may b && (low a == low b)
def within (n z : Bytes) : Bool :=
  match nm n, nm z with
  | some a, some b => (lowL b).isSuffixOf (lowL a)
  | _, _ => false

theorem may_some {n : Bytes} {ls : List Bytes} (h : nm n = some ls) : may n = true := by simp [may, h]
theorem may_none {n : Bytes} (h : nm n = none) : may n = false := by simp [may, h]
theorem nm_of_may {n : Bytes} (h : may n = true) : ∃ ls, nm n = some ls := Option.isSome_iff_exists.1 h
theorem nm_of_not {n : Bytes} (h : may n = false) : nm n = none := by simpa [may] using h

/-! ### within -/
theorem enc_append_length (a b : List Bytes) : (enc (a ++ b)).length = (a.map fun l => l.length + 1).sum + (enc b).length := by
  rw [enc_length, enc_length]; simp; omega
theorem enc_lowL_length (a : List Bytes) : (enc (lowL a)).length = (enc a).length := by
  rw [enc_length, enc_length]
  simp only [lowL, List.map_map]
  congr 2
  exact List.map_congr_left fun l _ => by simp [low]

/-- What the search for a boundary knows. -/
def Upto (a a2 : List Bytes) (zl : Nat) : Prop := (∃ a1, a = a1 ++ a2) ∧ ∀ x y, a = x ++ y → a2.length < y.length → zl < (enc y).length
theorem Upto.start (a : List Bytes) (zl : Nat) : Upto a a zl := by
  refine ⟨⟨[], rfl⟩, fun x y h hl => ?_⟩
  rw [h] at hl
  simp at hl
  omega
theorem Upto.step {a a2 : List Bytes} {l : Bytes} {zl : Nat} (h : Upto a (l :: a2) zl) (hz : zl < (enc (l :: a2)).length) : Upto a a2 zl := by
  obtain ⟨⟨a1, h1⟩, h2⟩ := h
  refine ⟨⟨a1 ++ [l], by simp [h1]⟩, fun x y hxy hl => ?_⟩
  by_cases hq : (l :: a2).length < y.length
  · exact h2 x y hxy hq
  · have hlen : y.length = (l :: a2).length := by simp at hq ⊢; omega
    have : y = l :: a2 := by
      have e := hxy.symm.trans h1
      exact (List.append_inj' e hlen).2
    rw [this]
    exact hz
theorem Upto.fin {a a2 b : List Bytes} (ha : Ok a) (hb : Ok b) (h : Upto a a2 (enc b).length) (hle : (enc a2).length ≤ (enc b).length) :
    (lowL b).isSuffixOf (lowL a) = (low (enc a2) == low (enc b)) := by
  obtain ⟨⟨a1, h1⟩, h2⟩ := h
  have ha2 : Ok a2 := fun l hl => ha l (by rw [h1]; exact List.mem_append_right _ hl)
  rw [Bool.eq_iff_iff, List.isSuffixOf_iff_suffix, beq_iff_eq, low_enc _ ha2, low_enc _ hb]
  constructor
  · rintro ⟨x', hx⟩
    have hal : (lowL a).length = a.length := by simp [lowL]
    have hbl : (lowL b).length = b.length := by simp [lowL]
    have hn : x'.length + b.length = a.length := by
      have := congrArg List.length hx
      simp [hbl, hal] at this
      exact this
    have hy : lowL (a.drop x'.length) = lowL b := by
      have e : lowL a = lowL (a.take x'.length) ++ lowL (a.drop x'.length) := by
        simp only [lowL, ← List.map_append, List.take_append_drop]
      rw [e] at hx
      refine ((List.append_inj' hx ?_).2).symm
      simp [lowL]
      omega
    have hyl : (enc (a.drop x'.length)).length = (enc b).length := by
      rw [← enc_lowL_length, hy, enc_lowL_length]
    have hcases : (a.drop x'.length).length = a2.length := by
      rcases Nat.lt_trichotomy (a.drop x'.length).length a2.length with hlt | heq | hgt
      · exfalso
        have e : a1 ++ a2 = a.take x'.length ++ a.drop x'.length := by rw [← h1, List.take_append_drop]
        have hs : (a2.drop (a2.length - (a.drop x'.length).length)) = a.drop x'.length := by
          have e2 : a1 ++ a2.take (a2.length - (a.drop x'.length).length) ++ a2.drop (a2.length - (a.drop x'.length).length) = a.take x'.length ++ a.drop x'.length := by
            rw [List.append_assoc, List.take_append_drop]
            exact e
          exact (List.append_inj' e2 (by simp at hlt ⊢; omega)).2
        have e3 : (enc a2).length = ((a2.take (a2.length - (a.drop x'.length).length)).map fun l => l.length + 1).sum + (enc (a.drop x'.length)).length := by
          conv => lhs; rw [← List.take_append_drop (a2.length - (a.drop x'.length).length) a2]
          rw [enc_append_length, hs]
        have hpos : 0 < ((a2.take (a2.length - (a.drop x'.length).length)).map fun l => l.length + 1).sum := by
          cases hc : a2.take (a2.length - (a.drop x'.length).length) with
          | nil =>
            have := congrArg List.length hc
            simp at this hlt
            omega
          | cons u v => simp; omega
        omega
      · exact heq
      · exfalso
        have := h2 (a.take x'.length) (a.drop x'.length) (by rw [List.take_append_drop]) hgt
        omega
    have : a.drop x'.length = a2 := by
      have e : a1 ++ a2 = a.take x'.length ++ a.drop x'.length := by rw [← h1, List.take_append_drop]
      exact (List.append_inj' e hcases.symm).2.symm
    rw [← this, hy]
  · intro h
    have := enc_inj (lowL_ok ha2) (lowL_ok hb) h
    rw [h1, ← this]
    exact ⟨lowL a1, by simp [lowL]⟩

end Go.Proofs.Ytoonclcppokdeaa.Nm
