/-
  PLAIN: zones, tables of zones, and their errors. And how zones lie in memory.
-/
import Derived.Test.YtoonclcppokdeaaMaps
namespace Go.Proofs.Ytoonclcppokdeaa
open Go.RowKit

/-- A zone. -/
structure Zn where
  name : Nm.Bytes
  pol : Int
  tru : Int
def Zn.val (z : Zn) : Value := .agg #[strV z.name, .int .u8 z.pol, .int .u16 z.tru]

/-- A zone's numbers are of their kinds, its name is short enough. -/
def Zn.Fits (z : Zn) : Prop := (0 ≤ z.pol ∧ z.pol ≤ 255) ∧ (0 ≤ z.tru ∧ z.tru ≤ 65535) ∧ z.name.length ≤ 20000

def okZ (z : Zn) : Bool := Nm.may z.name && (Nm.fold z.name == z.name) && decide (1 ≤ z.pol ∧ z.pol ≤ 4)
/-- The error of zones behind those seen. -/
def chk : List Zn → List Zn → Int
  | _, [] => 0
  | seen, z :: rest => if okZ z then (if seen.any (fun y => y.name == z.name) then 7 else chk (seen ++ [z]) rest) else 3
def newE (zs : List Zn) : Int := if 16 < zs.length then 5 else chk [] zs

/-- How many labels. -/
def cnt (n : Nm.Bytes) : Nat := (Nm.labels n).length

theorem cnt_le (n : Nm.Bytes) : cnt n ≤ 255 := by
  unfold cnt Nm.labels
  cases h : Nm.nm n with
  | none => simp
  | some ls =>
    have h1 := Nm.nm_iff.1 h
    have h2 := Nm.length_lt_enc ls
    rw [← h1.1] at h2
    simp
    omega

/-- A slice of zones in memory. -/
def ZRow (w : World) (v : Value) (zs : List Zn) : Prop :=
  ∃ a cap, v = .slice a zs.length cap ∧ (zs = [] ∨ ∃ b off, a = some ⟨b, off, none⟩ ∧ b < w.heap.size ∧
    ∀ i z, zs[i]? = some z → w.cell? ⟨b, off + i * 3, none⟩ = some (strV z.name) ∧ w.cell? ⟨b, off + i * 3 + 1, none⟩ = some (.int .u8 z.pol) ∧ w.cell? ⟨b, off + i * 3 + 2, none⟩ = some (.int .u16 z.tru))

theorem ZRow.below {w w' : World} {v : Value} {zs : List Zn} (h : ZRow w v zs) {B : Nat} (hb : Below B w w') (hB : w.heap.size ≤ B) : ZRow w' v zs := by
  obtain ⟨a, cap, hv, h⟩ := h
  refine ⟨a, cap, hv, h.imp id ?_⟩
  rintro ⟨b, off, ha, hlt, hc⟩
  refine ⟨b, off, ha, Nat.lt_of_lt_of_le hlt hb.size, fun i z hi => ?_⟩
  obtain ⟨h1, h2, h3⟩ := hc i z hi
  rw [hb.cell (Nat.lt_of_lt_of_le hlt hB), hb.cell (Nat.lt_of_lt_of_le hlt hB), hb.cell (Nat.lt_of_lt_of_le hlt hB)]
  exact ⟨h1, h2, h3⟩

/-! ### a table in memory -/
/-- What the inner map of k labels holds. -/
def inner (zs : List Zn) (k : Nat) : Lit → Option Value
  | .string nm => (zs.find? (fun z => z.name == nm && cnt z.name == k)).map Zn.val
  | _ => none

theorem inner_nil (k : Nat) : inner [] k = fun _ => none := by
  funext l; cases l <;> rfl
theorem inner_snoc_other (zs : List Zn) (z : Zn) (k : Nat) (h : cnt z.name ≠ k) : inner (zs ++ [z]) k = inner zs k := by
  funext l
  cases l with
  | string nm =>
    have : (cnt z.name == k) = false := beq_eq_false_iff_ne.2 h
    simp [inner, List.find?_append, this]
  | _ => rfl
theorem inner_snoc (zs : List Zn) (z : Zn) (h : zs.any (fun y => y.name == z.name) = false) : inner (zs ++ [z]) (cnt z.name) = put (inner zs (cnt z.name)) (.string z.name) z.val := by
  funext l
  cases l with
  | string nm =>
    unfold put
    by_cases hn : nm = z.name
    · subst hn
      have hf : zs.find? (fun y => y.name == z.name && cnt y.name == cnt z.name) = none := by
        rw [List.find?_eq_none]
        intro y hy
        rw [List.any_eq_false] at h
        have := h y hy
        simp [this]
      rw [if_pos rfl]
      simp [inner, List.find?_append, hf]
    · rw [if_neg (by simpa using hn)]
      have : (z.name == nm) = false := beq_eq_false_iff_ne.2 (Ne.symm hn)
      simp [inner, List.find?_append, this]
  | _ => unfold put; rw [if_neg (by simp)]; rfl
theorem inner_none (zs : List Zn) (k : Nat) (h : ∀ z ∈ zs, cnt z.name ≠ k) : inner zs k = fun _ => none := by
  funext l
  cases l with
  | string nm =>
    have : zs.find? (fun z => z.name == nm && cnt z.name == k) = none := by
      rw [List.find?_eq_none]
      intro z hz
      have := h z hz
      simp [this]
    simp [inner, this]
  | _ => rfl

/-- The table at block bt: the maps of its zones; c: its count; N: a bound on entries. -/
structure TableAt (w : World) (bt : Nat) (zs : List Zn) (c N bo : Nat) (ib : Nat → Option Nat) : Prop where
  cells : w.heap[bt]? = some (.cells #[.map (some bo), .int .i64 c] 43 (0, 0))
  outer : ∃ fo, MapIs Try.prog 3 w bo N fo ∧ ∀ k : Nat, fo (.int .i64 k) = (ib k).map fun b => .map (some b)
  inn : ∀ k b, ib k = some b → MapIs Try.prog 9 w b N (inner zs k) ∧ b ≠ bo
  apart : ∀ j k b, ib j = some b → ib k = some b → j = k
  lacks : ∀ k, ib k = none → ∀ z ∈ zs, cnt z.name ≠ k

def TableIs (w : World) (bt : Nat) (zs : List Zn) : Prop := ∃ N bo ib, N ≤ 2 * zs.length ∧ TableAt w bt zs zs.length N bo ib

/-- .. whose maps are new ones. -/
def TableFrom (base : Nat) (w : World) (bt : Nat) (zs : List Zn) : Prop := ∃ N bo ib, N ≤ 2 * zs.length ∧ TableAt w bt zs zs.length N bo ib ∧ base ≤ bo ∧ ∀ k b, ib k = some b → base ≤ b
theorem TableFrom.is {base : Nat} {w : World} {bt : Nat} {zs : List Zn} (h : TableFrom base w bt zs) : TableIs w bt zs := by
  obtain ⟨N, bo, ib, h1, h2, _⟩ := h
  exact ⟨N, bo, ib, h1, h2⟩

theorem TableAt.lt {w : World} {bt : Nat} {zs : List Zn} {c N bo : Nat} {ib : Nat → Option Nat} (h : TableAt w bt zs c N bo ib) : bt < w.heap.size :=
  (Array.getElem?_eq_some_iff.1 h.cells).1
theorem TableAt.outer_lt {w : World} {bt : Nat} {zs : List Zn} {c N bo : Nat} {ib : Nat → Option Nat} (h : TableAt w bt zs c N bo ib) : bo < w.heap.size := by
  obtain ⟨fo, h1, _⟩ := h.outer
  exact h1.lt
theorem TableAt.below {w w' : World} {bt : Nat} {zs : List Zn} {c N bo : Nat} {ib : Nat → Option Nat} (h : TableAt w bt zs c N bo ib) {B : Nat} (hb : Below B w w') (hB : w.heap.size ≤ B) : TableAt w' bt zs c N bo ib where
  cells := (hb.block bt (Nat.lt_of_lt_of_le h.lt hB)).trans h.cells
  outer := by
    obtain ⟨fo, h1, h2⟩ := h.outer
    exact ⟨fo, h1.below hb (Nat.lt_of_lt_of_le h1.lt hB), h2⟩
  inn := fun k b hk => by
    obtain ⟨h1, h2⟩ := h.inn k b hk
    exact ⟨h1.below hb (Nat.lt_of_lt_of_le h1.lt hB), h2⟩
  apart := h.apart
  lacks := h.lacks
theorem TableIs.below {w w' : World} {bt : Nat} {zs : List Zn} (h : TableIs w bt zs) {B : Nat} (hb : Below B w w') (hB : w.heap.size ≤ B) : TableIs w' bt zs := by
  obtain ⟨N, bo, ib, hN, h⟩ := h
  exact ⟨N, bo, ib, hN, h.below hb hB⟩
theorem TableFrom.below {base : Nat} {w w' : World} {bt : Nat} {zs : List Zn} (h : TableFrom base w bt zs) {B : Nat} (hb : Below B w w') (hB : w.heap.size ≤ B) : TableFrom base w' bt zs := by
  obtain ⟨N, bo, ib, hN, h, h2⟩ := h
  exact ⟨N, bo, ib, hN, h.below hb hB, h2⟩
theorem TableAt.cell0 {w : World} {bt : Nat} {zs : List Zn} {c N bo : Nat} {ib : Nat → Option Nat} (h : TableAt w bt zs c N bo ib) : w.cell? ⟨bt, 0, none⟩ = some (.map (some bo)) := by
  unfold World.cell?; rw [h.cells]; rfl
theorem TableAt.cell1 {w : World} {bt : Nat} {zs : List Zn} {c N bo : Nat} {ib : Nat → Option Nat} (h : TableAt w bt zs c N bo ib) : w.cell? ⟨bt, 1, none⟩ = some (.int .i64 c) := by
  unfold World.cell?; rw [h.cells]; rfl
theorem TableAt.frozen {w : World} {bt : Nat} {zs : List Zn} {c N bo : Nat} {ib : Nat → Option Nat} (h : TableAt w bt zs c N bo ib) (j : Nat) : w.frozen? ⟨bt, j, none⟩ = false := by
  unfold World.frozen?; rw [h.cells]; simp

/-- The element types' zeros. -/
theorem zero_map (w : World) : (zeroValue 71).run Try.prog w = .ok (.map none) w := by kernel_rfl
def zeroZ : Value := .agg #[.string ByteArray.empty, .int .u8 0, .int .u16 0]
theorem zero_zone (w : World) : (zeroValue 35).run Try.prog w = .ok zeroZ w := by kernel_rfl

theorem key_int (k : Nat) (h : k ≤ 1000000) : keyOf Try.prog 3 (.int .i64 k) = some (.int .i64 k) := Maps.keyOf_int_mk Try.underlying3 (WalkArith.wf_i64 (by omega))
theorem key_str (nm : Nm.Bytes) (h : nm.length ≤ 1000000) : keyOf Try.prog 9 (strV nm) = some (.string nm) := by
  have := WideMaps.keyOf_string_mk (P := Try.prog) Try.underlying9 (s := ⟨nm.toArray⟩) (by show nm.toArray.size ≤ maxLen; unfold maxLen; simp; omega)
  exact this

theorem TableAt.look {w : World} {bt : Nat} {zs : List Zn} {c N bo : Nat} {ib : Nat → Option Nat} (h : TableAt w bt zs c N bo ib) (k : Nat) (hk : k ≤ 1000000) :
    (Instr.lookup 41 (.map (some bo)) (.int .i64 k) false).run Try.prog w = .ok (.map (ib k)) w := by
  obtain ⟨fo, h1, h2⟩ := h.outer
  rw [h1.look false (Maps.int_keyed Try.underlying3) Try.underlying41 (zero_map w) (key_int k hk), h2 k]
  cases ib k <;> rfl

/-- The zone of that name, of k labels. -/
def zfind (zs : List Zn) (k : Nat) (nm : Nm.Bytes) : Option Zn := zs.find? (fun z => z.name == nm && cnt z.name == k)

theorem TableAt.look2 {w : World} {bt : Nat} {zs : List Zn} {c N bo : Nat} {ib : Nat → Option Nat} (h : TableAt w bt zs c N bo ib) (k : Nat) (nm : Nm.Bytes) (hn : nm.length ≤ 1000000) :
    (Instr.lookup 71 (.map (ib k)) (.string ⟨nm.toArray⟩) true).run Try.prog w = .ok (.tuple #[((zfind zs k nm).map Zn.val).getD zeroZ, .bool (zfind zs k nm).isSome]) w := by
  cases hb : ib k with
  | none =>
    have hi := inner_none zs k (h.lacks k hb)
    have hz : zfind zs k nm = none := by
      have := congrFun hi (.string nm)
      simpa [inner, zfind] using this
    rw [show (Value.string ⟨nm.toArray⟩) = strV nm from rfl, Maps.look_nil true (Maps.string_keyed Try.underlying9) Try.underlying71 (zero_zone w) (key_str nm hn), hz]
    rfl
  | some b =>
    obtain ⟨h1, _⟩ := h.inn k b hb
    have := h1.look true (Maps.string_keyed Try.underlying9) Try.underlying71 (zero_zone w) (key_str nm hn)
    rw [show (Value.string ⟨nm.toArray⟩) = strV nm from rfl, this]
    simp [inner, zfind]

theorem TableAt.mono {w : World} {bt : Nat} {zs : List Zn} {c N bo : Nat} {ib : Nat → Option Nat} (h : TableAt w bt zs c N bo ib) {N' : Nat} (hN : N ≤ N') : TableAt w bt zs c N' bo ib where
  cells := h.cells
  outer := by obtain ⟨fo, h1, h2⟩ := h.outer; exact ⟨fo, h1.mono hN, h2⟩
  inn := fun k b hk => by obtain ⟨h1, h2⟩ := h.inn k b hk; exact ⟨h1.mono hN, h2⟩
  apart := h.apart
  lacks := h.lacks

theorem TableAt.ne_of_map {w : World} {bt : Nat} {zs : List Zn} {c N bo : Nat} {ib : Nat → Option Nat} (h : TableAt w bt zs c N bo ib) {P : Program} {k : TypeId} {b n : Nat} {f : Lit → Option Value} (hm : MapIs P k w b n f) : bt ≠ b := by
  rintro rfl
  obtain ⟨es, cl, h1⟩ := hm.isMap
  rw [h.cells] at h1
  cases h1

open Classical in
/-- A new inner map, laid into the outer one. -/
theorem TableAt.putOuter {w w2 : World} {bt : Nat} {zs : List Zn} {c N bo : Nat} {ib : Nat → Option Nat} (h : TableAt w bt zs c N bo ib) {k : Nat} (hk : ib k = none)
    {fo : Lit → Option Value} (hfo : ∀ k : Nat, fo (.int .i64 k) = (ib k).map fun b => .map (some b))
    (hm : MapIs Try.prog 3 w2 bo (N + 1) (put fo (.int .i64 k) (.map (some w.heap.size)))) (hg : (w.alloc (.map #[] 0)).grownBy w2 (some bo)) :
    TableAt w2 bt zs c (N + 1) bo (fun j => if j = k then some w.heap.size else ib j) := by
  have hkeep : ∀ j, j < w.heap.size → j ≠ bo → w2.heap[j]? = w.heap[j]? := fun j hj hne => by
    rw [hg.block j (by simp; omega) (by simpa using hne), Below.heap_alloc w _ j hj]
  have hbo : bo < w.heap.size := h.outer_lt
  obtain ⟨fo', hfo', _⟩ := h.outer
  constructor
  · rw [hkeep bt h.lt (h.ne_of_map hfo')]; exact h.cells
  · refine ⟨_, hm, fun j => ?_⟩
    unfold put
    by_cases hj : j = k
    · subst hj; simp
    · have : ¬ (Lit.int .i64 (j : Int)) = .int .i64 (k : Int) := by
        intro e
        injection e with _ e
        omega
      rw [if_neg this, if_neg hj, hfo j]
  · intro j b hj
    by_cases hjk : j = k
    · subst hjk
      rw [if_pos rfl] at hj
      cases hj
      refine ⟨?_, by omega⟩
      have hnew := (MapIs.made w Try.prog 9).mono (n' := N + 1) (by omega)
      have h2 := hnew.grown hg (by omega)
      rw [inner_none zs j (h.lacks j hk)]
      exact h2
    · rw [if_neg hjk] at hj
      obtain ⟨h1, h2⟩ := h.inn j b hj
      exact ⟨(h1.of_block (hkeep b h1.lt h2)).mono (by omega), h2⟩
  · intro i j b hi hj
    by_cases h1 : i = k <;> by_cases h2 : j = k
    · omega
    · rw [if_pos h1] at hi
      rw [if_neg h2] at hj
      cases hi
      have := (h.inn j _ hj).1.lt
      omega
    · rw [if_neg h1] at hi
      rw [if_pos h2] at hj
      cases hj
      have := (h.inn i _ hi).1.lt
      omega
    · rw [if_neg h1] at hi
      rw [if_neg h2] at hj
      exact h.apart i j b hi hj
  · intro j hj
    by_cases h1 : j = k
    · rw [if_pos h1] at hj; cases hj
    · rw [if_neg h1] at hj
      exact h.lacks j hj

/-- A zone, laid into its inner map. -/
theorem TableAt.putInner {w w2 : World} {bt : Nat} {zs : List Zn} {c N bo : Nat} {ib : Nat → Option Nat} (h : TableAt w bt zs c N bo ib) {z : Zn} {b : Nat} (hb : ib (cnt z.name) = some b)
    (hnew : zs.any (fun y => y.name == z.name) = false)
    (hm : MapIs Try.prog 9 w2 b (N + 1) (put (inner zs (cnt z.name)) (.string z.name) z.val)) (hg : w.grownBy w2 (some b)) :
    TableAt w2 bt (zs ++ [z]) c (N + 1) bo ib := by
  obtain ⟨hb1, hb2⟩ := h.inn _ b hb
  have hkeep : ∀ j, j < w.heap.size → j ≠ b → w2.heap[j]? = w.heap[j]? := fun j hj hne => hg.block j hj (by simpa using hne)
  constructor
  · rw [hkeep bt h.lt (h.ne_of_map hb1)]; exact h.cells
  · obtain ⟨fo, h1, h2⟩ := h.outer
    exact ⟨fo, (h1.of_block (hkeep bo h1.lt (Ne.symm hb2))).mono (by omega), h2⟩
  · intro j b' hj
    by_cases hjk : j = cnt z.name
    · subst hjk
      rw [hb] at hj
      cases hj
      refine ⟨?_, hb2⟩
      rw [inner_snoc zs z hnew]
      exact hm
    · obtain ⟨h1, h2⟩ := h.inn j b' hj
      refine ⟨?_, h2⟩
      rw [inner_snoc_other zs z j (Ne.symm hjk)]
      refine (h1.of_block (hkeep b' h1.lt ?_)).mono (by omega)
      rintro rfl
      exact hjk (h.apart j (cnt z.name) b' hj hb)
  · exact h.apart
  · intro j hj z' hz'
    rcases List.mem_append.1 hz' with h1 | h1
    · exact h.lacks j hj z' h1
    · simp at h1
      subst h1
      intro e
      rw [e, hj] at hb
      cases hb

/-- The count, written. -/
theorem TableAt.count {w : World} {bt : Nat} {zs : List Zn} {c N bo : Nat} {ib : Nat → Option Nat} (h : TableAt w bt zs c N bo ib) (c' : Nat) :
    TableAt (w.setCell ⟨bt, 1, none⟩ (.int .i64 c')) bt zs c' N bo ib := by
  have hkeep : ∀ j, j ≠ bt → (w.setCell ⟨bt, 1, none⟩ (.int .i64 c')).heap[j]? = w.heap[j]? := fun j hne => Below.heap_setCell w _ _ j hne
  constructor
  · show (w.heap.modify bt _)[bt]? = _
    rw [Array.getElem?_modify, if_pos rfl, h.cells]
    rfl
  · obtain ⟨fo, h1, h2⟩ := h.outer
    exact ⟨fo, h1.of_block (hkeep bo (Ne.symm (h.ne_of_map h1))), h2⟩
  · intro j b hj
    obtain ⟨h1, h2⟩ := h.inn j b hj
    exact ⟨h1.of_block (hkeep b (Ne.symm (h.ne_of_map h1))), h2⟩
  · exact h.apart
  · exact h.lacks

theorem block_ne_map {w : World} {g b : Nat} {v : Value} {P : Program} {k : TypeId} {n : Nat} {f : Lit → Option Value} (hc : w.cell? ⟨g, 0, none⟩ = some v) (hm : MapIs P k w b n f) : g ≠ b := by
  rintro rfl
  obtain ⟨es, cl, h1⟩ := hm.isMap
  unfold World.cell? at hc
  rw [h1] at hc
  cases hc

/-- A table of no zones. -/
theorem TableAt.start (w : World) : TableAt ((w.alloc (.map #[] 0)).alloc (.cells #[.map (some w.heap.size), .int .i64 0] 43)) (w.heap.size + 1) [] 0 0 w.heap.size (fun _ => none) where
  cells := by
    show ((w.heap.push _).push _)[w.heap.size + 1]? = _
    rw [Array.getElem?_push, if_pos (by simp)]
    rfl
  outer := ⟨fun _ => none, (MapIs.made w Try.prog 3).alloc _, fun _ => rfl⟩
  inn := fun _ _ h => by cases h
  apart := fun _ _ _ h => by cases h
  lacks := fun _ _ _ h => by cases h

theorem ownsRow_slice {w : World} {base : Nat} {e : TypeId} {size : Nat} {v : Value} {n : Nat} {xs : List Value} (h : w.ownsRow base e size v n xs) : ∃ a cap, v = .slice a n cap := by
  obtain ⟨_, ⟨rfl, rfl⟩ | ⟨g, cap, cur, rfl, _⟩⟩ := h
  · exact ⟨_, _, rfl⟩
  · exact ⟨_, _, rfl⟩

theorem zfind_seen (seen : List Zn) (z : Zn) : (zfind seen (cnt z.name) z.name).isSome = seen.any (fun y => y.name == z.name) := by
  unfold zfind
  rw [Bool.eq_iff_iff, List.find?_isSome, List.any_eq_true]
  constructor
  · rintro ⟨y, h1, h2⟩
    simp at h2
    exact ⟨y, h1, by simp [h2.1]⟩
  · rintro ⟨y, h1, h2⟩
    simp at h2
    exact ⟨y, h1, by simp [h2]⟩

theorem val_form (o : Option Zn) : ∃ n p q, (o.map Zn.val).getD zeroZ = .agg #[.string n, .int .u8 p, .int .u16 q] := by
  cases o with
  | none => exact ⟨_, _, _, rfl⟩
  | some z => exact ⟨_, _, _, rfl⟩

theorem chk_ok {seen : List Zn} {z : Zn} {rest : List Zn} (h : okZ z = true) (h2 : seen.any (fun y => y.name == z.name) = false) : chk seen (z :: rest) = chk (seen ++ [z]) rest := by
  simp [chk, h, h2]
theorem chk_have {seen : List Zn} {z : Zn} {rest : List Zn} (h : okZ z = true) (h2 : seen.any (fun y => y.name == z.name) = true) : chk seen (z :: rest) = 7 := by
  unfold chk; rw [if_pos h, if_pos h2]
theorem chk_form {seen : List Zn} {z : Zn} {rest : List Zn} (h : okZ z = false) : chk seen (z :: rest) = 3 := by
  simp [chk, h]

/-- What New leaves. -/
def NewPost (zs : List Zn) (w : World) (e : Ending) (w' : World) : Prop :=
  Below w.heap.size w w' ∧
  ((newE zs = 0 ∧ ∃ bt, e = .returned (.tuple #[.pointer (some ⟨bt, 0, none⟩), .int .i64 0]) ∧ w.heap.size ≤ bt ∧ TableIs w' bt zs) ∨
   (newE zs ≠ 0 ∧ e = .returned (.tuple #[.pointer none, .int .i64 (newE zs)])))

end Go.Proofs.Ytoonclcppokdeaa
