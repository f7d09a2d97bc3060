/-
  THE WALKS of hustingslaw18's none and awake.
-/
import Derived.Test.YtoonclcppokdeaaWFind
namespace Go.Proofs.Ytoonclcppokdeaa
open Go.RowKit Go.Maps

theorem zNone_any (w : World) : Calls Try.prog 25 #[] w (FindPost rootZ w) := by
  go_enter Try.func25, Try.ntmps25
  go_wp2_with fail
  exact bodyPost_ret (v := rootZ.val) (by simp [results, Try.results25, go_sem, rootZ, Zn.val, strV]) rfl ⟨rfl, ((Below.refl _ _).alloc (Nat.le_refl _) _)⟩

theorem zField0 (s : ByteArray) (p q : Int) (w : World) : (Instr.field 35 (.agg #[.string s, .int .u8 p, .int .u16 q]) 0).run Try.prog w = .ok (.string s) w := by kernel_rfl

/-- Zones in a new block. -/
theorem ZRow.new2 (w : World) (x y : Zn) (t : TypeId) :
    ZRow (w.alloc (.cells #[.string ⟨x.name.toArray⟩, .int .u8 x.pol, .int .u16 x.tru, .string ⟨y.name.toArray⟩, .int .u8 y.pol, .int .u16 y.tru] t)) (.slice (some ⟨w.heap.size, 0, none⟩) 2 2) [x, y] := by
  refine ⟨_, _, rfl, Or.inr ⟨_, _, rfl, by simp, fun i z hi => ?_⟩⟩
  rw [World.cell?_alloc_mark, World.cell?_alloc_mark, World.cell?_alloc_mark]
  match i with
  | 0 => cases hi; exact ⟨rfl, rfl, rfl⟩
  | 1 => cases hi; exact ⟨rfl, rfl, rfl⟩
theorem ZRow.new1 (w : World) (x : Zn) (t : TypeId) :
    ZRow (w.alloc (.cells #[.string ⟨x.name.toArray⟩, .int .u8 x.pol, .int .u16 x.tru] t)) (.slice (some ⟨w.heap.size, 0, none⟩) 1 1) [x] := by
  refine ⟨_, _, rfl, Or.inr ⟨_, _, rfl, by simp, fun i z hi => ?_⟩⟩
  rw [World.cell?_alloc_mark, World.cell?_alloc_mark, World.cell?_alloc_mark]
  match i with
  | 0 => cases hi; exact ⟨rfl, rfl, rfl⟩

def exB : Nm.Bytes := [2, 101, 120, 0]
def aexB : Nm.Bytes := [1, 97, 2, 101, 120, 0]
def ExB : Nm.Bytes := [2, 69, 120, 0]

def zsA : List Zn := [⟨exB, 1, 0⟩, ⟨aexB, 2, 0⟩]

theorem NewPost.good {zs : List Zn} {w w' : World} {e : Ending} (h : NewPost zs w e w') (h0 : newE zs = 0) :
    ∃ bt, e = .returned (.tuple #[.pointer (some ⟨bt, 0, none⟩), .int .i64 0]) ∧ w.heap.size ≤ bt ∧ TableIs w' bt zs ∧ Below w.heap.size w w' := by
  obtain ⟨hb, ⟨_, bt, h1, h2, h3⟩ | ⟨h1, _⟩⟩ := h
  · exact ⟨bt, h1, h2, h3, hb⟩
  · exact absurd h0 h1
theorem NewPost.bad {zs : List Zn} {w w' : World} {e : Ending} (h : NewPost zs w e w') {c : Int} (h0 : newE zs = c) (hc : c ≠ 0) :
    e = .returned (.tuple #[.pointer none, .int .i64 c]) ∧ Below w.heap.size w w' := by
  subst h0
  obtain ⟨hb, ⟨h1, _⟩ | ⟨_, h1⟩⟩ := h
  · exact absurd h1 hc
  · exact ⟨h1, hb⟩

theorem fits1 (x : Zn) (h : x.Fits) : ∀ z ∈ [x], z.Fits := by simpa using h
theorem fits2 (x y : Zn) (h : x.Fits) (h2 : y.Fits) : ∀ z ∈ [x, y], z.Fits := by
  intro z hz; simp at hz; rcases hz with rfl | rfl <;> assumption

set_option maxRecDepth 100000 in
set_option maxHeartbeats 1000000 in
theorem zAwake_any (w : World) : Calls Try.prog 19 #[] w fun e w' => e = .returned (.bool true) ∧ Below w.heap.size w w' := by
  have hf0 := zField0
  go_enter Try.func19, Try.ntmps19
  go_wp2_with fail
  refine (New_any _ zsA _ (by simp [zsA]) (fits2 _ _ (by unfold Zn.Fits; decide) (by unfold Zn.Fits; decide)) (ZRow.new2 _ _ _ _)).mono ?_
  intro e w1 hp
  obtain ⟨bt, rfl, hbt, hT, hb1⟩ := hp.good (by decide +kernel)
  have B1 := Lib.hid (hb1.mono (B' := w.heap.size) (by simp))
  have BA := Lib.hid (((Below.refl w.heap.size w).alloc (Nat.le_refl _) _).trans B1.out)
  clear hp hbt hb1 B1
  have HT := Lib.hid hT
  clear hT
  go_wp2_with fail
  refine (New_any _ [⟨exB, 1, 0⟩, ⟨exB, 2, 0⟩] _ (by simp) (fits2 _ _ (by unfold Zn.Fits; decide) (by unfold Zn.Fits; decide)) (ZRow.new2 _ _ _ _)).mono ?_
  intro e w2 hp
  obtain ⟨rfl, hb2⟩ := hp.bad (c := 7) (by decide +kernel) (by decide)
  clear hp
  have B2 := Lib.hid (((Below.refl w1.heap.size w1).alloc (Nat.le_refl _) _).trans (hb2.mono (B' := w1.heap.size) (by simp)))
  clear hb2
  go_wp2_with fail
  refine (New_any _ [⟨ExB, 1, 0⟩] _ (by simp) (fits1 _ (by unfold Zn.Fits; decide)) (ZRow.new1 _ _ _)).mono ?_
  intro e w3 hp
  obtain ⟨rfl, hb3⟩ := hp.bad (c := 3) (by decide +kernel) (by decide)
  clear hp
  have B3 := Lib.hid (((Below.refl w2.heap.size w2).alloc (Nat.le_refl _) _).trans (hb3.mono (B' := w2.heap.size) (by simp)))
  clear hb3
  have HT3 := Lib.hid ((HT.out.below B2.out (Nat.le_refl _)).below B3.out (Nat.le_refl _))
  have BB3 := Lib.hid (BA.out.trans ((B2.out.trans (B3.out.mono B2.out.size)).mono BA.out.size))
  clear HT B2 B3 BA
  go_wp2_with fail
  refine (Find_any _ zsA bt _ (by decide +kernel) HT3.out (by simp [zsA])).mono ?_
  rintro e w4 ⟨rfl, hb4⟩
  rw [show findZ zsA ({ data := #[1, 98, 2, 101, 120, 0] } : ByteArray).data.toList = ⟨[2, 101, 120, 0], 1, 0⟩ from by kernel_rfl]
  have HT4 := Lib.hid (HT3.out.below hb4 (Nat.le_refl _))
  have BB4 := Lib.hid (BB3.out.trans (hb4.mono BB3.out.size))
  clear hb4 HT3 BB3
  unfold Zn.val strV
  go_wp2_with fail
  refine (Find_any _ zsA bt _ (by decide +kernel) HT4.out (by simp [zsA])).mono ?_
  rintro e w5 ⟨rfl, hb5⟩
  rw [show findZ zsA ({ data := #[1, 97, 2, 101, 120, 0] } : ByteArray).data.toList = ⟨[1, 97, 2, 101, 120, 0], 2, 0⟩ from by kernel_rfl]
  have HT5 := Lib.hid (HT4.out.below hb5 (Nat.le_refl _))
  have BB5 := Lib.hid (BB4.out.trans (hb5.mono BB4.out.size))
  clear hb5 HT4 BB4
  unfold Zn.val strV
  go_wp2_with fail
  refine (Find_any _ zsA bt _ (by decide +kernel) HT5.out (by simp [zsA])).mono ?_
  rintro e w6 ⟨rfl, hb6⟩
  rw [show findZ zsA ({ data := #[1, 120, 1, 65, 2, 101, 120, 0] } : ByteArray).data.toList = ⟨[1, 97, 2, 101, 120, 0], 2, 0⟩ from by kernel_rfl]
  have HT6 := Lib.hid (HT5.out.below hb6 (Nat.le_refl _))
  have BB6 := Lib.hid (BB5.out.trans (hb6.mono BB5.out.size))
  clear hb6 HT5 BB5
  unfold Zn.val strV
  go_wp2_with fail
  refine (Find_any _ zsA bt _ (by decide +kernel) HT6.out (by simp [zsA])).mono ?_
  rintro e w7 ⟨rfl, hb7⟩
  rw [show findZ zsA ({ data := #[3, 99, 111, 109, 0] } : ByteArray).data.toList = ⟨[0], 1, 0⟩ from by kernel_rfl]
  have HT7 := Lib.hid (HT6.out.below hb7 (Nat.le_refl _))
  have BB7 := Lib.hid (BB6.out.trans (hb7.mono BB6.out.size))
  clear hb7 HT6 BB6
  unfold Zn.val strV
  go_wp2_with fail
  refine (zNone_any _).mono ?_
  rintro e w8 ⟨rfl, hb8⟩
  have HT8 := Lib.hid (HT7.out.below hb8 (Nat.le_refl _))
  have BB8 := Lib.hid (BB7.out.trans (hb8.mono BB7.out.size))
  clear hb8 HT7 BB7
  unfold Zn.val strV rootZ
  go_wp2_with fail
  refine (Len_any zsA bt _ HT8.out).mono ?_
  rintro e w9 ⟨rfl, rfl⟩
  rw [show zsA.length = 2 from rfl]
  go_wp2_with fail
  go_ret
  exact ⟨rfl, BB8.out⟩

end Go.Proofs.Ytoonclcppokdeaa
