/-
  THE WALK of the reference's Find (hustingsref18).
-/
import Derived.Test.YtoonclcppokdeaaWRef4
import Derived.Test.YtoonclcppokdeaaZl4
namespace Go.Proofs.Ytoonclcppokdeaa
open Go.RowKit

/-- What the reference's search knows. -/
def rStep (n : Nm.Bytes) (st : Zn × Int) (z : Zn) : Zn × Int := if Nm.within n z.name && decide (st.2 < (cnt z.name : Int)) then (z, (cnt z.name : Int)) else st
def rFind (zs : List Zn) (n : Nm.Bytes) : Zn × Int := zs.foldl (rStep n) (rootZ, -1)

theorem rFind_snoc (zs : List Zn) (z : Zn) (n : Nm.Bytes) : rFind (zs ++ [z]) n = rStep n (rFind zs n) z := by simp [rFind]

theorem someIn_snoc (zs : List Zn) (z : Zn) (n : Nm.Bytes) : someIn (zs ++ [z]) n = (someIn zs n || Nm.within n z.name) := by simp [someIn]

theorem rFind_law (n : Nm.Bytes) : ∀ (k : Nat) (zs : List Zn), zs.length = k → Good zs → rFind zs n = (findZ zs n, if someIn zs n then (cnt (findZ zs n).name : Int) else -1)
  | 0, zs, h, _ => by
    obtain rfl : zs = [] := List.eq_nil_of_length_eq_zero h
    simp [rFind, findZ_nil, someIn]
  | k + 1, zs, h, hg => by
    obtain ⟨ys, z, rfl⟩ : ∃ ys z, zs = ys ++ [z] := ⟨zs.dropLast, zs.getLast (by intro e; subst e; simp at h), (List.dropLast_concat_getLast _).symm⟩
    have ih := rFind_law n k ys (by simpa using h) hg.front
    rw [rFind_snoc, ih, more_law hg, someIn_snoc]
    unfold rStep isMore
    cases h1 : Nm.within n z.name <;> cases h2 : someIn ys n <;> simp
    · have h3 : (-1 : Int) < (cnt z.name : Int) := by omega
      simp [h3]
    · by_cases h3 : cnt (findZ ys n).name < cnt z.name <;> simp [h3]

/-- The reference's table in memory. -/
def RTab (w : World) (bt : Nat) (zs : List Zn) : Prop := bt < w.heap.size ∧ ∃ v, w.cell? ⟨bt, 0, none⟩ = some v ∧ ZRow w v zs
theorem RTab.below {w w' : World} {bt : Nat} {zs : List Zn} (h : RTab w bt zs) {B : Nat} (hb : Below B w w') (hB : w.heap.size ≤ B) : RTab w' bt zs := by
  obtain ⟨h1, v, h2, h3⟩ := h
  exact ⟨Nat.lt_of_lt_of_le h1 hb.size, v, (hb.cell (p := ⟨bt, 0, none⟩) (Nat.lt_of_lt_of_le h1 hB)).trans h2, h3.below hb hB⟩

theorem set1_block {w : World} {g : Nat} {C : Array Value} {t : TypeId} {fr : Nat × Nat} (h : w.heap[g]? = some (.cells C t fr)) (k : Nat) (v : Value) :
    (w.setCell ⟨g, k, none⟩ v).heap[g]? = some (.cells (C.setIfInBounds k v) t fr) := by
  show (w.heap.modify g _)[g]? = _
  rw [Array.getElem?_modify, if_pos rfl, h]
  rfl
/-- Three cells of a block, written. -/
theorem set3_block {w : World} {g : Nat} {x y z : Value} {t : TypeId} (h : w.heap[g]? = some (.cells #[x, y, z] t (0, 0))) (a b c : Value) :
    (((w.setCell ⟨g, 0, none⟩ a).setCell ⟨g, 1, none⟩ b).setCell ⟨g, 2, none⟩ c).heap[g]? = some (.cells #[a, b, c] t (0, 0)) := by
  exact set1_block (set1_block (set1_block h 0 a) 1 b) 2 c
theorem set3_other {w : World} {g j : Nat} (h : j ≠ g) (a b c : Value) :
    (((w.setCell ⟨g, 0, none⟩ a).setCell ⟨g, 1, none⟩ b).setCell ⟨g, 2, none⟩ c).heap[j]? = w.heap[j]? := by
  rw [Below.heap_setCell _ _ _ j h, Below.heap_setCell _ _ _ j h, Below.heap_setCell _ _ _ j h]
theorem block_cells {w : World} {g : Nat} {x y z : Value} {t : TypeId} (h : w.heap[g]? = some (.cells #[x, y, z] t (0, 0))) :
    w.cell? ⟨g, 0, none⟩ = some x ∧ w.cell? ⟨g, 1, none⟩ = some y ∧ w.cell? ⟨g, 2, none⟩ = some z ∧ (∀ j, w.frozen? ⟨g, j, none⟩ = false) ∧ g < w.heap.size := by
  refine ⟨by unfold World.cell?; rw [h]; rfl, by unfold World.cell?; rw [h]; rfl, by unfold World.cell?; rw [h]; rfl, fun j => by unfold World.frozen?; rw [h]; simp, (Array.getElem?_eq_some_iff.1 h).1⟩
theorem rFind_fits (zs : List Zn) (n : Nm.Bytes) : (-1 ≤ (rFind zs n).2 ∧ (rFind zs n).2 ≤ 255) := by
  suffices H : ∀ (zs : List Zn) (st : Zn × Int), (-1 ≤ st.2 ∧ st.2 ≤ 255) → (-1 ≤ (zs.foldl (rStep n) st).2 ∧ (zs.foldl (rStep n) st).2 ≤ 255) from H zs _ (by simp)
  intro zs
  induction zs with
  | nil => intro st h; exact h
  | cons z zs ih =>
    intro st h
    refine ih _ ?_
    unfold rStep
    have := cnt_le z.name
    split
    · simp; omega
    · exact h

def RFindRel (zs : List Zn) (n : Nm.Bytes) (w W0 : World) (m i : Value) (wr : World) : Prop :=
  ∃ k : Nat, k ≤ zs.length ∧ i = .int .i64 k ∧ m = .int .i64 (rFind (zs.take k) n).2 ∧ Below w.heap.size w wr ∧ W0.heap.size ≤ wr.heap.size ∧
    wr.heap[w.heap.size + 1]? = some (.cells #[.string ⟨(rFind (zs.take k) n).1.name.toArray⟩, .int .u8 (rFind (zs.take k) n).1.pol, .int .u16 (rFind (zs.take k) n).1.tru] 35 (0, 0)) ∧ wr.heap[w.heap.size]? = W0.heap[w.heap.size]?

set_option maxRecDepth 100000 in
set_option maxHeartbeats 2000000 in
theorem refFind_any (s : ByteArray) (zs : List Zn) (bt : Nat) (w : World) (hs : s.size ≤ 1000000) (hT : RTab w bt zs) (hz : zs.length ≤ 100) (hfits : ∀ z ∈ zs, z.Fits) :
    Calls Try.prog 23 #[.pointer (some ⟨bt, 0, none⟩), .string s] w (FindPost (rFind zs s.data.toList).1 w) := by
  obtain ⟨hbt, _, hc0, a, cap, rfl, hrow⟩ := hT
  have HROW := Lib.hid hrow
  have HF := Lib.hid hfits
  have HC0 := Lib.hid hc0
  clear hrow hfits
  go_enter Try.func23, Try.ntmps23
  go_wp2_with fail
  obtain ⟨W0, hW0⟩ : ∃ W, W = ((w.alloc (.cells #[.string { data := #[] }, .int .u8 0, .int .u16 0] 35)).alloc (.cells #[.string { data := #[0] }, .int .u8 1, .int .u16 0] 35)) := ⟨_, rfl⟩
  have HS0 := Lib.hid (show W0.heap.size = w.heap.size + 2 by rw [hW0]; simp)
  have HR0 := Lib.hid (show W0.heap[w.heap.size]? = some (.cells #[.string { data := #[] }, .int .u8 0, .int .u16 0] 35 (0, 0)) by rw [hW0, Below.heap_alloc _ _ _ (by simp)]; exact heap_alloc_new w _)
  have HR1 := Lib.hid (show W0.heap[w.heap.size + 1]? = some (.cells #[.string { data := #[0] }, .int .u8 1, .int .u16 0] 35 (0, 0)) by
    rw [hW0]
    have := heap_alloc_new (w.alloc (.cells #[.string { data := #[] }, .int .u8 0, .int .u16 0] 35)) (.cells #[.string { data := #[0] }, .int .u8 1, .int .u16 0] 35)
    simpa using this)
  have HB0 := Lib.hid (show Below w.heap.size w W0 by rw [hW0]; exact ((Below.refl _ _).alloc (Nat.le_refl _) _).alloc (by simp) _)
  rw [← hW0]
  clear hW0 hc0
  go_loopw [6, 7, 8, 9] (fun m i _ _ wr => RFindRel zs s.data.toList w W0 m i wr) (fun _ i _ _ _ => zs.length - (intOf i).toNat)
  case atStart => exact ⟨0, by omega, rfl, rfl, HB0.out, Nat.le_refl _, HR1.out, rfl⟩
  case round =>
    obtain ⟨k, hk, rfl, rfl, hbel, hsz, hout, hres⟩ := hrel
    have hm := rFind_fits (zs.take k) s.data.toList
    obtain ⟨st, hst⟩ : ∃ st, st = rFind (zs.take k) s.data.toList := ⟨_, rfl⟩
    have HST := Lib.hid hst
    rw [← hst] at hout hm
    rw [← hst]
    obtain ⟨z0, m⟩ := st
    simp only at hout hm
    clear hst
    have HOUT := Lib.hid hout
    have HRES := Lib.hid hres
    have HBEL := Lib.hid hbel
    have HSZ := Lib.hid hsz
    have c0 : wr.cell? ⟨bt, 0, none⟩ = some (.slice a zs.length cap) := (hbel.cell hbt).trans HC0.out
    have hbtw : bt < wr.heap.size := Nat.lt_of_lt_of_le hbt hbel.size
    have hszw : w.heap.size + 2 ≤ wr.heap.size := by rw [← HS0.out]; exact hsz
    clear hout hres hsz
    by_cases hlt : k < zs.length
    · obtain hz0 | ⟨b, off, ha, hlb, hcc⟩ := HROW.out
      · subst hz0; simp at hlt
      subst ha
      obtain ⟨z, hzk⟩ : ∃ z, zs[k]? = some z := ⟨_, List.getElem?_eq_getElem hlt⟩
      obtain ⟨c1, c2, c3⟩ := hcc k z hzk
      have hzfit := HF.out z (List.mem_of_getElem? hzk)
      have hnl : z.name.length ≤ 20000 := hzfit.2.2
      have HNEXT := Lib.hid (show rFind (zs.take (k + 1)) s.data.toList = rStep s.data.toList (z0, m) z by
        rw [List.take_add_one, hzk]
        show rFind (zs.take k ++ [z]) _ = _
        rw [rFind_snoc, ← HST.out])
      have HE := Lib.hid (And.intro ((hbel.cell (p := ⟨b, off + k * 3, none⟩) hlb).trans c1) (And.intro ((hbel.cell (p := ⟨b, off + k * 3 + 1, none⟩) hlb).trans c2) ((hbel.cell (p := ⟨b, off + k * 3 + 2, none⟩) hlb).trans c3)))
      have hbw : b < wr.heap.size := Nat.lt_of_lt_of_le hlb hbel.size
      have e1 : wr.cell? ⟨b, off + k * 3, none⟩ = some (.string ⟨z.name.toArray⟩) := HE.out.1
      have hk0 : (0 : Int) ≤ (k : Int) := by omega
      have hk1 : (k : Int) < (zs.length : Int) := by omega
      clear c1 c2 c3 hcc hzk hzfit hbel
      go_wp2_with fail
      refine (refLabels_any ⟨z.name.toArray⟩ _ (by rw [byteSize]; omega)).mono ?_
      rintro e w1 ⟨v, rfl, hown, hb1⟩
      obtain ⟨va, vc, hv⟩ := ownsRow_slice hown
      rw [hv]
      have hcnt : (Nm.labels (⟨z.name.toArray⟩ : ByteArray).data.toList).length = cnt z.name := rfl
      rw [hcnt]
      have hcl := cnt_le z.name
      clear hown hv hcnt
      have HB1 := Lib.hid hb1
      have c0' : w1.cell? ⟨bt, 0, none⟩ = some (.slice (some ⟨b, off, none⟩) zs.length cap) := (hb1.cell hbtw).trans c0
      have e1' : w1.cell? ⟨b, off + k * 3, none⟩ = some (.string ⟨z.name.toArray⟩) := (hb1.cell hbw).trans e1
      clear hb1 c0 e1
      go_wp2_with fail
      refine (refWithin_any s ⟨z.name.toArray⟩ _ hs (by rw [byteSize]; omega)).mono ?_
      rintro e w2 ⟨rfl, hb2⟩
      have HB2 := Lib.hid (HB1.out.trans (hb2.mono HB1.out.size))
      have hbtw2 : bt < w1.heap.size := Nat.lt_of_lt_of_le hbtw HB1.out.size
      have hbw2 : b < w1.heap.size := Nat.lt_of_lt_of_le hbw HB1.out.size
      have c0 : w2.cell? ⟨bt, 0, none⟩ = some (.slice (some ⟨b, off, none⟩) zs.length cap) := (hb2.cell hbtw2).trans c0'
      clear c0' e1' hb2
      have hin : Nm.within s.data.toList (⟨z.name.toArray⟩ : ByteArray).data.toList = Nm.within s.data.toList z.name := rfl
      rw [hin]
      clear hin
      have HSTAY := fun (W : World) (hb : Below wr.heap.size wr W) => And.intro (HBEL.out.trans (hb.mono HBEL.out.size)) (And.intro (Nat.le_trans HSZ.out hb.size) (And.intro ((hb.block (w.heap.size + 1) (by omega)).trans HOUT.out) ((hb.block w.heap.size (by omega)).trans HRES.out)))
      have HSTAY2 := Lib.hid HSTAY
      clear HSTAY
      cases hwi : Nm.within s.data.toList z.name with
      | false =>
        have HN := Lib.hid (show rFind (zs.take (k + 1)) s.data.toList = (z0, m) by rw [HNEXT.out]; unfold rStep; rw [hwi]; rfl)
        clear hwi
        go_wp2_with fail
        refine ⟨⟨k + 1, by omega, by go_num, by rw [HN.out], ?_⟩, by simp [intOf]; omega⟩
        rw [HN.out]
        exact HSTAY2.out _ HB2.out
      | true =>
        by_cases hgt : m < (cnt z.name : Int)
        · have HN := Lib.hid (show rFind (zs.take (k + 1)) s.data.toList = (z, (cnt z.name : Int)) by rw [HNEXT.out]; unfold rStep; rw [hwi]; simp [hgt])
          clear hwi
          have d0 : w2.cell? ⟨b, off + k * 3, none⟩ = some (.string ⟨z.name.toArray⟩) := (HB2.out.cell hbw).trans HE.out.1
          have d1 : w2.cell? ⟨b, off + k * 3 + 1, none⟩ = some (.int .u8 z.pol) := (HB2.out.cell hbw).trans HE.out.2.1
          have d2 : w2.cell? ⟨b, off + k * 3 + 2, none⟩ = some (.int .u16 z.tru) := (HB2.out.cell hbw).trans HE.out.2.2
          have HO2 := Lib.hid ((HB2.out.block (w.heap.size + 1) (by omega)).trans HOUT.out)
          obtain ⟨o0, o1, o2, ofz, osz⟩ := block_cells HO2.out
          have of0 := ofz 0
          have of1 := ofz 1
          have of2 := ofz 2
          clear ofz
          go_wp2_with fail
          refine ⟨⟨k + 1, by omega, by go_num, by rw [HN.out], ?_⟩, by simp [intOf]; omega⟩
          rw [HN.out]
          refine ⟨(((HSTAY2.out _ HB2.out).1.setCell (by simp) _).setCell (by simp) _).setCell (by simp) _, ?_, set3_block HO2.out _ _ _, (set3_other (by omega) _ _ _).trans (HSTAY2.out _ HB2.out).2.2.2⟩
          have := (HSTAY2.out _ HB2.out).2.1
          simpa [World.setCell] using this
        · have HN := Lib.hid (show rFind (zs.take (k + 1)) s.data.toList = (z0, m) by rw [HNEXT.out]; unfold rStep; rw [hwi]; simp [hgt])
          clear hwi
          go_wp2_with fail
          refine ⟨⟨k + 1, by omega, by go_num, by rw [HN.out], ?_⟩, by simp [intOf]; omega⟩
          rw [HN.out]
          exact HSTAY2.out _ HB2.out
    · obtain rfl : k = zs.length := by omega
      obtain ⟨o0, o1, o2, _, osz⟩ := block_cells HOUT.out
      obtain ⟨r0, r1, r2, rfz, rsz⟩ := block_cells (HRES.out.trans HR0.out)
      have rf0 := rfz 0
      have rf1 := rfz 1
      have rf2 := rfz 2
      clear rfz
      go_wp2_with fail
      obtain ⟨q0, q1, q2, _, _⟩ := block_cells (set3_block (HRES.out.trans HR0.out) (.string ⟨z0.name.toArray⟩) (.int .u8 z0.pol) (.int .u16 z0.tru))
      refine bodyPost_ret (v := z0.val) (by simp [results, Try.results23, go_sem, Zn.val, strV, q0, q1, q2]) rfl ⟨?_, ?_⟩
      · have := HST.out
        rw [List.take_length] at this
        rw [← this]
      · repeat (first | exact HBEL.out | refine Below.setCell ?_ (by simp) _ | refine Below.alloc ?_ (by simp; omega) _ | refine Below.drew ?_)

end Go.Proofs.Ytoonclcppokdeaa
