/-
  THE WALK of hustingslaw18.ZoneMore: for every input it returns true, and nothing that was there is changed.
-/
import Derived.Test.YtoonclcppokdeaaZl4
import Derived.Test.YtoonclcppokdeaaLZRow
import Derived.Test.YtoonclcppokdeaaLZLetters
import Derived.Test.YtoonclcppokdeaaApp
import Derived.Deep.RegionHeld3
import Derived.Deep.RegionLaw
import Derived.Deep.AppendSrc
namespace Go.Proofs.Ytoonclcppokdeaa
open Go.RowKit Go.Maps

theorem ZRow.rowOf {w : World} {v : Value} {zs : List Zn} (h : ZRow w v zs) : RowOf w v zs.length 3 (zflat zs) := by
  obtain ⟨a, cap, rfl, h⟩ := h
  refine ⟨zflat_length zs, ?_, ?_⟩
  · intro u hu
    obtain ⟨z, _, hz⟩ := List.mem_flatMap.1 hu
    simp [zcells] at hz
    rcases hz with rfl | rfl | rfl <;> rfl
  · rcases h with rfl | ⟨b, off, rfl, _, hc⟩
    · cases a with
      | none => exact Or.inl ⟨cap, rfl, rfl⟩
      | some ad => exact Or.inr ⟨ad, cap, rfl, fun j u hj => by simp [zflat] at hj⟩
    · refine Or.inr ⟨_, cap, rfl, fun j u hj => ?_⟩
      have hjl : j < zs.length * 3 := by
        have := (List.getElem?_eq_some_iff.1 hj).1
        rwa [zflat_length] at this
      have hil : j / 3 < zs.length := by omega
      obtain ⟨z, hz⟩ : ∃ z, zs[j / 3]? = some z := ⟨_, List.getElem?_eq_getElem hil⟩
      have hat := zflat_at zs (j / 3) (j % 3) z hz (by omega)
      rw [show j / 3 * 3 + j % 3 = j by omega, hj] at hat
      obtain ⟨h0, h1, h2⟩ := hc _ z hz
      rw [add_mk]
      have hr : j % 3 = 0 ∨ j % 3 = 1 ∨ j % 3 = 2 := by omega
      rcases hr with hr | hr | hr <;> rw [hr] at hat <;> simp [zcells] at hat <;> subst hat
      · rw [show off + j = off + j / 3 * 3 by omega]; exact h0
      · rw [show off + j = off + j / 3 * 3 + 1 by omega]; exact h1
      · rw [show off + j = off + j / 3 * 3 + 2 by omega]; exact h2

theorem zrow1 (w : World) (z : Zn) (t : TypeId) : RowOf (w.alloc (.cells #[.string ⟨z.name.toArray⟩, .int .u8 z.pol, .int .u16 z.tru] t)) (.slice (some ⟨w.heap.size, 0, none⟩) 1 1) 1 3 (zcells z) :=
  (by simpa [zflat] using (ZRow.new1 w z t).rowOf : RowOf _ _ 1 3 (zcells z))

theorem keepB {w w' : World} {z : Zn} {t : TypeId} (hg : ((w.alloc (.cells #[] t)).alloc (.cells #[.string ⟨z.name.toArray⟩, .int .u8 z.pol, .int .u16 z.tru] t)).drew.grownBy w' (some w.heap.size)) :
    RowOf w' (.slice (some ⟨w.heap.size + 1, 0, none⟩) 1 1) 1 3 (zcells z) := by
  have h := zrow1 (w.alloc (.cells #[] t)) z t
  have e : (w.alloc (.cells #[] t)).heap.size = w.heap.size + 1 := by simp
  rw [e] at h
  obtain ⟨h1, h2, ⟨c, h3, _⟩ | ⟨ad, c, h3, h4⟩⟩ := h
  · cases h3
  · cases h3
    refine ⟨h1, h2, Or.inr ⟨_, _, rfl, fun j u hj => ?_⟩⟩
    rw [← h4 j u hj]
    refine World.cell?_of_block ?_
    rw [add_mk]
    exact hg.block (w.heap.size + 1) (by simp) (by simp)
theorem keepC {w w' : World} {z : Zn} {t : TypeId} (hg : ((w.alloc (.cells #[.string ⟨z.name.toArray⟩, .int .u8 z.pol, .int .u16 z.tru] t)).alloc (.cells #[] t)).drew.grownBy w' (some (w.heap.size + 1))) :
    RowOf w' (.slice (some ⟨w.heap.size, 0, none⟩) 1 1) 1 3 (zcells z) := by
  have h := zrow1 w z t
  obtain ⟨h1, h2, ⟨c, h3, _⟩ | ⟨ad, c, h3, h4⟩⟩ := h
  · cases h3
  · cases h3
    refine ⟨h1, h2, Or.inr ⟨_, _, rfl, fun j u hj => ?_⟩⟩
    rw [← h4 j u hj]
    refine World.cell?_of_block ?_
    rw [add_mk]
    exact (hg.block w.heap.size (by simp; omega) (by simp)).trans (Below.heap_alloc _ _ _ (by simp))

/-- What New has told. -/
def MorePost (zs : List Zn) (p c : Value) (w : World) : Prop :=
  (newE zs = 0 ∧ c = .int .i64 0 ∧ ∃ bt, p = .pointer (some ⟨bt, 0, none⟩) ∧ TableIs w bt zs) ∨ (newE zs ≠ 0 ∧ c = .int .i64 (newE zs) ∧ p = .pointer none)

theorem newMore (zs : List Zn) (hl : zs.length ≤ 1000000) (hf : ∀ z ∈ zs, z.Fits) (W : World) (v : Value) (hr : ZRow W v zs) :
    Calls Try.prog 20 #[v] W (fun e w' => ∃ p c, e = .returned (.tuple #[p, c]) ∧ MorePost zs p c w' ∧ Below W.heap.size W w') :=
  (New_any v zs W hl hf hr).mono fun e w' hp => by
    by_cases h0 : newE zs = 0
    · obtain ⟨bt, rfl, _, hT, hb⟩ := hp.good h0
      exact ⟨_, _, rfl, Or.inl ⟨h0, rfl, bt, rfl, hT⟩, hb⟩
    · obtain ⟨rfl, hb⟩ := hp.bad rfl h0
      exact ⟨_, _, rfl, Or.inr ⟨h0, rfl, rfl⟩, hb⟩

set_option maxRecDepth 100000 in
set_option maxHeartbeats 2000000 in
theorem zoneMore_walk (v : Value) (zs : List Zn) (z : Zn) (s : Nm.Bytes) (w : World) (hv : ZRow w v zs) (hz1 : zs.length ≤ maxLen) (hz2 : ∀ z ∈ zs, z.FitsW) (hzf : z.FitsW) (hs : s.length ≤ maxLen) :
    Calls Try.prog 7 #[v, z.val, .string ⟨s.toArray⟩] w fun e w' => e = .returned (.bool true) ∧ Below w.heap.size w w' := by
  obtain ⟨a, cap, rfl, hrow⟩ := id hv
  have HROW := Lib.hid hrow
  have HV := Lib.hid hv
  have HZ2 := Lib.hid hz2
  have HZ1 := Lib.hid hz1
  have HZF := Lib.hid hzf
  have HS := Lib.hid hs
  obtain ⟨i0, hi, hi0, hi1, hi2⟩ := info_parts info_zone
  clear hv hz2 hz1 hs hrow hzf
  unfold Zn.val strV
  go_enter Try.func7, Try.ntmps7
  go_wp2_with fail
  refine (long_any _ _ zs [s, z.name] _ (HV.out.below (((Below.refl _ _).alloc (Nat.le_refl _) _).alloc (by simp) _) (Nat.le_refl _)) ?_ HZ1.out (by simp [maxLen]) (fun z hz => (HZ2.out z hz).2.2) (by intro n hn; simp at hn; rcases hn with rfl | rfl; exact HS.out; exact HZF.out.2.2)).mono ?_
  · have := SRow.new2 (w.alloc (.cells #[.string ⟨z.name.toArray⟩, .int .u8 z.pol, .int .u16 z.tru] 35)) s z.name 9
    simpa using this
  rintro e w1 ⟨rfl, r, rfl, hr⟩
  obtain ⟨W1, hW1⟩ : ∃ W, W = (w.alloc (.cells #[.string ⟨z.name.toArray⟩, .int .u8 z.pol, .int .u16 z.tru] 35)).alloc (.cells #[.string ⟨s.toArray⟩, .string ⟨z.name.toArray⟩] 9) := ⟨_, rfl⟩
  have B1 := Lib.hid (show Below w.heap.size w W1 by rw [hW1]; exact ((Below.refl w.heap.size w).alloc (Nat.le_refl _) _).alloc (by simp) _)
  have q0 : W1.cell? ⟨w.heap.size, 0, none⟩ = some (.string ⟨z.name.toArray⟩) := by rw [hW1, World.cell?_alloc_past _ _ _ (by simp), World.cell?_alloc_mark]; rfl
  have q1 : W1.cell? ⟨w.heap.size, 1, none⟩ = some (.int .u8 z.pol) := by rw [hW1, World.cell?_alloc_past _ _ _ (by simp), World.cell?_alloc_mark]; rfl
  have q2 : W1.cell? ⟨w.heap.size, 2, none⟩ = some (.int .u16 z.tru) := by rw [hW1, World.cell?_alloc_past _ _ _ (by simp), World.cell?_alloc_mark]; rfl
  have hW1s : w.heap.size < W1.heap.size := by rw [hW1]; simp; omega
  rw [← hW1]
  have HQ := Lib.hid (And.intro q0 (And.intro q1 q2))
  clear hW1 q0 q1 q2
  cases r with
  | true =>
    go_wp2_with fail
    refine (zAwake_any _).mono ?_
    rintro e w2 ⟨rfl, hb⟩
    go_wp2_with fail
    go_ret
    exact ⟨rfl, B1.out.trans (hb.mono B1.out.size)⟩
  | false =>
    obtain ⟨hl1, _, hl2, hl3⟩ := hr rfl
    have hfits : ∀ z ∈ zs, z.Fits := fun z hz => (HZ2.out z hz).fits (hl2 z hz)
    have HF := Lib.hid hfits
    have HFz := Lib.hid (HZF.out.fits (hl3 z.name (by simp)))
    have hsl : s.length < 10000 := hl3 s (by simp)
    have hzl : z.name.length < 10000 := hl3 z.name (by simp)
    clear hl2 hl3 hfits hr HS
    have HSZ := Lib.hid (show (⟨s.toArray⟩ : ByteArray).size ≤ maxLen by rw [bsize]; unfold maxLen; omega)
    go_wp2_with fail
    refine (zAwake_any _).mono ?_
    rintro e w2 ⟨rfl, hb⟩
    have B2 := Lib.hid (B1.out.trans (hb.mono B1.out.size))
    have HB12 := Lib.hid hb
    clear hb
    go_wp2_with fail
    refine (New_any _ zs _ (by omega) HF.out (HV.out.below B2.out (Nat.le_refl _))).mono ?_
    intro e w3 hp
    have B3 := Lib.hid (B2.out.trans (hp.1.mono B2.out.size))
    have B13 := Lib.hid (HB12.out.trans (hp.1.mono HB12.out.size))
    have c0 : w3.cell? ⟨w.heap.size, 0, none⟩ = some (.string ⟨z.name.toArray⟩) := (B13.out.cell hW1s).trans HQ.out.1
    have c1 : w3.cell? ⟨w.heap.size, 1, none⟩ = some (.int .u8 z.pol) := (B13.out.cell hW1s).trans HQ.out.2.1
    have c2 : w3.cell? ⟨w.heap.size, 2, none⟩ = some (.int .u16 z.tru) := (B13.out.cell hW1s).trans HQ.out.2.2
    have hw3s : w.heap.size < w3.heap.size := Nat.lt_of_lt_of_le hW1s B13.out.size
    obtain ⟨x1, x2, hpost⟩ : ∃ p c, (e = .returned (.tuple #[.pointer p, .int .i64 c])) ∧ ((newE zs = 0 ∧ c = 0 ∧ ∃ bt, p = some ⟨bt, 0, none⟩ ∧ TableIs w3 bt zs) ∨ (newE zs ≠ 0 ∧ c = newE zs ∧ p = none)) := by
      by_cases h0 : newE zs = 0
      · obtain ⟨bt, rfl, _, hT, hb3⟩ := hp.good h0
        exact ⟨_, _, rfl, Or.inl ⟨h0, rfl, bt, rfl, hT⟩⟩
      · obtain ⟨rfl, hb3⟩ := hp.bad rfl h0
        exact ⟨_, _, rfl, Or.inr ⟨h0, rfl, rfl⟩⟩
    obtain ⟨rfl, hp1⟩ := hpost
    have HP1 := Lib.hid hp1
    clear hp hp1
    go_upto_region 4 with fail
    go_cut [9, 10] (fun s9 s10 wx => MorePost (zs ++ [z]) s9 s10 wx ∧ Below w3.heap.size w3 wx)
    case first =>
      have HRW := Lib.hid (fun W (hb : Below w3.heap.size w3 W) => (HV.out.below (B3.out.trans (hb.mono B3.out.size)) (Nat.le_refl _)).rowOf)
      have HFM := Lib.hid (show ∀ y ∈ zs ++ [z], y.Fits from fun y hy => by rcases List.mem_append.1 hy with h | h; exact HF.out y h; simp at h; subst h; exact HFz.out)
      go_region_law (first | (refine step_app rfl (.tmp 32) (.tmp 33) 22 rfl w3.heap.size 35 i0 zeroZ 3 24 Try.underlying22 hi hi0 hi1 hi2 rfl (by decide) _ 0 [] rfl (by first | exact own0_a _ _ _ | exact own0_b _ _ _ _ | exact own0_c _ _ _ _) _ zs.length (zflat zs) rfl (HRW.out _ (by first | exact ((Below.refl _ _).alloc (Nat.le_refl _) _).drew | exact (((Below.refl _ _).alloc (Nat.le_refl _) _).alloc (by simp) _).drew)) (by unfold maxLen; omega) (by omega) (by simp; try omega) ?_; intro v34 w34 hown34 hgrow34; (first | have hz34 := keepB hgrow34 | have hz34 := keepC hgrow34 | have hz34 : True := trivial); (have hb34 : Below w3.heap.size w3 w34 := Below.grown (by first | exact ((Below.refl _ _).alloc (Nat.le_refl _) _).drew | exact (((Below.refl _ _).alloc (Nat.le_refl _) _).alloc (by simp) _).drew) hgrow34 (by simp; try omega) (fun q hq => by cases hq; first | exact Nat.le_refl _ | exact Nat.le_succ _)); (have d0 := (hb34.cell (p := ⟨w.heap.size, 0, none⟩) hw3s).trans c0); (have d1 := (hb34.cell (p := ⟨w.heap.size, 1, none⟩) hw3s).trans c1); (have d2 := (hb34.cell (p := ⟨w.heap.size, 2, none⟩) hw3s).trans c2); clear hgrow34) | (refine step_app rfl (.tmp 34) (.tmp 36) 22 rfl w3.heap.size 35 i0 zeroZ 3 24 Try.underlying22 hi hi0 hi1 hi2 rfl (by decide) _ (0 + zs.length) _ rfl (by first | exact hown34 | exact hown34.alloc _) _ 1 (zcells z) rfl (by first | exact hz34 | exact zrow1 _ _ _) (by unfold maxLen; omega) (by omega) (by first | exact hb34.size | (have := hb34.size; simp; omega)) ?_; intro v37 w37 hown37 hgrow37; (have hb37 : Below w3.heap.size w3 w37 := Below.grown (by first | exact hb34 | exact hb34.alloc hb34.size _) hgrow37 (by first | exact hb34.size | (have := hb34.size; simp; omega)) (fun q hq => (hown34.lt q hq).1)); (have hrow37 : ZRow w37 v37 (zs ++ [z]) := ZRow.own (by rw [List.length_append, zflat_append]; simpa [zflat] using hown37)); clear hown37 hgrow37) | (go_simp; go_at_call 20; refine (newMore (zs ++ [z]) (by simp; omega) HFM.out w37 v37 hrow37).mono ?_; rintro e w38 ⟨p38, c38, rfl, hmp, hb38⟩))
      all_goals (go_wp2_with fail; go_meet)
      all_goals exact ⟨hmp, hb37.trans (hb38.mono hb37.size)⟩
    case rest =>
      obtain ⟨hmp, hb4⟩ := hcut
      have B4 := Lib.hid (B3.out.trans (hb4.mono B3.out.size))
      have d0 : wc.cell? ⟨w.heap.size, 0, none⟩ = some (.string ⟨z.name.toArray⟩) := (hb4.cell hw3s).trans c0
      have d1 : wc.cell? ⟨w.heap.size, 1, none⟩ = some (.int .u8 z.pol) := (hb4.cell hw3s).trans c1
      have d2 : wc.cell? ⟨w.heap.size, 2, none⟩ = some (.int .u16 z.tru) := (hb4.cell hw3s).trans c2
      have hwcs : w.heap.size < wc.heap.size := Nat.lt_of_lt_of_le hw3s hb4.size
      have HB4 := Lib.hid hb4
      clear c0 c1 c2 hb4 hi hi0 hi1 hi2
      rcases HP1.out with ⟨h0, rfl, bt, rfl, hT⟩ | ⟨h0, rfl, rfl⟩
      · rcases hmp with ⟨g0, rfl, bu, rfl, hU⟩ | ⟨g0, rfl, rfl⟩
        · have HTt := Lib.hid (hT.below HB4.out (Nat.le_refl _))
          have HTu := Lib.hid hU
          have HG := Lib.hid ((good_iff _).1 g0)
          have hfew := HG.out.few
          rw [List.length_append] at hfew
          have HLAW := Lib.hid (more_law (n := s) HG.out)
          obtain ⟨x, hx⟩ : ∃ x, x = findZ zs s := ⟨_, rfl⟩
          obtain ⟨y, hy⟩ : ∃ y, y = findZ (zs ++ [z]) s := ⟨_, rfl⟩
          have HX := Lib.hid hx
          have HY := Lib.hid hy
          rw [← hx, ← hy] at HLAW
          have hxn : x.name.length ≤ 20000 := by
            rcases (inner_law (zs := zs) (n := s) HG.out.front).2 with ⟨h1, _⟩ | h1
            · rw [hx]; exact (HF.out _ h1).2.2
            · rw [hx, h1]; simp [rootZ]
          have hxs := Lib.hid (show (⟨x.name.toArray⟩ : ByteArray).size ≤ maxLen by rw [bsize]; unfold maxLen; omega)
          have hzs := Lib.hid (show (⟨z.name.toArray⟩ : ByteArray).size ≤ maxLen by rw [bsize]; unfold maxLen; omega)
          clear hT hU h0 g0 hx hy HP1
          have heq := eql_zone
          go_wp2_with fail
          refine (Find_any ⟨s.toArray⟩ zs bt _ HSZ.out HTt.out (by simp at hfew; omega)).mono ?_
          rintro e w5 ⟨rfl, hb5⟩
          rw [show findZ zs (⟨s.toArray⟩ : ByteArray).data.toList = x from HX.out.symm]
          have HTu5 := Lib.hid (HTu.out.below hb5 (Nat.le_refl _))
          have HB5 := Lib.hid (HB4.out.trans (hb5.mono HB4.out.size))
          have e0 : w5.cell? ⟨w.heap.size, 0, none⟩ = some (.string ⟨z.name.toArray⟩) := (hb5.cell hwcs).trans d0
          have e1 : w5.cell? ⟨w.heap.size, 1, none⟩ = some (.int .u8 z.pol) := (hb5.cell hwcs).trans d1
          have e2 : w5.cell? ⟨w.heap.size, 2, none⟩ = some (.int .u16 z.tru) := (hb5.cell hwcs).trans d2
          have hw5s : w.heap.size < w5.heap.size := Nat.lt_of_lt_of_le hwcs hb5.size
          clear hb5 d0 d1 d2
          unfold Zn.val strV
          go_wp2_with fail
          refine (Find_any ⟨s.toArray⟩ (zs ++ [z]) bu _ HSZ.out HTu5.out (by simp at hfew ⊢; omega)).mono ?_
          rintro e w6 ⟨rfl, hb6⟩
          rw [show findZ (zs ++ [z]) (⟨s.toArray⟩ : ByteArray).data.toList = y from HY.out.symm]
          have HB6 := Lib.hid (HB5.out.trans (hb6.mono HB5.out.size))
          have f0 : w6.cell? ⟨w.heap.size, 0, none⟩ = some (.string ⟨z.name.toArray⟩) := (hb6.cell hw5s).trans e0
          have f1 : w6.cell? ⟨w.heap.size, 1, none⟩ = some (.int .u8 z.pol) := (hb6.cell hw5s).trans e1
          have f2 : w6.cell? ⟨w.heap.size, 2, none⟩ = some (.int .u16 z.tru) := (hb6.cell hw5s).trans e2
          have hw6s : w.heap.size < w6.heap.size := Nat.lt_of_lt_of_le hw5s hb6.size
          clear hb6 e0 e1 e2
          unfold Zn.val strV
          go_wp2_with fail
          obtain ⟨W0, hW0⟩ : ∃ W, W = (w6.alloc (.cells #[.string ⟨x.name.toArray⟩, .int .u8 x.pol, .int .u16 x.tru] 35)).alloc (.cells #[.string ⟨y.name.toArray⟩, .int .u8 y.pol, .int .u16 y.tru] 35) := ⟨_, rfl⟩
          have hn1 : w6.heap.size + 1 = (w6.alloc (.cells #[.string ⟨x.name.toArray⟩, .int .u8 x.pol, .int .u16 x.tru] 35)).heap.size := by simp
          have x0 : W0.cell? ⟨w6.heap.size, 0, none⟩ = some (.string ⟨x.name.toArray⟩) := by rw [hW0, World.cell?_alloc_past _ _ _ (by simp), World.cell?_alloc_mark]; rfl
          have x1' : W0.cell? ⟨w6.heap.size, 1, none⟩ = some (.int .u8 x.pol) := by rw [hW0, World.cell?_alloc_past _ _ _ (by simp), World.cell?_alloc_mark]; rfl
          have x2' : W0.cell? ⟨w6.heap.size, 2, none⟩ = some (.int .u16 x.tru) := by rw [hW0, World.cell?_alloc_past _ _ _ (by simp), World.cell?_alloc_mark]; rfl
          have y0 : W0.cell? ⟨w6.heap.size + 1, 0, none⟩ = some (.string ⟨y.name.toArray⟩) := by rw [hW0, hn1, World.cell?_alloc_mark]; rfl
          have y1 : W0.cell? ⟨w6.heap.size + 1, 1, none⟩ = some (.int .u8 y.pol) := by rw [hW0, hn1, World.cell?_alloc_mark]; rfl
          have y2 : W0.cell? ⟨w6.heap.size + 1, 2, none⟩ = some (.int .u16 y.tru) := by rw [hW0, hn1, World.cell?_alloc_mark]; rfl
          have hB06 : Below w6.heap.size w6 W0 := by rw [hW0]; exact ((Below.refl _ _).alloc (Nat.le_refl _) _).alloc (by simp) _
          have hW0s : w6.heap.size + 1 < W0.heap.size := by rw [hW0]; simp
          rw [← hW0]
          clear hW0 hn1
          have g0' : W0.cell? ⟨w.heap.size, 0, none⟩ = some (.string ⟨z.name.toArray⟩) := (hB06.cell hw6s).trans f0
          have g1' : W0.cell? ⟨w.heap.size, 1, none⟩ = some (.int .u8 z.pol) := (hB06.cell hw6s).trans f1
          have g2' : W0.cell? ⟨w.heap.size, 2, none⟩ = some (.int .u16 z.tru) := (hB06.cell hw6s).trans f2
          have B0 := Lib.hid (B3.out.trans ((HB6.out.trans (hB06.mono HB6.out.size)).mono B3.out.size))
          have HALL := Lib.hid (And.intro x0 (And.intro x1' (And.intro x2' (And.intro y0 (And.intro y1 (And.intro y2 (And.intro g0' (And.intro g1' g2'))))))))
          clear x0 x1' x2' y0 y1 y2 g0' g1' g2' f0 f1 f2 hB06
          go_loopw [13, 14] (fun h i wr => ∃ k : Nat, k ≤ zs.length ∧ i = .int .i64 k ∧ h = .bool (someIn (zs.take k) s) ∧ Below W0.heap.size W0 wr) (fun _ i _ => zs.length - (intOf i).toNat)
          case atStart => exact ⟨0, by omega, rfl, rfl, Below.refl _ _⟩
          case round =>
            obtain ⟨k, hk, rfl, rfl, hbr⟩ := hrel
            have HBR := Lib.hid hbr
            clear hbr
            by_cases hlt : k < zs.length
            · obtain hz0 | ⟨b, off, ha, hlb, hcc⟩ := HROW.out
              · subst hz0; simp at hlt
              subst ha
              obtain ⟨u, huk⟩ : ∃ u, zs[k]? = some u := ⟨_, List.getElem?_eq_getElem hlt⟩
              have hmem := List.mem_of_getElem? huk
              have BW := B0.out.trans (HBR.out.mono B0.out.size)
              have k0 : wr.cell? ⟨b, off + k * 3, none⟩ = some (.string ⟨u.name.toArray⟩) := (BW.cell hlb).trans (hcc k u huk).1
              have hul := (HF.out u hmem).2.2
              have hus := Lib.hid (show (⟨u.name.toArray⟩ : ByteArray).size ≤ maxLen by rw [bsize]; unfold maxLen; omega)
              have cW0 := fun W : World => (Within_any ⟨s.toArray⟩ ⟨u.name.toArray⟩ W HSZ.out hus.out).mono (R' := fun e w' => e = .returned (.bool (Nm.within s u.name)) ∧ Below W.heap.size W w') fun e w' h => h
              have cW := Lib.hid cW0
              have HTK := Lib.hid (show someIn (zs.take (k + 1)) s = (someIn (zs.take k) s || Nm.within s u.name) by unfold someIn; rw [List.take_add_one, huk]; simp [List.any_append])
              clear BW hcc huk hmem cW0
              cases hh : someIn (zs.take k) s with
              | true =>
                have HH := Lib.hid hh
                clear hh
                go_wp2_with fail
                refine ⟨⟨k + 1, by omega, by go_num, ?_, HBR.out⟩, by simp [intOf]; omega⟩
                rw [HTK.out, HH.out]; rfl
              | false =>
                have HH := Lib.hid hh
                clear hh
                go_wp2_with fail
                refine (cW.out _).mono ?_
                rintro e w7 ⟨rfl, hb7⟩
                go_wp2_with fail
                refine ⟨⟨k + 1, by omega, by go_num, ?_, HBR.out.trans (hb7.mono HBR.out.size)⟩, by simp [intOf]; omega⟩
                rw [HTK.out, HH.out]; rfl
            · obtain rfl : k = zs.length := by omega
              rw [List.take_length]
              obtain ⟨x0, x1', x2', y0, y1, y2, g0', g1', g2'⟩ := HALL.out
              have a0 : wr.cell? ⟨w6.heap.size, 0, none⟩ = some (.string ⟨x.name.toArray⟩) := (HBR.out.cell (by simp; omega)).trans x0
              have a1 : wr.cell? ⟨w6.heap.size, 1, none⟩ = some (.int .u8 x.pol) := (HBR.out.cell (by simp; omega)).trans x1'
              have a2 : wr.cell? ⟨w6.heap.size, 2, none⟩ = some (.int .u16 x.tru) := (HBR.out.cell (by simp; omega)).trans x2'
              have b0 : wr.cell? ⟨w6.heap.size + 1, 0, none⟩ = some (.string ⟨y.name.toArray⟩) := (HBR.out.cell (by simp; omega)).trans y0
              have b1 : wr.cell? ⟨w6.heap.size + 1, 1, none⟩ = some (.int .u8 y.pol) := (HBR.out.cell (by simp; omega)).trans y1
              have b2 : wr.cell? ⟨w6.heap.size + 1, 2, none⟩ = some (.int .u16 y.tru) := (HBR.out.cell (by simp; omega)).trans y2
              have z0 : wr.cell? ⟨w.heap.size, 0, none⟩ = some (.string ⟨z.name.toArray⟩) := (HBR.out.cell (by simp; omega)).trans g0'
              have z1 : wr.cell? ⟨w.heap.size, 1, none⟩ = some (.int .u8 z.pol) := (HBR.out.cell (by simp; omega)).trans g1'
              have z2 : wr.cell? ⟨w.heap.size, 2, none⟩ = some (.int .u16 z.tru) := (HBR.out.cell (by simp; omega)).trans g2'
              have BR := Lib.hid (B0.out.trans (HBR.out.mono B0.out.size))
              clear x0 x1' x2' y0 y1 y2 g0' g1' g2'
              have cW0 := Calls.inGrown (w := wr) (fun W => (Within_any ⟨s.toArray⟩ ⟨z.name.toArray⟩ W HSZ.out hzs.out).mono (R' := fun e w' => e = .returned (.bool (Nm.within s z.name)) ∧ Below W.heap.size W w') fun e w' h => h)
              have cLz := Lib.hid (Calls.inGrown (w := wr) (fun W => (zLabels_any ⟨z.name.toArray⟩ W hzs.out).mono (R' := fun e w' => e = .returned (.int .i64 (cnt z.name)) ∧ Below W.heap.size W w') fun e w' h => h))
              have cLx := Lib.hid (Calls.inGrown (w := wr) (fun W => (zLabels_any ⟨x.name.toArray⟩ W hxs.out).mono (R' := fun e w' => e = .returned (.int .i64 (cnt x.name)) ∧ Below W.heap.size W w') fun e w' h => h))
              have HIS := Lib.hid (show isMore zs z s = (Nm.within s z.name && (!someIn zs s || decide (cnt x.name < cnt z.name))) by rw [HX.out]; rfl)
              go_upto_region 13 with fail
              go_cut [13, 91] (fun _ s91 wx => s91 = .bool (isMore zs z s) ∧ Below wr.heap.size wr wx)
              case first =>
                have k0 := cell_regrown z0
                have k1 := cell_regrown a0
                cases hw : Nm.within s z.name with
                | false =>
                  rw [hw] at cW0
                  have cW := Lib.hid cW0
                  have HI := Lib.hid (show isMore zs z s = false by rw [HIS.out, hw]; rfl)
                  clear hw cW0
                  refine wp_region_quiet_below (by kernel_rfl) (by kernel_rfl) ?_
                  repeat (first | go_big_quiet_step ((first | exact cW.out _ _)) | quiet_step ((first | exact cW.out _ _)))
                  refine wpQuiet_nil ?_
                  intro _ hw'
                  obtain ⟨⟨dq, osq⟩, hw''⟩ := hw'
                  subst hw''
                  go_wp2_with fail
                  go_meet
                  exact ⟨by rw [HI.out], below_regrown wr dq osq⟩
                | true =>
                  rw [hw] at cW0
                  have cW := Lib.hid cW0
                  cases hsm : someIn zs s with
                  | false =>
                    have HI := Lib.hid (show isMore zs z s = true by rw [HIS.out, hw, hsm]; rfl)
                    clear hw cW0 hsm
                    refine wp_region_quiet_below (by kernel_rfl) (by kernel_rfl) ?_
                    repeat (first | go_big_quiet_step ((first | exact cW.out _ _)) | quiet_step ((first | exact cW.out _ _)))
                    refine wpQuiet_nil ?_
                    intro _ hw'
                    obtain ⟨⟨dq, osq⟩, hw''⟩ := hw'
                    subst hw''
                    go_wp2_with fail
                    go_meet
                    exact ⟨by rw [HI.out], below_regrown wr dq osq⟩
                  | true =>
                    have HI := Lib.hid (show isMore zs z s = decide (cnt x.name < cnt z.name) by rw [HIS.out, hw, hsm]; simp)
                    clear hw cW0 hsm
                    refine wp_region_quiet_below (by kernel_rfl) (by kernel_rfl) ?_
                    repeat (first | go_big_quiet_step ((first | exact cW.out _ _ | exact cLz.out _ _ | exact cLx.out _ _)) | quiet_step ((first | exact cW.out _ _ | exact cLz.out _ _ | exact cLx.out _ _)))
                    refine wpQuiet_nil ?_
                    intro _ hw'
                    obtain ⟨⟨dq, osq⟩, hw''⟩ := hw'
                    subst hw''
                    go_wp2_with fail
                    go_meet
                    exact ⟨by rw [HI.out], below_regrown wr dq osq⟩
              case rest =>
                obtain ⟨rfl, hb9⟩ := hcut
                have hwrs : w6.heap.size + 1 < wr.heap.size := Nat.lt_of_lt_of_le hW0s HBR.out.size
                have a0' := (hb9.cell (p := ⟨w6.heap.size, 0, none⟩) (by simp; omega)).trans a0
                have a1' := (hb9.cell (p := ⟨w6.heap.size, 1, none⟩) (by simp; omega)).trans a1
                have a2' := (hb9.cell (p := ⟨w6.heap.size, 2, none⟩) (by simp; omega)).trans a2
                have b0' := (hb9.cell (p := ⟨w6.heap.size + 1, 0, none⟩) (by simp; omega)).trans b0
                have b1' := (hb9.cell (p := ⟨w6.heap.size + 1, 1, none⟩) (by simp; omega)).trans b1
                have b2' := (hb9.cell (p := ⟨w6.heap.size + 1, 2, none⟩) (by simp; omega)).trans b2
                have z0' := (hb9.cell (p := ⟨w.heap.size, 0, none⟩) (by simp; omega)).trans z0
                have z1' := (hb9.cell (p := ⟨w.heap.size, 1, none⟩) (by simp; omega)).trans z1
                have z2' := (hb9.cell (p := ⟨w.heap.size, 2, none⟩) (by simp; omega)).trans z2
                have B9 := Lib.hid (BR.out.trans (hb9.mono BR.out.size))
                clear a0 a1 a2 b0 b1 b2 z0 z1 z2 hb9
                cases him : isMore zs z s with
                | true =>
                  have hyz : y = z := by rw [HLAW.out, if_pos him]
                  have hee : eqZ ⟨y.name, y.pol, y.tru⟩ ⟨z.name, z.pol, z.tru⟩ = true := by rw [hyz]; exact (eqZ_iff _ _).2 rfl
                  clear him hyz
                  go_wp2_with fail
                  go_ret
                  exact ⟨by first | rfl | (simp [hee]; done), B9.out⟩
                | false =>
                  have hyz : y = x := by rw [HLAW.out, if_neg (by rw [him]; simp)]
                  have hee : eqZ ⟨y.name, y.pol, y.tru⟩ ⟨x.name, x.pol, x.tru⟩ = true := by rw [hyz]; exact (eqZ_iff _ _).2 rfl
                  clear him hyz
                  go_wp2_with fail
                  go_ret
                  exact ⟨by first | rfl | (simp [hee]; done), B9.out⟩
        · have n1 : (newE (zs ++ [z]) == 0) = false := beq_eq_false_iff_ne.2 g0
          have n2 : (newE (zs ++ [z]) != 0) = true := by rw [bne_iff_ne]; exact g0
          clear hT h0 g0 HP1
          go_wp2_with fail
          go_ret
          exact ⟨rfl, B4.out⟩
      · have g0 : newE (zs ++ [z]) ≠ 0 := fun h => h0 ((good_iff zs).2 ((good_iff _).1 h).front)
        rcases hmp with ⟨g1, _⟩ | ⟨_, rfl, rfl⟩
        · exact absurd g1 g0
        · have n1 : (newE (zs ++ [z]) == 0) = false := beq_eq_false_iff_ne.2 g0
          have n2 : (newE (zs ++ [z]) != 0) = true := by rw [bne_iff_ne]; exact g0
          have n3 : (newE zs == 0) = false := beq_eq_false_iff_ne.2 h0
          have n4 : (newE zs != 0) = true := by rw [bne_iff_ne]; exact h0
          clear h0 g0 HP1
          go_wp2_with fail
          go_ret
          exact ⟨rfl, B4.out⟩
end Go.Proofs.Ytoonclcppokdeaa
