/-
  THE WALK of hustingslaw18.ZoneInner: for every input it returns true, and nothing that was there is changed.
-/
import Derived.Test.YtoonclcppokdeaaZl
import Derived.Test.YtoonclcppokdeaaWWithin
import Derived.Test.YtoonclcppokdeaaOpen
namespace Go.Proofs.Ytoonclcppokdeaa
open Go.RowKit Go.Maps

theorem SRow.new1 (w : World) (n : Nm.Bytes) (t : TypeId) : SRow (w.alloc (.cells #[.string ⟨n.toArray⟩] t)) (.slice (some ⟨w.heap.size, 0, none⟩) 1 1) [n] := by
  refine ⟨_, _, rfl, Or.inr ⟨_, _, rfl, by simp, fun i z hi => ?_⟩⟩
  rw [World.cell?_alloc_mark]
  match i with
  | 0 => cases hi; rfl

def eqZ (x y : Zn) : Bool := x.name == y.name && x.pol == y.pol && x.tru == y.tru
theorem eqZ_iff (x y : Zn) : eqZ x y = true ↔ x = y := by
  obtain ⟨a, b, c⟩ := x
  obtain ⟨a', b', c'⟩ := y
  simp [eqZ, and_assoc]
theorem eql_zone (a b : Nm.Bytes) (p q r s : Int) (w : World) : (binOp .eql 35 (.agg #[.string ⟨a.toArray⟩, .int .u8 p, .int .u16 r]) (.agg #[.string ⟨b.toArray⟩, .int .u8 q, .int .u16 s])).run Try.prog w = .ok (.bool (eqZ ⟨a, p, r⟩ ⟨b, q, s⟩)) w := by
  unfold eqZ
  by_cases h1 : a = b <;> by_cases h2 : p = q <;> by_cases h3 : r = s <;> (go_simp; try simp [h1, h2, h3])

theorem bsize (s : Nm.Bytes) : (⟨s.toArray⟩ : ByteArray).size = s.length := by show s.toArray.size = s.length; simp

/-- The relation of the round. -/
def InnerRel (zs : List Zn) (z : Zn) (W0 : World) (h i : Value) (wr : World) : Prop :=
  ∃ k : Nat, k ≤ zs.length ∧ i = .int .i64 k ∧ h = .bool ((zs.take k).any (fun y => eqZ y z)) ∧ Below W0.heap.size W0 wr

set_option maxRecDepth 100000 in
set_option maxHeartbeats 2000000 in
theorem zoneInner_walk (v : Value) (zs : List Zn) (s : Nm.Bytes) (w : World) (hv : ZRow w v zs) (hz1 : zs.length ≤ maxLen) (hz2 : ∀ z ∈ zs, z.FitsW) (hs : s.length ≤ maxLen) :
    Calls Try.prog 6 #[v, .string ⟨s.toArray⟩] w fun e w' => e = .returned (.bool true) ∧ Below w.heap.size w w' := by
  have hsz : (⟨s.toArray⟩ : ByteArray).size ≤ maxLen := by rw [bsize]; exact hs
  obtain ⟨a, cap, rfl, hrow⟩ := id hv
  have HROW := Lib.hid hrow
  clear hrow
  have HSZ := Lib.hid hsz
  have HV := Lib.hid hv
  have HZ2 := Lib.hid hz2
  have HZ1 := Lib.hid hz1
  have HS := Lib.hid hs
  clear hsz hv hz2 hz1 hs
  go_enter Try.func6, Try.ntmps6
  go_wp2_with fail
  refine (long_any _ _ zs [s] _ (HV.out.below ((Below.refl _ _).alloc (Nat.le_refl _) _) (Nat.le_refl _)) (SRow.new1 _ _ _) HZ1.out (by simp [maxLen]) (fun z hz => (HZ2.out z hz).2.2) (by simpa using HS.out)).mono ?_
  rintro e w1 ⟨rfl, r, rfl, hr⟩
  have B1 := Lib.hid ((Below.refl w.heap.size w).alloc (Nat.le_refl _) (.cells #[.string ⟨s.toArray⟩] 9))
  cases r with
  | true =>
    go_wp2_with fail
    refine (zAwake_any _).mono ?_
    rintro e w2 ⟨rfl, hb⟩
    go_wp2_with fail
    go_ret
    exact ⟨rfl, B1.out.trans (hb.mono (by simp))⟩
  | false =>
    obtain ⟨hl1, _, hl2, hl3⟩ := hr rfl
    have hfits : ∀ z ∈ zs, z.Fits := fun z hz => (HZ2.out z hz).fits (hl2 z hz)
    have HF := Lib.hid hfits
    have HL2 := Lib.hid hl2
    clear hl2 hl3 hfits hr HS
    go_wp2_with fail
    refine (zAwake_any _).mono ?_
    rintro e w2 ⟨rfl, hb⟩
    have B2 := Lib.hid (B1.out.trans (hb.mono (by simp)))
    clear hb B1
    go_wp2_with fail
    refine (New_any _ zs _ (by omega) HF.out (HV.out.below B2.out (Nat.le_refl _))).mono ?_
    intro e w3 hp
    by_cases h0 : newE zs = 0
    · obtain ⟨bt, rfl, _, hT, hb3⟩ := hp.good h0
      have B3 := Lib.hid (B2.out.trans (hb3.mono B2.out.size))
      have HT := Lib.hid hT
      have HG := Lib.hid ((good_iff zs).1 h0)
      clear hp h0 hb3 hT B2
      go_wp2_with fail
      refine (Find_any _ zs bt _ HSZ.out HT.out (by have := HG.out.few; omega)).mono ?_
      rintro e w4 ⟨rfl, hb4⟩
      have B4 := Lib.hid (B3.out.trans (hb4.mono B3.out.size))
      have HLAW := Lib.hid (inner_law (n := s) HG.out)
      obtain ⟨z, hzd⟩ : ∃ z, z = findZ zs s := ⟨_, rfl⟩
      have e1 : findZ zs (⟨s.toArray⟩ : ByteArray).data.toList = z := hzd.symm
      rw [e1]
      rw [← hzd] at HLAW
      unfold Zn.val strV
      clear e1 hzd hb4 B3 HT
      go_wp2_with fail
      obtain ⟨W0, hW0⟩ : ∃ W, W = w4.alloc (.cells #[.string ⟨z.name.toArray⟩, .int .u8 z.pol, .int .u16 z.tru] 35) := ⟨_, rfl⟩
      have q0 : W0.cell? ⟨w4.heap.size, 0, none⟩ = some (.string ⟨z.name.toArray⟩) := by rw [hW0, World.cell?_alloc_mark]; rfl
      have q1 : W0.cell? ⟨w4.heap.size, 1, none⟩ = some (.int .u8 z.pol) := by rw [hW0, World.cell?_alloc_mark]; rfl
      have q2 : W0.cell? ⟨w4.heap.size, 2, none⟩ = some (.int .u16 z.tru) := by rw [hW0, World.cell?_alloc_mark]; rfl
      have hq : w4.heap.size < W0.heap.size := by rw [hW0]; simp
      have B5 := Lib.hid (show Below w.heap.size w W0 by rw [hW0]; exact B4.out.alloc B4.out.size _)
      rw [← hW0]
      clear hW0
      have hzn : z.name.length ≤ 20000 := by
        rcases HLAW.out.2 with ⟨h1, _⟩ | h1
        · exact (HF.out z h1).2.2
        · rw [h1]; simp [rootZ]
      have hzs : (⟨z.name.toArray⟩ : ByteArray).size ≤ maxLen := by rw [bsize]; unfold maxLen; omega
      have cLz := Lib.hid (fun W : World => zLabels_any ⟨z.name.toArray⟩ W hzs)
      have cWz := Lib.hid (fun W : World => Within_any ⟨s.toArray⟩ ⟨z.name.toArray⟩ W HSZ.out hzs)
      clear hzs
      go_loopw [8, 9] (fun h i wr => InnerRel zs z W0 h i wr) (fun _ i _ => zs.length - (intOf i).toNat)
      case atStart => exact ⟨0, by omega, rfl, rfl, Below.refl _ _⟩
      case round =>
        obtain ⟨k, hk, rfl, rfl, hbr⟩ := hrel
        have HBR := Lib.hid hbr
        have c0 : wr.cell? ⟨w4.heap.size, 0, none⟩ = some (.string ⟨z.name.toArray⟩) := (hbr.cell hq).trans q0
        have c1 : wr.cell? ⟨w4.heap.size, 1, none⟩ = some (.int .u8 z.pol) := (hbr.cell hq).trans q1
        have c2 : wr.cell? ⟨w4.heap.size, 2, none⟩ = some (.int .u16 z.tru) := (hbr.cell hq).trans q2
        clear hbr
        by_cases hlt : k < zs.length
        · obtain hz0 | ⟨b, off, ha, hlb, hcc⟩ := HROW.out
          · subst hz0; simp at hlt
          subst ha
          obtain ⟨y, hyk⟩ : ∃ y, zs[k]? = some y := ⟨_, List.getElem?_eq_getElem hlt⟩
          have hmem := List.mem_of_getElem? hyk
          have BW := B5.out.trans (HBR.out.mono B5.out.size)
          obtain ⟨d0, d1, d2⟩ := hcc k y hyk
          have f0 : wr.cell? ⟨b, off + k * 3, none⟩ = some (.string ⟨y.name.toArray⟩) := (BW.cell hlb).trans d0
          have f1 : wr.cell? ⟨b, off + k * 3 + 1, none⟩ = some (.int .u8 y.pol) := (BW.cell hlb).trans d1
          have f2 : wr.cell? ⟨b, off + k * 3 + 2, none⟩ = some (.int .u16 y.tru) := (BW.cell hlb).trans d2
          have hyl := HL2.out y hmem
          have hys : (⟨y.name.toArray⟩ : ByteArray).size ≤ maxLen := by rw [bsize]; unfold maxLen; omega
          have cLy := Lib.hid (fun W : World => zLabels_any ⟨y.name.toArray⟩ W hys)
          have cWy := Lib.hid (fun W : World => Within_any ⟨s.toArray⟩ ⟨y.name.toArray⟩ W HSZ.out hys)
          have HLE := Lib.hid (HLAW.out.1 y hmem)
          have HTK := Lib.hid (show (zs.take (k + 1)).any (fun y => eqZ y z) = ((zs.take k).any (fun y => eqZ y z) || eqZ y z) by rw [List.take_add_one, hyk]; simp [List.any_append])
          clear d0 d1 d2 hcc BW hyk hys hmem
          go_upto_region 11 with fail
          go_cut [8] (fun s8 wx => s8 = .bool ((zs.take k).any (fun y => eqZ y z) || eqZ y z) ∧ Below wr.heap.size wr wx)
          case first =>
            have k0 := cell_regrown c0
            have k1 := cell_regrown c1
            have k2 := cell_regrown c2
            have g0 := cell_regrown f0
            have g1 := cell_regrown f1
            have g2 := cell_regrown f2
            have heq := eql_zone
            cases hh : (zs.take k).any (fun y => eqZ y z) with
            | true =>
              refine wp_region_quiet_below (by kernel_rfl) (by kernel_rfl) ?_
              repeat (first | go_big_quiet_step ((fail)) | quiet_step ((fail)))
              refine wpQuiet_nil ?_
              intro _ hw'
              obtain ⟨⟨dq, osq⟩, hw''⟩ := hw'
              subst hw''
              go_wp2_with fail
              go_meet
              exact ⟨by rw [hh]; rfl, below_regrown wr dq osq⟩
            | false =>
              refine wp_region_quiet_below (by kernel_rfl) (by kernel_rfl) ?_
              repeat (first | go_big_quiet_step ((fail)) | quiet_step ((fail)))
              refine wpQuiet_nil ?_
              intro _ hw'
              obtain ⟨⟨dq, osq⟩, hw''⟩ := hw'
              subst hw''
              go_wp2_with fail
              go_meet
              exact ⟨by rw [hh]; rfl, below_regrown wr dq osq⟩
          case rest =>
            obtain ⟨rfl, hb6⟩ := hcut
            have hwsz : w4.heap.size < wr.heap.size := Nat.lt_of_lt_of_le hq HBR.out.size
            have hbsz : b < wr.heap.size := World.block_lt_of_cell? wr _ f0
            have c0' := (hb6.cell (p := ⟨w4.heap.size, 0, none⟩) hwsz).trans c0
            have c1' := (hb6.cell (p := ⟨w4.heap.size, 1, none⟩) hwsz).trans c1
            have c2' := (hb6.cell (p := ⟨w4.heap.size, 2, none⟩) hwsz).trans c2
            have f0' := (hb6.cell (p := ⟨b, off + k * 3, none⟩) hbsz).trans f0
            have B6 := Lib.hid (HBR.out.trans (hb6.mono HBR.out.size))
            clear c0 c1 c2 f0 f1 f2 hb6
            rw [← HTK.out]
            go_upto_region 12 with fail
            go_cut [64] (fun s64 wx => s64 = .bool false ∧ Below wc.heap.size wc wx)
            case first =>
              have k0 := cell_regrown c0'
              have g0 := cell_regrown f0'
              have cWy0 := Calls.inGrown (w := wc) cWy.out
              have cLy0 := Lib.hid (Calls.inGrown (w := wc) cLy.out)
              have cLz0 := Lib.hid (Calls.inGrown (w := wc) cLz.out)
              cases hw : Nm.within s y.name with
              | true =>
                have hle := HLE.out hw
                have e9 : Nm.within (⟨s.toArray⟩ : ByteArray).data.toList (⟨y.name.toArray⟩ : ByteArray).data.toList = true := hw
                rw [e9] at cWy0
                have cWy1 := Lib.hid cWy0
                clear cWy0 e9 hw
                refine wp_region_quiet_below (by kernel_rfl) (by kernel_rfl) ?_
                repeat (first | go_big_quiet_step ((first | exact cWy1.out _ _ | exact cLy0.out _ _ | exact cLz0.out _ _)) | quiet_step ((first | exact cWy1.out _ _ | exact cLy0.out _ _ | exact cLz0.out _ _)))
                refine wpQuiet_nil ?_
                intro _ hw'
                obtain ⟨⟨dq, osq⟩, hw''⟩ := hw'
                subst hw''
                go_wp2_with fail
                go_meet
                exact ⟨by rw [decide_eq_false (by omega)], below_regrown wc dq osq⟩
              | false =>
                have e9 : Nm.within (⟨s.toArray⟩ : ByteArray).data.toList (⟨y.name.toArray⟩ : ByteArray).data.toList = false := hw
                rw [e9] at cWy0
                have cWy1 := Lib.hid cWy0
                clear cWy0 e9 hw
                refine wp_region_quiet_below (by kernel_rfl) (by kernel_rfl) ?_
                repeat (first | go_big_quiet_step ((first | exact cWy1.out _ _)) | quiet_step ((first | exact cWy1.out _ _)))
                refine wpQuiet_nil ?_
                intro _ hw'
                obtain ⟨⟨dq, osq⟩, hw''⟩ := hw'
                subst hw''
                go_wp2_with fail
                go_meet
                exact ⟨rfl, below_regrown wc dq osq⟩
            case rest =>
              obtain ⟨rfl, hb7⟩ := hcut
              go_wp2_with fail
              exact ⟨⟨k + 1, by omega, by go_num, rfl, B6.out.trans (hb7.mono B6.out.size)⟩, by simp [intOf]; omega⟩
        · obtain rfl : k = zs.length := by omega
          rw [List.take_length]
          have BF := Lib.hid (B5.out.trans (HBR.out.mono B5.out.size))
          have cWz0 := Calls.inGrown (w := wr) cWz.out
          have cN := Lib.hid (Calls.inGrown (w := wr) (v := .agg #[.string ⟨#[0]⟩, .int .u8 1, .int .u16 0]) (fun W => zNone_any W))
          have heq := eql_zone
          go_upto_region 14 with fail
          have k0 := cell_regrown c0
          have k1 := cell_regrown c1
          have k2 := cell_regrown c2
          have hany : z ∈ zs → zs.any (fun y => eqZ y z) = true := fun h => List.any_eq_true.2 ⟨z, h, (eqZ_iff z z).2 rfl⟩
          have hroot : ¬ (z ∈ zs ∧ Nm.within s z.name = true) → eqZ ⟨z.name, z.pol, z.tru⟩ ⟨[0], 1, 0⟩ = true := fun h => by
            rcases HLAW.out.2 with h1 | h1
            · exact absurd h1 h
            · exact (eqZ_iff _ _).2 h1
          cases hw : Nm.within s z.name with
          | true =>
            have e9 : Nm.within (⟨s.toArray⟩ : ByteArray).data.toList (⟨z.name.toArray⟩ : ByteArray).data.toList = true := hw
            rw [e9] at cWz0
            have cW1 := Lib.hid cWz0
            cases hh : zs.any (fun y => eqZ y z) with
            | true =>
              clear hany hroot hh hw e9 cWz0
              refine wp_region_quiet_below (by kernel_rfl) (by kernel_rfl) ?_
              repeat (first | go_big_quiet_step ((first | exact cW1.out _ _ | exact cN.out _ _)) | quiet_step ((first | exact cW1.out _ _ | exact cN.out _ _)))
              refine wpQuiet_nil ?_
              intro _ hw'
              obtain ⟨⟨dq, osq⟩, hw''⟩ := hw'
              subst hw''
              go_wp2_with fail
              go_ret
              exact ⟨rfl, BF.out.trans (below_regrown wr dq osq |>.mono BF.out.size)⟩
            | false =>
              have hr := hroot (fun h => by rw [hany h.1] at hh; cases hh)
              clear hany hroot hh hw e9 cWz0
              refine wp_region_quiet_below (by kernel_rfl) (by kernel_rfl) ?_
              repeat (first | go_big_quiet_step ((first | exact cW1.out _ _ | exact cN.out _ _)) | quiet_step ((first | exact cW1.out _ _ | exact cN.out _ _)))
              refine wpQuiet_nil ?_
              intro _ hw'
              obtain ⟨⟨dq, osq⟩, hw''⟩ := hw'
              subst hw''
              go_wp2_with fail
              go_ret
              exact ⟨rfl, BF.out.trans (below_regrown wr dq osq |>.mono BF.out.size)⟩
          | false =>
            have hr := hroot (fun h => by rw [hw] at h; cases h.2)
            have e9 : Nm.within (⟨s.toArray⟩ : ByteArray).data.toList (⟨z.name.toArray⟩ : ByteArray).data.toList = false := hw
            rw [e9] at cWz0
            have cW1 := Lib.hid cWz0
            cases hh : zs.any (fun y => eqZ y z) with
            | true =>
              clear hany hroot hh hw e9 cWz0
              refine wp_region_quiet_below (by kernel_rfl) (by kernel_rfl) ?_
              repeat (first | go_big_quiet_step ((first | exact cW1.out _ _ | exact cN.out _ _)) | quiet_step ((first | exact cW1.out _ _ | exact cN.out _ _)))
              refine wpQuiet_nil ?_
              intro _ hw'
              obtain ⟨⟨dq, osq⟩, hw''⟩ := hw'
              subst hw''
              go_wp2_with fail
              go_ret
              exact ⟨rfl, BF.out.trans (below_regrown wr dq osq |>.mono BF.out.size)⟩
            | false =>
              clear hany hroot hh hw e9 cWz0
              refine wp_region_quiet_below (by kernel_rfl) (by kernel_rfl) ?_
              repeat (first | go_big_quiet_step ((first | exact cW1.out _ _ | exact cN.out _ _)) | quiet_step ((first | exact cW1.out _ _ | exact cN.out _ _)))
              refine wpQuiet_nil ?_
              intro _ hw'
              obtain ⟨⟨dq, osq⟩, hw''⟩ := hw'
              subst hw''
              go_wp2_with fail
              go_ret
              exact ⟨rfl, BF.out.trans (below_regrown wr dq osq |>.mono BF.out.size)⟩
    · obtain ⟨rfl, hb3⟩ := hp.bad rfl h0
      have hne : ((newE zs) == 0) = false := beq_eq_false_iff_ne.2 h0
      have hne2 : ((newE zs) != 0) = true := by rw [bne_iff_ne]; exact h0
      go_wp2_with fail
      go_ret
      exact ⟨rfl, B2.out.trans (hb3.mono B2.out.size)⟩
end Go.Proofs.Ytoonclcppokdeaa
