/-
  THE WALK of hustingslaw18.ZoneNames: it returns true, and nothing that was there is changed. (Printed by a small program, wip/gen_znames.py.)
-/
import Derived.Test.YtoonclcppokdeaaLZRow
import Derived.Test.YtoonclcppokdeaaLZLetters
namespace Go.Proofs.Ytoonclcppokdeaa
open Go.RowKit Go.Maps

def manyZ (k : Nat) : Zn := ⟨[1, 97 + UInt8.ofNat k, 0], 1, 0⟩
def many (k : Nat) : List Zn := (List.range k).map manyZ
theorem many_succ (k : Nat) : many (k + 1) = many k ++ [manyZ k] := by simp [many, List.range_succ]
theorem many_length (k : Nat) : (many k).length = k := by simp [many]
theorem many_fits : ∀ z ∈ many 16, z.Fits := by
  intro z hz
  obtain ⟨k, _, rfl⟩ := List.mem_map.1 hz
  exact ⟨by simp [manyZ], by simp [manyZ], by simp [manyZ]⟩
theorem many_fits17 : ∀ z ∈ many 16 ++ [⟨[], 0, 0⟩], z.Fits := by
  intro z hz
  rcases List.mem_append.1 hz with h | h
  · exact many_fits z h
  · simp at h; subst h; unfold Zn.Fits; decide
theorem many_good : newE (many 16) = 0 := by decide +kernel
theorem cat1k (c : UInt8) : (({ data := #[1] } : ByteArray) ++ { data := #[c] } ++ { data := #[0] }) = ⟨#[1, c, 0]⟩ := by
  apply ByteArray.ext
  apply Array.toList_inj.1
  simp [ByteArray.data_append]
theorem zField1 (s : ByteArray) (p q : Int) (w : World) : (Instr.field 35 (.agg #[.string s, .int .u8 p, .int .u16 q]) 1).run Try.prog w = .ok (.int .u8 p) w := by kernel_rfl
theorem zField2 (s : ByteArray) (p q : Int) (w : World) : (Instr.field 35 (.agg #[.string s, .int .u8 p, .int .u16 q]) 2).run Try.prog w = .ok (.int .u16 q) w := by kernel_rfl

theorem ownsRow_below {w w' : World} {base : Nat} {e : TypeId} {size : Nat} {v : Value} {n : Nat} {xs : List Value} (h : w.ownsRow base e size v n xs) (hb : Below w.heap.size w w') : w'.ownsRow base e size v n xs := by
  obtain ⟨h1, h2 | ⟨g, cap, cur, hv, h3, hg, h4⟩⟩ := h
  · exact ⟨h1, Or.inl h2⟩
  · exact ⟨h1, Or.inr ⟨g, cap, cur, hv, h3, (hb.block g (Array.getElem?_eq_some_iff.1 hg).1).trans hg, h4⟩⟩

def ManyRel (w0 : World) (v i : Value) (wr : World) : Prop :=
  ∃ k : Nat, k ≤ 16 ∧ i = .int .i64 k ∧ wr.ownsRow w0.heap.size 35 3 v k (zflat (many k)) ∧ Below w0.heap.size w0 wr

set_option maxRecDepth 100000 in
set_option maxHeartbeats 4000000 in
theorem zoneNames_walk (w : World) : Calls Try.prog 4 #[] w fun e w' => e = .returned (.bool true) ∧ Below w.heap.size w w' := by
  have hf0 := zField0
  have hf1 := zField1
  have hf2 := zField2
  obtain ⟨i0, hi, hi0, hi1, hi2⟩ := info_parts info_zone
  go_enter Try.func4, Try.ntmps4
  go_wp2_with fail
  refine (zAwake_any _).mono ?_
  rintro e w1 ⟨rfl, hb⟩
  have hx : Below w.heap.size w w1 := hb
  have B1 := Lib.hid (hx)
  clear hb hx
  go_wp2_with fail
  refine (New_any _ [⟨[0], 3, 5⟩, ⟨[2, 101, 120, 0], 4, 0⟩] _ (by simp) (fits2 _ _ (by unfold Zn.Fits; decide) (by unfold Zn.Fits; decide)) (ZRow.new2 _ _ _ _)).mono ?_
  intro e w2 hp
  obtain ⟨btA, rfl, _, hT, hb⟩ := hp.good (by decide +kernel)
  have hx : Below w1.heap.size w1 w2 := ((Below.refl _ _).alloc (Nat.le_refl _) _).trans (hb.mono (by simp))
  have B2 := Lib.hid ((B1.out.trans (hx.mono B1.out.size)))
  have HTA := Lib.hid hT
  clear hT hp
  clear hb hx B1
  go_wp2_with fail
  refine (Find_any _ [⟨[0], 3, 5⟩, ⟨[2, 101, 120, 0], 4, 0⟩] btA _ (by decide +kernel) HTA.out (by simp)).mono ?_
  rintro e w3 ⟨rfl, hb⟩
  rw [show findZ [⟨[0], 3, 5⟩, ⟨[2, 101, 120, 0], 4, 0⟩] ({ data := #[0] } : ByteArray).data.toList = ⟨[0], 3, 5⟩ from by kernel_rfl]
  have hx : Below w2.heap.size w2 w3 := hb
  have B3 := Lib.hid ((B2.out.trans (hx.mono B2.out.size)))
  have HTAn3 := Lib.hid (HTA.out.below hx (Nat.le_refl _))
  clear HTA
  clear hb hx B2
  unfold Zn.val strV
  go_wp2_with fail
  refine (Find_any _ [⟨[0], 3, 5⟩, ⟨[2, 101, 120, 0], 4, 0⟩] btA _ (by decide +kernel) HTAn3.out (by simp)).mono ?_
  rintro e w4 ⟨rfl, hb⟩
  rw [show findZ [⟨[0], 3, 5⟩, ⟨[2, 101, 120, 0], 4, 0⟩] ({ data := #[3, 99, 111, 109, 0] } : ByteArray).data.toList = ⟨[0], 3, 5⟩ from by kernel_rfl]
  have hx : Below w3.heap.size w3 w4 := hb
  have B4 := Lib.hid ((B3.out.trans (hx.mono B3.out.size)))
  have HTAn3n4 := Lib.hid (HTAn3.out.below hx (Nat.le_refl _))
  clear HTAn3
  clear hb hx B3
  unfold Zn.val strV
  go_wp2_with fail
  refine (Find_any _ [⟨[0], 3, 5⟩, ⟨[2, 101, 120, 0], 4, 0⟩] btA _ (by decide +kernel) HTAn3n4.out (by simp)).mono ?_
  rintro e w5 ⟨rfl, hb⟩
  rw [show findZ [⟨[0], 3, 5⟩, ⟨[2, 101, 120, 0], 4, 0⟩] ({ data := #[1, 97, 2, 101, 120, 0] } : ByteArray).data.toList = ⟨[2, 101, 120, 0], 4, 0⟩ from by kernel_rfl]
  have hx : Below w4.heap.size w4 w5 := hb
  have B5 := Lib.hid ((B4.out.trans (hx.mono B4.out.size)))
  have HTAn3n4n5 := Lib.hid (HTAn3n4.out.below hx (Nat.le_refl _))
  clear HTAn3n4
  clear hb hx B4
  unfold Zn.val strV
  go_wp2_with fail
  refine (Find_any _ [⟨[0], 3, 5⟩, ⟨[2, 101, 120, 0], 4, 0⟩] btA _ (by decide +kernel) HTAn3n4n5.out (by simp)).mono ?_
  rintro e w6 ⟨rfl, hb⟩
  rw [show findZ [⟨[0], 3, 5⟩, ⟨[2, 101, 120, 0], 4, 0⟩] ({ data := #[] } : ByteArray).data.toList = ⟨[0], 1, 0⟩ from by kernel_rfl]
  have hx : Below w5.heap.size w5 w6 := hb
  have B6 := Lib.hid ((B5.out.trans (hx.mono B5.out.size)))
  have HTAn3n4n5n6 := Lib.hid (HTAn3n4n5.out.below hx (Nat.le_refl _))
  clear HTAn3n4n5
  clear hb hx B5
  unfold Zn.val strV
  go_wp2_with fail
  refine (zNone_any _).mono ?_
  rintro e w7 ⟨rfl, hb⟩
  have hx : Below w6.heap.size w6 w7 := hb
  have B7 := Lib.hid ((B6.out.trans (hx.mono B6.out.size)))
  have HTAn3n4n5n6n7 := Lib.hid (HTAn3n4n5n6.out.below hx (Nat.le_refl _))
  clear HTAn3n4n5n6
  clear hb hx B6
  unfold Zn.val strV rootZ
  go_wp2_with fail
  refine (Find_any _ [⟨[0], 3, 5⟩, ⟨[2, 101, 120, 0], 4, 0⟩] btA _ (by decide +kernel) HTAn3n4n5n6n7.out (by simp)).mono ?_
  rintro e w8 ⟨rfl, hb⟩
  rw [show findZ [⟨[0], 3, 5⟩, ⟨[2, 101, 120, 0], 4, 0⟩] ({ data := #[101, 120] } : ByteArray).data.toList = ⟨[0], 1, 0⟩ from by kernel_rfl]
  have hx : Below w7.heap.size w7 w8 := hb
  have B8 := Lib.hid ((B7.out.trans (hx.mono B7.out.size)))
  have HTAn3n4n5n6n7n8 := Lib.hid (HTAn3n4n5n6n7.out.below hx (Nat.le_refl _))
  clear HTAn3n4n5n6n7
  clear hb hx B7
  unfold Zn.val strV
  go_wp2_with fail
  refine (zNone_any _).mono ?_
  rintro e w9 ⟨rfl, hb⟩
  have hx : Below w8.heap.size w8 w9 := hb
  have B9 := Lib.hid ((B8.out.trans (hx.mono B8.out.size)))
  have HTAn3n4n5n6n7n8n9 := Lib.hid (HTAn3n4n5n6n7n8.out.below hx (Nat.le_refl _))
  clear HTAn3n4n5n6n7n8
  clear hb hx B8
  unfold Zn.val strV rootZ
  go_wp2_with fail
  clear HTAn3n4n5n6n7n8n9
  go_loopw [3, 4] (fun v i wr => ManyRel w9 v i wr) (fun _ i _ => 16 - (intOf i).toNat)
  case atStart => exact ⟨0, by omega, rfl, World.ownsRow_nil _ _ _ _, Below.refl _ _⟩
  case round =>
    obtain ⟨k, hk, rfl, hown, hbr⟩ := hrel
    by_cases hlt : k < 16
    · have hone : ∀ W : World, (convert 40 9 (.slice (some ⟨W.heap.size, 0, none⟩) 1 1)).run Try.prog (W.alloc (.cells #[.int .u8 (97 + (k : Int))] 5)) = .ok (.string ⟨[97 + UInt8.ofNat k].toArray⟩) (W.alloc (.cells #[.int .u8 (97 + (k : Int))] 5)) := fun W =>
        run_back _ 40 9 5 W.heap.size 1 1 [97 + UInt8.ofNat k] rfl Try.underlying40 Try.underlying5 Try.underlying9 (fun j hj => by
          rw [World.cell?_alloc_mark]
          match j, hj with
          | 0, _ =>
            show some (Value.int .u8 (97 + (k : Int))) = some (.int .u8 ((97 + UInt8.ofNat k).toNat : Int))
            have : (97 + UInt8.ofNat k).toNat = 97 + k := by rw [UInt8.toNat_add]; simp; omega
            rw [this]
            simp)
      have hwsz := hbr.size
      have HO := Lib.hid hown
      have HBR := Lib.hid hbr
      clear hown hbr
      go_wp2_with (at_builtin; refine wpList_append_lies _ rfl _ _ 22 rfl w9.heap.size 35 i0 zeroZ 3 24 Try.underlying22 hi hi0 hi1 hi2 rfl (by decide) _ k _ rfl ((HO.out.alloc _).alloc _) ⟨wr.heap.size + 1, 0, none⟩ 1 1 (zcells (manyZ k)) rfl rfl ?c1 ?c2 (by decide) ?c3 ?c4 ?c5 _ rfl ?_)
      case c1 =>
        intro j u hj
        rw [add_mk, Nat.zero_add]
        have e : wr.heap.size + 1 = (wr.alloc (.cells #[.int .u8 (97 + (k : Int))] 5)).heap.size := by simp
        rw [e, World.cell?_alloc_mark]
        rw [← hj]
        unfold zcells manyZ
        rw [cat1k]
        match j with
        | 0 => rfl
        | 1 => rfl
        | 2 => rfl
        | j + 3 => rfl
      case c2 => simp [zcells, Value.oneCell']
      case c3 => unfold maxLen; omega
      case c4 => omega
      case c5 => simp; omega
      intro g cap wL hown9 hgrow9 hat9 hlt9
      have hB9 : Below w9.heap.size w9 wL := ((HBR.out.alloc hwsz _).alloc (by simp; omega) _).grown hgrow9 (by simp; omega) (fun q hq => (HO.out.lt q hq).1)
      have HB9 := Lib.hid hB9
      have HO9 := Lib.hid (show wL.ownsRow w9.heap.size 35 3 (.slice (some ⟨g, 0, none⟩) (k + 1) cap) (k + 1) (zflat (many (k + 1))) by rw [many_succ, zflat_append]; simpa [zflat] using hown9)
      clear hB9 hown9 hgrow9 hat9 hone
      go_wp2_with fail
      exact ⟨⟨k + 1, by omega, by go_num, HO9.out, HB9.out⟩, by simp [intOf]; omega⟩
    · obtain rfl : k = 16 := by omega
      have B10 := Lib.hid (B9.out.trans (hbr.mono B9.out.size))
      have RM := Lib.hid (ZRow.own (zs := many 16) (by rw [many_length]; exact hown))
      have HOW := Lib.hid hown
      have hwsz := hbr.size
      clear hown hbr
      go_wp2_with fail
      refine (New_any _ (many 16) _ (by rw [many_length]; omega) many_fits RM.out).mono ?_
      intro e w11 hp
      obtain ⟨btM, rfl, _, hT, hb⟩ := hp.good many_good
      have hx : Below wr.heap.size wr w11 := hb
      have B11 := Lib.hid ((B10.out.trans (hx.mono B10.out.size)))
      have hM0 := Lib.hid hx
      clear hT hp
      clear hb hx B10
      have HOW2 := Lib.hid (ownsRow_below HOW.out hM0.out)
      have hsM := B11.out.size
      have hbM : w9.heap.size ≤ w11.heap.size := by have := hM0.out.size; omega
      go_wp2_with (at_builtin; refine wpList_append_lies _ rfl _ _ 22 rfl w9.heap.size 35 i0 zeroZ 3 24 Try.underlying22 hi hi0 hi1 hi2 rfl (by decide) _ 16 _ rfl (HOW2.out.alloc _) ⟨w11.heap.size, 0, none⟩ 1 1 (zcells ⟨[], 0, 0⟩) rfl rfl (World.news_of_block (heap_alloc_new w11 _)) ?c2 (by decide) ?c3 ?c4 ?c5 _ rfl ?_)
      case c2 => simp [zcells, Value.oneCell']
      case c3 => unfold maxLen; omega
      case c4 => omega
      case c5 => simp; omega
      intro g cap wA hownA hgrowA hatA hltA
      have R17 := Lib.hid (ZRow.own (zs := many 16 ++ [⟨[], 0, 0⟩]) (by rw [show (many 16 ++ [(⟨[], 0, 0⟩ : Zn)]).length = 17 from rfl, zflat_append]; simpa [zflat] using hownA))
      have BA := Lib.hid (show Below w.heap.size w wA from (B11.out.alloc hsM _).grown hgrowA (by simp; omega) (fun q hq => Nat.le_trans B9.out.size (HOW.out.lt q hq).1))
      clear hownA hgrowA hatA
      go_wp2_with fail
      refine (New_any _ (many 16 ++ [⟨[], 0, 0⟩]) _ (by decide) many_fits17 R17.out).mono ?_
      intro e w12 hp
      obtain ⟨rfl, hb⟩ := hp.bad (c := 5) (by decide +kernel) (by decide)
      have hx : Below wA.heap.size wA w12 := hb
      have B12 := Lib.hid ((BA.out.trans (hx.mono BA.out.size)))
      clear hp
      clear hb hx BA
      go_wp2_with fail
      refine (New_any _ [⟨[2, 101, 120, 0], 0, 0⟩] _ (by simp) (fits1 _ (by unfold Zn.Fits; decide)) (ZRow.new1 _ _ _)).mono ?_
      intro e w13 hp
      obtain ⟨rfl, hb⟩ := hp.bad (c := 3) (by decide +kernel) (by decide)
      have hx : Below w12.heap.size w12 w13 := ((Below.refl _ _).alloc (Nat.le_refl _) _).trans (hb.mono (by simp))
      have B13 := Lib.hid ((B12.out.trans (hx.mono B12.out.size)))
      clear hp
      clear hb hx B12
      go_wp2_with fail
      refine (New_any _ [⟨[2, 101, 120, 0], 5, 0⟩] _ (by simp) (fits1 _ (by unfold Zn.Fits; decide)) (ZRow.new1 _ _ _)).mono ?_
      intro e w14 hp
      obtain ⟨rfl, hb⟩ := hp.bad (c := 3) (by decide +kernel) (by decide)
      have hx : Below w13.heap.size w13 w14 := ((Below.refl _ _).alloc (Nat.le_refl _) _).trans (hb.mono (by simp))
      have B14 := Lib.hid ((B13.out.trans (hx.mono B13.out.size)))
      clear hp
      clear hb hx B13
      go_wp2_with fail
      refine (New_any _ [⟨[101, 120], 1, 0⟩] _ (by simp) (fits1 _ (by unfold Zn.Fits; decide)) (ZRow.new1 _ _ _)).mono ?_
      intro e w15 hp
      obtain ⟨rfl, hb⟩ := hp.bad (c := 3) (by decide +kernel) (by decide)
      have hx : Below w14.heap.size w14 w15 := ((Below.refl _ _).alloc (Nat.le_refl _) _).trans (hb.mono (by simp))
      have B15 := Lib.hid ((B14.out.trans (hx.mono B14.out.size)))
      clear hp
      clear hb hx B14
      go_wp2_with fail
      refine (New_any _ [⟨[2, 101, 120, 0], 1, 0⟩, ⟨[2, 101, 120, 0], 9, 0⟩] _ (by simp) (fits2 _ _ (by unfold Zn.Fits; decide) (by unfold Zn.Fits; decide)) (ZRow.new2 _ _ _ _)).mono ?_
      intro e w16 hp
      obtain ⟨rfl, hb⟩ := hp.bad (c := 3) (by decide +kernel) (by decide)
      have hx : Below w15.heap.size w15 w16 := ((Below.refl _ _).alloc (Nat.le_refl _) _).trans (hb.mono (by simp))
      have B16 := Lib.hid ((B15.out.trans (hx.mono B15.out.size)))
      clear hp
      clear hb hx B15
      go_wp2_with fail
      refine (New_any _ [] _ (by simp) (by simp) ⟨none, 0, rfl, Or.inl rfl⟩).mono ?_
      intro e w17 hp
      obtain ⟨btN, rfl, _, hT, hb⟩ := hp.good (by decide +kernel)
      have hx : Below w16.heap.size w16 w17 := hb
      have B17 := Lib.hid ((B16.out.trans (hx.mono B16.out.size)))
      have HTN := Lib.hid hT
      clear hT hp
      clear hb hx B16
      go_wp2_with fail
      refine (Find_any _ [] btN _ (by decide +kernel) HTN.out (by simp)).mono ?_
      rintro e w18 ⟨rfl, hb⟩
      rw [show findZ [] ({ data := #[2, 101, 120, 0] } : ByteArray).data.toList = ⟨[0], 1, 0⟩ from by kernel_rfl]
      have hx : Below w17.heap.size w17 w18 := hb
      have B18 := Lib.hid ((B17.out.trans (hx.mono B17.out.size)))
      have HTNn18 := Lib.hid (HTN.out.below hx (Nat.le_refl _))
      clear HTN
      clear hb hx B17
      unfold Zn.val strV
      go_wp2_with fail
      refine (zNone_any _).mono ?_
      rintro e w19 ⟨rfl, hb⟩
      have hx : Below w18.heap.size w18 w19 := hb
      have B19 := Lib.hid ((B18.out.trans (hx.mono B18.out.size)))
      have HTNn18n19 := Lib.hid (HTNn18.out.below hx (Nat.le_refl _))
      clear HTNn18
      clear hb hx B18
      unfold Zn.val strV rootZ
      go_wp2_with fail
      refine (Len_any [] btN _ HTNn18n19.out).mono ?_
      rintro e w' ⟨rfl, rfl⟩
      rw [show ([] : List Zn).length = 0 from rfl]
      go_wp2_with fail
      refine (Find_nil _ _).mono ?_
      rintro e w20 ⟨rfl, hb⟩
      have hx : Below w19.heap.size w19 w20 := hb
      have B20 := Lib.hid ((B19.out.trans (hx.mono B19.out.size)))
      clear hb hx B19
      unfold Zn.val strV rootZ
      go_wp2_with fail
      refine (zNone_any _).mono ?_
      rintro e w21 ⟨rfl, hb⟩
      have hx : Below w20.heap.size w20 w21 := hb
      have B21 := Lib.hid ((B20.out.trans (hx.mono B20.out.size)))
      clear hb hx B20
      unfold Zn.val strV rootZ
      go_wp2_with fail
      refine (Len_nil _).mono ?_
      rintro e w' ⟨rfl, rfl⟩
      go_wp2_with fail
      refine (Find_bare _ w21.heap.size _ (by rw [World.cell?_alloc_mark]; rfl)).mono ?_
      rintro e w22 ⟨rfl, hb⟩
      have hx : Below w21.heap.size w21 w22 := ((Below.refl _ _).alloc (Nat.le_refl _) _).trans (hb.mono (by simp))
      have B22 := Lib.hid ((B21.out.trans (hx.mono B21.out.size)))
      clear hb hx B21
      unfold Zn.val strV rootZ
      go_wp2_with fail
      refine (zNone_any _).mono ?_
      rintro e w23 ⟨rfl, hb⟩
      have hx : Below w22.heap.size w22 w23 := hb
      have B23 := Lib.hid ((B22.out.trans (hx.mono B22.out.size)))
      clear hb hx B22
      unfold Zn.val strV rootZ
      go_wp2_with fail
      go_ret
      exact ⟨rfl, B23.out⟩
end Go.Proofs.Ytoonclcppokdeaa
