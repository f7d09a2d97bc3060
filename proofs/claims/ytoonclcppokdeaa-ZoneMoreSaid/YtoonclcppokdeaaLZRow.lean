/-
  THE WALK of hustingslaw18.ZoneRow: for every input it returns true, and nothing that was there is changed.
-/
import Derived.Test.YtoonclcppokdeaaZl2
import Derived.Test.YtoonclcppokdeaaLZInner
import Derived.Deep.AppendLies
namespace Go.Proofs.Ytoonclcppokdeaa
open Go.RowKit Go.Maps

theorem info_zone : (Try.prog.info? 35).map (fun i => (i.zero, i.size, i.bytes)) = some (some zeroZ, 3, 24) := by kernel_rfl

theorem u64_nonneg (n : Int) : 0 ≤ IntKind.u64.wrap n := by
  unfold IntKind.wrap
  simp [IntKind.signed, IntKind.bits]
  omega

def RowRel (zs : List Zn) (r : Nat) (w : World) (v7 v8 i : Value) (wr : World) : Prop :=
  ∃ k : Nat, k ≤ zs.length ∧ i = .int .i64 k ∧ wr.ownsRow w.heap.size 35 3 v7 k (zflat ((rot zs r).take k)) ∧ wr.ownsRow w.heap.size 35 3 v8 k (zflat (zs.reverse.take k)) ∧
    (v7.ownBlock = none ∨ v7.ownBlock ≠ v8.ownBlock) ∧ Below w.heap.size w wr

set_option maxRecDepth 100000 in
set_option maxHeartbeats 2000000 in
theorem zoneRow_walk (v : Value) (zs : List Zn) (by_ : Int) (s : Nm.Bytes) (w : World) (hv : ZRow w v zs) (hz1 : zs.length ≤ maxLen) (hz2 : ∀ z ∈ zs, z.FitsW) (_hby : (Lit.int .i64 by_).wf = true) (hs : s.length ≤ maxLen) :
    Calls Try.prog 5 #[v, .int .i64 by_, .string ⟨s.toArray⟩] w fun e w' => e = .returned (.bool true) ∧ Below w.heap.size w w' := by
  have hsz : (⟨s.toArray⟩ : ByteArray).size ≤ maxLen := by rw [bsize]; exact hs
  obtain ⟨a, cap, rfl, hrow⟩ := id hv
  have HROW := Lib.hid hrow
  have HSZ := Lib.hid hsz
  have HV := Lib.hid hv
  have HZ2 := Lib.hid hz2
  have HZ1 := Lib.hid hz1
  have HS := Lib.hid hs
  obtain ⟨i0, hi, hi0, hi1, hi2⟩ := info_parts info_zone
  clear hsz hv hz2 hz1 hs hrow
  go_enter Try.func5, Try.ntmps5
  go_wp2_with fail
  refine (long_any _ _ zs [s] _ (HV.out.below ((Below.refl _ _).alloc (Nat.le_refl _) _) (Nat.le_refl _)) (SRow.new1 _ _ _) HZ1.out (by simp [maxLen]) (fun z hz => (HZ2.out z hz).2.2) (by simpa using HS.out)).mono ?_
  rintro e w1 ⟨rfl, r, rfl, hr⟩
  have B1 := Lib.hid ((Below.refl w.heap.size w).alloc (Nat.le_refl _) (.cells #[.string ⟨s.toArray⟩] 9))
  cases r with
  | true =>
    go_wp2_with fail
    refine (zAwake_any _).mono ?_
    rintro e w2 ⟨rfl, hb⟩
    go_wp2_with fail
    go_ret
    exact ⟨rfl, B1.out.trans (hb.mono (by simp))⟩
  | false =>
    obtain ⟨hl1, _, hl2, hl3⟩ := hr rfl
    have hfits : ∀ z ∈ zs, z.Fits := fun z hz => (HZ2.out z hz).fits (hl2 z hz)
    have HF := Lib.hid hfits
    clear hl2 hl3 hfits hr HS
    go_wp2_with fail
    refine (zAwake_any _).mono ?_
    rintro e w2 ⟨rfl, hb⟩
    have B2 := Lib.hid (B1.out.trans (hb.mono (by simp)))
    clear hb B1
    go_wp2_with fail
    go_loopw [7, 8, 9] (fun v7 v8 i wr => RowRel zs ((IntKind.u64.wrap by_).toNat % zs.length) w v7 v8 i wr) (fun _ _ i _ => zs.length - (intOf i).toNat)
    case atStart => exact ⟨0, by omega, rfl, World.ownsRow_nil _ _ _ _, World.ownsRow_nil _ _ _ _, Or.inl rfl, B2.out⟩
    case round =>
      obtain ⟨k, hk, rfl, ho7, ho8, hap, hbr⟩ := hrel
      by_cases hlt : k < zs.length
      · obtain hz0 | ⟨b, off, ha, hlb, hcc⟩ := HROW.out
        · subst hz0; simp at hlt
        subst ha
        have hU : IntKind.u64.wrap by_ = (((IntKind.u64.wrap by_).toNat : Nat) : Int) := (Int.toNat_of_nonneg (u64_nonneg by_)).symm
        obtain ⟨U, hUd⟩ : ∃ U : Nat, (IntKind.u64.wrap by_).toNat = U := ⟨_, rfl⟩
        rw [hUd] at hU ho7
        have hrl : U % zs.length < zs.length := Nat.mod_lt _ (by omega)
        have hat : (rot zs (U % zs.length))[k]? = zs[(k + U % zs.length) % zs.length]? := rot_at zs _ k hrl hlt
        have hql : (k + U % zs.length) % zs.length < zs.length := Nat.mod_lt _ (by omega)
        have hR : ((U : Nat) : Int) % (zs.length : Int) = ((U % zs.length : Nat) : Int) := by simp
        obtain ⟨r, hrd⟩ : ∃ r : Nat, U % zs.length = r := ⟨_, rfl⟩
        rw [hrd] at hrl hat hql hR ho7
        have hQ : ((k : Int) + (r : Int)) % (zs.length : Int) = (((k + r) % zs.length : Nat) : Int) := by simp
        obtain ⟨q, hqd⟩ : ∃ q : Nat, (k + r) % zs.length = q := ⟨_, rfl⟩
        rw [hqd] at hat hql hQ
        have HUD := Lib.hid hUd
        have HRD := Lib.hid hrd
        clear hrd hUd hqd
        obtain ⟨y, hy⟩ : ∃ y, zs[q]? = some y := ⟨_, List.getElem?_eq_getElem hql⟩
        have hk2 : zs.length - 1 - k < zs.length := by omega
        obtain ⟨x, hx⟩ : ∃ x, zs[zs.length - 1 - k]? = some x := ⟨_, List.getElem?_eq_getElem hk2⟩
        have HT7 := Lib.hid (show (rot zs r).take (k + 1) = (rot zs r).take k ++ [y] by rw [List.take_add_one, hat, hy]; rfl)
        have HT8 := Lib.hid (show zs.reverse.take (k + 1) = zs.reverse.take k ++ [x] by rw [List.take_add_one, List.getElem?_reverse hlt, hx]; rfl)
        obtain ⟨d0, d1, d2⟩ := hcc q y hy
        obtain ⟨c0, c1, c2⟩ := hcc _ x hx
        have f0 : wr.cell? ⟨b, off + q * 3, none⟩ = some (.string ⟨y.name.toArray⟩) := (hbr.cell hlb).trans d0
        have f1 : wr.cell? ⟨b, off + q * 3 + 1, none⟩ = some (.int .u8 y.pol) := (hbr.cell hlb).trans d1
        have f2 : wr.cell? ⟨b, off + q * 3 + 2, none⟩ = some (.int .u16 y.tru) := (hbr.cell hlb).trans d2
        have hwsz := hbr.size
        have HO7 := Lib.hid ho7
        have HO8 := Lib.hid ho8
        have HAP := Lib.hid hap
        have HBR := Lib.hid hbr
        have HC := Lib.hid (And.intro c0 (And.intro c1 c2))
        clear hcc d0 d1 d2 hat hy hx ho7 ho8 hap hbr c0 c1 c2
        go_wp2_with (at_builtin; refine wpList_append_lies _ rfl _ _ 22 rfl w.heap.size 35 i0 zeroZ 3 24 Try.underlying22 hi hi0 hi1 hi2 rfl (by decide) _ k _ rfl (HO7.out.alloc _) ⟨wr.heap.size, 0, none⟩ 1 1 (zcells y) rfl rfl (World.news_of_block (heap_alloc_new wr _)) ?c2 (by decide) ?c3 ?c4 ?c5 _ rfl ?_)
        case c2 => simp [zcells, Value.oneCell']
        case c3 => unfold maxLen; omega
        case c4 => omega
        case c5 => simp; omega
        intro g7 cap7 w7 hown7 hgrow7 hat7 hlt7
        have hB7 : Below w.heap.size w w7 := (HBR.out.alloc hwsz _).grown hgrow7 (by simp; omega) (fun q hq => (HO7.out.lt q hq).1)
        have hs7 : wr.heap.size + 1 ≤ w7.heap.size := by have := hgrow7.size; simpa using this
        have g0 : w7.cell? ⟨b, off + (zs.length - 1 - k) * 3, none⟩ = some (.string ⟨x.name.toArray⟩) := (hB7.cell hlb).trans HC.out.1
        have g1 : w7.cell? ⟨b, off + (zs.length - 1 - k) * 3 + 1, none⟩ = some (.int .u8 x.pol) := (hB7.cell hlb).trans HC.out.2.1
        have g2 : w7.cell? ⟨b, off + (zs.length - 1 - k) * 3 + 2, none⟩ = some (.int .u16 x.tru) := (hB7.cell hlb).trans HC.out.2.2
        have hblt : b < w7.heap.size := World.block_lt_of_cell? w7 _ g0
        have ho8' : w7.ownsRow w.heap.size 35 3 u8 k (zflat (zs.reverse.take k)) := (HO8.out.alloc _).kept hgrow7 (by
          rcases HAP.out with h | h
          · rw [h]; cases u8.ownBlock <;> simp
          · exact Or.inr (Ne.symm h))
        have HO8' := Lib.hid ho8'
        have HB7 := Lib.hid hB7
        have HAT7 := Lib.hid hat7
        have HOWN7 := Lib.hid hown7
        clear hB7 ho8' hgrow7 hat7 hown7 f0 f1 f2 hU hR hQ
        go_wp2_with (at_builtin; refine wpList_append_lies _ rfl _ _ 22 rfl w.heap.size 35 i0 zeroZ 3 24 Try.underlying22 hi hi0 hi1 hi2 rfl (by decide) _ k _ rfl (HO8'.out.alloc _) ⟨w7.heap.size, 0, none⟩ 1 1 (zcells x) rfl rfl (World.news_of_block (heap_alloc_new w7 _)) ?c2 (by decide) ?c3 ?c4 ?c5 _ rfl ?_)
        case c2 => simp [zcells, Value.oneCell']
        case c3 => unfold maxLen; omega
        case c4 => omega
        case c5 => simp; omega
        intro g8 cap8 w8 hown8 hgrow8 hat8 hlt8
        have hB8 : Below w.heap.size w w8 := (HB7.out.alloc (by omega) _).grown hgrow8 (by simp; omega) (fun q hq => (HO8.out.lt q hq).1)
        have hne : g7 ≠ g8 := by
          intro e
          subst e
          rcases HAT7.out with h7 | h7 <;> rcases hat8 with h8 | h8
          · rcases HAP.out with h | h
            · rw [h7] at h; cases h
            · exact h (h7.trans h8.symm)
          · have := (HO7.out.lt g7 h7).2
            omega
          · have := (HO8.out.lt g7 h8).2
            omega
          · omega
        have ho7' : w8.ownsRow w.heap.size 35 3 (.slice (some ⟨g7, 0, none⟩) (k + 1) cap7) (k + 1) (zflat ((rot zs r).take k) ++ zcells y) := (HOWN7.out.alloc _).kept hgrow8 (by
          right
          show some g7 ≠ u8.ownBlock
          intro e
          rcases HAT7.out with h7 | h7
          · rcases HAP.out with h | h
            · rw [h7] at h; cases h
            · exact h (h7.trans e)
          · have := (HO8.out.lt g7 e.symm).2
            omega)
        have e7 : zflat ((rot zs r).take (k + 1)) = zflat ((rot zs r).take k) ++ zcells y := by rw [HT7.out, zflat_append]; simp [zflat]
        have e8 : zflat (zs.reverse.take (k + 1)) = zflat (zs.reverse.take k) ++ zcells x := by rw [HT8.out, zflat_append]; simp [zflat]
        have hfin : RowRel zs ((IntKind.u64.wrap by_).toNat % zs.length) w (.slice (some ⟨g7, 0, none⟩) (k + 1) cap7) (.slice (some ⟨g8, 0, none⟩) (k + 1) cap8) (.int .i64 ((k : Int) + 1)) w8 := by
          refine ⟨k + 1, by omega, by go_num, ?_, ?_, Or.inr ?_, hB8⟩
          · rw [HUD.out, HRD.out, e7]; exact ho7'
          · rw [e8]; exact hown8
          · show some g7 ≠ some g8
            simpa using hne
        have HFIN := Lib.hid hfin
        clear hfin ho7' hown8 hgrow8 hat8 e7 e8 hB8 g0 g1 g2
        go_wp2_with fail
        exact ⟨HFIN.out, by simp [intOf]; omega⟩
      · obtain rfl : k = zs.length := by omega
        have HP7 := Lib.hid (show (rot zs ((IntKind.u64.wrap by_).toNat % zs.length)).Perm zs from rot_perm _ _)
        obtain ⟨tl, htl⟩ : ∃ tl, tl = rot zs ((IntKind.u64.wrap by_).toNat % zs.length) := ⟨_, rfl⟩
        have hl7 : tl.length = zs.length := by rw [htl]; exact rot_length _ _
        rw [← htl] at HP7
        rw [← htl, List.take_of_length_le (by omega)] at ho7
        rw [List.take_of_length_le (by simp)] at ho8
        rw [← hl7] at ho7
        have R7 := Lib.hid (ZRow.own ho7)
        have hl8 : zs.reverse.length = zs.length := by simp
        have R8 := Lib.hid (ZRow.own (zs := zs.reverse) (by rw [hl8]; exact ho8))
        have HP8 := Lib.hid (List.reverse_perm zs)
        have BR := Lib.hid hbr
        clear htl ho7 ho8 hap hbr hl8
        go_wp2_with fail
        refine (New_any _ zs _ (by omega) HF.out (HV.out.below BR.out (Nat.le_refl _))).mono ?_
        intro e w3 hp
        have B3 := Lib.hid (BR.out.trans (hp.1.mono BR.out.size))
        by_cases h0 : newE zs = 0
        · obtain ⟨bt, rfl, _, hT, hb3⟩ := hp.good h0
          have HT := Lib.hid hT
          have HG := Lib.hid ((good_iff zs).1 h0)
          have R7' := Lib.hid (R7.out.below hb3 (Nat.le_refl _))
          have R8' := Lib.hid (R8.out.below hb3 (Nat.le_refl _))
          have h70 := Lib.hid ((newE_perm HP7.out).2 h0)
          have h80 := Lib.hid ((newE_perm HP8.out).2 h0)
          clear hp h0 hb3 hT
          go_wp2_with fail
          refine (New_any _ tl _ (by omega) (fun z hz => HF.out z (HP7.out.mem_iff.1 hz)) R7'.out).mono ?_
          intro e w4 hp
          obtain ⟨bt4, rfl, _, hT4, hb4⟩ := hp.good h70.out
          have HT4 := Lib.hid hT4
          have HT3 := Lib.hid (HT.out.below hb4 (Nat.le_refl _))
          have R8'' := Lib.hid (R8'.out.below hb4 (Nat.le_refl _))
          have B4 := Lib.hid (B3.out.trans (hb4.mono B3.out.size))
          clear hp hb4 hT4
          go_wp2_with fail
          refine (New_any _ zs.reverse _ (by simp; omega) (fun z hz => HF.out z (HP8.out.mem_iff.1 hz)) R8''.out).mono ?_
          intro e w5 hp
          obtain ⟨bt5, rfl, _, hT5, hb5⟩ := hp.good h80.out
          have B5 := Lib.hid (B4.out.trans (hb5.mono B4.out.size))
          have HTa := Lib.hid (HT3.out.below hb5 (Nat.le_refl _))
          have HTb := Lib.hid (HT4.out.below hb5 (Nat.le_refl _))
          have HTc := Lib.hid hT5
          clear hp hb5 hT5 HT HT3 HT4 R7 R8 R7' R8' R8''
          have hf16 := HG.out.few
          have heq := eql_zone
          have E1 := Lib.hid (findZ_perm HG.out HP7.out.symm s)
          have E2 := Lib.hid (findZ_perm HG.out HP8.out.symm s)
          obtain ⟨z, hzd⟩ : ∃ z, z = findZ zs s := ⟨_, rfl⟩
          rw [← hzd] at E1 E2
          have HZD := Lib.hid hzd
          have hee : eqZ ⟨z.name, z.pol, z.tru⟩ ⟨z.name, z.pol, z.tru⟩ = true := (eqZ_iff _ _).2 rfl
          clear hzd
          have F1 := Lib.hid (fun (W : World) (h : TableIs W bt zs) => (Find_any ⟨s.toArray⟩ zs bt W HSZ.out h (by omega)).mono (R' := fun e w' => e = .returned (.agg #[.string ⟨z.name.toArray⟩, .int .u8 z.pol, .int .u16 z.tru]) ∧ Below W.heap.size W w') (by rw [HZD.out]; exact fun e w' h => h))
          have F2 := Lib.hid (fun (W : World) (h : TableIs W bt4 tl) => (Find_any ⟨s.toArray⟩ tl bt4 W HSZ.out h (by omega)).mono (R' := fun e w' => e = .returned (.agg #[.string ⟨z.name.toArray⟩, .int .u8 z.pol, .int .u16 z.tru]) ∧ Below W.heap.size W w') (by rw [E1.out]; exact fun e w' h => h))
          have F3 := Lib.hid (fun (W : World) (h : TableIs W bt5 zs.reverse) => (Find_any ⟨s.toArray⟩ zs.reverse bt5 W HSZ.out h (by simp; omega)).mono (R' := fun e w' => e = .returned (.agg #[.string ⟨z.name.toArray⟩, .int .u8 z.pol, .int .u16 z.tru]) ∧ Below W.heap.size W w') (by rw [E2.out]; exact fun e w' h => h))
          go_wp2_with fail
          refine (F1.out _ HTa.out).mono ?_
          rintro e w6 ⟨rfl, hb6⟩
          go_wp2_with fail
          refine (F2.out _ (HTb.out.below hb6 (Nat.le_refl _))).mono ?_
          rintro e w7 ⟨rfl, hb7⟩
          have B67 := Lib.hid (hb6.trans (hb7.mono hb6.size))
          clear hb6 hb7
          go_wp2_with fail
          refine (F1.out _ (HTa.out.below B67.out (Nat.le_refl _))).mono ?_
          rintro e w8 ⟨rfl, hb8⟩
          have B68 := Lib.hid (B67.out.trans (hb8.mono B67.out.size))
          clear hb8
          go_wp2_with fail
          refine (F3.out _ (HTc.out.below B68.out (Nat.le_refl _))).mono ?_
          rintro e w9 ⟨rfl, hb9⟩
          have B69 := Lib.hid (B68.out.trans (hb9.mono B68.out.size))
          clear hb9
          go_wp2_with fail
          refine (Len_any zs bt _ (HTa.out.below B69.out (Nat.le_refl _))).mono ?_
          rintro e w10 ⟨rfl, rfl⟩
          go_wp2_with fail
          refine (Len_any tl bt4 _ (HTb.out.below B69.out (Nat.le_refl _))).mono ?_
          rintro e w10 ⟨rfl, rfl⟩
          rw [hl7]
          go_wp2_with fail
          go_ret
          refine ⟨?_, B5.out.trans (B69.out.mono B5.out.size)⟩
          simp
        · obtain ⟨rfl, hb3⟩ := hp.bad rfl h0
          have R7' := Lib.hid (R7.out.below hb3 (Nat.le_refl _))
          have R8' := Lib.hid (R8.out.below hb3 (Nat.le_refl _))
          have h7 : newE tl ≠ 0 := fun h => h0 ((newE_perm HP7.out).1 h)
          have h8 : newE zs.reverse ≠ 0 := fun h => h0 ((newE_perm HP8.out).1 h)
          have n0 : (newE zs == 0) = false := beq_eq_false_iff_ne.2 h0
          have n7 : (newE tl == 0) = false := beq_eq_false_iff_ne.2 h7
          have n8 : (newE zs.reverse == 0) = false := beq_eq_false_iff_ne.2 h8
          have m0 : (newE zs != 0) = true := by rw [bne_iff_ne]; exact h0
          have H7 := Lib.hid h7
          have H8 := Lib.hid h8
          clear hp hb3 h7 h8 h0
          go_wp2_with fail
          refine (New_any _ tl _ (by omega) (fun z hz => HF.out z (HP7.out.mem_iff.1 hz)) R7'.out).mono ?_
          intro e w4 hp
          obtain ⟨rfl, hb4⟩ := hp.bad rfl H7.out
          have R8'' := Lib.hid (R8'.out.below hb4 (Nat.le_refl _))
          have B4 := Lib.hid (B3.out.trans (hb4.mono B3.out.size))
          clear hp hb4
          go_wp2_with fail
          refine (New_any _ zs.reverse _ (by simp; omega) (fun z hz => HF.out z (HP8.out.mem_iff.1 hz)) R8''.out).mono ?_
          intro e w5 hp
          obtain ⟨rfl, hb5⟩ := hp.bad rfl H8.out
          have B5 := Lib.hid (B4.out.trans (hb5.mono B4.out.size))
          clear hp hb5
          go_wp2_with fail
          go_ret
          exact ⟨rfl, B5.out⟩
end Go.Proofs.Ytoonclcppokdeaa
