/-
  THE WALKS of zone.known and zone.New.
-/
import Derived.Test.YtoonclcppokdeaaZn
import Derived.Test.YtoonclcppokdeaaWName
import Derived.Deep.DeepCutAuto
namespace Go.Proofs.Ytoonclcppokdeaa
open Go.RowKit Go.Maps

set_option maxHeartbeats 400000 in
theorem known_any (p : Int) (w : World) : Calls Try.prog 51 #[.int .u8 p] w fun e w' => e = .returned (.bool (decide (1 ≤ p ∧ p ≤ 4))) ∧ w = w' := by
  by_cases h1 : p = 1
  · subst h1; go_enter Try.func51, Try.ntmps51; go_wp2; go_ret; exact ⟨rfl, rfl⟩
  by_cases h2 : p = 2
  · subst h2; go_enter Try.func51, Try.ntmps51; go_wp2; go_ret; exact ⟨rfl, rfl⟩
  by_cases h3 : p = 3
  · subst h3; go_enter Try.func51, Try.ntmps51; go_wp2; go_ret; exact ⟨rfl, rfl⟩
  by_cases h4 : p = 4
  · subst h4; go_enter Try.func51, Try.ntmps51; go_wp2; go_ret; exact ⟨rfl, rfl⟩
  have e1 : (p == 1) = false := beq_eq_false_iff_ne.2 h1
  have e2 : (p == 2) = false := beq_eq_false_iff_ne.2 h2
  have e3 : (p == 3) = false := beq_eq_false_iff_ne.2 h3
  have e4 : (p == 4) = false := beq_eq_false_iff_ne.2 h4
  have hf : Hid (decide (1 ≤ p ∧ p ≤ 4) = false) := by
    show decide (1 ≤ p ∧ p ≤ 4) = false
    simp; omega
  go_enter Try.func51, Try.ntmps51
  go_wp2
  go_ret
  rw [hf.out]
  exact ⟨rfl, rfl⟩

/-- The round's relation. -/
def NewRel (zs : List Zn) (w : World) (i : Value) (wr : World) : Prop :=
  ∃ k : Nat, k ≤ zs.length ∧ i = .int .i64 k ∧ chk [] zs = chk (zs.take k) (zs.drop k) ∧ TableFrom w.heap.size wr (w.heap.size + 1) (zs.take k) ∧ Below w.heap.size w wr

set_option maxRecDepth 100000 in
set_option maxHeartbeats 1000000 in
theorem New_few (a : Option Addr) (cap : Nat) (zs : List Zn) (w : World) (hz : zs.length ≤ 16) (hfits : ∀ z ∈ zs, z.Fits) (hr : ZRow w (.slice a zs.length cap) zs) :
    Calls Try.prog 20 #[.slice a zs.length cap] w (NewPost zs w) := by
  have hmm := @run_makeMap Try.prog
  have HR := Lib.hid hr
  have HF := Lib.hid hfits
  have HE := Lib.hid (show newE zs = chk [] zs by unfold newE; rw [if_neg (by omega)])
  clear hr hfits
  have hz16 : decide (16 < zs.length) = false := by simpa using hz
  go_enter Try.func20, Try.ntmps20
  go_wp2
  go_loopw [6, 7, 8, 9, 18] (fun _ _ _ _ i wr => NewRel zs w i wr) (fun _ _ _ _ i _ => zs.length - (intOf i).toNat)
  case atStart => exact ⟨0, by omega, rfl, rfl, ⟨0, _, _, by simp, TableAt.start w, Nat.le_refl _, fun _ _ h => by cases h⟩, ((Below.refl _ _).alloc (Nat.le_refl _) _).alloc (by simp) _⟩
  case round =>
    obtain ⟨k, hk, rfl, hchk, htab, hb⟩ := hrel
    have HCHK := Lib.hid hchk
    have HTAB := Lib.hid htab
    have HB := Lib.hid hb
    clear hchk htab
    by_cases hlt : k < zs.length
    · obtain ⟨a', cap', hv, hz0 | ⟨b, off, ha, hlb, hcc⟩⟩ := HR.out
      · subst hz0; simp at hlt
      cases hv
      subst ha
      obtain ⟨z, hzk⟩ : ∃ z, zs[k]? = some z := ⟨_, List.getElem?_eq_getElem hlt⟩
      obtain ⟨c1, c2, c3⟩ := hcc k z hzk
      have d1 : wr.cell? ⟨b, off + k * 3, none⟩ = some (.string ⟨z.name.toArray⟩) := (hb.cell hlb).trans c1
      have d2 : wr.cell? ⟨b, off + k * 3 + 1, none⟩ = some (.int .u8 z.pol) := (hb.cell hlb).trans c2
      have d3 : wr.cell? ⟨b, off + k * 3 + 2, none⟩ = some (.int .u16 z.tru) := (hb.cell hlb).trans c3
      clear c1 c2 c3 hcc hb
      have hzfit := HF.out z (List.mem_of_getElem? hzk)
      have HDROP := Lib.hid (show zs.drop k = z :: zs.drop (k + 1) by rw [List.drop_eq_getElem_cons hlt]; congr 1; rw [List.getElem?_eq_getElem hlt] at hzk; exact Option.some.inj hzk)
      have HTAKE := Lib.hid (show zs.take (k + 1) = zs.take k ++ [z] by rw [List.take_add_one, hzk]; rfl)
      have hnl : z.name.length ≤ 20000 := hzfit.2.2
      have hzs : (⟨z.name.toArray⟩ : ByteArray).size ≤ maxLen := by show z.name.toArray.size ≤ maxLen; unfold maxLen; simp; omega
      clear hzk hzfit
      have cMay := Lib.hid (fun W : World => Calls.sameBelow ((may_any ⟨z.name.toArray⟩ W hzs).mono (R' := fun e w' => e = .returned (.bool (Nm.may z.name)) ∧ W = w') fun e w' h => h))
      have cFold := Lib.hid (fun W : World => (fold_any ⟨z.name.toArray⟩ W hzs).mono (R' := fun e w' => e = .returned (.string ⟨(Nm.fold z.name).toArray⟩) ∧ Below W.heap.size W w') fun e w' h => h)
      have cKn := Lib.hid (fun W : World => Calls.sameBelow (known_any z.pol W))
      have cLab := Lib.hid (fun W : World => (Labels_any ⟨z.name.toArray⟩ W hzs).mono (R' := fun e w' => ∃ v, e = .returned v ∧ w'.ownsRow W.heap.size 9 1 v (cnt z.name) ((Nm.labels z.name).map strV) ∧ Below W.heap.size W w') fun e w' h => h)
      have HZS := Lib.hid hzs
      clear hzs
      go_upto_region 7 with fail
      obtain ⟨wz, hwz⟩ : ∃ W, W = wr.alloc (.cells #[.string ⟨z.name.toArray⟩, .int .u8 z.pol, .int .u16 z.tru] 35) := ⟨_, rfl⟩
      have hszz : wz.heap.size = wr.heap.size + 1 := by rw [hwz]; simp
      have e0 : wz.cell? ⟨wr.heap.size, 0, none⟩ = some (.string ⟨z.name.toArray⟩) := by rw [hwz, World.cell?_alloc_mark]; rfl
      have e1 : wz.cell? ⟨wr.heap.size, 1, none⟩ = some (.int .u8 z.pol) := by rw [hwz, World.cell?_alloc_mark]; rfl
      have e2 : wz.cell? ⟨wr.heap.size, 2, none⟩ = some (.int .u16 z.tru) := by rw [hwz, World.cell?_alloc_mark]; rfl
      have BZ := Lib.hid (show Below wr.heap.size wr wz by rw [hwz]; exact (Below.refl _ _).alloc (Nat.le_refl _) _)
      rw [← hwz]
      have HSZ := Lib.hid hszz
      clear hszz hwz d1 d2 d3
      go_cut [39] (fun s39 wx => s39 = .bool (!okZ z) ∧ Below wz.heap.size wz wx)
      case first =>
        have k0 := cell_regrown e0
        have k1 := cell_regrown e1
        have cM0 := Calls.inGrown (w := wz) cMay.out
        have cF := Lib.hid (Calls.inGrown (w := wz) cFold.out)
        have cK0 := Calls.inGrown (w := wz) cKn.out
        cases hm : Nm.may z.name with
        | false =>
          rw [hm] at cM0
          have cM := Lib.hid cM0
          clear cM0 cK0
          have HO := Lib.hid (show okZ z = false by simp [okZ, hm])
          clear hm
          refine wp_region_quiet_below (by kernel_rfl) (by kernel_rfl) ?_
          repeat (first | go_big_quiet_step ((exact cM.out _ _)) | quiet_step ((exact cM.out _ _)))
          refine wpQuiet_nil ?_
          intro _ hw'
          obtain ⟨⟨dq, osq⟩, hw''⟩ := hw'
          subst hw''
          go_wp2_with fail
          go_meet
          exact ⟨by rw [HO.out]; rfl, below_regrown wz dq osq⟩
        | true =>
          rw [hm] at cM0
          have cM := Lib.hid cM0
          clear cM0
          by_cases hf : Nm.fold z.name = z.name
          · have hf1 : (Nm.fold z.name == z.name) = true := by simpa using hf
            by_cases hp : 1 ≤ z.pol ∧ z.pol ≤ 4
            · rw [decide_eq_true hp] at cK0
              have cK := Lib.hid cK0
              have HO := Lib.hid (show okZ z = true by simp [okZ, hm, hf, hp])
              clear hm hf cK0 hp
              refine wp_region_quiet_below (by kernel_rfl) (by kernel_rfl) ?_
              repeat (first | go_big_quiet_step ((first | exact cM.out _ _ | exact cF.out _ _ | exact cK.out _ _)) | quiet_step ((first | exact cM.out _ _ | exact cF.out _ _ | exact cK.out _ _)))
              refine wpQuiet_nil ?_
              intro _ hw'
              obtain ⟨⟨dq, osq⟩, hw''⟩ := hw'
              subst hw''
              go_wp2_with fail
              go_meet
              exact ⟨by rw [HO.out]; rfl, below_regrown wz dq osq⟩
            · rw [decide_eq_false hp] at cK0
              have cK := Lib.hid cK0
              have HO := Lib.hid (show okZ z = false by simp [okZ, hm, hf, hp])
              clear hm hf cK0 hp
              refine wp_region_quiet_below (by kernel_rfl) (by kernel_rfl) ?_
              repeat (first | go_big_quiet_step ((first | exact cM.out _ _ | exact cF.out _ _ | exact cK.out _ _)) | quiet_step ((first | exact cM.out _ _ | exact cF.out _ _ | exact cK.out _ _)))
              refine wpQuiet_nil ?_
              intro _ hw'
              obtain ⟨⟨dq, osq⟩, hw''⟩ := hw'
              subst hw''
              go_wp2_with fail
              go_meet
              exact ⟨by rw [HO.out]; rfl, below_regrown wz dq osq⟩
          · have hf1 : (Nm.fold z.name == z.name) = false := by simpa using hf
            have HO := Lib.hid (show okZ z = false by simp [okZ, hf])
            clear hm hf cK0
            refine wp_region_quiet_below (by kernel_rfl) (by kernel_rfl) ?_
            repeat (first | go_big_quiet_step ((first | exact cM.out _ _ | exact cF.out _ _)) | quiet_step ((first | exact cM.out _ _ | exact cF.out _ _)))
            refine wpQuiet_nil ?_
            intro _ hw'
            obtain ⟨⟨dq, osq⟩, hw''⟩ := hw'
            subst hw''
            go_wp2_with fail
            go_meet
            exact ⟨by rw [HO.out]; rfl, below_regrown wz dq osq⟩
      case rest =>
        obtain ⟨rfl, hbx⟩ := hcut
        clear cMay cFold cKn
        have f0 : wc.cell? ⟨wr.heap.size, 0, none⟩ = some (.string ⟨z.name.toArray⟩) := (hbx.cell (by rw [HSZ.out]; simp)).trans e0
        have f1 : wc.cell? ⟨wr.heap.size, 1, none⟩ = some (.int .u8 z.pol) := (hbx.cell (by rw [HSZ.out]; simp)).trans e1
        have f2 : wc.cell? ⟨wr.heap.size, 2, none⟩ = some (.int .u16 z.tru) := (hbx.cell (by rw [HSZ.out]; simp)).trans e2
        have hszc : wr.heap.size < wc.heap.size := by have := hbx.size; rw [HSZ.out] at this; omega
        have BC := Lib.hid (BZ.out.trans (hbx.mono (by have := HSZ.out; omega)))
        clear e0 e1 e2 hbx
        cases hok : okZ z with
        | false =>
          have HCODE := Lib.hid (show newE zs = 3 from HE.out.trans (HCHK.out.trans (by rw [HDROP.out]; exact chk_form hok)))
          clear hok
          go_wp2_with fail
          go_ret2
          refine ⟨HB.out.trans (BC.out.mono HB.out.size), Or.inr ⟨by rw [HCODE.out]; decide, by rw [HCODE.out]; rfl⟩⟩
        | true =>
          have HOK := Lib.hid hok
          clear hok
          go_wp2_with fail
          refine (cLab.out _).mono ?_
          rintro e w1 ⟨v, rfl, hown, hb1⟩
          obtain ⟨va, vc, hv⟩ := ownsRow_slice hown
          rw [hv]
          clear hown hv
          have g0 : w1.cell? ⟨wr.heap.size, 0, none⟩ = some (.string ⟨z.name.toArray⟩) := (hb1.cell hszc).trans f0
          have g1 : w1.cell? ⟨wr.heap.size, 1, none⟩ = some (.int .u8 z.pol) := (hb1.cell hszc).trans f1
          have g2 : w1.cell? ⟨wr.heap.size, 2, none⟩ = some (.int .u16 z.tru) := (hb1.cell hszc).trans f2
          have hsz1 : wr.heap.size < w1.heap.size := by have := hb1.size; omega
          have B1 := Lib.hid (BC.out.trans (hb1.mono (by omega)))
          clear f0 f1 f2 hszc hb1 cLab
          have hcl := cnt_le z.name
          obtain ⟨N, bo, ib, hN, htab, hbo, hibs⟩ := HTAB.out.below B1.out (Nat.le_refl _)
          have HIBS := Lib.hid hibs
          clear hibs
          have HT1 := Lib.hid htab
          have t0 := htab.cell0
          have t1 := htab.cell1
          have hlt1 : w.heap.size + 1 < w1.heap.size := htab.lt
          have La := htab.below (w' := w1.drew) ((Below.refl _ _).drew) (Nat.le_refl _)
          have Lb := fun o => htab.below (w' := (w1.alloc o).drew) (((Below.refl w1.heap.size w1).alloc (Nat.le_refl _) o).drew) (Nat.le_refl _)
          have L1a := La.look (cnt z.name) (by omega)
          have L2a := La.look2 (cnt z.name) z.name (by omega)
          have L1b := fun o => (Lb o).look (cnt z.name) (by omega)
          have L2b := fun o => (Lb o).look2 (cnt z.name) z.name (by omega)
          clear htab La Lb
          obtain ⟨zv, hzv⟩ : ∃ n p q, ((zfind (zs.take k) (cnt z.name) z.name).map Zn.val).getD zeroZ = .agg #[.string n, .int .u8 p, .int .u16 q] := val_form _
          obtain ⟨zp, zq, hzv⟩ := hzv
          rw [hzv] at L2a
          simp only [hzv] at L2b
          clear hzv
          go_upto_region 10 with fail
          go_cut [9] (fun s9 wx => s9 = .bool ((zs.take k).any (fun y => y.name == z.name)) ∧ Below w1.heap.size w1 wx)
          case first =>
            go_region
            all_goals (go_wp2_with fail; go_meet)
            all_goals exact ⟨by rw [zfind_seen], (((Below.refl w1.heap.size w1).alloc (Nat.le_refl _) _).drew)⟩
          case rest =>
            obtain ⟨rfl, hb2⟩ := hcut
            have g0' : wc.cell? ⟨wr.heap.size, 0, none⟩ = some (.string ⟨z.name.toArray⟩) := (hb2.cell hsz1).trans g0
            have g1' : wc.cell? ⟨wr.heap.size, 1, none⟩ = some (.int .u8 z.pol) := (hb2.cell hsz1).trans g1
            have g2' : wc.cell? ⟨wr.heap.size, 2, none⟩ = some (.int .u16 z.tru) := (hb2.cell hsz1).trans g2
            have B2 := Lib.hid (B1.out.trans (hb2.mono (by omega)))
            have HT2 := Lib.hid (HT1.out.below hb2 (Nat.le_refl _))
            have hsz2 : wr.heap.size < wc.heap.size := by have := hb2.size; omega
            clear g0 g1 g2 t0 t1 L1a L2a L1b L2b hb2 hlt1 hsz1
            cases hany : (zs.take k).any (fun y => y.name == z.name) with
            | true =>
              have HCODE := Lib.hid (show newE zs = 7 from HE.out.trans (HCHK.out.trans (by rw [HDROP.out]; exact chk_have HOK.out hany)))
              clear hany
              go_wp2_with fail
              go_ret2
              refine ⟨HB.out.trans (B2.out.mono HB.out.size), Or.inr ⟨by rw [HCODE.out]; decide, by rw [HCODE.out]; rfl⟩⟩
            | false =>
              have HCODE := Lib.hid (show chk [] zs = chk (zs.take (k + 1)) (zs.drop (k + 1)) from HCHK.out.trans (by rw [HDROP.out, HTAKE.out]; exact chk_ok HOK.out hany))
              have HANY := Lib.hid hany
              clear hany
              have heq := fun (w : World) (r : Option Nat) => run_eql_map_nil (P := Try.prog) w 71 9 35 r Try.underlying71
              have t0 := HT2.out.cell0
              have L1 := HT2.out.look (cnt z.name) (by omega)
              go_upto_if 63 with fail
              go_cut [8] (fun _ wx => ∃ b ib', TableAt wx (w.heap.size + 1) (zs.take k) (zs.take k).length (N + 1) bo ib' ∧ ib' (cnt z.name) = some b ∧ (∀ k b, ib' k = some b → w.heap.size ≤ b) ∧ wr.heap.size < wx.heap.size ∧
                 Below w.heap.size w wx ∧ wx.cell? ⟨wr.heap.size, 0, none⟩ = some (.string ⟨z.name.toArray⟩) ∧ wx.cell? ⟨wr.heap.size, 1, none⟩ = some (.int .u8 z.pol) ∧ wx.cell? ⟨wr.heap.size, 2, none⟩ = some (.int .u16 z.tru))
              case first =>
                cases hib : ib (cnt z.name) with
                | some b =>
                  have HIB := Lib.hid hib
                  go_wp2_with fail
                  go_meet
                  exact ⟨b, ib, HT2.out.mono (by omega), HIB.out, HIBS.out, hsz2, HB.out.trans (B2.out.mono HB.out.size), g0', g1', g2'⟩
                | none =>
                  have HIB := Lib.hid hib
                  obtain ⟨fo, hfo1, hfo2⟩ := HT2.out.outer
                  have HFO1 := Lib.hid hfo1
                  have HFO2 := Lib.hid hfo2
                  have hN2 := List.length_take_le k zs
                  clear hfo1 hfo2
                  go_wp2_with (at_mapUpdate; refine wpList_store rfl _ _ _ 41 rfl 3 71 (int_keyed Try.underlying3) Try.underlying41 bo N fo rfl (HFO1.out.alloc _) ?c1 _ _ (.int .i64 (cnt z.name)) rfl rfl (key_int _ (by omega)) ?_)
                  case c1 => unfold maxLen; omega
                  intro w3 hm3 hg3
                  have hT3 := HT2.out.putOuter HIB.out HFO2.out hm3 hg3
                  have hkp : ∀ j, j < wc.heap.size → j ≠ bo → w3.heap[j]? = wc.heap[j]? := fun j hj hne => by
                    rw [hg3.block j (by simp; omega) (by simpa using hne), Below.heap_alloc wc _ j hj]
                  have hkc : ∀ j, w3.cell? ⟨wr.heap.size, j, none⟩ = wc.cell? ⟨wr.heap.size, j, none⟩ := fun j => World.cell?_of_block (w := wc) (hkp _ hsz2 (block_ne_map g0' HFO1.out))
                  have hsz3 : wc.heap.size + 1 ≤ w3.heap.size := by have := hg3.size; simpa using this
                  have hwsz := HB.out.size
                  have hbel3 : Below w.heap.size w w3 := ((HB.out.trans (B2.out.mono hwsz)).alloc (by omega) _).grown hg3 (by simp; omega) (fun q hq => by cases hq; exact hbo)
                  have q0 := (hkc 0).trans g0'
                  have q1 := (hkc 1).trans g1'
                  have q2 := (hkc 2).trans g2'
                  have HT3 := Lib.hid hT3
                  have HBEL3 := Lib.hid hbel3
                  have hinb : ∀ k' b', (if k' = cnt z.name then some wc.heap.size else ib k') = some b' → w.heap.size ≤ b' := by
                    intro k' b' h
                    split at h
                    · cases h; omega
                    · exact HIBS.out k' b' h
                  have HINB := Lib.hid hinb
                  clear hT3 hg3 hm3 hkp hkc hbel3 hinb
                  go_wp2_with fail
                  go_meet
                  exact ⟨wc.heap.size, _, HT3.out, if_pos rfl, HINB.out, by omega, HBEL3.out, q0, q1, q2⟩
              case rest =>
                obtain ⟨b5, ib5, hT5, hib5, hibs5, hsz5, hB5, p0, p1, p2⟩ := hcut
                have HT5 := Lib.hid hT5
                have HIB5 := Lib.hid hib5
                have HIBS5 := Lib.hid hibs5
                have HB5 := Lib.hid hB5
                have t5 := hT5.cell0
                have l5 := (hT5.below (w' := wc.drew) ((Below.refl _ _).drew) (Nat.le_refl _)).look (cnt z.name) (by omega)
                rw [hib5] at l5
                have hlt5 : w.heap.size + 1 < wc.heap.size := hT5.lt
                clear hT5 hib5 hibs5 hB5 t0 L1 heq
                go_upto_region 15 with fail
                go_still_tail 9, (by kernel_rfl)
                change wpList _ _ _ _ _ wc.drew
                have hN2 := List.length_take_le k zs
                have HM5 := Lib.hid (HT5.out.inn _ b5 HIB5.out).1
                refine wpList_store rfl _ _ _ 71 rfl 9 35 (string_keyed Try.underlying9) Try.underlying71 b5 (N + 1) _ rfl HM5.out.drew ?c1 _ z.val (.string z.name) rfl rfl (key_str z.name (by omega)) ?_
                case c1 => unfold maxLen; omega
                intro w6 hm6 hg6
                have hT6 := (HT5.out.below (w' := wc.drew) ((Below.refl _ _).drew) (Nat.le_refl _)).putInner HIB5.out HANY.out hm6 hg6
                have hB6 : Below w.heap.size w w6 := HB5.out.drew.grown hg6 (by have := HB5.out.size; exact this) (fun q hq => by cases hq; exact HIBS5.out _ _ HIB5.out)
                have s1 := hT6.cell1
                have s2 := hT6.frozen 1
                have HT6 := Lib.hid hT6
                have HB6 := Lib.hid hB6
                clear hT6 hB6 hm6 hg6 t5 l5
                go_wp2_with fail
                have hlk : (zs.take k).length = k := by simp; omega
                have hlk1 : (zs.take (k + 1)).length = k + 1 := by simp; omega
                have hfin : TableFrom w.heap.size (w6.setCell ⟨w.heap.size + 1, 1, none⟩ (.int .i64 ((k : Int) + 1))) (w.heap.size + 1) (zs.take (k + 1)) := by
                  refine ⟨N + 1 + 1, bo, ib5, by rw [hlk1]; rw [hlk] at hN; omega, ?_, hbo, HIBS5.out⟩
                  have := HT6.out.count (k + 1)
                  rw [← HTAKE.out] at this
                  rw [hlk1]
                  exact this
                exact ⟨⟨k + 1, by omega, by go_num, HCODE.out, hfin, HB6.out.setCell (by simp) _⟩, by simp [intOf]; omega⟩
    · go_wp2_with fail
      go_ret2
      obtain rfl : k = zs.length := by omega
      have h1 := HCHK.out
      rw [List.take_length, List.drop_length] at h1
      have h2 := HTAB.out
      rw [List.take_length] at h2
      refine ⟨HB.out, Or.inl ⟨HE.out.trans (h1.trans rfl), w.heap.size + 1, rfl, by omega, h2.is⟩⟩
set_option maxHeartbeats 400000 in
theorem New_many (a : Option Addr) (cap n : Nat) (zs : List Zn) (w : World) (hz : 16 < zs.length) (hn : n = zs.length) (hz2 : n ≤ 1000000) :
    Calls Try.prog 20 #[.slice a n cap] w (NewPost zs w) := by
  have HE := Lib.hid (show newE zs = 5 by unfold newE; rw [if_pos hz])
  have hz3 : 16 < n := by omega
  clear hn hz
  go_enter Try.func20, Try.ntmps20
  go_wp2
  go_ret2
  exact ⟨Below.refl _ _, Or.inr ⟨by rw [HE.out]; decide, by rw [HE.out]; rfl⟩⟩

theorem New_any (v : Value) (zs : List Zn) (w : World) (hl : zs.length ≤ 1000000) (hfits : ∀ z ∈ zs, z.Fits) (hr : ZRow w v zs) :
    Calls Try.prog 20 #[v] w (NewPost zs w) := by
  obtain ⟨a, cap, rfl, h⟩ := hr
  by_cases h16 : 16 < zs.length
  · exact New_many a cap _ zs w h16 rfl hl
  · exact New_few a cap zs w (by omega) hfits ⟨a, cap, rfl, h⟩

end Go.Proofs.Ytoonclcppokdeaa
