/-
  Part 3: WRef3 WRef4 Om Va Vb Vc Ga Gb.
-/
import Derived.Test.YtdflhdfapnhjjaaPt2
import Derived.Test.YtdflhdfapnhjjaaPt1
namespace Go.Proofs.Ytdflhdfapnhjjaa
open Go.RowKit

theorem own_kept {w w' : World} {base : Nat} {e : TypeId} {size : Nat} {v : Value} {n : Nat} {xs : List Value} (h : w.ownsRow base e size v n xs) (hb : Below w.heap.size w w') : w'.ownsRow base e size v n xs := by
  obtain ⟨h1, h2 | ⟨g, cap, cur, hv, h3, hg, h4⟩⟩ := h
  · exact ⟨h1, Or.inl h2⟩
  · exact ⟨h1, Or.inr ⟨g, cap, cur, hv, h3, (hb.block g (Array.getElem?_eq_some_iff.1 hg).1).trans hg, h4⟩⟩

theorem labels_some {n : Nm.Bytes} {ls : List Nm.Bytes} (h : Nm.nm n = some ls) : Nm.labels n = ls := by simp [Nm.labels, h]
theorem fold_enc {n : Nm.Bytes} {ls : List Nm.Bytes} (h : Nm.nm n = some ls) : Nm.enc (Nm.lowL ls) = Nm.fold n := by
  unfold Nm.fold
  rw [Nm.may_some h, if_pos rfl]
  obtain ⟨h1, h2, _⟩ := Nm.nm_iff.1 h
  rw [h1, Nm.low_enc _ h2]
theorem labels_count {n : Nm.Bytes} {ls : List Nm.Bytes} (h : Nm.nm n = some ls) : ls.length ≤ 255 := by
  obtain ⟨h1, _, h3⟩ := Nm.nm_iff.1 h
  have := Nm.length_lt_enc ls
  rw [← h1] at this
  omega

set_option maxRecDepth 100000 in
set_option maxHeartbeats 1000000 in
theorem refFold_any (s : ByteArray) (w : World) (hs : s.size ≤ 1000000) :
    Calls Try.prog 61 #[.string s] w fun e w' => e = .returned (.string ⟨(Nm.fold s.data.toList).toArray⟩) ∧ Below w.heap.size w w' := by
  obtain ⟨i0, hi, hz0, hz1, hz2⟩ := info_parts info_string
  go_enter Try.func61, Try.ntmps61
  go_wp2_with fail
  refine (refLabels_any s _ hs).mono ?_
  rintro e w1 ⟨v, rfl, ho, hb⟩
  cases hm : Nm.may s.data.toList
  · go_wp2_with fail
    go_ret
    exact ⟨ret_str (by unfold Nm.fold; rw [hm]; rfl), hb⟩
  · obtain ⟨ls, hnm⟩ := Nm.nm_of_may hm
    rw [labels_some hnm] at ho
    have hcount := labels_count hnm
    have HOK := Lib.hid (Nm.nm_iff.1 hnm).2.1
    have HNM := Lib.hid hnm
    obtain ⟨a, cap, rfl, hrow⟩ := SRow.own ho
    have HROW := Lib.hid hrow
    have HB := Lib.hid hb
    have hw1 := hb.size
    clear hrow hb ho hm hnm
    go_wp2_with fail
    go_loopw [5, 6] (fun o i wr => ∃ k : Nat, k ≤ ls.length ∧ i = .int .i64 k ∧ wr.ownsRow w1.heap.size 9 1 o k ((Nm.lowL (ls.take k)).map strV) ∧ Below w1.heap.size w1 wr) (fun _ i _ => ls.length - (intOf i).toNat)
    case atStart => exact ⟨0, by omega, rfl, World.ownsRow_nil _ _ _ _, Below.refl _ _⟩
    case round =>
      obtain ⟨k, hk, rfl, hown, hbel⟩ := hrel
      have HOWN := Lib.hid hown
      by_cases hlt : k < ls.length
      · obtain hz0' | ⟨b, off, ha, hlb, hcc⟩ := HROW.out
        · subst hz0'; simp at hlt
        subst ha
        obtain ⟨l, hl⟩ : ∃ l, ls[k]? = some l := ⟨_, List.getElem?_eq_getElem hlt⟩
        have hll := HOK.out l (List.mem_of_getElem? hl)
        have d0 : wr.cell? ⟨b, off + k, none⟩ = some (.string ⟨l.toArray⟩) := (hbel.cell hlb).trans (hcc k l hl)
        have HT := Lib.hid (show (Nm.lowL (ls.take (k + 1))).map strV = (Nm.lowL (ls.take k)).map strV ++ [strV (Nm.low l)] by rw [List.take_add_one, hl]; simp [Nm.lowL])
        have hbw : b < wr.heap.size := World.block_lt_of_cell? wr _ d0
        have HBEL := Lib.hid hbel
        have hwsz := hbel.size
        have hk0 : (0 : Int) ≤ (k : Int) := by omega
        have hk1 : (k : Int) < (ls.length : Int) := by omega
        clear hcc hl hbel hown
        go_wp2_with fail
        refine (refLow_any ⟨l.toArray⟩ _ (by rw [byteSize]; omega)).mono ?_
        rintro e w2 ⟨rfl, hb2⟩
        have HB2 := Lib.hid hb2
        have hsz2 := hb2.size
        have HOWN2 := Lib.hid (own_kept HOWN.out hb2)
        clear hb2
        go_wp2_with (at_builtin; refine wpList_append_own _ rfl _ _ 58 rfl w1.heap.size 9 i0 (.string ByteArray.empty) 1 16 Try.underlying58 hi hz0 hz1 hz2 rfl (by decide) _ k _ rfl (HOWN2.out.alloc _) ⟨w2.heap.size, 0, none⟩ 1 1 [.string ⟨(Nm.low l).toArray⟩] rfl rfl (cell_one_new _ _ _) ?c2 ?c3 ?c4 ?c5 ?_)
        case c2 => simp [Value.oneCell']
        case c3 => unfold maxLen; omega
        case c4 => omega
        case c5 => simp; omega
        intro v' w3 hown' hgrow _
        have HB3 := Lib.hid (((HBEL.out.trans (HB2.out.mono hwsz)).alloc (Nat.le_trans hwsz hsz2) _).grown hgrow (by simp; omega) (fun q hq => (HOWN2.out.lt q hq).1))
        have hfin0 : w3.ownsRow w1.heap.size 9 1 v' (k + 1) ((Nm.lowL (ls.take (k + 1))).map strV) := by
          rw [HT.out]
          exact hown'
        have HFIN := Lib.hid hfin0
        clear hown' hgrow hfin0
        go_wp2_with fail
        exact ⟨⟨k + 1, by omega, by go_num, HFIN.out, HB3.out⟩, by simp [intOf]; omega⟩
      · obtain rfl : k = ls.length := by omega
        rw [List.take_length] at HOWN
        have hr : SRow wr _ (Nm.lowL ls) := SRow.own (e := 9) (base := w1.heap.size) (by have h := HOWN.out; rwa [show ls.length = (Nm.lowL ls).length by simp [Nm.lowL]] at h)
        have HR := Lib.hid hr
        have HBEL := Lib.hid hbel
        clear hr hown hbel
        go_wp2_with fail
        refine (refBytes_any _ (Nm.lowL ls) _ HR.out (fun l hl => (Nm.lowL_ok HOK.out l hl).2) (by simp [Nm.lowL]; omega)).mono ?_
        rintro e w2 ⟨rfl, hb2⟩
        go_wp2_with fail
        go_ret
        exact ⟨ret_str (by rw [fold_enc HNM.out]), HB.out.trans ((HBEL.out.trans (hb2.mono HBEL.out.size)).mono hw1)⟩

end Go.Proofs.Ytdflhdfapnhjjaa
namespace Go.Proofs.Ytdflhdfapnhjjaa
open Go.RowKit

set_option maxRecDepth 100000 in
set_option maxHeartbeats 1000000 in
theorem refParent_any (s : ByteArray) (w : World) (hs : s.size ≤ 1000000) :
    Calls Try.prog 140 #[.string s] w fun e w' => e = .returned (.tuple #[.string ⟨(Nm.parentN s.data.toList).toArray⟩, .bool (Nm.parentB s.data.toList)]) ∧ Below w.heap.size w w' := by
  go_enter Try.func140, Try.ntmps140
  go_wp2_with fail
  refine (refLabels_any s _ hs).mono ?_
  rintro e w1 ⟨v, rfl, ho, hb⟩
  cases hm : Nm.may s.data.toList
  · have hn := Nm.nm_of_not hm
    go_wp2_with fail
    go_ret2
    exact ⟨by unfold Nm.parentN Nm.parentB; rw [hn]; rfl, hb⟩
  · obtain ⟨ls, hnm⟩ := Nm.nm_of_may hm
    rw [labels_some hnm] at ho
    have hcount := labels_count hnm
    have HOK := Lib.hid (Nm.nm_iff.1 hnm).2.1
    have HNM := Lib.hid hnm
    have HB := Lib.hid hb
    clear hb hm hnm
    cases ls with
    | nil =>
      obtain ⟨a, cap, rfl, hrow⟩ := SRow.own ho
      clear ho hrow
      go_wp2_with fail
      go_ret2
      exact ⟨by unfold Nm.parentN Nm.parentB; rw [HNM.out]; rfl, HB.out⟩
    | cons l t =>
      obtain ⟨_, ⟨rfl, h0⟩ | ⟨g, cap, cur, rfl, _, hg, hcap, hmax, _, htk⟩⟩ := ho
      · simp at h0
      have hg1 : g < w1.heap.size := (Array.getElem?_eq_some_iff.1 hg).1
      have HC := Lib.hid (show ∀ i n, (l :: t)[i]? = some n → w1.cell? ⟨g, i, none⟩ = some (strV n) from fun i n hi => by
        have hil : i < (l :: t).length := (List.getElem?_eq_some_iff.1 hi).1
        unfold World.cell?
        rw [hg]
        have : (cur.toList.take ((l :: t).length * 1))[i]? = some (strV n) := by rw [htk, List.getElem?_map, hi]; rfl
        rw [List.getElem?_take_of_lt (by omega)] at this
        simpa using this)
      clear htk hg
      have hcap' : t.length + 1 ≤ cap := hcap
      clear hcap
      go_wp2_with fail
      case inl hc1 =>
        obtain rfl : t = [] := List.eq_nil_of_length_eq_zero (by omega)
        refine (refBytes_any _ [] _ ⟨_, _, rfl, Or.inl rfl⟩ (fun l hl => by cases hl) (by simp)).mono ?_
        rintro e w2 ⟨rfl, hb2⟩
        go_wp2_with fail
        go_ret2
        exact ⟨by unfold Nm.parentN Nm.parentB; rw [HNM.out]; rfl, HB.out.trans (hb2.mono HB.out.size)⟩
      case inr hc1 =>
        refine (refBytes_any _ t _ ⟨_, _, rfl, Or.inr ⟨g, 1, rfl, hg1, fun i n hi => ?_⟩⟩ (fun l hl => (HOK.out l (by simp [hl])).2) (by simp at hcount; omega)).mono ?_
        · rw [Nat.add_comm]
          exact HC.out (i + 1) n (by simpa using hi)
        rintro e w2 ⟨rfl, hb2⟩
        go_wp2_with fail
        go_ret2
        exact ⟨by unfold Nm.parentN Nm.parentB; rw [HNM.out]; rfl, HB.out.trans (hb2.mono HB.out.size)⟩

theorem same_fold {a b : Nm.Bytes} (ha : Nm.may a = true) (hb : Nm.may b = true) : Nm.same a b = (Nm.fold a == Nm.fold b) := by
  simp [Nm.same, Nm.fold, ha, hb]

set_option maxRecDepth 100000 in
set_option maxHeartbeats 1000000 in
theorem refSame_any (s t : ByteArray) (w : World) (hs : s.size ≤ 1000000) (ht : t.size ≤ 1000000) :
    Calls Try.prog 124 #[.string s, .string t] w fun e w' => e = .returned (.bool (Nm.same s.data.toList t.data.toList)) ∧ Below w.heap.size w w' := by
  cases hm : Nm.may s.data.toList with
  | false =>
    have HV := Lib.hid (show Nm.same s.data.toList t.data.toList = false by simp [Nm.same, hm])
    have HM := Lib.hid hm
    clear hm
    go_enter Try.func124, Try.ntmps124
    go_wp2_with fail
    refine (refMay_any _ _ hs).mono ?_
    rintro e w1 ⟨rfl, hb⟩
    rw [HM.out]
    go_wp2_with fail
    go_ret
    rw [HV.out]
    exact ⟨rfl, hb⟩
  | true =>
    have HM := Lib.hid hm
    cases hm2 : Nm.may t.data.toList with
    | false =>
      have HV := Lib.hid (show Nm.same s.data.toList t.data.toList = false by simp [Nm.same, hm2])
      have HM2 := Lib.hid hm2
      clear hm hm2
      go_enter Try.func124, Try.ntmps124
      go_wp2_with fail
      refine (refMay_any _ _ hs).mono ?_
      rintro e w1 ⟨rfl, hb⟩
      rw [HM.out]
      go_wp2_with fail
      refine (refMay_any _ _ ht).mono ?_
      rintro e w2 ⟨rfl, hb2⟩
      rw [HM2.out]
      go_wp2_with fail
      go_ret
      rw [HV.out]
      exact ⟨rfl, hb.trans (hb2.mono hb.size)⟩
    | true =>
      have HV := Lib.hid (same_fold hm hm2)
      have HM2 := Lib.hid hm2
      clear hm hm2
      go_enter Try.func124, Try.ntmps124
      go_wp2_with fail
      refine (refMay_any _ _ hs).mono ?_
      rintro e w1 ⟨rfl, hb⟩
      rw [HM.out]
      go_wp2_with fail
      refine (refMay_any _ _ ht).mono ?_
      rintro e w2 ⟨rfl, hb2⟩
      rw [HM2.out]
      have HB2 := Lib.hid (hb.trans (hb2.mono hb.size))
      clear hb hb2
      go_wp2_with fail
      refine (refFold_any _ _ hs).mono ?_
      rintro e w3 ⟨rfl, hb3⟩
      have HB3 := Lib.hid (HB2.out.trans (hb3.mono HB2.out.size))
      clear hb3
      go_wp2_with fail
      refine (refFold_any _ _ ht).mono ?_
      rintro e w4 ⟨rfl, hb4⟩
      have HB4 := Lib.hid (HB3.out.trans (hb4.mono HB3.out.size))
      clear hb4
      go_wp2_with fail
      go_ret
      rw [HV.out]
      refine ⟨?_, HB4.out⟩
      rfl

def strLen : Value → Nat
  | .string s => s.size
  | _ => 0

theorem same_lowL {n z : Nm.Bytes} {a b : List Nm.Bytes} (ha : Nm.nm n = some a) (hb : Nm.nm z = some b) : Nm.same n z = true ↔ Nm.lowL b = Nm.lowL a := by
  obtain ⟨h1, h2, _⟩ := Nm.nm_iff.1 ha
  obtain ⟨k1, k2, _⟩ := Nm.nm_iff.1 hb
  simp only [Nm.same, Nm.may_some ha, Nm.may_some hb, Bool.true_and, beq_iff_eq]
  rw [h1, k1, Nm.low_enc _ h2, Nm.low_enc _ k2]
  exact ⟨fun h => (Nm.enc_inj (Nm.lowL_ok h2) (Nm.lowL_ok k2) h).symm, fun h => by rw [h]⟩
theorem within_same {n z : Nm.Bytes} (h : Nm.same n z = true) : Nm.within n z = true := by
  have hn : Nm.may n = true := by simp [Nm.same] at h; exact h.1.1
  have hz : Nm.may z = true := by simp [Nm.same] at h; exact h.1.2
  obtain ⟨a, ha⟩ := Nm.nm_of_may hn
  obtain ⟨b, hb⟩ := Nm.nm_of_may hz
  have := (same_lowL ha hb).1 h
  unfold Nm.within
  rw [ha, hb]
  simp [this]
theorem nm_tail {n : Nm.Bytes} {l : Nm.Bytes} {t : List Nm.Bytes} (h : Nm.nm n = some (l :: t)) : Nm.nm (Nm.enc t) = some t := by
  obtain ⟨h1, h2, h3⟩ := Nm.nm_iff.1 h
  refine Nm.nm_iff.2 ⟨rfl, (Nm.ok_cons.1 h2).2, ?_⟩
  rw [h1] at h3
  simp [Nm.enc] at h3
  omega
theorem within_up {n z : Nm.Bytes} {l : Nm.Bytes} {t : List Nm.Bytes} (hn : Nm.nm n = some (l :: t)) (h : Nm.same n z = false) : Nm.within n z = Nm.within (Nm.enc t) z := by
  unfold Nm.within
  rw [hn, nm_tail hn]
  cases hz : Nm.nm z with
  | none => rfl
  | some b =>
    have hne : ¬ Nm.lowL b = Nm.lowL (l :: t) := fun k => by rw [(same_lowL hn hz).2 k] at h; cases h
    show (Nm.lowL b).isSuffixOf (Nm.lowL (l :: t)) = (Nm.lowL b).isSuffixOf (Nm.lowL t)
    rw [Bool.eq_iff_iff, List.isSuffixOf_iff_suffix, List.isSuffixOf_iff_suffix]
    show Nm.lowL b <:+ Nm.low l :: Nm.lowL t ↔ _
    rw [List.suffix_cons_iff]
    exact ⟨fun k => k.resolve_left hne, Or.inr⟩
theorem within_root {n z : Nm.Bytes} (hn : Nm.nm n = some []) (h : Nm.same n z = false) : Nm.within n z = false := by
  unfold Nm.within
  rw [hn]
  cases hz : Nm.nm z with
  | none => rfl
  | some b =>
    have hne : ¬ Nm.lowL b = Nm.lowL [] := fun k => by rw [(same_lowL hn hz).2 k] at h; cases h
    show (Nm.lowL b).isSuffixOf (Nm.lowL []) = false
    rw [Bool.eq_false_iff]
    intro k
    rw [List.isSuffixOf_iff_suffix] at k
    exact hne (by simpa [Nm.lowL] using k)

set_option maxRecDepth 100000 in
set_option maxHeartbeats 1000000 in
theorem refWithin_any (s t : ByteArray) (w : World) (hs : s.size ≤ 1000000) (ht : t.size ≤ 1000000) :
    Calls Try.prog 127 #[.string s, .string t] w fun e w' => e = .returned (.bool (Nm.within s.data.toList t.data.toList)) ∧ Below w.heap.size w w' := by
  cases hm : Nm.may s.data.toList with
  | false =>
    have HV := Lib.hid (show Nm.within s.data.toList t.data.toList = false by unfold Nm.within; rw [Nm.nm_of_not hm])
    have HM := Lib.hid hm
    clear hm
    go_enter Try.func127, Try.ntmps127
    go_wp2_with fail
    refine (refMay_any _ _ hs).mono ?_
    rintro e w1 ⟨rfl, hb⟩
    rw [HM.out]
    go_wp2_with fail
    go_ret
    rw [HV.out]
    exact ⟨rfl, hb⟩
  | true =>
    have HM := Lib.hid hm
    cases hm2 : Nm.may t.data.toList with
    | false =>
      have HV := Lib.hid (show Nm.within s.data.toList t.data.toList = false by unfold Nm.within; rw [Nm.nm_of_not hm2]; cases Nm.nm s.data.toList <;> rfl)
      have HM2 := Lib.hid hm2
      clear hm hm2
      go_enter Try.func127, Try.ntmps127
      go_wp2_with fail
      refine (refMay_any _ _ hs).mono ?_
      rintro e w1 ⟨rfl, hb⟩
      rw [HM.out]
      go_wp2_with fail
      refine (refMay_any _ _ ht).mono ?_
      rintro e w2 ⟨rfl, hb2⟩
      rw [HM2.out]
      go_wp2_with fail
      go_ret
      rw [HV.out]
      exact ⟨rfl, hb.trans (hb2.mono hb.size)⟩
    | true =>
      obtain ⟨a0, ha0⟩ := Nm.nm_of_may hm
      have HA0 := Lib.hid ha0
      have HM2 := Lib.hid hm2
      clear hm hm2 ha0
      go_enter Try.func127, Try.ntmps127
      go_wp2_with fail
      refine (refMay_any _ _ hs).mono ?_
      rintro e w1 ⟨rfl, hb⟩
      rw [HM.out]
      go_wp2_with fail
      refine (refMay_any _ _ ht).mono ?_
      rintro e w2 ⟨rfl, hb2⟩
      rw [HM2.out]
      have HB2 := Lib.hid (hb.trans (hb2.mono hb.size))
      clear hb hb2
      go_wp2_with fail
      go_loopw [0, 5, 6] (fun n _ _ wr => ∃ (x : Nm.Bytes) (a : List Nm.Bytes), n = .string ⟨x.toArray⟩ ∧ Nm.nm x = some a ∧ Nm.within s.data.toList t.data.toList = Nm.within x t.data.toList ∧ Below w.heap.size w wr) (fun n _ _ _ => strLen n)
      case atStart => exact ⟨s.data.toList, a0, rfl, HA0.out, rfl, HB2.out⟩
      case round =>
        obtain ⟨x, a, rfl, hx, hw, hbel⟩ := hrel
        have hxl : x.length ≤ 1000000 := by have := (Nm.nm_iff.1 hx).2.2; omega
        have HX := Lib.hid hx
        have HW := Lib.hid hw
        have HBEL := Lib.hid hbel
        clear hx hw hbel
        go_wp2_with fail
        refine (refSame_any ⟨x.toArray⟩ t _ (by rw [byteSize]; omega) ht).mono ?_
        rintro e w3 ⟨rfl, hb3⟩
        have HB3 := Lib.hid (HBEL.out.trans (hb3.mono HBEL.out.size))
        clear hb3
        cases hsm : Nm.same x t.data.toList with
        | true =>
          have HV := Lib.hid (HW.out.trans (within_same hsm))
          clear hsm
          go_wp2_with fail
          go_ret
          rw [HV.out]
          exact ⟨rfl, HB3.out⟩
        | false =>
          have HS := Lib.hid hsm
          clear hsm
          go_wp2_with fail
          refine (refParent_any ⟨x.toArray⟩ _ (by rw [byteSize]; omega)).mono ?_
          rintro e w4 ⟨rfl, hb4⟩
          have HB4 := Lib.hid (HB3.out.trans (hb4.mono HB3.out.size))
          clear hb4
          cases a with
          | nil =>
            have HV := Lib.hid (HW.out.trans (within_root HX.out HS.out))
            have HP := Lib.hid (show Nm.parentB x = false by unfold Nm.parentB; rw [HX.out])
            rw [HP.out]
            go_wp2_with fail
            go_ret
            rw [HV.out]
            exact ⟨rfl, HB4.out⟩
          | cons l tl =>
            have HV := Lib.hid (HW.out.trans (within_up HX.out HS.out))
            have HP := Lib.hid (show Nm.parentB x = true by unfold Nm.parentB; rw [HX.out])
            have HQ := Lib.hid (show Nm.parentN x = Nm.enc tl by unfold Nm.parentN; rw [HX.out])
            rw [HP.out, HQ.out]
            have HL := Lib.hid (show (Nm.enc tl).length < x.length by rw [(Nm.nm_iff.1 HX.out).1]; simp [Nm.enc]; omega)
            go_wp2_with fail
            exact ⟨⟨_, tl, rfl, nm_tail HX.out, HV.out, HB4.out⟩, by simpa [strLen, byteSize] using HL.out⟩

end Go.Proofs.Ytdflhdfapnhjjaa
namespace Go.Proofs.Ytdflhdfapnhjjaa
open Go.RowKit
set_option linter.unusedVariables false
def txtV (l : Nm.Bytes) : Value := .string (bs l)
/-- A slice of strings in memory. -/
def StrRow (L : Blocks) (v : Value) (ls : List Nm.Bytes) : Prop :=
  ∃ a cap, v = .slice a ls.length cap ∧ (ls = [] ∨ ∃ b off C te fr, a = some ⟨b, off, none⟩ ∧ (b, Obj.cells C te fr) ∈ L ∧ ∀ i l, ls[i]? = some l → C[off + i * 1]? = some (.string (bs l)))
theorem StrRow.mono {L L' : Blocks} {v : Value} {ls : List Nm.Bytes} (h : StrRow L v ls) (hs : ∀ p ∈ L, p ∈ L') : StrRow L' v ls := by
  obtain ⟨a, cap, h1, h2⟩ := h
  refine ⟨a, cap, h1, h2.imp id ?_⟩
  rintro ⟨b, off, C, te, fr, h3, h4, h5⟩
  exact ⟨b, off, C, te, fr, h3, hs _ h4, h5⟩

def okLbl (l : Nm.Bytes) : Bool := decide (1 ≤ l.length) && decide (l.length ≤ 63)
theorem Row.strRow {L B : Blocks} {v : Value} {ls : List Nm.Bytes} (h : Row 9 1 v ls.length (ls.map txtV) B) (hB : ∀ p ∈ B, p ∈ L) : StrRow L v ls := by
  rcases h.is with ⟨h1, h2, _⟩ | ⟨b, cap, cur, h1, h2, h3, h4, h5, h6⟩
  · exact ⟨none, 0, by rw [h1, h2], Or.inl (List.eq_nil_of_length_eq_zero h2)⟩
  · refine ⟨_, cap, h1, Or.inr ⟨b, 0, cur, 9, (0, 0), rfl, hB _ (by rw [h2]; exact List.mem_cons_self ..), fun i l hi => ?_⟩⟩
    have hil := (List.getElem?_eq_some_iff.1 hi).1
    have : (cur.toList.take (ls.length * 1))[i]? = some (txtV l) := by rw [h6, List.getElem?_map, hi]; rfl
    rw [List.getElem?_take_of_lt (by omega)] at this
    simpa [txtV] using this
theorem nm_few {n : Nm.Bytes} {ls : List Nm.Bytes} (h : Nm.nm n = some ls) : ls.length ≤ 254 := by
  obtain ⟨h1, _, h3⟩ := Nm.nm_iff.1 h
  have := Nm.length_lt_enc ls
  rw [← h1] at this
  omega
section
variable {G : World} {L : Blocks} {P : Program}
/-- A row of its own that an elder contract tells. -/
theorem Spec.ofRow {f : FuncId} {args : Array Value} {e : TypeId} {sz m : Nat} {xs : List Value} (h : ∀ w, Calls P f args w fun en w' => ∃ v, en = .returned v ∧ w'.ownsRow w.heap.size e sz v m xs ∧ Below w.heap.size w w') :
    Spec P G f args L fun u M => ∃ B, Row e sz u m xs B ∧ M = B ++ L :=
  ⟨fun w hw => (h w).mono fun en w' ⟨v, h1, h2, h3⟩ => by
    have hL : Heap G w' L := ⟨hw.still.trans ⟨h3.os, h3.tape, h3.output, h3.size⟩, hw.nodup, fun p hp => (h3.block p.1 (hw.lt hp)).trans (hw.get p hp)⟩
    rcases h2.2 with ⟨q1, q2⟩ | ⟨g, cap, cur, q1, q2, q3, q4, q5, q6, q7⟩
    · exact ⟨v, _, h1, ⟨[], ⟨h2.1, Or.inl ⟨q1, q2, rfl⟩⟩, rfl⟩, hL⟩
    · refine ⟨v, _, h1, ⟨[(g, .cells cur e (0, 0))], ⟨h2.1, Or.inr ⟨g, cap, cur, q1, rfl, q4, q5, q6, q7⟩⟩, rfl⟩, hL.still, ?_, fun p hp => ?_⟩
      · show ((g : Nat) :: L.map (·.1)).Nodup
        rw [List.nodup_cons]
        refine ⟨fun hm => ?_, hL.nodup⟩
        obtain ⟨p, hp, he⟩ := List.mem_map.1 hm
        have := hw.lt hp
        omega
      · rcases List.mem_cons.1 hp with rfl | hp
        · exact q3
        · exact hL.get p hp⟩
end
variable {G : World} {L : Blocks}
theorem bs_max {l : Nm.Bytes} (h : l.length ≤ 1000000) : (bs l).size ≤ maxLen := by rw [bs_size]; unfold maxLen; omega
theorem bs_mil {l : Nm.Bytes} (h : l.length ≤ 1000000) : (bs l).size ≤ 1000000 := by rw [bs_size]; exact h
theorem May_S (l : Nm.Bytes) (h : l.length ≤ 1000000) : Spec Try.prog G 28 #[.string (bs l)] L fun u M => u = .bool (Nm.may l) ∧ M = L := Spec.ofSame fun w => may_any (bs l) w (bs_max h)
theorem Fold_S (l : Nm.Bytes) (h : l.length ≤ 1000000) : Spec Try.prog G 29 #[.string (bs l)] L fun u M => u = .string (bs (Nm.fold l)) ∧ M = L := Spec.ofBelow fun w => fold_any (bs l) w (bs_max h)
theorem refNSame_S (a b : Nm.Bytes) (ha : a.length ≤ 1000000) (hb : b.length ≤ 1000000) : Spec Try.prog G 124 #[.string (bs a), .string (bs b)] L fun u M => u = .bool (Nm.same a b) ∧ M = L := Spec.ofBelow fun w => refSame_any (bs a) (bs b) w (bs_mil ha) (bs_mil hb)
theorem refWithin_S (a b : Nm.Bytes) (ha : a.length ≤ 1000000) (hb : b.length ≤ 1000000) : Spec Try.prog G 127 #[.string (bs a), .string (bs b)] L fun u M => u = .bool (Nm.within a b) ∧ M = L := Spec.ofBelow fun w => refWithin_any (bs a) (bs b) w (bs_mil ha) (bs_mil hb)
theorem refFold_S (l : Nm.Bytes) (h : l.length ≤ 1000000) : Spec Try.prog G 61 #[.string (bs l)] L fun u M => u = .string (bs (Nm.fold l)) ∧ M = L := Spec.ofBelow fun w => refFold_any (bs l) w (bs_mil h)
theorem refLow_S (l : Nm.Bytes) (h : l.length ≤ 1000000) : Spec Try.prog G 87 #[.string (bs l)] L fun u M => u = .string (bs (Nm.low l)) ∧ M = L := Spec.ofBelow fun w => refLow_any (bs l) w (bs_mil h)
theorem refParent_S (l : Nm.Bytes) (h : l.length ≤ 1000000) : Spec Try.prog G 140 #[.string (bs l)] L fun u M => u = .tuple #[.string (bs (Nm.parentN l)), .bool (Nm.parentB l)] ∧ M = L := Spec.ofBelow fun w => refParent_any (bs l) w (bs_mil h)
theorem refMay_S (l : Nm.Bytes) (h : l.length ≤ 1000000) : Spec Try.prog G 58 #[.string (bs l)] L fun u M => u = .bool (Nm.may l) ∧ M = L := Spec.ofBelow fun w => refMay_any (bs l) w (bs_mil h)
end Go.Proofs.Ytdflhdfapnhjjaa
namespace Go.Proofs.Ytdflhdfapnhjjaa
open Go.RowKit
open Vd (RSet Vdt Vote Rec Quest)
set_option linter.unusedVariables false
variable {G : World} {L : Blocks}
theorem strs_cut {a : Option Addr} {m c : Nat} {l : List Vd.Bytes} (h : sliceR 1 strR L [.slice a m c] l) : m = l.length ∧ m ≤ c ∧ c ≤ maxLen ∧ (l = [] ∨ ∃ b off C te fr, a = some ⟨b, off, none⟩ ∧ (b, Obj.cells C te fr) ∈ L ∧ ∀ i x, l[i]? = some x → C[off + i * 1]? = some (.string (bs x))) := by
  obtain ⟨h1, h2, h3, h4⟩ := sliceR.cut h
  refine ⟨h1, h2, h3, h4.imp id ?_⟩
  rintro ⟨b, off, C, te, fr, q1, q2, q3⟩
  refine ⟨b, off, C, te, fr, q1, q2, fun i x hx => ?_⟩
  obtain ⟨cs', k1, ⟨k2, _⟩, k3⟩ := q3 i x hx
  subst k2
  exact k3 0 _ rfl
theorem take_ext {α : Type} {l m : List α} {k : Nat} {x : α} (h : l.take k = m.take k) (h1 : l[k]? = some x) (h2 : m[k]? = some x) : l.take (k + 1) = m.take (k + 1) := by
  rw [List.take_add_one, List.take_add_one, h, h1, h2]
set_option maxRecDepth 100000 in
theorem Equal_S (va vb : Value) (la lb : List Vd.Bytes) (ha : sliceR 1 strR L [va] la) (hb : sliceR 1 strR L [vb] lb) : Spec Try.prog G 90 #[va, vb] L fun u M => u = .bool (decide (la = lb)) ∧ M = L := by
  obtain ⟨aa, ca, e1, ha⟩ := ha.val
  obtain ⟨ab, cb, e2, hb⟩ := hb.val
  simp only [List.cons.injEq, and_true] at e1 e2
  subst e1 e2
  obtain ⟨_, ka1, ka2, ha⟩ := strs_cut ha
  obtain ⟨_, kb1, kb2, hb⟩ := strs_cut hb
  unfold maxLen at ka2 kb2
  refine Spec_of (n := 26) Try.func90 rfl rfl rfl ?_
  by_cases hlen : la.length = lb.length
  · have d0 : (((la.length : Nat) : Int) != ((lb.length : Nat) : Int)) = false := by simp [hlen]
    repeat (first | with_reducible refine T_seq ?_ | with_reducible refine T_block ?_ | with_reducible refine T_region ?_ | with_reducible refine TL_nil ?_ | with_reducible refine TQ_then ?_ | with_reducible refine T_skip ?_ | refine TL_q (op_move rfl) rfl ?_ | refine TL_q (op_assign rfl) rfl ?_ | (refine' TL_q (op_bin rfl rfl ?_) rfl ?_; rotate_left 1; (· (exact bin_neq))) | refine TL_q (op_len_slice rfl Try.underlying58) rfl ?_ | (refine T_no rfl ?_ ?_; (· (assumption))))
    refine T_loopS (σ := Nat) (fun k => k ≤ la.length ∧ la.take k = lb.take k) (fun k => [(0, .slice aa la.length ca), (1, .slice ab lb.length cb), (12, .int .i64 (la.length : Nat)), (13, .int .i64 (k : Nat))]) (fun k => L) (fun k => la.length - k) 0 ⟨Nat.zero_le _, by simp⟩ ?_ (fun w h => h) ?_
    (repeat (first | exact trivial | refine ⟨rfl, ?_⟩))
    rintro k ⟨hk, heq⟩
    by_cases hlt : k < la.length
    · have d1 : decide (((k : Nat) : Int) < ((la.length : Nat) : Int)) = true := decide_eq_true (by omega)
      obtain ⟨x, hx⟩ : ∃ x, la[k]? = some x := ⟨_, List.getElem?_eq_getElem hlt⟩
      obtain ⟨y, hy⟩ : ∃ y, lb[k]? = some y := ⟨_, List.getElem?_eq_getElem (hlen ▸ hlt)⟩
      rcases ha with rfl | ⟨b1, o1, C1, t1, f1, rfl, m1, q1⟩
      · simp at hlt
      rcases hb with rfl | ⟨b2, o2, C2, t2, f2, rfl, m2, q2⟩
      · simp at hy
      have r1 := q1 k x hx
      have r2 := q2 k y hy
      have hK : ∀ z ∈ [(b1, Obj.cells C1 t1 f1), (b2, Obj.cells C2 t2 f2)], z ∈ L := fun z hz => by
        simp only [List.mem_cons, List.not_mem_nil, or_false] at hz
        rcases hz with rfl | rfl <;> assumption
      by_cases hxy : x = y
      · have d2 : (!(x == y)) = false := by simp [hxy]
        repeat (first | with_reducible refine T_seq ?_ | with_reducible refine T_block ?_ | with_reducible refine T_region ?_ | with_reducible refine TL_nil ?_ | with_reducible refine TQ_then ?_ | with_reducible refine T_skip ?_ | refine TL_q (op_move rfl) rfl ?_ | refine TL_q (op_assign rfl) rfl ?_ | (refine' TL_q (op_bin rfl rfl ?_) rfl ?_; rotate_left 1; (· (exact bin_lss))) | (refine T_yes rfl ?_ ?_; (· (assumption))))
        refine T_draw follows_mixed ([(b1, Obj.cells C1 t1 f1), (b2, Obj.cells C2 t2 f2)]) [] ?_
        (refine' TA_take 0 rfl rfl (by kernel_rfl) (quiet_q (op_move rfl)) ?_ ?_; (· (assumption)))
        (refine' TA_take 1 rfl rfl (by kernel_rfl) (quiet_q (op_move rfl)) ?_ ?_; (· (assumption)))
        (refine' TA_take 2 rfl rfl (by kernel_rfl) (quiet_q (op_idx ety_58 rfl rfl ?_)) ?_ ?_; (· omega); (· (assumption)))
        (refine' TA_take 3 rfl rfl (by kernel_rfl) (quiet_q (op_ld rfl pl_9 ?_ ?_)) ?_ ?_; rotate_left 4; (· repeat ((exact List.mem_cons_self))); (· (assumption)); (· (assumption)))
        (refine' TA_take 4 rfl rfl (by kernel_rfl) (quiet_q (op_move rfl)) ?_ ?_; (· (assumption)))
        (refine' TA_take 5 rfl rfl (by kernel_rfl) (quiet_q (op_move rfl)) ?_ ?_; (· (assumption)))
        (refine' TA_take 6 rfl rfl (by kernel_rfl) (quiet_q (op_idx ety_58 rfl rfl ?_)) ?_ ?_; (· omega); (· (assumption)))
        (refine' TA_take 7 rfl rfl (by kernel_rfl) (quiet_q (op_ld rfl pl_9 ?_ ?_)) ?_ ?_; rotate_left 4; (· repeat (first | exact List.mem_cons_self | apply List.mem_cons_of_mem)); (· (assumption)); (· (assumption)))
        (refine' TA_take 8 rfl rfl (by kernel_rfl) (quiet_q (op_bin rfl rfl ?_)) ?_ ?_; rotate_left 1; (· (exact sbin_neq)); (· (assumption)))
        refine TA_done (by kernel_rfl) ?_
        repeat (first | with_reducible refine T_region ?_ | with_reducible refine TL_nil ?_ | with_reducible refine TQ_then ?_ | with_reducible refine TQ_block ?_ | with_reducible refine T_skip ?_ | refine TL_q (op_move rfl) rfl ?_ | (refine' TL_q (op_bin rfl rfl ?_) rfl ?_; rotate_left 1; (· (exact bin_add ⟨by omega, by omega⟩))) | (refine T_no rfl ?_ ?_; (· (assumption))))
        refine TQ_roundS (k + 1) ⟨hlt, ?_⟩ ?_ (fun w h => h) (by omega)
        · subst hxy
          exact take_ext heq hx hy
        (repeat (first | exact trivial | refine ⟨rfl, ?_⟩))
      · have d2 : (!(x == y)) = true := by simp [hxy]
        repeat (first | with_reducible refine T_seq ?_ | with_reducible refine T_block ?_ | with_reducible refine T_region ?_ | with_reducible refine TL_nil ?_ | with_reducible refine TQ_then ?_ | with_reducible refine T_skip ?_ | refine TL_q (op_move rfl) rfl ?_ | refine TL_q (op_assign rfl) rfl ?_ | (refine' TL_q (op_bin rfl rfl ?_) rfl ?_; rotate_left 1; (· (exact bin_lss))) | (refine T_yes rfl ?_ ?_; (· (assumption))))
        refine T_draw follows_mixed ([(b1, Obj.cells C1 t1 f1), (b2, Obj.cells C2 t2 f2)]) [] ?_
        (refine' TA_take 0 rfl rfl (by kernel_rfl) (quiet_q (op_move rfl)) ?_ ?_; (· (assumption)))
        (refine' TA_take 1 rfl rfl (by kernel_rfl) (quiet_q (op_move rfl)) ?_ ?_; (· (assumption)))
        (refine' TA_take 2 rfl rfl (by kernel_rfl) (quiet_q (op_idx ety_58 rfl rfl ?_)) ?_ ?_; (· omega); (· (assumption)))
        (refine' TA_take 3 rfl rfl (by kernel_rfl) (quiet_q (op_ld rfl pl_9 ?_ ?_)) ?_ ?_; rotate_left 4; (· repeat ((exact List.mem_cons_self))); (· (assumption)); (· (assumption)))
        (refine' TA_take 4 rfl rfl (by kernel_rfl) (quiet_q (op_move rfl)) ?_ ?_; (· (assumption)))
        (refine' TA_take 5 rfl rfl (by kernel_rfl) (quiet_q (op_move rfl)) ?_ ?_; (· (assumption)))
        (refine' TA_take 6 rfl rfl (by kernel_rfl) (quiet_q (op_idx ety_58 rfl rfl ?_)) ?_ ?_; (· omega); (· (assumption)))
        (refine' TA_take 7 rfl rfl (by kernel_rfl) (quiet_q (op_ld rfl pl_9 ?_ ?_)) ?_ ?_; rotate_left 4; (· repeat (first | exact List.mem_cons_self | apply List.mem_cons_of_mem)); (· (assumption)); (· (assumption)))
        (refine' TA_take 8 rfl rfl (by kernel_rfl) (quiet_q (op_bin rfl rfl ?_)) ?_ ?_; rotate_left 1; (· (exact sbin_neq)); (· (assumption)))
        refine TA_done (by kernel_rfl) ?_
        repeat (first | with_reducible refine T_seq ?_ | with_reducible refine T_region ?_ | with_reducible refine TL_nil ?_ | with_reducible refine TQ_then ?_ | with_reducible refine T_ret ?_ | with_reducible refine TQ_then_ret ?_ | with_reducible refine TQ_block_ret ?_ | refine TL_q (op_assign rfl) rfl ?_ | (refine T_yes rfl ?_ ?_; (· (assumption))))
        refine TQ_ret1 4 _ rfl rfl ?_
        refine ⟨?_, rfl⟩
        have : la ≠ lb := fun e => hxy (by rw [e, hy] at hx; exact (Option.some.inj hx).symm)
        simp [this]
    · have d1 : decide (((k : Nat) : Int) < ((la.length : Nat) : Int)) = false := decide_eq_false (by omega)
      have hkn : k = la.length := by omega
      subst hkn
      rw [List.take_length, hlen, List.take_length] at heq
      repeat (first | with_reducible refine T_seq ?_ | with_reducible refine T_region ?_ | with_reducible refine TL_nil ?_ | with_reducible refine TQ_then ?_ | with_reducible refine T_exit ?_ | with_reducible refine T_ret ?_ | with_reducible refine TQ_then_exit ?_ | with_reducible refine TQ_block_exit ?_ | refine TL_q (op_assign rfl) rfl ?_ | (refine' TL_q (op_bin rfl rfl ?_) rfl ?_; rotate_left 1; (· (exact bin_lss))) | (refine T_no rfl ?_ ?_; (· (assumption))))
      refine TQ_ret1 4 _ rfl rfl ?_
      exact ⟨by simp [heq], rfl⟩
  · have d0 : (((la.length : Nat) : Int) != ((lb.length : Nat) : Int)) = true := by simp; omega
    repeat (first | with_reducible refine T_seq ?_ | with_reducible refine T_region ?_ | with_reducible refine TL_nil ?_ | with_reducible refine TQ_then ?_ | with_reducible refine T_ret ?_ | with_reducible refine TQ_then_ret ?_ | refine TL_q (op_move rfl) rfl ?_ | refine TL_q (op_assign rfl) rfl ?_ | (refine' TL_q (op_bin rfl rfl ?_) rfl ?_; rotate_left 1; (· (exact bin_neq))) | refine TL_q (op_len_slice rfl Try.underlying58) rfl ?_ | (refine T_yes rfl ?_ ?_; (· (assumption))))
    refine TQ_ret1 4 _ rfl rfl ?_
    refine ⟨?_, rfl⟩
    have : la ≠ lb := fun e => hlen (by rw [e])
    simp [this]
theorem rset_ne {a b : RSet} (h : ¬ (a.name = b.name ∧ a.kind = b.kind ∧ a.cls = b.cls ∧ a.ttl = b.ttl ∧ a.data = b.data)) : decide (a = b) = false := by
  rw [decide_eq_false_iff_not]
  rintro rfl
  exact h ⟨rfl, rfl, rfl, rfl, rfl⟩
theorem rset_eq {a b : RSet} (h1 : a.name = b.name) (h2 : a.kind = b.kind) (h3 : a.cls = b.cls) (h4 : a.ttl = b.ttl) (h5 : a.data = b.data) : a = b := by
  cases a; cases b; simp_all
set_option maxRecDepth 100000 in
set_option maxHeartbeats 2000000 in
theorem refSame_S (ca cb : List Value) (a b : RSet) (ha : rsR L ca a) (hb : rsR L cb b) : Spec Try.prog G 89 #[.agg ca.toArray, .agg cb.toArray] L fun u M => u = .bool (decide (a = b)) ∧ M = L := by
  obtain ⟨da, rfl, ha, _⟩ := ha
  obtain ⟨db, rfl, hb, _⟩ := hb
  obtain ⟨aa, ka, e1, ha⟩ := ha.val
  obtain ⟨ab, kb, e2, hb⟩ := hb.val
  simp only [List.cons.injEq, and_true] at e1 e2
  subst e1 e2
  obtain ⟨_, ka1, ka2, ha⟩ := strs_cut ha
  obtain ⟨_, kb1, kb2, hb⟩ := strs_cut hb
  unfold maxLen at ka2 kb2
  refine Spec_of (n := 59) Try.func89 rfl rfl rfl ?_
  by_cases n1 : a.name = b.name
  · have d1 : (!(a.name == b.name)) = false := by simp [n1]
    by_cases n2 : a.kind = b.kind
    · have d2 : (a.kind != b.kind) = false := by simp [n2]
      by_cases n3 : a.cls = b.cls
      · have d3 : (a.cls != b.cls) = false := by simp [n3]
        by_cases n4 : a.ttl = b.ttl
        · have d4 : (a.ttl != b.ttl) = false := by simp [n4]
          by_cases hlen : a.data.length = b.data.length
          · have d5 : (((a.data.length : Nat) : Int) != ((b.data.length : Nat) : Int)) = false := by simp [hlen]
            repeat (first | with_reducible refine T_seq ?_ | with_reducible refine T_block ?_ | with_reducible refine T_region ?_ | with_reducible refine TL_nil ?_ | with_reducible refine TQ_then ?_ | with_reducible refine T_skip ?_ | refine TL_q (op_move rfl) rfl ?_ | refine TL_q (op_assign rfl) rfl ?_ | (refine' TL_q (op_bin rfl rfl ?_) rfl ?_; rotate_left 1; (· (exact sbin_neq))) | (refine' TL_q (op_pickF rfl ?_ rfl) rfl ?_; (· (assumption))) | refine TL_q (op_fld rfl fld_60_0) rfl ?_ | (refine' TL_q (op_ld rfl pl_9 ?_ ?_) rfl ?_; rotate_left 4; (· repeat (first | exact List.mem_cons_self | apply List.mem_cons_of_mem)); (· (rfl))) | (refine TL_gpre rfl rfl ?_ ?_; (· (assumption))) | (refine' TL_gq2 (op_bin rfl rfl ?_) rfl ?_; rotate_left 1; (· (exact bin_neq))) | refine TL_gq2 (op_len_slice rfl Try.underlying58) rfl ?_ | refine TL_gq2 (op_fld rfl fld_60_1) rfl ?_ | refine TL_gq2 (op_fld rfl fld_60_2) rfl ?_ | refine TL_gq2 (op_fld rfl fld_60_3) rfl ?_ | refine TL_gq2 (op_fld rfl fld_60_4) rfl ?_ | (refine' TL_gq2 (op_ld rfl pl_9 ?_ ?_) rfl ?_; rotate_left 4; (· repeat (first | exact List.mem_cons_self | apply List.mem_cons_of_mem)); (· (rfl))) | (refine TL_new (op_box rfl rfl) rfl ?_; intro bBox) | (refine T_no rfl ?_ ?_; (· (assumption))))
            rename_i bx
            obtain ⟨CA, hCA⟩ : ∃ C : Array Value, C = #[.string (bs a.name), .int .u16 a.kind, .int .u16 a.cls, .int .u32 a.ttl, .slice aa a.data.length ka] := ⟨_, rfl⟩
            obtain ⟨CB, hCB⟩ : ∃ C : Array Value, C = #[.string (bs b.name), .int .u16 b.kind, .int .u16 b.cls, .int .u32 b.ttl, .slice ab b.data.length kb] := ⟨_, rfl⟩
            have fA : CA[0 + 4]? = some (.slice aa a.data.length ka) := by rw [hCA]; rfl
            have fB : CB[0 + 4]? = some (.slice ab b.data.length kb) := by rw [hCB]; rfl
            refine T_loopS (σ := Nat) (fun k => k ≤ a.data.length ∧ a.data.take k = b.data.take k) (fun k => [(2, .pointer (some ⟨bx, 0, none⟩)), (3, .pointer (some ⟨bBox, 0, none⟩)), (5, .int .i64 (k : Nat))]) (fun k => (bBox, Obj.cells CB 60 (0, 0)) :: (bx, Obj.cells CA 60 (0, 0)) :: L) (fun k => a.data.length - k) 0 ⟨Nat.zero_le _, by simp⟩ ?_ (fun w h => by rw [hCA, hCB]; exact h) ?_
            (repeat (first | exact trivial | refine ⟨rfl, ?_⟩))
            clear hCA hCB
            rintro k ⟨hk, heq⟩
            by_cases hlt : k < a.data.length
            · have e1 : decide (((k : Nat) : Int) < ((a.data.length : Nat) : Int)) = true := decide_eq_true (by omega)
              obtain ⟨x, hx⟩ : ∃ x, a.data[k]? = some x := ⟨_, List.getElem?_eq_getElem hlt⟩
              obtain ⟨y, hy⟩ : ∃ y, b.data[k]? = some y := ⟨_, List.getElem?_eq_getElem (hlen ▸ hlt)⟩
              rcases ha with ha | ⟨b1, o1, C1, t1, f1, rfl, m1, q1⟩
              · rw [ha] at hlt; simp at hlt
              rcases hb with hb | ⟨b2, o2, C2, t2, f2, rfl, m2, q2⟩
              · rw [hb] at hy; simp at hy
              have r1 := q1 k x hx
              have r2 := q2 k y hy
              have hK : ∀ z ∈ [(bx, Obj.cells CA 60 (0, 0)), (bBox, Obj.cells CB 60 (0, 0)), (b1, Obj.cells C1 t1 f1), (b2, Obj.cells C2 t2 f2)], z ∈ (bBox, Obj.cells CB 60 (0, 0)) :: (bx, Obj.cells CA 60 (0, 0)) :: L := fun z hz => by
                simp only [List.mem_cons, List.not_mem_nil, or_false] at hz
                rcases hz with rfl | rfl | rfl | rfl
                · exact List.mem_cons_of_mem _ (List.mem_cons_self ..)
                · exact List.mem_cons_self ..
                · exact List.mem_cons_of_mem _ (List.mem_cons_of_mem _ m1)
                · exact List.mem_cons_of_mem _ (List.mem_cons_of_mem _ m2)
              by_cases hxy : x = y
              · have d6 : (!(x == y)) = false := by simp [hxy]
                repeat (first | with_reducible refine T_seq ?_ | with_reducible refine T_block ?_ | with_reducible refine T_region ?_ | with_reducible refine TL_nil ?_ | with_reducible refine TQ_then ?_ | with_reducible refine T_skip ?_ | refine TL_q (op_move rfl) rfl ?_ | (refine' TL_q (op_bin rfl rfl ?_) rfl ?_; rotate_left 1; (· (exact bin_lss))) | refine TL_q (op_len_slice rfl Try.underlying58) rfl ?_ | refine TL_q (op_fld rfl fld_60_4) rfl ?_ | (refine' TL_q (op_ld rfl pl_9 ?_ ?_) rfl ?_; rotate_left 4; (· repeat (first | exact List.mem_cons_self | apply List.mem_cons_of_mem)); (· (assumption))) | (refine T_yes rfl ?_ ?_; (· (assumption))))
                refine T_draw follows_mixed ([(bx, Obj.cells CA 60 (0, 0)), (bBox, Obj.cells CB 60 (0, 0)), (b1, Obj.cells C1 t1 f1), (b2, Obj.cells C2 t2 f2)]) [] ?_
                (refine' TA_take 0 rfl rfl (by kernel_rfl) (quiet_q (op_fld rfl fld_60_4)) ?_ ?_; (· (assumption)))
                (refine' TA_take 1 rfl rfl (by kernel_rfl) (quiet_q (op_ld rfl pl_58 ?_ ?_)) ?_ ?_; rotate_left 4; (· repeat ((exact List.mem_cons_self))); (· (assumption)); (· (assumption)))
                (refine' TA_take 2 rfl rfl (by kernel_rfl) (quiet_q (op_move rfl)) ?_ ?_; (· (assumption)))
                (refine' TA_take 3 rfl rfl (by kernel_rfl) (quiet_q (op_idx ety_58 rfl rfl ?_)) ?_ ?_; (· omega); (· (assumption)))
                (refine' TA_take 4 rfl rfl (by kernel_rfl) (quiet_q (op_ld rfl pl_9 ?_ ?_)) ?_ ?_; rotate_left 4; (· repeat (first | exact List.mem_cons_self | apply List.mem_cons_of_mem)); (· (assumption)); (· (assumption)))
                (refine' TA_take 5 rfl rfl (by kernel_rfl) (quiet_q (op_fld rfl fld_60_4)) ?_ ?_; (· (assumption)))
                (refine' TA_take 6 rfl rfl (by kernel_rfl) (quiet_q (op_ld rfl pl_58 ?_ ?_)) ?_ ?_; rotate_left 4; (· repeat (first | exact List.mem_cons_self | apply List.mem_cons_of_mem)); (· (assumption)); (· (assumption)))
                (refine' TA_take 7 rfl rfl (by kernel_rfl) (quiet_q (op_move rfl)) ?_ ?_; (· (assumption)))
                (refine' TA_take 8 rfl rfl (by kernel_rfl) (quiet_q (op_idx ety_58 rfl rfl ?_)) ?_ ?_; (· omega); (· (assumption)))
                (refine' TA_take 9 rfl rfl (by kernel_rfl) (quiet_q (op_ld rfl pl_9 ?_ ?_)) ?_ ?_; rotate_left 4; (· repeat (first | exact List.mem_cons_self | apply List.mem_cons_of_mem)); (· (assumption)); (· (assumption)))
                (refine' TA_take 10 rfl rfl (by kernel_rfl) (quiet_q (op_bin rfl rfl ?_)) ?_ ?_; rotate_left 1; (· (exact sbin_neq)); (· (assumption)))
                refine TA_done (by kernel_rfl) ?_
                repeat (first | with_reducible refine T_region ?_ | with_reducible refine TL_nil ?_ | with_reducible refine TQ_then ?_ | with_reducible refine TQ_block ?_ | with_reducible refine T_skip ?_ | refine TL_q (op_move rfl) rfl ?_ | refine TL_q (op_assign rfl) rfl ?_ | (refine' TL_q (op_bin rfl rfl ?_) rfl ?_; rotate_left 1; (· (exact bin_add ⟨by omega, by omega⟩))) | (refine T_no rfl ?_ ?_; (· (assumption))))
                refine TQ_roundS (k + 1) ⟨hlt, ?_⟩ ?_ (fun w h => h) (by omega)
                · subst hxy
                  exact take_ext heq hx hy
                (repeat (first | exact trivial | refine ⟨rfl, ?_⟩))
              · have d6 : (!(x == y)) = true := by simp [hxy]
                repeat (first | with_reducible refine T_seq ?_ | with_reducible refine T_block ?_ | with_reducible refine T_region ?_ | with_reducible refine TL_nil ?_ | with_reducible refine TQ_then ?_ | with_reducible refine T_skip ?_ | refine TL_q (op_move rfl) rfl ?_ | (refine' TL_q (op_bin rfl rfl ?_) rfl ?_; rotate_left 1; (· (exact bin_lss))) | refine TL_q (op_len_slice rfl Try.underlying58) rfl ?_ | refine TL_q (op_fld rfl fld_60_4) rfl ?_ | (refine' TL_q (op_ld rfl pl_9 ?_ ?_) rfl ?_; rotate_left 4; (· repeat (first | exact List.mem_cons_self | apply List.mem_cons_of_mem)); (· (assumption))) | (refine T_yes rfl ?_ ?_; (· (assumption))))
                refine T_draw follows_mixed ([(bx, Obj.cells CA 60 (0, 0)), (bBox, Obj.cells CB 60 (0, 0)), (b1, Obj.cells C1 t1 f1), (b2, Obj.cells C2 t2 f2)]) [] ?_
                (refine' TA_take 0 rfl rfl (by kernel_rfl) (quiet_q (op_fld rfl fld_60_4)) ?_ ?_; (· (assumption)))
                (refine' TA_take 1 rfl rfl (by kernel_rfl) (quiet_q (op_ld rfl pl_58 ?_ ?_)) ?_ ?_; rotate_left 4; (· repeat ((exact List.mem_cons_self))); (· (assumption)); (· (assumption)))
                (refine' TA_take 2 rfl rfl (by kernel_rfl) (quiet_q (op_move rfl)) ?_ ?_; (· (assumption)))
                (refine' TA_take 3 rfl rfl (by kernel_rfl) (quiet_q (op_idx ety_58 rfl rfl ?_)) ?_ ?_; (· omega); (· (assumption)))
                (refine' TA_take 4 rfl rfl (by kernel_rfl) (quiet_q (op_ld rfl pl_9 ?_ ?_)) ?_ ?_; rotate_left 4; (· repeat (first | exact List.mem_cons_self | apply List.mem_cons_of_mem)); (· (assumption)); (· (assumption)))
                (refine' TA_take 5 rfl rfl (by kernel_rfl) (quiet_q (op_fld rfl fld_60_4)) ?_ ?_; (· (assumption)))
                (refine' TA_take 6 rfl rfl (by kernel_rfl) (quiet_q (op_ld rfl pl_58 ?_ ?_)) ?_ ?_; rotate_left 4; (· repeat (first | exact List.mem_cons_self | apply List.mem_cons_of_mem)); (· (assumption)); (· (assumption)))
                (refine' TA_take 7 rfl rfl (by kernel_rfl) (quiet_q (op_move rfl)) ?_ ?_; (· (assumption)))
                (refine' TA_take 8 rfl rfl (by kernel_rfl) (quiet_q (op_idx ety_58 rfl rfl ?_)) ?_ ?_; (· omega); (· (assumption)))
                (refine' TA_take 9 rfl rfl (by kernel_rfl) (quiet_q (op_ld rfl pl_9 ?_ ?_)) ?_ ?_; rotate_left 4; (· repeat (first | exact List.mem_cons_self | apply List.mem_cons_of_mem)); (· (assumption)); (· (assumption)))
                (refine' TA_take 10 rfl rfl (by kernel_rfl) (quiet_q (op_bin rfl rfl ?_)) ?_ ?_; rotate_left 1; (· (exact sbin_neq)); (· (assumption)))
                refine TA_done (by kernel_rfl) ?_
                repeat (first | with_reducible refine T_seq ?_ | with_reducible refine T_region ?_ | with_reducible refine TL_nil ?_ | with_reducible refine TQ_then ?_ | with_reducible refine T_ret ?_ | with_reducible refine TQ_then_ret ?_ | with_reducible refine TQ_block_ret ?_ | refine TL_q (op_assign rfl) rfl ?_ | (refine T_yes rfl ?_ ?_; (· (assumption))))
                refine TQ_heap (fun w h => h.tail.tail) ?_
                refine TQ_ret1 4 _ rfl rfl ?_
                exact ⟨by rw [rset_ne (fun h => hxy (by rw [h.2.2.2.2, hy] at hx; exact (Option.some.inj hx).symm))], rfl⟩
            · have e1 : decide (((k : Nat) : Int) < ((a.data.length : Nat) : Int)) = false := decide_eq_false (by omega)
              have hkn : k = a.data.length := by omega
              subst hkn
              rw [List.take_length, hlen, List.take_length] at heq
              repeat (first | with_reducible refine T_seq ?_ | with_reducible refine T_region ?_ | with_reducible refine TL_nil ?_ | with_reducible refine TQ_then ?_ | with_reducible refine T_exit ?_ | with_reducible refine T_ret ?_ | with_reducible refine TQ_then_exit ?_ | with_reducible refine TQ_block_exit ?_ | refine TL_q (op_move rfl) rfl ?_ | refine TL_q (op_assign rfl) rfl ?_ | (refine' TL_q (op_bin rfl rfl ?_) rfl ?_; rotate_left 1; (· (exact bin_lss))) | refine TL_q (op_len_slice rfl Try.underlying58) rfl ?_ | refine TL_q (op_fld rfl fld_60_4) rfl ?_ | (refine' TL_q (op_ld rfl pl_9 ?_ ?_) rfl ?_; rotate_left 4; (· repeat (first | exact List.mem_cons_self | apply List.mem_cons_of_mem)); (· (assumption))) | (refine T_no rfl ?_ ?_; (· (assumption))))
              refine TQ_heap (fun w h => h.tail.tail) ?_
              refine TQ_ret1 4 _ rfl rfl ?_
              exact ⟨by simp [rset_eq n1 n2 n3 n4 heq], rfl⟩
          · have d5 : (((a.data.length : Nat) : Int) != ((b.data.length : Nat) : Int)) = true := by simp; omega
            repeat (first | with_reducible refine T_seq ?_ | with_reducible refine T_region ?_ | with_reducible refine TL_nil ?_ | with_reducible refine TQ_then ?_ | with_reducible refine T_ret ?_ | with_reducible refine TQ_then_ret ?_ | refine TL_q (op_move rfl) rfl ?_ | refine TL_q (op_assign rfl) rfl ?_ | (refine' TL_q (op_bin rfl rfl ?_) rfl ?_; rotate_left 1; (· (exact sbin_neq))) | (refine' TL_q (op_pickF rfl ?_ rfl) rfl ?_; (· (assumption))) | refine TL_q (op_fld rfl fld_60_0) rfl ?_ | (refine' TL_q (op_ld rfl pl_9 ?_ ?_) rfl ?_; rotate_left 4; (· repeat (first | exact List.mem_cons_self | apply List.mem_cons_of_mem)); (· (rfl))) | (refine TL_gpre rfl rfl ?_ ?_; (· (assumption))) | (refine' TL_gq2 (op_bin rfl rfl ?_) rfl ?_; rotate_left 1; (· (exact bin_neq))) | refine TL_gq2 (op_len_slice rfl Try.underlying58) rfl ?_ | refine TL_gq2 (op_fld rfl fld_60_1) rfl ?_ | refine TL_gq2 (op_fld rfl fld_60_2) rfl ?_ | refine TL_gq2 (op_fld rfl fld_60_3) rfl ?_ | refine TL_gq2 (op_fld rfl fld_60_4) rfl ?_ | (refine' TL_gq2 (op_ld rfl pl_9 ?_ ?_) rfl ?_; rotate_left 4; (· repeat (first | exact List.mem_cons_self | apply List.mem_cons_of_mem)); (· (rfl))) | (refine TL_new (op_box rfl rfl) rfl ?_; intro bBox) | (refine T_yes rfl ?_ ?_; (· (assumption))))
            refine TQ_heap (fun w h => h.tail.tail) ?_
            refine TQ_ret1 4 _ rfl rfl ?_
            exact ⟨by rw [rset_ne (fun h => hlen (by rw [h.2.2.2.2]))], rfl⟩
        · have d4 : (a.ttl != b.ttl) = true := by simp [n4]
          repeat (first | with_reducible refine T_seq ?_ | with_reducible refine T_region ?_ | with_reducible refine TL_nil ?_ | with_reducible refine TQ_then ?_ | with_reducible refine T_ret ?_ | with_reducible refine TQ_then_ret ?_ | refine TL_q (op_move rfl) rfl ?_ | refine TL_q (op_assign rfl) rfl ?_ | (refine' TL_q (op_bin rfl rfl ?_) rfl ?_; rotate_left 1; (· (exact sbin_neq))) | (refine' TL_q (op_pickT rfl ?_ rfl) rfl ?_; (· (assumption))) | (refine' TL_q (op_pickF rfl ?_ rfl) rfl ?_; (· (assumption))) | refine TL_q (op_fld rfl fld_60_0) rfl ?_ | (refine' TL_q (op_ld rfl pl_9 ?_ ?_) rfl ?_; rotate_left 4; (· repeat (first | exact List.mem_cons_self | apply List.mem_cons_of_mem)); (· (rfl))) | (refine TL_gpre rfl rfl ?_ ?_; (· (assumption))) | (refine' TL_gq2 (op_bin rfl rfl ?_) rfl ?_; rotate_left 1; (· (exact bin_neq))) | refine TL_gq2 (op_fld rfl fld_60_1) rfl ?_ | refine TL_gq2 (op_fld rfl fld_60_2) rfl ?_ | refine TL_gq2 (op_fld rfl fld_60_3) rfl ?_ | (refine' TL_gq2 (op_ld rfl pl_9 ?_ ?_) rfl ?_; rotate_left 4; (· repeat (first | exact List.mem_cons_self | apply List.mem_cons_of_mem)); (· (rfl))) | (refine TL_gno rfl rfl ?_ rfl ?_; (· (assumption))) | (refine TL_new (op_box rfl rfl) rfl ?_; intro bBox) | (refine T_yes rfl ?_ ?_; (· (with_reducible rfl))))
          refine TQ_heap (fun w h => h.tail.tail) ?_
          refine TQ_ret1 4 _ rfl rfl ?_
          exact ⟨by rw [rset_ne (fun h => n4 h.2.2.2.1)], rfl⟩
      · have d3 : (a.cls != b.cls) = true := by simp [n3]
        repeat (first | with_reducible refine T_seq ?_ | with_reducible refine T_region ?_ | with_reducible refine TL_nil ?_ | with_reducible refine TQ_then ?_ | with_reducible refine T_ret ?_ | with_reducible refine TQ_then_ret ?_ | refine TL_q (op_move rfl) rfl ?_ | refine TL_q (op_assign rfl) rfl ?_ | (refine' TL_q (op_bin rfl rfl ?_) rfl ?_; rotate_left 1; (· (exact sbin_neq))) | (refine' TL_q (op_pickT rfl ?_ rfl) rfl ?_; (· first | with_reducible rfl | assumption)) | (refine' TL_q (op_pickF rfl ?_ rfl) rfl ?_; (· (assumption))) | refine TL_q (op_fld rfl fld_60_0) rfl ?_ | (refine' TL_q (op_ld rfl pl_9 ?_ ?_) rfl ?_; rotate_left 4; (· repeat (first | exact List.mem_cons_self | apply List.mem_cons_of_mem)); (· (rfl))) | (refine TL_gpre rfl rfl ?_ ?_; (· (assumption))) | (refine' TL_gq2 (op_bin rfl rfl ?_) rfl ?_; rotate_left 1; (· (exact bin_neq))) | refine TL_gq2 (op_fld rfl fld_60_1) rfl ?_ | refine TL_gq2 (op_fld rfl fld_60_2) rfl ?_ | (refine' TL_gq2 (op_ld rfl pl_9 ?_ ?_) rfl ?_; rotate_left 4; (· repeat (first | exact List.mem_cons_self | apply List.mem_cons_of_mem)); (· (rfl))) | (refine TL_gno rfl rfl ?_ rfl ?_; (· first | assumption | exact Bool.not_false)) | (refine TL_new (op_box rfl rfl) rfl ?_; intro bBox) | (refine T_yes rfl ?_ ?_; (· (with_reducible rfl))))
        refine TQ_heap (fun w h => h.tail.tail) ?_
        refine TQ_ret1 4 _ rfl rfl ?_
        exact ⟨by rw [rset_ne (fun h => n3 h.2.2.1)], rfl⟩
    · have d2 : (a.kind != b.kind) = true := by simp [n2]
      repeat (first | with_reducible refine T_seq ?_ | with_reducible refine T_region ?_ | with_reducible refine TL_nil ?_ | with_reducible refine TQ_then ?_ | with_reducible refine T_ret ?_ | with_reducible refine TQ_then_ret ?_ | refine TL_q (op_move rfl) rfl ?_ | refine TL_q (op_assign rfl) rfl ?_ | (refine' TL_q (op_bin rfl rfl ?_) rfl ?_; rotate_left 1; (· (exact sbin_neq))) | (refine' TL_q (op_pickT rfl ?_ rfl) rfl ?_; (· first | with_reducible rfl | assumption)) | (refine' TL_q (op_pickF rfl ?_ rfl) rfl ?_; (· (assumption))) | refine TL_q (op_fld rfl fld_60_0) rfl ?_ | (refine' TL_q (op_ld rfl pl_9 ?_ ?_) rfl ?_; rotate_left 4; (· repeat (first | exact List.mem_cons_self | apply List.mem_cons_of_mem)); (· (rfl))) | (refine TL_gpre rfl rfl ?_ ?_; (· (assumption))) | (refine' TL_gq2 (op_bin rfl rfl ?_) rfl ?_; rotate_left 1; (· (exact bin_neq))) | refine TL_gq2 (op_fld rfl fld_60_1) rfl ?_ | (refine' TL_gq2 (op_ld rfl pl_9 ?_ ?_) rfl ?_; rotate_left 4; (· repeat (first | exact List.mem_cons_self | apply List.mem_cons_of_mem)); (· (rfl))) | (refine TL_gno rfl rfl ?_ rfl ?_; (· first | assumption | exact Bool.not_false)) | (refine TL_new (op_box rfl rfl) rfl ?_; intro bBox) | (refine T_yes rfl ?_ ?_; (· (with_reducible rfl))))
      refine TQ_heap (fun w h => h.tail.tail) ?_
      refine TQ_ret1 4 _ rfl rfl ?_
      exact ⟨by rw [rset_ne (fun h => n2 h.2.1)], rfl⟩
  · have d1 : (!(a.name == b.name)) = true := by simp [n1]
    repeat (first | with_reducible refine T_seq ?_ | with_reducible refine T_region ?_ | with_reducible refine TL_nil ?_ | with_reducible refine TQ_then ?_ | with_reducible refine T_ret ?_ | with_reducible refine TQ_then_ret ?_ | refine TL_q (op_move rfl) rfl ?_ | refine TL_q (op_assign rfl) rfl ?_ | (refine' TL_q (op_bin rfl rfl ?_) rfl ?_; rotate_left 1; (· (exact sbin_neq))) | (refine' TL_q (op_pickT rfl ?_ rfl) rfl ?_; (· first | with_reducible rfl | assumption)) | refine TL_q (op_fld rfl fld_60_0) rfl ?_ | (refine' TL_q (op_ld rfl pl_9 ?_ ?_) rfl ?_; rotate_left 4; (· repeat (first | exact List.mem_cons_self | apply List.mem_cons_of_mem)); (· (rfl))) | (refine TL_gno rfl rfl ?_ rfl ?_; (· first | assumption | exact Bool.not_false)) | (refine TL_new (op_box rfl rfl) rfl ?_; intro bBox) | (refine T_yes rfl ?_ ?_; (· (with_reducible rfl))))
    refine TQ_heap (fun w h => h.tail.tail) ?_
    refine TQ_ret1 4 _ rfl rfl ?_
    exact ⟨by rw [rset_ne (fun h => n1 h.1)], rfl⟩
theorem sets_cut {a : Option Addr} {m c : Nat} {l : List RSet} (h : sliceR 5 rsR L [.slice a m c] l) : m = l.length ∧ m ≤ c ∧ c ≤ maxLen ∧ (l = [] ∨ ∃ b off C te fr, a = some ⟨b, off, none⟩ ∧ (b, Obj.cells C te fr) ∈ L ∧
    ∀ i x, l[i]? = some x → ∃ cs', cs'.length = 5 ∧ rsR L cs' x ∧ ∀ j v, cs'[j]? = some v → C[off + i * 5 + j]? = some v) := sliceR.cut h
set_option maxRecDepth 100000 in
set_option maxHeartbeats 2000000 in
theorem SameAll_S (va vb : Value) (la lb : List RSet) (ha : sliceR 5 rsR L [va] la) (hb : sliceR 5 rsR L [vb] lb) : Spec Try.prog G 62 #[va, vb] L fun u M => u = .bool (decide (la = lb)) ∧ M = L := by
  obtain ⟨aa, ca, e1, ha⟩ := ha.val
  obtain ⟨ab, cb, e2, hb⟩ := hb.val
  simp only [List.cons.injEq, and_true] at e1 e2
  subst e1 e2
  obtain ⟨_, ka1, ka2, ha⟩ := sets_cut ha
  obtain ⟨_, kb1, kb2, hb⟩ := sets_cut hb
  unfold maxLen at ka2 kb2
  refine Spec_of (n := 27) Try.func62 rfl rfl rfl ?_
  by_cases hlen : la.length = lb.length
  · have d0 : (((la.length : Nat) : Int) != ((lb.length : Nat) : Int)) = false := by simp [hlen]
    repeat (first | with_reducible refine T_seq ?_ | with_reducible refine T_block ?_ | with_reducible refine T_region ?_ | with_reducible refine TL_nil ?_ | with_reducible refine TQ_then ?_ | with_reducible refine T_skip ?_ | refine TL_q (op_move rfl) rfl ?_ | refine TL_q (op_assign rfl) rfl ?_ | (refine' TL_q (op_bin rfl rfl ?_) rfl ?_; rotate_left 1; (· (exact bin_neq))) | refine TL_q (op_len_slice rfl Try.underlying40) rfl ?_ | (refine T_no rfl ?_ ?_; (· (assumption))))
    refine T_loopS (σ := Nat) (fun k => k ≤ la.length ∧ la.take k = lb.take k) (fun k => [(0, .slice aa la.length ca), (1, .slice ab lb.length cb), (5, .int .i64 (k : Nat))]) (fun k => L) (fun k => la.length - k) 0 ⟨Nat.zero_le _, by simp⟩ ?_ (fun w h => h) ?_
    (repeat (first | exact trivial | refine ⟨rfl, ?_⟩))
    rintro k ⟨hk, heq⟩
    by_cases hlt : k < la.length
    · have d1 : decide (((k : Nat) : Int) < ((la.length : Nat) : Int)) = true := decide_eq_true (by omega)
      obtain ⟨x, hx⟩ : ∃ x, la[k]? = some x := ⟨_, List.getElem?_eq_getElem hlt⟩
      obtain ⟨y, hy⟩ : ∃ y, lb[k]? = some y := ⟨_, List.getElem?_eq_getElem (hlen ▸ hlt)⟩
      rcases ha with rfl | ⟨b1, o1, C1, t1, f1, rfl, m1, q1⟩
      · simp at hlt
      rcases hb with rfl | ⟨b2, o2, C2, t2, f2, rfl, m2, q2⟩
      · simp at hy
      obtain ⟨ca', ha1, ha2, hca⟩ := q1 k x hx
      obtain ⟨cb', hb1, hb2, hcb⟩ := q2 k y hy
      have hK : ∀ z ∈ [(b1, Obj.cells C1 t1 f1), (b2, Obj.cells C2 t2 f2)], z ∈ L := fun z hz => by
        simp only [List.mem_cons, List.not_mem_nil, or_false] at hz
        rcases hz with rfl | rfl <;> assumption
      by_cases hxy : x = y
      · have d2 : (!decide (x = y)) = false := by simp [hxy]
        repeat (first | with_reducible refine T_seq ?_ | with_reducible refine T_block ?_ | with_reducible refine T_region ?_ | with_reducible refine TL_nil ?_ | with_reducible refine TQ_then ?_ | with_reducible refine T_skip ?_ | refine TL_q (op_move rfl) rfl ?_ | (refine' TL_q (op_bin rfl rfl ?_) rfl ?_; rotate_left 1; (· (exact bin_lss))) | refine TL_q (op_len_slice rfl Try.underlying40) rfl ?_ | (refine T_yes rfl ?_ ?_; (· (assumption))))
        refine T_draw follows_mixed ([(b1, Obj.cells C1 t1 f1), (b2, Obj.cells C2 t2 f2)]) [] ?_
        (refine' TA_take 0 rfl rfl (by kernel_rfl) (quiet_q (op_move rfl)) ?_ ?_; (· (assumption)))
        (refine' TA_take 1 rfl rfl (by kernel_rfl) (quiet_q (op_move rfl)) ?_ ?_; (· (assumption)))
        (refine' TA_take 2 rfl rfl (by kernel_rfl) (quiet_q (op_idx ety_40 rfl rfl ?_)) ?_ ?_; (· omega); (· (assumption)))
        (refine' TA_take 3 rfl rfl (by kernel_rfl) (quiet_q (op_ldA ca' rfl (by rw [ha1]; exact st_60) (List.mem_cons_self ..) hca)) ?_ ?_; (· (assumption)))
        (refine' TA_take 4 rfl rfl (by kernel_rfl) (quiet_q (op_move rfl)) ?_ ?_; (· (assumption)))
        (refine' TA_take 5 rfl rfl (by kernel_rfl) (quiet_q (op_move rfl)) ?_ ?_; (· (assumption)))
        (refine' TA_take 6 rfl rfl (by kernel_rfl) (quiet_q (op_idx ety_40 rfl rfl ?_)) ?_ ?_; (· omega); (· (assumption)))
        (refine' TA_take 7 rfl rfl (by kernel_rfl) (quiet_q (op_ldA cb' rfl (by rw [hb1]; exact st_60) (List.mem_cons_of_mem _ (List.mem_cons_self ..)) hcb)) ?_ ?_; (· (assumption)))
        refine TA_oneD 8 (by kernel_rfl) rfl rfl rfl rfl (op_call hb_89 rfl (refSame_S ca' cb' x y ha2 hb2)) ?_; rintro _ _ ⟨rfl, rfl⟩; refine ⟨Or.inr hK, ?_⟩
        (refine' TA_take 9 rfl rfl (by kernel_rfl) (quiet_q (op_not rfl)) ?_ ?_; (· (assumption)))
        refine TA_done (by kernel_rfl) ?_
        repeat (first | with_reducible refine T_region ?_ | with_reducible refine TL_nil ?_ | with_reducible refine TQ_then ?_ | with_reducible refine TQ_block ?_ | with_reducible refine T_skip ?_ | refine TL_q (op_move rfl) rfl ?_ | refine TL_q (op_assign rfl) rfl ?_ | (refine' TL_q (op_bin rfl rfl ?_) rfl ?_; rotate_left 1; (· (exact bin_add ⟨by omega, by omega⟩))) | (refine T_no rfl ?_ ?_; (· (assumption))))
        refine TQ_roundS (k + 1) ⟨hlt, ?_⟩ ?_ (fun w h => h) (by omega)
        · subst hxy
          exact take_ext heq hx hy
        (repeat (first | exact trivial | refine ⟨rfl, ?_⟩))
      · have d2 : (!decide (x = y)) = true := by simp [hxy]
        repeat (first | with_reducible refine T_seq ?_ | with_reducible refine T_block ?_ | with_reducible refine T_region ?_ | with_reducible refine TL_nil ?_ | with_reducible refine TQ_then ?_ | with_reducible refine T_skip ?_ | refine TL_q (op_move rfl) rfl ?_ | (refine' TL_q (op_bin rfl rfl ?_) rfl ?_; rotate_left 1; (· (exact bin_lss))) | refine TL_q (op_len_slice rfl Try.underlying40) rfl ?_ | (refine T_yes rfl ?_ ?_; (· (assumption))))
        refine T_draw follows_mixed ([(b1, Obj.cells C1 t1 f1), (b2, Obj.cells C2 t2 f2)]) [] ?_
        (refine' TA_take 0 rfl rfl (by kernel_rfl) (quiet_q (op_move rfl)) ?_ ?_; (· (assumption)))
        (refine' TA_take 1 rfl rfl (by kernel_rfl) (quiet_q (op_move rfl)) ?_ ?_; (· (assumption)))
        (refine' TA_take 2 rfl rfl (by kernel_rfl) (quiet_q (op_idx ety_40 rfl rfl ?_)) ?_ ?_; (· omega); (· (assumption)))
        (refine' TA_take 3 rfl rfl (by kernel_rfl) (quiet_q (op_ldA ca' rfl (by rw [ha1]; exact st_60) (List.mem_cons_self ..) hca)) ?_ ?_; (· (assumption)))
        (refine' TA_take 4 rfl rfl (by kernel_rfl) (quiet_q (op_move rfl)) ?_ ?_; (· (assumption)))
        (refine' TA_take 5 rfl rfl (by kernel_rfl) (quiet_q (op_move rfl)) ?_ ?_; (· (assumption)))
        (refine' TA_take 6 rfl rfl (by kernel_rfl) (quiet_q (op_idx ety_40 rfl rfl ?_)) ?_ ?_; (· omega); (· (assumption)))
        (refine' TA_take 7 rfl rfl (by kernel_rfl) (quiet_q (op_ldA cb' rfl (by rw [hb1]; exact st_60) (List.mem_cons_of_mem _ (List.mem_cons_self ..)) hcb)) ?_ ?_; (· (assumption)))
        refine TA_oneD 8 (by kernel_rfl) rfl rfl rfl rfl (op_call hb_89 rfl (refSame_S ca' cb' x y ha2 hb2)) ?_; rintro _ _ ⟨rfl, rfl⟩; refine ⟨Or.inr hK, ?_⟩
        (refine' TA_take 9 rfl rfl (by kernel_rfl) (quiet_q (op_not rfl)) ?_ ?_; (· (assumption)))
        refine TA_done (by kernel_rfl) ?_
        repeat (first | with_reducible refine T_seq ?_ | with_reducible refine T_region ?_ | with_reducible refine TL_nil ?_ | with_reducible refine TQ_then ?_ | with_reducible refine T_ret ?_ | with_reducible refine TQ_then_ret ?_ | with_reducible refine TQ_block_ret ?_ | refine TL_q (op_assign rfl) rfl ?_ | (refine T_yes rfl ?_ ?_; (· (assumption))))
        refine TQ_ret1 4 _ rfl rfl ?_
        refine ⟨?_, rfl⟩
        have : la ≠ lb := fun e => hxy (by rw [e, hy] at hx; exact (Option.some.inj hx).symm)
        simp [this]
    · have d1 : decide (((k : Nat) : Int) < ((la.length : Nat) : Int)) = false := decide_eq_false (by omega)
      have hkn : k = la.length := by omega
      subst hkn
      rw [List.take_length, hlen, List.take_length] at heq
      repeat (first | with_reducible refine T_seq ?_ | with_reducible refine T_region ?_ | with_reducible refine TL_nil ?_ | with_reducible refine TQ_then ?_ | with_reducible refine T_exit ?_ | with_reducible refine T_ret ?_ | with_reducible refine TQ_then_exit ?_ | with_reducible refine TQ_block_exit ?_ | refine TL_q (op_move rfl) rfl ?_ | refine TL_q (op_assign rfl) rfl ?_ | (refine' TL_q (op_bin rfl rfl ?_) rfl ?_; rotate_left 1; (· (exact bin_lss))) | refine TL_q (op_len_slice rfl Try.underlying40) rfl ?_ | (refine T_no rfl ?_ ?_; (· (assumption))))
      refine TQ_ret1 4 _ rfl rfl ?_
      exact ⟨by simp [heq], rfl⟩
  · have d0 : (((la.length : Nat) : Int) != ((lb.length : Nat) : Int)) = true := by simp; omega
    repeat (first | with_reducible refine T_seq ?_ | with_reducible refine T_region ?_ | with_reducible refine TL_nil ?_ | with_reducible refine TQ_then ?_ | with_reducible refine T_ret ?_ | with_reducible refine TQ_then_ret ?_ | refine TL_q (op_move rfl) rfl ?_ | refine TL_q (op_assign rfl) rfl ?_ | (refine' TL_q (op_bin rfl rfl ?_) rfl ?_; rotate_left 1; (· (exact bin_neq))) | refine TL_q (op_len_slice rfl Try.underlying40) rfl ?_ | (refine T_yes rfl ?_ ?_; (· (assumption))))
    refine TQ_ret1 4 _ rfl rfl ?_
    refine ⟨?_, rfl⟩
    have : la ≠ lb := fun e => hlen (by rw [e])
    simp [this]
theorem vd_eq {a b : Vdt} : a = b ↔ a.code = b.code ∧ a.sets = b.sets ∧ a.soa = b.soa := by
  cases a; cases b; simp
set_option maxRecDepth 100000 in
theorem vSame_S (ca cb : List Value) (a b : Vdt) (ha : vdR L ca a) (hb : vdR L cb b) : Spec Try.prog G 23 #[.agg ca.toArray, .agg cb.toArray] L fun u M => u = .bool (decide (a = b)) ∧ M = L := by
  obtain ⟨a1, a2, rfl, ha1, ha2, _⟩ := ha
  obtain ⟨b1, b2, rfl, hb1, hb2, _⟩ := hb
  refine Spec_of (n := 24) Try.func23 rfl rfl rfl ?_
  cases n1 : a.code == b.code with
  | false =>
    repeat (first | with_reducible refine T_seq ?_ | with_reducible refine T_region ?_ | with_reducible refine TL_nil ?_ | with_reducible refine TQ_then ?_ | with_reducible refine T_ret ?_ | refine TL_q (op_move rfl) rfl ?_ | refine TL_q (op_assign rfl) rfl ?_ | (refine' TL_q (op_bin rfl rfl ?_) rfl ?_; rotate_left 1; (· (exact bin_eql))) | (refine' TL_q (op_pickF rfl ?_ rfl) rfl ?_; (· first | with_reducible rfl | assumption)) | refine TL_q (op_fld rfl fld_42_0) rfl ?_ | (refine' TL_q (op_ld rfl pl_5 ?_ ?_) rfl ?_; rotate_left 4; (· repeat (first | exact List.mem_cons_self | apply List.mem_cons_of_mem)); (· (rfl))) | (refine TL_gno rfl rfl ?_ rfl ?_; (· first | assumption | exact Bool.not_true)) | (refine TL_new (op_box rfl rfl) rfl ?_; intro bBox))
    refine TQ_heap (fun w h => h.tail.tail) ?_
    refine TQ_ret1 4 _ rfl rfl ?_
    refine ⟨?_, rfl⟩
    have : ¬ a = b := fun e => by rw [e] at n1; simp at n1
    simp [this]
  | true =>
    repeat (first | with_reducible refine T_seq ?_ | with_reducible refine T_region ?_ | with_reducible refine TL_nil ?_ | with_reducible refine TQ_then ?_ | refine TL_q (op_move rfl) rfl ?_ | refine TL_q (op_assign rfl) rfl ?_ | (refine' TL_q (op_bin rfl rfl ?_) rfl ?_; rotate_left 1; (· (exact bin_eql))) | refine TL_q (op_fld rfl fld_42_0) rfl ?_ | (refine' TL_q (op_ld rfl pl_5 ?_ ?_) rfl ?_; rotate_left 4; (· repeat (first | exact List.mem_cons_self | apply List.mem_cons_of_mem)); (· (rfl))) | (refine TL_gpre rfl rfl ?_ ?_; (· (assumption))) | refine TL_gq2 (op_fld rfl fld_42_1) rfl ?_ | (refine' TL_gq2 (op_ld rfl pl_5 ?_ ?_) rfl ?_; rotate_left 4; (· repeat (first | exact List.mem_cons_self | apply List.mem_cons_of_mem)); (· (rfl))) | (refine TL_new (op_box rfl rfl) rfl ?_; intro bBox))
    refine TG_op (op_call hb_62 rfl (SameAll_S _ _ a.sets b.sets (mono_slice mono_set _ _ _ _ (fun q hq => List.mem_cons_of_mem _ (List.mem_cons_of_mem _ hq)) ha1) (mono_slice mono_set _ _ _ _ (fun q hq => List.mem_cons_of_mem _ (List.mem_cons_of_mem _ hq)) hb1))) rfl ?_
    cases n2 : decide (a.sets = b.sets) with
    | false =>
      repeat (first | with_reducible refine TL_nil ?_ | with_reducible refine TQ_then ?_ | with_reducible refine T_ret ?_ | refine TL_q (op_move rfl) rfl ?_ | refine TL_q (op_assign rfl) rfl ?_ | (refine' TL_q (op_pickT rfl ?_ rfl) rfl ?_; (· (assumption))) | (refine' TL_q (op_pickF rfl ?_ rfl) rfl ?_; (· (with_reducible rfl))) | (refine TL_gno rfl rfl ?_ rfl ?_; (· (exact Bool.not_true))))
      refine TQ_heap (fun w h => h.tail.tail) ?_
      refine TQ_ret1 4 _ rfl rfl ?_
      refine ⟨?_, rfl⟩
      have : ¬ a = b := fun e => by rw [e] at n2; simp at n2
      simp [this]
    | true =>
      repeat (first | refine TL_q (op_move rfl) rfl ?_ | (refine' TL_q (op_pickT rfl ?_ rfl) rfl ?_; (· (assumption))) | (refine TL_gpre rfl rfl ?_ ?_; (· (with_reducible rfl))) | refine TL_gq2 (op_fld rfl fld_42_2) rfl ?_ | (refine' TL_gq2 (op_ld rfl pl_5 ?_ ?_) rfl ?_; rotate_left 4; (· repeat (first | exact List.mem_cons_self | apply List.mem_cons_of_mem)); (· (rfl))))
      refine TG_op (op_call hb_62 rfl (SameAll_S _ _ a.soa b.soa (mono_slice mono_set _ _ _ _ (fun q hq => List.mem_cons_of_mem _ (List.mem_cons_of_mem _ hq)) ha2) (mono_slice mono_set _ _ _ _ (fun q hq => List.mem_cons_of_mem _ (List.mem_cons_of_mem _ hq)) hb2))) rfl ?_
      repeat (first | with_reducible refine TL_nil ?_ | with_reducible refine TQ_then ?_ | with_reducible refine T_ret ?_ | refine TL_q (op_assign rfl) rfl ?_ | (refine' TL_q (op_pickT rfl ?_ rfl) rfl ?_; (· (with_reducible rfl))))
      refine TQ_heap (fun w h => h.tail.tail) ?_
      refine TQ_ret1 4 _ rfl rfl ?_
      refine ⟨?_, rfl⟩
      simp only [decide_eq_true_eq] at n2
      rw [beq_iff_eq] at n1
      congr 1
      simp [vd_eq, n1, n2]
end Go.Proofs.Ytdflhdfapnhjjaa
namespace Go.Proofs.Ytdflhdfapnhjjaa
open Go.RowKit
open Vd (RSet Vdt Vote Rec Quest)
set_option linter.unusedVariables false
section
variable {G : World} {P : Program} {n : Nat} {ρ : Slots} {L : Blocks} {ty : TypeId}
/-- A call of a function value. -/
theorem op_callV {f : FuncId} {x : Operand} {xs : List Operand} {ats : Array TypeId} {vs cap : List Value} {Φ : Value → Blocks → Prop} (hb : hasBody P f = true) (hx : ev ρ x = some (.func (.func f) #[] cap.toArray)) (ha : evArgs ρ xs = some vs) (h : Spec P G f (vs ++ cap).toArray L Φ) :
    OpT P G ρ L (.call ⟨.value x, xs.toArray, ats⟩) ty Φ :=
  ⟨fun r hr w hw o ho _ => by
    have hm := evArgs_map hr xs vs ha
    have hrf := hr _ _ hx
    have : execOp r o = callFunc f (vs ++ cap).toArray := by
      simp only [execOp, ho, resolve, hrf, Deferred.ofValue]
      show invoke (.fn (.func f) cap.toArray) _ = _
      simp only [invoke, List.map_toArray, hm]
      simp
    rw [this, run_callFunc hb]
    refine (h.out w hw).mono fun e w' ⟨v, L', h1, h2, h3⟩ => ⟨v, h1, L', h2, h3⟩⟩
end
variable {G : World} {L : Blocks}
theorem mem2 {p q r : Nat × Obj} (h : r ∈ L) : r ∈ p :: q :: L := List.mem_cons_of_mem _ (List.mem_cons_of_mem _ h)
theorem rsR.val {cs : List Value} {s : RSet} (h : rsR L cs s) : ∃ a c, cs = [.string (bs s.name), .int .u16 s.kind, .int .u16 s.cls, .int .u32 s.ttl, .slice a s.data.length c] ∧ sliceR 1 strR L [.slice a s.data.length c] s.data := by
  obtain ⟨d, rfl, hd, _⟩ := h
  obtain ⟨a, c, e, hd⟩ := hd.val
  simp only [List.cons.injEq, and_true] at e
  subst e
  exact ⟨a, c, rfl, hd⟩
set_option maxRecDepth 100000 in
set_option maxHeartbeats 2000000 in
theorem rSame_S (ca cb : List Value) (a b : RSet) (ha : rsR L ca a) (hb : rsR L cb b) : Spec Try.prog G 65 #[.agg ca.toArray, .agg cb.toArray] L fun u M => u = .bool (decide (a = b)) ∧ M = L := by
  obtain ⟨aa, ka, rfl, sa⟩ := ha.val
  obtain ⟨ab, kb, rfl, sb⟩ := hb.val
  refine Spec_of (n := 38) Try.func65 rfl rfl rfl ?_
  cases n1 : a.name == b.name with
  | false =>
    repeat (first | with_reducible refine T_seq ?_ | with_reducible refine T_region ?_ | with_reducible refine TL_nil ?_ | with_reducible refine TQ_then ?_ | with_reducible refine T_ret ?_ | refine TL_q (op_move rfl) rfl ?_ | refine TL_q (op_assign rfl) rfl ?_ | (refine' TL_q (op_bin rfl rfl ?_) rfl ?_; rotate_left 1; (· (exact sbin_eql))) | (refine' TL_q (op_pickF rfl ?_ rfl) rfl ?_; (· first | with_reducible rfl | assumption)) | refine TL_q (op_fld rfl fld_60_0) rfl ?_ | (refine' TL_q (op_ld rfl pl_9 ?_ ?_) rfl ?_; rotate_left 4; (· repeat (first | exact List.mem_cons_self | apply List.mem_cons_of_mem)); (· (rfl))) | (refine TL_gno rfl rfl ?_ rfl ?_; (· first | assumption | exact Bool.not_true)) | (refine TL_new (op_box rfl rfl) rfl ?_; intro bBox))
    refine TQ_heap (fun w h => h.tail.tail) ?_
    refine TQ_ret1 4 _ rfl rfl ?_
    exact ⟨by rw [rset_ne (fun h => by rw [h.1] at n1; simp at n1)], rfl⟩
  | true =>
    cases n2 : a.kind == b.kind with
    | false =>
      repeat (first | with_reducible refine T_seq ?_ | with_reducible refine T_region ?_ | with_reducible refine TL_nil ?_ | with_reducible refine TQ_then ?_ | with_reducible refine T_ret ?_ | refine TL_q (op_move rfl) rfl ?_ | refine TL_q (op_assign rfl) rfl ?_ | (refine' TL_q (op_bin rfl rfl ?_) rfl ?_; rotate_left 1; (· (exact sbin_eql))) | (refine' TL_q (op_pickT rfl ?_ rfl) rfl ?_; (· (assumption))) | (refine' TL_q (op_pickF rfl ?_ rfl) rfl ?_; (· first | with_reducible rfl | assumption)) | refine TL_q (op_fld rfl fld_60_0) rfl ?_ | (refine' TL_q (op_ld rfl pl_9 ?_ ?_) rfl ?_; rotate_left 4; (· repeat (first | exact List.mem_cons_self | apply List.mem_cons_of_mem)); (· (rfl))) | (refine TL_gpre rfl rfl ?_ ?_; (· (assumption))) | (refine' TL_gq2 (op_bin rfl rfl ?_) rfl ?_; rotate_left 1; (· (exact bin_eql))) | refine TL_gq2 (op_fld rfl fld_60_1) rfl ?_ | (refine' TL_gq2 (op_ld rfl pl_9 ?_ ?_) rfl ?_; rotate_left 4; (· repeat (first | exact List.mem_cons_self | apply List.mem_cons_of_mem)); (· (rfl))) | (refine TL_gno rfl rfl ?_ rfl ?_; (· first | assumption | exact Bool.not_true)) | (refine TL_new (op_box rfl rfl) rfl ?_; intro bBox))
      refine TQ_heap (fun w h => h.tail.tail) ?_
      refine TQ_ret1 4 _ rfl rfl ?_
      exact ⟨by rw [rset_ne (fun h => by rw [h.2.1] at n2; simp at n2)], rfl⟩
    | true =>
      cases n3 : a.cls == b.cls with
      | false =>
        repeat (first | with_reducible refine T_seq ?_ | with_reducible refine T_region ?_ | with_reducible refine TL_nil ?_ | with_reducible refine TQ_then ?_ | with_reducible refine T_ret ?_ | refine TL_q (op_move rfl) rfl ?_ | refine TL_q (op_assign rfl) rfl ?_ | (refine' TL_q (op_bin rfl rfl ?_) rfl ?_; rotate_left 1; (· (exact sbin_eql))) | (refine' TL_q (op_pickT rfl ?_ rfl) rfl ?_; (· (assumption))) | (refine' TL_q (op_pickF rfl ?_ rfl) rfl ?_; (· first | with_reducible rfl | assumption)) | refine TL_q (op_fld rfl fld_60_0) rfl ?_ | (refine' TL_q (op_ld rfl pl_9 ?_ ?_) rfl ?_; rotate_left 4; (· repeat (first | exact List.mem_cons_self | apply List.mem_cons_of_mem)); (· (rfl))) | (refine TL_gpre rfl rfl ?_ ?_; (· (assumption))) | (refine' TL_gq2 (op_bin rfl rfl ?_) rfl ?_; rotate_left 1; (· (exact bin_eql))) | refine TL_gq2 (op_fld rfl fld_60_1) rfl ?_ | refine TL_gq2 (op_fld rfl fld_60_2) rfl ?_ | (refine' TL_gq2 (op_ld rfl pl_9 ?_ ?_) rfl ?_; rotate_left 4; (· repeat (first | exact List.mem_cons_self | apply List.mem_cons_of_mem)); (· (rfl))) | (refine TL_gno rfl rfl ?_ rfl ?_; (· first | assumption | exact Bool.not_true)) | (refine TL_new (op_box rfl rfl) rfl ?_; intro bBox))
        refine TQ_heap (fun w h => h.tail.tail) ?_
        refine TQ_ret1 4 _ rfl rfl ?_
        exact ⟨by rw [rset_ne (fun h => by rw [h.2.2.1] at n3; simp at n3)], rfl⟩
      | true =>
        cases n4 : a.ttl == b.ttl with
        | false =>
          repeat (first | with_reducible refine T_seq ?_ | with_reducible refine T_region ?_ | with_reducible refine TL_nil ?_ | with_reducible refine TQ_then ?_ | with_reducible refine T_ret ?_ | refine TL_q (op_move rfl) rfl ?_ | refine TL_q (op_assign rfl) rfl ?_ | (refine' TL_q (op_bin rfl rfl ?_) rfl ?_; rotate_left 1; (· (exact sbin_eql))) | (refine' TL_q (op_pickT rfl ?_ rfl) rfl ?_; (· (assumption))) | (refine' TL_q (op_pickF rfl ?_ rfl) rfl ?_; (· (assumption))) | refine TL_q (op_fld rfl fld_60_0) rfl ?_ | (refine' TL_q (op_ld rfl pl_9 ?_ ?_) rfl ?_; rotate_left 4; (· repeat (first | exact List.mem_cons_self | apply List.mem_cons_of_mem)); (· (rfl))) | (refine TL_gpre rfl rfl ?_ ?_; (· (assumption))) | (refine' TL_gq2 (op_bin rfl rfl ?_) rfl ?_; rotate_left 1; (· (exact bin_eql))) | refine TL_gq2 (op_fld rfl fld_60_1) rfl ?_ | refine TL_gq2 (op_fld rfl fld_60_2) rfl ?_ | refine TL_gq2 (op_fld rfl fld_60_3) rfl ?_ | (refine' TL_gq2 (op_ld rfl pl_9 ?_ ?_) rfl ?_; rotate_left 4; (· repeat (first | exact List.mem_cons_self | apply List.mem_cons_of_mem)); (· (rfl))) | (refine TL_gno rfl rfl ?_ rfl ?_; (· (assumption))) | (refine TL_new (op_box rfl rfl) rfl ?_; intro bBox))
          refine TQ_heap (fun w h => h.tail.tail) ?_
          refine TQ_ret1 4 _ rfl rfl ?_
          exact ⟨by rw [rset_ne (fun h => by rw [h.2.2.2.1] at n4; simp at n4)], rfl⟩
        | true =>
          repeat (first | with_reducible refine T_seq ?_ | with_reducible refine T_region ?_ | with_reducible refine TL_nil ?_ | with_reducible refine TQ_then ?_ | refine TL_q (op_move rfl) rfl ?_ | refine TL_q (op_assign rfl) rfl ?_ | (refine' TL_q (op_bin rfl rfl ?_) rfl ?_; rotate_left 1; (· (exact sbin_eql))) | (refine' TL_q (op_pickT rfl ?_ rfl) rfl ?_; (· (assumption))) | refine TL_q (op_fld rfl fld_60_0) rfl ?_ | (refine' TL_q (op_ld rfl pl_9 ?_ ?_) rfl ?_; rotate_left 4; (· repeat (first | exact List.mem_cons_self | apply List.mem_cons_of_mem)); (· (rfl))) | (refine TL_gpre rfl rfl ?_ ?_; (· (assumption))) | (refine' TL_gq2 (op_bin rfl rfl ?_) rfl ?_; rotate_left 1; (· (exact bin_eql))) | refine TL_gq2 (op_fld rfl fld_60_1) rfl ?_ | refine TL_gq2 (op_fld rfl fld_60_2) rfl ?_ | refine TL_gq2 (op_fld rfl fld_60_3) rfl ?_ | refine TL_gq2 (op_fld rfl fld_60_4) rfl ?_ | (refine' TL_gq2 (op_ld rfl pl_9 ?_ ?_) rfl ?_; rotate_left 4; (· repeat (first | exact List.mem_cons_self | apply List.mem_cons_of_mem)); (· (rfl))) | (refine TL_new (op_box rfl rfl) rfl ?_; intro bBox))
          refine TG_op (op_call hb_90 rfl (Equal_S _ _ a.data b.data (mono_slice mono_str _ _ _ _ (fun q hq => mem2 hq) sa) (mono_slice mono_str _ _ _ _ (fun q hq => mem2 hq) sb))) rfl ?_
          repeat (first | with_reducible refine TL_nil ?_ | with_reducible refine TQ_then ?_ | with_reducible refine T_ret ?_ | refine TL_q (op_assign rfl) rfl ?_ | (refine' TL_q (op_pickT rfl ?_ rfl) rfl ?_; (· (assumption))))
          refine TQ_heap (fun w h => h.tail.tail) ?_
          refine TQ_ret1 4 _ rfl rfl ?_
          refine ⟨?_, rfl⟩
          rw [beq_iff_eq] at n1 n2 n3 n4
          congr 1
          by_cases hd : a.data = b.data
          · simp [rset_eq n1 n2 n3 n4 hd]
          · rw [rset_ne (fun h => hd h.2.2.2.2)]
            simp [hd]
set_option maxRecDepth 100000 in
set_option maxHeartbeats 2000000 in
theorem EqualFunc_S (va vb : Value) (la lb : List RSet) (ha : sliceR 5 rsR L [va] la) (hb : sliceR 5 rsR L [vb] lb) : Spec Try.prog G 64 #[va, vb, .func (.func 65) #[] #[]] L fun u M => u = .bool (decide (la = lb)) ∧ M = L := by
  obtain ⟨aa, ca, e1, ha⟩ := ha.val
  obtain ⟨ab, cb, e2, hb⟩ := hb.val
  simp only [List.cons.injEq, and_true] at e1 e2
  subst e1 e2
  obtain ⟨_, ka1, ka2, ha⟩ := sets_cut ha
  obtain ⟨_, kb1, kb2, hb⟩ := sets_cut hb
  unfold maxLen at ka2 kb2
  refine Spec_of (n := 32) Try.func64 rfl rfl rfl ?_
  by_cases hlen : la.length = lb.length
  · have d0 : (((la.length : Nat) : Int) != ((lb.length : Nat) : Int)) = false := by simp [hlen]
    repeat (first | with_reducible refine T_seq ?_ | with_reducible refine T_block ?_ | with_reducible refine T_region ?_ | with_reducible refine TL_nil ?_ | with_reducible refine TQ_then ?_ | with_reducible refine T_skip ?_ | refine TL_q (op_move rfl) rfl ?_ | refine TL_q (op_assign rfl) rfl ?_ | (refine' TL_q (op_bin rfl rfl ?_) rfl ?_; rotate_left 1; (· (exact bin_neq))) | refine TL_q (op_len_slice rfl Try.underlying40) rfl ?_ | (refine T_no rfl ?_ ?_; (· (assumption))))
    refine T_loopS (σ := Nat) (fun k => k ≤ la.length ∧ la.take k = lb.take k) (fun k => [(1, .slice ab lb.length cb), (2, .func (.func 65) #[] #[]), (15, .slice aa la.length ca), (16, .int .i64 (la.length : Nat)), (17, .int .i64 (k : Nat))]) (fun k => L) (fun k => la.length - k) 0 ⟨Nat.zero_le _, by simp⟩ ?_ (fun w h => h) ?_
    (repeat (first | exact trivial | refine ⟨rfl, ?_⟩))
    rintro k ⟨hk, heq⟩
    by_cases hlt : k < la.length
    · have d1 : decide (((k : Nat) : Int) < ((la.length : Nat) : Int)) = true := decide_eq_true (by omega)
      obtain ⟨x, hx⟩ : ∃ x, la[k]? = some x := ⟨_, List.getElem?_eq_getElem hlt⟩
      obtain ⟨y, hy⟩ : ∃ y, lb[k]? = some y := ⟨_, List.getElem?_eq_getElem (hlen ▸ hlt)⟩
      rcases ha with rfl | ⟨b1, o1, C1, t1, f1, rfl, m1, q1⟩
      · simp at hlt
      rcases hb with rfl | ⟨b2, o2, C2, t2, f2, rfl, m2, q2⟩
      · simp at hy
      obtain ⟨ca', ha1, ha2, hca⟩ := q1 k x hx
      obtain ⟨cb', hb1, hb2, hcb⟩ := q2 k y hy
      obtain ⟨xa, xc, rfl, _⟩ := ha2.val
      obtain ⟨ya, yc, rfl, _⟩ := hb2.val
      repeat (first | with_reducible refine T_seq ?_ | with_reducible refine T_block ?_ | with_reducible refine T_region ?_ | with_reducible refine TL_nil ?_ | with_reducible refine TQ_then ?_ | with_reducible refine T_skip ?_ | refine TL_q (op_move rfl) rfl ?_ | (refine' TL_q (op_bin rfl rfl ?_) rfl ?_; rotate_left 1; (· (exact bin_lss))) | (refine' TL_q (op_idx ety_40 rfl rfl ?_) rfl ?_; (· omega)) | (refine T_yes rfl ?_ ?_; (· (assumption))))
      refine TL_q (op_ldA [.string (bs x.name), .int .u16 x.kind, .int .u16 x.cls, .int .u32 x.ttl, .slice xa x.data.length xc] rfl st_60 m1 hca) rfl ?_
      repeat (first | with_reducible refine T_seq ?_ | with_reducible refine T_region ?_ | with_reducible refine TL_nil ?_ | with_reducible refine TQ_then ?_ | refine TL_q (op_move rfl) rfl ?_ | refine TL_q (op_assign rfl) rfl ?_ | (refine' TL_q (op_idx ety_40 rfl rfl ?_) rfl ?_; (· omega)) | (refine TL_stAll rfl rfl st_60 rfl rfl rfl ?_) | (refine TL_new (op_alloc zero_60 rfl) rfl ?_; intro bNew))
      refine TL_q (op_ldA [.string (bs y.name), .int .u16 y.kind, .int .u16 y.cls, .int .u32 y.ttl, .slice ya y.data.length yc] rfl st_60 (List.mem_cons_of_mem _ m2) hcb) rfl ?_
      repeat (first | with_reducible refine T_seq ?_ | with_reducible refine T_region ?_ | with_reducible refine TL_nil ?_ | with_reducible refine TQ_then ?_ | refine TL_q (op_move rfl) rfl ?_ | (refine' TL_q (op_ldAll rfl st_60 ?_ ?_) rfl ?_; rotate_left 3; (· repeat (first | exact List.mem_cons_self | apply List.mem_cons_of_mem)); (· (assumption))) | (refine TL_stAll rfl rfl st_60 rfl rfl rfl ?_) | (refine TL_new (op_alloc zero_60 rfl) rfl ?_; intro bNew))
      refine TL_op (op_callV (cap := []) hb_65 rfl rfl (rSame_S _ _ x y (mono_set _ _ _ _ (fun q hq => mem2 hq) ha2) (mono_set _ _ _ _ (fun q hq => mem2 hq) hb2))) rfl ?_
      by_cases hxy : x = y
      · have d2 : (!decide (x = y)) = false := by simp [hxy]
        repeat (first | with_reducible refine T_region ?_ | with_reducible refine TL_nil ?_ | with_reducible refine TQ_then ?_ | with_reducible refine TQ_block ?_ | with_reducible refine T_skip ?_ | refine TL_q (op_move rfl) rfl ?_ | (refine' TL_q (op_bin rfl rfl ?_) rfl ?_; rotate_left 1; (· (exact bin_add ⟨by omega, by omega⟩))) | refine TL_q (op_not rfl) rfl ?_ | (refine T_no rfl ?_ ?_; (· (assumption))))
        refine TQ_roundS (k + 1) ⟨hlt, ?_⟩ ?_ (fun w h => h.tail.tail) (by omega)
        · subst hxy
          exact take_ext heq hx hy
        (repeat (first | exact trivial | refine ⟨rfl, ?_⟩))
      · have d2 : (!decide (x = y)) = true := by simp [hxy]
        repeat (first | with_reducible refine T_seq ?_ | with_reducible refine T_region ?_ | with_reducible refine TL_nil ?_ | with_reducible refine TQ_then ?_ | with_reducible refine T_ret ?_ | with_reducible refine TQ_then_ret ?_ | with_reducible refine TQ_block_ret ?_ | refine TL_q (op_assign rfl) rfl ?_ | refine TL_q (op_not rfl) rfl ?_ | (refine T_yes rfl ?_ ?_; (· (assumption))))
        refine TQ_heap (fun w h => h.tail.tail) ?_
        refine TQ_ret1 6 _ rfl rfl ?_
        refine ⟨?_, rfl⟩
        have : la ≠ lb := fun e => hxy (by rw [e, hy] at hx; exact (Option.some.inj hx).symm)
        simp [this]
    · have d1 : decide (((k : Nat) : Int) < ((la.length : Nat) : Int)) = false := decide_eq_false (by omega)
      have hkn : k = la.length := by omega
      subst hkn
      rw [List.take_length, hlen, List.take_length] at heq
      repeat (first | with_reducible refine T_seq ?_ | with_reducible refine T_region ?_ | with_reducible refine TL_nil ?_ | with_reducible refine TQ_then ?_ | with_reducible refine T_exit ?_ | with_reducible refine T_ret ?_ | with_reducible refine TQ_then_exit ?_ | with_reducible refine TQ_block_exit ?_ | refine TL_q (op_assign rfl) rfl ?_ | (refine' TL_q (op_bin rfl rfl ?_) rfl ?_; rotate_left 1; (· (exact bin_lss))) | (refine T_no rfl ?_ ?_; (· (assumption))))
      refine TQ_ret1 6 _ rfl rfl ?_
      exact ⟨by simp [heq], rfl⟩
  · have d0 : (((la.length : Nat) : Int) != ((lb.length : Nat) : Int)) = true := by simp; omega
    repeat (first | with_reducible refine T_seq ?_ | with_reducible refine T_region ?_ | with_reducible refine TL_nil ?_ | with_reducible refine TQ_then ?_ | with_reducible refine T_ret ?_ | with_reducible refine TQ_then_ret ?_ | refine TL_q (op_move rfl) rfl ?_ | refine TL_q (op_assign rfl) rfl ?_ | (refine' TL_q (op_bin rfl rfl ?_) rfl ?_; rotate_left 1; (· (exact bin_neq))) | refine TL_q (op_len_slice rfl Try.underlying40) rfl ?_ | (refine T_yes rfl ?_ ?_; (· (assumption))))
    refine TQ_ret1 6 _ rfl rfl ?_
    refine ⟨?_, rfl⟩
    have : la ≠ lb := fun e => hlen (by rw [e])
    simp [this]
set_option maxRecDepth 100000 in
theorem pSame_S (ca cb : List Value) (a b : Vdt) (ha : vdR L ca a) (hb : vdR L cb b) : Spec Try.prog G 27 #[.agg ca.toArray, .agg cb.toArray] L fun u M => u = .bool (decide (a = b)) ∧ M = L := by
  obtain ⟨a1, a2, rfl, ha1, ha2, _⟩ := ha
  obtain ⟨b1, b2, rfl, hb1, hb2, _⟩ := hb
  refine Spec_of (n := 24) Try.func27 rfl rfl rfl ?_
  cases n1 : a.code == b.code with
  | false =>
    repeat (first | with_reducible refine T_seq ?_ | with_reducible refine T_region ?_ | with_reducible refine TL_nil ?_ | with_reducible refine TQ_then ?_ | with_reducible refine T_ret ?_ | refine TL_q (op_move rfl) rfl ?_ | refine TL_q (op_assign rfl) rfl ?_ | (refine' TL_q (op_bin rfl rfl ?_) rfl ?_; rotate_left 1; (· (exact bin_eql))) | (refine' TL_q (op_pickF rfl ?_ rfl) rfl ?_; (· first | with_reducible rfl | assumption)) | refine TL_q (op_fld rfl fld_42_0) rfl ?_ | (refine' TL_q (op_ld rfl pl_5 ?_ ?_) rfl ?_; rotate_left 4; (· repeat (first | exact List.mem_cons_self | apply List.mem_cons_of_mem)); (· (rfl))) | (refine TL_gno rfl rfl ?_ rfl ?_; (· first | assumption | exact Bool.not_true)) | (refine TL_new (op_box rfl rfl) rfl ?_; intro bBox))
    refine TQ_heap (fun w h => h.tail.tail) ?_
    refine TQ_ret1 4 _ rfl rfl ?_
    refine ⟨?_, rfl⟩
    have : ¬ a = b := fun e => by rw [e] at n1; simp at n1
    simp [this]
  | true =>
    repeat (first | with_reducible refine T_seq ?_ | with_reducible refine T_region ?_ | with_reducible refine TL_nil ?_ | with_reducible refine TQ_then ?_ | refine TL_q (op_move rfl) rfl ?_ | refine TL_q (op_assign rfl) rfl ?_ | (refine' TL_q (op_bin rfl rfl ?_) rfl ?_; rotate_left 1; (· (exact bin_eql))) | refine TL_q (op_fld rfl fld_42_0) rfl ?_ | (refine' TL_q (op_ld rfl pl_5 ?_ ?_) rfl ?_; rotate_left 4; (· repeat (first | exact List.mem_cons_self | apply List.mem_cons_of_mem)); (· (rfl))) | (refine TL_gpre rfl rfl ?_ ?_; (· (assumption))) | refine TL_gq2 (op_fld rfl fld_42_1) rfl ?_ | (refine' TL_gq2 (op_ld rfl pl_5 ?_ ?_) rfl ?_; rotate_left 4; (· repeat (first | exact List.mem_cons_self | apply List.mem_cons_of_mem)); (· (rfl))) | (refine TL_new (op_box rfl rfl) rfl ?_; intro bBox))
    refine TG_op (op_call hb_64 rfl (EqualFunc_S _ _ a.sets b.sets (mono_slice mono_set _ _ _ _ (fun q hq => mem2 hq) ha1) (mono_slice mono_set _ _ _ _ (fun q hq => mem2 hq) hb1))) rfl ?_
    cases n2 : decide (a.sets = b.sets) with
    | false =>
      repeat (first | with_reducible refine TL_nil ?_ | with_reducible refine TQ_then ?_ | with_reducible refine T_ret ?_ | refine TL_q (op_move rfl) rfl ?_ | refine TL_q (op_assign rfl) rfl ?_ | (refine' TL_q (op_pickT rfl ?_ rfl) rfl ?_; (· (assumption))) | (refine' TL_q (op_pickF rfl ?_ rfl) rfl ?_; (· (with_reducible rfl))) | (refine TL_gno rfl rfl ?_ rfl ?_; (· (exact Bool.not_true))))
      refine TQ_heap (fun w h => h.tail.tail) ?_
      refine TQ_ret1 4 _ rfl rfl ?_
      refine ⟨?_, rfl⟩
      have : ¬ a = b := fun e => by rw [e] at n2; simp at n2
      simp [this]
    | true =>
      repeat (first | refine TL_q (op_move rfl) rfl ?_ | (refine' TL_q (op_pickT rfl ?_ rfl) rfl ?_; (· (assumption))) | (refine TL_gpre rfl rfl ?_ ?_; (· (with_reducible rfl))) | refine TL_gq2 (op_fld rfl fld_42_2) rfl ?_ | (refine' TL_gq2 (op_ld rfl pl_5 ?_ ?_) rfl ?_; rotate_left 4; (· repeat (first | exact List.mem_cons_self | apply List.mem_cons_of_mem)); (· (rfl))))
      refine TG_op (op_call hb_64 rfl (EqualFunc_S _ _ a.soa b.soa (mono_slice mono_set _ _ _ _ (fun q hq => mem2 hq) ha2) (mono_slice mono_set _ _ _ _ (fun q hq => mem2 hq) hb2))) rfl ?_
      repeat (first | with_reducible refine TL_nil ?_ | with_reducible refine TQ_then ?_ | with_reducible refine T_ret ?_ | refine TL_q (op_assign rfl) rfl ?_ | (refine' TL_q (op_pickT rfl ?_ rfl) rfl ?_; (· (with_reducible rfl))))
      refine TQ_heap (fun w h => h.tail.tail) ?_
      refine TQ_ret1 4 _ rfl rfl ?_
      refine ⟨?_, rfl⟩
      simp only [decide_eq_true_eq] at n2
      rw [beq_iff_eq] at n1
      congr 1
      simp [vd_eq, n1, n2]
end Go.Proofs.Ytdflhdfapnhjjaa
namespace Go.Proofs.Ytdflhdfapnhjjaa
open Go.RowKit
open Vd (RSet Vdt Vote Rec Quest)
set_option linter.unusedVariables false
section
variable {P : Program}
theorem equalIn_slice {t e : TypeId} {a : Option Addr} {m c : Nat} (d : Nat) (w : World) (h : P.underlying t = some (.slice e)) : (Op.equalIn (d + 1) t (.slice a m c) (.slice none 0 0)).run P w = .ok a.isNone w := by
  cases a <;> simp [Op.equalIn, run_underlying h]
theorem lbin_eql {t e : TypeId} {a : Option Addr} {m c : Nat} (h : P.underlying t = some (.slice e)) : Bin P .eql t (.slice a m c) (.slice none 0 0) (.bool a.isNone) := ⟨fun x y w => by
  simp only [eqGuard, binOp, equal_open]
  simp [equalIn_slice 9999 w h]⟩
end
section
variable {α : Type} {r : Rp α} {sz : Nat} {G : World} {P : Program} {ρ : Slots} {L : Blocks} {ty : TypeId}
/-- What lies somewhere, in one list of cells. -/
theorem laid_of {C : Array Value} : ∀ (m : List α) (off : Nat), (∀ i x, m[i]? = some x → ∃ cs', cs'.length = sz ∧ r L cs' x ∧ ∀ j v, cs'[j]? = some v → C[off + i * sz + j]? = some v) → ∃ news, Laid r sz L news m ∧ ∀ j v, news[j]? = some v → C[off + j]? = some v
  | [], off, _ => ⟨[], rfl, fun j v h => by simp at h⟩
  | x :: m, off, h => by
    obtain ⟨c, h1, h2, h3⟩ := h 0 x rfl
    obtain ⟨news, k1, k2⟩ := laid_of m (off + sz) (fun i y hy => by
      obtain ⟨d, q1, q2, q3⟩ := h (i + 1) y (by simpa using hy)
      refine ⟨d, q1, q2, fun j v hj => ?_⟩
      rw [← q3 j v hj]
      congr 1
      rw [Nat.succ_mul]
      omega)
    refine ⟨c ++ news, ⟨c, news, rfl, h1, h2, k1⟩, fun j v hj => ?_⟩
    by_cases hlt : j < c.length
    · rw [List.getElem?_append_left hlt] at hj
      have := h3 j v hj
      rwa [Nat.zero_mul, Nat.add_zero] at this
    · rw [List.getElem?_append_right (by omega)] at hj
      rw [← k2 _ v hj]
      congr 1
      omega
theorem op_append0 {s x : Operand} {t e : TypeId} {sz bytes : Nat} {z v : Value} {m c : Nat} {a : Option Addr} {xs : List Value} {B : Blocks} (E : ElemTy P t e sz bytes z) (hs : ev ρ s = some v) (hx : ev ρ x = some (.slice a 0 c))
    (hrow : Row e sz v m xs B) (h63 : m + 0 ≤ maxLen) (hby : (m + 0) * bytes ≤ 140737488355328) :
    OpT P G ρ (B ++ L) (.call ⟨.builtin .append, #[s, x], #[t, t]⟩) ty fun v' L' => ∃ B', Row e sz v' (m + 0) (xs ++ []) B' ∧ L' = B' ++ L :=
  ⟨fun r hr w hw o ho _ => by
    obtain ⟨i, hi, hz0, hz1, hz2⟩ := E.info
    have hown := hrow.owns hw
    have key : ∃ v' w', (Builtin.append_ #[t, t] o.type #[v, .slice a 0 c]).run P w = .ok v' w' ∧ w'.ownsRow 0 e sz v' (m + 0) (xs ++ []) ∧ w.grownBy w' v.ownBlock ∧ (v'.ownBlock = v.ownBlock ∨ v'.ownBlock = some w.heap.size) := by
      cases a with
      | none => exact ⟨v, w, run_app0 w t o.type e i c E.und hi 0 sz v m xs hown, by simpa using hown, ⟨rfl, rfl, rfl, Nat.le_refl _, fun _ _ _ => rfl⟩, Or.inl rfl⟩
      | some x =>
        obtain ⟨v', w', q1, q2, q3, _, q5⟩ := run_append_own_at w 0 t o.type e i z sz bytes E.und hi hz0 hz1 hz2 E.cells E.pos v m xs hown x 0 c [] (by simp)
          (fun j y hj => by simp at hj) (by simp) h63 hby (Nat.zero_le _)
        exact ⟨v', w', q1, q2, q3, q5⟩
    obtain ⟨v', w', hrun, q2, q3, q4⟩ := key
    obtain ⟨B', hB, hH⟩ := hrow.after hw q2 q3 q4
    have : (execOp r o).run P w = .ok (.value v') w' := by
      simp [execOp, ho, hr _ _ hs, hr _ _ hx, resolve, invoke, builtin, hrun, Result.andThen]
    rw [this]
    exact ⟨_, ⟨B', hB, rfl⟩, hH⟩⟩
/-- 'append(s, l...)' of things that lie somewhere. -/
theorem op_appendG {s x : Operand} {t e : TypeId} {bytes : Nat} {z : Value} {a a2 : Option Addr} {c c2 : Nat} {l m : List α} {B : Blocks} (E : ElemTy P t e sz bytes z) (hs : ev ρ s = some (.slice a l.length c)) (hx : ev ρ x = some (.slice a2 m.length c2))
    (hrow : ORow r e sz L a c l B) (hr : sliceR sz r L [.slice a2 m.length c2] m) (hone : ∀ cs y, r L cs y → ∀ v ∈ cs, v.oneCell' = true) (h63 : l.length + m.length ≤ maxLen) (hby : (l.length + m.length) * bytes ≤ 140737488355328) :
    OpT P G ρ (B ++ L) (.call ⟨.builtin .append, #[s, x], #[t, t]⟩) ty fun v' L' => ∃ a' c' B', v' = .slice a' (l ++ m).length c' ∧ ORow r e sz L a' c' (l ++ m) B' ∧ L' = B' ++ L := by
  obtain ⟨xs, h1, h2, h3⟩ := hrow.ex
  have hlen : (l ++ m).length = l.length + m.length := by simp
  have laid_one : ∀ (m : List α) (news : List Value), Laid r sz L news m → ∀ v ∈ news, v.oneCell' = true := by
    intro m
    induction m with
    | nil => intro news h v hv; rw [show news = [] from h] at hv; simp at hv
    | cons y m ih =>
      rintro _ ⟨d, ys, rfl, _, q2, q3⟩ v hv
      rcases List.mem_append.1 hv with hv | hv
      · exact hone d y q2 v hv
      · exact ih ys q3 v hv
  obtain ⟨_, _, _, hc⟩ := sliceR.cut hr
  rcases hc with rfl | ⟨b, off, C, te, fr, rfl, q2, q3⟩
  · refine (op_append0 E hs hx h1 h63 hby).post fun v' M ⟨B', k1, k2⟩ => ?_
    obtain ⟨a', c', rfl⟩ := k1.slice
    refine ⟨M, ⟨a', c', B', by rw [hlen]; rfl, ⟨xs, ?_, by simpa using h2, h3⟩, k2⟩, fun w hw => hw⟩
    simpa using k1
  · obtain ⟨news, n1, n2⟩ := laid_of m off q3
    refine (op_append E hs hx h1 ⟨n1.len, laid_one m news n1, Or.inr ⟨b, off, c2, C, te, fr, rfl, q2, n2⟩⟩ h63 hby).post fun v' M ⟨B', k1, k2⟩ => ?_
    obtain ⟨a', c', rfl⟩ := k1.slice
    refine ⟨M, ⟨a', c', B', by rw [hlen], ⟨xs ++ news, by rw [hlen]; exact k1, h2.append n1, fun v hv => ?_⟩, k2⟩, fun w hw => hw⟩
    rcases List.mem_append.1 hv with hv | hv
    · exact h3 v hv
    · exact laid_one m news n1 v hv
end
end Go.Proofs.Ytdflhdfapnhjjaa
namespace Go.Proofs.Ytdflhdfapnhjjaa
open Go.RowKit
open Vd (RSet Vdt Vote Rec Quest Piece)
set_option linter.unusedVariables false
--auto
def pieceR : Rp Piece := fun _ cs p => cs = [.string (bs p.s), .bool p.nam] ∧ p.s.length ≤ maxLen
theorem mono_piece : Mono pieceR := fun _ _ _ _ _ h => h
section
variable {α : Type} {r : Rp α} {sz : Nat} {L : Blocks}
theorem ORow.lit1 {e : TypeId} {b : Nat} {cs : List Value} {y : α} (hn : cs.length = sz) (hy : r L cs y) (hone : ∀ v ∈ cs, v.oneCell' = true) : ORow r e sz L (some ⟨b, 0, none⟩) 1 [y] [(b, .cells cs.toArray e (0, 0))] :=
  ⟨cs, ⟨by simp [hn], Or.inr ⟨b, 1, cs.toArray, rfl, rfl, Nat.le_refl _, by unfold maxLen; omega, by simp [hn], by simp; exact List.take_of_length_le (by omega)⟩⟩, Laid.one hn hy, hone⟩
end
theorem piece_one {s : Vd.Bytes} {b : Bool} : ∀ v ∈ ([.string (bs s), .bool b] : List Value), v.oneCell' = true := by
  intro v hv
  simp only [List.mem_cons, List.not_mem_nil, or_false] at hv
  rcases hv with rfl | rfl <;> rfl
variable {G : World} {L : Blocks}
def layV (k : Int) : Value := match Vd.layout k with
  | some (a, m, b) => .tuple #[.int .i64 (a : Nat), .int .i64 (m : Nat), .int .i64 (b : Nat), .bool true]
  | none => .tuple #[.int .i64 0, .int .i64 0, .int .i64 0, .bool false]
set_option maxRecDepth 100000 in
theorem layout_S (k : Int) : Spec Try.prog G 144 #[.int .u16 k] L fun u M => u = layV k ∧ M = L := by
  refine Spec_of (n := 21) Try.func144 rfl rfl rfl ?_
  repeat' (first | with_reducible refine T_seq ?_ | with_reducible refine T_block ?_ | with_reducible refine T_region ?_ | with_reducible refine TL_nil ?_ | with_reducible refine TQ_then ?_ | with_reducible refine TQ_block ?_ | with_reducible refine T_skip ?_ | with_reducible refine T_ret ?_ | with_reducible refine TQ_then_ret ?_ | with_reducible refine TQ_block_ret ?_ | refine TL_q (op_move rfl) rfl ?_ | refine TL_q (op_assign rfl) rfl ?_ | (refine' TL_q (op_bin rfl rfl ?_) rfl ?_; rotate_left 1; (· (exact bin_eql))) | (refine T_yes rfl ?_ ?_; (· (exact dT (by (assumption))))) | refine T_condD rfl (fun hc => ?_) (fun hc => ?_) | refine TQ_ret4 2 3 4 5 _ _ _ _ rfl rfl rfl rfl rfl ?_)
  all_goals (refine ⟨?_, rfl⟩; simp [layV, Vd.layout, *])
theorem txt_fuel : ∀ (f g : Nat) (l : Vd.Bytes), l.length < f → l.length < g → Vd.txtOk f l = Vd.txtOk g l
  | 0, _, _, h, _ => absurd h (Nat.not_lt_zero _)
  | _ + 1, 0, _, _, h => absurd h (Nat.not_lt_zero _)
  | f + 1, g + 1, [], _, _ => rfl
  | f + 1, g + 1, c :: t, h1, h2 => by
    simp only [Vd.txtOk]
    split
    · exact txt_fuel f g _ (by simp at h1 ⊢; omega) (by simp at h2 ⊢; omega)
    · rfl
theorem drop_c {s : Vd.Bytes} {k : Nat} (h : k < s.length) : ∃ c, s[k]? = some c ∧ s.drop k = c :: s.drop (k + 1) := ⟨s[k], List.getElem?_eq_getElem h, List.drop_eq_getElem_cons h⟩
/-- A row of pieces, and an error. -/
def PcOut (L : Blocks) (x : List Piece × Int) (u : Value) (M : Blocks) : Prop := ∃ a c B, u = .tuple #[.slice a x.1.length c, .int .i64 x.2] ∧ ORow pieceR 188 2 L a c x.1 B ∧ M = B ++ L
set_option maxRecDepth 100000 in
theorem texts_S (s : Vd.Bytes) (hs : s.length ≤ 1000000) : Spec Try.prog G 143 #[.string (bs s)] L (PcOut L (if s = [] then ([], 4) else if Vd.txtOk (s.length + 1) s then ([⟨s, false⟩], 0) else ([], 4))) := by
  refine Spec_of (n := 31) Try.func143 rfl rfl rfl ?_
  repeat' (first | with_reducible refine T_seq ?_ | with_reducible refine T_block ?_ | with_reducible refine T_region ?_ | with_reducible refine TL_nil ?_ | with_reducible refine TQ_then ?_ | with_reducible refine T_skip ?_ | with_reducible refine T_ret ?_ | with_reducible refine TQ_then_ret ?_ | refine TL_q (op_move rfl) rfl ?_ | refine TL_q (op_assign rfl) rfl ?_ | (refine' TL_q (op_bin rfl rfl ?_) rfl ?_; rotate_left 1; (· (exact sbin_eql))) | refine T_condE rfl (fun hc => ?_) (fun hc => ?_) | refine TQ_ret2 2 3 _ _ rfl rfl rfl ?_)
  · rw [if_pos hc]
    exact ⟨none, 0, [], rfl, ORow.nil _, rfl⟩
  · rw [if_neg hc]
    have hne := hc
    clear hc
    refine T_loopS (σ := Nat) (fun k => k ≤ s.length ∧ Vd.txtOk (s.length + 1 - k) (s.drop k) = Vd.txtOk (s.length + 1) s) (fun k => [(0, .string (bs s)), (4, .int .i64 (k : Nat))]) (fun k => L) (fun k => s.length - k) 0 ⟨Nat.zero_le _, rfl⟩ ?_ (fun w h => h) ?_
    (repeat (first | exact trivial | refine ⟨rfl, ?_⟩))
    rintro k ⟨hk, heq⟩
    by_cases hlt : k < s.length
    · obtain ⟨c, hc, hd⟩ := drop_c hlt
      have hc' : s[((k : Nat) : Int).toNat]? = some c := hc
      have hcl : c.toNat ≤ 255 := by have := c.toNat_lt; omega
      rw [hd, show s.length + 1 - k = (s.length - k) + 1 by omega] at heq
      simp only [Vd.txtOk] at heq
      have hdl : (s.drop (k + 1)).length = s.length - (k + 1) := List.length_drop ..
      by_cases hbig : s.length < k + 1 + c.toNat
      · rw [if_neg (by omega)] at heq
        repeat' (first | with_reducible refine T_seq ?_ | with_reducible refine T_block ?_ | with_reducible refine T_region ?_ | with_reducible refine TL_nil ?_ | with_reducible refine TQ_then ?_ | with_reducible refine T_skip ?_ | with_reducible refine T_ret ?_ | with_reducible refine TQ_then_ret ?_ | with_reducible refine TQ_block_ret ?_ | refine TL_q (op_move rfl) rfl ?_ | refine TL_q (op_assign rfl) rfl ?_ | (refine' TL_q (op_bin rfl rfl ?_) rfl ?_; rotate_left 1; (· first | exact bin_add ⟨by omega, by omega⟩ | exact bin_lss | exact bin_gtr)) | (refine' TL_q (op_conv_int rfl Try.underlying5 Try.underlying3 ?_) rfl ?_; (· exact ⟨by omega, by omega⟩)) | refine TL_q (op_len_str rfl Try.underlying9) rfl ?_ | (refine' TL_q (op_index_str rfl rfl Try.underlying9 ?_ ?_) rfl ?_; rotate_left 1; (· omega); (· (assumption))) | (refine T_yes rfl ?_ ?_; (· (exact dT (by (omega))))) | refine TQ_ret2 2 3 _ _ rfl rfl rfl ?_)
        rw [← heq]
        exact ⟨none, 0, [], rfl, ORow.nil _, rfl⟩
      · rw [if_pos (by omega)] at heq
        repeat' (first | with_reducible refine T_seq ?_ | with_reducible refine T_block ?_ | with_reducible refine T_region ?_ | with_reducible refine TL_nil ?_ | with_reducible refine TQ_then ?_ | with_reducible refine TQ_block ?_ | with_reducible refine T_skip ?_ | refine TL_q (op_move rfl) rfl ?_ | refine TL_q (op_assign rfl) rfl ?_ | (refine' TL_q (op_bin rfl rfl ?_) rfl ?_; rotate_left 1; (· first | exact bin_add ⟨by omega, by omega⟩ | exact bin_lss | exact bin_gtr)) | (refine' TL_q (op_conv_int rfl Try.underlying5 Try.underlying3 ?_) rfl ?_; (· exact ⟨by omega, by omega⟩)) | refine TL_q (op_len_str rfl Try.underlying9) rfl ?_ | (refine' TL_q (op_index_str rfl rfl Try.underlying9 ?_ ?_) rfl ?_; rotate_left 1; (· omega); (· (assumption))) | (refine T_yes rfl ?_ ?_; (· (exact dT (by (omega))))) | (refine T_no rfl ?_ ?_; (· (exact dF (by (omega))))))
        refine TQ_roundS (k + 1 + c.toNat) ⟨by omega, ?_⟩ ?_ (fun w h => h) (by omega)
        · rw [← heq, List.drop_drop]
          exact txt_fuel _ _ _ (by rw [List.length_drop]; omega) (by rw [List.length_drop]; omega)
        (repeat (first | exact trivial | refine ⟨rfl, ?_⟩))
    · have hkn : k = s.length := by omega
      subst hkn
      rw [List.drop_length] at heq
      rw [if_pos (heq.symm.trans (by rw [show s.length + 1 - s.length = 1 by omega]; rfl))]
      repeat' (first | with_reducible refine T_seq ?_ | with_reducible refine T_region ?_ | with_reducible refine TL_nil ?_ | with_reducible refine TQ_then ?_ | with_reducible refine T_exit ?_ | with_reducible refine T_ret ?_ | with_reducible refine TQ_then_exit ?_ | with_reducible refine TQ_block_exit ?_ | refine TL_q (op_move rfl) rfl ?_ | refine TL_q (op_assign rfl) rfl ?_ | (refine' TL_q (op_bin rfl rfl ?_) rfl ?_; rotate_left 1; (· (exact bin_lss))) | refine TL_q (op_len_str rfl Try.underlying9) rfl ?_ | refine TL_q (op_build rfl (bl_188_0 _)) rfl ?_ | (refine TL_new (op_litN ety_184 rfl rfl (by decide)) rfl ?_; intro bLit) | (refine T_no rfl ?_ ?_; (· (exact dF (by (omega))))) | refine TQ_ret2 2 3 _ _ rfl rfl rfl ?_)
      exact ⟨_, _, _, rfl, ORow.lit1 rfl ⟨rfl, by show s.length ≤ maxLen; unfold maxLen; omega⟩ piece_one, rfl⟩
theorem joined_take {l : List Piece} {k : Nat} {x : Piece} (h : l[k]? = some x) : Vd.joined (l.take (k + 1)) = Vd.joined (l.take k) ++ x.s := by
  rw [List.take_add_one, h]; simp [Vd.joined]
theorem joined_le {l : List Piece} {k : Nat} : (Vd.joined (l.take k)).length ≤ (Vd.joined l).length := by
  conv => rhs; rw [← List.take_append_drop k l]
  unfold Vd.joined
  rw [List.flatMap_append, List.length_append]
  omega
theorem pieces_cut {a : Option Addr} {m c : Nat} {l : List Piece} (h : sliceR 2 pieceR L [.slice a m c] l) : m = l.length ∧ m ≤ c ∧ c ≤ maxLen ∧ (l = [] ∨ ∃ b off C te fr, a = some ⟨b, off, none⟩ ∧ (b, Obj.cells C te fr) ∈ L ∧ ∀ i x, l[i]? = some x → C[off + i * 2 + 0]? = some (.string (bs x.s)) ∧ C[off + i * 2 + 1]? = some (.bool x.nam)) := by
  obtain ⟨h1, h2, h3, h4⟩ := sliceR.cut h
  refine ⟨h1, h2, h3, h4.imp id ?_⟩
  rintro ⟨b, off, C, te, fr, q1, q2, q3⟩
  refine ⟨b, off, C, te, fr, q1, q2, fun i x hx => ?_⟩
  obtain ⟨cs', k1, ⟨k2, _⟩, k3⟩ := q3 i x hx
  subst k2
  exact ⟨k3 0 _ rfl, k3 1 _ rfl⟩
set_option maxRecDepth 100000 in
theorem joined_S (v : Value) (l : List Piece) (hl : sliceR 2 pieceR L [v] l) (hs : (Vd.joined l).length ≤ 1000000000) : Spec Try.prog G 139 #[v] L fun u M => u = .string (bs (Vd.joined l)) ∧ M = L := by
  obtain ⟨a, c, e1, hl⟩ := hl.val
  simp only [List.cons.injEq, and_true] at e1
  subst e1
  obtain ⟨_, k1, k2, hl⟩ := pieces_cut hl
  unfold maxLen at k2
  refine Spec_of (n := 19) Try.func139 rfl rfl rfl ?_
  repeat (first | with_reducible refine T_seq ?_ | with_reducible refine T_block ?_ | with_reducible refine T_region ?_ | with_reducible refine TL_nil ?_ | with_reducible refine TQ_then ?_ | refine TL_q (op_assign rfl) rfl ?_)
  refine T_loopS (σ := Nat) (fun k => k ≤ l.length) (fun k => [(0, .slice a l.length c), (3, .string (bs (Vd.joined (l.take k)))), (4, .int .i64 (k : Nat))]) (fun k => L) (fun k => l.length - k) 0 (Nat.zero_le _) ?_ (fun w h => h) ?_
  (repeat (first | exact trivial | refine ⟨rfl, ?_⟩))
  intro k hk
  by_cases hlt : k < l.length
  · obtain ⟨x, hx⟩ : ∃ x, l[k]? = some x := ⟨_, List.getElem?_eq_getElem hlt⟩
    rcases hl with rfl | ⟨b1, o1, C1, t1, f1, rfl, m1, q1⟩
    · simp at hlt
    obtain ⟨r1, r2⟩ := q1 k x hx
    have hj := joined_take hx
    have hj2 := joined_le (l := l) (k := k + 1)
    have hj3 := congrArg List.length hj
    rw [List.length_append] at hj3
    repeat' (first | with_reducible refine T_seq ?_ | with_reducible refine T_block ?_ | with_reducible refine T_region ?_ | with_reducible refine TL_nil ?_ | with_reducible refine TQ_then ?_ | with_reducible refine TQ_block ?_ | with_reducible refine T_skip ?_ | refine TL_q (op_move rfl) rfl ?_ | refine TL_q (op_assign rfl) rfl ?_ | (refine' TL_q (op_bin rfl rfl ?_) rfl ?_; rotate_left 1; (· first | exact bin_add ⟨by omega, by omega⟩ | exact bin_lss | exact sbin_add (by (omega)))) | refine TL_q (op_len_slice rfl Try.underlying184) rfl ?_ | (refine' TL_q (op_idx ety_184 rfl rfl ?_) rfl ?_; (· omega)) | refine TL_q (op_fld rfl fld_188_0) rfl ?_ | (refine' TL_q (op_ld rfl pl_9 ?_ ?_) rfl ?_; rotate_left 4; (· repeat ((assumption))); (· (assumption))) | (refine T_yes rfl ?_ ?_; (· (exact dT (by (omega))))))
    refine TQ_roundS (k + 1) hlt ?_ (fun w h => h) (by omega)
    rw [hj]
    (repeat (first | exact trivial | refine ⟨rfl, ?_⟩))
  · have hkn : k = l.length := by omega
    subst hkn
    repeat' (first | with_reducible refine T_seq ?_ | with_reducible refine T_region ?_ | with_reducible refine TL_nil ?_ | with_reducible refine TQ_then ?_ | with_reducible refine T_exit ?_ | with_reducible refine T_ret ?_ | with_reducible refine TQ_then_exit ?_ | with_reducible refine TQ_block_exit ?_ | refine TL_q (op_move rfl) rfl ?_ | refine TL_q (op_assign rfl) rfl ?_ | (refine' TL_q (op_bin rfl rfl ?_) rfl ?_; rotate_left 1; (· (exact bin_lss))) | refine TL_q (op_len_slice rfl Try.underlying184) rfl ?_ | (refine T_no rfl ?_ ?_; (· (exact dF (by (omega))))) | refine TQ_ret1 2 _ rfl rfl ?_)
    exact ⟨by rw [List.take_length], rfl⟩
end Go.Proofs.Ytdflhdfapnhjjaa
namespace Go.Proofs.Ytdflhdfapnhjjaa
open Go.RowKit
open Vd (RSet Vdt Vote Rec Quest Piece)
set_option linter.unusedVariables false
--auto
variable {G : World} {L : Blocks}
def rdV (x : Vd.Bytes × Int × Int) : Value := .tuple #[.string (bs x.1), .int .i64 x.2.1, .int .i64 x.2.2]
theorem cut_bytes {msg : Vd.Bytes} {p k : Nat} (h : p + k ≤ msg.length) : (msg.take (p + k)).drop p = (msg.drop p).take k := by
  rw [List.drop_take]; congr 1; omega
set_option maxRecDepth 100000 in
set_option maxHeartbeats 1000000 in
theorem Read_S (msg : Vd.Bytes) (at0 : Int) (hs : msg.length ≤ 1000000) : Spec Try.prog G 145 #[.string (bs msg), .int .i64 at0] L fun u M => u = rdV (Vd.readName msg at0) ∧ M = L := by
  refine Spec_of (n := 92) Try.func145 rfl rfl rfl ?_
  by_cases hneg : at0 < 0
  · have hR : Vd.readName msg at0 = ([], 0, 1) := if_pos (Or.inl hneg)
    repeat' (first | with_reducible refine T_seq ?_ | with_reducible refine T_region ?_ | with_reducible refine TL_nil ?_ | with_reducible refine TQ_then ?_ | with_reducible refine T_ret ?_ | with_reducible refine TQ_then_ret ?_ | refine TL_q (op_move rfl) rfl ?_ | refine TL_q (op_assign rfl) rfl ?_ | (refine' TL_q (op_bin rfl rfl ?_) rfl ?_; rotate_left 1; (· (exact bin_lss))) | (refine' TL_q (op_pickT rfl ?_ rfl) rfl ?_; (· (exact dT (by (assumption))))) | (refine TL_gno rfl rfl ?_ rfl ?_; (· (exact dT (by (assumption))))) | (refine T_yes rfl ?_ ?_; (· (with_reducible rfl))) | refine TQ_ret3 4 5 6 _ _ _ rfl rfl rfl rfl ?_)
    exact ⟨by rw [hR]; rfl, rfl⟩
  by_cases hbig : (msg.length : Int) < at0
  · have hR : Vd.readName msg at0 = ([], 0, 1) := if_pos (Or.inr hbig)
    repeat' (first | with_reducible refine T_seq ?_ | with_reducible refine T_region ?_ | with_reducible refine TL_nil ?_ | with_reducible refine TQ_then ?_ | with_reducible refine T_ret ?_ | with_reducible refine TQ_then_ret ?_ | refine TL_q (op_move rfl) rfl ?_ | refine TL_q (op_assign rfl) rfl ?_ | (refine' TL_q (op_bin rfl rfl ?_) rfl ?_; rotate_left 1; (· (exact bin_lss))) | (refine' TL_q (op_pickF rfl ?_ rfl) rfl ?_; (· (exact dF (by (assumption))))) | (refine TL_gpre rfl rfl ?_ ?_; (· (exact dF (by (assumption))))) | refine TL_gq2 (op_move rfl) rfl ?_ | (refine' TL_gq2 (op_bin rfl rfl ?_) rfl ?_; rotate_left 1; (· (exact bin_gtr))) | refine TL_gq2 (op_len_str rfl Try.underlying9) rfl ?_ | (refine T_yes rfl ?_ ?_; (· (exact dT (by (assumption))))) | refine TQ_ret3 4 5 6 _ _ _ rfl rfl rfl rfl ?_)
    exact ⟨by rw [hR]; rfl, rfl⟩
  obtain ⟨R, hR1⟩ := Vd.rdName_some msg (Vd.rdFuel at0.toNat []) at0.toNat at0.toNat (-1) [] (Nat.le_refl _)
  have hR : Vd.readName msg at0 = R := by
    unfold Vd.readName
    rw [if_neg (by omega), hR1]
    rfl
  obtain ⟨k0, rfl⟩ : ∃ k : Nat, at0 = (k : Int) := ⟨at0.toNat, by omega⟩
  rw [hR]
  clear hR
  repeat (first | with_reducible refine T_seq ?_ | with_reducible refine T_block ?_ | with_reducible refine T_region ?_ | with_reducible refine TL_nil ?_ | with_reducible refine TQ_then ?_ | with_reducible refine T_skip ?_ | refine TL_q (op_move rfl) rfl ?_ | refine TL_q (op_assign rfl) rfl ?_ | (refine' TL_q (op_bin rfl rfl ?_) rfl ?_; rotate_left 1; (· (exact bin_lss))) | (refine' TL_q (op_pickF rfl ?_ rfl) rfl ?_; (· (exact Bool.not_true))) | (refine TL_gpre rfl rfl ?_ ?_; (· (exact Bool.not_true))) | refine TL_gq2 (op_move rfl) rfl ?_ | (refine' TL_gq2 (op_bin rfl rfl ?_) rfl ?_; rotate_left 1; (· (exact bin_gtr))) | refine TL_gq2 (op_len_str rfl Try.underlying9) rfl ?_ | (refine T_no rfl ?_ ?_; (· (exact dF (by (assumption))))))
  refine T_loopS (σ := Nat × Nat × Nat × Int × Vd.Bytes) (fun x => x.2.1 ≤ msg.length ∧ x.2.2.1 ≤ msg.length ∧ (-1 ≤ x.2.2.2.1 ∧ x.2.2.2.1 ≤ msg.length + 2) ∧ x.2.2.2.2.length ≤ 254 ∧ Vd.rdName msg x.1 x.2.1 x.2.2.1 x.2.2.2.1 x.2.2.2.2 = some R)
    (fun x => [(0, .string (bs msg)), (1, .int .i64 (x.2.1 : Nat)), (7, .string (bs x.2.2.2.2)), (8, .int .i64 x.2.2.2.1), (9, .int .i64 (x.2.2.1 : Nat))]) (fun _ => L) (fun x => x.1) (Vd.rdFuel k0 [], k0, k0, -1, []) ⟨by dsimp only; omega, by dsimp only; omega, by dsimp only; omega, by simp, hR1⟩ ?_ (fun w h => h) ?_
  (repeat (first | exact trivial | refine ⟨rfl, ?_⟩))
  rintro ⟨f, pos, ahead, next, n⟩ ⟨h1, h2, ⟨h3, h3'⟩, h4, h5⟩
  dsimp only at h1 h2 h3 h3' h4 h5 ⊢
  cases f with
  | zero => cases h5
  | succ f =>
  simp only [Vd.rdName] at h5
  by_cases hlt : pos < msg.length
  · obtain ⟨b, hb, hd⟩ := drop_c hlt
    have hb' : msg[((pos : Nat) : Int).toNat]? = some b := hb
    have hbl : b.toNat ≤ 255 := by have := b.toNat_lt; omega
    rw [hb] at h5
    dsimp only at h5
    by_cases c1 : b.toNat = 0
    · rw [if_pos c1] at h5
      by_cases c2 : next < 0
      · rw [if_pos c2] at h5
        cases h5
        repeat' (first | with_reducible refine T_seq ?_ | with_reducible refine T_block ?_ | with_reducible refine T_region ?_ | with_reducible refine TL_nil ?_ | with_reducible refine TQ_then ?_ | with_reducible refine T_skip ?_ | with_reducible refine T_ret ?_ | with_reducible refine TQ_then_ret ?_ | with_reducible refine TQ_block_ret ?_ | refine TL_q (op_move rfl) rfl ?_ | refine TL_q (op_assign rfl) rfl ?_ | (refine' TL_q (op_bin rfl rfl ?_) rfl ?_; rotate_left 1; (· first | exact bin_add ⟨by omega, by omega⟩ | exact bin_eql | exact bin_lss | exact bin_geq | exact sbin_add (by (simp only [List.length_cons, List.length_nil]; omega)))) | (refine' TL_q (op_conv_int rfl Try.underlying5 Try.underlying3 ?_) rfl ?_; (· exact ⟨by omega, by omega⟩)) | refine TL_q (op_len_str rfl Try.underlying9) rfl ?_ | (refine' TL_q (op_index_str rfl rfl Try.underlying9 ?_ ?_) rfl ?_; rotate_left 1; (· omega); (· (assumption))) | (refine T_yes rfl ?_ ?_; (· (exact dT (by first | assumption | omega)))) | (refine T_no rfl ?_ ?_; (· (exact dF (by (omega))))) | refine TQ_ret3 4 5 6 _ _ _ rfl rfl rfl rfl ?_)
        exact ⟨rfl, rfl⟩
      · rw [if_neg c2] at h5
        cases h5
        repeat' (first | with_reducible refine T_seq ?_ | with_reducible refine T_block ?_ | with_reducible refine T_region ?_ | with_reducible refine TL_nil ?_ | with_reducible refine TQ_then ?_ | with_reducible refine T_skip ?_ | with_reducible refine T_ret ?_ | with_reducible refine TQ_then_ret ?_ | with_reducible refine TQ_block_ret ?_ | refine TL_q (op_move rfl) rfl ?_ | refine TL_q (op_assign rfl) rfl ?_ | (refine' TL_q (op_bin rfl rfl ?_) rfl ?_; rotate_left 1; (· first | exact bin_eql | exact bin_lss | exact bin_geq | exact sbin_add (by (simp only [List.length_cons, List.length_nil]; omega)))) | (refine' TL_q (op_conv_int rfl Try.underlying5 Try.underlying3 ?_) rfl ?_; (· exact ⟨by omega, by omega⟩)) | refine TL_q (op_len_str rfl Try.underlying9) rfl ?_ | (refine' TL_q (op_index_str rfl rfl Try.underlying9 ?_ ?_) rfl ?_; rotate_left 1; (· omega); (· (assumption))) | (refine T_yes rfl ?_ ?_; (· (exact dT (by (omega))))) | (refine T_no rfl ?_ ?_; (· (exact dF (by first | assumption | omega)))) | refine TQ_ret3 4 5 6 _ _ _ rfl rfl rfl rfl ?_)
        exact ⟨rfl, rfl⟩
    rw [if_neg c1] at h5
    by_cases c2 : 192 ≤ b.toNat
    · rw [if_pos c2] at h5
      by_cases hlt2 : pos + 1 < msg.length
      · obtain ⟨c, hc, _⟩ := drop_c hlt2
        have hc' : msg[(((pos : Nat) : Int) + 1).toNat]? = some c := hc
        have hcl : c.toNat ≤ 255 := by have := c.toNat_lt; omega
        rw [hc] at h5
        dsimp only at h5
        by_cases c3 : ahead ≤ (b.toNat - 192) * 256 + c.toNat
        · rw [if_pos c3] at h5
          cases h5
          by_cases c4 : next < 0
          · repeat' (first | with_reducible refine T_seq ?_ | with_reducible refine T_block ?_ | with_reducible refine T_region ?_ | with_reducible refine TL_nil ?_ | with_reducible refine TQ_then ?_ | with_reducible refine T_skip ?_ | with_reducible refine T_ret ?_ | with_reducible refine TQ_then_ret ?_ | with_reducible refine TQ_block_ret ?_ | refine TL_q (op_move rfl) rfl ?_ | refine TL_q (op_assign rfl) rfl ?_ | (refine' TL_q (op_bin rfl rfl ?_) rfl ?_; rotate_left 1; (· first | exact bin_add ⟨by omega, by omega⟩ | exact bin_sub ⟨by omega, by omega⟩ | exact bin_mul ⟨by omega, by omega⟩ | exact bin_eql | exact bin_lss | exact bin_geq)) | (refine' TL_q (op_conv_int rfl Try.underlying5 Try.underlying3 ?_) rfl ?_; (· exact ⟨by omega, by omega⟩)) | refine TL_q (op_len_str rfl Try.underlying9) rfl ?_ | (refine' TL_q (op_index_str rfl rfl Try.underlying9 ?_ ?_) rfl ?_; rotate_left 1; (· omega); (· (assumption))) | (refine T_yes rfl ?_ ?_; (· (exact dT (by first | assumption | omega)))) | (refine T_no rfl ?_ ?_; (· (exact dF (by (omega))))) | refine TQ_ret3 4 5 6 _ _ _ rfl rfl rfl rfl ?_)
            exact ⟨rfl, rfl⟩
          · repeat' (first | with_reducible refine T_seq ?_ | with_reducible refine T_block ?_ | with_reducible refine T_region ?_ | with_reducible refine TL_nil ?_ | with_reducible refine TQ_then ?_ | with_reducible refine T_skip ?_ | with_reducible refine T_ret ?_ | with_reducible refine TQ_then_ret ?_ | with_reducible refine TQ_block_ret ?_ | refine TL_q (op_move rfl) rfl ?_ | refine TL_q (op_assign rfl) rfl ?_ | (refine' TL_q (op_bin rfl rfl ?_) rfl ?_; rotate_left 1; (· first | exact bin_add ⟨by omega, by omega⟩ | exact bin_sub ⟨by omega, by omega⟩ | exact bin_mul ⟨by omega, by omega⟩ | exact bin_eql | exact bin_lss | exact bin_geq)) | (refine' TL_q (op_conv_int rfl Try.underlying5 Try.underlying3 ?_) rfl ?_; (· exact ⟨by omega, by omega⟩)) | refine TL_q (op_len_str rfl Try.underlying9) rfl ?_ | (refine' TL_q (op_index_str rfl rfl Try.underlying9 ?_ ?_) rfl ?_; rotate_left 1; (· omega); (· (assumption))) | (refine T_yes rfl ?_ ?_; (· (exact dT (by (omega))))) | (refine T_no rfl ?_ ?_; (· (exact dF (by first | assumption | omega)))) | refine TQ_ret3 4 5 6 _ _ _ rfl rfl rfl rfl ?_)
            exact ⟨rfl, rfl⟩
        · rw [if_neg c3] at h5
          have e1 : (((b.toNat - 192) * 256 + c.toNat : Nat) : Int) = ((b.toNat : Nat) - 192 : Int) * 256 + (c.toNat : Nat) := by omega
          by_cases c4 : next < 0
          · rw [if_pos c4] at h5
            repeat' (first | with_reducible refine T_seq ?_ | with_reducible refine T_block ?_ | with_reducible refine T_region ?_ | with_reducible refine TL_nil ?_ | with_reducible refine TQ_then ?_ | with_reducible refine TQ_block ?_ | with_reducible refine T_skip ?_ | refine TL_q (op_move rfl) rfl ?_ | refine TL_q (op_assign rfl) rfl ?_ | (refine' TL_q (op_bin rfl rfl ?_) rfl ?_; rotate_left 1; (· first | exact bin_add ⟨by omega, by omega⟩ | exact bin_sub ⟨by omega, by omega⟩ | exact bin_mul ⟨by omega, by omega⟩ | exact bin_eql | exact bin_lss | exact bin_geq)) | (refine' TL_q (op_conv_int rfl Try.underlying5 Try.underlying3 ?_) rfl ?_; (· exact ⟨by omega, by omega⟩)) | refine TL_q (op_len_str rfl Try.underlying9) rfl ?_ | (refine' TL_q (op_index_str rfl rfl Try.underlying9 ?_ ?_) rfl ?_; rotate_left 1; (· omega); (· (assumption))) | (refine T_yes rfl ?_ ?_; (· (exact dT (by first | assumption | omega)))) | (refine T_no rfl ?_ ?_; (· (exact dF (by (omega))))))
            refine TQ_roundS (f, (b.toNat - 192) * 256 + c.toNat, (b.toNat - 192) * 256 + c.toNat, (pos : Int) + 2, n) ⟨by dsimp only; omega, by dsimp only; omega, by dsimp only; omega, h4, h5⟩ ?_ (fun w h => h) (by dsimp only; omega)
            dsimp only
            rw [e1]
            (repeat (first | exact trivial | refine ⟨rfl, ?_⟩))
          · rw [if_neg c4] at h5
            repeat' (first | with_reducible refine T_seq ?_ | with_reducible refine T_block ?_ | with_reducible refine T_region ?_ | with_reducible refine TL_nil ?_ | with_reducible refine TQ_then ?_ | with_reducible refine TQ_block ?_ | with_reducible refine T_skip ?_ | refine TL_q (op_move rfl) rfl ?_ | refine TL_q (op_assign rfl) rfl ?_ | (refine' TL_q (op_bin rfl rfl ?_) rfl ?_; rotate_left 1; (· first | exact bin_add ⟨by omega, by omega⟩ | exact bin_sub ⟨by omega, by omega⟩ | exact bin_mul ⟨by omega, by omega⟩ | exact bin_eql | exact bin_lss | exact bin_geq)) | (refine' TL_q (op_conv_int rfl Try.underlying5 Try.underlying3 ?_) rfl ?_; (· exact ⟨by omega, by omega⟩)) | refine TL_q (op_len_str rfl Try.underlying9) rfl ?_ | (refine' TL_q (op_index_str rfl rfl Try.underlying9 ?_ ?_) rfl ?_; rotate_left 1; (· omega); (· (assumption))) | (refine T_yes rfl ?_ ?_; (· (exact dT (by (omega))))) | (refine T_no rfl ?_ ?_; (· (exact dF (by first | assumption | omega)))))
            refine TQ_roundS (f, (b.toNat - 192) * 256 + c.toNat, (b.toNat - 192) * 256 + c.toNat, next, n) ⟨by dsimp only; omega, by dsimp only; omega, by dsimp only; omega, h4, h5⟩ ?_ (fun w h => h) (by dsimp only; omega)
            dsimp only
            rw [e1]
            (repeat (first | exact trivial | refine ⟨rfl, ?_⟩))
      · rw [List.getElem?_eq_none (by omega)] at h5
        cases h5
        repeat' (first | with_reducible refine T_seq ?_ | with_reducible refine T_block ?_ | with_reducible refine T_region ?_ | with_reducible refine TL_nil ?_ | with_reducible refine TQ_then ?_ | with_reducible refine T_skip ?_ | with_reducible refine T_ret ?_ | with_reducible refine TQ_then_ret ?_ | with_reducible refine TQ_block_ret ?_ | refine TL_q (op_move rfl) rfl ?_ | refine TL_q (op_assign rfl) rfl ?_ | (refine' TL_q (op_bin rfl rfl ?_) rfl ?_; rotate_left 1; (· first | exact bin_add ⟨by omega, by omega⟩ | exact bin_eql | exact bin_geq)) | (refine' TL_q (op_conv_int rfl Try.underlying5 Try.underlying3 ?_) rfl ?_; (· exact ⟨by omega, by omega⟩)) | refine TL_q (op_len_str rfl Try.underlying9) rfl ?_ | (refine' TL_q (op_index_str rfl rfl Try.underlying9 ?_ ?_) rfl ?_; rotate_left 1; (· omega); (· (assumption))) | (refine T_yes rfl ?_ ?_; (· (exact dT (by (omega))))) | (refine T_no rfl ?_ ?_; (· (exact dF (by (omega))))) | refine TQ_ret3 4 5 6 _ _ _ rfl rfl rfl rfl ?_)
        exact ⟨rfl, rfl⟩
    rw [if_neg c2] at h5
    by_cases c3 : 64 ≤ b.toNat
    · rw [if_pos c3] at h5
      cases h5
      repeat' (first | with_reducible refine T_seq ?_ | with_reducible refine T_block ?_ | with_reducible refine T_region ?_ | with_reducible refine TL_nil ?_ | with_reducible refine TQ_then ?_ | with_reducible refine T_skip ?_ | with_reducible refine T_ret ?_ | with_reducible refine TQ_then_ret ?_ | with_reducible refine TQ_block_ret ?_ | refine TL_q (op_move rfl) rfl ?_ | refine TL_q (op_assign rfl) rfl ?_ | (refine' TL_q (op_bin rfl rfl ?_) rfl ?_; rotate_left 1; (· first | exact bin_eql | exact bin_geq)) | (refine' TL_q (op_conv_int rfl Try.underlying5 Try.underlying3 ?_) rfl ?_; (· exact ⟨by omega, by omega⟩)) | refine TL_q (op_len_str rfl Try.underlying9) rfl ?_ | (refine' TL_q (op_index_str rfl rfl Try.underlying9 ?_ ?_) rfl ?_; rotate_left 1; (· omega); (· (assumption))) | (refine T_yes rfl ?_ ?_; (· (exact dT (by (omega))))) | (refine T_no rfl ?_ ?_; (· (exact dF (by (omega))))) | refine TQ_ret3 4 5 6 _ _ _ rfl rfl rfl rfl ?_)
      exact ⟨rfl, rfl⟩
    rw [if_neg c3] at h5
    by_cases c4 : msg.length < pos + 1 + b.toNat
    · rw [if_pos c4] at h5
      cases h5
      repeat' (first | with_reducible refine T_seq ?_ | with_reducible refine T_block ?_ | with_reducible refine T_region ?_ | with_reducible refine TL_nil ?_ | with_reducible refine TQ_then ?_ | with_reducible refine T_skip ?_ | with_reducible refine T_ret ?_ | with_reducible refine TQ_then_ret ?_ | with_reducible refine TQ_block_ret ?_ | refine TL_q (op_move rfl) rfl ?_ | refine TL_q (op_assign rfl) rfl ?_ | (refine' TL_q (op_bin rfl rfl ?_) rfl ?_; rotate_left 1; (· first | exact bin_add ⟨by omega, by omega⟩ | exact bin_eql | exact bin_gtr | exact bin_geq)) | (refine' TL_q (op_conv_int rfl Try.underlying5 Try.underlying3 ?_) rfl ?_; (· exact ⟨by omega, by omega⟩)) | refine TL_q (op_len_str rfl Try.underlying9) rfl ?_ | (refine' TL_q (op_index_str rfl rfl Try.underlying9 ?_ ?_) rfl ?_; rotate_left 1; (· omega); (· (assumption))) | (refine T_yes rfl ?_ ?_; (· (exact dT (by (omega))))) | (refine T_no rfl ?_ ?_; (· (exact dF (by (omega))))) | refine TQ_ret3 4 5 6 _ _ _ rfl rfl rfl rfl ?_)
      exact ⟨rfl, rfl⟩
    rw [if_neg c4] at h5
    have e2 : (msg.take (((pos : Nat) : Int) + 1 + (b.toNat : Nat)).toNat).drop ((pos : Nat) : Int).toNat = (msg.drop pos).take (1 + b.toNat) := by
      rw [show (((pos : Nat) : Int) + 1 + (b.toNat : Nat)).toNat = pos + (1 + b.toNat) by omega]
      exact cut_bytes (by omega)
    have hn : (n ++ (msg.drop pos).take (1 + b.toNat)).length = n.length + (1 + b.toNat) := by rw [List.length_append, List.length_take, List.length_drop]; omega
    have hn2 : ((msg.take (((pos : Nat) : Int) + 1 + (b.toNat : Nat)).toNat).drop ((pos : Nat) : Int).toNat).length = 1 + b.toNat := by rw [e2, List.length_take, List.length_drop]; omega
    have hn3 : (n ++ (msg.take (((pos : Nat) : Int) + 1 + (b.toNat : Nat)).toNat).drop ((pos : Nat) : Int).toNat).length = n.length + (1 + b.toNat) := by rw [e2, hn]
    by_cases c5 : 255 < (n ++ (msg.drop pos).take (1 + b.toNat)).length + 1
    · rw [if_pos c5] at h5
      cases h5
      repeat' (first | with_reducible refine T_seq ?_ | with_reducible refine T_block ?_ | with_reducible refine T_region ?_ | with_reducible refine TL_nil ?_ | with_reducible refine TQ_then ?_ | with_reducible refine T_skip ?_ | with_reducible refine T_ret ?_ | with_reducible refine TQ_then_ret ?_ | with_reducible refine TQ_block_ret ?_ | refine TL_q (op_move rfl) rfl ?_ | refine TL_q (op_assign rfl) rfl ?_ | (refine' TL_q (op_bin rfl rfl ?_) rfl ?_; rotate_left 1; (· first | exact bin_add ⟨by omega, by omega⟩ | exact bin_eql | exact bin_gtr | exact bin_geq | exact sbin_add (by (omega)))) | (refine' TL_q (op_conv_int rfl Try.underlying5 Try.underlying3 ?_) rfl ?_; (· exact ⟨by omega, by omega⟩)) | refine TL_q (op_len_str rfl Try.underlying9) rfl ?_ | (refine' TL_q (op_index_str rfl rfl Try.underlying9 ?_ ?_) rfl ?_; rotate_left 1; (· omega); (· (assumption))) | (refine' TL_q (op_slice_str rfl rfl rfl Try.underlying9 ?_ ?_ ?_) rfl ?_; (· omega); (· omega); (· omega)) | (refine T_yes rfl ?_ ?_; (· (exact dT (by (omega))))) | (refine T_no rfl ?_ ?_; (· (exact dF (by (omega))))) | refine TQ_ret3 4 5 6 _ _ _ rfl rfl rfl rfl ?_)
      exact ⟨rfl, rfl⟩
    · rw [if_neg c5] at h5
      repeat' (first | with_reducible refine T_seq ?_ | with_reducible refine T_block ?_ | with_reducible refine T_region ?_ | with_reducible refine TL_nil ?_ | with_reducible refine TQ_then ?_ | with_reducible refine TQ_block ?_ | with_reducible refine T_skip ?_ | refine TL_q (op_move rfl) rfl ?_ | refine TL_q (op_assign rfl) rfl ?_ | (refine' TL_q (op_bin rfl rfl ?_) rfl ?_; rotate_left 1; (· first | exact bin_add ⟨by omega, by omega⟩ | exact bin_eql | exact bin_gtr | exact bin_geq | exact sbin_add (by (omega)))) | (refine' TL_q (op_conv_int rfl Try.underlying5 Try.underlying3 ?_) rfl ?_; (· exact ⟨by omega, by omega⟩)) | refine TL_q (op_len_str rfl Try.underlying9) rfl ?_ | (refine' TL_q (op_index_str rfl rfl Try.underlying9 ?_ ?_) rfl ?_; rotate_left 1; (· omega); (· (assumption))) | (refine' TL_q (op_slice_str rfl rfl rfl Try.underlying9 ?_ ?_ ?_) rfl ?_; (· omega); (· omega); (· omega)) | (refine T_no rfl ?_ ?_; (· (exact dF (by (omega))))))
      refine TQ_roundS (f, pos + 1 + b.toNat, ahead, next, n ++ (msg.drop pos).take (1 + b.toNat)) ⟨by dsimp only; omega, by dsimp only; omega, ⟨by dsimp only; omega, by dsimp only; omega⟩, by dsimp only; omega, h5⟩ ?_ (fun w h => h) (by dsimp only; omega)
      dsimp only
      rw [← e2]
      (repeat (first | exact trivial | refine ⟨rfl, ?_⟩))
  · rw [List.getElem?_eq_none (by omega)] at h5
    cases h5
    repeat' (first | with_reducible refine T_seq ?_ | with_reducible refine T_block ?_ | with_reducible refine T_region ?_ | with_reducible refine TL_nil ?_ | with_reducible refine TQ_then ?_ | with_reducible refine T_ret ?_ | with_reducible refine TQ_then_ret ?_ | with_reducible refine TQ_block_ret ?_ | refine TL_q (op_move rfl) rfl ?_ | refine TL_q (op_assign rfl) rfl ?_ | (refine' TL_q (op_bin rfl rfl ?_) rfl ?_; rotate_left 1; (· (exact bin_geq))) | refine TL_q (op_len_str rfl Try.underlying9) rfl ?_ | (refine T_yes rfl ?_ ?_; (· (exact dT (by (omega))))) | refine TQ_ret3 4 5 6 _ _ _ rfl rfl rfl rfl ?_)
    exact ⟨rfl, rfl⟩
end Go.Proofs.Ytdflhdfapnhjjaa
