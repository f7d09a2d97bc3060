/-
  THE WALKS of the reference's Parent, Same, Within (hustingsref01).
-/
import Derived.Test.YtoonclcppokdeaaWRef3
namespace Go.Proofs.Ytoonclcppokdeaa
open Go.RowKit

set_option maxRecDepth 100000 in
set_option maxHeartbeats 1000000 in
theorem refParent_any (s : ByteArray) (w : World) (hs : s.size ≤ 1000000) :
    Calls Try.prog 48 #[.string s] w fun e w' => e = .returned (.tuple #[.string ⟨(Nm.parentN s.data.toList).toArray⟩, .bool (Nm.parentB s.data.toList)]) ∧ Below w.heap.size w w' := by
  go_enter Try.func48, Try.ntmps48
  go_wp2_with fail
  refine (refLabels_any s _ hs).mono ?_
  rintro e w1 ⟨v, rfl, ho, hb⟩
  cases hm : Nm.may s.data.toList
  · have hn := Nm.nm_of_not hm
    go_wp2_with fail
    go_ret2
    exact ⟨by unfold Nm.parentN Nm.parentB; rw [hn]; rfl, hb⟩
  · obtain ⟨ls, hnm⟩ := Nm.nm_of_may hm
    rw [labels_some hnm] at ho
    have hcount := labels_count hnm
    have HOK := Lib.hid (Nm.nm_iff.1 hnm).2.1
    have HNM := Lib.hid hnm
    have HB := Lib.hid hb
    clear hb hm hnm
    cases ls with
    | nil =>
      obtain ⟨a, cap, rfl, hrow⟩ := SRow.own ho
      clear ho hrow
      go_wp2_with fail
      go_ret2
      exact ⟨by unfold Nm.parentN Nm.parentB; rw [HNM.out]; rfl, HB.out⟩
    | cons l t =>
      obtain ⟨_, ⟨rfl, h0⟩ | ⟨g, cap, cur, rfl, _, hg, hcap, hmax, _, htk⟩⟩ := ho
      · simp at h0
      have hg1 : g < w1.heap.size := (Array.getElem?_eq_some_iff.1 hg).1
      have HC := Lib.hid (show ∀ i n, (l :: t)[i]? = some n → w1.cell? ⟨g, i, none⟩ = some (strV n) from fun i n hi => by
        have hil : i < (l :: t).length := (List.getElem?_eq_some_iff.1 hi).1
        unfold World.cell?
        rw [hg]
        have : (cur.toList.take ((l :: t).length * 1))[i]? = some (strV n) := by rw [htk, List.getElem?_map, hi]; rfl
        rw [List.getElem?_take_of_lt (by omega)] at this
        simpa using this)
      clear htk hg
      have hcap' : t.length + 1 ≤ cap := hcap
      clear hcap
      go_wp2_with fail
      case inl hc1 =>
        obtain rfl : t = [] := List.eq_nil_of_length_eq_zero (by omega)
        refine (refBytes_any _ [] _ ⟨_, _, rfl, Or.inl rfl⟩ (fun l hl => by cases hl) (by simp)).mono ?_
        rintro e w2 ⟨rfl, hb2⟩
        go_wp2_with fail
        go_ret2
        exact ⟨by unfold Nm.parentN Nm.parentB; rw [HNM.out]; rfl, HB.out.trans (hb2.mono HB.out.size)⟩
      case inr hc1 =>
        refine (refBytes_any _ t _ ⟨_, _, rfl, Or.inr ⟨g, 1, rfl, hg1, fun i n hi => ?_⟩⟩ (fun l hl => (HOK.out l (by simp [hl])).2) (by simp at hcount; omega)).mono ?_
        · rw [Nat.add_comm]
          exact HC.out (i + 1) n (by simpa using hi)
        rintro e w2 ⟨rfl, hb2⟩
        go_wp2_with fail
        go_ret2
        exact ⟨by unfold Nm.parentN Nm.parentB; rw [HNM.out]; rfl, HB.out.trans (hb2.mono HB.out.size)⟩

theorem same_fold {a b : Nm.Bytes} (ha : Nm.may a = true) (hb : Nm.may b = true) : Nm.same a b = (Nm.fold a == Nm.fold b) := by
  simp [Nm.same, Nm.fold, ha, hb]

set_option maxRecDepth 100000 in
set_option maxHeartbeats 1000000 in
theorem refSame_any (s t : ByteArray) (w : World) (hs : s.size ≤ 1000000) (ht : t.size ≤ 1000000) :
    Calls Try.prog 32 #[.string s, .string t] w fun e w' => e = .returned (.bool (Nm.same s.data.toList t.data.toList)) ∧ Below w.heap.size w w' := by
  cases hm : Nm.may s.data.toList with
  | false =>
    have HV := Lib.hid (show Nm.same s.data.toList t.data.toList = false by simp [Nm.same, hm])
    have HM := Lib.hid hm
    clear hm
    go_enter Try.func32, Try.ntmps32
    go_wp2_with fail
    refine (refMay_any _ _ hs).mono ?_
    rintro e w1 ⟨rfl, hb⟩
    rw [HM.out]
    go_wp2_with fail
    go_ret
    rw [HV.out]
    exact ⟨rfl, hb⟩
  | true =>
    have HM := Lib.hid hm
    cases hm2 : Nm.may t.data.toList with
    | false =>
      have HV := Lib.hid (show Nm.same s.data.toList t.data.toList = false by simp [Nm.same, hm2])
      have HM2 := Lib.hid hm2
      clear hm hm2
      go_enter Try.func32, Try.ntmps32
      go_wp2_with fail
      refine (refMay_any _ _ hs).mono ?_
      rintro e w1 ⟨rfl, hb⟩
      rw [HM.out]
      go_wp2_with fail
      refine (refMay_any _ _ ht).mono ?_
      rintro e w2 ⟨rfl, hb2⟩
      rw [HM2.out]
      go_wp2_with fail
      go_ret
      rw [HV.out]
      exact ⟨rfl, hb.trans (hb2.mono hb.size)⟩
    | true =>
      have HV := Lib.hid (same_fold hm hm2)
      have HM2 := Lib.hid hm2
      clear hm hm2
      go_enter Try.func32, Try.ntmps32
      go_wp2_with fail
      refine (refMay_any _ _ hs).mono ?_
      rintro e w1 ⟨rfl, hb⟩
      rw [HM.out]
      go_wp2_with fail
      refine (refMay_any _ _ ht).mono ?_
      rintro e w2 ⟨rfl, hb2⟩
      rw [HM2.out]
      have HB2 := Lib.hid (hb.trans (hb2.mono hb.size))
      clear hb hb2
      go_wp2_with fail
      refine (refFold_any _ _ hs).mono ?_
      rintro e w3 ⟨rfl, hb3⟩
      have HB3 := Lib.hid (HB2.out.trans (hb3.mono HB2.out.size))
      clear hb3
      go_wp2_with fail
      refine (refFold_any _ _ ht).mono ?_
      rintro e w4 ⟨rfl, hb4⟩
      have HB4 := Lib.hid (HB3.out.trans (hb4.mono HB3.out.size))
      clear hb4
      go_wp2_with fail
      go_ret
      rw [HV.out]
      refine ⟨?_, HB4.out⟩
      rfl

def strLen : Value → Nat
  | .string s => s.size
  | _ => 0

theorem same_lowL {n z : Nm.Bytes} {a b : List Nm.Bytes} (ha : Nm.nm n = some a) (hb : Nm.nm z = some b) : Nm.same n z = true ↔ Nm.lowL b = Nm.lowL a := by
  obtain ⟨h1, h2, _⟩ := Nm.nm_iff.1 ha
  obtain ⟨k1, k2, _⟩ := Nm.nm_iff.1 hb
  simp only [Nm.same, Nm.may_some ha, Nm.may_some hb, Bool.true_and, beq_iff_eq]
  rw [h1, k1, Nm.low_enc _ h2, Nm.low_enc _ k2]
  exact ⟨fun h => (Nm.enc_inj (Nm.lowL_ok h2) (Nm.lowL_ok k2) h).symm, fun h => by rw [h]⟩
theorem within_same {n z : Nm.Bytes} (h : Nm.same n z = true) : Nm.within n z = true := by
  have hn : Nm.may n = true := by simp [Nm.same] at h; exact h.1.1
  have hz : Nm.may z = true := by simp [Nm.same] at h; exact h.1.2
  obtain ⟨a, ha⟩ := Nm.nm_of_may hn
  obtain ⟨b, hb⟩ := Nm.nm_of_may hz
  have := (same_lowL ha hb).1 h
  unfold Nm.within
  rw [ha, hb]
  simp [this]
theorem nm_tail {n : Nm.Bytes} {l : Nm.Bytes} {t : List Nm.Bytes} (h : Nm.nm n = some (l :: t)) : Nm.nm (Nm.enc t) = some t := by
  obtain ⟨h1, h2, h3⟩ := Nm.nm_iff.1 h
  refine Nm.nm_iff.2 ⟨rfl, (Nm.ok_cons.1 h2).2, ?_⟩
  rw [h1] at h3
  simp [Nm.enc] at h3
  omega
theorem within_up {n z : Nm.Bytes} {l : Nm.Bytes} {t : List Nm.Bytes} (hn : Nm.nm n = some (l :: t)) (h : Nm.same n z = false) : Nm.within n z = Nm.within (Nm.enc t) z := by
  unfold Nm.within
  rw [hn, nm_tail hn]
  cases hz : Nm.nm z with
  | none => rfl
  | some b =>
    have hne : ¬ Nm.lowL b = Nm.lowL (l :: t) := fun k => by rw [(same_lowL hn hz).2 k] at h; cases h
    show (Nm.lowL b).isSuffixOf (Nm.lowL (l :: t)) = (Nm.lowL b).isSuffixOf (Nm.lowL t)
    rw [Bool.eq_iff_iff, List.isSuffixOf_iff_suffix, List.isSuffixOf_iff_suffix]
    show Nm.lowL b <:+ Nm.low l :: Nm.lowL t ↔ _
    rw [List.suffix_cons_iff]
    exact ⟨fun k => k.resolve_left hne, Or.inr⟩
theorem within_root {n z : Nm.Bytes} (hn : Nm.nm n = some []) (h : Nm.same n z = false) : Nm.within n z = false := by
  unfold Nm.within
  rw [hn]
  cases hz : Nm.nm z with
  | none => rfl
  | some b =>
    have hne : ¬ Nm.lowL b = Nm.lowL [] := fun k => by rw [(same_lowL hn hz).2 k] at h; cases h
    show (Nm.lowL b).isSuffixOf (Nm.lowL []) = false
    rw [Bool.eq_false_iff]
    intro k
    rw [List.isSuffixOf_iff_suffix] at k
    exact hne (by simpa [Nm.lowL] using k)

set_option maxRecDepth 100000 in
set_option maxHeartbeats 1000000 in
theorem refWithin_any (s t : ByteArray) (w : World) (hs : s.size ≤ 1000000) (ht : t.size ≤ 1000000) :
    Calls Try.prog 33 #[.string s, .string t] w fun e w' => e = .returned (.bool (Nm.within s.data.toList t.data.toList)) ∧ Below w.heap.size w w' := by
  cases hm : Nm.may s.data.toList with
  | false =>
    have HV := Lib.hid (show Nm.within s.data.toList t.data.toList = false by unfold Nm.within; rw [Nm.nm_of_not hm])
    have HM := Lib.hid hm
    clear hm
    go_enter Try.func33, Try.ntmps33
    go_wp2_with fail
    refine (refMay_any _ _ hs).mono ?_
    rintro e w1 ⟨rfl, hb⟩
    rw [HM.out]
    go_wp2_with fail
    go_ret
    rw [HV.out]
    exact ⟨rfl, hb⟩
  | true =>
    have HM := Lib.hid hm
    cases hm2 : Nm.may t.data.toList with
    | false =>
      have HV := Lib.hid (show Nm.within s.data.toList t.data.toList = false by unfold Nm.within; rw [Nm.nm_of_not hm2]; cases Nm.nm s.data.toList <;> rfl)
      have HM2 := Lib.hid hm2
      clear hm hm2
      go_enter Try.func33, Try.ntmps33
      go_wp2_with fail
      refine (refMay_any _ _ hs).mono ?_
      rintro e w1 ⟨rfl, hb⟩
      rw [HM.out]
      go_wp2_with fail
      refine (refMay_any _ _ ht).mono ?_
      rintro e w2 ⟨rfl, hb2⟩
      rw [HM2.out]
      go_wp2_with fail
      go_ret
      rw [HV.out]
      exact ⟨rfl, hb.trans (hb2.mono hb.size)⟩
    | true =>
      obtain ⟨a0, ha0⟩ := Nm.nm_of_may hm
      have HA0 := Lib.hid ha0
      have HM2 := Lib.hid hm2
      clear hm hm2 ha0
      go_enter Try.func33, Try.ntmps33
      go_wp2_with fail
      refine (refMay_any _ _ hs).mono ?_
      rintro e w1 ⟨rfl, hb⟩
      rw [HM.out]
      go_wp2_with fail
      refine (refMay_any _ _ ht).mono ?_
      rintro e w2 ⟨rfl, hb2⟩
      rw [HM2.out]
      have HB2 := Lib.hid (hb.trans (hb2.mono hb.size))
      clear hb hb2
      go_wp2_with fail
      go_loopw [0, 5, 6] (fun n _ _ wr => ∃ (x : Nm.Bytes) (a : List Nm.Bytes), n = .string ⟨x.toArray⟩ ∧ Nm.nm x = some a ∧ Nm.within s.data.toList t.data.toList = Nm.within x t.data.toList ∧ Below w.heap.size w wr) (fun n _ _ _ => strLen n)
      case atStart => exact ⟨s.data.toList, a0, rfl, HA0.out, rfl, HB2.out⟩
      case round =>
        obtain ⟨x, a, rfl, hx, hw, hbel⟩ := hrel
        have hxl : x.length ≤ 1000000 := by have := (Nm.nm_iff.1 hx).2.2; omega
        have HX := Lib.hid hx
        have HW := Lib.hid hw
        have HBEL := Lib.hid hbel
        clear hx hw hbel
        go_wp2_with fail
        refine (refSame_any ⟨x.toArray⟩ t _ (by rw [byteSize]; omega) ht).mono ?_
        rintro e w3 ⟨rfl, hb3⟩
        have HB3 := Lib.hid (HBEL.out.trans (hb3.mono HBEL.out.size))
        clear hb3
        cases hsm : Nm.same x t.data.toList with
        | true =>
          have HV := Lib.hid (HW.out.trans (within_same hsm))
          clear hsm
          go_wp2_with fail
          go_ret
          rw [HV.out]
          exact ⟨rfl, HB3.out⟩
        | false =>
          have HS := Lib.hid hsm
          clear hsm
          go_wp2_with fail
          refine (refParent_any ⟨x.toArray⟩ _ (by rw [byteSize]; omega)).mono ?_
          rintro e w4 ⟨rfl, hb4⟩
          have HB4 := Lib.hid (HB3.out.trans (hb4.mono HB3.out.size))
          clear hb4
          cases a with
          | nil =>
            have HV := Lib.hid (HW.out.trans (within_root HX.out HS.out))
            have HP := Lib.hid (show Nm.parentB x = false by unfold Nm.parentB; rw [HX.out])
            rw [HP.out]
            go_wp2_with fail
            go_ret
            rw [HV.out]
            exact ⟨rfl, HB4.out⟩
          | cons l tl =>
            have HV := Lib.hid (HW.out.trans (within_up HX.out HS.out))
            have HP := Lib.hid (show Nm.parentB x = true by unfold Nm.parentB; rw [HX.out])
            have HQ := Lib.hid (show Nm.parentN x = Nm.enc tl by unfold Nm.parentN; rw [HX.out])
            rw [HP.out, HQ.out]
            have HL := Lib.hid (show (Nm.enc tl).length < x.length by rw [(Nm.nm_iff.1 HX.out).1]; simp [Nm.enc]; omega)
            go_wp2_with fail
            exact ⟨⟨_, tl, rfl, nm_tail HX.out, HV.out, HB4.out⟩, by simpa [strLen, byteSize] using HL.out⟩

end Go.Proofs.Ytoonclcppokdeaa
