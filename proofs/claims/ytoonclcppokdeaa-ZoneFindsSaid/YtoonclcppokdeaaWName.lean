/-
  THE WALKS of name.Fold, Labels, Parent.
-/
import Derived.Test.YtoonclcppokdeaaWMay
import Derived.Test.YtoonclcppokdeaaWLower
import Derived.Test.YtoonclcppokdeaaWLabels
namespace Go.Proofs.Ytoonclcppokdeaa
open Go.RowKit

theorem nm_size {s : ByteArray} {ls : List Nm.Bytes} (h : Nm.nm s.data.toList = some ls) : s.size ≤ 255 := by
  have := (Nm.nm_iff.1 h).2.2
  simpa using this

theorem fold_any (s : ByteArray) (w : World) (hs : s.size ≤ maxLen) :
    Calls Try.prog 29 #[.string s] w fun e w' => e = .returned (strV (Nm.fold s.data.toList)) ∧ Below w.heap.size w w' := by
  cases hm : Nm.may s.data.toList with
  | false =>
    have hv : Nm.fold s.data.toList = [] := by simp [Nm.fold, hm]
    have HV := Lib.hid hv
    have HM := Lib.hid hm
    clear hv hm
    go_enter Try.func29, Try.ntmps29
    go_wp2_with fail
    refine (may_any _ _ hs).mono ?_
    rintro e w' ⟨rfl, rfl⟩
    rw [HM.out]
    go_wp2_with fail
    go_ret
    rw [HV.out]
    exact ⟨rfl, Below.refl _ _⟩
  | true =>
    have hv : Nm.fold s.data.toList = Nm.low s.data.toList := by simp [Nm.fold, hm]
    have HV := Lib.hid hv
    have HM := Lib.hid hm
    clear hv hm
    go_enter Try.func29, Try.ntmps29
    go_wp2_with fail
    refine (may_any _ _ hs).mono ?_
    rintro e w' ⟨rfl, rfl⟩
    rw [HM.out]
    go_wp2_with fail
    refine (lower_any _ _ hs).mono ?_
    rintro e w' ⟨rfl, hb⟩
    go_wp2_with fail
    go_ret
    rw [HV.out]
    exact ⟨rfl, hb⟩

theorem Labels_any (s : ByteArray) (w : World) (hs : s.size ≤ maxLen) :
    Calls Try.prog 45 #[.string s] w fun e w' => ∃ v, e = .returned v ∧ w'.ownsRow w.heap.size 9 1 v (Nm.labels s.data.toList).length ((Nm.labels s.data.toList).map strV) ∧ Below w.heap.size w w' := by
  cases hm : Nm.nm s.data.toList with
  | none =>
    have hv : Nm.labels s.data.toList = [] := by simp [Nm.labels, hm]
    have HV := Lib.hid hv
    have HM := Lib.hid (Nm.may_none hm)
    clear hv hm
    go_enter Try.func45, Try.ntmps45
    go_wp2_with fail
    refine (may_any _ _ hs).mono ?_
    rintro e w' ⟨rfl, rfl⟩
    rw [HM.out]
    go_wp2_with fail
    go_ret
    rw [HV.out]
    exact ⟨_, rfl, World.ownsRow_nil _ _ _ _, Below.refl _ _⟩
  | some ls =>
    have hv : Nm.labels s.data.toList = ls := by simp [Nm.labels, hm]
    have HV := Lib.hid hv
    have HM := Lib.hid (Nm.may_some hm)
    have HN := Lib.hid hm
    clear hv hm
    go_enter Try.func45, Try.ntmps45
    go_wp2_with fail
    refine (may_any _ _ hs).mono ?_
    rintro e w' ⟨rfl, rfl⟩
    rw [HM.out]
    go_wp2_with fail
    refine (labels_any _ ls _ (Nm.nm_iff.1 HN.out).1 (Nm.nm_iff.1 HN.out).2.1 (nm_size HN.out)).mono ?_
    rintro e w' ⟨v, rfl, ho, hb⟩
    go_wp2_with fail
    go_ret
    rw [HV.out]
    exact ⟨_, rfl, ho, hb⟩

theorem Parent_any (s : ByteArray) (w : World) (hs : s.size ≤ maxLen) :
    Calls Try.prog 44 #[.string s] w fun e w' => e = .returned (.tuple #[strV (Nm.parentN s.data.toList), .bool (Nm.parentB s.data.toList)]) ∧ w = w' := by
  cases hm : Nm.nm s.data.toList with
  | none =>
    have hv : Nm.parentN s.data.toList = [] ∧ Nm.parentB s.data.toList = false := by simp [Nm.parentN, Nm.parentB, hm]
    have HV := Lib.hid hv
    have HM := Lib.hid (Nm.may_none hm)
    clear hv hm
    go_enter Try.func44, Try.ntmps44
    go_wp2_with fail
    refine (may_any _ _ hs).mono ?_
    rintro e w' ⟨rfl, rfl⟩
    rw [HM.out]
    go_wp2_with fail
    go_ret2
    rw [HV.out.1, HV.out.2]
    exact ⟨rfl, rfl⟩
  | some ls =>
    have HM := Lib.hid (Nm.may_some hm)
    have HN := Lib.hid (Nm.nm_iff.1 hm)
    cases ls with
    | nil =>
      have hv : Nm.parentN s.data.toList = [] ∧ Nm.parentB s.data.toList = false := by simp [Nm.parentN, Nm.parentB, hm]
      have HV := Lib.hid hv
      have h0 : s = ⟨#[0]⟩ := by
        apply ByteArray.ext; apply Array.toList_inj.1; exact HN.out.1
      clear hv hm
      subst h0
      go_enter Try.func44, Try.ntmps44
      go_wp2_with fail
      refine (may_any _ _ hs).mono ?_
      rintro e w' ⟨rfl, rfl⟩
      rw [HM.out]
      go_wp2_with fail
      go_ret2
      rw [HV.out.1, HV.out.2]
      exact ⟨rfl, rfl⟩
    | cons l ls =>
      have hv : Nm.parentN s.data.toList = Nm.enc ls ∧ Nm.parentB s.data.toList = true := by simp [Nm.parentN, Nm.parentB, hm]
      have HV := Lib.hid hv
      clear hv hm
      have hne : (s.toList == [0]) = false := by
        rw [ByteArray.toList_eq, HN.out.1, beq_eq_false_iff_ne]
        simp only [Nm.enc]
        intro h
        have := congrArg List.length h
        simp at this
        exact Nm.enc_ne _ this.2
      have hpos : 0 < s.size := by
        have := congrArg List.length HN.out.1
        simp [Nm.enc] at this
        omega
      obtain ⟨c, hc⟩ : ∃ c, s[0] = c := ⟨_, rfl⟩
      have hd0 : s.data.toList = s[0] :: s.data.toList.drop 1 := drop_at s 0 hpos
      rw [hc] at hd0
      have hd := hd0.symm.trans HN.out.1
      simp only [Nm.enc, List.cons.injEq] at hd
      have hcn : c.toNat = l.length := by rw [hd.1]; exact enc_head HN.out.2.1
      have hcl : 1 + c.toNat ≤ s.size := by
        have := congrArg List.length hd.2
        simp at this
        omega
      have hb := c.toNat_lt
      have hex : Hid (s.extract (1 + c.toNat) s.size = ⟨(Nm.enc ls).toArray⟩) := by
        show s.extract (1 + c.toNat) s.size = ⟨(Nm.enc ls).toArray⟩
        apply ByteArray.ext
        apply Array.toList_inj.1
        rw [Lib.extract_to_end, ← List.drop_drop, hd.2, hcn]
        simp
      clear hd hcn hd0
      go_enter Try.func44, Try.ntmps44
      go_wp2_with fail
      refine (may_any _ _ hs).mono ?_
      rintro e w' ⟨rfl, rfl⟩
      rw [HM.out]
      go_wp2_with fail
      go_ret2
      rw [HV.out.1, HV.out.2]
      unfold strV
      rw [← hex.out]
      exact ⟨rfl, rfl⟩

theorem Same_any (s t : ByteArray) (w : World) (hs : s.size ≤ maxLen) (ht : t.size ≤ maxLen) :
    Calls Try.prog 31 #[.string s, .string t] w fun e w' => e = .returned (.bool (Nm.same s.data.toList t.data.toList)) ∧ Below w.heap.size w w' := by
  cases hm : Nm.may s.data.toList with
  | false =>
    have HV := Lib.hid (show Nm.same s.data.toList t.data.toList = false by simp [Nm.same, hm])
    have HM := Lib.hid hm
    clear hm
    go_enter Try.func31, Try.ntmps31
    go_wp2_with fail
    refine (may_any _ _ hs).mono ?_
    rintro e w' ⟨rfl, rfl⟩
    rw [HM.out]
    go_wp2_with fail
    go_ret
    rw [HV.out]
    exact ⟨rfl, Below.refl _ _⟩
  | true =>
    have HM := Lib.hid hm
    cases hm2 : Nm.may t.data.toList with
    | false =>
      have HV := Lib.hid (show Nm.same s.data.toList t.data.toList = false by simp [Nm.same, hm2])
      have HM2 := Lib.hid hm2
      clear hm hm2
      go_enter Try.func31, Try.ntmps31
      go_wp2_with fail
      refine (may_any _ _ hs).mono ?_
      rintro e w' ⟨rfl, rfl⟩
      rw [HM.out]
      go_wp2_with fail
      refine (may_any _ _ ht).mono ?_
      rintro e w' ⟨rfl, rfl⟩
      rw [HM2.out]
      go_wp2_with fail
      go_ret
      rw [HV.out]
      exact ⟨rfl, Below.refl _ _⟩
    | true =>
      have HV := Lib.hid (show Nm.same s.data.toList t.data.toList = (Nm.low s.data.toList == Nm.low t.data.toList) by simp [Nm.same, hm2, hm])
      have HM2 := Lib.hid hm2
      clear hm hm2
      go_enter Try.func31, Try.ntmps31
      go_wp2_with fail
      refine (may_any _ _ hs).mono ?_
      rintro e w' ⟨rfl, rfl⟩
      rw [HM.out]
      go_wp2_with fail
      refine (may_any _ _ ht).mono ?_
      rintro e w' ⟨rfl, rfl⟩
      rw [HM2.out]
      go_wp2_with fail
      refine (lower_any _ _ hs).mono ?_
      rintro e w1 ⟨rfl, hb⟩
      go_wp2_with fail
      refine (lower_any _ _ ht).mono ?_
      rintro e w2 ⟨rfl, hb2⟩
      go_wp2_with fail
      go_ret
      rw [HV.out]
      refine ⟨?_, hb.trans (hb2.mono hb.size)⟩
      rfl

end Go.Proofs.Ytoonclcppokdeaa
