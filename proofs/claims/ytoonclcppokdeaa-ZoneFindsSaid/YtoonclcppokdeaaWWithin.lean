/-
  THE WALK of name.Within.
-/
import Derived.Test.YtoonclcppokdeaaWName
namespace Go.Proofs.Ytoonclcppokdeaa
open Go.RowKit

theorem within_none1 {n z : Nm.Bytes} (h : Nm.nm n = none) : Nm.within n z = false := by simp [Nm.within, h]
theorem within_none2 {n z : Nm.Bytes} (h : Nm.nm z = none) : Nm.within n z = false := by
  unfold Nm.within; rw [h]; cases Nm.nm n <;> rfl

set_option maxHeartbeats 400000 in
theorem Within_any (s t : ByteArray) (w : World) (hs : s.size ≤ maxLen) (ht : t.size ≤ maxLen) :
    Calls Try.prog 26 #[.string s, .string t] w fun e w' => e = .returned (.bool (Nm.within s.data.toList t.data.toList)) ∧ Below w.heap.size w w' := by
  cases hm : Nm.nm s.data.toList with
  | none =>
    have HV := Lib.hid (within_none1 (z := t.data.toList) hm)
    have HM := Lib.hid (Nm.may_none hm)
    clear hm
    go_enter Try.func26, Try.ntmps26
    go_wp2_with fail
    refine (may_any _ _ hs).mono ?_
    rintro e w' ⟨rfl, rfl⟩
    rw [HM.out]
    go_wp2_with fail
    go_ret
    rw [HV.out]
    exact ⟨rfl, Below.refl _ _⟩
  | some a =>
    cases hm2 : Nm.nm t.data.toList with
    | none =>
      have HV := Lib.hid (within_none2 (n := s.data.toList) hm2)
      have HM := Lib.hid (Nm.may_some hm)
      have HM2 := Lib.hid (Nm.may_none hm2)
      clear hm hm2
      go_enter Try.func26, Try.ntmps26
      go_wp2_with fail
      refine (may_any _ _ hs).mono ?_
      rintro e w' ⟨rfl, rfl⟩
      rw [HM.out]
      go_wp2_with fail
      refine (may_any _ _ ht).mono ?_
      rintro e w' ⟨rfl, rfl⟩
      rw [HM2.out]
      go_wp2_with fail
      go_ret
      rw [HV.out]
      exact ⟨rfl, Below.refl _ _⟩
    | some b =>
      have HV := Lib.hid (show Nm.within s.data.toList t.data.toList = (Nm.lowL b).isSuffixOf (Nm.lowL a) by simp [Nm.within, hm, hm2])
      have HM := Lib.hid (Nm.may_some hm)
      have HM2 := Lib.hid (Nm.may_some hm2)
      have HA := Lib.hid (Nm.nm_iff.1 hm)
      have HB := Lib.hid (Nm.nm_iff.1 hm2)
      have hsl := nm_size hm
      have htl := nm_size hm2
      clear hm hm2
      have hzl : Hid ((Nm.enc b).length = t.size) := by
        have := congrArg List.length HB.out.1
        show (Nm.enc b).length = t.size
        rw [← this]; simp
      go_enter Try.func26, Try.ntmps26
      go_wp2_with fail
      refine (may_any _ _ hs).mono ?_
      rintro e w' ⟨rfl, rfl⟩
      rw [HM.out]
      go_wp2_with fail
      refine (may_any _ _ ht).mono ?_
      rintro e w' ⟨rfl, rfl⟩
      rw [HM2.out]
      go_wp2_with fail
      go_loop [6] (fun i => ∃ (k : Nat) (a2 : List Nm.Bytes), i = .int .i64 k ∧ Nm.Upto a a2 (Nm.enc b).length ∧ s.data.toList.drop k = Nm.enc a2 ∧ k ≤ s.size) (fun i => s.size - (intOf i).toNat)
      case atStart => exact ⟨0, a, rfl, Nm.Upto.start _ _, HA.out.1, by omega⟩
      case round =>
        obtain ⟨k, a2, rfl, hup, hd, hks⟩ := hrel
        have HU := Lib.hid hup
        have HD := Lib.hid hd
        clear hup hd
        have hel : (Nm.enc a2).length = s.size - k := by rw [← HD.out]; simp
        have HEL := Lib.hid hel
        have hep : 0 < (Nm.enc a2).length := by have := Nm.length_lt_enc a2; omega
        by_cases hlt : (k : Int) < (s.size : Int) - (t.size : Int)
        · have hk2 : k < s.size := by omega
          cases a2 with
          | nil =>
            exfalso
            have h1 := HEL.out
            have h2 := hzl.out
            have h3 := Nm.length_lt_enc b
            simp [Nm.enc] at h1
            omega
          | cons l a2 =>
            obtain ⟨c, hc⟩ : ∃ c, s[k] = c := ⟨_, rfl⟩
            have hd2 := drop_at s k hk2
            rw [hc] at hd2
            have hh : c = UInt8.ofNat l.length ∧ s.data.toList.drop (k + 1) = l ++ Nm.enc a2 := by
              have := HD.out
              rw [hd2] at this
              simpa [Nm.enc] using this
            have hok : Nm.Ok (l :: a2) := by
              obtain ⟨a1, h1⟩ := HU.out.1
              exact fun x hx => HA.out.2.1 x (by rw [h1]; exact List.mem_append_right _ hx)
            have hcn : c.toNat = l.length := by rw [hh.1]; exact enc_head hok
            have HCN := Lib.hid hcn
            have HH := Lib.hid hh.2
            have hb := c.toNat_lt
            have hle : k + (1 + c.toNat) ≤ s.size := by
              have := congrArg List.length hh.2
              simp at this
              omega
            clear hh hd2 hok hcn hel hep
            go_wp2_with fail
            go_round
            case rel =>
              refine ⟨k + (1 + c.toNat), a2, by go_num, HU.out.step ?_, ?_, hle⟩
              · rw [HEL.out, hzl.out]; omega
              · rw [show k + (1 + c.toNat) = k + 1 + c.toNat by omega, ← List.drop_drop, HH.out, HCN.out]; simp
            case measure => simp [intOf]; omega
        · have hfin := Nm.Upto.fin HA.out.2.1 HB.out.2.1 HU.out (by rw [HEL.out, hzl.out]; omega)
          have HF := Lib.hid hfin
          clear hfin hel hep
          by_cases hcut : (k : Int) = (s.size : Int) - (t.size : Int)
          · have hcut2 : ((k : Int) == (s.size : Int) - (t.size : Int)) = true := beq_iff_eq.2 hcut
            have hcut3 : ((s.size : Int) - (t.size : Int) == (s.size : Int) - (t.size : Int)) = true := beq_iff_eq.2 rfl
            have hexs : (s.extract k s.size).size ≤ maxLen := by
              have : (s.extract k s.size).size = s.size - k := by simp
              rw [this]; unfold maxLen; omega
            have HCUT := Lib.hid hcut
            clear hcut
            go_wp2_with fail
            refine (lower_any _ _ hexs).mono ?_
            rintro e w1 ⟨rfl, hb1⟩
            go_wp2_with fail
            refine (lower_any _ _ ht).mono ?_
            rintro e w2 ⟨rfl, hb2⟩
            go_wp2_with fail
            go_ret
            refine ⟨ret_bool ?_, hb1.trans (hb2.mono hb1.size)⟩
            rw [HV.out, HF.out, HB.out.1, HD.out, List.take_of_length_le (by rw [HEL.out]; omega)]
          · have hcut2 : ((k : Int) == (s.size : Int) - (t.size : Int)) = false := beq_eq_false_iff_ne.2 hcut
            go_wp2_with fail
            go_ret
            refine ⟨ret_bool ?_, Below.refl _ _⟩
            rw [HV.out, HF.out]
            symm
            rw [beq_eq_false_iff_ne]
            intro h
            have := congrArg List.length h
            rw [Nm.low_length, Nm.low_length, HEL.out, hzl.out] at this
            omega

end Go.Proofs.Ytoonclcppokdeaa
