/-
  THE WALKS of strings.Compare and name.Compare.
-/
import Derived.Test.YtoonclcppokdeaaCmp
namespace Go.Proofs.Ytoonclcppokdeaa
open Go.RowKit

theorem bytealgCompare_any (a b : ByteArray) (w : World) :
    Calls Try.prog 66 #[.string a, .string b] w fun e w' => e = .returned (.int .i64 (Lib.compareBytes a.data.toList b.data.toList)) ∧ w = w' := by
  go_enter Try.func66, Try.ntmps66
  go_wp2
  rw [run_callFunc_extern Try.func70 (by kernel_rfl) (by kernel_rfl) (by kernel_rfl) (e := Extern.BytealgCompare.compare) (by kernel_rfl), Lib.run_compareString]
  simp only [Result.andThen]
  rw [Oper.upon_value]
  go_wp2
  go_ret
  exact ⟨rfl, rfl⟩
theorem stringsCompare_any (a b : ByteArray) (w : World) :
    Calls Try.prog 56 #[.string a, .string b] w fun e w' => e = .returned (.int .i64 (Lib.compareBytes a.data.toList b.data.toList)) ∧ w = w' := by
  go_enter Try.func56, Try.ntmps56
  go_wp2_with fail
  refine (bytealgCompare_any a b _).mono ?_
  rintro e w' ⟨rfl, rfl⟩
  go_wp2_with fail
  go_ret
  exact ⟨rfl, rfl⟩

theorem cmpN_none1 {n m : Nm.Bytes} (h : Nm.nm n = none) : cmpN n m = 0 := by simp [cmpN, h]
theorem cmpN_none2 {n m : Nm.Bytes} (h : Nm.nm m = none) : cmpN n m = 0 := by
  unfold cmpN; rw [h]; cases Nm.nm n <;> rfl

set_option maxRecDepth 100000 in
set_option maxHeartbeats 1000000 in
theorem Compare_any (s t : ByteArray) (w : World) (hs : s.size ≤ maxLen) (ht : t.size ≤ maxLen) :
    Calls Try.prog 34 #[.string s, .string t] w fun e w' => e = .returned (.int .i64 (cmpN s.data.toList t.data.toList)) ∧ Below w.heap.size w w' := by
  cases hm : Nm.nm s.data.toList with
  | none =>
    have HV := Lib.hid (cmpN_none1 (m := t.data.toList) hm)
    have HM := Lib.hid (Nm.may_none hm)
    clear hm
    go_enter Try.func34, Try.ntmps34
    go_wp2_with fail
    refine (may_any _ _ hs).mono ?_
    rintro e w' ⟨rfl, rfl⟩
    rw [HM.out]
    go_wp2_with fail
    go_ret
    rw [HV.out]
    exact ⟨rfl, Below.refl _ _⟩
  | some a =>
    cases hm2 : Nm.nm t.data.toList with
    | none =>
      have HV := Lib.hid (cmpN_none2 (n := s.data.toList) hm2)
      have HM := Lib.hid (Nm.may_some hm)
      have HM2 := Lib.hid (Nm.may_none hm2)
      clear hm hm2
      go_enter Try.func34, Try.ntmps34
      go_wp2_with fail
      refine (may_any _ _ hs).mono ?_
      rintro e w' ⟨rfl, rfl⟩
      rw [HM.out]
      go_wp2_with fail
      refine (may_any _ _ ht).mono ?_
      rintro e w' ⟨rfl, rfl⟩
      rw [HM2.out]
      go_wp2_with fail
      go_ret
      rw [HV.out]
      exact ⟨rfl, Below.refl _ _⟩
    | some b =>
      have HV := Lib.hid (show cmpN s.data.toList t.data.toList = cmpR (Nm.lowL a).reverse (Nm.lowL b).reverse by simp [cmpN, cmpL, hm, hm2])
      have HM := Lib.hid (Nm.may_some hm)
      have HM2 := Lib.hid (Nm.may_some hm2)
      have HA := Lib.hid (Nm.nm_iff.1 (Nm.nm_low hm))
      have HB := Lib.hid (Nm.nm_iff.1 (Nm.nm_low hm2))
      obtain ⟨A, hA⟩ : ∃ A, A = Nm.lowL a := ⟨_, rfl⟩
      obtain ⟨B, hB⟩ : ∃ B, B = Nm.lowL b := ⟨_, rfl⟩
      rw [← hA] at HA
      rw [← hB] at HB
      rw [← hA, ← hB] at HV
      clear hm hm2 hA hB
      have hsA : (⟨(Nm.low s.data.toList).toArray⟩ : ByteArray).size ≤ 255 := by have := HA.out.2.2; show (Nm.low s.data.toList).toArray.size ≤ 255; simpa using this
      have hsB : (⟨(Nm.low t.data.toList).toArray⟩ : ByteArray).size ≤ 255 := by have := HB.out.2.2; show (Nm.low t.data.toList).toArray.size ≤ 255; simpa using this
      have hAl : A.length ≤ 255 := by have h1 := Nm.length_lt_enc A; have h2 := HA.out.2.2; rw [HA.out.1] at h2; omega
      have hBl : B.length ≤ 255 := by have h1 := Nm.length_lt_enc B; have h2 := HB.out.2.2; rw [HB.out.1] at h2; omega
      go_enter Try.func34, Try.ntmps34
      go_wp2_with fail
      refine (may_any _ _ hs).mono ?_
      rintro e w' ⟨rfl, rfl⟩
      rw [HM.out]
      go_wp2_with fail
      refine (may_any _ _ ht).mono ?_
      rintro e w' ⟨rfl, rfl⟩
      rw [HM2.out]
      go_wp2_with fail
      refine (lower_any _ _ hs).mono ?_
      rintro e w1 ⟨rfl, hb1⟩
      go_wp2_with fail
      refine (labels_any _ A _ HA.out.1 HA.out.2.1 hsA).mono ?_
      rintro e w2 ⟨v2, rfl, ho2, hb2⟩
      have B2 := Lib.hid (hb1.trans (hb2.mono hb1.size))
      have R2 := SRow.own ho2
      clear hb1 ho2 hb2
      go_wp2_with fail
      refine (lower_any _ _ ht).mono ?_
      rintro e w3 ⟨rfl, hb3⟩
      have B3 := Lib.hid (B2.out.trans (hb3.mono B2.out.size))
      have R3 := R2.below hb3 (Nat.le_refl _)
      clear hb3 R2 B2
      go_wp2_with fail
      refine (labels_any _ B _ HB.out.1 HB.out.2.1 hsB).mono ?_
      rintro e w4 ⟨v4, rfl, ho4, hb4⟩
      have B4 := Lib.hid (B3.out.trans (hb4.mono B3.out.size))
      have RA := R3.below hb4 (Nat.le_refl _)
      have RB := SRow.own ho4
      obtain ⟨aa, ca, hva, hca⟩ := id RA
      obtain ⟨ab, cb, hvb, hcb⟩ := id RB
      rw [hva, hvb]
      have HCA := Lib.hid hca
      have HCB := Lib.hid hcb
      clear hb4 ho4 R3 B3 RA RB hva hvb hca hcb
      go_wp2_with fail
      go_loopw [7, 8, 9] (fun i j _ wr => ∃ p q : Nat, p ≤ A.length ∧ q ≤ B.length ∧ i = .int .i64 ((p : Int) - 1) ∧ j = .int .i64 ((q : Int) - 1) ∧ cmpR (A.take p).reverse (B.take q).reverse = cmpR A.reverse B.reverse ∧ Below w4.heap.size w4 wr) (fun i _ _ _ => (intOf i + 1).toNat)
      case atStart => exact ⟨A.length, B.length, Nat.le_refl _, Nat.le_refl _, rfl, rfl, by rw [List.take_length, List.take_length], Below.refl _ _⟩
      case round =>
        obtain ⟨p, q, hp, hq, rfl, rfl, hc, hbr⟩ := hrel
        have HC := Lib.hid hc
        have HBR := Lib.hid hbr
        clear hc hbr
        by_cases hpq : 0 < p ∧ 0 < q
        · obtain ⟨hp0, hq0⟩ := hpq
          obtain ⟨p, rfl⟩ : ∃ p', p = p' + 1 := ⟨p - 1, by omega⟩
          obtain ⟨q, rfl⟩ : ∃ q', q = q' + 1 := ⟨q - 1, by omega⟩
          obtain ⟨x, hx⟩ : ∃ x, A[p]? = some x := ⟨_, List.getElem?_eq_getElem (by omega)⟩
          obtain ⟨y, hy⟩ : ∃ y, B[q]? = some y := ⟨_, List.getElem?_eq_getElem (by omega)⟩
          obtain hz0 | ⟨ba, oa, rfl, hla, hcca⟩ := HCA.out
          · rw [hz0] at hp; simp at hp
          obtain hz0 | ⟨bb, ob, rfl, hlb, hccb⟩ := HCB.out
          · rw [hz0] at hq; simp at hq
          have d0 : wr.cell? ⟨ba, oa + p, none⟩ = some (.string ⟨x.toArray⟩) := (HBR.out.cell hla).trans (hcca p x hx)
          have d1 : wr.cell? ⟨bb, ob + q, none⟩ = some (.string ⟨y.toArray⟩) := (HBR.out.cell hlb).trans (hccb q y hy)
          have HS := Lib.hid (show cmpR (A.take (p + 1)).reverse (B.take (q + 1)).reverse = if Lib.compareBytes x y = 0 then cmpR (A.take p).reverse (B.take q).reverse else Lib.compareBytes x y by rw [take_rev A p x hx, take_rev B q y hy]; rfl)
          have hbd := compareBytes_bd x y
          have cC := Lib.hid (Calls.inGrown (w := wr) (fun W => Calls.sameBelow (stringsCompare_any ⟨x.toArray⟩ ⟨y.toArray⟩ W)))
          have e1 : ((p + 1 : Nat) : Int) - 1 = (p : Int) := by omega
          have e2 : ((q + 1 : Nat) : Int) - 1 = (q : Int) := by omega
          rw [e1, e2]
          clear hcca hccb hx hy e1 e2
          go_upto_region 6 with fail
          go_cut [9] (fun s9 wx => s9 = .int .i64 (Lib.compareBytes x y) ∧ Below wr.heap.size wr wx)
          case first =>
            have k0 := cell_regrown d0
            have k1 := cell_regrown d1
            refine wp_region_quiet_below (by kernel_rfl) (by kernel_rfl) ?_
            repeat (first | go_big_quiet_step ((exact cC.out _ _)) | quiet_step ((exact cC.out _ _)))
            refine wpQuiet_nil ?_
            intro _ hw'
            obtain ⟨⟨dq, osq⟩, hw''⟩ := hw'
            subst hw''
            go_wp2_with fail
            go_meet
            exact ⟨rfl, below_regrown wr dq osq⟩
          case rest =>
            obtain ⟨rfl, hb6⟩ := hcut
            have B6 := Lib.hid (HBR.out.trans (hb6.mono HBR.out.size))
            clear hb6
            by_cases h0 : Lib.compareBytes x y = 0
            · have HT := Lib.hid (HS.out.trans (if_pos h0))
              rw [h0]
              clear h0 hbd
              go_wp2_with fail
              refine ⟨⟨p, q, by omega, by omega, rfl, rfl, HT.out.symm.trans HC.out, B6.out⟩, by simp [intOf]⟩
            · have HT := Lib.hid (HS.out.trans (if_neg h0))
              have n0 : (Lib.compareBytes x y != 0) = true := by rw [bne_iff_ne]; exact h0
              clear h0 hbd
              go_wp2_with fail
              go_ret
              refine ⟨?_, B4.out.trans (B6.out.mono B4.out.size)⟩
              rw [HV.out, ← HC.out, HT.out]
              rfl
        · have HF := Lib.hid (show cmpR A.reverse B.reverse = if p < q then -1 else if q < p then 1 else 0 by
            rw [← HC.out]
            by_cases h1 : p = 0
            · subst h1
              by_cases h2 : q = 0
              · subst h2; simp [cmpR]
              · rw [if_pos (by omega)]
                obtain ⟨q, rfl⟩ : ∃ q', q = q' + 1 := ⟨q - 1, by omega⟩
                obtain ⟨y, hy⟩ : ∃ y, B[q]? = some y := ⟨_, List.getElem?_eq_getElem (by omega)⟩
                rw [take_rev B q y hy]
                simp [cmpR]
            · have h2 : q = 0 := by omega
              subst h2
              rw [if_neg (by omega), if_pos (by omega)]
              obtain ⟨p, rfl⟩ : ∃ p', p = p' + 1 := ⟨p - 1, by omega⟩
              obtain ⟨x, hx⟩ : ∃ x, A[p]? = some x := ⟨_, List.getElem?_eq_getElem (by omega)⟩
              rw [take_rev A p x hx]
              simp [cmpR])
          have hcases : (p = 0 ∧ q = 0) ∨ (p = 0 ∧ 0 < q) ∨ (0 < p ∧ q = 0) := by omega
          rcases hcases with ⟨rfl, rfl⟩ | ⟨rfl, h2⟩ | ⟨h2, rfl⟩
          · go_wp2_with fail
            go_ret
            refine ⟨?_, B4.out.trans (HBR.out.mono B4.out.size)⟩
            rw [HV.out, HF.out]; rfl
          · go_wp2_with fail
            go_ret
            refine ⟨?_, B4.out.trans (HBR.out.mono B4.out.size)⟩
            rw [HV.out, HF.out, if_pos h2]; rfl
          · go_wp2_with fail
            go_ret
            refine ⟨?_, B4.out.trans (HBR.out.mono B4.out.size)⟩
            rw [HV.out, HF.out, if_neg (by omega), if_pos h2]; rfl

end Go.Proofs.Ytoonclcppokdeaa
