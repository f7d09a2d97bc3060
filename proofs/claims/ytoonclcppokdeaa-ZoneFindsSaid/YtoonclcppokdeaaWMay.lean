/-
  THE WALK of name.May.
-/
import Derived.Test.YtoonclcppokdeaaBase
namespace Go.Proofs.Ytoonclcppokdeaa
open Go.RowKit

set_option maxHeartbeats 400000 in
theorem may_any (s : ByteArray) (w : World) (hs : s.size ≤ maxLen) :
    Calls Try.prog 28 #[.string s] w fun e w' => e = .returned (.bool (Nm.may s.data.toList)) ∧ w = w' := by
  unfold maxLen at hs
  by_cases h0 : s.size = 0
  · have : s = ByteArray.empty := by simpa using h0
    subst this
    go_enter Try.func28, Try.ntmps28
    go_wp2
    go_ret
    exact ⟨rfl, rfl⟩
  · have h0' : ((s.size : Int) == 0) = false := beq_eq_false_iff_ne.2 (by omega)
    by_cases hlong : 255 < s.size
    · have hm : Hid (Nm.may s.data.toList = false) := may_long (by simpa using hlong)
      go_enter Try.func28, Try.ntmps28
      go_wp2
      go_ret
      exact ⟨ret_bool hm.out.symm, rfl⟩
    · have hl' : decide (255 < s.size) = false := by simpa using hlong
      have hm : Hid (Nm.may s.data.toList = (Nm.lbl s.data.toList).isSome) := may_short (by simpa using hlong)
      go_enter Try.func28, Try.ntmps28
      go_wp2
      go_loop [3, 4] (fun i _ => ∃ k : Nat, k ≤ 319 ∧ i = .int .i64 k ∧ (Nm.lbl (s.data.toList.drop k)).isSome = Nm.may s.data.toList) (fun i _ => s.size - (intOf i).toNat)
      case atStart => exact ⟨0, by omega, rfl, by rw [hm.out]; rfl⟩
      case round =>
        obtain ⟨k, hk, rfl, hr⟩ := hrel
        have HR := Lib.hid hr
        clear hr
        by_cases hlt : k < s.size
        · have hd := Lib.hid (drop_at s k hlt)
          obtain ⟨c, hc⟩ : ∃ c, s[k] = c := ⟨_, rfl⟩
          have hd2 : Hid (s.data.toList.drop k = c :: s.data.toList.drop (k + 1)) := by have := hd.out; rwa [hc] at this
          clear hd
          have hlen : (s.data.toList.drop (k + 1)).length = s.size - (k + 1) := by simp
          have HL := Lib.hid hlen
          clear hlen
          have hb := c.toNat_lt
          by_cases hz : c = 0
          · subst hz
            go_wp2
            go_ret
            refine ⟨ret_bool ?_, rfl⟩
            rw [← HR.out, hd2.out, Nm.lbl_cons, if_pos rfl]
            by_cases hq : k + 1 = s.size
            · rw [if_pos (List.eq_nil_of_length_eq_zero (by rw [HL.out]; omega))]
              exact beq_iff_eq.2 (by omega)
            · rw [if_neg (fun hn => by rw [hn] at HL; have := HL.out; simp at this; omega)]
              exact beq_eq_false_iff_ne.2 (by omega)
          · have hz1 : 1 ≤ c.toNat := by
              rcases Nat.eq_zero_or_pos c.toNat with h | h
              · exact absurd (UInt8.toNat_inj.1 (by simpa using h)) hz
              · exact h
            have hz2 : ((c.toNat : Int) == 0) = false := beq_eq_false_iff_ne.2 (by omega)
            have HZ := Lib.hid hz
            clear hz
            by_cases h63 : 63 < c.toNat
            · go_wp2
              go_ret
              refine ⟨ret_bool ?_, rfl⟩
              rw [← HR.out, hd2.out, Nm.lbl_cons, if_neg HZ.out, if_pos h63]
              rfl
            · go_wp2
              go_round
              case rel =>
                refine ⟨k + (1 + c.toNat), by omega, by go_num, ?_⟩
                rw [← HR.out, hd2.out, Nm.lbl_cons, if_neg HZ.out, if_neg h63]
                by_cases hq : s.size - (k + 1) < c.toNat
                · rw [if_pos (by rw [HL.out]; exact hq), List.drop_of_length_le (by simp; omega)]
                  rfl
                · rw [if_neg (by rw [HL.out]; exact hq), List.drop_drop, Option.isSome_map]
                  congr 3
                  omega
              case measure => simp [intOf]; omega
        · go_wp2
          go_ret
          refine ⟨ret_bool ?_, rfl⟩
          rw [← HR.out, List.drop_of_length_le (by simp; omega)]
          rfl
end Go.Proofs.Ytoonclcppokdeaa
