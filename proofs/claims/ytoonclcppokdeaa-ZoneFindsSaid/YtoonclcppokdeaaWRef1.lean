/-
  THE WALKS of the reference's Labels, May, Low, Bytes (hustingsref01).
-/
import Derived.Test.YtoonclcppokdeaaWName
import Derived.Test.YtoonclcppokdeaaSRow
import Derived.Test.YtoonclcppokdeaaApp
namespace Go.Proofs.Ytoonclcppokdeaa
open Go.RowKit

theorem byteSize (s : Nm.Bytes) : (⟨s.toArray⟩ : ByteArray).size = s.length := by show s.toArray.size = s.length; simp
theorem cat2 (a b : Nm.Bytes) : (({ data := a.toArray } : ByteArray) ++ { data := b.toArray }) = ⟨(a ++ b).toArray⟩ := by
  apply ByteArray.ext
  apply Array.toList_inj.1
  simp [ByteArray.data_append]

/-- 'string([]byte{c})'. -/
theorem run_onebyte (W : World) (c : UInt8) (n : Int) (hn : n = (c.toNat : Int)) : (convert 40 9 (.slice (some ⟨W.heap.size, 0, none⟩) 1 1)).run Try.prog (W.alloc (.cells #[.int .u8 n] 5)) = .ok (.string ⟨[c].toArray⟩) (W.alloc (.cells #[.int .u8 n] 5)) := by
  subst hn
  exact run_back _ 40 9 5 W.heap.size 1 1 [c] rfl Try.underlying40 Try.underlying5 Try.underlying9 (fun j hj => by
    rw [World.cell?_alloc_mark]
    match j, hj with
    | 0, _ => rfl)

theorem lbl_none_of_head {c : UInt8} {t : Nm.Bytes} (hz : ¬ c = 0) (h : 63 < c.toNat ∨ t.length < c.toNat) : Nm.lbl (c :: t) = none := by
  rw [Nm.lbl_cons, if_neg hz]
  by_cases h63 : 63 < c.toNat
  · rw [if_pos h63]
  · rw [if_neg h63, if_pos (by omega)]

/-- What Labels of the reference leaves. -/
def LabelsPost (n : Nm.Bytes) (w : World) (e : Ending) (w' : World) : Prop :=
  ∃ v, e = .returned (.tuple #[v, .bool (Nm.may n)]) ∧ w'.ownsRow w.heap.size 9 1 v (Nm.labels n).length ((Nm.labels n).map strV) ∧ Below w.heap.size w w'

set_option maxRecDepth 100000 in
set_option maxHeartbeats 1000000 in
theorem refLabels_any (s : ByteArray) (w : World) (hs : s.size ≤ 1000000) :
    Calls Try.prog 47 #[.string s] w (LabelsPost s.data.toList w) := by
  obtain ⟨i0, hi, hz0, hz1, hz2⟩ := info_parts info_string
  go_enter Try.func47, Try.ntmps47
  go_wp2_with fail
  go_loopw [4, 5, 6] (fun v i _ wr => ∃ (k : Nat) (a : List Nm.Bytes), k ≤ s.size ∧ a.length ≤ k ∧ i = .int .i64 k ∧ Nm.lbl s.data.toList = (Nm.lbl (s.data.toList.drop k)).map (a ++ ·) ∧ wr.ownsRow w.heap.size 9 1 v a.length (a.map strV) ∧ Below w.heap.size w wr) (fun _ i _ _ => s.size - (intOf i).toNat)
  case atStart => exact ⟨0, [], by omega, by simp, rfl, by simp, World.ownsRow_nil _ _ _ _, Below.refl _ _⟩
  case round =>
    obtain ⟨k, a, hk, hal, rfl, hl, hown, hbel⟩ := hrel
    have HL := Lib.hid hl
    have HOWN := Lib.hid hown
    have HBEL := Lib.hid hbel
    have hwsz := hbel.size
    clear hl hown hbel
    by_cases hlt : k < s.size
    · obtain ⟨c, hc⟩ : ∃ c, s[k] = c := ⟨_, rfl⟩
      have hd2 : Hid (s.data.toList.drop k = c :: s.data.toList.drop (k + 1)) := by have := drop_at s k hlt; rwa [hc] at this
      have hb := c.toNat_lt
      have HTL := Lib.hid (show (s.data.toList.drop (k + 1)).length = s.size - (k + 1) by simp)
      by_cases hz : c = 0
      · subst hz
        -- the end
        have HLB := Lib.hid (show Nm.lbl s.data.toList = (if s.size = k + 1 then some a else none) by
          rw [HL.out, hd2.out, Nm.lbl_cons, if_pos rfl]
          by_cases hq : s.size = k + 1
          · rw [if_pos (List.eq_nil_of_length_eq_zero (by rw [HTL.out]; omega)), if_pos hq]; simp
          · rw [if_neg (fun hn => by have := HTL.out; rw [hn] at this; simp at this; omega), if_neg hq]; rfl)
        by_cases hq : s.size = k + 1
        · by_cases h255 : 255 < s.size
          · have HN := Lib.hid (show Nm.nm s.data.toList = none by unfold Nm.nm; rw [if_neg (by simp; omega)])
            have HQ := Lib.hid hq
            have hq1 : ((k : Int) != (s.size : Int) - 1) = false := by simp; omega
            clear hq
            go_wp2_with fail
            go_ret2
            refine ⟨_, by rw [Nm.may_none HN.out]; rfl, ?_, HBEL.out⟩
            unfold Nm.labels; rw [HN.out]
            exact World.ownsRow_nil _ _ _ _
          · have HN := Lib.hid (show Nm.nm s.data.toList = some a by unfold Nm.nm; rw [if_pos (by simp; omega), HLB.out, if_pos hq])
            have HQ := Lib.hid hq
            have hq1 : ((k : Int) != (s.size : Int) - 1) = false := by simp; omega
            clear hq
            go_wp2_with fail
            go_ret2
            refine ⟨_, by rw [Nm.may_some HN.out]; rfl, ?_, HBEL.out⟩
            unfold Nm.labels; rw [HN.out]
            exact HOWN.out
        · have HN := Lib.hid (show Nm.nm s.data.toList = none by unfold Nm.nm; split; rw [HLB.out, if_neg hq]; rfl)
          have hq1 : ((k : Int) != (s.size : Int) - 1) = true := by rw [bne_iff_ne]; omega
          clear hq
          go_wp2_with fail
          go_ret2
          refine ⟨_, by rw [Nm.may_none HN.out]; rfl, ?_, HBEL.out⟩
          unfold Nm.labels; rw [HN.out]
          exact World.ownsRow_nil _ _ _ _
      · have hz1' : 1 ≤ c.toNat := by
          rcases Nat.eq_zero_or_pos c.toNat with h | h
          · exact absurd (UInt8.toNat_inj.1 (by simpa using h)) hz
          · exact h
        have hz2' : ((c.toNat : Int) == 0) = false := beq_eq_false_iff_ne.2 (by omega)
        have hz3' : ((c.toNat : Int) != 0) = true := by rw [bne_iff_ne]; omega
        have HZ := Lib.hid hz
        clear hz
        by_cases hbad : 63 < c.toNat ∨ s.size < k + 1 + c.toNat
        · have HN := Lib.hid (show Nm.nm s.data.toList = none by
            unfold Nm.nm; split
            · rw [HL.out, hd2.out, lbl_none_of_head HZ.out (by rw [HTL.out]; omega)]; rfl
            · rfl)
          rcases hbad with h1 | h1
          · go_wp2_with fail
            go_ret2
            refine ⟨_, by rw [Nm.may_none HN.out]; rfl, ?_, HBEL.out⟩
            unfold Nm.labels; rw [HN.out]
            exact World.ownsRow_nil _ _ _ _
          · by_cases h63 : 63 < c.toNat
            · go_wp2_with fail
              go_ret2
              refine ⟨_, by rw [Nm.may_none HN.out]; rfl, ?_, HBEL.out⟩
              unfold Nm.labels; rw [HN.out]
              exact World.ownsRow_nil _ _ _ _
            · go_wp2_with fail
              go_ret2
              refine ⟨_, by rw [Nm.may_none HN.out]; rfl, ?_, HBEL.out⟩
              unfold Nm.labels; rw [HN.out]
              exact World.ownsRow_nil _ _ _ _
        · have h63 : ¬ 63 < c.toNat := fun h => hbad (Or.inl h)
          have hle : k + 1 + c.toNat ≤ s.size := by omega
          clear hbad
          obtain ⟨l, hld⟩ : ∃ l, l = (s.data.toList.drop (k + 1)).take c.toNat := ⟨_, rfl⟩
          have HEX := Lib.hid (show Value.string (s.extract (k + 1) (k + 1 + c.toNat)) = strV l by
            unfold strV
            congr 1
            apply ByteArray.ext
            apply Array.toList_inj.1
            rw [Lib.extract_data, hld]
            simp)
          have HN := Lib.hid (show Nm.lbl s.data.toList = (Nm.lbl (s.data.toList.drop (k + 1 + c.toNat))).map ((a ++ [l]) ++ ·) by
            rw [HL.out, hd2.out, Nm.lbl_cons, if_neg HZ.out, if_neg h63, if_neg (by rw [HTL.out]; omega), Option.map_map, List.drop_drop, hld]
            congr 1
            funext x
            simp)
          clear hld
          go_wp2_with (at_builtin; refine wpList_append_own _ rfl _ _ 23 rfl w.heap.size 9 i0 (.string ByteArray.empty) 1 16 Try.underlying23 hi hz0 hz1 hz2 rfl (by decide) _ a.length _ rfl (HOWN.out.alloc _) ⟨wr.heap.size, 0, none⟩ 1 1 [.string (s.extract (k + 1) (k + 1 + c.toNat))] rfl rfl (cell_one_new _ _ _) ?c2 ?c3 ?c4 ?c5 ?_)
          case c2 => simp [Value.oneCell']
          case c3 => unfold maxLen; omega
          case c4 => omega
          case c5 => simp; omega
          intro v' w1 hown' hgrow _
          have HB1 := Lib.hid ((HBEL.out.alloc hwsz _).grown hgrow (by simp; omega) (fun q hq => (HOWN.out.lt q hq).1))
          have hfin0 : w1.ownsRow w.heap.size 9 1 v' (a ++ [l]).length ((a ++ [l]).map strV) := by
            have := hown'
            rw [HEX.out] at this
            simpa using this
          have HFIN := Lib.hid hfin0
          clear hown' hgrow hfin0
          go_wp2_with fail
          exact ⟨⟨k + 1 + c.toNat, a ++ [l], by omega, by simp; omega, by go_num, HN.out, HFIN.out, HB1.out⟩, by simp [intOf]; omega⟩
    · have HN := Lib.hid (show Nm.nm s.data.toList = none by
        unfold Nm.nm; split
        · rw [HL.out, List.drop_of_length_le (by simp; omega)]; rfl
        · rfl)
      have hq1 : ((k : Int) != (s.size : Int) - 1) = true := by rw [bne_iff_ne]; omega
      go_wp2_with fail
      go_ret2
      refine ⟨_, by rw [Nm.may_none HN.out]; rfl, ?_, HBEL.out⟩
      unfold Nm.labels; rw [HN.out]
      exact World.ownsRow_nil _ _ _ _

theorem refMay_any (s : ByteArray) (w : World) (hs : s.size ≤ 1000000) :
    Calls Try.prog 52 #[.string s] w fun e w' => e = .returned (.bool (Nm.may s.data.toList)) ∧ Below w.heap.size w w' := by
  go_enter Try.func52, Try.ntmps52
  go_wp2_with fail
  refine (refLabels_any s _ hs).mono ?_
  rintro e w1 ⟨v, rfl, ho, hb⟩
  go_wp2_with fail
  go_ret
  exact ⟨rfl, hb⟩

set_option maxHeartbeats 1000000 in
theorem refLow_any (s : ByteArray) (w : World) (hs : s.size ≤ 1000000) :
    Calls Try.prog 57 #[.string s] w fun e w' => e = .returned (.string ⟨(Nm.low s.data.toList).toArray⟩) ∧ Below w.heap.size w w' := by
  go_enter Try.func57, Try.ntmps57
  go_wp2_with fail
  go_loopw [3, 4, 5] (fun o i _ wr => ∃ k : Nat, k ≤ s.size ∧ i = .int .i64 k ∧ o = .string ⟨(Nm.low (s.data.toList.take k)).toArray⟩ ∧ Below w.heap.size w wr) (fun _ i _ _ => s.size - (intOf i).toNat)
  case atStart => exact ⟨0, by omega, rfl, rfl, Below.refl _ _⟩
  case round =>
    obtain ⟨k, hk, rfl, rfl, hbel⟩ := hrel
    by_cases hlt : k < s.size
    · obtain ⟨c, hc⟩ : ∃ c, s[k] = c := ⟨_, rfl⟩
      have hb := c.toNat_lt
      have HT := Lib.hid (show Nm.low (s.data.toList.take (k + 1)) = Nm.low (s.data.toList.take k) ++ [Nm.lowB c] by
        rw [List.take_succ_eq_append_getElem (by simpa using hlt), Nm.low_append]
        congr 1
        show [Nm.lowB _] = _
        rw [← hc]
        rfl)
      obtain ⟨acc, hacc⟩ : ∃ acc, acc = Nm.low (s.data.toList.take k) := ⟨_, rfl⟩
      have hal : acc.length ≤ 1000000 := by rw [hacc, Nm.low_length]; simp; omega
      rw [← hacc]
      rw [← hacc] at HT
      clear hacc
      have HBEL := Lib.hid hbel
      have hwsz := hbel.size
      clear hbel
      by_cases h65 : 65 ≤ c.toNat ∧ c.toNat ≤ 90
      · obtain ⟨ha, hz⟩ := h65
        have hone := fun W : World => run_onebyte W (Nm.lowB c) ((c.toNat : Int) + 32) (lowB_yes c ha hz).symm
        go_wp2_with fail
        refine ⟨⟨k + 1, by omega, by go_num, ?_, HBEL.out.alloc hwsz _⟩, by simp [intOf]; omega⟩
        rw [HT.out]
        exact congrArg Value.string (cat2 acc [Nm.lowB c])
      · have hone := fun W : World => run_onebyte W (Nm.lowB c) (c.toNat : Int) (by rw [lowB_no c h65])
        go_wp2_with fail
        all_goals
          refine ⟨⟨k + 1, by omega, by go_num, ?_, HBEL.out.alloc hwsz _⟩, by simp [intOf]; omega⟩
          rw [HT.out]
          exact congrArg Value.string (cat2 acc [Nm.lowB c])
    · obtain rfl : k = s.size := by omega
      have he : s.data.toList.take s.size = s.data.toList := List.take_of_length_le (by simp)
      rw [he]
      go_wp2_with fail
      go_ret
      exact ⟨rfl, hbel⟩

end Go.Proofs.Ytoonclcppokdeaa
