/-
  THE WALKS of the reference's Fold, Parent (hustingsref01).
-/
import Derived.Test.YtoonclcppokdeaaWRef2
namespace Go.Proofs.Ytoonclcppokdeaa
open Go.RowKit

theorem own_kept {w w' : World} {base : Nat} {e : TypeId} {size : Nat} {v : Value} {n : Nat} {xs : List Value} (h : w.ownsRow base e size v n xs) (hb : Below w.heap.size w w') : w'.ownsRow base e size v n xs := by
  obtain ⟨h1, h2 | ⟨g, cap, cur, hv, h3, hg, h4⟩⟩ := h
  · exact ⟨h1, Or.inl h2⟩
  · exact ⟨h1, Or.inr ⟨g, cap, cur, hv, h3, (hb.block g (Array.getElem?_eq_some_iff.1 hg).1).trans hg, h4⟩⟩

theorem labels_some {n : Nm.Bytes} {ls : List Nm.Bytes} (h : Nm.nm n = some ls) : Nm.labels n = ls := by simp [Nm.labels, h]
theorem fold_enc {n : Nm.Bytes} {ls : List Nm.Bytes} (h : Nm.nm n = some ls) : Nm.enc (Nm.lowL ls) = Nm.fold n := by
  unfold Nm.fold
  rw [Nm.may_some h, if_pos rfl]
  obtain ⟨h1, h2, _⟩ := Nm.nm_iff.1 h
  rw [h1, Nm.low_enc _ h2]
theorem labels_count {n : Nm.Bytes} {ls : List Nm.Bytes} (h : Nm.nm n = some ls) : ls.length ≤ 255 := by
  obtain ⟨h1, _, h3⟩ := Nm.nm_iff.1 h
  have := Nm.length_lt_enc ls
  rw [← h1] at this
  omega

set_option maxRecDepth 100000 in
set_option maxHeartbeats 1000000 in
theorem refFold_any (s : ByteArray) (w : World) (hs : s.size ≤ 1000000) :
    Calls Try.prog 49 #[.string s] w fun e w' => e = .returned (.string ⟨(Nm.fold s.data.toList).toArray⟩) ∧ Below w.heap.size w w' := by
  obtain ⟨i0, hi, hz0, hz1, hz2⟩ := info_parts info_string
  go_enter Try.func49, Try.ntmps49
  go_wp2_with fail
  refine (refLabels_any s _ hs).mono ?_
  rintro e w1 ⟨v, rfl, ho, hb⟩
  cases hm : Nm.may s.data.toList
  · go_wp2_with fail
    go_ret
    exact ⟨ret_str (by unfold Nm.fold; rw [hm]; rfl), hb⟩
  · obtain ⟨ls, hnm⟩ := Nm.nm_of_may hm
    rw [labels_some hnm] at ho
    have hcount := labels_count hnm
    have HOK := Lib.hid (Nm.nm_iff.1 hnm).2.1
    have HNM := Lib.hid hnm
    obtain ⟨a, cap, rfl, hrow⟩ := SRow.own ho
    have HROW := Lib.hid hrow
    have HB := Lib.hid hb
    have hw1 := hb.size
    clear hrow hb ho hm hnm
    go_wp2_with fail
    go_loopw [5, 6] (fun o i wr => ∃ k : Nat, k ≤ ls.length ∧ i = .int .i64 k ∧ wr.ownsRow w1.heap.size 9 1 o k ((Nm.lowL (ls.take k)).map strV) ∧ Below w1.heap.size w1 wr) (fun _ i _ => ls.length - (intOf i).toNat)
    case atStart => exact ⟨0, by omega, rfl, World.ownsRow_nil _ _ _ _, Below.refl _ _⟩
    case round =>
      obtain ⟨k, hk, rfl, hown, hbel⟩ := hrel
      have HOWN := Lib.hid hown
      by_cases hlt : k < ls.length
      · obtain hz0' | ⟨b, off, ha, hlb, hcc⟩ := HROW.out
        · subst hz0'; simp at hlt
        subst ha
        obtain ⟨l, hl⟩ : ∃ l, ls[k]? = some l := ⟨_, List.getElem?_eq_getElem hlt⟩
        have hll := HOK.out l (List.mem_of_getElem? hl)
        have d0 : wr.cell? ⟨b, off + k, none⟩ = some (.string ⟨l.toArray⟩) := (hbel.cell hlb).trans (hcc k l hl)
        have HT := Lib.hid (show (Nm.lowL (ls.take (k + 1))).map strV = (Nm.lowL (ls.take k)).map strV ++ [strV (Nm.low l)] by rw [List.take_add_one, hl]; simp [Nm.lowL])
        have hbw : b < wr.heap.size := World.block_lt_of_cell? wr _ d0
        have HBEL := Lib.hid hbel
        have hwsz := hbel.size
        have hk0 : (0 : Int) ≤ (k : Int) := by omega
        have hk1 : (k : Int) < (ls.length : Int) := by omega
        clear hcc hl hbel hown
        go_wp2_with fail
        refine (refLow_any ⟨l.toArray⟩ _ (by rw [byteSize]; omega)).mono ?_
        rintro e w2 ⟨rfl, hb2⟩
        have HB2 := Lib.hid hb2
        have hsz2 := hb2.size
        have HOWN2 := Lib.hid (own_kept HOWN.out hb2)
        clear hb2
        go_wp2_with (at_builtin; refine wpList_append_own _ rfl _ _ 23 rfl w1.heap.size 9 i0 (.string ByteArray.empty) 1 16 Try.underlying23 hi hz0 hz1 hz2 rfl (by decide) _ k _ rfl (HOWN2.out.alloc _) ⟨w2.heap.size, 0, none⟩ 1 1 [.string ⟨(Nm.low l).toArray⟩] rfl rfl (cell_one_new _ _ _) ?c2 ?c3 ?c4 ?c5 ?_)
        case c2 => simp [Value.oneCell']
        case c3 => unfold maxLen; omega
        case c4 => omega
        case c5 => simp; omega
        intro v' w3 hown' hgrow _
        have HB3 := Lib.hid (((HBEL.out.trans (HB2.out.mono hwsz)).alloc (Nat.le_trans hwsz hsz2) _).grown hgrow (by simp; omega) (fun q hq => (HOWN2.out.lt q hq).1))
        have hfin0 : w3.ownsRow w1.heap.size 9 1 v' (k + 1) ((Nm.lowL (ls.take (k + 1))).map strV) := by
          rw [HT.out]
          exact hown'
        have HFIN := Lib.hid hfin0
        clear hown' hgrow hfin0
        go_wp2_with fail
        exact ⟨⟨k + 1, by omega, by go_num, HFIN.out, HB3.out⟩, by simp [intOf]; omega⟩
      · obtain rfl : k = ls.length := by omega
        rw [List.take_length] at HOWN
        have hr : SRow wr _ (Nm.lowL ls) := SRow.own (e := 9) (base := w1.heap.size) (by have h := HOWN.out; rwa [show ls.length = (Nm.lowL ls).length by simp [Nm.lowL]] at h)
        have HR := Lib.hid hr
        have HBEL := Lib.hid hbel
        clear hr hown hbel
        go_wp2_with fail
        refine (refBytes_any _ (Nm.lowL ls) _ HR.out (fun l hl => (Nm.lowL_ok HOK.out l hl).2) (by simp [Nm.lowL]; omega)).mono ?_
        rintro e w2 ⟨rfl, hb2⟩
        go_wp2_with fail
        go_ret
        exact ⟨ret_str (by rw [fold_enc HNM.out]), HB.out.trans ((HBEL.out.trans (hb2.mono HBEL.out.size)).mono hw1)⟩

end Go.Proofs.Ytoonclcppokdeaa
