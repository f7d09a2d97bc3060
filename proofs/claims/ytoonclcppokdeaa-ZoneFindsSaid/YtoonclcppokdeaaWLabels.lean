/-
  THE WALK of name.labels.
-/
import Derived.Test.YtoonclcppokdeaaBase
namespace Go.Proofs.Ytoonclcppokdeaa
open Go.RowKit

theorem info_string : (Try.prog.info? 9).map (fun i => (i.zero, i.size, i.bytes)) = some (some (.string ByteArray.empty), 1, 16) := by kernel_rfl

theorem enc_head {l : Nm.Bytes} {ls : List Nm.Bytes} (h : Nm.Ok (l :: ls)) : (UInt8.ofNat l.length).toNat = l.length := by
  have := (Nm.ok_cons.1 h).1
  simp
  omega

set_option maxHeartbeats 400000 in
theorem labels_any (s : ByteArray) (ls : List Nm.Bytes) (w : World) (hs : s.data.toList = Nm.enc ls) (hok : Nm.Ok ls) (hl : s.size ≤ 255) :
    Calls Try.prog 55 #[.string s] w fun e w' => ∃ v, e = .returned v ∧ w'.ownsRow w.heap.size 9 1 v ls.length (ls.map strV) ∧ Below w.heap.size w w' := by
  have HS := Lib.hid hs
  have HOK := Lib.hid hok
  clear hs hok
  obtain ⟨i0, hi, hz0, hz1, hz2⟩ := info_parts info_string
  go_enter Try.func55, Try.ntmps55
  go_wp2
  go_loopw [3, 4, 5] (fun v i _ wr => ∃ (k : Nat) (a b : List Nm.Bytes), ls = a ++ b ∧ i = .int .i64 k ∧ s.data.toList.drop k = Nm.enc b ∧ wr.ownsRow w.heap.size 9 1 v a.length (a.map strV) ∧ Below w.heap.size w wr) (fun _ i _ _ => s.size - (intOf i).toNat)
  case atStart => exact ⟨0, [], ls, rfl, rfl, HS.out, World.ownsRow_nil _ _ _ _, Below.refl _ _⟩
  case round =>
    obtain ⟨k, a, b, hab, rfl, hd, hown, hbel⟩ := hrel
    have HAB := Lib.hid hab
    have HD := Lib.hid hd
    clear hab hd
    have hlt : k < s.size := by
      have := congrArg List.length HD.out
      rw [Nm.enc_length] at this
      simp at this
      omega
    obtain ⟨c, hc⟩ : ∃ c, s[k] = c := ⟨_, rfl⟩
    have hd2 : Hid (s.data.toList.drop k = c :: s.data.toList.drop (k + 1)) := by have := drop_at s k hlt; rwa [hc] at this
    have hb := c.toNat_lt
    cases b with
    | nil =>
      have hc0 : c = 0 := by have := HD.out; rw [hd2.out] at this; simp [Nm.enc] at this; exact this.1
      subst hc0
      go_wp2
      go_ret
      have := HAB.out
      rw [List.append_nil] at this
      subst this
      exact ⟨_, rfl, hown, hbel⟩
    | cons l b =>
      have hokb : Nm.Ok (l :: b) := by
        have := HOK.out
        rw [HAB.out] at this
        exact fun x hx => this x (List.mem_append_right _ hx)
      have HOKB := Lib.hid hokb
      clear hokb
      have hh : c = UInt8.ofNat l.length ∧ s.data.toList.drop (k + 1) = l ++ Nm.enc b := by
        have := HD.out
        rw [hd2.out] at this
        simpa [Nm.enc] using this
      have hcn : c.toNat = l.length := by rw [hh.1]; exact enc_head HOKB.out
      have hl1 := (Nm.ok_cons.1 HOKB.out).1
      have HH := Lib.hid hh.2
      clear hh
      have hle : k + 1 + c.toNat ≤ s.size := by
        have := congrArg List.length HH.out
        simp at this
        omega
      have hle2 : a.length ≤ 300 := by
        have h1 := Nm.length_lt_enc ls
        rw [← HS.out, HAB.out] at h1
        simp at h1
        omega
      have hex : Hid (Value.string (s.extract (k + 1) (k + 1 + c.toNat)) = strV l) := by
        unfold strV
        congr 1
        apply ByteArray.ext
        apply Array.toList_inj.1
        rw [Lib.extract_data, HH.out]
        simp [hcn]
      have hc0 : ((c.toNat : Int) != 0) = true := by rw [bne_iff_ne]; omega
      have HCN := Lib.hid hcn
      clear hcn
      go_wp2_with (at_builtin; refine wpList_append_own _ rfl _ _ 23 rfl w.heap.size 9 i0 (.string ByteArray.empty) 1 16 Try.underlying23 hi hz0 hz1 hz2 rfl (by decide) _ _ _ rfl (hown.alloc _) ⟨wr.heap.size, 0, none⟩ 1 1 [.string (s.extract (k + 1) (k + 1 + c.toNat))] rfl rfl (cell_one_new _ _ _) ?c2 ?c3 ?c4 ?c5 ?_)
      case c2 => simp [Value.oneCell']
      case c3 => unfold maxLen; omega
      case c4 => omega
      case c5 => have := hbel.size; simp; omega
      intro v' w1 hown' hgrow _
      have hbel1 := hbel.trans (((Below.refl w.heap.size wr).alloc hbel.size _).grown hgrow (by have := hbel.size; simp; omega) (fun q hq => (hown.lt q hq).1))
      have hfin0 : w1.ownsRow w.heap.size 9 1 v' (a ++ [l]).length ((a ++ [l]).map strV) := by
        have := hown'
        rw [hex.out] at this
        simpa using this
      have hfin := Lib.hid hfin0
      clear hown' hgrow hown hbel hfin0
      go_wp2
      go_roundw
      case rel =>
        refine ⟨k + 1 + c.toNat, a ++ [l], b, ?_, by go_num, ?_, hfin.out, hbel1⟩
        · rw [HAB.out]; simp
        · rw [← List.drop_drop, HH.out, HCN.out]; simp
      case measure => simp [intOf]; omega
end Go.Proofs.Ytoonclcppokdeaa
