/-
  PLAIN: letters of either case, and a label ahead.
-/
import Derived.Test.YtoonclcppokdeaaZl2
namespace Go.Proofs.Ytoonclcppokdeaa
open Go.RowKit

def upB (c : UInt8) : UInt8 := if 97 ≤ c ∧ c ≤ 122 then c - 32 else c
def up (l : Nm.Bytes) : Nm.Bytes := l.map upB

theorem lowB_upB (c : UInt8) : Nm.lowB (upB c) = Nm.lowB c := by
  unfold upB
  split
  · rename_i h
    have a1 := UInt8.le_iff_toNat_le.1 h.1
    have a2 := UInt8.le_iff_toNat_le.1 h.2
    have e97 : (97 : UInt8).toNat = 97 := rfl
    have e122 : (122 : UInt8).toNat = 122 := rfl
    rw [e97] at a1
    rw [e122] at a2
    have hs : (c - 32).toNat = c.toNat - 32 := by
      rw [UInt8.toNat_sub]
      have : (32 : UInt8).toNat = 32 := rfl
      rw [this]
      omega
    have h1 : Nm.lowB (c - 32) = c - 32 + 32 := by
      unfold Nm.lowB
      rw [if_pos]
      constructor
      · rw [UInt8.le_iff_toNat_le, hs]; show 65 ≤ c.toNat - 32; omega
      · rw [UInt8.le_iff_toNat_le, hs]; show c.toNat - 32 ≤ 90; omega
    have h2 : Nm.lowB c = c := by
      unfold Nm.lowB
      rw [if_neg]
      rintro ⟨_, h4⟩
      have := UInt8.le_iff_toNat_le.1 h4
      have e90 : (90 : UInt8).toNat = 90 := rfl
      rw [e90] at this
      omega
    rw [h1, h2]
    apply UInt8.toNat_inj.1
    rw [UInt8.toNat_add, hs]
    have : (32 : UInt8).toNat = 32 := rfl
    rw [this]
    omega
  · rfl
theorem low_up (l : Nm.Bytes) : Nm.low (up l) = Nm.low l := by
  simp only [Nm.low, up, List.map_map]
  exact List.map_congr_left fun c _ => lowB_upB c
theorem upB_small (c : UInt8) (h : c.toNat < 65) : upB c = c := by
  unfold upB
  rw [if_neg]
  rintro ⟨h1, _⟩
  have := UInt8.le_iff_toNat_le.1 h1
  simp at this
  omega
theorem up_enc : ∀ ls : List Nm.Bytes, Nm.Ok ls → up (Nm.enc ls) = Nm.enc (ls.map up)
  | [], _ => by simp [Nm.enc, up, upB_small]
  | l :: ls, h => by
    obtain ⟨⟨h1, h2⟩, h3⟩ := Nm.ok_cons.1 h
    have ih := up_enc ls h3
    have e : (UInt8.ofNat l.length).toNat = l.length := by simp; omega
    have e1 : upB (UInt8.ofNat l.length) = UInt8.ofNat l.length := upB_small _ (by rw [e]; omega)
    have : up (Nm.enc (l :: ls)) = upB (UInt8.ofNat l.length) :: (up l ++ up (Nm.enc ls)) := by
      simp [Nm.enc, up]
    rw [this, e1, ih]
    simp [Nm.enc, up]
theorem nm_up {n : Nm.Bytes} {ls : List Nm.Bytes} (h : Nm.nm n = some ls) : Nm.nm (up n) = some (ls.map up) := by
  obtain ⟨h1, h2, h3⟩ := Nm.nm_iff.1 h
  rw [Nm.nm_iff]
  refine ⟨by rw [h1, up_enc ls h2], ?_, by simpa [up] using h3⟩
  intro l hl
  obtain ⟨x, hx, rfl⟩ := List.mem_map.1 hl
  simpa [up] using h2 x hx
theorem lowL_up (ls : List Nm.Bytes) : Nm.lowL (ls.map up) = Nm.lowL ls := by
  simp only [Nm.lowL, List.map_map]
  exact List.map_congr_left fun c _ => low_up c

theorem findZ_up (zs : List Zn) {n : Nm.Bytes} (h : Nm.may n = true) : findZ zs (up n) = findZ zs n := by
  obtain ⟨ls, hl⟩ := Nm.nm_of_may h
  simp only [findZ, hl, nm_up hl, lowL_up]
theorem findZ_fold (zs : List Zn) {n : Nm.Bytes} (h : Nm.may n = true) : findZ zs (Nm.fold n) = findZ zs n := by
  obtain ⟨ls, hl⟩ := Nm.nm_of_may h
  have : Nm.fold n = Nm.low n := by unfold Nm.fold; rw [if_pos h]
  rw [this]
  simp only [findZ, hl, Nm.nm_low hl, Nm.lowL_idem]

theorem nm_root : Nm.nm [0] = some [] := by decide
theorem root_within : Nm.within [0] [0] = true := by decide

/-- What is within a name is of a zone within that name's. -/
theorem label_law {zs : List Zn} {n label : Nm.Bytes} (hg : Good zs) (h1 : 1 ≤ label.length) (h2 : label.length ≤ 63) (hn : Nm.may n = true) (hin : Nm.may (UInt8.ofNat label.length :: (label ++ n)) = true) :
    Nm.within (findZ zs (UInt8.ofNat label.length :: (label ++ n))).name (findZ zs n).name = true := by
  obtain ⟨a, ha⟩ := Nm.nm_of_may hn
  obtain ⟨e1, e2, e3⟩ := Nm.nm_iff.1 ha
  have hok : Nm.Ok (label :: a) := Nm.ok_cons.2 ⟨⟨h1, h2⟩, e2⟩
  have hlen : (UInt8.ofNat label.length :: (label ++ n)).length ≤ 255 := by
    obtain ⟨c, hc⟩ := Nm.nm_of_may hin
    exact (Nm.nm_iff.1 hc).2.2
  have hb : Nm.nm (UInt8.ofNat label.length :: (label ++ n)) = some (label :: a) := Nm.nm_iff.2 ⟨by rw [e1]; rfl, hok, hlen⟩
  have hokl := Nm.lowL_ok hok
  have hfn := findZ_found (zs := zs) ha
  -- the zone of n is within the zone of n
  have hself : Nm.within (findZ zs n).name (findZ zs n).name = true := by
    rcases hfn with ⟨s, g1, g2, g3, g4⟩ | ⟨g1, _⟩
    · obtain ⟨c, c1, c2, c3, c4⟩ := ok_labels (hg.ok _ g2)
      rw [within_iff c1 c1 c2, c2]
      exact List.suffix_refl _
    · rw [g1]; exact root_within
  have hstep : findZ zs (UInt8.ofNat label.length :: (label ++ n)) = findS zs (Nm.low label :: Nm.lowL a) := by simp [findZ, hb, Nm.lowL]
  have hsn : findZ zs n = findS zs (Nm.lowL a) := by simp [findZ, ha]
  rw [hstep]
  simp only [findS]
  cases hz : zfind zs ((Nm.lowL a).length + 1) (Nm.enc (Nm.low label :: Nm.lowL a)) with
  | none => simp only []; rw [← hsn]; exact hself
  | some z =>
    simp only []
    obtain ⟨hz1, hz2⟩ := zfind_some hz
    obtain ⟨c, c1, c2, c3, c4⟩ := ok_labels (hg.ok z hz1)
    have hce : c = Nm.low label :: Nm.lowL a := Nm.enc_inj c4 (by simpa [Nm.lowL] using hokl) (c3.symm.trans hz2)
    rcases hfn with ⟨s, g1, g2, g3, g4⟩ | ⟨g1, _⟩
    · obtain ⟨d, d1, d2, d3, d4⟩ := ok_labels (hg.ok _ g2)
      have hsd : s = d := Nm.enc_inj (suffix_ok g1 (Nm.lowL_ok e2)) d4 (g3.symm.trans d3)
      subst hsd
      rw [within_iff c1 d1 d2, c2, hce]
      exact g1.trans (List.suffix_cons _ _)
    · rw [g1]
      have : Nm.nm rootZ.name = some [] := nm_root
      rw [within_iff c1 this rfl]
      exact List.nil_suffix

end Go.Proofs.Ytoonclcppokdeaa
