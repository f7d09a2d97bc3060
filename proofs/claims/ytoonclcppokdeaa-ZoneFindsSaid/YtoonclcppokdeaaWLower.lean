/-
  THE WALK of name.lower.
-/
import Derived.Test.YtoonclcppokdeaaBase
namespace Go.Proofs.Ytoonclcppokdeaa
open Go.RowKit

theorem lowB_yes (c : UInt8) (h1 : 65 ≤ c.toNat) (h2 : c.toNat ≤ 90) : ((Nm.lowB c).toNat : Int) = (c.toNat : Int) + 32 := by
  unfold Nm.lowB
  rw [if_pos ⟨UInt8.le_iff_toNat_le.2 (by simpa using h1), UInt8.le_iff_toNat_le.2 (by simpa using h2)⟩]
  rw [UInt8.toNat_add]
  have : (32 : UInt8).toNat = 32 := rfl
  rw [this]
  omega
theorem lowB_no (c : UInt8) (h : ¬ (65 ≤ c.toNat ∧ c.toNat ≤ 90)) : Nm.lowB c = c := by
  unfold Nm.lowB
  rw [if_neg]
  rintro ⟨h1, h2⟩
  exact h ⟨by simpa using UInt8.le_iff_toNat_le.1 h1, by simpa using UInt8.le_iff_toNat_le.1 h2⟩
/-- The bytes of a row, the first k of them folded. -/
def LowTo (l : List UInt8) (k : Nat) (C : Array Value) : Prop :=
  ∀ j (hj : j < l.length), C[j]? = some (.int .u8 ((if j < k then Nm.lowB l[j] else l[j]).toNat : Int))

theorem LowTo.start (s : ByteArray) (cap : Nat) : LowTo s.data.toList 0 (bytesRow s cap) := by
  intro j hj
  rw [bytesRow_at s cap j (by simpa using hj)]
  simp
theorem LowTo.same {l : List UInt8} {k : Nat} {C : Array Value} (h : LowTo l k C) (hk : k < l.length) (he : Nm.lowB l[k] = l[k]) : LowTo l (k + 1) C := by
  intro j hj
  rw [h j hj]
  by_cases h1 : j < k
  · rw [if_pos h1, if_pos (by omega)]
  · by_cases h2 : j = k
    · subst h2; rw [if_neg h1, if_pos (by omega), he]
    · rw [if_neg h1, if_neg (by omega)]
theorem LowTo.put {l : List UInt8} {k : Nat} {C : Array Value} (h : LowTo l k C) (hk : k < l.length) (hC : l.length ≤ C.size) : LowTo l (k + 1) (C.setIfInBounds k (.int .u8 ((Nm.lowB l[k]).toNat : Int))) := by
  intro j hj
  by_cases h2 : k = j
  · subst h2; rw [Array.getElem?_setIfInBounds_self_of_lt (by omega), if_pos (by omega)]
  · rw [Array.getElem?_setIfInBounds_ne h2, h j hj]
    by_cases h1 : j < k
    · rw [if_pos h1, if_pos (by omega)]
    · rw [if_neg h1, if_neg (by omega)]
theorem LowTo.fin {l : List UInt8} {C : Array Value} (h : LowTo l l.length C) (j : Nat) (hj : j < (Nm.low l).length) : C[j]? = some (.int .u8 ((Nm.low l)[j].toNat : Int)) := by
  have hj' : j < l.length := by simpa [Nm.low] using hj
  rw [h j hj', if_pos hj']
  simp [Nm.low]
set_option maxHeartbeats 400000 in
theorem lower_any (s : ByteArray) (w : World) (hs : s.size ≤ maxLen) :
    Calls Try.prog 53 #[.string s] w fun e w' => e = .returned (.string ⟨(Nm.low s.data.toList).toArray⟩) ∧ Below w.heap.size w w' := by
  unfold maxLen at hs
  have kc := fun (w : World) (s : ByteArray) => run_bytes_of_string (P := Try.prog) w 9 40 5 s Try.underlying9 Try.underlying40 Try.underlying5
  go_enter Try.func53, Try.ntmps53
  go_wp2
  generalize hcap : grownCap w s.size 0 5 = cap
  clear hcap kc
  have hM := bytesRow_ge s cap
  have hC0 := LowTo.start s cap
  obtain ⟨C0, hC0e⟩ : ∃ C, C = bytesRow s cap := ⟨_, rfl⟩
  rw [← hC0e] at hM hC0 ⊢
  clear hC0e
  go_loopw [4, 5, 10] (fun _ _ i wr => ∃ (k : Nat) (C : Array Value), k ≤ s.size ∧ i = .int .i64 k ∧ C.size = C0.size ∧ LowTo s.data.toList k C ∧ wr = (w.alloc (.cells C 5 (C0.size, C0.size + 1))).drew) (fun _ _ i _ => s.size - (intOf i).toNat)
  case atStart => exact ⟨0, C0, by omega, rfl, rfl, hC0, rfl⟩
  case round =>
    obtain ⟨k, C, hk, rfl, hCs, hC, rfl⟩ := hrel
    have HC := Lib.hid hC
    have HCs := Lib.hid hCs
    clear hC hCs hC0
    by_cases hlt : k < s.size
    · have hcell : (w.alloc (.cells C 5 (C0.size, C0.size + 1))).cell? ⟨w.heap.size, k, none⟩ = some (.int .u8 (s[k].toNat : Int)) := by
        rw [World.cell?_alloc_mark]
        have := HC.out k (by simpa using hlt)
        rw [this, if_neg (by omega)]
        rfl
      have hfr : (w.alloc (.cells C 5 (C0.size, C0.size + 1))).frozen? ⟨w.heap.size, k, none⟩ = false := by
        rw [World.frozen?_alloc_mark]
        simp
        omega
      have hnx := Lib.hid (HC.out.put (k := k) (by simpa using hlt) (by rw [HCs.out]; simpa using hM))
      have hnx2 := Lib.hid (HC.out.same (k := k) (by simpa using hlt))
      obtain ⟨c, hc⟩ : ∃ c, s[k] = c := ⟨_, rfl⟩
      have hc2 : Hid (s.data.toList[k]'(by simpa using hlt) = c) := hc
      have hb := c.toNat_lt
      by_cases h65 : 65 ≤ c.toNat ∧ c.toNat ≤ 90
      · obtain ⟨ha, hz⟩ := h65
        go_wp2
        have hc3 := Lib.hid (lowB_yes c ha hz)
        go_wp2
        refine ⟨⟨k + 1, _, by omega, by go_num, ?_, hnx.out, ?_⟩, by simp [intOf]; omega⟩
        · simpa using HCs.out
        · rw [hc2.out, hc3.out, setCell_new]
      · have hsm := Lib.hid (hnx2.out (by rw [hc2.out]; exact lowB_no c h65))
        go_wp2
        all_goals exact ⟨⟨k + 1, C, by omega, by go_num, HCs.out, hsm.out, rfl⟩, by simp [intOf]; omega⟩
    · obtain rfl : k = s.size := by omega
      have hfin := HC.out
      have hbk := fun W hc => run_back (P := Try.prog) W 40 9 5 w.heap.size s.size cap (Nm.low s.data.toList) (by simp [Nm.low]) Try.underlying40 Try.underlying5 Try.underlying9 hc
      have hbk2 := hbk (w.alloc (.cells C 5 (C0.size, C0.size + 1))).drew (fun j hj => by
        show (w.alloc (.cells C 5 (C0.size, C0.size + 1))).cell? _ = _
        rw [World.cell?_alloc_mark]
        exact LowTo.fin (by simpa using hfin) j hj)
      clear hbk hfin
      go_wp2
      go_ret
      exact ⟨rfl, ((Below.refl _ _).alloc (Nat.le_refl _) _).drew⟩
end Go.Proofs.Ytoonclcppokdeaa
