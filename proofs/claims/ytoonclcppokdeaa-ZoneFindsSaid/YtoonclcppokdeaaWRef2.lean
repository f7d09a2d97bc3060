/-
  THE WALKS of the reference's Bytes, Fold, Parent, Same, Within (hustingsref01).
-/
import Derived.Test.YtoonclcppokdeaaWRef1
namespace Go.Proofs.Ytoonclcppokdeaa
open Go.RowKit

def encP (ls : List Nm.Bytes) : Nm.Bytes := ls.flatMap fun l => UInt8.ofNat l.length :: l
theorem encP_enc : ∀ ls, Nm.enc ls = encP ls ++ [0]
  | [] => rfl
  | l :: ls => by simp [Nm.enc, encP_enc ls, encP]
theorem encP_snoc (ls : List Nm.Bytes) (l : Nm.Bytes) : encP (ls ++ [l]) = encP ls ++ (UInt8.ofNat l.length :: l) := by simp [encP]
theorem encP_length (ls : List Nm.Bytes) (h : ∀ l ∈ ls, l.length ≤ 63) : (encP ls).length ≤ 64 * ls.length := by
  induction ls with
  | nil => simp [encP]
  | cons l ls ih =>
    have h1 := h l (by simp)
    have h2 := ih (fun x hx => h x (by simp [hx]))
    simp [encP] at h2 ⊢
    omega
theorem cat3' (a : Nm.Bytes) (c : UInt8) (b : Nm.Bytes) : (({ data := a.toArray } : ByteArray) ++ { data := #[c] } ++ { data := b.toArray }) = ⟨(a ++ (c :: b)).toArray⟩ := by
  apply ByteArray.ext
  apply Array.toList_inj.1
  simp [ByteArray.data_append]

set_option maxRecDepth 100000 in
set_option maxHeartbeats 1000000 in
theorem refBytes_any (v : Value) (ls : List Nm.Bytes) (w : World) (hr : SRow w v ls) (hok : ∀ l ∈ ls, l.length ≤ 63) (hlen : ls.length ≤ 1000) :
    Calls Try.prog 61 #[v] w fun e w' => e = .returned (.string ⟨(Nm.enc ls).toArray⟩) ∧ Below w.heap.size w w' := by
  obtain ⟨a, cap, rfl, hrow⟩ := hr
  have HROW := Lib.hid hrow
  have HOK := Lib.hid hok
  clear hrow hok
  go_enter Try.func61, Try.ntmps61
  go_wp2_with fail
  go_loopw [3, 4] (fun o i wr => ∃ k : Nat, k ≤ ls.length ∧ i = .int .i64 k ∧ o = .string ⟨(encP (ls.take k)).toArray⟩ ∧ Below w.heap.size w wr) (fun _ i _ => ls.length - (intOf i).toNat)
  case atStart => exact ⟨0, by omega, rfl, rfl, Below.refl _ _⟩
  case round =>
    obtain ⟨k, hk, rfl, rfl, hbel⟩ := hrel
    by_cases hlt : k < ls.length
    · obtain hz0 | ⟨b, off, ha, hlb, hcc⟩ := HROW.out
      · subst hz0; simp at hlt
      subst ha
      obtain ⟨l, hl⟩ : ∃ l, ls[k]? = some l := ⟨_, List.getElem?_eq_getElem hlt⟩
      have hll := HOK.out l (List.mem_of_getElem? hl)
      have d0 : wr.cell? ⟨b, off + k, none⟩ = some (.string ⟨l.toArray⟩) := (hbel.cell hlb).trans (hcc k l hl)
      have HT := Lib.hid (show encP (ls.take (k + 1)) = encP (ls.take k) ++ (UInt8.ofNat l.length :: l) by rw [List.take_add_one, hl]; exact encP_snoc _ _)
      have hal := encP_length (ls.take k) (fun x hx => HOK.out x (List.mem_of_mem_take hx))
      have htl : (ls.take k).length ≤ k := List.length_take_le _ _
      obtain ⟨acc, hacc⟩ : ∃ acc, acc = encP (ls.take k) := ⟨_, rfl⟩
      rw [← hacc] at hal
      have hal2 : acc.length ≤ 100000 := by omega
      rw [← hacc]
      rw [← hacc] at HT
      have hbw : b < wr.heap.size := World.block_lt_of_cell? wr _ d0
      have HBEL := Lib.hid hbel
      have hwsz := hbel.size
      clear hacc hcc hl hbel hal htl
      have e1 : (UInt8.ofNat l.length).toNat = l.length := by simp; omega
      have hone : (convert 40 9 (.slice (some ⟨wr.heap.size, 0, none⟩) 1 1)).run Try.prog (wr.alloc (.cells #[.int .u8 (l.length : Int)] 5)).drew = .ok (.string ⟨[UInt8.ofNat l.length].toArray⟩) (wr.alloc (.cells #[.int .u8 (l.length : Int)] 5)).drew :=
        run_back _ 40 9 5 wr.heap.size 1 1 [UInt8.ofNat l.length] rfl Try.underlying40 Try.underlying5 Try.underlying9 (fun j hj => by
          show (wr.alloc (.cells #[.int .u8 (l.length : Int)] 5)).cell? _ = _
          rw [World.cell?_alloc_mark]
          match j, hj with
          | 0, _ =>
            show some (Value.int .u8 (l.length : Int)) = some (.int .u8 ((UInt8.ofNat l.length).toNat : Int))
            rw [e1])
      have hk0 : (0 : Int) ≤ (k : Int) := by omega
      have hk1 : (k : Int) < (ls.length : Int) := by omega
      have hw8 : IntKind.u8.wrap (l.length : Int) = (l.length : Int) := by simp [IntKind.wrap, IntKind.signed, IntKind.bits]; omega
      clear e1
      go_upto_region 5 with fail
      go_region
      all_goals (clear hone hw8; go_wp2_with fail)
      all_goals
        refine ⟨⟨k + 1, by omega, by go_num, ?_, HBEL.out.trans (((Below.refl _ _).alloc hwsz _).drew)⟩, by simp [intOf]; omega⟩
        rw [HT.out]
        exact congrArg Value.string (cat3' acc (UInt8.ofNat l.length) l)
    · obtain rfl : k = ls.length := by omega
      rw [List.take_length]
      have hal := encP_length ls HOK.out
      have HE := Lib.hid (show (({ data := (encP ls).toArray } : ByteArray) ++ { data := #[0] }) = ⟨(Nm.enc ls).toArray⟩ by rw [encP_enc]; exact cat2 (encP ls) [0])
      obtain ⟨acc, hacc⟩ : ∃ acc, acc = encP ls := ⟨_, rfl⟩
      rw [← hacc]
      rw [← hacc] at hal HE
      clear hacc
      have hal2 : acc.length ≤ 100000 := by omega
      clear hal
      go_wp2_with fail
      go_ret
      exact ⟨ret_str HE.out, hbel⟩

end Go.Proofs.Ytoonclcppokdeaa
