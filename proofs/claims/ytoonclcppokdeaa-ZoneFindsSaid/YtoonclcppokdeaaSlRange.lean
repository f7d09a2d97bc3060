/-
  RANGING OVER A STRING (Sl). No program in sight.
-/
import Derived.Test.YtoonclcppokdeaaSlTy
import Derived.Laws.RangeString
import Derived.Laws.RangeAny
namespace Go.Proofs.Ytoonclcppokdeaa
open Go.RowKit
set_option linter.unusedVariables false
variable {G : World} {P : Program} {n : Nat} {ρ : Slots} {L : Blocks} {ty : TypeId} {Q : Exit → Act → World → Prop}

theorem op_range_str {x : Operand} {t : TypeId} {s : List UInt8} (hx : ev ρ x = some (.string (bs s))) (ht : P.underlying t = some .string) : OpNew P G ρ L (.range t x) ty (fun b => .pointer (some ⟨b, 0, none⟩)) (.stringIter (bs s) 0) :=
  .run fun r hr w o ho _ => by
    simp [execOp, ho, hr _ _ hx, Instr.range, run_underlying ht]
theorem Heap.setObj {w : World} {b : Nat} {o o' : Obj} (h : Heap G w ((b, o) :: L)) : Heap G { w with heap := w.heap.setIfInBounds b o' } ((b, o') :: L) := by
  have hlt := h.lt (List.mem_cons_self (a := (b, o)))
  refine h.update ⟨rfl, rfl, rfl, by simp⟩ ?_ (fun j hj hne => ?_)
  · show (w.heap.setIfInBounds b o')[b]? = _
    rw [Array.getElem?_setIfInBounds_self_of_lt hlt]
  · show (w.heap.setIfInBounds b o')[j]? = _
    rw [Array.getElem?_setIfInBounds_ne (Ne.symm hne)]
theorem op_next_any {x : Operand} {b k : Nat} {s : List UInt8} (hx : ev ρ x = some (.pointer (some ⟨b, 0, none⟩))) (hk : k < s.length) :
    OpV P G ρ ((b, .stringIter (bs s) k) :: L) (.next x true) ty (.tuple #[.bool true, .int .i64 (k : Nat), .int .i32 ((Utf8.decode (bs s) k).1 : Nat)]) ((b, .stringIter (bs s) (k + (Utf8.decode (bs s) k).2)) :: L) :=
  .run fun r hr w hw o ho _ => by
    have h0 := hw.get _ (List.mem_cons_self ..)
    refine ⟨{ w with heap := w.heap.setIfInBounds b (.stringIter (bs s) (k + (Utf8.decode (bs s) k).2)) }, ?_, hw.setObj⟩
    have hs : k < (bs s).size := by rw [bs_size]; exact hk
    simp only [execOp, ho, hr _ _ hx, Instr.next, getObj, setObj, Sem.run_bind, Sem.run, h0, Result.andThen, hs, if_true]
    simp [goInt]
theorem op_next_end {x : Operand} {b k : Nat} {s : List UInt8} (hx : ev ρ x = some (.pointer (some ⟨b, 0, none⟩))) (hk : s.length ≤ k) (hm : (b, Obj.stringIter (bs s) k) ∈ L) :
    OpQ P ρ L (.next x true) ty (.tuple #[.bool false]) :=
  ⟨fun r hr w hw o ho _ => by
    have h0 := hw.get _ hm
    have hs : ¬ k < (bs s).size := by rw [bs_size]; omega
    simp only [execOp, ho, hr _ _ hx, Instr.next, getObj, Sem.run_bind, Sem.run, h0, Result.andThen, hs, if_false]
    simp⟩
theorem bs_at {s : List UInt8} {k : Nat} (h : k < (bs s).size) {c : UInt8} (hc : s[k]? = some c) : (bs s)[k]'h = c := by
  obtain ⟨h1, h2⟩ := List.getElem?_eq_some_iff.1 hc
  rw [← h2]
  rfl
theorem decode_low {s : List UInt8} {k : Nat} {c : UInt8} (hc : s[k]? = some c) (h : c.toNat < 128) : Utf8.decode (bs s) k = (c.toNat, 1) := by
  have hk : k < (bs s).size := by rw [bs_size]; exact (List.getElem?_eq_some_iff.1 hc).1
  rw [decode_ascii (bs s) k hk (by rw [bs_at hk hc]; exact h), bs_at hk hc]
theorem decode_up {s : List UInt8} {k : Nat} {c : UInt8} (hc : s[k]? = some c) (h : 128 ≤ c.toNat) : 128 ≤ (Utf8.decode (bs s) k).1 ∧ (Utf8.decode (bs s) k).1 ≤ 2147483647 := by
  have hk : k < (bs s).size := by rw [bs_size]; exact (List.getElem?_eq_some_iff.1 hc).1
  exact ⟨(decode_high (bs s) k hk (by rw [bs_at hk hc]; exact h)).1, decode_le _ _⟩
end Go.Proofs.Ytoonclcppokdeaa
