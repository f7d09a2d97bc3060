/-
  SMALL FACTS that the walks share.
-/
import Derived.Test.YtoonclcppokdeaaRows
import Derived.Test.YtoonclcppokdeaaNm
import Derived.WalkKit
import Derived.WalkSpells
import Derived.WalkLawsBesides
import Derived.Lib.Hide
import Derived.Lib.ConvBytes
import Derived.Lib.QuietBelow
import Derived.BigQuiet
import Derived.StillTailTactics
import Derived.Deep.DeepCutAuto
import Derived.Lib.Strings
import Derived.Lib.IndexBytes
namespace Go.Proofs.Ytoonclcppokdeaa
open Go.RowKit

/-- A string's value. -/
def strV (l : List UInt8) : Value := .string ⟨l.toArray⟩

theorem ret_bool {a b : Bool} (h : a = b) : Ending.returned (.bool a) = .returned (.bool b) := by rw [h]
theorem ret_str {a b : ByteArray} (h : a = b) : Ending.returned (.string a) = .returned (.string b) := by rw [h]
theorem drop_at (s : ByteArray) (k : Nat) (h : k < s.size) : s.data.toList.drop k = s[k] :: s.data.toList.drop (k + 1) := by
  rw [List.drop_eq_getElem_cons (by simpa using h)]; rfl
theorem may_short {l : Nm.Bytes} (h : ¬ 255 < l.length) : Nm.may l = (Nm.lbl l).isSome := by
  unfold Nm.may Nm.nm; rw [if_pos (by omega)]
theorem may_long {l : Nm.Bytes} (h : 255 < l.length) : Nm.may l = false := by
  unfold Nm.may Nm.nm; rw [if_neg (by omega)]; rfl

theorem add_mk (b o j : Nat) : (⟨b, o, none⟩ : Addr).add j = ⟨b, o + j, none⟩ := by
  unfold Addr.add; split
  · rename_i h; subst h; rfl
  · rfl
theorem setCell_new (w : World) (C : Array Value) (t : TypeId) (fr : Nat × Nat) (k : Nat) (v : Value) :
    (w.alloc (.cells C t fr)).setCell ⟨w.heap.size, k, none⟩ v = w.alloc (.cells (C.setIfInBounds k v) t fr) := by
  show ({ w with heap := (w.heap.push (.cells C t fr)).modify w.heap.size _ } : World) = { w with heap := w.heap.push _ }
  congr 1
  apply Array.ext_getElem?
  intro i
  rw [Array.getElem?_modify]
  by_cases h : w.heap.size = i
  · subst h; simp
  · simp [h, Array.getElem?_push, Ne.symm h]
/-- A row of bytes, as 'string(b)' reads it. -/
theorem run_back {P : Program} (W : World) (src dst e : TypeId) (b n cap : Nat) (l : List UInt8) (hn : n = l.length) (hs : P.underlying src = some (.slice e)) (he : P.underlying e = some (.int .u8)) (hd : P.underlying dst = some .string)
    (hc : ∀ j (hj : j < l.length), W.cell? ⟨b, j, none⟩ = some (.int .u8 (l[j].toNat : Int))) :
    (convert src dst (.slice (some ⟨b, 0, none⟩) n cap)).run P W = .ok (.string ⟨l.toArray⟩) W := by
  subst hn
  exact run_convert_bytes_back W src dst e ⟨b, 0, none⟩ cap l hs he hd (fun j hj => by rw [add_mk, Nat.zero_add]; exact hc j hj)

theorem bytesRow_ge (s : ByteArray) (cap : Nat) : s.size ≤ (bytesRow s cap).size := by
  unfold bytesRow; simp


/-- A callee's contract, in a region that draws its order. -/
theorem Calls.inGrown {P : Program} {f : FuncId} {args : Array Value} {w : World} {v : Value}
    (h : ∀ W, Calls P f args W fun e w' => e = .returned v ∧ Below W.heap.size W w') (d : Nat) (os : Array Obj) :
    Calls P f args (Sort.grow (redrawn w d) os) fun e w'' => e = .returned v ∧ ∃ p : Regrown, w'' = Sort.grow (redrawn w p.d) p.os := Calls.regrown_of (h _)
theorem Calls.sameBelow {P : Program} {f : FuncId} {args : Array Value} {v : Value} {W : World}
    (h : Calls P f args W fun e w' => e = .returned v ∧ W = w') : Calls P f args W fun e w' => e = .returned v ∧ Below W.heap.size W w' :=
  h.mono fun e w' ⟨he, hw⟩ => by subst hw; exact ⟨he, Below.refl _ _⟩

end Go.Proofs.Ytoonclcppokdeaa
