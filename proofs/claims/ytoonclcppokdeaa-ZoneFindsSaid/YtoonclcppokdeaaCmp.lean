/-
  PLAIN: the order of names; slices of strings of one's own.
-/
import Derived.Test.YtoonclcppokdeaaWName
import Derived.Test.YtoonclcppokdeaaSRow
import Derived.Lib.Bytealg
namespace Go.Proofs.Ytoonclcppokdeaa
open Go.RowKit

/-- The order of labels, the last one first. -/
def cmpR : List Nm.Bytes → List Nm.Bytes → Int
  | [], [] => 0
  | [], _ :: _ => -1
  | _ :: _, [] => 1
  | x :: xs, y :: ys => if Lib.compareBytes x y = 0 then cmpR xs ys else Lib.compareBytes x y
def cmpL (a b : List Nm.Bytes) : Int := cmpR (Nm.lowL a).reverse (Nm.lowL b).reverse
def cmpN (n m : Nm.Bytes) : Int := match Nm.nm n, Nm.nm m with | some a, some b => cmpL a b | _, _ => 0

theorem take_rev {α : Type} (l : List α) (p : Nat) (x : α) (h : l[p]? = some x) : (l.take (p + 1)).reverse = x :: (l.take p).reverse := by
  rw [List.take_add_one, h]
  simp

theorem compareBytes_bd : ∀ a b : List UInt8, Lib.compareBytes a b = -1 ∨ Lib.compareBytes a b = 0 ∨ Lib.compareBytes a b = 1
  | [], [] => by simp [Lib.compareBytes]
  | [], _ :: _ => by simp [Lib.compareBytes]
  | _ :: _, [] => by simp [Lib.compareBytes]
  | a :: r, b :: t => by
    unfold Lib.compareBytes
    split
    · simp
    · split
      · simp
      · exact compareBytes_bd r t

end Go.Proofs.Ytoonclcppokdeaa
