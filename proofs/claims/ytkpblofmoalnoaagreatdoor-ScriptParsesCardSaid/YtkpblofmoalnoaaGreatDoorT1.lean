/-
 THE TIE of the listed variables: one closed fact, hw2.
-/
import Derived.Test.YtkpblofmoalnoaaGreatDoorRows
import Derived.LaidByTextLater
import Derived.SevenTiedAt
namespace Go.Proofs.YtkpblofmoalnoaaGreatDoor
open Go
theorem ahs : Tryz.prog.worded (varsWordLater !true) = false := by kernel_rfl
end Go.Proofs.YtkpblofmoalnoaaGreatDoor
