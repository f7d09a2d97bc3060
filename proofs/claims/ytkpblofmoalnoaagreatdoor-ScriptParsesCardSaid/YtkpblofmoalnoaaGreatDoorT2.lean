/-
 THE TIE of the listed variables: one closed fact, hroot.
-/
import Derived.Test.YtkpblofmoalnoaaGreatDoorRows
import Derived.LaidByTextLater
import Derived.SevenTiedAt
namespace Go.Proofs.YtkpblofmoalnoaaGreatDoor
open Go
theorem adL : Tryz.prog.worded rootWordLater = true := by kernel_rfl
end Go.Proofs.YtkpblofmoalnoaaGreatDoor
