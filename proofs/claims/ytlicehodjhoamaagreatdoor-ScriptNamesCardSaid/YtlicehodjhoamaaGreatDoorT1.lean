/-
  THE TIE of the listed variables: one closed fact, hw2.
-/
import Derived.Test.YtlicehodjhoamaaGreatDoorRows
import Derived.LaidByTextLater
import Derived.SevenTiedAt
namespace Go.Proofs.YtlicehodjhoamaaGreatDoor
open Go
theorem tie_hw2 : Tryz.prog.worded (varsWordLater !true) = false := by kernel_rfl
end Go.Proofs.YtlicehodjhoamaaGreatDoor
