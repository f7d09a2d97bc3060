/-
  THE TIE of the listed variables: one closed fact, hw.
-/
import Derived.Test.YtlicehodjhoamaaGreatDoorRows
import Derived.LaidByTextLater
import Derived.SevenTiedAt
namespace Go.Proofs.YtlicehodjhoamaaGreatDoor
open Go
theorem tie_hw : Tryz.prog.worded (varsWordLater true) = true := by kernel_rfl
end Go.Proofs.YtlicehodjhoamaaGreatDoor
