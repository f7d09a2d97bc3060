/-
  THE TIE of the listed variables: one closed fact, hroot.
-/
import Derived.Test.YtlicehodjhoamaaGreatDoorRows
import Derived.LaidByTextLater
import Derived.SevenTiedAt
namespace Go.Proofs.YtlicehodjhoamaaGreatDoor
open Go
theorem tie_hroot : Tryz.prog.worded rootWordLater = true := by kernel_rfl
end Go.Proofs.YtlicehodjhoamaaGreatDoor
