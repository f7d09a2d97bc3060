/-
  THE TIE of the listed variables: one closed fact, hg.
-/
import Derived.Test.YtlicehodjhoamaaGreatDoorRows
import Derived.LaidByTextLater
import Derived.SevenTiedAt
namespace Go.Proofs.YtlicehodjhoamaaGreatDoor
open Go
theorem tie_hg : (Tryz.prog.funcNamed "gosem.cut.vars").isSome = true := by kernel_rfl
end Go.Proofs.YtlicehodjhoamaaGreatDoor
