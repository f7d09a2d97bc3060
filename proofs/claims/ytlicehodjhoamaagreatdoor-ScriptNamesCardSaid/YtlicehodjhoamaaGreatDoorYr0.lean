/-
  WHAT calls come to: rows, each asked of the kernel.
-/
import Derived.Test.YtlicehodjhoamaaGreatDoorYa
namespace Go.Proofs.YtlicehodjhoamaaGreatDoor.Ev
open Go
set_option linter.unusedVariables false
set_option linter.unusedSimpArgs false
set_option maxRecDepth 100000
noncomputable def rowD1 : Row := rowN [25,3,6,12777,0,20,2,8,12835,0,257,257,12836,1,12835,0,2,4,4,116,97,112,101,30,256,4,1,48,9,1,12777,0,16,20,3,20,20,20,2,20,5,20,2,20,100,20,50,20,8,20,4,20,4,20,3600,20,1232,7,0,2,7,0,7,0,7,0,36,1,
13604,2,12777,0,16,20,3,20,20,20,2,20,5,20,2,20,100,20,50,20,8,20,4,20,4,20,3600,20,1232,7,0,2,7,0,9,13603,0,256,0,7,0,36,13603,1,1,30,256,2,7,0,256,26,1,256]
theorem rowD1_ok : rowD1.okB EE = true := by kernel_rfl
end Go.Proofs.YtlicehodjhoamaaGreatDoor.Ev
