/-
  THE FORWARDER, reckoned: functions with ways of their own; the evaluator over this program.
-/
import Derived.Test.YtjhgapeehhbkbaaGreatDoorChecked
import Derived.Test.YtjhgapeehhbkbaaGreatDoorFw3
import Derived.KernelRfl
namespace Go.Proofs.YtjhgapeehhbkbaaGreatDoor.Ev
open Go
set_option linter.unusedVariables false
set_option linter.unusedSimpArgs false
set_option maxRecDepth 100000
theorem hmix : Tryz.prog.follows .mixedOrders = true := by kernel_rfl
noncomputable def XX : Own := ownX Tryz.prog (fun _ => 1000) 100000 [(135, .defers), (132, .defers), (128, .jumps)] 74
theorem own_ok : OwnOk Tryz.prog XX := ownX_ok hmix _ _ _ (fn := Tryz.f74) (by kernel_rfl) rfl rfl fun h7 h1 h8 hS hI hz hQ =>
  free_rest rfl Tryz.underlying145 Tryz.underlying61 h7 h1 h8 hS hI hz hQ
noncomputable def EE : FunE := funX Tryz.prog (fun _ => 1000) 100000 XX 60
theorem EE_ok : FunOk Tryz.prog EE := funX_ok _ hmix _ _ own_ok 60
end Go.Proofs.YtjhgapeehhbkbaaGreatDoor.Ev
