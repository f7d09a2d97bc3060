/-
 THE SCRIPT, reckoned: functions with ways of their own; the evaluator over this program.
-/
import Derived.Test.YtkpblofmoalnoaaGreatDoorProg
import Derived.Test.YtkpblofmoalnoaaGreatDoorZt4
import Derived.KernelRfl
set_option linter.unusedVariables false
set_option linter.unusedSimpArgs false
namespace Go.Proofs.YtkpblofmoalnoaaGreatDoor.Ev
open Go
set_option maxRecDepth 100000
theorem kL : Tryz.prog.follows .mixedOrders = true := by kernel_rfl
noncomputable def X0 : Own := ownL Tryz.prog (fun _ => 1000) 100000 [(208, .defers), (205, .defers)]
theorem ahm : yz Tryz.prog X0 := agK kL _ _ _
theorem row_built (x : Int) (s : ByteArray) (b : Bool) : Built Tryz.prog 69 [(0, .int .i64 x), (1, .string s), (2, .bool b)] (.agg #[.int .i64 x, .string s, .bool b]) := ⟨fun w => by kernel_rfl⟩
noncomputable def ZZ (E : kg) : WX := linesZ Tryz.prog E 46 42 9 100000
theorem aj2 : ∀ E, ki Tryz.prog E → K5 Tryz.prog (ZZ E) := fun E hE => ac8 hE (fn := Tryz.f46) (by kernel_rfl) (by kernel_rfl) rfl rfl rfl fun hrd hps hQ =>
 Kw Tryz.underlying9 (by kernel_rfl) row_built hE hrd hps hQ
noncomputable def X1 : Own := ownM Tryz.prog (fun _ => 1000) ZZ [6, 17] X0
theorem ahn : yz Tryz.prog X1 := agM kL _ aj2 _ ahm
noncomputable def X2 : Own := ownB 78 5 55 31 X1
theorem aho : yz Tryz.prog X2 := agQ ahn (fun b p v hp => QQ b p v hp) (fun b g cap p l cur fr hp h0 h1 h2 h3 h4 => W0 b g cap p l cur fr hp h0 h1 h2 h3 h4)
noncomputable def XX : Own := ownS 255 X2
theorem afN : yz Tryz.prog XX := agR aho (fun l h0 h3 => Zn l h0 h3) Zp
noncomputable def EE : kg := funX Tryz.prog (fun _ => 1000) 100000 XX 60
theorem aj3 : ki Tryz.prog EE := abX _ kL _ _ afN 60
end Go.Proofs.YtkpblofmoalnoaaGreatDoor.Ev
