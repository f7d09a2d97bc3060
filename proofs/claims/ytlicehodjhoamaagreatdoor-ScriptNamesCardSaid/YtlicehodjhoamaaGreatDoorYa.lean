/-
  THE SCRIPT, reckoned: functions with ways of their own; the evaluator over this program.
-/
import Derived.Test.YtlicehodjhoamaaGreatDoorProg
import Derived.Test.YtlicehodjhoamaaGreatDoorZs3
import Derived.KernelRfl
namespace Go.Proofs.YtlicehodjhoamaaGreatDoor.Ev
open Go
set_option linter.unusedVariables false
set_option linter.unusedSimpArgs false
set_option maxRecDepth 100000
theorem hmix : Tryz.prog.follows .mixedOrders = true := by kernel_rfl
noncomputable def X0 : Own := ownX Tryz.prog (fun _ => 1000) 100000 [(286, .defers), (283, .defers), (228, .jumps)] 138
theorem own0_ok : OwnOk Tryz.prog X0 := ownX_ok hmix _ _ _ (fn := Tryz.f138) (by kernel_rfl) rfl rfl fun h7 h1 h8 hS hI hz hQ =>
  free_rest rfl Tryz.underlying247 Tryz.underlying43 h7 h1 h8 hS hI hz hQ
theorem row_built (x : Int) (s : ByteArray) (b : Bool) : Built Tryz.prog 74 [(0, .int .i64 x), (1, .string s), (2, .bool b)] (.agg #[.int .i64 x, .string s, .bool b]) := ⟨fun w => by kernel_rfl⟩
noncomputable def ZZ (E : FunE) : Iter := linesZ Tryz.prog E 57 53 9 100000
theorem ZZ_ok : ∀ E, FunOk Tryz.prog E → IterOk Tryz.prog (ZZ E) := fun E hE => linesZ_ok hE (fn := Tryz.f57) (by kernel_rfl) (by kernel_rfl) rfl rfl rfl fun hrd hps hQ =>
  lines_rounds Tryz.underlying9 (by kernel_rfl) row_built hE hrd hps hQ
noncomputable def X1 : Own := ownM Tryz.prog (fun _ => 1000) ZZ [8, 22] X0
theorem own1_ok : OwnOk Tryz.prog X1 := ownM_ok hmix _ ZZ_ok _ own0_ok
noncomputable def X2 : Own := ownB 85 5 71 39 X1
theorem own2_ok : OwnOk Tryz.prog X2 := ownB_ok own1_ok (fun b p v hp => copyCheck_spec b p v hp) (fun b g cap p l cur fr hp h0 h1 h2 h3 h4 => String_specF b g cap p l cur fr hp h0 h1 h2 h3 h4)
noncomputable def XX : Own := ownS 412 X2
theorem own_ok : OwnOk Tryz.prog XX := ownS_ok own2_ok (fun l h0 h3 => Clone_specF l h0 h3) Clone_spec0
noncomputable def EE : FunE := funX Tryz.prog (fun _ => 1000) 100000 XX 60
theorem EE_ok : FunOk Tryz.prog EE := funX_ok _ hmix _ _ own_ok 60
end Go.Proofs.YtlicehodjhoamaaGreatDoor.Ev
