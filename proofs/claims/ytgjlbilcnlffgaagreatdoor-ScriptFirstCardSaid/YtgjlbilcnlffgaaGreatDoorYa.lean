/-
 THE SCRIPT, reckoned: functions with ways of their own; the evaluator over this program.
-/
import Derived.Test.YtgjlbilcnlffgaaGreatDoorProg
import Derived.Test.YtgjlbilcnlffgaaGreatDoorZt4
import Derived.KernelRfl
set_option linter.unusedVariables false
set_option linter.unusedSimpArgs false
namespace Go.Proofs.YtgjlbilcnlffgaaGreatDoor.Ev
open Go
set_option maxRecDepth 100000
theorem kb : Tryz.prog.follows .mixedOrders = true := by kernel_rfl
noncomputable def X0 : Own := ownX Tryz.prog (fun _ => 1000) 100000 [(210, .defers), (207, .defers), (197, .jumps)] 142
theorem afD : uD Tryz.prog X0 := afa kb _ _ _ (fn := Tryz.f142) (by kernel_rfl) rfl rfl fun h7 h1 h8 hS hI hz hQ =>
 abG rfl Tryz.underlying233 Tryz.underlying43 h7 h1 h8 hS hI hz hQ
theorem row_built (x : Int) (s : ByteArray) (b : Bool) : Built Tryz.prog 71 [(0, .int .i64 x), (1, .string s), (2, .bool b)] (.agg #[.int .i64 x, .string s, .bool b]) := ⟨fun w => by kernel_rfl⟩
noncomputable def ZZ (E : jU) : VG := linesZ Tryz.prog E 48 44 9 100000
theorem ahU : ∀ E, jV Tryz.prog E → Kg Tryz.prog (ZZ E) := fun E hE => abC hE (fn := Tryz.f48) (by kernel_rfl) (by kernel_rfl) rfl rfl rfl fun hrd hps hQ =>
 zW Tryz.underlying9 (by kernel_rfl) row_built hE hrd hps hQ
noncomputable def X1 : Own := ownM Tryz.prog (fun _ => 1000) ZZ [7, 19] X0
theorem afE : uD Tryz.prog X1 := afc kb _ ahU _ afD
noncomputable def X2 : Own := ownB 80 5 57 33 X1
theorem afF : uD Tryz.prog X2 := afg afE (fun b p v hp => KV b p v hp) (fun b g cap p l cur fr hp h0 h1 h2 h3 h4 => VJ b g cap p l cur fr hp h0 h1 h2 h3 h4)
noncomputable def XX : Own := ownS 257 X2
theorem aed : uD Tryz.prog XX := afh afF (fun l h0 h3 => Ye l h0 h3) Yf
noncomputable def EE : jU := funX Tryz.prog (fun _ => 1000) 100000 XX 60
theorem ahV : jV Tryz.prog EE := aar _ kb _ _ aed 60
end Go.Proofs.YtgjlbilcnlffgaaGreatDoor.Ev
