/-
 THE ROW's closed facts, joined.
-/
import Derived.Test.YtkpblofmoalnoaaGreatDoorYf
import Derived.Test.YtkpblofmoalnoaaGreatDoorYg
import Derived.Test.YtkpblofmoalnoaaGreatDoorYh
import Derived.Test.YtkpblofmoalnoaaGreatDoorYi
import Derived.Test.YtkpblofmoalnoaaGreatDoorYk
import Derived.Test.YtkpblofmoalnoaaGreatDoorYl
import Derived.Test.YtkpblofmoalnoaaGreatDoorYm
set_option maxHeartbeats 4000000
set_option linter.unusedVariables false
set_option linter.unusedSimpArgs false
namespace Go.Proofs.YtkpblofmoalnoaaGreatDoor
open Go
theorem alo {a b : Bool} (h : a = true) (k : b = true) : (a && b) = true := by rw [h, k]; rfl
set_option maxRecDepth 100000
theorem akh : OpenClaim.wf (OpenSpec.ofChange (OpenSpec.ofChange Rows.scriptParsesSpec).bare) Rows.scriptParsesRow = true := by kernel_rfl
theorem zX : joinedFacts Tryz.pinned.checked.prog 3 Tryz.f3 (OpenSpec.ofChange Rows.scriptParsesSpec).bare Rows.scriptParsesRow = true := by
 unfold joinedFacts
 repeat (with_reducible refine alo ?_ (by as_aux_lemma => first | (with_reducible exact aj8) | (with_reducible exact aj6) | (with_reducible exact aj7) | (with_reducible exact aj9) | (with_reducible exact ahJ) | (with_reducible exact aka) | (with_reducible exact akc) | (with_reducible exact akd) | (with_reducible exact ake) | (with_reducible exact akf) | (with_reducible exact akg) | kernel_rfl))
 exact akh
end Go.Proofs.YtkpblofmoalnoaaGreatDoor
