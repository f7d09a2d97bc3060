/-
 THE ROW's closed facts, joined.
-/
import Derived.Test.YtgjlbilcnlffgaaGreatDoorYf
import Derived.Test.YtgjlbilcnlffgaaGreatDoorYg
import Derived.Test.YtgjlbilcnlffgaaGreatDoorYh
import Derived.Test.YtgjlbilcnlffgaaGreatDoorYi
import Derived.Test.YtgjlbilcnlffgaaGreatDoorYk
import Derived.Test.YtgjlbilcnlffgaaGreatDoorYl
import Derived.Test.YtgjlbilcnlffgaaGreatDoorYm
set_option maxHeartbeats 4000000
set_option linter.unusedVariables false
set_option linter.unusedSimpArgs false
namespace Go.Proofs.YtgjlbilcnlffgaaGreatDoor
open Go
theorem ai8 {a b : Bool} (h : a = true) (k : b = true) : (a && b) = true := by rw [h, k]; rfl
set_option maxRecDepth 100000
theorem ah8 : OpenClaim.wf (OpenSpec.ofChange (OpenSpec.ofChange Rows.scriptFirstSpec).bare) Rows.scriptFirstRow = true := by kernel_rfl
theorem zz : joinedFacts Tryz.pinned.checked.prog 4 Tryz.f4 (OpenSpec.ofChange Rows.scriptFirstSpec).bare Rows.scriptFirstRow = true := by
 unfold joinedFacts
 repeat (with_reducible refine ai8 ?_ (by as_aux_lemma => first | (with_reducible exact ahZ) | (with_reducible exact ahX) | (with_reducible exact ahY) | (with_reducible exact ah0) | (with_reducible exact afW) | (with_reducible exact ah1) | (with_reducible exact ah3) | (with_reducible exact ah4) | (with_reducible exact ah5) | (with_reducible exact ah6) | (with_reducible exact ah7) | kernel_rfl))
 exact ah8
end Go.Proofs.YtgjlbilcnlffgaaGreatDoor
