/-
  THE ROW's closed facts, joined.
-/
import Derived.Test.YtlicehodjhoamaaGreatDoorYf
import Derived.Test.YtlicehodjhoamaaGreatDoorYg
import Derived.Test.YtlicehodjhoamaaGreatDoorYh
import Derived.Test.YtlicehodjhoamaaGreatDoorYi
import Derived.Test.YtlicehodjhoamaaGreatDoorYk
import Derived.Test.YtlicehodjhoamaaGreatDoorYl
import Derived.Test.YtlicehodjhoamaaGreatDoorYm
namespace Go.Proofs.YtlicehodjhoamaaGreatDoor
open Go
set_option linter.unusedVariables false
set_option linter.unusedSimpArgs false
theorem andT {a b : Bool} (h : a = true) (k : b = true) : (a && b) = true := by rw [h, k]; rfl
set_option maxRecDepth 100000
theorem jf_wf : OpenClaim.wf (OpenSpec.ofChange (OpenSpec.ofChange Rows.scriptNamesSpec).bare) Rows.scriptNamesRow = true := by kernel_rfl
set_option maxHeartbeats 4000000 in
theorem scriptNames_closed : joinedFacts Tryz.pinned.checked.prog 4 Tryz.f4 (OpenSpec.ofChange Rows.scriptNamesSpec).bare Rows.scriptNamesRow = true := by
  unfold joinedFacts
  repeat (with_reducible refine andT ?_ (by as_aux_lemma => first | (with_reducible exact jf_ip) | (with_reducible exact jf_un) | (with_reducible exact jf_re) | (with_reducible exact jf_nm) | (with_reducible exact jf_lo) | (with_reducible exact jf_mr) | (with_reducible exact jf_me) | (with_reducible exact jf_sh) | (with_reducible exact jf_mk) | (with_reducible exact jf_lf) | (with_reducible exact jf_pk) | kernel_rfl))
  exact jf_wf
end Go.Proofs.YtlicehodjhoamaaGreatDoor
