/-
  THE PARTS of the law: each is true, by the rows.
-/
import Derived.Test.YtjhgapeehhbkbaaGreatDoorNr0
import Derived.Test.YtjhgapeehhbkbaaGreatDoorNr1
import Derived.Test.YtjhgapeehhbkbaaGreatDoorNr2
import Derived.Test.YtjhgapeehhbkbaaGreatDoorNr3
import Derived.Test.YtjhgapeehhbkbaaGreatDoorNr4
import Derived.Test.YtjhgapeehhbkbaaGreatDoorNr5
import Derived.Test.YtjhgapeehhbkbaaGreatDoorNr6
import Derived.Test.YtjhgapeehhbkbaaGreatDoorNr7
import Derived.Test.YtjhgapeehhbkbaaGreatDoorNr8
namespace Go.Proofs.YtjhgapeehhbkbaaGreatDoor.Ev
open Go
set_option linter.unusedVariables false
set_option linter.unusedSimpArgs false
set_option maxRecDepth 100000
noncomputable def rowsD : List Row := [rowD0, rowD1, rowD2, rowD3, rowD4, rowD5, rowD6, rowD7, rowD8, rowD9, rowD10, rowD11, rowD12, rowD13, rowD14, rowD15, rowD16, rowD17, rowD18, rowD19]
theorem rowsD_ok : ∀ r ∈ rowsD, ∃ E0, FunOk Tryz.prog E0 ∧ r.okB E0 = true := by
  intro r hr
  unfold rowsD at hr
  simp only [List.mem_cons, List.not_mem_nil, or_false] at hr
  rcases hr with rfl | rfl | rfl | rfl | rfl | rfl | rfl | rfl | rfl | rfl | rfl | rfl | rfl | rfl | rfl | rfl | rfl | rfl | rfl | rfl
  · exact ⟨EE, @EE_ok, rowD0_ok⟩
  · exact ⟨EE, @EE_ok, rowD1_ok⟩
  · exact ⟨EE, @EE_ok, rowD2_ok⟩
  · exact ⟨EE, @EE_ok, rowD3_ok⟩
  · exact ⟨EE, @EE_ok, rowD4_ok⟩
  · exact ⟨EE, @EE_ok, rowD5_ok⟩
  · exact ⟨EE, @EE_ok, rowD6_ok⟩
  · exact ⟨EE, @EE_ok, rowD7_ok⟩
  · exact ⟨EE, @EE_ok, rowD8_ok⟩
  · exact ⟨EE, @EE_ok, rowD9_ok⟩
  · exact ⟨EE, @EE_ok, rowD10_ok⟩
  · exact ⟨EE, @EE_ok, rowD11_ok⟩
  · exact ⟨EE, @EE_ok, rowD12_ok⟩
  · exact ⟨EE, @EE_ok, rowD13_ok⟩
  · exact ⟨EE, @EE_ok, rowD14_ok⟩
  · exact ⟨EE, @EE_ok, rowD15_ok⟩
  · exact ⟨EE, @EE_ok, rowD16_ok⟩
  · exact ⟨EE, @EE_ok, rowD17_ok⟩
  · exact ⟨EE, @EE_ok, rowD18_ok⟩
  · exact ⟨EE, @EE_ok, rowD19_ok⟩
noncomputable def EY : FunE := funY Tryz.prog (fun _ => 1000) 100000 XX [17] rowsD 60
theorem EY_ok : FunOk Tryz.prog EY := funY_ok _ hmix _ _ own_ok rowsD_ok 60
noncomputable def rowP0 : Row := rowN [4, 0, 102, 3, 0, 0, 1, 15, 552, 23, 100, 233, 1, 0, 1, 15, 552, 23, 101, 233, 2, 0, 8, 21, 32768, 21, 1024, 21, 512, 21, 256, 21, 128, 21, 64, 21, 32, 21, 16, 388, 0, 1, 1503, 0]
theorem rowP0_ok : rowP0.okB EY = true := by kernel_rfl
noncomputable def rowP1 : Row := rowN [5, 0, 1503, 3, 0, 0, 1, 15, 552, 23, 100, 233, 1, 0, 1, 15, 552, 23, 101, 233, 2, 0, 8, 21, 32768, 21, 1024, 21, 512, 21, 256, 21, 128, 21, 64, 21, 32, 21, 16, 388, 0, 1, 3471, 0]
theorem rowP1_ok : rowP1.okB EY = true := by kernel_rfl
noncomputable def rowP2 : Row := rowN [6, 0, 3471, 3, 0, 0, 1, 15, 552, 23, 100, 233, 1, 0, 1, 15, 552, 23, 101, 233, 2, 0, 8, 21, 32768, 21, 1024, 21, 512, 21, 256, 21, 128, 21, 64, 21, 32, 21, 16, 388, 0, 1, 4474, 0]
theorem rowP2_ok : rowP2.okB EY = true := by kernel_rfl
noncomputable def rowP3 : Row := rowN [7, 0, 4474, 3, 0, 0, 1, 15, 552, 23, 100, 233, 1, 0, 1, 15, 552, 23, 101, 233, 2, 0, 8, 21, 32768, 21, 1024, 21, 512, 21, 256, 21, 128, 21, 64, 21, 32, 21, 16, 388, 0, 1, 6255, 0]
theorem rowP3_ok : rowP3.okB EY = true := by kernel_rfl
noncomputable def rowP4 : Row := rowN [8, 0, 6255, 3, 0, 0, 1, 15, 552, 23, 100, 233, 1, 0, 1, 15, 552, 23, 101, 233, 2, 0, 8, 21, 32768, 21, 1024, 21, 512, 21, 256, 21, 128, 21, 64, 21, 32, 21, 16, 388, 0, 1, 7252, 0]
theorem rowP4_ok : rowP4.okB EY = true := by kernel_rfl
noncomputable def rowP5 : Row := rowN [9, 0, 7252, 3, 0, 0, 1, 15, 552, 23, 100, 233, 1, 0, 1, 15, 552, 23, 101, 233, 2, 0, 8, 21, 32768, 21, 1024, 21, 512, 21, 256, 21, 128, 21, 64, 21, 32, 21, 16, 388, 0, 1, 7353, 0]
theorem rowP5_ok : rowP5.okB EY = true := by kernel_rfl
noncomputable def rowsP : List Row := [rowP0, rowP1, rowP2, rowP3, rowP4, rowP5]
theorem rowsP_ok : ∀ r ∈ rowsP, ∃ E0, FunOk Tryz.prog E0 ∧ r.okB E0 = true := by
  intro r hr
  unfold rowsP at hr
  simp only [List.mem_cons, List.not_mem_nil, or_false] at hr
  rcases hr with rfl | rfl | rfl | rfl | rfl | rfl
  · exact ⟨EY, @EY_ok, rowP0_ok⟩
  · exact ⟨EY, @EY_ok, rowP1_ok⟩
  · exact ⟨EY, @EY_ok, rowP2_ok⟩
  · exact ⟨EY, @EY_ok, rowP3_ok⟩
  · exact ⟨EY, @EY_ok, rowP4_ok⟩
  · exact ⟨EY, @EY_ok, rowP5_ok⟩
noncomputable def EZ : FunE := funY Tryz.prog (fun _ => 1000) 100000 XX [4, 5, 6, 7, 8, 9] rowsP 60
theorem EZ_ok : FunOk Tryz.prog EZ := funY_ok _ hmix _ _ own_ok rowsP_ok 60
end Go.Proofs.YtjhgapeehhbkbaaGreatDoor.Ev
