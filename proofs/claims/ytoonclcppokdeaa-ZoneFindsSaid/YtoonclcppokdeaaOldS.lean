/-
  THE ELDER CONTRACTS (name, hustingsref01), as specifications of the separation logic.
-/
import Derived.Test.YtoonclcppokdeaaPa
import Derived.Test.YtoonclcppokdeaaSb
import Derived.Test.YtoonclcppokdeaaWCompare
import Derived.Test.YtoonclcppokdeaaWRef4
import Derived.Test.YtoonclcppokdeaaWWithin
namespace Go.Proofs.Ytoonclcppokdeaa
open Go.RowKit
set_option linter.unusedVariables false
section
variable {G : World} {L : Blocks} {P : Program}
/-- A row of its own that an elder contract tells. -/
theorem Spec.ofRow {f : FuncId} {args : Array Value} {e : TypeId} {sz m : Nat} {xs : List Value} (h : ∀ w, Calls P f args w fun en w' => ∃ v, en = .returned v ∧ w'.ownsRow w.heap.size e sz v m xs ∧ Below w.heap.size w w') :
    Spec P G f args L fun u M => ∃ B, Row e sz u m xs B ∧ M = B ++ L :=
  ⟨fun w hw => (h w).mono fun en w' ⟨v, h1, h2, h3⟩ => by
    have hL : Heap G w' L := ⟨hw.still.trans ⟨h3.os, h3.tape, h3.output, h3.size⟩, hw.nodup, fun p hp => (h3.block p.1 (hw.lt hp)).trans (hw.get p hp)⟩
    rcases h2.2 with ⟨q1, q2⟩ | ⟨g, cap, cur, q1, q2, q3, q4, q5, q6, q7⟩
    · exact ⟨v, _, h1, ⟨[], ⟨h2.1, Or.inl ⟨q1, q2, rfl⟩⟩, rfl⟩, hL⟩
    · refine ⟨v, _, h1, ⟨[(g, .cells cur e (0, 0))], ⟨h2.1, Or.inr ⟨g, cap, cur, q1, rfl, q4, q5, q6, q7⟩⟩, rfl⟩, hL.still, ?_, fun p hp => ?_⟩
      · show ((g : Nat) :: L.map (·.1)).Nodup
        rw [List.nodup_cons]
        refine ⟨fun hm => ?_, hL.nodup⟩
        obtain ⟨p, hp, he⟩ := List.mem_map.1 hm
        have := hw.lt hp
        omega
      · rcases List.mem_cons.1 hp with rfl | hp
        · exact q3
        · exact hL.get p hp⟩
end
variable {G : World} {L : Blocks}
theorem bs_max {l : Nm.Bytes} (h : l.length ≤ 1000000) : (bs l).size ≤ maxLen := by rw [bs_size]; unfold maxLen; omega
theorem bs_mil {l : Nm.Bytes} (h : l.length ≤ 1000000) : (bs l).size ≤ 1000000 := by rw [bs_size]; exact h
theorem May_S (l : Nm.Bytes) (h : l.length ≤ 1000000) : Spec Try.prog G 28 #[.string (bs l)] L fun u M => u = .bool (Nm.may l) ∧ M = L := Spec.ofSame fun w => may_any (bs l) w (bs_max h)
theorem Fold_S (l : Nm.Bytes) (h : l.length ≤ 1000000) : Spec Try.prog G 29 #[.string (bs l)] L fun u M => u = .string (bs (Nm.fold l)) ∧ M = L := Spec.ofBelow fun w => fold_any (bs l) w (bs_max h)
theorem Parent_S (l : Nm.Bytes) (h : l.length ≤ 1000000) : Spec Try.prog G 44 #[.string (bs l)] L fun u M => u = .tuple #[.string (bs (Nm.parentN l)), .bool (Nm.parentB l)] ∧ M = L := Spec.ofSame fun w => Parent_any (bs l) w (bs_max h)
theorem Same_S (a b : Nm.Bytes) (ha : a.length ≤ 1000000) (hb : b.length ≤ 1000000) : Spec Try.prog G 31 #[.string (bs a), .string (bs b)] L fun u M => u = .bool (Nm.same a b) ∧ M = L := Spec.ofBelow fun w => Same_any (bs a) (bs b) w (bs_max ha) (bs_max hb)
theorem Within_S (a b : Nm.Bytes) (ha : a.length ≤ 1000000) (hb : b.length ≤ 1000000) : Spec Try.prog G 26 #[.string (bs a), .string (bs b)] L fun u M => u = .bool (Nm.within a b) ∧ M = L := Spec.ofBelow fun w => Within_any (bs a) (bs b) w (bs_max ha) (bs_max hb)
theorem Compare_S (a b : Nm.Bytes) (ha : a.length ≤ 1000000) (hb : b.length ≤ 1000000) : Spec Try.prog G 34 #[.string (bs a), .string (bs b)] L fun u M => u = .int .i64 (cmpN a b) ∧ M = L := Spec.ofBelow fun w => Compare_any (bs a) (bs b) w (bs_max ha) (bs_max hb)
theorem labels_S (n : Nm.Bytes) (ls : List Nm.Bytes) (h : Nm.nm n = some ls) : Spec Try.prog G 55 #[.string (bs n)] L fun u M => ∃ B, Row 9 1 u ls.length (ls.map txtV) B ∧ M = B ++ L :=
  Spec.ofRow fun w => by
    obtain ⟨h1, h2, h3⟩ := Nm.nm_iff.1 h
    exact labels_any (bs n) ls w h1 h2 (by rw [bs_size]; exact h3)
theorem Labels_S (l : Nm.Bytes) (h : l.length ≤ 1000000) : Spec Try.prog G 45 #[.string (bs l)] L fun u M => ∃ B, Row 9 1 u (Nm.labels l).length ((Nm.labels l).map txtV) B ∧ M = B ++ L := Spec.ofRow fun w => Labels_any (bs l) w (bs_max h)
theorem refSame_S (a b : Nm.Bytes) (ha : a.length ≤ 1000000) (hb : b.length ≤ 1000000) : Spec Try.prog G 32 #[.string (bs a), .string (bs b)] L fun u M => u = .bool (Nm.same a b) ∧ M = L := Spec.ofBelow fun w => refSame_any (bs a) (bs b) w (bs_mil ha) (bs_mil hb)
theorem refWithin_S (a b : Nm.Bytes) (ha : a.length ≤ 1000000) (hb : b.length ≤ 1000000) : Spec Try.prog G 33 #[.string (bs a), .string (bs b)] L fun u M => u = .bool (Nm.within a b) ∧ M = L := Spec.ofBelow fun w => refWithin_any (bs a) (bs b) w (bs_mil ha) (bs_mil hb)
theorem refFold_S (l : Nm.Bytes) (h : l.length ≤ 1000000) : Spec Try.prog G 49 #[.string (bs l)] L fun u M => u = .string (bs (Nm.fold l)) ∧ M = L := Spec.ofBelow fun w => refFold_any (bs l) w (bs_mil h)
theorem refLow_S (l : Nm.Bytes) (h : l.length ≤ 1000000) : Spec Try.prog G 57 #[.string (bs l)] L fun u M => u = .string (bs (Nm.low l)) ∧ M = L := Spec.ofBelow fun w => refLow_any (bs l) w (bs_mil h)
theorem refParent_S (l : Nm.Bytes) (h : l.length ≤ 1000000) : Spec Try.prog G 48 #[.string (bs l)] L fun u M => u = .tuple #[.string (bs (Nm.parentN l)), .bool (Nm.parentB l)] ∧ M = L := Spec.ofBelow fun w => refParent_any (bs l) w (bs_mil h)
end Go.Proofs.Ytoonclcppokdeaa
