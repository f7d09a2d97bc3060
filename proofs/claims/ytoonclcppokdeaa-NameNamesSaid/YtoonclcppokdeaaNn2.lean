/-
  THE WALK of hustingslaw01.NameNames.
-/
import Derived.Test.YtoonclcppokdeaaNn1
namespace Go.Proofs.Ytoonclcppokdeaa
open Go.RowKit
set_option linter.unusedVariables false
def repI (i : Int) : Nm.Bytes := List.replicate i.toNat 120
theorem many_I {G : World} {L : Blocks} (rep : Int → Nm.Bytes) (h : rep = repI) (i : Int) (h0 : 0 ≤ i) (h1 : i ≤ 1000) : Spec Try.prog G 42 #[.int .i64 i] L fun u M => u = .string (bs (rep i)) ∧ M = L := by
  subst h
  have := many_S (G := G) (L := L) i.toNat (by omega)
  rw [Int.toNat_of_nonneg h0] at this
  exact this
theorem strRow_lit {L : Blocks} {b n : Nat} {C : Array Value} {te : TypeId} {fr : Nat × Nat} (ls : List Nm.Bytes) (hn : n = ls.length) (hm : (b, Obj.cells C te fr) ∈ L) (h : C.toList = ls.map txtV) : StrRow L (.slice (some ⟨b, 0, none⟩) n n) ls := by
  subst hn
  refine ⟨_, _, rfl, Or.inr ⟨b, 0, C, te, fr, rfl, hm, fun i l hi => ?_⟩⟩
  rw [Nat.mul_one, Nat.zero_add, ← Array.getElem?_toList, h, List.getElem?_map, hi]
  rfl
def bad18 : List Nm.Bytes := [[], [46, 46], [46, 97], [97, 46, 46], [97, 46, 46, 98], [97, 32, 98], [97, 127], [195, 169], [255], [97, 92], [97, 92, 49], [97, 92, 49, 50], [97, 92, 49, 50, 120], [97, 92, 50, 53, 54], [97, 92, 32], [97, 92, 195, 169], repI 300 ++ [46, 46], [0]]
theorem bad18_law : ∀ s ∈ bad18, parseE s = 3 ∧ parseV s = [] ∧ s.length ≤ 1000 := by
  have : (bad18.all fun s => parseE s == 3 && parseV s == [] && decide (s.length ≤ 1000)) = true := by decide +kernel
  intro s hs
  have := List.all_eq_true.1 this s hs
  simpa [and_assoc] using this
def long4 (rep : Int → Nm.Bytes) (i : Int) : Nm.Bytes := rep 63 ++ [46] ++ rep 63 ++ [46] ++ rep 63 ++ [46] ++ rep i
theorem facts_1 : Nm.may ([64] ++ repI 64 ++ [0]) = false ∧ Nm.may ([63] ++ repI 63 ++ [0]) = true := by decide +kernel
theorem facts_2 : joinE [repI 63, repI 63, repI 63, repI 61] = 0 ∧ (joinV [repI 63, repI 63, repI 63, repI 61]).length = 255 ∧ Nm.may (joinV [repI 63, repI 63, repI 63, repI 61]) = true ∧ joinE [repI 63, repI 63, repI 63, repI 62] = 5 ∧ joinE [repI 64, repI 63, repI 63, repI 62] = 1 := by decide +kernel
theorem facts_3 : parseE (long4 repI 61) = 0 ∧ parseV (long4 repI 61) = joinV [repI 63, repI 63, repI 63, repI 61] ∧ textN (joinV [repI 63, repI 63, repI 63, repI 61]) = long4 repI 61 ++ [46] := by decide +kernel
theorem facts_4 : parseE (repI 64) = 5 ∧ parseE (long4 repI 62) = 5 ∧ parseE ([97, 46] ++ repI 64 ++ [46]) = 5 := by decide +kernel
end Go.Proofs.Ytoonclcppokdeaa
