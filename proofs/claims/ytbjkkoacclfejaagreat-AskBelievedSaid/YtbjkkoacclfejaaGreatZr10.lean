/-
 Part 10: OpU.
-/
import Derived.Test.YtbjkkoacclfejaaGreatZr9
import Derived.Test.YtbjkkoacclfejaaGreatZr1
import Derived.Test.YtbjkkoacclfejaaGreatZr2
set_option maxRecDepth 100000
set_option linter.unusedVariables false
set_option linter.unusedSimpArgs false
namespace Go.Proofs.YtbjkkoacclfejaaGreat
open Go.ChangeShapes Go.WideShapes Go.ChangeAt Go.RowKit
open Vd (RSet Vdt Vote Rec Quest Piece Ballot)
open Cn (Zo Cf)
section
variable {H : Type} {enc : TypeId × Value → H} {W : World} {v : Value} {d : DataW H} {p : List MemPlace} {base : Nat}
theorem YU : Opens enc Tryz.prog W 53 7 UY := fun fuel cs x hf => by
 obtain ⟨hlen, hfs⟩ := kZ Tryz.underlying53 hf
 have hc : Tryz.prog.cellsOf 53 = 7 := by kernel_rfl
 rw [hc] at hlen
 have c0 : Tryz.prog.cellsOf 5 = 1 := by kernel_rfl
 have c1 : Tryz.prog.cellsOf 3 = 1 := by kernel_rfl
 have c2 : Tryz.prog.cellsOf 4 = 1 := by kernel_rfl
 have c3 : Tryz.prog.cellsOf 40 = 3 := by kernel_rfl
 have c4 : Tryz.prog.cellsOf 41 = 1 := by kernel_rfl
 obtain ⟨n0, y0, g0⟩ := hfs 0 _ rfl
 have g0 : DataW.trod enc Tryz.prog W 0 (fun _ => true) true n0 5 ((cs.drop 0).take (Tryz.prog.cellsOf 5)) = some y0 := g0
 rw [c0] at g0
 obtain ⟨a0, k0, w0⟩ := (jL unO).at g0
 obtain ⟨n1, y1, g1⟩ := hfs 1 _ rfl
 have g1 : DataW.trod enc Tryz.prog W 0 (fun _ => true) true n1 3 ((cs.drop 1).take (Tryz.prog.cellsOf 3)) = some y1 := g1
 rw [c1] at g1
 obtain ⟨a1, k1, w1⟩ := (jL unO).at g1
 obtain ⟨n2, y2, g2⟩ := hfs 2 _ rfl
 have g2 : DataW.trod enc Tryz.prog W 0 (fun _ => true) true n2 4 ((cs.drop 2).take (Tryz.prog.cellsOf 4)) = some y2 := g2
 rw [c2] at g2
 obtain ⟨a2, k2⟩ := (Yi unO).at g2
 obtain ⟨n3, y3, g3⟩ := hfs 3 _ rfl
 have g3 : DataW.trod enc Tryz.prog W 0 (fun _ => true) true n3 40 ((cs.drop 3).take (Tryz.prog.cellsOf 40)) = some y3 := g3
 rw [c3] at g3
 obtain ⟨a3, k3⟩ := (acD (enc := enc)).at g3
 obtain ⟨n4, y4, g4⟩ := hfs 4 _ rfl
 have g4 : DataW.trod enc Tryz.prog W 0 (fun _ => true) true n4 41 ((cs.drop 6).take (Tryz.prog.cellsOf 41)) = some y4 := g4
 rw [c4] at g4
 obtain ⟨a4, k4, w4⟩ := (jL unO).at g4
 refine ⟨hlen, ⟨a0, a1, a2, a3, a4⟩, ?_⟩
 match cs, hlen with
 | [x0, x1, x2, x3, x4, x5, x6], _ =>
   obtain rfl : x0 = _ := by simpa using k0
   obtain rfl : x1 = _ := by simpa using k1
   obtain rfl : x2 = _ := by simpa [aea] using k2
   obtain rfl : x6 = _ := by simpa using k4
   obtain ⟨va, vb, ev, hs1, hs2, hcd⟩ := k3
   simp only [List.drop_zero, List.take_succ_cons, List.take_zero, List.drop_succ_cons, List.cons.injEq, and_true] at ev
   obtain ⟨rfl, rfl, rfl⟩ := ev
   exact ⟨_, _, rfl, ⟨_, _, rfl, hs1, hs2, hcd⟩, w0, w1, w4⟩
theorem Q9 (hv : Value.okWide Tryz.prog W .any base 33 v) (h : DataW.Trod enc Tryz.prog W 0 (fun _ => true) true 33 v d p) : ∃ l, sliceR 7 UY (kL W) [v] l := by
 obtain ⟨a, len, cap, rfl⟩ := okWide_slice unO hv
 obtain ⟨fuel, hf⟩ := h
 obtain ⟨l, k0⟩ := (qz unO je (by decide) (YU (enc := enc))).at hf
 exact ⟨l, k0⟩
end
end Go.Proofs.YtbjkkoacclfejaaGreat
