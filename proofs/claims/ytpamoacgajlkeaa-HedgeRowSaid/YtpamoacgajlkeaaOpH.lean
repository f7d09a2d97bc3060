/-
  ARGUMENTS OPENED: plans, turns.
-/
import Derived.Test.YtpamoacgajlkeaaHk
import Derived.Test.YtpamoacgajlkeaaOpG
namespace Go.Proofs.Ytpamoacgajlkeaa
open Go.ChangeShapes Go.WideShapes Go.ChangeAt Go.RowKit
set_option linter.unusedVariables false
theorem own : ownKnob Try.prog.godebug = none := by kernel_rfl
theorem laidOut : laidOutB Try.prog = true := by kernel_rfl
section
variable {H : Type} {enc : TypeId × Value → H} {W : World} {v : Value} {d : DataW H} {p : List MemPlace} {base : Nat}
theorem sliceR_ints {L : Blocks} {cs : List Value} {l : List Int} (h : sliceR 1 (intR .i64) L cs l) : ∃ v, cs = [v] ∧ IRow L v l := by
  obtain ⟨a, cap, h1, h2, h3, h4⟩ := h
  refine ⟨_, h1, a, cap, rfl, h4.imp id ?_⟩
  rintro ⟨b, off, C, te, fr, q1, q2, q3⟩
  refine ⟨b, off, C, te, fr, q1, q2, fun i x hx => ?_⟩
  obtain ⟨cs', k1, ⟨k2, _⟩, k3⟩ := q3 i x hx
  subst k2
  exact k3 0 _ rfl
theorem opened_plan (hv : Value.okWide Try.prog W .any base 24 v) (h : DataW.Trod enc Try.prog W 0 (fun _ => true) true 24 v d p) :
    ∃ vl raw w0 e0 t0 r0 n0, v = planV vl w0 e0 t0 r0 n0 ∧ IRow (allBlocks W) vl raw ∧ raw.length ≤ 9223372036854775807 := by
  obtain ⟨cs, rfl, hsz⟩ := okWide_struct Try.underlying24 hv
  obtain ⟨fuel, hf⟩ := h
  obtain ⟨hlen, hfs⟩ := opens_fields Try.underlying24 hf
  have hc : Try.prog.cellsOf 24 = 6 := by kernel_rfl
  have c0 : Try.prog.cellsOf 22 = 1 := by kernel_rfl
  have c1 : Try.prog.cellsOf 3 = 1 := by kernel_rfl
  have c2 : Try.prog.cellsOf 2 = 1 := by kernel_rfl
  rw [hc] at hlen
  obtain ⟨_, _, g0⟩ := hfs 0 _ rfl
  obtain ⟨_, _, g1⟩ := hfs 1 _ rfl
  obtain ⟨_, _, g2⟩ := hfs 2 _ rfl
  obtain ⟨_, _, g3⟩ := hfs 3 _ rfl
  obtain ⟨_, _, g4⟩ := hfs 4 _ rfl
  obtain ⟨_, _, g5⟩ := hfs 5 _ rfl
  obtain ⟨raw, k0⟩ := (opens_slice Try.underlying22 c1 (by decide) (opens_int Try.underlying3)).at g0
  obtain ⟨w0, k1, _⟩ := (opens_int Try.underlying3).at g1
  obtain ⟨e0, k2, _⟩ := (opens_int Try.underlying3).at g2
  obtain ⟨t0, k3, _⟩ := (opens_int Try.underlying3).at g3
  obtain ⟨r0, k4, _⟩ := (opens_int Try.underlying3).at g4
  obtain ⟨n0, k5, _⟩ := (opens_int Try.underlying2).at g5
  have hmax : raw.length ≤ 9223372036854775807 := by
    obtain ⟨_, _, _, q2, q3, _⟩ := k0
    unfold maxLen at q3
    omega
  obtain ⟨vl, hvl, hrow⟩ := sliceR_ints k0
  obtain ⟨l⟩ := cs
  simp [Value.cells] at hlen
  match l, hlen with
  | [x0, x1, x2, x3, x4, x5], _ =>
    simp [Value.cells, c0, c1, c2] at hvl k1 k2 k3 k4 k5
    subst hvl k1 k2 k3 k4 k5
    exact ⟨_, raw, w0, e0, t0, r0, n0, rfl, hrow, hmax⟩
def turnR : Rp (Int × Int × Bool) := fun _ cs t => cs = [.int .u8 t.1, .int .u8 t.2.1, .bool t.2.2] ∧ (0 ≤ t.1 ∧ t.1 ≤ 255) ∧ (0 ≤ t.2.1 ∧ t.2.1 ≤ 255)
theorem opens_turn : Opens enc Try.prog W 36 3 turnR := fun fuel cs x hf => by
  obtain ⟨hlen, hfs⟩ := opens_fields Try.underlying36 hf
  have hc : Try.prog.cellsOf 36 = 3 := by kernel_rfl
  have c1 : Try.prog.cellsOf 5 = 1 := by kernel_rfl
  have c2 : Try.prog.cellsOf 4 = 1 := by kernel_rfl
  rw [hc] at hlen
  obtain ⟨_, _, g0⟩ := hfs 0 _ rfl
  obtain ⟨_, _, g1⟩ := hfs 1 _ rfl
  obtain ⟨_, _, g2⟩ := hfs 2 _ rfl
  obtain ⟨a, k0, w0⟩ := (opens_int Try.underlying5).at g0
  obtain ⟨b, k1, w1⟩ := (opens_int Try.underlying5).at g1
  obtain ⟨c, k2⟩ := (opens_bool Try.underlying4).at g2
  refine ⟨hlen, ⟨a, b, c⟩, ?_, bounds_u8 w0, bounds_u8 w1⟩
  match cs, hlen with
  | [x0, x1, x2], _ =>
    simp [boolR, c1, c2] at k0 k1 k2
    subst k0 k1 k2
    rfl
theorem opened_turns (hv : Value.okWide Try.prog W .any base 34 v) (h : DataW.Trod enc Try.prog W 0 (fun _ => true) true 34 v d p) :
    ∃ ts, TRow (allBlocks W) v ts ∧ ts.length ≤ 9223372036854775807 := by
  obtain ⟨a, len, cap, rfl⟩ := okWide_slice Try.underlying34 hv
  obtain ⟨fuel, hf⟩ := h
  obtain ⟨l, k0⟩ := (opens_slice Try.underlying34 (by kernel_rfl) (by decide) (opens_turn (enc := enc))).at hf
  obtain ⟨a', cap', h1, h2, h3, h4⟩ := k0
  simp [Value.cells] at h1
  obtain ⟨rfl, rfl, rfl⟩ := h1
  unfold maxLen at h3
  refine ⟨l, ⟨⟨a, cap, rfl, h4.imp id ?_⟩, ?_⟩, by omega⟩
  · rintro ⟨b, off, C, te, fr, q1, q2, q3⟩
    refine ⟨b, off, C, te, fr, q1, q2, fun i x hx => ?_⟩
    obtain ⟨cs', k1, ⟨k2, _⟩, k3⟩ := q3 i x hx
    subst k2
    exact ⟨k3 0 _ rfl, k3 1 _ rfl, k3 2 _ rfl⟩
  · intro t ht
    rcases h4 with rfl | ⟨b, off, C, te, fr, q1, q2, q3⟩
    · simp at ht
    · obtain ⟨i, hi, rfl⟩ := List.getElem_of_mem ht
      obtain ⟨cs', k1, ⟨k2, k4, k5⟩, k3⟩ := q3 i _ (List.getElem?_eq_getElem hi)
      exact ⟨k4, k5⟩
end
theorem hedgeApart_walk (vl : Value) (raw : List Int) (w0 e0 t0 r0 n0 : Int) (v1 : Value) (ts1 : List (Int × Int × Bool)) (v2 : Value) (ts2 : List (Int × Int × Bool)) (W : World) (hl : IRow (allBlocks W) vl raw) (hrl : raw.length ≤ 9223372036854775807) (h1 : TRow (allBlocks W) v1 ts1) (hl1 : ts1.length ≤ 9223372036854775807) (h2 : TRow (allBlocks W) v2 ts2) (hl2 : ts2.length ≤ 9223372036854775807) :
    Calls Try.prog 4 #[planV vl w0 e0 t0 r0 n0, v1, v2] W fun e w' => e = .returned (.bool true) ∧ Below W.heap.size W w' :=
  Spec.below (hedgeApart_S vl v1 v2 raw w0 e0 t0 r0 n0 ts1 ts2 hl hrl h1 h2 hl1 hl2)
end Go.Proofs.Ytpamoacgajlkeaa
