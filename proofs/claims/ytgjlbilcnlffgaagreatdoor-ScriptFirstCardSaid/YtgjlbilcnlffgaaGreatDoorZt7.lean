/-
 Part 7: Cq Kl Cr Dg Di.
-/
import Derived.Test.YtgjlbilcnlffgaaGreatDoorZt6
import Derived.Test.YtgjlbilcnlffgaaGreatDoorZt1
import Derived.Test.YtgjlbilcnlffgaaGreatDoorZv
set_option maxRecDepth 100000
set_option maxHeartbeats 16000000
set_option linter.unusedVariables false
set_option linter.unusedSimpArgs false
namespace Go.Proofs.YtgjlbilcnlffgaaGreatDoor
section
open Go.RowKit
open Cn (Zo Cf)
structure PInv (s : Nm.Bytes) (k : Nat) (rest : Nm.Bytes) (vs : List Int) (zs : List Zo) : Prop where
 go : Cn.goP theT 0 (Cn.linesP s).1 [] [] = Cn.goP theT k (Cn.linesP rest).1 vs zs
 len : (Cn.linesP s).1.length = k + (Cn.linesP rest).1.length
 fin : (Cn.linesP s).2 = (Cn.linesP rest).2
 size : k + rest.length ≤ s.length
 vl : vs.length = min k 12
 zl : zs.length ≤ k
 vr : ∀ v ∈ vs, 0 ≤ v ∧ v ≤ 2147483647
 zr : ∀ z ∈ zs, z.name.length ≤ 255 ∧ z.pol ≤ 4 ∧ z.tru ≤ 65535
theorem PInv.zero (s : Nm.Bytes) : PInv s 0 s [] [] := ⟨rfl, by omega, rfl, by omega, rfl, by simp, by simp, by simp⟩
theorem JJ {l : Nm.Bytes} {z : Zo} (h : Cn.readZone theT l = some z) : z.name.length ≤ 255 ∧ z.pol ≤ 4 ∧ z.tru ≤ 65535 := by
 obtain ⟨_, h1, h2⟩ := Cn.readZone_some afy h
 refine ⟨aaT h1, ?_, by omega⟩
 unfold Cn.readZone at h
 split at h
 · split at h
   · split at h
     · rename_i n p t _ hp _
       split at h
       · cases h
         exact (Cn.polP_some hp).2.2
       · cases h
     · cases h
   · cases h
 · cases h
section
variable {s rest : Nm.Bytes} {k : Nat} {vs : List Int} {zs : List Zo}
theorem PInv.end' (h : PInv s k [] vs zs) (hs : s.length ≤ 131072) (hk : 12 ≤ k) : Cn.parseP theT s = if Cn.mayP (Cn.ofN vs zs) then (Cn.ofN vs zs, 0, 0) else (Cn.zeroC, 0, 1) := by
 have h0 : Cn.linesP [] = ([], []) := rfl
 have hg := h.go
 have hl := h.len
 have hf := h.fin
 rw [h0] at hg hl hf
 rw [Cn.goP] at hg
 have := Cn.parse_inr (T := theT) (s := s) (ls := (Cn.linesP s).1) (r := (Cn.linesP s).2) rfl hs hg
 rw [this, if_neg (by rw [hf, hl]; simp; omega)]
theorem PInv.open' (h : PInv s k rest vs zs) (hs : s.length ≤ 131072) (hr : (10 : UInt8) ∉ rest) (hk : k < 12 ∨ rest ≠ []) : Cn.parseP theT s = (Cn.zeroC, (k : Int) + 1, 3) := by
 have h0 := Cn.linesP_end rest hr
 have hg := h.go
 have hl := h.len
 have hf := h.fin
 rw [h0] at hg hl hf
 rw [Cn.goP] at hg
 have := Cn.parse_inr (T := theT) (s := s) (ls := (Cn.linesP s).1) (r := (Cn.linesP s).2) rfl hs hg
 rw [List.length_nil, Nat.add_zero] at hl
 rw [this, if_pos (by rw [hf, hl]; dsimp only; exact hk.symm), hl]
theorem PInv.bad {l r : Nm.Bytes} (h : PInv s k (l ++ 10 :: r) vs zs) (hs : s.length ≤ 131072) (hl10 : (10 : UInt8) ∉ l) (hb : (k < 12 ∧ Cn.readNum k l = none) ∨ (12 ≤ k ∧ Cn.readZone theT l = none)) : Cn.parseP theT s = (Cn.zeroC, (k : Int) + 1, 3) := by
 have h0 := Cn.linesP_line l r hl10
 have hg := h.go
 rw [h0, Cn.goP] at hg
 refine Cn.parse_inl (T := theT) (s := s) (ls := (Cn.linesP s).1) (r := (Cn.linesP s).2) rfl hs (hg.trans ?_)
 rcases hb with ⟨h1, h2⟩ | ⟨h1, h2⟩
 · rw [if_pos h1, h2]
 · rw [if_neg jp, h2]
theorem PInv.num {l r : Nm.Bytes} {v : Int} (h : PInv s k (l ++ 10 :: r) vs zs) (hl10 : (10 : UInt8) ∉ l) (hk : k < 12) (hv : Cn.readNum k l = some v) : PInv s (k + 1) r (vs ++ [v]) zs := by
 have h0 := Cn.linesP_line l r hl10
 obtain ⟨hg, hl, hf, hz, h5, h6, h7, h8⟩ := h
 rw [h0] at hg hl hf
 rw [Cn.goP, if_pos hk, hv] at hg
 refine ⟨hg, by rw [hl, List.length_cons]; omega, hf, ?_, by rw [List.length_append, h5]; simp; omega, by omega, ?_, h8⟩
 · simp only [List.length_append, List.length_cons] at hz; omega
 · intro x hx
   rcases List.mem_append.1 hx with hx | hx
   · exact h7 x hx
   · obtain ⟨_, _, _, q1, q2⟩ := Cn.readNum_some hv
     simp only [List.mem_cons, List.not_mem_nil, or_false] at hx
     subst hx
     exact ⟨q1, q2⟩
theorem PInv.zone {l r : Nm.Bytes} {z : Zo} (h : PInv s k (l ++ 10 :: r) vs zs) (hl10 : (10 : UInt8) ∉ l) (hk : 12 ≤ k) (hv : Cn.readZone theT l = some z) : PInv s (k + 1) r vs (zs ++ [z]) := by
 have h0 := Cn.linesP_line l r hl10
 obtain ⟨hg, hl, hf, hz, h5, h6, h7, h8⟩ := h
 rw [h0] at hg hl hf
 rw [Cn.goP, if_neg jp, hv] at hg
 refine ⟨hg, by rw [hl, List.length_cons]; omega, hf, ?_, by rw [h5]; omega, by simp; omega, h7, ?_⟩
 · simp only [List.length_append, List.length_cons] at hz; omega
 · intro x hx
   rcases List.mem_append.1 hx with hx | hx
   · exact h8 x hx
   · simp only [List.mem_cons, List.not_mem_nil, or_false] at hx
     subst hx
     exact JJ hv
end
theorem YL {s : Nm.Bytes} (h : 131072 < s.length) : Cn.parseP theT s = (Cn.zeroC, 0, 5) := by unfold Cn.parseP; rw [if_pos h]
theorem Q6 (l : Nm.Bytes) : (∃ w n, uT l = .iface 108 (.agg #[.string (bs w), .int .i64 (n : Nat)]) ∧ n ≤ 2147483647 ∧ (∀ k, Cn.readNum k l = if some w = Cn.words12[k]? then some (n : Int) else none) ∧ Cn.readZone theT l = none) ∨
 (∃ z, uT l = .iface 112 (zoV z) ∧ (∀ k, Cn.readNum k l = none) ∧ Cn.readZone theT l = some z) ∨
 (uT l = .nilIface ∧ (∀ k, Cn.readNum k l = none) ∧ Cn.readZone theT l = none) := by
 obtain ⟨ws, hws⟩ : ∃ ws, Cn.spl 32 l = ws := ⟨_, rfl⟩
 have hne := Cn.spl_ne 32 l
 rw [hws] at hne
 match ws, hne with
 | [], hne => exact absurd rfl hne
 | [x1], _ => exact Or.inr (Or.inr ⟨YK hws, fun k => by unfold Cn.readNum; rw [hws], ad7 hws⟩)
 | [x1, x2], _ =>
   have hz : Cn.readZone theT l = none := by unfold Cn.readZone; rw [hws]
   cases hn : Cn.numP x2 2147483647 with
   | none => exact Or.inr (Or.inr ⟨by unfold uT; rw [hws]; dsimp only; rw [hn], fun k => by unfold Cn.readNum; rw [hws]; dsimp only; rw [hn]; split <;> rfl, hz⟩)
   | some n => exact Or.inl ⟨x1, n, by unfold uT; rw [hws]; dsimp only; rw [hn], (Cn.numP_some hn).2, fun k => by unfold Cn.readNum; rw [hws]; dsimp only; rw [hn]; rfl, hz⟩
 | x1 :: x2 :: x3 :: t, _ =>
   have hr : ∀ k, Cn.readNum k l = none := fun k => by unfold Cn.readNum; rw [hws]
   have hi := ul hws
   cases hz : Cn.readZone theT l with
   | none => rw [hz] at hi; exact Or.inr (Or.inr ⟨hi, hr, rfl⟩)
   | some z => rw [hz] at hi; exact Or.inr (Or.inl ⟨z, hi, hr, rfl⟩)
end
section
open Go.RowKit
section
variable {G : World} {P : Program} {n : Nat} {ρ : jh} {L : ja} {ty : TypeId} {Q : Exit → Act → World → Prop}
theorem ad9 {x : Operand} {b off len : Nat} {t e : TypeId} {C : Array Value} {te : TypeId} {fr : Nat × Nat} (cs : List Value) (hx : ev ρ x = some (.pointer (some ⟨b, off, none⟩)))
 (hu : P.underlying t = some (.array len e)) (ht : (P.info? t).map (·.size) = some cs.length) (hm : (b, Obj.cells C te fr) ∈ L) (hv : ∀ j v, cs[j]? = some v → C[off + j]? = some v) : OpQ P ρ L (.load t x) ty (.agg cs.toArray) :=
 ⟨fun r hr w hw o ho _ => by
   cases hi : P.info? t with
   | none => simp [hi] at ht
   | some i =>
     simp [hi] at ht
     have ha : (isAgg t).run P w = .ok true w := by
      unfold isAgg
      simp [run_underlying hu]
     have hc := run_loadCells_list (P := P) (w := w) ⟨b, off, none⟩ cs (fun j v hj => by rw [ku]; exact hw.cell hm (hv j v hj))
     simp [execOp, ho, hr _ _ hx, Instr.loadAt, Instr.sureAddr, loadVar, ha, sizeOf, typeInfo, hi, ht, hc]⟩
end
end
section
open Go.RowKit
open Cn (Zo Cf)
variable {G : World} {L : ja}
theorem afA (vs : List Int) (a : Option Addr) (m cap : Nat) (zs : List Zo) (hv : vs.length = 12) : Spec Tryz.prog G 46 #[.agg (vs.map (Value.int .i64)).toArray, .slice a m cap] L fun u M => u = .agg (jA (Cn.ofN vs zs) (.slice a m cap)).toArray ∧ M = L := by
 match vs, hv with
 | [v0, v1, v2, v3, v4, v5, v6, v7, v8, v9, v10, v11], _ =>
   refine jw (n := 31) Tryz.func46 rfl rfl rfl ?_
   refine jH (jL (qX (zI rfl) rfl ?_))
   intro b1
   repeat (first | refine goA ?_ | (refine jz ?_; intro bNew) | (refine kq ?_; intro bBox) | refine jm (jb rfl (kn _ _ _ _ _ _ _ _ _ _ _ _ _ _ _)) rfl ?_)
   refine aeD 4 25  rfl rfl  stO (by repeat (first | assumption | exact List.mem_cons_self | apply List.mem_cons_of_mem)) rfl (fun w h => h.tail.tail) ?_
   exact ⟨rfl, rfl⟩
def U5 (c : Cf) (sv : Value) (line e : Int) : Value := .tuple #[.agg (jA c sv).toArray, .int .i64 line, .int .i64 e]
def aiU (r : Cf × Int × Int) (L : ja) (u : Value) (M : ja) : Prop := ∃ a cap B, u = U5 r.1 (.slice a r.1.zs.length cap) r.2.1 r.2.2 ∧ ORow zoR 45 3 [] a cap r.1.zs B ∧ M = B ++ L
def qW (vs : List Int) : Array Value := ((vs ++ List.replicate (12 - vs.length) 0).map (Value.int .i64)).toArray
theorem acb {vs : List Int} (h : vs.length ≤ 12) : (qW vs).size = 12 := by
 unfold qW
 simp
 omega
theorem acd {vs : List Int} (v : Int) (h : vs.length < 12) : (qW vs).setIfInBounds vs.length (.int .i64 v) = qW (vs ++ [v]) := by
 obtain ⟨j, hj⟩ : ∃ j, 12 - vs.length = j + 1 := ⟨12 - vs.length - 1, by omega⟩
 unfold qW
 rw [List.length_append, List.length_singleton, show 12 - (vs.length + 1) = j by omega, hj, List.replicate_succ]
 rw [List.setIfInBounds_toArray]
 congr 1
 rw [List.map_append, List.set_append_right _ _ (by simp)]
 simp
theorem aea (s : Nm.Bytes) (hs : s.length ≤ 1000000) (hs2 : (10 : UInt8) ∉ s ∨ s.length ≤ 100000) (hg : Glob L) : Spec Tryz.prog G 20 #[.string (bs s)] L fun u M => aiU (Cn.parseP theT s) L u M := by
 refine jw (n := 89) Tryz.func20 rfl rfl rfl ?_
 repeat (first | refine goA ?_ | (refine jz ?_; intro bNew) | refine jm (jb rfl (jv )) rfl ?_ | refine jg (jb rfl (jv )) rfl ?_ | (refine jK ?_; intro bLit))
 obtain ⟨b2, hb2⟩ : ∃ b, bNew = b := ⟨_, rfl⟩
 rw [hb2]
 clear hb2 bNew
 by_cases hlong : 131072 < s.length
 · rw [YL hlong]
   repeat (first | refine goA ?_ | (refine jz ?_; intro bNew) | refine jm (jb rfl (jv )) rfl ?_ | refine jg (jb rfl (jv )) rfl ?_ | (refine jK ?_; intro bLit))
   refine qz 2 25 3 4 rfl rfl rfl rfl stO (by repeat (first | assumption | exact List.mem_cons_self | apply List.mem_cons_of_mem)) rfl (fun w h => h.tail) ?_
   exact ⟨none, 0, [], rfl, ORow.nil _, rfl⟩
 repeat (first | refine goA ?_ | (refine jz ?_; intro bNew) | refine jm (jb rfl (jv )) rfl ?_ | refine jg (jb rfl (jv )) rfl ?_ | (refine jK ?_; intro bLit))
 obtain ⟨b5, hb5⟩ : ∃ b, bNew = b := ⟨_, rfl⟩
 rw [hb5]
 clear hb5 bNew
 refine kv (σ := Nat × Nm.Bytes × List Int × List Zo × Option Addr × Nat × ja) (fun x => PInv s x.1 x.2.1 x.2.2.1 x.2.2.2.1 ∧ ORow zoR 45 3 [] x.2.2.2.2.1 x.2.2.2.2.2.1 x.2.2.2.1 x.2.2.2.2.2.2)
  (fun x => [(0, .string (bs x.2.1)), (2, .pointer (some ⟨b2, 0, none⟩)), (5, .pointer (some ⟨b5, 0, none⟩)), (6, .slice x.2.2.2.2.1 x.2.2.2.1.length x.2.2.2.2.2.1), (7, .int .i64 ((x.1 : Nat) + 1))])
  (fun x => (b2, Obj.cells (jA Cn.zeroC (.slice none 0 0)).toArray 25 (0, 0)) :: (b5, Obj.cells (qW x.2.2.1) 103 (0, 0)) :: (x.2.2.2.2.2.2 ++ L)) (fun x => s.length - x.1) (0, s, [], [], none, 0, []) ⟨PInv.zero s, ORow.nil _⟩ ?_ (fun w h => by
  have h' : Heap G w ((b5, Obj.cells (qW []) 103 (0, 0)) :: (b2, Obj.cells (jA Cn.zeroC (.slice none 0 0)).toArray 25 (0, 0)) :: L) := h
  exact Heap.cnt h' yl) ?_
 exact qd
 rintro ⟨k, rest, vs, zs, a, cap, B⟩ ⟨hI, hB⟩
 dsimp only at hI hB ⊢
 have hsz := hI.size
 have hvl := hI.vl
 have hzl := hI.zl
 by_cases hgo : k < 12 ∨ rest ≠ []
 rotate_left
 · rw [not_or, Decidable.not_not] at hgo
   obtain ⟨hk, rfl⟩ := hgo
   rw [hI.end' jp jp]
   have hv12 : vs.length = 12 := by omega
   have harr : qW vs = (vs.map (Value.int .i64)).toArray := by unfold qW; rw [hv12]; simp
   rw [harr]
   repeat (first | refine goA ?_ | (refine jz ?_; intro bNew) | refine jm (jb rfl (jv )) rfl ?_ | refine jg (jb rfl (jv )) rfl ?_ | (refine jK ?_; intro bLit))
   refine jm (ad9 (len := 12) (vs.map (Value.int .i64)) rfl unO (by rw [List.length_map, hv12]; kernel_rfl) (List.mem_cons_of_mem _ (List.mem_cons_self ..)) (fun j v hj => by rw [Nat.zero_add]; simpa using hj)) rfl ?_
   repeat (first | refine goA ?_ | (refine jz ?_; intro bNew) | refine jm (jb rfl (jv )) rfl ?_ | refine jg (jb rfl (jv )) rfl ?_ | (refine jK ?_; intro bLit))
   refine jl (jc jf rfl (afA vs a zs.length cap zs hv12)) rfl ?_
   have hzs' : (Cn.ofN vs zs).zs = zs := rfl
   repeat (first | refine goA ?_ | (refine jz ?_; intro bNew) | refine jm (jb rfl (jv )) rfl ?_ | refine jg (jb rfl (jv )) rfl ?_ | (refine jK ?_; intro bLit))
   have hcl : ∀ L' : ja, (∀ p ∈ B, p ∈ L') → CfL L' (Cn.ofN vs zs) (.slice a zs.length cap) := fun L' hp => ⟨ORow.sliceR VW hB (by simp) hp, fun z hz => by have := (hI.zr z hz).1; omega⟩
   refine jl (jc jf rfl (afx _ _ (hcl _ j3))) rfl ?_
   cases hm : Cn.mayP (Cn.ofN vs zs) with
   | true =>
     rw [aca hm, if_pos rfl]
     repeat (first | refine goA ?_ | (refine jz ?_; intro bNew) | refine jm (jb rfl (jv )) rfl ?_ | refine jg (jb rfl (jv )) rfl ?_ | (refine jK ?_; intro bLit))
     refine qz 2 25 3 4 rfl rfl rfl rfl stO (by repeat (first | assumption | exact List.mem_cons_self | apply List.mem_cons_of_mem)) rfl (fun w h => Heap.cnt (L' := B ++ L) h yl) ?_
     exact ⟨a, cap, B, rfl, hB, rfl⟩
   | false =>
     rw [ad4 hm, if_neg (by decide)]
     repeat (first | refine goA ?_ | (refine jz ?_; intro bNew) | refine jm (jb rfl (jv )) rfl ?_ | refine jg (jb rfl (jv )) rfl ?_ | (refine jK ?_; intro bLit))
     refine qz 2 25 3 4 rfl rfl rfl rfl stO (by repeat (first | assumption | exact List.mem_cons_self | apply List.mem_cons_of_mem)) rfl (fun w h => Heap.cnt (L' := L) h yl) ?_
     exact ⟨none, 0, [], rfl, ORow.nil _, rfl⟩
 have hrl : rest.length ≤ 131072 := by omega
 have hgo1 : (k : Int) + 1 ≤ 12 ∨ 0 < (rest.length : Int) := by
  rcases hgo with h | h
  · exact Or.inl jp
  · exact Or.inr (by have := List.length_pos_iff.2 h; omega)
 rcases ZO 10 rest with h10 | ⟨l, r, rfl, h10⟩
 · skip
   rw [hI.open' jp h10 hgo]
   have hct := adG h10
   by_cases hk12 : (k : Int) + 1 ≤ 12
   all_goals
    repeat (first | refine goA ?_ | (refine jz ?_; intro bNew) | refine jm (jb rfl (jv )) rfl ?_ | refine jg (jb rfl (jv )) rfl ?_ | (refine jK ?_; intro bLit))
    refine jl (jc ad6 rfl (aaH rest jp (hg.mono j3))) rfl ?_
    rw [hct]
    repeat (first | refine goA ?_ | (refine jz ?_; intro bNew) | refine jm (jb rfl (jv )) rfl ?_ | refine jg (jb rfl (jv )) rfl ?_ | (refine jK ?_; intro bLit))
    refine qz 2 25 3 4 rfl rfl rfl rfl stO (by repeat (first | assumption | exact List.mem_cons_self | apply List.mem_cons_of_mem)) rfl (fun w h => Heap.cnt (L' := L) h yl) ?_
    exact ⟨none, 0, [], rfl, ORow.nil _, rfl⟩
 have hct := aaI (r := r) h10
 have hs3 : s.length ≤ 100000 := by
  rcases hs2 with q | q
  · exfalso
    have q1 := hI.len
    rw [Cn.linesP_end s q, Cn.linesP_line l r h10] at q1
    simp at q1
  · exact q
 have hlr : l.length + r.length + 1 = (l ++ 10 :: r).length := by simp only [List.length_append, List.length_cons]; omega
 obtain ⟨tw, frw, hgw⟩ := hg.words
 by_cases hk : k < 12
 · have hk12 : (k : Int) + 1 ≤ 12 := by omega
   repeat (first | refine goA ?_ | (refine jz ?_; intro bNew) | refine jm (jb rfl (jv )) rfl ?_ | refine jg (jb rfl (jv )) rfl ?_ | (refine jK ?_; intro bLit))
   refine jl (jc ad6 rfl (aaH _ jp (hg.mono j3))) rfl ?_
   rw [hct]
   dsimp only
   repeat (first | refine goA ?_ | (refine jz ?_; intro bNew) | refine jm (jb rfl (jv )) rfl ?_ | refine jg (jb rfl (jv )) rfl ?_ | (refine jK ?_; intro bLit))
   refine jl (jc jf rfl (ad8 l jp (hg.mono j3))) rfl ?_
   obtain ⟨w', hw'⟩ : ∃ w', Cn.words12[k]? = some w' := ⟨_, List.getElem?_eq_getElem hk⟩
   have hword : (Cn.words12.map jZ).toArray[0 + ((k : Int) + 1 - 1).toNat * 1]? = some (.string (bs w')) := by
    rw [show 0 + ((k : Int) + 1 - 1).toNat * 1 = k by omega, List.getElem?_toArray, List.getElem?_map, hw']; rfl
   rcases Q6 l with ⟨w, n, hit, hn, hrn, hrz⟩ | ⟨z, hit, hrn, hrz⟩ | ⟨hit, hrn, hrz⟩
   · have hrk := hrn k
     rw [hw'] at hrk
     rw [hit]
     repeat (first | refine goA ?_ | (refine jz ?_; intro bNew) | refine jm (jb rfl (jv )) rfl ?_ | refine jg (jb rfl (jv )) rfl ?_ | (refine jK ?_; intro bLit))
     refine jm (YI rfl Tryz.underlying108) rfl ?_
     repeat (first | refine goA ?_ | (refine jz ?_; intro bNew) | refine jm (jb rfl (jv )) rfl ?_ | refine jg (jb rfl (jv )) rfl ?_ | (refine jK ?_; intro bLit))
     obtain ⟨b12, hb12⟩ : ∃ b, bNew = b := ⟨_, rfl⟩
     rw [hb12]
     clear hb12 bNew
     have f0 : (#[.string (bs w), .int .i64 (n : Nat)] : Array Value)[0 + 0]? = some (.string (bs w)) := rfl
     have f1 : (#[.string (bs w), .int .i64 (n : Nat)] : Array Value)[0 + 1]? = some (.int .i64 (n : Nat)) := rfl
     have hgw' : (0, Obj.cells (Cn.words12.map jZ).toArray tw frw) ∈ (b12, Obj.cells #[.string (bs w), .int .i64 (n : Nat)] 108 (0, 0)) :: (b2, Obj.cells (jA Cn.zeroC (.slice none 0 0)).toArray 25 (0, 0)) :: (b5, Obj.cells (qW vs) 103 (0, 0)) :: (B ++ L) := List.mem_cons_of_mem _ (List.mem_cons_of_mem _ (List.mem_cons_of_mem _ (List.mem_append_right _ hgw)))
     have hKm : ∀ p ∈ [(b12, Obj.cells #[.string (bs w), .int .i64 (n : Nat)] 108 (0, 0)), (0, Obj.cells (Cn.words12.map jZ).toArray tw frw)], p ∈ (b12, Obj.cells #[.string (bs w), .int .i64 (n : Nat)] 108 (0, 0)) :: (b2, Obj.cells (jA Cn.zeroC (.slice none 0 0)).toArray 25 (0, 0)) :: (b5, Obj.cells (qW vs) 103 (0, 0)) :: (B ++ L) := by
      intro p hp
      simp only [List.mem_cons, List.not_mem_nil, or_false] at hp
      rcases hp with rfl | rfl
      · exact List.mem_cons_self ..
      · exact hgw'
     by_cases hww : w = w'
     · rw [if_pos (by rw [hww])] at hrk
       have hvk : vs.length = k := by omega
       have hst : (qW vs).setIfInBounds (0 + ((k : Int) + 1 - 1).toNat * 1) (.int .i64 (n : Nat)) = qW (vs ++ [(n : Int)]) := by
        rw [show 0 + ((k : Int) + 1 - 1).toNat * 1 = vs.length by omega]
        exact acd _ jp
       obtain ⟨u0, hu0⟩ : ∃ u, (qW vs)[0 + ((k : Int) + 1 - 1).toNat * 1]? = some u := ⟨_, Array.getElem?_eq_getElem (by rw [acb jp]; omega)⟩
       refine kQ jx ([(b12, Obj.cells #[.string (bs w), .int .i64 (n : Nat)] 108 (0, 0)), (0, Obj.cells (Cn.words12.map jZ).toArray tw frw)]) [] ?_
       refine tkQ 0 ?_
       refine tkQ 1 ?_
       refine tkQ 2 ?_
       refine tkQ 3 ?_
       refine tkQ 4 ?_
       refine tkQ 5 ?_
       refine tkQ 6 ?_
       refine tkQ 7 ?_
       refine tkQ 8 ?_
       refine tkQ 9 ?_
       refine tkQ 10 ?_
       refine tdQ ?_
       repeat (first | refine goE ?_ | (refine jz ?_; intro bNew) | refine jm (jb rfl (jv )) rfl ?_ | refine jg (jb rfl (jv )) rfl ?_ | (refine jK ?_; intro bLit))
       refine um (L' := (b5, Obj.cells (qW vs) 103 (0, 0)) :: (b2, Obj.cells (jA Cn.zeroC (.slice none 0 0)).toArray 25 (0, 0)) :: (B ++ L)) ?_ yl
       refine Wp (C' := qW (vs ++ [(n : Int)])) rfl rfl onO rfl hu0 hst ?_
       repeat (first | refine goA ?_ | (refine jz ?_; intro bNew) | refine jm (jb rfl (jv )) rfl ?_ | refine jg (jb rfl (jv )) rfl ?_ | (refine jK ?_; intro bLit))
       refine jG (k + 1, r, vs ++ [(n : Int)], zs, a, cap, B) ⟨hI.num h10 hk hrk, hB⟩ ?_ (fun w h => Heap.cnt h yl) (by dsimp only; omega)
       dsimp only
       rw [show ((k + 1 : Nat) : Int) + 1 = (k : Int) + 1 + 1 by omega]
       exact qd
     · rw [if_neg (by simpa using hww)] at hrk
       rw [hI.bad jp h10 (Or.inl ⟨hk, hrk⟩)]
       refine kQ jx ([(b12, Obj.cells #[.string (bs w), .int .i64 (n : Nat)] 108 (0, 0)), (0, Obj.cells (Cn.words12.map jZ).toArray tw frw)]) [] ?_
       refine tkQ 0 ?_
       refine tkQ 1 ?_
       refine tkQ 2 ?_
       refine tkQ 3 ?_
       refine tkQ 4 ?_
       refine tkQ 5 ?_
       refine tkQ 6 ?_
       refine tkQ 7 ?_
       refine tkQ 8 ?_
       refine tkQ 9 ?_
       refine tkQ 10 ?_
       refine tdQ ?_
       repeat (first | refine goA ?_ | (refine jz ?_; intro bNew) | refine jm (jb rfl (jv )) rfl ?_ | refine jg (jb rfl (jv )) rfl ?_ | (refine jK ?_; intro bLit))
       refine um (L' := (b2, Obj.cells (jA Cn.zeroC (.slice none 0 0)).toArray 25 (0, 0)) :: (b5, Obj.cells (qW vs) 103 (0, 0)) :: (B ++ L)) ?_ yl
       repeat (first | refine goA ?_ | (refine jz ?_; intro bNew) | refine jm (jb rfl (jv )) rfl ?_ | refine jg (jb rfl (jv )) rfl ?_ | (refine jK ?_; intro bLit))
       refine qz 2 25 3 4 rfl rfl rfl rfl stO (by repeat (first | assumption | exact List.mem_cons_self | apply List.mem_cons_of_mem)) rfl (fun w h => Heap.cnt (L' := L) h yl) ?_
       exact ⟨none, 0, [], rfl, ORow.nil _, rfl⟩
   · rw [hI.bad jp h10 (Or.inl ⟨hk, hrn k⟩), hit]
     repeat (first | refine goA ?_ | (refine jz ?_; intro bNew) | refine jm (jb rfl (jv )) rfl ?_ | refine jg (jb rfl (jv )) rfl ?_ | (refine jK ?_; intro bLit))
     refine jm (aaS rfl Tryz.underlying108 (by decide) (fun w => kl zeO w)) rfl ?_
     repeat (first | refine goA ?_ | (refine jz ?_; intro bNew) | refine jm (jb rfl (jv )) rfl ?_ | refine jg (jb rfl (jv )) rfl ?_ | (refine jK ?_; intro bLit))
     obtain ⟨b12, hb12⟩ : ∃ b, bNew = b := ⟨_, rfl⟩
     rw [hb12]
     clear hb12 bNew
     have hgw' : (0, Obj.cells (Cn.words12.map jZ).toArray tw frw) ∈ (b12, Obj.cells #[.string (bs []), .int .i64 0] 108 (0, 0)) :: (b2, Obj.cells (jA Cn.zeroC (.slice none 0 0)).toArray 25 (0, 0)) :: (b5, Obj.cells (qW vs) 103 (0, 0)) :: (B ++ L) := List.mem_cons_of_mem _ (List.mem_cons_of_mem _ (List.mem_cons_of_mem _ (List.mem_append_right _ hgw)))
     have hKm : ∀ p ∈ [(b12, Obj.cells #[.string (bs []), .int .i64 0] 108 (0, 0)), (0, Obj.cells (Cn.words12.map jZ).toArray tw frw)], p ∈ (b12, Obj.cells #[.string (bs []), .int .i64 0] 108 (0, 0)) :: (b2, Obj.cells (jA Cn.zeroC (.slice none 0 0)).toArray 25 (0, 0)) :: (b5, Obj.cells (qW vs) 103 (0, 0)) :: (B ++ L) := by
      intro p hp
      simp only [List.mem_cons, List.not_mem_nil, or_false] at hp
      rcases hp with rfl | rfl
      · exact List.mem_cons_self ..
      · exact hgw'
     refine kQ jx ([(b12, Obj.cells #[.string (bs []), .int .i64 0] 108 (0, 0)), (0, Obj.cells (Cn.words12.map jZ).toArray tw frw)]) [] ?_
     refine tkQ 0 ?_
     refine tkQ 1 ?_
     refine tkQ 2 ?_
     refine tkQ 3 ?_
     refine tkQ 4 ?_
     refine tkQ 5 ?_
     refine tkQ 6 ?_
     refine tkQ 7 ?_
     refine tkQ 8 ?_
     refine tkQ 9 ?_
     refine tkQ 10 ?_
     refine tdQ ?_
     repeat (first | refine goA ?_ | (refine jz ?_; intro bNew) | refine jm (jb rfl (jv )) rfl ?_ | refine jg (jb rfl (jv )) rfl ?_ | (refine jK ?_; intro bLit))
     refine um (L' := (b2, Obj.cells (jA Cn.zeroC (.slice none 0 0)).toArray 25 (0, 0)) :: (b5, Obj.cells (qW vs) 103 (0, 0)) :: (B ++ L)) ?_ yl
     repeat (first | refine goA ?_ | (refine jz ?_; intro bNew) | refine jm (jb rfl (jv )) rfl ?_ | refine jg (jb rfl (jv )) rfl ?_ | (refine jK ?_; intro bLit))
     refine qz 2 25 3 4 rfl rfl rfl rfl stO (by repeat (first | assumption | exact List.mem_cons_self | apply List.mem_cons_of_mem)) rfl (fun w h => Heap.cnt (L' := L) h yl) ?_
     exact ⟨none, 0, [], rfl, ORow.nil _, rfl⟩
   · rw [hI.bad jp h10 (Or.inl ⟨hk, hrn k⟩), hit]
     repeat (first | refine goA ?_ | (refine jz ?_; intro bNew) | refine jm (jb rfl (jv )) rfl ?_ | refine jg (jb rfl (jv )) rfl ?_ | (refine jK ?_; intro bLit))
     refine jm (YJ rfl Tryz.underlying108 (fun w => kl zeO w)) rfl ?_
     repeat (first | refine goA ?_ | (refine jz ?_; intro bNew) | refine jm (jb rfl (jv )) rfl ?_ | refine jg (jb rfl (jv )) rfl ?_ | (refine jK ?_; intro bLit))
     obtain ⟨b12, hb12⟩ : ∃ b, bNew = b := ⟨_, rfl⟩
     rw [hb12]
     clear hb12 bNew
     have hgw' : (0, Obj.cells (Cn.words12.map jZ).toArray tw frw) ∈ (b12, Obj.cells #[.string (bs []), .int .i64 0] 108 (0, 0)) :: (b2, Obj.cells (jA Cn.zeroC (.slice none 0 0)).toArray 25 (0, 0)) :: (b5, Obj.cells (qW vs) 103 (0, 0)) :: (B ++ L) := List.mem_cons_of_mem _ (List.mem_cons_of_mem _ (List.mem_cons_of_mem _ (List.mem_append_right _ hgw)))
     have hKm : ∀ p ∈ [(b12, Obj.cells #[.string (bs []), .int .i64 0] 108 (0, 0)), (0, Obj.cells (Cn.words12.map jZ).toArray tw frw)], p ∈ (b12, Obj.cells #[.string (bs []), .int .i64 0] 108 (0, 0)) :: (b2, Obj.cells (jA Cn.zeroC (.slice none 0 0)).toArray 25 (0, 0)) :: (b5, Obj.cells (qW vs) 103 (0, 0)) :: (B ++ L) := by
      intro p hp
      simp only [List.mem_cons, List.not_mem_nil, or_false] at hp
      rcases hp with rfl | rfl
      · exact List.mem_cons_self ..
      · exact hgw'
     refine kQ jx ([(b12, Obj.cells #[.string (bs []), .int .i64 0] 108 (0, 0)), (0, Obj.cells (Cn.words12.map jZ).toArray tw frw)]) [] ?_
     refine tkQ 0 ?_
     refine tkQ 1 ?_
     refine tkQ 2 ?_
     refine tkQ 3 ?_
     refine tkQ 4 ?_
     refine tkQ 5 ?_
     refine tkQ 6 ?_
     refine tkQ 7 ?_
     refine tkQ 8 ?_
     refine tkQ 9 ?_
     refine tkQ 10 ?_
     refine tdQ ?_
     repeat (first | refine goA ?_ | (refine jz ?_; intro bNew) | refine jm (jb rfl (jv )) rfl ?_ | refine jg (jb rfl (jv )) rfl ?_ | (refine jK ?_; intro bLit))
     refine um (L' := (b2, Obj.cells (jA Cn.zeroC (.slice none 0 0)).toArray 25 (0, 0)) :: (b5, Obj.cells (qW vs) 103 (0, 0)) :: (B ++ L)) ?_ yl
     repeat (first | refine goA ?_ | (refine jz ?_; intro bNew) | refine jm (jb rfl (jv )) rfl ?_ | refine jg (jb rfl (jv )) rfl ?_ | (refine jK ?_; intro bLit))
     refine qz 2 25 3 4 rfl rfl rfl rfl stO (by repeat (first | assumption | exact List.mem_cons_self | apply List.mem_cons_of_mem)) rfl (fun w h => Heap.cnt (L' := L) h yl) ?_
     exact ⟨none, 0, [], rfl, ORow.nil _, rfl⟩
 · have hk12 : ¬ (k : Int) + 1 ≤ 12 := by omega
   repeat (first | refine goA ?_ | (refine jz ?_; intro bNew) | refine jm (jb rfl (jv )) rfl ?_ | refine jg (jb rfl (jv )) rfl ?_ | (refine jK ?_; intro bLit))
   refine jl (jc ad6 rfl (aaH _ jp (hg.mono j3))) rfl ?_
   rw [hct]
   dsimp only
   repeat (first | refine goA ?_ | (refine jz ?_; intro bNew) | refine jm (jb rfl (jv )) rfl ?_ | refine jg (jb rfl (jv )) rfl ?_ | (refine jK ?_; intro bLit))
   refine jl (jc jf rfl (ad8 l jp (hg.mono j3))) rfl ?_
   rcases Q6 l with ⟨w, n, hit, hn, hrn, hrz⟩ | ⟨z, hit, hrn, hrz⟩ | ⟨hit, hrn, hrz⟩
   · rw [hI.bad jp h10 (Or.inr ⟨by omega, hrz⟩), hit]
     repeat (first | refine goA ?_ | (refine jz ?_; intro bNew) | refine jm (jb rfl (jv )) rfl ?_ | refine jg (jb rfl (jv )) rfl ?_ | (refine jK ?_; intro bLit))
     refine jm (aaS rfl Tryz.underlying112 (by decide) (fun w => kl zeO w)) rfl ?_
     repeat (first | refine goA ?_ | (refine jz ?_; intro bNew) | refine jm (jb rfl (jv )) rfl ?_ | refine jg (jb rfl (jv )) rfl ?_ | (refine jK ?_; intro bLit))
     obtain ⟨b14, hb14⟩ : ∃ b, bNew = b := ⟨_, rfl⟩
     rw [hb14]
     clear hb14 bNew
     refine um (L' := (b2, Obj.cells (jA Cn.zeroC (.slice none 0 0)).toArray 25 (0, 0)) :: (b5, Obj.cells (qW vs) 103 (0, 0)) :: (B ++ L)) ?_ yl
     repeat (first | refine goA ?_ | (refine jz ?_; intro bNew) | refine jm (jb rfl (jv )) rfl ?_ | refine jg (jb rfl (jv )) rfl ?_ | (refine jK ?_; intro bLit))
     refine qz 2 25 3 4 rfl rfl rfl rfl stO (by repeat (first | assumption | exact List.mem_cons_self | apply List.mem_cons_of_mem)) rfl (fun w h => Heap.cnt (L' := L) h yl) ?_
     exact ⟨none, 0, [], rfl, ORow.nil _, rfl⟩
   · rw [hit]
     repeat (first | refine goA ?_ | (refine jz ?_; intro bNew) | refine jm (jb rfl (jv )) rfl ?_ | refine jg (jb rfl (jv )) rfl ?_ | (refine jK ?_; intro bLit))
     refine jm (YI rfl Tryz.underlying112) rfl ?_
     unfold zoV
     repeat (first | refine goA ?_ | (refine jz ?_; intro bNew) | refine jm (jb rfl (jv )) rfl ?_ | refine jg (jb rfl (jv )) rfl ?_ | (refine jK ?_; intro bLit))
     obtain ⟨b14, hb14⟩ : ∃ b, bNew = b := ⟨_, rfl⟩
     rw [hb14]
     clear hb14 bNew
     obtain ⟨b16, hb16⟩ : ∃ b, bLit = b := ⟨_, rfl⟩
     rw [hb16]
     clear hb16 bLit
     have hzg := JJ hrz
     refine um (L' := (b16, Obj.cells ([.string (bs z.name), .int .u8 (z.pol : Nat), .int .u16 (z.tru : Nat)] : List Value).toArray 45 (0, 0)) :: (B ++ ((b2, Obj.cells (jA Cn.zeroC (.slice none 0 0)).toArray 25 (0, 0)) :: (b5, Obj.cells (qW vs) 103 (0, 0)) :: L))) ?_ yl
     refine jT (K7 (r := zoR) (cs := [.string (bs z.name), .int .u8 (z.pol : Nat), .int .u16 (z.tru : Nat)]) (y := z) etO rfl rfl hB rfl (by intro v hv; simp only [List.mem_cons, List.not_mem_nil, or_false] at hv; rcases hv with rfl | rfl | rfl <;> rfl) ⟨rfl, by unfold maxLen; omega, by omega, by omega⟩ (by unfold maxLen; omega) (Nat.le_trans (Nat.mul_le_mul (show zs.length + 1 ≤ 1000001 by omega) (Nat.le_refl _)) (by decide))) rfl ?_
     rintro _ _ ⟨a', c', B', rfl, hB', rfl⟩
     repeat (first | refine goA ?_ | (refine jz ?_; intro bNew) | refine jm (jb rfl (jv )) rfl ?_ | refine jg (jb rfl (jv )) rfl ?_ | (refine jK ?_; intro bLit))
     refine jG (k + 1, r, vs, zs ++ [z], a', c', B') ⟨hI.zone h10 jp hrz, hB'⟩ ?_ (fun w h => Heap.cnt h yl) (by dsimp only; omega)
     dsimp only
     rw [show ((k + 1 : Nat) : Int) + 1 = (k : Int) + 1 + 1 by omega]
     exact qd
   · rw [hI.bad jp h10 (Or.inr ⟨by omega, hrz⟩), hit]
     repeat (first | refine goA ?_ | (refine jz ?_; intro bNew) | refine jm (jb rfl (jv )) rfl ?_ | refine jg (jb rfl (jv )) rfl ?_ | (refine jK ?_; intro bLit))
     refine jm (YJ rfl Tryz.underlying112 (fun w => kl zeO w)) rfl ?_
     repeat (first | refine goA ?_ | (refine jz ?_; intro bNew) | refine jm (jb rfl (jv )) rfl ?_ | refine jg (jb rfl (jv )) rfl ?_ | (refine jK ?_; intro bLit))
     obtain ⟨b14, hb14⟩ : ∃ b, bNew = b := ⟨_, rfl⟩
     rw [hb14]
     clear hb14 bNew
     refine um (L' := (b2, Obj.cells (jA Cn.zeroC (.slice none 0 0)).toArray 25 (0, 0)) :: (b5, Obj.cells (qW vs) 103 (0, 0)) :: (B ++ L)) ?_ yl
     repeat (first | refine goA ?_ | (refine jz ?_; intro bNew) | refine jm (jb rfl (jv )) rfl ?_ | refine jg (jb rfl (jv )) rfl ?_ | (refine jK ?_; intro bLit))
     refine qz 2 25 3 4 rfl rfl rfl rfl stO (by repeat (first | assumption | exact List.mem_cons_self | apply List.mem_cons_of_mem)) rfl (fun w h => Heap.cnt (L' := L) h yl) ?_
     exact ⟨none, 0, [], rfl, ORow.nil _, rfl⟩
end
section
open Go.RowKit
open Cn (Zo Cf Scr Evn)
open Ev (YD RoundS ye kE ZR uL z8 Qc Kp yX z9 kW V4 yY yg Ja Jb V3 uF aaO)
variable {G : World} {L : ja}
structure PSt where
 n : Nat
 x : Scr
 bad : Bool
def ahS : Value → Bool
 | .agg a => match a[2]? with
   | some (Value.bool b) => b
   | _ => false
 | _ => false
theorem YM (at_ : Nat) (p : Nm.Bytes × Bool) : ahS (zf at_ p) = p.2 := rfl
def Q7 (a : PSt) (v : Value) : Option Exit × PSt := if ahS v then match Cn.takeP (a.n + 1) (Cn.spl 32 (YG v)) a.x with
  | some y => (none, ⟨a.n + 1, y, false⟩)
  | none => (some .ret, ⟨a.n + 1, a.x, true⟩)
 else (some .ret, ⟨a.n + 1, a.x, true⟩)
structure Small (n : Nat) (x : Scr) : Prop where
 num : n ≤ 200000
 first : n < 2 → x.first = []
 evs : x.evs.length ≤ n
 len : x.first.length ≤ 256
def NxP (a : PSt) (v : Value) : Prop := a.bad = false ∧ Small a.n a.x ∧ ∃ at_ p, v = zf at_ p ∧ p.1.length ≤ 200000
theorem YN : ∀ (ws : List Nm.Bytes) (l : List Nat), Cn.nums ws = some l → l.length = ws.length
 | [], l, h => by cases h; rfl
 | w :: ws, l, h => by
   rw [Cn.nums] at h
   cases hw : Cn.num64 w with
   | none => rw [hw] at h; cases h
   | some n =>
     cases hq : Cn.nums ws with
     | none => rw [hw, hq] at h; cases h
     | some q =>
       rw [hw, hq] at h
       cases h
       rw [List.length_cons, List.length_cons, YN ws q hq]
theorem Z0 {n : Nat} {x y : Scr} {ws : List Nm.Bytes} (hs : Small n x) (hn : n < 200000) (h : Cn.takeP (n + 1) ws x = some y) : Small (n + 1) y := by
 obtain ⟨h1, h2, h3, h4⟩ := hs
 unfold Cn.takeP at h
 by_cases e1 : n + 1 = 1
 · rw [if_pos e1] at h
   obtain ⟨v, _, rfl⟩ := Option.map_eq_some_iff.1 h
   exact ⟨by omega, fun _ => h2 (by omega), by dsimp only; omega, h4⟩
 · rw [if_neg e1] at h
   by_cases e2 : n + 1 = 2
   · rw [if_pos e2] at h
     obtain ⟨v, hv, rfl⟩ := Option.map_eq_some_iff.1 h
     refine ⟨by omega, fun q => by omega, by dsimp only; omega, ?_⟩
     match ws, hv with
     | [], hv => cases hv
     | a :: ws, hv =>
       by_cases q : a = Cn.tapeW ∧ ws.length ≤ 256
       · rw [U4 q.1 q.2] at hv
         have := YN ws v hv
         dsimp only
         omega
       · rw [V6 q] at hv
         cases hv
   · rw [if_neg e2] at h
     obtain ⟨v, _, rfl⟩ := Option.map_eq_some_iff.1 h
     exact ⟨by omega, fun q => by omega, by simp; omega, h4⟩
theorem afB {n : Nat} {x y : Scr} {ws : List Nm.Bytes} (h : Cn.takeP n ws x = some y) : y.cf = x.cf := by
 unfold Cn.takeP at h
 split at h
 · obtain ⟨v, _, rfl⟩ := Option.map_eq_some_iff.1 h; rfl
 · split at h
   · obtain ⟨v, _, rfl⟩ := Option.map_eq_some_iff.1 h; rfl
   · obtain ⟨v, _, rfl⟩ := Option.map_eq_some_iff.1 h; rfl
theorem aeb : ∀ (rs : Cn.Rows) (n : Nat) (x : Scr) {m : Nat} {y : Scr}, Cn.goS n rs x = .inr (m, y) → y.cf = x.cf
 | [], n, x, m, y, h => by cases h; rfl
 | p :: rs, n, x, m, y, h => by
   rw [Cn.goS] at h
   split at h
   · split at h
     · rename_i z hz
       rw [aeb rs (n + 1) z h, afB hz]
     · cases h
   · cases h
theorem Q8 : ∀ (rs : Cn.Rows) (at_ n : Nat) (x : Scr), ∃ z, kE Q7 ⟨n, x, false⟩ (qE at_ rs) = match Cn.goS n rs x with
  | .inl j => (some .ret, ⟨j, z, true⟩)
  | .inr (m, y) => (none, ⟨m, y, false⟩)
 | [], at_, n, x => ⟨x, rfl⟩
 | p :: rs, at_, n, x => by
   rw [qE, kE, Cn.goS, Q7, YM, yZ]
   cases p.2 with
   | false => exact ⟨x, rfl⟩
   | true =>
     rw [if_pos rfl, if_pos rfl]
     cases ht : Cn.takeP (n + 1) (Cn.spl 32 p.1) x with
     | none => exact ⟨x, rfl⟩
     | some y => exact Q8 rs _ (n + 1) y
theorem KQ : ∀ (rs : Cn.Rows) (at_ n : Nat) (x : Scr), Small n x → n + rs.length ≤ 200000 → (∀ p ∈ rs, p.1.length ≤ 200000) → ye Q7 NxP ⟨n, x, false⟩ (qE at_ rs)
 | [], at_, n, x, _, _, _ => trivial
 | p :: rs, at_, n, x, hs, hn, hp => by
   rw [List.length_cons] at hn
   refine ⟨⟨rfl, hs, at_, p, rfl, hp p (List.mem_cons_self ..)⟩, fun b hb => ?_⟩
   rw [Q7, YM, yZ] at hb
   dsimp only at hb
   split at hb
   · split at hb
     · rename_i y hy
       cases hb
       exact KQ rs _ (n + 1) y (Z0 hs (by omega) hy) (by omega) fun q hq => hp q (List.mem_cons_of_mem _ hq)
     · cases hb
   · cases hb
def SRes (r : Scr × Int × Int) (L : ja) (u : Value) (M : ja) : Prop := ∃ a cap Bz C B, u = .tuple #[.agg C.toArray, .int .i64 r.2.1, .int .i64 r.2.2] ∧ ORow zoR 45 3 [] a cap r.1.cf.zs Bz ∧ ScIn r.1 (.slice a r.1.cf.zs.length cap) C B ∧ M = B ++ (Bz ++ L)
def zeroCs : List Value := scC Cn.zeroS (.slice none 0 0) (.slice none 0 0) (.slice none 0 0)
theorem zx : Built Tryz.prog 36 [] (.agg zeroCs.toArray) := ⟨fun w => by kernel_rfl⟩
theorem afC : ScIn Cn.zeroS (.slice none 0 0) zeroCs [] := ⟨none, 0, [], none, 0, [], rfl, ORow.nil _, ORow.nil _, rfl⟩
theorem SRes.nothing (line e : Int) : SRes (Cn.zeroS, line, e) L (.tuple #[.agg zeroCs.toArray, .int .i64 line, .int .i64 e]) L := ⟨none, 0, [], zeroCs, [], rfl, ORow.nil _, afC, rfl⟩
structure PB where
 b2 : Nat
 b3 : Nat
 b4 : Nat
 b6 : Nat
 b10 : Nat
def ahT (q : PB) (before : Nat) (cv : Value) (K : ja) (a : PSt) (M : ja) : Prop := ∃ C B, M = (q.b2, Obj.cells C.toArray 36 (0, 0)) :: (q.b3, Obj.cells #[.int .i64 (if a.bad then ((before + a.n : Nat) : Int) else 0)] 3 (0, 0)) :: (q.b4, Obj.cells #[.int .i64 (if a.bad then 3 else 0)] 31 (0, 0)) :: (q.b6, Obj.cells #[.int .i64 (before : Nat)] 3 (0, 0)) :: (q.b10, Obj.cells #[.int .i64 (a.n : Nat)] 3 (0, 0)) :: (B ++ K) ∧
 if a.bad then C = zeroCs else ScIn a.x cv C B
section
variable {P : Program} {ρ : jh}
theorem Q9 {ty : TypeId} {x hi : Operand} {s : List UInt8} {k : IntKind} {j : Int} {t : TypeId} (hx : ev ρ x = some (.string (bs s))) (hhi : ev ρ hi = some (.int k j)) (ht : P.underlying t = some .string)
 (h0 : 0 ≤ j) (h2 : j ≤ s.length) : OpQ P ρ L (.slice t x none (some hi) none) ty (.string (bs (s.take j.toNat))) :=
 ⟨fun r hr w hw o ho _ => by
   have e : (bs s).extract 0 j.toNat = bs (s.take j.toNat) := by
    apply ByteArray.ext
    rw [ByteArray.data_extract]
    simp [bs, List.extract_eq_take_drop]
   have e1 : ((j.toNat : Nat) : Int) = j := by omega
   simp [execOp, ho, hr _ _ hx, hr _ _ hhi, Instr.sliceAt, run_underlying ht, Instr.slice, Instr.sliceBounds, Instr.sliceBound, asIntOf, h0, h2, e, e1]⟩
end
theorem zd {P : Program} {ρ : jh} {ty : TypeId} {x y : Operand} {b k : Nat} {t : TypeId} {C D : Array Value} {te : TypeId} (hx : ev ρ x = some (.pointer (some ⟨b, 0, none⟩))) (hy : ev ρ y = some (.agg D))
 (ht : j8 P t k = true) (hC : C.size = k) (hD : D.size = k) (hone : Y3 D = true) : OpV P G ρ ((b, Obj.cells C te (0, 0)) :: L) (.store t x y) ty undef ((b, Obj.cells D te (0, 0)) :: L) := by
 have h1 := Y2 (G := G) (P := P) (ρ := ρ) (L := L) (ty := ty) (b := b) (C := C) (te := te) (t := t) (cs := D.toList) hx (by simpa using hy) (by rw [Array.length_toList, hD]; exact ht) (fun v hv => List.all_eq_true.1 hone v hv) (by rw [Array.length_toList, hD, hC]; omega)
 have h2 : jJ C 0 D.toList = D := by
  unfold jJ
  rw [List.drop_eq_nil_of_le (by simp; omega)]
  simp
 rw [h2] at h1
 exact h1
theorem Z1 (s : Nm.Bytes) (k : Nat) : s = Cn.unR ((Cn.rowsP s).take k) ++ Cn.unR ((Cn.rowsP s).drop k) := by
 rw [← Cn.unR_append, List.take_append_drop, Cn.unR_P]
theorem YO (s : Nm.Bytes) (hs : s.length ≤ 100000) (hg : GlobS L) : Spec Tryz.prog G 7 #[.string (bs s)] L fun u M => SRes (Cn.parseS theT s) L u M := by
 refine Jb (n := 69) Tryz.func7 rfl rfl rfl ?_
 refine jH (jL ?_)
 refine jz ?_; intro b2
 refine jz ?_; intro b3
 refine jz ?_; intro b4
 refine goW ?_
 refine jH (jH ?_)
 by_cases hlong : 131072 < s.length
 · exfalso; omega
 refine goW ?_
 refine jH ?_
 refine goW ?_
 refine yj (agr s (by omega) (hg.base.mono j3)) ?_
 refine goW ?_
 refine jz ?_; intro b6
 refine goW ?_
 have hsp := Z1 s (Cn.kS (Cn.rowsP s))
 have hdrop := Cn.rowsP_drop s (Cn.kS (Cn.rowsP s))
 have hrl := zw s
 have htx : ∀ p ∈ Cn.rowsP s, p.1.length ≤ 200000 := fun p hp => by have := U3 hp; omega
 have hkl := Cn.kS_le (Cn.rowsP s)
 have hres : Cn.parseS theT s = Cn.restS (Cn.parseP theT (Cn.unR ((Cn.rowsP s).take (Cn.kS (Cn.rowsP s))))) (Cn.kS (Cn.rowsP s)) ((Cn.rowsP s).drop (Cn.kS (Cn.rowsP s))) := by unfold Cn.parseS; rw [if_neg hlong]; rfl
 have hdl : ((Cn.rowsP s).drop (Cn.kS (Cn.rowsP s))).length ≤ s.length := by rw [List.length_drop]; omega
 have hdt : ∀ p ∈ (Cn.rowsP s).drop (Cn.kS (Cn.rowsP s)), p.1.length ≤ 200000 := fun p hp => htx p (List.mem_of_mem_drop hp)
 rw [hres]
 obtain ⟨rows, hrows⟩ : ∃ rows, (Cn.rowsP s).drop (Cn.kS (Cn.rowsP s)) = rows := ⟨_, rfl⟩
 rw [hrows] at hdl hdt hdrop hsp ⊢
 obtain ⟨front, hfr⟩ : ∃ f, Cn.unR ((Cn.rowsP s).take (Cn.kS (Cn.rowsP s))) = f := ⟨_, rfl⟩
 rw [hfr] at hsp ⊢
 obtain ⟨k, hk⟩ : ∃ k, Cn.kS (Cn.rowsP s) = k := ⟨_, rfl⟩
 rw [hk] at hkl ⊢
 obtain ⟨rest, hrest⟩ : ∃ r, Cn.unR rows = r := ⟨_, rfl⟩
 rw [hrest] at hsp hdrop
 have hlen : s.length = front.length + rest.length := by rw [hsp, List.length_append]
 have htake : s.take front.length = front := by rw [hsp]; simp
 have hdr : s.drop front.length = rest := by rw [hsp]; simp
 clear hres hrows hfr hk hrest
 refine jH ?_
 refine goW ?_
 refine jm (Q9 rfl rfl Tryz.underlying9 (j := (front.length : Nat)) (by omega) (by omega)) rfl ?_
 rw [Int.toNat_natCast, htake]
 obtain ⟨L1, hL1⟩ : ∃ L1 : ja, L1 = (b6, Obj.cells #[.int .i64 (k : Nat)] 3 (0, 0)) :: (b4, Obj.cells #[.int .i64 0] 31 (0, 0)) :: (b3, Obj.cells #[.int .i64 0] 3 (0, 0)) :: (b2, Obj.cells zeroCs.toArray 36 (0, 0)) :: L := ⟨_, rfl⟩
 have hg1 : GlobS L1 := hg.mono (by subst hL1; exact j3)
 refine z6 (aea (L := L1) front (by omega) (Or.inr (by omega)) hg1.base) ?_ (hf := by subst hL1; exact ⟨fun p => Nat.le_refl _⟩)
 rintro _ _ ⟨az, cz, Bz, rfl, hBz, rfl⟩
 obtain ⟨⟨cf, wrong, inv⟩, hpp⟩ : ∃ r, Cn.parseP theT front = r := ⟨_, rfl⟩
 have hln0 : (Cn.parseP theT front).2.2 ≠ 3 → (Cn.parseP theT front).2.1 = 0 := Cn.parseP_line
 rw [hpp] at hBz hln0
 simp only [hpp]
 dsimp only at hBz hln0 ⊢
 unfold U5
 refine goW ?_
 refine jz ?_; intro b7
 refine goW ?_
 by_cases hi3 : inv = 3
 · subst hi3
   rw [show Cn.restS (cf, wrong, 3) k rows = (Cn.zeroS, wrong, 3) from if_pos rfl]
   subst hL1
   refine goU ?_
   refine V3 ?_
   refine Q2 2 36 3 3 4 31 rfl rfl rfl rfl stO (by kernel_rfl) (by kernel_rfl) (by exact uZ) (by exact uZ) (by exact uZ) rfl rfl rfl (SRes.nothing (L := L) wrong 3) (by intro p; (try simp only [jt, jy, jE]) <;> omega)
 refine jH (jH ?_)
 refine goW ?_
 refine jH ?_
 subst hL1
 refine goW ?_
 obtain ⟨cv, hcv⟩ : ∃ cv : Value, cv = .slice az cf.zs.length cz := ⟨_, rfl⟩
 have hone : (jA cf (.slice az cf.zs.length cz)).all (·.oneCell') = true := rfl
 refine um (L' := (b2, Obj.cells zeroCs.toArray 36 (0, 0)) :: (b3, Obj.cells #[.int .i64 0] 3 (0, 0)) :: (b4, Obj.cells #[.int .i64 0] 31 (0, 0)) :: (b6, Obj.cells #[.int .i64 (k : Nat)] 3 (0, 0)) :: (Bz ++ L)) ?_ (by intro p; (try simp only [jt, jy, jE]) <;> omega)
 refine Qi (Y2 (cs := jA cf (.slice az cf.zs.length cz)) rfl rfl stL (fun v hv => List.all_eq_true.1 hone v hv) (Nat.le_of_ble_eq_true rfl)) ?_
 refine zB (L' := (b2, Obj.cells (scC { Cn.zeroS with cf := cf } (.slice az cf.zs.length cz) (.slice none 0 0) (.slice none 0 0)).toArray 36 (0, 0)) :: (b3, Obj.cells #[.int .i64 0] 3 (0, 0)) :: (b4, Obj.cells #[.int .i64 0] 31 (0, 0)) :: (b6, Obj.cells #[.int .i64 (k : Nat)] 3 (0, 0)) :: (Bz ++ L)) (fun w h => h) ?_
 refine goW ?_
 refine jH ?_
 refine goW ?_
 refine jz ?_; intro b10
 refine goW ?_
 refine jH (jH ?_)
 refine goW ?_
 rw [show s.drop ((front.length : Nat) : Int).toNat = rest by rw [Int.toNat_natCast]; exact hdr]
 refine z6 (YF rest) ?_
 rintro _ _ ⟨bs0, rfl, rfl⟩
 refine goW ?_
 have hg2 : GlobS ((bs0, Obj.cells #[.string (bs rest)] 9 (0, 0)) :: (Bz ++ L)) := hg.mono fun p hp => List.mem_cons_of_mem _ (List.mem_append_right _ hp)
 refine Qj (L' := (b2, Obj.cells (scC { Cn.zeroS with cf := cf } (.slice az cf.zs.length cz) (.slice none 0 0) (.slice none 0 0)).toArray 36 (0, 0)) :: (b3, Obj.cells #[.int .i64 0] 3 (0, 0)) :: (b4, Obj.cells #[.int .i64 0] 31 (0, 0)) :: (b6, Obj.cells #[.int .i64 (k : Nat)] 3 (0, 0)) :: (b10, Obj.cells #[.int .i64 0] 3 (0, 0)) :: ([] ++ ((bs0, Obj.cells #[.string (bs rest)] 9 (0, 0)) :: (Bz ++ L)))) (fun w h => by
  have h' : Heap G w ((bs0, Obj.cells #[.string (bs rest)] 9 (0, 0)) :: (b10, Obj.cells #[.int .i64 0] 3 (0, 0)) :: (b2, Obj.cells (scC { Cn.zeroS with cf := cf } (.slice az cf.zs.length cz) (.slice none 0 0) (.slice none 0 0)).toArray 36 (0, 0)) :: (b3, Obj.cells #[.int .i64 0] 3 (0, 0)) :: (b4, Obj.cells #[.int .i64 0] 31 (0, 0)) :: (b6, Obj.cells #[.int .i64 (k : Nat)] 3 (0, 0)) :: (Bz ++ L)) := h
  exact Heap.cnt h' (by intro p; (try simp only [jt, jy, jE]) <;> omega)) ?_
 obtain ⟨zr, hzr⟩ := Q8 rows 0 0 { Cn.zeroS with cf := cf }
 refine Ja (α := PSt) (step := Q7) (Inv := ahT ⟨b2, b3, b4, b6, b10⟩ k (.slice az cf.zs.length cz) ((bs0, Obj.cells #[.string (bs rest)] 9 (0, 0)) :: (Bz ++ L))) (Nx := NxP) (vs := qE 0 rows) (K := (bs0, Obj.cells #[.string (bs rest)] 9 (0, 0)) :: (Bz ++ L)) (a0 := ⟨0, { Cn.zeroS with cf := cf }, false⟩) (by decide) rfl (by kernel_rfl) (hdrop ▸ aaQ rest (by omega) bs0 _ (List.mem_cons_self ..) hg2.base) ?_ ⟨_, [], rfl, ⟨none, 0, [], none, 0, [], rfl, ORow.nil _, ORow.nil _, rfl⟩⟩ (KQ _ _ _ _ ⟨by omega, fun _ => rfl, Nat.le_refl _, Nat.zero_le _⟩ (by omega) hdt) ?_ ?_ ?_
 · rintro a N ⟨C, B, rfl, _⟩ q hq
   exact List.mem_cons_of_mem _ (List.mem_cons_of_mem _ (List.mem_cons_of_mem _ (List.mem_cons_of_mem _ (List.mem_cons_of_mem _ (List.mem_append_right _ hq)))))
 · rintro l b rc ⟨n, x, bad⟩ v M ⟨rfl, hsm, at_, p, rfl, hp⟩ ⟨C, B, rfl, hC⟩
   dsimp only at hsm hC ⊢
   have hC : ScIn x (.slice az cf.zs.length cz) C B := by simpa using hC
   have hnb := hsm.num
   unfold zf
   refine Ev.regI ?_
   refine jz ?_; intro b11
   refine goU ?_
   refine jr (L' := (l, .loop rc) :: (b, Ev.shutO) :: ((b11, Obj.cells #[.int .i64 (at_ : Nat), .string (bs p.1), .bool p.2] 71 (0, 0)) :: (b10, Obj.cells #[.int .i64 (n : Nat)] 3 (0, 0)) :: (b2, Obj.cells C.toArray 36 (0, 0)) :: (b3, Obj.cells #[.int .i64 0] 3 (0, 0)) :: (b4, Obj.cells #[.int .i64 0] 31 (0, 0)) :: (b6, Obj.cells #[.int .i64 (k : Nat)] 3 (0, 0)) :: (B ++ ((bs0, Obj.cells #[.string (bs rest)] 9 (0, 0)) :: (Bz ++ L))))) (fun w h => by
    have h' : Heap G w ((b11, Obj.cells #[.int .i64 (at_ : Nat), .string (bs p.1), .bool p.2] 71 (0, 0)) :: (l, .loop rc) :: (b, Ev.shutO) :: (b2, Obj.cells C.toArray 36 (0, 0)) :: (b3, Obj.cells #[.int .i64 0] 3 (0, 0)) :: (b4, Obj.cells #[.int .i64 0] 31 (0, 0)) :: (b6, Obj.cells #[.int .i64 (k : Nat)] 3 (0, 0)) :: (b10, Obj.cells #[.int .i64 (n : Nat)] 3 (0, 0)) :: (B ++ ((bs0, Obj.cells #[.string (bs rest)] 9 (0, 0)) :: (Bz ++ L)))) := h
    exact Heap.cnt h' (by intro p; (try simp only [jt, jy, jE]) <;> omega)) ?_
   refine yY ?_
   refine z8 (uL ?_)
   refine Ev.regI ?_
   refine goU ?_
   refine kW (uL ?_)
   obtain ⟨L2, hL2⟩ : ∃ L2 : ja, L2 = (l, Obj.loop { rc with state := .busy }) :: (b, Ev.shutO) :: ((b11, Obj.cells #[.int .i64 (at_ : Nat), .string (bs p.1), .bool p.2] 71 (0, 0)) :: (b10, Obj.cells #[.int .i64 ((n + 1 : Nat) : Int)] 3 (0, 0)) :: (b3, Obj.cells #[.int .i64 0] 3 (0, 0)) :: (b4, Obj.cells #[.int .i64 0] 31 (0, 0)) :: (b6, Obj.cells #[.int .i64 (k : Nat)] 3 (0, 0)) :: ((bs0, Obj.cells #[.string (bs rest)] 9 (0, 0)) :: (Bz ++ L))) := ⟨_, rfl⟩
   refine Ev.TI_heap (L' := (b2, Obj.cells C.toArray 36 (0, 0)) :: (B ++ L2)) (fun w h => by
    subst hL2
    have h' : Heap G w ((l, Obj.loop { rc with state := .busy }) :: (b, Ev.shutO) :: ((b11, Obj.cells #[.int .i64 (at_ : Nat), .string (bs p.1), .bool p.2] 71 (0, 0)) :: (b10, Obj.cells #[.int .i64 ((n + 1 : Nat) : Int)] 3 (0, 0)) :: (b2, Obj.cells C.toArray 36 (0, 0)) :: (b3, Obj.cells #[.int .i64 0] 3 (0, 0)) :: (b4, Obj.cells #[.int .i64 0] 31 (0, 0)) :: (b6, Obj.cells #[.int .i64 (k : Nat)] 3 (0, 0)) :: (B ++ ((bs0, Obj.cells #[.string (bs rest)] 9 (0, 0)) :: (Bz ++ L))))) := h
    exact Heap.cnt h' (by intro p; (try simp only [jt, jy, jE]) <;> omega)) ?_
   have m11 : (b11, Obj.cells #[.int .i64 (at_ : Nat), .string (bs p.1), .bool p.2] 71 (0, 0)) ∈ L2 := by subst hL2; exact uZ
   have m10 : (b10, Obj.cells #[.int .i64 ((n + 1 : Nat) : Int)] 3 (0, 0)) ∈ L2 := by subst hL2; exact uZ
   have hgl : GlobS L2 := by subst hL2; exact hg.mono fun q hq => List.mem_cons_of_mem _ (List.mem_cons_of_mem _ (List.mem_cons_of_mem _ (List.mem_cons_of_mem _ (List.mem_cons_of_mem _ (List.mem_cons_of_mem _ (List.mem_cons_of_mem _ (List.mem_cons_of_mem _ (List.mem_append_right _ hq))))))))
   have hKL : ∀ q ∈ [(b11, Obj.cells #[.int .i64 (at_ : Nat), .string (bs p.1), .bool p.2] 71 (0, 0)), (b10, Obj.cells #[.int .i64 ((n + 1 : Nat) : Int)] 3 (0, 0))], q ∈ L2 := by
    intro q hq
    simp only [List.mem_cons, List.not_mem_nil, or_false] at hq
    rcases hq with rfl | rfl
    · exact m11
    · exact m10
   refine Ev.drawI [(b11, Obj.cells #[.int .i64 (at_ : Nat), .string (bs p.1), .bool p.2] 71 (0, 0)), (b10, Obj.cells #[.int .i64 ((n + 1 : Nat) : Int)] 3 (0, 0))] [] jx ?_
   have hK0 : ∀ (X : ja), ∀ q ∈ [(b11, Obj.cells #[.int .i64 (at_ : Nat), .string (bs p.1), .bool p.2] 71 (0, 0)), (b10, Obj.cells #[.int .i64 ((n + 1 : Nat) : Int)] 3 (0, 0))], q ∈ X ++ L2 := fun X q hq => List.mem_append_right _ (hKL q hq)
   refine tkQ 0 (hK := fun q hq => List.mem_cons_of_mem _ (hK0 B q hq)) ?_
   refine tkQ 1 (hK := fun q hq => List.mem_cons_of_mem _ (hK0 B q hq)) ?_
   refine tkQ 2 (hK := fun q hq => List.mem_cons_of_mem _ (hK0 B q hq)) ?_
   refine tkQ 3 (hK := fun q hq => List.mem_cons_of_mem _ (hK0 B q hq)) ?_
   have hMem : ∀ (X : ja), ∀ q ∈ [(b11, Obj.cells #[.int .i64 (at_ : Nat), .string (bs p.1), .bool p.2] 71 (0, 0)), (b10, Obj.cells #[.int .i64 ((n + 1 : Nat) : Int)] 3 (0, 0))], q ∈ (b2, Obj.cells C.toArray 36 (0, 0)) :: (X ++ L2) := fun X q hq => List.mem_cons_of_mem _ (hK0 X q hq)
   cases hp2 : p.2 with
   | false =>
     have hst : Q7 ⟨n, x, false⟩ (.agg #[.int .i64 (at_ : Nat), .string (bs p.1), .bool false]) = (some .ret, ⟨n + 1, x, true⟩) := rfl
     rw [hst]
     rw [hp2] at hMem
     refine tkQ 4 (hK := hMem B) ?_
     refine tkQ 5 (hK := hMem B) ?_
     refine tkQ 6 (hK := hMem B) ?_
     refine tkQ 7 (hK := hMem B) ?_
     refine tkQ 8 (hK := hMem B) ?_
     refine tkQ 9 (hK := hMem B) ?_
     refine tkQ 10 (hK := hMem B) ?_
     refine tdQ ?_
     refine kW (yX rfl (uL ?_))
     refine Ev.TI_heap (L' := (b2, Obj.cells C.toArray 36 (0, 0)) :: (b3, Obj.cells #[.int .i64 0] 3 (0, 0)) :: (b4, Obj.cells #[.int .i64 0] 31 (0, 0)) :: (b6, Obj.cells #[.int .i64 (k : Nat)] 3 (0, 0)) :: (b10, Obj.cells #[.int .i64 ((n + 1 : Nat) : Int)] 3 (0, 0)) :: (l, Obj.loop { rc with state := .busy }) :: (b, Ev.shutO) :: (bs0, Obj.cells #[.string (bs rest)] 9 (0, 0)) :: (Bz ++ L)) (fun w h => by
      subst hL2
      exact Heap.cnt h (by intro p; (try simp only [jt, jy, jE]) <;> omega)) ?_
     refine Ev.drawI [(b6, Obj.cells #[.int .i64 (k : Nat)] 3 (0, 0)), (b10, Obj.cells #[.int .i64 ((n + 1 : Nat) : Int)] 3 (0, 0))] [] jx ?_
     refine tkQ 0 (hK := j3) (hq := qL (jb (ps := []) rfl zx)) ?_
     refine tkQ 1 (hK := j3) ?_
     refine tkQ 2 (hK := j3) ?_
     refine tkQ 3 (hK := j3) ?_
     refine uA 4 (by decide +kernel) rfl rfl rfl (zd (D := zeroCs.toArray) rfl rfl stO (by simpa using hC.len) rfl rfl) ?_
     rintro _ _ ⟨_, rfl⟩
     refine ⟨Or.inr j3, ?_⟩
     refine V5 5 ?_
     refine V5 6 ?_
     refine tdQ ?_
     refine kW (Kp (jW ?_))
     refine jr (L' := (l, Obj.loop { rc with state := .busy }) :: (b, Ev.shutO) :: ((b2, Obj.cells zeroCs.toArray 36 (0, 0)) :: (b3, Obj.cells #[.int .i64 ((k + (n + 1) : Nat) : Int)] 3 (0, 0)) :: (b4, Obj.cells #[.int .i64 3] 31 (0, 0)) :: (b6, Obj.cells #[.int .i64 (k : Nat)] 3 (0, 0)) :: (b10, Obj.cells #[.int .i64 ((n + 1 : Nat) : Int)] 3 (0, 0)) :: ([] ++ ((bs0, Obj.cells #[.string (bs rest)] 9 (0, 0)) :: (Bz ++ L))))) (fun w h => by
      have h' : Heap G w ((b2, Obj.cells zeroCs.toArray 36 (0, 0)) :: (b3, Obj.cells #[.int .i64 ((k + (n + 1) : Nat) : Int)] 3 (0, 0)) :: (b4, Obj.cells #[.int .i64 3] 31 (0, 0)) :: (b6, Obj.cells #[.int .i64 (k : Nat)] 3 (0, 0)) :: (b10, Obj.cells #[.int .i64 ((n + 1 : Nat) : Int)] 3 (0, 0)) :: (l, Obj.loop { rc with state := .busy }) :: (b, Ev.shutO) :: (bs0, Obj.cells #[.string (bs rest)] 9 (0, 0)) :: (Bz ++ L)) := h
      exact Heap.cnt h' (by intro p; (try simp only [jt, jy, jE]) <;> omega)) ?_
     exact yg (Or.inr (Or.inl ⟨rfl, rfl⟩)) ⟨zeroCs, [], rfl, rfl⟩
   | true =>
     have hst : Q7 ⟨n, x, false⟩ (.agg #[.int .i64 (at_ : Nat), .string (bs p.1), .bool true]) = match Cn.takeP (n + 1) (Cn.spl 32 p.1) x with
       | some y => (none, ⟨n + 1, y, false⟩)
       | none => (some .ret, ⟨n + 1, x, true⟩) := by
      show (match Cn.takeP (n + 1) (Cn.spl 32 (YG (zf at_ (p.1, true)))) x with
       | some y => ((none : Option Exit), (⟨n + 1, y, false⟩ : PSt))
       | none => (some .ret, ⟨n + 1, x, true⟩)) = _
      rw [yZ at_ (p.1, true)]
     rw [hst]
     rw [hp2] at hMem hKL
     have hsl := V9 32 p.1
     have hsc := zb 32 p.1
     refine tkQ 4 (hK := hMem B) ?_
     refine tkQ 5 (hK := hMem B) ?_
     refine tkQ 6 (hK := hMem B) ?_
     refine adV 7 (aaG (L := (b2, Obj.cells C.toArray 36 (0, 0)) :: (B ++ L2)) p.1 (by omega) (hgl.base.mono fun q hq => List.mem_cons_of_mem _ (List.mem_append_right _ hq))) ?_ (hf := ⟨fun q => Nat.le_refl _⟩)
     rintro _ _ ⟨bw, rfl, rfl⟩
     refine ⟨fun q hq => List.mem_cons_of_mem _ (hMem B q hq), ?_⟩
     refine adV 8 (afv (L := (bw, Obj.cells ((Cn.spl 32 p.1).map jZ).toArray 9 (0, 0)) :: L2) b2 x (.slice az cf.zs.length cz) C B hC (n + 1) (by omega) (fun e => hsm.first (by omega)) (by have := hsm.evs; omega) bw (Cn.spl 32 p.1) (Cn.spl_ne _ _) (List.mem_cons_self ..) (by omega) (fun w hw => by have := hsl w hw; omega) (hgl.mono fun q hq => List.mem_cons_of_mem _ hq)) ?_ (hf := ⟨fun q => by simp only [ScM, jt, jy, jE]; omega⟩)
     rintro u M ⟨C', B', hl16, rfl, hout⟩
     have hMem2 : ∀ q ∈ [(b11, Obj.cells #[.int .i64 (at_ : Nat), .string (bs p.1), .bool true] 71 (0, 0)), (b10, Obj.cells #[.int .i64 ((n + 1 : Nat) : Int)] 3 (0, 0))], q ∈ (b2, Obj.cells C'.toArray 36 (0, 0)) :: (B' ++ ((bw, Obj.cells ((Cn.spl 32 p.1).map jZ).toArray 9 (0, 0)) :: L2)) := fun q hq => by
      exact List.mem_cons_of_mem _ (List.mem_append_right _ (List.mem_cons_of_mem _ (hKL q hq)))
     refine ⟨hMem2, ?_⟩
     cases htk : Cn.takeP (n + 1) (Cn.spl 32 p.1) x with
     | none =>
       rw [htk] at hout
       obtain rfl : u = .bool false := hout
       dsimp only
       refine tkQ 9 (hK := hMem2) ?_
       refine tkQ 10 (hK := hMem2) ?_
       refine tdQ ?_
       refine kW (yX rfl (uL ?_))
       refine Ev.TI_heap (L' := (b2, Obj.cells C'.toArray 36 (0, 0)) :: (b3, Obj.cells #[.int .i64 0] 3 (0, 0)) :: (b4, Obj.cells #[.int .i64 0] 31 (0, 0)) :: (b6, Obj.cells #[.int .i64 (k : Nat)] 3 (0, 0)) :: (b10, Obj.cells #[.int .i64 ((n + 1 : Nat) : Int)] 3 (0, 0)) :: (l, Obj.loop { rc with state := .busy }) :: (b, Ev.shutO) :: (bs0, Obj.cells #[.string (bs rest)] 9 (0, 0)) :: (Bz ++ L)) (fun w h => by
        subst hL2
        exact Heap.cnt h (by intro p; (try simp only [jt, jy, jE]) <;> omega)) ?_
       refine Ev.drawI [(b6, Obj.cells #[.int .i64 (k : Nat)] 3 (0, 0)), (b10, Obj.cells #[.int .i64 ((n + 1 : Nat) : Int)] 3 (0, 0))] [] jx ?_
       refine tkQ 0 (hK := j3) (hq := qL (jb (ps := []) rfl zx)) ?_
       refine tkQ 1 (hK := j3) ?_
       refine tkQ 2 (hK := j3) ?_
       refine tkQ 3 (hK := j3) ?_
       refine uA 4 (by decide +kernel) rfl rfl rfl (zd (D := zeroCs.toArray) rfl rfl stO (by simpa using hl16) rfl rfl) ?_
       rintro _ _ ⟨_, rfl⟩
       refine ⟨Or.inr j3, ?_⟩
       refine V5 5 ?_
       refine V5 6 ?_
       refine tdQ ?_
       refine kW (Kp (jW ?_))
       refine jr (L' := (l, Obj.loop { rc with state := .busy }) :: (b, Ev.shutO) :: ((b2, Obj.cells zeroCs.toArray 36 (0, 0)) :: (b3, Obj.cells #[.int .i64 ((k + (n + 1) : Nat) : Int)] 3 (0, 0)) :: (b4, Obj.cells #[.int .i64 3] 31 (0, 0)) :: (b6, Obj.cells #[.int .i64 (k : Nat)] 3 (0, 0)) :: (b10, Obj.cells #[.int .i64 ((n + 1 : Nat) : Int)] 3 (0, 0)) :: ([] ++ ((bs0, Obj.cells #[.string (bs rest)] 9 (0, 0)) :: (Bz ++ L))))) (fun w h => by
        have h' : Heap G w ((b2, Obj.cells zeroCs.toArray 36 (0, 0)) :: (b3, Obj.cells #[.int .i64 ((k + (n + 1) : Nat) : Int)] 3 (0, 0)) :: (b4, Obj.cells #[.int .i64 3] 31 (0, 0)) :: (b6, Obj.cells #[.int .i64 (k : Nat)] 3 (0, 0)) :: (b10, Obj.cells #[.int .i64 ((n + 1 : Nat) : Int)] 3 (0, 0)) :: (l, Obj.loop { rc with state := .busy }) :: (b, Ev.shutO) :: (bs0, Obj.cells #[.string (bs rest)] 9 (0, 0)) :: (Bz ++ L)) := h
        exact Heap.cnt h' (by intro p; (try simp only [jt, jy, jE]) <;> omega)) ?_
       exact yg (Or.inr (Or.inl ⟨rfl, rfl⟩)) ⟨zeroCs, [], rfl, rfl⟩
     | some y =>
       rw [htk] at hout
       obtain ⟨rfl, hsc'⟩ : u = .bool true ∧ ScIn y (.slice az cf.zs.length cz) C' B' := hout
       dsimp only
       refine tkQ 9 (hK := hMem2) ?_
       refine tkQ 10 (hK := hMem2) ?_
       refine tdQ ?_
       refine kW (z9 rfl (Qc (qw ?_)))
       refine jr (L' := (l, Obj.loop { rc with state := .busy }) :: (b, Ev.shutO) :: ((b2, Obj.cells C'.toArray 36 (0, 0)) :: (b3, Obj.cells #[.int .i64 0] 3 (0, 0)) :: (b4, Obj.cells #[.int .i64 0] 31 (0, 0)) :: (b6, Obj.cells #[.int .i64 (k : Nat)] 3 (0, 0)) :: (b10, Obj.cells #[.int .i64 ((n + 1 : Nat) : Int)] 3 (0, 0)) :: (B' ++ ((bs0, Obj.cells #[.string (bs rest)] 9 (0, 0)) :: (Bz ++ L))))) (fun w h => by
        subst hL2
        exact Heap.cnt h (by intro p; (try simp only [jt, jy, jE]) <;> omega)) ?_
       exact yg (Or.inl ⟨rfl, rfl⟩) ⟨C', B', rfl, hsc'⟩
 · intro x hx
   rw [hzr] at hx
   split at hx
   · cases hx; exact Or.inl rfl
   · cases hx
 · intro b M hM
   rw [hzr] at hM ⊢
   have hi3' : ¬ inv = 3 := hi3
   cases hgo : Cn.goS 0 rows { Cn.zeroS with cf := cf } with
   | inl j =>
     have hrs : Cn.restS (cf, wrong, inv) k rows = (Cn.zeroS, ((k + j : Nat) : Int), 3) := by
      unfold Cn.restS
      rw [if_neg hi3', hgo]
     rw [hgo] at hM
     obtain ⟨C, B, rfl, hC⟩ := hM
     obtain rfl : C = zeroCs := hC
     rw [hrs]
     refine Ev.TBQ_block_ret (Ev.TBQ_thenX (by simp) (uF ?_))
     refine Q2 2 36 3 3 4 31 rfl rfl rfl rfl stO (by kernel_rfl) (by kernel_rfl) (by exact uZ) (by exact uZ) (by exact uZ) rfl rfl rfl (SRes.nothing (L := L) _ 3) (by intro p; (try simp only [jt, jy, jE]) <;> omega)
   | inr q =>
     obtain ⟨n, y⟩ := q
     have hn := Cn.goS_inr _ _ _ hgo
     rw [hgo] at hM
     obtain ⟨C, B, rfl, hC⟩ := hM
     have hC : ScIn y (.slice az cf.zs.length cz) C B := by simpa using hC
     have hn : n = rows.length := by omega
     refine Ev.TBQ_heap (L' := (b, Ev.shutO) :: (b2, Obj.cells C.toArray 36 (0, 0)) :: (b3, Obj.cells #[.int .i64 0] 3 (0, 0)) :: (b4, Obj.cells #[.int .i64 0] 31 (0, 0)) :: (b6, Obj.cells #[.int .i64 (k : Nat)] 3 (0, 0)) :: (b10, Obj.cells #[.int .i64 (n : Nat)] 3 (0, 0)) :: (B ++ ((bs0, Obj.cells #[.string (bs rest)] 9 (0, 0)) :: (Bz ++ L)))) (fun w h => h) ?_
     refine Ev.TBQ_block (Ev.TBQ_then (Ev.TB_seq (Ev.TB_seq (Ev.TB_region ?_))))
     refine goU ?_
     refine Ev.TQ_TB (Ev.TBQ_then ?_)
     by_cases hn2 : n < 2
     · have hrs : Cn.restS (cf, wrong, inv) k rows = (Cn.zeroS, ((k + n : Nat) : Int) + 1, 3) := by
        unfold Cn.restS
        rw [if_neg hi3', hgo]
        exact if_pos hn2
       rw [hrs]
       have d2 : decide ((n : Int) < 2) = true := decide_eq_true (by omega)
       rw [d2]
       refine Ev.TB_true rfl (Ev.TB_seq ?_)
       refine Ev.TB_draw jx [(b6, Obj.cells #[.int .i64 (k : Nat)] 3 (0, 0)), (b10, Obj.cells #[.int .i64 (n : Nat)] 3 (0, 0))] [] ?_
       refine tkQ 0 (hK := j3) (hq := qL (jb (ps := []) rfl zx)) ?_
       refine tkQ 1 (hK := j3) ?_
       refine tkQ 2 (hK := j3) ?_
       refine tkQ 3 (hK := j3) ?_
       refine tkQ 4 (hK := j3) ?_
       refine Vo (L' := (b2, Obj.cells C.toArray 36 (0, 0)) :: (b, Ev.shutO) :: (b3, Obj.cells #[.int .i64 0] 3 (0, 0)) :: (b4, Obj.cells #[.int .i64 0] 31 (0, 0)) :: (b6, Obj.cells #[.int .i64 (k : Nat)] 3 (0, 0)) :: (b10, Obj.cells #[.int .i64 (n : Nat)] 3 (0, 0)) :: L) (fun w h => Heap.cnt h (by intro p; (try simp only [jt, jy, jE]) <;> omega)) (fun _ => j3) ?_
       refine uA 5 (by decide +kernel) rfl rfl rfl (zd (D := zeroCs.toArray) rfl rfl stO (by simpa using hC.len) rfl rfl) ?_
       rintro _ _ ⟨_, rfl⟩
       refine ⟨Or.inr j3, ?_⟩
       refine V5 6 ?_
       refine V5 7 ?_
       refine tdQ ?_
       refine Ev.TQ_TB (Ev.TBQ_then (Ev.TB_ret (Ev.TBQ_thenX (by simp) ?_)))
       refine Ev.TBQ_heap (L' := (b, Ev.shutO) :: ((b2, Obj.cells zeroCs.toArray 36 (0, 0)) :: (b3, Obj.cells #[.int .i64 (((k + n : Nat) : Int) + 1)] 3 (0, 0)) :: (b4, Obj.cells #[.int .i64 3] 31 (0, 0)) :: L)) (fun w h => by
        have h' : Heap G w ((b2, Obj.cells zeroCs.toArray 36 (0, 0)) :: (b, Ev.shutO) :: (b3, Obj.cells #[.int .i64 (((k + n : Nat) : Int) + 1)] 3 (0, 0)) :: (b4, Obj.cells #[.int .i64 3] 31 (0, 0)) :: (b6, Obj.cells #[.int .i64 (k : Nat)] 3 (0, 0)) :: (b10, Obj.cells #[.int .i64 (n : Nat)] 3 (0, 0)) :: L) := h
        exact Heap.cnt h' (by intro p; (try simp only [jt, jy, jE]) <;> omega)) ?_
       refine uF ?_
       refine Q2 2 36 3 3 4 31 rfl rfl rfl rfl stO (by kernel_rfl) (by kernel_rfl) (by exact uZ) (by exact uZ) (by exact uZ) rfl rfl rfl (SRes.nothing (L := L) _ 3) (by intro p; (try simp only [jt, jy, jE]) <;> omega)
     have d2 : decide ((n : Int) < 2) = false := decide_eq_false (by omega)
     rw [d2]
     refine Ev.TB_false rfl (Ev.TB_skip (Ev.TBQ_then (Ev.TB_seq (Ev.TB_seq (Ev.TB_region ?_)))))
     refine goU ?_
     refine Ev.TQ_TB (Ev.TBQ_then ?_)
     by_cases hi0 : inv = 0
     rotate_left
     · have hrs : Cn.restS (cf, wrong, inv) k rows = (Cn.zeroS, 0, inv) := by
        unfold Cn.restS
        rw [if_neg hi3', hgo]
        exact (if_neg hn2).trans (if_pos hi0)
       rw [hrs]
       have d3 : (inv != 0) = true := by simpa using hi0
       rw [d3]
       refine Ev.TB_true rfl (Ev.TB_seq (Ev.TB_region ?_))
       refine goU ?_
       refine um (L' := (b2, Obj.cells C.toArray 36 (0, 0)) :: (b3, Obj.cells #[.int .i64 0] 3 (0, 0)) :: (b4, Obj.cells #[.int .i64 0] 31 (0, 0)) :: (b, Ev.shutO) :: L) ?_ (by intro p; (try simp only [jt, jy, jE]) <;> omega)
       refine Qi (zd (D := zeroCs.toArray) rfl rfl stO (by simpa using hC.len) rfl rfl) ?_
       refine goU ?_
       refine Ev.TQ_TB (Ev.TBQ_then (Ev.TB_ret (Ev.TBQ_thenX (by simp) ?_)))
       refine Ev.TBQ_heap (L' := (b, Ev.shutO) :: ((b2, Obj.cells zeroCs.toArray 36 (0, 0)) :: (b3, Obj.cells #[.int .i64 0] 3 (0, 0)) :: (b4, Obj.cells #[.int .i64 inv] 31 (0, 0)) :: L)) (fun w h => by
        have h' : Heap G w ((b2, Obj.cells zeroCs.toArray 36 (0, 0)) :: (b3, Obj.cells #[.int .i64 0] 3 (0, 0)) :: (b4, Obj.cells #[.int .i64 inv] 31 (0, 0)) :: (b, Ev.shutO) :: L) := h
        exact Heap.cnt h' (by intro p; (try simp only [jt, jy, jE]) <;> omega)) ?_
       refine uF ?_
       refine Q2 2 36 3 3 4 31 rfl rfl rfl rfl stO (by kernel_rfl) (by kernel_rfl) (by exact uZ) (by exact uZ) (by exact uZ) rfl rfl rfl (SRes.nothing (L := L) 0 inv) (by intro p; (try simp only [jt, jy, jE]) <;> omega)
     · subst hi0
       have hrs : Cn.restS (cf, wrong, 0) k rows = (y, 0, 0) := by
        unfold Cn.restS
        rw [if_neg hi3', hgo]
        exact (if_neg hn2).trans (if_neg (fun q => q rfl))
       rw [hrs]
       have d3 : ((0 : Int) != 0) = false := rfl
       rw [d3]
       refine Ev.TB_false rfl (Ev.TB_skip (Ev.TBQ_then (Ev.TB_seq (Ev.TB_region ?_))))
       refine um (L' := (b2, Obj.cells C.toArray 36 (0, 0)) :: (b3, Obj.cells #[.int .i64 0] 3 (0, 0)) :: (b4, Obj.cells #[.int .i64 0] 31 (0, 0)) :: (b, Ev.shutO) :: (B ++ (Bz ++ L))) ?_ (by intro p; (try simp only [jt, jy, jE]) <;> omega)
       have hC2 := hC
       obtain ⟨a1, c1, B1, a2, c2, B2, rfl, r1, r2, rfl⟩ := hC.ex
       refine goU ?_
       refine Ev.TQ_TB (Ev.TBQ_then (Ev.TB_ret ?_))
       refine Ev.TBQ_heap (L' := (b, Ev.shutO) :: ((b2, Obj.cells (scC y (.slice az cf.zs.length cz) (.slice a1 y.first.length c1) (.slice a2 y.evs.length c2)).toArray 36 (0, 0)) :: (b3, Obj.cells #[.int .i64 0] 3 (0, 0)) :: (b4, Obj.cells #[.int .i64 0] 31 (0, 0)) :: ((B1 ++ B2) ++ (Bz ++ L)))) (fun w h => by
        have h' : Heap G w ((b2, Obj.cells (scC y (.slice az cf.zs.length cz) (.slice a1 y.first.length c1) (.slice a2 y.evs.length c2)).toArray 36 (0, 0)) :: (b3, Obj.cells #[.int .i64 0] 3 (0, 0)) :: (b4, Obj.cells #[.int .i64 0] 31 (0, 0)) :: (b, Ev.shutO) :: ((B1 ++ B2) ++ (Bz ++ L))) := h
        exact Heap.cnt h' (by intro p; (try simp only [jt, jy, jE]) <;> omega)) ?_
       refine uF ?_
       have hcf : y.cf = cf := aeb rows 0 _ hgo
       refine Q2 2 36 3 3 4 31 rfl rfl rfl rfl stO (by kernel_rfl) (by kernel_rfl) (by exact uZ) (by exact uZ) (by exact uZ) rfl rfl rfl (M := (B1 ++ B2) ++ (Bz ++ L)) ⟨az, cz, Bz, _, B1 ++ B2, rfl, by rw [hcf]; exact hBz, by rw [hcf]; exact hC2, rfl⟩ (by intro p; (try simp only [jt, jy, jE]) <;> omega)
end
section
open Go.RowKit
open Cn (Zo Cf Scr Evn)
variable {G : World} {L : ja}
theorem U6 (s : Nm.Bytes) : ∀ k : Int, (Cn.cutP s k).length ≤ s.length := by
 induction s with
 | nil => intro k; simp [Cn.cutP]
 | cons a t ih =>
   intro k
   unfold Cn.cutP
   split
   · simp
   · have := ih (if a = 10 then k - 1 else k)
     simp
     omega
theorem aaW (s : Nm.Bytes) (k : Int) (hs : s.length ≤ 1000000) (hk : 0 ≤ k ∧ k ≤ 10000000) : Spec Tryz.prog G 10 #[.string (bs s), .int .i64 k] L fun u M => u = .string (bs (Cn.cutP s k)) ∧ M = L := by
 refine jw (n := 24) Tryz.func10 rfl rfl rfl ?_
 refine goA ?_
 refine kv (σ := Nat × Int) (fun x => x.1 ≤ s.length ∧ (0 ≤ x.2 ∧ x.2 ≤ 10000000) ∧ Cn.cutP s k = s.take x.1 ++ Cn.cutP (s.drop x.1) x.2) (fun x => [(0, .string (bs s)), (1, .int .i64 x.2), (5, .int .i64 (x.1 : Nat))]) (fun _ => L) (fun x => s.length - x.1) (0, k) ⟨by omega, hk, by simp⟩ ?_ (fun _ h => h) ?_
 (repeat (first | exact trivial | refine ⟨rfl, ?_⟩))
 rintro ⟨i, j⟩ ⟨hi, ⟨hj1, hj2⟩, he⟩
 dsimp only at hi hj1 hj2 he ⊢
 by_cases hlt : i < s.length
 · obtain ⟨c, hc⟩ : ∃ c, s[i]? = some c := ⟨_, List.getElem?_eq_getElem hlt⟩
   have hd : s.drop i = c :: s.drop (i + 1) := by
    obtain ⟨h1, h2⟩ := List.getElem?_eq_some_iff.1 hc
    rw [List.drop_eq_getElem_cons h1, h2]
   have ht : s.take (i + 1) = s.take i ++ [c] := by rw [List.take_add_one, hc]; rfl
   by_cases hj0 : j = 0
   · subst hj0
     rw [Cn.cutP_zero, List.append_nil] at he
     rw [he]
     refine goA ?_
     refine jm (Q9 rfl rfl Tryz.underlying9 (by omega) (by omega)) rfl ?_
     refine goA ?_
     refine jq 4 _ rfl rfl ?_
     exact ⟨by rw [Int.toNat_natCast], rfl⟩
   · rw [hd, Cn.cutP, if_neg hj0] at he
     have hcb := c.toNat_lt
     by_cases hc10 : c = 10
     · subst hc10
       rw [if_pos rfl] at he
       have hc' : s[i]? = some 10 := hc
       have h10 : ((10 : UInt8).toNat : Int) = 10 := rfl
       refine goA ?_
       refine jG (i + 1, j - 1) ⟨by dsimp only; omega, by dsimp only; omega, by dsimp only; rw [he, ht]; simp⟩ ?_ (fun _ h => h) (by dsimp only; omega)
       (repeat (first | exact trivial | refine ⟨rfl, ?_⟩))
     · have hcn : ¬ c.toNat = 10 := fun k => hc10 (UInt8.toNat_inj.1 k)
       rw [if_neg hc10] at he
       refine goA ?_
       refine jG (i + 1, j) ⟨by dsimp only; omega, by dsimp only; omega, by dsimp only; rw [he, ht]; simp⟩ ?_ (fun _ h => h) (by dsimp only; omega)
       (repeat (first | exact trivial | refine ⟨rfl, ?_⟩))
 · have hie : i = s.length := by omega
   subst hie
   rw [List.take_length, List.drop_length] at he
   rw [he, show Cn.cutP [] j = [] from rfl, List.append_nil]
   refine goA ?_
   refine jq 4 _ rfl rfl ?_
   exact ⟨rfl, rfl⟩
theorem ace (s : Nm.Bytes) : (Cn.linesP s).1.length ≤ s.length := by
 unfold Cn.linesP
 have := zb 10 s
 dsimp only
 rw [List.length_dropLast]
 omega
theorem Ua (s : Nm.Bytes) : (Cn.parseP theT s).2.1 ≤ (s.length : Int) + 1 := by
 have h := ace s
 unfold Cn.parseP
 split
 · dsimp only; omega
 · split
   · rename_i k hg
     have := (Cn.goP_inl _ 0 k [] [] hg).2.1
     dsimp only
     omega
   · split
     · dsimp only; omega
     · split
       · dsimp only; omega
       · dsimp only; omega
theorem Ub (s : Nm.Bytes) : (Cn.parseS theT s).2.1 ≤ 2 * (s.length : Int) + 3 := by
 have hk := Cn.kS_le (Cn.rowsP s)
 have hr := zw s
 have hp := Ua (Cn.unR ((Cn.rowsP s).take (Cn.kS (Cn.rowsP s))))
 have hu := afr (Cn.rowsP s) (Cn.kS (Cn.rowsP s))
 rw [Cn.unR_P] at hu
 unfold Cn.parseS Cn.parseR Cn.restS
 split
 · dsimp only; omega
 · split
   · dsimp only; omega
   · split
     · rename_i j hj
       have := (Cn.goS_inl _ _ _ hj).2
       rw [List.length_drop] at this
       dsimp only
       omega
     · rename_i n x hj
       have := Cn.goS_inr _ _ _ hj
       rw [List.length_drop] at this
       split
       · dsimp only; omega
       · split
         · dsimp only; omega
         · dsimp only; omega
theorem aec (s b : Nm.Bytes) (hsm : s.length ≤ maxLen) (hbm : b.length ≤ maxLen) (hg : GlobA L) : Spec Tryz.prog G 4 #[.string (bs s), .string (bs b)] L fun u M => u = .bool true ∧ M = L := by
 unfold maxLen at hsm hbm
 refine jw (n := 71) Tryz.func4 rfl rfl rfl ?_
 by_cases hs : 12000 < s.length
 · refine goU ?_
   refine yj (Ev.awakeE_S hg.laid) ?_
   refine goU ?_
   exact kw 4 rfl rfl ⟨rfl, rfl⟩ kA
 by_cases hb : 12000 < b.length
 · refine goU ?_
   refine yj (Ev.awakeE_S hg.laid) ?_
   refine goU ?_
   exact kw 4 rfl rfl ⟨rfl, rfl⟩ kA
 refine goU ?_
 refine adS (Ev.awakeE_S hg.laid) ?_
 refine goU ?_
 refine z6 (YO (L := L) s (by omega) hg.glob) ?_
 rintro _ _ ⟨az, cz, Bz, C, B, rfl, hBz, hC, rfl⟩
 have hlaw := Cn.firstS_law (T := theT) s b (by omega) (by omega)
 have hok := Cn.parseS_ok (T := theT) (s := s)
 have hle := Ub s
 obtain ⟨⟨x, line, e⟩, hr⟩ : ∃ r, Cn.parseS theT s = r := ⟨_, rfl⟩
 rw [hr] at hlaw hok hle hBz hC
 simp only [hr]
 dsimp only at hlaw hok hle hBz hC ⊢
 obtain ⟨a1, c1, B1, a2, c2, B2, rfl, r1, r2, rfl⟩ := hC.ex
 refine goU ?_
 refine jz ?_; intro b5
 refine goU ?_
 by_cases he : e = 3
 rotate_left
 · have hl0 : line = 0 := hok he
   refine goU ?_
   exact kw 4 rfl rfl ⟨by rw [hl0]; rfl, rfl⟩ j5
 subst he
 obtain ⟨h1, h2, h3⟩ := hlaw rfl
 obtain ⟨ah, hah⟩ : ∃ x, Cn.cutP s (line - 1) = x := ⟨_, rfl⟩
 obtain ⟨bd, hbd⟩ : ∃ x, Cn.cutP s line = x := ⟨_, rfl⟩
 have la := U6 s (line - 1)
 have lb := U6 s line
 rw [hah, hbd] at h2 h3
 rw [hah] at la
 rw [hbd] at lb
 refine goU ?_
 refine yj (aaW s (line - 1) (by omega) (by omega)) ?_
 rw [hah]
 refine goU ?_
 refine yj (aaW s line (by omega) (by omega)) ?_
 rw [hbd]
 refine um (L' := L) ?_ (by intro p; (try simp only [jt, jy, jE]) <;> omega)
 by_cases hlb : bd.length = ah.length
 · have e1 : (bd.length : Int) = (ah.length : Int) := by omega
   refine goU ?_
   exact kw 4 rfl rfl ⟨rfl, rfl⟩ kA
 have e1 : ¬ (bd.length : Int) = (ah.length : Int) := by omega
 obtain ⟨z, hz⟩ : ∃ z, bd.getLast? = some z := by
  cases hq : bd.getLast? with
  | none =>
    rw [List.getLast?_eq_none_iff] at hq
    have : bd.length = 0 := by rw [hq]; rfl
    omega
  | some z => exact ⟨z, rfl⟩
 have hpos : 0 < bd.length := by
  cases bd with
  | nil => simp at hz
  | cons a t => simp
 have hzi : bd[((bd.length : Nat) - 1 : Int).toNat]? = some z := by
  rw [show ((bd.length : Nat) - 1 : Int).toNat = bd.length - 1 by omega, ← List.getLast?_eq_getElem?]
  exact hz
 have hzb := z.toNat_lt
 by_cases hz10 : z.toNat = 10
 rotate_left
 · have e2 : ¬ (z.toNat : Int) = 10 := by omega
   refine goU ?_
   exact kw 4 rfl rfl ⟨rfl, rfl⟩ kA
 have hz' : z = 10 := UInt8.toNat_inj.1 hz10
 rw [hz'] at hz
 have h3' := h3 (fun q => hlb q.symm) hz
 have e3 : (z.toNat : Int) = 10 := by omega
 refine goU ?_
 refine z6 (YO (L := L) (bd ++ b) (by rw [List.length_append]; omega) hg.glob) ?_
 rintro _ _ ⟨a3, c3, Bz3, C3, B3, rfl, hBz3, hC3, rfl⟩
 obtain ⟨⟨x3, n3, e3⟩, hr3⟩ : ∃ r, Cn.parseS theT (bd ++ b) = r := ⟨_, rfl⟩
 rw [hr3] at h3' hBz3 hC3
 obtain ⟨p1, p2⟩ := Prod.mk.inj h3'
 subst p1 p2
 simp only [hr3]
 dsimp only at hBz3 hC3 ⊢
 obtain ⟨a4, c4, B4, a5, c5, B5, rfl, r4, r5, rfl⟩ := hC3.ex
 refine goU ?_
 refine jz ?_; intro b6
 refine goU ?_
 exact kw 4 rfl rfl ⟨rfl, rfl⟩ j5
end
end Go.Proofs.YtgjlbilcnlffgaaGreatDoor
