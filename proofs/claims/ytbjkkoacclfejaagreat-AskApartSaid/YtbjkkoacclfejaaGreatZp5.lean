/-
 Part 5: Kd Ke Kf Kg Ki Gq Gr Gs Gu Kj Kl Km Kn Ko Kp Kq Kr Gv.
-/
import Derived.Test.YtbjkkoacclfejaaGreatZp4
import Derived.Test.YtbjkkoacclfejaaGreatZp1
import Derived.Test.YtbjkkoacclfejaaGreatZp2
import Derived.Test.YtbjkkoacclfejaaGreatShelf
import Derived.Sort.OwnSorted
import Derived.Sort.OwnSortedInts
set_option maxRecDepth 100000
set_option maxHeartbeats 4000000
set_option linter.unusedVariables false
set_option linter.unusedSimpArgs false
namespace Go.Proofs.YtbjkkoacclfejaaGreat
section
open Go.RowKit
open Vd (RSet Vdt Vote Rec Quest Piece Ballot)
variable {G : World} {L : ja}
def abI (L : ja) (x : Vote) (u : Value) (M : ja) : Prop := ∃ a c B a2 c2 B2 N, u = .agg #[.int .i64 x.up, .int .u8 x.vd.code, .slice a x.vd.sets.length c, .slice a2 x.vd.soa.length c2, .int .u32 x.time] ∧
 ORow rsR 122 5 N a c x.vd.sets B ∧ ORow rsR 122 5 N a2 c2 x.vd.soa B2 ∧ Wr N ∧ M = B2 ++ (B ++ (N ++ L))
theorem Jw (cs : List Value) (x : Vote) (hx : voteR L cs x) (hs : SmV x.vd) : Spec Tryz.prog G 75 #[.agg cs.toArray] L (abI L x) := by
 obtain ⟨x1, xc1, x2, xc2, rfl, h1, h2, h3, h4, h5⟩ := hx.vals
 refine jl (n := 11) Tryz.func75 rfl rfl rfl ?_
 refine jY (jS (jP (kx rfl) rfl ?_))
 intro bX
 refine jP (j4 (C := #[.int .i64 0, .int .u8 0, .slice none 0 0, .slice none 0 0, .int .u32 0]) zeO rfl) rfl ?_
 intro bO
 have hKm : ∀ z ∈ [(bX, Obj.cells #[.int .i64 x.up, .int .u8 x.vd.code, .slice x1 x.vd.sets.length xc1, .slice x2 x.vd.soa.length xc2, .int .u32 x.time] 65 (0, 0))], z ∈ (bX, Obj.cells #[.int .i64 x.up, .int .u8 x.vd.code, .slice x1 x.vd.sets.length xc1, .slice x2 x.vd.soa.length xc2, .int .u32 x.time] 65 (0, 0)) :: L := by
  intro z hz
  rw [List.mem_singleton.1 hz]
  exact List.mem_cons_self ..
 have gx : ∀ j v, ([.int .u8 x.vd.code, .slice x1 x.vd.sets.length xc1, .slice x2 x.vd.soa.length xc2] : List Value)[j]? = some v → (#[.int .i64 x.up, .int .u8 x.vd.code, .slice x1 x.vd.sets.length xc1, .slice x2 x.vd.soa.length xc2, .int .u32 x.time] : Array Value)[0 + 1 + j]? = some v := fun j v hj => by
  match j, hj with
  | 0, hj => exact hj
  | 1, hj => exact hj
  | 2, hj => exact hj
 repeat (first | refine goA ?_ | (refine jO ?_; intro bNew) | (refine kk ?_; intro bBox) | refine jz (jm rfl (qZ _ _ _ _ _)) rfl ?_)
 refine jw jc ([(bX, Obj.cells #[.int .i64 x.up, .int .u8 x.vd.code, .slice x1 x.vd.sets.length xc1, .slice x2 x.vd.soa.length xc2, .int .u32 x.time] 65 (0, 0))]) [] ?_
 refine tkQ 0 ?_
 refine tkQ 1 ?_
 refine tkQ 2 ?_
 (refine' jt 3 rfl rfl jd (jG (jy [.int .u8 x.vd.code, .slice x1 x.vd.sets.length xc1, .slice x2 x.vd.soa.length xc2] rfl stL (List.mem_cons_self ..) gx)) ?_ ?_; (· first | assumption | (intro p hp; grind)))
 refine tkQ 5 ?_
 refine tkQ 6 ?_
 refine jF 4 jd rfl rfl rfl rfl (jb jd rfl (u7 [.int .u8 x.vd.code, .slice x1 x.vd.sets.length xc1, .slice x2 x.vd.soa.length xc2] x.vd ⟨_, _, rfl, jp jx _ _ _ _ jr h1, jp jx _ _ _ _ jr h2, h3⟩ hs)) ?_
 rintro _ _ ⟨a, c, B, a2, c2, B2, N, rfl, hB, hB2, hN, rfl⟩
 refine ⟨Or.inr (by first | exact (fun z hz => jX ji z (hKm z hz)) | simp), ?_⟩
 first | (refine' jt 7 rfl rfl jd (jG (jm rfl (qZ _ _ _ _ _))) ?_ ?_; (· first | assumption | (intro p hp; grind)))
 refine jZ (L' := (bO, Obj.cells #[.int .i64 0, .int .u8 0, .slice none 0 0, .slice none 0 0, .int .u32 0] 65 (0, 0)) :: (B2 ++ (B ++ (N ++ ((bX, Obj.cells #[.int .i64 x.up, .int .u8 x.vd.code, .slice x1 x.vd.sets.length xc1, .slice x2 x.vd.soa.length xc2, .int .u32 x.time] 65 (0, 0)) :: L))))) ?_ ji
 refine jW 8 jd rfl rfl rfl (qj rfl rfl stO rfl rfl rfl) ?_
 rintro _ _ ⟨_, rfl⟩
 refine ⟨Or.inr (by first | exact (fun z hz => jX ji z (hKm z hz)) | simp), ?_⟩
 refine tdQ ?_
 repeat (first | refine goA ?_ | (refine jO ?_; intro bNew) | (refine kk ?_; intro bBox) | refine jz (jm rfl (qZ _ _ _ _ _)) rfl ?_)
 refine ke 2 65  rfl rfl  stO (by repeat (first | assumption | exact List.mem_cons_self | apply List.mem_cons_of_mem)) rfl (fun w h => Heap.cnt (L' := B2 ++ (B ++ (N ++ L))) h ji) ?_
 exact ⟨_, _, _, _, _, _, _, rfl, hB, hB2, hN, rfl⟩
end
section
open Go.RowKit
open Vd (RSet Vdt Vote Rec Quest Piece Ballot)
variable {G : World} {L : ja}
theorem Wt {vs : List Vote} {v : Vdt} {i : Nat} {y : Vote} (hy : vs[i]? = some y) (he : y.vd = v) (hno : ∀ z ∈ vs.take i, z.vd ≠ v) : jE vs v = i := by
 obtain ⟨hi, rfl⟩ := List.getElem?_eq_some_iff.1 hy
 unfold jE
 rw [List.findIdx_eq hi]
 refine ⟨by simpa using he, fun j hj => ?_⟩
 have := hno vs[j] (by rw [List.mem_take_iff_getElem]; exact ⟨j, by omega, rfl⟩)
 simpa using this
theorem Ur {vs : List Vote} {v : Vdt} (hno : ∀ z ∈ vs, z.vd ≠ v) : jE vs v = vs.length := by
 unfold jE
 rw [List.findIdx_eq_length]
 intro z hz
 simpa using hno z hz
theorem abJ {K : ja} (bb : Nat) (want : Int) (l : List Ballot) (M0 : ja) (cs : List Value) (x : Vote) (hb : TBox K bb want l M0) (hl : BoxOk l) (hK : ∀ p ∈ K, p ∈ L) (hx : voteR L cs x) (hs : SmV x.vd) (hn : l.length ≤ 9) :
 Spec Tryz.prog G 52 #[.pointer (some ⟨bb, 0, none⟩), .agg cs.toArray] (M0 ++ L) fun w M => w = .int .i64 (Vd.putB l ⟨x, false⟩).2 ∧ ∃ M' N, TBox (N ++ K) bb want (Vd.putB l ⟨x, false⟩).1 M' ∧ Wr N ∧ M = M' ++ (N ++ L) := by
 obtain ⟨a, c, B, hB, rfl⟩ := hb
 obtain ⟨x1, xc1, x2, xc2, rfl, h1, h2, h3, h4, h5⟩ := hx.vals
 have hvl := j6 l
 have hcap := hB.cap
 unfold maxLen at hcap
 refine jl (n := 57) Tryz.func52 rfl rfl rfl ?_
 refine jY (jS (jP (kx rfl) rfl ?_))
 intro bV
 refine goA ?_
 refine jJ (jb jd rfl (Z7 bb want x.up l _ (List.mem_cons_of_mem _ (List.mem_cons_self ..)) hl)) rfl ?_
 have he := Z6 l ⟨x, false⟩
 rw [he]
 by_cases h0 : KI l x.up = 0
 · obtain ⟨hp1, hp2, hp3⟩ := KJ (x := ⟨x, false⟩) h0
   obtain ⟨h20, h29⟩ := hp2
   dsimp only at h20 h29 hp3
   obtain ⟨vs, hvs⟩ : ∃ vs, Vd.votesB l = vs := ⟨_, rfl⟩
   rw [hvs] at hB hvl hcap ⊢
   have gx : ∀ j v, ([.int .u8 x.vd.code, .slice x1 x.vd.sets.length xc1, .slice x2 x.vd.soa.length xc2] : List Value)[j]? = some v → (#[.int .i64 x.up, .int .u8 x.vd.code, .slice x1 x.vd.sets.length xc1, .slice x2 x.vd.soa.length xc2, .int .u32 x.time] : Array Value)[0 + 1 + j]? = some v := fun j v hj => by
    match j, hj with
    | 0, hj => exact hj
    | 1, hj => exact hj
    | 2, hj => exact hj
   refine goF ?_
   refine jY ?_
   refine goF ?_
   refine jY ?_
   refine goF ?_
   refine jY ?_
   skip
   refine KD (σ := Unit) (fun _ => True) (fun _ => [(0, .pointer (some ⟨bb, 0, none⟩)), (3, .pointer (some ⟨bV, 0, none⟩)), (6, .int .i64 (jE vs x.vd : Nat))]) (fun _ => (bV, Obj.cells #[.int .i64 x.up, .int .u8 x.vd.code, .slice x1 x.vd.sets.length xc1, .slice x2 x.vd.soa.length xc2, .int .u32 x.time] 65 (0, 0)) :: ((bb, Obj.cells (j0 want (jo l) (.slice a vs.length c)).toArray 165 (0, 0)) :: (B ++ L))) ?_ ?_
   · skip
     refine goA ?_
     refine jA (σ := Nat) (fun i => i ≤ vs.length ∧ ∀ z ∈ vs.take i, z.vd ≠ x.vd) (fun i => [(0, .pointer (some ⟨bb, 0, none⟩)), (3, .pointer (some ⟨bV, 0, none⟩)), (6, .int .i64 (vs.length : Nat)), (24, .slice a vs.length c), (25, .int .i64 (vs.length : Nat)), (26, .int .i64 (i : Nat))]) (fun _ => (bV, Obj.cells #[.int .i64 x.up, .int .u8 x.vd.code, .slice x1 x.vd.sets.length xc1, .slice x2 x.vd.soa.length xc2, .int .u32 x.time] 65 (0, 0)) :: ((bb, Obj.cells (j0 want (jo l) (.slice a vs.length c)).toArray 165 (0, 0)) :: (B ++ L))) (fun i => vs.length - i) 0 ⟨Nat.zero_le _, by simp⟩ ?_ (fun w h => h) ?_
     exact ju
     rintro i ⟨hi, hno⟩
     by_cases hil : i < vs.length
     · obtain ⟨y, hy⟩ : ∃ y, vs[i]? = some y := ⟨_, List.getElem?_eq_getElem hil⟩
       obtain ⟨bc, cur, rfl, rfl, _, _, _, hcur⟩ := hB.block (fun e => by rw [e] at hil; simp at hil)
       obtain ⟨csy, _, hyv, _, hcy⟩ := hcur i y hy
       obtain ⟨y1, yc1, y2, yc2, rfl, hy1, hy2, hy3, hy4, hy5⟩ := hyv.vals
       have hcy' : ∀ j v, ([.int .i64 y.up, .int .u8 y.vd.code, .slice y1 y.vd.sets.length yc1, .slice y2 y.vd.soa.length yc2, .int .u32 y.time] : List Value)[j]? = some v → cur[0 + i * 5 + j]? = some v := fun j v hj => by rw [Nat.zero_add]; exact hcy j v hj
       have gy : ∀ j v, ([.int .u8 y.vd.code, .slice y1 y.vd.sets.length yc1, .slice y2 y.vd.soa.length yc2] : List Value)[j]? = some v → (#[.int .i64 y.up, .int .u8 y.vd.code, .slice y1 y.vd.sets.length yc1, .slice y2 y.vd.soa.length yc2, .int .u32 y.time] : Array Value)[0 + 1 + j]? = some v := fun j v hj => by
        match j, hj with
        | 0, hj => exact hj
        | 1, hj => exact hj
        | 2, hj => exact hj
       have mc : (bc, Obj.cells cur 65 (0, 0)) ∈ (bV, Obj.cells #[.int .i64 x.up, .int .u8 x.vd.code, .slice x1 x.vd.sets.length xc1, .slice x2 x.vd.soa.length xc2, .int .u32 x.time] 65 (0, 0)) :: ((bb, Obj.cells (j0 want (jo l) (.slice (some ⟨bc, 0, none⟩) vs.length c)).toArray 165 (0, 0)) :: ([(bc, Obj.cells cur 65 (0, 0))] ++ L)) := by simp
       refine goA ?_
       refine jz (jy [.int .i64 y.up, .int .u8 y.vd.code, .slice y1 y.vd.sets.length yc1, .slice y2 y.vd.soa.length yc2, .int .u32 y.time] rfl stL mc hcy') rfl ?_
       repeat (first | refine goA ?_ | (refine jO ?_; intro bNew))
       refine jz (jy [.int .u8 y.vd.code, .slice y1 y.vd.sets.length yc1, .slice y2 y.vd.soa.length yc2] rfl stL (by repeat (exact List.mem_cons_self)) gy) rfl ?_
       repeat (refine jz (qf rfl yY) rfl ?_)
       refine jz (jy [.int .u8 x.vd.code, .slice x1 x.vd.sets.length xc1, .slice x2 x.vd.soa.length xc2] rfl stL (by repeat (first | exact List.mem_cons_self | apply List.mem_cons_of_mem)) gx) rfl ?_
       refine jJ (jb jd rfl (Ue [.int .u8 y.vd.code, .slice y1 y.vd.sets.length yc1, .slice y2 y.vd.soa.length yc2] [.int .u8 x.vd.code, .slice x1 x.vd.sets.length xc1, .slice x2 x.vd.soa.length xc2] y.vd x.vd ⟨_, _, rfl, jp jx _ _ _ _ (fun p hp => (jr) p (hK p hp)) hy1, jp jx _ _ _ _ (fun p hp => (jr) p (hK p hp)) hy2, hy3⟩ ⟨_, _, rfl, jp jx _ _ _ _ jr h1, jp jx _ _ _ _ jr h2, h3⟩)) rfl ?_
       by_cases hyx : y.vd = x.vd
       · have hf := Wt hy hyx hno
         refine goA ?_
         refine kF () trivial ?_ (fun w h => h.cnt ji)
         rw [hf]
         exact ju
       · refine goA ?_
         refine jh (i + 1) ⟨hil, fun z hz => ?_⟩ ?_ (fun w h => h.cnt ji) je
         · rw [List.take_add_one, hy] at hz
           rcases List.mem_append.1 hz with hz | hz
           · exact hno z hz
           · rw [show z = y by simpa using hz]; exact hyx
         exact ju
     · have hie : i = vs.length := by omega
       subst hie
       rw [List.take_length] at hno
       have hf := Ur hno
       refine goA ?_
       refine kF () trivial ?_ (fun w h => h)
       rw [hf]
       exact ju
   · rintro _ _
     dsimp only
     obtain ⟨f', hf'⟩ : ∃ f, upd (jo l) x.up (2, (jE vs x.vd : Int)) = f := ⟨_, rfl⟩
     have hput : qr (j0 want (jo l) (.slice a vs.length c)).toArray (0 + 1 + x.up.toNat * 2) [.int .u8 2, .int .i64 (jE vs x.vd : Nat)] = (j0 want f' (.slice a vs.length c)).toArray := by
      rw [← hf', Nat.zero_add]
      exact Vq ⟨h20, h29⟩ (2, (jE vs x.vd : Int))
     have hsl : jo (l ++ [⟨x, false⟩]) = f' := by
      rw [Vr hl (x := ⟨x, false⟩) hp3 ⟨h20, h29⟩, ← hf', ← hvs]
      rfl
     have hvn : Vd.votesB (l ++ [⟨x, false⟩]) = vs ++ [x] := by rw [qy, hvs]; rfl
     have hKm : ∀ z ∈ [(bb, Obj.cells (j0 want (jo l) (.slice a vs.length c)).toArray 165 (0, 0)), (bV, Obj.cells #[.int .i64 x.up, .int .u8 x.vd.code, .slice x1 x.vd.sets.length xc1, .slice x2 x.vd.soa.length xc2, .int .u32 x.time] 65 (0, 0))], z ∈ (bV, Obj.cells #[.int .i64 x.up, .int .u8 x.vd.code, .slice x1 x.vd.sets.length xc1, .slice x2 x.vd.soa.length xc2, .int .u32 x.time] 65 (0, 0)) :: ((bb, Obj.cells (j0 want (jo l) (.slice a vs.length c)).toArray 165 (0, 0)) :: (B ++ L)) := by
      intro z hz
      simp only [List.mem_cons, List.not_mem_nil, or_false] at hz
      rcases hz with rfl | rfl <;> simp
     repeat (with_reducible refine jY ?_)
     refine jw jc ([(bb, Obj.cells (j0 want (jo l) (.slice a vs.length c)).toArray 165 (0, 0)), (bV, Obj.cells #[.int .i64 x.up, .int .u8 x.vd.code, .slice x1 x.vd.sets.length xc1, .slice x2 x.vd.soa.length xc2, .int .u32 x.time] 65 (0, 0))]) [8] ?_
     refine tkQ 0 ?_
     refine tkQ 1 ?_
     refine tkQ 2 ?_
     refine tkQ 3 ?_
     (refine' jt 4 rfl rfl jd (jG (jm rfl (Wa _ _))) ?_ ?_; (· assumption))
     refine tkQ 5 ?_
     refine tkQ 6 ?_
     refine tkQ 7 ?_
     refine jZ (L' := (bb, Obj.cells (j0 want (jo l) (.slice a vs.length c)).toArray 165 (0, 0)) :: ((bV, Obj.cells #[.int .i64 x.up, .int .u8 x.vd.code, .slice x1 x.vd.sets.length xc1, .slice x2 x.vd.soa.length xc2, .int .u32 x.time] 65 (0, 0)) :: (B ++ L))) ?_ ji
     refine jW 8 jd rfl rfl rfl (yI (cs := [.int .u8 2, .int .i64 (jE vs x.vd : Nat)]) rfl rfl stL (by intro v hv; simp only [List.mem_cons, List.not_mem_nil, or_false] at hv; rcases hv with rfl | rfl <;> rfl) (by rw [Vp]; simp; omega)) ?_
     rintro _ _ ⟨_, rfl⟩
     refine ⟨Or.inl (by simp), ?_⟩
     refine tdQ ?_
     rw [hput]
     clear hKm
     have hKm : ∀ z ∈ [(bb, Obj.cells (j0 want f' (.slice a vs.length c)).toArray 165 (0, 0)), (bV, Obj.cells #[.int .i64 x.up, .int .u8 x.vd.code, .slice x1 x.vd.sets.length xc1, .slice x2 x.vd.soa.length xc2, .int .u32 x.time] 65 (0, 0))], z ∈ (bb, Obj.cells (j0 want f' (.slice a vs.length c)).toArray 165 (0, 0)) :: ((bV, Obj.cells #[.int .i64 x.up, .int .u8 x.vd.code, .slice x1 x.vd.sets.length xc1, .slice x2 x.vd.soa.length xc2, .int .u32 x.time] 65 (0, 0)) :: L) := by
      intro z hz
      simp only [List.mem_cons, List.not_mem_nil, or_false] at hz
      rcases hz with rfl | rfl <;> simp
     refine goA ?_
     refine jw jc ([(bb, Obj.cells (j0 want f' (.slice a vs.length c)).toArray 165 (0, 0)), (bV, Obj.cells #[.int .i64 x.up, .int .u8 x.vd.code, .slice x1 x.vd.sets.length xc1, .slice x2 x.vd.soa.length xc2, .int .u32 x.time] 65 (0, 0))]) [11] ?_
     refine tkQ 0 ?_
     refine tkQ 1 ?_
     refine tkQ 2 ?_
     refine tkQ 3 ?_
     refine tkQ 4 ?_
     refine tkQ 5 ?_
     refine jF 6 jd rfl rfl rfl rfl (jb jd rfl (Jw [.int .i64 x.up, .int .u8 x.vd.code, .slice x1 x.vd.sets.length xc1, .slice x2 x.vd.soa.length xc2, .int .u32 x.time] x (kA _ _ _ _ jr hx) hs)) ?_
     rintro _ _ ⟨a6, c6, B6, a7, c7, B7, N, rfl, h6, h7, hN, rfl⟩
     refine ⟨Or.inr (by exact (fun z hz => jX ji z (hKm z hz))), ?_⟩
     refine jF 7 jd rfl rfl rfl rfl (q9 etO rfl rfl (by decide)) ?_
     rintro _ _ ⟨bL, rfl, rfl⟩
     refine ⟨Or.inr (by exact (fun z hz => jX ji z (hKm z hz))), ?_⟩
     refine jZ (L' := (bL, Obj.cells #[.int .i64 x.up, .int .u8 x.vd.code, .slice a6 x.vd.sets.length c6, .slice a7 x.vd.soa.length c7, .int .u32 x.time] 65 (0, 0)) :: (B ++ ((bb, Obj.cells (j0 want f' (.slice a vs.length c)).toArray 165 (0, 0)) :: ((bV, Obj.cells #[.int .i64 x.up, .int .u8 x.vd.code, .slice x1 x.vd.sets.length xc1, .slice x2 x.vd.soa.length xc2, .int .u32 x.time] 65 (0, 0)) :: ((B7 ++ (B6 ++ N)) ++ L))))) ?_ ji
     refine jF 8 jd rfl rfl rfl rfl (q8 (L0 := (B7 ++ (B6 ++ N)) ++ K) (cs := [.int .i64 x.up, .int .u8 x.vd.code, .slice a6 x.vd.sets.length c6, .slice a7 x.vd.soa.length c7, .int .u32 x.time]) (y := x) etO rfl rfl (hB.mono kA jr) rfl (fun v hv => by simp only [List.mem_cons, List.not_mem_nil, or_false] at hv; rcases hv with rfl | rfl | rfl | rfl | rfl <;> rfl) ⟨_, _, rfl, h6.sliceR jx jr jr, h7.sliceR jx jr jr, h3, h4, h5⟩ (by unfold maxLen; omega) je) ?_
     rintro _ _ ⟨a8, c8, B8, rfl, hB8, rfl⟩
     refine ⟨Or.inr (by exact (fun z hz => jX ji z (hKm z hz))), ?_⟩
     refine tkQ 9 ?_
     refine tkQ 10 ?_
     refine jZ (L' := (bb, Obj.cells (j0 want f' (.slice a vs.length c)).toArray 165 (0, 0)) :: (B8 ++ ((bV, Obj.cells #[.int .i64 x.up, .int .u8 x.vd.code, .slice x1 x.vd.sets.length xc1, .slice x2 x.vd.soa.length xc2, .int .u32 x.time] 65 (0, 0)) :: ((B7 ++ (B6 ++ N)) ++ L)))) ?_ ji
     refine jW 11 jd rfl rfl rfl (yE (C' := (j0 want f' (.slice a8 (vs ++ [x]).length c8)).toArray) rfl rfl onO rfl rfl rfl) ?_
     rintro _ _ ⟨_, rfl⟩
     refine ⟨Or.inl (by simp), ?_⟩
     refine tdQ ?_
     refine goA ?_
     refine jB (L' := (bb, Obj.cells (j0 want f' (.slice a8 (vs ++ [x]).length c8)).toArray 165 (0, 0)) :: (B8 ++ ((B7 ++ (B6 ++ N)) ++ L))) ?_ (by exact ji)
     refine jf 4 _ rfl rfl ?_
     refine ⟨by rw [h0], _, B7 ++ (B6 ++ N), ⟨a8, c8, B8, ?_, rfl⟩, h7.wr.append (h6.wr.append hN), ?_⟩
     · rw [hp1, hvn]; exact hB8
     · rw [hp1, hvn, hsl]; rfl
 · have hp1 := Uq (x := ⟨x, false⟩) h0
   rw [hp1]
   refine goA ?_
   refine jB (L' := (bb, Obj.cells (j0 want (jo l) (.slice a (Vd.votesB l).length c)).toArray 165 (0, 0)) :: (B ++ ([] ++ L))) ?_ ji
   refine jf 4 _ rfl rfl ?_
   exact ⟨rfl, _, [], ⟨a, c, B, hB, rfl⟩, Wr.nil, rfl⟩
end
section
open Go.RowKit
open Vd (RSet Vdt Vote Rec Quest Piece Ballot)
variable {G : World} {L : ja}
def KK (f : Nat → Nat) : List Value := [.int .i64 (f 0 : Nat), .int .i64 (f 1 : Nat), .int .i64 (f 2 : Nat), .int .i64 (f 3 : Nat), .int .i64 (f 4 : Nat), .int .i64 (f 5 : Nat), .int .i64 (f 6 : Nat), .int .i64 (f 7 : Nat), .int .i64 (f 8 : Nat)]
theorem Vs {f : Nat → Nat} {k : Nat} (h : k < 9) : (KK f).toArray[0 + (k : Int).toNat * 1]? = some (.int .i64 (f k : Nat)) := by
 match k, h with
 | 0, _ | 1, _ | 2, _ | 3, _ | 4, _ | 5, _ | 6, _ | 7, _ | 8, _ => rfl
theorem Z8 {f g : Nat → Nat} {k : Nat} (h : k < 9) (hg : ∀ j, g j = f j + (if k = j then 1 else 0)) : (KK f).toArray.setIfInBounds (0 + (k : Int).toNat * 1) (.int .i64 ((f k : Nat) + 1 : Int)) = (KK g).toArray := by
 match k, h with
 | 0, _ | 1, _ | 2, _ | 3, _ | 4, _ | 5, _ | 6, _ | 7, _ | 8, _ => simp [KK, hg]
def yC (want : Int) (vs : List Vote) : (Int × Int) × Bool := if want < 1 then ((0, 0), false) else match kd want vs vs.length with
 | none => ((0, 0), false)
 | some j => match vs[j]? with
   | some x => ((2, (jE vs x.vd : Int)), true)
   | none => ((0, 0), false)
theorem QE {K : ja} (bb : Nat) (want : Int) (l : List Ballot) (a : Option Addr) (c : Nat) (hm : (bb, Obj.cells (j0 want (jo l) (.slice a (Vd.votesB l).length c)).toArray 165 (0, 0)) ∈ L) (hv : sliceR 5 (fun _ => voteR K) L [.slice a (Vd.votesB l).length c] (Vd.votesB l)) (hl : BoxOk l) (hn : l.length ≤ 9) :
 Spec Tryz.prog G 191 #[.pointer (some ⟨bb, 0, none⟩)] L fun w M => w = .tuple #[.agg #[.int .u8 (yC want (Vd.votesB l)).1.1, .int .i64 (yC want (Vd.votesB l)).1.2], .bool (yC want (Vd.votesB l)).2] ∧ M = L := by
 obtain ⟨vs, hvs⟩ : ∃ vs, Vd.votesB l = vs := ⟨_, rfl⟩
 have hvl := j6 l
 rw [hvs] at hm hv hvl ⊢
 have g0 : (j0 want (jo l) (.slice a vs.length c)).toArray[0 + 0]? = some (.int .i64 want) := rfl
 have g19 : (j0 want (jo l) (.slice a vs.length c)).toArray[0 + 19]? = some (.slice a vs.length c) := rfl
 refine jl (n := 52) Tryz.func191 rfl rfl rfl ?_
 refine jY (jS (jP (j4 (C := #[.int .u8 0, .int .i64 0]) zeO rfl) rfl ?_))
 intro b2
 by_cases hw : want < 1
 · have hW : yC want vs = ((0, 0), false) := if_pos hw
   rw [hW]
   repeat (first | refine goA ?_ | refine jz (jm rfl (W0 )) rfl ?_)
   refine ky 2 162 3 rfl rfl rfl stO (by repeat (exact List.mem_cons_self)) rfl (fun w h => Heap.cnt (L' := L) h ji) ?_
   exact ⟨rfl, rfl⟩
 · have hw1 : 1 ≤ want := by omega
   repeat (first | refine goA ?_ | (refine jO ?_; intro bNew))
   obtain ⟨b4, hb4⟩ : ∃ b, bNew = b := ⟨_, rfl⟩
   rw [hb4]
   clear hb4 bNew
   refine jA (σ := Nat) (fun i => i ≤ vs.length ∧ kd want vs i = none) (fun i => [(0, .pointer (some ⟨bb, 0, none⟩)), (2, .pointer (some ⟨b2, 0, none⟩)), (3, .bool false), (4, .pointer (some ⟨b4, 0, none⟩)), (21, .slice a vs.length c), (22, .int .i64 (vs.length : Nat)), (23, .int .i64 (i : Nat))]) (fun i => (b4, Obj.cells (KK (uK vs i)).toArray 47 (0, 0)) :: ((b2, Obj.cells #[.int .u8 0, .int .i64 0] 162 (0, 0)) :: L)) (fun i => vs.length - i) 0 ⟨Nat.zero_le _, rfl⟩ ?_ (fun w h => h) ?_
   exact ju
   rintro i ⟨hi, hno⟩
   by_cases hil : i < vs.length
   · obtain ⟨y, hy⟩ : ∃ y, vs[i]? = some y := ⟨_, List.getElem?_eq_getElem hil⟩
     have hym := List.mem_of_getElem? hy
     obtain ⟨_, kv1, kv2, hvc⟩ := sliceR.cut hv
     rcases hvc with h1 | ⟨bc, oc, cur, tc, fc, rfl, mc, hcur⟩
     · rw [h1] at hil; simp at hil
     obtain ⟨csy, _, hyv, hcy⟩ := hcur i y hy
     obtain ⟨y1, yc1, y2, yc2, rfl, hy1, hy2, hy3, hy4, hy5⟩ := hyv.vals
     obtain ⟨b, hb1, hb2, hb3⟩ := votesB_mem.1 (by rw [hvs]; exact hym)
     have hup : 0 ≤ y.up ∧ y.up < 9 := by rw [← hb3]; exact hl.up b hb1
     obtain ⟨hu0, hu9⟩ := hup
     have hsl : jo l y.up = (2, (jE vs y.vd : Int)) := by rw [← hvs]; exact qd hl (by rw [hvs]; exact hym)
     have hfl := (qk hym).1
     refine goA ?_
     refine jz (jy [.int .i64 y.up, .int .u8 y.vd.code, .slice y1 y.vd.sets.length yc1, .slice y2 y.vd.soa.length yc2, .int .u32 y.time] rfl stL (List.mem_cons_of_mem _ (List.mem_cons_of_mem _ mc)) hcy) rfl ?_
     repeat (first | refine goA ?_ | (refine jO ?_; intro bNew))
     obtain ⟨b6, hb6⟩ : ∃ b, bNew = b := ⟨_, rfl⟩
     rw [hb6]
     clear hb6 bNew
     have hslip : ∀ j v, ([.int .u8 2, .int .i64 (jE vs y.vd : Nat)] : List Value)[j]? = some v → (j0 want (jo l) (.slice (some ⟨bc, oc, none⟩) vs.length c)).toArray[0 + 1 + y.up.toNat * 2 + j]? = some v := fun j v hj => by
      rw [Nat.zero_add]
      match j, hj with
      | 0, hj => obtain rfl := Option.some.inj hj; rw [zU ⟨hu0, hu9⟩, hsl]
      | 1, hj => obtain rfl := Option.some.inj hj; rw [KH ⟨hu0, hu9⟩, hsl]
     have hKm : ∀ z ∈ [(b6, Obj.cells #[.int .i64 y.up, .int .u8 y.vd.code, .slice y1 y.vd.sets.length yc1, .slice y2 y.vd.soa.length yc2, .int .u32 y.time] 65 (0, 0)), (bb, Obj.cells (j0 want (jo l) (.slice (some ⟨bc, oc, none⟩) vs.length c)).toArray 165 (0, 0))], z ∈ (b6, Obj.cells #[.int .i64 y.up, .int .u8 y.vd.code, .slice y1 y.vd.sets.length yc1, .slice y2 y.vd.soa.length yc2, .int .u32 y.time] 65 (0, 0)) :: ((b4, Obj.cells (KK (uK vs i)).toArray 47 (0, 0)) :: ((b2, Obj.cells #[.int .u8 0, .int .i64 0] 162 (0, 0)) :: L)) := by
      intro z hz
      simp only [List.mem_cons, List.not_mem_nil, or_false] at hz
      rcases hz with rfl | rfl
      · simp
      · exact List.mem_cons_of_mem _ (List.mem_cons_of_mem _ (List.mem_cons_of_mem _ hm))
     refine KD (σ := Nat) (fun _ => True) (fun b7 => [(0, .pointer (some ⟨bb, 0, none⟩)), (2, .pointer (some ⟨b2, 0, none⟩)), (3, .bool false), (4, .pointer (some ⟨b4, 0, none⟩)), (7, .pointer (some ⟨b7, 0, none⟩)), (21, .slice (some ⟨bc, oc, none⟩) vs.length c), (22, .int .i64 (vs.length : Nat)), (23, .int .i64 (i : Nat))]) (fun b7 => (b4, Obj.cells (KK (uK vs i)).toArray 47 (0, 0)) :: ((b7, Obj.cells #[.int .u8 2, .int .i64 (jE vs y.vd : Nat)] 162 (0, 0)) :: ((b2, Obj.cells #[.int .u8 0, .int .i64 0] 162 (0, 0)) :: L))) ?_ ?_
     · skip
       refine jw jc ([(b6, Obj.cells #[.int .i64 y.up, .int .u8 y.vd.code, .slice y1 y.vd.sets.length yc1, .slice y2 y.vd.soa.length yc2, .int .u32 y.time] 65 (0, 0)), (bb, Obj.cells (j0 want (jo l) (.slice (some ⟨bc, oc, none⟩) vs.length c)).toArray 165 (0, 0))]) [] ?_
       refine tkQ 0 ?_
       refine tkQ 1 ?_
       refine tkQ 2 ?_
       refine tkQ 3 ?_
       refine tkQ 4 ?_
       refine tkQ 5 ?_
       (refine' jt 6 rfl rfl jd (jG (jy [.int .u8 2, .int .i64 (jE vs y.vd : Nat)] rfl stL (List.mem_cons_of_mem _ (List.mem_cons_self ..)) hslip)) ?_ ?_; (· assumption))
       refine jF 7 jd rfl rfl rfl rfl (j4 (C := #[.int .u8 0, .int .i64 0]) zeO rfl) ?_
       rintro _ _ ⟨b7, rfl, rfl⟩
       refine ⟨Or.inr (by exact (fun z hz => jX ji z (hKm z hz))), ?_⟩
       refine jW 8 jd rfl rfl rfl (qj rfl rfl stO rfl rfl rfl) ?_
       rintro _ _ ⟨_, rfl⟩
       refine ⟨Or.inr (by exact (fun z hz => jX ji z (hKm z hz))), ?_⟩
       refine tdQ ?_
       refine kF b7 trivial ?_ (fun w h => h.cnt ji)
       exact ju
     · rintro b7 _
       clear hKm
       have hf9 : jE vs y.vd < 9 := by omega
       have hcb : uK vs i (jE vs y.vd) ≤ 9 := Nat.le_trans List.countP_le_length (by rw [List.length_take]; omega)
       have gc := Vs (f := uK vs i) hf9
       have gc2 := Vs (f := uK vs (i + 1)) hf9
       have gs := Z8 (f := uK vs i) (g := uK vs (i + 1)) hf9 (fun j => YS hy j)
       have hcw := YR (i + 1) hym
       have hex := QD hw1 hy hno
       have hws := yN hy hno
       refine goE ?_
       refine qg (C' := (KK (uK vs (i + 1))).toArray) rfl rfl onO rfl gc gs ?_
       have hK : ∀ z ∈ (b4, Obj.cells (KK (uK vs (i + 1))).toArray 47 (0, 0)) :: ((b7, Obj.cells #[.int .u8 2, .int .i64 (jE vs y.vd : Nat)] 162 (0, 0)) :: ((b2, Obj.cells #[.int .u8 0, .int .i64 0] 162 (0, 0)) :: L)), z ∈ (b4, Obj.cells (KK (uK vs (i + 1))).toArray 47 (0, 0)) :: ((b7, Obj.cells #[.int .u8 2, .int .i64 (jE vs y.vd : Nat)] 162 (0, 0)) :: ((b2, Obj.cells #[.int .u8 0, .int .i64 0] 162 (0, 0)) :: L)) := fun z h => h
       refine goA ?_
       refine jw jc ((b4, Obj.cells (KK (uK vs (i + 1))).toArray 47 (0, 0)) :: ((b7, Obj.cells #[.int .u8 2, .int .i64 (jE vs y.vd : Nat)] 162 (0, 0)) :: ((b2, Obj.cells #[.int .u8 0, .int .i64 0] 162 (0, 0)) :: L))) [] ?_
       refine tkQ 0 ?_
       refine tkQ 1 ?_
       refine tkQ 2 ?_
       refine tkQ 3 ?_
       refine tkQ 4 ?_
       refine tkQ 5 ?_
       refine tkQ 6 ?_
       refine tkQ 7 ?_
       refine tkQ 8 ?_
       refine tdQ ?_
       by_cases hwin : ((jU (vs.take (i + 1)) y.vd).length : Int) = want
       · have hwon : kd want vs (i + 1) = some i := by rw [hws, if_pos (hex.2 hwin)]
         have hW : yC want vs = ((2, (jE vs y.vd : Int)), true) := by
          unfold yC
          rw [if_neg hw, KF (i + 1) vs.length je hwon]
          dsimp only
          rw [hy]
         rw [hW]
         have hwin' : ((uK vs (i + 1) (jE vs y.vd) : Nat) : Int) = want := by rw [hcw]; exact hwin
         refine goA ?_
         refine jC (L' := (b2, Obj.cells #[.int .u8 0, .int .i64 0] 162 (0, 0)) :: L) ?_ ji
         refine goA ?_
         refine ky 2 162 3 rfl rfl rfl stO (by repeat (exact List.mem_cons_self)) rfl (fun w h => Heap.cnt (L' := L) h ji) ?_
         exact ⟨rfl, rfl⟩
       · have hwin' : ¬ ((uK vs (i + 1) (jE vs y.vd) : Nat) : Int) = want := by rw [hcw]; exact hwin
         have hno' : kd want vs (i + 1) = none := by rw [hws, if_neg (fun h => hwin (hex.1 h))]
         refine goA ?_
         refine jh (i + 1) ⟨hil, hno'⟩ ?_ (fun w h => h.cnt ji) je
         exact ju
   · have hie : i = vs.length := by omega
     subst hie
     have hW : yC want vs = ((0, 0), false) := by unfold yC; rw [if_neg hw, hno]
     rw [hW]
     repeat (first | refine goA ?_ | refine jz (jm rfl (W0 )) rfl ?_)
     refine jC (L' := (b2, Obj.cells #[.int .u8 0, .int .i64 0] 162 (0, 0)) :: L) ?_ ji
     refine goA ?_
     refine ky 2 162 3 rfl rfl rfl stO (by repeat (exact List.mem_cons_self)) rfl (fun w h => Heap.cnt (L' := L) h ji) ?_
     exact ⟨rfl, rfl⟩
end
section
open Go.RowKit
open Vd (RSet Vdt Vote Rec Quest Piece Ballot)
variable {G : World} {L : ja}
def KL (L : ja) (vs : List Vote) (u : Value) (M : ja) : Prop := ∃ a c B N, u = .slice a vs.length c ∧ ORow voteR 65 5 N a c vs B ∧ Wr N ∧ M = B ++ (N ++ L)
theorem zn (v : Value) (vs : List Vote) (hv : sliceR 5 voteR L [v] vs) (hn : vs.length ≤ 100) (hs : ∀ x ∈ vs, SmV x.vd) : Spec Tryz.prog G 73 #[v] L (KL L vs) := by
 obtain ⟨a0, c0, e1, hv⟩ := hv.val
 simp only [List.cons.injEq, and_true] at e1
 subst e1
 obtain ⟨_, ka1, ka2, hv⟩ := sliceR.cut hv
 refine jl (n := 19) Tryz.func73 rfl rfl rfl ?_
 refine goA ?_
 refine jA (σ := Nat × Option Addr × Nat × ja × ja) (fun x => x.1 ≤ vs.length ∧ ORow voteR 65 5 x.2.2.2.2 x.2.1 x.2.2.1 (vs.take x.1) x.2.2.2.1 ∧ Wr x.2.2.2.2) (fun x => [(3, .slice x.2.1 (vs.take x.1).length x.2.2.1), (6, .slice a0 vs.length c0), (7, .int .i64 (vs.length : Nat)), (8, .int .i64 (x.1 : Nat))]) (fun x => x.2.2.2.1 ++ (x.2.2.2.2 ++ L)) (fun x => vs.length - x.1) (0, none, 0, [], []) ⟨Nat.zero_le _, ORow.nil _, Wr.nil⟩ ?_ (fun w h => h) ?_
 exact ju
 rintro ⟨k, a, c, B, N⟩ ⟨hk, hB, hN⟩
 dsimp only at hk hB hN ⊢
 by_cases hlt : k < vs.length
 · obtain ⟨x, hx⟩ : ∃ x, vs[k]? = some x := ⟨_, List.getElem?_eq_getElem hlt⟩
   have htk : vs.take (k + 1) = vs.take k ++ [x] := by rw [List.take_add_one, hx]; rfl
   have htl : (vs.take k).length ≤ 100 := by rw [List.length_take]; omega
   rcases hv with rfl | ⟨b1, o1, C1, t1, f1, rfl, m1, q1⟩
   · simp at hlt
   obtain ⟨cx, _, hx2, hcx⟩ := q1 k x hx
   have hx0 := hx2
   obtain ⟨x1, xc1, x2, xc2, rfl, hx3, hx4, hcode, htm, hup⟩ := hx0.vals
   have m1' : (b1, Obj.cells C1 t1 f1) ∈ B ++ (N ++ L) := List.mem_append_right _ (List.mem_append_right _ m1)
   refine goA ?_
   refine jz (jy [.int .i64 x.up, .int .u8 x.vd.code, .slice x1 x.vd.sets.length xc1, .slice x2 x.vd.soa.length xc2, .int .u32 x.time] rfl stL m1' hcx) rfl ?_
   repeat (first | refine goA ?_ | (refine jO ?_; intro bNew))
   refine jv (jb jd rfl (Jw _ x (kA _ _ _ _ jr hx2) (hs x (List.mem_of_getElem? hx)))) rfl ?_
   rintro _ _ ⟨a6, c6, B6, a7, c7, B7, N6, rfl, h6, h7, hN6, rfl⟩
   repeat (refine jP (q9 etO rfl rfl (by decide)) rfl ?_; intro bLit)
   refine jC (L' := (bLit, Obj.cells #[.int .i64 x.up, .int .u8 x.vd.code, .slice a6 x.vd.sets.length c6, .slice a7 x.vd.soa.length c7, .int .u32 x.time] 65 (0, 0)) :: (B ++ (((B7 ++ (B6 ++ N6)) ++ N) ++ L))) ?_ ji
   refine jv (q8 (L0 := (B7 ++ (B6 ++ N6)) ++ N) (cs := [.int .i64 x.up, .int .u8 x.vd.code, .slice a6 x.vd.sets.length c6, .slice a7 x.vd.soa.length c7, .int .u32 x.time]) (y := x) etO rfl rfl (hB.mono kA jr) rfl (fun v hv => by simp only [List.mem_cons, List.not_mem_nil, or_false] at hv; rcases hv with rfl | rfl | rfl | rfl | rfl <;> rfl) ⟨_, _, rfl, h6.sliceR jx jr jr, h7.sliceR jx jr jr, hcode, htm, hup⟩ (by unfold maxLen; omega) je) rfl ?_
   rintro _ _ ⟨a', c', B', rfl, hB', rfl⟩
   refine goA ?_
   refine jh (k + 1, a', c', B', (B7 ++ (B6 ++ N6)) ++ N) ⟨hlt, by dsimp only; rw [htk]; exact hB', (h7.wr.append (h6.wr.append hN6)).append hN⟩ ?_ (fun w h => h.cnt ji) (by dsimp only; omega)
   dsimp only
   rw [htk]
   exact ju
 · have hkn : k = vs.length := by omega
   subst hkn
   rw [List.take_length] at hB ⊢
   refine goA ?_
   refine jf 2 _ rfl rfl ?_
   exact ⟨a, c, B, N, rfl, hB, hN, rfl⟩
theorem Z9 (bb : Nat) (want : Int) (f : Int → Int × Int) (vs : List Vote) (a : Option Addr) (c : Nat) (hm : (bb, Obj.cells (j0 want f (.slice a vs.length c)).toArray 165 (0, 0)) ∈ L) (hv : sliceR 5 voteR L [.slice a vs.length c] vs) (hn : vs.length ≤ 100) (hs : ∀ x ∈ vs, SmV x.vd) :
 Spec Tryz.prog G 210 #[.pointer (some ⟨bb, 0, none⟩)] L (KL L vs) := by
 have g19 : (j0 want f (.slice a vs.length c)).toArray[0 + 19]? = some (.slice a vs.length c) := rfl
 refine jl (n := 10) Tryz.func210 rfl rfl rfl ?_
 refine goA ?_
 refine jv (jb jd rfl (zn _ vs hv hn hs)) rfl ?_
 rintro _ _ ⟨a1, c1, B, N, rfl, hB, hN, rfl⟩
 refine goA ?_
 refine jf 2 _ rfl rfl ?_
 exact ⟨a1, c1, B, N, rfl, hB, hN, rfl⟩
end
section
open Vd (RSet Vdt Vote Rec Quest Piece Ballot)
def nine : List Int := [0, 1, 2, 3, 4, 5, 6, 7, 8]
theorem mem_nine {x : Int} : x ∈ nine ↔ 0 ≤ x ∧ x < 9 := by
 unfold nine
 simp only [List.mem_cons, List.not_mem_nil, or_false]
 omega
theorem nine_nodup : nine.Nodup := by unfold nine; decide
theorem nine_lt : nine.Pairwise (· < ·) := by unfold nine; decide
theorem KM : ∀ {l : List Int}, l.Nodup → ∀ a, l.filter (fun x => x == a) = if a ∈ l then [a] else []
 | [], _, a => by simp
 | x :: l, h, a => by
   have hx : x ∉ l := (List.nodup_cons.1 h).1
   have ih := KM (List.nodup_cons.1 h).2 a
   by_cases e : x = a
   · subst e
     rw [List.filter_cons_of_pos (by simp), ih, if_neg hx, if_pos (List.mem_cons_self ..)]
   · rw [List.filter_cons_of_neg (by simpa using e), ih]
     have : a ∈ x :: l ↔ a ∈ l := by simp [Ne.symm e]
     simp only [this]
theorem Jx (p : Int → Bool) : ∀ l : List Int, l.flatMap (fun n => if p n then [n] else []) = l.filter p
 | [] => rfl
 | x :: l => by
   rw [List.flatMap_cons, Jx p l]
   cases h : p x <;> simp [h]
theorem qK {l : List Int} (h : l.Nodup) : kP l = nine.filter fun x => decide (x ∈ l) := by
 have h1 : kP l = nine.flatMap fun x => if decide (x ∈ l) = true then [x] else [] := by
  unfold kP nine
  simp only [KM h, decide_eq_true_eq]
  rfl
 rw [h1]
 exact Jx _ _
theorem Wu {l : List Int} (h : l.Nodup) (h9 : ∀ x ∈ l, 0 ≤ x ∧ x < 9) (x : Int) : x ∈ kP l ↔ x ∈ l := by
 rw [qK h, List.mem_filter, mem_nine]
 simp only [decide_eq_true_eq]
 exact ⟨fun k => k.2, fun k => ⟨h9 x k, k⟩⟩
theorem Us {l : List Int} (h : l.Nodup) : (kP l).Nodup := by
 rw [qK h]
 exact nine_nodup.filter _
theorem Jy {l : List Int} (h : l.Nodup) (h9 : ∀ x ∈ l, 0 ≤ x ∧ x < 9) : (kP l).Perm l :=
 (List.perm_ext_iff_of_nodup (Us h) h).2 fun x => Wu h h9 x
theorem yO {l : List Int} (h : l.Nodup) (h9 : ∀ x ∈ l, 0 ≤ x ∧ x < 9) : (kP l).length = l.length := (Jy h h9).length_eq
theorem YU {l : List Int} (h : l.Nodup) : (kP l).Pairwise (· < ·) := by
 rw [qK h]
 exact nine_lt.filter _
structure Vup (vs : List Vote) : Prop where
 nd : (vs.map (·.up)).Nodup
 up : ∀ x ∈ vs, 0 ≤ x.up ∧ x.up < 9
theorem BoxOk.vup {l : List Ballot} (h : BoxOk l) : Vup (Vd.votesB l) := by
 refine ⟨?_, fun x hx => ?_⟩
 · have : (Vd.votesB l).map (·.up) = (l.filter fun b => !b.pass).map (fun b => b.v.up) := by
    unfold Vd.votesB
    rw [List.map_map]
    rfl
   rw [this]
   exact h.nd.sublist (List.Sublist.map _ (List.filter_sublist))
 · obtain ⟨b, hb, _, rfl⟩ := votesB_mem.1 hx
   exact h.up b hb
theorem Vup.sub {vs ws : List Vote} (h : Vup vs) (s : ws.Sublist vs) : Vup ws := ⟨h.nd.sublist (s.map _), fun x hx => h.up x (s.subset hx)⟩
theorem Vup.filter {vs : List Vote} (h : Vup vs) (p : Vote → Bool) : Vup (vs.filter p) := h.sub List.filter_sublist
theorem Vup.take {vs : List Vote} (h : Vup vs) (n : Nat) : Vup (vs.take n) := h.sub (List.take_sublist ..)
theorem Vup.perm {vs ws : List Vote} (h : Vup vs) (p : vs.Perm ws) : Vup ws := ⟨(p.map _).nodup h.nd, fun x hx => h.up x (p.mem_iff.2 hx)⟩
theorem Vup.ups {vs : List Vote} (h : Vup vs) : ∀ x ∈ vs.map (·.up), 0 ≤ x ∧ x < 9 := by
 intro x hx
 obtain ⟨y, hy, rfl⟩ := List.mem_map.1 hx
 exact h.up y hy
theorem Vup.inj {vs : List Vote} (h : Vup vs) {x y : Vote} (hx : x ∈ vs) (hy : y ∈ vs) (e : x.up = y.up) : x = y := by
 obtain ⟨i, hi, rfl⟩ := List.getElem_of_mem hx
 obtain ⟨j, hj, rfl⟩ := List.getElem_of_mem hy
 have hp := List.nodup_iff_pairwise_ne.1 h.nd
 rcases Nat.lt_trichotomy i j with h1 | h1 | h1
 · have := List.pairwise_iff_getElem.1 hp i j (by simpa using hi) (by simpa using hj) h1
   simp only [List.getElem_map] at this
   exact absurd e this
 · subst h1; rfl
 · have := List.pairwise_iff_getElem.1 hp j i (by simpa using hj) (by simpa using hi) h1
   simp only [List.getElem_map] at this
   exact absurd e.symm this
theorem Vup.len {vs : List Vote} (h : Vup vs) : vs.length ≤ 9 := by
 have h1 := yO h.nd h.ups
 rw [List.length_map] at h1
 have h2 : (kP (vs.map (·.up))).length ≤ nine.length := by
  rw [qK h.nd]
  exact List.length_filter_le _ _
 have : nine.length = 9 := rfl
 omega
theorem withV_mem {vs : List Vote} {v : Vdt} {x : Vote} : x ∈ jU vs v ↔ x ∈ vs ∧ x.vd = v := by
 unfold jU
 rw [List.mem_filter, decide_eq_true_eq]
def ud : List Vote → Int
 | [] => 0
 | w :: r => r.foldl (fun t v => min t v.time) w.time
theorem uL (w : Vote) (r : List Vote) : ud (w :: r) = r.foldl (fun t v => min t v.time) w.time := rfl
theorem JS : ∀ (l : List Vote) (s : Int), l.foldl (fun t v => min t v.time) s ≤ s ∧ ∀ x ∈ l, l.foldl (fun t v => min t v.time) s ≤ x.time
 | [], s => ⟨Int.le_refl _, by simp⟩
 | x :: l, s => by
   obtain ⟨h1, h2⟩ := JS l (min s x.time)
   rw [List.foldl_cons]
   refine ⟨by omega, fun y hy => ?_⟩
   rcases List.mem_cons.1 hy with rfl | hy
   · omega
   · exact h2 y hy
theorem JT : ∀ (l : List Vote) (s : Int), l.foldl (fun t v => min t v.time) s = s ∨ ∃ x ∈ l, l.foldl (fun t v => min t v.time) s = x.time
 | [], s => Or.inl rfl
 | x :: l, s => by
   rw [List.foldl_cons]
   rcases JT l (min s x.time) with h | ⟨y, hy, h⟩
   · by_cases hx : x.time ≤ s
     · exact Or.inr ⟨x, List.mem_cons_self .., by omega⟩
     · exact Or.inl je
   · exact Or.inr ⟨y, List.mem_cons_of_mem _ hy, h⟩
theorem Wv {l : List Vote} {x : Vote} (h : x ∈ l) : l.foldl (fun t v => min t v.time) x.time = ud l := by
 cases l with
 | nil => simp at h
 | cons w r =>
   have h1 := JS (w :: r) x.time
   have h2 := JT (w :: r) x.time
   have h3 := JS r w.time
   have h4 := JT r w.time
   rw [uL]
   obtain ⟨a, ha⟩ : ∃ a, (w :: r).foldl (fun t v => min t v.time) x.time = a := ⟨_, rfl⟩
   obtain ⟨b, hb⟩ : ∃ b, r.foldl (fun t v => min t v.time) w.time = b := ⟨_, rfl⟩
   rw [ha] at h1 h2 ⊢
   rw [hb] at h3 h4 ⊢
   have hax : ∀ y ∈ w :: r, a ≤ y.time := h1.2
   have hbx : ∀ y ∈ w :: r, b ≤ y.time := fun y hy => by
    rcases List.mem_cons.1 hy with rfl | hy
    · exact h3.1
    · exact h3.2 y hy
   have hab : b ≤ a := by
    rcases h2 with h2 | ⟨y, hy, h2⟩
    · rw [h2]; exact hbx x h
    · rw [h2]; exact hbx y hy
   have hba : a ≤ b := by
    rcases h4 with h4 | ⟨y, hy, h4⟩
    · rw [h4]; exact hax w (List.mem_cons_self ..)
    · rw [h4]; exact hax y (List.mem_cons_of_mem _ hy)
   omega
theorem Ww (l : List Vote) (x : Vote) : ud (l ++ [x]) = if l.length = 0 ∨ x.time < ud l then x.time else ud l := by
 cases l with
 | nil => rfl
 | cons w r =>
   have h0 : ¬ (w :: r).length = 0 := by simp
   rw [List.cons_append, uL, uL, List.foldl_append]
   simp only [List.foldl_cons, List.foldl_nil, h0, false_or]
   split <;> omega
theorem aaa {l : List Vote} (h : ∀ x ∈ l, 0 ≤ x.time ∧ x.time ≤ 4294967295) : 0 ≤ ud l ∧ ud l ≤ 4294967295 := by
 cases l with
 | nil => simp [ud]
 | cons w r =>
   have h1 := JS r w.time
   have h2 := JT r w.time
   have hw := h w (List.mem_cons_self ..)
   rw [uL]
   rcases h2 with h2 | ⟨y, hy, h2⟩
   · rw [h2]; exact hw
   · rw [h2]; exact h y (List.mem_cons_of_mem _ hy)
theorem zo {want : Int} {vs : List Vote} {k : Nat} : ∀ i, kd want vs i = some k → k < i ∧ kd want vs k = none ∧ ∃ x, vs[k]? = some x ∧ want ≤ ((jU (vs.take (k + 1)) x.vd).length : Int)
 | 0, h => by simp [kd] at h
 | i + 1, h => by
   cases h1 : kd want vs i with
   | some j =>
     rw [kd, h1] at h
     obtain rfl := Option.some.inj h
     obtain ⟨a, b⟩ := zo i h1
     exact ⟨by omega, b⟩
   | none =>
     cases h2 : vs[i]? with
     | none => rw [kd, h1, h2] at h; cases h
     | some x =>
       rw [yN h2 h1] at h
       split at h
       · rename_i hw
         obtain rfl := Option.some.inj h
         exact ⟨by omega, h1, x, h2, hw⟩
       · cases h
structure WonBy (want : Int) (vs : List Vote) (j : Nat) (x : Vote) : Prop where
 at_ : vs[j]? = some x
 no : kd want vs j = none
 yes : kd want vs vs.length = some j
 len : ((jU (vs.take (j + 1)) x.vd).length : Int) = want
 is : qB want vs = (x.vd, ud (jU (vs.take (j + 1)) x.vd), kP ((jU (vs.take (j + 1)) x.vd).map (·.up)), true)
theorem aab {want : Int} (hw : 1 ≤ want) (vs : List Vote) : (kd want vs vs.length = none ∧ qB want vs = (Vdt.none, 0, [], false)) ∨ ∃ j x, WonBy want vs j x := by
 cases h : kd want vs vs.length with
 | none => exact Or.inl ⟨rfl, by unfold qB; rw [h]⟩
 | some j =>
   obtain ⟨h1, h2, x, hx, h3⟩ := zo _ h
   refine Or.inr ⟨j, x, hx, h2, h, (QD hw hx h2).1 h3, ?_⟩
   unfold qB
   rw [h]
   dsimp only
   rw [hx]
   dsimp only
   rw [Wv]
   refine withV_mem.2 ⟨?_, rfl⟩
   rw [List.mem_take_iff_getElem]
   obtain ⟨hj, hjx⟩ := List.getElem?_eq_some_iff.1 hx
   exact ⟨j, by omega, hjx⟩
theorem abK {vs ws : List Vote} {m : Int} : ∀ {n : Int}, ws.foldl (fun m x => max m ((jU vs x.vd).length : Int)) n ≤ m ↔ n ≤ m ∧ ∀ x ∈ ws, ((jU vs x.vd).length : Int) ≤ m := by
 induction ws with
 | nil => intro n; simp
 | cons w r ih =>
   intro n
   rw [List.foldl_cons, ih]
   simp only [List.mem_cons, forall_eq_or_imp]
   constructor
   · rintro ⟨h1, h2⟩; exact ⟨by omega, by omega, h2⟩
   · rintro ⟨h1, h2, h3⟩; exact ⟨by omega, h3⟩
theorem mostR_le {vs : List Vote} {m : Int} : ub vs ≤ m ↔ 0 ≤ m ∧ ∀ x ∈ vs, ((jU vs x.vd).length : Int) ≤ m := abK
theorem aac {vs : List Vote} {x : Vote} (h : x ∈ vs) : ((jU vs x.vd).length : Int) ≤ ub vs := (mostR_le.1 (Int.le_refl _)).2 x h
theorem zp (vs : List Vote) : 0 ≤ ub vs := (mostR_le.1 (Int.le_refl _)).1
theorem Vt {l : List Int} (h : l.Nodup) (h9 : ∀ x ∈ l, 0 ≤ x ∧ x < 9) : (l.mergeSort fun x y => decide (x ≤ y)) = kP l := by
 refine List.Perm.eq_of_pairwise (le := fun x y => x ≤ y) (fun a b _ _ h1 h2 => Int.le_antisymm h1 h2) ?_ ((YU h).imp fun h => Int.le_of_lt h) ((List.mergeSort_perm _ _).trans (Jy h h9).symm)
 have := List.pairwise_mergeSort (le := fun x y : Int => decide (x ≤ y)) (fun a b c h1 h2 => by simp only [decide_eq_true_eq] at *; omega) (fun a b => by simp only [Bool.or_eq_true, decide_eq_true_eq]; omega) l
 exact this.imp fun h => of_decide_eq_true h
end
section
open Go.RowKit
open Vd (RSet Vdt Vote Rec Quest Piece Ballot Said)
variable {G : World} {L : ja}
def ahc : Rp Said := fun L cs s => ∃ cm, cs = .int .i64 s.up :: (cm ++ [.int .u32 s.time]) ∧ msgR L cm s.m ∧ (0 ≤ s.time ∧ s.time ≤ 4294967295) ∧ (-9223372036854775808 ≤ s.up ∧ s.up ≤ 9223372036854775807)
theorem msgR.len {L : ja} {cs : List Value} {m : Vd.Msg} (h : msgR L cs m) : cs.length = 21 := by
 obtain ⟨h0, h1, h2, h3, h4, h5, h6, h7, h8, h9, q, a, b, x, k, e0, e1, e2, e3, e4, rfl, _⟩ := h
 rfl
def abL (m : Vd.Msg) : Prop := m.answers.length ≤ 10000 ∧ (∀ x ∈ m.answers, x.name.length ≤ 1000000 ∧ x.data.length ≤ 1000000) ∧ m.auth.length ≤ 10000 ∧ (∀ x ∈ m.auth, x.name.length ≤ 1000000 ∧ x.data.length ≤ 1000000)
theorem aad (q : Quest) (m : Vd.Msg) (h : 0 ≤ m.code ∧ m.code ≤ 255) : 0 ≤ (Vd.ofM q m).1.code ∧ (Vd.ofM q m).1.code ≤ 255 := by
 unfold Vd.ofM
 split
 · simp [Vdt.none]
 split
 rename_i l pos last e _
 split
 · simp [Vdt.none]
 split
 · simp [Vdt.none]
 split
 · exact h
 split
 rename_i s is e _
 split
 · simp [Vdt.none]
 split
 · exact h
 · exact h
end
section
open Go.RowKit
open Vd (RSet Vdt Vote Rec Quest Piece Ballot Said)
variable {G : World} {L : ja}
theorem aae {q : Quest} {v : Vdt} (h : v.sets = []) : Vd.endV q v = (RSet.none, false) := by unfold Vd.endV; rw [h]; rfl
theorem YV {q : Quest} {v : Vdt} {s : RSet} (h : v.sets[v.sets.length - 1]? = some s) : Vd.endV q v = if s.kind = q.kind then (s, true) else (RSet.none, false) := by
 unfold Vd.endV
 rw [List.getLast?_eq_getElem?, h]
def SetOut (L : ja) (r : RSet × Bool) (u : Value) (M : ja) : Prop := ∃ a c B, u = .tuple #[.agg #[.string (bs r.1.name), .int .u16 r.1.kind, .int .u16 r.1.cls, .int .u32 r.1.ttl, .slice a r.1.data.length c], .bool r.2] ∧ ORow qp 9 1 [] a c r.1.data B ∧ M = B ++ L ∧ rsR B [.string (bs r.1.name), .int .u16 r.1.kind, .int .u16 r.1.cls, .int .u32 r.1.ttl, .slice a r.1.data.length c] r.1
theorem SetOut.none : SetOut L (RSet.none, false) (.tuple #[.agg #[.string (bs []), .int .u16 0, .int .u16 0, .int .u32 0, .slice none 0 0], .bool false]) L := ⟨Option.none, 0, [], rfl, ORow.nil _, rfl, JQ⟩
theorem acH (v : Vdt) (q : Quest) (a1 a2 : Option Addr) (c1 c2 : Nat) (hv : sliceR 5 rsR L [.slice a1 v.sets.length c1] v.sets) (hd : ∀ s ∈ v.sets, s.data.length ≤ 100000) :
 Spec Tryz.prog G 82 #[.agg #[.string (bs q.name), .int .u16 q.kind, .int .u16 q.cls], .agg #[.int .u8 v.code, .slice a1 v.sets.length c1, .slice a2 v.soa.length c2]] L (SetOut L (Vd.endV q v)) := by
 obtain ⟨_, k1, k2, hv⟩ := sliceR.cut hv
 unfold maxLen at k2
 refine jl (n := 31) Tryz.func82 rfl rfl rfl ?_
 refine jY (jS (jP (kx rfl) rfl ?_))
 intro bQ
 refine jP (kx rfl) rfl ?_
 intro bV
 refine jP (j4 (C := #[.string (bs []), .int .u16 0, .int .u16 0, .int .u32 0, .slice none 0 0]) zeO rfl) rfl ?_
 intro bS
 by_cases h0 : v.sets.length = 0
 · have hE := aae (q := q) (List.eq_nil_of_length_eq_zero h0)
   rw [hE]
   have h0' : ((v.sets.length : Nat) : Int) = 0 := by omega
   repeat (first | refine goA ?_ | refine jz (jm rfl (uE )) rfl ?_)
   refine ky 4 122 5 rfl rfl rfl stO (by repeat (exact List.mem_cons_self)) rfl (fun w h => Heap.cnt (L' := L) h ji) ?_
   exact SetOut.none
 · have h0' : ¬ ((v.sets.length : Nat) : Int) = 0 := by omega
   rcases hv with h1 | ⟨b1, o1, C1, t1, f1, rfl, m1, q1⟩
   · rw [h1] at h0; simp at h0
   obtain ⟨s, hs⟩ : ∃ s, v.sets[v.sets.length - 1]? = some s := ⟨_, List.getElem?_eq_getElem je⟩
   have hE := YV (q := q) hs
   obtain ⟨cs, _, hs2, hcs⟩ := q1 _ s hs
   obtain ⟨sa, sc, rfl, hsd, hs4⟩ := hs2.vals
   have hi : (((v.sets.length : Nat) : Int) - 1).toNat = v.sets.length - 1 := by omega
   rw [← hi] at hcs
   rw [hE]
   by_cases hk : s.kind = q.kind
   · rw [if_pos hk]
     refine goA ?_
     refine jz (jy [.string (bs s.name), .int .u16 s.kind, .int .u16 s.cls, .int .u32 s.ttl, .slice sa s.data.length sc] rfl stL (List.mem_cons_of_mem _ (List.mem_cons_of_mem _ (List.mem_cons_of_mem _ m1))) hcs) rfl ?_
     repeat (first | refine goA ?_ | (refine jO ?_; intro bNew))
     refine jv (jb jd rfl (Uj _ s.data (jp kw _ _ _ _ jr hsd) (Nat.le_trans (hd s (List.mem_of_getElem? hs)) je))) rfl ?_
     rintro _ _ ⟨ad, cd, Bd, rfl, hBd, rfl⟩
     have hBd' := hBd.imp (r' := qp) (L' := []) (fun cs y _ h => h)
     refine jC (L' := (bNew, Obj.cells #[.string (bs s.name), .int .u16 s.kind, .int .u16 s.cls, .int .u32 s.ttl, .slice sa s.data.length sc] 122 (0, 0)) :: ((bS, Obj.cells #[.string (bs []), .int .u16 0, .int .u16 0, .int .u32 0, .slice none 0 0] 122 (0, 0)) :: (Bd ++ L))) ?_ ji
     repeat (refine jz (qf rfl yY) rfl ?_)
     refine qg (C' := #[.string (bs s.name), .int .u16 s.kind, .int .u16 s.cls, .int .u32 s.ttl, .slice ad s.data.length cd]) rfl rfl onO rfl rfl rfl ?_
     refine goA ?_
     refine jC (L' := (bS, Obj.cells #[.string (bs []), .int .u16 0, .int .u16 0, .int .u32 0, .slice none 0 0] 122 (0, 0)) :: (Bd ++ L)) ?_ ji
     refine goA ?_
     refine ky 4 122 5 rfl rfl rfl stO (by repeat (exact List.mem_cons_self)) rfl (fun w h => Heap.cnt (L' := Bd ++ L) h ji) ?_
     exact ⟨ad, cd, Bd, rfl, hBd', rfl, _, rfl, hBd'.sliceR kw (by simp) (fun p h => h), hs4⟩
   · rw [if_neg hk]
     refine goA ?_
     refine jz (jy [.string (bs s.name), .int .u16 s.kind, .int .u16 s.cls, .int .u32 s.ttl, .slice sa s.data.length sc] rfl stL (List.mem_cons_of_mem _ (List.mem_cons_of_mem _ (List.mem_cons_of_mem _ m1))) hcs) rfl ?_
     repeat (first | refine goA ?_ | (refine jO ?_; intro bNew) | refine jz (jm rfl (uE )) rfl ?_)
     refine jC (L' := (bS, Obj.cells #[.string (bs []), .int .u16 0, .int .u16 0, .int .u32 0, .slice none 0 0] 122 (0, 0)) :: L) ?_ ji
     refine goA ?_
     refine ky 4 122 5 rfl rfl rfl stO (by repeat (exact List.mem_cons_self)) rfl (fun w h => Heap.cnt (L' := L) h ji) ?_
     exact SetOut.none
end
section
open Go.RowKit
open Vd (RSet Vdt Vote Rec Quest Piece Ballot Said)
section
variable {G : World} {P : Program} {n : Nat} {ρ : jD} {L : ja} {ty : TypeId} {Q : Exit → Act → World → Prop} {ops : Array Oper} {K : ja} {W : List Nat} {fuel : Nat} {listed : Array Bool}
theorem zq (i : Nat) {d j dj : Nat} {want b : Bool} {op : Op} {pos : String} {after : Array Edge} {Φ : Value → ja → Prop} (hr : Region.ready .any ops listed = [i]) (hi : ops[i]? = some ⟨some d, op, ty, pos, after, some (j, want)⟩) (hdn : Nat.blt d n = true)
 (hs : jH ops j = some dj) (hv : ρ.lookup dj = some (.bool b)) (hb : b = want)
 (hO : OpT P G ρ L op ty Φ) (h : ∀ v L', Φ v L' → (i ∈ W ∨ ∀ p ∈ K, p ∈ L') ∧ TA P G ops n K W Q fuel (listed.setIfInBounds i true) ((d, v) :: ρ) L') : TA P G ops n K W Q (fuel + 1) listed ρ L := by
 refine ⟨fun h0 => (by rw [hr] at h0; cases h0), fun k hk => ?_⟩
 rw [hr] at hk
 obtain rfl : k = i := by simpa using hk
 exact ⟨_, hi, fun d' e => by cases e; simpa using hdn, true, ⟨dj, _, hs, hv, by simp [Yv, hb]⟩, Or.inl ⟨rfl, Φ, hO, h⟩⟩
end
variable {G : World} {L : ja}
theorem vdR.vals {L : ja} {cs : List Value} {v : Vdt} (h : vdR L cs v) : ∃ a1 c1 a2 c2, cs = [.int .u8 v.code, .slice a1 v.sets.length c1, .slice a2 v.soa.length c2] ∧ sliceR 5 rsR L [.slice a1 v.sets.length c1] v.sets ∧ sliceR 5 rsR L [.slice a2 v.soa.length c2] v.soa ∧ (0 ≤ v.code ∧ v.code ≤ 255) := by
 obtain ⟨a, b, rfl, h1, h2, h3⟩ := h
 obtain ⟨a1, c1, e1, h1⟩ := h1.val
 obtain ⟨a2, c2, e2, h2⟩ := h2.val
 simp only [List.cons.injEq, and_true] at e1 e2
 subst e1 e2
 exact ⟨a1, c1, a2, c2, rfl, h1, h2, h3⟩
theorem Ut (l : List Vote) (x : Vote) (t : Int) : Vd.minTime (l ++ [x]) t = min (Vd.minTime l t) x.time := by simp [Vd.minTime]
theorem KN : ∀ (l : List Vote) (t : Int), (∀ x ∈ l, 0 ≤ x.time ∧ x.time ≤ 4294967295) → 0 ≤ t ∧ t ≤ 4294967295 → 0 ≤ Vd.minTime l t ∧ Vd.minTime l t ≤ 4294967295
 | [], t, _, h => h
 | s :: l, t, hl, h => by
   have := hl s (List.mem_cons_self ..)
   exact KN l (min t s.time) (fun x hx => hl x (List.mem_cons_of_mem _ hx)) je
theorem KO {L K : ja} {cs : List Value} {l : List Vote} (h : sliceR 5 (fun _ => voteR K) L cs l) : ∀ y ∈ l, 0 ≤ y.time ∧ y.time ≤ 4294967295 := fun y hy => by
 obtain ⟨a, cap, _, _, _, h4⟩ := h
 rcases h4 with rfl | ⟨b, off, C, te, fr, _, _, q3⟩
 · simp at hy
 · obtain ⟨i, hi⟩ := List.getElem?_of_mem hy
   obtain ⟨cs', _, h5, _⟩ := q3 i y hi
   obtain ⟨_, _, _, _, _, _, _, _, k, _⟩ := h5.vals
   exact k
theorem Vu (l : List Vote) (x : Vote) (w : Vdt) : Vd.alikeV (l ++ [x]) w = (Vd.alikeV l w && decide (x.vd = w)) := by simp [Vd.alikeV]
end
section
open Go.RowKit
open Vd (RSet Vdt Vote Rec Quest Piece Ballot Said)
variable {G : World} {L : ja}
theorem u9 : ∀ {l : List Vd.Bytes} {xs : List Value}, Laid qp 1 L xs l → xs = l.map Go.Proofs.encStr ∧ ∀ s ∈ l, s.length ≤ maxLen
 | [], xs, h => ⟨h, by simp⟩
 | s :: l, _, ⟨c, ys, h1, h2, h3, h4⟩ => by
   obtain ⟨k1, k2⟩ := u9 h4
   obtain ⟨rfl, h3⟩ := h3
   refine ⟨by rw [h1, k1]; rfl, fun t ht => ?_⟩
   rcases List.mem_cons.1 ht with rfl | ht
   · exact h3
   · exact k2 t ht
theorem yb : ∀ (l : List Vd.Bytes), (∀ s ∈ l, s.length ≤ maxLen) → Laid qp 1 L (l.map Go.Proofs.encStr) l
 | [], _ => rfl
 | s :: l, h => ⟨[.string (bs s)], l.map Go.Proofs.encStr, rfl, rfl, ⟨rfl, h s (List.mem_cons_self ..)⟩, yb l fun t ht => h t (List.mem_cons_of_mem _ ht)⟩
theorem Yd (l : List Vd.Bytes) : ∀ v ∈ l.map Go.Proofs.encStr, v.oneCell' = true := by
 intro v hv
 obtain ⟨s, _, rfl⟩ := List.mem_map.1 hv
 rfl
theorem Row.pre {e : TypeId} {a : Option Addr} {n c k : Nat} {xs : List Value} {B : ja} (h : Row e 1 (.slice a n c) n xs B) (hk : k ≤ n) : Row e 1 (.slice a k c) k (xs.take k) B := by
 have hl := h.len
 refine ⟨by rw [List.length_take, hl]; omega, ?_⟩
 rcases h.is with ⟨q1, q2, q3⟩ | ⟨b, cap, cur, q1, q2, q3, q4, q5, q6⟩
 · obtain ⟨rfl, _, rfl⟩ := Value.slice.inj q1
   have : k = 0 := by omega
   subst this
   exact Or.inl ⟨rfl, rfl, q3⟩
 · obtain ⟨rfl, _, rfl⟩ := Value.slice.inj q1
   refine Or.inr ⟨b, c, cur, rfl, q2, by omega, q4, q5, ?_⟩
   rw [← q6, List.take_take]
   congr 1
   omega
theorem acI {K : ja} (a : Option Addr) (c : Nat) (l : List Vd.Bytes) (B : ja) (hB : ORow qp 9 1 K a c l B) (hn : l.length ≤ 1000000) : Spec Tryz.prog G 114 #[.slice a l.length c] (B ++ L) fun u M => u = .tuple #[] ∧ ∃ B', ORow qp 9 1 K a c (l.mergeSort fun x y => decide (x ≤ y)) B' ∧ M = B' ++ L := by
 refine ⟨fun w hw => ?_⟩
 obtain ⟨xs, h1, h2, h3⟩ := hB.ex
 obtain ⟨rfl, hle⟩ := u9 h2
 rcases h1.is with ⟨q1, q2, q3⟩ | ⟨b, cap, cur, q1, q2, q3, q4, q5, q6⟩
 · have hl0 : l = [] := List.eq_nil_of_length_eq_zero q2
   subst hl0
   obtain ⟨rfl, _, rfl⟩ := Value.slice.inj q1
   refine (Tryz.slices_Sort_string_none none 0 w).mono fun e w' ⟨he, hww⟩ => ?_
   subst hww
   exact ⟨_, _, he, ⟨rfl, B, by simpa using hB, rfl⟩, hw⟩
 · obtain ⟨rfl, _, rfl⟩ := Value.slice.inj q1
   have hb : w.heap[b]? = some (.cells cur 9 (0, 0)) := hw.get (b, _) (by rw [q2]; simp)
   have hH := holds_of_block (ss := l) hb (by rw [Nat.mul_one] at q6; exact q6)
   have hlen : (l.mergeSort fun x y => decide (x ≤ y)).length = l.length := List.length_mergeSort l
   refine (Tryz.slices_Sort_string b 0 c l w hH (Array.getElem?_eq_some_iff.1 hb).1 je).mono fun e w' ⟨he, n, os, hww⟩ => ?_
   have ho := ownsRow_sorted (w := w) (base := 0) (n := n) (os := os) (ss := l) (ts := l.mergeSort fun x y => decide (x ≤ y)) hlen (Nat.zero_le _) hb q3 q4 q5
   have hg := grownBy_sorted (w := w) (g := b) (n := n) (os := os) (l.mergeSort fun x y => decide (x ≤ y)).toArray
   rw [← hww] at ho hg
   obtain ⟨B', hB', hH'⟩ := h1.after hw ho hg (Or.inl rfl)
   refine ⟨_, _, he, ⟨rfl, B', ⟨_, by rw [hlen]; exact hB', yb _ fun s hs => hle s ((List.mem_mergeSort).1 hs), Yd _⟩, rfl⟩, hH'⟩
theorem Vv (l : List Vd.Bytes) : (Lib.compact l).length ≤ l.length := by
 unfold Lib.compact Lib.compactUpTo
 rw [List.length_map]
 have := List.length_filter_le (Lib.keeps l.toArray) (List.range l.length)
 simpa using this
theorem Vw (l : List Vd.Bytes) : ∀ s ∈ Lib.compact l, s ∈ l := by
 intro s hs
 unfold Lib.compact Lib.compactUpTo at hs
 obtain ⟨i, hi, rfl⟩ := List.mem_map.1 hs
 have hi' := (List.mem_filter.1 hi).1
 rw [List.mem_range] at hi'
 simp [hi']
theorem YW {K : ja} (a : Option Addr) (c : Nat) (l : List Vd.Bytes) (B : ja) (hB : ORow qp 9 1 K a c l B) (hn : l.length ≤ 1000000) : Spec Tryz.prog G 115 #[.slice a l.length c] (B ++ L) fun u M => ∃ B', u = .slice a (Lib.compact l).length c ∧ ORow qp 9 1 K a c (Lib.compact l) B' ∧ M = B' ++ L := by
 refine ⟨fun w hw => ?_⟩
 obtain ⟨xs, h1, h2, h3⟩ := hB.ex
 obtain ⟨rfl, hle⟩ := u9 h2
 rcases h1.is with ⟨q1, q2, q3⟩ | ⟨b, cap, cur, q1, q2, q3, q4, q5, q6⟩
 · have hl0 : l = [] := List.eq_nil_of_length_eq_zero q2
   subst hl0
   obtain ⟨rfl, _, rfl⟩ := Value.slice.inj q1
   refine (Tryz.slices_Compact_string_empty none 0 w).mono fun e w' ⟨he, hww⟩ => ?_
   subst hww
   exact ⟨_, _, he, ⟨B, rfl, hB, rfl⟩, hw⟩
 · obtain ⟨rfl, _, rfl⟩ := Value.slice.inj q1
   have hb : w.heap[b]? = some (.cells cur 9 (0, 0)) := hw.get (b, _) (by rw [q2]; simp)
   have hH := holds_of_block (ss := l) hb (by rw [Nat.mul_one] at q6; exact q6)
   have hcl := Vv l
   refine (Tryz.slices_Compact_string b 0 c l w hH je q3).mono fun e w' ⟨he, n, hww⟩ => ?_
   have hlen : (Lib.compact l ++ List.replicate (l.length - (Lib.compact l).length) []).length = l.length := by simp; omega
   have ho := ownsRow_sorted (w := w) (base := 0) (n := n) (os := #[]) (ss := l) (ts := Lib.compact l ++ List.replicate (l.length - (Lib.compact l).length) []) hlen (Nat.zero_le _) hb q3 q4 q5
   have hg := grownBy_sorted (w := w) (g := b) (n := n) (os := #[]) (Lib.compact l ++ List.replicate (l.length - (Lib.compact l).length) []).toArray
   rw [Go.Sort.grow_empty, ← hww] at ho hg
   obtain ⟨B', hB', hH'⟩ := h1.after hw ho hg (Or.inl rfl)
   refine ⟨_, _, he, ⟨B', rfl, ⟨_, hB'.pre hcl, ?_, fun v hv => Yd _ v (List.mem_of_mem_take hv)⟩, rfl⟩, hH'⟩
   rw [List.map_append, List.take_left' (by simp)]
   exact yb _ fun s hs => hle s (Vw l s hs)
end
section
open Go.RowKit
variable {G : World} {L : ja}
theorem Jz : ∀ {l : List Int} {xs : List Value}, Laid (yz .i64) 1 L xs l → xs = l.map (Value.int .i64) ∧ ∀ s ∈ l, kJ .i64 s
 | [], xs, h => ⟨h, by simp⟩
 | s :: l, _, ⟨c, ys, h1, h2, h3, h4⟩ => by
   obtain ⟨k1, k2⟩ := Jz h4
   obtain ⟨rfl, h3⟩ := h3
   refine ⟨by rw [h1, k1]; rfl, fun t ht => ?_⟩
   rcases List.mem_cons.1 ht with rfl | ht
   · exact h3
   · exact k2 t ht
theorem JA : ∀ (l : List Int), (∀ s ∈ l, kJ .i64 s) → Laid (yz .i64) 1 L (l.map (Value.int .i64)) l
 | [], _ => rfl
 | s :: l, h => ⟨[.int .i64 s], l.map (Value.int .i64), rfl, rfl, ⟨rfl, h s (List.mem_cons_self ..)⟩, JA l fun t ht => h t (List.mem_cons_of_mem _ ht)⟩
theorem abM (l : List Int) : ∀ v ∈ l.map (Value.int .i64), v.oneCell' = true := by
 intro v hv
 obtain ⟨s, _, rfl⟩ := List.mem_map.1 hv
 rfl
theorem abN {K : ja} (a : Option Addr) (c : Nat) (l : List Int) (B : ja) (hB : ORow (yz .i64) 3 1 K a c l B) (hn : l.length ≤ 1000000) : Spec Tryz.prog G 192 #[.slice a l.length c] (B ++ L) fun u M => u = .tuple #[] ∧ ∃ B', ORow (yz .i64) 3 1 K a c (l.mergeSort fun x y => decide (x ≤ y)) B' ∧ M = B' ++ L := by
 refine ⟨fun w hw => ?_⟩
 obtain ⟨xs, h1, h2, h3⟩ := hB.ex
 obtain ⟨rfl, hle⟩ := Jz h2
 rcases h1.is with ⟨q1, q2, q3⟩ | ⟨b, cap, cur, q1, q2, q3, q4, q5, q6⟩
 · have hl0 : l = [] := List.eq_nil_of_length_eq_zero q2
   subst hl0
   obtain ⟨rfl, _, rfl⟩ := Value.slice.inj q1
   refine (Tryz.slices_Sort_int_none none 0 w).mono fun e w' ⟨he, hww⟩ => ?_
   subst hww
   exact ⟨_, _, he, ⟨rfl, B, by simpa using hB, rfl⟩, hw⟩
 · obtain ⟨rfl, _, rfl⟩ := Value.slice.inj q1
   have hb : w.heap[b]? = some (.cells cur 3 (0, 0)) := hw.get (b, _) (by rw [q2]; simp)
   have hH := holds_of_blockI (ss := l) hb (by rw [Nat.mul_one] at q6; exact q6)
   have hlen : (l.mergeSort fun x y => decide (x ≤ y)).length = l.length := List.length_mergeSort l
   refine (Tryz.slices_Sort_int b 0 c l w hH (Array.getElem?_eq_some_iff.1 hb).1 je).mono fun e w' ⟨he, n, os, hww⟩ => ?_
   have ho := ownsRow_sortedI (w := w) (base := 0) (n := n) (os := os) (ss := l) (ts := l.mergeSort fun x y => decide (x ≤ y)) hlen (Nat.zero_le _) hb q3 q4 q5
   have hg := grownBy_sortedI (w := w) (g := b) (n := n) (os := os) (l.mergeSort fun x y => decide (x ≤ y)).toArray
   rw [← hww] at ho hg
   obtain ⟨B', hB', hH'⟩ := h1.after hw ho hg (Or.inl rfl)
   refine ⟨_, _, he, ⟨rfl, B', ⟨_, by rw [hlen]; exact hB', JA _ fun s hs => hle s ((List.mem_mergeSort).1 hs), abM _⟩, rfl⟩, hH'⟩
end
section
open Go.RowKit
section
variable {G : World} {P : Program} {n : Nat} {ρ : jD} {L : ja} {ty : TypeId} {Q : Exit → Act → World → Prop}
theorem zr {x : Operand} {b off len : Nat} {t e : TypeId} {C : Array Value} {te : TypeId} {fr : Nat × Nat} (cs : List Value) (hx : ev ρ x = some (.pointer (some ⟨b, off, none⟩)))
 (hu : P.underlying t = some (.array len e)) (ht : (P.info? t).map (·.size) = some cs.length) (hm : (b, Obj.cells C te fr) ∈ L) (hv : ∀ j v, cs[j]? = some v → C[off + j]? = some v) : OpQ P ρ L (.load t x) ty (.agg cs.toArray) :=
 ⟨fun r hr w hw o ho _ => by
   cases hi : P.info? t with
   | none => simp [hi] at ht
   | some i =>
     simp [hi] at ht
     have ha : (isAgg t).run P w = .ok true w := by
      unfold isAgg
      simp [run_underlying hu]
     have hc := run_loadCells_list (P := P) (w := w) ⟨b, off, none⟩ cs (fun j v hj => by rw [kI]; exact hw.cell hm (hv j v hj))
     simp [execOp, ho, hr _ _ hx, Instr.loadAt, Instr.sureAddr, loadVar, ha, sizeOf, typeInfo, hi, ht, hc]⟩
theorem Uu {x y : Operand} {C : Array Value} {t e : TypeId} {len sz : Nat} {k : IntKind} {i : Int} (hx : ev ρ x = some (.agg C)) (hy : ev ρ y = some (.int k i)) (hu : P.underlying t = some (.array len e)) (he : jV P e sz = true)
 (h0 : 0 ≤ i) (h1 : i < len) : OpQ P ρ L (.index t x y) ty (.agg (C.extract (i.toNat * sz) (i.toNat * sz + sz))) :=
 ⟨fun r hr w hw o ho _ => by
   unfold jV at he
   cases hue : P.underlying e with
   | none => simp [hue] at he
   | some d =>
     cases hi : P.info? e with
     | none => simp [hi] at he
     | some ti =>
       cases d with
       | struct fs =>
         simp [hue, hi] at he
         have ha : (isAgg e).run P w = .ok true w := by
          unfold isAgg
          simp [run_underlying hue]
         simp [execOp, ho, hr _ _ hx, hr _ _ hy, Instr.index, asIntOf, run_underlying hu, h0, h1, part, ha, sizeOf, typeInfo, hi, he]
       | _ => simp [hue] at he⟩
end
end
section
open Go.RowKit
open Vd (RSet Vdt Vote Rec Quest Piece Ballot)
section
variable {G : World} {P : Program} {n : Nat} {ρ : jD} {L : ja} {ty : TypeId} {Q : Exit → Act → World → Prop}
theorem Vx {fn : Func} {Φ : Value → ja → Prop} (a t u s r : Nat) {b k : Nat} {C : Array Value} {te : TypeId} {fr : Nat × Nat} {x y z : Value} {L' : ja} (hr : fn.results = #[.cell a t, .tmp u, .tmp s, .tmp r]) (hv : ρ.lookup a = some (.pointer (some ⟨b, 0, none⟩))) (hx : ρ.lookup u = some x) (hy : ρ.lookup s = some y) (hz : ρ.lookup r = some z)
 (ht : jV P t k = true) (hm : (b, Obj.cells C te fr) ∈ L) (hk : C.size = k) (hl : ∀ w, Heap G w L → Heap G w L') (h : Φ (.tuple #[.agg C, x, y, z]) L') : TQ G n ρ L .ret (bodyPost P fn (kO G Φ)) :=
 ⟨fun ac w he hw => ⟨he.defers, .tuple #[.agg C, x, y, z], by
   obtain ⟨h1, h0⟩ := zd he hv ht (hw.get _ hm) hk
   have h2 : ac.tmps.getD u undef = x := he.reads (.tmp u) x hx
   have h3 : ac.tmps.getD s undef = y := he.reads (.tmp s) y hy
   have h4 : ac.tmps.getD r undef = z := he.reads (.tmp r) z hz
   rw [Array.getD_eq_getD_getElem?] at h1 h2 h3 h4
   simp only [results, hr]
   simp
   simp [h1, asAddr, h0, h2, h3, h4], _, L', rfl, h, hl w hw⟩⟩
theorem Vy {s x : Operand} {t e te : TypeId} {bytes bl : Nat} {z : Value} {a : Option Addr} {c : Nat} {y : Int} {l : List Int} {B L0 : ja} (E : ElemTy P t e 1 bytes z) (hs : ev ρ s = some (.slice a l.length c)) (hx : ev ρ x = some (.slice (some ⟨bl, 0, none⟩) 1 1))
 (hrow : ORow (yz .i64) e 1 L0 a c l B) (hy : kJ .i64 y) (h63 : l.length ≤ 1000000) (hb : bytes ≤ 1000) :
 OpT P G ρ ((bl, .cells #[.int .i64 y] te (0, 0)) :: (B ++ L)) (.call ⟨.builtin .append, #[s, x], #[t, t]⟩) ty fun v' L' => ∃ a' c' B', v' = .slice a' (l ++ [y]).length c' ∧ ORow (yz .i64) e 1 L0 a' c' (l ++ [y]) B' ∧ L' = B' ++ L :=
 q8 (cs := [.int .i64 y]) E hs hx hrow rfl (by intro v hv; rw [List.mem_singleton.1 hv]; rfl) ⟨rfl, hy⟩ (by unfold maxLen; omega) (Nat.le_trans (Nat.mul_le_mul (show l.length + 1 ≤ 1000001 by omega) hb) (by decide))
end
theorem aaf (p q r s : Int) (w : World) : (binOp .neq 162 (.agg #[.int .u8 p, .int .i64 r]) (.agg #[.int .u8 q, .int .i64 s])).run Tryz.prog w = .ok (.bool (!decide ((p, r) = (q, s)))) w := by
 by_cases h2 : p = q <;> by_cases h3 : r = s <;> (go_simp; try simp [h2, h3])
theorem aag (p q r s : Int) (w : World) : (binOp .eql 162 (.agg #[.int .u8 p, .int .i64 r]) (.agg #[.int .u8 q, .int .i64 s])).run Tryz.prog w = .ok (.bool (decide ((p, r) = (q, s)))) w := by
 by_cases h2 : p = q <;> by_cases h3 : r = s <;> (go_simp; try simp [h2, h3])
theorem zV {p q r s : Int} : Bin Tryz.prog .neq 162 (.agg #[.int .u8 p, .int .i64 r]) (.agg #[.int .u8 q, .int .i64 s]) (.bool (!decide ((p, r) = (q, s)))) := ⟨fun a b w => by
 have h := aaf p q r s w
 simp [eqGuard, h]⟩
theorem QF {p q r s : Int} : Bin Tryz.prog .eql 162 (.agg #[.int .u8 p, .int .i64 r]) (.agg #[.int .u8 q, .int .i64 s]) (.bool (decide ((p, r) = (q, s)))) := ⟨fun a b w => by
 have h := aag p q r s w
 simp [eqGuard, h]⟩
variable {G : World} {L : ja}
def aah (L : ja) (r : Vdt × Int × List Int × Bool) (u : Value) (M : ja) : Prop := ∃ a c B a2 c2 B2 a3 c3 B3 N, u = .tuple #[.agg #[.int .u8 r.1.code, .slice a r.1.sets.length c, .slice a2 r.1.soa.length c2], .int .u32 r.2.1, .slice a3 r.2.2.1.length c3, .bool r.2.2.2] ∧
 ORow rsR 122 5 N a c r.1.sets B ∧ ORow rsR 122 5 N a2 c2 r.1.soa B2 ∧ ORow (yz .i64) 3 1 [] a3 c3 r.2.2.1 B3 ∧ Wr N ∧ M = B3 ++ (B2 ++ (B ++ (N ++ L)))
def YX (want : Int) (vs : List Vote) : Vdt × Int × List Int × Bool := if want < 1 then (Vdt.none, 0, [], false) else qB want vs
theorem aai {x : Int} (h : 0 ≤ x ∧ x < 9) : kJ .i64 x := by
 unfold kJ Lit.wf
 simp [IntKind.min, IntKind.max, IntKind.bits, IntKind.signed]
 omega
theorem acJ {K : ja} (bb : Nat) (want : Int) (l : List Ballot) (a : Option Addr) (c : Nat) (hm : (bb, Obj.cells (j0 want (jo l) (.slice a (Vd.votesB l).length c)).toArray 165 (0, 0)) ∈ L) (hv : sliceR 5 (fun _ => voteR K) L [.slice a (Vd.votesB l).length c] (Vd.votesB l)) (hK : ∀ p ∈ K, p ∈ L) (hl : BoxOk l) (hn : l.length ≤ 9) (hs : ∀ x ∈ Vd.votesB l, SmV x.vd) :
 Spec Tryz.prog G 189 #[.pointer (some ⟨bb, 0, none⟩)] L (aah L (YX want (Vd.votesB l))) := by
 have hvl := j6 l
 have hup := hl.vup
 have hcap := (sliceR.cut hv).2
 unfold maxLen at hcap
 obtain ⟨hcap1, hcap2, _⟩ := hcap
 refine jl (n := 73) Tryz.func189 rfl rfl rfl ?_
 refine jY (jS (jP (j4 (C := #[.int .u8 0, .slice none 0 0, .slice none 0 0]) zeO rfl) rfl ?_))
 intro b2
 refine goA ?_
 refine jJ (jb jd rfl (QE bb want l a c (List.mem_cons_of_mem _ hm) (jp j5 _ _ _ _ jr hv) hl hn)) rfl ?_
 obtain ⟨vs, hvs⟩ : ∃ vs, Vd.votesB l = vs := ⟨_, rfl⟩
 rw [hvs] at hm hv hs hvl hup hcap1 ⊢
 by_cases hno : want < 1 ∨ kd want vs vs.length = none
 · have hW : yC want vs = ((0, 0), false) := by
    unfold yC
    by_cases hw : want < 1
    · rw [if_pos hw]
    · rw [if_neg hw, hno.resolve_left hw]
   have hR : YX want vs = (Vdt.none, 0, [], false) := by
    unfold YX
    by_cases hw : want < 1
    · rw [if_pos hw]
    · rw [if_neg hw]
      unfold qB
      rw [hno.resolve_left hw]
   rw [hW, hR]
   repeat (first | refine goA ?_ | (refine jO ?_; intro bNew) | refine jz (jm rfl (uW )) rfl ?_)
   refine jC (L' := (b2, Obj.cells #[.int .u8 0, .slice none 0 0, .slice none 0 0] 40 (0, 0)) :: L) ?_ ji
   refine goA ?_
   clear hm
   refine Vx 2 40 3 4 5 rfl rfl rfl rfl rfl stO (by repeat (exact List.mem_cons_self)) rfl (fun w h => Heap.cnt (L' := L) h ji) ?_
   exact ⟨none, 0, [], none, 0, [], none, 0, [], [], rfl, ORow.nil _, ORow.nil _, ORow.nil _, Wr.nil, rfl⟩
 · have hw : ¬ want < 1 := fun h => hno (Or.inl h)
   have hw1 : 1 ≤ want := by omega
   have hyes : kd want vs vs.length ≠ none := fun h => hno (Or.inr h)
   obtain ⟨j, x, hk⟩ : ∃ j x, WonBy want vs j x := by
    rcases aab hw1 vs with ⟨h, _⟩ | h
    · exact absurd h hyes
    · exact h
   have hxm := List.mem_of_getElem? hk.at_
   have hjl := (List.getElem?_eq_some_iff.1 hk.at_).1
   have hfs := qk hxm
   obtain ⟨hfl, z, hz, hzx⟩ := hfs
   have hW : yC want vs = ((2, (jE vs x.vd : Int)), true) := by
    unfold yC
    rw [if_neg hw, hk.yes]
    dsimp only
    rw [hk.at_]
   have hR : YX want vs = qB want vs := if_neg hw
   rw [hW, hR, hk.is]
   have hfi : ∀ y ∈ vs, jE vs y.vd = jE vs x.vd ↔ y.vd = x.vd := fun y hy => uc hy hxm
   obtain ⟨fx, hfx⟩ : ∃ f, jE vs x.vd = f := ⟨_, rfl⟩
   rw [hfx] at hfl hz hfi ⊢
   obtain ⟨_, kv1, kv2, hvc⟩ := sliceR.cut hv
   rcases hvc with h1 | ⟨bc, oc, cur, tc, fc, rfl, mc, hcur⟩
   · rw [h1] at hjl; simp at hjl
   have g0 : (j0 want (jo l) (.slice (some ⟨bc, oc, none⟩) vs.length c)).toArray[0 + 0]? = some (.int .i64 want) := rfl
   have g19 : (j0 want (jo l) (.slice (some ⟨bc, oc, none⟩) vs.length c)).toArray[0 + 19]? = some (.slice (some ⟨bc, oc, none⟩) vs.length c) := rfl
   repeat (first | refine goA ?_ | (refine jO ?_; intro bNew))
   obtain ⟨b6, hb6⟩ : ∃ b, bNew = b := ⟨_, rfl⟩
   rw [hb6]
   clear hb6 bNew
   have hlenW : ∀ i, ((jU (vs.take i) x.vd).map (·.up)).length = (jU (vs.take i) x.vd).length := fun i => List.length_map _
   have hW9 : ∀ i, (jU (vs.take i) x.vd).length ≤ 9 := fun i => by
    have := ((hup.take i).filter fun y => decide (y.vd = x.vd)).len
    exact this
   refine jA (σ := Nat × Option Addr × Nat × ja) (fun y => y.1 ≤ j ∧ ORow (yz .i64) 3 1 [] y.2.1 y.2.2.1 ((jU (vs.take y.1) x.vd).map (·.up)) y.2.2.2) (fun y => [(0, .pointer (some ⟨bb, 0, none⟩)), (2, .pointer (some ⟨b2, 0, none⟩)), (3, .int .u32 (ud (jU (vs.take y.1) x.vd))), (4, .slice y.2.1 ((jU (vs.take y.1) x.vd).map (·.up)).length y.2.2.1), (5, .bool true), (6, .pointer (some ⟨b6, 0, none⟩)), (20, .slice (some ⟨bc, oc, none⟩) vs.length c), (21, .int .i64 (vs.length : Nat)), (22, .int .i64 (y.1 : Nat))]) (fun y => y.2.2.2 ++ ((b6, Obj.cells #[.int .u8 2, .int .i64 (fx : Nat)] 162 (0, 0)) :: ((b2, Obj.cells #[.int .u8 0, .slice none 0 0, .slice none 0 0] 40 (0, 0)) :: L))) (fun y => vs.length - y.1) (0, none, 0, []) ⟨Nat.zero_le _, ORow.nil _⟩ ?_ (fun w h => h) ?_
   exact ju
   rintro ⟨i, a4, c4, B4⟩ ⟨hi, hB4⟩
   dsimp only at hi hB4 ⊢
   have hil : i < vs.length := by omega
   obtain ⟨y, hy⟩ : ∃ y, vs[i]? = some y := ⟨_, List.getElem?_eq_getElem hil⟩
   have hym := List.mem_of_getElem? hy
   obtain ⟨csy, _, hyv, hcy⟩ := hcur i y hy
   obtain ⟨y1, yc1, y2, yc2, rfl, hy1, hy2, hy3, hy4, hy5⟩ := hyv.vals
   obtain ⟨hu0, hu9⟩ := hup.up y hym
   have hsl : jo l y.up = (2, (jE vs y.vd : Int)) := by rw [← hvs]; exact qd hl (by rw [hvs]; exact hym)
   have hWs := uJ (vs := vs) hy x.vd
   have hWi := hlenW i
   have hWi9 := hW9 i
   have mc' : (bc, Obj.cells cur tc fc) ∈ B4 ++ ((b6, Obj.cells #[.int .u8 2, .int .i64 (fx : Nat)] 162 (0, 0)) :: ((b2, Obj.cells #[.int .u8 0, .slice none 0 0, .slice none 0 0] 40 (0, 0)) :: L)) := List.mem_append_right _ (List.mem_cons_of_mem _ (List.mem_cons_of_mem _ mc))
   refine goA ?_
   refine jz (jy [.int .i64 y.up, .int .u8 y.vd.code, .slice y1 y.vd.sets.length yc1, .slice y2 y.vd.soa.length yc2, .int .u32 y.time] rfl stL mc' hcy) rfl ?_
   repeat (first | refine goA ?_ | (refine jO ?_; intro bNew))
   obtain ⟨b8, hb8⟩ : ∃ b, bNew = b := ⟨_, rfl⟩
   rw [hb8]
   clear hb8 bNew
   have hslip : ∀ k v, ([.int .u8 2, .int .i64 (jE vs y.vd : Nat)] : List Value)[k]? = some v → (j0 want (jo l) (.slice (some ⟨bc, oc, none⟩) vs.length c)).toArray[0 + 1 + y.up.toNat * 2 + k]? = some v := fun k v hj => by
    rw [Nat.zero_add]
    match k, hj with
    | 0, hj => obtain rfl := Option.some.inj hj; rw [zU ⟨hu0, hu9⟩, hsl]
    | 1, hj => obtain rfl := Option.some.inj hj; rw [KH ⟨hu0, hu9⟩, hsl]
   have hKm : ∀ q ∈ [(b8, Obj.cells #[.int .i64 y.up, .int .u8 y.vd.code, .slice y1 y.vd.sets.length yc1, .slice y2 y.vd.soa.length yc2, .int .u32 y.time] 65 (0, 0)), (bb, Obj.cells (j0 want (jo l) (.slice (some ⟨bc, oc, none⟩) vs.length c)).toArray 165 (0, 0)), (b6, Obj.cells #[.int .u8 2, .int .i64 (fx : Nat)] 162 (0, 0))], q ∈ (b8, Obj.cells #[.int .i64 y.up, .int .u8 y.vd.code, .slice y1 y.vd.sets.length yc1, .slice y2 y.vd.soa.length yc2, .int .u32 y.time] 65 (0, 0)) :: (B4 ++ ((b6, Obj.cells #[.int .u8 2, .int .i64 (fx : Nat)] 162 (0, 0)) :: ((b2, Obj.cells #[.int .u8 0, .slice none 0 0, .slice none 0 0] 40 (0, 0)) :: L))) := by
    intro q hq
    simp only [List.mem_cons, List.not_mem_nil, or_false] at hq
    rcases hq with rfl | rfl | rfl
    · simp
    · simp [hm]
    · simp
   refine jw jc ([(b8, Obj.cells #[.int .i64 y.up, .int .u8 y.vd.code, .slice y1 y.vd.sets.length yc1, .slice y2 y.vd.soa.length yc2, .int .u32 y.time] 65 (0, 0)), (bb, Obj.cells (j0 want (jo l) (.slice (some ⟨bc, oc, none⟩) vs.length c)).toArray 165 (0, 0)), (b6, Obj.cells #[.int .u8 2, .int .i64 (fx : Nat)] 162 (0, 0))]) [] ?_
   refine tkQ 0 ?_
   refine tkQ 1 ?_
   refine tkQ 2 ?_
   refine tkQ 3 ?_
   refine tkQ 4 ?_
   refine tkQ 5 ?_
   (refine' jt 6 rfl rfl jd (jG (jy [.int .u8 2, .int .i64 (jE vs y.vd : Nat)] rfl stL (List.mem_cons_of_mem _ (List.mem_cons_self ..)) hslip)) ?_ ?_; (· assumption))
   refine tkQ 7 ?_
   (refine' jt 8 rfl rfl jd (jG (qO rfl rfl zV)) ?_ ?_; (· assumption))
   refine tdQ ?_
   clear hKm hslip
   by_cases hyx : y.vd = x.vd
   · have hne : (!decide (((2 : Int), ((jE vs y.vd : Nat) : Int)) = (2, ((fx : Nat) : Int)))) = false := by rw [(hfi y hym).2 hyx]; simp
     rw [if_pos hyx] at hWs
     obtain ⟨ws, hws⟩ : ∃ ws, jU (vs.take i) x.vd = ws := ⟨_, rfl⟩
     rw [hws] at hWs hWi hWi9 hB4 ⊢
     have htp := Ww ws y
     have htb : 0 ≤ ud ws ∧ ud ws ≤ 4294967295 := aaa fun v hv => by
      rw [← hws] at hv
      have hvm := List.mem_of_mem_take (withV_mem.1 hv).1
      obtain ⟨k, hk1⟩ := List.getElem?_of_mem hvm
      obtain ⟨_, _, hvv, _⟩ := hcur k v hk1
      obtain ⟨_, _, _, _, _, _, _, _, ht, _⟩ := hvv.vals
      exact ht
     obtain ⟨ht0, ht1⟩ := htb
     refine goF ?_
     refine W3 (σ := Unit) (fun _ => True) (fun _ => [(0, .pointer (some ⟨bb, 0, none⟩)), (2, .pointer (some ⟨b2, 0, none⟩)), (3, .int .u32 (ud (ws ++ [y]))), (4, .slice a4 (ws.map (·.up)).length c4), (5, .bool true), (6, .pointer (some ⟨b6, 0, none⟩)), (8, .pointer (some ⟨b8, 0, none⟩)), (20, .slice (some ⟨bc, oc, none⟩) vs.length c), (21, .int .i64 (vs.length : Nat)), (22, .int .i64 (i : Nat))]) (fun _ => (b8, Obj.cells #[.int .i64 y.up, .int .u8 y.vd.code, .slice y1 y.vd.sets.length yc1, .slice y2 y.vd.soa.length yc2, .int .u32 y.time] 65 (0, 0)) :: (B4 ++ ((b6, Obj.cells #[.int .u8 2, .int .i64 (fx : Nat)] 162 (0, 0)) :: ((b2, Obj.cells #[.int .u8 0, .slice none 0 0, .slice none 0 0] 40 (0, 0)) :: L)))) ?_ ?_
     · by_cases h0 : ws.length = 0
       · rw [if_pos (Or.inl h0)] at htp
         rw [htp]
         have h0' : (((ws.map (·.up)).length : Nat) : Int) = 0 := by omega
         refine goA ?_
         refine kF () trivial ?_ (fun w h => h)
         exact ju
       · have h0' : ¬ (((ws.map (·.up)).length : Nat) : Int) = 0 := by omega
         by_cases hlt : y.time < ud ws
         · rw [if_pos (Or.inr hlt)] at htp
           rw [htp]
           refine goA ?_
           refine kF () trivial ?_ (fun w h => h)
           exact ju
         · rw [if_neg (fun h => h.elim h0 hlt)] at htp
           rw [htp]
           refine goA ?_
           refine kF () trivial ?_ (fun w h => h)
           exact ju
     · rintro _ _
       have hnx : ((ws ++ [y]).map (·.up)) = ws.map (·.up) ++ [y.up] := by simp
       have g8 : (#[.int .i64 y.up, .int .u8 y.vd.code, .slice y1 y.vd.sets.length yc1, .slice y2 y.vd.soa.length yc2, .int .u32 y.time] : Array Value)[0 + 0]? = some (.int .i64 y.up) := rfl
       repeat (first | refine goA ?_ | (refine kR ?_; intro bLit))
       refine jC (L' := (bLit, Obj.cells #[.int .i64 y.up] 3 (0, 0)) :: (B4 ++ ((b6, Obj.cells #[.int .u8 2, .int .i64 (fx : Nat)] 162 (0, 0)) :: ((b2, Obj.cells #[.int .u8 0, .slice none 0 0, .slice none 0 0] 40 (0, 0)) :: L)))) ?_ ji
       refine jv (Vy etO rfl rfl hB4 (aai ⟨hu0, hu9⟩) je (by decide)) rfl ?_
       rintro _ _ ⟨a5, c5, B5, rfl, hB5, rfl⟩
       rw [← hnx, ← hWs] at hB5 ⊢
       have hl5 := hlenW (i + 1)
       have hc5 := hB5.cap
       unfold maxLen at hc5
       have hnx2 := hW9 (i + 1)
       by_cases hij : i = j
       · subst hij
         have hw5 : ((((jU (vs.take (i + 1)) x.vd).map (·.up)).length : Nat) : Int) = want := by rw [hl5]; exact hk.len
         refine goA ?_
         refine jv (jb jd rfl (abN a5 c5 _ B5 hB5 je)) rfl ?_
         rintro _ _ ⟨rfl, B6, hB6, rfl⟩
         have hVW : Vup (jU (vs.take (i + 1)) x.vd) := (hup.take _).filter _
         rw [Vt hVW.nd hVW.ups] at hB6
         have hrl := yO hVW.nd hVW.ups
         rw [← hrl]
         obtain ⟨csz, _, hzv, hcz⟩ := hcur fx z hz
         obtain ⟨z1, zc1, z2, zc2, rfl, hz1, hz2, hz3, hz4, hz5⟩ := hzv.vals
         have hczv : ∀ k v, ([.int .u8 z.vd.code, .slice z1 z.vd.sets.length zc1, .slice z2 z.vd.soa.length zc2] : List Value)[k]? = some v → cur[oc + fx * 5 + 1 + k]? = some v := fun k v hj => by
          rw [Nat.add_assoc]
          match k, hj with
          | 0, hj => exact hcz 1 v hj
          | 1, hj => exact hcz 2 v hj
          | 2, hj => exact hcz 3 v hj
         have hzvd : vdR K [.int .u8 z.vd.code, .slice z1 z.vd.sets.length zc1, .slice z2 z.vd.soa.length zc2] z.vd := ⟨_, _, rfl, hz1, hz2, hz3⟩
         have hzs := hs z (List.mem_of_getElem? hz)
         refine goA ?_
         refine W2 (L' := (b2, Obj.cells #[.int .u8 0, .slice none 0 0, .slice none 0 0] 40 (0, 0)) :: ((b6, Obj.cells #[.int .u8 2, .int .i64 (fx : Nat)] 162 (0, 0)) :: (B6 ++ L))) ?_ ji
         have hKm : ∀ q ∈ [(b6, Obj.cells #[.int .u8 2, .int .i64 (fx : Nat)] 162 (0, 0)), (bb, Obj.cells (j0 want (jo l) (.slice (some ⟨bc, oc, none⟩) vs.length c)).toArray 165 (0, 0)), (bc, Obj.cells cur tc fc)], q ∈ (b2, Obj.cells #[.int .u8 0, .slice none 0 0, .slice none 0 0] 40 (0, 0)) :: ((b6, Obj.cells #[.int .u8 2, .int .i64 (fx : Nat)] 162 (0, 0)) :: (B6 ++ L)) := by
          intro q hq
          simp only [List.mem_cons, List.not_mem_nil, or_false] at hq
          rcases hq with rfl | rfl | rfl
          · simp
          · simp [hm]
          · simp [mc]
         have hKm2 : ∀ q ∈ [(b6, Obj.cells #[.int .u8 2, .int .i64 (fx : Nat)] 162 (0, 0)), (bb, Obj.cells (j0 want (jo l) (.slice (some ⟨bc, oc, none⟩) vs.length c)).toArray 165 (0, 0)), (bc, Obj.cells cur tc fc)], q ∈ (b6, Obj.cells #[.int .u8 2, .int .i64 (fx : Nat)] 162 (0, 0)) :: (B6 ++ L) := by
          intro q hq
          simp only [List.mem_cons, List.not_mem_nil, or_false] at hq
          rcases hq with rfl | rfl | rfl
          · simp
          · simp [hm]
          · simp [mc]
         refine jw jc ([(b6, Obj.cells #[.int .u8 2, .int .i64 (fx : Nat)] 162 (0, 0)), (bb, Obj.cells (j0 want (jo l) (.slice (some ⟨bc, oc, none⟩) vs.length c)).toArray 165 (0, 0)), (bc, Obj.cells cur tc fc)]) [] ?_
         refine tkQ 0 ?_
         refine tkQ 1 ?_
         refine tkQ 2 ?_
         refine tkQ 3 ?_
         refine tkQ 4 ?_
         refine tkQ 5 ?_
         refine tkQ 6 ?_
         refine tkQ 7 ?_
         (refine' jt 8 rfl rfl jd (jG (jy [.int .u8 z.vd.code, .slice z1 z.vd.sets.length zc1, .slice z2 z.vd.soa.length zc2] rfl stL (List.mem_cons_of_mem _ (List.mem_cons_of_mem _ (List.mem_cons_self ..))) hczv)) ?_ ?_; (· assumption))
         refine tkQ 10 ?_
         refine tkQ 11 ?_
         refine jF 9 jd rfl rfl rfl rfl (jb jd rfl (u7 _ z.vd (ki _ _ _ _ (fun p hp => (jr) p (hK p hp)) hzvd) hzs)) ?_; rintro _ _ ⟨aR, cR, BR, aS, cS, BS, NR, rfl, hR2, hS2, hNR, rfl⟩; refine ⟨Or.inr (fun q hq => (jr) q (hKm q hq)), ?_⟩
         refine jZ (L' := (b2, Obj.cells #[.int .u8 0, .slice none 0 0, .slice none 0 0] 40 (0, 0)) :: (BS ++ (BR ++ (NR ++ ((b6, Obj.cells #[.int .u8 2, .int .i64 (fx : Nat)] 162 (0, 0)) :: (B6 ++ L)))))) ?_ ji; refine jW 12 jd rfl rfl rfl (qj rfl rfl stO rfl rfl rfl) ?_; rintro _ _ ⟨_, rfl⟩; refine ⟨Or.inr (fun q hq => (jr) q (hKm2 q hq)), ?_⟩
         refine tkQ 13 ?_
         refine tkQ 14 ?_
         refine tkQ 15 ?_
         refine tdQ ?_
         refine goA ?_
         rw [hzx] at hR2 hS2 ⊢
         refine Vx 2 40 3 4 5 rfl rfl rfl rfl rfl stO (by repeat (exact List.mem_cons_self)) rfl (fun w h => Heap.cnt (L' := B6 ++ (BS ++ (BR ++ (NR ++ L)))) h ji) ?_
         exact ⟨_, _, _, _, _, _, _, _, _, _, rfl, hR2, hS2, hB6, hNR, rfl⟩
       · have hlt : i + 1 ≤ j := by omega
         have hno1 : kd want vs (i + 1) = none := by
          cases h : kd want vs (i + 1) with
          | none => rfl
          | some k =>
            have h5 := KF (i + 1) j hlt h
            rw [hk.no] at h5
            cases h5
         have hw5 : ¬ ((((jU (vs.take (i + 1)) x.vd).map (·.up)).length : Nat) : Int) = want := by
          rw [hl5]
          have := KG hw1 (i + 1) je hno1 x.vd
          omega
         refine goA ?_
         refine jh (i + 1, a5, c5, B5) ⟨hlt, hB5⟩ ?_ (fun w h => h.cnt ji) (by dsimp only; omega)
         exact ju
   · have hne : (!decide (((2 : Int), ((jE vs y.vd : Nat) : Int)) = (2, ((fx : Nat) : Int)))) = true := by
      have : ¬ jE vs y.vd = fx := fun h => hyx ((hfi y hym).1 h)
      simp
      omega
     rw [if_neg hyx] at hWs
     have hij : i ≠ j := by
      intro e
      rw [e, hk.at_] at hy
      exact hyx (by rw [Option.some.inj hy])
     have hlt : i + 1 ≤ j := by omega
     refine goA ?_
     refine jh (i + 1, a4, c4, B4) ⟨hlt, by dsimp only; rw [hWs]; exact hB4⟩ ?_ (fun w h => h.cnt ji) (by dsimp only; omega)
     rw [hWs]
     exact ju
end
section
open Go.RowKit
open Vd (RSet Vdt Vote Rec Quest Piece Ballot)
variable {G : World} {L : ja}
theorem aaj {l : List Ballot} {w : Int} (h : (jo l w).1 = 2) : ∃ y ∈ Vd.votesB l, y.up = w := by
 unfold jo at h
 cases hf : l.find? (fun b => b.v.up == w) with
 | none => rw [hf] at h; cases h
 | some b =>
   rw [hf] at h
   have h1 := List.find?_some hf
   have h2 := List.mem_of_find?_eq_some hf
   dsimp only at h
   cases hp : b.pass with
   | true => rw [hp] at h; cases h
   | false => exact ⟨b.v, votesB_mem.2 ⟨b, h2, hp, rfl⟩, by simpa using h1⟩
def agB (l : List Ballot) (f : Int) (w : Int) : Bool := decide ((jo l w).1 = 2) && !decide (((jo l w).1, (jo l w).2) = (2, f))
theorem Qk {l : List Ballot} (hl : BoxOk l) {want : Int} {j : Nat} {x : Vote} (hk : WonBy want (Vd.votesB l) j x) : kB want (Vd.votesB l) = nine.filter (agB l (jE (Vd.votesB l) x.vd : Nat)) := by
 have hup := hl.vup
 have hxm := List.mem_of_getElem? hk.at_
 unfold kB
 rw [hk.is]
 rw [if_pos rfl, qK (hup.filter _).nd]
 refine List.filter_congr fun w hw => ?_
 dsimp only
 rw [Bool.eq_iff_iff, decide_eq_true_eq, List.mem_map]
 unfold agB
 rw [Bool.and_eq_true, decide_eq_true_eq, Bool.not_eq_true', decide_eq_false_iff_not]
 constructor
 · rintro ⟨y, hy, rfl⟩
   obtain ⟨h1, h2⟩ := List.mem_filter.1 hy
   rw [qd hl h1]
   refine ⟨rfl, fun e => ?_⟩
   have h3 : ¬ y.vd = x.vd := by simpa using h2
   refine h3 ((uc h1 hxm).1 ?_)
   have := (Prod.mk.inj e).2
   omega
 · rintro ⟨h1, h2⟩
   obtain ⟨y, hy, rfl⟩ := aaj h1
   refine ⟨y, List.mem_filter.2 ⟨hy, ?_⟩, rfl⟩
   rw [qd hl hy] at h2
   have : ¬ y.vd = x.vd := fun e => h2 (by rw [e])
   simpa using this
def KP (l : List Ballot) (w : Int) (n : Nat) : Nat := (nine.take n).countP fun t => decide (((jo l t).1, (jo l t).2) = ((jo l w).1, (jo l w).2))
theorem QG {l : List Ballot} (hl : BoxOk l) {y : Vote} (hy : y ∈ Vd.votesB l) : KP l y.up 9 = (jU (Vd.votesB l) y.vd).length := by
 have hup := hl.vup
 have h1 := yO (hup.filter fun x => decide (x.vd = y.vd)).nd (hup.filter _).ups
 rw [List.length_map] at h1
 unfold jU
 rw [← h1, qK (hup.filter _).nd, ← List.countP_eq_length_filter]
 unfold KP
 have : nine.take 9 = nine := rfl
 rw [this]
 refine List.countP_congr fun w hw => ?_
 rw [decide_eq_true_eq, decide_eq_true_eq, List.mem_map, qd hl hy]
 constructor
 · intro e
   obtain ⟨z, hz, rfl⟩ := aaj (l := l) (w := w) (Prod.mk.inj e).1
   rw [qd hl hz] at e
   refine ⟨z, List.mem_filter.2 ⟨hz, ?_⟩, rfl⟩
   have := (Prod.mk.inj e).2
   simpa using (uc hz hy).1 je
 · rintro ⟨z, hz, rfl⟩
   obtain ⟨h2, h3⟩ := List.mem_filter.1 hz
   rw [qd hl h2]
   rw [of_decide_eq_true h3]
def ut (l : List Ballot) (n : Nat) : Int := (nine.take n).foldl (fun m w => if (jo l w).1 = 2 then max m ((KP l w 9 : Nat) : Int) else m) 0
theorem zt {l : List Ballot} {m : Int} : ∀ {ws : List Int} {k : Int}, ws.foldl (fun m w => if (jo l w).1 = 2 then max m ((KP l w 9 : Nat) : Int) else m) k ≤ m ↔ k ≤ m ∧ ∀ w ∈ ws, (jo l w).1 = 2 → ((KP l w 9 : Nat) : Int) ≤ m := by
 intro ws
 induction ws with
 | nil => intro k; simp
 | cons w r ih =>
   intro k
   rw [List.foldl_cons, ih]
   simp only [List.mem_cons, forall_eq_or_imp]
   split
   · rename_i h
     constructor
     · rintro ⟨h1, h2⟩; exact ⟨by omega, fun _ => by omega, h2⟩
     · rintro ⟨h1, h2, h3⟩; have := h2 h; exact ⟨by omega, h3⟩
   · rename_i h
     constructor
     · rintro ⟨h1, h2⟩; exact ⟨h1, fun k => absurd k h, h2⟩
     · rintro ⟨h1, h2, h3⟩; exact ⟨h1, h3⟩
theorem aak {l : List Ballot} (hl : BoxOk l) : ut l 9 = ub (Vd.votesB l) := by
 have hup := hl.vup
 have h0 : ut l 9 ≤ ut l 9 := Int.le_refl _
 have h1 := (zt (l := l) (ws := nine.take 9)).1 h0
 have h2 : ub (Vd.votesB l) ≤ ut l 9 := mostR_le.2 ⟨h1.1, fun x hx => by
  rw [← QG hl hx]
  refine h1.2 x.up (mem_nine.2 (hup.up x hx)) ?_
  rw [qd hl hx]⟩
 have h3 : ut l 9 ≤ ub (Vd.votesB l) := (zt (l := l) (ws := nine.take 9)).2 ⟨zp _, fun w hw h => by
  obtain ⟨y, hy, rfl⟩ := aaj h
  rw [QG hl hy]
  exact aac hy⟩
 omega
theorem Uv {u : Nat} (h : u < 9) : nine[u]? = some (u : Int) := by
 match u, h with
 | 0, _ | 1, _ | 2, _ | 3, _ | 4, _ | 5, _ | 6, _ | 7, _ | 8, _ => rfl
theorem zW {f : Int → Int × Int} {u : Nat} (h : u < 9) : (kl f).toArray.extract ((u : Int).toNat * 2) ((u : Int).toNat * 2 + 2) = #[.int .u8 (f u).1, .int .i64 (f u).2] := by
 match u, h with
 | 0, _ | 1, _ | 2, _ | 3, _ | 4, _ | 5, _ | 6, _ | 7, _ | 8, _ => rfl
theorem zu {want : Int} {f : Int → Int × Int} {v : Value} : ∀ j x, (kl f)[j]? = some x → (j0 want f v).toArray[0 + 1 + j]? = some x := fun j x hj => by
 have hl : (kl f).length = 18 := rfl
 have hj2 := (List.getElem?_eq_some_iff.1 hj).1
 unfold j0
 rw [Nat.zero_add, Nat.add_comm, List.getElem?_toArray, List.getElem?_cons_succ, List.getElem?_append_left hj2]
 exact hj
theorem aal : nine.length = 9 := rfl
theorem Wx {K : ja} (bb : Nat) (want : Int) (l : List Ballot) (a : Option Addr) (c : Nat) (hm : (bb, Obj.cells (j0 want (jo l) (.slice a (Vd.votesB l).length c)).toArray 165 (0, 0)) ∈ L) (hv : sliceR 5 (fun _ => voteR K) L [.slice a (Vd.votesB l).length c] (Vd.votesB l)) (hl : BoxOk l) (hn : l.length ≤ 9) :
 Spec Tryz.prog G 190 #[.pointer (some ⟨bb, 0, none⟩)] L fun u M => ∃ a3 c3 B3, u = .slice a3 (if want < 1 then [] else kB want (Vd.votesB l)).length c3 ∧ ORow (yz .i64) 3 1 [] a3 c3 (if want < 1 then [] else kB want (Vd.votesB l)) B3 ∧ M = B3 ++ L := by
 have hvl := j6 l
 have hup := hl.vup
 refine jl (n := 37) Tryz.func190 rfl rfl rfl ?_
 refine goA ?_
 refine jJ (jb jd rfl (QE bb want l a c hm hv hl hn)) rfl ?_
 by_cases hno : want < 1 ∨ kd want (Vd.votesB l) (Vd.votesB l).length = none
 · have hW : yC want (Vd.votesB l) = ((0, 0), false) := by
    unfold yC
    by_cases hw : want < 1
    · rw [if_pos hw]
    · rw [if_neg hw, hno.resolve_left hw]
   have hR : (if want < 1 then [] else kB want (Vd.votesB l)) = [] := by
    by_cases hw : want < 1
    · rw [if_pos hw]
    · rw [if_neg hw]
      unfold kB qB
      rw [hno.resolve_left hw]
      rfl
   rw [hW, hR]
   repeat (first | refine goA ?_ | (refine jO ?_; intro bNew))
   refine jB (L' := L) ?_ ji
   refine jf 2 _ rfl rfl ?_
   exact ⟨none, 0, [], rfl, ORow.nil _, rfl⟩
 · have hw : ¬ want < 1 := fun h => hno (Or.inl h)
   have hw1 : 1 ≤ want := by omega
   obtain ⟨j, x, hk⟩ : ∃ j x, WonBy want (Vd.votesB l) j x := by
    rcases aab hw1 (Vd.votesB l) with ⟨h, _⟩ | h
    · exact absurd (Or.inr h) hno
    · exact h
   have hW : yC want (Vd.votesB l) = ((2, (jE (Vd.votesB l) x.vd : Int)), true) := by
    unfold yC
    rw [if_neg hw, hk.yes]
    dsimp only
    rw [hk.at_]
   rw [hW, if_neg hw, Qk hl hk]
   obtain ⟨fx, hfx⟩ : ∃ f, jE (Vd.votesB l) x.vd = f := ⟨_, rfl⟩
   rw [hfx]
   obtain ⟨vv, hvv⟩ : ∃ v, Value.slice a (Vd.votesB l).length c = v := ⟨_, rfl⟩
   rw [hvv] at hm
   repeat (first | refine goA ?_ | (refine jO ?_; intro bNew))
   obtain ⟨b3, hb3⟩ : ∃ b, bNew = b := ⟨_, rfl⟩
   rw [hb3]
   clear hb3 bNew
   refine jz (zr (kl (jo l)) rfl unO jd (List.mem_cons_of_mem _ hm) zu) rfl ?_
   refine goA ?_
   refine jA (σ := Nat × Option Addr × Nat × ja) (fun y => y.1 ≤ 9 ∧ ORow (yz .i64) 3 1 [] y.2.1 y.2.2.1 ((nine.take y.1).filter (agB l (fx : Nat))) y.2.2.2) (fun y => [(3, .pointer (some ⟨b3, 0, none⟩)), (5, .slice y.2.1 ((nine.take y.1).filter (agB l (fx : Nat))).length y.2.2.1), (18, .agg (kl (jo l)).toArray), (19, .int .i64 (y.1 : Nat))]) (fun y => y.2.2.2 ++ ((b3, Obj.cells #[.int .u8 2, .int .i64 (fx : Nat)] 162 (0, 0)) :: L)) (fun y => 9 - y.1) (0, none, 0, []) ⟨Nat.zero_le _, ORow.nil _⟩ ?_ (fun w h => h) ?_
   exact ju
   rintro ⟨i, a4, c4, B4⟩ ⟨hi, hB4⟩
   dsimp only at hi hB4 ⊢
   have hl4 := List.length_filter_le (agB l (fx : Nat)) (nine.take i)
   rw [List.length_take, aal] at hl4
   by_cases hil : i < 9
   · have hext := zW (f := jo l) hil
     have htk : nine.take (i + 1) = nine.take i ++ [(i : Int)] := by rw [List.take_add_one, Uv hil]; rfl
     refine goA ?_
     refine jz (Uu rfl rfl unO stO je je) rfl ?_
     rw [hext]
     repeat (first | refine goA ?_ | (refine jO ?_; intro bNew))
     obtain ⟨b7, hb7⟩ : ∃ b, bNew = b := ⟨_, rfl⟩
     rw [hb7]
     clear hb7 bNew
     by_cases hk2 : (jo l (i : Int)).1 = 2
     · by_cases hne : ((jo l (i : Int)).1, (jo l (i : Int)).2) = (2, ((fx : Nat) : Int))
       · have hq : (!decide (((jo l (i : Int)).1, (jo l (i : Int)).2) = (2, ((fx : Nat) : Int)))) = false := by simp [hne]
         have hp : (nine.take (i + 1)).filter (agB l (fx : Nat)) = (nine.take i).filter (agB l (fx : Nat)) := by
          have : agB l (fx : Nat) (i : Int) = false := by unfold agB; rw [hq, Bool.and_false]
          rw [htk, List.filter_append]
          simp [this]
         repeat (first | refine goA ?_ | refine jM (qO rfl rfl zV) rfl ?_)
         refine jh (i + 1, a4, c4, B4) ⟨hil, by dsimp only; rw [hp]; exact hB4⟩ ?_ (fun w h => h.cnt ji) (by dsimp only; omega)
         dsimp only
         rw [hp]
         exact ju
       · have hq : (!decide (((jo l (i : Int)).1, (jo l (i : Int)).2) = (2, ((fx : Nat) : Int)))) = true := by simp [hne]
         have hp : (nine.take (i + 1)).filter (agB l (fx : Nat)) = (nine.take i).filter (agB l (fx : Nat)) ++ [(i : Int)] := by
          have : agB l (fx : Nat) (i : Int) = true := by unfold agB; rw [hq, hk2]; rfl
          rw [htk, List.filter_append]
          simp [this]
         repeat (first | refine goA ?_ | refine jM (qO rfl rfl zV) rfl ?_ | (refine kR ?_; intro bLit))
         refine jC (L' := (bLit, Obj.cells #[.int .i64 (i : Nat)] 3 (0, 0)) :: (B4 ++ ((b3, Obj.cells #[.int .u8 2, .int .i64 (fx : Nat)] 162 (0, 0)) :: L))) ?_ ji
         refine jv (Vy etO rfl rfl hB4 (aai ⟨by omega, by omega⟩) je (by decide)) rfl ?_
         rintro _ _ ⟨a5, c5, B5, rfl, hB5, rfl⟩
         rw [← hp] at hB5 ⊢
         refine goA ?_
         refine jh (i + 1, a5, c5, B5) ⟨hil, hB5⟩ ?_ (fun w h => h.cnt ji) (by dsimp only; omega)
         exact ju
     · have hp : (nine.take (i + 1)).filter (agB l (fx : Nat)) = (nine.take i).filter (agB l (fx : Nat)) := by
        have : agB l (fx : Nat) (i : Int) = false := by unfold agB; rw [decide_eq_false hk2, Bool.false_and]
        rw [htk, List.filter_append]
        simp [this]
       refine goA ?_
       refine jh (i + 1, a4, c4, B4) ⟨hil, by dsimp only; rw [hp]; exact hB4⟩ ?_ (fun w h => h.cnt ji) (by dsimp only; omega)
       dsimp only
       rw [hp]
       exact ju
   · have hie : i = 9 := by omega
     subst hie
     have h9 : nine.take 9 = nine := rfl
     rw [h9] at hB4 ⊢
     refine goA ?_
     refine jB (L' := B4 ++ L) ?_ ji
     refine jf 2 _ rfl rfl ?_
     exact ⟨a4, c4, B4, rfl, hB4, rfl⟩
theorem abO (bb : Nat) (want : Int) (l : List Ballot) (vv : Value) (hm : (bb, Obj.cells (j0 want (jo l) vv).toArray 165 (0, 0)) ∈ L) (hl : BoxOk l) :
 Spec Tryz.prog G 186 #[.pointer (some ⟨bb, 0, none⟩)] L fun u M => u = .int .i64 (ub (Vd.votesB l)) ∧ M = L := by
 have hcs : ∀ w n, KP l w n ≤ n := fun w n => Nat.le_trans List.countP_le_length (by rw [List.length_take]; omega)
 have hms : ∀ n, 0 ≤ ut l n ∧ ut l n ≤ 9 := fun n => by
  have h1 := (zt (l := l) (ws := nine.take n) (k := 0)).1 (Int.le_refl _)
  refine ⟨h1.1, (zt (l := l) (ws := nine.take n) (k := 0)).2 ⟨by omega, fun w _ _ => ?_⟩⟩
  have := hcs w 9
  omega
 refine jl (n := 39) Tryz.func186 rfl rfl rfl ?_
 refine goA ?_
 refine jz (zr (kl (jo l)) rfl unO jd hm zu) rfl ?_
 refine goA ?_
 refine jA (σ := Nat) (fun y => y ≤ 9) (fun y => [(0, .pointer (some ⟨bb, 0, none⟩)), (3, .int .i64 (ut l y)), (14, .agg (kl (jo l)).toArray), (15, .int .i64 (y : Nat))]) (fun y => L) (fun y => 9 - y) 0 (Nat.zero_le _) ?_ (fun w h => h) ?_
 exact ju
 rintro i hi
 by_cases hil : i < 9
 · have hext := zW (f := jo l) hil
   have htk : nine.take (i + 1) = nine.take i ++ [(i : Int)] := by rw [List.take_add_one, Uv hil]; rfl
   have hmn : ut l (i + 1) = if (jo l (i : Int)).1 = 2 then max (ut l i) ((KP l (i : Int) 9 : Nat) : Int) else ut l i := by
    unfold ut
    rw [htk, List.foldl_append]
    rfl
   refine goA ?_
   refine jz (Uu rfl rfl unO stO je je) rfl ?_
   rw [hext]
   repeat (first | refine goA ?_ | (refine jO ?_; intro bNew))
   obtain ⟨b5, hb5⟩ : ∃ b, bNew = b := ⟨_, rfl⟩
   rw [hb5]
   clear hb5 bNew
   by_cases hk2 : (jo l (i : Int)).1 = 2
   · rw [if_pos hk2] at hmn
     refine goA ?_
     refine jz (zr (kl (jo l)) rfl unO jd (List.mem_cons_of_mem _ hm) zu) rfl ?_
     refine goA ?_
     refine jA (σ := Nat) (fun y => y ≤ 9) (fun y => [(0, .pointer (some ⟨bb, 0, none⟩)), (3, .int .i64 (ut l i)), (5, .pointer (some ⟨b5, 0, none⟩)), (6, .int .i64 (KP l (i : Int) y : Nat)), (14, .agg (kl (jo l)).toArray), (15, .int .i64 (i : Nat)), (24, .agg (kl (jo l)).toArray), (25, .int .i64 (y : Nat))]) (fun y => (b5, Obj.cells #[.int .u8 (jo l (i : Int)).1, .int .i64 (jo l (i : Int)).2] 162 (0, 0)) :: L) (fun y => 9 - y) 0 (Nat.zero_le _) ?_ (fun w h => h) ?_
     exact ju
     rintro k hk
     by_cases hkl : k < 9
     · have hextk := zW (f := jo l) hkl
       have htkk : nine.take (k + 1) = nine.take k ++ [(k : Int)] := by rw [List.take_add_one, Uv hkl]; rfl
       have hcn : KP l (i : Int) (k + 1) = KP l (i : Int) k + if decide (((jo l (k : Int)).1, (jo l (k : Int)).2) = ((jo l (i : Int)).1, (jo l (i : Int)).2)) = true then 1 else 0 := by
        unfold KP
        rw [htkk, List.countP_append, List.countP_cons, List.countP_nil, Nat.zero_add]
       have hck := hcs (i : Int) k
       refine goA ?_
       refine jz (Uu rfl rfl unO stO je je) rfl ?_
       rw [hextk]
       cases hd : decide (((jo l (k : Int)).1, (jo l (k : Int)).2) = ((jo l (i : Int)).1, (jo l (i : Int)).2)) with
       | true =>
         rw [hd, if_pos rfl] at hcn
         repeat (first | refine goA ?_ | refine jz (qO rfl rfl QF) rfl ?_ | (refine jO ?_; intro bNew))
         refine jh (k + 1) hkl ?_ (fun w h => h.cnt ji) je
         rw [hcn]
         exact ju
       | false =>
         rw [hd, if_neg (by simp)] at hcn
         repeat (first | refine goA ?_ | refine jz (qO rfl rfl QF) rfl ?_ | (refine jO ?_; intro bNew))
         refine jh (k + 1) hkl ?_ (fun w h => h.cnt ji) je
         rw [hcn]
         exact ju
     · have hke : k = 9 := by omega
       subst hke
       have hms1 := hms i
       have hck := hcs (i : Int) 9
       refine goA ?_
       refine jh (i + 1) hil ?_ (fun w h => h.cnt ji) je
       rw [hmn]
       exact ju
   · rw [if_neg hk2] at hmn
     refine goA ?_
     refine jh (i + 1) hil ?_ (fun w h => h.cnt ji) je
     rw [hmn]
     exact ju
 · have hie : i = 9 := by omega
   subst hie
   rw [aak hl]
   refine goA ?_
   refine jf 2 _ rfl rfl ?_
   exact ⟨rfl, rfl⟩
end
section
open Go.RowKit
open Vd (RSet Vdt Vote Rec Quest Piece Ballot)
variable {G : World} {L : ja}
def aho (l : List Int) (n : Nat) : List Int := (List.range n).flatMap fun (n : Nat) => l.filter fun x => x == (n : Int)
def afG (K L : ja) (r : Vdt × Int × List Int × Bool) (u : Value) (M : ja) : Prop := ∃ cs a3 c3 B3, u = .tuple #[.agg cs.toArray, .int .u32 r.2.1, .slice a3 r.2.2.1.length c3, .bool r.2.2.2] ∧ vdR K cs r.1 ∧ ORow (yz .i64) 3 1 [] a3 c3 r.2.2.1 B3 ∧ M = B3 ++ L
end
section
open Go.RowKit
open Vd (RSet Vdt Vote Rec Quest Piece Ballot)
variable {G : World} {L : ja}
structure BallC (K : ja) (C : Array Value) (o : Nat) (x : Ballot) (a1 : Option Addr) (c1 : Nat) (a2 : Option Addr) (c2 : Nat) : Prop where
 up : C[o + 0 + 0]? = some (.int .i64 x.v.up)
 pass : C[o + 5]? = some (.bool x.pass)
 vd : ∀ j v, ([.int .u8 x.v.vd.code, .slice a1 x.v.vd.sets.length c1, .slice a2 x.v.vd.soa.length c2] : List Value)[j]? = some v → C[o + 0 + 1 + j]? = some v
 is : vdR K [.int .u8 x.v.vd.code, .slice a1 x.v.vd.sets.length c1, .slice a2 x.v.vd.soa.length c2] x.v.vd
 bd : -9223372036854775808 ≤ x.v.up ∧ x.v.up ≤ 9223372036854775807
end
section
open Go.RowKit
open Vd (RSet Vdt Vote Rec Quest Piece Ballot)
variable {G : World} {L : ja}
theorem acK (want : Int) : Spec Tryz.prog G 41 #[.int .i64 want] L fun u M => (1 ≤ want ∧ want ≤ 9 ∧ ∃ bb, u = .tuple #[.pointer (some ⟨bb, 0, none⟩), .int .i64 0] ∧ M = (bb, Obj.cells (j0 want (jo []) (.slice none (Vd.votesB []).length 0)).toArray 165 (0, 0)) :: L) ∨ ((want < 1 ∨ 9 < want) ∧ u = .tuple #[.pointer none, .int .i64 1] ∧ M = L) := by
 refine jl (n := 13) Tryz.func41 rfl rfl rfl ?_
 by_cases h1 : want < 1
 · refine goA ?_
   refine jN 2 3 _ _ rfl rfl rfl ?_
   exact Or.inr ⟨Or.inl h1, rfl, rfl⟩
 · by_cases h9 : 9 < want
   · refine goA ?_
     refine jN 2 3 _ _ rfl rfl rfl ?_
     exact Or.inr ⟨Or.inr h9, rfl, rfl⟩
   · repeat (first | refine goA ?_ | (refine kk ?_; intro bBox) | refine jz (jm rfl (ZI _)) rfl ?_)
     refine jN 2 3 _ _ rfl rfl rfl ?_
     exact Or.inl ⟨by omega, by omega, _, rfl, rfl⟩
end
section
open Go.RowKit
open Vd (RSet Vdt Vote Rec Quest Piece Ballot)
variable {G : World} {L : ja}
theorem YY {w : Int} {m c : Nat} {ad : Option Addr} {v0 v1 v2 v3 v4 v5 v6 v7 v8 v9 v10 v11 v12 v13 v14 v15 v16 v17 : Value} : Built Tryz.prog 165 [(0, .int .i64 w), (1, .agg #[v0, v1, v2, v3, v4, v5, v6, v7, v8, v9, v10, v11, v12, v13, v14, v15, v16, v17]), (2, .slice ad m c)] (.agg #[.int .i64 w, v0, v1, v2, v3, v4, v5, v6, v7, v8, v9, v10, v11, v12, v13, v14, v15, v16, v17, .slice ad m c]) := ⟨fun w => by kernel_rfl⟩
theorem abP {K : ja} (bb : Nat) (want : Int) (l : List Ballot) (M0 : ja) (hb : TBox K bb want l M0) (hK : ∀ p ∈ K, p ∈ L) (hn : l.length ≤ 9) (hs : ∀ x ∈ Vd.votesB l, SmV x.vd) :
 Spec Tryz.prog G 51 #[.pointer (some ⟨bb, 0, none⟩)] (M0 ++ L) fun u M => ∃ b2 M2 N, u = .pointer (some ⟨b2, 0, none⟩) ∧ TBox N b2 want l M2 ∧ Wr N ∧ M = M2 ++ (N ++ (M0 ++ L)) := by
 obtain ⟨a, c, B, hB, rfl⟩ := hb
 have hvl := j6 l
 have g0 : (j0 want (jo l) (.slice a (Vd.votesB l).length c)).toArray[0 + 0]? = some (.int .i64 want) := rfl
 have g19 : (j0 want (jo l) (.slice a (Vd.votesB l).length c)).toArray[0 + 19]? = some (.slice a (Vd.votesB l).length c) := rfl
 have hv : sliceR 5 voteR ((bb, Obj.cells (j0 want (jo l) (.slice a (Vd.votesB l).length c)).toArray 165 (0, 0)) :: (B ++ L)) [.slice a (Vd.votesB l).length c] (Vd.votesB l) := (hB.mono kA (fun p hp => List.mem_cons_of_mem _ (List.mem_append_right _ (hK p hp)))).sliceR kA (fun p h => h) jr
 have hKm : ∀ q ∈ [(bb, Obj.cells (j0 want (jo l) (.slice a (Vd.votesB l).length c)).toArray 165 (0, 0))], q ∈ ((bb, Obj.cells (j0 want (jo l) (.slice a (Vd.votesB l).length c)).toArray 165 (0, 0)) :: B) ++ L := by
  intro q hq
  rw [List.mem_singleton.1 hq]
  simp
 refine jl (n := 20) Tryz.func51 rfl rfl rfl ?_
 repeat (first | refine goA ?_ | (refine kk ?_; intro bBox) | refine jz (jm rfl (bl_165_0_1_2 )) rfl ?_)
 refine jw jc ([(bb, Obj.cells (j0 want (jo l) (.slice a (Vd.votesB l).length c)).toArray 165 (0, 0))]) [] ?_
 refine tkQ 0 ?_
 refine tkQ 1 ?_
 refine tkQ 2 ?_
 refine tkQ 3 ?_
 refine tkQ 4 ?_
 refine tkQ 5 ?_
 refine tkQ 6 ?_
 first | (refine' jt 7 rfl rfl jd (jG (zr (kl (jo l)) rfl unO jd (List.mem_cons_self ..) zu)) ?_ ?_; (· first | assumption | (intro p hp; grind)))
 refine tkQ 8 ?_
 refine tkQ 9 ?_
 refine tkQ 10 ?_
 refine tkQ 11 ?_
 refine jF 12 jd rfl rfl rfl rfl (jb jd rfl (zn _ (Vd.votesB l) hv je hs)) ?_; rintro _ _ ⟨a2, c2, B2, N, rfl, hB2, hN, rfl⟩; refine ⟨Or.inr (fun q hq => List.mem_append_right _ (List.mem_append_right _ (hKm q hq))), ?_⟩
 first | (refine' jt 13 rfl rfl jd (jG (jm rfl YY)) ?_ ?_; (· first | assumption | (intro p hp; grind)))
 refine jF 14 jd rfl rfl rfl rfl (kx rfl) ?_; rintro _ _ ⟨b2, rfl, rfl⟩; refine ⟨Or.inr (fun q hq => List.mem_cons_of_mem _ (List.mem_append_right _ (List.mem_append_right _ (hKm q hq)))), ?_⟩
 refine tkQ 15 ?_
 refine tdQ ?_
 repeat (first | refine goA ?_ | (refine kk ?_; intro bBox) | refine jz (jm rfl (bl_165_0_1_2 )) rfl ?_)
 refine jf 2 _ rfl rfl ?_
 exact ⟨b2, _, N, rfl, ⟨a2, c2, B2, hB2, rfl⟩, hN, rfl⟩
end
section
open Go.RowKit
open Vd (RSet Vdt Vote Rec Quest Piece Ballot Said)
def endedR (q : Quest) (K D : ja) : List Value → Vote → Prop := fun cs x => ∃ a1 c1 a2 c2 a3 c3, cs = [.int .i64 x.up, .int .u8 x.vd.code, .slice a1 x.vd.sets.length c1, .slice a2 x.vd.soa.length c2, .int .u32 x.time, .string (bs (Vd.endV q x.vd).1.name), .int .u16 (Vd.endV q x.vd).1.kind, .int .u16 (Vd.endV q x.vd).1.cls, .int .u32 (Vd.endV q x.vd).1.ttl, .slice a3 (Vd.endV q x.vd).1.data.length c3, .bool (Vd.endV q x.vd).2] ∧
 voteR K [.int .i64 x.up, .int .u8 x.vd.code, .slice a1 x.vd.sets.length c1, .slice a2 x.vd.soa.length c2, .int .u32 x.time] x ∧ rsR D [.string (bs (Vd.endV q x.vd).1.name), .int .u16 (Vd.endV q x.vd).1.kind, .int .u16 (Vd.endV q x.vd).1.cls, .int .u32 (Vd.endV q x.vd).1.ttl, .slice a3 (Vd.endV q x.vd).1.data.length c3] (Vd.endV q x.vd).1
def ql (q : Quest) (x : Vote) : List Vd.Bytes := if (Vd.endV q x.vd).2 then (Vd.endV q x.vd).1.data else []
def jT (q : Quest) (l : List Vote) : List Vd.Bytes := l.flatMap (ql q)
theorem zv {q : Quest} {l : List Vote} {i : Nat} {x : Vote} (h : l[i]? = some x) : jT q (l.take (i + 1)) = jT q (l.take i) ++ ql q x := by
 unfold jT
 rw [List.take_add_one, h]
 simp
theorem JB (q : Quest) (n : Nat) (l : List Vote) (hl : ∀ x ∈ l, (Vd.endV q x.vd).1.data.length ≤ n) : ∀ i, i ≤ l.length → (jT q (l.take i)).length ≤ i * n
 | 0, _ => by simp [jT]
 | i + 1, h => by
   have ih := JB q n l hl i je
   have hx : l[i]? = some l[i] := List.getElem?_eq_getElem je
   rw [zv hx, List.length_append, Nat.succ_mul]
   have := hl l[i] (List.getElem_mem _)
   unfold ql
   split <;> simp <;> omega
variable {G : World} {L : ja}
theorem YZ {K D : ja} (v : Value) (q : Quest) (l : List Vote) (hDL : ∀ p ∈ D, p ∈ L) (hq1 : q.name.length ≤ 1000000) (hq2 : 0 ≤ q.kind ∧ q.kind ≤ 65535) (hq3 : 0 ≤ q.cls ∧ q.cls ≤ 65535) (hl : sliceR 11 (fun _ => endedR q K D) L [v] l) (hn : l.length ≤ 100) (hd : ∀ x ∈ l, (Vd.endV q x.vd).1.data.length ≤ 600) :
 Spec Tryz.prog G 83 #[.agg #[.string (bs q.name), .int .u16 q.kind, .int .u16 q.cls], v] L (Z2 L ⟨0, [⟨Nm.fold q.name, q.kind, q.cls, 0, Lib.compact ((jT q l).mergeSort fun x y => decide (x ≤ y))⟩], []⟩) := by
 obtain ⟨av, cv, e1, hl⟩ := hl.val
 simp only [List.cons.injEq, and_true] at e1
 subst e1
 obtain ⟨_, ka1, ka2, hl⟩ := sliceR.cut hl
 have hln := JB q 600 l hd
 refine jl (n := 42) Tryz.func83 rfl rfl rfl ?_
 refine jY (jS (jP (kx rfl) rfl ?_))
 intro bQ
 refine jP (j4 (C := #[.int .u8 0, .slice none 0 0, .slice none 0 0]) zeO rfl) rfl ?_
 intro b4
 have hKm : ∀ z ∈ [(bQ, Obj.cells #[.string (bs q.name), .int .u16 q.kind, .int .u16 q.cls] 24 (0, 0))], z ∈ (b4, Obj.cells #[.int .u8 0, .slice none 0 0, .slice none 0 0] 40 (0, 0)) :: ((bQ, Obj.cells #[.string (bs q.name), .int .u16 q.kind, .int .u16 q.cls] 24 (0, 0)) :: L) := jr
 refine goA ?_
 refine jw jc ([(bQ, Obj.cells #[.string (bs q.name), .int .u16 q.kind, .int .u16 q.cls] 24 (0, 0))]) [] ?_
 refine tkQ 0 ?_
 refine tkQ 1 ?_
 refine' jt 2 rfl rfl jd (jR jd rfl (fun _ _ => Wi _ ?_)) ?_ ?_; (· omega); (· assumption)
 refine tkQ 3 ?_
 refine tkQ 4 ?_
 refine tkQ 5 ?_
 refine tkQ 6 ?_
 (refine' jt 7 rfl rfl jd (jG (jm rfl (Q9 _ _ _))) ?_ ?_; (· assumption))
 refine jF 8 jd rfl rfl rfl rfl (j4 (C := #[.string (bs []), .int .u16 0, .int .u16 0, .int .u32 0, .slice none 0 0]) zeO rfl) ?_; rintro _ _ ⟨b5, rfl, rfl⟩; refine ⟨Or.inr jr, ?_⟩
 refine jW 9 jd rfl rfl rfl (qj rfl rfl stO rfl rfl rfl) ?_; rintro _ _ ⟨_, rfl⟩; refine ⟨Or.inr jr, ?_⟩
 refine tdQ ?_
 refine goA ?_
 refine jA (σ := Nat × Option Addr × Nat × ja) (fun y => y.1 ≤ l.length ∧ ORow qp 9 1 [] y.2.1 y.2.2.1 (jT q (l.take y.1)) y.2.2.2) (fun y => [(4, .pointer (some ⟨b4, 0, none⟩)), (5, .pointer (some ⟨b5, 0, none⟩)), (16, .slice av l.length cv), (17, .int .i64 (l.length : Nat)), (18, .int .i64 (y.1 : Nat))])
  (fun y => (b5, Obj.cells #[.string (bs (Nm.fold q.name)), .int .u16 q.kind, .int .u16 q.cls, .int .u32 0, .slice y.2.1 (jT q (l.take y.1)).length y.2.2.1] 122 (0, 0)) :: ((b4, Obj.cells #[.int .u8 0, .slice none 0 0, .slice none 0 0] 40 (0, 0)) :: (y.2.2.2 ++ L))) (fun y => l.length - y.1) (0, none, 0, []) ⟨Nat.zero_le _, ORow.nil _⟩ ?_ (fun w h => Heap.cnt (L' := (b5, Obj.cells #[.string (bs (Nm.fold q.name)), .int .u16 q.kind, .int .u16 q.cls, .int .u32 0, .slice none 0 0] 122 (0, 0)) :: ((b4, Obj.cells #[.int .u8 0, .slice none 0 0, .slice none 0 0] 40 (0, 0)) :: ([] ++ L))) h ji) ?_
 exact ju
 rintro ⟨i, a, c, B⟩ ⟨hi, hB⟩
 dsimp only at hi hB ⊢
 have hlni := hln i hi
 have hlb : i * 600 ≤ 100 * 600 := Nat.mul_le_mul_right _ je
 by_cases hil : i < l.length
 · obtain ⟨x, hx⟩ : ∃ x, l[i]? = some x := ⟨_, List.getElem?_eq_getElem hil⟩
   have hxm := List.mem_of_getElem? hx
   have htk := zv (q := q) hx
   rcases hl with rfl | ⟨b1, o1, C1, t1, f1, rfl, m1, q1⟩
   · simp at hil
   obtain ⟨_, _, ⟨a1, c1, a2, c2, a3, c3, rfl, _, hend⟩, hcx⟩ := q1 i x hx
   obtain ⟨a3', c3', hee, hed, _⟩ := hend.vals
   simp only [List.cons.injEq, and_true, true_and, Value.slice.injEq] at hee
   obtain ⟨rfl, rfl⟩ := hee
   have hdx := hd x hxm
   have m1' : (b1, Obj.cells C1 t1 f1) ∈ (b5, Obj.cells #[.string (bs (Nm.fold q.name)), .int .u16 q.kind, .int .u16 q.cls, .int .u32 0, .slice a (jT q (l.take i)).length c] 122 (0, 0)) :: ((b4, Obj.cells #[.int .u8 0, .slice none 0 0, .slice none 0 0] 40 (0, 0)) :: (B ++ L)) := List.mem_cons_of_mem _ (List.mem_cons_of_mem _ (List.mem_append_right _ m1))
   refine goA ?_
   refine jz (jy [.int .i64 x.up, .int .u8 x.vd.code, .slice a1 x.vd.sets.length c1, .slice a2 x.vd.soa.length c2, .int .u32 x.time, .string (bs (Vd.endV q x.vd).1.name), .int .u16 (Vd.endV q x.vd).1.kind, .int .u16 (Vd.endV q x.vd).1.cls, .int .u32 (Vd.endV q x.vd).1.ttl, .slice a3 (Vd.endV q x.vd).1.data.length c3, .bool (Vd.endV q x.vd).2] rfl stL m1' hcx) rfl ?_
   cases his : (Vd.endV q x.vd).2 with
   | false =>
     have hed0 : ql q x = [] := by unfold ql; rw [his]; rfl
     rw [hed0, List.append_nil] at htk
     repeat (first | refine goA ?_ | (refine jO ?_; intro bNew))
     refine jh (i + 1, a, c, B) ⟨hil, by dsimp only; rw [htk]; exact hB⟩ ?_ (fun w h => by dsimp only; rw [htk]; exact h.tail) (by dsimp only; omega)
     exact ju
   | true =>
     have hed0 : ql q x = (Vd.endV q x.vd).1.data := by unfold ql; rw [his]; rfl
     rw [hed0] at htk
     repeat (first | refine goA ?_ | (refine jO ?_; intro bNew))
     refine jC (L' := B ++ ((b5, Obj.cells #[.string (bs (Nm.fold q.name)), .int .u16 q.kind, .int .u16 q.cls, .int .u32 0, .slice a (jT q (l.take i)).length c] 122 (0, 0)) :: ((b4, Obj.cells #[.int .u8 0, .slice none 0 0, .slice none 0 0] 40 (0, 0)) :: L))) ?_ ji
     refine jv (qw (L0 := D) (l := jT q (l.take i)) (m := (Vd.endV q x.vd).1.data) etO rfl rfl rfl rfl (hB.mono kw (by simp)) hed (fun p hp => List.mem_cons_of_mem _ (List.mem_cons_of_mem _ (hDL p hp))) kw Yb je (by decide)) rfl ?_
     rintro _ _ ⟨a', c', B', rfl, hB', rfl⟩
     refine jC (L' := (b5, Obj.cells #[.string (bs (Nm.fold q.name)), .int .u16 q.kind, .int .u16 q.cls, .int .u32 0, .slice a (jT q (l.take i)).length c] 122 (0, 0)) :: ((b4, Obj.cells #[.int .u8 0, .slice none 0 0, .slice none 0 0] 40 (0, 0)) :: (B' ++ L))) ?_ ji
     repeat (refine jz (qf rfl yY) rfl ?_)
     refine qg (C' := #[.string (bs (Nm.fold q.name)), .int .u16 q.kind, .int .u16 q.cls, .int .u32 0, .slice a' (jT q (l.take i) ++ (Vd.endV q x.vd).1.data).length c']) rfl rfl onO rfl rfl rfl ?_
     refine goA ?_
     refine jh (i + 1, a', c', B') ⟨hil, by dsimp only; rw [htk]; exact hB'.imp (L' := []) (fun cs y _ h => h)⟩ ?_ (fun w h => by dsimp only; rw [htk]; exact h) (by dsimp only; omega)
     exact ju
 · have hie : i = l.length := by omega
   subst hie
   rw [List.take_length] at hB hlni ⊢
   refine goA ?_
   refine jv (OpT.heap (L' := B ++ ((b5, Obj.cells #[.string (bs (Nm.fold q.name)), .int .u16 q.kind, .int .u16 q.cls, .int .u32 0, .slice a (jT q l).length c] 122 (0, 0)) :: ((b4, Obj.cells #[.int .u8 0, .slice none 0 0, .slice none 0 0] 40 (0, 0)) :: L))) (fun w h => h.cnt ji) (jb jd rfl (acI a c _ B hB je))) rfl ?_
   rintro _ _ ⟨rfl, B', hB', rfl⟩
   have hsl : ((jT q l).mergeSort fun x y => decide (x ≤ y)).length = (jT q l).length := List.length_mergeSort _
   refine jC (L' := (b5, Obj.cells #[.string (bs (Nm.fold q.name)), .int .u16 q.kind, .int .u16 q.cls, .int .u32 0, .slice a (jT q l).length c] 122 (0, 0)) :: ((b4, Obj.cells #[.int .u8 0, .slice none 0 0, .slice none 0 0] 40 (0, 0)) :: (B' ++ L))) ?_ ji
   refine goA ?_
   rw [← hsl]
   refine jv (OpT.heap (L' := B' ++ ((b5, Obj.cells #[.string (bs (Nm.fold q.name)), .int .u16 q.kind, .int .u16 q.cls, .int .u32 0, .slice a ((jT q l).mergeSort fun x y => decide (x ≤ y)).length c] 122 (0, 0)) :: ((b4, Obj.cells #[.int .u8 0, .slice none 0 0, .slice none 0 0] 40 (0, 0)) :: L))) (fun w h => h.cnt ji) (jb jd rfl (YW a c _ B' hB' (by rw [hsl]; omega)))) rfl ?_
   rintro _ _ ⟨B2, rfl, hB2, rfl⟩
   refine jC (L' := (b5, Obj.cells #[.string (bs (Nm.fold q.name)), .int .u16 q.kind, .int .u16 q.cls, .int .u32 0, .slice a ((jT q l).mergeSort fun x y => decide (x ≤ y)).length c] 122 (0, 0)) :: ((b4, Obj.cells #[.int .u8 0, .slice none 0 0, .slice none 0 0] 40 (0, 0)) :: (B2 ++ L))) ?_ ji
   obtain ⟨R, hR⟩ : ∃ R, Lib.compact ((jT q l).mergeSort fun x y => decide (x ≤ y)) = R := ⟨_, rfl⟩
   rw [hR] at hB2 ⊢
   repeat (refine jz (qf rfl yY) rfl ?_)
   refine qg (C' := #[.string (bs (Nm.fold q.name)), .int .u16 q.kind, .int .u16 q.cls, .int .u32 0, .slice a R.length c]) rfl rfl onO rfl rfl rfl ?_
   repeat (first | refine goA ?_ | refine jz (jm rfl (Yz _ _ _ _)) rfl ?_ | (refine kR ?_; intro bLit))
   refine jC (L' := (b4, Obj.cells #[.int .u8 0, .slice none 0 0, .slice none 0 0] 40 (0, 0)) :: ((bLit, Obj.cells #[.string (bs (Nm.fold q.name)), .int .u16 q.kind, .int .u16 q.cls, .int .u32 0, .slice a R.length c] 122 (0, 0)) :: (B2 ++ L))) ?_ ji
   refine goA ?_
   have hr : rsR B2 [.string (bs (Nm.fold q.name)), .int .u16 q.kind, .int .u16 q.cls, .int .u32 0, .slice a R.length c] ⟨Nm.fold q.name, q.kind, q.cls, 0, R⟩ := ⟨_, rfl, hB2.sliceR kw (by simp) (fun p h => h), by have := qS q.name; unfold maxLen; dsimp only; omega, hq2, hq3, by simp⟩
   refine ke 4 40  rfl rfl  stO (by repeat (exact List.mem_cons_self)) rfl (fun w h => Heap.cnt (L' := [] ++ ([(bLit, Obj.cells #[.string (bs (Nm.fold q.name)), .int .u16 q.kind, .int .u16 q.cls, .int .u32 0, .slice a R.length c] 122 (0, 0))] ++ (B2 ++ L))) h ji) ?_
   exact ⟨_, _, _, none, 0, [], B2, rfl, Um hr, ORow.nil _, hB2.wr, rfl⟩
end
end Go.Proofs.YtbjkkoacclfejaaGreat
