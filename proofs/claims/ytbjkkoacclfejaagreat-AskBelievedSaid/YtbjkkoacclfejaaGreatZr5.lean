/-
 Part 5: Kf Kg Ki Gq Gr Gs Gu Kj Kl Km Kn Ko Kp Kq Kr Gv Gw Qe.
-/
import Derived.Test.YtbjkkoacclfejaaGreatZr4
import Derived.Test.YtbjkkoacclfejaaGreatZr1
import Derived.Test.YtbjkkoacclfejaaGreatZr2
import Derived.Test.YtbjkkoacclfejaaGreatShelf
import Derived.Sort.OwnSorted
import Derived.Sort.OwnSortedInts
import Derived.Sort.Walk0
import Derived.Lib.SlicesCompact
set_option maxRecDepth 100000
set_option maxHeartbeats 4000000
set_option linter.unusedVariables false
set_option linter.unusedSimpArgs false
namespace Go.Proofs.YtbjkkoacclfejaaGreat
section
open Go.RowKit
open Vd (RSet Vdt Vote Rec Quest Piece Ballot)
variable {G : World} {L : ja}
def QE (f : Nat → Nat) : List Value := [.int .i64 (f 0 : Nat), .int .i64 (f 1 : Nat), .int .i64 (f 2 : Nat), .int .i64 (f 3 : Nat), .int .i64 (f 4 : Nat), .int .i64 (f 5 : Nat), .int .i64 (f 6 : Nat), .int .i64 (f 7 : Nat), .int .i64 (f 8 : Nat)]
theorem WD {f : Nat → Nat} {k : Nat} (h : k < 9) : (QE f).toArray[0 + (k : Int).toNat * 1]? = some (.int .i64 (f k : Nat)) := by
 match k, h with
 | 0, _ | 1, _ | 2, _ | 3, _ | 4, _ | 5, _ | 6, _ | 7, _ | 8, _ => rfl
theorem abs {f g : Nat → Nat} {k : Nat} (h : k < 9) (hg : ∀ j, g j = f j + (if k = j then 1 else 0)) : (QE f).toArray.setIfInBounds (0 + (k : Int).toNat * 1) (.int .i64 ((f k : Nat) + 1 : Int)) = (QE g).toArray := by
 match k, h with
 | 0, _ | 1, _ | 2, _ | 3, _ | 4, _ | 5, _ | 6, _ | 7, _ | 8, _ => simp [QE, hg]
def zy (want : Int) (vs : List Vote) : (Int × Int) × Bool := if want < 1 then ((0, 0), false) else match jZ want vs vs.length with
 | none => ((0, 0), false)
 | some j => match vs[j]? with
   | some x => ((2, (jC vs x.vd : Int)), true)
   | none => ((0, 0), false)
theorem UD {K : ja} (bb : Nat) (want : Int) (l : List Ballot) (a : Option Addr) (c : Nat) (hm : (bb, Obj.cells (kf want (jp l) (.slice a (Vd.votesB l).length c)).toArray 165 (0, 0)) ∈ L) (hv : sliceR 5 (fun _ => voteR K) L [.slice a (Vd.votesB l).length c] (Vd.votesB l)) (hl : BoxOk l) (hn : l.length ≤ 9) :
 Spec Tryz.prog G 191 #[.pointer (some ⟨bb, 0, none⟩)] L fun w M => w = .tuple #[.agg #[.int .u8 (zy want (Vd.votesB l)).1.1, .int .i64 (zy want (Vd.votesB l)).1.2], .bool (zy want (Vd.votesB l)).2] ∧ M = L := by
 obtain ⟨vs, hvs⟩ : ∃ vs, Vd.votesB l = vs := ⟨_, rfl⟩
 have hvl := kn l
 rw [hvs] at hm hv hvl ⊢
 have g0 : (kf want (jp l) (.slice a vs.length c)).toArray[0 + 0]? = some (.int .i64 want) := rfl
 have g19 : (kf want (jp l) (.slice a vs.length c)).toArray[0 + 19]? = some (.slice a vs.length c) := rfl
 refine jl (n := 52) Tryz.func191 rfl rfl rfl ?_
 refine j7 (jO (jP (kh (C := #[.int .u8 0, .int .i64 0]) zeO rfl) rfl ?_))
 intro b2
 by_cases hw : want < 1
 · have hW : zy want vs = ((0, 0), false) := if_pos hw
   rw [hW]
   repeat (first | refine goA ?_ | refine jy (jm rfl (Vj )) rfl ?_)
   refine kR 2 162 3 rfl rfl rfl stO (by repeat (exact List.mem_cons_self)) rfl (fun w h => Heap.cnt (L' := L) h ji) ?_
   exact ⟨rfl, rfl⟩
 · have hw1 : 1 ≤ want := by omega
   repeat (first | refine goA ?_ | (refine jQ ?_; intro bNew))
   obtain ⟨b4, hb4⟩ : ∃ b, bNew = b := ⟨_, rfl⟩
   rw [hb4]
   clear hb4 bNew
   refine jz (σ := Nat) (fun i => i ≤ vs.length ∧ jZ want vs i = none) (fun i => [(0, .pointer (some ⟨bb, 0, none⟩)), (2, .pointer (some ⟨b2, 0, none⟩)), (3, .bool false), (4, .pointer (some ⟨b4, 0, none⟩)), (21, .slice a vs.length c), (22, .int .i64 (vs.length : Nat)), (23, .int .i64 (i : Nat))]) (fun i => (b4, Obj.cells (QE (yh vs i)).toArray 47 (0, 0)) :: ((b2, Obj.cells #[.int .u8 0, .int .i64 0] 162 (0, 0)) :: L)) (fun i => vs.length - i) 0 ⟨Nat.zero_le _, rfl⟩ ?_ (fun w h => h) ?_
   exact js
   rintro i ⟨hi, hno⟩
   by_cases hil : i < vs.length
   · obtain ⟨y, hy⟩ : ∃ y, vs[i]? = some y := ⟨_, List.getElem?_eq_getElem hil⟩
     have hym := List.mem_of_getElem? hy
     obtain ⟨_, kv1, kv2, hvc⟩ := sliceR.cut hv
     rcases hvc with h1 | ⟨bc, oc, cur, tc, fc, rfl, mc, hcur⟩
     · rw [h1] at hil; simp at hil
     obtain ⟨csy, _, hyv, hcy⟩ := hcur i y hy
     obtain ⟨y1, yc1, y2, yc2, rfl, hy1, hy2, hy3, hy4, hy5⟩ := hyv.vals
     obtain ⟨b, hb1, hb2, hb3⟩ := votesB_mem.1 (by rw [hvs]; exact hym)
     have hup : 0 ≤ y.up ∧ y.up < 9 := by rw [← hb3]; exact hl.up b hb1
     obtain ⟨hu0, hu9⟩ := hup
     have hsl : jp l y.up = (2, (jC vs y.vd : Int)) := by rw [← hvs]; exact qA hl (by rw [hvs]; exact hym)
     have hfl := (qF hym).1
     refine goA ?_
     refine jy (jA [.int .i64 y.up, .int .u8 y.vd.code, .slice y1 y.vd.sets.length yc1, .slice y2 y.vd.soa.length yc2, .int .u32 y.time] rfl stL (List.mem_cons_of_mem _ (List.mem_cons_of_mem _ mc)) hcy) rfl ?_
     repeat (first | refine goA ?_ | (refine jQ ?_; intro bNew))
     obtain ⟨b6, hb6⟩ : ∃ b, bNew = b := ⟨_, rfl⟩
     rw [hb6]
     clear hb6 bNew
     have hslip : ∀ j v, ([.int .u8 2, .int .i64 (jC vs y.vd : Nat)] : List Value)[j]? = some v → (kf want (jp l) (.slice (some ⟨bc, oc, none⟩) vs.length c)).toArray[0 + 1 + y.up.toNat * 2 + j]? = some v := fun j v hj => by
      rw [Nat.zero_add]
      match j, hj with
      | 0, hj => obtain rfl := Option.some.inj hj; rw [JH ⟨hu0, hu9⟩, hsl]
      | 1, hj => obtain rfl := Option.some.inj hj; rw [QB ⟨hu0, hu9⟩, hsl]
     have hKm : ∀ z ∈ [(b6, Obj.cells #[.int .i64 y.up, .int .u8 y.vd.code, .slice y1 y.vd.sets.length yc1, .slice y2 y.vd.soa.length yc2, .int .u32 y.time] 65 (0, 0)), (bb, Obj.cells (kf want (jp l) (.slice (some ⟨bc, oc, none⟩) vs.length c)).toArray 165 (0, 0))], z ∈ (b6, Obj.cells #[.int .i64 y.up, .int .u8 y.vd.code, .slice y1 y.vd.sets.length yc1, .slice y2 y.vd.soa.length yc2, .int .u32 y.time] 65 (0, 0)) :: ((b4, Obj.cells (QE (yh vs i)).toArray 47 (0, 0)) :: ((b2, Obj.cells #[.int .u8 0, .int .i64 0] 162 (0, 0)) :: L)) := by
      intro z hz
      simp only [List.mem_cons, List.not_mem_nil, or_false] at hz
      rcases hz with rfl | rfl
      · simp
      · exact List.mem_cons_of_mem _ (List.mem_cons_of_mem _ (List.mem_cons_of_mem _ hm))
     refine JG (σ := Nat) (fun _ => True) (fun b7 => [(0, .pointer (some ⟨bb, 0, none⟩)), (2, .pointer (some ⟨b2, 0, none⟩)), (3, .bool false), (4, .pointer (some ⟨b4, 0, none⟩)), (7, .pointer (some ⟨b7, 0, none⟩)), (21, .slice (some ⟨bc, oc, none⟩) vs.length c), (22, .int .i64 (vs.length : Nat)), (23, .int .i64 (i : Nat))]) (fun b7 => (b4, Obj.cells (QE (yh vs i)).toArray 47 (0, 0)) :: ((b7, Obj.cells #[.int .u8 2, .int .i64 (jC vs y.vd : Nat)] 162 (0, 0)) :: ((b2, Obj.cells #[.int .u8 0, .int .i64 0] 162 (0, 0)) :: L))) ?_ ?_
     · skip
       refine jw jc ([(b6, Obj.cells #[.int .i64 y.up, .int .u8 y.vd.code, .slice y1 y.vd.sets.length yc1, .slice y2 y.vd.soa.length yc2, .int .u32 y.time] 65 (0, 0)), (bb, Obj.cells (kf want (jp l) (.slice (some ⟨bc, oc, none⟩) vs.length c)).toArray 165 (0, 0))]) [] ?_
       refine tkQ 0 ?_
       refine tkQ 1 ?_
       refine tkQ 2 ?_
       refine tkQ 3 ?_
       refine tkQ 4 ?_
       refine tkQ 5 ?_
       (refine' ju 6 rfl rfl je (jF (jA [.int .u8 2, .int .i64 (jC vs y.vd : Nat)] rfl stL (List.mem_cons_of_mem _ (List.mem_cons_self ..)) hslip)) ?_ ?_; (· assumption))
       refine jD 7 je rfl rfl rfl rfl (kh (C := #[.int .u8 0, .int .i64 0]) zeO rfl) ?_
       rintro _ _ ⟨b7, rfl, rfl⟩
       refine ⟨Or.inr (by exact (fun z hz => j9 ji z (hKm z hz))), ?_⟩
       refine jU 8 je rfl rfl rfl (qn rfl rfl stO rfl rfl rfl) ?_
       rintro _ _ ⟨_, rfl⟩
       refine ⟨Or.inr (by exact (fun z hz => j9 ji z (hKm z hz))), ?_⟩
       refine tdQ ?_
       refine kS b7 trivial ?_ (fun w h => h.cnt ji)
       exact js
     · rintro b7 _
       clear hKm
       have hf9 : jC vs y.vd < 9 := by omega
       have hcb : yh vs i (jC vs y.vd) ≤ 9 := Nat.le_trans List.countP_le_length (by rw [List.length_take]; omega)
       have gc := WD (f := yh vs i) hf9
       have gc2 := WD (f := yh vs (i + 1)) hf9
       have gs := abs (f := yh vs i) (g := yh vs (i + 1)) hf9 (fun j => ZP hy j)
       have hcw := ZO (i + 1) hym
       have hex := Ur hw1 hy hno
       have hws := zG hy hno
       refine goE ?_
       refine qx (C' := (QE (yh vs (i + 1))).toArray) rfl rfl onO rfl gc gs ?_
       have hK : ∀ z ∈ (b4, Obj.cells (QE (yh vs (i + 1))).toArray 47 (0, 0)) :: ((b7, Obj.cells #[.int .u8 2, .int .i64 (jC vs y.vd : Nat)] 162 (0, 0)) :: ((b2, Obj.cells #[.int .u8 0, .int .i64 0] 162 (0, 0)) :: L)), z ∈ (b4, Obj.cells (QE (yh vs (i + 1))).toArray 47 (0, 0)) :: ((b7, Obj.cells #[.int .u8 2, .int .i64 (jC vs y.vd : Nat)] 162 (0, 0)) :: ((b2, Obj.cells #[.int .u8 0, .int .i64 0] 162 (0, 0)) :: L)) := fun z h => h
       refine goA ?_
       refine jw jc ((b4, Obj.cells (QE (yh vs (i + 1))).toArray 47 (0, 0)) :: ((b7, Obj.cells #[.int .u8 2, .int .i64 (jC vs y.vd : Nat)] 162 (0, 0)) :: ((b2, Obj.cells #[.int .u8 0, .int .i64 0] 162 (0, 0)) :: L))) [] ?_
       refine tkQ 0 ?_
       refine tkQ 1 ?_
       refine tkQ 2 ?_
       refine tkQ 3 ?_
       refine tkQ 4 ?_
       refine tkQ 5 ?_
       refine tkQ 6 ?_
       refine tkQ 7 ?_
       refine tkQ 8 ?_
       refine tdQ ?_
       by_cases hwin : ((jH (vs.take (i + 1)) y.vd).length : Int) = want
       · have hwon : jZ want vs (i + 1) = some i := by rw [hws, if_pos (hex.2 hwin)]
         have hW : zy want vs = ((2, (jC vs y.vd : Int)), true) := by
          unfold zy
          rw [if_neg hw, Qn (i + 1) vs.length jd hwon]
          dsimp only
          rw [hy]
         rw [hW]
         have hwin' : ((yh vs (i + 1) (jC vs y.vd) : Nat) : Int) = want := by rw [hcw]; exact hwin
         refine goA ?_
         refine jE (L' := (b2, Obj.cells #[.int .u8 0, .int .i64 0] 162 (0, 0)) :: L) ?_ ji
         refine goA ?_
         refine kR 2 162 3 rfl rfl rfl stO (by repeat (exact List.mem_cons_self)) rfl (fun w h => Heap.cnt (L' := L) h ji) ?_
         exact ⟨rfl, rfl⟩
       · have hwin' : ¬ ((yh vs (i + 1) (jC vs y.vd) : Nat) : Int) = want := by rw [hcw]; exact hwin
         have hno' : jZ want vs (i + 1) = none := by rw [hws, if_neg (fun h => hwin (hex.1 h))]
         refine goA ?_
         refine jg (i + 1) ⟨hil, hno'⟩ ?_ (fun w h => h.cnt ji) jd
         exact js
   · have hie : i = vs.length := by omega
     subst hie
     have hW : zy want vs = ((0, 0), false) := by unfold zy; rw [if_neg hw, hno]
     rw [hW]
     repeat (first | refine goA ?_ | refine jy (jm rfl (Vj )) rfl ?_)
     refine jE (L' := (b2, Obj.cells #[.int .u8 0, .int .i64 0] 162 (0, 0)) :: L) ?_ ji
     refine goA ?_
     refine kR 2 162 3 rfl rfl rfl stO (by repeat (exact List.mem_cons_self)) rfl (fun w h => Heap.cnt (L' := L) h ji) ?_
     exact ⟨rfl, rfl⟩
end
section
open Go.RowKit
open Vd (RSet Vdt Vote Rec Quest Piece Ballot)
variable {G : World} {L : ja}
def QF (L : ja) (vs : List Vote) (u : Value) (M : ja) : Prop := ∃ a c B N, u = .slice a vs.length c ∧ ORow voteR 65 5 N a c vs B ∧ Wr N ∧ M = B ++ (N ++ L)
theorem Jd (v : Value) (vs : List Vote) (hv : sliceR 5 voteR L [v] vs) (hn : vs.length ≤ 100) (hs : ∀ x ∈ vs, SmV x.vd) : Spec Tryz.prog G 73 #[v] L (QF L vs) := by
 obtain ⟨a0, c0, e1, hv⟩ := hv.val
 simp only [List.cons.injEq, and_true] at e1
 subst e1
 obtain ⟨_, ka1, ka2, hv⟩ := sliceR.cut hv
 refine jl (n := 19) Tryz.func73 rfl rfl rfl ?_
 refine goA ?_
 refine jz (σ := Nat × Option Addr × Nat × ja × ja) (fun x => x.1 ≤ vs.length ∧ ORow voteR 65 5 x.2.2.2.2 x.2.1 x.2.2.1 (vs.take x.1) x.2.2.2.1 ∧ Wr x.2.2.2.2) (fun x => [(3, .slice x.2.1 (vs.take x.1).length x.2.2.1), (6, .slice a0 vs.length c0), (7, .int .i64 (vs.length : Nat)), (8, .int .i64 (x.1 : Nat))]) (fun x => x.2.2.2.1 ++ (x.2.2.2.2 ++ L)) (fun x => vs.length - x.1) (0, none, 0, [], []) ⟨Nat.zero_le _, ORow.nil _, Wr.nil⟩ ?_ (fun w h => h) ?_
 exact js
 rintro ⟨k, a, c, B, N⟩ ⟨hk, hB, hN⟩
 dsimp only at hk hB hN ⊢
 by_cases hlt : k < vs.length
 · obtain ⟨x, hx⟩ : ∃ x, vs[k]? = some x := ⟨_, List.getElem?_eq_getElem hlt⟩
   have htk : vs.take (k + 1) = vs.take k ++ [x] := by rw [List.take_add_one, hx]; rfl
   have htl : (vs.take k).length ≤ 100 := by rw [List.length_take]; omega
   rcases hv with rfl | ⟨b1, o1, C1, t1, f1, rfl, m1, q1⟩
   · simp at hlt
   obtain ⟨cx, _, hx2, hcx⟩ := q1 k x hx
   have hx0 := hx2
   obtain ⟨x1, xc1, x2, xc2, rfl, hx3, hx4, hcode, htm, hup⟩ := hx0.vals
   have m1' : (b1, Obj.cells C1 t1 f1) ∈ B ++ (N ++ L) := List.mem_append_right _ (List.mem_append_right _ m1)
   refine goA ?_
   refine jy (jA [.int .i64 x.up, .int .u8 x.vd.code, .slice x1 x.vd.sets.length xc1, .slice x2 x.vd.soa.length xc2, .int .u32 x.time] rfl stL m1' hcx) rfl ?_
   repeat (first | refine goA ?_ | (refine jQ ?_; intro bNew))
   refine jx (jb je rfl (Kz _ x (kU _ _ _ _ jn hx2) (hs x (List.mem_of_getElem? hx)))) rfl ?_
   rintro _ _ ⟨a6, c6, B6, a7, c7, B7, N6, rfl, h6, h7, hN6, rfl⟩
   repeat (refine jP (q9 etO rfl rfl (by decide)) rfl ?_; intro bLit)
   refine jE (L' := (bLit, Obj.cells #[.int .i64 x.up, .int .u8 x.vd.code, .slice a6 x.vd.sets.length c6, .slice a7 x.vd.soa.length c7, .int .u32 x.time] 65 (0, 0)) :: (B ++ (((B7 ++ (B6 ++ N6)) ++ N) ++ L))) ?_ ji
   refine jx (qO (L0 := (B7 ++ (B6 ++ N6)) ++ N) (cs := [.int .i64 x.up, .int .u8 x.vd.code, .slice a6 x.vd.sets.length c6, .slice a7 x.vd.soa.length c7, .int .u32 x.time]) (y := x) etO rfl rfl (hB.mono kU jn) rfl (fun v hv => by simp only [List.mem_cons, List.not_mem_nil, or_false] at hv; rcases hv with rfl | rfl | rfl | rfl | rfl <;> rfl) ⟨_, _, rfl, h6.sliceR jv jn jn, h7.sliceR jv jn jn, hcode, htm, hup⟩ (by unfold maxLen; omega) jd) rfl ?_
   rintro _ _ ⟨a', c', B', rfl, hB', rfl⟩
   refine goA ?_
   refine jg (k + 1, a', c', B', (B7 ++ (B6 ++ N6)) ++ N) ⟨hlt, by dsimp only; rw [htk]; exact hB', (h7.wr.append (h6.wr.append hN6)).append hN⟩ ?_ (fun w h => h.cnt ji) (by dsimp only; omega)
   dsimp only
   rw [htk]
   exact js
 · have hkn : k = vs.length := by omega
   subst hkn
   rw [List.take_length] at hB ⊢
   refine goA ?_
   refine jf 2 _ rfl rfl ?_
   exact ⟨a, c, B, N, rfl, hB, hN, rfl⟩
theorem abt (bb : Nat) (want : Int) (f : Int → Int × Int) (vs : List Vote) (a : Option Addr) (c : Nat) (hm : (bb, Obj.cells (kf want f (.slice a vs.length c)).toArray 165 (0, 0)) ∈ L) (hv : sliceR 5 voteR L [.slice a vs.length c] vs) (hn : vs.length ≤ 100) (hs : ∀ x ∈ vs, SmV x.vd) :
 Spec Tryz.prog G 210 #[.pointer (some ⟨bb, 0, none⟩)] L (QF L vs) := by
 have g19 : (kf want f (.slice a vs.length c)).toArray[0 + 19]? = some (.slice a vs.length c) := rfl
 refine jl (n := 10) Tryz.func210 rfl rfl rfl ?_
 refine goA ?_
 refine jx (jb je rfl (Jd _ vs hv hn hs)) rfl ?_
 rintro _ _ ⟨a1, c1, B, N, rfl, hB, hN, rfl⟩
 refine goA ?_
 refine jf 2 _ rfl rfl ?_
 exact ⟨a1, c1, B, N, rfl, hB, hN, rfl⟩
end
section
open Vd (RSet Vdt Vote Rec Quest Piece Ballot)
def nine : List Int := [0, 1, 2, 3, 4, 5, 6, 7, 8]
theorem mem_nine {x : Int} : x ∈ nine ↔ 0 ≤ x ∧ x < 9 := by
 unfold nine
 simp only [List.mem_cons, List.not_mem_nil, or_false]
 omega
theorem nine_nodup : nine.Nodup := by unfold nine; decide
theorem nine_lt : nine.Pairwise (· < ·) := by unfold nine; decide
theorem QG : ∀ {l : List Int}, l.Nodup → ∀ a, l.filter (fun x => x == a) = if a ∈ l then [a] else []
 | [], _, a => by simp
 | x :: l, h, a => by
   have hx : x ∉ l := (List.nodup_cons.1 h).1
   have ih := QG (List.nodup_cons.1 h).2 a
   by_cases e : x = a
   · subst e
     rw [List.filter_cons_of_pos (by simp), ih, if_neg hx, if_pos (List.mem_cons_self ..)]
   · rw [List.filter_cons_of_neg (by simpa using e), ih]
     have : a ∈ x :: l ↔ a ∈ l := by simp [Ne.symm e]
     simp only [this]
theorem KA (p : Int → Bool) : ∀ l : List Int, l.flatMap (fun n => if p n then [n] else []) = l.filter p
 | [] => rfl
 | x :: l => by
   rw [List.flatMap_cons, KA p l]
   cases h : p x <;> simp [h]
theorem uf {l : List Int} (h : l.Nodup) : kx l = nine.filter fun x => decide (x ∈ l) := by
 have h1 : kx l = nine.flatMap fun x => if decide (x ∈ l) = true then [x] else [] := by
  unfold kx nine
  simp only [QG h, decide_eq_true_eq]
  rfl
 rw [h1]
 exact KA _ _
theorem Yz {l : List Int} (h : l.Nodup) (h9 : ∀ x ∈ l, 0 ≤ x ∧ x < 9) (x : Int) : x ∈ kx l ↔ x ∈ l := by
 rw [uf h, List.mem_filter, mem_nine]
 simp only [decide_eq_true_eq]
 exact ⟨fun k => k.2, fun k => ⟨h9 x k, k⟩⟩
theorem Vy {l : List Int} (h : l.Nodup) : (kx l).Nodup := by
 rw [uf h]
 exact nine_nodup.filter _
theorem KB {l : List Int} (h : l.Nodup) (h9 : ∀ x ∈ l, 0 ≤ x ∧ x < 9) : (kx l).Perm l :=
 (List.perm_ext_iff_of_nodup (Vy h) h).2 fun x => Yz h h9 x
theorem zK {l : List Int} (h : l.Nodup) (h9 : ∀ x ∈ l, 0 ≤ x ∧ x < 9) : (kx l).length = l.length := (KB h h9).length_eq
theorem Z3 {l : List Int} (h : l.Nodup) : (kx l).Pairwise (· < ·) := by
 rw [uf h]
 exact nine_lt.filter _
structure Vup (vs : List Vote) : Prop where
 nd : (vs.map (·.up)).Nodup
 up : ∀ x ∈ vs, 0 ≤ x.up ∧ x.up < 9
theorem BoxOk.vup {l : List Ballot} (h : BoxOk l) : Vup (Vd.votesB l) := by
 refine ⟨?_, fun x hx => ?_⟩
 · have : (Vd.votesB l).map (·.up) = (l.filter fun b => !b.pass).map (fun b => b.v.up) := by
    unfold Vd.votesB
    rw [List.map_map]
    rfl
   rw [this]
   exact h.nd.sublist (List.Sublist.map _ (List.filter_sublist))
 · obtain ⟨b, hb, _, rfl⟩ := votesB_mem.1 hx
   exact h.up b hb
theorem Vup.sub {vs ws : List Vote} (h : Vup vs) (s : ws.Sublist vs) : Vup ws := ⟨h.nd.sublist (s.map _), fun x hx => h.up x (s.subset hx)⟩
theorem Vup.filter {vs : List Vote} (h : Vup vs) (p : Vote → Bool) : Vup (vs.filter p) := h.sub List.filter_sublist
theorem Vup.take {vs : List Vote} (h : Vup vs) (n : Nat) : Vup (vs.take n) := h.sub (List.take_sublist ..)
theorem Vup.perm {vs ws : List Vote} (h : Vup vs) (p : vs.Perm ws) : Vup ws := ⟨(p.map _).nodup h.nd, fun x hx => h.up x (p.mem_iff.2 hx)⟩
theorem Vup.ups {vs : List Vote} (h : Vup vs) : ∀ x ∈ vs.map (·.up), 0 ≤ x ∧ x < 9 := by
 intro x hx
 obtain ⟨y, hy, rfl⟩ := List.mem_map.1 hx
 exact h.up y hy
theorem Vup.inj {vs : List Vote} (h : Vup vs) {x y : Vote} (hx : x ∈ vs) (hy : y ∈ vs) (e : x.up = y.up) : x = y := by
 obtain ⟨i, hi, rfl⟩ := List.getElem_of_mem hx
 obtain ⟨j, hj, rfl⟩ := List.getElem_of_mem hy
 have hp := List.nodup_iff_pairwise_ne.1 h.nd
 rcases Nat.lt_trichotomy i j with h1 | h1 | h1
 · have := List.pairwise_iff_getElem.1 hp i j (by simpa using hi) (by simpa using hj) h1
   simp only [List.getElem_map] at this
   exact absurd e this
 · subst h1; rfl
 · have := List.pairwise_iff_getElem.1 hp j i (by simpa using hj) (by simpa using hi) h1
   simp only [List.getElem_map] at this
   exact absurd e.symm this
theorem Vup.len {vs : List Vote} (h : Vup vs) : vs.length ≤ 9 := by
 have h1 := zK h.nd h.ups
 rw [List.length_map] at h1
 have h2 : (kx (vs.map (·.up))).length ≤ nine.length := by
  rw [uf h.nd]
  exact List.length_filter_le _ _
 have : nine.length = 9 := rfl
 omega
theorem withV_mem {vs : List Vote} {v : Vdt} {x : Vote} : x ∈ jH vs v ↔ x ∈ vs ∧ x.vd = v := by
 unfold jH
 rw [List.mem_filter, decide_eq_true_eq]
def uG : List Vote → Int
 | [] => 0
 | w :: r => r.foldl (fun t v => min t v.time) w.time
theorem yl (w : Vote) (r : List Vote) : uG (w :: r) = r.foldl (fun t v => min t v.time) w.time := rfl
theorem KZ : ∀ (l : List Vote) (s : Int), l.foldl (fun t v => min t v.time) s ≤ s ∧ ∀ x ∈ l, l.foldl (fun t v => min t v.time) s ≤ x.time
 | [], s => ⟨Int.le_refl _, by simp⟩
 | x :: l, s => by
   obtain ⟨h1, h2⟩ := KZ l (min s x.time)
   rw [List.foldl_cons]
   refine ⟨by omega, fun y hy => ?_⟩
   rcases List.mem_cons.1 hy with rfl | hy
   · omega
   · exact h2 y hy
theorem K0 : ∀ (l : List Vote) (s : Int), l.foldl (fun t v => min t v.time) s = s ∨ ∃ x ∈ l, l.foldl (fun t v => min t v.time) s = x.time
 | [], s => Or.inl rfl
 | x :: l, s => by
   rw [List.foldl_cons]
   rcases K0 l (min s x.time) with h | ⟨y, hy, h⟩
   · by_cases hx : x.time ≤ s
     · exact Or.inr ⟨x, List.mem_cons_self .., by omega⟩
     · exact Or.inl jd
   · exact Or.inr ⟨y, List.mem_cons_of_mem _ hy, h⟩
theorem YA {l : List Vote} {x : Vote} (h : x ∈ l) : l.foldl (fun t v => min t v.time) x.time = uG l := by
 cases l with
 | nil => simp at h
 | cons w r =>
   have h1 := KZ (w :: r) x.time
   have h2 := K0 (w :: r) x.time
   have h3 := KZ r w.time
   have h4 := K0 r w.time
   rw [yl]
   obtain ⟨a, ha⟩ : ∃ a, (w :: r).foldl (fun t v => min t v.time) x.time = a := ⟨_, rfl⟩
   obtain ⟨b, hb⟩ : ∃ b, r.foldl (fun t v => min t v.time) w.time = b := ⟨_, rfl⟩
   rw [ha] at h1 h2 ⊢
   rw [hb] at h3 h4 ⊢
   have hax : ∀ y ∈ w :: r, a ≤ y.time := h1.2
   have hbx : ∀ y ∈ w :: r, b ≤ y.time := fun y hy => by
    rcases List.mem_cons.1 hy with rfl | hy
    · exact h3.1
    · exact h3.2 y hy
   have hab : b ≤ a := by
    rcases h2 with h2 | ⟨y, hy, h2⟩
    · rw [h2]; exact hbx x h
    · rw [h2]; exact hbx y hy
   have hba : a ≤ b := by
    rcases h4 with h4 | ⟨y, hy, h4⟩
    · rw [h4]; exact hax w (List.mem_cons_self ..)
    · rw [h4]; exact hax y (List.mem_cons_of_mem _ hy)
   omega
theorem YB (l : List Vote) (x : Vote) : uG (l ++ [x]) = if l.length = 0 ∨ x.time < uG l then x.time else uG l := by
 cases l with
 | nil => rfl
 | cons w r =>
   have h0 : ¬ (w :: r).length = 0 := by simp
   rw [List.cons_append, yl, yl, List.foldl_append]
   simp only [List.foldl_cons, List.foldl_nil, h0, false_or]
   split <;> omega
theorem abu {l : List Vote} (h : ∀ x ∈ l, 0 ≤ x.time ∧ x.time ≤ 4294967295) : 0 ≤ uG l ∧ uG l ≤ 4294967295 := by
 cases l with
 | nil => simp [uG]
 | cons w r =>
   have h1 := KZ r w.time
   have h2 := K0 r w.time
   have hw := h w (List.mem_cons_self ..)
   rw [yl]
   rcases h2 with h2 | ⟨y, hy, h2⟩
   · rw [h2]; exact hw
   · rw [h2]; exact h y (List.mem_cons_of_mem _ hy)
theorem Je {want : Int} {vs : List Vote} {k : Nat} : ∀ i, jZ want vs i = some k → k < i ∧ jZ want vs k = none ∧ ∃ x, vs[k]? = some x ∧ want ≤ ((jH (vs.take (k + 1)) x.vd).length : Int)
 | 0, h => by simp [jZ] at h
 | i + 1, h => by
   cases h1 : jZ want vs i with
   | some j =>
     rw [jZ, h1] at h
     obtain rfl := Option.some.inj h
     obtain ⟨a, b⟩ := Je i h1
     exact ⟨by omega, b⟩
   | none =>
     cases h2 : vs[i]? with
     | none => rw [jZ, h1, h2] at h; cases h
     | some x =>
       rw [zG h2 h1] at h
       split at h
       · rename_i hw
         obtain rfl := Option.some.inj h
         exact ⟨by omega, h1, x, h2, hw⟩
       · cases h
structure WonBy (want : Int) (vs : List Vote) (j : Nat) (x : Vote) : Prop where
 at_ : vs[j]? = some x
 no : jZ want vs j = none
 yes : jZ want vs vs.length = some j
 len : ((jH (vs.take (j + 1)) x.vd).length : Int) = want
 is : qt want vs = (x.vd, uG (jH (vs.take (j + 1)) x.vd), kx ((jH (vs.take (j + 1)) x.vd).map (·.up)), true)
theorem abv {want : Int} (hw : 1 ≤ want) (vs : List Vote) : (jZ want vs vs.length = none ∧ qt want vs = (Vdt.none, 0, [], false)) ∨ ∃ j x, WonBy want vs j x := by
 cases h : jZ want vs vs.length with
 | none => exact Or.inl ⟨rfl, by unfold qt; rw [h]⟩
 | some j =>
   obtain ⟨h1, h2, x, hx, h3⟩ := Je _ h
   refine Or.inr ⟨j, x, hx, h2, h, (Ur hw hx h2).1 h3, ?_⟩
   unfold qt
   rw [h]
   dsimp only
   rw [hx]
   dsimp only
   rw [YA]
   refine withV_mem.2 ⟨?_, rfl⟩
   rw [List.mem_take_iff_getElem]
   obtain ⟨hj, hjx⟩ := List.getElem?_eq_some_iff.1 hx
   exact ⟨j, by omega, hjx⟩
theorem adm {vs ws : List Vote} {m : Int} : ∀ {n : Int}, ws.foldl (fun m x => max m ((jH vs x.vd).length : Int)) n ≤ m ↔ n ≤ m ∧ ∀ x ∈ ws, ((jH vs x.vd).length : Int) ≤ m := by
 induction ws with
 | nil => intro n; simp
 | cons w r ih =>
   intro n
   rw [List.foldl_cons, ih]
   simp only [List.mem_cons, forall_eq_or_imp]
   constructor
   · rintro ⟨h1, h2⟩; exact ⟨by omega, by omega, h2⟩
   · rintro ⟨h1, h2, h3⟩; exact ⟨by omega, h3⟩
theorem mostR_le {vs : List Vote} {m : Int} : uE vs ≤ m ↔ 0 ≤ m ∧ ∀ x ∈ vs, ((jH vs x.vd).length : Int) ≤ m := adm
theorem abw {vs : List Vote} {x : Vote} (h : x ∈ vs) : ((jH vs x.vd).length : Int) ≤ uE vs := (mostR_le.1 (Int.le_refl _)).2 x h
theorem Jf (vs : List Vote) : 0 ≤ uE vs := (mostR_le.1 (Int.le_refl _)).1
theorem WE {l : List Int} (h : l.Nodup) (h9 : ∀ x ∈ l, 0 ≤ x ∧ x < 9) : (l.mergeSort fun x y => decide (x ≤ y)) = kx l := by
 refine List.Perm.eq_of_pairwise (le := fun x y => x ≤ y) (fun a b _ _ h1 h2 => Int.le_antisymm h1 h2) ?_ ((Z3 h).imp fun h => Int.le_of_lt h) ((List.mergeSort_perm _ _).trans (KB h h9).symm)
 have := List.pairwise_mergeSort (le := fun x y : Int => decide (x ≤ y)) (fun a b c h1 h2 => by simp only [decide_eq_true_eq] at *; omega) (fun a b => by simp only [Bool.or_eq_true, decide_eq_true_eq]; omega) l
 exact this.imp fun h => of_decide_eq_true h
end
section
open Go.RowKit
open Vd (RSet Vdt Vote Rec Quest Piece Ballot Said)
variable {G : World} {L : ja}
def aji : Rp Said := fun L cs s => ∃ cm, cs = .int .i64 s.up :: (cm ++ [.int .u32 s.time]) ∧ msgR L cm s.m ∧ (0 ≤ s.time ∧ s.time ≤ 4294967295) ∧ (-9223372036854775808 ≤ s.up ∧ s.up ≤ 9223372036854775807)
theorem msgR.len {L : ja} {cs : List Value} {m : Vd.Msg} (h : msgR L cs m) : cs.length = 21 := by
 obtain ⟨h0, h1, h2, h3, h4, h5, h6, h7, h8, h9, q, a, b, x, k, e0, e1, e2, e3, e4, rfl, _⟩ := h
 rfl
def adn (m : Vd.Msg) : Prop := m.answers.length ≤ 10000 ∧ (∀ x ∈ m.answers, x.name.length ≤ 1000000 ∧ x.data.length ≤ 1000000) ∧ m.auth.length ≤ 10000 ∧ (∀ x ∈ m.auth, x.name.length ≤ 1000000 ∧ x.data.length ≤ 1000000)
theorem abx (q : Quest) (m : Vd.Msg) (h : 0 ≤ m.code ∧ m.code ≤ 255) : 0 ≤ (Vd.ofM q m).1.code ∧ (Vd.ofM q m).1.code ≤ 255 := by
 unfold Vd.ofM
 split
 · simp [Vdt.none]
 split
 rename_i l pos last e _
 split
 · simp [Vdt.none]
 split
 · simp [Vdt.none]
 split
 · exact h
 split
 rename_i s is e _
 split
 · simp [Vdt.none]
 split
 · exact h
 · exact h
end
section
open Go.RowKit
open Vd (RSet Vdt Vote Rec Quest Piece Ballot Said)
variable {G : World} {L : ja}
theorem aby {q : Quest} {v : Vdt} (h : v.sets = []) : Vd.endV q v = (RSet.none, false) := by unfold Vd.endV; rw [h]; rfl
theorem Z4 {q : Quest} {v : Vdt} {s : RSet} (h : v.sets[v.sets.length - 1]? = some s) : Vd.endV q v = if s.kind = q.kind then (s, true) else (RSet.none, false) := by
 unfold Vd.endV
 rw [List.getLast?_eq_getElem?, h]
def SetOut (L : ja) (r : RSet × Bool) (u : Value) (M : ja) : Prop := ∃ a c B, u = .tuple #[.agg #[.string (bs r.1.name), .int .u16 r.1.kind, .int .u16 r.1.cls, .int .u32 r.1.ttl, .slice a r.1.data.length c], .bool r.2] ∧ ORow qL 9 1 [] a c r.1.data B ∧ M = B ++ L ∧ rsR B [.string (bs r.1.name), .int .u16 r.1.kind, .int .u16 r.1.cls, .int .u32 r.1.ttl, .slice a r.1.data.length c] r.1
theorem SetOut.none : SetOut L (RSet.none, false) (.tuple #[.agg #[.string (bs []), .int .u16 0, .int .u16 0, .int .u32 0, .slice none 0 0], .bool false]) L := ⟨Option.none, 0, [], rfl, ORow.nil _, rfl, KX⟩
theorem aeB (v : Vdt) (q : Quest) (a1 a2 : Option Addr) (c1 c2 : Nat) (hv : sliceR 5 rsR L [.slice a1 v.sets.length c1] v.sets) (hd : ∀ s ∈ v.sets, s.data.length ≤ 100000) :
 Spec Tryz.prog G 82 #[.agg #[.string (bs q.name), .int .u16 q.kind, .int .u16 q.cls], .agg #[.int .u8 v.code, .slice a1 v.sets.length c1, .slice a2 v.soa.length c2]] L (SetOut L (Vd.endV q v)) := by
 obtain ⟨_, k1, k2, hv⟩ := sliceR.cut hv
 unfold maxLen at k2
 refine jl (n := 31) Tryz.func82 rfl rfl rfl ?_
 refine j7 (jO (jP (kQ rfl) rfl ?_))
 intro bQ
 refine jP (kQ rfl) rfl ?_
 intro bV
 refine jP (kh (C := #[.string (bs []), .int .u16 0, .int .u16 0, .int .u32 0, .slice none 0 0]) zeO rfl) rfl ?_
 intro bS
 by_cases h0 : v.sets.length = 0
 · have hE := aby (q := q) (List.eq_nil_of_length_eq_zero h0)
   rw [hE]
   have h0' : ((v.sets.length : Nat) : Int) = 0 := by omega
   repeat (first | refine goA ?_ | refine jy (jm rfl (uD )) rfl ?_)
   refine kR 4 122 5 rfl rfl rfl stO (by repeat (exact List.mem_cons_self)) rfl (fun w h => Heap.cnt (L' := L) h ji) ?_
   exact SetOut.none
 · have h0' : ¬ ((v.sets.length : Nat) : Int) = 0 := by omega
   rcases hv with h1 | ⟨b1, o1, C1, t1, f1, rfl, m1, q1⟩
   · rw [h1] at h0; simp at h0
   obtain ⟨s, hs⟩ : ∃ s, v.sets[v.sets.length - 1]? = some s := ⟨_, List.getElem?_eq_getElem jd⟩
   have hE := Z4 (q := q) hs
   obtain ⟨cs, _, hs2, hcs⟩ := q1 _ s hs
   obtain ⟨sa, sc, rfl, hsd, hs4⟩ := hs2.vals
   have hi : (((v.sets.length : Nat) : Int) - 1).toNat = v.sets.length - 1 := by omega
   rw [← hi] at hcs
   rw [hE]
   by_cases hk : s.kind = q.kind
   · rw [if_pos hk]
     refine goA ?_
     refine jy (jA [.string (bs s.name), .int .u16 s.kind, .int .u16 s.cls, .int .u32 s.ttl, .slice sa s.data.length sc] rfl stL (List.mem_cons_of_mem _ (List.mem_cons_of_mem _ (List.mem_cons_of_mem _ m1))) hcs) rfl ?_
     repeat (first | refine goA ?_ | (refine jQ ?_; intro bNew))
     refine jx (jb je rfl (Vs _ s.data (jq kP _ _ _ _ jn hsd) (Nat.le_trans (hd s (List.mem_of_getElem? hs)) jd))) rfl ?_
     rintro _ _ ⟨ad, cd, Bd, rfl, hBd, rfl⟩
     have hBd' := hBd.imp (r' := qL) (L' := []) (fun cs y _ h => h)
     refine jE (L' := (bNew, Obj.cells #[.string (bs s.name), .int .u16 s.kind, .int .u16 s.cls, .int .u32 s.ttl, .slice sa s.data.length sc] 122 (0, 0)) :: ((bS, Obj.cells #[.string (bs []), .int .u16 0, .int .u16 0, .int .u32 0, .slice none 0 0] 122 (0, 0)) :: (Bd ++ L))) ?_ ji
     repeat (refine jy (uq rfl Qb) rfl ?_)
     refine qx (C' := #[.string (bs s.name), .int .u16 s.kind, .int .u16 s.cls, .int .u32 s.ttl, .slice ad s.data.length cd]) rfl rfl onO rfl rfl rfl ?_
     refine goA ?_
     refine jE (L' := (bS, Obj.cells #[.string (bs []), .int .u16 0, .int .u16 0, .int .u32 0, .slice none 0 0] 122 (0, 0)) :: (Bd ++ L)) ?_ ji
     refine goA ?_
     refine kR 4 122 5 rfl rfl rfl stO (by repeat (exact List.mem_cons_self)) rfl (fun w h => Heap.cnt (L' := Bd ++ L) h ji) ?_
     exact ⟨ad, cd, Bd, rfl, hBd', rfl, _, rfl, hBd'.sliceR kP (by simp) (fun p h => h), hs4⟩
   · rw [if_neg hk]
     refine goA ?_
     refine jy (jA [.string (bs s.name), .int .u16 s.kind, .int .u16 s.cls, .int .u32 s.ttl, .slice sa s.data.length sc] rfl stL (List.mem_cons_of_mem _ (List.mem_cons_of_mem _ (List.mem_cons_of_mem _ m1))) hcs) rfl ?_
     repeat (first | refine goA ?_ | (refine jQ ?_; intro bNew) | refine jy (jm rfl (uD )) rfl ?_)
     refine jE (L' := (bS, Obj.cells #[.string (bs []), .int .u16 0, .int .u16 0, .int .u32 0, .slice none 0 0] 122 (0, 0)) :: L) ?_ ji
     refine goA ?_
     refine kR 4 122 5 rfl rfl rfl stO (by repeat (exact List.mem_cons_self)) rfl (fun w h => Heap.cnt (L' := L) h ji) ?_
     exact SetOut.none
end
section
open Go.RowKit
open Vd (RSet Vdt Vote Rec Quest Piece Ballot Said)
section
variable {G : World} {P : Program} {n : Nat} {ρ : jB} {L : ja} {ty : TypeId} {Q : Exit → Act → World → Prop} {ops : Array Oper} {K : ja} {W : List Nat} {fuel : Nat} {listed : Array Bool}
theorem WF (i : Nat) {d j dj : Nat} {want b : Bool} {op : Op} {pos : String} {after : Array Edge} {Φ : Value → ja → Prop} (hr : Region.ready .any ops listed = [i]) (hi : ops[i]? = some ⟨some d, op, ty, pos, after, some (j, want)⟩) (hdn : Nat.blt d n = true)
 (hs : jJ ops j = some dj) (hv : ρ.lookup dj = some (.bool b)) (hb : b = want)
 (hO : OpT P G ρ L op ty Φ) (h : ∀ v L', Φ v L' → (i ∈ W ∨ ∀ p ∈ K, p ∈ L') ∧ TA P G ops n K W Q fuel (listed.setIfInBounds i true) ((d, v) :: ρ) L') : TA P G ops n K W Q (fuel + 1) listed ρ L := by
 refine ⟨fun h0 => (by rw [hr] at h0; cases h0), fun k hk => ?_⟩
 rw [hr] at hk
 obtain rfl : k = i := by simpa using hk
 exact ⟨_, hi, fun d' e => by cases e; simpa using hdn, true, ⟨dj, _, hs, hv, by simp [ZH, hb]⟩, Or.inl ⟨rfl, Φ, hO, h⟩⟩
end
variable {G : World} {L : ja}
theorem vdR.vals {L : ja} {cs : List Value} {v : Vdt} (h : vdR L cs v) : ∃ a1 c1 a2 c2, cs = [.int .u8 v.code, .slice a1 v.sets.length c1, .slice a2 v.soa.length c2] ∧ sliceR 5 rsR L [.slice a1 v.sets.length c1] v.sets ∧ sliceR 5 rsR L [.slice a2 v.soa.length c2] v.soa ∧ (0 ≤ v.code ∧ v.code ≤ 255) := by
 obtain ⟨a, b, rfl, h1, h2, h3⟩ := h
 obtain ⟨a1, c1, e1, h1⟩ := h1.val
 obtain ⟨a2, c2, e2, h2⟩ := h2.val
 simp only [List.cons.injEq, and_true] at e1 e2
 subst e1 e2
 exact ⟨a1, c1, a2, c2, rfl, h1, h2, h3⟩
theorem Vz (l : List Vote) (x : Vote) (t : Int) : Vd.minTime (l ++ [x]) t = min (Vd.minTime l t) x.time := by simp [Vd.minTime]
theorem QH : ∀ (l : List Vote) (t : Int), (∀ x ∈ l, 0 ≤ x.time ∧ x.time ≤ 4294967295) → 0 ≤ t ∧ t ≤ 4294967295 → 0 ≤ Vd.minTime l t ∧ Vd.minTime l t ≤ 4294967295
 | [], t, _, h => h
 | s :: l, t, hl, h => by
   have := hl s (List.mem_cons_self ..)
   exact QH l (min t s.time) (fun x hx => hl x (List.mem_cons_of_mem _ hx)) jd
theorem QI {L K : ja} {cs : List Value} {l : List Vote} (h : sliceR 5 (fun _ => voteR K) L cs l) : ∀ y ∈ l, 0 ≤ y.time ∧ y.time ≤ 4294967295 := fun y hy => by
 obtain ⟨a, cap, _, _, _, h4⟩ := h
 rcases h4 with rfl | ⟨b, off, C, te, fr, _, _, q3⟩
 · simp at hy
 · obtain ⟨i, hi⟩ := List.getElem?_of_mem hy
   obtain ⟨cs', _, h5, _⟩ := q3 i y hi
   obtain ⟨_, _, _, _, _, _, _, _, k, _⟩ := h5.vals
   exact k
theorem WG (l : List Vote) (x : Vote) (w : Vdt) : Vd.alikeV (l ++ [x]) w = (Vd.alikeV l w && decide (x.vd = w)) := by simp [Vd.alikeV]
end
section
open Go.RowKit
open Vd (RSet Vdt Vote Rec Quest Piece Ballot Said)
variable {G : World} {L : ja}
theorem yU : ∀ {l : List Vd.Bytes} {xs : List Value}, Laid qL 1 L xs l → xs = l.map Go.Proofs.encStr ∧ ∀ s ∈ l, s.length ≤ maxLen
 | [], xs, h => ⟨h, by simp⟩
 | s :: l, _, ⟨c, ys, h1, h2, h3, h4⟩ => by
   obtain ⟨k1, k2⟩ := yU h4
   obtain ⟨rfl, h3⟩ := h3
   refine ⟨by rw [h1, k1]; rfl, fun t ht => ?_⟩
   rcases List.mem_cons.1 ht with rfl | ht
   · exact h3
   · exact k2 t ht
theorem yV : ∀ (l : List Vd.Bytes), (∀ s ∈ l, s.length ≤ maxLen) → Laid qL 1 L (l.map Go.Proofs.encStr) l
 | [], _ => rfl
 | s :: l, h => ⟨[.string (bs s)], l.map Go.Proofs.encStr, rfl, rfl, ⟨rfl, h s (List.mem_cons_self ..)⟩, yV l fun t ht => h t (List.mem_cons_of_mem _ ht)⟩
theorem Zi (l : List Vd.Bytes) : ∀ v ∈ l.map Go.Proofs.encStr, v.oneCell' = true := by
 intro v hv
 obtain ⟨s, _, rfl⟩ := List.mem_map.1 hv
 rfl
theorem Row.pre {e : TypeId} {a : Option Addr} {n c k : Nat} {xs : List Value} {B : ja} (h : Row e 1 (.slice a n c) n xs B) (hk : k ≤ n) : Row e 1 (.slice a k c) k (xs.take k) B := by
 have hl := h.len
 refine ⟨by rw [List.length_take, hl]; omega, ?_⟩
 rcases h.is with ⟨q1, q2, q3⟩ | ⟨b, cap, cur, q1, q2, q3, q4, q5, q6⟩
 · obtain ⟨rfl, _, rfl⟩ := Value.slice.inj q1
   have : k = 0 := by omega
   subst this
   exact Or.inl ⟨rfl, rfl, q3⟩
 · obtain ⟨rfl, _, rfl⟩ := Value.slice.inj q1
   refine Or.inr ⟨b, c, cur, rfl, q2, by omega, q4, q5, ?_⟩
   rw [← q6, List.take_take]
   congr 1
   omega
theorem aeC {K : ja} (a : Option Addr) (c : Nat) (l : List Vd.Bytes) (B : ja) (hB : ORow qL 9 1 K a c l B) (hn : l.length ≤ 1000000) : Spec Tryz.prog G 114 #[.slice a l.length c] (B ++ L) fun u M => u = .tuple #[] ∧ ∃ B', ORow qL 9 1 K a c (l.mergeSort fun x y => decide (x ≤ y)) B' ∧ M = B' ++ L := by
 refine ⟨fun w hw => ?_⟩
 obtain ⟨xs, h1, h2, h3⟩ := hB.ex
 obtain ⟨rfl, hle⟩ := yU h2
 rcases h1.is with ⟨q1, q2, q3⟩ | ⟨b, cap, cur, q1, q2, q3, q4, q5, q6⟩
 · have hl0 : l = [] := List.eq_nil_of_length_eq_zero q2
   subst hl0
   obtain ⟨rfl, _, rfl⟩ := Value.slice.inj q1
   refine (Tryz.slices_Sort_string_none none 0 w).mono fun e w' ⟨he, hww⟩ => ?_
   subst hww
   exact ⟨_, _, he, ⟨rfl, B, by simpa using hB, rfl⟩, hw⟩
 · obtain ⟨rfl, _, rfl⟩ := Value.slice.inj q1
   have hb : w.heap[b]? = some (.cells cur 9 (0, 0)) := hw.get (b, _) (by rw [q2]; simp)
   have hH := holds_of_block (ss := l) hb (by rw [Nat.mul_one] at q6; exact q6)
   have hlen : (l.mergeSort fun x y => decide (x ≤ y)).length = l.length := List.length_mergeSort l
   refine (Tryz.slices_Sort_string b 0 c l w hH (Array.getElem?_eq_some_iff.1 hb).1 jd).mono fun e w' ⟨he, n, os, hww⟩ => ?_
   have ho := ownsRow_sorted (w := w) (base := 0) (n := n) (os := os) (ss := l) (ts := l.mergeSort fun x y => decide (x ≤ y)) hlen (Nat.zero_le _) hb q3 q4 q5
   have hg := grownBy_sorted (w := w) (g := b) (n := n) (os := os) (l.mergeSort fun x y => decide (x ≤ y)).toArray
   rw [← hww] at ho hg
   obtain ⟨B', hB', hH'⟩ := h1.after hw ho hg (Or.inl rfl)
   refine ⟨_, _, he, ⟨rfl, B', ⟨_, by rw [hlen]; exact hB', yV _ fun s hs => hle s ((List.mem_mergeSort).1 hs), Zi _⟩, rfl⟩, hH'⟩
theorem WH (l : List Vd.Bytes) : (Lib.compact l).length ≤ l.length := by
 unfold Lib.compact Lib.compactUpTo
 rw [List.length_map]
 have := List.length_filter_le (Lib.keeps l.toArray) (List.range l.length)
 simpa using this
theorem WI (l : List Vd.Bytes) : ∀ s ∈ Lib.compact l, s ∈ l := by
 intro s hs
 unfold Lib.compact Lib.compactUpTo at hs
 obtain ⟨i, hi, rfl⟩ := List.mem_map.1 hs
 have hi' := (List.mem_filter.1 hi).1
 rw [List.mem_range] at hi'
 simp [hi']
theorem Z5 {K : ja} (a : Option Addr) (c : Nat) (l : List Vd.Bytes) (B : ja) (hB : ORow qL 9 1 K a c l B) (hn : l.length ≤ 1000000) : Spec Tryz.prog G 115 #[.slice a l.length c] (B ++ L) fun u M => ∃ B', u = .slice a (Lib.compact l).length c ∧ ORow qL 9 1 K a c (Lib.compact l) B' ∧ M = B' ++ L := by
 refine ⟨fun w hw => ?_⟩
 obtain ⟨xs, h1, h2, h3⟩ := hB.ex
 obtain ⟨rfl, hle⟩ := yU h2
 rcases h1.is with ⟨q1, q2, q3⟩ | ⟨b, cap, cur, q1, q2, q3, q4, q5, q6⟩
 · have hl0 : l = [] := List.eq_nil_of_length_eq_zero q2
   subst hl0
   obtain ⟨rfl, _, rfl⟩ := Value.slice.inj q1
   refine (Tryz.slices_Compact_string_empty none 0 w).mono fun e w' ⟨he, hww⟩ => ?_
   subst hww
   exact ⟨_, _, he, ⟨B, rfl, hB, rfl⟩, hw⟩
 · obtain ⟨rfl, _, rfl⟩ := Value.slice.inj q1
   have hb : w.heap[b]? = some (.cells cur 9 (0, 0)) := hw.get (b, _) (by rw [q2]; simp)
   have hH := holds_of_block (ss := l) hb (by rw [Nat.mul_one] at q6; exact q6)
   have hcl := WH l
   refine (Tryz.slices_Compact_string b 0 c l w hH jd q3).mono fun e w' ⟨he, n, hww⟩ => ?_
   have hlen : (Lib.compact l ++ List.replicate (l.length - (Lib.compact l).length) []).length = l.length := by simp; omega
   have ho := ownsRow_sorted (w := w) (base := 0) (n := n) (os := #[]) (ss := l) (ts := Lib.compact l ++ List.replicate (l.length - (Lib.compact l).length) []) hlen (Nat.zero_le _) hb q3 q4 q5
   have hg := grownBy_sorted (w := w) (g := b) (n := n) (os := #[]) (Lib.compact l ++ List.replicate (l.length - (Lib.compact l).length) []).toArray
   rw [Go.Sort.grow_empty, ← hww] at ho hg
   obtain ⟨B', hB', hH'⟩ := h1.after hw ho hg (Or.inl rfl)
   refine ⟨_, _, he, ⟨B', rfl, ⟨_, hB'.pre hcl, ?_, fun v hv => Zi _ v (List.mem_of_mem_take hv)⟩, rfl⟩, hH'⟩
   rw [List.map_append, List.take_left' (by simp)]
   exact yV _ fun s hs => hle s (WI l s hs)
end
section
open Go.RowKit
variable {G : World} {L : ja}
theorem KC : ∀ {l : List Int} {xs : List Value}, Laid (uz .i64) 1 L xs l → xs = l.map (Value.int .i64) ∧ ∀ s ∈ l, kJ .i64 s
 | [], xs, h => ⟨h, by simp⟩
 | s :: l, _, ⟨c, ys, h1, h2, h3, h4⟩ => by
   obtain ⟨k1, k2⟩ := KC h4
   obtain ⟨rfl, h3⟩ := h3
   refine ⟨by rw [h1, k1]; rfl, fun t ht => ?_⟩
   rcases List.mem_cons.1 ht with rfl | ht
   · exact h3
   · exact k2 t ht
theorem KD : ∀ (l : List Int), (∀ s ∈ l, kJ .i64 s) → Laid (uz .i64) 1 L (l.map (Value.int .i64)) l
 | [], _ => rfl
 | s :: l, h => ⟨[.int .i64 s], l.map (Value.int .i64), rfl, rfl, ⟨rfl, h s (List.mem_cons_self ..)⟩, KD l fun t ht => h t (List.mem_cons_of_mem _ ht)⟩
theorem ado (l : List Int) : ∀ v ∈ l.map (Value.int .i64), v.oneCell' = true := by
 intro v hv
 obtain ⟨s, _, rfl⟩ := List.mem_map.1 hv
 rfl
theorem adp {K : ja} (a : Option Addr) (c : Nat) (l : List Int) (B : ja) (hB : ORow (uz .i64) 3 1 K a c l B) (hn : l.length ≤ 1000000) : Spec Tryz.prog G 192 #[.slice a l.length c] (B ++ L) fun u M => u = .tuple #[] ∧ ∃ B', ORow (uz .i64) 3 1 K a c (l.mergeSort fun x y => decide (x ≤ y)) B' ∧ M = B' ++ L := by
 refine ⟨fun w hw => ?_⟩
 obtain ⟨xs, h1, h2, h3⟩ := hB.ex
 obtain ⟨rfl, hle⟩ := KC h2
 rcases h1.is with ⟨q1, q2, q3⟩ | ⟨b, cap, cur, q1, q2, q3, q4, q5, q6⟩
 · have hl0 : l = [] := List.eq_nil_of_length_eq_zero q2
   subst hl0
   obtain ⟨rfl, _, rfl⟩ := Value.slice.inj q1
   refine (Tryz.slices_Sort_int_none none 0 w).mono fun e w' ⟨he, hww⟩ => ?_
   subst hww
   exact ⟨_, _, he, ⟨rfl, B, by simpa using hB, rfl⟩, hw⟩
 · obtain ⟨rfl, _, rfl⟩ := Value.slice.inj q1
   have hb : w.heap[b]? = some (.cells cur 3 (0, 0)) := hw.get (b, _) (by rw [q2]; simp)
   have hH := holds_of_blockI (ss := l) hb (by rw [Nat.mul_one] at q6; exact q6)
   have hlen : (l.mergeSort fun x y => decide (x ≤ y)).length = l.length := List.length_mergeSort l
   refine (Tryz.slices_Sort_int b 0 c l w hH (Array.getElem?_eq_some_iff.1 hb).1 jd).mono fun e w' ⟨he, n, os, hww⟩ => ?_
   have ho := ownsRow_sortedI (w := w) (base := 0) (n := n) (os := os) (ss := l) (ts := l.mergeSort fun x y => decide (x ≤ y)) hlen (Nat.zero_le _) hb q3 q4 q5
   have hg := grownBy_sortedI (w := w) (g := b) (n := n) (os := os) (l.mergeSort fun x y => decide (x ≤ y)).toArray
   rw [← hww] at ho hg
   obtain ⟨B', hB', hH'⟩ := h1.after hw ho hg (Or.inl rfl)
   refine ⟨_, _, he, ⟨rfl, B', ⟨_, by rw [hlen]; exact hB', KD _ fun s hs => hle s ((List.mem_mergeSort).1 hs), ado _⟩, rfl⟩, hH'⟩
end
section
open Go.RowKit
section
variable {G : World} {P : Program} {n : Nat} {ρ : jB} {L : ja} {ty : TypeId} {Q : Exit → Act → World → Prop}
theorem Jg {x : Operand} {b off len : Nat} {t e : TypeId} {C : Array Value} {te : TypeId} {fr : Nat × Nat} (cs : List Value) (hx : ev ρ x = some (.pointer (some ⟨b, off, none⟩)))
 (hu : P.underlying t = some (.array len e)) (ht : (P.info? t).map (·.size) = some cs.length) (hm : (b, Obj.cells C te fr) ∈ L) (hv : ∀ j v, cs[j]? = some v → C[off + j]? = some v) : OpQ P ρ L (.load t x) ty (.agg cs.toArray) :=
 ⟨fun r hr w hw o ho _ => by
   cases hi : P.info? t with
   | none => simp [hi] at ht
   | some i =>
     simp [hi] at ht
     have ha : (isAgg t).run P w = .ok true w := by
      unfold isAgg
      simp [run_underlying hu]
     have hc := run_loadCells_list (P := P) (w := w) ⟨b, off, none⟩ cs (fun j v hj => by rw [qg]; exact hw.cell hm (hv j v hj))
     simp [execOp, ho, hr _ _ hx, Instr.loadAt, Instr.sureAddr, loadVar, ha, sizeOf, typeInfo, hi, ht, hc]⟩
theorem VA {x y : Operand} {C : Array Value} {t e : TypeId} {len sz : Nat} {k : IntKind} {i : Int} (hx : ev ρ x = some (.agg C)) (hy : ev ρ y = some (.int k i)) (hu : P.underlying t = some (.array len e)) (he : jV P e sz = true)
 (h0 : 0 ≤ i) (h1 : i < len) : OpQ P ρ L (.index t x y) ty (.agg (C.extract (i.toNat * sz) (i.toNat * sz + sz))) :=
 ⟨fun r hr w hw o ho _ => by
   unfold jV at he
   cases hue : P.underlying e with
   | none => simp [hue] at he
   | some d =>
     cases hi : P.info? e with
     | none => simp [hi] at he
     | some ti =>
       cases d with
       | struct fs =>
         simp [hue, hi] at he
         have ha : (isAgg e).run P w = .ok true w := by
          unfold isAgg
          simp [run_underlying hue]
         simp [execOp, ho, hr _ _ hx, hr _ _ hy, Instr.index, asIntOf, run_underlying hu, h0, h1, part, ha, sizeOf, typeInfo, hi, he]
       | _ => simp [hue] at he⟩
end
end
section
open Go.RowKit
open Vd (RSet Vdt Vote Rec Quest Piece Ballot)
section
variable {G : World} {P : Program} {n : Nat} {ρ : jB} {L : ja} {ty : TypeId} {Q : Exit → Act → World → Prop}
theorem WJ {fn : Func} {Φ : Value → ja → Prop} (a t u s r : Nat) {b k : Nat} {C : Array Value} {te : TypeId} {fr : Nat × Nat} {x y z : Value} {L' : ja} (hr : fn.results = #[.cell a t, .tmp u, .tmp s, .tmp r]) (hv : ρ.lookup a = some (.pointer (some ⟨b, 0, none⟩))) (hx : ρ.lookup u = some x) (hy : ρ.lookup s = some y) (hz : ρ.lookup r = some z)
 (ht : jV P t k = true) (hm : (b, Obj.cells C te fr) ∈ L) (hk : C.size = k) (hl : ∀ w, Heap G w L → Heap G w L') (h : Φ (.tuple #[.agg C, x, y, z]) L') : TQ G n ρ L .ret (bodyPost P fn (kT G Φ)) :=
 ⟨fun ac w he hw => ⟨he.defers, .tuple #[.agg C, x, y, z], by
   obtain ⟨h1, h0⟩ := zY he hv ht (hw.get _ hm) hk
   have h2 : ac.tmps.getD u undef = x := he.reads (.tmp u) x hx
   have h3 : ac.tmps.getD s undef = y := he.reads (.tmp s) y hy
   have h4 : ac.tmps.getD r undef = z := he.reads (.tmp r) z hz
   rw [Array.getD_eq_getD_getElem?] at h1 h2 h3 h4
   simp only [results, hr]
   simp
   simp [h1, asAddr, h0, h2, h3, h4], _, L', rfl, h, hl w hw⟩⟩
theorem WK {s x : Operand} {t e te : TypeId} {bytes bl : Nat} {z : Value} {a : Option Addr} {c : Nat} {y : Int} {l : List Int} {B L0 : ja} (E : ElemTy P t e 1 bytes z) (hs : ev ρ s = some (.slice a l.length c)) (hx : ev ρ x = some (.slice (some ⟨bl, 0, none⟩) 1 1))
 (hrow : ORow (uz .i64) e 1 L0 a c l B) (hy : kJ .i64 y) (h63 : l.length ≤ 1000000) (hb : bytes ≤ 1000) :
 OpT P G ρ ((bl, .cells #[.int .i64 y] te (0, 0)) :: (B ++ L)) (.call ⟨.builtin .append, #[s, x], #[t, t]⟩) ty fun v' L' => ∃ a' c' B', v' = .slice a' (l ++ [y]).length c' ∧ ORow (uz .i64) e 1 L0 a' c' (l ++ [y]) B' ∧ L' = B' ++ L :=
 qO (cs := [.int .i64 y]) E hs hx hrow rfl (by intro v hv; rw [List.mem_singleton.1 hv]; rfl) ⟨rfl, hy⟩ (by unfold maxLen; omega) (Nat.le_trans (Nat.mul_le_mul (show l.length + 1 ≤ 1000001 by omega) hb) (by decide))
end
theorem abz (p q r s : Int) (w : World) : (binOp .neq 162 (.agg #[.int .u8 p, .int .i64 r]) (.agg #[.int .u8 q, .int .i64 s])).run Tryz.prog w = .ok (.bool (!decide ((p, r) = (q, s)))) w := by
 by_cases h2 : p = q <;> by_cases h3 : r = s <;> (go_simp; try simp [h2, h3])
theorem abA (p q r s : Int) (w : World) : (binOp .eql 162 (.agg #[.int .u8 p, .int .i64 r]) (.agg #[.int .u8 q, .int .i64 s])).run Tryz.prog w = .ok (.bool (decide ((p, r) = (q, s)))) w := by
 by_cases h2 : p = q <;> by_cases h3 : r = s <;> (go_simp; try simp [h2, h3])
theorem JI {p q r s : Int} : Bin Tryz.prog .neq 162 (.agg #[.int .u8 p, .int .i64 r]) (.agg #[.int .u8 q, .int .i64 s]) (.bool (!decide ((p, r) = (q, s)))) := ⟨fun a b w => by
 have h := abz p q r s w
 simp [eqGuard, h]⟩
theorem UE {p q r s : Int} : Bin Tryz.prog .eql 162 (.agg #[.int .u8 p, .int .i64 r]) (.agg #[.int .u8 q, .int .i64 s]) (.bool (decide ((p, r) = (q, s)))) := ⟨fun a b w => by
 have h := abA p q r s w
 simp [eqGuard, h]⟩
variable {G : World} {L : ja}
def abB (L : ja) (r : Vdt × Int × List Int × Bool) (u : Value) (M : ja) : Prop := ∃ a c B a2 c2 B2 a3 c3 B3 N, u = .tuple #[.agg #[.int .u8 r.1.code, .slice a r.1.sets.length c, .slice a2 r.1.soa.length c2], .int .u32 r.2.1, .slice a3 r.2.2.1.length c3, .bool r.2.2.2] ∧
 ORow rsR 122 5 N a c r.1.sets B ∧ ORow rsR 122 5 N a2 c2 r.1.soa B2 ∧ ORow (uz .i64) 3 1 [] a3 c3 r.2.2.1 B3 ∧ Wr N ∧ M = B3 ++ (B2 ++ (B ++ (N ++ L)))
def Z6 (want : Int) (vs : List Vote) : Vdt × Int × List Int × Bool := if want < 1 then (Vdt.none, 0, [], false) else qt want vs
theorem abC {x : Int} (h : 0 ≤ x ∧ x < 9) : kJ .i64 x := by
 unfold kJ Lit.wf
 simp [IntKind.min, IntKind.max, IntKind.bits, IntKind.signed]
 omega
theorem aeD {K : ja} (bb : Nat) (want : Int) (l : List Ballot) (a : Option Addr) (c : Nat) (hm : (bb, Obj.cells (kf want (jp l) (.slice a (Vd.votesB l).length c)).toArray 165 (0, 0)) ∈ L) (hv : sliceR 5 (fun _ => voteR K) L [.slice a (Vd.votesB l).length c] (Vd.votesB l)) (hK : ∀ p ∈ K, p ∈ L) (hl : BoxOk l) (hn : l.length ≤ 9) (hs : ∀ x ∈ Vd.votesB l, SmV x.vd) :
 Spec Tryz.prog G 189 #[.pointer (some ⟨bb, 0, none⟩)] L (abB L (Z6 want (Vd.votesB l))) := by
 have hvl := kn l
 have hup := hl.vup
 have hcap := (sliceR.cut hv).2
 unfold maxLen at hcap
 obtain ⟨hcap1, hcap2, _⟩ := hcap
 refine jl (n := 73) Tryz.func189 rfl rfl rfl ?_
 refine j7 (jO (jP (kh (C := #[.int .u8 0, .slice none 0 0, .slice none 0 0]) zeO rfl) rfl ?_))
 intro b2
 refine goA ?_
 refine jN (jb je rfl (UD bb want l a c (List.mem_cons_of_mem _ hm) (jq km _ _ _ _ jn hv) hl hn)) rfl ?_
 obtain ⟨vs, hvs⟩ : ∃ vs, Vd.votesB l = vs := ⟨_, rfl⟩
 rw [hvs] at hm hv hs hvl hup hcap1 ⊢
 by_cases hno : want < 1 ∨ jZ want vs vs.length = none
 · have hW : zy want vs = ((0, 0), false) := by
    unfold zy
    by_cases hw : want < 1
    · rw [if_pos hw]
    · rw [if_neg hw, hno.resolve_left hw]
   have hR : Z6 want vs = (Vdt.none, 0, [], false) := by
    unfold Z6
    by_cases hw : want < 1
    · rw [if_pos hw]
    · rw [if_neg hw]
      unfold qt
      rw [hno.resolve_left hw]
   rw [hW, hR]
   repeat (first | refine goA ?_ | (refine jQ ?_; intro bNew) | refine jy (jm rfl (yb )) rfl ?_)
   refine jE (L' := (b2, Obj.cells #[.int .u8 0, .slice none 0 0, .slice none 0 0] 40 (0, 0)) :: L) ?_ ji
   refine goA ?_
   clear hm
   refine WJ 2 40 3 4 5 rfl rfl rfl rfl rfl stO (by repeat (exact List.mem_cons_self)) rfl (fun w h => Heap.cnt (L' := L) h ji) ?_
   exact ⟨none, 0, [], none, 0, [], none, 0, [], [], rfl, ORow.nil _, ORow.nil _, ORow.nil _, Wr.nil, rfl⟩
 · have hw : ¬ want < 1 := fun h => hno (Or.inl h)
   have hw1 : 1 ≤ want := by omega
   have hyes : jZ want vs vs.length ≠ none := fun h => hno (Or.inr h)
   obtain ⟨j, x, hk⟩ : ∃ j x, WonBy want vs j x := by
    rcases abv hw1 vs with ⟨h, _⟩ | h
    · exact absurd h hyes
    · exact h
   have hxm := List.mem_of_getElem? hk.at_
   have hjl := (List.getElem?_eq_some_iff.1 hk.at_).1
   have hfs := qF hxm
   obtain ⟨hfl, z, hz, hzx⟩ := hfs
   have hW : zy want vs = ((2, (jC vs x.vd : Int)), true) := by
    unfold zy
    rw [if_neg hw, hk.yes]
    dsimp only
    rw [hk.at_]
   have hR : Z6 want vs = qt want vs := if_neg hw
   rw [hW, hR, hk.is]
   have hfi : ∀ y ∈ vs, jC vs y.vd = jC vs x.vd ↔ y.vd = x.vd := fun y hy => uF hy hxm
   obtain ⟨fx, hfx⟩ : ∃ f, jC vs x.vd = f := ⟨_, rfl⟩
   rw [hfx] at hfl hz hfi ⊢
   obtain ⟨_, kv1, kv2, hvc⟩ := sliceR.cut hv
   rcases hvc with h1 | ⟨bc, oc, cur, tc, fc, rfl, mc, hcur⟩
   · rw [h1] at hjl; simp at hjl
   have g0 : (kf want (jp l) (.slice (some ⟨bc, oc, none⟩) vs.length c)).toArray[0 + 0]? = some (.int .i64 want) := rfl
   have g19 : (kf want (jp l) (.slice (some ⟨bc, oc, none⟩) vs.length c)).toArray[0 + 19]? = some (.slice (some ⟨bc, oc, none⟩) vs.length c) := rfl
   repeat (first | refine goA ?_ | (refine jQ ?_; intro bNew))
   obtain ⟨b6, hb6⟩ : ∃ b, bNew = b := ⟨_, rfl⟩
   rw [hb6]
   clear hb6 bNew
   have hlenW : ∀ i, ((jH (vs.take i) x.vd).map (·.up)).length = (jH (vs.take i) x.vd).length := fun i => List.length_map _
   have hW9 : ∀ i, (jH (vs.take i) x.vd).length ≤ 9 := fun i => by
    have := ((hup.take i).filter fun y => decide (y.vd = x.vd)).len
    exact this
   refine jz (σ := Nat × Option Addr × Nat × ja) (fun y => y.1 ≤ j ∧ ORow (uz .i64) 3 1 [] y.2.1 y.2.2.1 ((jH (vs.take y.1) x.vd).map (·.up)) y.2.2.2) (fun y => [(0, .pointer (some ⟨bb, 0, none⟩)), (2, .pointer (some ⟨b2, 0, none⟩)), (3, .int .u32 (uG (jH (vs.take y.1) x.vd))), (4, .slice y.2.1 ((jH (vs.take y.1) x.vd).map (·.up)).length y.2.2.1), (5, .bool true), (6, .pointer (some ⟨b6, 0, none⟩)), (20, .slice (some ⟨bc, oc, none⟩) vs.length c), (21, .int .i64 (vs.length : Nat)), (22, .int .i64 (y.1 : Nat))]) (fun y => y.2.2.2 ++ ((b6, Obj.cells #[.int .u8 2, .int .i64 (fx : Nat)] 162 (0, 0)) :: ((b2, Obj.cells #[.int .u8 0, .slice none 0 0, .slice none 0 0] 40 (0, 0)) :: L))) (fun y => vs.length - y.1) (0, none, 0, []) ⟨Nat.zero_le _, ORow.nil _⟩ ?_ (fun w h => h) ?_
   exact js
   rintro ⟨i, a4, c4, B4⟩ ⟨hi, hB4⟩
   dsimp only at hi hB4 ⊢
   have hil : i < vs.length := by omega
   obtain ⟨y, hy⟩ : ∃ y, vs[i]? = some y := ⟨_, List.getElem?_eq_getElem hil⟩
   have hym := List.mem_of_getElem? hy
   obtain ⟨csy, _, hyv, hcy⟩ := hcur i y hy
   obtain ⟨y1, yc1, y2, yc2, rfl, hy1, hy2, hy3, hy4, hy5⟩ := hyv.vals
   obtain ⟨hu0, hu9⟩ := hup.up y hym
   have hsl : jp l y.up = (2, (jC vs y.vd : Int)) := by rw [← hvs]; exact qA hl (by rw [hvs]; exact hym)
   have hWs := yf (vs := vs) hy x.vd
   have hWi := hlenW i
   have hWi9 := hW9 i
   have mc' : (bc, Obj.cells cur tc fc) ∈ B4 ++ ((b6, Obj.cells #[.int .u8 2, .int .i64 (fx : Nat)] 162 (0, 0)) :: ((b2, Obj.cells #[.int .u8 0, .slice none 0 0, .slice none 0 0] 40 (0, 0)) :: L)) := List.mem_append_right _ (List.mem_cons_of_mem _ (List.mem_cons_of_mem _ mc))
   refine goA ?_
   refine jy (jA [.int .i64 y.up, .int .u8 y.vd.code, .slice y1 y.vd.sets.length yc1, .slice y2 y.vd.soa.length yc2, .int .u32 y.time] rfl stL mc' hcy) rfl ?_
   repeat (first | refine goA ?_ | (refine jQ ?_; intro bNew))
   obtain ⟨b8, hb8⟩ : ∃ b, bNew = b := ⟨_, rfl⟩
   rw [hb8]
   clear hb8 bNew
   have hslip : ∀ k v, ([.int .u8 2, .int .i64 (jC vs y.vd : Nat)] : List Value)[k]? = some v → (kf want (jp l) (.slice (some ⟨bc, oc, none⟩) vs.length c)).toArray[0 + 1 + y.up.toNat * 2 + k]? = some v := fun k v hj => by
    rw [Nat.zero_add]
    match k, hj with
    | 0, hj => obtain rfl := Option.some.inj hj; rw [JH ⟨hu0, hu9⟩, hsl]
    | 1, hj => obtain rfl := Option.some.inj hj; rw [QB ⟨hu0, hu9⟩, hsl]
   have hKm : ∀ q ∈ [(b8, Obj.cells #[.int .i64 y.up, .int .u8 y.vd.code, .slice y1 y.vd.sets.length yc1, .slice y2 y.vd.soa.length yc2, .int .u32 y.time] 65 (0, 0)), (bb, Obj.cells (kf want (jp l) (.slice (some ⟨bc, oc, none⟩) vs.length c)).toArray 165 (0, 0)), (b6, Obj.cells #[.int .u8 2, .int .i64 (fx : Nat)] 162 (0, 0))], q ∈ (b8, Obj.cells #[.int .i64 y.up, .int .u8 y.vd.code, .slice y1 y.vd.sets.length yc1, .slice y2 y.vd.soa.length yc2, .int .u32 y.time] 65 (0, 0)) :: (B4 ++ ((b6, Obj.cells #[.int .u8 2, .int .i64 (fx : Nat)] 162 (0, 0)) :: ((b2, Obj.cells #[.int .u8 0, .slice none 0 0, .slice none 0 0] 40 (0, 0)) :: L))) := by
    intro q hq
    simp only [List.mem_cons, List.not_mem_nil, or_false] at hq
    rcases hq with rfl | rfl | rfl
    · simp
    · simp [hm]
    · simp
   refine jw jc ([(b8, Obj.cells #[.int .i64 y.up, .int .u8 y.vd.code, .slice y1 y.vd.sets.length yc1, .slice y2 y.vd.soa.length yc2, .int .u32 y.time] 65 (0, 0)), (bb, Obj.cells (kf want (jp l) (.slice (some ⟨bc, oc, none⟩) vs.length c)).toArray 165 (0, 0)), (b6, Obj.cells #[.int .u8 2, .int .i64 (fx : Nat)] 162 (0, 0))]) [] ?_
   refine tkQ 0 ?_
   refine tkQ 1 ?_
   refine tkQ 2 ?_
   refine tkQ 3 ?_
   refine tkQ 4 ?_
   refine tkQ 5 ?_
   (refine' ju 6 rfl rfl je (jF (jA [.int .u8 2, .int .i64 (jC vs y.vd : Nat)] rfl stL (List.mem_cons_of_mem _ (List.mem_cons_self ..)) hslip)) ?_ ?_; (· assumption))
   refine tkQ 7 ?_
   (refine' ju 8 rfl rfl je (jF (uk rfl rfl JI)) ?_ ?_; (· assumption))
   refine tdQ ?_
   clear hKm hslip
   by_cases hyx : y.vd = x.vd
   · have hne : (!decide (((2 : Int), ((jC vs y.vd : Nat) : Int)) = (2, ((fx : Nat) : Int)))) = false := by rw [(hfi y hym).2 hyx]; simp
     rw [if_pos hyx] at hWs
     obtain ⟨ws, hws⟩ : ∃ ws, jH (vs.take i) x.vd = ws := ⟨_, rfl⟩
     rw [hws] at hWs hWi hWi9 hB4 ⊢
     have htp := YB ws y
     have htb : 0 ≤ uG ws ∧ uG ws ≤ 4294967295 := abu fun v hv => by
      rw [← hws] at hv
      have hvm := List.mem_of_mem_take (withV_mem.1 hv).1
      obtain ⟨k, hk1⟩ := List.getElem?_of_mem hvm
      obtain ⟨_, _, hvv, _⟩ := hcur k v hk1
      obtain ⟨_, _, _, _, _, _, _, _, ht, _⟩ := hvv.vals
      exact ht
     obtain ⟨ht0, ht1⟩ := htb
     refine goF ?_
     refine Y8 (σ := Unit) (fun _ => True) (fun _ => [(0, .pointer (some ⟨bb, 0, none⟩)), (2, .pointer (some ⟨b2, 0, none⟩)), (3, .int .u32 (uG (ws ++ [y]))), (4, .slice a4 (ws.map (·.up)).length c4), (5, .bool true), (6, .pointer (some ⟨b6, 0, none⟩)), (8, .pointer (some ⟨b8, 0, none⟩)), (20, .slice (some ⟨bc, oc, none⟩) vs.length c), (21, .int .i64 (vs.length : Nat)), (22, .int .i64 (i : Nat))]) (fun _ => (b8, Obj.cells #[.int .i64 y.up, .int .u8 y.vd.code, .slice y1 y.vd.sets.length yc1, .slice y2 y.vd.soa.length yc2, .int .u32 y.time] 65 (0, 0)) :: (B4 ++ ((b6, Obj.cells #[.int .u8 2, .int .i64 (fx : Nat)] 162 (0, 0)) :: ((b2, Obj.cells #[.int .u8 0, .slice none 0 0, .slice none 0 0] 40 (0, 0)) :: L)))) ?_ ?_
     · by_cases h0 : ws.length = 0
       · rw [if_pos (Or.inl h0)] at htp
         rw [htp]
         have h0' : (((ws.map (·.up)).length : Nat) : Int) = 0 := by omega
         refine goA ?_
         refine kS () trivial ?_ (fun w h => h)
         exact js
       · have h0' : ¬ (((ws.map (·.up)).length : Nat) : Int) = 0 := by omega
         by_cases hlt : y.time < uG ws
         · rw [if_pos (Or.inr hlt)] at htp
           rw [htp]
           refine goA ?_
           refine kS () trivial ?_ (fun w h => h)
           exact js
         · rw [if_neg (fun h => h.elim h0 hlt)] at htp
           rw [htp]
           refine goA ?_
           refine kS () trivial ?_ (fun w h => h)
           exact js
     · rintro _ _
       have hnx : ((ws ++ [y]).map (·.up)) = ws.map (·.up) ++ [y.up] := by simp
       have g8 : (#[.int .i64 y.up, .int .u8 y.vd.code, .slice y1 y.vd.sets.length yc1, .slice y2 y.vd.soa.length yc2, .int .u32 y.time] : Array Value)[0 + 0]? = some (.int .i64 y.up) := rfl
       repeat (first | refine goA ?_ | (refine qh ?_; intro bLit))
       refine jE (L' := (bLit, Obj.cells #[.int .i64 y.up] 3 (0, 0)) :: (B4 ++ ((b6, Obj.cells #[.int .u8 2, .int .i64 (fx : Nat)] 162 (0, 0)) :: ((b2, Obj.cells #[.int .u8 0, .slice none 0 0, .slice none 0 0] 40 (0, 0)) :: L)))) ?_ ji
       refine jx (WK etO rfl rfl hB4 (abC ⟨hu0, hu9⟩) jd (by decide)) rfl ?_
       rintro _ _ ⟨a5, c5, B5, rfl, hB5, rfl⟩
       rw [← hnx, ← hWs] at hB5 ⊢
       have hl5 := hlenW (i + 1)
       have hc5 := hB5.cap
       unfold maxLen at hc5
       have hnx2 := hW9 (i + 1)
       by_cases hij : i = j
       · subst hij
         have hw5 : ((((jH (vs.take (i + 1)) x.vd).map (·.up)).length : Nat) : Int) = want := by rw [hl5]; exact hk.len
         refine goA ?_
         refine jx (jb je rfl (adp a5 c5 _ B5 hB5 jd)) rfl ?_
         rintro _ _ ⟨rfl, B6, hB6, rfl⟩
         have hVW : Vup (jH (vs.take (i + 1)) x.vd) := (hup.take _).filter _
         rw [WE hVW.nd hVW.ups] at hB6
         have hrl := zK hVW.nd hVW.ups
         rw [← hrl]
         obtain ⟨csz, _, hzv, hcz⟩ := hcur fx z hz
         obtain ⟨z1, zc1, z2, zc2, rfl, hz1, hz2, hz3, hz4, hz5⟩ := hzv.vals
         have hczv : ∀ k v, ([.int .u8 z.vd.code, .slice z1 z.vd.sets.length zc1, .slice z2 z.vd.soa.length zc2] : List Value)[k]? = some v → cur[oc + fx * 5 + 1 + k]? = some v := fun k v hj => by
          rw [Nat.add_assoc]
          match k, hj with
          | 0, hj => exact hcz 1 v hj
          | 1, hj => exact hcz 2 v hj
          | 2, hj => exact hcz 3 v hj
         have hzvd : vdR K [.int .u8 z.vd.code, .slice z1 z.vd.sets.length zc1, .slice z2 z.vd.soa.length zc2] z.vd := ⟨_, _, rfl, hz1, hz2, hz3⟩
         have hzs := hs z (List.mem_of_getElem? hz)
         refine goA ?_
         refine Y7 (L' := (b2, Obj.cells #[.int .u8 0, .slice none 0 0, .slice none 0 0] 40 (0, 0)) :: ((b6, Obj.cells #[.int .u8 2, .int .i64 (fx : Nat)] 162 (0, 0)) :: (B6 ++ L))) ?_ ji
         have hKm : ∀ q ∈ [(b6, Obj.cells #[.int .u8 2, .int .i64 (fx : Nat)] 162 (0, 0)), (bb, Obj.cells (kf want (jp l) (.slice (some ⟨bc, oc, none⟩) vs.length c)).toArray 165 (0, 0)), (bc, Obj.cells cur tc fc)], q ∈ (b2, Obj.cells #[.int .u8 0, .slice none 0 0, .slice none 0 0] 40 (0, 0)) :: ((b6, Obj.cells #[.int .u8 2, .int .i64 (fx : Nat)] 162 (0, 0)) :: (B6 ++ L)) := by
          intro q hq
          simp only [List.mem_cons, List.not_mem_nil, or_false] at hq
          rcases hq with rfl | rfl | rfl
          · simp
          · simp [hm]
          · simp [mc]
         have hKm2 : ∀ q ∈ [(b6, Obj.cells #[.int .u8 2, .int .i64 (fx : Nat)] 162 (0, 0)), (bb, Obj.cells (kf want (jp l) (.slice (some ⟨bc, oc, none⟩) vs.length c)).toArray 165 (0, 0)), (bc, Obj.cells cur tc fc)], q ∈ (b6, Obj.cells #[.int .u8 2, .int .i64 (fx : Nat)] 162 (0, 0)) :: (B6 ++ L) := by
          intro q hq
          simp only [List.mem_cons, List.not_mem_nil, or_false] at hq
          rcases hq with rfl | rfl | rfl
          · simp
          · simp [hm]
          · simp [mc]
         refine jw jc ([(b6, Obj.cells #[.int .u8 2, .int .i64 (fx : Nat)] 162 (0, 0)), (bb, Obj.cells (kf want (jp l) (.slice (some ⟨bc, oc, none⟩) vs.length c)).toArray 165 (0, 0)), (bc, Obj.cells cur tc fc)]) [] ?_
         refine tkQ 0 ?_
         refine tkQ 1 ?_
         refine tkQ 2 ?_
         refine tkQ 3 ?_
         refine tkQ 4 ?_
         refine tkQ 5 ?_
         refine tkQ 6 ?_
         refine tkQ 7 ?_
         (refine' ju 8 rfl rfl je (jF (jA [.int .u8 z.vd.code, .slice z1 z.vd.sets.length zc1, .slice z2 z.vd.soa.length zc2] rfl stL (List.mem_cons_of_mem _ (List.mem_cons_of_mem _ (List.mem_cons_self ..))) hczv)) ?_ ?_; (· assumption))
         refine tkQ 10 ?_
         refine tkQ 11 ?_
         refine jD 9 je rfl rfl rfl rfl (jb je rfl (yT _ z.vd (jY _ _ _ _ (fun p hp => (jn) p (hK p hp)) hzvd) hzs)) ?_; rintro _ _ ⟨aR, cR, BR, aS, cS, BS, NR, rfl, hR2, hS2, hNR, rfl⟩; refine ⟨Or.inr (fun q hq => (jn) q (hKm q hq)), ?_⟩
         refine kk (L' := (b2, Obj.cells #[.int .u8 0, .slice none 0 0, .slice none 0 0] 40 (0, 0)) :: (BS ++ (BR ++ (NR ++ ((b6, Obj.cells #[.int .u8 2, .int .i64 (fx : Nat)] 162 (0, 0)) :: (B6 ++ L)))))) ?_ ji; refine jU 12 je rfl rfl rfl (qn rfl rfl stO rfl rfl rfl) ?_; rintro _ _ ⟨_, rfl⟩; refine ⟨Or.inr (fun q hq => (jn) q (hKm2 q hq)), ?_⟩
         refine tkQ 13 ?_
         refine tkQ 14 ?_
         refine tkQ 15 ?_
         refine tdQ ?_
         refine goA ?_
         rw [hzx] at hR2 hS2 ⊢
         refine WJ 2 40 3 4 5 rfl rfl rfl rfl rfl stO (by repeat (exact List.mem_cons_self)) rfl (fun w h => Heap.cnt (L' := B6 ++ (BS ++ (BR ++ (NR ++ L)))) h ji) ?_
         exact ⟨_, _, _, _, _, _, _, _, _, _, rfl, hR2, hS2, hB6, hNR, rfl⟩
       · have hlt : i + 1 ≤ j := by omega
         have hno1 : jZ want vs (i + 1) = none := by
          cases h : jZ want vs (i + 1) with
          | none => rfl
          | some k =>
            have h5 := Qn (i + 1) j hlt h
            rw [hk.no] at h5
            cases h5
         have hw5 : ¬ ((((jH (vs.take (i + 1)) x.vd).map (·.up)).length : Nat) : Int) = want := by
          rw [hl5]
          have := Qo hw1 (i + 1) jd hno1 x.vd
          omega
         refine goA ?_
         refine jg (i + 1, a5, c5, B5) ⟨hlt, hB5⟩ ?_ (fun w h => h.cnt ji) (by dsimp only; omega)
         exact js
   · have hne : (!decide (((2 : Int), ((jC vs y.vd : Nat) : Int)) = (2, ((fx : Nat) : Int)))) = true := by
      have : ¬ jC vs y.vd = fx := fun h => hyx ((hfi y hym).1 h)
      simp
      omega
     rw [if_neg hyx] at hWs
     have hij : i ≠ j := by
      intro e
      rw [e, hk.at_] at hy
      exact hyx (by rw [Option.some.inj hy])
     have hlt : i + 1 ≤ j := by omega
     refine goA ?_
     refine jg (i + 1, a4, c4, B4) ⟨hlt, by dsimp only; rw [hWs]; exact hB4⟩ ?_ (fun w h => h.cnt ji) (by dsimp only; omega)
     rw [hWs]
     exact js
end
section
open Go.RowKit
open Vd (RSet Vdt Vote Rec Quest Piece Ballot)
variable {G : World} {L : ja}
theorem abD {l : List Ballot} {w : Int} (h : (jp l w).1 = 2) : ∃ y ∈ Vd.votesB l, y.up = w := by
 unfold jp at h
 cases hf : l.find? (fun b => b.v.up == w) with
 | none => rw [hf] at h; cases h
 | some b =>
   rw [hf] at h
   have h1 := List.find?_some hf
   have h2 := List.mem_of_find?_eq_some hf
   dsimp only at h
   cases hp : b.pass with
   | true => rw [hp] at h; cases h
   | false => exact ⟨b.v, votesB_mem.2 ⟨b, h2, hp, rfl⟩, by simpa using h1⟩
def agB (l : List Ballot) (f : Int) (w : Int) : Bool := decide ((jp l w).1 = 2) && !decide (((jp l w).1, (jp l w).2) = (2, f))
theorem Uh {l : List Ballot} (hl : BoxOk l) {want : Int} {j : Nat} {x : Vote} (hk : WonBy want (Vd.votesB l) j x) : kE want (Vd.votesB l) = nine.filter (agB l (jC (Vd.votesB l) x.vd : Nat)) := by
 have hup := hl.vup
 have hxm := List.mem_of_getElem? hk.at_
 unfold kE
 rw [hk.is]
 rw [if_pos rfl, uf (hup.filter _).nd]
 refine List.filter_congr fun w hw => ?_
 dsimp only
 rw [Bool.eq_iff_iff, decide_eq_true_eq, List.mem_map]
 unfold agB
 rw [Bool.and_eq_true, decide_eq_true_eq, Bool.not_eq_true', decide_eq_false_iff_not]
 constructor
 · rintro ⟨y, hy, rfl⟩
   obtain ⟨h1, h2⟩ := List.mem_filter.1 hy
   rw [qA hl h1]
   refine ⟨rfl, fun e => ?_⟩
   have h3 : ¬ y.vd = x.vd := by simpa using h2
   refine h3 ((uF h1 hxm).1 ?_)
   have := (Prod.mk.inj e).2
   omega
 · rintro ⟨h1, h2⟩
   obtain ⟨y, hy, rfl⟩ := abD h1
   refine ⟨y, List.mem_filter.2 ⟨hy, ?_⟩, rfl⟩
   rw [qA hl hy] at h2
   have : ¬ y.vd = x.vd := fun e => h2 (by rw [e])
   simpa using this
def QJ (l : List Ballot) (w : Int) (n : Nat) : Nat := (nine.take n).countP fun t => decide (((jp l t).1, (jp l t).2) = ((jp l w).1, (jp l w).2))
theorem UF {l : List Ballot} (hl : BoxOk l) {y : Vote} (hy : y ∈ Vd.votesB l) : QJ l y.up 9 = (jH (Vd.votesB l) y.vd).length := by
 have hup := hl.vup
 have h1 := zK (hup.filter fun x => decide (x.vd = y.vd)).nd (hup.filter _).ups
 rw [List.length_map] at h1
 unfold jH
 rw [← h1, uf (hup.filter _).nd, ← List.countP_eq_length_filter]
 unfold QJ
 have : nine.take 9 = nine := rfl
 rw [this]
 refine List.countP_congr fun w hw => ?_
 rw [decide_eq_true_eq, decide_eq_true_eq, List.mem_map, qA hl hy]
 constructor
 · intro e
   obtain ⟨z, hz, rfl⟩ := abD (l := l) (w := w) (Prod.mk.inj e).1
   rw [qA hl hz] at e
   refine ⟨z, List.mem_filter.2 ⟨hz, ?_⟩, rfl⟩
   have := (Prod.mk.inj e).2
   simpa using (uF hz hy).1 jd
 · rintro ⟨z, hz, rfl⟩
   obtain ⟨h2, h3⟩ := List.mem_filter.1 hz
   rw [qA hl h2]
   rw [of_decide_eq_true h3]
def uV (l : List Ballot) (n : Nat) : Int := (nine.take n).foldl (fun m w => if (jp l w).1 = 2 then max m ((QJ l w 9 : Nat) : Int) else m) 0
theorem Jh {l : List Ballot} {m : Int} : ∀ {ws : List Int} {k : Int}, ws.foldl (fun m w => if (jp l w).1 = 2 then max m ((QJ l w 9 : Nat) : Int) else m) k ≤ m ↔ k ≤ m ∧ ∀ w ∈ ws, (jp l w).1 = 2 → ((QJ l w 9 : Nat) : Int) ≤ m := by
 intro ws
 induction ws with
 | nil => intro k; simp
 | cons w r ih =>
   intro k
   rw [List.foldl_cons, ih]
   simp only [List.mem_cons, forall_eq_or_imp]
   split
   · rename_i h
     constructor
     · rintro ⟨h1, h2⟩; exact ⟨by omega, fun _ => by omega, h2⟩
     · rintro ⟨h1, h2, h3⟩; have := h2 h; exact ⟨by omega, h3⟩
   · rename_i h
     constructor
     · rintro ⟨h1, h2⟩; exact ⟨h1, fun k => absurd k h, h2⟩
     · rintro ⟨h1, h2, h3⟩; exact ⟨h1, h3⟩
theorem abE {l : List Ballot} (hl : BoxOk l) : uV l 9 = uE (Vd.votesB l) := by
 have hup := hl.vup
 have h0 : uV l 9 ≤ uV l 9 := Int.le_refl _
 have h1 := (Jh (l := l) (ws := nine.take 9)).1 h0
 have h2 : uE (Vd.votesB l) ≤ uV l 9 := mostR_le.2 ⟨h1.1, fun x hx => by
  rw [← UF hl hx]
  refine h1.2 x.up (mem_nine.2 (hup.up x hx)) ?_
  rw [qA hl hx]⟩
 have h3 : uV l 9 ≤ uE (Vd.votesB l) := (Jh (l := l) (ws := nine.take 9)).2 ⟨Jf _, fun w hw h => by
  obtain ⟨y, hy, rfl⟩ := abD h
  rw [UF hl hy]
  exact abw hy⟩
 omega
theorem VC {u : Nat} (h : u < 9) : nine[u]? = some (u : Int) := by
 match u, h with
 | 0, _ | 1, _ | 2, _ | 3, _ | 4, _ | 5, _ | 6, _ | 7, _ | 8, _ => rfl
theorem JJ {f : Int → Int × Int} {u : Nat} (h : u < 9) : (kC f).toArray.extract ((u : Int).toNat * 2) ((u : Int).toNat * 2 + 2) = #[.int .u8 (f u).1, .int .i64 (f u).2] := by
 match u, h with
 | 0, _ | 1, _ | 2, _ | 3, _ | 4, _ | 5, _ | 6, _ | 7, _ | 8, _ => rfl
theorem Ji {want : Int} {f : Int → Int × Int} {v : Value} : ∀ j x, (kC f)[j]? = some x → (kf want f v).toArray[0 + 1 + j]? = some x := fun j x hj => by
 have hl : (kC f).length = 18 := rfl
 have hj2 := (List.getElem?_eq_some_iff.1 hj).1
 unfold kf
 rw [Nat.zero_add, Nat.add_comm, List.getElem?_toArray, List.getElem?_cons_succ, List.getElem?_append_left hj2]
 exact hj
theorem abF : nine.length = 9 := rfl
theorem YC {K : ja} (bb : Nat) (want : Int) (l : List Ballot) (a : Option Addr) (c : Nat) (hm : (bb, Obj.cells (kf want (jp l) (.slice a (Vd.votesB l).length c)).toArray 165 (0, 0)) ∈ L) (hv : sliceR 5 (fun _ => voteR K) L [.slice a (Vd.votesB l).length c] (Vd.votesB l)) (hl : BoxOk l) (hn : l.length ≤ 9) :
 Spec Tryz.prog G 190 #[.pointer (some ⟨bb, 0, none⟩)] L fun u M => ∃ a3 c3 B3, u = .slice a3 (if want < 1 then [] else kE want (Vd.votesB l)).length c3 ∧ ORow (uz .i64) 3 1 [] a3 c3 (if want < 1 then [] else kE want (Vd.votesB l)) B3 ∧ M = B3 ++ L := by
 have hvl := kn l
 have hup := hl.vup
 refine jl (n := 37) Tryz.func190 rfl rfl rfl ?_
 refine goA ?_
 refine jN (jb je rfl (UD bb want l a c hm hv hl hn)) rfl ?_
 by_cases hno : want < 1 ∨ jZ want (Vd.votesB l) (Vd.votesB l).length = none
 · have hW : zy want (Vd.votesB l) = ((0, 0), false) := by
    unfold zy
    by_cases hw : want < 1
    · rw [if_pos hw]
    · rw [if_neg hw, hno.resolve_left hw]
   have hR : (if want < 1 then [] else kE want (Vd.votesB l)) = [] := by
    by_cases hw : want < 1
    · rw [if_pos hw]
    · rw [if_neg hw]
      unfold kE qt
      rw [hno.resolve_left hw]
      rfl
   rw [hW, hR]
   repeat (first | refine goA ?_ | (refine jQ ?_; intro bNew))
   refine jG (L' := L) ?_ ji
   refine jf 2 _ rfl rfl ?_
   exact ⟨none, 0, [], rfl, ORow.nil _, rfl⟩
 · have hw : ¬ want < 1 := fun h => hno (Or.inl h)
   have hw1 : 1 ≤ want := by omega
   obtain ⟨j, x, hk⟩ : ∃ j x, WonBy want (Vd.votesB l) j x := by
    rcases abv hw1 (Vd.votesB l) with ⟨h, _⟩ | h
    · exact absurd (Or.inr h) hno
    · exact h
   have hW : zy want (Vd.votesB l) = ((2, (jC (Vd.votesB l) x.vd : Int)), true) := by
    unfold zy
    rw [if_neg hw, hk.yes]
    dsimp only
    rw [hk.at_]
   rw [hW, if_neg hw, Uh hl hk]
   obtain ⟨fx, hfx⟩ : ∃ f, jC (Vd.votesB l) x.vd = f := ⟨_, rfl⟩
   rw [hfx]
   obtain ⟨vv, hvv⟩ : ∃ v, Value.slice a (Vd.votesB l).length c = v := ⟨_, rfl⟩
   rw [hvv] at hm
   repeat (first | refine goA ?_ | (refine jQ ?_; intro bNew))
   obtain ⟨b3, hb3⟩ : ∃ b, bNew = b := ⟨_, rfl⟩
   rw [hb3]
   clear hb3 bNew
   refine jy (Jg (kC (jp l)) rfl unO je (List.mem_cons_of_mem _ hm) Ji) rfl ?_
   refine goA ?_
   refine jz (σ := Nat × Option Addr × Nat × ja) (fun y => y.1 ≤ 9 ∧ ORow (uz .i64) 3 1 [] y.2.1 y.2.2.1 ((nine.take y.1).filter (agB l (fx : Nat))) y.2.2.2) (fun y => [(3, .pointer (some ⟨b3, 0, none⟩)), (5, .slice y.2.1 ((nine.take y.1).filter (agB l (fx : Nat))).length y.2.2.1), (18, .agg (kC (jp l)).toArray), (19, .int .i64 (y.1 : Nat))]) (fun y => y.2.2.2 ++ ((b3, Obj.cells #[.int .u8 2, .int .i64 (fx : Nat)] 162 (0, 0)) :: L)) (fun y => 9 - y.1) (0, none, 0, []) ⟨Nat.zero_le _, ORow.nil _⟩ ?_ (fun w h => h) ?_
   exact js
   rintro ⟨i, a4, c4, B4⟩ ⟨hi, hB4⟩
   dsimp only at hi hB4 ⊢
   have hl4 := List.length_filter_le (agB l (fx : Nat)) (nine.take i)
   rw [List.length_take, abF] at hl4
   by_cases hil : i < 9
   · have hext := JJ (f := jp l) hil
     have htk : nine.take (i + 1) = nine.take i ++ [(i : Int)] := by rw [List.take_add_one, VC hil]; rfl
     refine goA ?_
     refine jy (VA rfl rfl unO stO jd jd) rfl ?_
     rw [hext]
     repeat (first | refine goA ?_ | (refine jQ ?_; intro bNew))
     obtain ⟨b7, hb7⟩ : ∃ b, bNew = b := ⟨_, rfl⟩
     rw [hb7]
     clear hb7 bNew
     by_cases hk2 : (jp l (i : Int)).1 = 2
     · by_cases hne : ((jp l (i : Int)).1, (jp l (i : Int)).2) = (2, ((fx : Nat) : Int))
       · have hq : (!decide (((jp l (i : Int)).1, (jp l (i : Int)).2) = (2, ((fx : Nat) : Int)))) = false := by simp [hne]
         have hp : (nine.take (i + 1)).filter (agB l (fx : Nat)) = (nine.take i).filter (agB l (fx : Nat)) := by
          have : agB l (fx : Nat) (i : Int) = false := by unfold agB; rw [hq, Bool.and_false]
          rw [htk, List.filter_append]
          simp [this]
         repeat (first | refine goA ?_ | refine jI (uk rfl rfl JI) rfl ?_)
         refine jg (i + 1, a4, c4, B4) ⟨hil, by dsimp only; rw [hp]; exact hB4⟩ ?_ (fun w h => h.cnt ji) (by dsimp only; omega)
         dsimp only
         rw [hp]
         exact js
       · have hq : (!decide (((jp l (i : Int)).1, (jp l (i : Int)).2) = (2, ((fx : Nat) : Int)))) = true := by simp [hne]
         have hp : (nine.take (i + 1)).filter (agB l (fx : Nat)) = (nine.take i).filter (agB l (fx : Nat)) ++ [(i : Int)] := by
          have : agB l (fx : Nat) (i : Int) = true := by unfold agB; rw [hq, hk2]; rfl
          rw [htk, List.filter_append]
          simp [this]
         repeat (first | refine goA ?_ | refine jI (uk rfl rfl JI) rfl ?_ | (refine qh ?_; intro bLit))
         refine jE (L' := (bLit, Obj.cells #[.int .i64 (i : Nat)] 3 (0, 0)) :: (B4 ++ ((b3, Obj.cells #[.int .u8 2, .int .i64 (fx : Nat)] 162 (0, 0)) :: L))) ?_ ji
         refine jx (WK etO rfl rfl hB4 (abC ⟨by omega, by omega⟩) jd (by decide)) rfl ?_
         rintro _ _ ⟨a5, c5, B5, rfl, hB5, rfl⟩
         rw [← hp] at hB5 ⊢
         refine goA ?_
         refine jg (i + 1, a5, c5, B5) ⟨hil, hB5⟩ ?_ (fun w h => h.cnt ji) (by dsimp only; omega)
         exact js
     · have hp : (nine.take (i + 1)).filter (agB l (fx : Nat)) = (nine.take i).filter (agB l (fx : Nat)) := by
        have : agB l (fx : Nat) (i : Int) = false := by unfold agB; rw [decide_eq_false hk2, Bool.false_and]
        rw [htk, List.filter_append]
        simp [this]
       refine goA ?_
       refine jg (i + 1, a4, c4, B4) ⟨hil, by dsimp only; rw [hp]; exact hB4⟩ ?_ (fun w h => h.cnt ji) (by dsimp only; omega)
       dsimp only
       rw [hp]
       exact js
   · have hie : i = 9 := by omega
     subst hie
     have h9 : nine.take 9 = nine := rfl
     rw [h9] at hB4 ⊢
     refine goA ?_
     refine jG (L' := B4 ++ L) ?_ ji
     refine jf 2 _ rfl rfl ?_
     exact ⟨a4, c4, B4, rfl, hB4, rfl⟩
theorem adq (bb : Nat) (want : Int) (l : List Ballot) (vv : Value) (hm : (bb, Obj.cells (kf want (jp l) vv).toArray 165 (0, 0)) ∈ L) (hl : BoxOk l) :
 Spec Tryz.prog G 186 #[.pointer (some ⟨bb, 0, none⟩)] L fun u M => u = .int .i64 (uE (Vd.votesB l)) ∧ M = L := by
 have hcs : ∀ w n, QJ l w n ≤ n := fun w n => Nat.le_trans List.countP_le_length (by rw [List.length_take]; omega)
 have hms : ∀ n, 0 ≤ uV l n ∧ uV l n ≤ 9 := fun n => by
  have h1 := (Jh (l := l) (ws := nine.take n) (k := 0)).1 (Int.le_refl _)
  refine ⟨h1.1, (Jh (l := l) (ws := nine.take n) (k := 0)).2 ⟨by omega, fun w _ _ => ?_⟩⟩
  have := hcs w 9
  omega
 refine jl (n := 39) Tryz.func186 rfl rfl rfl ?_
 refine goA ?_
 refine jy (Jg (kC (jp l)) rfl unO je hm Ji) rfl ?_
 refine goA ?_
 refine jz (σ := Nat) (fun y => y ≤ 9) (fun y => [(0, .pointer (some ⟨bb, 0, none⟩)), (3, .int .i64 (uV l y)), (14, .agg (kC (jp l)).toArray), (15, .int .i64 (y : Nat))]) (fun y => L) (fun y => 9 - y) 0 (Nat.zero_le _) ?_ (fun w h => h) ?_
 exact js
 rintro i hi
 by_cases hil : i < 9
 · have hext := JJ (f := jp l) hil
   have htk : nine.take (i + 1) = nine.take i ++ [(i : Int)] := by rw [List.take_add_one, VC hil]; rfl
   have hmn : uV l (i + 1) = if (jp l (i : Int)).1 = 2 then max (uV l i) ((QJ l (i : Int) 9 : Nat) : Int) else uV l i := by
    unfold uV
    rw [htk, List.foldl_append]
    rfl
   refine goA ?_
   refine jy (VA rfl rfl unO stO jd jd) rfl ?_
   rw [hext]
   repeat (first | refine goA ?_ | (refine jQ ?_; intro bNew))
   obtain ⟨b5, hb5⟩ : ∃ b, bNew = b := ⟨_, rfl⟩
   rw [hb5]
   clear hb5 bNew
   by_cases hk2 : (jp l (i : Int)).1 = 2
   · rw [if_pos hk2] at hmn
     refine goA ?_
     refine jy (Jg (kC (jp l)) rfl unO je (List.mem_cons_of_mem _ hm) Ji) rfl ?_
     refine goA ?_
     refine jz (σ := Nat) (fun y => y ≤ 9) (fun y => [(0, .pointer (some ⟨bb, 0, none⟩)), (3, .int .i64 (uV l i)), (5, .pointer (some ⟨b5, 0, none⟩)), (6, .int .i64 (QJ l (i : Int) y : Nat)), (14, .agg (kC (jp l)).toArray), (15, .int .i64 (i : Nat)), (24, .agg (kC (jp l)).toArray), (25, .int .i64 (y : Nat))]) (fun y => (b5, Obj.cells #[.int .u8 (jp l (i : Int)).1, .int .i64 (jp l (i : Int)).2] 162 (0, 0)) :: L) (fun y => 9 - y) 0 (Nat.zero_le _) ?_ (fun w h => h) ?_
     exact js
     rintro k hk
     by_cases hkl : k < 9
     · have hextk := JJ (f := jp l) hkl
       have htkk : nine.take (k + 1) = nine.take k ++ [(k : Int)] := by rw [List.take_add_one, VC hkl]; rfl
       have hcn : QJ l (i : Int) (k + 1) = QJ l (i : Int) k + if decide (((jp l (k : Int)).1, (jp l (k : Int)).2) = ((jp l (i : Int)).1, (jp l (i : Int)).2)) = true then 1 else 0 := by
        unfold QJ
        rw [htkk, List.countP_append, List.countP_cons, List.countP_nil, Nat.zero_add]
       have hck := hcs (i : Int) k
       refine goA ?_
       refine jy (VA rfl rfl unO stO jd jd) rfl ?_
       rw [hextk]
       cases hd : decide (((jp l (k : Int)).1, (jp l (k : Int)).2) = ((jp l (i : Int)).1, (jp l (i : Int)).2)) with
       | true =>
         rw [hd, if_pos rfl] at hcn
         repeat (first | refine goA ?_ | refine jy (uk rfl rfl UE) rfl ?_ | (refine jQ ?_; intro bNew))
         refine jg (k + 1) hkl ?_ (fun w h => h.cnt ji) jd
         rw [hcn]
         exact js
       | false =>
         rw [hd, if_neg (by simp)] at hcn
         repeat (first | refine goA ?_ | refine jy (uk rfl rfl UE) rfl ?_ | (refine jQ ?_; intro bNew))
         refine jg (k + 1) hkl ?_ (fun w h => h.cnt ji) jd
         rw [hcn]
         exact js
     · have hke : k = 9 := by omega
       subst hke
       have hms1 := hms i
       have hck := hcs (i : Int) 9
       refine goA ?_
       refine jg (i + 1) hil ?_ (fun w h => h.cnt ji) jd
       rw [hmn]
       exact js
   · rw [if_neg hk2] at hmn
     refine goA ?_
     refine jg (i + 1) hil ?_ (fun w h => h.cnt ji) jd
     rw [hmn]
     exact js
 · have hie : i = 9 := by omega
   subst hie
   rw [abE hl]
   refine goA ?_
   refine jf 2 _ rfl rfl ?_
   exact ⟨rfl, rfl⟩
end
section
open Go.RowKit
open Vd (RSet Vdt Vote Rec Quest Piece Ballot)
variable {G : World} {L : ja}
def ajv (l : List Int) (n : Nat) : List Int := (List.range n).flatMap fun (n : Nat) => l.filter fun x => x == (n : Int)
def ahL (K L : ja) (r : Vdt × Int × List Int × Bool) (u : Value) (M : ja) : Prop := ∃ cs a3 c3 B3, u = .tuple #[.agg cs.toArray, .int .u32 r.2.1, .slice a3 r.2.2.1.length c3, .bool r.2.2.2] ∧ vdR K cs r.1 ∧ ORow (uz .i64) 3 1 [] a3 c3 r.2.2.1 B3 ∧ M = B3 ++ L
end
section
open Go.RowKit
open Vd (RSet Vdt Vote Rec Quest Piece Ballot)
variable {G : World} {L : ja}
structure BallC (K : ja) (C : Array Value) (o : Nat) (x : Ballot) (a1 : Option Addr) (c1 : Nat) (a2 : Option Addr) (c2 : Nat) : Prop where
 up : C[o + 0 + 0]? = some (.int .i64 x.v.up)
 pass : C[o + 5]? = some (.bool x.pass)
 vd : ∀ j v, ([.int .u8 x.v.vd.code, .slice a1 x.v.vd.sets.length c1, .slice a2 x.v.vd.soa.length c2] : List Value)[j]? = some v → C[o + 0 + 1 + j]? = some v
 is : vdR K [.int .u8 x.v.vd.code, .slice a1 x.v.vd.sets.length c1, .slice a2 x.v.vd.soa.length c2] x.v.vd
 bd : -9223372036854775808 ≤ x.v.up ∧ x.v.up ≤ 9223372036854775807
end
section
open Go.RowKit
open Vd (RSet Vdt Vote Rec Quest Piece Ballot)
variable {G : World} {L : ja}
theorem aeE (want : Int) : Spec Tryz.prog G 41 #[.int .i64 want] L fun u M => (1 ≤ want ∧ want ≤ 9 ∧ ∃ bb, u = .tuple #[.pointer (some ⟨bb, 0, none⟩), .int .i64 0] ∧ M = (bb, Obj.cells (kf want (jp []) (.slice none (Vd.votesB []).length 0)).toArray 165 (0, 0)) :: L) ∨ ((want < 1 ∨ 9 < want) ∧ u = .tuple #[.pointer none, .int .i64 1] ∧ M = L) := by
 refine jl (n := 13) Tryz.func41 rfl rfl rfl ?_
 by_cases h1 : want < 1
 · refine goA ?_
   refine kd 2 3 _ _ rfl rfl rfl ?_
   exact Or.inr ⟨Or.inl h1, rfl, rfl⟩
 · by_cases h9 : 9 < want
   · refine goA ?_
     refine kd 2 3 _ _ rfl rfl rfl ?_
     exact Or.inr ⟨Or.inr h9, rfl, rfl⟩
   · repeat (first | refine goA ?_ | (refine kD ?_; intro bBox) | refine jy (jm rfl (V5 _)) rfl ?_)
     refine kd 2 3 _ _ rfl rfl rfl ?_
     exact Or.inl ⟨by omega, by omega, _, rfl, rfl⟩
end
section
open Go.RowKit
open Vd (RSet Vdt Vote Rec Quest Piece Ballot)
variable {G : World} {L : ja}
theorem Z7 {w : Int} {m c : Nat} {ad : Option Addr} {v0 v1 v2 v3 v4 v5 v6 v7 v8 v9 v10 v11 v12 v13 v14 v15 v16 v17 : Value} : Built Tryz.prog 165 [(0, .int .i64 w), (1, .agg #[v0, v1, v2, v3, v4, v5, v6, v7, v8, v9, v10, v11, v12, v13, v14, v15, v16, v17]), (2, .slice ad m c)] (.agg #[.int .i64 w, v0, v1, v2, v3, v4, v5, v6, v7, v8, v9, v10, v11, v12, v13, v14, v15, v16, v17, .slice ad m c]) := ⟨fun w => by kernel_rfl⟩
theorem adr {K : ja} (bb : Nat) (want : Int) (l : List Ballot) (M0 : ja) (hb : TBox K bb want l M0) (hK : ∀ p ∈ K, p ∈ L) (hn : l.length ≤ 9) (hs : ∀ x ∈ Vd.votesB l, SmV x.vd) :
 Spec Tryz.prog G 51 #[.pointer (some ⟨bb, 0, none⟩)] (M0 ++ L) fun u M => ∃ b2 M2 N, u = .pointer (some ⟨b2, 0, none⟩) ∧ TBox N b2 want l M2 ∧ Wr N ∧ M = M2 ++ (N ++ (M0 ++ L)) := by
 obtain ⟨a, c, B, hB, rfl⟩ := hb
 have hvl := kn l
 have g0 : (kf want (jp l) (.slice a (Vd.votesB l).length c)).toArray[0 + 0]? = some (.int .i64 want) := rfl
 have g19 : (kf want (jp l) (.slice a (Vd.votesB l).length c)).toArray[0 + 19]? = some (.slice a (Vd.votesB l).length c) := rfl
 have hv : sliceR 5 voteR ((bb, Obj.cells (kf want (jp l) (.slice a (Vd.votesB l).length c)).toArray 165 (0, 0)) :: (B ++ L)) [.slice a (Vd.votesB l).length c] (Vd.votesB l) := (hB.mono kU (fun p hp => List.mem_cons_of_mem _ (List.mem_append_right _ (hK p hp)))).sliceR kU (fun p h => h) jn
 have hKm : ∀ q ∈ [(bb, Obj.cells (kf want (jp l) (.slice a (Vd.votesB l).length c)).toArray 165 (0, 0))], q ∈ ((bb, Obj.cells (kf want (jp l) (.slice a (Vd.votesB l).length c)).toArray 165 (0, 0)) :: B) ++ L := by
  intro q hq
  rw [List.mem_singleton.1 hq]
  simp
 refine jl (n := 20) Tryz.func51 rfl rfl rfl ?_
 repeat (first | refine goA ?_ | (refine kD ?_; intro bBox) | refine jy (jm rfl (bl_165_0_1_2 )) rfl ?_)
 refine jw jc ([(bb, Obj.cells (kf want (jp l) (.slice a (Vd.votesB l).length c)).toArray 165 (0, 0))]) [] ?_
 refine tkQ 0 ?_
 refine tkQ 1 ?_
 refine tkQ 2 ?_
 refine tkQ 3 ?_
 refine tkQ 4 ?_
 refine tkQ 5 ?_
 refine tkQ 6 ?_
 first | (refine' ju 7 rfl rfl je (jF (Jg (kC (jp l)) rfl unO je (List.mem_cons_self ..) Ji)) ?_ ?_; (· first | assumption | (intro p hp; grind)))
 refine tkQ 8 ?_
 refine tkQ 9 ?_
 refine tkQ 10 ?_
 refine tkQ 11 ?_
 refine jD 12 je rfl rfl rfl rfl (jb je rfl (Jd _ (Vd.votesB l) hv jd hs)) ?_; rintro _ _ ⟨a2, c2, B2, N, rfl, hB2, hN, rfl⟩; refine ⟨Or.inr (fun q hq => List.mem_append_right _ (List.mem_append_right _ (hKm q hq))), ?_⟩
 first | (refine' ju 13 rfl rfl je (jF (jm rfl Z7)) ?_ ?_; (· first | assumption | (intro p hp; grind)))
 refine jD 14 je rfl rfl rfl rfl (kQ rfl) ?_; rintro _ _ ⟨b2, rfl, rfl⟩; refine ⟨Or.inr (fun q hq => List.mem_cons_of_mem _ (List.mem_append_right _ (List.mem_append_right _ (hKm q hq)))), ?_⟩
 refine tkQ 15 ?_
 refine tdQ ?_
 repeat (first | refine goA ?_ | (refine kD ?_; intro bBox) | refine jy (jm rfl (bl_165_0_1_2 )) rfl ?_)
 refine jf 2 _ rfl rfl ?_
 exact ⟨b2, _, N, rfl, ⟨a2, c2, B2, hB2, rfl⟩, hN, rfl⟩
end
section
open Go.RowKit
open Vd (RSet Vdt Vote Rec Quest Piece Ballot Said)
def endedR (q : Quest) (K D : ja) : List Value → Vote → Prop := fun cs x => ∃ a1 c1 a2 c2 a3 c3, cs = [.int .i64 x.up, .int .u8 x.vd.code, .slice a1 x.vd.sets.length c1, .slice a2 x.vd.soa.length c2, .int .u32 x.time, .string (bs (Vd.endV q x.vd).1.name), .int .u16 (Vd.endV q x.vd).1.kind, .int .u16 (Vd.endV q x.vd).1.cls, .int .u32 (Vd.endV q x.vd).1.ttl, .slice a3 (Vd.endV q x.vd).1.data.length c3, .bool (Vd.endV q x.vd).2] ∧
 voteR K [.int .i64 x.up, .int .u8 x.vd.code, .slice a1 x.vd.sets.length c1, .slice a2 x.vd.soa.length c2, .int .u32 x.time] x ∧ rsR D [.string (bs (Vd.endV q x.vd).1.name), .int .u16 (Vd.endV q x.vd).1.kind, .int .u16 (Vd.endV q x.vd).1.cls, .int .u32 (Vd.endV q x.vd).1.ttl, .slice a3 (Vd.endV q x.vd).1.data.length c3] (Vd.endV q x.vd).1
def qH (q : Quest) (x : Vote) : List Vd.Bytes := if (Vd.endV q x.vd).2 then (Vd.endV q x.vd).1.data else []
def jS (q : Quest) (l : List Vote) : List Vd.Bytes := l.flatMap (qH q)
theorem Jj {q : Quest} {l : List Vote} {i : Nat} {x : Vote} (h : l[i]? = some x) : jS q (l.take (i + 1)) = jS q (l.take i) ++ qH q x := by
 unfold jS
 rw [List.take_add_one, h]
 simp
theorem KE (q : Quest) (n : Nat) (l : List Vote) (hl : ∀ x ∈ l, (Vd.endV q x.vd).1.data.length ≤ n) : ∀ i, i ≤ l.length → (jS q (l.take i)).length ≤ i * n
 | 0, _ => by simp [jS]
 | i + 1, h => by
   have ih := KE q n l hl i jd
   have hx : l[i]? = some l[i] := List.getElem?_eq_getElem jd
   rw [Jj hx, List.length_append, Nat.succ_mul]
   have := hl l[i] (List.getElem_mem _)
   unfold qH
   split <;> simp <;> omega
variable {G : World} {L : ja}
theorem Z8 {K D : ja} (v : Value) (q : Quest) (l : List Vote) (hDL : ∀ p ∈ D, p ∈ L) (hq1 : q.name.length ≤ 1000000) (hq2 : 0 ≤ q.kind ∧ q.kind ≤ 65535) (hq3 : 0 ≤ q.cls ∧ q.cls ≤ 65535) (hl : sliceR 11 (fun _ => endedR q K D) L [v] l) (hn : l.length ≤ 100) (hd : ∀ x ∈ l, (Vd.endV q x.vd).1.data.length ≤ 600) :
 Spec Tryz.prog G 83 #[.agg #[.string (bs q.name), .int .u16 q.kind, .int .u16 q.cls], v] L (abm L ⟨0, [⟨Nm.fold q.name, q.kind, q.cls, 0, Lib.compact ((jS q l).mergeSort fun x y => decide (x ≤ y))⟩], []⟩) := by
 obtain ⟨av, cv, e1, hl⟩ := hl.val
 simp only [List.cons.injEq, and_true] at e1
 subst e1
 obtain ⟨_, ka1, ka2, hl⟩ := sliceR.cut hl
 have hln := KE q 600 l hd
 refine jl (n := 42) Tryz.func83 rfl rfl rfl ?_
 refine j7 (jO (jP (kQ rfl) rfl ?_))
 intro bQ
 refine jP (kh (C := #[.int .u8 0, .slice none 0 0, .slice none 0 0]) zeO rfl) rfl ?_
 intro b4
 have hKm : ∀ z ∈ [(bQ, Obj.cells #[.string (bs q.name), .int .u16 q.kind, .int .u16 q.cls] 24 (0, 0))], z ∈ (b4, Obj.cells #[.int .u8 0, .slice none 0 0, .slice none 0 0] 40 (0, 0)) :: ((bQ, Obj.cells #[.string (bs q.name), .int .u16 q.kind, .int .u16 q.cls] 24 (0, 0)) :: L) := jn
 refine goA ?_
 refine jw jc ([(bQ, Obj.cells #[.string (bs q.name), .int .u16 q.kind, .int .u16 q.cls] 24 (0, 0))]) [] ?_
 refine tkQ 0 ?_
 refine tkQ 1 ?_
 refine' ju 2 rfl rfl je (jR je rfl (fun _ _ => Yr _ ?_)) ?_ ?_; (· omega); (· assumption)
 refine tkQ 3 ?_
 refine tkQ 4 ?_
 refine tkQ 5 ?_
 refine tkQ 6 ?_
 (refine' ju 7 rfl rfl je (jF (jm rfl (zX _ _ _))) ?_ ?_; (· assumption))
 refine jD 8 je rfl rfl rfl rfl (kh (C := #[.string (bs []), .int .u16 0, .int .u16 0, .int .u32 0, .slice none 0 0]) zeO rfl) ?_; rintro _ _ ⟨b5, rfl, rfl⟩; refine ⟨Or.inr jn, ?_⟩
 refine jU 9 je rfl rfl rfl (qn rfl rfl stO rfl rfl rfl) ?_; rintro _ _ ⟨_, rfl⟩; refine ⟨Or.inr jn, ?_⟩
 refine tdQ ?_
 refine goA ?_
 refine jz (σ := Nat × Option Addr × Nat × ja) (fun y => y.1 ≤ l.length ∧ ORow qL 9 1 [] y.2.1 y.2.2.1 (jS q (l.take y.1)) y.2.2.2) (fun y => [(4, .pointer (some ⟨b4, 0, none⟩)), (5, .pointer (some ⟨b5, 0, none⟩)), (16, .slice av l.length cv), (17, .int .i64 (l.length : Nat)), (18, .int .i64 (y.1 : Nat))])
  (fun y => (b5, Obj.cells #[.string (bs (Nm.fold q.name)), .int .u16 q.kind, .int .u16 q.cls, .int .u32 0, .slice y.2.1 (jS q (l.take y.1)).length y.2.2.1] 122 (0, 0)) :: ((b4, Obj.cells #[.int .u8 0, .slice none 0 0, .slice none 0 0] 40 (0, 0)) :: (y.2.2.2 ++ L))) (fun y => l.length - y.1) (0, none, 0, []) ⟨Nat.zero_le _, ORow.nil _⟩ ?_ (fun w h => Heap.cnt (L' := (b5, Obj.cells #[.string (bs (Nm.fold q.name)), .int .u16 q.kind, .int .u16 q.cls, .int .u32 0, .slice none 0 0] 122 (0, 0)) :: ((b4, Obj.cells #[.int .u8 0, .slice none 0 0, .slice none 0 0] 40 (0, 0)) :: ([] ++ L))) h ji) ?_
 exact js
 rintro ⟨i, a, c, B⟩ ⟨hi, hB⟩
 dsimp only at hi hB ⊢
 have hlni := hln i hi
 have hlb : i * 600 ≤ 100 * 600 := Nat.mul_le_mul_right _ jd
 by_cases hil : i < l.length
 · obtain ⟨x, hx⟩ : ∃ x, l[i]? = some x := ⟨_, List.getElem?_eq_getElem hil⟩
   have hxm := List.mem_of_getElem? hx
   have htk := Jj (q := q) hx
   rcases hl with rfl | ⟨b1, o1, C1, t1, f1, rfl, m1, q1⟩
   · simp at hil
   obtain ⟨_, _, ⟨a1, c1, a2, c2, a3, c3, rfl, _, hend⟩, hcx⟩ := q1 i x hx
   obtain ⟨a3', c3', hee, hed, _⟩ := hend.vals
   simp only [List.cons.injEq, and_true, true_and, Value.slice.injEq] at hee
   obtain ⟨rfl, rfl⟩ := hee
   have hdx := hd x hxm
   have m1' : (b1, Obj.cells C1 t1 f1) ∈ (b5, Obj.cells #[.string (bs (Nm.fold q.name)), .int .u16 q.kind, .int .u16 q.cls, .int .u32 0, .slice a (jS q (l.take i)).length c] 122 (0, 0)) :: ((b4, Obj.cells #[.int .u8 0, .slice none 0 0, .slice none 0 0] 40 (0, 0)) :: (B ++ L)) := List.mem_cons_of_mem _ (List.mem_cons_of_mem _ (List.mem_append_right _ m1))
   refine goA ?_
   refine jy (jA [.int .i64 x.up, .int .u8 x.vd.code, .slice a1 x.vd.sets.length c1, .slice a2 x.vd.soa.length c2, .int .u32 x.time, .string (bs (Vd.endV q x.vd).1.name), .int .u16 (Vd.endV q x.vd).1.kind, .int .u16 (Vd.endV q x.vd).1.cls, .int .u32 (Vd.endV q x.vd).1.ttl, .slice a3 (Vd.endV q x.vd).1.data.length c3, .bool (Vd.endV q x.vd).2] rfl stL m1' hcx) rfl ?_
   cases his : (Vd.endV q x.vd).2 with
   | false =>
     have hed0 : qH q x = [] := by unfold qH; rw [his]; rfl
     rw [hed0, List.append_nil] at htk
     repeat (first | refine goA ?_ | (refine jQ ?_; intro bNew))
     refine jg (i + 1, a, c, B) ⟨hil, by dsimp only; rw [htk]; exact hB⟩ ?_ (fun w h => by dsimp only; rw [htk]; exact h.tail) (by dsimp only; omega)
     exact js
   | true =>
     have hed0 : qH q x = (Vd.endV q x.vd).1.data := by unfold qH; rw [his]; rfl
     rw [hed0] at htk
     repeat (first | refine goA ?_ | (refine jQ ?_; intro bNew))
     refine jE (L' := B ++ ((b5, Obj.cells #[.string (bs (Nm.fold q.name)), .int .u16 q.kind, .int .u16 q.cls, .int .u32 0, .slice a (jS q (l.take i)).length c] 122 (0, 0)) :: ((b4, Obj.cells #[.int .u8 0, .slice none 0 0, .slice none 0 0] 40 (0, 0)) :: L))) ?_ ji
     refine jx (qS (L0 := D) (l := jS q (l.take i)) (m := (Vd.endV q x.vd).1.data) etO rfl rfl rfl rfl (hB.mono kP (by simp)) hed (fun p hp => List.mem_cons_of_mem _ (List.mem_cons_of_mem _ (hDL p hp))) kP Zg jd (by decide)) rfl ?_
     rintro _ _ ⟨a', c', B', rfl, hB', rfl⟩
     refine jE (L' := (b5, Obj.cells #[.string (bs (Nm.fold q.name)), .int .u16 q.kind, .int .u16 q.cls, .int .u32 0, .slice a (jS q (l.take i)).length c] 122 (0, 0)) :: ((b4, Obj.cells #[.int .u8 0, .slice none 0 0, .slice none 0 0] 40 (0, 0)) :: (B' ++ L))) ?_ ji
     repeat (refine jy (uq rfl Qb) rfl ?_)
     refine qx (C' := #[.string (bs (Nm.fold q.name)), .int .u16 q.kind, .int .u16 q.cls, .int .u32 0, .slice a' (jS q (l.take i) ++ (Vd.endV q x.vd).1.data).length c']) rfl rfl onO rfl rfl rfl ?_
     refine goA ?_
     refine jg (i + 1, a', c', B') ⟨hil, by dsimp only; rw [htk]; exact hB'.imp (L' := []) (fun cs y _ h => h)⟩ ?_ (fun w h => by dsimp only; rw [htk]; exact h) (by dsimp only; omega)
     exact js
 · have hie : i = l.length := by omega
   subst hie
   rw [List.take_length] at hB hlni ⊢
   refine goA ?_
   refine jx (OpT.heap (L' := B ++ ((b5, Obj.cells #[.string (bs (Nm.fold q.name)), .int .u16 q.kind, .int .u16 q.cls, .int .u32 0, .slice a (jS q l).length c] 122 (0, 0)) :: ((b4, Obj.cells #[.int .u8 0, .slice none 0 0, .slice none 0 0] 40 (0, 0)) :: L))) (fun w h => h.cnt ji) (jb je rfl (aeC a c _ B hB jd))) rfl ?_
   rintro _ _ ⟨rfl, B', hB', rfl⟩
   have hsl : ((jS q l).mergeSort fun x y => decide (x ≤ y)).length = (jS q l).length := List.length_mergeSort _
   refine jE (L' := (b5, Obj.cells #[.string (bs (Nm.fold q.name)), .int .u16 q.kind, .int .u16 q.cls, .int .u32 0, .slice a (jS q l).length c] 122 (0, 0)) :: ((b4, Obj.cells #[.int .u8 0, .slice none 0 0, .slice none 0 0] 40 (0, 0)) :: (B' ++ L))) ?_ ji
   refine goA ?_
   rw [← hsl]
   refine jx (OpT.heap (L' := B' ++ ((b5, Obj.cells #[.string (bs (Nm.fold q.name)), .int .u16 q.kind, .int .u16 q.cls, .int .u32 0, .slice a ((jS q l).mergeSort fun x y => decide (x ≤ y)).length c] 122 (0, 0)) :: ((b4, Obj.cells #[.int .u8 0, .slice none 0 0, .slice none 0 0] 40 (0, 0)) :: L))) (fun w h => h.cnt ji) (jb je rfl (Z5 a c _ B' hB' (by rw [hsl]; omega)))) rfl ?_
   rintro _ _ ⟨B2, rfl, hB2, rfl⟩
   refine jE (L' := (b5, Obj.cells #[.string (bs (Nm.fold q.name)), .int .u16 q.kind, .int .u16 q.cls, .int .u32 0, .slice a ((jS q l).mergeSort fun x y => decide (x ≤ y)).length c] 122 (0, 0)) :: ((b4, Obj.cells #[.int .u8 0, .slice none 0 0, .slice none 0 0] 40 (0, 0)) :: (B2 ++ L))) ?_ ji
   obtain ⟨R, hR⟩ : ∃ R, Lib.compact ((jS q l).mergeSort fun x y => decide (x ≤ y)) = R := ⟨_, rfl⟩
   rw [hR] at hB2 ⊢
   repeat (refine jy (uq rfl Qb) rfl ?_)
   refine qx (C' := #[.string (bs (Nm.fold q.name)), .int .u16 q.kind, .int .u16 q.cls, .int .u32 0, .slice a R.length c]) rfl rfl onO rfl rfl rfl ?_
   repeat (first | refine goA ?_ | refine jy (jm rfl (Uo _ _ _ _)) rfl ?_ | (refine qh ?_; intro bLit))
   refine jE (L' := (b4, Obj.cells #[.int .u8 0, .slice none 0 0, .slice none 0 0] 40 (0, 0)) :: ((bLit, Obj.cells #[.string (bs (Nm.fold q.name)), .int .u16 q.kind, .int .u16 q.cls, .int .u32 0, .slice a R.length c] 122 (0, 0)) :: (B2 ++ L))) ?_ ji
   refine goA ?_
   have hr : rsR B2 [.string (bs (Nm.fold q.name)), .int .u16 q.kind, .int .u16 q.cls, .int .u32 0, .slice a R.length c] ⟨Nm.fold q.name, q.kind, q.cls, 0, R⟩ := ⟨_, rfl, hB2.sliceR kP (by simp) (fun p h => h), by have := ur q.name; unfold maxLen; dsimp only; omega, hq2, hq3, by simp⟩
   refine kO 4 40  rfl rfl  stO (by repeat (exact List.mem_cons_self)) rfl (fun w h => Heap.cnt (L' := [] ++ ([(bLit, Obj.cells #[.string (bs (Nm.fold q.name)), .int .u16 q.kind, .int .u16 q.cls, .int .u32 0, .slice a R.length c] 122 (0, 0))] ++ (B2 ++ L))) h ji) ?_
   exact ⟨_, _, _, none, 0, [], B2, rfl, Vv hr, ORow.nil _, hB2.wr, rfl⟩
end
section
open Go.RowKit
open Vd (RSet Vdt Vote Rec Quest Piece Ballot Said)
def qe (q : Quest) (l : List Vote) : Bool := l.any fun x => (Vd.endV q x.vd).2
def zL (q : Quest) (l : List Vote) : Vdt × Int × Bool :=
 match l with
 | [] => (Vdt.none, 0, false)
 | w :: r =>
   if !Nm.may q.name then (Vdt.none, 0, false)
   else if !Vd.alikeV (w :: r) w.vd && qe q (w :: r) then (⟨0, [⟨Nm.fold q.name, q.kind, q.cls, 0, Lib.compact ((jS q (w :: r)).mergeSort fun x y => decide (x ≤ y))⟩], []⟩, Vd.minTime (w :: r) w.time, true)
   else (match (w :: r)[Vd.firstAt (w :: r) (w :: r).length]? with | some x => x.vd | none => Vdt.none, Vd.minTime (w :: r) w.time, true)
def UnOut (L : ja) (r : Vdt × Int × Bool) (u : Value) (M : ja) : Prop := ∃ a c B a2 c2 B2 N, u = .tuple #[.agg #[.int .u8 r.1.code, .slice a r.1.sets.length c, .slice a2 r.1.soa.length c2], .int .u32 r.2.1, .bool r.2.2] ∧
 ORow rsR 122 5 N a c r.1.sets B ∧ ORow rsR 122 5 N a2 c2 r.1.soa B2 ∧ Wr N ∧ M = B2 ++ (B ++ (N ++ L))
variable {G : World} {L : ja}
theorem UnOut.no : UnOut L (Vdt.none, 0, false) (.tuple #[.agg #[.int .u8 0, .slice none 0 0, .slice none 0 0], .int .u32 0, .bool false]) L := ⟨none, 0, [], none, 0, [], [], rfl, ORow.nil _, ORow.nil _, Wr.nil, rfl⟩
theorem K1 {K : ja} {x : Vote} {u t : Value} {s1 s2 : Value} (h : voteR K [u, .int .u8 x.vd.code, s1, s2, t] x) : vdR K [.int .u8 x.vd.code, s1, s2] x.vd := by
 obtain ⟨a, b, e, h1, h2, h3, _⟩ := h
 simp only [List.cons.injEq, and_true, true_and] at e
 obtain ⟨_, rfl, rfl, _⟩ := e
 exact ⟨_, _, rfl, h1, h2, h3⟩
theorem endedR.mono {q : Quest} {K D D' : ja} {cs : List Value} {x : Vote} (hD : ∀ p ∈ D, p ∈ D') (h : endedR q K D cs x) : endedR q K D' cs x := by
 obtain ⟨a1, c1, a2, c2, a3, c3, h1, h2, h3⟩ := h
 exact ⟨a1, c1, a2, c2, a3, c3, h1, h2, jv _ _ _ _ hD h3⟩
theorem endedR.one {q : Quest} {K D : ja} {cs : List Value} {x : Vote} (h : endedR q K D cs x) : ∀ v ∈ cs, v.oneCell' = true := by
 obtain ⟨a1, c1, a2, c2, a3, c3, rfl, _⟩ := h
 intro v hv
 simp only [List.mem_cons, List.not_mem_nil, or_false] at hv
 rcases hv with rfl | rfl | rfl | rfl | rfl | rfl | rfl | rfl | rfl | rfl | rfl <;> rfl
theorem WL {K : ja} (v : Value) (q : Quest) (l : List Vote) (hKL : ∀ p ∈ K, p ∈ L) (hq1 : q.name.length ≤ 1000000) (hq2 : 0 ≤ q.kind ∧ q.kind ≤ 65535) (hq3 : 0 ≤ q.cls ∧ q.cls ≤ 65535) (hl : sliceR 5 (fun _ => voteR K) L [v] l) (hn : l.length ≤ 100) (hd : ∀ x ∈ l, (Vd.endV q x.vd).1.data.length ≤ 600) (hs : ∀ x ∈ l, SmV x.vd) :
 Spec Tryz.prog G 56 #[.agg #[.string (bs q.name), .int .u16 q.kind, .int .u16 q.cls], v] L (UnOut L (zL q l)) := by
 obtain ⟨av, cv, e1, hl⟩ := hl.val
 simp only [List.cons.injEq, and_true] at e1
 subst e1
 have hl0 := hl
 obtain ⟨_, ka1, ka2, hl⟩ := sliceR.cut hl
 refine jl (n := 110) Tryz.func56 rfl rfl rfl ?_
 refine j7 (jO (jP (kQ rfl) rfl ?_))
 intro bQ
 refine jP (kh (C := #[.int .u8 0, .slice none 0 0, .slice none 0 0]) zeO rfl) rfl ?_
 intro b4
 cases l with
 | nil =>
   have hU : zL q [] = (Vdt.none, 0, false) := rfl
   rw [hU]
   have h0 : ((([] : List Vote).length : Nat) : Int) = 0 := rfl
   repeat (first | refine goA ?_ | refine jy (jm rfl (yb )) rfl ?_)
   refine kw 4 40 5 6 rfl rfl rfl rfl stO (by repeat (exact List.mem_cons_self)) rfl (fun w h => Heap.cnt (L' := L) h ji) ?_
   exact UnOut.no
 | cons w r =>
 obtain ⟨l, hll⟩ : ∃ l, w :: r = l := ⟨_, rfl⟩
 have hlpos : 0 < l.length := by rw [← hll]; simp
 have hw0 : l[0]? = some w := by rw [← hll]; rfl
 have hlne : ¬ ((l.length : Nat) : Int) = 0 := by omega
 have hU : zL q l = if !Nm.may q.name then ((Vdt.none, 0, false) : Vdt × Int × Bool) else if !Vd.alikeV l w.vd && qe q l then (⟨0, [⟨Nm.fold q.name, q.kind, q.cls, 0, Lib.compact ((jS q l).mergeSort fun x y => decide (x ≤ y))⟩], []⟩, Vd.minTime l w.time, true)
  else (match l[Vd.firstAt l l.length]? with | some x => x.vd | none => Vdt.none, Vd.minTime l w.time, true) := by rw [← hll]; rfl
 rw [hll] at hl hl0 hn hd ka1 hs ⊢
 cases hm : Nm.may q.name with
 | false =>
   rw [hm] at hU
   simp only [Bool.not_false, if_true] at hU
   rw [hU]
   repeat (first | refine goA ?_ | (refine' jX (jb je rfl (J9 _ ?_)) rfl ?_; (· omega)) | refine jy (jm rfl (yb )) rfl ?_)
   refine kw 4 40 5 6 rfl rfl rfl rfl stO (by repeat (exact List.mem_cons_self)) rfl (fun w h => Heap.cnt (L' := L) h ji) ?_
   exact UnOut.no
 | true =>
 rw [hm] at hU
 simp only [Bool.not_true, Bool.false_eq_true, if_false] at hU
 obtain ⟨CM, hCM⟩ : ∃ C, madeCells (Value.agg #[.int .i64 0, .int .u8 0, .slice none 0 0, .slice none 0 0, .int .u32 0, .string (bs []), .int .u16 0, .int .u16 0, .int .u32 0, .slice none 0 0, .bool false]).cells (((l.length : Nat) : Int).toNat * 11) = C := ⟨_, rfl⟩
 repeat (first | refine goA ?_ | (refine' jX (jb je rfl (J9 _ ?_)) rfl ?_; (· omega)))
 refine jP (acX (C := CM) etO rfl rfl jd jd jd jd hCM) rfl ?_
 intro bM
 refine goA ?_
 refine jz (σ := Nat × Option Addr × Nat × ja × ja) (fun y => y.1 ≤ l.length ∧ ORow (fun _ => endedR q K y.2.2.2.2) 187 11 [] y.2.1 y.2.2.1 (l.take y.1) y.2.2.2.1) (fun y => [(2, .pointer (some ⟨bQ, 0, none⟩)), (4, .pointer (some ⟨b4, 0, none⟩)), (7, .slice y.2.1 (l.take y.1).length y.2.2.1), (29, .slice av l.length cv), (30, .int .i64 (l.length : Nat)), (31, .int .i64 (y.1 : Nat))])
  (fun y => (bQ, Obj.cells #[.string (bs q.name), .int .u16 q.kind, .int .u16 q.cls] 24 (0, 0)) :: ((b4, Obj.cells #[.int .u8 0, .slice none 0 0, .slice none 0 0] 40 (0, 0)) :: (y.2.2.2.1 ++ (y.2.2.2.2 ++ L)))) (fun y => l.length - y.1) (0, some ⟨bM, 0, none⟩, ((l.length : Nat) : Int).toNat, [(bM, .cells CM 187 (0, 0))], []) ⟨Nat.zero_le _, ⟨[], Row.made (c := ((l.length : Nat) : Int).toNat) (by rw [← hCM]; exact size_madeCells _ _) (by unfold maxLen; omega), rfl, by simp⟩⟩ ?_ (fun w h => Heap.cnt (L' := (bQ, Obj.cells #[.string (bs q.name), .int .u16 q.kind, .int .u16 q.cls] 24 (0, 0)) :: ((b4, Obj.cells #[.int .u8 0, .slice none 0 0, .slice none 0 0] 40 (0, 0)) :: ([(bM, .cells CM 187 (0, 0))] ++ ([] ++ L)))) h ji) ?_
 exact js
 rintro ⟨i, a, c, B, D⟩ ⟨hi, hB⟩
 dsimp only at hi hB ⊢
 by_cases hil : i < l.length
 · obtain ⟨x, hx⟩ : ∃ x, l[i]? = some x := ⟨_, List.getElem?_eq_getElem hil⟩
   have hxm := List.mem_of_getElem? hx
   have htk : l.take (i + 1) = l.take i ++ [x] := by rw [List.take_add_one, hx]; rfl
   have htl : (l.take i).length ≤ 100 := by rw [List.length_take]; omega
   rcases hl with rfl | ⟨b1, o1, C1, t1, f1, rfl, m1, q1⟩
   · simp at hil
   obtain ⟨_, _, hxv, hcx⟩ := q1 i x hx
   obtain ⟨a1, c1, a2, c2, rfl, hx1, hx2, hx3, hx4, hx5⟩ := hxv.vals
   have m1' : (b1, Obj.cells C1 t1 f1) ∈ (bQ, Obj.cells #[.string (bs q.name), .int .u16 q.kind, .int .u16 q.cls] 24 (0, 0)) :: ((b4, Obj.cells #[.int .u8 0, .slice none 0 0, .slice none 0 0] 40 (0, 0)) :: (B ++ (D ++ L))) := by simp [m1]
   refine goA ?_
   refine jy (jA [.int .i64 x.up, .int .u8 x.vd.code, .slice a1 x.vd.sets.length c1, .slice a2 x.vd.soa.length c2, .int .u32 x.time] rfl stL m1' hcx) rfl ?_
   refine jP (kh (C := #[.int .i64 0, .int .u8 0, .slice none 0 0, .slice none 0 0, .int .u32 0]) zeO rfl) rfl ?_
   intro b9
   repeat (first | refine goA ?_ | (refine jQ ?_; intro bNew) | refine jy (jm rfl (V6 _ _ _ _ _)) rfl ?_)
   revert bNew
   intro b10
   refine jy (jA [.int .u8 x.vd.code, .slice a1 x.vd.sets.length c1, .slice a2 x.vd.soa.length c2] rfl stL (List.mem_cons_of_mem _ (List.mem_cons_self ..)) (fun j v hj => by
    match j, hj with
    | 0, hj => exact hj
    | 1, hj => exact hj
    | 2, hj => exact hj)) rfl ?_
   skip
   refine jx (jb je rfl (aeB x.vd q a1 a2 c1 c2 (jq jv _ _ _ _ (fun p hp => by have := hKL p hp; simp [this]) hx1) (fun s hsm => (hs x hxm).1.2 s hsm))) rfl ?_
   rintro _ _ ⟨a3, c3, B3, rfl, hB3, rfl, hr3⟩
   refine jE (L' := (b10, Obj.cells #[.int .i64 x.up, .int .u8 x.vd.code, .slice a1 x.vd.sets.length c1, .slice a2 x.vd.soa.length c2, .int .u32 x.time, .string (bs []), .int .u16 0, .int .u16 0, .int .u32 0, .slice none 0 0, .bool false] 187 (0, 0)) :: ((b9, Obj.cells #[.int .i64 x.up, .int .u8 x.vd.code, .slice a1 x.vd.sets.length c1, .slice a2 x.vd.soa.length c2, .int .u32 x.time] 65 (0, 0)) :: ((bQ, Obj.cells #[.string (bs q.name), .int .u16 q.kind, .int .u16 q.cls] 24 (0, 0)) :: ((b4, Obj.cells #[.int .u8 0, .slice none 0 0, .slice none 0 0] 40 (0, 0)) :: (B ++ ((B3 ++ D) ++ L)))))) ?_ ji
   refine goA ?_
   refine U2 (zE (cs := [.string (bs (Vd.endV q x.vd).1.name), .int .u16 (Vd.endV q x.vd).1.kind, .int .u16 (Vd.endV q x.vd).1.cls, .int .u32 (Vd.endV q x.vd).1.ttl, .slice a3 (Vd.endV q x.vd).1.data.length c3]) rfl rfl stL hr3.one (by simp)) ?_
   refine qv (L' := (b10, Obj.cells #[.int .i64 x.up, .int .u8 x.vd.code, .slice a1 x.vd.sets.length c1, .slice a2 x.vd.soa.length c2, .int .u32 x.time, .string (bs (Vd.endV q x.vd).1.name), .int .u16 (Vd.endV q x.vd).1.kind, .int .u16 (Vd.endV q x.vd).1.cls, .int .u32 (Vd.endV q x.vd).1.ttl, .slice a3 (Vd.endV q x.vd).1.data.length c3, .bool false] 187 (0, 0)) :: ((b9, Obj.cells #[.int .i64 x.up, .int .u8 x.vd.code, .slice a1 x.vd.sets.length c1, .slice a2 x.vd.soa.length c2, .int .u32 x.time] 65 (0, 0)) :: ((bQ, Obj.cells #[.string (bs q.name), .int .u16 q.kind, .int .u16 q.cls] 24 (0, 0)) :: ((b4, Obj.cells #[.int .u8 0, .slice none 0 0, .slice none 0 0] 40 (0, 0)) :: (B ++ ((B3 ++ D) ++ L)))))) (fun w h => h) ?_
   repeat (refine jy (uq rfl Qb) rfl ?_)
   refine qx (C' := #[.int .i64 x.up, .int .u8 x.vd.code, .slice a1 x.vd.sets.length c1, .slice a2 x.vd.soa.length c2, .int .u32 x.time, .string (bs (Vd.endV q x.vd).1.name), .int .u16 (Vd.endV q x.vd).1.kind, .int .u16 (Vd.endV q x.vd).1.cls, .int .u32 (Vd.endV q x.vd).1.ttl, .slice a3 (Vd.endV q x.vd).1.data.length c3, .bool (Vd.endV q x.vd).2]) rfl rfl onO rfl rfl rfl ?_
   repeat (first | refine goA ?_ | (refine qh ?_; intro bLit))
   refine jE (L' := (bLit, Obj.cells #[.int .i64 x.up, .int .u8 x.vd.code, .slice a1 x.vd.sets.length c1, .slice a2 x.vd.soa.length c2, .int .u32 x.time, .string (bs (Vd.endV q x.vd).1.name), .int .u16 (Vd.endV q x.vd).1.kind, .int .u16 (Vd.endV q x.vd).1.cls, .int .u32 (Vd.endV q x.vd).1.ttl, .slice a3 (Vd.endV q x.vd).1.data.length c3, .bool (Vd.endV q x.vd).2] 187 (0, 0)) :: (B ++ ((bQ, Obj.cells #[.string (bs q.name), .int .u16 q.kind, .int .u16 q.cls] 24 (0, 0)) :: ((b4, Obj.cells #[.int .u8 0, .slice none 0 0, .slice none 0 0] 40 (0, 0)) :: ((B3 ++ D) ++ L))))) ?_ ji
   have hen : endedR q K (B3 ++ D) [.int .i64 x.up, .int .u8 x.vd.code, .slice a1 x.vd.sets.length c1, .slice a2 x.vd.soa.length c2, .int .u32 x.time, .string (bs (Vd.endV q x.vd).1.name), .int .u16 (Vd.endV q x.vd).1.kind, .int .u16 (Vd.endV q x.vd).1.cls, .int .u32 (Vd.endV q x.vd).1.ttl, .slice a3 (Vd.endV q x.vd).1.data.length c3, .bool (Vd.endV q x.vd).2] x := ⟨a1, c1, a2, c2, a3, c3, rfl, hxv, jv _ _ _ _ jn hr3⟩
   refine jx (abn (L0 := []) (r := endedR q K (B3 ++ D)) (y := x) etO rfl rfl (hB.imp (r' := fun _ => endedR q K (B3 ++ D)) (L' := []) (fun cs y _ h => endedR.mono jn h)) rfl (fun v hv => endedR.one hen v hv) hen jd (by decide)) rfl ?_
   rintro _ _ ⟨a', c', B', rfl, hB', rfl⟩
   refine goA ?_
   refine jg (i + 1, a', c', B', B3 ++ D) ⟨hil, by dsimp only; rw [htk]; exact hB'⟩ ?_ (fun w h => h.cnt ji) (by dsimp only; omega)
   dsimp only
   rw [htk]
   exact js
 · have hie : i = l.length := by omega
   subst hie
   rw [List.take_length] at hB ⊢
   obtain ⟨bE, cur, rfl, hBe, _, hcE, _, hcur⟩ := hB.block (fun e => by rw [e] at hlpos; simp at hlpos)
   have hmE : (bE, Obj.cells cur 187 (0, 0)) ∈ B ++ (D ++ L) := by rw [hBe]; simp
   obtain ⟨_, _, ⟨w1, wc1, w2, wc2, w3, wc3, rfl, hwv, hwr⟩, _, hcw⟩ := hcur 0 w hw0
   have gw4 : cur[0 + (0 : Int).toNat * 11 + 0 + 4]? = some (.int .u32 w.time) := hcw 4 _ rfl
   have ht0 : ∀ i, i ≤ l.length → 0 ≤ Vd.minTime (l.take i) w.time ∧ Vd.minTime (l.take i) w.time ≤ 4294967295 := fun i hi => QH _ _ (fun x hx => QI hl0 x (List.mem_of_mem_take hx)) (QI hl0 w (List.mem_of_getElem? hw0))
   refine goA ?_
   refine jy (jA [.int .i64 w.up, .int .u8 w.vd.code, .slice w1 w.vd.sets.length wc1, .slice w2 w.vd.soa.length wc2, .int .u32 w.time, .string (bs (Vd.endV q w.vd).1.name), .int .u16 (Vd.endV q w.vd).1.kind, .int .u16 (Vd.endV q w.vd).1.cls, .int .u32 (Vd.endV q w.vd).1.ttl, .slice w3 (Vd.endV q w.vd).1.data.length wc3, .bool (Vd.endV q w.vd).2] rfl stL (List.mem_cons_of_mem _ (List.mem_cons_of_mem _ hmE)) (fun j v hj => by have := hcw j v hj; simpa using this)) rfl ?_
   repeat (first | refine goA ?_ | (refine jQ ?_; intro bNew))
   revert bNew
   intro bW
   refine jz (σ := Nat × List Value) (fun y => y.1 ≤ l.length ∧ ∃ f, l[Vd.firstAt l y.1]? = some f ∧ endedR q K D y.2 f) (fun y => [(2, .pointer (some ⟨bQ, 0, none⟩)), (4, .pointer (some ⟨b4, 0, none⟩)), (5, .int .u32 (Vd.minTime (l.take y.1) w.time)), (7, .slice (some ⟨bE, 0, none⟩) l.length c), (11, .pointer (some ⟨bW, 0, none⟩)), (12, .bool (Vd.alikeV (l.take y.1) w.vd)), (13, .bool (qe q (l.take y.1))), (59, .slice (some ⟨bE, 0, none⟩) l.length c), (60, .int .i64 (l.length : Nat)), (61, .int .i64 (y.1 : Nat))]) (fun y => (bW, Obj.cells y.2.toArray 187 (0, 0)) :: ((bQ, Obj.cells #[.string (bs q.name), .int .u16 q.kind, .int .u16 q.cls] 24 (0, 0)) :: ((b4, Obj.cells #[.int .u8 0, .slice none 0 0, .slice none 0 0] 40 (0, 0)) :: (B ++ (D ++ L))))) (fun y => l.length - y.1) (0, [.int .i64 w.up, .int .u8 w.vd.code, .slice w1 w.vd.sets.length wc1, .slice w2 w.vd.soa.length wc2, .int .u32 w.time, .string (bs (Vd.endV q w.vd).1.name), .int .u16 (Vd.endV q w.vd).1.kind, .int .u16 (Vd.endV q w.vd).1.cls, .int .u32 (Vd.endV q w.vd).1.ttl, .slice w3 (Vd.endV q w.vd).1.data.length wc3, .bool (Vd.endV q w.vd).2]) ⟨Nat.zero_le _, w, hw0, _, _, _, _, _, _, rfl, hwv, hwr⟩ ?_ (fun w h => h) ?_
   exact js
   rintro ⟨i, cf⟩ ⟨hi, f, hf, f1, fc1, f2, fc2, f3, fc3, rfl, hfv, hfr⟩
   dsimp only at hi hf ⊢
   have hti := ht0 i hi
   by_cases hil : i < l.length
   · obtain ⟨x, hx⟩ : ∃ x, l[i]? = some x := ⟨_, List.getElem?_eq_getElem hil⟩
     have htk : l.take (i + 1) = l.take i ++ [x] := by rw [List.take_add_one, hx]; rfl
     have hmt : Vd.minTime (l.take (i + 1)) w.time = min (Vd.minTime (l.take i) w.time) x.time := by rw [htk]; exact Vz _ _ _
     have hal : Vd.alikeV (l.take (i + 1)) w.vd = (Vd.alikeV (l.take i) w.vd && decide (x.vd = w.vd)) := by rw [htk]; exact WG _ _ _
     have hso : qe q (l.take (i + 1)) = (qe q (l.take i) || (Vd.endV q x.vd).2) := by rw [htk]; simp [qe]
     have hfs : Vd.firstAt l (i + 1) = if x.up < f.up then i else Vd.firstAt l i := by rw [Vd.firstAt, hx, hf]
     obtain ⟨_, _, ⟨x1, xc1, x2, xc2, x3, xc3, rfl, hxv, hxr⟩, _, hcx⟩ := hcur i x hx
     refine goA ?_
     refine jy (jA [.int .i64 x.up, .int .u8 x.vd.code, .slice x1 x.vd.sets.length xc1, .slice x2 x.vd.soa.length xc2, .int .u32 x.time, .string (bs (Vd.endV q x.vd).1.name), .int .u16 (Vd.endV q x.vd).1.kind, .int .u16 (Vd.endV q x.vd).1.cls, .int .u32 (Vd.endV q x.vd).1.ttl, .slice x3 (Vd.endV q x.vd).1.data.length xc3, .bool (Vd.endV q x.vd).2] rfl stL (List.mem_cons_of_mem _ (List.mem_cons_of_mem _ (List.mem_cons_of_mem _ hmE))) (fun j v hj => by rw [Nat.zero_add]; exact hcx j v hj)) rfl ?_
     repeat (first | refine goA ?_ | (refine jQ ?_; intro bNew))
     revert bNew
     intro b15
     refine JG (σ := List Value) (fun y => ∃ g, l[Vd.firstAt l (i + 1)]? = some g ∧ endedR q K D y g) (fun y => [(2, .pointer (some ⟨bQ, 0, none⟩)), (4, .pointer (some ⟨b4, 0, none⟩)), (5, .int .u32 (Vd.minTime (l.take (i + 1)) w.time)), (7, .slice (some ⟨bE, 0, none⟩) l.length c), (11, .pointer (some ⟨bW, 0, none⟩)), (12, .bool (Vd.alikeV (l.take i) w.vd)), (13, .bool (qe q (l.take i))), (59, .slice (some ⟨bE, 0, none⟩) l.length c), (60, .int .i64 (l.length : Nat)), (61, .int .i64 (i : Nat)), (15, .pointer (some ⟨b15, 0, none⟩))]) (fun y => (b15, Obj.cells #[.int .i64 x.up, .int .u8 x.vd.code, .slice x1 x.vd.sets.length xc1, .slice x2 x.vd.soa.length xc2, .int .u32 x.time, .string (bs (Vd.endV q x.vd).1.name), .int .u16 (Vd.endV q x.vd).1.kind, .int .u16 (Vd.endV q x.vd).1.cls, .int .u32 (Vd.endV q x.vd).1.ttl, .slice x3 (Vd.endV q x.vd).1.data.length xc3, .bool (Vd.endV q x.vd).2] 187 (0, 0)) :: ((bW, Obj.cells y.toArray 187 (0, 0)) :: ((bQ, Obj.cells #[.string (bs q.name), .int .u16 q.kind, .int .u16 q.cls] 24 (0, 0)) :: ((b4, Obj.cells #[.int .u8 0, .slice none 0 0, .slice none 0 0] 40 (0, 0)) :: (B ++ (D ++ L)))))) ?_ ?_
     · rw [hfs, hmt]
       by_cases hup : x.up < f.up
       · rw [if_pos hup]
         refine goA ?_
         refine jE (L' := (bW, Obj.cells #[.int .i64 f.up, .int .u8 f.vd.code, .slice f1 f.vd.sets.length fc1, .slice f2 f.vd.soa.length fc2, .int .u32 f.time, .string (bs (Vd.endV q f.vd).1.name), .int .u16 (Vd.endV q f.vd).1.kind, .int .u16 (Vd.endV q f.vd).1.cls, .int .u32 (Vd.endV q f.vd).1.ttl, .slice f3 (Vd.endV q f.vd).1.data.length fc3, .bool (Vd.endV q f.vd).2] 187 (0, 0)) :: ((b15, Obj.cells #[.int .i64 x.up, .int .u8 x.vd.code, .slice x1 x.vd.sets.length xc1, .slice x2 x.vd.soa.length xc2, .int .u32 x.time, .string (bs (Vd.endV q x.vd).1.name), .int .u16 (Vd.endV q x.vd).1.kind, .int .u16 (Vd.endV q x.vd).1.cls, .int .u32 (Vd.endV q x.vd).1.ttl, .slice x3 (Vd.endV q x.vd).1.data.length xc3, .bool (Vd.endV q x.vd).2] 187 (0, 0)) :: ((bQ, Obj.cells #[.string (bs q.name), .int .u16 q.kind, .int .u16 q.cls] 24 (0, 0)) :: ((b4, Obj.cells #[.int .u8 0, .slice none 0 0, .slice none 0 0] 40 (0, 0)) :: (B ++ (D ++ L)))))) ?_ ji
         refine goA ?_
         refine kS [.int .i64 x.up, .int .u8 x.vd.code, .slice x1 x.vd.sets.length xc1, .slice x2 x.vd.soa.length xc2, .int .u32 x.time, .string (bs (Vd.endV q x.vd).1.name), .int .u16 (Vd.endV q x.vd).1.kind, .int .u16 (Vd.endV q x.vd).1.cls, .int .u32 (Vd.endV q x.vd).1.ttl, .slice x3 (Vd.endV q x.vd).1.data.length xc3, .bool (Vd.endV q x.vd).2] ⟨x, hx, _, _, _, _, _, _, rfl, hxv, hxr⟩ ?_ (fun w h => h.cnt ji)
         exact js
       · rw [if_neg hup]
         refine goA ?_
         refine kS [.int .i64 f.up, .int .u8 f.vd.code, .slice f1 f.vd.sets.length fc1, .slice f2 f.vd.soa.length fc2, .int .u32 f.time, .string (bs (Vd.endV q f.vd).1.name), .int .u16 (Vd.endV q f.vd).1.kind, .int .u16 (Vd.endV q f.vd).1.cls, .int .u32 (Vd.endV q f.vd).1.ttl, .slice f3 (Vd.endV q f.vd).1.data.length fc3, .bool (Vd.endV q f.vd).2] ⟨f, hf, _, _, _, _, _, _, rfl, hfv, hfr⟩ ?_ (fun w h => h)
         exact js
     · rintro cg ⟨g, hg, hgr⟩
       have hxd : vdR K [.int .u8 x.vd.code, .slice x1 x.vd.sets.length xc1, .slice x2 x.vd.soa.length xc2] x.vd := K1 hxv
       have hwd : vdR K [.int .u8 w.vd.code, .slice w1 w.vd.sets.length wc1, .slice w2 w.vd.soa.length wc2] w.vd := K1 hwv
       have hKc : ∀ p ∈ K, p ∈ (b15, Obj.cells #[.int .i64 x.up, .int .u8 x.vd.code, .slice x1 x.vd.sets.length xc1, .slice x2 x.vd.soa.length xc2, .int .u32 x.time, .string (bs (Vd.endV q x.vd).1.name), .int .u16 (Vd.endV q x.vd).1.kind, .int .u16 (Vd.endV q x.vd).1.cls, .int .u32 (Vd.endV q x.vd).1.ttl, .slice x3 (Vd.endV q x.vd).1.data.length xc3, .bool (Vd.endV q x.vd).2] 187 (0, 0)) :: ((bW, Obj.cells cg.toArray 187 (0, 0)) :: ((bQ, Obj.cells #[.string (bs q.name), .int .u16 q.kind, .int .u16 q.cls] 24 (0, 0)) :: ((b4, Obj.cells #[.int .u8 0, .slice none 0 0, .slice none 0 0] 40 (0, 0)) :: (B ++ (D ++ L))))) := fun p hp => by have := hKL p hp; simp [this]
       have hKm : ∀ z ∈ [(b15, Obj.cells #[.int .i64 x.up, .int .u8 x.vd.code, .slice x1 x.vd.sets.length xc1, .slice x2 x.vd.soa.length xc2, .int .u32 x.time, .string (bs (Vd.endV q x.vd).1.name), .int .u16 (Vd.endV q x.vd).1.kind, .int .u16 (Vd.endV q x.vd).1.cls, .int .u32 (Vd.endV q x.vd).1.ttl, .slice x3 (Vd.endV q x.vd).1.data.length xc3, .bool (Vd.endV q x.vd).2] 187 (0, 0)), (bE, Obj.cells cur 187 (0, 0))], z ∈ (b15, Obj.cells #[.int .i64 x.up, .int .u8 x.vd.code, .slice x1 x.vd.sets.length xc1, .slice x2 x.vd.soa.length xc2, .int .u32 x.time, .string (bs (Vd.endV q x.vd).1.name), .int .u16 (Vd.endV q x.vd).1.kind, .int .u16 (Vd.endV q x.vd).1.cls, .int .u32 (Vd.endV q x.vd).1.ttl, .slice x3 (Vd.endV q x.vd).1.data.length xc3, .bool (Vd.endV q x.vd).2] 187 (0, 0)) :: ((bW, Obj.cells cg.toArray 187 (0, 0)) :: ((bQ, Obj.cells #[.string (bs q.name), .int .u16 q.kind, .int .u16 q.cls] 24 (0, 0)) :: ((b4, Obj.cells #[.int .u8 0, .slice none 0 0, .slice none 0 0] 40 (0, 0)) :: (B ++ (D ++ L))))) := by
        intro z hz
        simp only [List.mem_cons, List.not_mem_nil, or_false] at hz
        rcases hz with rfl | rfl
        · exact List.mem_cons_self ..
        · exact List.mem_cons_of_mem _ (List.mem_cons_of_mem _ (List.mem_cons_of_mem _ (List.mem_cons_of_mem _ hmE)))
       have hx42 : ∀ j v, ([.int .u8 x.vd.code, .slice x1 x.vd.sets.length xc1, .slice x2 x.vd.soa.length xc2] : List Value)[j]? = some v → (#[.int .i64 x.up, .int .u8 x.vd.code, .slice x1 x.vd.sets.length xc1, .slice x2 x.vd.soa.length xc2, .int .u32 x.time, .string (bs (Vd.endV q x.vd).1.name), .int .u16 (Vd.endV q x.vd).1.kind, .int .u16 (Vd.endV q x.vd).1.cls, .int .u32 (Vd.endV q x.vd).1.ttl, .slice x3 (Vd.endV q x.vd).1.data.length xc3, .bool (Vd.endV q x.vd).2] : Array Value)[0 + 0 + 1 + j]? = some v := fun j v hj => by
        match j, hj with
        | 0, hj => exact hj
        | 1, hj => exact hj
        | 2, hj => exact hj
       have hw42 : ∀ j v, ([.int .u8 w.vd.code, .slice w1 w.vd.sets.length wc1, .slice w2 w.vd.soa.length wc2] : List Value)[j]? = some v → cur[0 + (0 : Int).toNat * 11 + 0 + 1 + j]? = some v := fun j v hj => by
        match j, hj with
        | 0, hj => exact hcw 1 v hj
        | 1, hj => exact hcw 2 v hj
        | 2, hj => exact hcw 3 v hj
       cases hav : Vd.alikeV (l.take i) w.vd with
       | false =>
         rw [hav] at hal
         cases hs0 : qe q (l.take i) with
         | false =>
           rw [hs0] at hso
           refine goA ?_
           refine jw jc ([(b15, Obj.cells #[.int .i64 x.up, .int .u8 x.vd.code, .slice x1 x.vd.sets.length xc1, .slice x2 x.vd.soa.length xc2, .int .u32 x.time, .string (bs (Vd.endV q x.vd).1.name), .int .u16 (Vd.endV q x.vd).1.kind, .int .u16 (Vd.endV q x.vd).1.cls, .int .u32 (Vd.endV q x.vd).1.ttl, .slice x3 (Vd.endV q x.vd).1.data.length xc3, .bool (Vd.endV q x.vd).2] 187 (0, 0)), (bE, Obj.cells cur 187 (0, 0))]) [] ?_
           refine tkQ 0 ?_
           refine tkQ 1 ?_
           refine tkQ 2 ?_
           refine tkQ 3 ?_
           refine tkQ 5 ?_
           refine tkQ 6 ?_
           refine tkQ 7 ?_
           refine tkQ 8 ?_
           refine tkQ 4 ?_
           refine tkQ 9 ?_
           refine tkQ 10 ?_
           refine tkQ 11 ?_
           refine tkQ 12 ?_
           refine tdQ ?_
           refine goA ?_
           refine jg (i + 1, cg) ⟨hil, g, hg, hgr⟩ ?_ (fun w h => h.tail) (by dsimp only; omega)
           dsimp only
           rw [hal, hso, Bool.false_and, Bool.false_or]
           exact js
         | true =>
           rw [hs0] at hso
           refine goA ?_
           refine jw jc ([(b15, Obj.cells #[.int .i64 x.up, .int .u8 x.vd.code, .slice x1 x.vd.sets.length xc1, .slice x2 x.vd.soa.length xc2, .int .u32 x.time, .string (bs (Vd.endV q x.vd).1.name), .int .u16 (Vd.endV q x.vd).1.kind, .int .u16 (Vd.endV q x.vd).1.cls, .int .u32 (Vd.endV q x.vd).1.ttl, .slice x3 (Vd.endV q x.vd).1.data.length xc3, .bool (Vd.endV q x.vd).2] 187 (0, 0)), (bE, Obj.cells cur 187 (0, 0))]) [] ?_
           refine tkQ 0 ?_
           refine tkQ 1 ?_
           refine tkQ 2 ?_
           refine tkQ 3 ?_
           refine tkQ 5 ?_
           refine tkQ 6 ?_
           refine tkQ 7 ?_
           refine tkQ 8 ?_
           refine tkQ 4 ?_
           refine tkQ 9 ?_
           refine tkQ 10 ?_
           refine tkQ 11 ?_
           refine tkQ 12 ?_
           refine tdQ ?_
           refine goA ?_
           refine jg (i + 1, cg) ⟨hil, g, hg, hgr⟩ ?_ (fun w h => h.tail) (by dsimp only; omega)
           dsimp only
           rw [hal, hso, Bool.false_and, Bool.true_or]
           exact js
       | true =>
         rw [hav] at hal
         cases hs0 : qe q (l.take i) with
         | false =>
           rw [hs0] at hso
           refine goA ?_
           refine jw jc ([(b15, Obj.cells #[.int .i64 x.up, .int .u8 x.vd.code, .slice x1 x.vd.sets.length xc1, .slice x2 x.vd.soa.length xc2, .int .u32 x.time, .string (bs (Vd.endV q x.vd).1.name), .int .u16 (Vd.endV q x.vd).1.kind, .int .u16 (Vd.endV q x.vd).1.cls, .int .u32 (Vd.endV q x.vd).1.ttl, .slice x3 (Vd.endV q x.vd).1.data.length xc3, .bool (Vd.endV q x.vd).2] 187 (0, 0)), (bE, Obj.cells cur 187 (0, 0))]) [] ?_
           refine tkQ 0 ?_
           refine tkQ 1 ?_
           refine tkQ 2 ?_
           refine tkQ 3 ?_
           refine tkQ 5 ?_
           refine tkQ 6 ?_
           refine tkQ 7 ?_
           refine tkQ 8 ?_
           (refine ju 4 rfl rfl je (un rfl rfl (by with_reducible rfl) (jA [.int .u8 x.vd.code, .slice x1 x.vd.sets.length xc1, .slice x2 x.vd.soa.length xc2] rfl stL (List.mem_cons_self ..) hx42)) ?_ ?_; (· exact hKm))
           (refine ju 9 rfl rfl je (un rfl rfl (by with_reducible rfl) (jA [.int .u8 w.vd.code, .slice w1 w.vd.sets.length wc1, .slice w2 w.vd.soa.length wc2] rfl stL (List.mem_cons_of_mem _ (List.mem_cons_self ..)) hw42)) ?_ ?_; (· exact hKm))
           (refine WF 10 je rfl rfl rfl rfl (by with_reducible rfl) (jb je rfl (Vn [.int .u8 x.vd.code, .slice x1 x.vd.sets.length xc1, .slice x2 x.vd.soa.length xc2] [.int .u8 w.vd.code, .slice w1 w.vd.sets.length wc1, .slice w2 w.vd.soa.length wc2] x.vd w.vd (jY _ _ _ _ hKc hxd) (jY _ _ _ _ hKc hwd))) ?_; rintro _ _ ⟨rfl, rfl⟩; refine ⟨Or.inr hKm, ?_⟩)
           refine tkQ 11 ?_
           refine tkQ 12 ?_
           refine tdQ ?_
           refine goA ?_
           refine jg (i + 1, cg) ⟨hil, g, hg, hgr⟩ ?_ (fun w h => h.tail) (by dsimp only; omega)
           dsimp only
           rw [hal, hso, Bool.true_and, Bool.false_or]
           exact js
         | true =>
           rw [hs0] at hso
           refine goA ?_
           refine jw jc ([(b15, Obj.cells #[.int .i64 x.up, .int .u8 x.vd.code, .slice x1 x.vd.sets.length xc1, .slice x2 x.vd.soa.length xc2, .int .u32 x.time, .string (bs (Vd.endV q x.vd).1.name), .int .u16 (Vd.endV q x.vd).1.kind, .int .u16 (Vd.endV q x.vd).1.cls, .int .u32 (Vd.endV q x.vd).1.ttl, .slice x3 (Vd.endV q x.vd).1.data.length xc3, .bool (Vd.endV q x.vd).2] 187 (0, 0)), (bE, Obj.cells cur 187 (0, 0))]) [] ?_
           refine tkQ 0 ?_
           refine tkQ 1 ?_
           refine tkQ 2 ?_
           refine tkQ 3 ?_
           refine tkQ 5 ?_
           refine tkQ 6 ?_
           refine tkQ 7 ?_
           refine tkQ 8 ?_
           (refine ju 4 rfl rfl je (un rfl rfl (by with_reducible rfl) (jA [.int .u8 x.vd.code, .slice x1 x.vd.sets.length xc1, .slice x2 x.vd.soa.length xc2] rfl stL (List.mem_cons_self ..) hx42)) ?_ ?_; (· exact hKm))
           (refine ju 9 rfl rfl je (un rfl rfl (by with_reducible rfl) (jA [.int .u8 w.vd.code, .slice w1 w.vd.sets.length wc1, .slice w2 w.vd.soa.length wc2] rfl stL (List.mem_cons_of_mem _ (List.mem_cons_self ..)) hw42)) ?_ ?_; (· exact hKm))
           (refine WF 10 je rfl rfl rfl rfl (by with_reducible rfl) (jb je rfl (Vn [.int .u8 x.vd.code, .slice x1 x.vd.sets.length xc1, .slice x2 x.vd.soa.length xc2] [.int .u8 w.vd.code, .slice w1 w.vd.sets.length wc1, .slice w2 w.vd.soa.length wc2] x.vd w.vd (jY _ _ _ _ hKc hxd) (jY _ _ _ _ hKc hwd))) ?_; rintro _ _ ⟨rfl, rfl⟩; refine ⟨Or.inr hKm, ?_⟩)
           refine tkQ 11 ?_
           refine tkQ 12 ?_
           refine tdQ ?_
           refine goA ?_
           refine jg (i + 1, cg) ⟨hil, g, hg, hgr⟩ ?_ (fun w h => h.tail) (by dsimp only; omega)
           dsimp only
           rw [hal, hso, Bool.true_and, Bool.true_or]
           exact js
   · have hie : i = l.length := by omega
     subst hie
     rw [List.take_length] at hti ⊢
     have hKc : ∀ p ∈ K, p ∈ ((bW, Obj.cells #[.int .i64 f.up, .int .u8 f.vd.code, .slice f1 f.vd.sets.length fc1, .slice f2 f.vd.soa.length fc2, .int .u32 f.time, .string (bs (Vd.endV q f.vd).1.name), .int .u16 (Vd.endV q f.vd).1.kind, .int .u16 (Vd.endV q f.vd).1.cls, .int .u32 (Vd.endV q f.vd).1.ttl, .slice f3 (Vd.endV q f.vd).1.data.length fc3, .bool (Vd.endV q f.vd).2] 187 (0, 0)) :: ((bQ, Obj.cells #[.string (bs q.name), .int .u16 q.kind, .int .u16 q.cls] 24 (0, 0)) :: ((b4, Obj.cells #[.int .u8 0, .slice none 0 0, .slice none 0 0] 40 (0, 0)) :: (B ++ (D ++ L))))) := fun p hp => by have := hKL p hp; simp [this]
     rw [hf] at hU
     dsimp only at hU
     cases hA : Vd.alikeV l w.vd with
     | true =>
       rw [hA] at hU
       simp only [Bool.not_true, Bool.false_and, Bool.false_eq_true, if_false] at hU
       rw [hU]
       refine goA ?_
       refine jy (jA [.int .u8 f.vd.code, .slice f1 f.vd.sets.length fc1, .slice f2 f.vd.soa.length fc2] rfl stL (List.mem_cons_self ..) (fun j v hj => by
        match j, hj with
        | 0, hj => exact hj
        | 1, hj => exact hj
        | 2, hj => exact hj)) rfl ?_
       skip
       refine jx (jb je rfl (yS [.int .u8 f.vd.code, .slice f1 f.vd.sets.length fc1, .slice f2 f.vd.soa.length fc2] f.vd (jY _ _ _ _ hKc (K1 hfv)) (hs f (List.mem_of_getElem? hf)))) rfl ?_
       rintro _ _ ⟨a', c', B', a2', c2', B2', N', rfl, k1, k2, k3, rfl⟩
       repeat (refine jy (zg rfl) rfl ?_)
       refine jE (L' := (b4, Obj.cells #[.int .u8 0, .slice none 0 0, .slice none 0 0] 40 (0, 0)) :: (B2' ++ (B' ++ (N' ++ L)))) ?_ ji
       refine goA ?_
       refine kw 4 40 5 6 rfl rfl rfl rfl stO (by repeat (exact List.mem_cons_self)) rfl (fun w h => Heap.cnt (L' := B2' ++ (B' ++ (N' ++ L))) h ji) ?_
       exact ⟨a', c', B', a2', c2', B2', N', rfl, k1, k2, k3, rfl⟩
     | false =>
       cases hS : qe q l with
       | false =>
         rw [hA, hS] at hU
         simp only [Bool.not_false, Bool.true_and, Bool.false_eq_true, if_false] at hU
         rw [hU]
         refine goA ?_
         refine jy (jA [.int .u8 f.vd.code, .slice f1 f.vd.sets.length fc1, .slice f2 f.vd.soa.length fc2] rfl stL (List.mem_cons_self ..) (fun j v hj => by
          match j, hj with
          | 0, hj => exact hj
          | 1, hj => exact hj
          | 2, hj => exact hj)) rfl ?_
         skip
         refine jx (jb je rfl (yS [.int .u8 f.vd.code, .slice f1 f.vd.sets.length fc1, .slice f2 f.vd.soa.length fc2] f.vd (jY _ _ _ _ hKc (K1 hfv)) (hs f (List.mem_of_getElem? hf)))) rfl ?_
         rintro _ _ ⟨a', c', B', a2', c2', B2', N', rfl, k1, k2, k3, rfl⟩
         repeat (refine jy (zg rfl) rfl ?_)
         refine jE (L' := (b4, Obj.cells #[.int .u8 0, .slice none 0 0, .slice none 0 0] 40 (0, 0)) :: (B2' ++ (B' ++ (N' ++ L)))) ?_ ji
         refine goA ?_
         refine kw 4 40 5 6 rfl rfl rfl rfl stO (by repeat (exact List.mem_cons_self)) rfl (fun w h => Heap.cnt (L' := B2' ++ (B' ++ (N' ++ L))) h ji) ?_
         exact ⟨a', c', B', a2', c2', B2', N', rfl, k1, k2, k3, rfl⟩
       | true =>
         rw [hA, hS] at hU
         simp only [Bool.not_false, Bool.true_and, if_true] at hU
         rw [hU]
         refine goA ?_
         refine jx (jb je rfl (Z8 (K := K) (D := D) _ q l (fun p hp => by simp [hp]) hq1 hq2 hq3 ((hB.imp (r' := fun _ => endedR q K D) (L' := []) (fun cs x _ h => h)).sliceR km (by simp) (fun p hp => by simp [hp])) hn hd)) rfl ?_
         rintro _ _ ⟨a', c', B', a2', c2', B2', N', rfl, k1, k2, k3, rfl⟩
         repeat (refine jy (zg rfl) rfl ?_)
         refine jE (L' := (b4, Obj.cells #[.int .u8 0, .slice none 0 0, .slice none 0 0] 40 (0, 0)) :: (B2' ++ (B' ++ (N' ++ L)))) ?_ ji
         refine goA ?_
         refine kw 4 40 5 6 rfl rfl rfl rfl stO (by repeat (exact List.mem_cons_self)) rfl (fun w h => Heap.cnt (L' := B2' ++ (B' ++ (N' ++ L))) h ji) ?_
         exact ⟨a', c', B', a2', c2', B2', N', rfl, k1, k2, k3, rfl⟩
end
section
namespace Vd
def uM (l : List Bytes) : Prop := l.Pairwise fun a b => a < b
theorem QK : ∀ {a b : List Bytes}, uM a → uM b → (∀ x, x ∈ a ↔ x ∈ b) → a = b
 | [], [], _, _, _ => rfl
 | [], y :: b, _, _, h => absurd ((h y).2 (List.mem_cons_self ..)) (by simp)
 | x :: a, [], _, _, h => absurd ((h x).1 (List.mem_cons_self ..)) (by simp)
 | x :: a, y :: b, ha, hb, h => by
   have ha' := List.pairwise_cons.1 ha
   have hb' := List.pairwise_cons.1 hb
   have hxy : x = y := by
    rcases List.mem_cons.1 ((h x).1 (List.mem_cons_self ..)) with e | hx
    · exact e
    · rcases List.mem_cons.1 ((h y).2 (List.mem_cons_self ..)) with e | hy
      · exact e.symm
      · exact absurd (List.lt_trans (ha'.1 y hy) (hb'.1 x hx)) (List.lt_irrefl x)
   subst hxy
   have ht : ∀ z, z ∈ a ↔ z ∈ b := fun z => by
    constructor
    · intro hz
      rcases List.mem_cons.1 ((h z).1 (List.mem_cons_of_mem _ hz)) with e | hz'
      · subst e; exact absurd (ha'.1 _ hz) (List.lt_irrefl _)
      · exact hz'
    · intro hz
      rcases List.mem_cons.1 ((h z).2 (List.mem_cons_of_mem _ hz)) with e | hz'
      · subst e; exact absurd (hb'.1 _ hz) (List.lt_irrefl _)
      · exact hz'
   rw [QK ha'.2 hb'.2 ht]
theorem Zj (x s : Bytes) : gtB x s = true ↔ s < x := by
 unfold gtB
 rw [Go.Proofs.bytesLess_eq]
 simp only [Bool.not_eq_true', Bool.or_eq_false_iff, decide_eq_false_iff_not, beq_eq_false_iff_ne]
 constructor
 · rintro ⟨h1, h2⟩
   have hle : s ≤ x := List.not_lt.1 h1
   by_cases h : s < x
   · exact h
   · exact absurd (List.le_antisymm (List.not_lt.1 h) hle) h2
 · intro h
   refine ⟨fun h2 => absurd (List.lt_trans h h2) (List.lt_irrefl _), fun e => by subst e; exact absurd h (List.lt_irrefl _)⟩
theorem abG {a b : Bytes} : a < b ∨ a = b ∨ b < a := by
 by_cases h1 : a < b
 · exact Or.inl h1
 · by_cases h2 : b < a
   · exact Or.inr (Or.inr h2)
   · exact Or.inr (Or.inl (List.le_antisymm (List.not_lt.1 h2) (List.not_lt.1 h1)))
theorem QL (s : Bytes) : ∀ (l out : List Bytes), (∀ x ∈ l, s < x) → putGo s l out true = .inr (out ++ l, true)
 | [], out, _ => by simp [putGo]
 | x :: l, out, h => by
   have hx := h x (List.mem_cons_self ..)
   rw [putGo, if_neg (fun e => by subst e; exact List.lt_irrefl _ hx), if_neg (by simp), QL s l _ fun y hy => h y (List.mem_cons_of_mem _ hy)]
   simp
theorem QM (s : Bytes) : ∀ (l out : List Bytes), uM (out ++ l) → (∀ x ∈ out, x < s) →
 (s ∈ l ∧ putGo s l out false = .inl []) ∨ ∃ o d, putGo s l out false = .inr (o, d) ∧ uM (if d then o else o ++ [s]) ∧ (∀ x, x ∈ (if d then o else o ++ [s]) ↔ x ∈ out ∨ x ∈ l ∨ x = s) ∧ s ∉ l
 | [], out, hr, ho => by
   refine Or.inr ⟨out, false, rfl, ?_, fun x => by simp, by simp⟩
   simp only [Bool.false_eq_true, if_false]
   rw [List.append_nil] at hr
   exact List.pairwise_append.2 ⟨hr, by simp, fun a ha b hb => by rw [List.mem_singleton.1 hb]; exact ho a ha⟩
 | x :: l, out, hr, ho => by
   by_cases hxs : x = s
   · subst hxs
     exact Or.inl ⟨List.mem_cons_self .., by rw [putGo, if_pos rfl]⟩
   · by_cases hg : s < x
     · have hall : ∀ y ∈ l, s < y := fun y hy => by
        have := (List.pairwise_cons.1 (List.pairwise_append.1 hr).2.1).1 y hy
        exact List.lt_trans hg this
       refine Or.inr ⟨((out ++ [s]) ++ [x]) ++ l, true, ?_, ?_, fun y => by simp; grind, ?_⟩
       · rw [putGo, if_neg hxs, if_pos (by simp [(Zj x s).2 hg]), QL s l _ hall]
       · simp only [if_true]
         have h1 := List.pairwise_append.1 hr
         rw [show ((out ++ [s]) ++ [x]) ++ l = out ++ (s :: x :: l) by simp]
         refine List.pairwise_append.2 ⟨h1.1, List.pairwise_cons.2 ⟨fun y hy => ?_, h1.2.1⟩, fun a ha b hb => ?_⟩
         · rcases List.mem_cons.1 hy with rfl | hy
           · exact hg
           · exact hall y hy
         · rcases List.mem_cons.1 hb with rfl | hb
           · exact ho a ha
           · exact h1.2.2 a ha b hb
       · intro hm
         rcases List.mem_cons.1 hm with e | hm
         · exact hxs e.symm
         · exact List.lt_irrefl _ (hall s hm)
     · have hlt : x < s := by
        rcases abG (a := x) (b := s) with h | h | h
        · exact h
        · exact absurd h hxs
        · exact absurd h hg
       have hng : gtB x s = false := by
        cases h : gtB x s with
        | false => rfl
        | true => exact absurd ((Zj x s).1 h) hg
       have := QM s l (out ++ [x]) (by simpa using hr) (fun y hy => by
        rcases List.mem_append.1 hy with hy | hy
        · exact ho y hy
        · rw [List.mem_singleton.1 hy]; exact hlt)
       rw [putGo, if_neg hxs, if_neg (by simp [hng])]
       rcases this with ⟨h1, h2⟩ | ⟨o, d, h1, h2, h3, h4⟩
       · exact Or.inl ⟨List.mem_cons_of_mem _ h1, h2⟩
       · refine Or.inr ⟨o, d, h1, h2, fun y => by rw [h3]; simp; grind, ?_⟩
         intro hm
         rcases List.mem_cons.1 hm with e | hm
         · exact hxs e.symm
         · exact h4 hm
theorem YD {l : List Bytes} (s : Bytes) (h : uM l) : uM (put l s) ∧ ∀ x, x ∈ put l s ↔ x ∈ l ∨ x = s := by
 unfold put
 rcases QM s l [] (by simpa using h) (by simp) with ⟨h1, h2⟩ | ⟨o, d, h1, h2, h3, _⟩
 · rw [h2]
   exact ⟨h, fun x => ⟨fun hx => Or.inl hx, fun hx => hx.elim id fun e => e ▸ h1⟩⟩
 · rw [h1]
   dsimp only
   exact ⟨h2, fun x => by rw [h3]; simp⟩
theorem foldPut_rising : ∀ (d : List Bytes) {l : List Bytes}, uM l → uM (d.foldl put l) ∧ ∀ x, x ∈ d.foldl put l ↔ x ∈ l ∨ x ∈ d
 | [], l, h => ⟨h, fun x => by simp⟩
 | s :: d, l, h => by
   obtain ⟨h1, h2⟩ := YD s h
   obtain ⟨h3, h4⟩ := foldPut_rising d h1
   exact ⟨h3, fun x => by rw [List.foldl_cons, h4, h2]; simp; grind⟩
theorem ag2 {a b c : Bytes} (h1 : a ≤ b) (h2 : b < c) : a < c := by
 rcases abG (a := a) (b := c) with h | h | h
 · exact h
 · subst h; exact absurd h2 (List.not_lt.2 h1)
 · exact absurd (List.lt_trans h2 h) (List.not_lt.2 h1)
theorem QN (d : Array Bytes) (hs : ∀ i j, i ≤ j → j < d.size → d[i]! ≤ d[j]!) : ∀ m, m ≤ d.size → uM (Lib.compactUpTo d m) ∧ ∀ x, x ∈ Lib.compactUpTo d m ↔ ∃ j, j < m ∧ d[j]! = x
 | 0, _ => by
   have h0 : Lib.compactUpTo d 0 = [] := rfl
   rw [h0]
   exact ⟨List.Pairwise.nil, fun x => by simp⟩
 | m + 1, hm => by
   obtain ⟨h1, h2⟩ := QN d hs m jd
   rw [Lib.compactUpTo_succ]
   cases hk : Lib.keeps d m with
   | true =>
     simp only [if_true]
     refine ⟨List.pairwise_append.2 ⟨h1, by simp, fun a ha b hb => ?_⟩, fun x => ?_⟩
     · rw [List.mem_singleton.1 hb]
       obtain ⟨j, hj, rfl⟩ := (h2 a).1 ha
       have hne : d[m]! ≠ d[m - 1]! := fun e => by rw [Lib.keeps_neg jd e] at hk; cases hk
       have h3 := hs (m - 1) m jd jd
       have h4 := hs j (m - 1) jd jd
       refine ag2 h4 ?_
       rcases abG (a := d[m - 1]!) (b := d[m]!) with h | h | h
       · exact h
       · exact absurd h.symm hne
       · exact absurd h (List.not_lt.2 h3)
     · rw [List.mem_append, h2, List.mem_singleton]
       constructor
       · rintro (⟨j, hj, e⟩ | e)
         · exact ⟨j, by omega, e⟩
         · exact ⟨m, by omega, e.symm⟩
       · rintro ⟨j, hj, e⟩
         by_cases hjm : j = m
         · subst hjm; exact Or.inr e.symm
         · exact Or.inl ⟨j, by omega, e⟩
   | false =>
     simp only [Bool.false_eq_true, if_false, List.append_nil]
     refine ⟨h1, fun x => ?_⟩
     have h0 : 0 < m := by
      rcases Nat.eq_zero_or_pos m with h | h
      · subst h; rw [Lib.keeps_lt_one d 0 jd] at hk; cases hk
      · exact h
     have he : d[m]! = d[m - 1]! := by
      by_cases e : d[m]! = d[m - 1]!
      · exact e
      · rw [Lib.keeps_pos e] at hk; cases hk
     rw [h2]
     constructor
     · rintro ⟨j, hj, e⟩; exact ⟨j, by omega, e⟩
     · rintro ⟨j, hj, e⟩
       by_cases hjm : j = m
       · subst hjm; exact ⟨j - 1, by omega, by rw [← he]; exact e⟩
       · exact ⟨j, by omega, e⟩
theorem QO {l : List Bytes} (h : l.Pairwise fun a b => a ≤ b) : uM (Lib.compact l) ∧ ∀ x, x ∈ Lib.compact l ↔ x ∈ l := by
 have key := QN l.toArray (fun i j hij hj => by
  have hj' : j < l.length := by simpa using hj
  have hi' : i < l.length := by omega
  have e1 : l.toArray[i]! = l[i] := by simp [hi']
  have e2 : l.toArray[j]! = l[j] := by simp [hj']
  rw [e1, e2]
  rcases Nat.lt_or_eq_of_le hij with h1 | h1
  · exact List.pairwise_iff_getElem.1 h i j hi' hj' h1
  · subst h1; exact List.le_refl _) l.length (by simp)
 refine ⟨key.1, fun x => ?_⟩
 unfold Lib.compact
 rw [key.2]
 constructor
 · rintro ⟨j, hj, e⟩
   have : l.toArray[j]! = l[j] := by simp [hj]
   rw [this] at e
   rw [← e]
   exact List.getElem_mem _
 · intro hx
   obtain ⟨j, hj, e⟩ := List.getElem_of_mem hx
   exact ⟨j, hj, by rw [← e]; simp [hj]⟩
theorem WM (l : List Bytes) : (l.mergeSort fun x y => decide (x ≤ y)).Pairwise fun a b => a ≤ b := by
 have := List.pairwise_mergeSort (le := fun x y : Bytes => decide (x ≤ y)) (fun a b c h1 h2 => by simp at *; exact List.le_trans h1 h2) (fun a b => by simp; exact List.le_total a b) l
 exact this.imp fun h => by simpa using h
theorem compact_put (l : List Bytes) : Lib.compact (l.mergeSort fun x y => decide (x ≤ y)) = l.foldl put [] := by
 obtain ⟨h1, h2⟩ := QO (WM l)
 obtain ⟨h3, h4⟩ := foldPut_rising l (l := []) List.Pairwise.nil
 exact QK h1 h3 fun x => by rw [h2, h4, List.mem_mergeSort]; simp
end Vd
end
end Go.Proofs.YtbjkkoacclfejaaGreat
