/-
 Part 6: Gw Qe Qf Qg Gx Qh Ks Eb Hm Hw Hx Hy Hz Hc Hd.
-/
import Derived.Test.YtbjkkoacclfejaaGreatZp5
import Derived.Test.YtbjkkoacclfejaaGreatZp1
import Derived.Test.YtbjkkoacclfejaaGreatZp2
import Derived.Test.YtbjkkoacclfejaaGreatZp4
import Derived.Sort.Walk0
import Derived.Lib.SlicesCompact
set_option maxRecDepth 100000
set_option maxHeartbeats 4000000
set_option linter.unusedVariables false
set_option linter.unusedSimpArgs false
namespace Go.Proofs.YtbjkkoacclfejaaGreat
open Go.RowKit
open Vd (RSet Vdt Vote Rec Quest Piece Ballot Said)
def kG (q : Quest) (l : List Vote) : Bool := l.any fun x => (Vd.endV q x.vd).2
def zX (q : Quest) (l : List Vote) : Vdt × Int × Bool :=
 match l with
 | [] => (Vdt.none, 0, false)
 | w :: r =>
   if !Nm.may q.name then (Vdt.none, 0, false)
   else if !Vd.alikeV (w :: r) w.vd && kG q (w :: r) then (⟨0, [⟨Nm.fold q.name, q.kind, q.cls, 0, Lib.compact ((jT q (w :: r)).mergeSort fun x y => decide (x ≤ y))⟩], []⟩, Vd.minTime (w :: r) w.time, true)
   else (match (w :: r)[Vd.firstAt (w :: r) (w :: r).length]? with | some x => x.vd | none => Vdt.none, Vd.minTime (w :: r) w.time, true)
def UnOut (L : ja) (r : Vdt × Int × Bool) (u : Value) (M : ja) : Prop := ∃ a c B a2 c2 B2 N, u = .tuple #[.agg #[.int .u8 r.1.code, .slice a r.1.sets.length c, .slice a2 r.1.soa.length c2], .int .u32 r.2.1, .bool r.2.2] ∧
 ORow rsR 122 5 N a c r.1.sets B ∧ ORow rsR 122 5 N a2 c2 r.1.soa B2 ∧ Wr N ∧ M = B2 ++ (B ++ (N ++ L))
variable {G : World} {L : ja}
theorem UnOut.no : UnOut L (Vdt.none, 0, false) (.tuple #[.agg #[.int .u8 0, .slice none 0 0, .slice none 0 0], .int .u32 0, .bool false]) L := ⟨none, 0, [], none, 0, [], [], rfl, ORow.nil _, ORow.nil _, Wr.nil, rfl⟩
theorem JU {K : ja} {x : Vote} {u t : Value} {s1 s2 : Value} (h : voteR K [u, .int .u8 x.vd.code, s1, s2, t] x) : vdR K [.int .u8 x.vd.code, s1, s2] x.vd := by
 obtain ⟨a, b, e, h1, h2, h3, _⟩ := h
 simp only [List.cons.injEq, and_true, true_and] at e
 obtain ⟨_, rfl, rfl, _⟩ := e
 exact ⟨_, _, rfl, h1, h2, h3⟩
theorem endedR.mono {q : Quest} {K D D' : ja} {cs : List Value} {x : Vote} (hD : ∀ p ∈ D, p ∈ D') (h : endedR q K D cs x) : endedR q K D' cs x := by
 obtain ⟨a1, c1, a2, c2, a3, c3, h1, h2, h3⟩ := h
 exact ⟨a1, c1, a2, c2, a3, c3, h1, h2, jx _ _ _ _ hD h3⟩
theorem endedR.one {q : Quest} {K D : ja} {cs : List Value} {x : Vote} (h : endedR q K D cs x) : ∀ v ∈ cs, v.oneCell' = true := by
 obtain ⟨a1, c1, a2, c2, a3, c3, rfl, _⟩ := h
 intro v hv
 simp only [List.mem_cons, List.not_mem_nil, or_false] at hv
 rcases hv with rfl | rfl | rfl | rfl | rfl | rfl | rfl | rfl | rfl | rfl | rfl <;> rfl
theorem aam {K : ja} (v : Value) (q : Quest) (l : List Vote) (hKL : ∀ p ∈ K, p ∈ L) (hq1 : q.name.length ≤ 1000000) (hq2 : 0 ≤ q.kind ∧ q.kind ≤ 65535) (hq3 : 0 ≤ q.cls ∧ q.cls ≤ 65535) (hl : sliceR 5 (fun _ => voteR K) L [v] l) (hn : l.length ≤ 100) (hd : ∀ x ∈ l, (Vd.endV q x.vd).1.data.length ≤ 600) (hs : ∀ x ∈ l, SmV x.vd) :
 Spec Tryz.prog G 56 #[.agg #[.string (bs q.name), .int .u16 q.kind, .int .u16 q.cls], v] L (UnOut L (zX q l)) := by
 obtain ⟨av, cv, e1, hl⟩ := hl.val
 simp only [List.cons.injEq, and_true] at e1
 subst e1
 have hl0 := hl
 obtain ⟨_, ka1, ka2, hl⟩ := sliceR.cut hl
 refine jl (n := 110) Tryz.func56 rfl rfl rfl ?_
 refine jY (jS (jP (kx rfl) rfl ?_))
 intro bQ
 refine jP (j4 (C := #[.int .u8 0, .slice none 0 0, .slice none 0 0]) zeO rfl) rfl ?_
 intro b4
 cases l with
 | nil =>
   have hU : zX q [] = (Vdt.none, 0, false) := rfl
   rw [hU]
   have h0 : ((([] : List Vote).length : Nat) : Int) = 0 := rfl
   repeat (first | refine goA ?_ | refine jz (jm rfl (uW )) rfl ?_)
   refine kh 4 40 5 6 rfl rfl rfl rfl stO (by repeat (exact List.mem_cons_self)) rfl (fun w h => Heap.cnt (L' := L) h ji) ?_
   exact UnOut.no
 | cons w r =>
 obtain ⟨l, hll⟩ : ∃ l, w :: r = l := ⟨_, rfl⟩
 have hlpos : 0 < l.length := by rw [← hll]; simp
 have hw0 : l[0]? = some w := by rw [← hll]; rfl
 have hlne : ¬ ((l.length : Nat) : Int) = 0 := by omega
 have hU : zX q l = if !Nm.may q.name then ((Vdt.none, 0, false) : Vdt × Int × Bool) else if !Vd.alikeV l w.vd && kG q l then (⟨0, [⟨Nm.fold q.name, q.kind, q.cls, 0, Lib.compact ((jT q l).mergeSort fun x y => decide (x ≤ y))⟩], []⟩, Vd.minTime l w.time, true)
  else (match l[Vd.firstAt l l.length]? with | some x => x.vd | none => Vdt.none, Vd.minTime l w.time, true) := by rw [← hll]; rfl
 rw [hll] at hl hl0 hn hd ka1 hs ⊢
 cases hm : Nm.may q.name with
 | false =>
   rw [hm] at hU
   simp only [Bool.not_false, if_true] at hU
   rw [hU]
   repeat (first | refine goA ?_ | (refine' jQ (jb jd rfl (Jn _ ?_)) rfl ?_; (· omega)) | refine jz (jm rfl (uW )) rfl ?_)
   refine kh 4 40 5 6 rfl rfl rfl rfl stO (by repeat (exact List.mem_cons_self)) rfl (fun w h => Heap.cnt (L' := L) h ji) ?_
   exact UnOut.no
 | true =>
 rw [hm] at hU
 simp only [Bool.not_true, Bool.false_eq_true, if_false] at hU
 obtain ⟨CM, hCM⟩ : ∃ C, madeCells (Value.agg #[.int .i64 0, .int .u8 0, .slice none 0 0, .slice none 0 0, .int .u32 0, .string (bs []), .int .u16 0, .int .u16 0, .int .u32 0, .slice none 0 0, .bool false]).cells (((l.length : Nat) : Int).toNat * 11) = C := ⟨_, rfl⟩
 repeat (first | refine goA ?_ | (refine' jQ (jb jd rfl (Jn _ ?_)) rfl ?_; (· omega)))
 refine jP (abk (C := CM) etO rfl rfl je je je je hCM) rfl ?_
 intro bM
 refine goA ?_
 refine jA (σ := Nat × Option Addr × Nat × ja × ja) (fun y => y.1 ≤ l.length ∧ ORow (fun _ => endedR q K y.2.2.2.2) 187 11 [] y.2.1 y.2.2.1 (l.take y.1) y.2.2.2.1) (fun y => [(2, .pointer (some ⟨bQ, 0, none⟩)), (4, .pointer (some ⟨b4, 0, none⟩)), (7, .slice y.2.1 (l.take y.1).length y.2.2.1), (29, .slice av l.length cv), (30, .int .i64 (l.length : Nat)), (31, .int .i64 (y.1 : Nat))])
  (fun y => (bQ, Obj.cells #[.string (bs q.name), .int .u16 q.kind, .int .u16 q.cls] 24 (0, 0)) :: ((b4, Obj.cells #[.int .u8 0, .slice none 0 0, .slice none 0 0] 40 (0, 0)) :: (y.2.2.2.1 ++ (y.2.2.2.2 ++ L)))) (fun y => l.length - y.1) (0, some ⟨bM, 0, none⟩, ((l.length : Nat) : Int).toNat, [(bM, .cells CM 187 (0, 0))], []) ⟨Nat.zero_le _, ⟨[], Row.made (c := ((l.length : Nat) : Int).toNat) (by rw [← hCM]; exact size_madeCells _ _) (by unfold maxLen; omega), rfl, by simp⟩⟩ ?_ (fun w h => Heap.cnt (L' := (bQ, Obj.cells #[.string (bs q.name), .int .u16 q.kind, .int .u16 q.cls] 24 (0, 0)) :: ((b4, Obj.cells #[.int .u8 0, .slice none 0 0, .slice none 0 0] 40 (0, 0)) :: ([(bM, .cells CM 187 (0, 0))] ++ ([] ++ L)))) h ji) ?_
 exact ju
 rintro ⟨i, a, c, B, D⟩ ⟨hi, hB⟩
 dsimp only at hi hB ⊢
 by_cases hil : i < l.length
 · obtain ⟨x, hx⟩ : ∃ x, l[i]? = some x := ⟨_, List.getElem?_eq_getElem hil⟩
   have hxm := List.mem_of_getElem? hx
   have htk : l.take (i + 1) = l.take i ++ [x] := by rw [List.take_add_one, hx]; rfl
   have htl : (l.take i).length ≤ 100 := by rw [List.length_take]; omega
   rcases hl with rfl | ⟨b1, o1, C1, t1, f1, rfl, m1, q1⟩
   · simp at hil
   obtain ⟨_, _, hxv, hcx⟩ := q1 i x hx
   obtain ⟨a1, c1, a2, c2, rfl, hx1, hx2, hx3, hx4, hx5⟩ := hxv.vals
   have m1' : (b1, Obj.cells C1 t1 f1) ∈ (bQ, Obj.cells #[.string (bs q.name), .int .u16 q.kind, .int .u16 q.cls] 24 (0, 0)) :: ((b4, Obj.cells #[.int .u8 0, .slice none 0 0, .slice none 0 0] 40 (0, 0)) :: (B ++ (D ++ L))) := by simp [m1]
   refine goA ?_
   refine jz (jy [.int .i64 x.up, .int .u8 x.vd.code, .slice a1 x.vd.sets.length c1, .slice a2 x.vd.soa.length c2, .int .u32 x.time] rfl stL m1' hcx) rfl ?_
   refine jP (j4 (C := #[.int .i64 0, .int .u8 0, .slice none 0 0, .slice none 0 0, .int .u32 0]) zeO rfl) rfl ?_
   intro b9
   repeat (first | refine goA ?_ | (refine jO ?_; intro bNew) | refine jz (jm rfl (ZJ _ _ _ _ _)) rfl ?_)
   revert bNew
   intro b10
   refine jz (jy [.int .u8 x.vd.code, .slice a1 x.vd.sets.length c1, .slice a2 x.vd.soa.length c2] rfl stL (List.mem_cons_of_mem _ (List.mem_cons_self ..)) (fun j v hj => by
    match j, hj with
    | 0, hj => exact hj
    | 1, hj => exact hj
    | 2, hj => exact hj)) rfl ?_
   skip
   refine jv (jb jd rfl (acH x.vd q a1 a2 c1 c2 (jp jx _ _ _ _ (fun p hp => by have := hKL p hp; simp [this]) hx1) (fun s hsm => (hs x hxm).1.2 s hsm))) rfl ?_
   rintro _ _ ⟨a3, c3, B3, rfl, hB3, rfl, hr3⟩
   refine jC (L' := (b10, Obj.cells #[.int .i64 x.up, .int .u8 x.vd.code, .slice a1 x.vd.sets.length c1, .slice a2 x.vd.soa.length c2, .int .u32 x.time, .string (bs []), .int .u16 0, .int .u16 0, .int .u32 0, .slice none 0 0, .bool false] 187 (0, 0)) :: ((b9, Obj.cells #[.int .i64 x.up, .int .u8 x.vd.code, .slice a1 x.vd.sets.length c1, .slice a2 x.vd.soa.length c2, .int .u32 x.time] 65 (0, 0)) :: ((bQ, Obj.cells #[.string (bs q.name), .int .u16 q.kind, .int .u16 q.cls] 24 (0, 0)) :: ((b4, Obj.cells #[.int .u8 0, .slice none 0 0, .slice none 0 0] 40 (0, 0)) :: (B ++ ((B3 ++ D) ++ L)))))) ?_ ji
   refine goA ?_
   refine QY (yI (cs := [.string (bs (Vd.endV q x.vd).1.name), .int .u16 (Vd.endV q x.vd).1.kind, .int .u16 (Vd.endV q x.vd).1.cls, .int .u32 (Vd.endV q x.vd).1.ttl, .slice a3 (Vd.endV q x.vd).1.data.length c3]) rfl rfl stL hr3.one (by simp)) ?_
   refine kX (L' := (b10, Obj.cells #[.int .i64 x.up, .int .u8 x.vd.code, .slice a1 x.vd.sets.length c1, .slice a2 x.vd.soa.length c2, .int .u32 x.time, .string (bs (Vd.endV q x.vd).1.name), .int .u16 (Vd.endV q x.vd).1.kind, .int .u16 (Vd.endV q x.vd).1.cls, .int .u32 (Vd.endV q x.vd).1.ttl, .slice a3 (Vd.endV q x.vd).1.data.length c3, .bool false] 187 (0, 0)) :: ((b9, Obj.cells #[.int .i64 x.up, .int .u8 x.vd.code, .slice a1 x.vd.sets.length c1, .slice a2 x.vd.soa.length c2, .int .u32 x.time] 65 (0, 0)) :: ((bQ, Obj.cells #[.string (bs q.name), .int .u16 q.kind, .int .u16 q.cls] 24 (0, 0)) :: ((b4, Obj.cells #[.int .u8 0, .slice none 0 0, .slice none 0 0] 40 (0, 0)) :: (B ++ ((B3 ++ D) ++ L)))))) (fun w h => h) ?_
   repeat (refine jz (qf rfl yY) rfl ?_)
   refine qg (C' := #[.int .i64 x.up, .int .u8 x.vd.code, .slice a1 x.vd.sets.length c1, .slice a2 x.vd.soa.length c2, .int .u32 x.time, .string (bs (Vd.endV q x.vd).1.name), .int .u16 (Vd.endV q x.vd).1.kind, .int .u16 (Vd.endV q x.vd).1.cls, .int .u32 (Vd.endV q x.vd).1.ttl, .slice a3 (Vd.endV q x.vd).1.data.length c3, .bool (Vd.endV q x.vd).2]) rfl rfl onO rfl rfl rfl ?_
   repeat (first | refine goA ?_ | (refine kR ?_; intro bLit))
   refine jC (L' := (bLit, Obj.cells #[.int .i64 x.up, .int .u8 x.vd.code, .slice a1 x.vd.sets.length c1, .slice a2 x.vd.soa.length c2, .int .u32 x.time, .string (bs (Vd.endV q x.vd).1.name), .int .u16 (Vd.endV q x.vd).1.kind, .int .u16 (Vd.endV q x.vd).1.cls, .int .u32 (Vd.endV q x.vd).1.ttl, .slice a3 (Vd.endV q x.vd).1.data.length c3, .bool (Vd.endV q x.vd).2] 187 (0, 0)) :: (B ++ ((bQ, Obj.cells #[.string (bs q.name), .int .u16 q.kind, .int .u16 q.cls] 24 (0, 0)) :: ((b4, Obj.cells #[.int .u8 0, .slice none 0 0, .slice none 0 0] 40 (0, 0)) :: ((B3 ++ D) ++ L))))) ?_ ji
   have hen : endedR q K (B3 ++ D) [.int .i64 x.up, .int .u8 x.vd.code, .slice a1 x.vd.sets.length c1, .slice a2 x.vd.soa.length c2, .int .u32 x.time, .string (bs (Vd.endV q x.vd).1.name), .int .u16 (Vd.endV q x.vd).1.kind, .int .u16 (Vd.endV q x.vd).1.cls, .int .u32 (Vd.endV q x.vd).1.ttl, .slice a3 (Vd.endV q x.vd).1.data.length c3, .bool (Vd.endV q x.vd).2] x := ⟨a1, c1, a2, c2, a3, c3, rfl, hxv, jx _ _ _ _ jr hr3⟩
   refine jv (Z3 (L0 := []) (r := endedR q K (B3 ++ D)) (y := x) etO rfl rfl (hB.imp (r' := fun _ => endedR q K (B3 ++ D)) (L' := []) (fun cs y _ h => endedR.mono jr h)) rfl (fun v hv => endedR.one hen v hv) hen je (by decide)) rfl ?_
   rintro _ _ ⟨a', c', B', rfl, hB', rfl⟩
   refine goA ?_
   refine jh (i + 1, a', c', B', B3 ++ D) ⟨hil, by dsimp only; rw [htk]; exact hB'⟩ ?_ (fun w h => h.cnt ji) (by dsimp only; omega)
   dsimp only
   rw [htk]
   exact ju
 · have hie : i = l.length := by omega
   subst hie
   rw [List.take_length] at hB ⊢
   obtain ⟨bE, cur, rfl, hBe, _, hcE, _, hcur⟩ := hB.block (fun e => by rw [e] at hlpos; simp at hlpos)
   have hmE : (bE, Obj.cells cur 187 (0, 0)) ∈ B ++ (D ++ L) := by rw [hBe]; simp
   obtain ⟨_, _, ⟨w1, wc1, w2, wc2, w3, wc3, rfl, hwv, hwr⟩, _, hcw⟩ := hcur 0 w hw0
   have gw4 : cur[0 + (0 : Int).toNat * 11 + 0 + 4]? = some (.int .u32 w.time) := hcw 4 _ rfl
   have ht0 : ∀ i, i ≤ l.length → 0 ≤ Vd.minTime (l.take i) w.time ∧ Vd.minTime (l.take i) w.time ≤ 4294967295 := fun i hi => KN _ _ (fun x hx => KO hl0 x (List.mem_of_mem_take hx)) (KO hl0 w (List.mem_of_getElem? hw0))
   refine goA ?_
   refine jz (jy [.int .i64 w.up, .int .u8 w.vd.code, .slice w1 w.vd.sets.length wc1, .slice w2 w.vd.soa.length wc2, .int .u32 w.time, .string (bs (Vd.endV q w.vd).1.name), .int .u16 (Vd.endV q w.vd).1.kind, .int .u16 (Vd.endV q w.vd).1.cls, .int .u32 (Vd.endV q w.vd).1.ttl, .slice w3 (Vd.endV q w.vd).1.data.length wc3, .bool (Vd.endV q w.vd).2] rfl stL (List.mem_cons_of_mem _ (List.mem_cons_of_mem _ hmE)) (fun j v hj => by have := hcw j v hj; simpa using this)) rfl ?_
   repeat (first | refine goA ?_ | (refine jO ?_; intro bNew))
   revert bNew
   intro bW
   refine jA (σ := Nat × List Value) (fun y => y.1 ≤ l.length ∧ ∃ f, l[Vd.firstAt l y.1]? = some f ∧ endedR q K D y.2 f) (fun y => [(2, .pointer (some ⟨bQ, 0, none⟩)), (4, .pointer (some ⟨b4, 0, none⟩)), (5, .int .u32 (Vd.minTime (l.take y.1) w.time)), (7, .slice (some ⟨bE, 0, none⟩) l.length c), (11, .pointer (some ⟨bW, 0, none⟩)), (12, .bool (Vd.alikeV (l.take y.1) w.vd)), (13, .bool (kG q (l.take y.1))), (59, .slice (some ⟨bE, 0, none⟩) l.length c), (60, .int .i64 (l.length : Nat)), (61, .int .i64 (y.1 : Nat))]) (fun y => (bW, Obj.cells y.2.toArray 187 (0, 0)) :: ((bQ, Obj.cells #[.string (bs q.name), .int .u16 q.kind, .int .u16 q.cls] 24 (0, 0)) :: ((b4, Obj.cells #[.int .u8 0, .slice none 0 0, .slice none 0 0] 40 (0, 0)) :: (B ++ (D ++ L))))) (fun y => l.length - y.1) (0, [.int .i64 w.up, .int .u8 w.vd.code, .slice w1 w.vd.sets.length wc1, .slice w2 w.vd.soa.length wc2, .int .u32 w.time, .string (bs (Vd.endV q w.vd).1.name), .int .u16 (Vd.endV q w.vd).1.kind, .int .u16 (Vd.endV q w.vd).1.cls, .int .u32 (Vd.endV q w.vd).1.ttl, .slice w3 (Vd.endV q w.vd).1.data.length wc3, .bool (Vd.endV q w.vd).2]) ⟨Nat.zero_le _, w, hw0, _, _, _, _, _, _, rfl, hwv, hwr⟩ ?_ (fun w h => h) ?_
   exact ju
   rintro ⟨i, cf⟩ ⟨hi, f, hf, f1, fc1, f2, fc2, f3, fc3, rfl, hfv, hfr⟩
   dsimp only at hi hf ⊢
   have hti := ht0 i hi
   by_cases hil : i < l.length
   · obtain ⟨x, hx⟩ : ∃ x, l[i]? = some x := ⟨_, List.getElem?_eq_getElem hil⟩
     have htk : l.take (i + 1) = l.take i ++ [x] := by rw [List.take_add_one, hx]; rfl
     have hmt : Vd.minTime (l.take (i + 1)) w.time = min (Vd.minTime (l.take i) w.time) x.time := by rw [htk]; exact Ut _ _ _
     have hal : Vd.alikeV (l.take (i + 1)) w.vd = (Vd.alikeV (l.take i) w.vd && decide (x.vd = w.vd)) := by rw [htk]; exact Vu _ _ _
     have hso : kG q (l.take (i + 1)) = (kG q (l.take i) || (Vd.endV q x.vd).2) := by rw [htk]; simp [kG]
     have hfs : Vd.firstAt l (i + 1) = if x.up < f.up then i else Vd.firstAt l i := by rw [Vd.firstAt, hx, hf]
     obtain ⟨_, _, ⟨x1, xc1, x2, xc2, x3, xc3, rfl, hxv, hxr⟩, _, hcx⟩ := hcur i x hx
     refine goA ?_
     refine jz (jy [.int .i64 x.up, .int .u8 x.vd.code, .slice x1 x.vd.sets.length xc1, .slice x2 x.vd.soa.length xc2, .int .u32 x.time, .string (bs (Vd.endV q x.vd).1.name), .int .u16 (Vd.endV q x.vd).1.kind, .int .u16 (Vd.endV q x.vd).1.cls, .int .u32 (Vd.endV q x.vd).1.ttl, .slice x3 (Vd.endV q x.vd).1.data.length xc3, .bool (Vd.endV q x.vd).2] rfl stL (List.mem_cons_of_mem _ (List.mem_cons_of_mem _ (List.mem_cons_of_mem _ hmE))) (fun j v hj => by rw [Nat.zero_add]; exact hcx j v hj)) rfl ?_
     repeat (first | refine goA ?_ | (refine jO ?_; intro bNew))
     revert bNew
     intro b15
     refine KD (σ := List Value) (fun y => ∃ g, l[Vd.firstAt l (i + 1)]? = some g ∧ endedR q K D y g) (fun y => [(2, .pointer (some ⟨bQ, 0, none⟩)), (4, .pointer (some ⟨b4, 0, none⟩)), (5, .int .u32 (Vd.minTime (l.take (i + 1)) w.time)), (7, .slice (some ⟨bE, 0, none⟩) l.length c), (11, .pointer (some ⟨bW, 0, none⟩)), (12, .bool (Vd.alikeV (l.take i) w.vd)), (13, .bool (kG q (l.take i))), (59, .slice (some ⟨bE, 0, none⟩) l.length c), (60, .int .i64 (l.length : Nat)), (61, .int .i64 (i : Nat)), (15, .pointer (some ⟨b15, 0, none⟩))]) (fun y => (b15, Obj.cells #[.int .i64 x.up, .int .u8 x.vd.code, .slice x1 x.vd.sets.length xc1, .slice x2 x.vd.soa.length xc2, .int .u32 x.time, .string (bs (Vd.endV q x.vd).1.name), .int .u16 (Vd.endV q x.vd).1.kind, .int .u16 (Vd.endV q x.vd).1.cls, .int .u32 (Vd.endV q x.vd).1.ttl, .slice x3 (Vd.endV q x.vd).1.data.length xc3, .bool (Vd.endV q x.vd).2] 187 (0, 0)) :: ((bW, Obj.cells y.toArray 187 (0, 0)) :: ((bQ, Obj.cells #[.string (bs q.name), .int .u16 q.kind, .int .u16 q.cls] 24 (0, 0)) :: ((b4, Obj.cells #[.int .u8 0, .slice none 0 0, .slice none 0 0] 40 (0, 0)) :: (B ++ (D ++ L)))))) ?_ ?_
     · rw [hfs, hmt]
       by_cases hup : x.up < f.up
       · rw [if_pos hup]
         refine goA ?_
         refine jC (L' := (bW, Obj.cells #[.int .i64 f.up, .int .u8 f.vd.code, .slice f1 f.vd.sets.length fc1, .slice f2 f.vd.soa.length fc2, .int .u32 f.time, .string (bs (Vd.endV q f.vd).1.name), .int .u16 (Vd.endV q f.vd).1.kind, .int .u16 (Vd.endV q f.vd).1.cls, .int .u32 (Vd.endV q f.vd).1.ttl, .slice f3 (Vd.endV q f.vd).1.data.length fc3, .bool (Vd.endV q f.vd).2] 187 (0, 0)) :: ((b15, Obj.cells #[.int .i64 x.up, .int .u8 x.vd.code, .slice x1 x.vd.sets.length xc1, .slice x2 x.vd.soa.length xc2, .int .u32 x.time, .string (bs (Vd.endV q x.vd).1.name), .int .u16 (Vd.endV q x.vd).1.kind, .int .u16 (Vd.endV q x.vd).1.cls, .int .u32 (Vd.endV q x.vd).1.ttl, .slice x3 (Vd.endV q x.vd).1.data.length xc3, .bool (Vd.endV q x.vd).2] 187 (0, 0)) :: ((bQ, Obj.cells #[.string (bs q.name), .int .u16 q.kind, .int .u16 q.cls] 24 (0, 0)) :: ((b4, Obj.cells #[.int .u8 0, .slice none 0 0, .slice none 0 0] 40 (0, 0)) :: (B ++ (D ++ L)))))) ?_ ji
         refine goA ?_
         refine kF [.int .i64 x.up, .int .u8 x.vd.code, .slice x1 x.vd.sets.length xc1, .slice x2 x.vd.soa.length xc2, .int .u32 x.time, .string (bs (Vd.endV q x.vd).1.name), .int .u16 (Vd.endV q x.vd).1.kind, .int .u16 (Vd.endV q x.vd).1.cls, .int .u32 (Vd.endV q x.vd).1.ttl, .slice x3 (Vd.endV q x.vd).1.data.length xc3, .bool (Vd.endV q x.vd).2] ⟨x, hx, _, _, _, _, _, _, rfl, hxv, hxr⟩ ?_ (fun w h => h.cnt ji)
         exact ju
       · rw [if_neg hup]
         refine goA ?_
         refine kF [.int .i64 f.up, .int .u8 f.vd.code, .slice f1 f.vd.sets.length fc1, .slice f2 f.vd.soa.length fc2, .int .u32 f.time, .string (bs (Vd.endV q f.vd).1.name), .int .u16 (Vd.endV q f.vd).1.kind, .int .u16 (Vd.endV q f.vd).1.cls, .int .u32 (Vd.endV q f.vd).1.ttl, .slice f3 (Vd.endV q f.vd).1.data.length fc3, .bool (Vd.endV q f.vd).2] ⟨f, hf, _, _, _, _, _, _, rfl, hfv, hfr⟩ ?_ (fun w h => h)
         exact ju
     · rintro cg ⟨g, hg, hgr⟩
       have hxd : vdR K [.int .u8 x.vd.code, .slice x1 x.vd.sets.length xc1, .slice x2 x.vd.soa.length xc2] x.vd := JU hxv
       have hwd : vdR K [.int .u8 w.vd.code, .slice w1 w.vd.sets.length wc1, .slice w2 w.vd.soa.length wc2] w.vd := JU hwv
       have hKc : ∀ p ∈ K, p ∈ (b15, Obj.cells #[.int .i64 x.up, .int .u8 x.vd.code, .slice x1 x.vd.sets.length xc1, .slice x2 x.vd.soa.length xc2, .int .u32 x.time, .string (bs (Vd.endV q x.vd).1.name), .int .u16 (Vd.endV q x.vd).1.kind, .int .u16 (Vd.endV q x.vd).1.cls, .int .u32 (Vd.endV q x.vd).1.ttl, .slice x3 (Vd.endV q x.vd).1.data.length xc3, .bool (Vd.endV q x.vd).2] 187 (0, 0)) :: ((bW, Obj.cells cg.toArray 187 (0, 0)) :: ((bQ, Obj.cells #[.string (bs q.name), .int .u16 q.kind, .int .u16 q.cls] 24 (0, 0)) :: ((b4, Obj.cells #[.int .u8 0, .slice none 0 0, .slice none 0 0] 40 (0, 0)) :: (B ++ (D ++ L))))) := fun p hp => by have := hKL p hp; simp [this]
       have hKm : ∀ z ∈ [(b15, Obj.cells #[.int .i64 x.up, .int .u8 x.vd.code, .slice x1 x.vd.sets.length xc1, .slice x2 x.vd.soa.length xc2, .int .u32 x.time, .string (bs (Vd.endV q x.vd).1.name), .int .u16 (Vd.endV q x.vd).1.kind, .int .u16 (Vd.endV q x.vd).1.cls, .int .u32 (Vd.endV q x.vd).1.ttl, .slice x3 (Vd.endV q x.vd).1.data.length xc3, .bool (Vd.endV q x.vd).2] 187 (0, 0)), (bE, Obj.cells cur 187 (0, 0))], z ∈ (b15, Obj.cells #[.int .i64 x.up, .int .u8 x.vd.code, .slice x1 x.vd.sets.length xc1, .slice x2 x.vd.soa.length xc2, .int .u32 x.time, .string (bs (Vd.endV q x.vd).1.name), .int .u16 (Vd.endV q x.vd).1.kind, .int .u16 (Vd.endV q x.vd).1.cls, .int .u32 (Vd.endV q x.vd).1.ttl, .slice x3 (Vd.endV q x.vd).1.data.length xc3, .bool (Vd.endV q x.vd).2] 187 (0, 0)) :: ((bW, Obj.cells cg.toArray 187 (0, 0)) :: ((bQ, Obj.cells #[.string (bs q.name), .int .u16 q.kind, .int .u16 q.cls] 24 (0, 0)) :: ((b4, Obj.cells #[.int .u8 0, .slice none 0 0, .slice none 0 0] 40 (0, 0)) :: (B ++ (D ++ L))))) := by
        intro z hz
        simp only [List.mem_cons, List.not_mem_nil, or_false] at hz
        rcases hz with rfl | rfl
        · exact List.mem_cons_self ..
        · exact List.mem_cons_of_mem _ (List.mem_cons_of_mem _ (List.mem_cons_of_mem _ (List.mem_cons_of_mem _ hmE)))
       have hx42 : ∀ j v, ([.int .u8 x.vd.code, .slice x1 x.vd.sets.length xc1, .slice x2 x.vd.soa.length xc2] : List Value)[j]? = some v → (#[.int .i64 x.up, .int .u8 x.vd.code, .slice x1 x.vd.sets.length xc1, .slice x2 x.vd.soa.length xc2, .int .u32 x.time, .string (bs (Vd.endV q x.vd).1.name), .int .u16 (Vd.endV q x.vd).1.kind, .int .u16 (Vd.endV q x.vd).1.cls, .int .u32 (Vd.endV q x.vd).1.ttl, .slice x3 (Vd.endV q x.vd).1.data.length xc3, .bool (Vd.endV q x.vd).2] : Array Value)[0 + 0 + 1 + j]? = some v := fun j v hj => by
        match j, hj with
        | 0, hj => exact hj
        | 1, hj => exact hj
        | 2, hj => exact hj
       have hw42 : ∀ j v, ([.int .u8 w.vd.code, .slice w1 w.vd.sets.length wc1, .slice w2 w.vd.soa.length wc2] : List Value)[j]? = some v → cur[0 + (0 : Int).toNat * 11 + 0 + 1 + j]? = some v := fun j v hj => by
        match j, hj with
        | 0, hj => exact hcw 1 v hj
        | 1, hj => exact hcw 2 v hj
        | 2, hj => exact hcw 3 v hj
       cases hav : Vd.alikeV (l.take i) w.vd with
       | false =>
         rw [hav] at hal
         cases hs0 : kG q (l.take i) with
         | false =>
           rw [hs0] at hso
           refine goA ?_
           refine jw jc ([(b15, Obj.cells #[.int .i64 x.up, .int .u8 x.vd.code, .slice x1 x.vd.sets.length xc1, .slice x2 x.vd.soa.length xc2, .int .u32 x.time, .string (bs (Vd.endV q x.vd).1.name), .int .u16 (Vd.endV q x.vd).1.kind, .int .u16 (Vd.endV q x.vd).1.cls, .int .u32 (Vd.endV q x.vd).1.ttl, .slice x3 (Vd.endV q x.vd).1.data.length xc3, .bool (Vd.endV q x.vd).2] 187 (0, 0)), (bE, Obj.cells cur 187 (0, 0))]) [] ?_
           refine tkQ 0 ?_
           refine tkQ 1 ?_
           refine tkQ 2 ?_
           refine tkQ 3 ?_
           refine tkQ 5 ?_
           refine tkQ 6 ?_
           refine tkQ 7 ?_
           refine tkQ 8 ?_
           refine tkQ 4 ?_
           refine tkQ 9 ?_
           refine tkQ 10 ?_
           refine tkQ 11 ?_
           refine tkQ 12 ?_
           refine tdQ ?_
           refine goA ?_
           refine jh (i + 1, cg) ⟨hil, g, hg, hgr⟩ ?_ (fun w h => h.tail) (by dsimp only; omega)
           dsimp only
           rw [hal, hso, Bool.false_and, Bool.false_or]
           exact ju
         | true =>
           rw [hs0] at hso
           refine goA ?_
           refine jw jc ([(b15, Obj.cells #[.int .i64 x.up, .int .u8 x.vd.code, .slice x1 x.vd.sets.length xc1, .slice x2 x.vd.soa.length xc2, .int .u32 x.time, .string (bs (Vd.endV q x.vd).1.name), .int .u16 (Vd.endV q x.vd).1.kind, .int .u16 (Vd.endV q x.vd).1.cls, .int .u32 (Vd.endV q x.vd).1.ttl, .slice x3 (Vd.endV q x.vd).1.data.length xc3, .bool (Vd.endV q x.vd).2] 187 (0, 0)), (bE, Obj.cells cur 187 (0, 0))]) [] ?_
           refine tkQ 0 ?_
           refine tkQ 1 ?_
           refine tkQ 2 ?_
           refine tkQ 3 ?_
           refine tkQ 5 ?_
           refine tkQ 6 ?_
           refine tkQ 7 ?_
           refine tkQ 8 ?_
           refine tkQ 4 ?_
           refine tkQ 9 ?_
           refine tkQ 10 ?_
           refine tkQ 11 ?_
           refine tkQ 12 ?_
           refine tdQ ?_
           refine goA ?_
           refine jh (i + 1, cg) ⟨hil, g, hg, hgr⟩ ?_ (fun w h => h.tail) (by dsimp only; omega)
           dsimp only
           rw [hal, hso, Bool.false_and, Bool.true_or]
           exact ju
       | true =>
         rw [hav] at hal
         cases hs0 : kG q (l.take i) with
         | false =>
           rw [hs0] at hso
           refine goA ?_
           refine jw jc ([(b15, Obj.cells #[.int .i64 x.up, .int .u8 x.vd.code, .slice x1 x.vd.sets.length xc1, .slice x2 x.vd.soa.length xc2, .int .u32 x.time, .string (bs (Vd.endV q x.vd).1.name), .int .u16 (Vd.endV q x.vd).1.kind, .int .u16 (Vd.endV q x.vd).1.cls, .int .u32 (Vd.endV q x.vd).1.ttl, .slice x3 (Vd.endV q x.vd).1.data.length xc3, .bool (Vd.endV q x.vd).2] 187 (0, 0)), (bE, Obj.cells cur 187 (0, 0))]) [] ?_
           refine tkQ 0 ?_
           refine tkQ 1 ?_
           refine tkQ 2 ?_
           refine tkQ 3 ?_
           refine tkQ 5 ?_
           refine tkQ 6 ?_
           refine tkQ 7 ?_
           refine tkQ 8 ?_
           (refine jt 4 rfl rfl jd (qQ rfl rfl (by with_reducible rfl) (jy [.int .u8 x.vd.code, .slice x1 x.vd.sets.length xc1, .slice x2 x.vd.soa.length xc2] rfl stL (List.mem_cons_self ..) hx42)) ?_ ?_; (· exact hKm))
           (refine jt 9 rfl rfl jd (qQ rfl rfl (by with_reducible rfl) (jy [.int .u8 w.vd.code, .slice w1 w.vd.sets.length wc1, .slice w2 w.vd.soa.length wc2] rfl stL (List.mem_cons_of_mem _ (List.mem_cons_self ..)) hw42)) ?_ ?_; (· exact hKm))
           (refine zq 10 jd rfl rfl rfl rfl (by with_reducible rfl) (jb jd rfl (Ue [.int .u8 x.vd.code, .slice x1 x.vd.sets.length xc1, .slice x2 x.vd.soa.length xc2] [.int .u8 w.vd.code, .slice w1 w.vd.sets.length wc1, .slice w2 w.vd.soa.length wc2] x.vd w.vd (ki _ _ _ _ hKc hxd) (ki _ _ _ _ hKc hwd))) ?_; rintro _ _ ⟨rfl, rfl⟩; refine ⟨Or.inr hKm, ?_⟩)
           refine tkQ 11 ?_
           refine tkQ 12 ?_
           refine tdQ ?_
           refine goA ?_
           refine jh (i + 1, cg) ⟨hil, g, hg, hgr⟩ ?_ (fun w h => h.tail) (by dsimp only; omega)
           dsimp only
           rw [hal, hso, Bool.true_and, Bool.false_or]
           exact ju
         | true =>
           rw [hs0] at hso
           refine goA ?_
           refine jw jc ([(b15, Obj.cells #[.int .i64 x.up, .int .u8 x.vd.code, .slice x1 x.vd.sets.length xc1, .slice x2 x.vd.soa.length xc2, .int .u32 x.time, .string (bs (Vd.endV q x.vd).1.name), .int .u16 (Vd.endV q x.vd).1.kind, .int .u16 (Vd.endV q x.vd).1.cls, .int .u32 (Vd.endV q x.vd).1.ttl, .slice x3 (Vd.endV q x.vd).1.data.length xc3, .bool (Vd.endV q x.vd).2] 187 (0, 0)), (bE, Obj.cells cur 187 (0, 0))]) [] ?_
           refine tkQ 0 ?_
           refine tkQ 1 ?_
           refine tkQ 2 ?_
           refine tkQ 3 ?_
           refine tkQ 5 ?_
           refine tkQ 6 ?_
           refine tkQ 7 ?_
           refine tkQ 8 ?_
           (refine jt 4 rfl rfl jd (qQ rfl rfl (by with_reducible rfl) (jy [.int .u8 x.vd.code, .slice x1 x.vd.sets.length xc1, .slice x2 x.vd.soa.length xc2] rfl stL (List.mem_cons_self ..) hx42)) ?_ ?_; (· exact hKm))
           (refine jt 9 rfl rfl jd (qQ rfl rfl (by with_reducible rfl) (jy [.int .u8 w.vd.code, .slice w1 w.vd.sets.length wc1, .slice w2 w.vd.soa.length wc2] rfl stL (List.mem_cons_of_mem _ (List.mem_cons_self ..)) hw42)) ?_ ?_; (· exact hKm))
           (refine zq 10 jd rfl rfl rfl rfl (by with_reducible rfl) (jb jd rfl (Ue [.int .u8 x.vd.code, .slice x1 x.vd.sets.length xc1, .slice x2 x.vd.soa.length xc2] [.int .u8 w.vd.code, .slice w1 w.vd.sets.length wc1, .slice w2 w.vd.soa.length wc2] x.vd w.vd (ki _ _ _ _ hKc hxd) (ki _ _ _ _ hKc hwd))) ?_; rintro _ _ ⟨rfl, rfl⟩; refine ⟨Or.inr hKm, ?_⟩)
           refine tkQ 11 ?_
           refine tkQ 12 ?_
           refine tdQ ?_
           refine goA ?_
           refine jh (i + 1, cg) ⟨hil, g, hg, hgr⟩ ?_ (fun w h => h.tail) (by dsimp only; omega)
           dsimp only
           rw [hal, hso, Bool.true_and, Bool.true_or]
           exact ju
   · have hie : i = l.length := by omega
     subst hie
     rw [List.take_length] at hti ⊢
     have hKc : ∀ p ∈ K, p ∈ ((bW, Obj.cells #[.int .i64 f.up, .int .u8 f.vd.code, .slice f1 f.vd.sets.length fc1, .slice f2 f.vd.soa.length fc2, .int .u32 f.time, .string (bs (Vd.endV q f.vd).1.name), .int .u16 (Vd.endV q f.vd).1.kind, .int .u16 (Vd.endV q f.vd).1.cls, .int .u32 (Vd.endV q f.vd).1.ttl, .slice f3 (Vd.endV q f.vd).1.data.length fc3, .bool (Vd.endV q f.vd).2] 187 (0, 0)) :: ((bQ, Obj.cells #[.string (bs q.name), .int .u16 q.kind, .int .u16 q.cls] 24 (0, 0)) :: ((b4, Obj.cells #[.int .u8 0, .slice none 0 0, .slice none 0 0] 40 (0, 0)) :: (B ++ (D ++ L))))) := fun p hp => by have := hKL p hp; simp [this]
     rw [hf] at hU
     dsimp only at hU
     cases hA : Vd.alikeV l w.vd with
     | true =>
       rw [hA] at hU
       simp only [Bool.not_true, Bool.false_and, Bool.false_eq_true, if_false] at hU
       rw [hU]
       refine goA ?_
       refine jz (jy [.int .u8 f.vd.code, .slice f1 f.vd.sets.length fc1, .slice f2 f.vd.soa.length fc2] rfl stL (List.mem_cons_self ..) (fun j v hj => by
        match j, hj with
        | 0, hj => exact hj
        | 1, hj => exact hj
        | 2, hj => exact hj)) rfl ?_
       skip
       refine jv (jb jd rfl (u6 [.int .u8 f.vd.code, .slice f1 f.vd.sets.length fc1, .slice f2 f.vd.soa.length fc2] f.vd (ki _ _ _ _ hKc (JU hfv)) (hs f (List.mem_of_getElem? hf)))) rfl ?_
       rintro _ _ ⟨a', c', B', a2', c2', B2', N', rfl, k1, k2, k3, rfl⟩
       repeat (refine jz (yl rfl) rfl ?_)
       refine jC (L' := (b4, Obj.cells #[.int .u8 0, .slice none 0 0, .slice none 0 0] 40 (0, 0)) :: (B2' ++ (B' ++ (N' ++ L)))) ?_ ji
       refine goA ?_
       refine kh 4 40 5 6 rfl rfl rfl rfl stO (by repeat (exact List.mem_cons_self)) rfl (fun w h => Heap.cnt (L' := B2' ++ (B' ++ (N' ++ L))) h ji) ?_
       exact ⟨a', c', B', a2', c2', B2', N', rfl, k1, k2, k3, rfl⟩
     | false =>
       cases hS : kG q l with
       | false =>
         rw [hA, hS] at hU
         simp only [Bool.not_false, Bool.true_and, Bool.false_eq_true, if_false] at hU
         rw [hU]
         refine goA ?_
         refine jz (jy [.int .u8 f.vd.code, .slice f1 f.vd.sets.length fc1, .slice f2 f.vd.soa.length fc2] rfl stL (List.mem_cons_self ..) (fun j v hj => by
          match j, hj with
          | 0, hj => exact hj
          | 1, hj => exact hj
          | 2, hj => exact hj)) rfl ?_
         skip
         refine jv (jb jd rfl (u6 [.int .u8 f.vd.code, .slice f1 f.vd.sets.length fc1, .slice f2 f.vd.soa.length fc2] f.vd (ki _ _ _ _ hKc (JU hfv)) (hs f (List.mem_of_getElem? hf)))) rfl ?_
         rintro _ _ ⟨a', c', B', a2', c2', B2', N', rfl, k1, k2, k3, rfl⟩
         repeat (refine jz (yl rfl) rfl ?_)
         refine jC (L' := (b4, Obj.cells #[.int .u8 0, .slice none 0 0, .slice none 0 0] 40 (0, 0)) :: (B2' ++ (B' ++ (N' ++ L)))) ?_ ji
         refine goA ?_
         refine kh 4 40 5 6 rfl rfl rfl rfl stO (by repeat (exact List.mem_cons_self)) rfl (fun w h => Heap.cnt (L' := B2' ++ (B' ++ (N' ++ L))) h ji) ?_
         exact ⟨a', c', B', a2', c2', B2', N', rfl, k1, k2, k3, rfl⟩
       | true =>
         rw [hA, hS] at hU
         simp only [Bool.not_false, Bool.true_and, if_true] at hU
         rw [hU]
         refine goA ?_
         refine jv (jb jd rfl (YZ (K := K) (D := D) _ q l (fun p hp => by simp [hp]) hq1 hq2 hq3 ((hB.imp (r' := fun _ => endedR q K D) (L' := []) (fun cs x _ h => h)).sliceR j5 (by simp) (fun p hp => by simp [hp])) hn hd)) rfl ?_
         rintro _ _ ⟨a', c', B', a2', c2', B2', N', rfl, k1, k2, k3, rfl⟩
         repeat (refine jz (yl rfl) rfl ?_)
         refine jC (L' := (b4, Obj.cells #[.int .u8 0, .slice none 0 0, .slice none 0 0] 40 (0, 0)) :: (B2' ++ (B' ++ (N' ++ L)))) ?_ ji
         refine goA ?_
         refine kh 4 40 5 6 rfl rfl rfl rfl stO (by repeat (exact List.mem_cons_self)) rfl (fun w h => Heap.cnt (L' := B2' ++ (B' ++ (N' ++ L))) h ji) ?_
         exact ⟨a', c', B', a2', c2', B2', N', rfl, k1, k2, k3, rfl⟩
end Go.Proofs.YtbjkkoacclfejaaGreat
namespace Go.Proofs.YtbjkkoacclfejaaGreat
namespace Vd
def uh (l : List Bytes) : Prop := l.Pairwise fun a b => a < b
theorem KQ : ∀ {a b : List Bytes}, uh a → uh b → (∀ x, x ∈ a ↔ x ∈ b) → a = b
 | [], [], _, _, _ => rfl
 | [], y :: b, _, _, h => absurd ((h y).2 (List.mem_cons_self ..)) (by simp)
 | x :: a, [], _, _, h => absurd ((h x).1 (List.mem_cons_self ..)) (by simp)
 | x :: a, y :: b, ha, hb, h => by
   have ha' := List.pairwise_cons.1 ha
   have hb' := List.pairwise_cons.1 hb
   have hxy : x = y := by
    rcases List.mem_cons.1 ((h x).1 (List.mem_cons_self ..)) with e | hx
    · exact e
    · rcases List.mem_cons.1 ((h y).2 (List.mem_cons_self ..)) with e | hy
      · exact e.symm
      · exact absurd (List.lt_trans (ha'.1 y hy) (hb'.1 x hx)) (List.lt_irrefl x)
   subst hxy
   have ht : ∀ z, z ∈ a ↔ z ∈ b := fun z => by
    constructor
    · intro hz
      rcases List.mem_cons.1 ((h z).1 (List.mem_cons_of_mem _ hz)) with e | hz'
      · subst e; exact absurd (ha'.1 _ hz) (List.lt_irrefl _)
      · exact hz'
    · intro hz
      rcases List.mem_cons.1 ((h z).2 (List.mem_cons_of_mem _ hz)) with e | hz'
      · subst e; exact absurd (hb'.1 _ hz) (List.lt_irrefl _)
      · exact hz'
   rw [KQ ha'.2 hb'.2 ht]
theorem Ye (x s : Bytes) : gtB x s = true ↔ s < x := by
 unfold gtB
 rw [Go.Proofs.bytesLess_eq]
 simp only [Bool.not_eq_true', Bool.or_eq_false_iff, decide_eq_false_iff_not, beq_eq_false_iff_ne]
 constructor
 · rintro ⟨h1, h2⟩
   have hle : s ≤ x := List.not_lt.1 h1
   by_cases h : s < x
   · exact h
   · exact absurd (List.le_antisymm (List.not_lt.1 h) hle) h2
 · intro h
   refine ⟨fun h2 => absurd (List.lt_trans h h2) (List.lt_irrefl _), fun e => by subst e; exact absurd h (List.lt_irrefl _)⟩
theorem aan {a b : Bytes} : a < b ∨ a = b ∨ b < a := by
 by_cases h1 : a < b
 · exact Or.inl h1
 · by_cases h2 : b < a
   · exact Or.inr (Or.inr h2)
   · exact Or.inr (Or.inl (List.le_antisymm (List.not_lt.1 h2) (List.not_lt.1 h1)))
theorem KR (s : Bytes) : ∀ (l out : List Bytes), (∀ x ∈ l, s < x) → putGo s l out true = .inr (out ++ l, true)
 | [], out, _ => by simp [putGo]
 | x :: l, out, h => by
   have hx := h x (List.mem_cons_self ..)
   rw [putGo, if_neg (fun e => by subst e; exact List.lt_irrefl _ hx), if_neg (by simp), KR s l _ fun y hy => h y (List.mem_cons_of_mem _ hy)]
   simp
theorem KS (s : Bytes) : ∀ (l out : List Bytes), uh (out ++ l) → (∀ x ∈ out, x < s) →
 (s ∈ l ∧ putGo s l out false = .inl []) ∨ ∃ o d, putGo s l out false = .inr (o, d) ∧ uh (if d then o else o ++ [s]) ∧ (∀ x, x ∈ (if d then o else o ++ [s]) ↔ x ∈ out ∨ x ∈ l ∨ x = s) ∧ s ∉ l
 | [], out, hr, ho => by
   refine Or.inr ⟨out, false, rfl, ?_, fun x => by simp, by simp⟩
   simp only [Bool.false_eq_true, if_false]
   rw [List.append_nil] at hr
   exact List.pairwise_append.2 ⟨hr, by simp, fun a ha b hb => by rw [List.mem_singleton.1 hb]; exact ho a ha⟩
 | x :: l, out, hr, ho => by
   by_cases hxs : x = s
   · subst hxs
     exact Or.inl ⟨List.mem_cons_self .., by rw [putGo, if_pos rfl]⟩
   · by_cases hg : s < x
     · have hall : ∀ y ∈ l, s < y := fun y hy => by
        have := (List.pairwise_cons.1 (List.pairwise_append.1 hr).2.1).1 y hy
        exact List.lt_trans hg this
       refine Or.inr ⟨((out ++ [s]) ++ [x]) ++ l, true, ?_, ?_, fun y => by simp; grind, ?_⟩
       · rw [putGo, if_neg hxs, if_pos (by simp [(Ye x s).2 hg]), KR s l _ hall]
       · simp only [if_true]
         have h1 := List.pairwise_append.1 hr
         rw [show ((out ++ [s]) ++ [x]) ++ l = out ++ (s :: x :: l) by simp]
         refine List.pairwise_append.2 ⟨h1.1, List.pairwise_cons.2 ⟨fun y hy => ?_, h1.2.1⟩, fun a ha b hb => ?_⟩
         · rcases List.mem_cons.1 hy with rfl | hy
           · exact hg
           · exact hall y hy
         · rcases List.mem_cons.1 hb with rfl | hb
           · exact ho a ha
           · exact h1.2.2 a ha b hb
       · intro hm
         rcases List.mem_cons.1 hm with e | hm
         · exact hxs e.symm
         · exact List.lt_irrefl _ (hall s hm)
     · have hlt : x < s := by
        rcases aan (a := x) (b := s) with h | h | h
        · exact h
        · exact absurd h hxs
        · exact absurd h hg
       have hng : gtB x s = false := by
        cases h : gtB x s with
        | false => rfl
        | true => exact absurd ((Ye x s).1 h) hg
       have := KS s l (out ++ [x]) (by simpa using hr) (fun y hy => by
        rcases List.mem_append.1 hy with hy | hy
        · exact ho y hy
        · rw [List.mem_singleton.1 hy]; exact hlt)
       rw [putGo, if_neg hxs, if_neg (by simp [hng])]
       rcases this with ⟨h1, h2⟩ | ⟨o, d, h1, h2, h3, h4⟩
       · exact Or.inl ⟨List.mem_cons_of_mem _ h1, h2⟩
       · refine Or.inr ⟨o, d, h1, h2, fun y => by rw [h3]; simp; grind, ?_⟩
         intro hm
         rcases List.mem_cons.1 hm with e | hm
         · exact hxs e.symm
         · exact h4 hm
theorem Wy {l : List Bytes} (s : Bytes) (h : uh l) : uh (put l s) ∧ ∀ x, x ∈ put l s ↔ x ∈ l ∨ x = s := by
 unfold put
 rcases KS s l [] (by simpa using h) (by simp) with ⟨h1, h2⟩ | ⟨o, d, h1, h2, h3, _⟩
 · rw [h2]
   exact ⟨h, fun x => ⟨fun hx => Or.inl hx, fun hx => hx.elim id fun e => e ▸ h1⟩⟩
 · rw [h1]
   dsimp only
   exact ⟨h2, fun x => by rw [h3]; simp⟩
theorem foldPut_rising : ∀ (d : List Bytes) {l : List Bytes}, uh l → uh (d.foldl put l) ∧ ∀ x, x ∈ d.foldl put l ↔ x ∈ l ∨ x ∈ d
 | [], l, h => ⟨h, fun x => by simp⟩
 | s :: d, l, h => by
   obtain ⟨h1, h2⟩ := Wy s h
   obtain ⟨h3, h4⟩ := foldPut_rising d h1
   exact ⟨h3, fun x => by rw [List.foldl_cons, h4, h2]; simp; grind⟩
theorem ae1 {a b c : Bytes} (h1 : a ≤ b) (h2 : b < c) : a < c := by
 rcases aan (a := a) (b := c) with h | h | h
 · exact h
 · subst h; exact absurd h2 (List.not_lt.2 h1)
 · exact absurd (List.lt_trans h2 h) (List.not_lt.2 h1)
theorem KT (d : Array Bytes) (hs : ∀ i j, i ≤ j → j < d.size → d[i]! ≤ d[j]!) : ∀ m, m ≤ d.size → uh (Lib.compactUpTo d m) ∧ ∀ x, x ∈ Lib.compactUpTo d m ↔ ∃ j, j < m ∧ d[j]! = x
 | 0, _ => by
   have h0 : Lib.compactUpTo d 0 = [] := rfl
   rw [h0]
   exact ⟨List.Pairwise.nil, fun x => by simp⟩
 | m + 1, hm => by
   obtain ⟨h1, h2⟩ := KT d hs m je
   rw [Lib.compactUpTo_succ]
   cases hk : Lib.keeps d m with
   | true =>
     simp only [if_true]
     refine ⟨List.pairwise_append.2 ⟨h1, by simp, fun a ha b hb => ?_⟩, fun x => ?_⟩
     · rw [List.mem_singleton.1 hb]
       obtain ⟨j, hj, rfl⟩ := (h2 a).1 ha
       have hne : d[m]! ≠ d[m - 1]! := fun e => by rw [Lib.keeps_neg je e] at hk; cases hk
       have h3 := hs (m - 1) m je je
       have h4 := hs j (m - 1) je je
       refine ae1 h4 ?_
       rcases aan (a := d[m - 1]!) (b := d[m]!) with h | h | h
       · exact h
       · exact absurd h.symm hne
       · exact absurd h (List.not_lt.2 h3)
     · rw [List.mem_append, h2, List.mem_singleton]
       constructor
       · rintro (⟨j, hj, e⟩ | e)
         · exact ⟨j, by omega, e⟩
         · exact ⟨m, by omega, e.symm⟩
       · rintro ⟨j, hj, e⟩
         by_cases hjm : j = m
         · subst hjm; exact Or.inr e.symm
         · exact Or.inl ⟨j, by omega, e⟩
   | false =>
     simp only [Bool.false_eq_true, if_false, List.append_nil]
     refine ⟨h1, fun x => ?_⟩
     have h0 : 0 < m := by
      rcases Nat.eq_zero_or_pos m with h | h
      · subst h; rw [Lib.keeps_lt_one d 0 je] at hk; cases hk
      · exact h
     have he : d[m]! = d[m - 1]! := by
      by_cases e : d[m]! = d[m - 1]!
      · exact e
      · rw [Lib.keeps_pos e] at hk; cases hk
     rw [h2]
     constructor
     · rintro ⟨j, hj, e⟩; exact ⟨j, by omega, e⟩
     · rintro ⟨j, hj, e⟩
       by_cases hjm : j = m
       · subst hjm; exact ⟨j - 1, by omega, by rw [← he]; exact e⟩
       · exact ⟨j, by omega, e⟩
theorem KU {l : List Bytes} (h : l.Pairwise fun a b => a ≤ b) : uh (Lib.compact l) ∧ ∀ x, x ∈ Lib.compact l ↔ x ∈ l := by
 have key := KT l.toArray (fun i j hij hj => by
  have hj' : j < l.length := by simpa using hj
  have hi' : i < l.length := by omega
  have e1 : l.toArray[i]! = l[i] := by simp [hi']
  have e2 : l.toArray[j]! = l[j] := by simp [hj']
  rw [e1, e2]
  rcases Nat.lt_or_eq_of_le hij with h1 | h1
  · exact List.pairwise_iff_getElem.1 h i j hi' hj' h1
  · subst h1; exact List.le_refl _) l.length (by simp)
 refine ⟨key.1, fun x => ?_⟩
 unfold Lib.compact
 rw [key.2]
 constructor
 · rintro ⟨j, hj, e⟩
   have : l.toArray[j]! = l[j] := by simp [hj]
   rw [this] at e
   rw [← e]
   exact List.getElem_mem _
 · intro hx
   obtain ⟨j, hj, e⟩ := List.getElem_of_mem hx
   exact ⟨j, hj, by rw [← e]; simp [hj]⟩
theorem Vz (l : List Bytes) : (l.mergeSort fun x y => decide (x ≤ y)).Pairwise fun a b => a ≤ b := by
 have := List.pairwise_mergeSort (le := fun x y : Bytes => decide (x ≤ y)) (fun a b c h1 h2 => by simp at *; exact List.le_trans h1 h2) (fun a b => by simp; exact List.le_total a b) l
 exact this.imp fun h => by simpa using h
theorem compact_put (l : List Bytes) : Lib.compact (l.mergeSort fun x y => decide (x ≤ y)) = l.foldl put [] := by
 obtain ⟨h1, h2⟩ := KU (Vz l)
 obtain ⟨h3, h4⟩ := foldPut_rising l (l := []) List.Pairwise.nil
 exact KQ h1 h3 fun x => by rw [h2, h4, List.mem_mergeSort]; simp
end Vd
end Go.Proofs.YtbjkkoacclfejaaGreat
namespace Go.Proofs.YtbjkkoacclfejaaGreat
open Go.RowKit
open Vd (RSet Vdt Vote Rec Quest Piece Ballot Said)
theorem yd (q : Quest) : ∀ (l : List Vote) (d : List Vd.Bytes), Vd.endsPut q l d = (jT q l).foldl Vd.put d
 | [], d => rfl
 | x :: l, d => by
   have ih := yd q l
   have h1 : Vd.endsPut q (x :: l) d = Vd.endsPut q l (if (Vd.endV q x.vd).2 then (Vd.endV q x.vd).1.data.foldl Vd.put d else d) := rfl
   have h2 : jT q (x :: l) = ql q x ++ jT q l := by simp [jT]
   rw [h1, h2, ih, List.foldl_append]
   unfold ql
   split <;> rfl
theorem Y3 (q : Quest) (l : List Vote) (h : ∀ x ∈ l, (Vd.endV q x.vd).2 = true → (Vd.endV q x.vd).1.data ≠ []) : Vd.endsPut q l [] = [] ↔ kG q l = false := by
 rw [yd]
 have hm := (Vd.foldPut_rising (jT q l) (l := []) List.Pairwise.nil).2
 constructor
 · intro he
   cases hs : kG q l with
   | false => rfl
   | true =>
     obtain ⟨x, hx, hx2⟩ := List.any_eq_true.1 hs
     obtain ⟨d, hd⟩ := List.exists_mem_of_ne_nil _ (h x hx hx2)
     have : d ∈ (jT q l).foldl Vd.put [] := (hm d).2 (Or.inr (List.mem_flatMap.2 ⟨x, hx, by unfold ql; rw [if_pos hx2]; exact hd⟩))
     rw [he] at this
     simp at this
 · intro hs
   have h0 : jT q l = [] := by
    refine List.flatMap_eq_nil_iff.2 fun x hx => ?_
    unfold ql
    rw [if_neg]
    intro hx2
    have : kG q l = true := List.any_eq_true.2 ⟨x, hx, hx2⟩
    rw [hs] at this
    cases this
   rw [h0]
   rfl
theorem Wz (q : Quest) (l : List Vote) (h : ∀ x ∈ l, (Vd.endV q x.vd).2 = true → (Vd.endV q x.vd).1.data ≠ []) : zX q l = Vd.union q l := by
 cases l with
 | nil => rfl
 | cons w r =>
   have he := Y3 q (w :: r) h
   unfold zX Vd.union
   dsimp only
   split
   · rfl
   · rw [Vd.compact_put, ← yd]
     by_cases h0 : Vd.endsPut q (w :: r) [] = []
     · rw [he.1 h0, Bool.and_false, if_neg (by simp), if_pos (by simp [h0])]
       rfl
     · have hs : kG q (w :: r) = true := by
        cases hs : kG q (w :: r) with
        | true => rfl
        | false => exact absurd (he.2 hs) h0
       rw [hs, Bool.and_true]
       cases ha : Vd.alikeV (w :: r) w.vd with
       | true => rw [if_neg (by simp), if_pos (by simp)]; rfl
       | false => rw [if_pos (by simp), if_neg (by simp [h0])]
end Go.Proofs.YtbjkkoacclfejaaGreat
namespace Go.Proofs.YtbjkkoacclfejaaGreat
open Go.RowKit
open Vd (RSet Vdt Vote Rec Quest Piece Ballot Said)
def aao (p : RSet → Prop) (v : Vdt) : Prop := (∀ s ∈ v.sets, p s) ∧ ∀ s ∈ v.soa, p s
theorem VA (q : Quest) (m : Vd.Msg) (p : RSet → Prop) (hp : ∀ s, p s → p (Vd.bare s)) (h1 : ∀ s ∈ Vd.group m.answers, p s) (h2 : ∀ s ∈ Vd.group m.auth, p s) : aao p (Vd.ofM q m).1 := by
 have hnone : aao p Vdt.none := ⟨by simp [Vdt.none], by simp [Vdt.none]⟩
 obtain ⟨f1, f2, _, _, _⟩ := QB q (Vd.group m.answers)
 unfold Vd.ofM
 split
 · exact hnone
 · revert f1 f2
   generalize Vd.follow q (Vd.group m.answers) = t
   obtain ⟨l, pos, last, e⟩ := t
   intro f1 f2
   dsimp only at f1 f2 ⊢
   have hall : ∀ s ∈ (l ++ last).map Vd.bare, p s := fun s hs => by
    obtain ⟨t, ht, rfl⟩ := List.mem_map.1 hs
    rcases List.mem_append.1 ht with ht | ht
    · exact hp t (h1 t (f1 t ht))
    · exact hp t (h1 t (f2 t ht))
   split
   · exact hnone
   split
   · exact hnone
   split
   · exact ⟨hall, by simp⟩
   have hf := KC (l := Vd.group m.auth) (n := pos) (c := q.cls)
   revert hf
   generalize Vd.findSoa (Vd.group m.auth) pos q.cls = r
   obtain ⟨s, is, e2⟩ := r
   intro hf
   dsimp only at hf ⊢
   split
   · exact hnone
   split
   · exact ⟨hall, by simp⟩
   · rename_i hi
     refine ⟨hall, fun t ht => ?_⟩
     rw [List.mem_singleton.1 ht]
     exact hp s (h2 s (hf (by simpa using hi)))
end Go.Proofs.YtbjkkoacclfejaaGreat
namespace Go.Proofs.YtbjkkoacclfejaaGreat
open Go.RowKit
open Vd (RSet Vdt Vote Rec Quest Piece Ballot Said)
variable {G : World} {L : ja}
def MsgSmall (m : Vd.Msg) : Prop := (m.answers.length ≤ 420 ∧ ∀ x ∈ m.answers, x.name.length ≤ 5000 ∧ x.data.length ≤ 5000) ∧ (m.auth.length ≤ 420 ∧ ∀ x ∈ m.auth, x.name.length ≤ 5000 ∧ x.data.length ≤ 5000)
end Go.Proofs.YtbjkkoacclfejaaGreat
namespace Go.Proofs.YtbjkkoacclfejaaGreat
open Go.RowKit
open Vd (RSet Vdt Vote Rec Quest Piece Ballot Said)
structure BalOk (p : Vote → Prop) (l : List Ballot) : Prop where
 nd : (l.map fun b => b.v.up).Nodup
 ok : ∀ b ∈ l, b.pass = false ∧ (0 ≤ b.v.up ∧ b.v.up < 9) ∧ p b.v
theorem aap (l : List Ballot) (u : Int) : Vd.hasB l u = true ↔ u ∈ l.map fun b => b.v.up := by
 unfold Vd.hasB
 rw [List.any_eq_true, List.mem_map]
 simp only [beq_iff_eq]
theorem BalOk.put {p : Vote → Prop} {l : List Ballot} (h : BalOk p l) {x : Vote} (hx : p x) : BalOk p (Vd.putB l ⟨x, false⟩).1 := by
 unfold Vd.putB
 split
 · exact h
 split
 · exact h
 · rename_i h1 h2
   refine ⟨?_, fun b hb => ?_⟩
   · rw [List.map_append]
     refine List.nodup_append.2 ⟨h.nd, by simp, fun a ha b hb => ?_⟩
     rw [List.map_singleton, List.mem_singleton] at hb
     intro e
     refine h2 ((aap _ _).2 ?_)
     dsimp only at hb ⊢
     rw [← hb, ← e]
     exact ha
   · rcases List.mem_append.1 hb with hb | hb
     · exact h.ok b hb
     · rw [List.mem_singleton.1 hb]
       dsimp only at h1 ⊢
       exact ⟨rfl, by omega, hx⟩
theorem BalOk.cast {p : Vote → Prop} {q : Quest} {l : List Ballot} (h : BalOk p l) {s : Said} (hs : p ⟨s.up, (Vd.ofM q s.m).1, s.time⟩) : BalOk p (Vd.castSaid q l s) := by
 unfold Vd.castSaid
 split
 · exact h.put hs
 · exact h
theorem BalOk.all {p : Vote → Prop} {q : Quest} : ∀ (l : List Said) {b : List Ballot}, BalOk p b → (∀ s ∈ l, p ⟨s.up, (Vd.ofM q s.m).1, s.time⟩) → BalOk p (l.foldl (Vd.castSaid q) b)
 | [], b, h, _ => h
 | s :: l, b, h, hl => BalOk.all l (h.cast (hl s (List.mem_cons_self ..))) fun t ht => hl t (List.mem_cons_of_mem _ ht)
theorem BalOk.votes {p : Vote → Prop} {l : List Ballot} (h : BalOk p l) : Vd.votesB l = l.map (·.v) := by
 unfold Vd.votesB
 rw [List.filter_eq_self.2 fun b hb => by rw [(h.ok b hb).1]; rfl]
def aaq (s : RSet) : Prop := s.name.length ≤ 255 ∧ s.data.length ≤ 420 ∧ s.data ≠ [] ∧ ∀ d ∈ s.data, d.length ≤ 5000
theorem MsgSmall.sets {m : Vd.Msg} (h : MsgSmall m) (q : Quest) : aao aaq (Vd.ofM q m).1 := by
 obtain ⟨⟨a1, a2⟩, b1, b2⟩ := h
 have ga := (uq (D := 5000) m.answers fun x hx => (a2 x hx).2).2
 have gb := (uq (D := 5000) m.auth fun x hx => (b2 x hx).2).2
 refine VA q m aaq (fun s hs => hs) (fun s hs => ?_) (fun s hs => ?_)
 · obtain ⟨h1, h2, h3, h4⟩ := ga s hs
   exact ⟨h1, by omega, h3, h4⟩
 · obtain ⟨h1, h2, h3, h4⟩ := gb s hs
   exact ⟨h1, by omega, h3, h4⟩
theorem MsgSmall.fits {m : Vd.Msg} (h : MsgSmall m) : abL m := by
 obtain ⟨⟨a1, a2⟩, b1, b2⟩ := h
 exact ⟨by omega, fun x hx => ⟨by have := (a2 x hx).1; omega, by have := (a2 x hx).2; omega⟩, by omega, fun x hx => ⟨by have := (b2 x hx).1; omega, by have := (b2 x hx).2; omega⟩⟩
def VoteSm (v : Vote) : Prop := aao aaq v.vd ∧ v.vd.sets.length ≤ 10 ∧ v.vd.soa.length ≤ 1
theorem JV {q : Quest} {v : Vdt} (h : (Vd.endV q v).2 = true) : (Vd.endV q v).1 ∈ v.sets ∧ (Vd.endV q v).1.kind = q.kind := by
 unfold Vd.endV at h ⊢
 cases hs : v.sets.getLast? with
 | none => rw [hs] at h; cases h
 | some s =>
   rw [hs] at h
   dsimp only at h ⊢
   by_cases hk : s.kind = q.kind
   · rw [if_pos hk]
     exact ⟨List.mem_of_getLast? hs, hk⟩
   · rw [if_neg hk] at h; cases h
theorem Uw {q : Quest} {v : Vdt} (h : (Vd.endV q v).2 = false) : (Vd.endV q v).1 = RSet.none := by
 unfold Vd.endV at h ⊢
 cases hs : v.sets.getLast? with
 | none => rfl
 | some s =>
   rw [hs] at h
   dsimp only at h ⊢
   by_cases hk : s.kind = q.kind
   · rw [if_pos hk] at h; cases h
   · rw [if_neg hk]
theorem VoteSm.ends {v : Vote} (h : VoteSm v) (q : Quest) : (Vd.endV q v.vd).1.data.length ≤ 420 ∧ (∀ d ∈ (Vd.endV q v.vd).1.data, d.length ≤ 5000) ∧ ((Vd.endV q v.vd).2 = true → (Vd.endV q v.vd).1.data ≠ []) := by
 cases he : (Vd.endV q v.vd).2 with
 | true =>
   obtain ⟨_, h2, h3, h4⟩ := h.1.1 _ (JV he).1
   exact ⟨h2, h4, fun _ => h3⟩
 | false =>
   rw [Uw he]
   exact ⟨by simp [RSet.none], by simp [RSet.none], fun h => by cases h⟩
end Go.Proofs.YtbjkkoacclfejaaGreat
namespace Go.Proofs.YtbjkkoacclfejaaGreat
open Go.RowKit
open Vd (RSet Vdt Vote Rec Quest Piece Ballot)
variable {G : World} {L : ja}
theorem Spec.drop {P : Program} {f : FuncId} {args : Array Value} {Φ Ψ : Value → ja → Prop} (h : Spec P G f args L Φ) (hi : ∀ v M, Φ v M → ∃ M', Ψ v M' ∧ ∀ p, cnt p M' ≤ cnt p M) : Spec P G f args L Ψ :=
 ⟨fun w hw => (h.out w hw).mono fun e w' ⟨v, M, e1, h1, h2⟩ => by
   obtain ⟨M', k1, k2⟩ := hi v M h1
   exact ⟨v, M', e1, k1, h2.cnt k2⟩⟩
theorem BoxOk.len {l : List Ballot} (h : BoxOk l) : l.length ≤ 9 := by
 have h1 : (l.map fun b => b.v.up).length ≤ 9 := uX 9 _ h.nd fun u hu => by
  obtain ⟨b, hb, rfl⟩ := List.mem_map.1 hu
  have := h.up b hb
  omega
 rw [List.length_map] at h1
 exact h1
structure BoxSm (l : List Ballot) : Prop where
 ok : BoxOk l
 sm : ∀ x ∈ Vd.votesB l, SmV x.vd
theorem BoxSm.nil : BoxSm [] := ⟨BoxOk.nil, by simp [Vd.votesB]⟩
theorem BoxSm.put {l : List Ballot} (h : BoxSm l) {x : Ballot} (hx : SmV x.v.vd) : BoxSm (Vd.putB l x).1 := by
 refine ⟨h.ok.put x, fun y hy => ?_⟩
 by_cases h0 : KI l x.v.up = 0
 · rw [(KJ h0).1, qy] at hy
   split at hy
   · exact h.sm y hy
   · rcases List.mem_append.1 hy with hy | hy
     · exact h.sm y hy
     · rw [List.mem_singleton.1 hy]; exact hx
 · rw [Uq h0] at hy
   exact h.sm y hy
theorem aar : SmV Vdt.none := ⟨⟨by decide, by simp [Vdt.none]⟩, ⟨by decide, by simp [Vdt.none]⟩⟩
def PBox (bb : Nat) (want : Int) (l : List Ballot) (X : ja) : Prop := BoxSm l ∧ ∃ M0 N, TBox N bb want l M0 ∧ Wr N ∧ X = M0 ++ N
def DBox (bb : Nat) (want : Int) (l : List Ballot) (X : ja) : Prop := BoxOk l ∧ ∃ M0 N, RBox N bb want l M0 ∧ X = M0 ++ N
theorem acL (want : Int) : Spec Tryz.prog G 41 #[.int .i64 want] L fun u M => (1 ≤ want ∧ want ≤ 9 ∧ ∃ bb X, u = .tuple #[.pointer (some ⟨bb, 0, none⟩), .int .i64 0] ∧ PBox bb want [] X ∧ M = X ++ L) ∨ ((want < 1 ∨ 9 < want) ∧ u = .tuple #[.pointer none, .int .i64 1] ∧ M = L) := by
 refine (acK want).mono fun u M h => ?_
 rcases h with ⟨h1, h2, bb, h3, h4⟩ | h
 · exact Or.inl ⟨h1, h2, bb, _, h3, ⟨BoxSm.nil, _, [], ⟨none, 0, [], ORow.nil _, rfl⟩, Wr.nil, rfl⟩, h4⟩
 · exact Or.inr h
theorem abQ {bb : Nat} {want : Int} {l : List Ballot} {X : ja} (h : PBox bb want l X) (hX : ∀ p ∈ X, p ∈ L) : Spec Tryz.prog G 186 #[.pointer (some ⟨bb, 0, none⟩)] L fun w M => w = .int .i64 (ub (Vd.votesB l)) ∧ M = L := by
 obtain ⟨hs, _, N, ⟨a, c, B, hB, rfl⟩, hN, rfl⟩ := h
 exact abO bb want l _ (hX _ (List.mem_append_left _ (List.mem_cons_self ..))) hs.ok
theorem acM {bb : Nat} {want : Int} {l : List Ballot} {X : ja} (h : PBox bb want l X) (hX : ∀ p ∈ X, p ∈ L) : Spec Tryz.prog G 189 #[.pointer (some ⟨bb, 0, none⟩)] L (aah L (YX want (Vd.votesB l))) := by
 obtain ⟨hs, _, N, ⟨a, c, B, hB, rfl⟩, hN, rfl⟩ := h
 exact acJ (K := N) bb want l a c (hX _ (List.mem_append_left _ (List.mem_cons_self ..))) ((hB.imp (r' := fun _ => voteR N) (L' := []) (fun cs x _ h => h)).sliceR j5 (by simp) (fun p hp => hX p (by simp [hp]))) (fun p hp => hX p (by simp [hp])) hs.ok hs.ok.len hs.sm
theorem WA {bb : Nat} {want : Int} {l : List Ballot} {X : ja} (h : PBox bb want l X) (hX : ∀ p ∈ X, p ∈ L) : Spec Tryz.prog G 190 #[.pointer (some ⟨bb, 0, none⟩)] L fun u M => ∃ a3 c3 B3, u = .slice a3 (if want < 1 then [] else kB want (Vd.votesB l)).length c3 ∧ ORow (yz .i64) 3 1 [] a3 c3 (if want < 1 then [] else kB want (Vd.votesB l)) B3 ∧ M = B3 ++ L := by
 obtain ⟨hs, _, N, ⟨a, c, B, hB, rfl⟩, hN, rfl⟩ := h
 exact Wx (K := N) bb want l a c (hX _ (List.mem_append_left _ (List.mem_cons_self ..))) ((hB.imp (r' := fun _ => voteR N) (L' := []) (fun cs x _ h => h)).sliceR j5 (by simp) (fun p hp => hX p (by simp [hp]))) hs.ok hs.ok.len
theorem zw {bb : Nat} {want : Int} {l : List Ballot} {X : ja} (h : PBox bb want l X) (hX : ∀ p ∈ X, p ∈ L) : Spec Tryz.prog G 210 #[.pointer (some ⟨bb, 0, none⟩)] L (KL L (Vd.votesB l)) := by
 obtain ⟨hs, _, N, ⟨a, c, B, hB, rfl⟩, hN, rfl⟩ := h
 have := j6 l
 have := hs.ok.len
 exact Z9 bb want (jo l) (Vd.votesB l) a c (hX _ (List.mem_append_left _ (List.mem_cons_self ..))) ((hB.mono kA (fun p hp => hX p (by simp [hp]))).sliceR kA (fun p h => h) (fun p hp => hX p (by simp [hp]))) je hs.sm
theorem abR {bb : Nat} {want : Int} {l : List Ballot} {X : ja} {cs : List Value} {x : Vote} (h : PBox bb want l X) (hx : voteR L cs x) (hsx : SmV x.vd) : Spec Tryz.prog G 52 #[.pointer (some ⟨bb, 0, none⟩), .agg cs.toArray] (X ++ L) fun w M => w = .int .i64 (Vd.putB l ⟨x, false⟩).2 ∧ ∃ X', PBox bb want (Vd.putB l ⟨x, false⟩).1 X' ∧ M = X' ++ L := by
 obtain ⟨hs, M0, N, hb, hN, rfl⟩ := h
 have h1 := abJ (G := G) (L := N ++ L) (K := N) bb want l M0 cs x hb hs.ok (by simp +contextual) (kA _ _ _ _ (by simp +contextual) hx) hsx hs.ok.len
 rw [← List.append_assoc] at h1
 refine h1.mono fun w M ⟨e, M', N', hb', hN', hM⟩ => ⟨e, M' ++ (N' ++ N), ⟨hs.put hsx, M', N' ++ N, hb', hN'.append hN, rfl⟩, ?_⟩
 rw [hM]
 simp only [List.append_assoc]
theorem abS {bb : Nat} {want : Int} {l : List Ballot} {X : ja} (u : Int) (h : PBox bb want l X) : Spec Tryz.prog G 49 #[.pointer (some ⟨bb, 0, none⟩), .int .i64 u] (X ++ L) fun w M => w = .int .i64 (Vd.putB l ⟨⟨u, Vdt.none, 0⟩, true⟩).2 ∧ ∃ X', PBox bb want (Vd.putB l ⟨⟨u, Vdt.none, 0⟩, true⟩).1 X' ∧ M = X' ++ L := by
 obtain ⟨hs, M0, N, hb, hN, rfl⟩ := h
 have h1 := abH (G := G) (L := N ++ L) (K := N) bb want u l M0 hb hs.ok
 rw [← List.append_assoc] at h1
 refine h1.mono fun w M ⟨e, M', hb', hM⟩ => ⟨e, M' ++ N, ⟨hs.put aar, M', N, hb', hN, rfl⟩, ?_⟩
 rw [hM]
 simp only [List.append_assoc]
theorem abT {bb : Nat} {want : Int} {l : List Ballot} {X : ja} (h : PBox bb want l X) : Spec Tryz.prog G 51 #[.pointer (some ⟨bb, 0, none⟩)] (X ++ L) fun u M => ∃ b2 X2, u = .pointer (some ⟨b2, 0, none⟩) ∧ PBox b2 want l X2 ∧ M = X2 ++ (X ++ L) := by
 obtain ⟨hs, M0, N, hb, hN, rfl⟩ := h
 have h1 := abP (G := G) (L := N ++ L) (K := N) bb want l M0 hb (by simp +contextual) hs.ok.len hs.sm
 rw [← List.append_assoc] at h1
 refine h1.mono fun w M ⟨b2, M2, N2, e, hb2, hN2, hM⟩ => ⟨b2, M2 ++ N2, e, ⟨hs, M2, N2, hb2, hN2, rfl⟩, ?_⟩
 rw [hM]
 simp only [List.append_assoc]
theorem DBox.row {bb : Nat} {want : Int} {l : List Ballot} {X : ja} (h : DBox bb want l X) : ∃ a c B N, ORow ballotR 225 6 N a c l B ∧ X = (bb, Obj.cells #[.int .i64 want, .slice a l.length c] 200 (0, 0)) :: (B ++ N) := by
 obtain ⟨_, _, N, ⟨a, c, B, hB, rfl⟩, rfl⟩ := h
 exact ⟨a, c, B, N, hB, rfl⟩
end Go.Proofs.YtbjkkoacclfejaaGreat
namespace Go.Proofs.YtbjkkoacclfejaaGreat
open Go.RowKit
open Vd (RSet Vdt Vote Rec Quest Piece Ballot)
section
variable {G : World} {P : Program} {n : Nat} {ρ : jD} {L : ja} {ty : TypeId}
theorem qL {f : FuncId} {recv : Operand} {name : String} {xs : List Operand} {ats : Array TypeId} {vs : List Value} {t : TypeId} {rv : Value} {Φ : Value → ja → Prop} (hb : qY P f = true) (hx : ev ρ recv = some (.iface t rv)) (ha : kY ρ xs = some vs)
 (hm : ∀ w, (method (P.types.size + Made.depth) t rv name).run P w = .ok (f, rv) w) (h : Spec P G f (rv :: vs).toArray L Φ) : OpT P G ρ L (.call ⟨.invoke recv name, xs.toArray, ats⟩) ty Φ :=
 ⟨fun r hr w hw o ho _ => by
   have hq := uA hr xs vs ha
   have hrf := hr _ _ hx
   have : (execOp r o).run P w = (callFunc f (rv :: vs).toArray).run P w := by
    simp only [execOp, ho, resolve, hrf]
    show (invoke (.fn (.method name) #[]) (#[Value.iface t rv] ++ (xs.toArray.map r))).run P w = _
    rw [List.map_toArray, hq]
    simp [invoke, callMethod, hm]
   rw [this, uz hb]
   exact (h.out w hw).mono fun e w' ⟨v, L', h1, h2, h3⟩ => ⟨v, h1, L', h2, h3⟩⟩
end
end Go.Proofs.YtbjkkoacclfejaaGreat
namespace Go.Proofs.YtbjkkoacclfejaaGreat.Hg
structure En where
 up : Int
 asked : Int
 last : Int
 op : Bool
deriving DecidableEq
structure Pl where
 list : List En
 asked : Nat
 want : Int
 tries : Int
 every : Int
 wait : Int
 start : Int
 now : Int
 reached : Int
 made : Bool
 begins : Bool
deriving DecidableEq
def top : Int := 1099511627776
def Yf : List Int → List Int → Bool
 | _, [] => false
 | seen, u :: r => decide (u < 0) || decide (9 ≤ u) || seen.contains u || Yf (u :: seen) r
def ae2 (l : List Int) (want every wait tries now : Int) : Bool :=
 decide (l.length ≤ 9) && !Yf [] l && decide (1 ≤ want ∧ want ≤ 9 ∧ 1 ≤ every ∧ every ≤ 1000 ∧ 1 ≤ wait ∧ wait ≤ 1000 ∧ 1 ≤ tries ∧ tries ≤ 4 ∧ 0 ≤ now ∧ now ≤ top)
def fresh (u : Int) : En := ⟨u, 0, 0, false⟩
def mk (l : List Int) (want every wait tries now : Int) : Pl := ⟨l.map fresh, 0, want, tries, every, wait, now, now, 0, true, false⟩
def advance (p : Pl) (n : Int) : Pl := { p with now := max p.now (min n top) }
def askAt (now : Int) (x : En) : En := ⟨x.up, 1, now, true⟩
def next (p : Pl) : Pl := { p with asked := p.asked + 1, list := p.list.modify p.asked (askAt p.now) }
def upAt (p : Pl) (i : Nat) : Int := ((p.list[i]?).map (·.up)).getD 0
def nexts : Nat → Pl → Pl × List Int
 | 0, p => (p, [])
 | k + 1, p => let r := nexts k (next p); (r.1, upAt p p.asked :: r.2)
def begin' (p : Pl) : Pl × List Int :=
 if !p.made || p.begins then (p, []) else nexts (min p.want.toNat (p.list.length - p.asked)) { p with begins := true }
def late (now wait : Int) (x : En) : Bool := x.op && decide (wait ≤ now - x.last)
def tickE (now wait tries : Int) (x : En) : En :=
 if late now wait x then (if tries ≤ x.asked then { x with op := false } else { x with asked := x.asked + 1, last := now }) else x
def goneE (now wait tries : Int) (x : En) : List Int := if late now wait x && decide (tries ≤ x.asked) then [x.up] else []
def sendE (now wait tries : Int) (x : En) : List Int := if late now wait x && !decide (tries ≤ x.asked) then [x.up] else []
def examine (p : Pl) : Pl := { p with list := p.list.map (tickE p.now p.wait p.tries) }
def hedged (p : Pl) : Pl × List Int :=
 let k := (p.now - p.start) / p.every
 if p.reached < k then
  let q := { p with reached := k }
  if q.asked < q.list.length then (next q, [upAt q q.asked]) else (q, [])
 else (p, [])
def tick (p : Pl) (n : Int) : Pl × List Int × List Int :=
 if !p.begins then (p, [], []) else
 let q := advance p n
 let r := hedged (examine q)
 (r.1, q.list.flatMap (goneE q.now q.wait q.tries), q.list.flatMap (sendE q.now q.wait q.tries) ++ r.2)
def more (p : Pl) (n : Int) : Pl × Int × Bool :=
 if !p.begins then (p, 0, false) else
 let q := advance p n
 if q.list.length ≤ q.asked then (q, 0, false) else (next q, upAt q q.asked, true)
def isIt (u : Int) (x : En) : Bool := x.up == u && x.op
def closeL (u : Int) : List En → List En
 | [] => []
 | x :: r => if isIt u x then { x with op := false } :: r else x :: closeL u r
def close (p : Pl) (u : Int) : Pl × Bool := ({ p with list := closeL u p.list }, p.list.any (isIt u))
def opens (p : Pl) : Int := ((p.list.filter (·.op)).length : Nat)
def left (p : Pl) : Int := (p.list.length : Int) - (p.asked : Nat)
def afH (p : Pl) (u : Int) : Int := ((p.list.find? fun x => x.up == u).map (·.asked)).getD 0
def exA : Pl := (begin' (mk [4, 2, 7] 2 10 15 2 100)).1
theorem ex1 : ae2 [4, 2, 7] 2 10 15 2 100 = true ∧ (begin' (mk [4, 2, 7] 2 10 15 2 100)).2 = [4, 2] := by decide
def exB : Pl := (tick exA 110).1
def exC : Pl := (tick exB 115).1
def exD : Pl := (close exC 2).1
def exE : Pl := (tick exD 125).1
def exF : Pl := (tick exE 130).1
def exG : Pl := (tick exF 140).1
theorem ex2 : (tick exA 110).2 = ([], [7]) ∧ (tick exB 115).2 = ([], [4, 2]) ∧ (close exC 2).2 = true ∧ (tick exD 125).2 = ([], [7]) ∧ (tick exE 130).2 = ([4], []) ∧ (tick exF 140).2 = ([7], []) ∧ opens exG = 0 := by decide
end Go.Proofs.YtbjkkoacclfejaaGreat.Hg
namespace Go.Proofs.YtbjkkoacclfejaaGreat
open Go.RowKit
open Hg (En Pl)
def j3 (x : En) : List Value := [.int .i64 x.up, .int .i64 x.asked, .int .i64 x.last, .bool x.op]
def j7 (l : List En) : List Value := l.flatMap j3
theorem kH (x : En) (l : List En) : j7 (x :: l) = j3 x ++ j7 l := rfl
theorem qI (l : List En) : (j7 l).length = l.length * 4 := by
 induction l with
 | nil => rfl
 | cons x r ih => rw [kH, List.length_append, ih]; simp [j3]; omega
theorem qm : ∀ (l : List En) (i j : Nat) (x : En), l[i]? = some x → j < 4 → (j7 l)[i * 4 + j]? = (j3 x)[j]?
 | [], i, j, x, h, _ => by simp at h
 | y :: r, 0, j, x, h, hj => by
   simp at h
   subst h
   rw [kH, List.getElem?_append_left (by simp [j3]; omega)]
   simp
 | y :: r, i + 1, j, x, h, hj => by
   rw [kH, List.getElem?_append_right (by simp [j3]; omega), ← qm r i j x (by simpa using h) hj]
   congr 1
   simp [j3]
   omega
theorem QH (now : Int) : ∀ (l : List En) (i : Nat) (x : En), l[i]? = some x → (((j7 l).set (i * 4 + 1) (.int .i64 1)).set (i * 4 + 2) (.int .i64 now)).set (i * 4 + 3) (.bool true) = j7 (l.modify i (Hg.askAt now))
 | [], i, x, h => by simp at h
 | y :: r, 0, x, h => by simp [kH, j3, Hg.askAt]
 | y :: r, i + 1, x, h => by
   rw [List.modify_succ_cons, kH, kH, ← QH now r i x (by simpa using h)]
   rw [show (i + 1) * 4 + 1 = (i * 4 + 1) + 4 by omega, show (i + 1) * 4 + 2 = (i * 4 + 2) + 4 by omega, show (i + 1) * 4 + 3 = (i * 4 + 3) + 4 by omega]
   simp [j3]
def jg (p : Pl) (v : Value) : Array Value := #[v, .int .i64 (p.asked : Nat), .int .i64 p.want, .int .i64 p.tries, .int .i64 p.every, .int .i64 p.wait, .int .i64 p.start, .int .i64 p.now, .int .i64 p.reached, .bool p.made, .bool p.begins]
theorem take_set (cur : Array Value) (k m : Nat) (v : Value) : (cur.setIfInBounds k v).toList.take m = (cur.toList.take m).set k v := by
 rw [Array.toList_setIfInBounds, List.take_set]
variable {G : World} {L : ja}
theorem QI (bp : Nat) (p : Pl) (v : Value) (now : Int) : Spec Tryz.prog G 71 #[.pointer (some ⟨bp, 0, none⟩), .int .i64 now] ((bp, .cells (jg p v) 158 (0, 0)) :: L) fun u M => M = (bp, .cells (jg (Hg.advance p now) v) 158 (0, 0)) :: L := by
 unfold jg Hg.advance Hg.top
 refine jl (n := 14) Tryz.func71 rfl rfl rfl ?_
 refine goD ?_
 refine yX rfl ?_
 rfl
theorem WB (bp : Nat) (p : Pl) (v : Value) (B : ja) (hR : Row 160 4 v p.list.length (j7 p.list) B) (ha : p.asked < p.list.length) (hl : p.list.length ≤ 9) :
 Spec Tryz.prog G 69 #[.pointer (some ⟨bp, 0, none⟩)] ((bp, .cells (jg p v) 158 (0, 0)) :: (B ++ L)) fun u M => u = .int .i64 (Hg.upAt p p.asked) ∧ ∃ B', Row 160 4 v (Hg.next p).list.length (j7 (Hg.next p).list) B' ∧ M = (bp, .cells (jg (Hg.next p) v) 158 (0, 0)) :: (B' ++ L) := by
 rcases hR.is with ⟨_, h, _⟩ | ⟨be, cap, cur, rfl, rfl, h3, h4, h5, h6⟩
 · omega
 obtain ⟨x, hx⟩ : ∃ x, p.list[p.asked]? = some x := ⟨_, List.getElem?_eq_getElem ha⟩
 have hat : ∀ j u, j < 4 → (j3 x)[j]? = some u → cur[0 + p.asked * 4 + j]? = some u := fun j u hj hu => by
  have := qm p.list p.asked j x hx hj
  rw [← h6, List.getElem?_take_of_lt je, hu] at this
  rw [Nat.zero_add]
  simpa using this
 have n0 : cur[0 + p.asked * 4 + 0]? = some (.int .i64 x.up) := hat 0 _ je rfl
 have n1 : cur[0 + p.asked * 4 + 1]? = some (.int .i64 x.asked) := hat 1 _ je rfl
 have n2 : cur[0 + p.asked * 4 + 2]? = some (.int .i64 x.last) := hat 2 _ je rfl
 have n3 : cur[0 + p.asked * 4 + 3]? = some (.bool x.op) := hat 3 _ je rfl
 have m2 : (cur.setIfInBounds (0 + p.asked * 4 + 1) (.int .i64 1))[0 + p.asked * 4 + 2]? = some (.int .i64 x.last) := by rw [Array.getElem?_setIfInBounds_ne je]; exact n2
 have m3 : ((cur.setIfInBounds (0 + p.asked * 4 + 1) (.int .i64 1)).setIfInBounds (0 + p.asked * 4 + 2) (.int .i64 p.now))[0 + p.asked * 4 + 3]? = some (.bool x.op) := by rw [Array.getElem?_setIfInBounds_ne je, Array.getElem?_setIfInBounds_ne je]; exact n3
 have m0 : (((cur.setIfInBounds (0 + p.asked * 4 + 1) (.int .i64 1)).setIfInBounds (0 + p.asked * 4 + 2) (.int .i64 p.now)).setIfInBounds (0 + p.asked * 4 + 3) (.bool true))[0 + p.asked * 4 + 0]? = some (.int .i64 x.up) := by rw [Array.getElem?_setIfInBounds_ne je, Array.getElem?_setIfInBounds_ne je, Array.getElem?_setIfInBounds_ne je]; exact n0
 unfold jg
 refine jl (n := 37) Tryz.func69 rfl rfl rfl ?_
 have hK : ∀ q ∈ [(bp, Obj.cells #[.slice (some ⟨be, 0, none⟩) p.list.length cap, .int .i64 (p.asked : Nat), .int .i64 p.want, .int .i64 p.tries, .int .i64 p.every, .int .i64 p.wait, .int .i64 p.start, .int .i64 p.now, .int .i64 p.reached, .bool p.made, .bool p.begins] 158 (0, 0))], q ∈ (bp, Obj.cells #[.slice (some ⟨be, 0, none⟩) p.list.length cap, .int .i64 (p.asked : Nat), .int .i64 p.want, .int .i64 p.tries, .int .i64 p.every, .int .i64 p.wait, .int .i64 p.start, .int .i64 p.now, .int .i64 p.reached, .bool p.made, .bool p.begins] 158 (0, 0)) :: ([(be, Obj.cells cur 160 (0, 0))] ++ L) := fun q hq => by
  rw [List.mem_singleton.1 hq]; exact List.mem_cons_self ..
 refine goD ?_
 refine jw jc ([(bp, Obj.cells #[.slice (some ⟨be, 0, none⟩) p.list.length cap, .int .i64 (p.asked : Nat), .int .i64 p.want, .int .i64 p.tries, .int .i64 p.every, .int .i64 p.wait, .int .i64 p.start, .int .i64 p.now, .int .i64 p.reached, .bool p.made, .bool p.begins] 158 (0, 0))]) [] ?_
 refine tkQ 0 ?_
 refine tkQ 1 ?_
 refine tkQ 2 ?_
 refine tkQ 3 ?_
 refine tkQ 4 ?_
 refine tkQ 5 ?_
 refine tkQ 6 ?_
 refine tkQ 7 ?_
 refine tkQ 8 ?_
 refine tkQ 9 ?_
 refine tdQ ?_
 refine goD ?_
 refine jf 2 _ rfl rfl ?_
 refine ⟨by simp [Hg.upAt, hx], [(be, Obj.cells (((cur.setIfInBounds (0 + p.asked * 4 + 1) (.int .i64 1)).setIfInBounds (0 + p.asked * 4 + 2) (.int .i64 p.now)).setIfInBounds (0 + p.asked * 4 + 3) (.bool true)) 160 (0, 0))], ⟨qI _, Or.inr ⟨be, cap, _, by simp [Hg.next], rfl, by simpa [Hg.next] using h3, h4, by simpa using h5, ?_⟩⟩, rfl⟩
 simp only [Hg.next, List.length_modify]
 rw [take_set, take_set, take_set, h6, Nat.zero_add]
 exact QH p.now p.list p.asked x hx
end Go.Proofs.YtbjkkoacclfejaaGreat
namespace Go.Proofs.YtbjkkoacclfejaaGreat
open Go.RowKit
open Hg (En Pl)
variable {G : World} {L : ja}
theorem acN (bp : Nat) (p : Pl) (a : Option Addr) (c : Nat) (B : ja) (now : Int) (hR : Row 160 4 (.slice a p.list.length c) p.list.length (j7 p.list) B) (hl : p.list.length ≤ 9) :
 Spec Tryz.prog G 70 #[.pointer (some ⟨bp, 0, none⟩), .int .i64 now] ((bp, .cells (jg p (.slice a p.list.length c)) 158 (0, 0)) :: (B ++ L)) fun u M => u = .tuple #[.int .i64 (Hg.more p now).2.1, .bool (Hg.more p now).2.2] ∧
  ∃ B', Row 160 4 (.slice a p.list.length c) (Hg.more p now).1.list.length (j7 (Hg.more p now).1.list) B' ∧ M = (bp, .cells (jg (Hg.more p now).1 (.slice a p.list.length c)) 158 (0, 0)) :: (B' ++ L) := by
 have pc0 : (jg (p) (.slice a p.list.length c))[0 + 0]? = some (.slice a p.list.length c) := rfl
 have pc1 : (jg (p) (.slice a p.list.length c))[0 + 1]? = some (.int .i64 ((p).asked : Nat)) := rfl
 have pc2 : (jg (p) (.slice a p.list.length c))[0 + 2]? = some (.int .i64 (p).want) := rfl
 have pc3 : (jg (p) (.slice a p.list.length c))[0 + 3]? = some (.int .i64 (p).tries) := rfl
 have pc4 : (jg (p) (.slice a p.list.length c))[0 + 4]? = some (.int .i64 (p).every) := rfl
 have pc5 : (jg (p) (.slice a p.list.length c))[0 + 5]? = some (.int .i64 (p).wait) := rfl
 have pc6 : (jg (p) (.slice a p.list.length c))[0 + 6]? = some (.int .i64 (p).start) := rfl
 have pc7 : (jg (p) (.slice a p.list.length c))[0 + 7]? = some (.int .i64 (p).now) := rfl
 have pc8 : (jg (p) (.slice a p.list.length c))[0 + 8]? = some (.int .i64 (p).reached) := rfl
 have pc9 : (jg (p) (.slice a p.list.length c))[0 + 9]? = some (.bool (p).made) := rfl
 have pc10 : (jg (p) (.slice a p.list.length c))[0 + 10]? = some (.bool (p).begins) := rfl
 have g1 : Option.isNone (some (⟨bp, 0, none⟩ : Addr)) = false := rfl
 refine jl (n := 30) Tryz.func70 rfl rfl rfl ?_
 cases hb : p.begins with
 | false =>
   have g2 : (!p.begins) = true := by rw [hb]; rfl
   have hm : Hg.more p now = (p, 0, false) := by unfold Hg.more; rw [if_pos g2]
   rw [hm]
   refine goD ?_
   refine jN 4 5 _ _ rfl rfl rfl ?_
   exact ⟨rfl, B, hR, rfl⟩
 | true =>
 have g2 : (!p.begins) = false := by rw [hb]; rfl
 refine goD ?_
 refine jv (jb jd rfl (QI bp p _ now)) rfl ?_
 rintro u0 M0 hM0
 rw [hM0]
 clear hM0 M0
 obtain ⟨q, hq⟩ : ∃ q, q = Hg.advance p now := ⟨_, rfl⟩
 have hql : q.list = p.list := by rw [hq]; rfl
 rw [← hql] at hR hl
 rw [← hq, ← hql]
 have qc0 : (jg (q) (.slice a q.list.length c))[0 + 0]? = some (.slice a q.list.length c) := rfl
 have qc1 : (jg (q) (.slice a q.list.length c))[0 + 1]? = some (.int .i64 ((q).asked : Nat)) := rfl
 have qc2 : (jg (q) (.slice a q.list.length c))[0 + 2]? = some (.int .i64 (q).want) := rfl
 have qc3 : (jg (q) (.slice a q.list.length c))[0 + 3]? = some (.int .i64 (q).tries) := rfl
 have qc4 : (jg (q) (.slice a q.list.length c))[0 + 4]? = some (.int .i64 (q).every) := rfl
 have qc5 : (jg (q) (.slice a q.list.length c))[0 + 5]? = some (.int .i64 (q).wait) := rfl
 have qc6 : (jg (q) (.slice a q.list.length c))[0 + 6]? = some (.int .i64 (q).start) := rfl
 have qc7 : (jg (q) (.slice a q.list.length c))[0 + 7]? = some (.int .i64 (q).now) := rfl
 have qc8 : (jg (q) (.slice a q.list.length c))[0 + 8]? = some (.int .i64 (q).reached) := rfl
 have qc9 : (jg (q) (.slice a q.list.length c))[0 + 9]? = some (.bool (q).made) := rfl
 have qc10 : (jg (q) (.slice a q.list.length c))[0 + 10]? = some (.bool (q).begins) := rfl
 have hK : ∀ x ∈ [(bp, Obj.cells (jg q (.slice a q.list.length c)) 158 (0, 0))], x ∈ (bp, Obj.cells (jg q (.slice a q.list.length c)) 158 (0, 0)) :: (B ++ L) := fun x hx => by
  rw [List.mem_singleton.1 hx]; exact List.mem_cons_self ..
 have hm : Hg.more p now = if q.list.length ≤ q.asked then (q, 0, false) else (Hg.next q, Hg.upAt q q.asked, true) := by unfold Hg.more; rw [if_neg (by rw [g2]; simp), hq]
 by_cases hlen : q.list.length ≤ q.asked
 · have g3 : decide (((q.list.length : Nat) : Int) ≤ ((q.asked : Nat) : Int)) = true := decide_eq_true je
   rw [hm, if_pos hlen]
   refine goD ?_
   refine jw jc ([(bp, Obj.cells (jg q (.slice a q.list.length c)) 158 (0, 0))]) [] ?_
   refine tkQ 0 ?_
   refine tkQ 1 ?_
   refine tkQ 2 ?_
   refine tkQ 3 ?_
   refine tkQ 4 ?_
   refine tkQ 5 ?_
   refine tkQ 6 ?_
   refine tkQ 7 ?_
   refine tkQ 8 ?_
   refine tkQ 9 ?_
   refine tdQ ?_
   refine goD ?_
   refine jN 4 5 _ _ rfl rfl rfl ?_
   exact ⟨rfl, B, hR, rfl⟩
 · have g3 : decide (((q.list.length : Nat) : Int) ≤ ((q.asked : Nat) : Int)) = false := decide_eq_false je
   rw [hm, if_neg hlen]
   refine goD ?_
   refine jw jc ([(bp, Obj.cells (jg q (.slice a q.list.length c)) 158 (0, 0))]) [] ?_
   refine tkQ 0 ?_
   refine tkQ 1 ?_
   refine tkQ 2 ?_
   refine tkQ 3 ?_
   refine tkQ 4 ?_
   refine tkQ 5 ?_
   refine tkQ 6 ?_
   refine tkQ 7 ?_
   refine tkQ 8 ?_
   refine tkQ 9 ?_
   refine tdQ ?_
   refine goD ?_
   refine jv (jb jd rfl (WB bp q _ B hR je hl)) rfl ?_
   rintro _ M1 ⟨rfl, B1, hR1, hM1⟩
   rw [hM1]
   clear hM1 M1
   refine goD ?_
   refine jN 4 5 _ _ rfl rfl rfl ?_
   exact ⟨rfl, B1, hR1, rfl⟩
end Go.Proofs.YtbjkkoacclfejaaGreat
namespace Go.Proofs.YtbjkkoacclfejaaGreat
open Go.RowKit
open Hg (En Pl)
variable {G : World} {L : ja}
def qq (l : List Int) : List Value := l.map fun x => .int .i64 x
theorem KV : ∀ (k : Nat) (p : Pl), Hg.nexts (k + 1) p = (Hg.next (Hg.nexts k p).1, (Hg.nexts k p).2 ++ [Hg.upAt (Hg.nexts k p).1 (Hg.nexts k p).1.asked])
 | 0, p => rfl
 | k + 1, p => by
   have ih := KV k (Hg.next p)
   show ((Hg.nexts (k + 1) (Hg.next p)).1, _ :: (Hg.nexts (k + 1) (Hg.next p)).2) = _
   rw [ih]
   rfl
theorem qz : ∀ (k : Nat) (p : Pl), (Hg.nexts k p).1.asked = p.asked + k ∧ (Hg.nexts k p).1.list.length = p.list.length ∧ (Hg.nexts k p).1.want = p.want ∧ (Hg.nexts k p).2.length = k
 | 0, p => ⟨rfl, rfl, rfl, rfl⟩
 | k + 1, p => by
   obtain ⟨h1, h2, h3, h4⟩ := qz k (Hg.next p)
   refine ⟨by show (Hg.nexts k (Hg.next p)).1.asked = _; rw [h1]; show p.asked + 1 + k = _; omega, by show (Hg.nexts k (Hg.next p)).1.list.length = _; rw [h2]; simp [Hg.next], h3, by show (_ :: (Hg.nexts k (Hg.next p)).2).length = _; simp [h4]⟩
theorem perm_out {A B C : ja} {p : Nat × Obj} : (p :: (A ++ (B ++ C))).Perm (B ++ (p :: (A ++ C))) := by
 have := List.perm_append_comm_assoc (p :: A) B C
 simpa using this
theorem abU (bp : Nat) (p : Pl) (a : Option Addr) (c : Nat) (B : ja) (hR : Row 160 4 (.slice a p.list.length c) p.list.length (j7 p.list) B) (hl : p.list.length ≤ 9) (hw : 1 ≤ p.want ∧ p.want ≤ 9) (hm : p.made = true) (hg : p.begins = false) (hz : p.asked = 0) :
 Spec Tryz.prog G 42 #[.pointer (some ⟨bp, 0, none⟩)] ((bp, .cells (jg p (.slice a p.list.length c)) 158 (0, 0)) :: (B ++ L)) fun u M =>
  ∃ B1 B', Row 3 1 u (Hg.begin' p).2.length (qq (Hg.begin' p).2) B1 ∧ Row 160 4 (.slice a p.list.length c) (Hg.begin' p).1.list.length (j7 (Hg.begin' p).1.list) B' ∧ M = (bp, .cells (jg (Hg.begin' p).1 (.slice a p.list.length c)) 158 (0, 0)) :: (B' ++ (B1 ++ L)) := by
 have pc0 : (jg (p) (.slice a p.list.length c))[0 + 0]? = some (.slice a p.list.length c) := rfl
 have pc1 : (jg (p) (.slice a p.list.length c))[0 + 1]? = some (.int .i64 ((p).asked : Nat)) := rfl
 have pc2 : (jg (p) (.slice a p.list.length c))[0 + 2]? = some (.int .i64 (p).want) := rfl
 have pc3 : (jg (p) (.slice a p.list.length c))[0 + 3]? = some (.int .i64 (p).tries) := rfl
 have pc4 : (jg (p) (.slice a p.list.length c))[0 + 4]? = some (.int .i64 (p).every) := rfl
 have pc5 : (jg (p) (.slice a p.list.length c))[0 + 5]? = some (.int .i64 (p).wait) := rfl
 have pc6 : (jg (p) (.slice a p.list.length c))[0 + 6]? = some (.int .i64 (p).start) := rfl
 have pc7 : (jg (p) (.slice a p.list.length c))[0 + 7]? = some (.int .i64 (p).now) := rfl
 have pc8 : (jg (p) (.slice a p.list.length c))[0 + 8]? = some (.int .i64 (p).reached) := rfl
 have pc9 : (jg (p) (.slice a p.list.length c))[0 + 9]? = some (.bool (p).made) := rfl
 have pc10 : (jg (p) (.slice a p.list.length c))[0 + 10]? = some (.bool (p).begins) := rfl
 have g1 : Option.isNone (some (⟨bp, 0, none⟩ : Addr)) = false := rfl
 have g2 : (!p.made) = false := by rw [hm]; rfl
 refine jl (n := 47) Tryz.func42 rfl rfl rfl ?_
 refine goD ?_
 obtain ⟨p0, hp0⟩ : ∃ p0 : Pl, p0 = { p with begins := true } := ⟨_, rfl⟩
 obtain ⟨N, hN⟩ : ∃ N, N = min p.want.toNat (p.list.length - p.asked) := ⟨_, rfl⟩
 have hbeg : Hg.begin' p = Hg.nexts N p0 := by unfold Hg.begin'; rw [if_neg (by rw [hm, hg]; simp), hp0, hN]
 rw [hbeg]
 have hp0l : p0.list = p.list := by rw [hp0]
 have hp0w : p0.want = p.want := by rw [hp0]
 have hp0a : p0.asked = 0 := by rw [hp0]; exact hz
 refine jA (σ := Nat × Value × ja × ja) (fun x => x.1 ≤ N ∧ Row 3 1 x.2.1 x.1 (qq (Hg.nexts x.1 p0).2) x.2.2.1 ∧ Row 160 4 (.slice a p.list.length c) p.list.length (j7 (Hg.nexts x.1 p0).1.list) x.2.2.2) (fun x => [(0, .pointer (some ⟨bp, 0, none⟩)), (3, x.2.1)]) (fun x => (bp, .cells (jg (Hg.nexts x.1 p0).1 (.slice a p.list.length c)) 158 (0, 0)) :: (x.2.2.2 ++ (x.2.2.1 ++ L))) (fun x => N - x.1) (0, .slice none 0 0, [], B) ⟨Nat.zero_le _, Row.nil _ _, ?_⟩ ?_ ?_ ?_
 · show Row _ 4 _ _ (j7 p0.list) B
   rw [hp0l]; exact hR
 exact ju
 · intro w h
   rw [hp0]
   exact h
 rintro ⟨k, v3, B1, B2⟩ ⟨hk, hR1, hR2⟩
 dsimp only at hk hR1 hR2 ⊢
 obtain ⟨q1, q2, q3, q4⟩ := qz k p0
 obtain ⟨q, hq⟩ : ∃ q, q = (Hg.nexts k p0).1 := ⟨_, rfl⟩
 obtain ⟨a3, c3, rfl⟩ := hR1.slice
 have hS := KV k p0
 rw [← hq] at q1 q2 q3 hR2 hS ⊢
 rw [hp0a] at q1
 rw [hp0l] at q2
 rw [hp0w] at q3
 have qc0 : (jg (q) (.slice a p.list.length c))[0 + 0]? = some (.slice a p.list.length c) := rfl
 have qc1 : (jg (q) (.slice a p.list.length c))[0 + 1]? = some (.int .i64 ((q).asked : Nat)) := rfl
 have qc2 : (jg (q) (.slice a p.list.length c))[0 + 2]? = some (.int .i64 (q).want) := rfl
 have qc3 : (jg (q) (.slice a p.list.length c))[0 + 3]? = some (.int .i64 (q).tries) := rfl
 have qc4 : (jg (q) (.slice a p.list.length c))[0 + 4]? = some (.int .i64 (q).every) := rfl
 have qc5 : (jg (q) (.slice a p.list.length c))[0 + 5]? = some (.int .i64 (q).wait) := rfl
 have qc6 : (jg (q) (.slice a p.list.length c))[0 + 6]? = some (.int .i64 (q).start) := rfl
 have qc7 : (jg (q) (.slice a p.list.length c))[0 + 7]? = some (.int .i64 (q).now) := rfl
 have qc8 : (jg (q) (.slice a p.list.length c))[0 + 8]? = some (.int .i64 (q).reached) := rfl
 have qc9 : (jg (q) (.slice a p.list.length c))[0 + 9]? = some (.bool (q).made) := rfl
 have qc10 : (jg (q) (.slice a p.list.length c))[0 + 10]? = some (.bool (q).begins) := rfl
 have hK : ∀ x ∈ [(bp, Obj.cells (jg q (.slice a p.list.length c)) 158 (0, 0))], x ∈ (bp, Obj.cells (jg q (.slice a p.list.length c)) 158 (0, 0)) :: (B2 ++ (B1 ++ L)) := fun x hx => by
  rw [List.mem_singleton.1 hx]; exact List.mem_cons_self ..
 by_cases hkN : k < N
 · have g3 : decide (((k : Nat) : Int) < q.want) = true := decide_eq_true je
   have g4 : decide (((q.asked : Nat) : Int) < ((p.list.length : Nat) : Int)) = true := decide_eq_true je
   repeat (with_reducible refine jY ?_)
   refine jw jc ([(bp, Obj.cells (jg q (.slice a p.list.length c)) 158 (0, 0))]) [] ?_
   refine tkQ 0 ?_
   refine tkQ 1 ?_
   refine tkQ 2 ?_
   refine tkQ 3 ?_
   refine tkQ 4 ?_
   refine tkQ 5 ?_
   refine tkQ 6 ?_
   refine tkQ 7 ?_
   refine tkQ 8 ?_
   refine tkQ 9 ?_
   refine tkQ 10 ?_
   refine tkQ 11 ?_
   refine tkQ 12 ?_
   refine tkQ 13 ?_
   refine tkQ 14 ?_
   refine tkQ 15 ?_
   refine tkQ 16 ?_
   refine tkQ 17 ?_
   refine tkQ 18 ?_
   refine tdQ ?_
   refine goD ?_
   refine jv (jb jd rfl (WB bp q _ B2 (q2.symm ▸ hR2) je je)) rfl ?_
   rintro _ M1 ⟨rfl, B3, hR3, hM1⟩
   rw [hM1]
   clear hM1 M1
   repeat (refine jP (JM etO rfl rfl) rfl ?_; intro bLit)
   refine qD (List.Perm.cons _ perm_out) ?_
   refine uB etO rfl rfl hR1 rfl (by unfold maxLen; omega) je rfl ?_
   intro v4 B4 hR4
   obtain ⟨a4, c4, rfl⟩ := hR4.slice
   refine goD ?_
   refine jh (k + 1, .slice a4 (k + 1) c4, B4, B3) ⟨hkN, ?_, ?_⟩ ?_ ?_ ?_
   · dsimp only
     rw [hS]
     simpa [qq] using hR4
   · dsimp only
     rw [hS]
     have : (Hg.next q).list.length = p.list.length := by simp [Hg.next, q2]
     rw [this] at hR3
     exact hR3
   exact ju
   · intro w hw'
     dsimp only
     rw [hS]
     exact hw'.perm perm_out.symm
   · dsimp only; omega
 · have hkN' : k = N := by omega
   rw [hz] at hN
   by_cases hkw : ((k : Nat) : Int) < q.want
   · have g3 : decide (((k : Nat) : Int) < q.want) = true := decide_eq_true hkw
     have g4 : decide (((q.asked : Nat) : Int) < ((p.list.length : Nat) : Int)) = false := decide_eq_false je
     repeat (with_reducible refine jY ?_)
     refine jw jc ([(bp, Obj.cells (jg q (.slice a p.list.length c)) 158 (0, 0))]) [] ?_
     refine tkQ 0 ?_
     refine tkQ 1 ?_
     refine tkQ 2 ?_
     refine tkQ 3 ?_
     refine tkQ 4 ?_
     refine tkQ 5 ?_
     refine tkQ 6 ?_
     refine tkQ 7 ?_
     refine tkQ 8 ?_
     refine tkQ 9 ?_
     refine tkQ 10 ?_
     refine tkQ 11 ?_
     refine tkQ 12 ?_
     refine tkQ 13 ?_
     refine tkQ 14 ?_
     refine tkQ 15 ?_
     refine tkQ 16 ?_
     refine tkQ 17 ?_
     refine tkQ 18 ?_
     refine tdQ ?_
     refine goD ?_
     refine jf 2 _ rfl rfl ?_
     rw [← hkN', ← hq, q2, q4]
     exact ⟨B1, B2, hR1, hR2, rfl⟩
   · have g3 : decide (((k : Nat) : Int) < q.want) = false := decide_eq_false hkw
     repeat (with_reducible refine jY ?_)
     refine jw jc ([(bp, Obj.cells (jg q (.slice a p.list.length c)) 158 (0, 0))]) [] ?_
     refine tkQ 0 ?_
     refine tkQ 1 ?_
     refine tkQ 2 ?_
     refine tkQ 3 ?_
     refine tkQ 4 ?_
     refine tkQ 5 ?_
     refine tkQ 6 ?_
     refine tkQ 7 ?_
     refine tkQ 8 ?_
     refine tkQ 9 ?_
     refine tkQ 10 ?_
     refine tkQ 11 ?_
     refine tkQ 12 ?_
     refine tkQ 13 ?_
     refine tkQ 14 ?_
     refine tkQ 15 ?_
     refine tkQ 16 ?_
     refine tkQ 17 ?_
     refine tkQ 18 ?_
     refine tdQ ?_
     refine goD ?_
     refine jf 2 _ rfl rfl ?_
     rw [← hkN', ← hq, q2, q4]
     exact ⟨B1, B2, hR1, hR2, rfl⟩
end Go.Proofs.YtbjkkoacclfejaaGreat
namespace Go.Proofs.YtbjkkoacclfejaaGreat
open Go.RowKit
open Hg (En Pl)
variable {G : World} {L : ja}
theorem aas {P : Program} {n : Nat} {ρ : jD} {Q : Exit → Act → World → Prop} {σ : Type} {c X : Code} (l : Nat) (hf : findLabel c l = some (.seq .skip X)) (I : σ → Prop) (ρI : σ → jD) (LI : σ → ja) (μ : σ → Nat)
 (first : (∀ x, I x → T P G n (ρI x) (LI x) X (Exit.jump l (fun a w => ∃ x, I x ∧ Env n (ρI x) a ∧ Heap G w (LI x)) Q)) → T P G n ρ L c (Exit.jump l (fun a w => ∃ x, I x ∧ Env n (ρI x) a ∧ Heap G w (LI x)) Q))
 (pass : ∀ x, I x → T P G n (ρI x) (LI x) X (Exit.jump l (uy G n I ρI LI μ (μ x)) Q)) : T P G n ρ L (.scope c) Q :=
 abm l hf I ρI LI μ (fun _ => first fun x hx => Q7 (pass x hx) fun e a w h => by
  cases e <;> (first | exact h | exact ⟨h.1, by obtain ⟨y, h1, h2, h3, _⟩ := h.2; exact ⟨y, h1, h2, h3⟩⟩))
  (fun x hx => jY (uS (kW (pass x hx))))
structure Good (p : Pl) : Prop where
 len : p.list.length ≤ 9
 asked : p.asked ≤ p.list.length
 want : 1 ≤ p.want ∧ p.want ≤ 9
 tries : 1 ≤ p.tries ∧ p.tries ≤ 4
 every : 1 ≤ p.every ∧ p.every ≤ 1000
 wait : 1 ≤ p.wait ∧ p.wait ≤ 1000
 now : 0 ≤ p.start ∧ p.start ≤ p.now ∧ p.now ≤ Hg.top
 reached : 0 ≤ p.reached ∧ p.reached ≤ Hg.top
 each : ∀ x ∈ p.list, 0 ≤ x.last ∧ x.last ≤ p.now ∧ 0 ≤ x.asked ∧ x.asked ≤ p.tries
theorem Good.advance {p : Pl} (h : Good p) (t : Int) : Good (Hg.advance p t) := by
 have h1 := h.now
 have h2 : p.now ≤ (Hg.advance p t).now := by simp only [Hg.advance]; omega
 exact ⟨h.len, h.asked, h.want, h.tries, h.every, h.wait, ⟨h1.1, Int.le_trans h1.2.1 h2, by simp only [Hg.advance, Hg.top] at *; omega⟩, h.reached, fun x hx => by
  have := h.each x hx
  exact ⟨this.1, by omega, this.2.2.1, this.2.2.2⟩⟩
def mid (q : Pl) (i : Nat) : List En := (q.list.take i).map (Hg.tickE q.now q.wait q.tries) ++ q.list.drop i
theorem aat (q : Pl) : mid q 0 = q.list := by simp [mid]
theorem abV (q : Pl) : mid q q.list.length = (Hg.examine q).list := by simp [mid, Hg.examine]
theorem KW (q : Pl) (i : Nat) (h : i ≤ q.list.length) : (mid q i).length = q.list.length := by simp [mid]; omega
theorem Ux (q : Pl) (i : Nat) (x : En) (h : q.list[i]? = some x) : (mid q i)[i]? = some x := by
 have hi := (List.getElem?_eq_some_iff.1 h).1
 unfold mid
 rw [List.getElem?_append_right (by simp; omega)]
 simp [h, Nat.min_eq_left (Nat.le_of_lt hi)]
theorem KX (q : Pl) (i : Nat) (x : En) (h : q.list[i]? = some x) : mid q (i + 1) = (mid q i).set i (Hg.tickE q.now q.wait q.tries x) := by
 obtain ⟨hi, rfl⟩ := List.getElem?_eq_some_iff.1 h
 unfold mid
 rw [List.set_append_right _ _ (by simp; omega), List.take_succ_eq_append_getElem hi]
 simp only [List.map_append, List.map_cons, List.map_nil, List.append_assoc, List.length_map, List.length_take, Nat.min_eq_left (Nat.le_of_lt hi), Nat.sub_self]
 congr 1
 rw [List.drop_eq_getElem_cons hi]
 rfl
theorem qM {β : Type} (f : En → List β) (l : List En) (i : Nat) (x : En) (h : l[i]? = some x) : (l.take (i + 1)).flatMap f = (l.take i).flatMap f ++ f x := by
 obtain ⟨hi, rfl⟩ := List.getElem?_eq_some_iff.1 h
 rw [List.take_succ_eq_append_getElem hi, List.flatMap_append, List.flatMap_cons, List.flatMap_nil, List.append_nil]
theorem yr {β : Type} (f : En → List β) (l : List En) (hf : ∀ x, (f x).length ≤ 1) (i : Nat) : ((l.take i).flatMap f).length ≤ i := by
 rw [List.length_flatMap]
 have : ∀ l : List En, (l.map fun x => (f x).length).sum ≤ l.length := fun l => by
  induction l with
  | nil => simp
  | cons x r ih => have := hf x; simp; omega
 have := this (l.take i)
 rw [List.length_take] at this
 omega
theorem zY : ∀ (l : List En) (i : Nat) (x y : En), l[i]? = some x → j7 (l.set i y) = ((((j7 l).set (i * 4 + 0) (.int .i64 y.up)).set (i * 4 + 1) (.int .i64 y.asked)).set (i * 4 + 2) (.int .i64 y.last)).set (i * 4 + 3) (.bool y.op)
 | [], i, x, y, h => by simp at h
 | z :: r, 0, x, y, h => by simp [kH, j3]
 | z :: r, i + 1, x, y, h => by
   rw [List.set_cons_succ, kH, kH, zY r i x y (by simpa using h)]
   rw [show (i + 1) * 4 + 0 = (i * 4 + 0) + 4 by omega, show (i + 1) * 4 + 1 = (i * 4 + 1) + 4 by omega, show (i + 1) * 4 + 2 = (i * 4 + 2) + 4 by omega, show (i + 1) * 4 + 3 = (i * 4 + 3) + 4 by omega]
   simp [j3]
theorem uu {l : List Value} {i : Nat} {v : Value} (h : l[i]? = some v) : l.set i v = l := by
 obtain ⟨hi, rfl⟩ := List.getElem?_eq_some_iff.1 h
 exact List.set_getElem_self hi
theorem JC (l : List En) (i : Nat) (x : En) (h : l[i]? = some x) : j7 (l.set i { x with op := false }) = (j7 l).set (i * 4 + 3) (.bool false) := by
 rw [zY l i x _ h]
 have h0 := qm l i 0 x h je
 have h1 := qm l i 1 x h je
 have h2 := qm l i 2 x h je
 rw [uu (l := j7 l) h0, uu (l := j7 l) h1, uu (l := j7 l) h2]
theorem VC (l : List En) (i : Nat) (x : En) (k n : Int) (h : l[i]? = some x) : j7 (l.set i { x with asked := k, last := n }) = ((j7 l).set (i * 4 + 1) (.int .i64 k)).set (i * 4 + 2) (.int .i64 n) := by
 rw [zY l i x _ h]
 have h0 := qm l i 0 x h je
 have h3 := qm l i 3 x h je
 rw [uu (l := j7 l) h0]
 refine uu ?_
 rw [List.getElem?_set_ne je, List.getElem?_set_ne je]
 exact h3
theorem VD (q : Pl) (i : Nat) (x : En) (hx : q.list[i]? = some x) (hl : Hg.late q.now q.wait x = false) : mid q (i + 1) = mid q i ∧ (q.list.take (i + 1)).flatMap (Hg.goneE q.now q.wait q.tries) = (q.list.take i).flatMap (Hg.goneE q.now q.wait q.tries) ∧
 (q.list.take (i + 1)).flatMap (Hg.sendE q.now q.wait q.tries) = (q.list.take i).flatMap (Hg.sendE q.now q.wait q.tries) := by
 refine ⟨?_, ?_, ?_⟩
 · rw [KX q i x hx]
   have : Hg.tickE q.now q.wait q.tries x = x := by simp [Hg.tickE, hl]
   rw [this]
   obtain ⟨h1, h2⟩ := List.getElem?_eq_some_iff.1 (Ux q i x hx)
   rw [← h2]
   exact List.set_getElem_self h1
 · rw [qM _ _ i x hx]; simp [Hg.goneE, hl]
 · rw [qM _ _ i x hx]; simp [Hg.sendE, hl]
theorem aau (q : Pl) (i : Nat) (x : En) (hx : q.list[i]? = some x) (hl : Hg.late q.now q.wait x = true) (ht : q.tries ≤ x.asked) : mid q (i + 1) = (mid q i).set i { x with op := false } ∧ (q.list.take (i + 1)).flatMap (Hg.goneE q.now q.wait q.tries) = (q.list.take i).flatMap (Hg.goneE q.now q.wait q.tries) ++ [x.up] ∧
 (q.list.take (i + 1)).flatMap (Hg.sendE q.now q.wait q.tries) = (q.list.take i).flatMap (Hg.sendE q.now q.wait q.tries) := by
 refine ⟨?_, ?_, ?_⟩
 · rw [KX q i x hx]; simp [Hg.tickE, hl, ht]
 · rw [qM _ _ i x hx]; simp [Hg.goneE, hl, ht]
 · rw [qM _ _ i x hx]; simp [Hg.sendE, hl, ht]
theorem aav (q : Pl) (i : Nat) (x : En) (hx : q.list[i]? = some x) (hl : Hg.late q.now q.wait x = true) (ht : ¬ q.tries ≤ x.asked) : mid q (i + 1) = (mid q i).set i { x with asked := x.asked + 1, last := q.now } ∧ (q.list.take (i + 1)).flatMap (Hg.goneE q.now q.wait q.tries) = (q.list.take i).flatMap (Hg.goneE q.now q.wait q.tries) ∧
 (q.list.take (i + 1)).flatMap (Hg.sendE q.now q.wait q.tries) = (q.list.take i).flatMap (Hg.sendE q.now q.wait q.tries) ++ [x.up] := by
 refine ⟨?_, ?_, ?_⟩
 · rw [KX q i x hx]; simp [Hg.tickE, hl, ht]
 · rw [qM _ _ i x hx]; simp [Hg.goneE, hl, ht]
 · rw [qM _ _ i x hx]; simp [Hg.sendE, hl, ht]
theorem yu {A B C D : ja} {p : Nat × Obj} : (p :: (A ++ (B ++ (C ++ D)))).Perm (C ++ (p :: (A ++ (B ++ D)))) := by
 have := perm_out (A := A ++ B) (B := C) (C := D) (p := p)
 simpa using this
theorem acO (bp : Nat) (p : Pl) (a : Option Addr) (c : Nat) (B : ja) (now : Int) (hR : Row 160 4 (.slice a p.list.length c) p.list.length (j7 p.list) B) (hG : Good p) (hb : p.begins = true) :
 Spec Tryz.prog G 47 #[.pointer (some ⟨bp, 0, none⟩), .int .i64 now] ((bp, .cells (jg p (.slice a p.list.length c)) 158 (0, 0)) :: (B ++ L)) fun u M => ∃ vg vs Bg Bs B', u = .tuple #[vg, vs] ∧
  Row 3 1 vg (Hg.tick p now).2.1.length (qq (Hg.tick p now).2.1) Bg ∧ Row 3 1 vs (Hg.tick p now).2.2.length (qq (Hg.tick p now).2.2) Bs ∧ Row 160 4 (.slice a p.list.length c) p.list.length (j7 (Hg.tick p now).1.list) B' ∧
  M = (bp, .cells (jg (Hg.tick p now).1 (.slice a p.list.length c)) 158 (0, 0)) :: (B' ++ (Bg ++ (Bs ++ L))) := by
 have pc0 : (jg (p) (.slice a p.list.length c))[0 + 0]? = some (.slice a p.list.length c) := rfl
 have pc1 : (jg (p) (.slice a p.list.length c))[0 + 1]? = some (.int .i64 ((p).asked : Nat)) := rfl
 have pc2 : (jg (p) (.slice a p.list.length c))[0 + 2]? = some (.int .i64 (p).want) := rfl
 have pc3 : (jg (p) (.slice a p.list.length c))[0 + 3]? = some (.int .i64 (p).tries) := rfl
 have pc4 : (jg (p) (.slice a p.list.length c))[0 + 4]? = some (.int .i64 (p).every) := rfl
 have pc5 : (jg (p) (.slice a p.list.length c))[0 + 5]? = some (.int .i64 (p).wait) := rfl
 have pc6 : (jg (p) (.slice a p.list.length c))[0 + 6]? = some (.int .i64 (p).start) := rfl
 have pc7 : (jg (p) (.slice a p.list.length c))[0 + 7]? = some (.int .i64 (p).now) := rfl
 have pc8 : (jg (p) (.slice a p.list.length c))[0 + 8]? = some (.int .i64 (p).reached) := rfl
 have pc9 : (jg (p) (.slice a p.list.length c))[0 + 9]? = some (.bool (p).made) := rfl
 have pc10 : (jg (p) (.slice a p.list.length c))[0 + 10]? = some (.bool (p).begins) := rfl
 have g1 : Option.isNone (some (⟨bp, 0, none⟩ : Addr)) = false := rfl
 have g2 : (!p.begins) = false := by rw [hb]; rfl
 refine jl (n := 138) Tryz.func47 rfl rfl rfl ?_
 obtain ⟨q, hq⟩ : ∃ q, q = Hg.advance p now := ⟨_, rfl⟩
 have hGq : Good q := by rw [hq]; exact hG.advance now
 have hql : q.list = p.list := by rw [hq]; rfl
 have hqn : q.list.length = p.list.length := by rw [hql]
 repeat (first | (with_reducible first | refine jY ?_ | refine jS ?_ | refine ux ?_ | refine kW ?_) | refine jz (zF rfl) rfl ?_)
 refine aas (σ := Nat × Value × Value × ja × ja × ja) 0 (by rfl)
  (fun x => x.1 ≤ q.list.length ∧ Row 3 1 x.2.1 ((q.list.take x.1).flatMap (Hg.goneE q.now q.wait q.tries)).length (qq ((q.list.take x.1).flatMap (Hg.goneE q.now q.wait q.tries))) x.2.2.2.1 ∧
    Row 3 1 x.2.2.1 ((q.list.take x.1).flatMap (Hg.sendE q.now q.wait q.tries)).length (qq ((q.list.take x.1).flatMap (Hg.sendE q.now q.wait q.tries))) x.2.2.2.2.1 ∧ Row 160 4 (.slice a p.list.length c) p.list.length (j7 (mid q x.1)) x.2.2.2.2.2)
  (fun x => [(0, .pointer (some ⟨bp, 0, none⟩)), (4, x.2.1), (5, x.2.2.1), (6, .int .i64 (x.1 : Nat))])
  (fun x => (bp, .cells (jg q (.slice a p.list.length c)) 158 (0, 0)) :: (x.2.2.2.2.2 ++ (x.2.2.2.1 ++ (x.2.2.2.2.1 ++ L)))) (fun x => q.list.length - x.1) ?_ ?_
 · intro pass
   repeat (first | (with_reducible first | refine jY ?_ | refine jS ?_ | refine ux ?_ | refine kW ?_ | refine uS ?_) | refine jz (yl rfl) rfl ?_ | (refine' jz (qO rfl rfl ?_) rfl ?_; rotate_left 1; (· exact UG unO)) | (refine' jz (km rfl ?_ rfl) rfl ?_; (· assumption)) | (refine kr rfl rfl ?_ ?_; (· assumption)) | refine jM (yl rfl) rfl ?_ | refine jM (Zn rfl) rfl ?_ | refine jM (Je rfl) rfl ?_ | refine jM (qf rfl yY) rfl ?_ | (refine' jM (WX rfl plO ?_ ?_) rfl ?_; rotate_left 4; (· repeat (exact List.mem_cons_self)); (· assumption)) | (refine V8 rfl ?_ ?_; (· assumption)))
   refine jv (jb jd rfl (QI bp p _ now)) rfl ?_
   rintro u0 M0 hM0
   rw [hM0, ← hq]
   clear hM0 M0
   repeat (first | (with_reducible first | refine jY ?_ | refine jS ?_ | refine ux ?_ | refine kW ?_) | refine jz (zF rfl) rfl ?_)
   refine uw ?_
   refine kW ?_
   refine UN _ _ ?_ ?_ (pass (0, .slice none 0 0, .slice none 0 0, [], [], B) ⟨Nat.zero_le _, Row.nil _ _, Row.nil _ _, ?_⟩)
   exact ju
   · exact fun w hw => hw
   · dsimp only; rw [aat, hql]; exact hR
 rintro ⟨i, vg, vs, Bg, Bs, Be⟩ ⟨hi, hRg, hRs, hRe⟩
 dsimp only at hi hRg hRs hRe ⊢
 have qc0 : (jg (q) (.slice a p.list.length c))[0 + 0]? = some (.slice a p.list.length c) := rfl
 have qc1 : (jg (q) (.slice a p.list.length c))[0 + 1]? = some (.int .i64 ((q).asked : Nat)) := rfl
 have qc2 : (jg (q) (.slice a p.list.length c))[0 + 2]? = some (.int .i64 (q).want) := rfl
 have qc3 : (jg (q) (.slice a p.list.length c))[0 + 3]? = some (.int .i64 (q).tries) := rfl
 have qc4 : (jg (q) (.slice a p.list.length c))[0 + 4]? = some (.int .i64 (q).every) := rfl
 have qc5 : (jg (q) (.slice a p.list.length c))[0 + 5]? = some (.int .i64 (q).wait) := rfl
 have qc6 : (jg (q) (.slice a p.list.length c))[0 + 6]? = some (.int .i64 (q).start) := rfl
 have qc7 : (jg (q) (.slice a p.list.length c))[0 + 7]? = some (.int .i64 (q).now) := rfl
 have qc8 : (jg (q) (.slice a p.list.length c))[0 + 8]? = some (.int .i64 (q).reached) := rfl
 have qc9 : (jg (q) (.slice a p.list.length c))[0 + 9]? = some (.bool (q).made) := rfl
 have qc10 : (jg (q) (.slice a p.list.length c))[0 + 10]? = some (.bool (q).begins) := rfl
 have hlen := hGq.len
 have hnow := hGq.now
 have htr := hGq.tries
 have htop : Hg.top = 1099511627776 := rfl
 obtain ⟨mg, hmg⟩ : ∃ mg, mg = ((q.list.take i).flatMap (Hg.goneE q.now q.wait q.tries)).length := ⟨_, rfl⟩
 obtain ⟨ms, hms⟩ : ∃ ms, ms = ((q.list.take i).flatMap (Hg.sendE q.now q.wait q.tries)).length := ⟨_, rfl⟩
 have hmg9 : mg ≤ i := by rw [hmg]; exact yr _ _ (fun x => by unfold Hg.goneE; split <;> simp) _
 have hms9 : ms ≤ i := by rw [hms]; exact yr _ _ (fun x => by unfold Hg.sendE; split <;> simp) _
 rw [← hmg] at hRg
 rw [← hms] at hRs
 obtain ⟨ag, cg, rfl⟩ := hRg.slice
 obtain ⟨as1, cs1, rfl⟩ := hRs.slice
 by_cases hlt : i < q.list.length
 · have g3 : decide (((i : Nat) : Int) < ((p.list.length : Nat) : Int)) = true := decide_eq_true je
   obtain ⟨x, hx⟩ : ∃ x, q.list[i]? = some x := ⟨_, List.getElem?_eq_getElem hlt⟩
   obtain ⟨e1, e2, e3, e4⟩ := hGq.each x (List.mem_of_getElem? hx)
   rcases hRe.is with ⟨_, h, _⟩ | ⟨be, cap, cur, hsl, rfl, h3, h4, h5, h6⟩
   · omega
   cases hsl
   have hat : ∀ j u, j < 4 → (j3 x)[j]? = some u → cur[0 + i * 4 + j]? = some u := fun j u hj hu => by
    have := qm (mid q i) i j x (Ux q i x hx) hj
    rw [← h6, List.getElem?_take_of_lt je, hu] at this
    rw [Nat.zero_add]
    simpa using this
   have n0 : cur[0 + i * 4 + 0]? = some (.int .i64 x.up) := hat 0 _ je rfl
   have n1 : cur[0 + i * 4 + 1]? = some (.int .i64 x.asked) := hat 1 _ je rfl
   have n2 : cur[0 + i * 4 + 2]? = some (.int .i64 x.last) := hat 2 _ je rfl
   have n3 : cur[0 + i * 4 + 3]? = some (.bool x.op) := hat 3 _ je rfl
   have hK : ∀ y ∈ [(bp, Obj.cells (jg q (.slice (some ⟨be, 0, none⟩) p.list.length c)) 158 (0, 0)), (be, Obj.cells cur 160 (0, 0))], y ∈ (bp, Obj.cells (jg q (.slice (some ⟨be, 0, none⟩) p.list.length c)) 158 (0, 0)) :: ([(be, Obj.cells cur 160 (0, 0))] ++ (Bg ++ (Bs ++ L))) := fun y hy => by
    simp only [List.mem_cons, List.not_mem_nil, or_false] at hy
    rcases hy with rfl | rfl
    · exact List.mem_cons_self ..
    · exact List.mem_cons_of_mem _ (List.mem_cons_self ..)
   cases hop : x.op with
   | false =>
     have g4 : (!x.op) = true := by rw [hop]; rfl
     have hlate : Hg.late q.now q.wait x = false := by simp [Hg.late, hop]
     refine goD ?_
     refine jw jc ([(bp, Obj.cells (jg q (.slice (some ⟨be, 0, none⟩) p.list.length c)) 158 (0, 0)), (be, Obj.cells cur 160 (0, 0))]) [] ?_
     refine tkQ 0 ?_
     refine tkQ 1 ?_
     refine tkQ 2 ?_
     refine tkQ 3 ?_
     refine tkQ 4 ?_
     refine tkQ 5 ?_
     refine tkQ 6 ?_
     refine tkQ 7 ?_
     refine tkQ 8 ?_
     refine tkQ 9 ?_
     refine tkQ 10 ?_
     refine tkQ 11 ?_
     refine tkQ 12 ?_
     refine tkQ 13 ?_
     refine tkQ 14 ?_
     refine tkQ 15 ?_
     refine tkQ 16 ?_
     refine tkQ 17 ?_
     refine tkQ 18 ?_
     refine tkQ 19 ?_
     refine tkQ 20 ?_
     refine tdQ ?_
     refine goD ?_
     obtain ⟨k1, k2, k3⟩ := VD q i x hx hlate
     refine QX ?_
     repeat refine j8 ?_
     refine JN (i + 1, .slice ag mg cg, .slice as1 ms cs1, Bg, Bs, [(be, Obj.cells cur 160 (0, 0))]) ⟨hlt, ?_, ?_, ?_⟩ ?_ ?_ ?_
     · dsimp only; rw [k2, ← hmg]; exact hRg
     · dsimp only; rw [k3, ← hms]; exact hRs
     · dsimp only; rw [k1]; exact hRe
     exact ju
     · exact fun w hw => hw
     · dsimp only; omega
   | true =>
   have g4 : (!x.op) = false := by rw [hop]; rfl
   by_cases hw : q.now - x.last < q.wait
   · have g5 : decide (q.now - x.last < q.wait) = true := decide_eq_true hw
     have hlate : Hg.late q.now q.wait x = false := by simp [Hg.late, hop, hw]
     refine goD ?_
     refine jw jc ([(bp, Obj.cells (jg q (.slice (some ⟨be, 0, none⟩) p.list.length c)) 158 (0, 0)), (be, Obj.cells cur 160 (0, 0))]) [] ?_
     refine tkQ 0 ?_
     refine tkQ 1 ?_
     refine tkQ 2 ?_
     refine tkQ 3 ?_
     refine tkQ 4 ?_
     refine tkQ 5 ?_
     refine tkQ 6 ?_
     refine tkQ 7 ?_
     refine tkQ 8 ?_
     refine tkQ 9 ?_
     refine tkQ 10 ?_
     refine tkQ 11 ?_
     refine tkQ 12 ?_
     refine tkQ 13 ?_
     refine tkQ 14 ?_
     refine tkQ 15 ?_
     refine tkQ 16 ?_
     refine tkQ 17 ?_
     refine tkQ 18 ?_
     refine tkQ 19 ?_
     refine tkQ 20 ?_
     refine tdQ ?_
     refine goD ?_
     obtain ⟨k1, k2, k3⟩ := VD q i x hx hlate
     refine QX ?_
     repeat refine j8 ?_
     refine JN (i + 1, .slice ag mg cg, .slice as1 ms cs1, Bg, Bs, [(be, Obj.cells cur 160 (0, 0))]) ⟨hlt, ?_, ?_, ?_⟩ ?_ ?_ ?_
     · dsimp only; rw [k2, ← hmg]; exact hRg
     · dsimp only; rw [k3, ← hms]; exact hRs
     · dsimp only; rw [k1]; exact hRe
     exact ju
     · exact fun w hw => hw
     · dsimp only; omega
   have g5 : decide (q.now - x.last < q.wait) = false := decide_eq_false hw
   have hlate : Hg.late q.now q.wait x = true := by simp [Hg.late, hop]; omega
   by_cases ht : q.tries ≤ x.asked
   · have g6 : decide (q.tries ≤ x.asked) = true := decide_eq_true ht
     obtain ⟨k1, k2, k3⟩ := aau q i x hx hlate ht
     have m0 : (cur.setIfInBounds (0 + i * 4 + 3) (.bool false))[0 + i * 4 + 0]? = some (.int .i64 x.up) := by rw [Array.getElem?_setIfInBounds_ne je]; exact n0
     refine goD ?_
     refine jw jc ([(bp, Obj.cells (jg q (.slice (some ⟨be, 0, none⟩) p.list.length c)) 158 (0, 0)), (be, Obj.cells cur 160 (0, 0))]) [] ?_
     refine tkQ 0 ?_
     refine tkQ 1 ?_
     refine tkQ 2 ?_
     refine tkQ 3 ?_
     refine tkQ 4 ?_
     refine tkQ 5 ?_
     refine tkQ 6 ?_
     refine tkQ 7 ?_
     refine tkQ 8 ?_
     refine tkQ 9 ?_
     refine tkQ 10 ?_
     refine tkQ 11 ?_
     refine tkQ 12 ?_
     refine tkQ 13 ?_
     refine tkQ 14 ?_
     refine tkQ 15 ?_
     refine tkQ 16 ?_
     refine tkQ 17 ?_
     refine tkQ 18 ?_
     refine tkQ 19 ?_
     refine tkQ 20 ?_
     refine tdQ ?_
     refine goD ?_
     refine jw jc ([(bp, Obj.cells (jg q (.slice (some ⟨be, 0, none⟩) p.list.length c)) 158 (0, 0)), (be, Obj.cells cur 160 (0, 0))]) [] ?_
     refine tkQ 0 ?_
     refine tkQ 1 ?_
     refine tkQ 2 ?_
     refine tkQ 3 ?_
     refine tkQ 4 ?_
     refine tkQ 5 ?_
     refine tkQ 6 ?_
     refine tkQ 7 ?_
     refine tkQ 8 ?_
     refine tdQ ?_
     repeat (first | refine goD ?_ | (refine kR ?_; intro bLit))
     refine qD (List.Perm.cons _ (perm_out (A := [_]))) ?_
     refine uB etO rfl rfl hRg rfl (by unfold maxLen; omega) je rfl ?_
     intro v4 B4 hR4
     obtain ⟨a4, c4, rfl⟩ := hR4.slice
     refine goD ?_
     refine QX ?_
     repeat refine j8 ?_
     refine JN (i + 1, .slice a4 (mg + 1) c4, .slice as1 ms cs1, B4, Bs, [(be, Obj.cells (cur.setIfInBounds (0 + i * 4 + 3) (.bool false)) 160 (0, 0))]) ⟨hlt, ?_, ?_, ?_⟩ ?_ ?_ ?_
     · dsimp only; rw [k2, List.length_append, ← hmg]; simpa [qq] using hR4
     · dsimp only; rw [k3, ← hms]; exact hRs
     · dsimp only
       refine ⟨by rw [k1, qI, List.length_set, KW q i hi, hqn], Or.inr ⟨be, c, _, rfl, rfl, h3, h4, by simpa using h5, ?_⟩⟩
       rw [k1, take_set, h6, JC _ _ _ (Ux q i x hx), Nat.zero_add]
     exact ju
     · exact fun w hw => hw.perm (perm_out (A := [_])).symm
     · dsimp only; omega
   · have g6 : decide (q.tries ≤ x.asked) = false := decide_eq_false ht
     obtain ⟨k1, k2, k3⟩ := aav q i x hx hlate ht
     have m2 : (cur.setIfInBounds (0 + i * 4 + 1) (.int .i64 (x.asked + 1)))[0 + i * 4 + 2]? = some (.int .i64 x.last) := by rw [Array.getElem?_setIfInBounds_ne je]; exact n2
     have m0 : ((cur.setIfInBounds (0 + i * 4 + 1) (.int .i64 (x.asked + 1))).setIfInBounds (0 + i * 4 + 2) (.int .i64 q.now))[0 + i * 4 + 0]? = some (.int .i64 x.up) := by rw [Array.getElem?_setIfInBounds_ne je, Array.getElem?_setIfInBounds_ne je]; exact n0
     refine goD ?_
     refine jw jc ([(bp, Obj.cells (jg q (.slice (some ⟨be, 0, none⟩) p.list.length c)) 158 (0, 0)), (be, Obj.cells cur 160 (0, 0))]) [] ?_
     refine tkQ 0 ?_
     refine tkQ 1 ?_
     refine tkQ 2 ?_
     refine tkQ 3 ?_
     refine tkQ 4 ?_
     refine tkQ 5 ?_
     refine tkQ 6 ?_
     refine tkQ 7 ?_
     refine tkQ 8 ?_
     refine tkQ 9 ?_
     refine tkQ 10 ?_
     refine tkQ 11 ?_
     refine tkQ 12 ?_
     refine tkQ 13 ?_
     refine tkQ 14 ?_
     refine tkQ 15 ?_
     refine tkQ 16 ?_
     refine tkQ 17 ?_
     refine tkQ 18 ?_
     refine tkQ 19 ?_
     refine tkQ 20 ?_
     refine tdQ ?_
     refine goD ?_
     refine jw jc ([(bp, Obj.cells (jg q (.slice (some ⟨be, 0, none⟩) p.list.length c)) 158 (0, 0)), (be, Obj.cells cur 160 (0, 0))]) [] ?_
     refine tkQ 0 ?_
     refine tkQ 1 ?_
     refine tkQ 2 ?_
     refine tkQ 3 ?_
     refine tkQ 4 ?_
     refine tkQ 5 ?_
     refine tkQ 6 ?_
     refine tkQ 7 ?_
     refine tkQ 8 ?_
     refine tdQ ?_
     repeat (first | refine goD ?_ | (refine kR ?_; intro bLit))
     refine qD (List.Perm.cons _ (yu (A := [_]))) ?_
     refine uB etO rfl rfl hRs rfl (by unfold maxLen; omega) je rfl ?_
     intro v4 B4 hR4
     obtain ⟨a4, c4, rfl⟩ := hR4.slice
     refine goD ?_
     refine QX ?_
     repeat refine j8 ?_
     refine JN (i + 1, .slice ag mg cg, .slice a4 (ms + 1) c4, Bg, B4, [(be, Obj.cells ((cur.setIfInBounds (0 + i * 4 + 1) (.int .i64 (x.asked + 1))).setIfInBounds (0 + i * 4 + 2) (.int .i64 q.now)) 160 (0, 0))]) ⟨hlt, ?_, ?_, ?_⟩ ?_ ?_ ?_
     · dsimp only; rw [k2, ← hmg]; exact hRg
     · dsimp only; rw [k3, List.length_append, ← hms]; simpa [qq] using hR4
     · dsimp only
       refine ⟨by rw [k1, qI, List.length_set, KW q i hi, hqn], Or.inr ⟨be, c, _, rfl, rfl, h3, h4, by simpa using h5, ?_⟩⟩
       rw [k1, take_set, take_set, h6, VC _ _ _ _ _ (Ux q i x hx), Nat.zero_add]
     exact ju
     · exact fun w hw => hw.perm (yu (A := [_])).symm
     · dsimp only; omega
 · have g3 : decide (((i : Nat) : Int) < ((p.list.length : Nat) : Int)) = false := decide_eq_false je
   have hie : i = q.list.length := by omega
   subst hie
   rw [List.take_length] at hmg hms hRg hRs
   rw [abV] at hRe
   obtain ⟨k, hk⟩ : ∃ k, k = (q.now - q.start) / q.every := ⟨_, rfl⟩
   have hev := hGq.every
   have hk0 : 0 ≤ (q.now - q.start) / q.every := Int.ediv_nonneg je je
   have hk1 : (q.now - q.start) / q.every ≤ q.now - q.start := Int.ediv_le_self _ je
   have htick : Hg.tick p now = ((Hg.hedged (Hg.examine q)).1, q.list.flatMap (Hg.goneE q.now q.wait q.tries), q.list.flatMap (Hg.sendE q.now q.wait q.tries) ++ (Hg.hedged (Hg.examine q)).2) := by
    unfold Hg.tick
    rw [if_neg (by rw [g2]; simp), hq]
   have hK : ∀ y ∈ [(bp, Obj.cells (jg q (.slice a p.list.length c)) 158 (0, 0))], y ∈ (bp, Obj.cells (jg q (.slice a p.list.length c)) 158 (0, 0)) :: (Be ++ (Bg ++ (Bs ++ L))) := fun y hy => by
    rw [List.mem_singleton.1 hy]; exact List.mem_cons_self ..
   have hxl : (Hg.examine q).list.length = p.list.length := by simp [Hg.examine, hqn]
   by_cases hkr : q.reached < (q.now - q.start) / q.every
   · have g7 : decide (q.reached < (q.now - q.start) / q.every) = true := decide_eq_true hkr
     refine goD ?_
     refine jw jc ([(bp, Obj.cells (jg q (.slice a p.list.length c)) 158 (0, 0))]) [] ?_
     refine tkQ 0 ?_
     refine tkQ 1 ?_
     refine tkQ 2 ?_
     refine tkQ 3 ?_
     refine tkQ 4 ?_
     refine tkQ 5 ?_
     refine tkQ 6 ?_
     refine tkQ 7 ?_
     refine tkQ 8 ?_
     refine tkQ 9 ?_
     refine tkQ 10 ?_
     refine tkQ 11 ?_
     refine tkQ 12 ?_
     refine tkQ 13 ?_
     refine tkQ 14 ?_
     refine tdQ ?_
     refine goD ?_
     obtain ⟨q1, hq1⟩ : ∃ q1 : Pl, q1 = { Hg.examine q with reached := (q.now - q.start) / q.every } := ⟨_, rfl⟩
     have hq1l : q1.list = (Hg.examine q).list := by rw [hq1]
     have hq1n : q1.list.length = p.list.length := by rw [hq1l, hxl]
     refine UN [(0, .pointer (some ⟨bp, 0, none⟩)), (4, .slice ag mg cg), (5, .slice as1 ms cs1)] ((bp, .cells (jg q1 (.slice a p.list.length c)) 158 (0, 0)) :: (Be ++ (Bg ++ (Bs ++ L)))) ?_ ?_ ?_
     exact ju
     · intro w hw
       rw [hq1]
       exact hw
     have sc0 : (jg (q1) (.slice a p.list.length c))[0 + 0]? = some (.slice a p.list.length c) := rfl
     have sc1 : (jg (q1) (.slice a p.list.length c))[0 + 1]? = some (.int .i64 ((q1).asked : Nat)) := rfl
     have sc2 : (jg (q1) (.slice a p.list.length c))[0 + 2]? = some (.int .i64 (q1).want) := rfl
     have sc3 : (jg (q1) (.slice a p.list.length c))[0 + 3]? = some (.int .i64 (q1).tries) := rfl
     have sc4 : (jg (q1) (.slice a p.list.length c))[0 + 4]? = some (.int .i64 (q1).every) := rfl
     have sc5 : (jg (q1) (.slice a p.list.length c))[0 + 5]? = some (.int .i64 (q1).wait) := rfl
     have sc6 : (jg (q1) (.slice a p.list.length c))[0 + 6]? = some (.int .i64 (q1).start) := rfl
     have sc7 : (jg (q1) (.slice a p.list.length c))[0 + 7]? = some (.int .i64 (q1).now) := rfl
     have sc8 : (jg (q1) (.slice a p.list.length c))[0 + 8]? = some (.int .i64 (q1).reached) := rfl
     have sc9 : (jg (q1) (.slice a p.list.length c))[0 + 9]? = some (.bool (q1).made) := rfl
     have sc10 : (jg (q1) (.slice a p.list.length c))[0 + 10]? = some (.bool (q1).begins) := rfl
     have hK : ∀ y ∈ [(bp, Obj.cells (jg q1 (.slice a p.list.length c)) 158 (0, 0))], y ∈ (bp, Obj.cells (jg q1 (.slice a p.list.length c)) 158 (0, 0)) :: (Be ++ (Bg ++ (Bs ++ L))) := fun y hy => by
      rw [List.mem_singleton.1 hy]; exact List.mem_cons_self ..
     have hhed : Hg.hedged (Hg.examine q) = if q1.asked < q1.list.length then (Hg.next q1, [Hg.upAt q1 q1.asked]) else (q1, []) := by
      unfold Hg.hedged
      rw [if_pos (by exact hkr), hq1]
      rfl
     by_cases hal : q1.asked < q1.list.length
     · have g8 : decide (((q1.asked : Nat) : Int) < ((p.list.length : Nat) : Int)) = true := decide_eq_true je
       rw [if_pos hal] at hhed
       rw [hhed] at htick
       skip
       refine jw jc ([(bp, Obj.cells (jg q1 (.slice a p.list.length c)) 158 (0, 0))]) [] ?_
       refine tkQ 0 ?_
       refine tkQ 1 ?_
       refine tkQ 2 ?_
       refine tkQ 3 ?_
       refine tkQ 4 ?_
       refine tkQ 5 ?_
       refine tkQ 6 ?_
       refine tkQ 7 ?_
       refine tkQ 8 ?_
       refine tkQ 9 ?_
       refine tdQ ?_
       refine goD ?_
       refine jv (jb jd rfl (WB bp q1 _ Be (by rw [hq1n, hq1l]; exact hRe) je je)) rfl ?_
       rintro _ M1 ⟨rfl, B3, hR3, hM1⟩
       rw [hM1]
       clear hM1 M1
       repeat (refine jP (JM etO rfl rfl) rfl ?_; intro bLit)
       refine qD (List.Perm.cons _ (yu (A := B3))) ?_
       refine uB etO rfl rfl hRs rfl (by unfold maxLen; omega) je rfl ?_
       intro v4 B4 hR4
       obtain ⟨a4, c4, rfl⟩ := hR4.slice
       refine goD ?_
       refine uV ?_
       refine jq (fun w hw => hw.perm (yu (A := B3)).symm) ?_
       refine jN 4 5 _ _ rfl rfl rfl ?_
       rw [htick]
       refine ⟨_, _, Bg, B4, B3, rfl, ?_, ?_, ?_, rfl⟩
       · dsimp only; rw [← hmg]; exact hRg
       · dsimp only; rw [List.length_append, ← hms]; simpa [qq] using hR4
       · dsimp only
         have : (Hg.next q1).list.length = p.list.length := by simp [Hg.next, hq1n]
         rw [this] at hR3
         exact hR3
     · have g8 : decide (((q1.asked : Nat) : Int) < ((p.list.length : Nat) : Int)) = false := decide_eq_false je
       rw [if_neg hal] at hhed
       rw [hhed, List.append_nil] at htick
       skip
       refine jw jc ([(bp, Obj.cells (jg q1 (.slice a p.list.length c)) 158 (0, 0))]) [] ?_
       refine tkQ 0 ?_
       refine tkQ 1 ?_
       refine tkQ 2 ?_
       refine tkQ 3 ?_
       refine tkQ 4 ?_
       refine tkQ 5 ?_
       refine tkQ 6 ?_
       refine tkQ 7 ?_
       refine tkQ 8 ?_
       refine tkQ 9 ?_
       refine tdQ ?_
       refine goD ?_
       refine uV ?_
       refine jN 4 5 _ _ rfl rfl rfl ?_
       rw [htick]
       refine ⟨_, _, Bg, Bs, Be, rfl, ?_, ?_, ?_, rfl⟩
       · dsimp only; rw [← hmg]; exact hRg
       · dsimp only; rw [← hms]; exact hRs
       · dsimp only; rw [hq1l]; exact hRe
   · have g7 : decide (q.reached < (q.now - q.start) / q.every) = false := decide_eq_false hkr
     have hhed : Hg.hedged (Hg.examine q) = (Hg.examine q, []) := by
      unfold Hg.hedged
      rw [if_neg (by exact hkr)]
     rw [hhed, List.append_nil] at htick
     refine goD ?_
     refine jw jc ([(bp, Obj.cells (jg q (.slice a p.list.length c)) 158 (0, 0))]) [] ?_
     refine tkQ 0 ?_
     refine tkQ 1 ?_
     refine tkQ 2 ?_
     refine tkQ 3 ?_
     refine tkQ 4 ?_
     refine tkQ 5 ?_
     refine tkQ 6 ?_
     refine tkQ 7 ?_
     refine tkQ 8 ?_
     refine tkQ 9 ?_
     refine tkQ 10 ?_
     refine tkQ 11 ?_
     refine tkQ 12 ?_
     refine tkQ 13 ?_
     refine tkQ 14 ?_
     refine tdQ ?_
     refine goD ?_
     refine uV ?_
     refine jN 4 5 _ _ rfl rfl rfl ?_
     rw [htick]
     refine ⟨_, _, Bg, Bs, Be, rfl, ?_, ?_, ?_, rfl⟩
     · dsimp only; rw [← hmg]; exact hRg
     · dsimp only; rw [← hms]; exact hRs
     · exact hRe
end Go.Proofs.YtbjkkoacclfejaaGreat
namespace Go.Proofs.YtbjkkoacclfejaaGreat
open Go.RowKit
open Hg (En Pl)
section
variable {G : World} {P : Program} {n : Nat} {ρ : jD} {L : ja} {ty : TypeId} {Q : Exit → Act → World → Prop}
def IRow (L : ja) (v : Value) (l : List Int) : Prop := ∃ a cap, v = .slice a l.length cap ∧ (l = [] ∨ ∃ b off C te fr, a = some ⟨b, off, none⟩ ∧ (b, Obj.cells C te fr) ∈ L ∧ ∀ i x, l[i]? = some x → C[off + i * 1]? = some (.int .i64 x))
theorem Row.irow {e : TypeId} {v : Value} {l : List Int} {B : ja} {m : Nat} (h : Row e 1 v m (qq l) B) (hB : ∀ p ∈ B, p ∈ L) : IRow L v l := by
 have hlen : l.length = m := by have := h.len; simpa [qq] using this
 subst hlen
 rcases h.is with ⟨h1, h2, _⟩ | ⟨b, cap, cur, h1, h2, h3, h4, h5, h6⟩
 · exact ⟨none, 0, by rw [h1, h2], Or.inl (List.eq_nil_of_length_eq_zero h2)⟩
 · refine ⟨_, cap, h1, Or.inr ⟨b, 0, cur, e, (0, 0), rfl, hB _ (by rw [h2]; exact List.mem_cons_self ..), fun i x hi => ?_⟩⟩
   have hil := (List.getElem?_eq_some_iff.1 hi).1
   have : (cur.toList.take (l.length * 1))[i]? = some (Value.int .i64 x) := by rw [h6]; simp [qq, hi]
   rw [List.getElem?_take_of_lt je] at this
   simpa using this
theorem IRow.mono {L L' : ja} {v : Value} {l : List Int} (h : IRow L v l) (hs : ∀ p ∈ L, p ∈ L') : IRow L' v l := by
 obtain ⟨a, cap, h1, h2⟩ := h
 refine ⟨a, cap, h1, h2.imp id ?_⟩
 rintro ⟨b, off, C, te, fr, q1, q2, q3⟩
 exact ⟨b, off, C, te, fr, q1, hs _ q2, q3⟩
theorem IRow.nil (cap : Nat) (a : Option Addr) : IRow L (.slice a 0 cap) [] := ⟨a, cap, rfl, Or.inl rfl⟩
end
theorem QJ (u : Int) : ∀ (l : List En) (k : Nat) (x : En), (∀ y ∈ l.take k, Hg.isIt u y = false) → l[k]? = some x → Hg.isIt u x = true → Hg.closeL u l = l.set k { x with op := false } ∧ l.any (Hg.isIt u) = true
 | [], k, x, _, h, _ => by simp at h
 | y :: r, 0, x, _, h, hf => by simp at h; subst h; simp [Hg.closeL, hf]
 | y :: r, k + 1, x, ha, h, hf => by
   have h1 := ha y (by simp)
   obtain ⟨h2, h3⟩ := QJ u r k x (fun z hz => ha z (by simp [hz])) (by simpa using h) hf
   simp [Hg.closeL, h1, h2, h3]
theorem JD (u : Int) : ∀ (l : List En), (∀ y ∈ l, Hg.isIt u y = false) → Hg.closeL u l = l ∧ l.any (Hg.isIt u) = false
 | [], _ => ⟨rfl, rfl⟩
 | y :: r, ha => by
   have h1 := ha y (by simp)
   obtain ⟨h2, h3⟩ := JD u r fun z hz => ha z (by simp [hz])
   simp only [Hg.closeL, h1, List.any_cons, Bool.false_or]
   exact ⟨by simp [h2], h3⟩
theorem VE {α : Type} {p : α → Prop} {l : List α} {k : Nat} {x : α} (h : ∀ y ∈ l.take k, p y) (hx : l[k]? = some x) (hp : p x) : ∀ y ∈ l.take (k + 1), p y := by
 obtain ⟨hk, rfl⟩ := List.getElem?_eq_some_iff.1 hx
 intro y hy
 rw [List.take_succ_eq_append_getElem hk] at hy
 rcases List.mem_append.1 hy with h1 | h1
 · exact h y h1
 · rw [List.mem_singleton.1 h1]; exact hp
variable {G : World} {L : ja}
theorem VF : jV Tryz.prog 160 4 = true := by kernel_rfl
theorem yP (x : En) : ∀ v ∈ j3 x, v.oneCell' = true := by
 intro v hv
 simp only [j3, List.mem_cons, List.not_mem_nil, or_false] at hv
 rcases hv with rfl | rfl | rfl | rfl <;> rfl
theorem zZ {cur : Array Value} {l : List En} {m k : Nat} {x : En} (h6 : cur.toList.take (m * 4) = j7 l) (hx : l[k]? = some x) (hk : k < m) : ∀ j v, (j3 x)[j]? = some v → cur[0 + k * 4 + j]? = some v := by
 intro j v hj
 have hj4 : j < 4 := by have := (List.getElem?_eq_some_iff.1 hj).1; simpa [j3] using this
 have := qm l k j x hx hj4
 rw [← h6, List.getElem?_take_of_lt je, hj] at this
 rw [Nat.zero_add]
 simpa using this
theorem acP (bp : Nat) (p : Pl) (a : Option Addr) (c : Nat) (B : ja) (hR : Row 160 4 (.slice a p.list.length c) p.list.length (j7 p.list) B) (hl : p.list.length ≤ 9) :
 Spec Tryz.prog G 66 #[.pointer (some ⟨bp, 0, none⟩)] ((bp, .cells (jg p (.slice a p.list.length c)) 158 (0, 0)) :: (B ++ L)) fun u M => u = .int .i64 (Hg.opens p) ∧ M = (bp, .cells (jg p (.slice a p.list.length c)) 158 (0, 0)) :: (B ++ L) := by
 have pc0 : (jg (p) (.slice a p.list.length c))[0 + 0]? = some (.slice a p.list.length c) := rfl
 have pc1 : (jg (p) (.slice a p.list.length c))[0 + 1]? = some (.int .i64 ((p).asked : Nat)) := rfl
 have pc2 : (jg (p) (.slice a p.list.length c))[0 + 2]? = some (.int .i64 (p).want) := rfl
 have pc3 : (jg (p) (.slice a p.list.length c))[0 + 3]? = some (.int .i64 (p).tries) := rfl
 have pc4 : (jg (p) (.slice a p.list.length c))[0 + 4]? = some (.int .i64 (p).every) := rfl
 have pc5 : (jg (p) (.slice a p.list.length c))[0 + 5]? = some (.int .i64 (p).wait) := rfl
 have pc6 : (jg (p) (.slice a p.list.length c))[0 + 6]? = some (.int .i64 (p).start) := rfl
 have pc7 : (jg (p) (.slice a p.list.length c))[0 + 7]? = some (.int .i64 (p).now) := rfl
 have pc8 : (jg (p) (.slice a p.list.length c))[0 + 8]? = some (.int .i64 (p).reached) := rfl
 have pc9 : (jg (p) (.slice a p.list.length c))[0 + 9]? = some (.bool (p).made) := rfl
 have pc10 : (jg (p) (.slice a p.list.length c))[0 + 10]? = some (.bool (p).begins) := rfl
 have g1 : Option.isNone (some (⟨bp, 0, none⟩ : Addr)) = false := rfl
 refine jl (n := 23) Tryz.func66 rfl rfl rfl ?_
 refine goD ?_
 refine jA (σ := Nat) (fun k => k ≤ p.list.length) (fun k => [(3, .int .i64 (((p.list.take k).filter (·.op)).length : Nat)), (11, .slice a p.list.length c), (12, .int .i64 (p.list.length : Nat)), (13, .int .i64 (k : Nat))]) (fun k => (bp, .cells (jg p (.slice a p.list.length c)) 158 (0, 0)) :: (B ++ L)) (fun k => p.list.length - k) 0 (Nat.zero_le _) ?_ (fun w h => h) ?_
 exact ju
 intro k hk
 by_cases hlt : k < p.list.length
 · have d1 : decide (((k : Nat) : Int) < ((p.list.length : Nat) : Int)) = true := decide_eq_true je
   obtain ⟨x, hx⟩ : ∃ x, p.list[k]? = some x := ⟨_, List.getElem?_eq_getElem hlt⟩
   rcases hR.is with ⟨_, h, _⟩ | ⟨be, cap, cur, hsl, rfl, h3, h4, h5, h6⟩
   · omega
   cases hsl
   have hcx := zZ h6 hx hlt
   have hf : ((p.list.take (k + 1)).filter (·.op)).length = ((p.list.take k).filter (·.op)).length + (if x.op then 1 else 0) := by
    obtain ⟨hi, rfl⟩ := List.getElem?_eq_some_iff.1 hx
    rw [List.take_succ_eq_append_getElem hi, List.filter_append, List.length_append]
    cases hop : p.list[k].op <;> simp [hop]
   have hm : ((p.list.take k).filter (·.op)).length ≤ 9 := Nat.le_trans (List.length_filter_le _ _) (by simp; omega)
   refine goD ?_
   refine jz (jy (j3 x) rfl VF (List.mem_cons_of_mem _ (List.mem_cons_self ..)) hcx) rfl ?_
   repeat (first | refine goD ?_ | (refine jO ?_; intro bNew))
   cases hop : x.op with
   | false =>
     rw [hop] at hf
     refine goD ?_
     refine jh (k + 1) hlt ?_ (fun w h => h.tail) je
     rw [hf]
     exact ju
   | true =>
     rw [hop] at hf
     refine goD ?_
     refine jh (k + 1) hlt ?_ (fun w h => h.tail) je
     rw [hf]
     exact ju
 · have d1 : decide (((k : Nat) : Int) < ((p.list.length : Nat) : Int)) = false := decide_eq_false je
   have hkn : k = p.list.length := by omega
   subst hkn
   rw [List.take_length]
   refine goD ?_
   refine jf 2 _ rfl rfl ?_
   exact ⟨rfl, rfl⟩
theorem abW (bp : Nat) (p : Pl) (a : Option Addr) (c : Nat) (B : ja) (u : Int) (hR : Row 160 4 (.slice a p.list.length c) p.list.length (j7 p.list) B) (hl : p.list.length ≤ 9) :
 Spec Tryz.prog G 48 #[.pointer (some ⟨bp, 0, none⟩), .int .i64 u] ((bp, .cells (jg p (.slice a p.list.length c)) 158 (0, 0)) :: (B ++ L)) fun r M => r = .bool (Hg.close p u).2 ∧ ∃ B', Row 160 4 (.slice a p.list.length c) p.list.length (j7 (Hg.close p u).1.list) B' ∧
  M = (bp, .cells (jg (Hg.close p u).1 (.slice a p.list.length c)) 158 (0, 0)) :: (B' ++ L) := by
 have pc0 : (jg (p) (.slice a p.list.length c))[0 + 0]? = some (.slice a p.list.length c) := rfl
 have pc1 : (jg (p) (.slice a p.list.length c))[0 + 1]? = some (.int .i64 ((p).asked : Nat)) := rfl
 have pc2 : (jg (p) (.slice a p.list.length c))[0 + 2]? = some (.int .i64 (p).want) := rfl
 have pc3 : (jg (p) (.slice a p.list.length c))[0 + 3]? = some (.int .i64 (p).tries) := rfl
 have pc4 : (jg (p) (.slice a p.list.length c))[0 + 4]? = some (.int .i64 (p).every) := rfl
 have pc5 : (jg (p) (.slice a p.list.length c))[0 + 5]? = some (.int .i64 (p).wait) := rfl
 have pc6 : (jg (p) (.slice a p.list.length c))[0 + 6]? = some (.int .i64 (p).start) := rfl
 have pc7 : (jg (p) (.slice a p.list.length c))[0 + 7]? = some (.int .i64 (p).now) := rfl
 have pc8 : (jg (p) (.slice a p.list.length c))[0 + 8]? = some (.int .i64 (p).reached) := rfl
 have pc9 : (jg (p) (.slice a p.list.length c))[0 + 9]? = some (.bool (p).made) := rfl
 have pc10 : (jg (p) (.slice a p.list.length c))[0 + 10]? = some (.bool (p).begins) := rfl
 have g1 : Option.isNone (some (⟨bp, 0, none⟩ : Addr)) = false := rfl
 refine jl (n := 44) Tryz.func48 rfl rfl rfl ?_
 refine goD ?_
 refine jA (σ := Nat) (fun k => k ≤ p.list.length ∧ ∀ y ∈ p.list.take k, Hg.isIt u y = false) (fun k => [(0, .pointer (some ⟨bp, 0, none⟩)), (1, .int .i64 u), (12, .int .i64 (p.list.length : Nat)), (13, .int .i64 (k : Nat))]) (fun k => (bp, .cells (jg p (.slice a p.list.length c)) 158 (0, 0)) :: (B ++ L)) (fun k => p.list.length - k) 0 ⟨Nat.zero_le _, by simp⟩ ?_ (fun w h => h) ?_
 exact ju
 rintro k ⟨hk, hno⟩
 by_cases hlt : k < p.list.length
 · have d1 : decide (((k : Nat) : Int) < ((p.list.length : Nat) : Int)) = true := decide_eq_true je
   obtain ⟨x, hx⟩ : ∃ x, p.list[k]? = some x := ⟨_, List.getElem?_eq_getElem hlt⟩
   rcases hR.is with ⟨_, h, _⟩ | ⟨be, cap, cur, hsl, rfl, h3, h4, h5, h6⟩
   · omega
   cases hsl
   have hcx := zZ h6 hx hlt
   have n0 : cur[0 + k * 4 + 0]? = some (.int .i64 x.up) := hcx 0 _ rfl
   have n3 : cur[0 + k * 4 + 3]? = some (.bool x.op) := hcx 3 _ rfl
   cases hup : x.up == u with
   | false =>
     refine goD ?_
     refine jh (k + 1) ⟨hlt, VE hno hx (by simp [Hg.isIt, hup])⟩ ?_ (fun w h => h) je
     exact ju
   | true =>
     cases hop : x.op with
     | false =>
       rw [hop] at n3
       refine goD ?_
       refine jh (k + 1) ⟨hlt, VE hno hx (by simp [Hg.isIt, hop])⟩ ?_ (fun w h => h) je
       exact ju
     | true =>
       rw [hop] at n3
       obtain ⟨k1, k2⟩ := QJ u p.list k x hno hx (by simp [Hg.isIt, hop, hup])
       refine goD ?_
       refine jf 4 _ rfl rfl ?_
       refine ⟨by rw [Hg.close, k2], [(be, Obj.cells (cur.setIfInBounds (0 + k * 4 + 3) (.bool false)) 160 (0, 0))], ?_, rfl⟩
       refine ⟨by simp only [Hg.close]; rw [k1, qI, List.length_set], Or.inr ⟨be, c, _, rfl, rfl, h3, h4, by simpa using h5, ?_⟩⟩
       simp only [Hg.close]
       rw [k1, take_set, h6, JC _ _ _ hx, Nat.zero_add]
 · have d1 : decide (((k : Nat) : Int) < ((p.list.length : Nat) : Int)) = false := decide_eq_false je
   have hkn : k = p.list.length := by omega
   subst hkn
   rw [List.take_length] at hno
   obtain ⟨k1, k2⟩ := JD u p.list hno
   refine goD ?_
   refine jf 4 _ rfl rfl ?_
   refine ⟨by rw [Hg.close, k2], B, ?_, rfl⟩
   simp only [Hg.close]
   rw [k1]
   exact hR
theorem Uy (va vb : Value) (la lb : List Int) (ha : IRow L va la) (hb : IRow L vb lb) (hla : la.length ≤ 1000000) : Spec Tryz.prog G 57 #[va, vb] L fun u M => u = .bool (la == lb) ∧ M = L := by
 obtain ⟨aa, ca, rfl, ha⟩ := ha
 obtain ⟨ab, cb, rfl, hb⟩ := hb
 refine jl (n := 26) Tryz.func57 rfl rfl rfl ?_
 by_cases hlen : la.length = lb.length
 · have d0 : (((la.length : Nat) : Int) != ((lb.length : Nat) : Int)) = false := by simp [hlen]
   refine goD ?_
   refine jA (σ := Nat) (fun k => k ≤ la.length ∧ la.take k = lb.take k) (fun k => [(0, .slice aa la.length ca), (1, .slice ab lb.length cb), (5, .int .i64 (k : Nat))]) (fun k => L) (fun k => la.length - k) 0 ⟨Nat.zero_le _, by simp⟩ ?_ (fun w h => h) ?_
   exact ju
   rintro k ⟨hk, heq⟩
   by_cases hlt : k < la.length
   · have d1 : decide (((k : Nat) : Int) < ((la.length : Nat) : Int)) = true := decide_eq_true je
     obtain ⟨x, hx⟩ : ∃ x, la[k]? = some x := ⟨_, List.getElem?_eq_getElem hlt⟩
     obtain ⟨y, hy⟩ : ∃ y, lb[k]? = some y := ⟨_, List.getElem?_eq_getElem (hlen ▸ hlt)⟩
     rcases ha with rfl | ⟨b1, o1, C1, t1, f1, rfl, m1, q1⟩
     · simp at hlt
     rcases hb with rfl | ⟨b2, o2, C2, t2, f2, rfl, m2, q2⟩
     · simp at hy
     have r1 := q1 k x hx
     have r2 := q2 k y hy
     have hK : ∀ z ∈ [(b1, Obj.cells C1 t1 f1), (b2, Obj.cells C2 t2 f2)], z ∈ L := fun z hz => by
      simp only [List.mem_cons, List.not_mem_nil, or_false] at hz
      rcases hz with rfl | rfl <;> assumption
     by_cases hxy : x = y
     · have d2 : (x != y) = false := by simp [hxy]
       refine goD ?_
       refine jw jc ([(b1, Obj.cells C1 t1 f1), (b2, Obj.cells C2 t2 f2)]) [] ?_
       refine tkQ 0 ?_
       refine tkQ 1 ?_
       refine tkQ 2 ?_
       refine tkQ 3 ?_
       refine tkQ 4 ?_
       refine tkQ 5 ?_
       refine tkQ 6 ?_
       refine tkQ 7 ?_
       refine tkQ 8 ?_
       refine tdQ ?_
       refine goD ?_
       refine jh (k + 1) ⟨hlt, ?_⟩ ?_ (fun w h => h) je
       · subst hxy
         rw [List.take_add_one, List.take_add_one, heq, hx, hy]
       exact ju
     · have d2 : (x != y) = true := by simp [hxy]
       refine goD ?_
       refine jw jc ([(b1, Obj.cells C1 t1 f1), (b2, Obj.cells C2 t2 f2)]) [] ?_
       refine tkQ 0 ?_
       refine tkQ 1 ?_
       refine tkQ 2 ?_
       refine tkQ 3 ?_
       refine tkQ 4 ?_
       refine tkQ 5 ?_
       refine tkQ 6 ?_
       refine tkQ 7 ?_
       refine tkQ 8 ?_
       refine tdQ ?_
       refine goD ?_
       refine jf 4 _ rfl rfl ?_
       refine ⟨?_, rfl⟩
       have : la ≠ lb := fun e => hxy (by rw [e, hy] at hx; exact (Option.some.inj hx).symm)
       simp [this]
   · have d1 : decide (((k : Nat) : Int) < ((la.length : Nat) : Int)) = false := decide_eq_false je
     have hkn : k = la.length := by omega
     subst hkn
     rw [List.take_length, hlen, List.take_length] at heq
     refine goD ?_
     refine jf 4 _ rfl rfl ?_
     exact ⟨by simp [heq], rfl⟩
 · have d0 : (((la.length : Nat) : Int) != ((lb.length : Nat) : Int)) = true := by simp; omega
   refine goD ?_
   refine jf 4 _ rfl rfl ?_
   refine ⟨?_, rfl⟩
   have : la ≠ lb := fun e => hlen (by rw [e])
   simp [this]
end Go.Proofs.YtbjkkoacclfejaaGreat
namespace Go.Proofs.YtbjkkoacclfejaaGreat
open Go.RowKit
open Hg (En Pl)
variable {G : World} {L : ja}
structure IsPlan (bp : Nat) (p : Pl) (M : ja) : Prop where
 is : ∃ a c B, Row 160 4 (.slice a p.list.length c) p.list.length (j7 p.list) B ∧ M = (bp, .cells (jg p (.slice a p.list.length c)) 158 (0, 0)) :: B
 good : Good p
theorem VG (u : Int) : Built Tryz.prog 160 [(0, .int .i64 u)] (.agg #[.int .i64 u, .int .i64 0, .int .i64 0, .bool false]) := ⟨fun w => by kernel_rfl⟩
theorem WC (a b c d e f : Int) : Built Tryz.prog 158 [(2, .int .i64 a), (3, .int .i64 b), (4, .int .i64 c), (5, .int .i64 d), (6, .int .i64 e), (7, .int .i64 f), (9, .bool true)] (.agg #[.slice none 0 0, .int .i64 0, .int .i64 a, .int .i64 b, .int .i64 c, .int .i64 d, .int .i64 e, .int .i64 f, .int .i64 0, .bool true, .bool false]) := ⟨fun w => by kernel_rfl⟩
def yv (l : List Int) : Array Value := #[.bool (l.contains 0), .bool (l.contains 1), .bool (l.contains 2), .bool (l.contains 3), .bool (l.contains 4), .bool (l.contains 5), .bool (l.contains 6), .bool (l.contains 7), .bool (l.contains 8)]
theorem ae3 {u : Int} (h0 : 0 ≤ u) (h8 : u ≤ 8) : u = 0 ∨ u = 1 ∨ u = 2 ∨ u = 3 ∨ u = 4 ∨ u = 5 ∨ u = 6 ∨ u = 7 ∨ u = 8 := by omega
theorem Yg (l : List Int) (u : Int) (h0 : 0 ≤ u) (h8 : u ≤ 8) : (yv l)[0 + u.toNat * 1]? = some (.bool (l.contains u)) := by
 rcases ae3 h0 h8 with rfl | rfl | rfl | rfl | rfl | rfl | rfl | rfl | rfl <;> rfl
theorem VH (l : List Int) (u : Int) (h0 : 0 ≤ u) (h8 : u ≤ 8) : (yv l).setIfInBounds (0 + u.toNat * 1) (.bool true) = yv (l ++ [u]) := by
 rcases ae3 h0 h8 with rfl | rfl | rfl | rfl | rfl | rfl | rfl | rfl | rfl <;> simp [yv]
theorem Row.src {sz : Nat} {b : Nat} {cs : List Value} {te : TypeId} (hm : (b, Obj.cells cs.toArray te (0, 0)) ∈ L) (hn : cs.length = sz) (hone : ∀ v ∈ cs, v.oneCell' = true) : Src L (.slice (some ⟨b, 0, none⟩) 1 1) 1 cs sz :=
 ⟨by omega, hone, Or.inr ⟨b, 0, 1, cs.toArray, te, (0, 0), rfl, hm, fun j x hj => by rw [Nat.zero_add]; simpa using hj⟩⟩
theorem Yh (l : List Int) (want every wait tries now : Int) (h9 : l.length ≤ 9) (hw : 1 ≤ want ∧ want ≤ 9) (he : 1 ≤ every ∧ every ≤ 1000) (ha : 1 ≤ wait ∧ wait ≤ 1000) (ht : 1 ≤ tries ∧ tries ≤ 4) (ho : 0 ≤ now ∧ now ≤ 1099511627776) : Good (Hg.mk l want every wait tries now) :=
 ⟨by simpa [Hg.mk] using h9, by simp [Hg.mk], hw, ht, he, ha, ⟨ho.1, Int.le_refl _, ho.2⟩, ⟨by simp [Hg.mk], by simp [Hg.mk, Hg.top]⟩, fun x hx => by
   simp only [Hg.mk, List.mem_map] at hx
   obtain ⟨u, _, rfl⟩ := hx
   simp only [Hg.fresh, Hg.mk]
   omega⟩
theorem ae4 (vl : Value) (l : List Int) (want every wait tries now : Int) (hl : IRow L vl l) (h9 : l.length ≤ 9) (hr : ∀ u ∈ l, 0 ≤ u ∧ u ≤ 8) (hn : l.Nodup) (hw : 1 ≤ want ∧ want ≤ 9) (he : 1 ≤ every ∧ every ≤ 1000) (ha : 1 ≤ wait ∧ wait ≤ 1000) (ht : 1 ≤ tries ∧ tries ≤ 4) (ho : 0 ≤ now ∧ now ≤ 1099511627776) :
 Spec Tryz.prog G 40 #[vl, .int .i64 want, .int .i64 every, .int .i64 wait, .int .i64 tries, .int .i64 now] L fun u M => ∃ bp N, u = .tuple #[.pointer (some ⟨bp, 0, none⟩), .int .i64 0] ∧ IsPlan bp (Hg.mk l want every wait tries now) N ∧ M = N ++ L := by
 obtain ⟨al, cl, rfl, hl⟩ := hl
 have d0 : decide ((9 : Int) < ((l.length : Nat) : Int)) = false := decide_eq_false je
 have w1 : decide (want < 1) = false := decide_eq_false je
 have w2 : decide (9 < want) = false := decide_eq_false je
 have e1 : decide (every < 1) = false := decide_eq_false je
 have e2 : decide (1000 < every) = false := decide_eq_false je
 have a1 : decide (wait < 1) = false := decide_eq_false je
 have a2 : decide (1000 < wait) = false := decide_eq_false je
 have t1 : decide (tries < 1) = false := decide_eq_false je
 have t2 : decide (4 < tries) = false := decide_eq_false je
 have o1 : decide (now < 0) = false := decide_eq_false je
 have o2 : decide (1099511627776 < now) = false := decide_eq_false je
 refine jl (n := 106) Tryz.func40 rfl rfl rfl ?_
 repeat (first | refine goD ?_ | (refine jO ?_; intro bNew))
 refine jA (σ := Nat) (fun k => k ≤ l.length) (fun k => [(0, .slice al l.length cl), (1, .int .i64 want), (2, .int .i64 every), (3, .int .i64 wait), (4, .int .i64 tries), (5, .int .i64 now), (14, .pointer (some ⟨bNew, 0, none⟩)), (23, .slice al l.length cl), (24, .int .i64 (l.length : Nat)), (25, .int .i64 (k : Nat))]) (fun k => (bNew, .cells (yv (l.take k)) 48 (0, 0)) :: L) (fun k => l.length - k) 0 (Nat.zero_le _) ?_ (fun w h => h) ?_
 exact ju
 intro k hk
 by_cases hlt : k < l.length
 · have d1 : decide (((k : Nat) : Int) < ((l.length : Nat) : Int)) = true := decide_eq_true je
   obtain ⟨x, hx⟩ : ∃ x, l[k]? = some x := ⟨_, List.getElem?_eq_getElem hlt⟩
   obtain ⟨r1, r2⟩ := hr x (List.mem_of_getElem? hx)
   rcases hl with rfl | ⟨b1, o1, C1, t1, f1, rfl, m1, q1⟩
   · simp at hlt
   have c1 := q1 k x hx
   have g1 : decide (x < 0) = false := decide_eq_false je
   have g2 : decide (9 ≤ x) = false := decide_eq_false je
   have g3 := Yg (l.take k) x r1 r2
   have g4 : (l.take k).contains x = false := by
    obtain ⟨hi, rfl⟩ := List.getElem?_eq_some_iff.1 hx
    rw [List.contains_eq_mem, decide_eq_false_iff_not]
    intro hm
    obtain ⟨j, hj, e⟩ := List.getElem_of_mem hm
    have hj' : j < k := by simp at hj; omega
    rw [List.getElem_take] at e
    have := (List.getElem_inj hn).1 e
    omega
   rw [g4] at g3
   refine goD ?_
   refine jh (k + 1) hlt ?_ (fun w h => ?_) je
   exact ju
   rw [VH _ _ r1 r2] at h
   obtain ⟨hi, rfl⟩ := List.getElem?_eq_some_iff.1 hx
   rw [List.take_succ_eq_append_getElem hi]
   exact h
 have d1 : decide (((k : Nat) : Int) < ((l.length : Nat) : Int)) = false := decide_eq_false je
 refine goD ?_
 refine jz (jm (vs := [(2, .int .i64 want), (3, .int .i64 tries), (4, .int .i64 every), (5, .int .i64 wait), (6, .int .i64 now), (7, .int .i64 now), (9, .bool true)]) rfl (WC ..)) rfl ?_
 refine jP (V0 rfl rfl) rfl ?_
 intro bp
 refine goD ?_
 obtain ⟨P0, hP0⟩ : ∃ P0, P0 = Hg.mk l want every wait tries now := ⟨_, rfl⟩
 refine jA (σ := Nat × Option Addr × Nat × ja) (fun x => x.1 ≤ l.length ∧ Row 160 4 (.slice x.2.1 x.1 x.2.2.1) x.1 (j7 ((l.take x.1).map Hg.fresh)) x.2.2.2) (fun x => [(17, .pointer (some ⟨bp, 0, none⟩)), (87, .slice al l.length cl), (88, .int .i64 (l.length : Nat)), (89, .int .i64 (x.1 : Nat))]) (fun x => (bp, .cells (jg P0 (.slice x.2.1 x.1 x.2.2.1)) 158 (0, 0)) :: (x.2.2.2 ++ L)) (fun x => l.length - x.1) (0, none, 0, []) ⟨Nat.zero_le _, Row.nil _ _⟩ ?_ (fun w h => ?_) ?_
 exact ju
 · rw [hP0]
   exact h.sub ((List.sublist_cons_self _ _).cons_cons _)
 rintro ⟨k, a, c, B⟩ ⟨hk, hR⟩
 dsimp only at hk hR ⊢
 by_cases hlt : k < l.length
 · have d1 : decide (((k : Nat) : Int) < ((l.length : Nat) : Int)) = true := decide_eq_true je
   obtain ⟨x, hx⟩ : ∃ x, l[k]? = some x := ⟨_, List.getElem?_eq_getElem hlt⟩
   rcases hl with rfl | ⟨b1, o1, C1, t1, f1, rfl, m1, q1⟩
   · simp at hlt
   have c1 := q1 k x hx
   have m2 : (b1, Obj.cells C1 t1 f1) ∈ B ++ L := List.mem_append_right _ m1
   have pc0 : (jg P0 (.slice a k c))[0 + 0]? = some (.slice a k c) := rfl
   refine goD ?_
   refine jz (jm (vs := [(0, .int .i64 x)]) rfl (VG x)) rfl ?_
   refine jP (j9 rfl (uC (C := (j3 (Hg.fresh x)).toArray) etO [.agg (j3 (Hg.fresh x)).toArray] rfl (by simp [j3, Value.cells]) (by decide) rfl)) rfl ?_
   intro bl
   refine qD (L' := B ++ ((bl, Obj.cells (j3 (Hg.fresh x)).toArray 160 (0, 0)) :: (bp, .cells (jg P0 (.slice a k c)) 158 (0, 0)) :: L)) ?_ ?_
   · exact (List.perm_middle (a := (bp, Obj.cells (jg P0 (.slice a k c)) 158 (0, 0))).symm.cons _).trans List.perm_middle.symm
   refine zH etO rfl rfl hR (Row.src (List.mem_cons_self ..) (by rfl) (yP _)) (by unfold maxLen; omega) je rfl ?_
   intro v2 B2 hR2
   obtain ⟨a2, c2, rfl⟩ := hR2.slice
   refine kX (L' := (bp, .cells (jg P0 (.slice a k c)) 158 (0, 0)) :: (B2 ++ L)) (fun w h => ?_) ?_
   · exact (h.perm List.perm_middle).tail.perm List.perm_middle
   refine goD ?_
   refine jh (k + 1, a2, c2, B2) ⟨hlt, ?_⟩ ?_ (fun w h => h) (by dsimp only; omega)
   · obtain ⟨hi, rfl⟩ := List.getElem?_eq_some_iff.1 hx
     dsimp only
     rw [List.take_succ_eq_append_getElem hi, List.map_append]
     simpa [j7] using hR2
   exact ju
 have d1 : decide (((k : Nat) : Int) < ((l.length : Nat) : Int)) = false := decide_eq_false je
 have hkn : k = l.length := by omega
 subst hkn
 rw [List.take_length] at hR
 refine goD ?_
 refine jN 12 13 _ _ rfl rfl rfl ?_
 refine ⟨bp, (bp, .cells (jg P0 (.slice a l.length c)) 158 (0, 0)) :: B, rfl, ⟨⟨a, c, B, ?_, ?_⟩, Yh l want every wait tries now h9 hw he ha ht ho⟩, rfl⟩
 · simpa [Hg.mk] using hR
 · rw [hP0]; simp [Hg.mk]
end Go.Proofs.YtbjkkoacclfejaaGreat
