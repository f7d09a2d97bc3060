/-
 Part 7: Gv Gw Qe Qf Qg Gx Qh Ks Eb Hm Hw Hx Hy Hz Hc.
-/
import Derived.Test.YtbjkkoacclfejaaGreatZs5
import Derived.Test.YtbjkkoacclfejaaGreatZs1
import Derived.Test.YtbjkkoacclfejaaGreatZs2
import Derived.Sort.Walk0
import Derived.Lib.SlicesCompact
import Derived.Test.YtbjkkoacclfejaaGreatZs6
set_option maxRecDepth 100000
set_option maxHeartbeats 4000000
set_option linter.unusedVariables false
set_option linter.unusedSimpArgs false
namespace Go.Proofs.YtbjkkoacclfejaaGreat
open Go.RowKit
open Vd (RSet Vdt Vote Rec Quest Piece Ballot Said)
def endedR (q : Quest) (K D : ja) : List Value → Vote → Prop := fun cs x => ∃ a1 c1 a2 c2 a3 c3, cs = [.int .i64 x.up, .int .u8 x.vd.code, .slice a1 x.vd.sets.length c1, .slice a2 x.vd.soa.length c2, .int .u32 x.time, .string (bs (Vd.endV q x.vd).1.name), .int .u16 (Vd.endV q x.vd).1.kind, .int .u16 (Vd.endV q x.vd).1.cls, .int .u32 (Vd.endV q x.vd).1.ttl, .slice a3 (Vd.endV q x.vd).1.data.length c3, .bool (Vd.endV q x.vd).2] ∧
 voteR K [.int .i64 x.up, .int .u8 x.vd.code, .slice a1 x.vd.sets.length c1, .slice a2 x.vd.soa.length c2, .int .u32 x.time] x ∧ rsR D [.string (bs (Vd.endV q x.vd).1.name), .int .u16 (Vd.endV q x.vd).1.kind, .int .u16 (Vd.endV q x.vd).1.cls, .int .u32 (Vd.endV q x.vd).1.ttl, .slice a3 (Vd.endV q x.vd).1.data.length c3] (Vd.endV q x.vd).1
def qZ (q : Quest) (x : Vote) : List Vd.Bytes := if (Vd.endV q x.vd).2 then (Vd.endV q x.vd).1.data else []
def ki (q : Quest) (l : List Vote) : List Vd.Bytes := l.flatMap (qZ q)
theorem JD {q : Quest} {l : List Vote} {i : Nat} {x : Vote} (h : l[i]? = some x) : ki q (l.take (i + 1)) = ki q (l.take i) ++ qZ q x := by
 unfold ki
 rw [List.take_add_one, h]
 simp
theorem K5 (q : Quest) (n : Nat) (l : List Vote) (hl : ∀ x ∈ l, (Vd.endV q x.vd).1.data.length ≤ n) : ∀ i, i ≤ l.length → (ki q (l.take i)).length ≤ i * n
 | 0, _ => by simp [ki]
 | i + 1, h => by
   have ih := K5 q n l hl i jd
   have hx : l[i]? = some l[i] := List.getElem?_eq_getElem jd
   rw [JD hx, List.length_append, Nat.succ_mul]
   have := hl l[i] (List.getElem_mem _)
   unfold qZ
   split <;> simp <;> omega
variable {G : World} {L : ja}
theorem aaL {K D : ja} (v : Value) (q : Quest) (l : List Vote) (hDL : ∀ p ∈ D, p ∈ L) (hq1 : q.name.length ≤ 1000000) (hq2 : 0 ≤ q.kind ∧ q.kind ≤ 65535) (hq3 : 0 ≤ q.cls ∧ q.cls ≤ 65535) (hl : sliceR 11 (fun _ => endedR q K D) L [v] l) (hn : l.length ≤ 100) (hd : ∀ x ∈ l, (Vd.endV q x.vd).1.data.length ≤ 600) :
 Spec Tryz.prog G 83 #[.agg #[.string (bs q.name), .int .u16 q.kind, .int .u16 q.cls], v] L (abS L ⟨0, [⟨Nm.fold q.name, q.kind, q.cls, 0, Lib.compact ((ki q l).mergeSort fun x y => decide (x ≤ y))⟩], []⟩) := by
 obtain ⟨av, cv, e1, hl⟩ := hl.val
 simp only [List.cons.injEq, and_true] at e1
 subst e1
 obtain ⟨_, ka1, ka2, hl⟩ := sliceR.cut hl
 have hln := K5 q 600 l hd
 refine jm (n := 42) Tryz.func83 rfl rfl rfl ?_
 refine kh (jY (j0 (kF rfl) rfl ?_))
 intro bQ
 refine j0 (kk (C := #[.int .u8 0, .slice none 0 0, .slice none 0 0]) zeO rfl) rfl ?_
 intro b4
 have hKm : ∀ z ∈ [(bQ, Obj.cells #[.string (bs q.name), .int .u16 q.kind, .int .u16 q.cls] 24 (0, 0))], z ∈ (b4, Obj.cells #[.int .u8 0, .slice none 0 0, .slice none 0 0] 40 (0, 0)) :: ((bQ, Obj.cells #[.string (bs q.name), .int .u16 q.kind, .int .u16 q.cls] 24 (0, 0)) :: L) := jf
 refine goA ?_
 refine jq jb ([(bQ, Obj.cells #[.string (bs q.name), .int .u16 q.kind, .int .u16 q.cls] 24 (0, 0))]) [] ?_
 refine tkQ 0 ?_
 refine tkQ 1 ?_
 refine' jp 2 rfl rfl je (jV je rfl (fun _ _ => YU _ ?_)) ?_ ?_; (· omega); (· assumption)
 refine tkQ 3 ?_
 refine tkQ 4 ?_
 refine tkQ 5 ?_
 refine tkQ 6 ?_
 (refine' jp 7 rfl rfl je (jL (jl rfl (Jl _ _ _))) ?_ ?_; (· assumption))
 refine jF 8 je rfl rfl rfl rfl (kk (C := #[.string (bs []), .int .u16 0, .int .u16 0, .int .u32 0, .slice none 0 0]) zeO rfl) ?_; rintro _ _ ⟨b5, rfl, rfl⟩; refine ⟨Or.inr jf, ?_⟩
 refine jZ 9 je rfl rfl rfl (qg rfl rfl stO rfl rfl rfl) ?_; rintro _ _ ⟨_, rfl⟩; refine ⟨Or.inr jf, ?_⟩
 refine tdQ ?_
 refine goA ?_
 refine jy (σ := Nat × Option Addr × Nat × ja) (fun y => y.1 ≤ l.length ∧ ORow qB 9 1 [] y.2.1 y.2.2.1 (ki q (l.take y.1)) y.2.2.2) (fun y => [(4, .pointer (some ⟨b4, 0, none⟩)), (5, .pointer (some ⟨b5, 0, none⟩)), (16, .slice av l.length cv), (17, .int .i64 (l.length : Nat)), (18, .int .i64 (y.1 : Nat))])
  (fun y => (b5, Obj.cells #[.string (bs (Nm.fold q.name)), .int .u16 q.kind, .int .u16 q.cls, .int .u32 0, .slice y.2.1 (ki q (l.take y.1)).length y.2.2.1] 122 (0, 0)) :: ((b4, Obj.cells #[.int .u8 0, .slice none 0 0, .slice none 0 0] 40 (0, 0)) :: (y.2.2.2 ++ L))) (fun y => l.length - y.1) (0, none, 0, []) ⟨Nat.zero_le _, ORow.nil _⟩ ?_ (fun w h => Heap.cnt (L' := (b5, Obj.cells #[.string (bs (Nm.fold q.name)), .int .u16 q.kind, .int .u16 q.cls, .int .u32 0, .slice none 0 0] 122 (0, 0)) :: ((b4, Obj.cells #[.int .u8 0, .slice none 0 0, .slice none 0 0] 40 (0, 0)) :: ([] ++ L))) h jn) ?_
 exact jr
 rintro ⟨i, a, c, B⟩ ⟨hi, hB⟩
 dsimp only at hi hB ⊢
 have hlni := hln i hi
 have hlb : i * 600 ≤ 100 * 600 := Nat.mul_le_mul_right _ jd
 by_cases hil : i < l.length
 · obtain ⟨x, hx⟩ : ∃ x, l[i]? = some x := ⟨_, List.getElem?_eq_getElem hil⟩
   have hxm := List.mem_of_getElem? hx
   have htk := JD (q := q) hx
   rcases hl with rfl | ⟨b1, o1, C1, t1, f1, rfl, m1, q1⟩
   · simp at hil
   obtain ⟨_, _, ⟨a1, c1, a2, c2, a3, c3, rfl, _, hend⟩, hcx⟩ := q1 i x hx
   obtain ⟨a3', c3', hee, hed, _⟩ := hend.vals
   simp only [List.cons.injEq, and_true, true_and, Value.slice.injEq] at hee
   obtain ⟨rfl, rfl⟩ := hee
   have hdx := hd x hxm
   have m1' : (b1, Obj.cells C1 t1 f1) ∈ (b5, Obj.cells #[.string (bs (Nm.fold q.name)), .int .u16 q.kind, .int .u16 q.cls, .int .u32 0, .slice a (ki q (l.take i)).length c] 122 (0, 0)) :: ((b4, Obj.cells #[.int .u8 0, .slice none 0 0, .slice none 0 0] 40 (0, 0)) :: (B ++ L)) := List.mem_cons_of_mem _ (List.mem_cons_of_mem _ (List.mem_append_right _ m1))
   refine goA ?_
   refine jB (jA [.int .i64 x.up, .int .u8 x.vd.code, .slice a1 x.vd.sets.length c1, .slice a2 x.vd.soa.length c2, .int .u32 x.time, .string (bs (Vd.endV q x.vd).1.name), .int .u16 (Vd.endV q x.vd).1.kind, .int .u16 (Vd.endV q x.vd).1.cls, .int .u32 (Vd.endV q x.vd).1.ttl, .slice a3 (Vd.endV q x.vd).1.data.length c3, .bool (Vd.endV q x.vd).2] rfl stL m1' hcx) rfl ?_
   cases his : (Vd.endV q x.vd).2 with
   | false =>
     have hed0 : qZ q x = [] := by unfold qZ; rw [his]; rfl
     rw [hed0, List.append_nil] at htk
     repeat (first | refine goA ?_ | (refine jO ?_; intro bNew))
     refine jh (i + 1, a, c, B) ⟨hil, by dsimp only; rw [htk]; exact hB⟩ ?_ (fun w h => by dsimp only; rw [htk]; exact h.tail) (by dsimp only; omega)
     exact jr
   | true =>
     have hed0 : qZ q x = (Vd.endV q x.vd).1.data := by unfold qZ; rw [his]; rfl
     rw [hed0] at htk
     repeat (first | refine goA ?_ | (refine jO ?_; intro bNew))
     refine jH (L' := B ++ ((b5, Obj.cells #[.string (bs (Nm.fold q.name)), .int .u16 q.kind, .int .u16 q.cls, .int .u32 0, .slice a (ki q (l.take i)).length c] 122 (0, 0)) :: ((b4, Obj.cells #[.int .u8 0, .slice none 0 0, .slice none 0 0] 40 (0, 0)) :: L))) ?_ jn
     refine jw (kP (L0 := D) (l := ki q (l.take i)) (m := (Vd.endV q x.vd).1.data) etO rfl rfl rfl rfl (hB.mono kK (by simp)) hed (fun p hp => List.mem_cons_of_mem _ (List.mem_cons_of_mem _ (hDL p hp))) kK ZT jd (by decide)) rfl ?_
     rintro _ _ ⟨a', c', B', rfl, hB', rfl⟩
     refine jH (L' := (b5, Obj.cells #[.string (bs (Nm.fold q.name)), .int .u16 q.kind, .int .u16 q.cls, .int .u32 0, .slice a (ki q (l.take i)).length c] 122 (0, 0)) :: ((b4, Obj.cells #[.int .u8 0, .slice none 0 0, .slice none 0 0] 40 (0, 0)) :: (B' ++ L))) ?_ jn
     repeat (refine jB (ui rfl Qj) rfl ?_)
     refine qG (C' := #[.string (bs (Nm.fold q.name)), .int .u16 q.kind, .int .u16 q.cls, .int .u32 0, .slice a' (ki q (l.take i) ++ (Vd.endV q x.vd).1.data).length c']) rfl rfl onO rfl rfl rfl ?_
     refine goA ?_
     refine jh (i + 1, a', c', B') ⟨hil, by dsimp only; rw [htk]; exact hB'.imp (L' := []) (fun cs y _ h => h)⟩ ?_ (fun w h => by dsimp only; rw [htk]; exact h) (by dsimp only; omega)
     exact jr
 · have hie : i = l.length := by omega
   subst hie
   rw [List.take_length] at hB hlni ⊢
   refine goA ?_
   refine jw (OpT.heap (L' := B ++ ((b5, Obj.cells #[.string (bs (Nm.fold q.name)), .int .u16 q.kind, .int .u16 q.cls, .int .u32 0, .slice a (ki q l).length c] 122 (0, 0)) :: ((b4, Obj.cells #[.int .u8 0, .slice none 0 0, .slice none 0 0] 40 (0, 0)) :: L))) (fun w h => h.cnt jn) (jc je rfl (ae2 a c _ B hB jd))) rfl ?_
   rintro _ _ ⟨rfl, B', hB', rfl⟩
   have hsl : ((ki q l).mergeSort fun x y => decide (x ≤ y)).length = (ki q l).length := List.length_mergeSort _
   refine jH (L' := (b5, Obj.cells #[.string (bs (Nm.fold q.name)), .int .u16 q.kind, .int .u16 q.cls, .int .u32 0, .slice a (ki q l).length c] 122 (0, 0)) :: ((b4, Obj.cells #[.int .u8 0, .slice none 0 0, .slice none 0 0] 40 (0, 0)) :: (B' ++ L))) ?_ jn
   refine goA ?_
   rw [← hsl]
   refine jw (OpT.heap (L' := B' ++ ((b5, Obj.cells #[.string (bs (Nm.fold q.name)), .int .u16 q.kind, .int .u16 q.cls, .int .u32 0, .slice a ((ki q l).mergeSort fun x y => decide (x ≤ y)).length c] 122 (0, 0)) :: ((b4, Obj.cells #[.int .u8 0, .slice none 0 0, .slice none 0 0] 40 (0, 0)) :: L))) (fun w h => h.cnt jn) (jc je rfl (aaG a c _ B' hB' (by rw [hsl]; omega)))) rfl ?_
   rintro _ _ ⟨B2, rfl, hB2, rfl⟩
   refine jH (L' := (b5, Obj.cells #[.string (bs (Nm.fold q.name)), .int .u16 q.kind, .int .u16 q.cls, .int .u32 0, .slice a ((ki q l).mergeSort fun x y => decide (x ≤ y)).length c] 122 (0, 0)) :: ((b4, Obj.cells #[.int .u8 0, .slice none 0 0, .slice none 0 0] 40 (0, 0)) :: (B2 ++ L))) ?_ jn
   obtain ⟨R, hR⟩ : ∃ R, Lib.compact ((ki q l).mergeSort fun x y => decide (x ≤ y)) = R := ⟨_, rfl⟩
   rw [hR] at hB2 ⊢
   repeat (refine jB (ui rfl Qj) rfl ?_)
   refine qG (C' := #[.string (bs (Nm.fold q.name)), .int .u16 q.kind, .int .u16 q.cls, .int .u32 0, .slice a R.length c]) rfl rfl onO rfl rfl rfl ?_
   repeat (first | refine goA ?_ | refine jB (jl rfl (UO _ _ _ _)) rfl ?_ | (refine jS ?_; intro bLit))
   refine jH (L' := (b4, Obj.cells #[.int .u8 0, .slice none 0 0, .slice none 0 0] 40 (0, 0)) :: ((bLit, Obj.cells #[.string (bs (Nm.fold q.name)), .int .u16 q.kind, .int .u16 q.cls, .int .u32 0, .slice a R.length c] 122 (0, 0)) :: (B2 ++ L))) ?_ jn
   refine goA ?_
   have hr : rsR B2 [.string (bs (Nm.fold q.name)), .int .u16 q.kind, .int .u16 q.cls, .int .u32 0, .slice a R.length c] ⟨Nm.fold q.name, q.kind, q.cls, 0, R⟩ := ⟨_, rfl, hB2.sliceR kK (by simp) (fun p h => h), by have := ug q.name; unfold maxLen; dsimp only; omega, hq2, hq3, by simp⟩
   refine kT 4 40  rfl rfl  stO (by repeat (exact List.mem_cons_self)) rfl (fun w h => Heap.cnt (L' := [] ++ ([(bLit, Obj.cells #[.string (bs (Nm.fold q.name)), .int .u16 q.kind, .int .u16 q.cls, .int .u32 0, .slice a R.length c] 122 (0, 0))] ++ (B2 ++ L))) h jn) ?_
   exact ⟨_, _, _, none, 0, [], B2, rfl, QX hr, ORow.nil _, hB2.wr, rfl⟩
end Go.Proofs.YtbjkkoacclfejaaGreat
namespace Go.Proofs.YtbjkkoacclfejaaGreat
open Go.RowKit
open Vd (RSet Vdt Vote Rec Quest Piece Ballot Said)
def qo (q : Quest) (l : List Vote) : Bool := l.any fun x => (Vd.endV q x.vd).2
def J8 (q : Quest) (l : List Vote) : Vdt × Int × Bool :=
 match l with
 | [] => (Vdt.none, 0, false)
 | w :: r =>
   if !Nm.may q.name then (Vdt.none, 0, false)
   else if !Vd.alikeV (w :: r) w.vd && qo q (w :: r) then (⟨0, [⟨Nm.fold q.name, q.kind, q.cls, 0, Lib.compact ((ki q (w :: r)).mergeSort fun x y => decide (x ≤ y))⟩], []⟩, Vd.minTime (w :: r) w.time, true)
   else (match (w :: r)[Vd.firstAt (w :: r) (w :: r).length]? with | some x => x.vd | none => Vdt.none, Vd.minTime (w :: r) w.time, true)
def UnOut (L : ja) (r : Vdt × Int × Bool) (u : Value) (M : ja) : Prop := ∃ a c B a2 c2 B2 N, u = .tuple #[.agg #[.int .u8 r.1.code, .slice a r.1.sets.length c, .slice a2 r.1.soa.length c2], .int .u32 r.2.1, .bool r.2.2] ∧
 ORow rsR 122 5 N a c r.1.sets B ∧ ORow rsR 122 5 N a2 c2 r.1.soa B2 ∧ Wr N ∧ M = B2 ++ (B ++ (N ++ L))
variable {G : World} {L : ja}
theorem UnOut.no : UnOut L (Vdt.none, 0, false) (.tuple #[.agg #[.int .u8 0, .slice none 0 0, .slice none 0 0], .int .u32 0, .bool false]) L := ⟨none, 0, [], none, 0, [], [], rfl, ORow.nil _, ORow.nil _, Wr.nil, rfl⟩
theorem QA {K : ja} {x : Vote} {u t : Value} {s1 s2 : Value} (h : voteR K [u, .int .u8 x.vd.code, s1, s2, t] x) : vdR K [.int .u8 x.vd.code, s1, s2] x.vd := by
 obtain ⟨a, b, e, h1, h2, h3, _⟩ := h
 simp only [List.cons.injEq, and_true, true_and] at e
 obtain ⟨_, rfl, rfl, _⟩ := e
 exact ⟨_, _, rfl, h1, h2, h3⟩
theorem endedR.mono {q : Quest} {K D D' : ja} {cs : List Value} {x : Vote} (hD : ∀ p ∈ D, p ∈ D') (h : endedR q K D cs x) : endedR q K D' cs x := by
 obtain ⟨a1, c1, a2, c2, a3, c3, h1, h2, h3⟩ := h
 exact ⟨a1, c1, a2, c2, a3, c3, h1, h2, jC _ _ _ _ hD h3⟩
theorem endedR.one {q : Quest} {K D : ja} {cs : List Value} {x : Vote} (h : endedR q K D cs x) : ∀ v ∈ cs, v.oneCell' = true := by
 obtain ⟨a1, c1, a2, c2, a3, c3, rfl, _⟩ := h
 intro v hv
 simp only [List.mem_cons, List.not_mem_nil, or_false] at hv
 rcases hv with rfl | rfl | rfl | rfl | rfl | rfl | rfl | rfl | rfl | rfl | rfl <;> rfl
theorem acg {K : ja} (v : Value) (q : Quest) (l : List Vote) (hKL : ∀ p ∈ K, p ∈ L) (hq1 : q.name.length ≤ 1000000) (hq2 : 0 ≤ q.kind ∧ q.kind ≤ 65535) (hq3 : 0 ≤ q.cls ∧ q.cls ≤ 65535) (hl : sliceR 5 (fun _ => voteR K) L [v] l) (hn : l.length ≤ 100) (hd : ∀ x ∈ l, (Vd.endV q x.vd).1.data.length ≤ 600) (hs : ∀ x ∈ l, SmV x.vd) :
 Spec Tryz.prog G 56 #[.agg #[.string (bs q.name), .int .u16 q.kind, .int .u16 q.cls], v] L (UnOut L (J8 q l)) := by
 obtain ⟨av, cv, e1, hl⟩ := hl.val
 simp only [List.cons.injEq, and_true] at e1
 subst e1
 have hl0 := hl
 obtain ⟨_, ka1, ka2, hl⟩ := sliceR.cut hl
 refine jm (n := 110) Tryz.func56 rfl rfl rfl ?_
 refine kh (jY (j0 (kF rfl) rfl ?_))
 intro bQ
 refine j0 (kk (C := #[.int .u8 0, .slice none 0 0, .slice none 0 0]) zeO rfl) rfl ?_
 intro b4
 cases l with
 | nil =>
   have hU : J8 q [] = (Vdt.none, 0, false) := rfl
   rw [hU]
   have h0 : ((([] : List Vote).length : Nat) : Int) = 0 := rfl
   repeat (first | refine goA ?_ | refine jB (jl rfl (j8 )) rfl ?_)
   refine km 4 40 5 6 rfl rfl rfl rfl stO (by repeat (exact List.mem_cons_self)) rfl (fun w h => Heap.cnt (L' := L) h jn) ?_
   exact UnOut.no
 | cons w r =>
 obtain ⟨l, hll⟩ : ∃ l, w :: r = l := ⟨_, rfl⟩
 have hlpos : 0 < l.length := by rw [← hll]; simp
 have hw0 : l[0]? = some w := by rw [← hll]; rfl
 have hlne : ¬ ((l.length : Nat) : Int) = 0 := by omega
 have hU : J8 q l = if !Nm.may q.name then ((Vdt.none, 0, false) : Vdt × Int × Bool) else if !Vd.alikeV l w.vd && qo q l then (⟨0, [⟨Nm.fold q.name, q.kind, q.cls, 0, Lib.compact ((ki q l).mergeSort fun x y => decide (x ≤ y))⟩], []⟩, Vd.minTime l w.time, true)
  else (match l[Vd.firstAt l l.length]? with | some x => x.vd | none => Vdt.none, Vd.minTime l w.time, true) := by rw [← hll]; rfl
 rw [hll] at hl hl0 hn hd ka1 hs ⊢
 cases hm : Nm.may q.name with
 | false =>
   rw [hm] at hU
   simp only [Bool.not_false, if_true] at hU
   rw [hU]
   repeat (first | refine goA ?_ | (refine' kf (jc je rfl (KP _ ?_)) rfl ?_; (· omega)) | refine jB (jl rfl (j8 )) rfl ?_)
   refine km 4 40 5 6 rfl rfl rfl rfl stO (by repeat (exact List.mem_cons_self)) rfl (fun w h => Heap.cnt (L' := L) h jn) ?_
   exact UnOut.no
 | true =>
 rw [hm] at hU
 simp only [Bool.not_true, Bool.false_eq_true, if_false] at hU
 obtain ⟨CM, hCM⟩ : ∃ C, madeCells (Value.agg #[.int .i64 0, .int .u8 0, .slice none 0 0, .slice none 0 0, .int .u32 0, .string (bs []), .int .u16 0, .int .u16 0, .int .u32 0, .slice none 0 0, .bool false]).cells (((l.length : Nat) : Int).toNat * 11) = C := ⟨_, rfl⟩
 repeat (first | refine goA ?_ | (refine' kf (jc je rfl (KP _ ?_)) rfl ?_; (· omega)))
 refine j0 (adl (C := CM) etO rfl rfl jd jd jd jd hCM) rfl ?_
 intro bM
 refine goA ?_
 refine jy (σ := Nat × Option Addr × Nat × ja × ja) (fun y => y.1 ≤ l.length ∧ ORow (fun _ => endedR q K y.2.2.2.2) 187 11 [] y.2.1 y.2.2.1 (l.take y.1) y.2.2.2.1) (fun y => [(2, .pointer (some ⟨bQ, 0, none⟩)), (4, .pointer (some ⟨b4, 0, none⟩)), (7, .slice y.2.1 (l.take y.1).length y.2.2.1), (29, .slice av l.length cv), (30, .int .i64 (l.length : Nat)), (31, .int .i64 (y.1 : Nat))])
  (fun y => (bQ, Obj.cells #[.string (bs q.name), .int .u16 q.kind, .int .u16 q.cls] 24 (0, 0)) :: ((b4, Obj.cells #[.int .u8 0, .slice none 0 0, .slice none 0 0] 40 (0, 0)) :: (y.2.2.2.1 ++ (y.2.2.2.2 ++ L)))) (fun y => l.length - y.1) (0, some ⟨bM, 0, none⟩, ((l.length : Nat) : Int).toNat, [(bM, .cells CM 187 (0, 0))], []) ⟨Nat.zero_le _, ⟨[], Row.made (c := ((l.length : Nat) : Int).toNat) (by rw [← hCM]; exact size_madeCells _ _) (by unfold maxLen; omega), rfl, by simp⟩⟩ ?_ (fun w h => Heap.cnt (L' := (bQ, Obj.cells #[.string (bs q.name), .int .u16 q.kind, .int .u16 q.cls] 24 (0, 0)) :: ((b4, Obj.cells #[.int .u8 0, .slice none 0 0, .slice none 0 0] 40 (0, 0)) :: ([(bM, .cells CM 187 (0, 0))] ++ ([] ++ L)))) h jn) ?_
 exact jr
 rintro ⟨i, a, c, B, D⟩ ⟨hi, hB⟩
 dsimp only at hi hB ⊢
 by_cases hil : i < l.length
 · obtain ⟨x, hx⟩ : ∃ x, l[i]? = some x := ⟨_, List.getElem?_eq_getElem hil⟩
   have hxm := List.mem_of_getElem? hx
   have htk : l.take (i + 1) = l.take i ++ [x] := by rw [List.take_add_one, hx]; rfl
   have htl : (l.take i).length ≤ 100 := by rw [List.length_take]; omega
   rcases hl with rfl | ⟨b1, o1, C1, t1, f1, rfl, m1, q1⟩
   · simp at hil
   obtain ⟨_, _, hxv, hcx⟩ := q1 i x hx
   obtain ⟨a1, c1, a2, c2, rfl, hx1, hx2, hx3, hx4, hx5⟩ := hxv.vals
   have m1' : (b1, Obj.cells C1 t1 f1) ∈ (bQ, Obj.cells #[.string (bs q.name), .int .u16 q.kind, .int .u16 q.cls] 24 (0, 0)) :: ((b4, Obj.cells #[.int .u8 0, .slice none 0 0, .slice none 0 0] 40 (0, 0)) :: (B ++ (D ++ L))) := by simp [m1]
   refine goA ?_
   refine jB (jA [.int .i64 x.up, .int .u8 x.vd.code, .slice a1 x.vd.sets.length c1, .slice a2 x.vd.soa.length c2, .int .u32 x.time] rfl stL m1' hcx) rfl ?_
   refine j0 (kk (C := #[.int .i64 0, .int .u8 0, .slice none 0 0, .slice none 0 0, .int .u32 0]) zeO rfl) rfl ?_
   intro b9
   repeat (first | refine goA ?_ | (refine jO ?_; intro bNew) | refine jB (jl rfl (Wy _ _ _ _ _)) rfl ?_)
   revert bNew
   intro b10
   refine jB (jA [.int .u8 x.vd.code, .slice a1 x.vd.sets.length c1, .slice a2 x.vd.soa.length c2] rfl stL (List.mem_cons_of_mem _ (List.mem_cons_self ..)) (fun j v hj => by
    match j, hj with
    | 0, hj => exact hj
    | 1, hj => exact hj
    | 2, hj => exact hj)) rfl ?_
   skip
   refine jw (jc je rfl (ae1 x.vd q a1 a2 c1 c2 (jx jC _ _ _ _ (fun p hp => by have := hKL p hp; simp [this]) hx1) (fun s hsm => (hs x hxm).1.2 s hsm))) rfl ?_
   rintro _ _ ⟨a3, c3, B3, rfl, hB3, rfl, hr3⟩
   refine jH (L' := (b10, Obj.cells #[.int .i64 x.up, .int .u8 x.vd.code, .slice a1 x.vd.sets.length c1, .slice a2 x.vd.soa.length c2, .int .u32 x.time, .string (bs []), .int .u16 0, .int .u16 0, .int .u32 0, .slice none 0 0, .bool false] 187 (0, 0)) :: ((b9, Obj.cells #[.int .i64 x.up, .int .u8 x.vd.code, .slice a1 x.vd.sets.length c1, .slice a2 x.vd.soa.length c2, .int .u32 x.time] 65 (0, 0)) :: ((bQ, Obj.cells #[.string (bs q.name), .int .u16 q.kind, .int .u16 q.cls] 24 (0, 0)) :: ((b4, Obj.cells #[.int .u8 0, .slice none 0 0, .slice none 0 0] 40 (0, 0)) :: (B ++ ((B3 ++ D) ++ L)))))) ?_ jn
   refine goA ?_
   refine QE (yx (cs := [.string (bs (Vd.endV q x.vd).1.name), .int .u16 (Vd.endV q x.vd).1.kind, .int .u16 (Vd.endV q x.vd).1.cls, .int .u32 (Vd.endV q x.vd).1.ttl, .slice a3 (Vd.endV q x.vd).1.data.length c3]) rfl rfl stL hr3.one (by simp)) ?_
   refine qI (L' := (b10, Obj.cells #[.int .i64 x.up, .int .u8 x.vd.code, .slice a1 x.vd.sets.length c1, .slice a2 x.vd.soa.length c2, .int .u32 x.time, .string (bs (Vd.endV q x.vd).1.name), .int .u16 (Vd.endV q x.vd).1.kind, .int .u16 (Vd.endV q x.vd).1.cls, .int .u32 (Vd.endV q x.vd).1.ttl, .slice a3 (Vd.endV q x.vd).1.data.length c3, .bool false] 187 (0, 0)) :: ((b9, Obj.cells #[.int .i64 x.up, .int .u8 x.vd.code, .slice a1 x.vd.sets.length c1, .slice a2 x.vd.soa.length c2, .int .u32 x.time] 65 (0, 0)) :: ((bQ, Obj.cells #[.string (bs q.name), .int .u16 q.kind, .int .u16 q.cls] 24 (0, 0)) :: ((b4, Obj.cells #[.int .u8 0, .slice none 0 0, .slice none 0 0] 40 (0, 0)) :: (B ++ ((B3 ++ D) ++ L)))))) (fun w h => h) ?_
   repeat (refine jB (ui rfl Qj) rfl ?_)
   refine qG (C' := #[.int .i64 x.up, .int .u8 x.vd.code, .slice a1 x.vd.sets.length c1, .slice a2 x.vd.soa.length c2, .int .u32 x.time, .string (bs (Vd.endV q x.vd).1.name), .int .u16 (Vd.endV q x.vd).1.kind, .int .u16 (Vd.endV q x.vd).1.cls, .int .u32 (Vd.endV q x.vd).1.ttl, .slice a3 (Vd.endV q x.vd).1.data.length c3, .bool (Vd.endV q x.vd).2]) rfl rfl onO rfl rfl rfl ?_
   repeat (first | refine goA ?_ | (refine jS ?_; intro bLit))
   refine jH (L' := (bLit, Obj.cells #[.int .i64 x.up, .int .u8 x.vd.code, .slice a1 x.vd.sets.length c1, .slice a2 x.vd.soa.length c2, .int .u32 x.time, .string (bs (Vd.endV q x.vd).1.name), .int .u16 (Vd.endV q x.vd).1.kind, .int .u16 (Vd.endV q x.vd).1.cls, .int .u32 (Vd.endV q x.vd).1.ttl, .slice a3 (Vd.endV q x.vd).1.data.length c3, .bool (Vd.endV q x.vd).2] 187 (0, 0)) :: (B ++ ((bQ, Obj.cells #[.string (bs q.name), .int .u16 q.kind, .int .u16 q.cls] 24 (0, 0)) :: ((b4, Obj.cells #[.int .u8 0, .slice none 0 0, .slice none 0 0] 40 (0, 0)) :: ((B3 ++ D) ++ L))))) ?_ jn
   have hen : endedR q K (B3 ++ D) [.int .i64 x.up, .int .u8 x.vd.code, .slice a1 x.vd.sets.length c1, .slice a2 x.vd.soa.length c2, .int .u32 x.time, .string (bs (Vd.endV q x.vd).1.name), .int .u16 (Vd.endV q x.vd).1.kind, .int .u16 (Vd.endV q x.vd).1.cls, .int .u32 (Vd.endV q x.vd).1.ttl, .slice a3 (Vd.endV q x.vd).1.data.length c3, .bool (Vd.endV q x.vd).2] x := ⟨a1, c1, a2, c2, a3, c3, rfl, hxv, jC _ _ _ _ jf hr3⟩
   refine jw (zm (L0 := []) (r := endedR q K (B3 ++ D)) (y := x) etO rfl rfl (hB.imp (r' := fun _ => endedR q K (B3 ++ D)) (L' := []) (fun cs y _ h => endedR.mono jf h)) rfl (fun v hv => endedR.one hen v hv) hen jd (by decide)) rfl ?_
   rintro _ _ ⟨a', c', B', rfl, hB', rfl⟩
   refine goA ?_
   refine jh (i + 1, a', c', B', B3 ++ D) ⟨hil, by dsimp only; rw [htk]; exact hB'⟩ ?_ (fun w h => h.cnt jn) (by dsimp only; omega)
   dsimp only
   rw [htk]
   exact jr
 · have hie : i = l.length := by omega
   subst hie
   rw [List.take_length] at hB ⊢
   obtain ⟨bE, cur, rfl, hBe, _, hcE, _, hcur⟩ := hB.block (fun e => by rw [e] at hlpos; simp at hlpos)
   have hmE : (bE, Obj.cells cur 187 (0, 0)) ∈ B ++ (D ++ L) := by rw [hBe]; simp
   obtain ⟨_, _, ⟨w1, wc1, w2, wc2, w3, wc3, rfl, hwv, hwr⟩, _, hcw⟩ := hcur 0 w hw0
   have gw4 : cur[0 + (0 : Int).toNat * 11 + 0 + 4]? = some (.int .u32 w.time) := hcw 4 _ rfl
   have ht0 : ∀ i, i ≤ l.length → 0 ≤ Vd.minTime (l.take i) w.time ∧ Vd.minTime (l.take i) w.time ≤ 4294967295 := fun i hi => zY _ _ (fun x hx => zZ hl0 x (List.mem_of_mem_take hx)) (zZ hl0 w (List.mem_of_getElem? hw0))
   refine goA ?_
   refine jB (jA [.int .i64 w.up, .int .u8 w.vd.code, .slice w1 w.vd.sets.length wc1, .slice w2 w.vd.soa.length wc2, .int .u32 w.time, .string (bs (Vd.endV q w.vd).1.name), .int .u16 (Vd.endV q w.vd).1.kind, .int .u16 (Vd.endV q w.vd).1.cls, .int .u32 (Vd.endV q w.vd).1.ttl, .slice w3 (Vd.endV q w.vd).1.data.length wc3, .bool (Vd.endV q w.vd).2] rfl stL (List.mem_cons_of_mem _ (List.mem_cons_of_mem _ hmE)) (fun j v hj => by have := hcw j v hj; simpa using this)) rfl ?_
   repeat (first | refine goA ?_ | (refine jO ?_; intro bNew))
   revert bNew
   intro bW
   refine jy (σ := Nat × List Value) (fun y => y.1 ≤ l.length ∧ ∃ f, l[Vd.firstAt l y.1]? = some f ∧ endedR q K D y.2 f) (fun y => [(2, .pointer (some ⟨bQ, 0, none⟩)), (4, .pointer (some ⟨b4, 0, none⟩)), (5, .int .u32 (Vd.minTime (l.take y.1) w.time)), (7, .slice (some ⟨bE, 0, none⟩) l.length c), (11, .pointer (some ⟨bW, 0, none⟩)), (12, .bool (Vd.alikeV (l.take y.1) w.vd)), (13, .bool (qo q (l.take y.1))), (59, .slice (some ⟨bE, 0, none⟩) l.length c), (60, .int .i64 (l.length : Nat)), (61, .int .i64 (y.1 : Nat))]) (fun y => (bW, Obj.cells y.2.toArray 187 (0, 0)) :: ((bQ, Obj.cells #[.string (bs q.name), .int .u16 q.kind, .int .u16 q.cls] 24 (0, 0)) :: ((b4, Obj.cells #[.int .u8 0, .slice none 0 0, .slice none 0 0] 40 (0, 0)) :: (B ++ (D ++ L))))) (fun y => l.length - y.1) (0, [.int .i64 w.up, .int .u8 w.vd.code, .slice w1 w.vd.sets.length wc1, .slice w2 w.vd.soa.length wc2, .int .u32 w.time, .string (bs (Vd.endV q w.vd).1.name), .int .u16 (Vd.endV q w.vd).1.kind, .int .u16 (Vd.endV q w.vd).1.cls, .int .u32 (Vd.endV q w.vd).1.ttl, .slice w3 (Vd.endV q w.vd).1.data.length wc3, .bool (Vd.endV q w.vd).2]) ⟨Nat.zero_le _, w, hw0, _, _, _, _, _, _, rfl, hwv, hwr⟩ ?_ (fun w h => h) ?_
   exact jr
   rintro ⟨i, cf⟩ ⟨hi, f, hf, f1, fc1, f2, fc2, f3, fc3, rfl, hfv, hfr⟩
   dsimp only at hi hf ⊢
   have hti := ht0 i hi
   by_cases hil : i < l.length
   · obtain ⟨x, hx⟩ : ∃ x, l[i]? = some x := ⟨_, List.getElem?_eq_getElem hil⟩
     have htk : l.take (i + 1) = l.take i ++ [x] := by rw [List.take_add_one, hx]; rfl
     have hmt : Vd.minTime (l.take (i + 1)) w.time = min (Vd.minTime (l.take i) w.time) x.time := by rw [htk]; exact Jx _ _ _
     have hal : Vd.alikeV (l.take (i + 1)) w.vd = (Vd.alikeV (l.take i) w.vd && decide (x.vd = w.vd)) := by rw [htk]; exact K1 _ _ _
     have hso : qo q (l.take (i + 1)) = (qo q (l.take i) || (Vd.endV q x.vd).2) := by rw [htk]; simp [qo]
     have hfs : Vd.firstAt l (i + 1) = if x.up < f.up then i else Vd.firstAt l i := by rw [Vd.firstAt, hx, hf]
     obtain ⟨_, _, ⟨x1, xc1, x2, xc2, x3, xc3, rfl, hxv, hxr⟩, _, hcx⟩ := hcur i x hx
     refine goA ?_
     refine jB (jA [.int .i64 x.up, .int .u8 x.vd.code, .slice x1 x.vd.sets.length xc1, .slice x2 x.vd.soa.length xc2, .int .u32 x.time, .string (bs (Vd.endV q x.vd).1.name), .int .u16 (Vd.endV q x.vd).1.kind, .int .u16 (Vd.endV q x.vd).1.cls, .int .u32 (Vd.endV q x.vd).1.ttl, .slice x3 (Vd.endV q x.vd).1.data.length xc3, .bool (Vd.endV q x.vd).2] rfl stL (List.mem_cons_of_mem _ (List.mem_cons_of_mem _ (List.mem_cons_of_mem _ hmE))) (fun j v hj => by rw [Nat.zero_add]; exact hcx j v hj)) rfl ?_
     repeat (first | refine goA ?_ | (refine jO ?_; intro bNew))
     revert bNew
     intro b15
     refine uK (σ := List Value) (fun y => ∃ g, l[Vd.firstAt l (i + 1)]? = some g ∧ endedR q K D y g) (fun y => [(2, .pointer (some ⟨bQ, 0, none⟩)), (4, .pointer (some ⟨b4, 0, none⟩)), (5, .int .u32 (Vd.minTime (l.take (i + 1)) w.time)), (7, .slice (some ⟨bE, 0, none⟩) l.length c), (11, .pointer (some ⟨bW, 0, none⟩)), (12, .bool (Vd.alikeV (l.take i) w.vd)), (13, .bool (qo q (l.take i))), (59, .slice (some ⟨bE, 0, none⟩) l.length c), (60, .int .i64 (l.length : Nat)), (61, .int .i64 (i : Nat)), (15, .pointer (some ⟨b15, 0, none⟩))]) (fun y => (b15, Obj.cells #[.int .i64 x.up, .int .u8 x.vd.code, .slice x1 x.vd.sets.length xc1, .slice x2 x.vd.soa.length xc2, .int .u32 x.time, .string (bs (Vd.endV q x.vd).1.name), .int .u16 (Vd.endV q x.vd).1.kind, .int .u16 (Vd.endV q x.vd).1.cls, .int .u32 (Vd.endV q x.vd).1.ttl, .slice x3 (Vd.endV q x.vd).1.data.length xc3, .bool (Vd.endV q x.vd).2] 187 (0, 0)) :: ((bW, Obj.cells y.toArray 187 (0, 0)) :: ((bQ, Obj.cells #[.string (bs q.name), .int .u16 q.kind, .int .u16 q.cls] 24 (0, 0)) :: ((b4, Obj.cells #[.int .u8 0, .slice none 0 0, .slice none 0 0] 40 (0, 0)) :: (B ++ (D ++ L)))))) ?_ ?_
     · rw [hfs, hmt]
       by_cases hup : x.up < f.up
       · rw [if_pos hup]
         refine goA ?_
         refine jH (L' := (bW, Obj.cells #[.int .i64 f.up, .int .u8 f.vd.code, .slice f1 f.vd.sets.length fc1, .slice f2 f.vd.soa.length fc2, .int .u32 f.time, .string (bs (Vd.endV q f.vd).1.name), .int .u16 (Vd.endV q f.vd).1.kind, .int .u16 (Vd.endV q f.vd).1.cls, .int .u32 (Vd.endV q f.vd).1.ttl, .slice f3 (Vd.endV q f.vd).1.data.length fc3, .bool (Vd.endV q f.vd).2] 187 (0, 0)) :: ((b15, Obj.cells #[.int .i64 x.up, .int .u8 x.vd.code, .slice x1 x.vd.sets.length xc1, .slice x2 x.vd.soa.length xc2, .int .u32 x.time, .string (bs (Vd.endV q x.vd).1.name), .int .u16 (Vd.endV q x.vd).1.kind, .int .u16 (Vd.endV q x.vd).1.cls, .int .u32 (Vd.endV q x.vd).1.ttl, .slice x3 (Vd.endV q x.vd).1.data.length xc3, .bool (Vd.endV q x.vd).2] 187 (0, 0)) :: ((bQ, Obj.cells #[.string (bs q.name), .int .u16 q.kind, .int .u16 q.cls] 24 (0, 0)) :: ((b4, Obj.cells #[.int .u8 0, .slice none 0 0, .slice none 0 0] 40 (0, 0)) :: (B ++ (D ++ L)))))) ?_ jn
         refine goA ?_
         refine j9 [.int .i64 x.up, .int .u8 x.vd.code, .slice x1 x.vd.sets.length xc1, .slice x2 x.vd.soa.length xc2, .int .u32 x.time, .string (bs (Vd.endV q x.vd).1.name), .int .u16 (Vd.endV q x.vd).1.kind, .int .u16 (Vd.endV q x.vd).1.cls, .int .u32 (Vd.endV q x.vd).1.ttl, .slice x3 (Vd.endV q x.vd).1.data.length xc3, .bool (Vd.endV q x.vd).2] ⟨x, hx, _, _, _, _, _, _, rfl, hxv, hxr⟩ ?_ (fun w h => h.cnt jn)
         exact jr
       · rw [if_neg hup]
         refine goA ?_
         refine j9 [.int .i64 f.up, .int .u8 f.vd.code, .slice f1 f.vd.sets.length fc1, .slice f2 f.vd.soa.length fc2, .int .u32 f.time, .string (bs (Vd.endV q f.vd).1.name), .int .u16 (Vd.endV q f.vd).1.kind, .int .u16 (Vd.endV q f.vd).1.cls, .int .u32 (Vd.endV q f.vd).1.ttl, .slice f3 (Vd.endV q f.vd).1.data.length fc3, .bool (Vd.endV q f.vd).2] ⟨f, hf, _, _, _, _, _, _, rfl, hfv, hfr⟩ ?_ (fun w h => h)
         exact jr
     · rintro cg ⟨g, hg, hgr⟩
       have hxd : vdR K [.int .u8 x.vd.code, .slice x1 x.vd.sets.length xc1, .slice x2 x.vd.soa.length xc2] x.vd := QA hxv
       have hwd : vdR K [.int .u8 w.vd.code, .slice w1 w.vd.sets.length wc1, .slice w2 w.vd.soa.length wc2] w.vd := QA hwv
       have hKc : ∀ p ∈ K, p ∈ (b15, Obj.cells #[.int .i64 x.up, .int .u8 x.vd.code, .slice x1 x.vd.sets.length xc1, .slice x2 x.vd.soa.length xc2, .int .u32 x.time, .string (bs (Vd.endV q x.vd).1.name), .int .u16 (Vd.endV q x.vd).1.kind, .int .u16 (Vd.endV q x.vd).1.cls, .int .u32 (Vd.endV q x.vd).1.ttl, .slice x3 (Vd.endV q x.vd).1.data.length xc3, .bool (Vd.endV q x.vd).2] 187 (0, 0)) :: ((bW, Obj.cells cg.toArray 187 (0, 0)) :: ((bQ, Obj.cells #[.string (bs q.name), .int .u16 q.kind, .int .u16 q.cls] 24 (0, 0)) :: ((b4, Obj.cells #[.int .u8 0, .slice none 0 0, .slice none 0 0] 40 (0, 0)) :: (B ++ (D ++ L))))) := fun p hp => by have := hKL p hp; simp [this]
       have hKm : ∀ z ∈ [(b15, Obj.cells #[.int .i64 x.up, .int .u8 x.vd.code, .slice x1 x.vd.sets.length xc1, .slice x2 x.vd.soa.length xc2, .int .u32 x.time, .string (bs (Vd.endV q x.vd).1.name), .int .u16 (Vd.endV q x.vd).1.kind, .int .u16 (Vd.endV q x.vd).1.cls, .int .u32 (Vd.endV q x.vd).1.ttl, .slice x3 (Vd.endV q x.vd).1.data.length xc3, .bool (Vd.endV q x.vd).2] 187 (0, 0)), (bE, Obj.cells cur 187 (0, 0))], z ∈ (b15, Obj.cells #[.int .i64 x.up, .int .u8 x.vd.code, .slice x1 x.vd.sets.length xc1, .slice x2 x.vd.soa.length xc2, .int .u32 x.time, .string (bs (Vd.endV q x.vd).1.name), .int .u16 (Vd.endV q x.vd).1.kind, .int .u16 (Vd.endV q x.vd).1.cls, .int .u32 (Vd.endV q x.vd).1.ttl, .slice x3 (Vd.endV q x.vd).1.data.length xc3, .bool (Vd.endV q x.vd).2] 187 (0, 0)) :: ((bW, Obj.cells cg.toArray 187 (0, 0)) :: ((bQ, Obj.cells #[.string (bs q.name), .int .u16 q.kind, .int .u16 q.cls] 24 (0, 0)) :: ((b4, Obj.cells #[.int .u8 0, .slice none 0 0, .slice none 0 0] 40 (0, 0)) :: (B ++ (D ++ L))))) := by
        intro z hz
        simp only [List.mem_cons, List.not_mem_nil, or_false] at hz
        rcases hz with rfl | rfl
        · exact List.mem_cons_self ..
        · exact List.mem_cons_of_mem _ (List.mem_cons_of_mem _ (List.mem_cons_of_mem _ (List.mem_cons_of_mem _ hmE)))
       have hx42 : ∀ j v, ([.int .u8 x.vd.code, .slice x1 x.vd.sets.length xc1, .slice x2 x.vd.soa.length xc2] : List Value)[j]? = some v → (#[.int .i64 x.up, .int .u8 x.vd.code, .slice x1 x.vd.sets.length xc1, .slice x2 x.vd.soa.length xc2, .int .u32 x.time, .string (bs (Vd.endV q x.vd).1.name), .int .u16 (Vd.endV q x.vd).1.kind, .int .u16 (Vd.endV q x.vd).1.cls, .int .u32 (Vd.endV q x.vd).1.ttl, .slice x3 (Vd.endV q x.vd).1.data.length xc3, .bool (Vd.endV q x.vd).2] : Array Value)[0 + 0 + 1 + j]? = some v := fun j v hj => by
        match j, hj with
        | 0, hj => exact hj
        | 1, hj => exact hj
        | 2, hj => exact hj
       have hw42 : ∀ j v, ([.int .u8 w.vd.code, .slice w1 w.vd.sets.length wc1, .slice w2 w.vd.soa.length wc2] : List Value)[j]? = some v → cur[0 + (0 : Int).toNat * 11 + 0 + 1 + j]? = some v := fun j v hj => by
        match j, hj with
        | 0, hj => exact hcw 1 v hj
        | 1, hj => exact hcw 2 v hj
        | 2, hj => exact hcw 3 v hj
       cases hav : Vd.alikeV (l.take i) w.vd with
       | false =>
         rw [hav] at hal
         cases hs0 : qo q (l.take i) with
         | false =>
           rw [hs0] at hso
           refine goA ?_
           refine jq jb ([(b15, Obj.cells #[.int .i64 x.up, .int .u8 x.vd.code, .slice x1 x.vd.sets.length xc1, .slice x2 x.vd.soa.length xc2, .int .u32 x.time, .string (bs (Vd.endV q x.vd).1.name), .int .u16 (Vd.endV q x.vd).1.kind, .int .u16 (Vd.endV q x.vd).1.cls, .int .u32 (Vd.endV q x.vd).1.ttl, .slice x3 (Vd.endV q x.vd).1.data.length xc3, .bool (Vd.endV q x.vd).2] 187 (0, 0)), (bE, Obj.cells cur 187 (0, 0))]) [] ?_
           refine tkQ 0 ?_
           refine tkQ 1 ?_
           refine tkQ 2 ?_
           refine tkQ 3 ?_
           refine tkQ 5 ?_
           refine tkQ 6 ?_
           refine tkQ 7 ?_
           refine tkQ 8 ?_
           refine tkQ 4 ?_
           refine tkQ 9 ?_
           refine tkQ 10 ?_
           refine tkQ 11 ?_
           refine tkQ 12 ?_
           refine tdQ ?_
           refine goA ?_
           refine jh (i + 1, cg) ⟨hil, g, hg, hgr⟩ ?_ (fun w h => h.tail) (by dsimp only; omega)
           dsimp only
           rw [hal, hso, Bool.false_and, Bool.false_or]
           exact jr
         | true =>
           rw [hs0] at hso
           refine goA ?_
           refine jq jb ([(b15, Obj.cells #[.int .i64 x.up, .int .u8 x.vd.code, .slice x1 x.vd.sets.length xc1, .slice x2 x.vd.soa.length xc2, .int .u32 x.time, .string (bs (Vd.endV q x.vd).1.name), .int .u16 (Vd.endV q x.vd).1.kind, .int .u16 (Vd.endV q x.vd).1.cls, .int .u32 (Vd.endV q x.vd).1.ttl, .slice x3 (Vd.endV q x.vd).1.data.length xc3, .bool (Vd.endV q x.vd).2] 187 (0, 0)), (bE, Obj.cells cur 187 (0, 0))]) [] ?_
           refine tkQ 0 ?_
           refine tkQ 1 ?_
           refine tkQ 2 ?_
           refine tkQ 3 ?_
           refine tkQ 5 ?_
           refine tkQ 6 ?_
           refine tkQ 7 ?_
           refine tkQ 8 ?_
           refine tkQ 4 ?_
           refine tkQ 9 ?_
           refine tkQ 10 ?_
           refine tkQ 11 ?_
           refine tkQ 12 ?_
           refine tdQ ?_
           refine goA ?_
           refine jh (i + 1, cg) ⟨hil, g, hg, hgr⟩ ?_ (fun w h => h.tail) (by dsimp only; omega)
           dsimp only
           rw [hal, hso, Bool.false_and, Bool.true_or]
           exact jr
       | true =>
         rw [hav] at hal
         cases hs0 : qo q (l.take i) with
         | false =>
           rw [hs0] at hso
           refine goA ?_
           refine jq jb ([(b15, Obj.cells #[.int .i64 x.up, .int .u8 x.vd.code, .slice x1 x.vd.sets.length xc1, .slice x2 x.vd.soa.length xc2, .int .u32 x.time, .string (bs (Vd.endV q x.vd).1.name), .int .u16 (Vd.endV q x.vd).1.kind, .int .u16 (Vd.endV q x.vd).1.cls, .int .u32 (Vd.endV q x.vd).1.ttl, .slice x3 (Vd.endV q x.vd).1.data.length xc3, .bool (Vd.endV q x.vd).2] 187 (0, 0)), (bE, Obj.cells cur 187 (0, 0))]) [] ?_
           refine tkQ 0 ?_
           refine tkQ 1 ?_
           refine tkQ 2 ?_
           refine tkQ 3 ?_
           refine tkQ 5 ?_
           refine tkQ 6 ?_
           refine tkQ 7 ?_
           refine tkQ 8 ?_
           (refine jp 4 rfl rfl je (kd rfl rfl (by with_reducible rfl) (jA [.int .u8 x.vd.code, .slice x1 x.vd.sets.length xc1, .slice x2 x.vd.soa.length xc2] rfl stL (List.mem_cons_self ..) hx42)) ?_ ?_; (· exact hKm))
           (refine jp 9 rfl rfl je (kd rfl rfl (by with_reducible rfl) (jA [.int .u8 w.vd.code, .slice w1 w.vd.sets.length wc1, .slice w2 w.vd.soa.length wc2] rfl stL (List.mem_cons_of_mem _ (List.mem_cons_self ..)) hw42)) ?_ ?_; (· exact hKm))
           (refine qA 10 je rfl rfl rfl rfl (by with_reducible rfl) (jc je rfl (VJ [.int .u8 x.vd.code, .slice x1 x.vd.sets.length xc1, .slice x2 x.vd.soa.length xc2] [.int .u8 w.vd.code, .slice w1 w.vd.sets.length wc1, .slice w2 w.vd.soa.length wc2] x.vd w.vd (jQ _ _ _ _ hKc hxd) (jQ _ _ _ _ hKc hwd))) ?_; rintro _ _ ⟨rfl, rfl⟩; refine ⟨Or.inr hKm, ?_⟩)
           refine tkQ 11 ?_
           refine tkQ 12 ?_
           refine tdQ ?_
           refine goA ?_
           refine jh (i + 1, cg) ⟨hil, g, hg, hgr⟩ ?_ (fun w h => h.tail) (by dsimp only; omega)
           dsimp only
           rw [hal, hso, Bool.true_and, Bool.false_or]
           exact jr
         | true =>
           rw [hs0] at hso
           refine goA ?_
           refine jq jb ([(b15, Obj.cells #[.int .i64 x.up, .int .u8 x.vd.code, .slice x1 x.vd.sets.length xc1, .slice x2 x.vd.soa.length xc2, .int .u32 x.time, .string (bs (Vd.endV q x.vd).1.name), .int .u16 (Vd.endV q x.vd).1.kind, .int .u16 (Vd.endV q x.vd).1.cls, .int .u32 (Vd.endV q x.vd).1.ttl, .slice x3 (Vd.endV q x.vd).1.data.length xc3, .bool (Vd.endV q x.vd).2] 187 (0, 0)), (bE, Obj.cells cur 187 (0, 0))]) [] ?_
           refine tkQ 0 ?_
           refine tkQ 1 ?_
           refine tkQ 2 ?_
           refine tkQ 3 ?_
           refine tkQ 5 ?_
           refine tkQ 6 ?_
           refine tkQ 7 ?_
           refine tkQ 8 ?_
           (refine jp 4 rfl rfl je (kd rfl rfl (by with_reducible rfl) (jA [.int .u8 x.vd.code, .slice x1 x.vd.sets.length xc1, .slice x2 x.vd.soa.length xc2] rfl stL (List.mem_cons_self ..) hx42)) ?_ ?_; (· exact hKm))
           (refine jp 9 rfl rfl je (kd rfl rfl (by with_reducible rfl) (jA [.int .u8 w.vd.code, .slice w1 w.vd.sets.length wc1, .slice w2 w.vd.soa.length wc2] rfl stL (List.mem_cons_of_mem _ (List.mem_cons_self ..)) hw42)) ?_ ?_; (· exact hKm))
           (refine qA 10 je rfl rfl rfl rfl (by with_reducible rfl) (jc je rfl (VJ [.int .u8 x.vd.code, .slice x1 x.vd.sets.length xc1, .slice x2 x.vd.soa.length xc2] [.int .u8 w.vd.code, .slice w1 w.vd.sets.length wc1, .slice w2 w.vd.soa.length wc2] x.vd w.vd (jQ _ _ _ _ hKc hxd) (jQ _ _ _ _ hKc hwd))) ?_; rintro _ _ ⟨rfl, rfl⟩; refine ⟨Or.inr hKm, ?_⟩)
           refine tkQ 11 ?_
           refine tkQ 12 ?_
           refine tdQ ?_
           refine goA ?_
           refine jh (i + 1, cg) ⟨hil, g, hg, hgr⟩ ?_ (fun w h => h.tail) (by dsimp only; omega)
           dsimp only
           rw [hal, hso, Bool.true_and, Bool.true_or]
           exact jr
   · have hie : i = l.length := by omega
     subst hie
     rw [List.take_length] at hti ⊢
     have hKc : ∀ p ∈ K, p ∈ ((bW, Obj.cells #[.int .i64 f.up, .int .u8 f.vd.code, .slice f1 f.vd.sets.length fc1, .slice f2 f.vd.soa.length fc2, .int .u32 f.time, .string (bs (Vd.endV q f.vd).1.name), .int .u16 (Vd.endV q f.vd).1.kind, .int .u16 (Vd.endV q f.vd).1.cls, .int .u32 (Vd.endV q f.vd).1.ttl, .slice f3 (Vd.endV q f.vd).1.data.length fc3, .bool (Vd.endV q f.vd).2] 187 (0, 0)) :: ((bQ, Obj.cells #[.string (bs q.name), .int .u16 q.kind, .int .u16 q.cls] 24 (0, 0)) :: ((b4, Obj.cells #[.int .u8 0, .slice none 0 0, .slice none 0 0] 40 (0, 0)) :: (B ++ (D ++ L))))) := fun p hp => by have := hKL p hp; simp [this]
     rw [hf] at hU
     dsimp only at hU
     cases hA : Vd.alikeV l w.vd with
     | true =>
       rw [hA] at hU
       simp only [Bool.not_true, Bool.false_and, Bool.false_eq_true, if_false] at hU
       rw [hU]
       refine goA ?_
       refine jB (jA [.int .u8 f.vd.code, .slice f1 f.vd.sets.length fc1, .slice f2 f.vd.soa.length fc2] rfl stL (List.mem_cons_self ..) (fun j v hj => by
        match j, hj with
        | 0, hj => exact hj
        | 1, hj => exact hj
        | 2, hj => exact hj)) rfl ?_
       skip
       refine jw (jc je rfl (zj [.int .u8 f.vd.code, .slice f1 f.vd.sets.length fc1, .slice f2 f.vd.soa.length fc2] f.vd (jQ _ _ _ _ hKc (QA hfv)) (hs f (List.mem_of_getElem? hf)))) rfl ?_
       rintro _ _ ⟨a', c', B', a2', c2', B2', N', rfl, k1, k2, k3, rfl⟩
       repeat (refine jB (uq rfl) rfl ?_)
       refine jH (L' := (b4, Obj.cells #[.int .u8 0, .slice none 0 0, .slice none 0 0] 40 (0, 0)) :: (B2' ++ (B' ++ (N' ++ L)))) ?_ jn
       refine goA ?_
       refine km 4 40 5 6 rfl rfl rfl rfl stO (by repeat (exact List.mem_cons_self)) rfl (fun w h => Heap.cnt (L' := B2' ++ (B' ++ (N' ++ L))) h jn) ?_
       exact ⟨a', c', B', a2', c2', B2', N', rfl, k1, k2, k3, rfl⟩
     | false =>
       cases hS : qo q l with
       | false =>
         rw [hA, hS] at hU
         simp only [Bool.not_false, Bool.true_and, Bool.false_eq_true, if_false] at hU
         rw [hU]
         refine goA ?_
         refine jB (jA [.int .u8 f.vd.code, .slice f1 f.vd.sets.length fc1, .slice f2 f.vd.soa.length fc2] rfl stL (List.mem_cons_self ..) (fun j v hj => by
          match j, hj with
          | 0, hj => exact hj
          | 1, hj => exact hj
          | 2, hj => exact hj)) rfl ?_
         skip
         refine jw (jc je rfl (zj [.int .u8 f.vd.code, .slice f1 f.vd.sets.length fc1, .slice f2 f.vd.soa.length fc2] f.vd (jQ _ _ _ _ hKc (QA hfv)) (hs f (List.mem_of_getElem? hf)))) rfl ?_
         rintro _ _ ⟨a', c', B', a2', c2', B2', N', rfl, k1, k2, k3, rfl⟩
         repeat (refine jB (uq rfl) rfl ?_)
         refine jH (L' := (b4, Obj.cells #[.int .u8 0, .slice none 0 0, .slice none 0 0] 40 (0, 0)) :: (B2' ++ (B' ++ (N' ++ L)))) ?_ jn
         refine goA ?_
         refine km 4 40 5 6 rfl rfl rfl rfl stO (by repeat (exact List.mem_cons_self)) rfl (fun w h => Heap.cnt (L' := B2' ++ (B' ++ (N' ++ L))) h jn) ?_
         exact ⟨a', c', B', a2', c2', B2', N', rfl, k1, k2, k3, rfl⟩
       | true =>
         rw [hA, hS] at hU
         simp only [Bool.not_false, Bool.true_and, if_true] at hU
         rw [hU]
         refine goA ?_
         refine jw (jc je rfl (aaL (K := K) (D := D) _ q l (fun p hp => by simp [hp]) hq1 hq2 hq3 ((hB.imp (r' := fun _ => endedR q K D) (L' := []) (fun cs x _ h => h)).sliceR j3 (by simp) (fun p hp => by simp [hp])) hn hd)) rfl ?_
         rintro _ _ ⟨a', c', B', a2', c2', B2', N', rfl, k1, k2, k3, rfl⟩
         repeat (refine jB (uq rfl) rfl ?_)
         refine jH (L' := (b4, Obj.cells #[.int .u8 0, .slice none 0 0, .slice none 0 0] 40 (0, 0)) :: (B2' ++ (B' ++ (N' ++ L)))) ?_ jn
         refine goA ?_
         refine km 4 40 5 6 rfl rfl rfl rfl stO (by repeat (exact List.mem_cons_self)) rfl (fun w h => Heap.cnt (L' := B2' ++ (B' ++ (N' ++ L))) h jn) ?_
         exact ⟨a', c', B', a2', c2', B2', N', rfl, k1, k2, k3, rfl⟩
end Go.Proofs.YtbjkkoacclfejaaGreat
namespace Go.Proofs.YtbjkkoacclfejaaGreat
namespace Vd
def u4 (l : List Bytes) : Prop := l.Pairwise fun a b => a < b
theorem Ub : ∀ {a b : List Bytes}, u4 a → u4 b → (∀ x, x ∈ a ↔ x ∈ b) → a = b
 | [], [], _, _, _ => rfl
 | [], y :: b, _, _, h => absurd ((h y).2 (List.mem_cons_self ..)) (by simp)
 | x :: a, [], _, _, h => absurd ((h x).1 (List.mem_cons_self ..)) (by simp)
 | x :: a, y :: b, ha, hb, h => by
   have ha' := List.pairwise_cons.1 ha
   have hb' := List.pairwise_cons.1 hb
   have hxy : x = y := by
    rcases List.mem_cons.1 ((h x).1 (List.mem_cons_self ..)) with e | hx
    · exact e
    · rcases List.mem_cons.1 ((h y).2 (List.mem_cons_self ..)) with e | hy
      · exact e.symm
      · exact absurd (List.lt_trans (ha'.1 y hy) (hb'.1 x hx)) (List.lt_irrefl x)
   subst hxy
   have ht : ∀ z, z ∈ a ↔ z ∈ b := fun z => by
    constructor
    · intro hz
      rcases List.mem_cons.1 ((h z).1 (List.mem_cons_of_mem _ hz)) with e | hz'
      · subst e; exact absurd (ha'.1 _ hz) (List.lt_irrefl _)
      · exact hz'
    · intro hz
      rcases List.mem_cons.1 ((h z).2 (List.mem_cons_of_mem _ hz)) with e | hz'
      · subst e; exact absurd (hb'.1 _ hz) (List.lt_irrefl _)
      · exact hz'
   rw [Ub ha'.2 hb'.2 ht]
theorem ZX (x s : Bytes) : gtB x s = true ↔ s < x := by
 unfold gtB
 rw [Go.Proofs.bytesLess_eq]
 simp only [Bool.not_eq_true', Bool.or_eq_false_iff, decide_eq_false_iff_not, beq_eq_false_iff_ne]
 constructor
 · rintro ⟨h1, h2⟩
   have hle : s ≤ x := List.not_lt.1 h1
   by_cases h : s < x
   · exact h
   · exact absurd (List.le_antisymm (List.not_lt.1 h) hle) h2
 · intro h
   refine ⟨fun h2 => absurd (List.lt_trans h h2) (List.lt_irrefl _), fun e => by subst e; exact absurd h (List.lt_irrefl _)⟩
theorem ach {a b : Bytes} : a < b ∨ a = b ∨ b < a := by
 by_cases h1 : a < b
 · exact Or.inl h1
 · by_cases h2 : b < a
   · exact Or.inr (Or.inr h2)
   · exact Or.inr (Or.inl (List.le_antisymm (List.not_lt.1 h2) (List.not_lt.1 h1)))
theorem Uc (s : Bytes) : ∀ (l out : List Bytes), (∀ x ∈ l, s < x) → putGo s l out true = .inr (out ++ l, true)
 | [], out, _ => by simp [putGo]
 | x :: l, out, h => by
   have hx := h x (List.mem_cons_self ..)
   rw [putGo, if_neg (fun e => by subst e; exact List.lt_irrefl _ hx), if_neg (by simp), Uc s l _ fun y hy => h y (List.mem_cons_of_mem _ hy)]
   simp
theorem Ud (s : Bytes) : ∀ (l out : List Bytes), u4 (out ++ l) → (∀ x ∈ out, x < s) →
 (s ∈ l ∧ putGo s l out false = .inl []) ∨ ∃ o d, putGo s l out false = .inr (o, d) ∧ u4 (if d then o else o ++ [s]) ∧ (∀ x, x ∈ (if d then o else o ++ [s]) ↔ x ∈ out ∨ x ∈ l ∨ x = s) ∧ s ∉ l
 | [], out, hr, ho => by
   refine Or.inr ⟨out, false, rfl, ?_, fun x => by simp, by simp⟩
   simp only [Bool.false_eq_true, if_false]
   rw [List.append_nil] at hr
   exact List.pairwise_append.2 ⟨hr, by simp, fun a ha b hb => by rw [List.mem_singleton.1 hb]; exact ho a ha⟩
 | x :: l, out, hr, ho => by
   by_cases hxs : x = s
   · subst hxs
     exact Or.inl ⟨List.mem_cons_self .., by rw [putGo, if_pos rfl]⟩
   · by_cases hg : s < x
     · have hall : ∀ y ∈ l, s < y := fun y hy => by
        have := (List.pairwise_cons.1 (List.pairwise_append.1 hr).2.1).1 y hy
        exact List.lt_trans hg this
       refine Or.inr ⟨((out ++ [s]) ++ [x]) ++ l, true, ?_, ?_, fun y => by simp; grind, ?_⟩
       · rw [putGo, if_neg hxs, if_pos (by simp [(ZX x s).2 hg]), Uc s l _ hall]
       · simp only [if_true]
         have h1 := List.pairwise_append.1 hr
         rw [show ((out ++ [s]) ++ [x]) ++ l = out ++ (s :: x :: l) by simp]
         refine List.pairwise_append.2 ⟨h1.1, List.pairwise_cons.2 ⟨fun y hy => ?_, h1.2.1⟩, fun a ha b hb => ?_⟩
         · rcases List.mem_cons.1 hy with rfl | hy
           · exact hg
           · exact hall y hy
         · rcases List.mem_cons.1 hb with rfl | hb
           · exact ho a ha
           · exact h1.2.2 a ha b hb
       · intro hm
         rcases List.mem_cons.1 hm with e | hm
         · exact hxs e.symm
         · exact List.lt_irrefl _ (hall s hm)
     · have hlt : x < s := by
        rcases ach (a := x) (b := s) with h | h | h
        · exact h
        · exact absurd h hxs
        · exact absurd h hg
       have hng : gtB x s = false := by
        cases h : gtB x s with
        | false => rfl
        | true => exact absurd ((ZX x s).1 h) hg
       have := Ud s l (out ++ [x]) (by simpa using hr) (fun y hy => by
        rcases List.mem_append.1 hy with hy | hy
        · exact ho y hy
        · rw [List.mem_singleton.1 hy]; exact hlt)
       rw [putGo, if_neg hxs, if_neg (by simp [hng])]
       rcases this with ⟨h1, h2⟩ | ⟨o, d, h1, h2, h3, h4⟩
       · exact Or.inl ⟨List.mem_cons_of_mem _ h1, h2⟩
       · refine Or.inr ⟨o, d, h1, h2, fun y => by rw [h3]; simp; grind, ?_⟩
         intro hm
         rcases List.mem_cons.1 hm with e | hm
         · exact hxs e.symm
         · exact h4 hm
theorem Zc {l : List Bytes} (s : Bytes) (h : u4 l) : u4 (put l s) ∧ ∀ x, x ∈ put l s ↔ x ∈ l ∨ x = s := by
 unfold put
 rcases Ud s l [] (by simpa using h) (by simp) with ⟨h1, h2⟩ | ⟨o, d, h1, h2, h3, _⟩
 · rw [h2]
   exact ⟨h, fun x => ⟨fun hx => Or.inl hx, fun hx => hx.elim id fun e => e ▸ h1⟩⟩
 · rw [h1]
   dsimp only
   exact ⟨h2, fun x => by rw [h3]; simp⟩
theorem foldPut_rising : ∀ (d : List Bytes) {l : List Bytes}, u4 l → u4 (d.foldl put l) ∧ ∀ x, x ∈ d.foldl put l ↔ x ∈ l ∨ x ∈ d
 | [], l, h => ⟨h, fun x => by simp⟩
 | s :: d, l, h => by
   obtain ⟨h1, h2⟩ := Zc s h
   obtain ⟨h3, h4⟩ := foldPut_rising d h1
   exact ⟨h3, fun x => by rw [List.foldl_cons, h4, h2]; simp; grind⟩
theorem ahX {a b c : Bytes} (h1 : a ≤ b) (h2 : b < c) : a < c := by
 rcases ach (a := a) (b := c) with h | h | h
 · exact h
 · subst h; exact absurd h2 (List.not_lt.2 h1)
 · exact absurd (List.lt_trans h2 h) (List.not_lt.2 h1)
theorem Ue (d : Array Bytes) (hs : ∀ i j, i ≤ j → j < d.size → d[i]! ≤ d[j]!) : ∀ m, m ≤ d.size → u4 (Lib.compactUpTo d m) ∧ ∀ x, x ∈ Lib.compactUpTo d m ↔ ∃ j, j < m ∧ d[j]! = x
 | 0, _ => by
   have h0 : Lib.compactUpTo d 0 = [] := rfl
   rw [h0]
   exact ⟨List.Pairwise.nil, fun x => by simp⟩
 | m + 1, hm => by
   obtain ⟨h1, h2⟩ := Ue d hs m jd
   rw [Lib.compactUpTo_succ]
   cases hk : Lib.keeps d m with
   | true =>
     simp only [if_true]
     refine ⟨List.pairwise_append.2 ⟨h1, by simp, fun a ha b hb => ?_⟩, fun x => ?_⟩
     · rw [List.mem_singleton.1 hb]
       obtain ⟨j, hj, rfl⟩ := (h2 a).1 ha
       have hne : d[m]! ≠ d[m - 1]! := fun e => by rw [Lib.keeps_neg jd e] at hk; cases hk
       have h3 := hs (m - 1) m jd jd
       have h4 := hs j (m - 1) jd jd
       refine ahX h4 ?_
       rcases ach (a := d[m - 1]!) (b := d[m]!) with h | h | h
       · exact h
       · exact absurd h.symm hne
       · exact absurd h (List.not_lt.2 h3)
     · rw [List.mem_append, h2, List.mem_singleton]
       constructor
       · rintro (⟨j, hj, e⟩ | e)
         · exact ⟨j, by omega, e⟩
         · exact ⟨m, by omega, e.symm⟩
       · rintro ⟨j, hj, e⟩
         by_cases hjm : j = m
         · subst hjm; exact Or.inr e.symm
         · exact Or.inl ⟨j, by omega, e⟩
   | false =>
     simp only [Bool.false_eq_true, if_false, List.append_nil]
     refine ⟨h1, fun x => ?_⟩
     have h0 : 0 < m := by
      rcases Nat.eq_zero_or_pos m with h | h
      · subst h; rw [Lib.keeps_lt_one d 0 jd] at hk; cases hk
      · exact h
     have he : d[m]! = d[m - 1]! := by
      by_cases e : d[m]! = d[m - 1]!
      · exact e
      · rw [Lib.keeps_pos e] at hk; cases hk
     rw [h2]
     constructor
     · rintro ⟨j, hj, e⟩; exact ⟨j, by omega, e⟩
     · rintro ⟨j, hj, e⟩
       by_cases hjm : j = m
       · subst hjm; exact ⟨j - 1, by omega, by rw [← he]; exact e⟩
       · exact ⟨j, by omega, e⟩
theorem Uf {l : List Bytes} (h : l.Pairwise fun a b => a ≤ b) : u4 (Lib.compact l) ∧ ∀ x, x ∈ Lib.compact l ↔ x ∈ l := by
 have key := Ue l.toArray (fun i j hij hj => by
  have hj' : j < l.length := by simpa using hj
  have hi' : i < l.length := by omega
  have e1 : l.toArray[i]! = l[i] := by simp [hi']
  have e2 : l.toArray[j]! = l[j] := by simp [hj']
  rw [e1, e2]
  rcases Nat.lt_or_eq_of_le hij with h1 | h1
  · exact List.pairwise_iff_getElem.1 h i j hi' hj' h1
  · subst h1; exact List.le_refl _) l.length (by simp)
 refine ⟨key.1, fun x => ?_⟩
 unfold Lib.compact
 rw [key.2]
 constructor
 · rintro ⟨j, hj, e⟩
   have : l.toArray[j]! = l[j] := by simp [hj]
   rw [this] at e
   rw [← e]
   exact List.getElem_mem _
 · intro hx
   obtain ⟨j, hj, e⟩ := List.getElem_of_mem hx
   exact ⟨j, hj, by rw [← e]; simp [hj]⟩
theorem Yc (l : List Bytes) : (l.mergeSort fun x y => decide (x ≤ y)).Pairwise fun a b => a ≤ b := by
 have := List.pairwise_mergeSort (le := fun x y : Bytes => decide (x ≤ y)) (fun a b c h1 h2 => by simp at *; exact List.le_trans h1 h2) (fun a b => by simp; exact List.le_total a b) l
 exact this.imp fun h => by simpa using h
theorem compact_put (l : List Bytes) : Lib.compact (l.mergeSort fun x y => decide (x ≤ y)) = l.foldl put [] := by
 obtain ⟨h1, h2⟩ := Uf (Yc l)
 obtain ⟨h3, h4⟩ := foldPut_rising l (l := []) List.Pairwise.nil
 exact Ub h1 h3 fun x => by rw [h2, h4, List.mem_mergeSort]; simp
end Vd
end Go.Proofs.YtbjkkoacclfejaaGreat
namespace Go.Proofs.YtbjkkoacclfejaaGreat
open Go.RowKit
open Vd (RSet Vdt Vote Rec Quest Piece Ballot Said)
theorem zr (q : Quest) : ∀ (l : List Vote) (d : List Vd.Bytes), Vd.endsPut q l d = (ki q l).foldl Vd.put d
 | [], d => rfl
 | x :: l, d => by
   have ih := zr q l
   have h1 : Vd.endsPut q (x :: l) d = Vd.endsPut q l (if (Vd.endV q x.vd).2 then (Vd.endV q x.vd).1.data.foldl Vd.put d else d) := rfl
   have h2 : ki q (x :: l) = qZ q x ++ ki q l := by simp [ki]
   rw [h1, h2, ih, List.foldl_append]
   unfold qZ
   split <;> rfl
theorem aaM (q : Quest) (l : List Vote) (h : ∀ x ∈ l, (Vd.endV q x.vd).2 = true → (Vd.endV q x.vd).1.data ≠ []) : Vd.endsPut q l [] = [] ↔ qo q l = false := by
 rw [zr]
 have hm := (Vd.foldPut_rising (ki q l) (l := []) List.Pairwise.nil).2
 constructor
 · intro he
   cases hs : qo q l with
   | false => rfl
   | true =>
     obtain ⟨x, hx, hx2⟩ := List.any_eq_true.1 hs
     obtain ⟨d, hd⟩ := List.exists_mem_of_ne_nil _ (h x hx hx2)
     have : d ∈ (ki q l).foldl Vd.put [] := (hm d).2 (Or.inr (List.mem_flatMap.2 ⟨x, hx, by unfold qZ; rw [if_pos hx2]; exact hd⟩))
     rw [he] at this
     simp at this
 · intro hs
   have h0 : ki q l = [] := by
    refine List.flatMap_eq_nil_iff.2 fun x hx => ?_
    unfold qZ
    rw [if_neg]
    intro hx2
    have : qo q l = true := List.any_eq_true.2 ⟨x, hx, hx2⟩
    rw [hs] at this
    cases this
   rw [h0]
   rfl
theorem Zd (q : Quest) (l : List Vote) (h : ∀ x ∈ l, (Vd.endV q x.vd).2 = true → (Vd.endV q x.vd).1.data ≠ []) : J8 q l = Vd.union q l := by
 cases l with
 | nil => rfl
 | cons w r =>
   have he := aaM q (w :: r) h
   unfold J8 Vd.union
   dsimp only
   split
   · rfl
   · rw [Vd.compact_put, ← zr]
     by_cases h0 : Vd.endsPut q (w :: r) [] = []
     · rw [he.1 h0, Bool.and_false, if_neg (by simp), if_pos (by simp [h0])]
       rfl
     · have hs : qo q (w :: r) = true := by
        cases hs : qo q (w :: r) with
        | true => rfl
        | false => exact absurd (he.2 hs) h0
       rw [hs, Bool.and_true]
       cases ha : Vd.alikeV (w :: r) w.vd with
       | true => rw [if_neg (by simp), if_pos (by simp)]; rfl
       | false => rw [if_pos (by simp), if_neg (by simp [h0])]
end Go.Proofs.YtbjkkoacclfejaaGreat
namespace Go.Proofs.YtbjkkoacclfejaaGreat
open Go.RowKit
open Vd (RSet Vdt Vote Rec Quest Piece Ballot Said)
def aci (p : RSet → Prop) (v : Vdt) : Prop := (∀ s ∈ v.sets, p s) ∧ ∀ s ∈ v.soa, p s
theorem Yd (q : Quest) (m : Vd.Msg) (p : RSet → Prop) (hp : ∀ s, p s → p (Vd.bare s)) (h1 : ∀ s ∈ Vd.group m.answers, p s) (h2 : ∀ s ∈ Vd.group m.auth, p s) : aci p (Vd.ofM q m).1 := by
 have hnone : aci p Vdt.none := ⟨by simp [Vdt.none], by simp [Vdt.none]⟩
 obtain ⟨f1, f2, _, _, _⟩ := UY q (Vd.group m.answers)
 unfold Vd.ofM
 split
 · exact hnone
 · revert f1 f2
   generalize Vd.follow q (Vd.group m.answers) = t
   obtain ⟨l, pos, last, e⟩ := t
   intro f1 f2
   dsimp only at f1 f2 ⊢
   have hall : ∀ s ∈ (l ++ last).map Vd.bare, p s := fun s hs => by
    obtain ⟨t, ht, rfl⟩ := List.mem_map.1 hs
    rcases List.mem_append.1 ht with ht | ht
    · exact hp t (h1 t (f1 t ht))
    · exact hp t (h1 t (f2 t ht))
   split
   · exact hnone
   split
   · exact hnone
   split
   · exact ⟨hall, by simp⟩
   have hf := Q0 (l := Vd.group m.auth) (n := pos) (c := q.cls)
   revert hf
   generalize Vd.findSoa (Vd.group m.auth) pos q.cls = r
   obtain ⟨s, is, e2⟩ := r
   intro hf
   dsimp only at hf ⊢
   split
   · exact hnone
   split
   · exact ⟨hall, by simp⟩
   · rename_i hi
     refine ⟨hall, fun t ht => ?_⟩
     rw [List.mem_singleton.1 ht]
     exact hp s (h2 s (hf (by simpa using hi)))
end Go.Proofs.YtbjkkoacclfejaaGreat
namespace Go.Proofs.YtbjkkoacclfejaaGreat
open Go.RowKit
open Vd (RSet Vdt Vote Rec Quest Piece Ballot Said)
variable {G : World} {L : ja}
def MsgSmall (m : Vd.Msg) : Prop := (m.answers.length ≤ 420 ∧ ∀ x ∈ m.answers, x.name.length ≤ 5000 ∧ x.data.length ≤ 5000) ∧ (m.auth.length ≤ 420 ∧ ∀ x ∈ m.auth, x.name.length ≤ 5000 ∧ x.data.length ≤ 5000)
end Go.Proofs.YtbjkkoacclfejaaGreat
namespace Go.Proofs.YtbjkkoacclfejaaGreat
open Go.RowKit
open Vd (RSet Vdt Vote Rec Quest Piece Ballot Said)
structure BalOk (p : Vote → Prop) (l : List Ballot) : Prop where
 nd : (l.map fun b => b.v.up).Nodup
 ok : ∀ b ∈ l, b.pass = false ∧ (0 ≤ b.v.up ∧ b.v.up < 9) ∧ p b.v
theorem acj (l : List Ballot) (u : Int) : Vd.hasB l u = true ↔ u ∈ l.map fun b => b.v.up := by
 unfold Vd.hasB
 rw [List.any_eq_true, List.mem_map]
 simp only [beq_iff_eq]
theorem BalOk.put {p : Vote → Prop} {l : List Ballot} (h : BalOk p l) {x : Vote} (hx : p x) : BalOk p (Vd.putB l ⟨x, false⟩).1 := by
 unfold Vd.putB
 split
 · exact h
 split
 · exact h
 · rename_i h1 h2
   refine ⟨?_, fun b hb => ?_⟩
   · rw [List.map_append]
     refine List.nodup_append.2 ⟨h.nd, by simp, fun a ha b hb => ?_⟩
     rw [List.map_singleton, List.mem_singleton] at hb
     intro e
     refine h2 ((acj _ _).2 ?_)
     dsimp only at hb ⊢
     rw [← hb, ← e]
     exact ha
   · rcases List.mem_append.1 hb with hb | hb
     · exact h.ok b hb
     · rw [List.mem_singleton.1 hb]
       dsimp only at h1 ⊢
       exact ⟨rfl, by omega, hx⟩
theorem BalOk.cast {p : Vote → Prop} {q : Quest} {l : List Ballot} (h : BalOk p l) {s : Said} (hs : p ⟨s.up, (Vd.ofM q s.m).1, s.time⟩) : BalOk p (Vd.castSaid q l s) := by
 unfold Vd.castSaid
 split
 · exact h.put hs
 · exact h
theorem BalOk.all {p : Vote → Prop} {q : Quest} : ∀ (l : List Said) {b : List Ballot}, BalOk p b → (∀ s ∈ l, p ⟨s.up, (Vd.ofM q s.m).1, s.time⟩) → BalOk p (l.foldl (Vd.castSaid q) b)
 | [], b, h, _ => h
 | s :: l, b, h, hl => BalOk.all l (h.cast (hl s (List.mem_cons_self ..))) fun t ht => hl t (List.mem_cons_of_mem _ ht)
theorem BalOk.votes {p : Vote → Prop} {l : List Ballot} (h : BalOk p l) : Vd.votesB l = l.map (·.v) := by
 unfold Vd.votesB
 rw [List.filter_eq_self.2 fun b hb => by rw [(h.ok b hb).1]; rfl]
def ack (s : RSet) : Prop := s.name.length ≤ 255 ∧ s.data.length ≤ 420 ∧ s.data ≠ [] ∧ ∀ d ∈ s.data, d.length ≤ 5000
theorem MsgSmall.sets {m : Vd.Msg} (h : MsgSmall m) (q : Quest) : aci ack (Vd.ofM q m).1 := by
 obtain ⟨⟨a1, a2⟩, b1, b2⟩ := h
 have ga := (yf (D := 5000) m.answers fun x hx => (a2 x hx).2).2
 have gb := (yf (D := 5000) m.auth fun x hx => (b2 x hx).2).2
 refine Yd q m ack (fun s hs => hs) (fun s hs => ?_) (fun s hs => ?_)
 · obtain ⟨h1, h2, h3, h4⟩ := ga s hs
   exact ⟨h1, by omega, h3, h4⟩
 · obtain ⟨h1, h2, h3, h4⟩ := gb s hs
   exact ⟨h1, by omega, h3, h4⟩
theorem MsgSmall.fits {m : Vd.Msg} (h : MsgSmall m) : adK m := by
 obtain ⟨⟨a1, a2⟩, b1, b2⟩ := h
 exact ⟨by omega, fun x hx => ⟨by have := (a2 x hx).1; omega, by have := (a2 x hx).2; omega⟩, by omega, fun x hx => ⟨by have := (b2 x hx).1; omega, by have := (b2 x hx).2; omega⟩⟩
def VoteSm (v : Vote) : Prop := aci ack v.vd ∧ v.vd.sets.length ≤ 10 ∧ v.vd.soa.length ≤ 1
theorem QB {q : Quest} {v : Vdt} (h : (Vd.endV q v).2 = true) : (Vd.endV q v).1 ∈ v.sets ∧ (Vd.endV q v).1.kind = q.kind := by
 unfold Vd.endV at h ⊢
 cases hs : v.sets.getLast? with
 | none => rw [hs] at h; cases h
 | some s =>
   rw [hs] at h
   dsimp only at h ⊢
   by_cases hk : s.kind = q.kind
   · rw [if_pos hk]
     exact ⟨List.mem_of_getLast? hs, hk⟩
   · rw [if_neg hk] at h; cases h
theorem VX {q : Quest} {v : Vdt} (h : (Vd.endV q v).2 = false) : (Vd.endV q v).1 = RSet.none := by
 unfold Vd.endV at h ⊢
 cases hs : v.sets.getLast? with
 | none => rfl
 | some s =>
   rw [hs] at h
   dsimp only at h ⊢
   by_cases hk : s.kind = q.kind
   · rw [if_pos hk] at h; cases h
   · rw [if_neg hk]
theorem VoteSm.ends {v : Vote} (h : VoteSm v) (q : Quest) : (Vd.endV q v.vd).1.data.length ≤ 420 ∧ (∀ d ∈ (Vd.endV q v.vd).1.data, d.length ≤ 5000) ∧ ((Vd.endV q v.vd).2 = true → (Vd.endV q v.vd).1.data ≠ []) := by
 cases he : (Vd.endV q v.vd).2 with
 | true =>
   obtain ⟨_, h2, h3, h4⟩ := h.1.1 _ (QB he).1
   exact ⟨h2, h4, fun _ => h3⟩
 | false =>
   rw [VX he]
   exact ⟨by simp [RSet.none], by simp [RSet.none], fun h => by cases h⟩
end Go.Proofs.YtbjkkoacclfejaaGreat
namespace Go.Proofs.YtbjkkoacclfejaaGreat
open Go.RowKit
open Vd (RSet Vdt Vote Rec Quest Piece Ballot)
variable {G : World} {L : ja}
theorem Spec.drop {P : Program} {f : FuncId} {args : Array Value} {Φ Ψ : Value → ja → Prop} (h : Spec P G f args L Φ) (hi : ∀ v M, Φ v M → ∃ M', Ψ v M' ∧ ∀ p, cnt p M' ≤ cnt p M) : Spec P G f args L Ψ :=
 ⟨fun w hw => (h.out w hw).mono fun e w' ⟨v, M, e1, h1, h2⟩ => by
   obtain ⟨M', k1, k2⟩ := hi v M h1
   exact ⟨v, M', e1, k1, h2.cnt k2⟩⟩
theorem BoxOk.len {l : List Ballot} (h : BoxOk l) : l.length ≤ 9 := by
 have h1 : (l.map fun b => b.v.up).length ≤ 9 := zf 9 _ h.nd fun u hu => by
  obtain ⟨b, hb, rfl⟩ := List.mem_map.1 hu
  have := h.up b hb
  omega
 rw [List.length_map] at h1
 exact h1
structure BoxSm (l : List Ballot) : Prop where
 ok : BoxOk l
 sm : ∀ x ∈ Vd.votesB l, SmV x.vd
theorem BoxSm.nil : BoxSm [] := ⟨BoxOk.nil, by simp [Vd.votesB]⟩
theorem BoxSm.put {l : List Ballot} (h : BoxSm l) {x : Ballot} (hx : SmV x.v.vd) : BoxSm (Vd.putB l x).1 := by
 refine ⟨h.ok.put x, fun y hy => ?_⟩
 by_cases h0 : Q2 l x.v.up = 0
 · rw [(Q3 h0).1, qz] at hy
   split at hy
   · exact h.sm y hy
   · rcases List.mem_append.1 hy with hy | hy
     · exact h.sm y hy
     · rw [List.mem_singleton.1 hy]; exact hx
 · rw [VR h0] at hy
   exact h.sm y hy
theorem acl : SmV Vdt.none := ⟨⟨by decide, by simp [Vdt.none]⟩, ⟨by decide, by simp [Vdt.none]⟩⟩
def PBox (bb : Nat) (want : Int) (l : List Ballot) (X : ja) : Prop := BoxSm l ∧ ∃ M0 N, TBox N bb want l M0 ∧ Wr N ∧ X = M0 ++ N
def DBox (bb : Nat) (want : Int) (l : List Ballot) (X : ja) : Prop := BoxOk l ∧ ∃ M0 N, RBox N bb want l M0 ∧ X = M0 ++ N
theorem ae6 (want : Int) : Spec Tryz.prog G 41 #[.int .i64 want] L fun u M => (1 ≤ want ∧ want ≤ 9 ∧ ∃ bb X, u = .tuple #[.pointer (some ⟨bb, 0, none⟩), .int .i64 0] ∧ PBox bb want [] X ∧ M = X ++ L) ∨ ((want < 1 ∨ 9 < want) ∧ u = .tuple #[.pointer none, .int .i64 1] ∧ M = L) := by
 refine (ae5 want).mono fun u M h => ?_
 rcases h with ⟨h1, h2, bb, h3, h4⟩ | h
 · exact Or.inl ⟨h1, h2, bb, _, h3, ⟨BoxSm.nil, _, [], ⟨none, 0, [], ORow.nil _, rfl⟩, Wr.nil, rfl⟩, h4⟩
 · exact Or.inr h
theorem adT {bb : Nat} {want : Int} {l : List Ballot} {X : ja} (h : PBox bb want l X) (hX : ∀ p ∈ X, p ∈ L) : Spec Tryz.prog G 186 #[.pointer (some ⟨bb, 0, none⟩)] L fun w M => w = .int .i64 (qO (Vd.votesB l)) ∧ M = L := by
 obtain ⟨hs, _, N, ⟨a, c, B, hB, rfl⟩, hN, rfl⟩ := h
 exact adO bb want l _ (hX _ (List.mem_append_left _ (List.mem_cons_self ..))) hs.ok
theorem ae7 {bb : Nat} {want : Int} {l : List Ballot} {X : ja} (h : PBox bb want l X) (hX : ∀ p ∈ X, p ∈ L) : Spec Tryz.prog G 189 #[.pointer (some ⟨bb, 0, none⟩)] L (ab9 L (aaH want (Vd.votesB l))) := by
 obtain ⟨hs, _, N, ⟨a, c, B, hB, rfl⟩, hN, rfl⟩ := h
 exact ae3 (K := N) bb want l a c (hX _ (List.mem_append_left _ (List.mem_cons_self ..))) ((hB.imp (r' := fun _ => voteR N) (L' := []) (fun cs x _ h => h)).sliceR j3 (by simp) (fun p hp => hX p (by simp [hp]))) (fun p hp => hX p (by simp [hp])) hs.ok hs.ok.len hs.sm
theorem Ze {bb : Nat} {want : Int} {l : List Ballot} {X : ja} (h : PBox bb want l X) (hX : ∀ p ∈ X, p ∈ L) : Spec Tryz.prog G 190 #[.pointer (some ⟨bb, 0, none⟩)] L fun u M => ∃ a3 c3 B3, u = .slice a3 (if want < 1 then [] else kw want (Vd.votesB l)).length c3 ∧ ORow (uj .i64) 3 1 [] a3 c3 (if want < 1 then [] else kw want (Vd.votesB l)) B3 ∧ M = B3 ++ L := by
 obtain ⟨hs, _, N, ⟨a, c, B, hB, rfl⟩, hN, rfl⟩ := h
 exact Y7 (K := N) bb want l a c (hX _ (List.mem_append_left _ (List.mem_cons_self ..))) ((hB.imp (r' := fun _ => voteR N) (L' := []) (fun cs x _ h => h)).sliceR j3 (by simp) (fun p hp => hX p (by simp [hp]))) hs.ok hs.ok.len
theorem JE {bb : Nat} {want : Int} {l : List Ballot} {X : ja} (h : PBox bb want l X) (hX : ∀ p ∈ X, p ∈ L) : Spec Tryz.prog G 210 #[.pointer (some ⟨bb, 0, none⟩)] L (Q5 L (Vd.votesB l)) := by
 obtain ⟨hs, _, N, ⟨a, c, B, hB, rfl⟩, hN, rfl⟩ := h
 have := j7 l
 have := hs.ok.len
 exact ab0 bb want (jz l) (Vd.votesB l) a c (hX _ (List.mem_append_left _ (List.mem_cons_self ..))) ((hB.mono qf (fun p hp => hX p (by simp [hp]))).sliceR qf (fun p h => h) (fun p hp => hX p (by simp [hp]))) jd hs.sm
theorem adU {bb : Nat} {want : Int} {l : List Ballot} {X : ja} {cs : List Value} {x : Vote} (h : PBox bb want l X) (hx : voteR L cs x) (hsx : SmV x.vd) : Spec Tryz.prog G 52 #[.pointer (some ⟨bb, 0, none⟩), .agg cs.toArray] (X ++ L) fun w M => w = .int .i64 (Vd.putB l ⟨x, false⟩).2 ∧ ∃ X', PBox bb want (Vd.putB l ⟨x, false⟩).1 X' ∧ M = X' ++ L := by
 obtain ⟨hs, M0, N, hb, hN, rfl⟩ := h
 have h1 := adI (G := G) (L := N ++ L) (K := N) bb want l M0 cs x hb hs.ok (by simp +contextual) (qf _ _ _ _ (by simp +contextual) hx) hsx hs.ok.len
 rw [← List.append_assoc] at h1
 refine h1.mono fun w M ⟨e, M', N', hb', hN', hM⟩ => ⟨e, M' ++ (N' ++ N), ⟨hs.put hsx, M', N' ++ N, hb', hN'.append hN, rfl⟩, ?_⟩
 rw [hM]
 simp only [List.append_assoc]
theorem adV {bb : Nat} {want : Int} {l : List Ballot} {X : ja} (u : Int) (h : PBox bb want l X) : Spec Tryz.prog G 49 #[.pointer (some ⟨bb, 0, none⟩), .int .i64 u] (X ++ L) fun w M => w = .int .i64 (Vd.putB l ⟨⟨u, Vdt.none, 0⟩, true⟩).2 ∧ ∃ X', PBox bb want (Vd.putB l ⟨⟨u, Vdt.none, 0⟩, true⟩).1 X' ∧ M = X' ++ L := by
 obtain ⟨hs, M0, N, hb, hN, rfl⟩ := h
 have h1 := adG (G := G) (L := N ++ L) (K := N) bb want u l M0 hb hs.ok
 rw [← List.append_assoc] at h1
 refine h1.mono fun w M ⟨e, M', hb', hM⟩ => ⟨e, M' ++ N, ⟨hs.put acl, M', N, hb', hN, rfl⟩, ?_⟩
 rw [hM]
 simp only [List.append_assoc]
theorem adW {bb : Nat} {want : Int} {l : List Ballot} {X : ja} (h : PBox bb want l X) : Spec Tryz.prog G 51 #[.pointer (some ⟨bb, 0, none⟩)] (X ++ L) fun u M => ∃ b2 X2, u = .pointer (some ⟨b2, 0, none⟩) ∧ PBox b2 want l X2 ∧ M = X2 ++ (X ++ L) := by
 obtain ⟨hs, M0, N, hb, hN, rfl⟩ := h
 have h1 := adS (G := G) (L := N ++ L) (K := N) bb want l M0 hb (by simp +contextual) hs.ok.len hs.sm
 rw [← List.append_assoc] at h1
 refine h1.mono fun w M ⟨b2, M2, N2, e, hb2, hN2, hM⟩ => ⟨b2, M2 ++ N2, e, ⟨hs, M2, N2, hb2, hN2, rfl⟩, ?_⟩
 rw [hM]
 simp only [List.append_assoc]
theorem DBox.row {bb : Nat} {want : Int} {l : List Ballot} {X : ja} (h : DBox bb want l X) : ∃ a c B N, ORow ballotR 225 6 N a c l B ∧ X = (bb, Obj.cells #[.int .i64 want, .slice a l.length c] 200 (0, 0)) :: (B ++ N) := by
 obtain ⟨_, _, N, ⟨a, c, B, hB, rfl⟩, rfl⟩ := h
 exact ⟨a, c, B, N, hB, rfl⟩
end Go.Proofs.YtbjkkoacclfejaaGreat
namespace Go.Proofs.YtbjkkoacclfejaaGreat
open Go.RowKit
open Vd (RSet Vdt Vote Rec Quest Piece Ballot)
section
variable {G : World} {P : Program} {n : Nat} {ρ : jG} {L : ja} {ty : TypeId}
theorem uC {f : FuncId} {recv : Operand} {name : String} {xs : List Operand} {ats : Array TypeId} {vs : List Value} {t : TypeId} {rv : Value} {Φ : Value → ja → Prop} (hb : qt P f = true) (hx : ev ρ recv = some (.iface t rv)) (ha : kY ρ xs = some vs)
 (hm : ∀ w, (method (P.types.size + Made.depth) t rv name).run P w = .ok (f, rv) w) (h : Spec P G f (rv :: vs).toArray L Φ) : OpT P G ρ L (.call ⟨.invoke recv name, xs.toArray, ats⟩) ty Φ :=
 ⟨fun r hr w hw o ho _ => by
   have hq := yv hr xs vs ha
   have hrf := hr _ _ hx
   have : (execOp r o).run P w = (callFunc f (rv :: vs).toArray).run P w := by
    simp only [execOp, ho, resolve, hrf]
    show (invoke (.fn (.method name) #[]) (#[Value.iface t rv] ++ (xs.toArray.map r))).run P w = _
    rw [List.map_toArray, hq]
    simp [invoke, callMethod, hm]
   rw [this, yu hb]
   exact (h.out w hw).mono fun e w' ⟨v, L', h1, h2, h3⟩ => ⟨v, h1, L', h2, h3⟩⟩
end
end Go.Proofs.YtbjkkoacclfejaaGreat
namespace Go.Proofs.YtbjkkoacclfejaaGreat.Hg
structure En where
 up : Int
 asked : Int
 last : Int
 op : Bool
deriving DecidableEq
structure Pl where
 list : List En
 asked : Nat
 want : Int
 tries : Int
 every : Int
 wait : Int
 start : Int
 now : Int
 reached : Int
 made : Bool
 begins : Bool
deriving DecidableEq
def top : Int := 1099511627776
def ZY : List Int → List Int → Bool
 | _, [] => false
 | seen, u :: r => decide (u < 0) || decide (9 ≤ u) || seen.contains u || ZY (u :: seen) r
def ahY (l : List Int) (want every wait tries now : Int) : Bool :=
 decide (l.length ≤ 9) && !ZY [] l && decide (1 ≤ want ∧ want ≤ 9 ∧ 1 ≤ every ∧ every ≤ 1000 ∧ 1 ≤ wait ∧ wait ≤ 1000 ∧ 1 ≤ tries ∧ tries ≤ 4 ∧ 0 ≤ now ∧ now ≤ top)
def fresh (u : Int) : En := ⟨u, 0, 0, false⟩
def mk (l : List Int) (want every wait tries now : Int) : Pl := ⟨l.map fresh, 0, want, tries, every, wait, now, now, 0, true, false⟩
def advance (p : Pl) (n : Int) : Pl := { p with now := max p.now (min n top) }
def askAt (now : Int) (x : En) : En := ⟨x.up, 1, now, true⟩
def next (p : Pl) : Pl := { p with asked := p.asked + 1, list := p.list.modify p.asked (askAt p.now) }
def upAt (p : Pl) (i : Nat) : Int := ((p.list[i]?).map (·.up)).getD 0
def nexts : Nat → Pl → Pl × List Int
 | 0, p => (p, [])
 | k + 1, p => let r := nexts k (next p); (r.1, upAt p p.asked :: r.2)
def begin' (p : Pl) : Pl × List Int :=
 if !p.made || p.begins then (p, []) else nexts (min p.want.toNat (p.list.length - p.asked)) { p with begins := true }
def late (now wait : Int) (x : En) : Bool := x.op && decide (wait ≤ now - x.last)
def tickE (now wait tries : Int) (x : En) : En :=
 if late now wait x then (if tries ≤ x.asked then { x with op := false } else { x with asked := x.asked + 1, last := now }) else x
def goneE (now wait tries : Int) (x : En) : List Int := if late now wait x && decide (tries ≤ x.asked) then [x.up] else []
def sendE (now wait tries : Int) (x : En) : List Int := if late now wait x && !decide (tries ≤ x.asked) then [x.up] else []
def examine (p : Pl) : Pl := { p with list := p.list.map (tickE p.now p.wait p.tries) }
def hedged (p : Pl) : Pl × List Int :=
 let k := (p.now - p.start) / p.every
 if p.reached < k then
  let q := { p with reached := k }
  if q.asked < q.list.length then (next q, [upAt q q.asked]) else (q, [])
 else (p, [])
def tick (p : Pl) (n : Int) : Pl × List Int × List Int :=
 if !p.begins then (p, [], []) else
 let q := advance p n
 let r := hedged (examine q)
 (r.1, q.list.flatMap (goneE q.now q.wait q.tries), q.list.flatMap (sendE q.now q.wait q.tries) ++ r.2)
def more (p : Pl) (n : Int) : Pl × Int × Bool :=
 if !p.begins then (p, 0, false) else
 let q := advance p n
 if q.list.length ≤ q.asked then (q, 0, false) else (next q, upAt q q.asked, true)
def isIt (u : Int) (x : En) : Bool := x.up == u && x.op
def closeL (u : Int) : List En → List En
 | [] => []
 | x :: r => if isIt u x then { x with op := false } :: r else x :: closeL u r
def close (p : Pl) (u : Int) : Pl × Bool := ({ p with list := closeL u p.list }, p.list.any (isIt u))
def opens (p : Pl) : Int := ((p.list.filter (·.op)).length : Nat)
def left (p : Pl) : Int := (p.list.length : Int) - (p.asked : Nat)
def aiS (p : Pl) (u : Int) : Int := ((p.list.find? fun x => x.up == u).map (·.asked)).getD 0
def exA : Pl := (begin' (mk [4, 2, 7] 2 10 15 2 100)).1
theorem ex1 : ahY [4, 2, 7] 2 10 15 2 100 = true ∧ (begin' (mk [4, 2, 7] 2 10 15 2 100)).2 = [4, 2] := by decide
def exB : Pl := (tick exA 110).1
def exC : Pl := (tick exB 115).1
def exD : Pl := (close exC 2).1
def exE : Pl := (tick exD 125).1
def exF : Pl := (tick exE 130).1
def exG : Pl := (tick exF 140).1
theorem ex2 : (tick exA 110).2 = ([], [7]) ∧ (tick exB 115).2 = ([], [4, 2]) ∧ (close exC 2).2 = true ∧ (tick exD 125).2 = ([], [7]) ∧ (tick exE 130).2 = ([4], []) ∧ (tick exF 140).2 = ([7], []) ∧ opens exG = 0 := by decide
end Go.Proofs.YtbjkkoacclfejaaGreat.Hg
namespace Go.Proofs.YtbjkkoacclfejaaGreat
open Go.RowKit
open Hg (En Pl)
def kj (x : En) : List Value := [.int .i64 x.up, .int .i64 x.asked, .int .i64 x.last, .bool x.op]
def kD (l : List En) : List Value := l.flatMap kj
theorem qp (x : En) (l : List En) : kD (x :: l) = kj x ++ kD l := rfl
theorem uy (l : List En) : (kD l).length = l.length * 4 := by
 induction l with
 | nil => rfl
 | cons x r ih => rw [qp, List.length_append, ih]; simp [kj]; omega
theorem ua : ∀ (l : List En) (i j : Nat) (x : En), l[i]? = some x → j < 4 → (kD l)[i * 4 + j]? = (kj x)[j]?
 | [], i, j, x, h, _ => by simp at h
 | y :: r, 0, j, x, h, hj => by
   simp at h
   subst h
   rw [qp, List.getElem?_append_left (by simp [kj]; omega)]
   simp
 | y :: r, i + 1, j, x, h, hj => by
   rw [qp, List.getElem?_append_right (by simp [kj]; omega), ← ua r i j x (by simpa using h) hj]
   congr 1
   simp [kj]
   omega
theorem U5 (now : Int) : ∀ (l : List En) (i : Nat) (x : En), l[i]? = some x → (((kD l).set (i * 4 + 1) (.int .i64 1)).set (i * 4 + 2) (.int .i64 now)).set (i * 4 + 3) (.bool true) = kD (l.modify i (Hg.askAt now))
 | [], i, x, h => by simp at h
 | y :: r, 0, x, h => by simp [qp, kj, Hg.askAt]
 | y :: r, i + 1, x, h => by
   rw [List.modify_succ_cons, qp, qp, ← U5 now r i x (by simpa using h)]
   rw [show (i + 1) * 4 + 1 = (i * 4 + 1) + 4 by omega, show (i + 1) * 4 + 2 = (i * 4 + 2) + 4 by omega, show (i + 1) * 4 + 3 = (i * 4 + 3) + 4 by omega]
   simp [kj]
def jk (p : Pl) (v : Value) : Array Value := #[v, .int .i64 (p.asked : Nat), .int .i64 p.want, .int .i64 p.tries, .int .i64 p.every, .int .i64 p.wait, .int .i64 p.start, .int .i64 p.now, .int .i64 p.reached, .bool p.made, .bool p.begins]
theorem take_set (cur : Array Value) (k m : Nat) (v : Value) : (cur.setIfInBounds k v).toList.take m = (cur.toList.take m).set k v := by
 rw [Array.toList_setIfInBounds, List.take_set]
variable {G : World} {L : ja}
theorem U6 (bp : Nat) (p : Pl) (v : Value) (now : Int) : Spec Tryz.prog G 71 #[.pointer (some ⟨bp, 0, none⟩), .int .i64 now] ((bp, .cells (jk p v) 158 (0, 0)) :: L) fun u M => M = (bp, .cells (jk (Hg.advance p now) v) 158 (0, 0)) :: L := by
 unfold jk Hg.advance Hg.top
 refine jm (n := 14) Tryz.func71 rfl rfl rfl ?_
 refine goD ?_
 refine uR rfl ?_
 rfl
theorem Zf (bp : Nat) (p : Pl) (v : Value) (B : ja) (hR : Row 160 4 v p.list.length (kD p.list) B) (ha : p.asked < p.list.length) (hl : p.list.length ≤ 9) :
 Spec Tryz.prog G 69 #[.pointer (some ⟨bp, 0, none⟩)] ((bp, .cells (jk p v) 158 (0, 0)) :: (B ++ L)) fun u M => u = .int .i64 (Hg.upAt p p.asked) ∧ ∃ B', Row 160 4 v (Hg.next p).list.length (kD (Hg.next p).list) B' ∧ M = (bp, .cells (jk (Hg.next p) v) 158 (0, 0)) :: (B' ++ L) := by
 rcases hR.is with ⟨_, h, _⟩ | ⟨be, cap, cur, rfl, rfl, h3, h4, h5, h6⟩
 · omega
 obtain ⟨x, hx⟩ : ∃ x, p.list[p.asked]? = some x := ⟨_, List.getElem?_eq_getElem ha⟩
 have hat : ∀ j u, j < 4 → (kj x)[j]? = some u → cur[0 + p.asked * 4 + j]? = some u := fun j u hj hu => by
  have := ua p.list p.asked j x hx hj
  rw [← h6, List.getElem?_take_of_lt jd, hu] at this
  rw [Nat.zero_add]
  simpa using this
 have n0 : cur[0 + p.asked * 4 + 0]? = some (.int .i64 x.up) := hat 0 _ jd rfl
 have n1 : cur[0 + p.asked * 4 + 1]? = some (.int .i64 x.asked) := hat 1 _ jd rfl
 have n2 : cur[0 + p.asked * 4 + 2]? = some (.int .i64 x.last) := hat 2 _ jd rfl
 have n3 : cur[0 + p.asked * 4 + 3]? = some (.bool x.op) := hat 3 _ jd rfl
 have m2 : (cur.setIfInBounds (0 + p.asked * 4 + 1) (.int .i64 1))[0 + p.asked * 4 + 2]? = some (.int .i64 x.last) := by rw [Array.getElem?_setIfInBounds_ne jd]; exact n2
 have m3 : ((cur.setIfInBounds (0 + p.asked * 4 + 1) (.int .i64 1)).setIfInBounds (0 + p.asked * 4 + 2) (.int .i64 p.now))[0 + p.asked * 4 + 3]? = some (.bool x.op) := by rw [Array.getElem?_setIfInBounds_ne jd, Array.getElem?_setIfInBounds_ne jd]; exact n3
 have m0 : (((cur.setIfInBounds (0 + p.asked * 4 + 1) (.int .i64 1)).setIfInBounds (0 + p.asked * 4 + 2) (.int .i64 p.now)).setIfInBounds (0 + p.asked * 4 + 3) (.bool true))[0 + p.asked * 4 + 0]? = some (.int .i64 x.up) := by rw [Array.getElem?_setIfInBounds_ne jd, Array.getElem?_setIfInBounds_ne jd, Array.getElem?_setIfInBounds_ne jd]; exact n0
 unfold jk
 refine jm (n := 37) Tryz.func69 rfl rfl rfl ?_
 have hK : ∀ q ∈ [(bp, Obj.cells #[.slice (some ⟨be, 0, none⟩) p.list.length cap, .int .i64 (p.asked : Nat), .int .i64 p.want, .int .i64 p.tries, .int .i64 p.every, .int .i64 p.wait, .int .i64 p.start, .int .i64 p.now, .int .i64 p.reached, .bool p.made, .bool p.begins] 158 (0, 0))], q ∈ (bp, Obj.cells #[.slice (some ⟨be, 0, none⟩) p.list.length cap, .int .i64 (p.asked : Nat), .int .i64 p.want, .int .i64 p.tries, .int .i64 p.every, .int .i64 p.wait, .int .i64 p.start, .int .i64 p.now, .int .i64 p.reached, .bool p.made, .bool p.begins] 158 (0, 0)) :: ([(be, Obj.cells cur 160 (0, 0))] ++ L) := fun q hq => by
  rw [List.mem_singleton.1 hq]; exact List.mem_cons_self ..
 refine goD ?_
 refine jq jb ([(bp, Obj.cells #[.slice (some ⟨be, 0, none⟩) p.list.length cap, .int .i64 (p.asked : Nat), .int .i64 p.want, .int .i64 p.tries, .int .i64 p.every, .int .i64 p.wait, .int .i64 p.start, .int .i64 p.now, .int .i64 p.reached, .bool p.made, .bool p.begins] 158 (0, 0))]) [] ?_
 refine tkQ 0 ?_
 refine tkQ 1 ?_
 refine tkQ 2 ?_
 refine tkQ 3 ?_
 refine tkQ 4 ?_
 refine tkQ 5 ?_
 refine tkQ 6 ?_
 refine tkQ 7 ?_
 refine tkQ 8 ?_
 refine tkQ 9 ?_
 refine tdQ ?_
 refine goD ?_
 refine ji 2 _ rfl rfl ?_
 refine ⟨by simp [Hg.upAt, hx], [(be, Obj.cells (((cur.setIfInBounds (0 + p.asked * 4 + 1) (.int .i64 1)).setIfInBounds (0 + p.asked * 4 + 2) (.int .i64 p.now)).setIfInBounds (0 + p.asked * 4 + 3) (.bool true)) 160 (0, 0))], ⟨uy _, Or.inr ⟨be, cap, _, by simp [Hg.next], rfl, by simpa [Hg.next] using h3, h4, by simpa using h5, ?_⟩⟩, rfl⟩
 simp only [Hg.next, List.length_modify]
 rw [take_set, take_set, take_set, h6, Nat.zero_add]
 exact U5 p.now p.list p.asked x hx
end Go.Proofs.YtbjkkoacclfejaaGreat
namespace Go.Proofs.YtbjkkoacclfejaaGreat
open Go.RowKit
open Hg (En Pl)
variable {G : World} {L : ja}
theorem ae8 (bp : Nat) (p : Pl) (a : Option Addr) (c : Nat) (B : ja) (now : Int) (hR : Row 160 4 (.slice a p.list.length c) p.list.length (kD p.list) B) (hl : p.list.length ≤ 9) :
 Spec Tryz.prog G 70 #[.pointer (some ⟨bp, 0, none⟩), .int .i64 now] ((bp, .cells (jk p (.slice a p.list.length c)) 158 (0, 0)) :: (B ++ L)) fun u M => u = .tuple #[.int .i64 (Hg.more p now).2.1, .bool (Hg.more p now).2.2] ∧
  ∃ B', Row 160 4 (.slice a p.list.length c) (Hg.more p now).1.list.length (kD (Hg.more p now).1.list) B' ∧ M = (bp, .cells (jk (Hg.more p now).1 (.slice a p.list.length c)) 158 (0, 0)) :: (B' ++ L) := by
 have pc0 : (jk (p) (.slice a p.list.length c))[0 + 0]? = some (.slice a p.list.length c) := rfl
 have pc1 : (jk (p) (.slice a p.list.length c))[0 + 1]? = some (.int .i64 ((p).asked : Nat)) := rfl
 have pc2 : (jk (p) (.slice a p.list.length c))[0 + 2]? = some (.int .i64 (p).want) := rfl
 have pc3 : (jk (p) (.slice a p.list.length c))[0 + 3]? = some (.int .i64 (p).tries) := rfl
 have pc4 : (jk (p) (.slice a p.list.length c))[0 + 4]? = some (.int .i64 (p).every) := rfl
 have pc5 : (jk (p) (.slice a p.list.length c))[0 + 5]? = some (.int .i64 (p).wait) := rfl
 have pc6 : (jk (p) (.slice a p.list.length c))[0 + 6]? = some (.int .i64 (p).start) := rfl
 have pc7 : (jk (p) (.slice a p.list.length c))[0 + 7]? = some (.int .i64 (p).now) := rfl
 have pc8 : (jk (p) (.slice a p.list.length c))[0 + 8]? = some (.int .i64 (p).reached) := rfl
 have pc9 : (jk (p) (.slice a p.list.length c))[0 + 9]? = some (.bool (p).made) := rfl
 have pc10 : (jk (p) (.slice a p.list.length c))[0 + 10]? = some (.bool (p).begins) := rfl
 have g1 : Option.isNone (some (⟨bp, 0, none⟩ : Addr)) = false := rfl
 refine jm (n := 30) Tryz.func70 rfl rfl rfl ?_
 cases hb : p.begins with
 | false =>
   have g2 : (!p.begins) = true := by rw [hb]; rfl
   have hm : Hg.more p now = (p, 0, false) := by unfold Hg.more; rw [if_pos g2]
   rw [hm]
   refine goD ?_
   refine jM 4 5 _ _ rfl rfl rfl ?_
   exact ⟨rfl, B, hR, rfl⟩
 | true =>
 have g2 : (!p.begins) = false := by rw [hb]; rfl
 refine goD ?_
 refine jw (jc je rfl (U6 bp p _ now)) rfl ?_
 rintro u0 M0 hM0
 rw [hM0]
 clear hM0 M0
 obtain ⟨q, hq⟩ : ∃ q, q = Hg.advance p now := ⟨_, rfl⟩
 have hql : q.list = p.list := by rw [hq]; rfl
 rw [← hql] at hR hl
 rw [← hq, ← hql]
 have qc0 : (jk (q) (.slice a q.list.length c))[0 + 0]? = some (.slice a q.list.length c) := rfl
 have qc1 : (jk (q) (.slice a q.list.length c))[0 + 1]? = some (.int .i64 ((q).asked : Nat)) := rfl
 have qc2 : (jk (q) (.slice a q.list.length c))[0 + 2]? = some (.int .i64 (q).want) := rfl
 have qc3 : (jk (q) (.slice a q.list.length c))[0 + 3]? = some (.int .i64 (q).tries) := rfl
 have qc4 : (jk (q) (.slice a q.list.length c))[0 + 4]? = some (.int .i64 (q).every) := rfl
 have qc5 : (jk (q) (.slice a q.list.length c))[0 + 5]? = some (.int .i64 (q).wait) := rfl
 have qc6 : (jk (q) (.slice a q.list.length c))[0 + 6]? = some (.int .i64 (q).start) := rfl
 have qc7 : (jk (q) (.slice a q.list.length c))[0 + 7]? = some (.int .i64 (q).now) := rfl
 have qc8 : (jk (q) (.slice a q.list.length c))[0 + 8]? = some (.int .i64 (q).reached) := rfl
 have qc9 : (jk (q) (.slice a q.list.length c))[0 + 9]? = some (.bool (q).made) := rfl
 have qc10 : (jk (q) (.slice a q.list.length c))[0 + 10]? = some (.bool (q).begins) := rfl
 have hK : ∀ x ∈ [(bp, Obj.cells (jk q (.slice a q.list.length c)) 158 (0, 0))], x ∈ (bp, Obj.cells (jk q (.slice a q.list.length c)) 158 (0, 0)) :: (B ++ L) := fun x hx => by
  rw [List.mem_singleton.1 hx]; exact List.mem_cons_self ..
 have hm : Hg.more p now = if q.list.length ≤ q.asked then (q, 0, false) else (Hg.next q, Hg.upAt q q.asked, true) := by unfold Hg.more; rw [if_neg (by rw [g2]; simp), hq]
 by_cases hlen : q.list.length ≤ q.asked
 · have g3 : decide (((q.list.length : Nat) : Int) ≤ ((q.asked : Nat) : Int)) = true := decide_eq_true jd
   rw [hm, if_pos hlen]
   refine goD ?_
   refine jq jb ([(bp, Obj.cells (jk q (.slice a q.list.length c)) 158 (0, 0))]) [] ?_
   refine tkQ 0 ?_
   refine tkQ 1 ?_
   refine tkQ 2 ?_
   refine tkQ 3 ?_
   refine tkQ 4 ?_
   refine tkQ 5 ?_
   refine tkQ 6 ?_
   refine tkQ 7 ?_
   refine tkQ 8 ?_
   refine tkQ 9 ?_
   refine tdQ ?_
   refine goD ?_
   refine jM 4 5 _ _ rfl rfl rfl ?_
   exact ⟨rfl, B, hR, rfl⟩
 · have g3 : decide (((q.list.length : Nat) : Int) ≤ ((q.asked : Nat) : Int)) = false := decide_eq_false jd
   rw [hm, if_neg hlen]
   refine goD ?_
   refine jq jb ([(bp, Obj.cells (jk q (.slice a q.list.length c)) 158 (0, 0))]) [] ?_
   refine tkQ 0 ?_
   refine tkQ 1 ?_
   refine tkQ 2 ?_
   refine tkQ 3 ?_
   refine tkQ 4 ?_
   refine tkQ 5 ?_
   refine tkQ 6 ?_
   refine tkQ 7 ?_
   refine tkQ 8 ?_
   refine tkQ 9 ?_
   refine tdQ ?_
   refine goD ?_
   refine jw (jc je rfl (Zf bp q _ B hR jd hl)) rfl ?_
   rintro _ M1 ⟨rfl, B1, hR1, hM1⟩
   rw [hM1]
   clear hM1 M1
   refine goD ?_
   refine jM 4 5 _ _ rfl rfl rfl ?_
   exact ⟨rfl, B1, hR1, rfl⟩
end Go.Proofs.YtbjkkoacclfejaaGreat
namespace Go.Proofs.YtbjkkoacclfejaaGreat
open Go.RowKit
open Hg (En Pl)
variable {G : World} {L : ja}
def kC (l : List Int) : List Value := l.map fun x => .int .i64 x
theorem z7 : ∀ (k : Nat) (p : Pl), Hg.nexts (k + 1) p = (Hg.next (Hg.nexts k p).1, (Hg.nexts k p).2 ++ [Hg.upAt (Hg.nexts k p).1 (Hg.nexts k p).1.asked])
 | 0, p => rfl
 | k + 1, p => by
   have ih := z7 k (Hg.next p)
   show ((Hg.nexts (k + 1) (Hg.next p)).1, _ :: (Hg.nexts (k + 1) (Hg.next p)).2) = _
   rw [ih]
   rfl
theorem qR : ∀ (k : Nat) (p : Pl), (Hg.nexts k p).1.asked = p.asked + k ∧ (Hg.nexts k p).1.list.length = p.list.length ∧ (Hg.nexts k p).1.want = p.want ∧ (Hg.nexts k p).2.length = k
 | 0, p => ⟨rfl, rfl, rfl, rfl⟩
 | k + 1, p => by
   obtain ⟨h1, h2, h3, h4⟩ := qR k (Hg.next p)
   refine ⟨by show (Hg.nexts k (Hg.next p)).1.asked = _; rw [h1]; show p.asked + 1 + k = _; omega, by show (Hg.nexts k (Hg.next p)).1.list.length = _; rw [h2]; simp [Hg.next], h3, by show (_ :: (Hg.nexts k (Hg.next p)).2).length = _; simp [h4]⟩
theorem perm_out {A B C : ja} {p : Nat × Obj} : (p :: (A ++ (B ++ C))).Perm (B ++ (p :: (A ++ C))) := by
 have := List.perm_append_comm_assoc (p :: A) B C
 simpa using this
theorem adX (bp : Nat) (p : Pl) (a : Option Addr) (c : Nat) (B : ja) (hR : Row 160 4 (.slice a p.list.length c) p.list.length (kD p.list) B) (hl : p.list.length ≤ 9) (hw : 1 ≤ p.want ∧ p.want ≤ 9) (hm : p.made = true) (hg : p.begins = false) (hz : p.asked = 0) :
 Spec Tryz.prog G 42 #[.pointer (some ⟨bp, 0, none⟩)] ((bp, .cells (jk p (.slice a p.list.length c)) 158 (0, 0)) :: (B ++ L)) fun u M =>
  ∃ B1 B', Row 3 1 u (Hg.begin' p).2.length (kC (Hg.begin' p).2) B1 ∧ Row 160 4 (.slice a p.list.length c) (Hg.begin' p).1.list.length (kD (Hg.begin' p).1.list) B' ∧ M = (bp, .cells (jk (Hg.begin' p).1 (.slice a p.list.length c)) 158 (0, 0)) :: (B' ++ (B1 ++ L)) := by
 have pc0 : (jk (p) (.slice a p.list.length c))[0 + 0]? = some (.slice a p.list.length c) := rfl
 have pc1 : (jk (p) (.slice a p.list.length c))[0 + 1]? = some (.int .i64 ((p).asked : Nat)) := rfl
 have pc2 : (jk (p) (.slice a p.list.length c))[0 + 2]? = some (.int .i64 (p).want) := rfl
 have pc3 : (jk (p) (.slice a p.list.length c))[0 + 3]? = some (.int .i64 (p).tries) := rfl
 have pc4 : (jk (p) (.slice a p.list.length c))[0 + 4]? = some (.int .i64 (p).every) := rfl
 have pc5 : (jk (p) (.slice a p.list.length c))[0 + 5]? = some (.int .i64 (p).wait) := rfl
 have pc6 : (jk (p) (.slice a p.list.length c))[0 + 6]? = some (.int .i64 (p).start) := rfl
 have pc7 : (jk (p) (.slice a p.list.length c))[0 + 7]? = some (.int .i64 (p).now) := rfl
 have pc8 : (jk (p) (.slice a p.list.length c))[0 + 8]? = some (.int .i64 (p).reached) := rfl
 have pc9 : (jk (p) (.slice a p.list.length c))[0 + 9]? = some (.bool (p).made) := rfl
 have pc10 : (jk (p) (.slice a p.list.length c))[0 + 10]? = some (.bool (p).begins) := rfl
 have g1 : Option.isNone (some (⟨bp, 0, none⟩ : Addr)) = false := rfl
 have g2 : (!p.made) = false := by rw [hm]; rfl
 refine jm (n := 47) Tryz.func42 rfl rfl rfl ?_
 refine goD ?_
 obtain ⟨p0, hp0⟩ : ∃ p0 : Pl, p0 = { p with begins := true } := ⟨_, rfl⟩
 obtain ⟨N, hN⟩ : ∃ N, N = min p.want.toNat (p.list.length - p.asked) := ⟨_, rfl⟩
 have hbeg : Hg.begin' p = Hg.nexts N p0 := by unfold Hg.begin'; rw [if_neg (by rw [hm, hg]; simp), hp0, hN]
 rw [hbeg]
 have hp0l : p0.list = p.list := by rw [hp0]
 have hp0w : p0.want = p.want := by rw [hp0]
 have hp0a : p0.asked = 0 := by rw [hp0]; exact hz
 refine jy (σ := Nat × Value × ja × ja) (fun x => x.1 ≤ N ∧ Row 3 1 x.2.1 x.1 (kC (Hg.nexts x.1 p0).2) x.2.2.1 ∧ Row 160 4 (.slice a p.list.length c) p.list.length (kD (Hg.nexts x.1 p0).1.list) x.2.2.2) (fun x => [(0, .pointer (some ⟨bp, 0, none⟩)), (3, x.2.1)]) (fun x => (bp, .cells (jk (Hg.nexts x.1 p0).1 (.slice a p.list.length c)) 158 (0, 0)) :: (x.2.2.2 ++ (x.2.2.1 ++ L))) (fun x => N - x.1) (0, .slice none 0 0, [], B) ⟨Nat.zero_le _, Row.nil _ _, ?_⟩ ?_ ?_ ?_
 · show Row _ 4 _ _ (kD p0.list) B
   rw [hp0l]; exact hR
 exact jr
 · intro w h
   rw [hp0]
   exact h
 rintro ⟨k, v3, B1, B2⟩ ⟨hk, hR1, hR2⟩
 dsimp only at hk hR1 hR2 ⊢
 obtain ⟨q1, q2, q3, q4⟩ := qR k p0
 obtain ⟨q, hq⟩ : ∃ q, q = (Hg.nexts k p0).1 := ⟨_, rfl⟩
 obtain ⟨a3, c3, rfl⟩ := hR1.slice
 have hS := z7 k p0
 rw [← hq] at q1 q2 q3 hR2 hS ⊢
 rw [hp0a] at q1
 rw [hp0l] at q2
 rw [hp0w] at q3
 have qc0 : (jk (q) (.slice a p.list.length c))[0 + 0]? = some (.slice a p.list.length c) := rfl
 have qc1 : (jk (q) (.slice a p.list.length c))[0 + 1]? = some (.int .i64 ((q).asked : Nat)) := rfl
 have qc2 : (jk (q) (.slice a p.list.length c))[0 + 2]? = some (.int .i64 (q).want) := rfl
 have qc3 : (jk (q) (.slice a p.list.length c))[0 + 3]? = some (.int .i64 (q).tries) := rfl
 have qc4 : (jk (q) (.slice a p.list.length c))[0 + 4]? = some (.int .i64 (q).every) := rfl
 have qc5 : (jk (q) (.slice a p.list.length c))[0 + 5]? = some (.int .i64 (q).wait) := rfl
 have qc6 : (jk (q) (.slice a p.list.length c))[0 + 6]? = some (.int .i64 (q).start) := rfl
 have qc7 : (jk (q) (.slice a p.list.length c))[0 + 7]? = some (.int .i64 (q).now) := rfl
 have qc8 : (jk (q) (.slice a p.list.length c))[0 + 8]? = some (.int .i64 (q).reached) := rfl
 have qc9 : (jk (q) (.slice a p.list.length c))[0 + 9]? = some (.bool (q).made) := rfl
 have qc10 : (jk (q) (.slice a p.list.length c))[0 + 10]? = some (.bool (q).begins) := rfl
 have hK : ∀ x ∈ [(bp, Obj.cells (jk q (.slice a p.list.length c)) 158 (0, 0))], x ∈ (bp, Obj.cells (jk q (.slice a p.list.length c)) 158 (0, 0)) :: (B2 ++ (B1 ++ L)) := fun x hx => by
  rw [List.mem_singleton.1 hx]; exact List.mem_cons_self ..
 by_cases hkN : k < N
 · have g3 : decide (((k : Nat) : Int) < q.want) = true := decide_eq_true jd
   have g4 : decide (((q.asked : Nat) : Int) < ((p.list.length : Nat) : Int)) = true := decide_eq_true jd
   repeat (with_reducible refine kh ?_)
   refine jq jb ([(bp, Obj.cells (jk q (.slice a p.list.length c)) 158 (0, 0))]) [] ?_
   refine tkQ 0 ?_
   refine tkQ 1 ?_
   refine tkQ 2 ?_
   refine tkQ 3 ?_
   refine tkQ 4 ?_
   refine tkQ 5 ?_
   refine tkQ 6 ?_
   refine tkQ 7 ?_
   refine tkQ 8 ?_
   refine tkQ 9 ?_
   refine tkQ 10 ?_
   refine tkQ 11 ?_
   refine tkQ 12 ?_
   refine tkQ 13 ?_
   refine tkQ 14 ?_
   refine tkQ 15 ?_
   refine tkQ 16 ?_
   refine tkQ 17 ?_
   refine tkQ 18 ?_
   refine tdQ ?_
   refine goD ?_
   refine jw (jc je rfl (Zf bp q _ B2 (q2.symm ▸ hR2) jd jd)) rfl ?_
   rintro _ M1 ⟨rfl, B3, hR3, hM1⟩
   rw [hM1]
   clear hM1 M1
   repeat (refine j0 (Qr etO rfl rfl) rfl ?_; intro bLit)
   refine qk (List.Perm.cons _ perm_out) ?_
   refine qU etO rfl rfl hR1 rfl (by unfold maxLen; omega) jd rfl ?_
   intro v4 B4 hR4
   obtain ⟨a4, c4, rfl⟩ := hR4.slice
   refine goD ?_
   refine jh (k + 1, .slice a4 (k + 1) c4, B4, B3) ⟨hkN, ?_, ?_⟩ ?_ ?_ ?_
   · dsimp only
     rw [hS]
     simpa [kC] using hR4
   · dsimp only
     rw [hS]
     have : (Hg.next q).list.length = p.list.length := by simp [Hg.next, q2]
     rw [this] at hR3
     exact hR3
   exact jr
   · intro w hw'
     dsimp only
     rw [hS]
     exact hw'.perm perm_out.symm
   · dsimp only; omega
 · have hkN' : k = N := by omega
   rw [hz] at hN
   by_cases hkw : ((k : Nat) : Int) < q.want
   · have g3 : decide (((k : Nat) : Int) < q.want) = true := decide_eq_true hkw
     have g4 : decide (((q.asked : Nat) : Int) < ((p.list.length : Nat) : Int)) = false := decide_eq_false jd
     repeat (with_reducible refine kh ?_)
     refine jq jb ([(bp, Obj.cells (jk q (.slice a p.list.length c)) 158 (0, 0))]) [] ?_
     refine tkQ 0 ?_
     refine tkQ 1 ?_
     refine tkQ 2 ?_
     refine tkQ 3 ?_
     refine tkQ 4 ?_
     refine tkQ 5 ?_
     refine tkQ 6 ?_
     refine tkQ 7 ?_
     refine tkQ 8 ?_
     refine tkQ 9 ?_
     refine tkQ 10 ?_
     refine tkQ 11 ?_
     refine tkQ 12 ?_
     refine tkQ 13 ?_
     refine tkQ 14 ?_
     refine tkQ 15 ?_
     refine tkQ 16 ?_
     refine tkQ 17 ?_
     refine tkQ 18 ?_
     refine tdQ ?_
     refine goD ?_
     refine ji 2 _ rfl rfl ?_
     rw [← hkN', ← hq, q2, q4]
     exact ⟨B1, B2, hR1, hR2, rfl⟩
   · have g3 : decide (((k : Nat) : Int) < q.want) = false := decide_eq_false hkw
     repeat (with_reducible refine kh ?_)
     refine jq jb ([(bp, Obj.cells (jk q (.slice a p.list.length c)) 158 (0, 0))]) [] ?_
     refine tkQ 0 ?_
     refine tkQ 1 ?_
     refine tkQ 2 ?_
     refine tkQ 3 ?_
     refine tkQ 4 ?_
     refine tkQ 5 ?_
     refine tkQ 6 ?_
     refine tkQ 7 ?_
     refine tkQ 8 ?_
     refine tkQ 9 ?_
     refine tkQ 10 ?_
     refine tkQ 11 ?_
     refine tkQ 12 ?_
     refine tkQ 13 ?_
     refine tkQ 14 ?_
     refine tkQ 15 ?_
     refine tkQ 16 ?_
     refine tkQ 17 ?_
     refine tkQ 18 ?_
     refine tdQ ?_
     refine goD ?_
     refine ji 2 _ rfl rfl ?_
     rw [← hkN', ← hq, q2, q4]
     exact ⟨B1, B2, hR1, hR2, rfl⟩
end Go.Proofs.YtbjkkoacclfejaaGreat
namespace Go.Proofs.YtbjkkoacclfejaaGreat
open Go.RowKit
open Hg (En Pl)
variable {G : World} {L : ja}
theorem acm {P : Program} {n : Nat} {ρ : jG} {Q : Exit → Act → World → Prop} {σ : Type} {c X : Code} (l : Nat) (hf : findLabel c l = some (.seq .skip X)) (I : σ → Prop) (ρI : σ → jG) (LI : σ → ja) (μ : σ → Nat)
 (first : (∀ x, I x → T P G n (ρI x) (LI x) X (Exit.jump l (fun a w => ∃ x, I x ∧ Env n (ρI x) a ∧ Heap G w (LI x)) Q)) → T P G n ρ L c (Exit.jump l (fun a w => ∃ x, I x ∧ Env n (ρI x) a ∧ Heap G w (LI x)) Q))
 (pass : ∀ x, I x → T P G n (ρI x) (LI x) X (Exit.jump l (yq G n I ρI LI μ (μ x)) Q)) : T P G n ρ L (.scope c) Q :=
 ado l hf I ρI LI μ (fun _ => first fun x hx => VC (pass x hx) fun e a w h => by
  cases e <;> (first | exact h | exact ⟨h.1, by obtain ⟨y, h1, h2, h3, _⟩ := h.2; exact ⟨y, h1, h2, h3⟩⟩))
  (fun x hx => kh (uF (kZ (pass x hx))))
structure Good (p : Pl) : Prop where
 len : p.list.length ≤ 9
 asked : p.asked ≤ p.list.length
 want : 1 ≤ p.want ∧ p.want ≤ 9
 tries : 1 ≤ p.tries ∧ p.tries ≤ 4
 every : 1 ≤ p.every ∧ p.every ≤ 1000
 wait : 1 ≤ p.wait ∧ p.wait ≤ 1000
 now : 0 ≤ p.start ∧ p.start ≤ p.now ∧ p.now ≤ Hg.top
 reached : 0 ≤ p.reached ∧ p.reached ≤ Hg.top
 each : ∀ x ∈ p.list, 0 ≤ x.last ∧ x.last ≤ p.now ∧ 0 ≤ x.asked ∧ x.asked ≤ p.tries
theorem Good.advance {p : Pl} (h : Good p) (t : Int) : Good (Hg.advance p t) := by
 have h1 := h.now
 have h2 : p.now ≤ (Hg.advance p t).now := by simp only [Hg.advance]; omega
 exact ⟨h.len, h.asked, h.want, h.tries, h.every, h.wait, ⟨h1.1, Int.le_trans h1.2.1 h2, by simp only [Hg.advance, Hg.top] at *; omega⟩, h.reached, fun x hx => by
  have := h.each x hx
  exact ⟨this.1, by omega, this.2.2.1, this.2.2.2⟩⟩
def mid (q : Pl) (i : Nat) : List En := (q.list.take i).map (Hg.tickE q.now q.wait q.tries) ++ q.list.drop i
theorem Ye (q : Pl) : mid q 0 = q.list := by simp [mid]
theorem ZZ (q : Pl) : mid q q.list.length = (Hg.examine q).list := by simp [mid, Hg.examine]
theorem z8 (q : Pl) (i : Nat) (h : i ≤ q.list.length) : (mid q i).length = q.list.length := by simp [mid]; omega
theorem Ug (q : Pl) (i : Nat) (x : En) (h : q.list[i]? = some x) : (mid q i)[i]? = some x := by
 have hi := (List.getElem?_eq_some_iff.1 h).1
 unfold mid
 rw [List.getElem?_append_right (by simp; omega)]
 simp [h, Nat.min_eq_left (Nat.le_of_lt hi)]
theorem Uh (q : Pl) (i : Nat) (x : En) (h : q.list[i]? = some x) : mid q (i + 1) = (mid q i).set i (Hg.tickE q.now q.wait q.tries x) := by
 obtain ⟨hi, rfl⟩ := List.getElem?_eq_some_iff.1 h
 unfold mid
 rw [List.set_append_right _ _ (by simp; omega), List.take_succ_eq_append_getElem hi]
 simp only [List.map_append, List.map_cons, List.map_nil, List.append_assoc, List.length_map, List.length_take, Nat.min_eq_left (Nat.le_of_lt hi), Nat.sub_self]
 congr 1
 rw [List.drop_eq_getElem_cons hi]
 rfl
theorem uD {β : Type} (f : En → List β) (l : List En) (i : Nat) (x : En) (h : l[i]? = some x) : (l.take (i + 1)).flatMap f = (l.take i).flatMap f ++ f x := by
 obtain ⟨hi, rfl⟩ := List.getElem?_eq_some_iff.1 h
 rw [List.take_succ_eq_append_getElem hi, List.flatMap_append, List.flatMap_cons, List.flatMap_nil, List.append_nil]
theorem yK {β : Type} (f : En → List β) (l : List En) (hf : ∀ x, (f x).length ≤ 1) (i : Nat) : ((l.take i).flatMap f).length ≤ i := by
 rw [List.length_flatMap]
 have : ∀ l : List En, (l.map fun x => (f x).length).sum ≤ l.length := fun l => by
  induction l with
  | nil => simp
  | cons x r ih => have := hf x; simp; omega
 have := this (l.take i)
 rw [List.length_take] at this
 omega
theorem J9 : ∀ (l : List En) (i : Nat) (x y : En), l[i]? = some x → kD (l.set i y) = ((((kD l).set (i * 4 + 0) (.int .i64 y.up)).set (i * 4 + 1) (.int .i64 y.asked)).set (i * 4 + 2) (.int .i64 y.last)).set (i * 4 + 3) (.bool y.op)
 | [], i, x, y, h => by simp at h
 | z :: r, 0, x, y, h => by simp [qp, kj]
 | z :: r, i + 1, x, y, h => by
   rw [List.set_cons_succ, qp, qp, J9 r i x y (by simpa using h)]
   rw [show (i + 1) * 4 + 0 = (i * 4 + 0) + 4 by omega, show (i + 1) * 4 + 1 = (i * 4 + 1) + 4 by omega, show (i + 1) * 4 + 2 = (i * 4 + 2) + 4 by omega, show (i + 1) * 4 + 3 = (i * 4 + 3) + 4 by omega]
   simp [kj]
theorem yi {l : List Value} {i : Nat} {v : Value} (h : l[i]? = some v) : l.set i v = l := by
 obtain ⟨hi, rfl⟩ := List.getElem?_eq_some_iff.1 h
 exact List.set_getElem_self hi
theorem K6 (l : List En) (i : Nat) (x : En) (h : l[i]? = some x) : kD (l.set i { x with op := false }) = (kD l).set (i * 4 + 3) (.bool false) := by
 rw [J9 l i x _ h]
 have h0 := ua l i 0 x h jd
 have h1 := ua l i 1 x h jd
 have h2 := ua l i 2 x h jd
 rw [yi (l := kD l) h0, yi (l := kD l) h1, yi (l := kD l) h2]
theorem Yf (l : List En) (i : Nat) (x : En) (k n : Int) (h : l[i]? = some x) : kD (l.set i { x with asked := k, last := n }) = ((kD l).set (i * 4 + 1) (.int .i64 k)).set (i * 4 + 2) (.int .i64 n) := by
 rw [J9 l i x _ h]
 have h0 := ua l i 0 x h jd
 have h3 := ua l i 3 x h jd
 rw [yi (l := kD l) h0]
 refine yi ?_
 rw [List.getElem?_set_ne jd, List.getElem?_set_ne jd]
 exact h3
theorem JF (q : Pl) (i : Nat) (x : En) (hx : q.list[i]? = some x) (hl : Hg.late q.now q.wait x = false) : mid q (i + 1) = mid q i ∧ (q.list.take (i + 1)).flatMap (Hg.goneE q.now q.wait q.tries) = (q.list.take i).flatMap (Hg.goneE q.now q.wait q.tries) ∧
 (q.list.take (i + 1)).flatMap (Hg.sendE q.now q.wait q.tries) = (q.list.take i).flatMap (Hg.sendE q.now q.wait q.tries) := by
 refine ⟨?_, ?_, ?_⟩
 · rw [Uh q i x hx]
   have : Hg.tickE q.now q.wait q.tries x = x := by simp [Hg.tickE, hl]
   rw [this]
   obtain ⟨h1, h2⟩ := List.getElem?_eq_some_iff.1 (Ug q i x hx)
   rw [← h2]
   exact List.set_getElem_self h1
 · rw [uD _ _ i x hx]; simp [Hg.goneE, hl]
 · rw [uD _ _ i x hx]; simp [Hg.sendE, hl]
theorem Yg (q : Pl) (i : Nat) (x : En) (hx : q.list[i]? = some x) (hl : Hg.late q.now q.wait x = true) (ht : q.tries ≤ x.asked) : mid q (i + 1) = (mid q i).set i { x with op := false } ∧ (q.list.take (i + 1)).flatMap (Hg.goneE q.now q.wait q.tries) = (q.list.take i).flatMap (Hg.goneE q.now q.wait q.tries) ++ [x.up] ∧
 (q.list.take (i + 1)).flatMap (Hg.sendE q.now q.wait q.tries) = (q.list.take i).flatMap (Hg.sendE q.now q.wait q.tries) := by
 refine ⟨?_, ?_, ?_⟩
 · rw [Uh q i x hx]; simp [Hg.tickE, hl, ht]
 · rw [uD _ _ i x hx]; simp [Hg.goneE, hl, ht]
 · rw [uD _ _ i x hx]; simp [Hg.sendE, hl, ht]
theorem Yh (q : Pl) (i : Nat) (x : En) (hx : q.list[i]? = some x) (hl : Hg.late q.now q.wait x = true) (ht : ¬ q.tries ≤ x.asked) : mid q (i + 1) = (mid q i).set i { x with asked := x.asked + 1, last := q.now } ∧ (q.list.take (i + 1)).flatMap (Hg.goneE q.now q.wait q.tries) = (q.list.take i).flatMap (Hg.goneE q.now q.wait q.tries) ∧
 (q.list.take (i + 1)).flatMap (Hg.sendE q.now q.wait q.tries) = (q.list.take i).flatMap (Hg.sendE q.now q.wait q.tries) ++ [x.up] := by
 refine ⟨?_, ?_, ?_⟩
 · rw [Uh q i x hx]; simp [Hg.tickE, hl, ht]
 · rw [uD _ _ i x hx]; simp [Hg.goneE, hl, ht]
 · rw [uD _ _ i x hx]; simp [Hg.sendE, hl, ht]
theorem zE {A B C D : ja} {p : Nat × Obj} : (p :: (A ++ (B ++ (C ++ D)))).Perm (C ++ (p :: (A ++ (B ++ D)))) := by
 have := perm_out (A := A ++ B) (B := C) (C := D) (p := p)
 simpa using this
theorem ae9 (bp : Nat) (p : Pl) (a : Option Addr) (c : Nat) (B : ja) (now : Int) (hR : Row 160 4 (.slice a p.list.length c) p.list.length (kD p.list) B) (hG : Good p) (hb : p.begins = true) :
 Spec Tryz.prog G 47 #[.pointer (some ⟨bp, 0, none⟩), .int .i64 now] ((bp, .cells (jk p (.slice a p.list.length c)) 158 (0, 0)) :: (B ++ L)) fun u M => ∃ vg vs Bg Bs B', u = .tuple #[vg, vs] ∧
  Row 3 1 vg (Hg.tick p now).2.1.length (kC (Hg.tick p now).2.1) Bg ∧ Row 3 1 vs (Hg.tick p now).2.2.length (kC (Hg.tick p now).2.2) Bs ∧ Row 160 4 (.slice a p.list.length c) p.list.length (kD (Hg.tick p now).1.list) B' ∧
  M = (bp, .cells (jk (Hg.tick p now).1 (.slice a p.list.length c)) 158 (0, 0)) :: (B' ++ (Bg ++ (Bs ++ L))) := by
 have pc0 : (jk (p) (.slice a p.list.length c))[0 + 0]? = some (.slice a p.list.length c) := rfl
 have pc1 : (jk (p) (.slice a p.list.length c))[0 + 1]? = some (.int .i64 ((p).asked : Nat)) := rfl
 have pc2 : (jk (p) (.slice a p.list.length c))[0 + 2]? = some (.int .i64 (p).want) := rfl
 have pc3 : (jk (p) (.slice a p.list.length c))[0 + 3]? = some (.int .i64 (p).tries) := rfl
 have pc4 : (jk (p) (.slice a p.list.length c))[0 + 4]? = some (.int .i64 (p).every) := rfl
 have pc5 : (jk (p) (.slice a p.list.length c))[0 + 5]? = some (.int .i64 (p).wait) := rfl
 have pc6 : (jk (p) (.slice a p.list.length c))[0 + 6]? = some (.int .i64 (p).start) := rfl
 have pc7 : (jk (p) (.slice a p.list.length c))[0 + 7]? = some (.int .i64 (p).now) := rfl
 have pc8 : (jk (p) (.slice a p.list.length c))[0 + 8]? = some (.int .i64 (p).reached) := rfl
 have pc9 : (jk (p) (.slice a p.list.length c))[0 + 9]? = some (.bool (p).made) := rfl
 have pc10 : (jk (p) (.slice a p.list.length c))[0 + 10]? = some (.bool (p).begins) := rfl
 have g1 : Option.isNone (some (⟨bp, 0, none⟩ : Addr)) = false := rfl
 have g2 : (!p.begins) = false := by rw [hb]; rfl
 refine jm (n := 138) Tryz.func47 rfl rfl rfl ?_
 obtain ⟨q, hq⟩ : ∃ q, q = Hg.advance p now := ⟨_, rfl⟩
 have hGq : Good q := by rw [hq]; exact hG.advance now
 have hql : q.list = p.list := by rw [hq]; rfl
 have hqn : q.list.length = p.list.length := by rw [hql]
 repeat (first | (with_reducible first | refine kh ?_ | refine jY ?_ | refine uh ?_ | refine kZ ?_) | refine jB (zy rfl) rfl ?_)
 refine acm (σ := Nat × Value × Value × ja × ja × ja) 0 (by rfl)
  (fun x => x.1 ≤ q.list.length ∧ Row 3 1 x.2.1 ((q.list.take x.1).flatMap (Hg.goneE q.now q.wait q.tries)).length (kC ((q.list.take x.1).flatMap (Hg.goneE q.now q.wait q.tries))) x.2.2.2.1 ∧
    Row 3 1 x.2.2.1 ((q.list.take x.1).flatMap (Hg.sendE q.now q.wait q.tries)).length (kC ((q.list.take x.1).flatMap (Hg.sendE q.now q.wait q.tries))) x.2.2.2.2.1 ∧ Row 160 4 (.slice a p.list.length c) p.list.length (kD (mid q x.1)) x.2.2.2.2.2)
  (fun x => [(0, .pointer (some ⟨bp, 0, none⟩)), (4, x.2.1), (5, x.2.2.1), (6, .int .i64 (x.1 : Nat))])
  (fun x => (bp, .cells (jk q (.slice a p.list.length c)) 158 (0, 0)) :: (x.2.2.2.2.2 ++ (x.2.2.2.1 ++ (x.2.2.2.2.1 ++ L)))) (fun x => q.list.length - x.1) ?_ ?_
 · intro pass
   repeat (first | (with_reducible first | refine kh ?_ | refine jY ?_ | refine uh ?_ | refine kZ ?_ | refine uF ?_) | refine jB (uq rfl) rfl ?_ | (refine' jB (qJ rfl rfl ?_) rfl ?_; rotate_left 1; (· exact Wh unO)) | (refine' jB (ku rfl ?_ rfl) rfl ?_; (· assumption)) | (refine ql rfl rfl ?_ ?_; (· assumption)) | refine jN (uq rfl) rfl ?_ | refine jN (abd rfl) rfl ?_ | refine jN (yU rfl) rfl ?_ | refine jN (ui rfl Qj) rfl ?_ | (refine' jN (Wq rfl plO ?_ ?_) rfl ?_; rotate_left 4; (· repeat (exact List.mem_cons_self)); (· assumption)) | (refine Vz rfl ?_ ?_; (· assumption)))
   refine jw (jc je rfl (U6 bp p _ now)) rfl ?_
   rintro u0 M0 hM0
   rw [hM0, ← hq]
   clear hM0 M0
   repeat (first | (with_reducible first | refine kh ?_ | refine jY ?_ | refine uh ?_ | refine kZ ?_) | refine jB (zy rfl) rfl ?_)
   refine uo ?_
   refine kZ ?_
   refine Wp _ _ ?_ ?_ (pass (0, .slice none 0 0, .slice none 0 0, [], [], B) ⟨Nat.zero_le _, Row.nil _ _, Row.nil _ _, ?_⟩)
   exact jr
   · exact fun w hw => hw
   · dsimp only; rw [Ye, hql]; exact hR
 rintro ⟨i, vg, vs, Bg, Bs, Be⟩ ⟨hi, hRg, hRs, hRe⟩
 dsimp only at hi hRg hRs hRe ⊢
 have qc0 : (jk (q) (.slice a p.list.length c))[0 + 0]? = some (.slice a p.list.length c) := rfl
 have qc1 : (jk (q) (.slice a p.list.length c))[0 + 1]? = some (.int .i64 ((q).asked : Nat)) := rfl
 have qc2 : (jk (q) (.slice a p.list.length c))[0 + 2]? = some (.int .i64 (q).want) := rfl
 have qc3 : (jk (q) (.slice a p.list.length c))[0 + 3]? = some (.int .i64 (q).tries) := rfl
 have qc4 : (jk (q) (.slice a p.list.length c))[0 + 4]? = some (.int .i64 (q).every) := rfl
 have qc5 : (jk (q) (.slice a p.list.length c))[0 + 5]? = some (.int .i64 (q).wait) := rfl
 have qc6 : (jk (q) (.slice a p.list.length c))[0 + 6]? = some (.int .i64 (q).start) := rfl
 have qc7 : (jk (q) (.slice a p.list.length c))[0 + 7]? = some (.int .i64 (q).now) := rfl
 have qc8 : (jk (q) (.slice a p.list.length c))[0 + 8]? = some (.int .i64 (q).reached) := rfl
 have qc9 : (jk (q) (.slice a p.list.length c))[0 + 9]? = some (.bool (q).made) := rfl
 have qc10 : (jk (q) (.slice a p.list.length c))[0 + 10]? = some (.bool (q).begins) := rfl
 have hlen := hGq.len
 have hnow := hGq.now
 have htr := hGq.tries
 have htop : Hg.top = 1099511627776 := rfl
 obtain ⟨mg, hmg⟩ : ∃ mg, mg = ((q.list.take i).flatMap (Hg.goneE q.now q.wait q.tries)).length := ⟨_, rfl⟩
 obtain ⟨ms, hms⟩ : ∃ ms, ms = ((q.list.take i).flatMap (Hg.sendE q.now q.wait q.tries)).length := ⟨_, rfl⟩
 have hmg9 : mg ≤ i := by rw [hmg]; exact yK _ _ (fun x => by unfold Hg.goneE; split <;> simp) _
 have hms9 : ms ≤ i := by rw [hms]; exact yK _ _ (fun x => by unfold Hg.sendE; split <;> simp) _
 rw [← hmg] at hRg
 rw [← hms] at hRs
 obtain ⟨ag, cg, rfl⟩ := hRg.slice
 obtain ⟨as1, cs1, rfl⟩ := hRs.slice
 by_cases hlt : i < q.list.length
 · have g3 : decide (((i : Nat) : Int) < ((p.list.length : Nat) : Int)) = true := decide_eq_true jd
   obtain ⟨x, hx⟩ : ∃ x, q.list[i]? = some x := ⟨_, List.getElem?_eq_getElem hlt⟩
   obtain ⟨e1, e2, e3, e4⟩ := hGq.each x (List.mem_of_getElem? hx)
   rcases hRe.is with ⟨_, h, _⟩ | ⟨be, cap, cur, hsl, rfl, h3, h4, h5, h6⟩
   · omega
   cases hsl
   have hat : ∀ j u, j < 4 → (kj x)[j]? = some u → cur[0 + i * 4 + j]? = some u := fun j u hj hu => by
    have := ua (mid q i) i j x (Ug q i x hx) hj
    rw [← h6, List.getElem?_take_of_lt jd, hu] at this
    rw [Nat.zero_add]
    simpa using this
   have n0 : cur[0 + i * 4 + 0]? = some (.int .i64 x.up) := hat 0 _ jd rfl
   have n1 : cur[0 + i * 4 + 1]? = some (.int .i64 x.asked) := hat 1 _ jd rfl
   have n2 : cur[0 + i * 4 + 2]? = some (.int .i64 x.last) := hat 2 _ jd rfl
   have n3 : cur[0 + i * 4 + 3]? = some (.bool x.op) := hat 3 _ jd rfl
   have hK : ∀ y ∈ [(bp, Obj.cells (jk q (.slice (some ⟨be, 0, none⟩) p.list.length c)) 158 (0, 0)), (be, Obj.cells cur 160 (0, 0))], y ∈ (bp, Obj.cells (jk q (.slice (some ⟨be, 0, none⟩) p.list.length c)) 158 (0, 0)) :: ([(be, Obj.cells cur 160 (0, 0))] ++ (Bg ++ (Bs ++ L))) := fun y hy => by
    simp only [List.mem_cons, List.not_mem_nil, or_false] at hy
    rcases hy with rfl | rfl
    · exact List.mem_cons_self ..
    · exact List.mem_cons_of_mem _ (List.mem_cons_self ..)
   cases hop : x.op with
   | false =>
     have g4 : (!x.op) = true := by rw [hop]; rfl
     have hlate : Hg.late q.now q.wait x = false := by simp [Hg.late, hop]
     refine goD ?_
     refine jq jb ([(bp, Obj.cells (jk q (.slice (some ⟨be, 0, none⟩) p.list.length c)) 158 (0, 0)), (be, Obj.cells cur 160 (0, 0))]) [] ?_
     refine tkQ 0 ?_
     refine tkQ 1 ?_
     refine tkQ 2 ?_
     refine tkQ 3 ?_
     refine tkQ 4 ?_
     refine tkQ 5 ?_
     refine tkQ 6 ?_
     refine tkQ 7 ?_
     refine tkQ 8 ?_
     refine tkQ 9 ?_
     refine tkQ 10 ?_
     refine tkQ 11 ?_
     refine tkQ 12 ?_
     refine tkQ 13 ?_
     refine tkQ 14 ?_
     refine tkQ 15 ?_
     refine tkQ 16 ?_
     refine tkQ 17 ?_
     refine tkQ 18 ?_
     refine tkQ 19 ?_
     refine tkQ 20 ?_
     refine tdQ ?_
     refine goD ?_
     obtain ⟨k1, k2, k3⟩ := JF q i x hx hlate
     refine Vp ?_
     repeat refine kn ?_
     refine Qs (i + 1, .slice ag mg cg, .slice as1 ms cs1, Bg, Bs, [(be, Obj.cells cur 160 (0, 0))]) ⟨hlt, ?_, ?_, ?_⟩ ?_ ?_ ?_
     · dsimp only; rw [k2, ← hmg]; exact hRg
     · dsimp only; rw [k3, ← hms]; exact hRs
     · dsimp only; rw [k1]; exact hRe
     exact jr
     · exact fun w hw => hw
     · dsimp only; omega
   | true =>
   have g4 : (!x.op) = false := by rw [hop]; rfl
   by_cases hw : q.now - x.last < q.wait
   · have g5 : decide (q.now - x.last < q.wait) = true := decide_eq_true hw
     have hlate : Hg.late q.now q.wait x = false := by simp [Hg.late, hop, hw]
     refine goD ?_
     refine jq jb ([(bp, Obj.cells (jk q (.slice (some ⟨be, 0, none⟩) p.list.length c)) 158 (0, 0)), (be, Obj.cells cur 160 (0, 0))]) [] ?_
     refine tkQ 0 ?_
     refine tkQ 1 ?_
     refine tkQ 2 ?_
     refine tkQ 3 ?_
     refine tkQ 4 ?_
     refine tkQ 5 ?_
     refine tkQ 6 ?_
     refine tkQ 7 ?_
     refine tkQ 8 ?_
     refine tkQ 9 ?_
     refine tkQ 10 ?_
     refine tkQ 11 ?_
     refine tkQ 12 ?_
     refine tkQ 13 ?_
     refine tkQ 14 ?_
     refine tkQ 15 ?_
     refine tkQ 16 ?_
     refine tkQ 17 ?_
     refine tkQ 18 ?_
     refine tkQ 19 ?_
     refine tkQ 20 ?_
     refine tdQ ?_
     refine goD ?_
     obtain ⟨k1, k2, k3⟩ := JF q i x hx hlate
     refine Vp ?_
     repeat refine kn ?_
     refine Qs (i + 1, .slice ag mg cg, .slice as1 ms cs1, Bg, Bs, [(be, Obj.cells cur 160 (0, 0))]) ⟨hlt, ?_, ?_, ?_⟩ ?_ ?_ ?_
     · dsimp only; rw [k2, ← hmg]; exact hRg
     · dsimp only; rw [k3, ← hms]; exact hRs
     · dsimp only; rw [k1]; exact hRe
     exact jr
     · exact fun w hw => hw
     · dsimp only; omega
   have g5 : decide (q.now - x.last < q.wait) = false := decide_eq_false hw
   have hlate : Hg.late q.now q.wait x = true := by simp [Hg.late, hop]; omega
   by_cases ht : q.tries ≤ x.asked
   · have g6 : decide (q.tries ≤ x.asked) = true := decide_eq_true ht
     obtain ⟨k1, k2, k3⟩ := Yg q i x hx hlate ht
     have m0 : (cur.setIfInBounds (0 + i * 4 + 3) (.bool false))[0 + i * 4 + 0]? = some (.int .i64 x.up) := by rw [Array.getElem?_setIfInBounds_ne jd]; exact n0
     refine goD ?_
     refine jq jb ([(bp, Obj.cells (jk q (.slice (some ⟨be, 0, none⟩) p.list.length c)) 158 (0, 0)), (be, Obj.cells cur 160 (0, 0))]) [] ?_
     refine tkQ 0 ?_
     refine tkQ 1 ?_
     refine tkQ 2 ?_
     refine tkQ 3 ?_
     refine tkQ 4 ?_
     refine tkQ 5 ?_
     refine tkQ 6 ?_
     refine tkQ 7 ?_
     refine tkQ 8 ?_
     refine tkQ 9 ?_
     refine tkQ 10 ?_
     refine tkQ 11 ?_
     refine tkQ 12 ?_
     refine tkQ 13 ?_
     refine tkQ 14 ?_
     refine tkQ 15 ?_
     refine tkQ 16 ?_
     refine tkQ 17 ?_
     refine tkQ 18 ?_
     refine tkQ 19 ?_
     refine tkQ 20 ?_
     refine tdQ ?_
     refine goD ?_
     refine jq jb ([(bp, Obj.cells (jk q (.slice (some ⟨be, 0, none⟩) p.list.length c)) 158 (0, 0)), (be, Obj.cells cur 160 (0, 0))]) [] ?_
     refine tkQ 0 ?_
     refine tkQ 1 ?_
     refine tkQ 2 ?_
     refine tkQ 3 ?_
     refine tkQ 4 ?_
     refine tkQ 5 ?_
     refine tkQ 6 ?_
     refine tkQ 7 ?_
     refine tkQ 8 ?_
     refine tdQ ?_
     repeat (first | refine goD ?_ | (refine jS ?_; intro bLit))
     refine qk (List.Perm.cons _ (perm_out (A := [_]))) ?_
     refine qU etO rfl rfl hRg rfl (by unfold maxLen; omega) jd rfl ?_
     intro v4 B4 hR4
     obtain ⟨a4, c4, rfl⟩ := hR4.slice
     refine goD ?_
     refine Vp ?_
     repeat refine kn ?_
     refine Qs (i + 1, .slice a4 (mg + 1) c4, .slice as1 ms cs1, B4, Bs, [(be, Obj.cells (cur.setIfInBounds (0 + i * 4 + 3) (.bool false)) 160 (0, 0))]) ⟨hlt, ?_, ?_, ?_⟩ ?_ ?_ ?_
     · dsimp only; rw [k2, List.length_append, ← hmg]; simpa [kC] using hR4
     · dsimp only; rw [k3, ← hms]; exact hRs
     · dsimp only
       refine ⟨by rw [k1, uy, List.length_set, z8 q i hi, hqn], Or.inr ⟨be, c, _, rfl, rfl, h3, h4, by simpa using h5, ?_⟩⟩
       rw [k1, take_set, h6, K6 _ _ _ (Ug q i x hx), Nat.zero_add]
     exact jr
     · exact fun w hw => hw.perm (perm_out (A := [_])).symm
     · dsimp only; omega
   · have g6 : decide (q.tries ≤ x.asked) = false := decide_eq_false ht
     obtain ⟨k1, k2, k3⟩ := Yh q i x hx hlate ht
     have m2 : (cur.setIfInBounds (0 + i * 4 + 1) (.int .i64 (x.asked + 1)))[0 + i * 4 + 2]? = some (.int .i64 x.last) := by rw [Array.getElem?_setIfInBounds_ne jd]; exact n2
     have m0 : ((cur.setIfInBounds (0 + i * 4 + 1) (.int .i64 (x.asked + 1))).setIfInBounds (0 + i * 4 + 2) (.int .i64 q.now))[0 + i * 4 + 0]? = some (.int .i64 x.up) := by rw [Array.getElem?_setIfInBounds_ne jd, Array.getElem?_setIfInBounds_ne jd]; exact n0
     refine goD ?_
     refine jq jb ([(bp, Obj.cells (jk q (.slice (some ⟨be, 0, none⟩) p.list.length c)) 158 (0, 0)), (be, Obj.cells cur 160 (0, 0))]) [] ?_
     refine tkQ 0 ?_
     refine tkQ 1 ?_
     refine tkQ 2 ?_
     refine tkQ 3 ?_
     refine tkQ 4 ?_
     refine tkQ 5 ?_
     refine tkQ 6 ?_
     refine tkQ 7 ?_
     refine tkQ 8 ?_
     refine tkQ 9 ?_
     refine tkQ 10 ?_
     refine tkQ 11 ?_
     refine tkQ 12 ?_
     refine tkQ 13 ?_
     refine tkQ 14 ?_
     refine tkQ 15 ?_
     refine tkQ 16 ?_
     refine tkQ 17 ?_
     refine tkQ 18 ?_
     refine tkQ 19 ?_
     refine tkQ 20 ?_
     refine tdQ ?_
     refine goD ?_
     refine jq jb ([(bp, Obj.cells (jk q (.slice (some ⟨be, 0, none⟩) p.list.length c)) 158 (0, 0)), (be, Obj.cells cur 160 (0, 0))]) [] ?_
     refine tkQ 0 ?_
     refine tkQ 1 ?_
     refine tkQ 2 ?_
     refine tkQ 3 ?_
     refine tkQ 4 ?_
     refine tkQ 5 ?_
     refine tkQ 6 ?_
     refine tkQ 7 ?_
     refine tkQ 8 ?_
     refine tdQ ?_
     repeat (first | refine goD ?_ | (refine jS ?_; intro bLit))
     refine qk (List.Perm.cons _ (zE (A := [_]))) ?_
     refine qU etO rfl rfl hRs rfl (by unfold maxLen; omega) jd rfl ?_
     intro v4 B4 hR4
     obtain ⟨a4, c4, rfl⟩ := hR4.slice
     refine goD ?_
     refine Vp ?_
     repeat refine kn ?_
     refine Qs (i + 1, .slice ag mg cg, .slice a4 (ms + 1) c4, Bg, B4, [(be, Obj.cells ((cur.setIfInBounds (0 + i * 4 + 1) (.int .i64 (x.asked + 1))).setIfInBounds (0 + i * 4 + 2) (.int .i64 q.now)) 160 (0, 0))]) ⟨hlt, ?_, ?_, ?_⟩ ?_ ?_ ?_
     · dsimp only; rw [k2, ← hmg]; exact hRg
     · dsimp only; rw [k3, List.length_append, ← hms]; simpa [kC] using hR4
     · dsimp only
       refine ⟨by rw [k1, uy, List.length_set, z8 q i hi, hqn], Or.inr ⟨be, c, _, rfl, rfl, h3, h4, by simpa using h5, ?_⟩⟩
       rw [k1, take_set, take_set, h6, Yf _ _ _ _ _ (Ug q i x hx), Nat.zero_add]
     exact jr
     · exact fun w hw => hw.perm (zE (A := [_])).symm
     · dsimp only; omega
 · have g3 : decide (((i : Nat) : Int) < ((p.list.length : Nat) : Int)) = false := decide_eq_false jd
   have hie : i = q.list.length := by omega
   subst hie
   rw [List.take_length] at hmg hms hRg hRs
   rw [ZZ] at hRe
   obtain ⟨k, hk⟩ : ∃ k, k = (q.now - q.start) / q.every := ⟨_, rfl⟩
   have hev := hGq.every
   have hk0 : 0 ≤ (q.now - q.start) / q.every := Int.ediv_nonneg jd jd
   have hk1 : (q.now - q.start) / q.every ≤ q.now - q.start := Int.ediv_le_self _ jd
   have htick : Hg.tick p now = ((Hg.hedged (Hg.examine q)).1, q.list.flatMap (Hg.goneE q.now q.wait q.tries), q.list.flatMap (Hg.sendE q.now q.wait q.tries) ++ (Hg.hedged (Hg.examine q)).2) := by
    unfold Hg.tick
    rw [if_neg (by rw [g2]; simp), hq]
   have hK : ∀ y ∈ [(bp, Obj.cells (jk q (.slice a p.list.length c)) 158 (0, 0))], y ∈ (bp, Obj.cells (jk q (.slice a p.list.length c)) 158 (0, 0)) :: (Be ++ (Bg ++ (Bs ++ L))) := fun y hy => by
    rw [List.mem_singleton.1 hy]; exact List.mem_cons_self ..
   have hxl : (Hg.examine q).list.length = p.list.length := by simp [Hg.examine, hqn]
   by_cases hkr : q.reached < (q.now - q.start) / q.every
   · have g7 : decide (q.reached < (q.now - q.start) / q.every) = true := decide_eq_true hkr
     refine goD ?_
     refine jq jb ([(bp, Obj.cells (jk q (.slice a p.list.length c)) 158 (0, 0))]) [] ?_
     refine tkQ 0 ?_
     refine tkQ 1 ?_
     refine tkQ 2 ?_
     refine tkQ 3 ?_
     refine tkQ 4 ?_
     refine tkQ 5 ?_
     refine tkQ 6 ?_
     refine tkQ 7 ?_
     refine tkQ 8 ?_
     refine tkQ 9 ?_
     refine tkQ 10 ?_
     refine tkQ 11 ?_
     refine tkQ 12 ?_
     refine tkQ 13 ?_
     refine tkQ 14 ?_
     refine tdQ ?_
     refine goD ?_
     obtain ⟨q1, hq1⟩ : ∃ q1 : Pl, q1 = { Hg.examine q with reached := (q.now - q.start) / q.every } := ⟨_, rfl⟩
     have hq1l : q1.list = (Hg.examine q).list := by rw [hq1]
     have hq1n : q1.list.length = p.list.length := by rw [hq1l, hxl]
     refine Wp [(0, .pointer (some ⟨bp, 0, none⟩)), (4, .slice ag mg cg), (5, .slice as1 ms cs1)] ((bp, .cells (jk q1 (.slice a p.list.length c)) 158 (0, 0)) :: (Be ++ (Bg ++ (Bs ++ L)))) ?_ ?_ ?_
     exact jr
     · intro w hw
       rw [hq1]
       exact hw
     have sc0 : (jk (q1) (.slice a p.list.length c))[0 + 0]? = some (.slice a p.list.length c) := rfl
     have sc1 : (jk (q1) (.slice a p.list.length c))[0 + 1]? = some (.int .i64 ((q1).asked : Nat)) := rfl
     have sc2 : (jk (q1) (.slice a p.list.length c))[0 + 2]? = some (.int .i64 (q1).want) := rfl
     have sc3 : (jk (q1) (.slice a p.list.length c))[0 + 3]? = some (.int .i64 (q1).tries) := rfl
     have sc4 : (jk (q1) (.slice a p.list.length c))[0 + 4]? = some (.int .i64 (q1).every) := rfl
     have sc5 : (jk (q1) (.slice a p.list.length c))[0 + 5]? = some (.int .i64 (q1).wait) := rfl
     have sc6 : (jk (q1) (.slice a p.list.length c))[0 + 6]? = some (.int .i64 (q1).start) := rfl
     have sc7 : (jk (q1) (.slice a p.list.length c))[0 + 7]? = some (.int .i64 (q1).now) := rfl
     have sc8 : (jk (q1) (.slice a p.list.length c))[0 + 8]? = some (.int .i64 (q1).reached) := rfl
     have sc9 : (jk (q1) (.slice a p.list.length c))[0 + 9]? = some (.bool (q1).made) := rfl
     have sc10 : (jk (q1) (.slice a p.list.length c))[0 + 10]? = some (.bool (q1).begins) := rfl
     have hK : ∀ y ∈ [(bp, Obj.cells (jk q1 (.slice a p.list.length c)) 158 (0, 0))], y ∈ (bp, Obj.cells (jk q1 (.slice a p.list.length c)) 158 (0, 0)) :: (Be ++ (Bg ++ (Bs ++ L))) := fun y hy => by
      rw [List.mem_singleton.1 hy]; exact List.mem_cons_self ..
     have hhed : Hg.hedged (Hg.examine q) = if q1.asked < q1.list.length then (Hg.next q1, [Hg.upAt q1 q1.asked]) else (q1, []) := by
      unfold Hg.hedged
      rw [if_pos (by exact hkr), hq1]
      rfl
     by_cases hal : q1.asked < q1.list.length
     · have g8 : decide (((q1.asked : Nat) : Int) < ((p.list.length : Nat) : Int)) = true := decide_eq_true jd
       rw [if_pos hal] at hhed
       rw [hhed] at htick
       skip
       refine jq jb ([(bp, Obj.cells (jk q1 (.slice a p.list.length c)) 158 (0, 0))]) [] ?_
       refine tkQ 0 ?_
       refine tkQ 1 ?_
       refine tkQ 2 ?_
       refine tkQ 3 ?_
       refine tkQ 4 ?_
       refine tkQ 5 ?_
       refine tkQ 6 ?_
       refine tkQ 7 ?_
       refine tkQ 8 ?_
       refine tkQ 9 ?_
       refine tdQ ?_
       refine goD ?_
       refine jw (jc je rfl (Zf bp q1 _ Be (by rw [hq1n, hq1l]; exact hRe) jd jd)) rfl ?_
       rintro _ M1 ⟨rfl, B3, hR3, hM1⟩
       rw [hM1]
       clear hM1 M1
       repeat (refine j0 (Qr etO rfl rfl) rfl ?_; intro bLit)
       refine qk (List.Perm.cons _ (zE (A := B3))) ?_
       refine qU etO rfl rfl hRs rfl (by unfold maxLen; omega) jd rfl ?_
       intro v4 B4 hR4
       obtain ⟨a4, c4, rfl⟩ := hR4.slice
       refine goD ?_
       refine yX ?_
       refine ju (fun w hw => hw.perm (zE (A := B3)).symm) ?_
       refine jM 4 5 _ _ rfl rfl rfl ?_
       rw [htick]
       refine ⟨_, _, Bg, B4, B3, rfl, ?_, ?_, ?_, rfl⟩
       · dsimp only; rw [← hmg]; exact hRg
       · dsimp only; rw [List.length_append, ← hms]; simpa [kC] using hR4
       · dsimp only
         have : (Hg.next q1).list.length = p.list.length := by simp [Hg.next, hq1n]
         rw [this] at hR3
         exact hR3
     · have g8 : decide (((q1.asked : Nat) : Int) < ((p.list.length : Nat) : Int)) = false := decide_eq_false jd
       rw [if_neg hal] at hhed
       rw [hhed, List.append_nil] at htick
       skip
       refine jq jb ([(bp, Obj.cells (jk q1 (.slice a p.list.length c)) 158 (0, 0))]) [] ?_
       refine tkQ 0 ?_
       refine tkQ 1 ?_
       refine tkQ 2 ?_
       refine tkQ 3 ?_
       refine tkQ 4 ?_
       refine tkQ 5 ?_
       refine tkQ 6 ?_
       refine tkQ 7 ?_
       refine tkQ 8 ?_
       refine tkQ 9 ?_
       refine tdQ ?_
       refine goD ?_
       refine yX ?_
       refine jM 4 5 _ _ rfl rfl rfl ?_
       rw [htick]
       refine ⟨_, _, Bg, Bs, Be, rfl, ?_, ?_, ?_, rfl⟩
       · dsimp only; rw [← hmg]; exact hRg
       · dsimp only; rw [← hms]; exact hRs
       · dsimp only; rw [hq1l]; exact hRe
   · have g7 : decide (q.reached < (q.now - q.start) / q.every) = false := decide_eq_false hkr
     have hhed : Hg.hedged (Hg.examine q) = (Hg.examine q, []) := by
      unfold Hg.hedged
      rw [if_neg (by exact hkr)]
     rw [hhed, List.append_nil] at htick
     refine goD ?_
     refine jq jb ([(bp, Obj.cells (jk q (.slice a p.list.length c)) 158 (0, 0))]) [] ?_
     refine tkQ 0 ?_
     refine tkQ 1 ?_
     refine tkQ 2 ?_
     refine tkQ 3 ?_
     refine tkQ 4 ?_
     refine tkQ 5 ?_
     refine tkQ 6 ?_
     refine tkQ 7 ?_
     refine tkQ 8 ?_
     refine tkQ 9 ?_
     refine tkQ 10 ?_
     refine tkQ 11 ?_
     refine tkQ 12 ?_
     refine tkQ 13 ?_
     refine tkQ 14 ?_
     refine tdQ ?_
     refine goD ?_
     refine yX ?_
     refine jM 4 5 _ _ rfl rfl rfl ?_
     rw [htick]
     refine ⟨_, _, Bg, Bs, Be, rfl, ?_, ?_, ?_, rfl⟩
     · dsimp only; rw [← hmg]; exact hRg
     · dsimp only; rw [← hms]; exact hRs
     · exact hRe
end Go.Proofs.YtbjkkoacclfejaaGreat
namespace Go.Proofs.YtbjkkoacclfejaaGreat
open Go.RowKit
open Hg (En Pl)
section
variable {G : World} {P : Program} {n : Nat} {ρ : jG} {L : ja} {ty : TypeId} {Q : Exit → Act → World → Prop}
def IRow (L : ja) (v : Value) (l : List Int) : Prop := ∃ a cap, v = .slice a l.length cap ∧ (l = [] ∨ ∃ b off C te fr, a = some ⟨b, off, none⟩ ∧ (b, Obj.cells C te fr) ∈ L ∧ ∀ i x, l[i]? = some x → C[off + i * 1]? = some (.int .i64 x))
theorem Row.irow {e : TypeId} {v : Value} {l : List Int} {B : ja} {m : Nat} (h : Row e 1 v m (kC l) B) (hB : ∀ p ∈ B, p ∈ L) : IRow L v l := by
 have hlen : l.length = m := by have := h.len; simpa [kC] using this
 subst hlen
 rcases h.is with ⟨h1, h2, _⟩ | ⟨b, cap, cur, h1, h2, h3, h4, h5, h6⟩
 · exact ⟨none, 0, by rw [h1, h2], Or.inl (List.eq_nil_of_length_eq_zero h2)⟩
 · refine ⟨_, cap, h1, Or.inr ⟨b, 0, cur, e, (0, 0), rfl, hB _ (by rw [h2]; exact List.mem_cons_self ..), fun i x hi => ?_⟩⟩
   have hil := (List.getElem?_eq_some_iff.1 hi).1
   have : (cur.toList.take (l.length * 1))[i]? = some (Value.int .i64 x) := by rw [h6]; simp [kC, hi]
   rw [List.getElem?_take_of_lt jd] at this
   simpa using this
theorem IRow.mono {L L' : ja} {v : Value} {l : List Int} (h : IRow L v l) (hs : ∀ p ∈ L, p ∈ L') : IRow L' v l := by
 obtain ⟨a, cap, h1, h2⟩ := h
 refine ⟨a, cap, h1, h2.imp id ?_⟩
 rintro ⟨b, off, C, te, fr, q1, q2, q3⟩
 exact ⟨b, off, C, te, fr, q1, hs _ q2, q3⟩
theorem IRow.nil (cap : Nat) (a : Option Addr) : IRow L (.slice a 0 cap) [] := ⟨a, cap, rfl, Or.inl rfl⟩
end
theorem Kk (u : Int) : ∀ (l : List En) (k : Nat) (x : En), (∀ y ∈ l.take k, Hg.isIt u y = false) → l[k]? = some x → Hg.isIt u x = true → Hg.closeL u l = l.set k { x with op := false } ∧ l.any (Hg.isIt u) = true
 | [], k, x, _, h, _ => by simp at h
 | y :: r, 0, x, _, h, hf => by simp at h; subst h; simp [Hg.closeL, hf]
 | y :: r, k + 1, x, ha, h, hf => by
   have h1 := ha y (by simp)
   obtain ⟨h2, h3⟩ := Kk u r k x (fun z hz => ha z (by simp [hz])) (by simpa using h) hf
   simp [Hg.closeL, h1, h2, h3]
theorem zt (u : Int) : ∀ (l : List En), (∀ y ∈ l, Hg.isIt u y = false) → Hg.closeL u l = l ∧ l.any (Hg.isIt u) = false
 | [], _ => ⟨rfl, rfl⟩
 | y :: r, ha => by
   have h1 := ha y (by simp)
   obtain ⟨h2, h3⟩ := zt u r fun z hz => ha z (by simp [hz])
   simp only [Hg.closeL, h1, List.any_cons, Bool.false_or]
   exact ⟨by simp [h2], h3⟩
theorem JG {α : Type} {p : α → Prop} {l : List α} {k : Nat} {x : α} (h : ∀ y ∈ l.take k, p y) (hx : l[k]? = some x) (hp : p x) : ∀ y ∈ l.take (k + 1), p y := by
 obtain ⟨hk, rfl⟩ := List.getElem?_eq_some_iff.1 hx
 intro y hy
 rw [List.take_succ_eq_append_getElem hk] at hy
 rcases List.mem_append.1 hy with h1 | h1
 · exact h y h1
 · rw [List.mem_singleton.1 h1]; exact hp
variable {G : World} {L : ja}
theorem Yi : j5 Tryz.prog 160 4 = true := by kernel_rfl
theorem uL (x : En) : ∀ v ∈ kj x, v.oneCell' = true := by
 intro v hv
 simp only [kj, List.mem_cons, List.not_mem_nil, or_false] at hv
 rcases hv with rfl | rfl | rfl | rfl <;> rfl
theorem Kt {cur : Array Value} {l : List En} {m k : Nat} {x : En} (h6 : cur.toList.take (m * 4) = kD l) (hx : l[k]? = some x) (hk : k < m) : ∀ j v, (kj x)[j]? = some v → cur[0 + k * 4 + j]? = some v := by
 intro j v hj
 have hj4 : j < 4 := by have := (List.getElem?_eq_some_iff.1 hj).1; simpa [kj] using this
 have := ua l k j x hx hj4
 rw [← h6, List.getElem?_take_of_lt jd, hj] at this
 rw [Nat.zero_add]
 simpa using this
theorem afa (bp : Nat) (p : Pl) (a : Option Addr) (c : Nat) (B : ja) (hR : Row 160 4 (.slice a p.list.length c) p.list.length (kD p.list) B) (hl : p.list.length ≤ 9) :
 Spec Tryz.prog G 66 #[.pointer (some ⟨bp, 0, none⟩)] ((bp, .cells (jk p (.slice a p.list.length c)) 158 (0, 0)) :: (B ++ L)) fun u M => u = .int .i64 (Hg.opens p) ∧ M = (bp, .cells (jk p (.slice a p.list.length c)) 158 (0, 0)) :: (B ++ L) := by
 have pc0 : (jk (p) (.slice a p.list.length c))[0 + 0]? = some (.slice a p.list.length c) := rfl
 have pc1 : (jk (p) (.slice a p.list.length c))[0 + 1]? = some (.int .i64 ((p).asked : Nat)) := rfl
 have pc2 : (jk (p) (.slice a p.list.length c))[0 + 2]? = some (.int .i64 (p).want) := rfl
 have pc3 : (jk (p) (.slice a p.list.length c))[0 + 3]? = some (.int .i64 (p).tries) := rfl
 have pc4 : (jk (p) (.slice a p.list.length c))[0 + 4]? = some (.int .i64 (p).every) := rfl
 have pc5 : (jk (p) (.slice a p.list.length c))[0 + 5]? = some (.int .i64 (p).wait) := rfl
 have pc6 : (jk (p) (.slice a p.list.length c))[0 + 6]? = some (.int .i64 (p).start) := rfl
 have pc7 : (jk (p) (.slice a p.list.length c))[0 + 7]? = some (.int .i64 (p).now) := rfl
 have pc8 : (jk (p) (.slice a p.list.length c))[0 + 8]? = some (.int .i64 (p).reached) := rfl
 have pc9 : (jk (p) (.slice a p.list.length c))[0 + 9]? = some (.bool (p).made) := rfl
 have pc10 : (jk (p) (.slice a p.list.length c))[0 + 10]? = some (.bool (p).begins) := rfl
 have g1 : Option.isNone (some (⟨bp, 0, none⟩ : Addr)) = false := rfl
 refine jm (n := 23) Tryz.func66 rfl rfl rfl ?_
 refine goD ?_
 refine jy (σ := Nat) (fun k => k ≤ p.list.length) (fun k => [(3, .int .i64 (((p.list.take k).filter (·.op)).length : Nat)), (11, .slice a p.list.length c), (12, .int .i64 (p.list.length : Nat)), (13, .int .i64 (k : Nat))]) (fun k => (bp, .cells (jk p (.slice a p.list.length c)) 158 (0, 0)) :: (B ++ L)) (fun k => p.list.length - k) 0 (Nat.zero_le _) ?_ (fun w h => h) ?_
 exact jr
 intro k hk
 by_cases hlt : k < p.list.length
 · have d1 : decide (((k : Nat) : Int) < ((p.list.length : Nat) : Int)) = true := decide_eq_true jd
   obtain ⟨x, hx⟩ : ∃ x, p.list[k]? = some x := ⟨_, List.getElem?_eq_getElem hlt⟩
   rcases hR.is with ⟨_, h, _⟩ | ⟨be, cap, cur, hsl, rfl, h3, h4, h5, h6⟩
   · omega
   cases hsl
   have hcx := Kt h6 hx hlt
   have hf : ((p.list.take (k + 1)).filter (·.op)).length = ((p.list.take k).filter (·.op)).length + (if x.op then 1 else 0) := by
    obtain ⟨hi, rfl⟩ := List.getElem?_eq_some_iff.1 hx
    rw [List.take_succ_eq_append_getElem hi, List.filter_append, List.length_append]
    cases hop : p.list[k].op <;> simp [hop]
   have hm : ((p.list.take k).filter (·.op)).length ≤ 9 := Nat.le_trans (List.length_filter_le _ _) (by simp; omega)
   refine goD ?_
   refine jB (jA (kj x) rfl Yi (List.mem_cons_of_mem _ (List.mem_cons_self ..)) hcx) rfl ?_
   repeat (first | refine goD ?_ | (refine jO ?_; intro bNew))
   cases hop : x.op with
   | false =>
     rw [hop] at hf
     refine goD ?_
     refine jh (k + 1) hlt ?_ (fun w h => h.tail) jd
     rw [hf]
     exact jr
   | true =>
     rw [hop] at hf
     refine goD ?_
     refine jh (k + 1) hlt ?_ (fun w h => h.tail) jd
     rw [hf]
     exact jr
 · have d1 : decide (((k : Nat) : Int) < ((p.list.length : Nat) : Int)) = false := decide_eq_false jd
   have hkn : k = p.list.length := by omega
   subst hkn
   rw [List.take_length]
   refine goD ?_
   refine ji 2 _ rfl rfl ?_
   exact ⟨rfl, rfl⟩
theorem adY (bp : Nat) (p : Pl) (a : Option Addr) (c : Nat) (B : ja) (u : Int) (hR : Row 160 4 (.slice a p.list.length c) p.list.length (kD p.list) B) (hl : p.list.length ≤ 9) :
 Spec Tryz.prog G 48 #[.pointer (some ⟨bp, 0, none⟩), .int .i64 u] ((bp, .cells (jk p (.slice a p.list.length c)) 158 (0, 0)) :: (B ++ L)) fun r M => r = .bool (Hg.close p u).2 ∧ ∃ B', Row 160 4 (.slice a p.list.length c) p.list.length (kD (Hg.close p u).1.list) B' ∧
  M = (bp, .cells (jk (Hg.close p u).1 (.slice a p.list.length c)) 158 (0, 0)) :: (B' ++ L) := by
 have pc0 : (jk (p) (.slice a p.list.length c))[0 + 0]? = some (.slice a p.list.length c) := rfl
 have pc1 : (jk (p) (.slice a p.list.length c))[0 + 1]? = some (.int .i64 ((p).asked : Nat)) := rfl
 have pc2 : (jk (p) (.slice a p.list.length c))[0 + 2]? = some (.int .i64 (p).want) := rfl
 have pc3 : (jk (p) (.slice a p.list.length c))[0 + 3]? = some (.int .i64 (p).tries) := rfl
 have pc4 : (jk (p) (.slice a p.list.length c))[0 + 4]? = some (.int .i64 (p).every) := rfl
 have pc5 : (jk (p) (.slice a p.list.length c))[0 + 5]? = some (.int .i64 (p).wait) := rfl
 have pc6 : (jk (p) (.slice a p.list.length c))[0 + 6]? = some (.int .i64 (p).start) := rfl
 have pc7 : (jk (p) (.slice a p.list.length c))[0 + 7]? = some (.int .i64 (p).now) := rfl
 have pc8 : (jk (p) (.slice a p.list.length c))[0 + 8]? = some (.int .i64 (p).reached) := rfl
 have pc9 : (jk (p) (.slice a p.list.length c))[0 + 9]? = some (.bool (p).made) := rfl
 have pc10 : (jk (p) (.slice a p.list.length c))[0 + 10]? = some (.bool (p).begins) := rfl
 have g1 : Option.isNone (some (⟨bp, 0, none⟩ : Addr)) = false := rfl
 refine jm (n := 44) Tryz.func48 rfl rfl rfl ?_
 refine goD ?_
 refine jy (σ := Nat) (fun k => k ≤ p.list.length ∧ ∀ y ∈ p.list.take k, Hg.isIt u y = false) (fun k => [(0, .pointer (some ⟨bp, 0, none⟩)), (1, .int .i64 u), (12, .int .i64 (p.list.length : Nat)), (13, .int .i64 (k : Nat))]) (fun k => (bp, .cells (jk p (.slice a p.list.length c)) 158 (0, 0)) :: (B ++ L)) (fun k => p.list.length - k) 0 ⟨Nat.zero_le _, by simp⟩ ?_ (fun w h => h) ?_
 exact jr
 rintro k ⟨hk, hno⟩
 by_cases hlt : k < p.list.length
 · have d1 : decide (((k : Nat) : Int) < ((p.list.length : Nat) : Int)) = true := decide_eq_true jd
   obtain ⟨x, hx⟩ : ∃ x, p.list[k]? = some x := ⟨_, List.getElem?_eq_getElem hlt⟩
   rcases hR.is with ⟨_, h, _⟩ | ⟨be, cap, cur, hsl, rfl, h3, h4, h5, h6⟩
   · omega
   cases hsl
   have hcx := Kt h6 hx hlt
   have n0 : cur[0 + k * 4 + 0]? = some (.int .i64 x.up) := hcx 0 _ rfl
   have n3 : cur[0 + k * 4 + 3]? = some (.bool x.op) := hcx 3 _ rfl
   cases hup : x.up == u with
   | false =>
     refine goD ?_
     refine jh (k + 1) ⟨hlt, JG hno hx (by simp [Hg.isIt, hup])⟩ ?_ (fun w h => h) jd
     exact jr
   | true =>
     cases hop : x.op with
     | false =>
       rw [hop] at n3
       refine goD ?_
       refine jh (k + 1) ⟨hlt, JG hno hx (by simp [Hg.isIt, hop])⟩ ?_ (fun w h => h) jd
       exact jr
     | true =>
       rw [hop] at n3
       obtain ⟨k1, k2⟩ := Kk u p.list k x hno hx (by simp [Hg.isIt, hop, hup])
       refine goD ?_
       refine ji 4 _ rfl rfl ?_
       refine ⟨by rw [Hg.close, k2], [(be, Obj.cells (cur.setIfInBounds (0 + k * 4 + 3) (.bool false)) 160 (0, 0))], ?_, rfl⟩
       refine ⟨by simp only [Hg.close]; rw [k1, uy, List.length_set], Or.inr ⟨be, c, _, rfl, rfl, h3, h4, by simpa using h5, ?_⟩⟩
       simp only [Hg.close]
       rw [k1, take_set, h6, K6 _ _ _ hx, Nat.zero_add]
 · have d1 : decide (((k : Nat) : Int) < ((p.list.length : Nat) : Int)) = false := decide_eq_false jd
   have hkn : k = p.list.length := by omega
   subst hkn
   rw [List.take_length] at hno
   obtain ⟨k1, k2⟩ := zt u p.list hno
   refine goD ?_
   refine ji 4 _ rfl rfl ?_
   refine ⟨by rw [Hg.close, k2], B, ?_, rfl⟩
   simp only [Hg.close]
   rw [k1]
   exact hR
theorem VY (va vb : Value) (la lb : List Int) (ha : IRow L va la) (hb : IRow L vb lb) (hla : la.length ≤ 1000000) : Spec Tryz.prog G 57 #[va, vb] L fun u M => u = .bool (la == lb) ∧ M = L := by
 obtain ⟨aa, ca, rfl, ha⟩ := ha
 obtain ⟨ab, cb, rfl, hb⟩ := hb
 refine jm (n := 26) Tryz.func57 rfl rfl rfl ?_
 by_cases hlen : la.length = lb.length
 · have d0 : (((la.length : Nat) : Int) != ((lb.length : Nat) : Int)) = false := by simp [hlen]
   refine goD ?_
   refine jy (σ := Nat) (fun k => k ≤ la.length ∧ la.take k = lb.take k) (fun k => [(0, .slice aa la.length ca), (1, .slice ab lb.length cb), (5, .int .i64 (k : Nat))]) (fun k => L) (fun k => la.length - k) 0 ⟨Nat.zero_le _, by simp⟩ ?_ (fun w h => h) ?_
   exact jr
   rintro k ⟨hk, heq⟩
   by_cases hlt : k < la.length
   · have d1 : decide (((k : Nat) : Int) < ((la.length : Nat) : Int)) = true := decide_eq_true jd
     obtain ⟨x, hx⟩ : ∃ x, la[k]? = some x := ⟨_, List.getElem?_eq_getElem hlt⟩
     obtain ⟨y, hy⟩ : ∃ y, lb[k]? = some y := ⟨_, List.getElem?_eq_getElem (hlen ▸ hlt)⟩
     rcases ha with rfl | ⟨b1, o1, C1, t1, f1, rfl, m1, q1⟩
     · simp at hlt
     rcases hb with rfl | ⟨b2, o2, C2, t2, f2, rfl, m2, q2⟩
     · simp at hy
     have r1 := q1 k x hx
     have r2 := q2 k y hy
     have hK : ∀ z ∈ [(b1, Obj.cells C1 t1 f1), (b2, Obj.cells C2 t2 f2)], z ∈ L := fun z hz => by
      simp only [List.mem_cons, List.not_mem_nil, or_false] at hz
      rcases hz with rfl | rfl <;> assumption
     by_cases hxy : x = y
     · have d2 : (x != y) = false := by simp [hxy]
       refine goD ?_
       refine jq jb ([(b1, Obj.cells C1 t1 f1), (b2, Obj.cells C2 t2 f2)]) [] ?_
       refine tkQ 0 ?_
       refine tkQ 1 ?_
       refine tkQ 2 ?_
       refine tkQ 3 ?_
       refine tkQ 4 ?_
       refine tkQ 5 ?_
       refine tkQ 6 ?_
       refine tkQ 7 ?_
       refine tkQ 8 ?_
       refine tdQ ?_
       refine goD ?_
       refine jh (k + 1) ⟨hlt, ?_⟩ ?_ (fun w h => h) jd
       · subst hxy
         rw [List.take_add_one, List.take_add_one, heq, hx, hy]
       exact jr
     · have d2 : (x != y) = true := by simp [hxy]
       refine goD ?_
       refine jq jb ([(b1, Obj.cells C1 t1 f1), (b2, Obj.cells C2 t2 f2)]) [] ?_
       refine tkQ 0 ?_
       refine tkQ 1 ?_
       refine tkQ 2 ?_
       refine tkQ 3 ?_
       refine tkQ 4 ?_
       refine tkQ 5 ?_
       refine tkQ 6 ?_
       refine tkQ 7 ?_
       refine tkQ 8 ?_
       refine tdQ ?_
       refine goD ?_
       refine ji 4 _ rfl rfl ?_
       refine ⟨?_, rfl⟩
       have : la ≠ lb := fun e => hxy (by rw [e, hy] at hx; exact (Option.some.inj hx).symm)
       simp [this]
   · have d1 : decide (((k : Nat) : Int) < ((la.length : Nat) : Int)) = false := decide_eq_false jd
     have hkn : k = la.length := by omega
     subst hkn
     rw [List.take_length, hlen, List.take_length] at heq
     refine goD ?_
     refine ji 4 _ rfl rfl ?_
     exact ⟨by simp [heq], rfl⟩
 · have d0 : (((la.length : Nat) : Int) != ((lb.length : Nat) : Int)) = true := by simp; omega
   refine goD ?_
   refine ji 4 _ rfl rfl ?_
   refine ⟨?_, rfl⟩
   have : la ≠ lb := fun e => hlen (by rw [e])
   simp [this]
end Go.Proofs.YtbjkkoacclfejaaGreat
