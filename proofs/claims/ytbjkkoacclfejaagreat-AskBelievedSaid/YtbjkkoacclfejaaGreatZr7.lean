/-
 Part 7: Ef Ej Ek El Em Cd Ce Cg Cj Ci Ch Ck Cl En Eo.
-/
import Derived.Test.YtbjkkoacclfejaaGreatZr6
import Derived.Test.YtbjkkoacclfejaaGreatZr5
import Derived.Test.YtbjkkoacclfejaaGreatZr1
import Derived.Test.YtbjkkoacclfejaaGreatZr2
import Derived.Test.YtbjkkoacclfejaaGreatZr4
import Derived.Test.YtbjkkoacclfejaaGreatZr3
set_option maxRecDepth 100000
set_option maxHeartbeats 8000000
set_option linter.unusedVariables false
set_option linter.unusedSimpArgs false
namespace Go.Proofs.YtbjkkoacclfejaaGreat
open Go.RowKit
open Vd (RSet Vdt Vote Rec Quest Piece Ballot)
variable {G : World} {L : ja}
theorem uX {P : Program} {ρ : jB} {ty : TypeId} {x y : Operand} {b k : Nat} {t : TypeId} {C D : Array Value} {te : TypeId} (hx : ev ρ x = some (.pointer (some ⟨b, 0, none⟩))) (hy : ev ρ y = some (.agg D))
 (ht : jV P t k = true) (hC : C.size = k) (hD : D.size = k) (hone : Jx D = true) : OpV P G ρ ((b, Obj.cells C te (0, 0)) :: L) (.store t x y) ty undef ((b, Obj.cells D te (0, 0)) :: L) := by
 have h1 := zE (G := G) (P := P) (ρ := ρ) (L := L) (ty := ty) (b := b) (C := C) (te := te) (t := t) (cs := D.toList) hx (by simpa using hy) (by rw [Array.length_toList, hD]; exact ht) (fun v hv => List.all_eq_true.1 hone v hv) (by rw [Array.length_toList, hD, hC]; omega)
 have h2 : qN C 0 D.toList = D := by
  unfold qN
  rw [List.drop_eq_nil_of_le (by simp; omega)]
  simp
 rw [h2] at h1
 exact h1
def ahc (L : ja) (cs : List Value) (v : Vdt) (t : Int) (ag di : List Int) : Prop := ∃ y1 k1 y2 k2 y3 k3 y4 k4, cs = [.int .u8 v.code, .slice y1 v.sets.length k1, .slice y2 v.soa.length k2, .int .u32 t, .slice y3 ag.length k3, .slice y4 di.length k4] ∧
 vdR L [.int .u8 v.code, .slice y1 v.sets.length k1, .slice y2 v.soa.length k2] v ∧ IRow L (.slice y3 ag.length k3) ag ∧ IRow L (.slice y4 di.length k4) di
def DecOut (L : ja) (r : Option (Vdt × Int × List Int × List Int)) (u : Value) (M : ja) : Prop := ∃ v t ag di cs N, u = .tuple #[.agg cs.toArray, .bool r.isSome] ∧ ahc N cs v t ag di ∧ (∀ x, r = some x → x = (v, t, ag, di)) ∧ M = N ++ L
theorem jK {L : ja} : IRow L (.slice none 0 0) [] := ⟨none, 0, rfl, Or.inl rfl⟩
theorem Jm {L : ja} {a : Option Addr} {c : Nat} {l : List Int} (h : sliceR 1 (uz .i64) L [.slice a l.length c] l) : IRow L (.slice a l.length c) l := by
 obtain ⟨_, _, _, h⟩ := sliceR.cut h
 refine ⟨a, c, rfl, h.imp id ?_⟩
 rintro ⟨b, off, C, te, fr, q1, q2, q3⟩
 refine ⟨b, off, C, te, fr, q1, q2, fun i x hx => ?_⟩
 obtain ⟨cs', _, ⟨rfl, _⟩, k3⟩ := q3 i x hx
 exact k3 0 _ rfl
theorem DecOut.no : DecOut L none (.tuple #[.agg #[.int .u8 0, .slice none 0 0, .slice none 0 0, .int .u32 0, .slice none 0 0, .slice none 0 0], .bool false]) L :=
 ⟨Vdt.none, 0, [], [], _, [], rfl, ⟨none, 0, none, 0, none, 0, none, 0, rfl, ⟨_, _, rfl, sliceR.nil, sliceR.nil, by decide⟩, jK, jK⟩, by simp, rfl⟩
theorem PBox.codes {bb : Nat} {want : Int} {l : List Ballot} {X : ja} (h : PBox bb want l X) : ∀ x ∈ Vd.votesB l, (0 ≤ x.vd.code ∧ x.vd.code ≤ 255) ∧ (0 ≤ x.time ∧ x.time ≤ 4294967295) := by
 obtain ⟨hs, _, N, ⟨a, c, B, hB, rfl⟩, hN, rfl⟩ := h
 obtain ⟨_, _, hl, _⟩ := hB.ex
 intro x hx
 obtain ⟨i, hi⟩ := List.getElem?_of_mem hx
 obtain ⟨cs, _, ⟨_, _, _, _, _, h1, h2, _⟩, _⟩ := hl.at hi
 exact ⟨h1, h2⟩
theorem UK {want : Int} {vs : List Vote} : ∀ {j k : Nat}, jZ want vs j = some k → ∃ x, vs[k]? = some x
 | 0, k, h => by cases h
 | j + 1, k, h => by
   unfold jZ at h
   split at h
   · rename_i k' hk
     obtain rfl := Option.some.inj h
     exact UK hk
   · split at h
     · rename_i x hx
       split at h
       · obtain rfl := Option.some.inj h
         exact ⟨x, hx⟩
       · cases h
     · cases h
theorem abU {want : Int} {vs : List Vote} (h : (qt want vs).2.2.2 = true) : ∃ x ∈ vs, (qt want vs).1 = x.vd := by
 unfold qt at h ⊢
 cases hw : jZ want vs vs.length with
 | none => rw [hw] at h; cases h
 | some j =>
   rw [hw] at h
   dsimp only at h ⊢
   obtain ⟨x, hx⟩ := UK hw
   rw [hx]
   exact ⟨x, List.mem_of_getElem? hx, rfl⟩
theorem adD {want : Int} (h : 1 ≤ want) (vs : List Vote) : Z6 want vs = qt want vs := if_neg jd
theorem aac {a : As} (h : a.pol = 1) : Aq.decided a = if (qt a.want (Aq.votes a)).2.2.2 then some ((qt a.want (Aq.votes a)).1, (qt a.want (Aq.votes a)).2.1, (qt a.want (Aq.votes a)).2.2.1, kE a.want (Aq.votes a)) else none := by
 unfold Aq.decided; rw [if_pos h]
theorem aeQ {v : Vdt} {t : Int} {ag di : List Int} {N : ja} {y1 y2 y3 y4 : Option Addr} {k1 k2 k3 k4 : Nat} (h : vdR N [.int .u8 v.code, .slice y1 v.sets.length k1, .slice y2 v.soa.length k2] v) (h3 : IRow N (.slice y3 ag.length k3) ag) (h4 : IRow N (.slice y4 di.length k4) di) :
 DecOut L (some (v, t, ag, di)) (.tuple #[.agg #[.int .u8 v.code, .slice y1 v.sets.length k1, .slice y2 v.soa.length k2, .int .u32 t, .slice y3 ag.length k3, .slice y4 di.length k4], .bool true]) (N ++ L) :=
 ⟨v, t, ag, di, _, N, rfl, ⟨y1, k1, y2, k2, y3, k3, y4, k4, rfl, h, h3, h4⟩, fun x hx => (Option.some.inj hx).symm, rfl⟩
theorem aad {bb : Nat} {X : ja} (a : As) (c1 c2 c3 : Value) (hq : Jx #[c1, c2, c3] = true) (hb : PBox bb a.want a.l X) (hX : ∀ p ∈ X, p ∈ L) (hw : 1 ≤ a.want) (hp : a.pol = 1) :
 Spec Tryz.prog G 187 #[.agg #[], .agg #[c1, c2, c3], .pointer (some ⟨bb, 0, none⟩)] L (DecOut L (Aq.decided a)) := by
 rw [aac hp]
 have hcd := hb.codes
 refine jl (n := 28) Tryz.func187 rfl rfl rfl ?_
 repeat (first | refine goA ?_ | (refine jQ ?_; intro bNew) | (refine kD ?_; intro bBox))
 obtain ⟨b6, hb6⟩ : ∃ b, bNew = b := ⟨_, rfl⟩
 rw [hb6]
 clear hb6
 rename_i bx1
 refine jx (jb je rfl (aeG hb (fun p hp => List.mem_cons_of_mem _ (List.mem_cons_of_mem _ (List.mem_cons_of_mem _ (hX p hp)))))) rfl ?_
 rw [adD hw]
 obtain ⟨r, hr⟩ : ∃ r, r = qt a.want (Vd.votesB a.l) := ⟨_, rfl⟩
 have hv : Aq.votes a = Vd.votesB a.l := rfl
 rw [hv, ← hr]
 rintro _ _ ⟨ra, rc, RB, ra2, rc2, RB2, ra3, rc3, RB3, N, rfl, hR1, hR2, hR3, hN, rfl⟩
 repeat (first | refine goA ?_ | (refine jQ ?_; intro bNew))
 cases hf : r.2.2.2 with
 | false =>
   rw [if_neg (by simp)]
   refine Y7 (L' := (b6, Obj.cells #[.int .u8 0, .slice none 0 0, .slice none 0 0, .int .u32 0, .slice none 0 0, .slice none 0 0] 167 (0, 0)) :: L) ?_ ji
   repeat (first | refine goA ?_ | refine jy (jm rfl (KT )) rfl ?_)
   refine kR 6 167 7 rfl rfl rfl stO (by repeat (exact List.mem_cons_self)) rfl (L' := L) (fun w h => h.cnt ji) ?_
   exact DecOut.no
 | true =>
   obtain ⟨x, hx, hxe⟩ := abU (want := a.want) (vs := Vd.votesB a.l) (by rw [← hr]; exact hf)
   have hxc := (hcd x hx).1
   rw [← hr] at hxe
   rw [← hxe] at hxc
   rw [if_pos rfl]
   obtain ⟨b7, hb7⟩ : ∃ b, bNew = b := ⟨_, rfl⟩
   rw [hb7]
   clear hb7
   have hag := YE (G := G) (L := (b7, Obj.cells #[.int .u8 r.1.code, .slice ra r.1.sets.length rc, .slice ra2 r.1.soa.length rc2] 40 (0, 0)) :: (RB3 ++ (RB2 ++ (RB ++ (N ++ ((b6, Obj.cells #[.int .u8 0, .slice none 0 0, .slice none 0 0, .int .u32 0, .slice none 0 0, .slice none 0 0] 167 (0, 0)) :: (bBox, Obj.cells #[c1, c2, c3] 24 (0, 0)) :: (bx1, Obj.cells #[] 152 (0, 0)) :: L)))))) hb (fun p hp => by have := hX p hp; simp [this])
   rw [if_neg jd] at hag
   obtain ⟨ag, hage⟩ : ∃ z, z = kE a.want (Vd.votesB a.l) := ⟨_, rfl⟩
   rw [← hage] at hag ⊢
   have hK : ∀ z ∈ [(b7, Obj.cells #[.int .u8 r.1.code, .slice ra r.1.sets.length rc, .slice ra2 r.1.soa.length rc2] 40 (0, 0))], z ∈ (b7, Obj.cells #[.int .u8 r.1.code, .slice ra r.1.sets.length rc, .slice ra2 r.1.soa.length rc2] 40 (0, 0)) :: (RB3 ++ (RB2 ++ (RB ++ (N ++ ((b6, Obj.cells #[.int .u8 0, .slice none 0 0, .slice none 0 0, .int .u32 0, .slice none 0 0, .slice none 0 0] 167 (0, 0)) :: (bBox, Obj.cells #[c1, c2, c3] 24 (0, 0)) :: (bx1, Obj.cells #[] 152 (0, 0)) :: L))))) := fun z hz => by simp only [List.mem_singleton] at hz; subst hz; simp
   refine goA ?_
   refine jw jc ([(b7, Obj.cells #[.int .u8 r.1.code, .slice ra r.1.sets.length rc, .slice ra2 r.1.soa.length rc2] 40 (0, 0))]) [] ?_
   refine tkQ 0 ?_
   refine tkQ 1 ?_
   refine tkQ 2 ?_
   refine tkQ 3 ?_
   refine jD 4 je rfl rfl rfl rfl (jb je rfl hag) ?_; rintro _ _ ⟨a3, c3', B3, rfl, hB3, rfl⟩; refine ⟨Or.inr (fun z hz => by simp only [List.mem_singleton] at hz; subst hz; simp), ?_⟩
   (refine' ju 5 rfl rfl je (jF (jm rfl (yJ _ _ _ _ _ _ _ _ _ _))) ?_ ?_; (· intro p hp; grind))
   refine kk (L' := (b6, Obj.cells #[.int .u8 0, .slice none 0 0, .slice none 0 0, .int .u32 0, .slice none 0 0, .slice none 0 0] 167 (0, 0)) :: (B3 ++ (RB3 ++ (RB2 ++ (RB ++ (N ++ ((b7, Obj.cells #[.int .u8 r.1.code, .slice ra r.1.sets.length rc, .slice ra2 r.1.soa.length rc2] 40 (0, 0)) :: (bBox, Obj.cells #[c1, c2, c3] 24 (0, 0)) :: (bx1, Obj.cells #[] 152 (0, 0)) :: L))))))) ?_ ji; refine jU 6 je rfl rfl rfl (uX rfl rfl stO rfl rfl rfl) ?_; rintro _ _ ⟨_, rfl⟩; refine ⟨Or.inr (fun z hz => by simp only [List.mem_singleton] at hz; subst hz; simp), ?_⟩
   refine tkQ 7 ?_
   refine tdQ ?_
   refine goA ?_
   refine kR 6 167 7 rfl rfl rfl stO (by repeat (exact List.mem_cons_self)) rfl (L' := (B3 ++ (RB3 ++ (RB2 ++ (RB ++ N)))) ++ L) (fun w h => h.cnt ji) ?_
   exact aeQ (N := B3 ++ (RB3 ++ (RB2 ++ (RB ++ N)))) ⟨_, _, rfl, hR1.sliceR jv jn jn, hR2.sliceR jv jn jn, hxc⟩ (Jm (hR3.sliceR (yM _) (by simp) jn)) (Jm (hB3.sliceR (yM _) (by simp) jn))
theorem aae {bb : Nat} {want : Int} {l : List Ballot} {X : ja} (n : Int) (hn : 0 ≤ n ∧ n ≤ 1000) (hb : PBox bb want l X) (hX : ∀ p ∈ X, p ∈ L) :
 Spec Tryz.prog G 188 #[.agg #[], .int .i64 n, .pointer (some ⟨bb, 0, none⟩)] L fun u M => u = .int .i64 (n + uE (Vd.votesB l)) ∧ M = L := by
 have hl9 := hb.1.ok.len
 have hvl := kn l
 have hm0 := Jf (Vd.votesB l)
 have hm9 : uE (Vd.votesB l) ≤ 9 := mostR_le.2 ⟨by decide, fun x hx => by have := List.length_filter_le (fun y : Vote => decide (y.vd = x.vd)) (Vd.votesB l); unfold jH; omega⟩
 refine jl (n := 11) Tryz.func188 rfl rfl rfl ?_
 repeat (first | refine goA ?_ | (refine kD ?_; intro bBox))
 refine jx (jb je rfl (ads hb (fun p hp => List.mem_cons_of_mem _ (hX p hp)))) rfl ?_
 rintro _ _ ⟨rfl, rfl⟩
 refine goA ?_
 refine jG (L' := L) ?_ ji
 refine jf 6 _ rfl rfl ?_
 exact ⟨rfl, rfl⟩
theorem abV {bb : Nat} {want : Int} {l : List Ballot} {X : ja} (n : Int) (hn : 0 ≤ n ∧ n ≤ 1000) (w0 : Int) (hb : PBox bb want l X) (hX : ∀ p ∈ X, p ∈ L) :
 Spec Tryz.prog G 209 #[.agg #[.int .i64 w0], .int .i64 n, .pointer (some ⟨bb, 0, none⟩)] L fun u M => u = .int .i64 (n + ((Vd.votesB l).length : Int)) ∧ M = L := by
 have hl9 := hb.1.ok.len
 have hvl := kn l
 have hm0 := Jf (Vd.votesB l)
 have hm9 : uE (Vd.votesB l) ≤ 9 := mostR_le.2 ⟨by decide, fun x hx => by have := List.length_filter_le (fun y : Vote => decide (y.vd = x.vd)) (Vd.votesB l); unfold jH; omega⟩
 refine jl (n := 12) Tryz.func209 rfl rfl rfl ?_
 repeat (first | refine goA ?_ | (refine kD ?_; intro bBox))
 refine jx (jb je rfl (Jk hb (fun p hp => List.mem_cons_of_mem _ (hX p hp)))) rfl ?_
 rintro _ _ ⟨va, vc, VB, N, rfl, hVB, hN, rfl⟩
 refine goA ?_
 refine jG (L' := L) ?_ ji
 refine jf 6 _ rfl rfl ?_
 exact ⟨rfl, rfl⟩
theorem YH {bb : Nat} {want : Int} {l : List Ballot} {X : ja} (n : Int) (hn : 0 ≤ n ∧ n ≤ 1000) (hb : PBox bb want l X) (hX : ∀ p ∈ X, p ∈ L) :
 Spec Tryz.prog G 212 #[.agg #[], .int .i64 n, .pointer (some ⟨bb, 0, none⟩)] L fun u M => u = .int .i64 (n + ((Vd.votesB l).length : Int)) ∧ M = L := by
 have hl9 := hb.1.ok.len
 have hvl := kn l
 have hm0 := Jf (Vd.votesB l)
 have hm9 : uE (Vd.votesB l) ≤ 9 := mostR_le.2 ⟨by decide, fun x hx => by have := List.length_filter_le (fun y : Vote => decide (y.vd = x.vd)) (Vd.votesB l); unfold jH; omega⟩
 refine jl (n := 12) Tryz.func212 rfl rfl rfl ?_
 repeat (first | refine goA ?_ | (refine kD ?_; intro bBox))
 refine jx (jb je rfl (Jk hb (fun p hp => List.mem_cons_of_mem _ (hX p hp)))) rfl ?_
 rintro _ _ ⟨va, vc, VB, N, rfl, hVB, hN, rfl⟩
 refine goA ?_
 refine jG (L' := L) ?_ ji
 refine jf 6 _ rfl rfl ?_
 exact ⟨rfl, rfl⟩
structure EndOk (q : Quest) (v : Vdt) : Prop where
 few : (Vd.endV q v).1.data.length ≤ 600
 small : ∀ d ∈ (Vd.endV q v).1.data, d.length ≤ 1000000
 some : (Vd.endV q v).2 = true → (Vd.endV q v).1.data ≠ []
structure QOk (q : Quest) : Prop where
 name : q.name.length ≤ 1000000
 kind : 0 ≤ q.kind ∧ q.kind ≤ 65535
 cls : 0 ≤ q.cls ∧ q.cls ≤ 65535
 may : Nm.may q.name = true
theorem abW {q : Quest} (h : Nm.may q.name = true) {l : List Vote} (hl : l ≠ []) : (Vd.union q l).2.2 = true := by
 cases l with
 | nil => exact absurd rfl hl
 | cons w r =>
   unfold Vd.union
   dsimp only
   rw [if_neg (by rw [h]; simp)]
   split <;> rfl
theorem QW {q : Quest} {l : List Vote} (hc : ∀ x ∈ l, 0 ≤ x.vd.code ∧ x.vd.code ≤ 255) : 0 ≤ (Vd.union q l).1.code ∧ (Vd.union q l).1.code ≤ 255 := by
 cases l with
 | nil => exact ⟨Int.le_refl 0, show (0 : Int) ≤ 255 by decide⟩
 | cons w r =>
   unfold Vd.union
   dsimp only
   split
   · exact ⟨Int.le_refl 0, show (0 : Int) ≤ 255 by decide⟩
   · split
     · split
       · rename_i x hx
         exact hc x (List.mem_of_getElem? hx)
       · exact ⟨Int.le_refl 0, show (0 : Int) ≤ 255 by decide⟩
     · exact ⟨Int.le_refl 0, show (0 : Int) ≤ 255 by decide⟩
theorem abX {a : As} (h : a.pol = 2) : Aq.decided a = if ((Aq.votes a).length : Int) < a.want then none else some ((Vd.union a.q (Aq.votes a)).1, (Vd.union a.q (Aq.votes a)).2.1, [], []) := by
 unfold Aq.decided
 rw [if_neg jd, if_pos h]
theorem abY {bb : Nat} {X : ja} (a : As) (hb : PBox bb a.want a.l X) (hX : ∀ p ∈ X, p ∈ L) (hw : 1 ≤ a.want) (hp : a.pol = 2) (hq : QOk a.q) (he : ∀ x ∈ Aq.votes a, EndOk a.q x.vd) :
 Spec Tryz.prog G 208 #[.agg #[.int .i64 a.want], .agg #[.string (bs a.q.name), .int .u16 a.q.kind, .int .u16 a.q.cls], .pointer (some ⟨bb, 0, none⟩)] L (DecOut L (Aq.decided a)) := by
 rw [abX hp]
 have hcd := hb.codes
 have hl9 := hb.1.ok.len
 have hvl := kn a.l
 have hsm := hb.1.sm
 have hv : Aq.votes a = Vd.votesB a.l := rfl
 rw [hv] at he ⊢
 refine jl (n := 33) Tryz.func208 rfl rfl rfl ?_
 repeat (first | refine goA ?_ | (refine jQ ?_; intro bNew) | (refine kD ?_; intro bBox))
 obtain ⟨b6, hb6⟩ : ∃ b, bNew = b := ⟨_, rfl⟩
 rw [hb6]
 clear hb6
 rename_i bx1
 refine jx (jb je rfl (Jk hb (fun p hp => List.mem_cons_of_mem _ (List.mem_cons_of_mem _ (List.mem_cons_of_mem _ (hX p hp)))))) rfl ?_
 rintro _ _ ⟨va, vc, VB, N, rfl, hVB, hN, rfl⟩
 by_cases hlen : ((Vd.votesB a.l).length : Int) < a.want
 · rw [if_pos hlen]
   repeat (first | refine goA ?_ | refine jy (jm rfl (KT )) rfl ?_)
   refine jE (L' := (b6, Obj.cells #[.int .u8 0, .slice none 0 0, .slice none 0 0, .int .u32 0, .slice none 0 0, .slice none 0 0] 167 (0, 0)) :: L) ?_ ji
   refine goA ?_
   refine kR 6 167 7 rfl rfl rfl stO (by repeat (exact List.mem_cons_self)) rfl (L' := L) (fun w h => h.cnt ji) ?_
   exact DecOut.no
 · rw [if_neg hlen]
   have hne : Vd.votesB a.l ≠ [] := fun e => by rw [e] at hlen; simp at hlen; omega
   have hus : zL a.q (Vd.votesB a.l) = Vd.union a.q (Vd.votesB a.l) := QP a.q _ (fun x hx => (he x hx).some)
   have hui := abW hq.may hne
   have huc := QW (q := a.q) (fun x hx => (hcd x hx).1)
   generalize hvs : Vd.votesB a.l = vs at hVB hus hui huc hl9 hvl he hsm hlen ⊢
   have hun := WL (G := G) (L := VB ++ (N ++ ((b6, Obj.cells #[.int .u8 0, .slice none 0 0, .slice none 0 0, .int .u32 0, .slice none 0 0, .slice none 0 0] 167 (0, 0)) :: (bBox, Obj.cells #[.string (bs a.q.name), .int .u16 a.q.kind, .int .u16 a.q.cls] 24 (0, 0)) :: (bx1, Obj.cells #[.int .i64 a.want] 154 (0, 0)) :: L))) (K := N) _ a.q vs jn hq.name hq.kind hq.cls ((hVB.imp (r' := fun _ => voteR N) (L' := []) (fun cs x _ h => h)).sliceR km (by simp) jn) jd (fun x hx => (he x hx).few) hsm
   rw [hus] at hun
   generalize hr : Vd.union a.q vs = r at hun hui huc ⊢
   refine goA ?_
   refine jx (jb je rfl hun) rfl ?_
   rintro _ _ ⟨ra, rc, RB, ra2, rc2, RB2, RN, rfl, hR1, hR2, hRN, rfl⟩
   repeat (first | refine goA ?_ | (refine jQ ?_; intro bNew) | refine jy (jm rfl (zF _ _ _ _)) rfl ?_)
   rw [hui]
   skip
   refine jE (L' := (b6, Obj.cells #[.int .u8 0, .slice none 0 0, .slice none 0 0, .int .u32 0, .slice none 0 0, .slice none 0 0] 167 (0, 0)) :: ((RB2 ++ (RB ++ RN)) ++ L)) ?_ ji
   refine goA ?_
   refine kR 6 167 7 rfl rfl rfl stO (by repeat (exact List.mem_cons_self)) rfl (L' := (RB2 ++ (RB ++ RN)) ++ L) (fun w h => h.cnt ji) ?_
   exact aeQ (N := RB2 ++ (RB ++ RN)) (ag := []) (di := []) ⟨_, _, rfl, hR1.sliceR jv jn jn, hR2.sliceR jv jn jn, huc⟩ jK jK
theorem YI {a : As} (h : a.pol = 3) (hw : a.want = 1) : Aq.decided a = match (Aq.votes a)[0]? with | some x => some (x.vd, x.time, [], []) | none => none := by
 unfold Aq.decided
 rw [if_neg jd, hw]
 cases hv : (Aq.votes a)[0]? with
 | none =>
   have : (Aq.votes a).length = 0 := by have := List.getElem?_eq_none_iff.1 hv; omega
   rw [this, if_pos (by decide)]
 | some x =>
   have := (List.getElem?_eq_some_iff.1 hv).1
   rw [if_neg jd, if_neg jd]
theorem YJ {bb : Nat} {X : ja} (a : As) (c1 c2 c3 : Value) (hb : PBox bb a.want a.l X) (hX : ∀ p ∈ X, p ∈ L) (hw : a.want = 1) (hp : a.pol = 3) :
 Spec Tryz.prog G 211 #[.agg #[], .agg #[c1, c2, c3], .pointer (some ⟨bb, 0, none⟩)] L (DecOut L (Aq.decided a)) := by
 rw [YI hp hw]
 have hcd := hb.codes
 have hl9 := hb.1.ok.len
 have hvl := kn a.l
 have hv : Aq.votes a = Vd.votesB a.l := rfl
 rw [hv]
 refine jl (n := 24) Tryz.func211 rfl rfl rfl ?_
 repeat (first | refine goA ?_ | (refine jQ ?_; intro bNew) | (refine kD ?_; intro bBox))
 obtain ⟨b6, hb6⟩ : ∃ b, bNew = b := ⟨_, rfl⟩
 rw [hb6]
 clear hb6
 rename_i bx1
 refine jx (jb je rfl (Jk hb (fun p hp => List.mem_cons_of_mem _ (List.mem_cons_of_mem _ (List.mem_cons_of_mem _ (hX p hp)))))) rfl ?_
 obtain ⟨vs, hvs⟩ : ∃ vs, vs = Vd.votesB a.l := ⟨_, rfl⟩
 rw [← hvs] at hvl hcd ⊢
 rintro _ _ ⟨va, vc, VB, N, rfl, hVB, hN, rfl⟩
 cases hx : vs[0]? with
 | none =>
   have h0 : vs.length = 0 := by have := List.getElem?_eq_none_iff.1 hx; omega
   rw [h0]
   repeat (first | refine goA ?_ | refine jy (jm rfl (KT )) rfl ?_)
   refine jE (L' := (b6, Obj.cells #[.int .u8 0, .slice none 0 0, .slice none 0 0, .int .u32 0, .slice none 0 0, .slice none 0 0] 167 (0, 0)) :: L) ?_ ji
   refine goA ?_
   refine kR 6 167 7 rfl rfl rfl stO (by repeat (exact List.mem_cons_self)) rfl (L' := L) (fun w h => h.cnt ji) ?_
   exact DecOut.no
 | some x =>
   have hlt := (List.getElem?_eq_some_iff.1 hx).1
   have hxc := (hcd x (List.mem_of_getElem? hx)).1
   have hR := (hVB.imp (r' := fun _ => voteR N) (L' := []) (fun cs x _ h => h)).sliceR km (L' := VB) (by simp) (fun p hp => hp)
   obtain ⟨b1, o1, C1, t1, f1, rfl, m1, cs, _, ⟨y1, y2, rfl, hs1, hs2, _⟩, hcs⟩ := sliceR.at hR hx
   obtain ⟨z1, w1, e1, hs1⟩ := hs1.val
   obtain ⟨z2, w2, e2, hs2⟩ := hs2.val
   simp only [List.cons.injEq, and_true] at e1 e2
   subst e1 e2
   have g1 : C1[o1 + 0 * 5 + 1 + 0]? = some (.int .u8 x.vd.code) := hcs 1 _ rfl
   have g4 : C1[o1 + 0 * 5 + 4]? = some (.int .u32 x.time) := hcs 4 _ rfl
   have hver : ∀ j v, ([.int .u8 x.vd.code, .slice z1 x.vd.sets.length w1, .slice z2 x.vd.soa.length w2] : List Value)[j]? = some v → C1[o1 + 0 * 5 + 1 + j]? = some v := fun j v hj => by
    match j, hj with
    | 0, hj => exact hcs 1 _ hj
    | 1, hj => exact hcs 2 _ hj
    | 2, hj => exact hcs 3 _ hj
   have hK : ∀ z ∈ [(b1, Obj.cells C1 t1 f1)], z ∈ VB ++ (N ++ ((b6, Obj.cells #[.int .u8 0, .slice none 0 0, .slice none 0 0, .int .u32 0, .slice none 0 0, .slice none 0 0] 167 (0, 0)) :: (bBox, Obj.cells #[c1, c2, c3] 24 (0, 0)) :: (bx1, Obj.cells #[] 155 (0, 0)) :: L)) := fun z hz => by rw [List.mem_singleton.1 hz]; exact List.mem_append_left _ m1
   refine goA ?_
   refine jw jc ([(b1, Obj.cells C1 t1 f1)]) [] ?_
   refine tkQ 0 ?_
   refine tkQ 1 ?_
   refine tkQ 2 ?_
   (refine' ju 3 rfl rfl je (jF (jA [.int .u8 x.vd.code, .slice z1 x.vd.sets.length w1, .slice z2 x.vd.soa.length w2] rfl stL (List.mem_singleton.2 rfl) hver)) ?_ ?_; (· assumption))
   refine tkQ 4 ?_
   refine tkQ 5 ?_
   refine tkQ 6 ?_
   refine tkQ 7 ?_
   (refine' ju 8 rfl rfl je (jF (jm rfl (zF _ _ _ _))) ?_ ?_; (· assumption))
   refine kk (L' := (b6, Obj.cells #[.int .u8 0, .slice none 0 0, .slice none 0 0, .int .u32 0, .slice none 0 0, .slice none 0 0] 167 (0, 0)) :: (VB ++ (N ++ ((bBox, Obj.cells #[c1, c2, c3] 24 (0, 0)) :: (bx1, Obj.cells #[] 155 (0, 0)) :: L)))) ?_ ji; refine jU 9 je rfl rfl rfl (uX rfl rfl stO rfl rfl rfl) ?_; rintro _ _ ⟨_, rfl⟩; refine ⟨Or.inr (fun z hz => by rw [List.mem_singleton.1 hz]; exact List.mem_cons_of_mem _ (List.mem_append_left _ m1)), ?_⟩
   refine tkQ 10 ?_
   refine tdQ ?_
   refine goA ?_
   refine kR 6 167 7 rfl rfl rfl stO (by repeat (exact List.mem_cons_self)) rfl (L' := N ++ L) (fun w h => h.cnt ji) ?_
   exact aeQ (N := N) (ag := []) (di := []) ⟨_, _, rfl, hs1, hs2, hxc⟩ jK jK
end Go.Proofs.YtbjkkoacclfejaaGreat
namespace Go.Proofs.YtbjkkoacclfejaaGreat
open Go.RowKit
open Hg (En Pl)
open Vd (RSet Vdt Vote Rec Quest Piece Ballot)
theorem aee : zU Tryz.prog 92 = true := by kernel_rfl
def YK (pol : Int) : TypeId := if pol = 1 then 152 else if pol = 2 then 154 else 155
def Ui (pol want : Int) : Value := if pol = 2 then .agg #[.int .i64 want] else .agg #[]
def kt (q : Quest) : Array Value := #[.string (bs q.name), .int .u16 q.kind, .int .u16 q.cls]
def jk (a : As) (bp bb : Nat) : Array Value := #[.string (bs a.q.name), .int .u16 a.q.kind, .int .u16 a.q.cls, .iface (YK a.pol) (Ui a.pol a.want), .int .i64 a.want, .pointer (some ⟨bp, 0, none⟩), .pointer (some ⟨bb, 0, none⟩), .int .i64 a.ded, .int .i64 a.now, .bool a.over]
def zN : Rp Dd := fun K cs d => ∃ y1 k1 y2 k2 y3 k3 y4 k4 y5 k5 y6 k6, cs = [.slice y1 d.sends.length k1, .slice y2 d.gone.length k2, .bool d.over, .bool d.done, .int .u8 d.vd.code, .slice y3 d.vd.sets.length k3, .slice y4 d.vd.soa.length k4, .int .u32 d.time, .slice y5 d.agree.length k5, .slice y6 d.dissent.length k6] ∧
 IRow K (.slice y1 d.sends.length k1) d.sends ∧ IRow K (.slice y2 d.gone.length k2) d.gone ∧ vdR K [.int .u8 d.vd.code, .slice y3 d.vd.sets.length k3, .slice y4 d.vd.soa.length k4] d.vd ∧ IRow K (.slice y5 d.agree.length k5) d.agree ∧ IRow K (.slice y6 d.dissent.length k6) d.dissent
theorem kV : uL zN := by
 rintro L L' cs d hL ⟨y1, k1, y2, k2, y3, k3, y4, k4, y5, k5, y6, k6, h, h1, h2, h3, h4, h5⟩
 exact ⟨y1, k1, y2, k2, y3, k3, y4, k4, y5, k5, y6, k6, h, h1.mono hL, h2.mono hL, jY _ _ _ _ hL h3, h4.mono hL, h5.mono hL⟩
structure AWell (a : As) : Prop where
 ok : AOk a
 q : QOk a.q
 ends : ∀ x ∈ Aq.votes a, EndOk a.q x.vd
section
variable {G : World} {L : ja} {ρ : jB} {ty : TypeId}
theorem Jn {P : Program} {x : Operand} {t : TypeId} {v : Value} (hx : ev ρ x = some (.iface t v)) : OpQ P ρ L (.nilCheck x) ty (.iface t v) :=
 ⟨fun r hr w hw o ho _ => by simp [execOp, ho, hr _ _ hx]⟩
theorem adE (w : World) : (method (Tryz.prog.types.size + Made.depth) 152 (.agg #[]) "hustings/ask.decided").run Tryz.prog w = .ok (187, .agg #[]) w := by kernel_rfl
theorem adF (n : Int) (w : World) : (method (Tryz.prog.types.size + Made.depth) 154 (.agg #[.int .i64 n]) "hustings/ask.decided").run Tryz.prog w = .ok (208, .agg #[.int .i64 n]) w := by kernel_rfl
theorem adG (w : World) : (method (Tryz.prog.types.size + Made.depth) 155 (.agg #[]) "hustings/ask.decided").run Tryz.prog w = .ok (211, .agg #[]) w := by kernel_rfl
theorem adH (w : World) : (method (Tryz.prog.types.size + Made.depth) 152 (.agg #[]) "hustings/ask.hope").run Tryz.prog w = .ok (188, .agg #[]) w := by kernel_rfl
theorem adI (n : Int) (w : World) : (method (Tryz.prog.types.size + Made.depth) 154 (.agg #[.int .i64 n]) "hustings/ask.hope").run Tryz.prog w = .ok (209, .agg #[.int .i64 n]) w := by kernel_rfl
theorem adJ (w : World) : (method (Tryz.prog.types.size + Made.depth) 155 (.agg #[]) "hustings/ask.hope").run Tryz.prog w = .ok (212, .agg #[]) w := by kernel_rfl
theorem QX {a : As} {bb : Nat} {X : ja} {recv x y : Operand} {ats : Array TypeId} (hx : ev ρ recv = some (.iface (YK a.pol) (Ui a.pol a.want))) (hq : ev ρ x = some (.agg (kt a.q))) (hy : ev ρ y = some (.pointer (some ⟨bb, 0, none⟩)))
 (hA : AWell a) (hb : PBox bb a.want a.l X) (hX : ∀ p ∈ X, p ∈ L) : OpT Tryz.prog G ρ L (.call ⟨.invoke recv "hustings/ask.decided", #[x, y], ats⟩) ty (DecOut L (Aq.decided a)) := by
 have ha : kK ρ [x, y] = some [.agg (kt a.q), .pointer (some ⟨bb, 0, none⟩)] := by simp [kK, hq, hy]
 rcases hA.ok.pol with h | h | ⟨h, hw⟩
 · rw [h] at hx
   exact ug (xs := [x, y]) je hx ha adE (aad a _ _ _ rfl hb hX hA.ok.want.1 h)
 · rw [h] at hx
   exact ug (xs := [x, y]) je hx ha (adF a.want) (abY a hb hX hA.ok.want.1 h hA.q hA.ends)
 · rw [h] at hx
   exact ug (xs := [x, y]) je hx ha adG (YJ a _ _ _ hb hX hw h)
def zq (pol : Int) (vs : List Vote) : Int := if pol = 1 then uE vs else (vs.length : Int)
theorem adK {pol want : Int} {l : List Ballot} {bb : Nat} {X : ja} {recv x y : Operand} {ats : Array TypeId} {n : Int} (hn : 0 ≤ n ∧ n ≤ 1000) (hx : ev ρ recv = some (.iface (YK pol) (Ui pol want))) (hq : ev ρ x = some (.int .i64 n)) (hy : ev ρ y = some (.pointer (some ⟨bb, 0, none⟩)))
 (hA : pol = 1 ∨ pol = 2 ∨ pol = 3) (hb : PBox bb want l X) (hX : ∀ p ∈ X, p ∈ L) : OpT Tryz.prog G ρ L (.call ⟨.invoke recv "hustings/ask.hope", #[x, y], ats⟩) ty fun u M => u = .int .i64 (n + zq pol (Vd.votesB l)) ∧ M = L := by
 have ha : kK ρ [x, y] = some [.int .i64 n, .pointer (some ⟨bb, 0, none⟩)] := by simp [kK, hq, hy]
 rcases hA with rfl | rfl | rfl
 · exact ug (xs := [x, y]) je hx ha adH (aae n hn hb hX)
 · exact ug (xs := [x, y]) je hx ha (adI want) (abV n hn _ hb hX)
 · exact ug (xs := [x, y]) je hx ha adJ (YH n hn hb hX)
end
theorem AOk.more {a : As} (h : AOk a) : AOk { a with p := (Hg.more a.p a.now).1 } :=
 ⟨h.good.more _, h.fr.more _, by rw [WV]; exact h.begins, by
   show (Hg.more a.p a.now).1.made = true
   unfold Hg.more
   split
   · exact h.made
   · dsimp only
     split <;> exact h.made, h.want, h.pol, h.now, h.ded, h.name, h.box⟩
theorem AWell.more {a : As} (h : AWell a) : AWell { a with p := (Hg.more a.p a.now).1 } := ⟨h.ok.more, h.q, h.ends⟩
def yn (p : Pl) : Nat := p.list.length - p.asked
theorem abZ {p : Pl} {t : Int} (h : (Hg.more p t).2.2 = true) : yn (Hg.more p t).1 < yn p := by
 unfold Hg.more at h ⊢
 split at h
 · cases h
 · rename_i hb
   rw [if_neg hb]
   dsimp only at h ⊢
   split at h
   · cases h
   · rename_i hl
     rw [if_neg hl]
     simp only [Hg.advance] at hl
     simp only [yn, Hg.next, Hg.advance, List.length_modify]
     omega
theorem ab0 {p : Pl} (h : Good p) : 0 ≤ Hg.opens p ∧ Hg.opens p ≤ 9 := by
 have h1 := h.len
 have h2 := List.length_filter_le (fun x : En => x.op) p.list
 unfold Hg.opens
 omega
end Go.Proofs.YtbjkkoacclfejaaGreat
namespace Go.Proofs.YtbjkkoacclfejaaGreat
open Go.RowKit
open Hg (En Pl)
open Vd (RSet Vdt Vote Rec Quest Piece Ballot)
variable {G : World} {L : ja}
def dd (s g : List Int) : Dd := ⟨s, g, false, false, Vdt.none, 0, [], []⟩
def kG (vs vg : Value) : Array Value := #[vs, vg, .bool false, .bool false, .int .u8 0, .slice none 0 0, .slice none 0 0, .int .u32 0, .slice none 0 0, .slice none 0 0]
def ahN (vs vg : Value) (o : Bool) : Array Value := #[vs, vg, .bool o, .bool false, .int .u8 0, .slice none 0 0, .slice none 0 0, .int .u32 0, .slice none 0 0, .slice none 0 0]
theorem yo {ap bp bb bd : Nat} {a : As} {s g : List Int} {Mp X Bs Ng : ja} {ys yg : Option Addr} {ks kg : Nat} (hp : IsPlan bp a.p Mp) (hb : PBox bb a.want a.l X) (hA : AWell a) (ho : a.over = false) (hs9 : s.length ≤ 100)
 (hR : Row 3 1 (.slice ys s.length ks) s.length (qM s) Bs) (hg : IRow Ng (.slice yg g.length kg) g) (hN : ∀ p ∈ Ng, p ∈ L) :
 Spec Tryz.prog G 43 #[.pointer (some ⟨ap, 0, none⟩), .pointer (some ⟨bd, 0, none⟩)] ((ap, .cells (jk a bp bb) 102 (0, 0)) :: (bd, .cells (kG (.slice ys s.length ks) (.slice yg g.length kg)) 43 (0, 0)) :: (Mp ++ (X ++ (Bs ++ L)))) fun u M =>
  ∃ cs Mp' N, IsPlan bp (Aq.look a (dd s g)).1.p Mp' ∧ zN (N ++ Ng) cs (Aq.look a (dd s g)).2 ∧ M = (ap, .cells (jk (Aq.look a (dd s g)).1 bp bb) 102 (0, 0)) :: (bd, .cells cs.toArray 43 (0, 0)) :: (Mp' ++ (X ++ (N ++ L))) := by
 have hAw := hA.ok.want
 have hAn := hA.ok.now
 have hKm : ∀ z ∈ [(ap, Obj.cells (jk a bp bb) 102 (0, 0))], z ∈ ((ap, Obj.cells (jk a bp bb) 102 (0, 0)) :: (bd, Obj.cells (kG (.slice ys s.length ks) (.slice yg g.length kg)) 43 (0, 0)) :: (Mp ++ (X ++ (Bs ++ L)))) := fun z hz => by rw [List.mem_singleton.1 hz]; exact List.mem_cons_self ..
 have hK : ∀ z ∈ [(ap, Obj.cells (jk a bp bb) 102 (0, 0))], z ∈ ((ap, Obj.cells (jk a bp bb) 102 (0, 0)) :: (bd, Obj.cells (kG (.slice ys s.length ks) (.slice yg g.length kg)) 43 (0, 0)) :: (Mp ++ (X ++ (Bs ++ L)))) := hKm
 have q3 : ∀ j v, ([.string (bs a.q.name), .int .u16 a.q.kind, .int .u16 a.q.cls] : List Value)[j]? = some v → (jk a bp bb)[0 + 0 + j]? = some v := fun j v hj => by
  match j, hj with
  | 0, hj => exact hj
  | 1, hj => exact hj
  | 2, hj => exact hj
 have e0 : (jk a bp bb)[0 + 0]? = some (.string (bs a.q.name)) := rfl
 have e1 : (jk a bp bb)[0 + 1]? = some (.int .u16 a.q.kind) := rfl
 have e2 : (jk a bp bb)[0 + 2]? = some (.int .u16 a.q.cls) := rfl
 have e3 : (jk a bp bb)[0 + 3]? = some (.iface (YK a.pol) (Ui a.pol a.want)) := rfl
 have e4 : (jk a bp bb)[0 + 4]? = some (.int .i64 a.want) := rfl
 have e5 : (jk a bp bb)[0 + 5]? = some (.pointer (some ⟨bp, 0, none⟩)) := rfl
 have e6 : (jk a bp bb)[0 + 6]? = some (.pointer (some ⟨bb, 0, none⟩)) := rfl
 have e7 : (jk a bp bb)[0 + 7]? = some (.int .i64 a.ded) := rfl
 have e8 : (jk a bp bb)[0 + 8]? = some (.int .i64 a.now) := rfl
 have e9 : (jk a bp bb)[0 + 9]? = some (.bool a.over) := rfl
 refine jl (n := 107) Tryz.func43 rfl rfl rfl ?_
 refine j7 ?_
 skip
 refine j7 ?_
 skip
 refine JG (σ := Nat × Vdt × Int × List Int × List Int × List Value × ja) (fun y => ahc y.2.2.2.2.2.2 y.2.2.2.2.2.1 y.2.1 y.2.2.1 y.2.2.2.1 y.2.2.2.2.1 ∧ ∀ x, Aq.decided a = some x → x = (y.2.1, y.2.2.1, y.2.2.2.1, y.2.2.2.2.1)) (fun y => [(0, .pointer (some ⟨ap, 0, none⟩)), (1, .pointer (some ⟨bd, 0, none⟩)), (4, .pointer (some ⟨y.1, 0, none⟩)), (5, .bool (Aq.decided a).isSome)])
  (fun y => (y.1, Obj.cells y.2.2.2.2.2.1.toArray 167 (0, 0)) :: (y.2.2.2.2.2.2 ++ ((ap, Obj.cells (jk a bp bb) 102 (0, 0)) :: (bd, Obj.cells (kG (.slice ys s.length ks) (.slice yg g.length kg)) 43 (0, 0)) :: (Mp ++ (X ++ (Bs ++ L)))))) ?_ ?_
 · skip
   refine jw jc ([(ap, Obj.cells (jk a bp bb) 102 (0, 0))]) [] ?_
   refine tkQ 0 ?_
   refine tkQ 1 ?_
   refine tkQ 2 ?_
   (refine' ju 3 rfl rfl je (jF (Y1 rfl aee ?_ ?_)) ?_ ?_; rotate_left 4; (· repeat (exact List.mem_cons_self)); (· assumption); (· assumption))
   refine tkQ 4 ?_
   refine tkQ 5 ?_
   refine tkQ 6 ?_
   (refine' ju 7 rfl rfl je (jF (jA [.string (bs a.q.name), .int .u16 a.q.kind, .int .u16 a.q.cls] rfl stL (List.mem_singleton.2 rfl) q3)) ?_ ?_; (· assumption))
   refine tkQ 8 ?_
   refine tkQ 9 ?_
   refine tkQ 10 ?_
   refine tkQ 11 ?_
   (refine' ju 12 rfl rfl je (jF (Jn rfl)) ?_ ?_; (· assumption))
   refine tkQ 13 ?_
   refine Vg 14 18 je ?_ ?_
   · refine yR rfl rfl rfl rfl (QX rfl rfl rfl hA hb jn) ?_
     rintro _ _ ⟨v, t, ag, di, _, N, rfl, ⟨y1, k1, y2, k2, y3, k3, y4, k4, rfl, hv1, hv2, hv3⟩, hdec, rfl⟩
     refine ⟨Or.inr (by exact (fun z hz => j9 ji z (hKm z hz))), ?_⟩
     refine tkQ 15 ?_
     refine tkQ 16 ?_
     refine tkQ 17 ?_
     refine jD 18 je rfl rfl rfl rfl (kh (C := #[.int .u8 0, .slice none 0 0, .slice none 0 0, .int .u32 0, .slice none 0 0, .slice none 0 0]) zeO rfl) ?_
     rintro _ _ ⟨b4, rfl, rfl⟩
     refine ⟨Or.inr (by exact (fun z hz => j9 ji z (hKm z hz))), ?_⟩
     refine kk (L' := (b4, Obj.cells #[.int .u8 0, .slice none 0 0, .slice none 0 0, .int .u32 0, .slice none 0 0, .slice none 0 0] 167 (0, 0)) :: (N ++ ((ap, Obj.cells (jk a bp bb) 102 (0, 0)) :: (bd, Obj.cells (kG (.slice ys s.length ks) (.slice yg g.length kg)) 43 (0, 0)) :: (Mp ++ (X ++ (Bs ++ L)))))) ?_ ji
     refine jU 19 je rfl rfl rfl (uX rfl rfl stO rfl rfl rfl) ?_
     rintro _ _ ⟨_, rfl⟩
     refine ⟨Or.inr (by exact (fun z hz => j9 ji z (hKm z hz))), ?_⟩
     refine tkQ 20 ?_
     refine tdQ ?_
     refine kS (b4, v, t, ag, di, [_, _, _, _, _, _], N) ⟨⟨y1, k1, y2, k2, y3, k3, y4, k4, rfl, hv1, hv2, hv3⟩, hdec⟩ ?_ (fun w h => h)
     exact js
   · refine yR rfl rfl rfl rfl (kh (C := #[.int .u8 0, .slice none 0 0, .slice none 0 0, .int .u32 0, .slice none 0 0, .slice none 0 0]) zeO rfl) ?_
     rintro _ _ ⟨b4, rfl, rfl⟩
     refine ⟨Or.inr (by exact (fun z hz => j9 ji z (hKm z hz))), ?_⟩
     refine jD 14 je rfl rfl rfl rfl (QX rfl rfl rfl hA hb jn) ?_
     rintro _ _ ⟨v, t, ag, di, _, N, rfl, ⟨y1, k1, y2, k2, y3, k3, y4, k4, rfl, hv1, hv2, hv3⟩, hdec, rfl⟩
     refine ⟨Or.inr (by exact (fun z hz => j9 ji z (hKm z hz))), ?_⟩
     refine tkQ 15 ?_
     refine tkQ 16 ?_
     refine tkQ 17 ?_
     refine kk (L' := (b4, Obj.cells #[.int .u8 0, .slice none 0 0, .slice none 0 0, .int .u32 0, .slice none 0 0, .slice none 0 0] 167 (0, 0)) :: (N ++ ((ap, Obj.cells (jk a bp bb) 102 (0, 0)) :: (bd, Obj.cells (kG (.slice ys s.length ks) (.slice yg g.length kg)) 43 (0, 0)) :: (Mp ++ (X ++ (Bs ++ L)))))) ?_ ji
     refine jU 19 je rfl rfl rfl (uX rfl rfl stO rfl rfl rfl) ?_
     rintro _ _ ⟨_, rfl⟩
     refine ⟨Or.inr (by exact (fun z hz => j9 ji z (hKm z hz))), ?_⟩
     refine tkQ 20 ?_
     refine tdQ ?_
     refine kS (b4, v, t, ag, di, [_, _, _, _, _, _], N) ⟨⟨y1, k1, y2, k2, y3, k3, y4, k4, rfl, hv1, hv2, hv3⟩, hdec⟩ ?_ (fun w h => h)
     exact js
 rintro ⟨b4, v, t, ag, di, cs, N⟩ ⟨⟨y1, k1, y2, k2, y3, k3, y4, k4, h1, hv1, hv2, hv3⟩, hdec⟩
 dsimp only at h1 hv1 hv2 hv3 hdec ⊢
 subst h1
 obtain ⟨C4, hC4⟩ : ∃ C : Array Value, C = ([.int .u8 v.code, .slice y1 v.sets.length k1, .slice y2 v.soa.length k2, .int .u32 t, .slice y3 ag.length k3, .slice y4 di.length k4] : List Value).toArray := ⟨_, rfl⟩
 rw [← hC4]
 cases hdc : Aq.decided a with
 | some x =>
   obtain rfl := hdec x hdc
   have hl : Aq.look a (dd s g) = ({ a with over := true }, { dd s g with over := true, done := true, vd := v, time := t, agree := ag, dissent := di }) := by unfold Aq.look; rw [hdc]
   rw [hl]
   have z0 : C4[0 + 0 + 0]? = some (.int .u8 v.code) := by rw [hC4]; rfl
   have z3 : C4[0 + 3]? = some (.int .u32 t) := by rw [hC4]; rfl
   have z4 : C4[0 + 4]? = some (.slice y3 ag.length k3) := by rw [hC4]; rfl
   have z5 : C4[0 + 5]? = some (.slice y4 di.length k4) := by rw [hC4]; rfl
   have hver : ∀ j w, ([.int .u8 v.code, .slice y1 v.sets.length k1, .slice y2 v.soa.length k2] : List Value)[j]? = some w → C4[0 + 0 + j]? = some w := fun j w hj => by
    rw [hC4]
    match j, hj with
    | 0, hj => exact hj
    | 1, hj => exact hj
    | 2, hj => exact hj
   refine Y7 (L' := (ap, Obj.cells (jk a bp bb) 102 (0, 0)) :: (bd, Obj.cells (kG (.slice ys s.length ks) (.slice yg g.length kg)) 43 (0, 0)) :: (b4, Obj.cells C4 167 (0, 0)) :: (N ++ (Mp ++ (X ++ (Bs ++ L))))) ?_ ji
   refine goB ?_
   obtain ⟨A1, hA1⟩ : ∃ A : Array Value, A = (jk a bp bb).setIfInBounds (0 + 9) (.bool true) := ⟨_, rfl⟩
   obtain ⟨D1, hD1⟩ : ∃ D : Array Value, D = ((kG (.slice ys s.length ks) (.slice yg g.length kg)).setIfInBounds (0 + 2) (.bool true)).setIfInBounds (0 + 3) (.bool true) := ⟨_, rfl⟩
   rw [← hA1, ← hD1]
   obtain ⟨D2, hD2⟩ : ∃ D : Array Value, D = qN D1 (0 + 4) [.int .u8 v.code, .slice y1 v.sets.length k1, .slice y2 v.soa.length k2] := ⟨_, rfl⟩
   have w7 : D2[0 + 7]? = some (.int .u32 0) := by rw [hD2, hD1]; rfl
   obtain ⟨D3, hD3⟩ : ∃ D : Array Value, D = D2.setIfInBounds (0 + 7) (.int .u32 t) := ⟨_, rfl⟩
   have w8 : D3[0 + 8]? = some (.slice none 0 0) := by rw [hD3, hD2, hD1]; rfl
   obtain ⟨D4, hD4⟩ : ∃ D : Array Value, D = D3.setIfInBounds (0 + 8) (.slice y3 ag.length k3) := ⟨_, rfl⟩
   have w9 : D4[0 + 9]? = some (.slice none 0 0) := by rw [hD4, hD3, hD2, hD1]; rfl
   obtain ⟨D5, hD5⟩ : ∃ D : Array Value, D = D4.setIfInBounds (0 + 9) (.slice y4 di.length k4) := ⟨_, rfl⟩
   have hK4 : ∀ z ∈ [(b4, Obj.cells C4 167 (0, 0))], z ∈ (ap, Obj.cells A1 102 (0, 0)) :: (bd, Obj.cells D1 43 (0, 0)) :: (b4, Obj.cells C4 167 (0, 0)) :: (N ++ (Mp ++ (X ++ (Bs ++ L)))) := fun z hz => by rw [List.mem_singleton.1 hz]; simp
   have hK5 : ∀ D, ∀ z ∈ [(b4, Obj.cells C4 167 (0, 0))], z ∈ (bd, Obj.cells D 43 (0, 0)) :: (ap, Obj.cells A1 102 (0, 0)) :: (b4, Obj.cells C4 167 (0, 0)) :: (N ++ (Mp ++ (X ++ (Bs ++ L)))) := fun D z hz => by rw [List.mem_singleton.1 hz]; simp
   have hK6 := hK5 D2
   have hK7 := hK5 D3
   have hK8 := hK5 D4
   refine jw jc ([(b4, Obj.cells C4 167 (0, 0))]) [] ?_
   refine tkQ 0 ?_
   refine tkQ 1 ?_
   refine tkQ 2 ?_
   (refine' ju 3 rfl rfl je (jF (jA [.int .u8 v.code, .slice y1 v.sets.length k1, .slice y2 v.soa.length k2] rfl stL (List.mem_singleton.2 rfl) hver)) ?_ ?_; (· assumption))
   refine tkQ 4 ?_
   refine tkQ 5 ?_
   refine tkQ 6 ?_
   refine tkQ 7 ?_
   refine kk (L' := (bd, Obj.cells D1 43 (0, 0)) :: (ap, Obj.cells A1 102 (0, 0)) :: (b4, Obj.cells C4 167 (0, 0)) :: (N ++ (Mp ++ (X ++ (Bs ++ L))))) ?_ ji; refine jU 8 je rfl rfl rfl (zE (cs := [.int .u8 v.code, .slice y1 v.sets.length k1, .slice y2 v.soa.length k2]) rfl rfl stL (by intro w hw; simp only [List.mem_cons, List.not_mem_nil, or_false] at hw; rcases hw with rfl | rfl | rfl <;> rfl) (by rw [hD1]; show 7 ≤ 10; decide)) ?_; rintro _ _ ⟨_, rfl⟩; rw [← hD2]; refine ⟨Or.inr (fun z hz => by rw [List.mem_singleton.1 hz]; simp), ?_⟩
   refine tkQ 9 ?_
   refine tkQ 10 ?_
   refine jU 11 je rfl rfl rfl (zA rfl rfl onO rfl w7 rfl) ?_; rintro _ _ ⟨_, rfl⟩; rw [← hD3]; refine ⟨Or.inr (fun z hz => by rw [List.mem_singleton.1 hz]; simp), ?_⟩
   refine tdQ ?_
   refine goB ?_
   refine jw jc ([(b4, Obj.cells C4 167 (0, 0))]) [] ?_
   refine tkQ 0 ?_
   refine tkQ 1 ?_
   refine tkQ 2 ?_
   refine tkQ 3 ?_
   refine tkQ 4 ?_
   refine tkQ 5 ?_
   refine tkQ 6 ?_
   refine tkQ 7 ?_
   refine jU 8 je rfl rfl rfl (zA rfl rfl onO rfl w8 rfl) ?_; rintro _ _ ⟨_, rfl⟩; rw [← hD4]; refine ⟨Or.inr (fun z hz => by rw [List.mem_singleton.1 hz]; simp), ?_⟩
   refine tkQ 9 ?_
   refine tkQ 10 ?_
   refine jU 11 je rfl rfl rfl (zA rfl rfl onO rfl w9 rfl) ?_; rintro _ _ ⟨_, rfl⟩; rw [← hD5]; refine ⟨Or.inr (fun z hz => by rw [List.mem_singleton.1 hz]; simp), ?_⟩
   refine tdQ ?_
   refine goB ?_
   refine jG (L' := (ap, Obj.cells A1 102 (0, 0)) :: (bd, Obj.cells D5 43 (0, 0)) :: (Mp ++ (X ++ ((N ++ Bs) ++ L)))) ?_ ji
   refine zj rfl ?_
   refine ⟨[.slice ys s.length ks, .slice yg g.length kg, .bool true, .bool true, .int .u8 v.code, .slice y1 v.sets.length k1, .slice y2 v.soa.length k2, .int .u32 t, .slice y3 ag.length k3, .slice y4 di.length k4], Mp, N ++ Bs, hp, ⟨ys, ks, yg, kg, y1, k1, y2, k2, y3, k3, y4, k4, rfl, hR.irow (by simp +contextual), hg.mono (by simp +contextual), jY _ _ _ _ (by simp +contextual) hv1, hv2.mono (by simp +contextual), hv3.mono (by simp +contextual)⟩, ?_⟩
   have f1 : A1 = jk { a with over := true } bp bb := by rw [hA1]; rfl
   have f2 : D5 = ([.slice ys s.length ks, .slice yg g.length kg, .bool true, .bool true, .int .u8 v.code, .slice y1 v.sets.length k1, .slice y2 v.soa.length k2, .int .u32 t, .slice y3 ag.length k3, .slice y4 di.length k4] : List Value).toArray := by rw [hD5, hD4, hD3, hD2, hD1]; rfl
   rw [f1, f2]
 | none =>
   have hlk : Aq.look a (dd s g) = Aq.lookL (a.p.list.length + 1) a (dd s g) := by unfold Aq.look; rw [hdc]
   refine goB ?_
   refine jz (σ := Pl × List Int × Option Addr × Nat × ja × ja) (fun x => IsPlan bp x.1 x.2.2.2.2.1 ∧ AWell { a with p := x.1 } ∧ x.2.1.length + yn x.1 ≤ 200 ∧ Row 3 1 (.slice x.2.2.1 x.2.1.length x.2.2.2.1) x.2.1.length (qM x.2.1) x.2.2.2.2.2 ∧ ∃ n, yn x.1 ≤ n ∧ Aq.lookL (n + 1) { a with p := x.1 } (dd x.2.1 g) = Aq.look a (dd s g))
    (fun x => [(0, .pointer (some ⟨ap, 0, none⟩)), (1, .pointer (some ⟨bd, 0, none⟩))]) (fun x => (ap, Obj.cells (jk a bp bb) 102 (0, 0)) :: (bd, Obj.cells (kG (.slice x.2.2.1 x.2.1.length x.2.2.2.1) (.slice yg g.length kg)) 43 (0, 0)) :: (x.2.2.2.2.1 ++ (X ++ (x.2.2.2.2.2 ++ L)))) (fun x => yn x.1) (a.p, s, ys, ks, Mp, Bs) ⟨hp, hA, ?_, hR, a.p.list.length, Nat.sub_le _ _, hlk.symm⟩ ?_ (fun w h => h.cnt ji) ?_
   · have := hA.ok.good.len
     have : yn a.p ≤ a.p.list.length := Nat.sub_le _ _
     dsimp only
     omega
   exact js
   rintro ⟨p, s', y, k, Mq, Bq⟩ ⟨hp', hA', hsl, hR', n, hn, hlook⟩
   dsimp only at hp' hA' hsl hR' hn hlook ⊢
   rw [← hlook]
   have hop : 0 ≤ Hg.opens p ∧ Hg.opens p ≤ 9 := ab0 hA'.ok.good
   have hpl : a.pol = 1 ∨ a.pol = 2 ∨ a.pol = 3 := hA.ok.pol.imp id (Or.imp id And.left)
   have hh : Aq.hope { a with p := p } = Hg.opens p + zq a.pol (Vd.votesB a.l) := rfl
   have hK2 : ∀ z ∈ [(ap, Obj.cells (jk a bp bb) 102 (0, 0))], z ∈ (ap, Obj.cells (jk a bp bb) 102 (0, 0)) :: (bd, Obj.cells (kG (.slice y s'.length k) (.slice yg g.length kg)) 43 (0, 0)) :: (Mq ++ (X ++ (Bq ++ L))) := fun z hz => by rw [List.mem_singleton.1 hz]; exact List.mem_cons_self ..
   have hop9 : 0 ≤ Hg.opens p ∧ Hg.opens p ≤ 1000 := ⟨hop.1, by omega⟩
   have hvl := kn a.l
   have hl9 := hb.1.ok.len
   have hbh : 0 ≤ zq a.pol (Vd.votesB a.l) ∧ zq a.pol (Vd.votesB a.l) ≤ 9 := by
    unfold zq
    split
    · exact ⟨Jf _, mostR_le.2 ⟨by decide, fun x hx => by have := List.length_filter_le (fun y : Vote => decide (y.vd = x.vd)) (Vd.votesB a.l); unfold jH; omega⟩⟩
    · omega
   repeat (with_reducible refine j7 ?_)
   refine jw jc ([(ap, Obj.cells (jk a bp bb) 102 (0, 0))]) [] ?_
   refine tkQ 0 ?_
   refine tkQ 1 ?_
   refine tkQ 2 ?_
   (refine' ju 3 rfl rfl je (jF (Y1 rfl aee ?_ ?_)) ?_ ?_; rotate_left 4; (· repeat (exact List.mem_cons_self)); (· assumption); (· assumption))
   refine tkQ 4 ?_
   refine tkQ 5 ?_
   refine tkQ 6 ?_
   refine tkQ 7 ?_
   refine tkQ 9 ?_
   refine tkQ 10 ?_
   refine tkQ 11 ?_
   refine tkQ 12 ?_
   (refine' ju 13 rfl rfl je (jF (Jn rfl)) ?_ ?_; (· assumption))
   refine tkQ 14 ?_
   refine tkQ 16 ?_
   refine tkQ 17 ?_
   refine tkQ 18 ?_
   refine tkQ 19 ?_
   refine kk (L' := Mq ++ ((ap, Obj.cells (jk a bp bb) 102 (0, 0)) :: (bd, Obj.cells (kG (.slice y s'.length k) (.slice yg g.length kg)) 43 (0, 0)) :: (X ++ (Bq ++ L)))) ?_ ji; refine jD 8 je rfl rfl rfl rfl (jb je rfl (aeM hp')) ?_; rintro _ _ ⟨rfl, rfl⟩; refine ⟨Or.inr (fun z hz => by rw [List.mem_singleton.1 hz]; simp), ?_⟩
   refine jD 15 je rfl rfl rfl rfl (adK hop9 rfl rfl rfl hpl hb jn) ?_; rintro _ _ ⟨rfl, rfl⟩; refine ⟨Or.inr (fun z hz => by rw [List.mem_singleton.1 hz]; simp), ?_⟩
   refine tkQ 20 ?_
   refine tdQ ?_
   by_cases hw : a.want ≤ Aq.hope { a with p := p }
   · have e : Aq.lookL (n + 1) { a with p := p } (dd s' g) = ({ a with p := p }, dd s' g) := by unfold Aq.lookL; rw [if_pos hw]
     rw [e]
     rw [hh] at hw
     refine goB ?_
     refine jG (L' := (ap, Obj.cells (jk a bp bb) 102 (0, 0)) :: (bd, Obj.cells (kG (.slice y s'.length k) (.slice yg g.length kg)) 43 (0, 0)) :: (Mq ++ (X ++ (Bq ++ L)))) ?_ ji
     refine zj rfl ?_
     exact ⟨[.slice y s'.length k, .slice yg g.length kg, .bool false, .bool false, .int .u8 0, .slice none 0 0, .slice none 0 0, .int .u32 0, .slice none 0 0, .slice none 0 0], Mq, Bq, hp', ⟨y, k, yg, kg, none, 0, none, 0, none, 0, none, 0, rfl, hR'.irow (by simp +contextual), hg.mono (by simp +contextual), ⟨_, _, rfl, sliceR.nil, sliceR.nil, Int.le_refl 0, show (0 : Int) ≤ 255 by decide⟩, jK, jK⟩, rfl⟩
   · have e : Aq.lookL (n + 1) { a with p := p } (dd s' g) = if (Hg.more p a.now).2.2 then Aq.lookL n { a with p := (Hg.more p a.now).1 } (dd (s' ++ [(Hg.more p a.now).2.1]) g) else ({ a with p := (Hg.more p a.now).1, over := true }, { dd s' g with over := true }) := by rw [Aq.lookL, if_neg hw]; rfl
     rw [hh] at hw
     rw [e]
     have hlt : ¬ a.want ≤ Hg.opens p + zq a.pol (Vd.votesB a.l) := hw
     have hK3 : ∀ z ∈ [(ap, Obj.cells (jk a bp bb) 102 (0, 0))], z ∈ Mq ++ ((ap, Obj.cells (jk a bp bb) 102 (0, 0)) :: (bd, Obj.cells (kG (.slice y s'.length k) (.slice yg g.length kg)) 43 (0, 0)) :: (X ++ (Bq ++ L))) := fun z hz => by rw [List.mem_singleton.1 hz]; simp
     refine goB ?_
     refine jw jc ([(ap, Obj.cells (jk a bp bb) 102 (0, 0))]) [] ?_
     refine tkQ 0 ?_
     refine tkQ 1 ?_
     refine tkQ 2 ?_
     refine tkQ 3 ?_
     refine tkQ 4 ?_
     refine tkQ 5 ?_
     refine tkQ 6 ?_
     refine tkQ 7 ?_
     refine jD 8 je rfl rfl rfl rfl (jb je rfl (aeL hp' a.now)) ?_; rintro _ _ ⟨rfl, M3, hp3, rfl⟩; refine ⟨Or.inr (fun z hz => by rw [List.mem_singleton.1 hz]; simp), ?_⟩
     refine tkQ 9 ?_
     refine tkQ 10 ?_
     refine tkQ 11 ?_
     refine tkQ 12 ?_
     refine tkQ 13 ?_
     refine tdQ ?_
     obtain ⟨r, hr⟩ : ∃ r, r = Hg.more p a.now := ⟨_, rfl⟩
     have hA2 : AWell { a with p := r.1 } := by rw [hr]; exact hA'.more
     have hlf : r.2.2 = true → yn r.1 < yn p := by rw [hr]; exact abZ
     rw [← hr] at hp3 ⊢
     cases hm : r.2.2 with
     | false =>
       rw [if_neg (by simp)]
       refine jG (L' := (ap, Obj.cells (jk a bp bb) 102 (0, 0)) :: (bd, Obj.cells (kG (.slice y s'.length k) (.slice yg g.length kg)) 43 (0, 0)) :: (M3 ++ (X ++ (Bq ++ L)))) ?_ ji
       refine goB ?_
       refine zj rfl ?_
       exact ⟨[.slice y s'.length k, .slice yg g.length kg, .bool true, .bool false, .int .u8 0, .slice none 0 0, .slice none 0 0, .int .u32 0, .slice none 0 0, .slice none 0 0], M3, Bq, hp3, ⟨y, k, yg, kg, none, 0, none, 0, none, 0, none, 0, rfl, hR'.irow (by simp +contextual), hg.mono (by simp +contextual), ⟨_, _, rfl, sliceR.nil, sliceR.nil, Int.le_refl 0, show (0 : Int) ≤ 255 by decide⟩, jK, jK⟩, rfl⟩
     | true =>
       rw [if_pos rfl]
       have hlf2 := hlf hm
       repeat (first | refine goB ?_ | (refine qh ?_; intro bLit))
       refine qv (L' := (bLit, Obj.cells #[.int .i64 r.2.1] 3 (0, 0)) :: (M3 ++ ((ap, Obj.cells (jk a bp bb) 102 (0, 0)) :: (bd, Obj.cells (kG (.slice y s'.length k) (.slice yg g.length kg)) 43 (0, 0)) :: (X ++ (Bq ++ L))))) (fun w h => h) ?_
       refine jE (L' := (bLit, Obj.cells #[.int .i64 r.2.1] 3 (0, 0)) :: (Bq ++ ((bd, Obj.cells (kG (.slice y s'.length k) (.slice yg g.length kg)) 43 (0, 0)) :: (ap, Obj.cells (jk a bp bb) 102 (0, 0)) :: (M3 ++ (X ++ L))))) ?_ ji
       refine u7 etO rfl rfl hR' rfl (by unfold maxLen; omega) jd rfl ?_
       intro v4 B4 hR4
       obtain ⟨a4, c4, rfl⟩ := hR4.slice
       have k4 : s'.length + 1 = (s' ++ [r.2.1]).length := by simp
       have k5 : qM s' ++ [Value.int .i64 r.2.1] = qM (s' ++ [r.2.1]) := by simp [qM]
       rw [k4, k5] at hR4
       rw [k4]
       refine jE (L' := (bd, Obj.cells (kG (.slice y s'.length k) (.slice yg g.length kg)) 43 (0, 0)) :: (ap, Obj.cells (jk a bp bb) 102 (0, 0)) :: (M3 ++ (X ++ (B4 ++ L)))) ?_ ji
       refine goB ?_
       obtain ⟨n2, rfl⟩ : ∃ n2, n = n2 + 1 := ⟨n - 1, by omega⟩
       refine jg (r.1, s' ++ [r.2.1], a4, c4, M3, B4) ⟨hp3, hA2, ?_, hR4, n2, ?_, rfl⟩ ?_ (fun w h => Heap.cnt (show Heap G w ((bd, Obj.cells (kG (.slice a4 (s' ++ [r.2.1]).length c4) (.slice yg g.length kg)) 43 (0, 0)) :: (ap, Obj.cells (jk a bp bb) 102 (0, 0)) :: (M3 ++ (X ++ (B4 ++ L)))) from h) ji) hlf2
       · dsimp only
         rw [List.length_append, List.length_singleton]
         omega
       · dsimp only; omega
       exact js
end Go.Proofs.YtbjkkoacclfejaaGreat
namespace Go.Proofs.YtbjkkoacclfejaaGreat
open Go.RowKit
open Hg (En Pl)
open Vd (RSet Vdt Vote Rec Quest Piece Ballot)
variable {G : World} {L : ja}
def yp (ap : Nat) (a : As) (X : ja) : Prop := ∃ bp bb Mp Mb, IsPlan bp a.p Mp ∧ PBox bb a.want a.l Mb ∧ X = (ap, .cells (jk a bp bb) 102 (0, 0)) :: (Mp ++ Mb)
theorem adL {a : As} (h : 0 ≤ a.now ∧ a.now ≤ Hg.top) (t : Int) : 0 ≤ (Aq.upto a t).now ∧ (Aq.upto a t).now ≤ Hg.top := by
 unfold Aq.upto
 dsimp only
 omega
theorem aaf (p : Pl) (t : Int) : (Hg.tick p t).1.made = p.made := by
 unfold Hg.tick
 split
 · rfl
 · simp only [Hg.hedged]
   split
   · split <;> rfl
   · rfl
theorem AOk.close {a : As} (h : AOk a) (u : Int) : AOk { a with p := (Hg.close a.p u).1 } := ⟨h.good.close u, h.fr.close u, h.begins, h.made, h.want, h.pol, h.now, h.ded, h.name, h.box⟩
theorem AOk.upto {a : As} (h : AOk a) (t : Int) : AOk (Aq.upto a t) := ⟨h.good, h.fr, h.begins, h.made, h.want, h.pol, adL h.now t, h.ded, h.name, h.box⟩
theorem AOk.tick {a : As} (h : AOk a) (t : Int) : AOk { a with p := (Hg.tick a.p t).1 } := ⟨h.good.tick t, h.fr.tick t, by rw [WU]; exact h.begins, by rw [aaf]; exact h.made, h.want, h.pol, h.now, h.ded, h.name, h.box⟩
theorem AOk.put {a : As} (h : AOk a) (x : Ballot) : AOk { a with l := (Vd.putB a.l x).1 } := ⟨h.good, h.fr, h.begins, h.made, h.want, h.pol, h.now, h.ded, h.name, h.box.put x⟩
theorem AOk.over {a : As} (h : AOk a) (b : Bool) : AOk { a with over := b } := ⟨h.good, h.fr, h.begins, h.made, h.want, h.pol, h.now, h.ded, h.name, h.box⟩
theorem YL {l : List Ballot} {x : Ballot} {y : Vote} (h : y ∈ Vd.votesB (Vd.putB l x).1) : y ∈ Vd.votesB l ∨ (x.pass = false ∧ y = x.v) := by
 unfold Vd.putB at h
 split at h
 · exact Or.inl h
 split at h
 · exact Or.inl h
 · rw [qo] at h
   split at h
   · exact Or.inl h
   · rename_i hp
     rcases List.mem_append.1 h with h | h
     · exact Or.inl h
     · exact Or.inr ⟨by simpa using hp, List.mem_singleton.1 h⟩
theorem AWell.put {a : As} (h : AWell a) (x : Ballot) (hx : x.pass = false → EndOk a.q x.v.vd) : AWell { a with l := (Vd.putB a.l x).1 } :=
 ⟨h.ok.put x, h.q, fun y hy => by
   rcases YL (show y ∈ Vd.votesB (Vd.putB a.l x).1 from hy) with hy | ⟨hp, rfl⟩
   · exact h.ends y hy
   · exact hx hp⟩
theorem AWell.of {a b : As} (h : AWell a) (hk : AOk b) (hq : b.q = a.q) (hl : b.l = a.l) : AWell b := ⟨hk, by rw [hq]; exact h.q, fun x hx => by unfold Aq.votes at hx; rw [hl] at hx; rw [hq]; exact h.ends x hx⟩
theorem KH : ∀ (n : Nat) (a : As) (d : Dd), AOk a → AOk (Aq.lookL n a d).1 ∧ (Aq.lookL n a d).1.q = a.q ∧ (Aq.lookL n a d).1.l = a.l ∧ (Aq.lookL n a d).1.pol = a.pol ∧ (Aq.lookL n a d).1.want = a.want ∧ (Aq.lookL n a d).1.ded = a.ded ∧ (Aq.lookL n a d).1.now = a.now
 | 0, a, d, h => ⟨h, rfl, rfl, rfl, rfl, rfl, rfl⟩
 | n + 1, a, d, h => by
   unfold Aq.lookL
   split
   · exact ⟨h, rfl, rfl, rfl, rfl, rfl, rfl⟩
   · split
     · exact KH n _ _ h.more
     · exact ⟨(h.more).over true, rfl, rfl, rfl, rfl, rfl, rfl⟩
theorem jW {a : As} {d : Dd} (h : AOk a) : AOk (Aq.look a d).1 ∧ (Aq.look a d).1.q = a.q ∧ (Aq.look a d).1.l = a.l ∧ (Aq.look a d).1.pol = a.pol ∧ (Aq.look a d).1.want = a.want ∧ (Aq.look a d).1.ded = a.ded ∧ (Aq.look a d).1.now = a.now := by
 unfold Aq.look
 split
 · exact ⟨h.over true, rfl, rfl, rfl, rfl, rfl, rfl⟩
 · exact KH _ _ _ h
theorem AWell.look {a : As} {d : Dd} (h : AWell a) : AWell (Aq.look a d).1 := h.of (jW h.ok).1 (jW h.ok).2.1 (jW h.ok).2.2.1
theorem AWell.vote {a : As} (h : AWell a) {u : Int} {v : Vdt} {t now : Int} (hv : a.over = false → (Hg.close a.p u).2 = true → EndOk a.q v) : AWell (Aq.vote a u v t now).1 := by
 unfold Aq.vote
 split
 · exact h
 · rename_i ho
   split
   · rename_i hc
     exact AWell.look (AWell.put (a := Aq.upto { a with p := (Hg.close a.p u).1 } now) (h.of ((h.ok.close u).upto now) rfl rfl) ⟨⟨u, v, t⟩, false⟩ (fun _ => hv (by simpa using ho) hc))
   · exact h.of (h.ok.close u) rfl rfl
theorem AWell.pass {a : As} (h : AWell a) {u now : Int} : AWell (Aq.pass a u now).1 := by
 unfold Aq.pass
 split
 · exact h
 · split
   · exact AWell.look (AWell.put (a := Aq.upto { a with p := (Hg.close a.p u).1 } now) (h.of ((h.ok.close u).upto now) rfl rfl) ⟨⟨u, Vdt.none, 0⟩, true⟩ (fun h => by cases h))
   · exact h.of (h.ok.close u) rfl rfl
theorem AWell.tick {a : As} (h : AWell a) {now : Int} : AWell (Aq.tick a now).1 := by
 unfold Aq.tick
 split
 · exact h
 · split
   · exact h.of ((h.ok.upto now).over true) rfl rfl
   · exact AWell.look (a := { (Aq.upto a now) with p := (Hg.tick a.p (Aq.upto a now).now).1 }) (h.of ((h.ok.upto now).tick _) rfl rfl)
theorem K3 (ap bp bb : Nat) (a : As) (hm : (ap, Obj.cells (jk a bp bb) 102 (0, 0)) ∈ L) : Spec Tryz.prog G 45 #[.pointer (some ⟨ap, 0, none⟩)] L fun u M => u = .bool a.over ∧ M = L := by
 have e3 : (jk a bp bb)[0 + 5]? = some (.pointer (some ⟨bp, 0, none⟩)) := rfl
 have e7 : (jk a bp bb)[0 + 9]? = some (.bool a.over) := rfl
 have g1 : Option.isNone (some (⟨ap, 0, none⟩ : Addr)) = false := rfl
 have g2 : Option.isNone (some (⟨bp, 0, none⟩ : Addr)) = false := rfl
 refine jl (n := 18) Tryz.func45 rfl rfl rfl ?_
 refine goB ?_
 refine jf 2 _ rfl rfl ?_
 exact ⟨rfl, rfl⟩
theorem JN (ap bp bb : Nat) (a : As) (now : Int) (hn : 0 ≤ a.now ∧ a.now ≤ Hg.top) : Spec Tryz.prog G 46 #[.pointer (some ⟨ap, 0, none⟩), .int .i64 now] ((ap, .cells (jk a bp bb) 102 (0, 0)) :: L) fun u M => M = (ap, .cells (jk (Aq.upto a now) bp bb) 102 (0, 0)) :: L := by
 unfold jk
 refine jl (n := 14) Tryz.func46 rfl rfl rfl ?_
 refine goB ?_
 refine zj rfl ?_
 rfl
theorem uu {K : ja} : zN K [.slice none 0 0, .slice none 0 0, .bool false, .bool false, .int .u8 0, .slice none 0 0, .slice none 0 0, .int .u32 0, .slice none 0 0, .slice none 0 0] Dd.none :=
 ⟨none, 0, none, 0, none, 0, none, 0, none, 0, none, 0, rfl, jK, jK, ⟨_, _, rfl, sliceR.nil, sliceR.nil, by decide⟩, jK, jK⟩
theorem ue {K : ja} {cs : List Value} {d : Dd} (h : zN K cs d) : Jx cs.toArray = true ∧ cs.length = 10 := by
 obtain ⟨y1, k1, y2, k2, y3, k3, y4, k4, y5, k5, y6, k6, rfl, _⟩ := h
 exact ⟨rfl, rfl⟩
def VH (X : ja → Prop) (L : ja) (d : Dd) (u : Value) (M : ja) : Prop := ∃ cs X' N, u = .agg cs.toArray ∧ zN N cs d ∧ X X' ∧ M = X' ++ (N ++ L)
theorem K4 {ap : Nat} {a : As} {X : ja} (h : yp ap a X) (hA : AWell a) (u : Int) (v : Vdt) (t now : Int) (cv : List Value) (hv : vdR L cv v) (hsv : SmV v) (hev : a.over = false → (Hg.close a.p u).2 = true → EndOk a.q v) (ht : 0 ≤ t ∧ t ≤ 4294967295) (hu : -9223372036854775808 ≤ u ∧ u ≤ 9223372036854775807) :
 Spec Tryz.prog G 17 #[.pointer (some ⟨ap, 0, none⟩), .int .i64 u, .agg cv.toArray, .int .u32 t, .int .i64 now] (X ++ L) (VH (yp ap (Aq.vote a u v t now).1) L (Aq.vote a u v t now).2) := by
 obtain ⟨bp, bb, Mp, Mb, hp, hb, rfl⟩ := h
 have hn := hA.ok.now
 obtain ⟨vv1, vv2, rfl, hvs1, hvs2, hvc⟩ := id hv
 rw [List.cons_append]
 refine jl (n := 39) Tryz.func17 rfl rfl rfl ?_
 repeat (first | refine goB ?_ | (refine jQ ?_; intro bNew) | (refine kD ?_; intro bBox))
 obtain ⟨b5, hb5⟩ : ∃ b, bNew = b := ⟨_, rfl⟩
 rw [hb5]
 clear hb5
 rename_i b10
 refine jN (jb je rfl (K3 ap bp bb a (by simp))) rfl ?_
 cases ho : a.over with
 | true =>
   have hm : Aq.vote a u v t now = (a, Dd.none) := by unfold Aq.vote; rw [if_pos ho]
   rw [hm]
   refine goB ?_
   refine jE (L' := (b10, Obj.cells #[.slice none 0 0, .slice none 0 0, .bool false, .bool false, .int .u8 0, .slice none 0 0, .slice none 0 0, .int .u32 0, .slice none 0 0, .slice none 0 0] 43 (0, 0)) :: (b5, Obj.cells #[.slice none 0 0, .slice none 0 0, .bool false, .bool false, .int .u8 0, .slice none 0 0, .slice none 0 0, .int .u32 0, .slice none 0 0, .slice none 0 0] 43 (0, 0)) :: (((ap, Obj.cells (jk a bp bb) 102 (0, 0)) :: (Mp ++ Mb)) ++ ([] ++ L))) ?_ ji
   refine goB ?_
   refine kO 10 43  rfl rfl  stO (by repeat (exact List.mem_cons_self)) rfl (L' := (((ap, Obj.cells (jk a bp bb) 102 (0, 0)) :: (Mp ++ Mb)) ++ ([] ++ L))) (fun w h => h.cnt ji) ?_
   exact ⟨_, _, [], rfl, uu, ⟨bp, bb, Mp, Mb, hp, hb, rfl⟩, rfl⟩
 | false =>
   have hcl := Zn (G := G) (L := (b5, Obj.cells #[.slice none 0 0, .slice none 0 0, .bool false, .bool false, .int .u8 0, .slice none 0 0, .slice none 0 0, .int .u32 0, .slice none 0 0, .slice none 0 0] 43 (0, 0)) :: (b10, Obj.cells #[.slice none 0 0, .slice none 0 0, .bool false, .bool false, .int .u8 0, .slice none 0 0, .slice none 0 0, .int .u32 0, .slice none 0 0, .slice none 0 0] 43 (0, 0)) :: (bBox, Obj.cells #[.int .u8 v.code, vv1, vv2] 40 (0, 0)) :: (ap, Obj.cells (jk a bp bb) 102 (0, 0)) :: (Mb ++ L)) hp u
   refine goB ?_
   refine uo (OpT.heap (L' := Mp ++ ((b5, Obj.cells #[.slice none 0 0, .slice none 0 0, .bool false, .bool false, .int .u8 0, .slice none 0 0, .slice none 0 0, .int .u32 0, .slice none 0 0, .slice none 0 0] 43 (0, 0)) :: (b10, Obj.cells #[.slice none 0 0, .slice none 0 0, .bool false, .bool false, .int .u8 0, .slice none 0 0, .slice none 0 0, .int .u32 0, .slice none 0 0, .slice none 0 0] 43 (0, 0)) :: (bBox, Obj.cells #[.int .u8 v.code, vv1, vv2] 40 (0, 0)) :: (ap, Obj.cells (jk a bp bb) 102 (0, 0)) :: (Mb ++ L))) (fun w h => h.cnt ji) (jb je rfl hcl)) rfl ?_
   rintro _ _ ⟨rfl, M2, hp2, rfl⟩
   cases hc : (Hg.close a.p u).2 with
   | false =>
     have hm : Aq.vote a u v t now = ({ a with p := (Hg.close a.p u).1 }, Dd.none) := by unfold Aq.vote; rw [if_neg (by rw [ho]; decide), hc]; rfl
     rw [hm]
     refine goB ?_
     refine jE (L' := (b10, Obj.cells #[.slice none 0 0, .slice none 0 0, .bool false, .bool false, .int .u8 0, .slice none 0 0, .slice none 0 0, .int .u32 0, .slice none 0 0, .slice none 0 0] 43 (0, 0)) :: (b5, Obj.cells #[.slice none 0 0, .slice none 0 0, .bool false, .bool false, .int .u8 0, .slice none 0 0, .slice none 0 0, .int .u32 0, .slice none 0 0, .slice none 0 0] 43 (0, 0)) :: (((ap, Obj.cells (jk a bp bb) 102 (0, 0)) :: (M2 ++ Mb)) ++ ([] ++ L))) ?_ ji
     refine goB ?_
     refine kO 10 43  rfl rfl  stO (by repeat (exact List.mem_cons_self)) rfl (L' := (((ap, Obj.cells (jk a bp bb) 102 (0, 0)) :: (M2 ++ Mb)) ++ ([] ++ L))) (fun w h => h.cnt ji) ?_
     exact ⟨_, _, [], rfl, uu, ⟨bp, bb, M2, Mb, hp2, hb, rfl⟩, rfl⟩
   | true =>
     obtain ⟨a2, ha2⟩ : ∃ z, z = { (Aq.upto { a with p := (Hg.close a.p u).1 } now) with l := (Vd.putB a.l ⟨⟨u, v, t⟩, false⟩).1 } := ⟨_, rfl⟩
     have hm : Aq.vote a u v t now = Aq.look a2 (dd [] []) := by unfold Aq.vote; rw [if_neg (by rw [ho]; decide), hc, if_pos rfl, ha2]; rfl
     have hw2 : AWell a2 := by rw [ha2]; exact AWell.put (a := Aq.upto { a with p := (Hg.close a.p u).1 } now) (hA.of ((hA.ok.close u).upto now) rfl rfl) ⟨⟨u, v, t⟩, false⟩ (fun _ => hev ho hc)
     rw [hm]
     refine goB ?_
     refine jE (L' := (ap, Obj.cells (jk a bp bb) 102 (0, 0)) :: (M2 ++ (Mb ++ ((b5, Obj.cells #[.slice none 0 0, .slice none 0 0, .bool false, .bool false, .int .u8 0, .slice none 0 0, .slice none 0 0, .int .u32 0, .slice none 0 0, .slice none 0 0] 43 (0, 0)) :: (b10, Obj.cells #[.slice none 0 0, .slice none 0 0, .bool false, .bool false, .int .u8 0, .slice none 0 0, .slice none 0 0, .int .u32 0, .slice none 0 0, .slice none 0 0] 43 (0, 0)) :: (bBox, Obj.cells #[.int .u8 v.code, vv1, vv2] 40 (0, 0)) :: L)))) ?_ ji
     refine jx (jb je rfl (JN ap bp bb a now hn)) rfl ?_
     rintro _ _ rfl
     have he2 : jk (Aq.upto a now) bp bb = jk a2 bp bb := by rw [ha2]; rfl
     rw [he2]
     have hK : ∀ z ∈ [(ap, Obj.cells (jk a2 bp bb) 102 (0, 0)), (bBox, Obj.cells #[.int .u8 v.code, vv1, vv2] 40 (0, 0))], z ∈ (ap, Obj.cells (jk a2 bp bb) 102 (0, 0)) :: (M2 ++ (Mb ++ ((b5, Obj.cells #[.slice none 0 0, .slice none 0 0, .bool false, .bool false, .int .u8 0, .slice none 0 0, .slice none 0 0, .int .u32 0, .slice none 0 0, .slice none 0 0] 43 (0, 0)) :: (b10, Obj.cells #[.slice none 0 0, .slice none 0 0, .bool false, .bool false, .int .u8 0, .slice none 0 0, .slice none 0 0, .int .u32 0, .slice none 0 0, .slice none 0 0] 43 (0, 0)) :: (bBox, Obj.cells #[.int .u8 v.code, vv1, vv2] 40 (0, 0)) :: L))) := fun z hz => by simp only [List.mem_cons, List.not_mem_nil, or_false] at hz; rcases hz with rfl | rfl <;> simp
     have hvote : voteR ((ap, Obj.cells (jk a2 bp bb) 102 (0, 0)) :: (bBox, Obj.cells #[.int .u8 v.code, vv1, vv2] 40 (0, 0)) :: (M2 ++ ((b5, Obj.cells #[.slice none 0 0, .slice none 0 0, .bool false, .bool false, .int .u8 0, .slice none 0 0, .slice none 0 0, .int .u32 0, .slice none 0 0, .slice none 0 0] 43 (0, 0)) :: (b10, Obj.cells #[.slice none 0 0, .slice none 0 0, .bool false, .bool false, .int .u8 0, .slice none 0 0, .slice none 0 0, .int .u32 0, .slice none 0 0, .slice none 0 0] 43 (0, 0)) :: L))) [.int .i64 u, .int .u8 v.code, vv1, vv2, .int .u32 t] ⟨u, v, t⟩ := ⟨vv1, vv2, rfl, jq jv _ _ _ _ (by simp +contextual) hvs1, jq jv _ _ _ _ (by simp +contextual) hvs2, hvc, ht, hu⟩
     have e6 : (jk a2 bp bb)[0 + 6]? = some (.pointer (some ⟨bb, 0, none⟩)) := rfl
     refine goB ?_
     refine jw jc ([(ap, Obj.cells (jk a2 bp bb) 102 (0, 0)), (bBox, Obj.cells #[.int .u8 v.code, vv1, vv2] 40 (0, 0))]) [] ?_
     refine tkQ 0 ?_
     refine tkQ 1 ?_
     refine tkQ 2 ?_
     refine tkQ 3 ?_
     refine tkQ 4 ?_
     refine tkQ 5 ?_
     refine tkQ 6 ?_
     (refine' ju 7 rfl rfl je (jF (jm rfl (qR _ _ _ _ _))) ?_ ?_; (· assumption))
     refine kk (L' := Mb ++ ((ap, Obj.cells (jk a2 bp bb) 102 (0, 0)) :: (bBox, Obj.cells #[.int .u8 v.code, vv1, vv2] 40 (0, 0)) :: (M2 ++ ((b5, Obj.cells #[.slice none 0 0, .slice none 0 0, .bool false, .bool false, .int .u8 0, .slice none 0 0, .slice none 0 0, .int .u32 0, .slice none 0 0, .slice none 0 0] 43 (0, 0)) :: (b10, Obj.cells #[.slice none 0 0, .slice none 0 0, .bool false, .bool false, .int .u8 0, .slice none 0 0, .slice none 0 0, .int .u32 0, .slice none 0 0, .slice none 0 0] 43 (0, 0)) :: L)))) ?_ ji; refine jD 8 je rfl rfl rfl rfl (jb je rfl (adt hb hvote hsv)) ?_; rintro _ _ ⟨rfl, Mc, hb2, rfl⟩; refine ⟨Or.inr (fun z hz => by simp only [List.mem_cons, List.not_mem_nil, or_false] at hz; rcases hz with rfl | rfl <;> simp), ?_⟩
     refine tdQ ?_
     have hb3 : PBox bb a2.want a2.l Mc := by rw [ha2]; exact hb2
     have hp3 : IsPlan bp a2.p M2 := by rw [ha2]; exact hp2
     have ho2 : a2.over = false := by rw [ha2]; exact ho
     have hev2 := yo (G := G) (L := (b10, Obj.cells #[.slice none 0 0, .slice none 0 0, .bool false, .bool false, .int .u8 0, .slice none 0 0, .slice none 0 0, .int .u32 0, .slice none 0 0, .slice none 0 0] 43 (0, 0)) :: (bBox, Obj.cells #[.int .u8 v.code, vv1, vv2] 40 (0, 0)) :: L) (ap := ap) (bd := b5) (g := []) (s := []) (Bs := []) (Ng := []) (ys := none) (yg := none) (ks := 0) (kg := 0) hp3 hb3 hw2 ho2 (by simp) (Row.nil _ _) jK (by simp)
     refine goB ?_
     refine jE (L' := (ap, Obj.cells (jk a2 bp bb) 102 (0, 0)) :: (b5, Obj.cells #[.slice none 0 0, .slice none 0 0, .bool false, .bool false, .int .u8 0, .slice none 0 0, .slice none 0 0, .int .u32 0, .slice none 0 0, .slice none 0 0] 43 (0, 0)) :: (M2 ++ (Mc ++ ([] ++ ((b10, Obj.cells #[.slice none 0 0, .slice none 0 0, .bool false, .bool false, .int .u8 0, .slice none 0 0, .slice none 0 0, .int .u32 0, .slice none 0 0, .slice none 0 0] 43 (0, 0)) :: (bBox, Obj.cells #[.int .u8 v.code, vv1, vv2] 40 (0, 0)) :: L))))) ?_ ji
     refine jx (jb je rfl hev2) rfl ?_
     rintro _ _ ⟨cs, M4, N, hp4, hd, rfl⟩
     obtain ⟨r, hr⟩ : ∃ r, r = Aq.look a2 (dd [] []) := ⟨_, rfl⟩
     have hk := jW (d := dd [] []) hw2.ok
     rw [← hr] at hp4 hd hk ⊢
     have hb5 : PBox bb r.1.want r.1.l Mc := by rw [hk.2.2.1, hk.2.2.2.2.1]; exact hb3
     have hd' := hd
     obtain ⟨d1, d2, d3, d4, d5, d6, d7, d8, d9, d10, d11, d12, rfl, _⟩ := hd'
     refine jE (L' := (b10, Obj.cells #[.slice none 0 0, .slice none 0 0, .bool false, .bool false, .int .u8 0, .slice none 0 0, .slice none 0 0, .int .u32 0, .slice none 0 0, .slice none 0 0] 43 (0, 0)) :: (b5, Obj.cells ([.slice d1 r.2.sends.length d2, .slice d3 r.2.gone.length d4, .bool r.2.over, .bool r.2.done, .int .u8 r.2.vd.code, .slice d5 r.2.vd.sets.length d6, .slice d7 r.2.vd.soa.length d8, .int .u32 r.2.time, .slice d9 r.2.agree.length d10, .slice d11 r.2.dissent.length d12] : List Value).toArray 43 (0, 0)) :: (((ap, Obj.cells (jk r.1 bp bb) 102 (0, 0)) :: (M4 ++ Mc)) ++ (N ++ L))) ?_ ji
     refine goB ?_
     refine kO 10 43  rfl rfl  stO (by repeat (exact List.mem_cons_self)) rfl (L' := (((ap, Obj.cells (jk r.1 bp bb) 102 (0, 0)) :: (M4 ++ Mc)) ++ (N ++ L))) (fun w h => h.cnt ji) ?_
     exact ⟨_, _, N, rfl, by simpa using hd, ⟨bp, bb, M4, Mc, hp4, hb5, rfl⟩, rfl⟩
theorem Zs {ap : Nat} {a : As} {X : ja} (h : yp ap a X) (hA : AWell a) (u now : Int) :
 Spec Tryz.prog G 15 #[.pointer (some ⟨ap, 0, none⟩), .int .i64 u, .int .i64 now] (X ++ L) (VH (yp ap (Aq.pass a u now).1) L (Aq.pass a u now).2) := by
 obtain ⟨bp, bb, Mp, Mb, hp, hb, rfl⟩ := h
 have hn := hA.ok.now
 rw [List.cons_append]
 refine jl (n := 32) Tryz.func15 rfl rfl rfl ?_
 repeat (first | refine goB ?_ | (refine jQ ?_; intro bNew))
 obtain ⟨b5, hb5⟩ : ∃ b, bNew = b := ⟨_, rfl⟩
 rw [hb5]
 clear hb5
 rename_i b10
 refine jN (jb je rfl (K3 ap bp bb a (by simp))) rfl ?_
 cases ho : a.over with
 | true =>
   have hm : Aq.pass a u now = (a, Dd.none) := by unfold Aq.pass; rw [if_pos ho]
   rw [hm]
   refine goB ?_
   refine jE (L' := (b10, Obj.cells #[.slice none 0 0, .slice none 0 0, .bool false, .bool false, .int .u8 0, .slice none 0 0, .slice none 0 0, .int .u32 0, .slice none 0 0, .slice none 0 0] 43 (0, 0)) :: (b5, Obj.cells #[.slice none 0 0, .slice none 0 0, .bool false, .bool false, .int .u8 0, .slice none 0 0, .slice none 0 0, .int .u32 0, .slice none 0 0, .slice none 0 0] 43 (0, 0)) :: (((ap, Obj.cells (jk a bp bb) 102 (0, 0)) :: (Mp ++ Mb)) ++ ([] ++ L))) ?_ ji
   refine goB ?_
   refine kO 6 43  rfl rfl  stO (by repeat (exact List.mem_cons_self)) rfl (L' := (((ap, Obj.cells (jk a bp bb) 102 (0, 0)) :: (Mp ++ Mb)) ++ ([] ++ L))) (fun w h => h.cnt ji) ?_
   exact ⟨_, _, [], rfl, uu, ⟨bp, bb, Mp, Mb, hp, hb, rfl⟩, rfl⟩
 | false =>
   have hcl := Zn (G := G) (L := (b5, Obj.cells #[.slice none 0 0, .slice none 0 0, .bool false, .bool false, .int .u8 0, .slice none 0 0, .slice none 0 0, .int .u32 0, .slice none 0 0, .slice none 0 0] 43 (0, 0)) :: (b10, Obj.cells #[.slice none 0 0, .slice none 0 0, .bool false, .bool false, .int .u8 0, .slice none 0 0, .slice none 0 0, .int .u32 0, .slice none 0 0, .slice none 0 0] 43 (0, 0)) :: (ap, Obj.cells (jk a bp bb) 102 (0, 0)) :: (Mb ++ L)) hp u
   refine goB ?_
   refine uo (OpT.heap (L' := Mp ++ ((b5, Obj.cells #[.slice none 0 0, .slice none 0 0, .bool false, .bool false, .int .u8 0, .slice none 0 0, .slice none 0 0, .int .u32 0, .slice none 0 0, .slice none 0 0] 43 (0, 0)) :: (b10, Obj.cells #[.slice none 0 0, .slice none 0 0, .bool false, .bool false, .int .u8 0, .slice none 0 0, .slice none 0 0, .int .u32 0, .slice none 0 0, .slice none 0 0] 43 (0, 0)) :: (ap, Obj.cells (jk a bp bb) 102 (0, 0)) :: (Mb ++ L))) (fun w h => h.cnt ji) (jb je rfl hcl)) rfl ?_
   rintro _ _ ⟨rfl, M2, hp2, rfl⟩
   cases hc : (Hg.close a.p u).2 with
   | false =>
     have hm : Aq.pass a u now = ({ a with p := (Hg.close a.p u).1 }, Dd.none) := by unfold Aq.pass; rw [if_neg (by rw [ho]; decide), hc]; rfl
     rw [hm]
     refine goB ?_
     refine jE (L' := (b10, Obj.cells #[.slice none 0 0, .slice none 0 0, .bool false, .bool false, .int .u8 0, .slice none 0 0, .slice none 0 0, .int .u32 0, .slice none 0 0, .slice none 0 0] 43 (0, 0)) :: (b5, Obj.cells #[.slice none 0 0, .slice none 0 0, .bool false, .bool false, .int .u8 0, .slice none 0 0, .slice none 0 0, .int .u32 0, .slice none 0 0, .slice none 0 0] 43 (0, 0)) :: (((ap, Obj.cells (jk a bp bb) 102 (0, 0)) :: (M2 ++ Mb)) ++ ([] ++ L))) ?_ ji
     refine goB ?_
     refine kO 6 43  rfl rfl  stO (by repeat (exact List.mem_cons_self)) rfl (L' := (((ap, Obj.cells (jk a bp bb) 102 (0, 0)) :: (M2 ++ Mb)) ++ ([] ++ L))) (fun w h => h.cnt ji) ?_
     exact ⟨_, _, [], rfl, uu, ⟨bp, bb, M2, Mb, hp2, hb, rfl⟩, rfl⟩
   | true =>
     obtain ⟨a2, ha2⟩ : ∃ z, z = { (Aq.upto { a with p := (Hg.close a.p u).1 } now) with l := (Vd.putB a.l ⟨⟨u, Vdt.none, 0⟩, true⟩).1 } := ⟨_, rfl⟩
     have hm : Aq.pass a u now = Aq.look a2 (dd [] []) := by unfold Aq.pass; rw [if_neg (by rw [ho]; decide), hc, if_pos rfl, ha2]; rfl
     have hw2 : AWell a2 := by rw [ha2]; exact AWell.put (a := Aq.upto { a with p := (Hg.close a.p u).1 } now) (hA.of ((hA.ok.close u).upto now) rfl rfl) ⟨⟨u, Vdt.none, 0⟩, true⟩ (fun h => by cases h)
     rw [hm]
     refine goB ?_
     refine jE (L' := (ap, Obj.cells (jk a bp bb) 102 (0, 0)) :: (M2 ++ (Mb ++ ((b5, Obj.cells #[.slice none 0 0, .slice none 0 0, .bool false, .bool false, .int .u8 0, .slice none 0 0, .slice none 0 0, .int .u32 0, .slice none 0 0, .slice none 0 0] 43 (0, 0)) :: (b10, Obj.cells #[.slice none 0 0, .slice none 0 0, .bool false, .bool false, .int .u8 0, .slice none 0 0, .slice none 0 0, .int .u32 0, .slice none 0 0, .slice none 0 0] 43 (0, 0)) :: L)))) ?_ ji
     refine jx (jb je rfl (JN ap bp bb a now hn)) rfl ?_
     rintro _ _ rfl
     have he2 : jk (Aq.upto a now) bp bb = jk a2 bp bb := by rw [ha2]; rfl
     rw [he2]
     have e6 : (jk a2 bp bb)[0 + 6]? = some (.pointer (some ⟨bb, 0, none⟩)) := rfl
     refine goB ?_
     refine jE (L' := Mb ++ ((ap, Obj.cells (jk a2 bp bb) 102 (0, 0)) :: (M2 ++ ((b5, Obj.cells #[.slice none 0 0, .slice none 0 0, .bool false, .bool false, .int .u8 0, .slice none 0 0, .slice none 0 0, .int .u32 0, .slice none 0 0, .slice none 0 0] 43 (0, 0)) :: (b10, Obj.cells #[.slice none 0 0, .slice none 0 0, .bool false, .bool false, .int .u8 0, .slice none 0 0, .slice none 0 0, .int .u32 0, .slice none 0 0, .slice none 0 0] 43 (0, 0)) :: L)))) ?_ ji
     refine jx (jb je rfl (adu u hb)) rfl ?_
     rintro _ _ ⟨rfl, Mc, hb2, rfl⟩
     have hb3 : PBox bb a2.want a2.l Mc := by rw [ha2]; exact hb2
     have hp3 : IsPlan bp a2.p M2 := by rw [ha2]; exact hp2
     have ho2 : a2.over = false := by rw [ha2]; exact ho
     have hev2 := yo (G := G) (L := (b10, Obj.cells #[.slice none 0 0, .slice none 0 0, .bool false, .bool false, .int .u8 0, .slice none 0 0, .slice none 0 0, .int .u32 0, .slice none 0 0, .slice none 0 0] 43 (0, 0)) :: L) (ap := ap) (bd := b5) (g := []) (s := []) (Bs := []) (Ng := []) (ys := none) (yg := none) (ks := 0) (kg := 0) hp3 hb3 hw2 ho2 (by simp) (Row.nil _ _) jK (by simp)
     refine goB ?_
     refine jE (L' := (ap, Obj.cells (jk a2 bp bb) 102 (0, 0)) :: (b5, Obj.cells #[.slice none 0 0, .slice none 0 0, .bool false, .bool false, .int .u8 0, .slice none 0 0, .slice none 0 0, .int .u32 0, .slice none 0 0, .slice none 0 0] 43 (0, 0)) :: (M2 ++ (Mc ++ ([] ++ ((b10, Obj.cells #[.slice none 0 0, .slice none 0 0, .bool false, .bool false, .int .u8 0, .slice none 0 0, .slice none 0 0, .int .u32 0, .slice none 0 0, .slice none 0 0] 43 (0, 0)) :: L))))) ?_ ji
     refine jx (jb je rfl hev2) rfl ?_
     rintro _ _ ⟨cs, M4, N, hp4, hd, rfl⟩
     obtain ⟨r, hr⟩ : ∃ r, r = Aq.look a2 (dd [] []) := ⟨_, rfl⟩
     have hk := jW (d := dd [] []) hw2.ok
     rw [← hr] at hp4 hd hk ⊢
     have hb5 : PBox bb r.1.want r.1.l Mc := by rw [hk.2.2.1, hk.2.2.2.2.1]; exact hb3
     have hd' := hd
     obtain ⟨d1, d2, d3, d4, d5, d6, d7, d8, d9, d10, d11, d12, rfl, _⟩ := hd'
     refine jE (L' := (b10, Obj.cells #[.slice none 0 0, .slice none 0 0, .bool false, .bool false, .int .u8 0, .slice none 0 0, .slice none 0 0, .int .u32 0, .slice none 0 0, .slice none 0 0] 43 (0, 0)) :: (b5, Obj.cells ([.slice d1 r.2.sends.length d2, .slice d3 r.2.gone.length d4, .bool r.2.over, .bool r.2.done, .int .u8 r.2.vd.code, .slice d5 r.2.vd.sets.length d6, .slice d7 r.2.vd.soa.length d8, .int .u32 r.2.time, .slice d9 r.2.agree.length d10, .slice d11 r.2.dissent.length d12] : List Value).toArray 43 (0, 0)) :: (((ap, Obj.cells (jk r.1 bp bb) 102 (0, 0)) :: (M4 ++ Mc)) ++ (N ++ L))) ?_ ji
     refine goB ?_
     refine kO 6 43  rfl rfl  stO (by repeat (exact List.mem_cons_self)) rfl (L' := (((ap, Obj.cells (jk r.1 bp bb) 102 (0, 0)) :: (M4 ++ Mc)) ++ (N ++ L))) (fun w h => h.cnt ji) ?_
     exact ⟨_, _, N, rfl, by simpa using hd, ⟨bp, bb, M4, Mc, hp4, hb5, rfl⟩, rfl⟩
end Go.Proofs.YtbjkkoacclfejaaGreat
namespace Go.Proofs.YtbjkkoacclfejaaGreat
open Go.RowKit
open Hg (En Pl)
open Vd (RSet Vdt Vote Rec Quest Piece Ballot)
variable {G : World} {L : ja}
theorem WX {p : Pl} (h : Good p) (t : Int) : (Hg.tick p t).2.2.length ≤ 100 := by
 have h9 := h.len
 unfold Hg.tick
 split
 · simp
 · have f2 := zn (Hg.sendE (Hg.advance p t).now (Hg.advance p t).wait (Hg.advance p t).tries) (Hg.advance p t).list (fun x => by unfold Hg.sendE; split <;> simp) p.list.length
   rw [List.take_of_length_le (by simp [Hg.advance])] at f2
   have f3 : (Hg.hedged (Hg.examine (Hg.advance p t))).2.length ≤ 1 := by
    unfold Hg.hedged
    dsimp only
    split
    · split <;> simp
    · simp
   dsimp only
   rw [List.length_append]
   omega
theorem adM {ap : Nat} {a : As} {X : ja} (h : yp ap a X) (hA : AWell a) (now : Int) :
 Spec Tryz.prog G 14 #[.pointer (some ⟨ap, 0, none⟩), .int .i64 now] (X ++ L) (VH (yp ap (Aq.tick a now).1) L (Aq.tick a now).2) := by
 obtain ⟨bp, bb, Mp, Mb, hp, hb, rfl⟩ := h
 have hn := hA.ok.now
 have htop : Hg.top = 1099511627776 := rfl
 rw [List.cons_append]
 refine jl (n := 43) Tryz.func14 rfl rfl rfl ?_
 repeat (first | refine goB ?_ | (refine jQ ?_; intro bNew))
 obtain ⟨b5, hb5⟩ : ∃ b, bNew = b := ⟨_, rfl⟩
 rw [hb5]
 clear hb5
 rename_i b10
 refine jN (jb je rfl (K3 ap bp bb a (by simp))) rfl ?_
 cases ho : a.over with
 | true =>
   have hm : Aq.tick a now = (a, Dd.none) := by unfold Aq.tick; rw [if_pos ho]
   rw [hm]
   refine goB ?_
   refine jE (L' := (b10, Obj.cells #[.slice none 0 0, .slice none 0 0, .bool false, .bool false, .int .u8 0, .slice none 0 0, .slice none 0 0, .int .u32 0, .slice none 0 0, .slice none 0 0] 43 (0, 0)) :: (b5, Obj.cells #[.slice none 0 0, .slice none 0 0, .bool false, .bool false, .int .u8 0, .slice none 0 0, .slice none 0 0, .int .u32 0, .slice none 0 0, .slice none 0 0] 43 (0, 0)) :: (((ap, Obj.cells (jk a bp bb) 102 (0, 0)) :: (Mp ++ Mb)) ++ ([] ++ L))) ?_ ji
   refine goB ?_
   refine kO 4 43  rfl rfl  stO (by repeat (exact List.mem_cons_self)) rfl (L' := (((ap, Obj.cells (jk a bp bb) 102 (0, 0)) :: (Mp ++ Mb)) ++ ([] ++ L))) (fun w h => h.cnt ji) ?_
   exact ⟨_, _, [], rfl, uu, ⟨bp, bb, Mp, Mb, hp, hb, rfl⟩, rfl⟩
 | false =>
   obtain ⟨a1, ha1⟩ : ∃ z, z = Aq.upto a now := ⟨_, rfl⟩
   have hw1 : AWell a1 := by rw [ha1]; exact hA.of (hA.ok.upto now) rfl rfl
   have hp1 : IsPlan bp a1.p Mp := by rw [ha1]; exact hp
   have hb1 : PBox bb a1.want a1.l Mb := by rw [ha1]; exact hb
   have ho1 : a1.over = false := by rw [ha1]; exact ho
   have hn1 := hw1.ok.now
   have had : a1.ded = a.ded := by rw [ha1]; rfl
   have hap : a1.p = a.p := by rw [ha1]; rfl
   have e7 : (jk a1 bp bb)[0 + 7]? = some (.int .i64 a1.ded) := rfl
   have e8 : (jk a1 bp bb)[0 + 8]? = some (.int .i64 a1.now) := rfl
   have e5 : (jk a1 bp bb)[0 + 5]? = some (.pointer (some ⟨bp, 0, none⟩)) := rfl
   have hadv := JN (G := G) (L := (b5, Obj.cells #[.slice none 0 0, .slice none 0 0, .bool false, .bool false, .int .u8 0, .slice none 0 0, .slice none 0 0, .int .u32 0, .slice none 0 0, .slice none 0 0] 43 (0, 0)) :: (b10, Obj.cells #[.slice none 0 0, .slice none 0 0, .bool false, .bool false, .int .u8 0, .slice none 0 0, .slice none 0 0, .int .u32 0, .slice none 0 0, .slice none 0 0] 43 (0, 0)) :: (Mp ++ (Mb ++ L))) ap bp bb a now hn
   rw [← ha1] at hadv
   refine goB ?_
   refine jE (L' := (ap, Obj.cells (jk a bp bb) 102 (0, 0)) :: ((b5, Obj.cells #[.slice none 0 0, .slice none 0 0, .bool false, .bool false, .int .u8 0, .slice none 0 0, .slice none 0 0, .int .u32 0, .slice none 0 0, .slice none 0 0] 43 (0, 0)) :: (b10, Obj.cells #[.slice none 0 0, .slice none 0 0, .bool false, .bool false, .int .u8 0, .slice none 0 0, .slice none 0 0, .int .u32 0, .slice none 0 0, .slice none 0 0] 43 (0, 0)) :: (Mp ++ (Mb ++ L)))) ?_ ji
   refine jx (jb je rfl hadv) rfl ?_
   rintro _ _ rfl
   have hK : ∀ z ∈ [(ap, Obj.cells (jk a1 bp bb) 102 (0, 0))], z ∈ (ap, Obj.cells (jk a1 bp bb) 102 (0, 0)) :: ((b5, Obj.cells #[.slice none 0 0, .slice none 0 0, .bool false, .bool false, .int .u8 0, .slice none 0 0, .slice none 0 0, .int .u32 0, .slice none 0 0, .slice none 0 0] 43 (0, 0)) :: (b10, Obj.cells #[.slice none 0 0, .slice none 0 0, .bool false, .bool false, .int .u8 0, .slice none 0 0, .slice none 0 0, .int .u32 0, .slice none 0 0, .slice none 0 0] 43 (0, 0)) :: (Mp ++ (Mb ++ L))) := fun z hz => by rw [List.mem_singleton.1 hz]; exact List.mem_cons_self ..
   by_cases hend : a1.ded ≤ a1.now
   · have hm : Aq.tick a now = ({ a1 with over := true }, { Dd.none with over := true }) := by unfold Aq.tick; rw [if_neg (by rw [ho]; decide), ← ha1, if_pos (had ▸ hend)]
     rw [hm]
     refine goB ?_
     refine jw jc ([(ap, Obj.cells (jk a1 bp bb) 102 (0, 0))]) [] ?_
     refine tkQ 0 ?_
     refine tkQ 1 ?_
     refine tkQ 2 ?_
     refine tkQ 3 ?_
     refine tkQ 4 ?_
     refine tkQ 5 ?_
     refine tkQ 6 ?_
     refine tkQ 7 ?_
     refine tkQ 8 ?_
     refine tdQ ?_
     refine goB ?_
     refine qv (L' := (ap, Obj.cells (jk { a1 with over := true } bp bb) 102 (0, 0)) :: (b5, Obj.cells #[.slice none 0 0, .slice none 0 0, .bool true, .bool false, .int .u8 0, .slice none 0 0, .slice none 0 0, .int .u32 0, .slice none 0 0, .slice none 0 0] 43 (0, 0)) :: (b10, Obj.cells #[.slice none 0 0, .slice none 0 0, .bool false, .bool false, .int .u8 0, .slice none 0 0, .slice none 0 0, .int .u32 0, .slice none 0 0, .slice none 0 0] 43 (0, 0)) :: (Mp ++ (Mb ++ L))) (fun w h => h) ?_
     refine jE (L' := (b10, Obj.cells #[.slice none 0 0, .slice none 0 0, .bool false, .bool false, .int .u8 0, .slice none 0 0, .slice none 0 0, .int .u32 0, .slice none 0 0, .slice none 0 0] 43 (0, 0)) :: (b5, Obj.cells #[.slice none 0 0, .slice none 0 0, .bool true, .bool false, .int .u8 0, .slice none 0 0, .slice none 0 0, .int .u32 0, .slice none 0 0, .slice none 0 0] 43 (0, 0)) :: (((ap, Obj.cells (jk { a1 with over := true } bp bb) 102 (0, 0)) :: (Mp ++ Mb)) ++ ([] ++ L))) ?_ ji
     refine goB ?_
     refine kO 4 43  rfl rfl  stO (by repeat (exact List.mem_cons_self)) rfl (L' := (((ap, Obj.cells (jk { a1 with over := true } bp bb) 102 (0, 0)) :: (Mp ++ Mb)) ++ ([] ++ L))) (fun w h => h.cnt ji) ?_
     exact ⟨_, _, [], rfl, ⟨none, 0, none, 0, none, 0, none, 0, none, 0, none, 0, rfl, jK, jK, ⟨_, _, rfl, sliceR.nil, sliceR.nil, Int.le_refl 0, show (0 : Int) ≤ 255 by decide⟩, jK, jK⟩, ⟨bp, bb, Mp, Mb, hp1, hb1, rfl⟩, rfl⟩
   · obtain ⟨k, hk⟩ : ∃ k, k = Hg.tick a1.p a1.now := ⟨_, rfl⟩
     obtain ⟨a2, ha2⟩ : ∃ z, z = { a1 with p := k.1 } := ⟨_, rfl⟩
     have hm : Aq.tick a now = Aq.look a2 (dd k.2.2 k.2.1) := by unfold Aq.tick; rw [if_neg (by rw [ho]; decide), ← ha1, if_neg (had ▸ hend), ha2, hk, hap]; rfl
     have hw2 : AWell a2 := by rw [ha2, hk]; exact hw1.of (hw1.ok.tick _) rfl rfl
     have htk := aeK (G := G) (L := (ap, Obj.cells (jk a1 bp bb) 102 (0, 0)) :: ((b5, Obj.cells #[.slice none 0 0, .slice none 0 0, .bool false, .bool false, .int .u8 0, .slice none 0 0, .slice none 0 0, .int .u32 0, .slice none 0 0, .slice none 0 0] 43 (0, 0)) :: (b10, Obj.cells #[.slice none 0 0, .slice none 0 0, .bool false, .bool false, .int .u8 0, .slice none 0 0, .slice none 0 0, .int .u32 0, .slice none 0 0, .slice none 0 0] 43 (0, 0)) :: (Mb ++ L))) hp1 hw1.ok.begins a1.now
     have hfl := (aaa a1.p a1.now).resolve_right (by have := hw1.ok.good.len; omega)
     have hf2 : k.2.2.length ≤ 100 := by rw [hk]; exact WX hw1.ok.good a1.now
     rw [← hk] at htk hfl
     rw [hm]
     refine goB ?_
     refine jw jc ([(ap, Obj.cells (jk a1 bp bb) 102 (0, 0))]) [] ?_
     refine tkQ 0 ?_
     refine tkQ 1 ?_
     refine tkQ 2 ?_
     refine tkQ 3 ?_
     refine tkQ 4 ?_
     refine tkQ 5 ?_
     refine tkQ 6 ?_
     refine tkQ 7 ?_
     refine tkQ 8 ?_
     refine tdQ ?_
     refine goB ?_
     refine jw jc ([(ap, Obj.cells (jk a1 bp bb) 102 (0, 0))]) [] ?_
     refine tkQ 0 ?_
     refine tkQ 1 ?_
     refine tkQ 2 ?_
     refine tkQ 3 ?_
     refine tkQ 4 ?_
     refine tkQ 5 ?_
     refine tkQ 6 ?_
     refine tkQ 7 ?_
     refine kk (L' := Mp ++ ((ap, Obj.cells (jk a1 bp bb) 102 (0, 0)) :: ((b5, Obj.cells #[.slice none 0 0, .slice none 0 0, .bool false, .bool false, .int .u8 0, .slice none 0 0, .slice none 0 0, .int .u32 0, .slice none 0 0, .slice none 0 0] 43 (0, 0)) :: (b10, Obj.cells #[.slice none 0 0, .slice none 0 0, .bool false, .bool false, .int .u8 0, .slice none 0 0, .slice none 0 0, .int .u32 0, .slice none 0 0, .slice none 0 0] 43 (0, 0)) :: (Mb ++ L)))) ?_ ji; refine jD 8 je rfl rfl rfl rfl (jb je rfl htk) ?_; rintro _ _ ⟨ag, cg, az, cz, Bg, Bs, M2, rfl, hRg, hRs, hp2, rfl⟩; refine ⟨Or.inr (fun z hz => by rw [List.mem_singleton.1 hz]; simp), ?_⟩
     refine tkQ 9 ?_
     refine tkQ 10 ?_
     refine tkQ 11 ?_
     refine tkQ 12 ?_
     refine kk (L' := (b5, Obj.cells #[.slice none 0 0, .slice none 0 0, .bool false, .bool false, .int .u8 0, .slice none 0 0, .slice none 0 0, .int .u32 0, .slice none 0 0, .slice none 0 0] 43 (0, 0)) :: ((ap, Obj.cells (jk a1 bp bb) 102 (0, 0)) :: (M2 ++ (Bg ++ (Bs ++ ((b10, Obj.cells #[.slice none 0 0, .slice none 0 0, .bool false, .bool false, .int .u8 0, .slice none 0 0, .slice none 0 0, .int .u32 0, .slice none 0 0, .slice none 0 0] 43 (0, 0)) :: (Mb ++ L))))))) ?_ ji; refine jU 13 je rfl rfl rfl (zA rfl rfl onO rfl rfl rfl) ?_; rintro _ _ ⟨_, rfl⟩; refine ⟨Or.inr (fun z hz => by rw [List.mem_singleton.1 hz]; simp), ?_⟩
     refine tkQ 14 ?_
     refine jU 15 je rfl rfl rfl (zA rfl rfl onO rfl rfl rfl) ?_; rintro _ _ ⟨_, rfl⟩; refine ⟨Or.inr (fun z hz => by rw [List.mem_singleton.1 hz]; simp), ?_⟩
     refine tdQ ?_
     have he2 : jk a1 bp bb = jk a2 bp bb := by rw [ha2]; rfl
     have hp3 : IsPlan bp a2.p M2 := by rw [ha2]; exact hp2
     have hb3 : PBox bb a2.want a2.l Mb := by rw [ha2]; exact hb1
     have ho2 : a2.over = false := by rw [ha2]; exact ho1
     refine jr (L' := (b5, Obj.cells (kG (.slice az k.2.2.length cz) (.slice ag k.2.1.length cg)) 43 (0, 0)) :: ((ap, Obj.cells (jk a1 bp bb) 102 (0, 0)) :: (M2 ++ (Bg ++ (Bs ++ ((b10, Obj.cells #[.slice none 0 0, .slice none 0 0, .bool false, .bool false, .int .u8 0, .slice none 0 0, .slice none 0 0, .int .u32 0, .slice none 0 0, .slice none 0 0] 43 (0, 0)) :: (Mb ++ L))))))) (fun w h => h) ?_
     rw [he2]
     have hev2 := yo (G := G) (L := Bg ++ ((b10, Obj.cells #[.slice none 0 0, .slice none 0 0, .bool false, .bool false, .int .u8 0, .slice none 0 0, .slice none 0 0, .int .u32 0, .slice none 0 0, .slice none 0 0] 43 (0, 0)) :: L)) (ap := ap) (bd := b5) (Ng := Bg) hp3 hb3 hw2 ho2 hf2 hRs (hRg.irow (fun q hq => hq)) (by simp +contextual)
     refine goB ?_
     refine jE (L' := (ap, Obj.cells (jk a2 bp bb) 102 (0, 0)) :: (b5, Obj.cells (kG (.slice az k.2.2.length cz) (.slice ag k.2.1.length cg)) 43 (0, 0)) :: (M2 ++ (Mb ++ (Bs ++ (Bg ++ ((b10, Obj.cells #[.slice none 0 0, .slice none 0 0, .bool false, .bool false, .int .u8 0, .slice none 0 0, .slice none 0 0, .int .u32 0, .slice none 0 0, .slice none 0 0] 43 (0, 0)) :: L)))))) ?_ ji
     refine jx (jb je rfl hev2) rfl ?_
     rintro _ _ ⟨cs, M4, N, hp4, hd, rfl⟩
     obtain ⟨r, hr⟩ : ∃ r, r = Aq.look a2 (dd k.2.2 k.2.1) := ⟨_, rfl⟩
     have hkk := jW (d := dd k.2.2 k.2.1) hw2.ok
     rw [← hr] at hp4 hd hkk ⊢
     have hb5 : PBox bb r.1.want r.1.l Mb := by rw [hkk.2.2.1, hkk.2.2.2.2.1]; exact hb3
     have hd' := hd
     obtain ⟨d1, d2, d3, d4, d5, d6, d7, d8, d9, d10, d11, d12, rfl, _⟩ := hd'
     refine jE (L' := (b10, Obj.cells #[.slice none 0 0, .slice none 0 0, .bool false, .bool false, .int .u8 0, .slice none 0 0, .slice none 0 0, .int .u32 0, .slice none 0 0, .slice none 0 0] 43 (0, 0)) :: (b5, Obj.cells ([.slice d1 r.2.sends.length d2, .slice d3 r.2.gone.length d4, .bool r.2.over, .bool r.2.done, .int .u8 r.2.vd.code, .slice d5 r.2.vd.sets.length d6, .slice d7 r.2.vd.soa.length d8, .int .u32 r.2.time, .slice d9 r.2.agree.length d10, .slice d11 r.2.dissent.length d12] : List Value).toArray 43 (0, 0)) :: (((ap, Obj.cells (jk r.1 bp bb) 102 (0, 0)) :: (M4 ++ Mb)) ++ ((N ++ Bg) ++ L))) ?_ ji
     refine goB ?_
     refine kO 4 43  rfl rfl  stO (by repeat (exact List.mem_cons_self)) rfl (L' := (((ap, Obj.cells (jk r.1 bp bb) 102 (0, 0)) :: (M4 ++ Mb)) ++ ((N ++ Bg) ++ L))) (fun w h => h.cnt ji) ?_
     exact ⟨_, _, N ++ Bg, rfl, hd, ⟨bp, bb, M4, Mb, hp4, hb5, rfl⟩, rfl⟩
end Go.Proofs.YtbjkkoacclfejaaGreat
namespace Go.Proofs.YtbjkkoacclfejaaGreat.Cn
variable {T : Names}
def aiw : Bytes → Int → Bytes
 | [], _ => []
 | a :: t, k => if k = 0 then [] else a :: aiw t (if a = 10 then k - 1 else k)
end Go.Proofs.YtbjkkoacclfejaaGreat.Cn
namespace Go.Proofs.YtbjkkoacclfejaaGreat
open Go.RowKit
open Cn (Zo Cf)
def zoR : Rp Zo := fun _ cs z => cs = [.string (bs z.name), .int .u8 z.pol, .int .u16 z.tru] ∧ z.name.length ≤ maxLen ∧ z.pol ≤ 255 ∧ z.tru ≤ 65535
theorem Jo : uL zoR := fun _ _ _ _ _ h => h
theorem zoR.len {L : ja} {cs : List Value} {z : Zo} (h : zoR L cs z) : cs.length = 3 := by obtain ⟨rfl, _⟩ := h; rfl
theorem zoR.one {L : ja} {cs : List Value} {z : Zo} (h : zoR L cs z) : ∀ v ∈ cs, v.oneCell' = true := by
 obtain ⟨rfl, _⟩ := h
 intro v hv
 simp only [List.mem_cons, List.not_mem_nil, or_false] at hv
 rcases hv with rfl | rfl | rfl <;> rfl
instance : Inhabited Zo := ⟨⟨[], 0, 0⟩⟩
instance : Inhabited Cf := ⟨Cn.zeroC⟩
def jo (c : Cf) (v : Value) : List Value := [.int .i64 c.ups, .int .i64 c.ded, .int .i64 c.hdg, .int .i64 c.wai, .int .i64 c.tri, .int .i64 c.res, .int .i64 c.lim, .int .i64 c.cac, .int .i64 c.fli, .int .i64 c.wtr, .int .i64 c.ttl, .int .i64 c.siz, v]
def I64 (n : Int) : Prop := -9223372036854775808 ≤ n ∧ n ≤ 9223372036854775807
structure CfIn (c : Cf) : Prop where
 ups : I64 c.ups
 ded : I64 c.ded
 hdg : I64 c.hdg
 wai : I64 c.wai
 tri : I64 c.tri
 res : I64 c.res
 lim : I64 c.lim
 cac : I64 c.cac
 fli : I64 c.fli
 wtr : I64 c.wtr
 ttl : I64 c.ttl
 siz : I64 c.siz
def cfR : Rp Cf := fun L cs c => ∃ v, cs = jo c v ∧ sliceR 3 zoR L [v] c.zs ∧ CfIn c
theorem adN : uL cfR := fun L L' cs a hL ⟨v, h1, h2, h3⟩ => ⟨v, h1, jq Jo L L' _ _ hL h2, h3⟩
theorem cfR.len {L : ja} {cs : List Value} {c : Cf} (h : cfR L cs c) : cs.length = 13 := by obtain ⟨v, rfl, _⟩ := h; rfl
end Go.Proofs.YtbjkkoacclfejaaGreat
namespace Go.Proofs.YtbjkkoacclfejaaGreat
open Go.RowKit
open Cn (Zo Cf)
variable {G : World} {L : ja}
theorem jM (n lo hi : Int) : Spec Tryz.prog G 96 #[.int .i64 n, .int .i64 lo, .int .i64 hi] L fun u M => u = .bool (decide (lo ≤ n ∧ n ≤ hi)) ∧ M = L := by
 refine jl (n := 15) Tryz.func96 rfl rfl rfl ?_
 by_cases h1 : lo ≤ n
 · by_cases h2 : n ≤ hi
   · rw [decide_eq_true ⟨h1, h2⟩]
     refine goA ?_
     refine jf 6 _ rfl rfl ?_
     exact ⟨by rw [decide_eq_true h2], rfl⟩
   · rw [decide_eq_false (fun k => h2 k.2)]
     refine goA ?_
     refine jf 6 _ rfl rfl ?_
     exact ⟨by rw [decide_eq_false h2], rfl⟩
 · rw [decide_eq_false (fun k => h1 k.1)]
   refine goA ?_
   refine jf 6 _ rfl rfl ?_
   exact ⟨rfl, rfl⟩
section
variable {P : Program} {n : Nat} {ρ : jB} {ty : TypeId}
end
end Go.Proofs.YtbjkkoacclfejaaGreat
namespace Go.Proofs.YtbjkkoacclfejaaGreat
open Go.RowKit
theorem aeR {n : Nat} (h : n < 65536) : IntKind.wrap .u16 (n : Int) = n := by
 unfold IntKind.wrap
 simp [IntKind.signed, IntKind.bits]
 omega
theorem adO {n : Nat} (h : n < 65536) : (BitVec.ofInt (IntKind.bits .u16) (n : Int)).toNat = n := by
 show (BitVec.ofInt 16 (n : Int)).toNat = n
 rw [BitVec.toNat_ofInt]
 omega
section
variable {P : Program}
theorem aag {t : TypeId} {a : Nat} (ha : a < 65536) : Bin P .and t (.int .u16 (a : Nat)) (.int .u16 1) (.int .u16 ((a % 2 : Nat) : Int)) := ⟨fun x y w => by
 have e : (BitVec.ofInt (IntKind.bits .u16) (a : Int) &&& BitVec.ofInt (IntKind.bits .u16) (1 : Int)).toNat = a % 2 := by
  rw [BitVec.toNat_and, adO ha, show (BitVec.ofInt (IntKind.bits .u16) (1 : Int)).toNat = 1 from rfl, Nat.and_one_is_mod]
 have h2 : a % 2 < 65536 := by omega
 simp only [eqGuard, binOp, Op.intBits, e, aeR h2]
 rfl⟩
theorem UL {t : TypeId} {k : IntKind} {a u : Nat} (ha : a < 65536) : Bin P .shr t (.int .u16 (a : Nat)) (.int k (u : Nat)) (.int .u16 ((a / 2 ^ u : Nat) : Int)) := ⟨fun x y w => by
 have hneg : ¬ ((u : Nat) : Int) < 0 := by omega
 have e : ((a : Nat) : Int).fdiv (2 ^ (min u (IntKind.bits .u16))) = ((a / 2 ^ u : Nat) : Int) := by
  rw [Int.fdiv_eq_ediv_of_nonneg _ (by exact_mod_cast Nat.zero_le _)]
  show ((a : Nat) : Int) / 2 ^ (min u 16) = _
  rcases Nat.le_or_ge u 16 with h | h
  · rw [Nat.min_eq_left h]; simp
  · rw [Nat.min_eq_right h]
    have h1 : a / 2 ^ u = 0 := by
     rw [Nat.div_eq_of_lt]
     exact Nat.lt_of_lt_of_le ha (by rw [show 65536 = 2 ^ 16 by decide]; exact Nat.pow_le_pow_right (by decide) h)
    rw [h1]
    omega
 simp only [eqGuard, binOp, Op.shift, if_neg hneg, Int.toNat_natCast, e]
 rfl⟩
end
theorem ab1 (a u : Nat) : a.testBit u = decide (a / 2 ^ u % 2 = 1) := Nat.testBit_eq_decide_div_mod_eq
end Go.Proofs.YtbjkkoacclfejaaGreat
namespace Go.Proofs.YtbjkkoacclfejaaGreat
open Go.RowKit
open Cn (Zo Cf)
variable {G : World} {L : ja}
def ajy (w : Nm.Bytes) (most : Nat) : Value := match Cn.numP w most with
 | some n => .tuple #[.int .i64 (n : Nat), .bool true]
 | none => .tuple #[.int .i64 0, .bool false]
end Go.Proofs.YtbjkkoacclfejaaGreat
namespace Go.Proofs.YtbjkkoacclfejaaGreat
open Go.RowKit
open Cn (Zo Cf)
variable {G : World} {L : ja}
def yX (c : Cf) : Prop := (1 ≤ c.ups ∧ c.ups ≤ 9 ∧ c.ups % 2 = 1) ∧ (1 ≤ c.hdg ∧ c.hdg ≤ 1000) ∧ (1 ≤ c.wai ∧ c.wai ≤ 1000) ∧ (1 ≤ c.tri ∧ c.tri ≤ 4) ∧
 (c.ups / 2 * c.hdg + c.tri * c.wai ≤ c.ded ∧ c.ded ≤ 100000) ∧ (1 ≤ c.res ∧ c.res ≤ 100000) ∧ (1 ≤ c.lim ∧ c.lim ≤ 100) ∧ (0 ≤ c.cac ∧ c.cac ≤ 256) ∧ (1 ≤ c.fli ∧ c.fli ≤ 32) ∧
 (1 ≤ c.wtr ∧ c.wtr ≤ 16) ∧ (0 ≤ c.ttl ∧ c.ttl ≤ 2147483647) ∧ (512 ≤ c.siz ∧ c.siz ≤ 4096)
instance (c : Cf) : Decidable (yX c) := by unfold yX; infer_instance
theorem ab2 (c : Cf) (v : Value) : Spec Tryz.prog G 67 #[.agg (jo c v).toArray] L fun u M => u = .bool (Cn.mayNum c) ∧ M = L := by
 refine jl (n := 81) Tryz.func67 rfl rfl rfl ?_
 refine j7 (jO (jP (kQ rfl) rfl ?_))
 intro b1
 have g0 : (jo (c) (v)).toArray[0 + 0]? = some (.int .i64 (c).ups) := rfl
 have g1 : (jo (c) (v)).toArray[0 + 1]? = some (.int .i64 (c).ded) := rfl
 have g2 : (jo (c) (v)).toArray[0 + 2]? = some (.int .i64 (c).hdg) := rfl
 have g3 : (jo (c) (v)).toArray[0 + 3]? = some (.int .i64 (c).wai) := rfl
 have g4 : (jo (c) (v)).toArray[0 + 4]? = some (.int .i64 (c).tri) := rfl
 have g5 : (jo (c) (v)).toArray[0 + 5]? = some (.int .i64 (c).res) := rfl
 have g6 : (jo (c) (v)).toArray[0 + 6]? = some (.int .i64 (c).lim) := rfl
 have g7 : (jo (c) (v)).toArray[0 + 7]? = some (.int .i64 (c).cac) := rfl
 have g8 : (jo (c) (v)).toArray[0 + 8]? = some (.int .i64 (c).fli) := rfl
 have g9 : (jo (c) (v)).toArray[0 + 9]? = some (.int .i64 (c).wtr) := rfl
 have g10 : (jo (c) (v)).toArray[0 + 10]? = some (.int .i64 (c).ttl) := rfl
 have g11 : (jo (c) (v)).toArray[0 + 11]? = some (.int .i64 (c).siz) := rfl
 have g12 : (jo (c) (v)).toArray[0 + 12]? = some (v) := rfl
 have no : ¬ yX c → false = Cn.mayNum c := fun k => (decide_eq_false k).symm
 by_cases h1 : 1 ≤ c.ups ∧ c.ups ≤ 9
 rotate_left
 · repeat (first | refine goA ?_ | (refine' jN (jb je rfl (jM _ _ _ )) rfl ?_))
   refine jr (fun w h => h.tail) ?_
   refine jf 2 _ rfl rfl ?_
   exact ⟨congrArg Value.bool (no fun k => h1 (by unfold yX at k; omega)), rfl⟩
 by_cases he : c.ups % 2 = 1
 rotate_left
 · repeat (first | refine goA ?_ | (refine' jN (jb je rfl (jM _ _ _ )) rfl ?_))
   refine jr (fun w h => h.tail) ?_
   refine jf 2 _ rfl rfl ?_
   exact ⟨congrArg Value.bool (no fun k => he (by unfold yX at k; omega)), rfl⟩
 by_cases h2 : 1 ≤ c.hdg ∧ c.hdg ≤ 1000
 rotate_left
 · repeat (first | refine goA ?_ | (refine' jN (jb je rfl (jM _ _ _ )) rfl ?_))
   refine jr (fun w h => h.tail) ?_
   refine jf 2 _ rfl rfl ?_
   exact ⟨congrArg Value.bool (no fun k => h2 (by unfold yX at k; omega)), rfl⟩
 by_cases h3 : 1 ≤ c.wai ∧ c.wai ≤ 1000
 rotate_left
 · repeat (first | refine goA ?_ | (refine' jN (jb je rfl (jM _ _ _ )) rfl ?_) | (refine' jX (jb je rfl (jM _ _ _ )) rfl ?_))
   refine jr (fun w h => h.tail) ?_
   refine jf 2 _ rfl rfl ?_
   exact ⟨congrArg Value.bool (no fun k => h3 (by unfold yX at k; omega)), rfl⟩
 by_cases h4 : 1 ≤ c.tri ∧ c.tri ≤ 4
 rotate_left
 · repeat (first | refine goA ?_ | (refine' jN (jb je rfl (jM _ _ _ )) rfl ?_) | (refine' jX (jb je rfl (jM _ _ _ )) rfl ?_))
   refine jr (fun w h => h.tail) ?_
   refine jf 2 _ rfl rfl ?_
   exact ⟨congrArg Value.bool (no fun k => h4 (by unfold yX at k; omega)), rfl⟩
 have m1 : 0 ≤ c.ups / 2 * c.hdg ∧ c.ups / 2 * c.hdg ≤ 4000 := ⟨Int.mul_nonneg jd jd, Int.le_trans (Int.mul_le_mul (show c.ups / 2 ≤ 4 by omega) h2.2 jd jd) (by decide)⟩
 have m2 : 0 ≤ c.tri * c.wai ∧ c.tri * c.wai ≤ 4000 := ⟨Int.mul_nonneg jd jd, Int.le_trans (Int.mul_le_mul h4.2 h3.2 jd jd) (by decide)⟩
 by_cases h5 : c.ups / 2 * c.hdg + c.tri * c.wai ≤ c.ded ∧ c.ded ≤ 100000
 rotate_left
 · repeat (first | refine goA ?_ | (refine' jN (jb je rfl (jM _ _ _ )) rfl ?_) | (refine' jX (jb je rfl (jM _ _ _ )) rfl ?_))
   refine jr (fun w h => h.tail) ?_
   refine jf 2 _ rfl rfl ?_
   exact ⟨congrArg Value.bool (no fun k => h5 (by unfold yX at k; omega)), rfl⟩
 by_cases h6 : 1 ≤ c.res ∧ c.res ≤ 100000
 rotate_left
 · repeat (first | refine goA ?_ | (refine' jN (jb je rfl (jM _ _ _ )) rfl ?_) | (refine' jX (jb je rfl (jM _ _ _ )) rfl ?_))
   refine jr (fun w h => h.tail) ?_
   refine jf 2 _ rfl rfl ?_
   exact ⟨congrArg Value.bool (no fun k => h6 (by unfold yX at k; omega)), rfl⟩
 by_cases h7 : 1 ≤ c.lim ∧ c.lim ≤ 100
 rotate_left
 · repeat (first | refine goA ?_ | (refine' jN (jb je rfl (jM _ _ _ )) rfl ?_) | (refine' jX (jb je rfl (jM _ _ _ )) rfl ?_))
   refine jr (fun w h => h.tail) ?_
   refine jf 2 _ rfl rfl ?_
   exact ⟨congrArg Value.bool (no fun k => h7 (by unfold yX at k; omega)), rfl⟩
 by_cases h8 : 0 ≤ c.cac ∧ c.cac ≤ 256
 rotate_left
 · repeat (first | refine goA ?_ | (refine' jN (jb je rfl (jM _ _ _ )) rfl ?_) | (refine' jX (jb je rfl (jM _ _ _ )) rfl ?_))
   refine jr (fun w h => h.tail) ?_
   refine jf 2 _ rfl rfl ?_
   exact ⟨congrArg Value.bool (no fun k => h8 (by unfold yX at k; omega)), rfl⟩
 by_cases h9 : 1 ≤ c.fli ∧ c.fli ≤ 32
 rotate_left
 · repeat (first | refine goA ?_ | (refine' jN (jb je rfl (jM _ _ _ )) rfl ?_) | (refine' jX (jb je rfl (jM _ _ _ )) rfl ?_))
   refine jr (fun w h => h.tail) ?_
   refine jf 2 _ rfl rfl ?_
   exact ⟨congrArg Value.bool (no fun k => h9 (by unfold yX at k; omega)), rfl⟩
 by_cases h10 : 1 ≤ c.wtr ∧ c.wtr ≤ 16
 rotate_left
 · repeat (first | refine goA ?_ | (refine' jN (jb je rfl (jM _ _ _ )) rfl ?_) | (refine' jX (jb je rfl (jM _ _ _ )) rfl ?_))
   refine jr (fun w h => h.tail) ?_
   refine jf 2 _ rfl rfl ?_
   exact ⟨congrArg Value.bool (no fun k => h10 (by unfold yX at k; omega)), rfl⟩
 by_cases h11 : 0 ≤ c.ttl ∧ c.ttl ≤ 2147483647
 rotate_left
 · repeat (first | refine goA ?_ | (refine' jN (jb je rfl (jM _ _ _ )) rfl ?_) | (refine' jX (jb je rfl (jM _ _ _ )) rfl ?_))
   refine jr (fun w h => h.tail) ?_
   refine jf 2 _ rfl rfl ?_
   exact ⟨congrArg Value.bool (no fun k => h11 (by unfold yX at k; omega)), rfl⟩
 by_cases h12 : 512 ≤ c.siz ∧ c.siz ≤ 4096
 rotate_left
 · repeat (first | refine goA ?_ | (refine' jN (jb je rfl (jM _ _ _ )) rfl ?_) | (refine' jX (jb je rfl (jM _ _ _ )) rfl ?_))
   refine jr (fun w h => h.tail) ?_
   refine jf 2 _ rfl rfl ?_
   exact ⟨congrArg Value.bool ((decide_eq_false h12).trans <| no fun k => h12 (by unfold yX at k; omega)), rfl⟩
 have yes : true = Cn.mayNum c := (decide_eq_true (show yX c from ⟨⟨h1.1, h1.2, he⟩, h2, h3, h4, h5, h6, h7, h8, h9, h10, h11, h12⟩)).symm
 repeat (first | refine goA ?_ | (refine' jN (jb je rfl (jM _ _ _ )) rfl ?_) | (refine' jX (jb je rfl (jM _ _ _ )) rfl ?_))
 refine jr (fun w h => h.tail) ?_
 refine jf 2 _ rfl rfl ?_
 exact ⟨congrArg Value.bool ((decide_eq_true h12).trans yes), rfl⟩
end Go.Proofs.YtbjkkoacclfejaaGreat
namespace Go.Proofs.YtbjkkoacclfejaaGreat
open Go.RowKit
open Cn (Zo Cf)
variable {G : World} {L : ja}
theorem qJ {ups : Int} {zs : List Zo} {i : Nat} (hi : i < zs.length) (h : Cn.goodAt ups zs i = false) : Cn.mayZs ups zs = false := by
 unfold Cn.mayZs
 rw [Bool.and_eq_false_iff]
 right
 rw [List.all_eq_false]
 exact ⟨i, List.mem_range.2 hi, by rw [h]; decide⟩
theorem aah {ups : Int} {zs : List Zo} (h16 : zs.length ≤ 16) (h : ∀ j < zs.length, Cn.goodAt ups zs j = true) : Cn.mayZs ups zs = true := by
 unfold Cn.mayZs
 rw [decide_eq_true h16, Bool.true_and, List.all_eq_true]
 exact fun i hi => h i (List.mem_range.1 hi)
theorem YM {ups : Int} {zs : List Zo} (h : 16 < zs.length) : Cn.mayZs ups zs = false := by
 unfold Cn.mayZs
 rw [decide_eq_false jd]
 rfl
theorem adP {ups : Int} {zs : List Zo} {i : Nat} {z : Zo} (h : zs[i]? = some z) : Cn.goodAt ups zs i = (Cn.okZo ups z && !(zs.take i).any (fun y => y.name == z.name)) := by unfold Cn.goodAt; rw [h]
theorem YN (c : Cf) (v : Value) (hz : sliceR 3 zoR L [v] c.zs) (hu : 1 ≤ c.ups ∧ c.ups ≤ 9) (hs : ∀ z ∈ c.zs, z.name.length ≤ 1000000) :
 Spec Tryz.prog G 68 #[.agg (jo c v).toArray] L fun u M => u = .bool (Cn.mayZs c.ups c.zs) ∧ M = L := by
 obtain ⟨a, cap, e, hz⟩ := hz.val
 obtain rfl := (List.cons.inj e).1
 clear e
 have hcap := (sliceR.cut hz).2.1
 have hmax := (sliceR.cut hz).2.2.1
 unfold maxLen at hmax
 refine jl (n := 69) Tryz.func68 rfl rfl rfl ?_
 refine j7 (jO (jP (kQ rfl) rfl ?_))
 intro b1
 have g0 : (jo (c) (.slice a c.zs.length cap)).toArray[0 + 0]? = some (.int .i64 (c).ups) := rfl
 have g1 : (jo (c) (.slice a c.zs.length cap)).toArray[0 + 1]? = some (.int .i64 (c).ded) := rfl
 have g2 : (jo (c) (.slice a c.zs.length cap)).toArray[0 + 2]? = some (.int .i64 (c).hdg) := rfl
 have g3 : (jo (c) (.slice a c.zs.length cap)).toArray[0 + 3]? = some (.int .i64 (c).wai) := rfl
 have g4 : (jo (c) (.slice a c.zs.length cap)).toArray[0 + 4]? = some (.int .i64 (c).tri) := rfl
 have g5 : (jo (c) (.slice a c.zs.length cap)).toArray[0 + 5]? = some (.int .i64 (c).res) := rfl
 have g6 : (jo (c) (.slice a c.zs.length cap)).toArray[0 + 6]? = some (.int .i64 (c).lim) := rfl
 have g7 : (jo (c) (.slice a c.zs.length cap)).toArray[0 + 7]? = some (.int .i64 (c).cac) := rfl
 have g8 : (jo (c) (.slice a c.zs.length cap)).toArray[0 + 8]? = some (.int .i64 (c).fli) := rfl
 have g9 : (jo (c) (.slice a c.zs.length cap)).toArray[0 + 9]? = some (.int .i64 (c).wtr) := rfl
 have g10 : (jo (c) (.slice a c.zs.length cap)).toArray[0 + 10]? = some (.int .i64 (c).ttl) := rfl
 have g11 : (jo (c) (.slice a c.zs.length cap)).toArray[0 + 11]? = some (.int .i64 (c).siz) := rfl
 have g12 : (jo (c) (.slice a c.zs.length cap)).toArray[0 + 12]? = some (.slice a c.zs.length cap) := rfl
 by_cases h16 : 16 < c.zs.length
 · rw [YM h16]
   refine goA ?_
   refine jr (fun w h => h.tail) ?_
   refine jf 2 _ rfl rfl ?_
   exact ⟨rfl, rfl⟩
 refine goA ?_
 refine jz (σ := Nat) (fun i => i ≤ c.zs.length ∧ ∀ j < i, Cn.goodAt c.ups c.zs j = true) (fun i => [(1, .pointer (some ⟨b1, 0, none⟩)), (12, .slice a c.zs.length cap), (13, .int .i64 (c.zs.length : Nat)), (14, .int .i64 (i : Nat))]) (fun _ => (b1, Obj.cells (jo c (.slice a c.zs.length cap)).toArray 30 (0, 0)) :: L) (fun i => c.zs.length - i) 0 ⟨by omega, fun j hj => by omega⟩ ?_ (fun _ h => h) ?_
 exact js
 rintro i ⟨hi, hall⟩
 by_cases hlt : i < c.zs.length
 · obtain ⟨z, hzi⟩ : ∃ z, c.zs[i]? = some z := ⟨_, List.getElem?_eq_getElem hlt⟩
   obtain ⟨b2, o2, C2, t2, f2, rfl, m2, cs, _, ⟨rfl, hzn, hzp, hzt⟩, hcs⟩ := sliceR.at hz hzi
   have hzs := hs z (List.mem_of_getElem? hzi)
   have e0 : C2[o2 + i * 3 + 0]? = some (.string (bs z.name)) := hcs 0 _ rfl
   have hgood := adP (ups := c.ups) hzi
   refine goA ?_
   refine jy (jA [.string (bs z.name), .int .u8 (z.pol : Nat), .int .u16 (z.tru : Nat)] rfl stL (List.mem_cons_of_mem _ m2) hcs) rfl ?_
   repeat (first | refine goA ?_ | (refine jQ ?_; intro bNew))
   obtain ⟨b4, hb4⟩ : ∃ b, bNew = b := ⟨_, rfl⟩
   rw [hb4]
   clear hb4 bNew
   have k0 : ([.string (bs z.name), .int .u8 (z.pol : Nat), .int .u16 (z.tru : Nat)] : List Value).toArray[0 + 0]? = some (.string (bs z.name)) := rfl
   have k1 : ([.string (bs z.name), .int .u8 (z.pol : Nat), .int .u16 (z.tru : Nat)] : List Value).toArray[0 + 1]? = some (.int .u8 (z.pol : Nat)) := rfl
   have k2 : ([.string (bs z.name), .int .u8 (z.pol : Nat), .int .u16 (z.tru : Nat)] : List Value).toArray[0 + 2]? = some (.int .u16 (z.tru : Nat)) := rfl
   have hKm : ∀ p ∈ [(b4, Obj.cells ([.string (bs z.name), .int .u8 (z.pol : Nat), .int .u16 (z.tru : Nat)] : List Value).toArray 26 (0, 0))], p ∈ (b4, Obj.cells ([.string (bs z.name), .int .u8 (z.pol : Nat), .int .u16 (z.tru : Nat)] : List Value).toArray 26 (0, 0)) :: (b1, Obj.cells (jo c (.slice (some ⟨b2, o2, none⟩) c.zs.length cap)).toArray 30 (0, 0)) :: L := by
    intro p hp
    simp only [List.mem_cons, List.not_mem_nil, or_false] at hp
    subst hp
    exact List.mem_cons_self ..
   cases hmay : Nm.may z.name with
   | false =>
     have hno : Cn.okZo c.ups z = false := by unfold Cn.okZo Cn.okName; rw [hmay]; rfl
     rw [qJ hlt (by rw [hgood, hno]; rfl)]
     refine jw jc ([(b4, Obj.cells ([.string (bs z.name), .int .u8 (z.pol : Nat), .int .u16 (z.tru : Nat)] : List Value).toArray 26 (0, 0))]) [] ?_
     refine tkQ 0 ?_
     refine tkQ 1 ?_
     refine' ju 2 rfl rfl je (jR je rfl (fun _ _ => J9 _ ?_)) ?_ ?_; (· omega); (· assumption)
     refine tkQ 3 ?_
     refine tkQ 4 ?_
     refine tkQ 5 ?_
     refine tkQ 6 ?_
     refine tkQ 7 ?_
     refine tkQ 8 ?_
     refine tkQ 9 ?_
     refine tkQ 10 ?_
     refine tkQ 11 ?_
     refine tdQ ?_
     refine goA ?_
     refine jr (fun w h => h.tail.tail) ?_
     refine jf 2 _ rfl rfl ?_
     exact ⟨rfl, rfl⟩
   | true =>
     by_cases hf : Nm.fold z.name = z.name
     rotate_left
     · have hno : Cn.okZo c.ups z = false := by unfold Cn.okZo Cn.okName; rw [beq_false_of_ne hf, Bool.and_false, Bool.false_and]
       rw [qJ hlt (by rw [hgood, hno]; rfl)]
       refine jw jc ([(b4, Obj.cells ([.string (bs z.name), .int .u8 (z.pol : Nat), .int .u16 (z.tru : Nat)] : List Value).toArray 26 (0, 0))]) [] ?_
       refine tkQ 0 ?_
       refine tkQ 1 ?_
       refine' ju 2 rfl rfl je (jR je rfl (fun _ _ => J9 _ ?_)) ?_ ?_; (· omega); (· assumption)
       refine tkQ 3 ?_
       refine tkQ 4 ?_
       refine tkQ 5 ?_
       refine tkQ 6 ?_
       (refine' ju 7 rfl rfl je (qr rfl rfl (by exact xF (by assumption)) je rfl (fun _ _ => Yr _ ?_)) ?_ ?_; (· omega); (· assumption))
       refine tkQ 8 ?_
       refine tkQ 9 ?_
       refine tkQ 10 ?_
       refine tkQ 11 ?_
       refine tdQ ?_
       refine goA ?_
       refine jr (fun w h => h.tail.tail) ?_
       refine jf 2 _ rfl rfl ?_
       exact ⟨rfl, rfl⟩
     have hokn : Cn.okName z = true := by unfold Cn.okName; rw [hmay, beq_iff_eq.2 hf]; rfl
     refine jw jc ([(b4, Obj.cells ([.string (bs z.name), .int .u8 (z.pol : Nat), .int .u16 (z.tru : Nat)] : List Value).toArray 26 (0, 0))]) [] ?_
     refine tkQ 0 ?_
     refine tkQ 1 ?_
     refine' ju 2 rfl rfl je (jR je rfl (fun _ _ => J9 _ ?_)) ?_ ?_; (· omega); (· assumption)
     refine tkQ 3 ?_
     refine tkQ 4 ?_
     refine tkQ 5 ?_
     refine tkQ 6 ?_
     (refine' ju 7 rfl rfl je (qr rfl rfl (by exact xF (by assumption)) je rfl (fun _ _ => Yr _ ?_)) ?_ ?_; (· omega); (· assumption))
     refine tkQ 8 ?_
     refine tkQ 9 ?_
     refine tkQ 10 ?_
     refine tkQ 11 ?_
     refine tdQ ?_
     refine goA ?_
     refine jz (σ := Nat) (fun k => k ≤ i ∧ (c.zs.take k).any (fun y => y.name == z.name) = false) (fun k => [(1, .pointer (some ⟨b1, 0, none⟩)), (3, .int .i64 (i : Nat)), (4, .pointer (some ⟨b4, 0, none⟩)), (12, .slice (some ⟨b2, o2, none⟩) c.zs.length cap), (13, .int .i64 (c.zs.length : Nat)), (14, .int .i64 (i : Nat)), (34, .slice (some ⟨b2, o2, none⟩) i cap), (35, .int .i64 (i : Nat)), (36, .int .i64 (k : Nat))]) (fun _ => (b4, Obj.cells ([.string (bs z.name), .int .u8 (z.pol : Nat), .int .u16 (z.tru : Nat)] : List Value).toArray 26 (0, 0)) :: (b1, Obj.cells (jo c (.slice (some ⟨b2, o2, none⟩) c.zs.length cap)).toArray 30 (0, 0)) :: L) (fun k => i - k) 0 ⟨by omega, by simp⟩ ?_ (fun _ h => h) ?_
     exact js
     rintro k ⟨hk, hany⟩
     by_cases hki : k < i
     · obtain ⟨y, hyk⟩ : ∃ y, c.zs[k]? = some y := ⟨_, List.getElem?_eq_getElem jd⟩
       obtain ⟨b5, o5, C5, t5, f5, e5, m5, cs5, _, ⟨rfl, hyn, hyp, hyt⟩, hcs5⟩ := sliceR.at hz hyk
       cases e5
       refine goA ?_
       refine jy (jA [.string (bs y.name), .int .u8 (y.pol : Nat), .int .u16 (y.tru : Nat)] rfl stL (List.mem_cons_of_mem _ (List.mem_cons_of_mem _ m5)) hcs5) rfl ?_
       repeat (first | refine goA ?_ | (refine jQ ?_; intro bNew))
       obtain ⟨b6, hb6⟩ : ∃ b, bNew = b := ⟨_, rfl⟩
       rw [hb6]
       clear hb6 bNew
       have l0 : ([.string (bs y.name), .int .u8 (y.pol : Nat), .int .u16 (y.tru : Nat)] : List Value).toArray[0 + 0]? = some (.string (bs y.name)) := rfl
       by_cases hyz : y.name = z.name
       · have hbad : Cn.goodAt c.ups c.zs i = false := by
          rw [hgood, Bool.and_eq_false_iff]
          right
          rw [Bool.not_eq_false', List.any_eq_true]
          exact ⟨y, List.mem_take_iff_getElem.2 ⟨k, by omega, (List.getElem?_eq_some_iff.1 hyk).2⟩, beq_iff_eq.2 hyz⟩
         rw [qJ hlt hbad]
         refine goA ?_
         refine jr (fun w h => h.tail.tail.tail) ?_
         refine jf 2 _ rfl rfl ?_
         exact ⟨rfl, rfl⟩
       · refine goA ?_
         refine jg (k + 1) ⟨by omega, ?_⟩ ?_ (fun _ h => h.tail) jd
         · rw [List.take_add_one, hyk, List.any_append, hany]
           simp [hyz]
         exact js
     · have hkie : k = i := by omega
       subst hkie
       rw [hany, Bool.not_false, Bool.and_true] at hgood
       unfold Cn.okZo at hgood
       rw [hokn, Bool.true_and] at hgood
       obtain ⟨n, hn⟩ : ∃ n : Nat, c.ups = (n : Nat) := ⟨c.ups.toNat, by omega⟩
       have hn2 : c.ups.toNat = n := by omega
       have fin : ∀ b, Cn.okPol c.ups z = b → Cn.goodAt c.ups c.zs k = b := fun b h => hgood.trans h
       have nxt : Cn.okPol c.ups z = true → ∀ j < k + 1, Cn.goodAt c.ups c.zs j = true := fun h j hj => by
        rcases Nat.lt_or_ge j k with q | q
        · exact hall j q
        · have : j = k := by omega
          subst this
          exact fin true h
       have pol : Cn.okPol c.ups z = decide (((z.pol = 1 ∨ z.pol = 2 ∨ z.pol = 4) ∧ z.tru = 0) ∨ (z.pol = 3 ∧ z.tru ≠ 0 ∧ z.tru / 2 ^ n = 0)) := by unfold Cn.okPol; rw [hn2]
       rw [hn] at g0
       obtain ⟨q, hq⟩ : ∃ q, z.tru / 2 ^ n = q := ⟨_, rfl⟩
       have hsh := UL (P := Tryz.prog) (t := 22) (k := .i64) (a := z.tru) (u := n) jd
       rw [hq] at pol hsh
       by_cases p1 : z.pol = 1
       · by_cases t0 : z.tru = 0
         · skip
           have hy : Cn.okPol c.ups z = true := by rw [pol]; exact decide_eq_true jd
           refine goA ?_
           refine jg (k + 1) ⟨by omega, nxt hy⟩ ?_ (fun _ h => h.tail) jd
           exact js
         · skip
           rw [qJ hlt (fin false (by rw [pol]; exact decide_eq_false jd))]
           refine goA ?_
           refine jr (fun w h => h.tail.tail) ?_
           refine jf 2 _ rfl rfl ?_
           exact ⟨rfl, rfl⟩
       by_cases p2 : z.pol = 2
       · by_cases t0 : z.tru = 0
         · skip
           have hy : Cn.okPol c.ups z = true := by rw [pol]; exact decide_eq_true jd
           refine goA ?_
           refine jg (k + 1) ⟨by omega, nxt hy⟩ ?_ (fun _ h => h.tail) jd
           exact js
         · skip
           rw [qJ hlt (fin false (by rw [pol]; exact decide_eq_false jd))]
           refine goA ?_
           refine jr (fun w h => h.tail.tail) ?_
           refine jf 2 _ rfl rfl ?_
           exact ⟨rfl, rfl⟩
       by_cases p4 : z.pol = 4
       · by_cases t0 : z.tru = 0
         · skip
           have hy : Cn.okPol c.ups z = true := by rw [pol]; exact decide_eq_true jd
           refine goA ?_
           refine jg (k + 1) ⟨by omega, nxt hy⟩ ?_ (fun _ h => h.tail) jd
           exact js
         · skip
           rw [qJ hlt (fin false (by rw [pol]; exact decide_eq_false jd))]
           refine goA ?_
           refine jr (fun w h => h.tail.tail) ?_
           refine jf 2 _ rfl rfl ?_
           exact ⟨rfl, rfl⟩
       by_cases p3 : z.pol = 3
       · by_cases t0 : z.tru = 0
         · skip
           rw [qJ hlt (fin false (by rw [pol]; exact decide_eq_false jd))]
           refine goA ?_
           refine jr (fun w h => h.tail.tail) ?_
           refine jf 2 _ rfl rfl ?_
           exact ⟨rfl, rfl⟩
         · by_cases q0 : q = 0
           · skip
             refine goA ?_
             refine jI (uk rfl rfl hsh) rfl ?_
             have hy : Cn.okPol c.ups z = true := by rw [pol]; exact decide_eq_true jd
             refine goA ?_
             refine jg (k + 1) ⟨by omega, nxt hy⟩ ?_ (fun _ h => h.tail) jd
             exact js
           · skip
             rw [qJ hlt (fin false (by rw [pol]; exact decide_eq_false jd))]
             refine goA ?_
             refine jI (uk rfl rfl hsh) rfl ?_
             refine goA ?_
             refine jr (fun w h => h.tail.tail) ?_
             refine jf 2 _ rfl rfl ?_
             exact ⟨rfl, rfl⟩
       rw [qJ hlt (fin false (by rw [pol]; exact decide_eq_false jd))]
       refine goA ?_
       refine jr (fun w h => h.tail.tail) ?_
       refine jf 2 _ rfl rfl ?_
       exact ⟨rfl, rfl⟩
 · have hil : i = c.zs.length := by omega
   subst hil
   rw [aah jd hall]
   refine goA ?_
   refine jr (fun w h => h.tail) ?_
   refine jf 2 _ rfl rfl ?_
   exact ⟨rfl, rfl⟩
end Go.Proofs.YtbjkkoacclfejaaGreat
namespace Go.Proofs.YtbjkkoacclfejaaGreat
open Go.RowKit
open Cn (Zo Cf)
variable {G : World} {L : ja}
structure CfL (L : ja) (c : Cf) (v : Value) : Prop where
 row : sliceR 3 zoR L [v] c.zs
 small : ∀ z ∈ c.zs, z.name.length ≤ 1000000
theorem CfL.mono {L' : ja} {c : Cf} {v : Value} (h : CfL L c v) (hs : ∀ p ∈ L, p ∈ L') : CfL L' c v := ⟨jq Jo _ _ _ _ hs h.row, h.small⟩
theorem QY {c : Cf} (h : Cn.mayNum c = true) : 1 ≤ c.ups ∧ c.ups ≤ 9 := by
 have := of_decide_eq_true h
 omega
def yY (c : Cf) : Int := if Cn.mayP c then 0 else 1
theorem Zt (c : Cf) (v : Value) (h : CfL L c v) : Spec Tryz.prog G 36 #[.agg (jo c v).toArray] L fun u M => u = .int .i64 (yY c) ∧ M = L := by
 refine jl (n := 11) Tryz.func36 rfl rfl rfl ?_
 refine j7 (jO (jP (kQ rfl) rfl ?_))
 intro b1
 refine goA ?_
 refine jN (jb je rfl (ab2 c v)) rfl ?_
 cases hn : Cn.mayNum c with
 | false =>
   have hm : yY c = 1 := by unfold yY Cn.mayP; rw [hn]; rfl
   rw [hm]
   refine goA ?_
   refine jr (fun w h => h.tail) ?_
   refine jf 2 _ rfl rfl ?_
   exact ⟨rfl, rfl⟩
 | true =>
   refine goA ?_
   refine jX (jb je rfl (YN c v (jq Jo _ _ _ _ jn h.row) (QY hn) h.small)) rfl ?_
   cases hz : Cn.mayZs c.ups c.zs with
   | false =>
     have hm : yY c = 1 := by unfold yY Cn.mayP; rw [hn, hz]; rfl
     rw [hm]
     refine goA ?_
     refine jr (fun w h => h.tail) ?_
     refine jf 2 _ rfl rfl ?_
     exact ⟨rfl, rfl⟩
   | true =>
     have hm : yY c = 0 := by unfold yY Cn.mayP; rw [hn, hz]; rfl
     rw [hm]
     refine goA ?_
     refine jr (fun w h => h.tail) ?_
     refine jf 2 _ rfl rfl ?_
     exact ⟨rfl, rfl⟩
theorem UM {c : Cf} (h : Cn.mayP c = true) : yY c = 0 := if_pos h
theorem WY {c : Cf} (h : Cn.mayP c = false) : yY c = 1 := if_neg (by rw [h]; decide)
theorem VI (c : Cf) (v : Value) (h : CfL L c v) : Spec Tryz.prog G 19 #[.agg (jo c v).toArray] L fun u M => u = .int .i64 (Cn.liesP c) ∧ M = L := by
 refine jl (n := 9) Tryz.func19 rfl rfl rfl ?_
 refine j7 (jO (jP (kQ rfl) rfl ?_))
 intro b1
 have g0 : (jo (c) (v)).toArray[0 + 0]? = some (.int .i64 (c).ups) := rfl
 have g1 : (jo (c) (v)).toArray[0 + 1]? = some (.int .i64 (c).ded) := rfl
 have g2 : (jo (c) (v)).toArray[0 + 2]? = some (.int .i64 (c).hdg) := rfl
 have g3 : (jo (c) (v)).toArray[0 + 3]? = some (.int .i64 (c).wai) := rfl
 have g4 : (jo (c) (v)).toArray[0 + 4]? = some (.int .i64 (c).tri) := rfl
 have g5 : (jo (c) (v)).toArray[0 + 5]? = some (.int .i64 (c).res) := rfl
 have g6 : (jo (c) (v)).toArray[0 + 6]? = some (.int .i64 (c).lim) := rfl
 have g7 : (jo (c) (v)).toArray[0 + 7]? = some (.int .i64 (c).cac) := rfl
 have g8 : (jo (c) (v)).toArray[0 + 8]? = some (.int .i64 (c).fli) := rfl
 have g9 : (jo (c) (v)).toArray[0 + 9]? = some (.int .i64 (c).wtr) := rfl
 have g10 : (jo (c) (v)).toArray[0 + 10]? = some (.int .i64 (c).ttl) := rfl
 have g11 : (jo (c) (v)).toArray[0 + 11]? = some (.int .i64 (c).siz) := rfl
 have g12 : (jo (c) (v)).toArray[0 + 12]? = some (v) := rfl
 refine goA ?_
 refine jN (jb je rfl (Zt c v (h.mono jn))) rfl ?_
 cases hm : Cn.mayP c with
 | true =>
   have he : yY c = 0 := UM hm
   have hu := QY (Bool.and_eq_true_iff.1 hm).1
   have hl : Cn.liesP c = c.ups / 2 := by unfold Cn.liesP; rw [if_pos hm]
   rw [he, hl]
   refine goA ?_
   refine jr (fun w h => h.tail) ?_
   refine jf 2 _ rfl rfl ?_
   exact ⟨rfl, rfl⟩
 | false =>
   have he : yY c = 1 := WY hm
   have hl : Cn.liesP c = 0 := by unfold Cn.liesP; rw [hm]; rfl
   rw [he, hl]
   refine goA ?_
   refine jr (fun w h => h.tail) ?_
   refine jf 2 _ rfl rfl ?_
   exact ⟨rfl, rfl⟩
end Go.Proofs.YtbjkkoacclfejaaGreat
namespace Go.Proofs.YtbjkkoacclfejaaGreat
open Go.RowKit
open Hg (En Pl)
open Vd (RSet Vdt Vote Rec Quest Piece Ballot)
variable {G : World} {L : ja}
theorem uH {ap : Nat} {a : As} {X : ja} (h : yp ap a X) (hX : ∀ p ∈ X, p ∈ L) : Spec Tryz.prog G 18 #[.pointer (some ⟨ap, 0, none⟩)] L fun u M => u = .bool a.over ∧ M = L := by
 obtain ⟨bp, bb, Mp, Mb, hp, hb, rfl⟩ := h
 refine jl (n := 5) Tryz.func18 rfl rfl rfl ?_
 refine goB ?_
 refine jN (jb je rfl (K3 ap bp bb a (hX _ (List.mem_cons_self ..)))) rfl ?_
 refine goB ?_
 refine jf 2 _ rfl rfl ?_
 exact ⟨rfl, rfl⟩
theorem adQ {ap : Nat} {a : As} {X : ja} (h : yp ap a X) : Spec Tryz.prog G 16 #[.pointer (some ⟨ap, 0, none⟩)] (X ++ L) fun u M => ∃ b2 X2, u = .pointer (some ⟨b2, 0, none⟩) ∧ yp b2 a X2 ∧ M = X2 ++ (X ++ L) := by
 obtain ⟨bp, bb, Mp, Mb, hp, hb, rfl⟩ := h
 have e5 : (jk a bp bb)[0 + 5]? = some (.pointer (some ⟨bp, 0, none⟩)) := rfl
 have e6 : (jk a bp bb)[0 + 6]? = some (.pointer (some ⟨bb, 0, none⟩)) := rfl
 have g1 : Option.isNone (some (⟨ap, 0, none⟩ : Addr)) = false := rfl
 rw [List.cons_append]
 refine jl (n := 21) Tryz.func16 rfl rfl rfl ?_
 repeat (first | refine goB ?_ | (refine jQ ?_; intro bNew))
 refine jE (L' := Mp ++ ((bNew, Obj.cells (jk a bp bb) 102 (0, 0)) :: (ap, Obj.cells (jk a bp bb) 102 (0, 0)) :: (Mb ++ L))) ?_ ji
 refine jx (jb je rfl (aeN hp)) rfl ?_
 rintro _ _ ⟨bq, M2, rfl, hp2, rfl⟩
 refine jE (L' := (bNew, Obj.cells (jk a bp bb) 102 (0, 0)) :: (ap, Obj.cells (jk a bp bb) 102 (0, 0)) :: (M2 ++ (Mp ++ (Mb ++ L)))) ?_ ji
 refine goB ?_
 refine qv (L' := (bNew, Obj.cells (jk a bq bb) 102 (0, 0)) :: (ap, Obj.cells (jk a bp bb) 102 (0, 0)) :: (M2 ++ (Mp ++ (Mb ++ L)))) (fun w h => h) ?_
 refine jE (L' := Mb ++ ((bNew, Obj.cells (jk a bq bb) 102 (0, 0)) :: (ap, Obj.cells (jk a bp bb) 102 (0, 0)) :: (M2 ++ (Mp ++ L)))) ?_ ji
 refine jx (jb je rfl (adv hb)) rfl ?_
 rintro _ _ ⟨b3, M3, rfl, hb3, rfl⟩
 refine jE (L' := (bNew, Obj.cells (jk a bq bb) 102 (0, 0)) :: (ap, Obj.cells (jk a bp bb) 102 (0, 0)) :: (M3 ++ (Mb ++ (M2 ++ (Mp ++ L))))) ?_ ji
 refine goB ?_
 refine jr (L' := (bNew, Obj.cells (jk a bq b3) 102 (0, 0)) :: (ap, Obj.cells (jk a bp bb) 102 (0, 0)) :: (M3 ++ (Mb ++ (M2 ++ (Mp ++ L))))) (fun w h => h) ?_
 refine jG (L' := ((bNew, Obj.cells (jk a bq b3) 102 (0, 0)) :: (M2 ++ M3)) ++ (((ap, Obj.cells (jk a bp bb) 102 (0, 0)) :: (Mp ++ Mb)) ++ L)) ?_ ji
 refine jf 2 _ rfl rfl ?_
 exact ⟨bNew, _, rfl, ⟨bq, b3, M2, M3, hp2, hb3, rfl⟩, rfl⟩
end Go.Proofs.YtbjkkoacclfejaaGreat
namespace Go.Proofs.YtbjkkoacclfejaaGreat
open Go.RowKit
open Hg (En Pl)
open Vd (RSet Vdt Vote Rec Quest Piece Ballot)
variable {G : World} {L : ja}
section
variable {P : Program} {ρ : jB} {ty : TypeId}
theorem JO {x : Operand} {t : TypeId} {fs : Array Field} {v : Value} (hx : ev ρ x = some v) (hu : P.underlying t = some (.struct fs)) : OpQ P ρ L (.makeInterface t x) ty (.iface t v) :=
 ⟨fun r hr w hw o ho _ => by simp [execOp, ho, hr _ _ hx, Instr.makeInterface, run_underlying hu]⟩
end
theorem aix : Built Tryz.prog 152 [] (.agg #[]) := ⟨fun w => by kernel_rfl⟩
theorem aiy : Built Tryz.prog 155 [] (.agg #[]) := ⟨fun w => by kernel_rfl⟩
theorem WZ (k : Nat) (lies : Int) (hl : 0 ≤ lies ∧ lies ≤ 1000) : Spec Tryz.prog G 38 #[.int .u8 (k : Nat), .int .i64 lies] L fun u M => (u = if 1 ≤ k ∧ k ≤ 3 then .tuple #[.iface (YK k) (Ui k (lies + 1)), .int .i64 (if k = 3 then 1 else lies + 1), .bool true] else .tuple #[.nilIface, .int .i64 0, .bool false]) ∧ M = L := by
 refine jl (n := 26) Tryz.func38 rfl rfl rfl ?_
 by_cases h1 : k = 1
 · subst h1
   refine goB ?_
   refine jy (jm rfl aix) rfl ?_
   refine jy (JO rfl Tryz.underlying152) rfl ?_
   refine goB ?_
   refine qd 4 5 6 _ _ _ rfl rfl rfl rfl ?_
   exact ⟨rfl, rfl⟩
 by_cases h2 : k = 2
 · subst h2
   repeat (first | refine goB ?_ | refine jy (jm rfl (VZ _)) rfl ?_)
   refine jy (JO rfl Tryz.underlying154) rfl ?_
   refine goB ?_
   refine qd 4 5 6 _ _ _ rfl rfl rfl rfl ?_
   exact ⟨rfl, rfl⟩
 by_cases h3 : k = 3
 · subst h3
   refine goB ?_
   refine jy (jm rfl aiy) rfl ?_
   refine jy (JO rfl Tryz.underlying155) rfl ?_
   refine goB ?_
   refine qd 4 5 6 _ _ _ rfl rfl rfl rfl ?_
   exact ⟨rfl, rfl⟩
 rw [if_neg jd]
 refine goB ?_
 refine qd 4 5 6 _ _ _ rfl rfl rfl rfl ?_
 exact ⟨rfl, rfl⟩
theorem yZ {ups : Int} {l : List Int} {i : Nat} {x : Int} (hx : l[i]? = some x) (h : x < 0 ∨ ups ≤ x ∨ x ∈ l.take i) : Aq.distinct ups l = false := by
 unfold Aq.distinct
 rw [Bool.and_eq_false_iff]
 rcases h with h | h | h
 · left; rw [List.all_eq_false]; exact ⟨x, List.mem_of_getElem? hx, by simp; omega⟩
 · left; rw [List.all_eq_false]; exact ⟨x, List.mem_of_getElem? hx, by simp; omega⟩
 · right
   rw [decide_eq_false_iff_not]
   intro hn
   obtain ⟨hi, rfl⟩ := List.getElem?_eq_some_iff.1 hx
   obtain ⟨j, hj, e⟩ := List.getElem_of_mem h
   have hj' : j < i := by simp at hj; omega
   rw [List.getElem_take] at e
   have := (List.getElem_inj hn).1 e
   omega
theorem YO (vl : Value) (l : List Int) (ups : Int) (hl : IRow L vl l) (hn : l.length ≤ 1000) (hu : 1 ≤ ups ∧ ups ≤ 9) : Spec Tryz.prog G 39 #[vl, .int .i64 ups] L fun u M => u = .bool (Aq.distinct ups l) ∧ M = L := by
 obtain ⟨al, cl, rfl, hl⟩ := hl
 refine jl (n := 29) Tryz.func39 rfl rfl rfl ?_
 repeat (first | refine goB ?_ | (refine jQ ?_; intro bNew))
 refine jz (σ := Nat) (fun k => k ≤ l.length ∧ (∀ x ∈ l.take k, 0 ≤ x ∧ x < ups) ∧ (l.take k).Nodup) (fun k => [(1, .int .i64 ups), (5, .pointer (some ⟨bNew, 0, none⟩)), (8, .slice al l.length cl), (9, .int .i64 (l.length : Nat)), (10, .int .i64 (k : Nat))]) (fun k => (bNew, .cells (zp (l.take k)) 48 (0, 0)) :: L) (fun k => l.length - k) 0 ⟨Nat.zero_le _, by simp, by simp⟩ ?_ (fun w h => h) ?_
 exact js
 rintro k ⟨hk, hall, hnd⟩
 by_cases hlt : k < l.length
 · obtain ⟨x, hx⟩ : ∃ x, l[k]? = some x := ⟨_, List.getElem?_eq_getElem hlt⟩
   rcases hl with rfl | ⟨b1, o1, C1, t1, f1, rfl, m1, q1⟩
   · simp at hlt
   have c1 := q1 k x hx
   have tk : l.take (k + 1) = l.take k ++ [x] := by rw [List.take_add_one, hx]; rfl
   by_cases x0 : x < 0
   · rw [yZ hx (Or.inl x0)]
     refine goB ?_
     refine jG (L' := L) ?_ ji
     refine jf 4 _ rfl rfl ?_
     exact ⟨rfl, rfl⟩
   by_cases x9 : ups ≤ x
   · rw [yZ hx (Or.inr (Or.inl x9))]
     refine goB ?_
     refine jG (L' := L) ?_ ji
     refine jf 4 _ rfl rfl ?_
     exact ⟨rfl, rfl⟩
   have g3 := Zl (l.take k) x jd jd
   cases hc : (l.take k).contains x with
   | true =>
     rw [hc] at g3
     have hmem : x ∈ l.take k := by simpa using hc
     rw [yZ hx (Or.inr (Or.inr hmem))]
     refine goB ?_
     refine jG (L' := L) ?_ ji
     refine jf 4 _ rfl rfl ?_
     exact ⟨rfl, rfl⟩
   | false =>
     rw [hc] at g3
     have hmem : x ∉ l.take k := by simpa using hc
     refine goB ?_
     refine jg (k + 1) ⟨hlt, ?_, ?_⟩ ?_ (fun w h => ?_) jd
     · rw [tk]
       intro y hy
       rcases List.mem_append.1 hy with hy | hy
       · exact hall y hy
       · rw [List.mem_singleton.1 hy]; omega
     · rw [tk]
       refine List.nodup_append.2 ⟨hnd, by simp, fun a ha b hb => ?_⟩
       rw [List.mem_singleton.1 hb]
       rintro rfl
       exact hmem ha
     exact js
     · rw [tk]
       rw [WS _ _ jd jd] at h
       exact h
 · have hkn : k = l.length := by omega
   subst hkn
   rw [List.take_length] at hall hnd
   have hy : Aq.distinct ups l = true := by
    unfold Aq.distinct
    rw [Bool.and_eq_true]
    exact ⟨List.all_eq_true.2 fun x hx => decide_eq_true (hall x hx), decide_eq_true hnd⟩
   rw [hy]
   refine goB ?_
   refine jG (L' := L) ?_ ji
   refine jf 4 _ rfl rfl ?_
   exact ⟨rfl, rfl⟩
end Go.Proofs.YtbjkkoacclfejaaGreat
