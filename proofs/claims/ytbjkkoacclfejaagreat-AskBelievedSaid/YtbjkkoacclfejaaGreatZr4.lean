/-
 Part 4: Gi Gj Gk Gl Gm Gn Go Gp Kb Kc Kd Ke.
-/
import Derived.Test.YtbjkkoacclfejaaGreatZr3
import Derived.Test.YtbjkkoacclfejaaGreatZr1
import Derived.Test.YtbjkkoacclfejaaGreatZr2
set_option maxRecDepth 100000
set_option maxHeartbeats 4000000
set_option linter.unusedVariables false
set_option linter.unusedSimpArgs false
namespace Go.Proofs.YtbjkkoacclfejaaGreat
section
open Go.RowKit
open Vd (RSet Vdt Vote Rec Quest Piece)
variable {G : World} {L : ja}
theorem ut {P : Program} {ρ : jB} {ty : TypeId} {s x : Operand} {t e te : TypeId} {bytes bl : Nat} {z : Value} {a : Option Addr} {c : Nat} {cs : List Value} {y : RSet} {l : List RSet} {B L0 : ja} (E : ElemTy P t e 5 bytes z) (hs : ev ρ s = some (.slice a l.length c)) (hx : ev ρ x = some (.slice (some ⟨bl, 0, none⟩) 1 1))
 (hrow : ORow rsR e 5 L0 a c l B) (hy : rsR L0 cs y) (h63 : l.length ≤ 1000000) (hb : bytes ≤ 1000) :
 OpT P G ρ ((bl, .cells cs.toArray te (0, 0)) :: (B ++ L)) (.call ⟨.builtin .append, #[s, x], #[t, t]⟩) ty fun v' L' => ∃ a' c' B', v' = .slice a' (l ++ [y]).length c' ∧ ORow rsR e 5 L0 a' c' (l ++ [y]) B' ∧ L' = B' ++ L :=
 qO E hs hx hrow hy.len hy.one hy (by unfold maxLen; omega) (Nat.le_trans (Nat.mul_le_mul (show l.length + 1 ≤ 1000001 by omega) hb) (by decide))
theorem adh {K : ja} {bD : Nat} {te : TypeId} {fr : Nat × Nat} {name d : Vd.Bytes} {kind cls ttl : Int} (hm : (bD, Obj.cells #[.string (bs d)] te fr) ∈ K) (hd : d.length ≤ 1000000) (hn : name.length ≤ 1000000) (h1 : 0 ≤ kind ∧ kind ≤ 65535) (h2 : 0 ≤ cls ∧ cls ≤ 65535) (h3 : 0 ≤ ttl ∧ ttl ≤ 4294967295) :
 rsR K [.string (bs name), .int .u16 kind, .int .u16 cls, .int .u32 ttl, .slice (some ⟨bD, 0, none⟩) 1 1] ⟨name, kind, cls, ttl, [d]⟩ := by
 refine ⟨_, rfl, ⟨_, 1, rfl, Nat.le_refl _, by unfold maxLen; omega, Or.inr ⟨bD, 0, _, _, _, rfl, hm, fun i x hx => ?_⟩⟩, by show name.length ≤ maxLen; unfold maxLen; omega, h1, h2, h3⟩
 match i, hx with
 | 0, hx =>
   cases hx
   refine ⟨[.string (bs d)], rfl, ⟨rfl, by unfold maxLen; omega⟩, fun j v hj => ?_⟩
   match j, hj with
   | 0, hj => cases hj; rfl
theorem km {α : Type} {r : List Value → α → Prop} : uL (fun _ => r) := fun _ _ _ _ _ h => h
theorem Qx {t : Int} (h : 0 ≤ t ∧ t ≤ 4294967295) : 0 ≤ Vd.timeT t ∧ Vd.timeT t ≤ 4294967295 := by unfold Vd.timeT; split <;> omega
theorem adi {cur : Array Value} {o : Nat} {x0 x1 x2 x3 x4 y3 y4 : Value} (h : ∀ j v, ([x0, x1, x2, x3, x4] : List Value)[j]? = some v → cur[o + j]? = some v) :
 (∀ j v, ([x0, x1, x2, y3, y4] : List Value)[j]? = some v → ((cur.setIfInBounds (o + 3) y3).setIfInBounds (o + 4) y4)[o + j]? = some v) ∧ (∀ k, k < o ∨ o + 5 ≤ k → ((cur.setIfInBounds (o + 3) y3).setIfInBounds (o + 4) y4)[k]? = cur[k]?) := by
 have h4 := h 4 _ rfl
 have hs := (Array.getElem?_eq_some_iff.1 h4).1
 refine ⟨fun j v hj => ?_, fun k hk => ?_⟩
 · match j, hj with
   | 0, hj => cases hj; rw [Array.getElem?_setIfInBounds_ne jd, Array.getElem?_setIfInBounds_ne jd]; exact h 0 _ rfl
   | 1, hj => cases hj; rw [Array.getElem?_setIfInBounds_ne jd, Array.getElem?_setIfInBounds_ne jd]; exact h 1 _ rfl
   | 2, hj => cases hj; rw [Array.getElem?_setIfInBounds_ne jd, Array.getElem?_setIfInBounds_ne jd]; exact h 2 _ rfl
   | 3, hj => cases hj; rw [Array.getElem?_setIfInBounds_ne jd, Array.getElem?_setIfInBounds_self_of_lt jd]
   | 4, hj => cases hj; rw [Array.getElem?_setIfInBounds_self_of_lt (by rw [Array.size_setIfInBounds]; omega)]
 · rw [Array.getElem?_setIfInBounds_ne jd, Array.getElem?_setIfInBounds_ne jd]
theorem Vt (v : Value) (l : List Rec) (hl : sliceR 5 yx L [v] l) (hn : l.length ≤ 10000) (hnm : ∀ x ∈ l, x.name.length ≤ 1000000) (hdt : ∀ x ∈ l, x.data.length ≤ 1000000) :
 Spec Tryz.prog G 78 #[v] L fun u M => ∃ a c B N, u = .slice a (Vd.group l).length c ∧ ORow rsR 122 5 N a c (Vd.group l) B ∧ Wr N ∧ M = B ++ (N ++ L) := by
 obtain ⟨a0, c0, e1, hl⟩ := hl.val
 simp only [List.cons.injEq, and_true] at e1
 subst e1
 obtain ⟨_, ka1, ka2, hl⟩ := sliceR.cut hl
 unfold maxLen at ka2
 refine jl (n := 154) Tryz.func78 rfl rfl rfl ?_
 refine goA ?_
 refine jz (σ := Nat × Option Addr × Nat × ja × ja) (fun x => x.1 ≤ l.length ∧ ORow rsR 122 5 x.2.2.2.2 x.2.1 x.2.2.1 (Vd.gather (l.take x.1)) x.2.2.2.1 ∧ Wr x.2.2.2.2) (fun x => [(0, .slice a0 l.length c0), (3, .slice x.2.1 (Vd.gather (l.take x.1)).length x.2.2.1), (4, .int .i64 (x.1 : Nat))]) (fun x => x.2.2.2.1 ++ (x.2.2.2.2 ++ L)) (fun x => l.length - x.1) (0, none, 0, [], []) ⟨Nat.zero_le _, ORow.nil _, Wr.nil⟩ ?_ (fun w h => h) ?_
 exact js
 rintro ⟨i, a, c, B, N⟩ ⟨hi, hB, hN⟩
 dsimp only at hi hB hN ⊢
 have hbd := JF l hdt i hi
 by_cases hlt : i < l.length
 · rcases hl with rfl | ⟨b1, o1, C1, t1, f1, rfl, m1, q1⟩
   · simp at hlt
   obtain ⟨x, hx⟩ : ∃ x, l[i]? = some x := ⟨_, List.getElem?_eq_getElem hlt⟩
   obtain ⟨cx, _, ⟨rfl, _, _, x1, x2, x3⟩, hcx⟩ := q1 i x hx
   have hxn := hnm x (List.mem_of_getElem? hx)
   have hxd := hdt x (List.mem_of_getElem? hx)
   have hg := yQ hx
   obtain ⟨sets, hsets⟩ : ∃ s, Vd.gather (l.take i) = s := ⟨_, rfl⟩
   rw [hsets] at hB hbd hg ⊢
   have hfew := hbd.few
   have m2 : (b1, Obj.cells C1 t1 f1) ∈ B ++ (N ++ L) := List.mem_append_right _ (List.mem_append_right _ m1)
   refine goA ?_
   refine jy (jA [.string (bs x.name), .int .u16 x.kind, .int .u16 x.cls, .int .u32 x.ttl, .string (bs x.data)] rfl stL m2 hcx) rfl ?_
   cases hm : Nm.may x.name with
   | false =>
     have hadd : Vd.addRec sets x = sets := by unfold Vd.addRec; rw [hm]; rfl
     rw [hadd] at hg
     repeat (first | refine goA ?_ | (refine' jN (jb je rfl (qi _ ?_)) rfl ?_; (· omega)) | (refine jQ ?_; intro bNew))
     refine jg (i + 1, a, c, B, N) ⟨hlt, by rw [hg]; exact hB, hN⟩ ?_ (fun w h => h.tail) (by dsimp only; omega)
     dsimp only
     rw [hg]
     exact js
   | true =>
   cases hd : Vd.mayD x.kind x.data with
   | false =>
     have hadd : Vd.addRec sets x = sets := by unfold Vd.addRec; rw [hm, hd]; rfl
     rw [hadd] at hg
     repeat (first | refine goA ?_ | (refine' jN (jb je rfl (qi _ ?_)) rfl ?_; (· omega)) | (refine' jX (jb je rfl (Vo _ _ ?_)) rfl ?_; (· omega)) | (refine jQ ?_; intro bNew))
     refine jg (i + 1, a, c, B, N) ⟨hlt, by rw [hg]; exact hB, hN⟩ ?_ (fun w h => h.tail) (by dsimp only; omega)
     dsimp only
     rw [hg]
     exact js
   | true =>
   have hx5 : (Vd.foldD x.kind x.data).length ≤ 1000000 := Nat.le_trans (Uy _ _) hxd
   have hf5 : (Nm.fold x.name).length ≤ 1000000 := Nat.le_trans (ur _) jd
   repeat (first | refine goA ?_ | (refine' jN (jb je rfl (qi _ ?_)) rfl ?_; (· omega)) | (refine' jN (jb je rfl (zk _ ?_)) rfl ?_; (· omega)) | (refine' jX (jb je rfl (Vo _ _ ?_)) rfl ?_; (· omega)) | (refine' jN (jb je rfl (adc _ _ ?_)) rfl ?_; (· omega)) | (refine jQ ?_; intro bNew))
   refine jz (σ := Nat) (fun k => k ≤ sets.length) (fun k => [(0, .slice (some ⟨b1, o1, none⟩) l.length c0), (3, .slice a sets.length c), (4, .int .i64 (i : Nat)), (5, .pointer (some ⟨bNew, 0, none⟩)), (6, .string (bs (Nm.fold x.name))), (7, .string (bs (Vd.foldD x.kind x.data))), (8, .int .i64 (kv (Vd.keyAt sets (Nm.fold x.name) x.kind x.cls k))), (9, .int .i64 (k : Nat))])
    (fun k => (bNew, Obj.cells #[.string (bs x.name), .int .u16 x.kind, .int .u16 x.cls, .int .u32 x.ttl, .string (bs x.data)] 177 (0, 0)) :: (B ++ (N ++ L))) (fun k => sets.length - k) 0 (Nat.zero_le _) ?_ (fun w h => h) ?_
   exact js
   intro k hk
   by_cases hkl : k < sets.length
   · obtain ⟨s, hs⟩ : ∃ s, sets[k]? = some s := ⟨_, List.getElem?_eq_getElem hkl⟩
     obtain ⟨b2, cur, rfl, rfl, _, _, _, hcur⟩ := hB.block (fun e => by rw [e] at hkl; simp at hkl)
     obtain ⟨cs, _, hs2, _, hcs⟩ := hcur k s hs
     obtain ⟨sa, sc, rfl, _⟩ := hs2.val
     have g0 : cur[0 + k * 5 + 0]? = some (.string (bs s.name)) := by rw [Nat.zero_add]; exact hcs 0 _ rfl
     have g1 : cur[0 + k * 5 + 1]? = some (.int .u16 s.kind) := by rw [Nat.zero_add]; exact hcs 1 _ rfl
     have g2 : cur[0 + k * 5 + 2]? = some (.int .u16 s.cls) := by rw [Nat.zero_add]; exact hcs 2 _ rfl
     have r1 : (#[.string (bs x.name), .int .u16 x.kind, .int .u16 x.cls, .int .u32 x.ttl, .string (bs x.data)] : Array Value)[0 + 1]? = some (.int .u16 x.kind) := rfl
     have r2 : (#[.string (bs x.name), .int .u16 x.kind, .int .u16 x.cls, .int .u32 x.ttl, .string (bs x.data)] : Array Value)[0 + 2]? = some (.int .u16 x.cls) := rfl
     have hst : Vd.keyAt sets (Nm.fold x.name) x.kind x.cls (k + 1) = if Vd.hasKey s (Nm.fold x.name) x.kind x.cls then some k else Vd.keyAt sets (Nm.fold x.name) x.kind x.cls k := by
      rw [Vd.keyAt, hs]
     have hKm : ∀ z ∈ [(b2, Obj.cells cur 122 (0, 0)), (bNew, Obj.cells #[.string (bs x.name), .int .u16 x.kind, .int .u16 x.cls, .int .u32 x.ttl, .string (bs x.data)] 177 (0, 0))], z ∈ (bNew, Obj.cells #[.string (bs x.name), .int .u16 x.kind, .int .u16 x.cls, .int .u32 x.ttl, .string (bs x.data)] 177 (0, 0)) :: ([(b2, Obj.cells cur 122 (0, 0))] ++ (N ++ L)) := jn
     by_cases k1 : s.name = Nm.fold x.name
     · by_cases k2 : s.kind = x.kind
       · by_cases k3 : s.cls = x.cls
         · rw [if_pos (by simp [Vd.hasKey, k1, k2, k3])] at hst
           refine goA ?_
           refine jw jc ([(b2, Obj.cells cur 122 (0, 0)), (bNew, Obj.cells #[.string (bs x.name), .int .u16 x.kind, .int .u16 x.cls, .int .u32 x.ttl, .string (bs x.data)] 177 (0, 0))]) [] ?_
           refine tkQ 0 ?_
           refine tkQ 1 ?_
           refine tkQ 2 ?_
           refine tkQ 3 ?_
           refine tkQ 4 ?_
           refine tkQ 5 ?_
           refine tkQ 6 ?_
           refine tkQ 7 ?_
           refine tkQ 8 ?_
           refine tkQ 9 ?_
           refine tkQ 10 ?_
           refine tkQ 11 ?_
           refine tkQ 12 ?_
           refine tkQ 13 ?_
           refine tkQ 14 ?_
           refine tkQ 15 ?_
           refine tkQ 16 ?_
           refine tkQ 17 ?_
           refine tkQ 18 ?_
           refine tkQ 19 ?_
           refine tkQ 20 ?_
           refine tkQ 21 ?_
           refine tkQ 22 ?_
           refine tkQ 23 ?_
           refine tkQ 24 ?_
           refine tkQ 25 ?_
           refine tkQ 26 ?_
           refine tdQ ?_
           refine goA ?_
           refine jg (k + 1) hkl ?_ (fun w h => h) jd
           rw [hst]
           exact js
         · rw [if_neg (by simp [Vd.hasKey, k3])] at hst
           refine goA ?_
           refine jw jc ([(b2, Obj.cells cur 122 (0, 0)), (bNew, Obj.cells #[.string (bs x.name), .int .u16 x.kind, .int .u16 x.cls, .int .u32 x.ttl, .string (bs x.data)] 177 (0, 0))]) [] ?_
           refine tkQ 0 ?_
           refine tkQ 1 ?_
           refine tkQ 2 ?_
           refine tkQ 3 ?_
           refine tkQ 4 ?_
           refine tkQ 5 ?_
           refine tkQ 6 ?_
           refine tkQ 7 ?_
           refine tkQ 8 ?_
           refine tkQ 9 ?_
           refine tkQ 10 ?_
           refine tkQ 11 ?_
           refine tkQ 12 ?_
           refine tkQ 13 ?_
           refine tkQ 14 ?_
           refine tkQ 15 ?_
           refine tkQ 16 ?_
           refine tkQ 17 ?_
           refine tkQ 18 ?_
           refine tkQ 19 ?_
           refine tkQ 20 ?_
           refine tkQ 21 ?_
           refine tkQ 22 ?_
           refine tkQ 23 ?_
           refine tkQ 24 ?_
           refine tkQ 25 ?_
           refine tkQ 26 ?_
           refine tdQ ?_
           refine goA ?_
           refine jg (k + 1) hkl ?_ (fun w h => h) jd
           rw [hst]
           exact js
       · rw [if_neg (by simp [Vd.hasKey, k2])] at hst
         refine goA ?_
         refine jw jc ([(b2, Obj.cells cur 122 (0, 0)), (bNew, Obj.cells #[.string (bs x.name), .int .u16 x.kind, .int .u16 x.cls, .int .u32 x.ttl, .string (bs x.data)] 177 (0, 0))]) [] ?_
         refine tkQ 0 ?_
         refine tkQ 1 ?_
         refine tkQ 2 ?_
         refine tkQ 3 ?_
         refine tkQ 4 ?_
         refine tkQ 5 ?_
         refine tkQ 6 ?_
         refine tkQ 7 ?_
         refine tkQ 8 ?_
         refine tkQ 9 ?_
         refine tkQ 10 ?_
         refine tkQ 11 ?_
         refine tkQ 12 ?_
         refine tkQ 13 ?_
         refine tkQ 14 ?_
         refine tkQ 15 ?_
         refine tkQ 16 ?_
         refine tkQ 17 ?_
         refine tkQ 18 ?_
         refine tkQ 19 ?_
         refine tkQ 20 ?_
         refine tkQ 21 ?_
         refine tkQ 22 ?_
         refine tkQ 23 ?_
         refine tkQ 24 ?_
         refine tkQ 25 ?_
         refine tkQ 26 ?_
         refine tdQ ?_
         refine goA ?_
         refine jg (k + 1) hkl ?_ (fun w h => h) jd
         rw [hst]
         exact js
     · rw [if_neg (by simp [Vd.hasKey, k1])] at hst
       refine goA ?_
       refine jw jc ([(b2, Obj.cells cur 122 (0, 0)), (bNew, Obj.cells #[.string (bs x.name), .int .u16 x.kind, .int .u16 x.cls, .int .u32 x.ttl, .string (bs x.data)] 177 (0, 0))]) [] ?_
       refine tkQ 0 ?_
       refine tkQ 1 ?_
       refine tkQ 2 ?_
       refine tkQ 3 ?_
       refine tkQ 4 ?_
       refine tkQ 5 ?_
       refine tkQ 6 ?_
       refine tkQ 7 ?_
       refine tkQ 8 ?_
       refine tkQ 9 ?_
       refine tkQ 10 ?_
       refine tkQ 11 ?_
       refine tkQ 12 ?_
       refine tkQ 13 ?_
       refine tkQ 14 ?_
       refine tkQ 15 ?_
       refine tkQ 16 ?_
       refine tkQ 17 ?_
       refine tkQ 18 ?_
       refine tkQ 19 ?_
       refine tkQ 20 ?_
       refine tkQ 21 ?_
       refine tkQ 22 ?_
       refine tkQ 23 ?_
       refine tkQ 24 ?_
       refine tkQ 25 ?_
       refine tkQ 26 ?_
       refine tdQ ?_
       refine goA ?_
       refine jg (k + 1) hkl ?_ (fun w h => h) jd
       rw [hst]
       exact js
   · have hkn : k = sets.length := by omega
     subst hkn
     clear hk hkl
     cases hj : Vd.keyAt sets (Nm.fold x.name) x.kind x.cls sets.length with
     | none =>
       have hadd : Vd.addRec sets x = sets ++ [⟨Nm.fold x.name, x.kind, x.cls, Vd.timeT x.ttl, [Vd.foldD x.kind x.data]⟩] := by unfold Vd.addRec; rw [hm, hd, hj]; rfl
       rw [hadd] at hg
       have hkv : kv none = -1 := rfl
       rw [hkv]
       have hKm : ∀ z ∈ [(bNew, Obj.cells #[.string (bs x.name), .int .u16 x.kind, .int .u16 x.cls, .int .u32 x.ttl, .string (bs x.data)] 177 (0, 0))], z ∈ (bNew, Obj.cells #[.string (bs x.name), .int .u16 x.kind, .int .u16 x.cls, .int .u32 x.ttl, .string (bs x.data)] 177 (0, 0)) :: (B ++ (N ++ L)) := jn
       have htt := Qx x3
       refine goA ?_
       refine jw jc ([(bNew, Obj.cells #[.string (bs x.name), .int .u16 x.kind, .int .u16 x.cls, .int .u32 x.ttl, .string (bs x.data)] 177 (0, 0))]) [] ?_
       refine tkQ 0 ?_
       refine tkQ 1 ?_
       refine tkQ 2 ?_
       refine tkQ 3 ?_
       refine tkQ 4 ?_
       refine tkQ 5 ?_
       refine tkQ 6 ?_
       refine tkQ 7 ?_
       refine' ju 8 rfl rfl je (jR je rfl (fun _ _ => abj _ )) ?_ ?_; (· assumption)
       refine tkQ 9 ?_
       refine jD 10 je rfl rfl rfl rfl (KP etO rfl rfl) ?_; rintro _ _ ⟨bD, rfl, rfl⟩; refine ⟨Or.inr jn, ?_⟩
       (refine' ju 11 rfl rfl je (jF (jm rfl (uO _ _ _ _ _ _ _))) ?_ ?_; (· intro p hp; grind))
       refine jD 12 je rfl rfl rfl rfl (q9 etO rfl rfl (by decide)) ?_; rintro _ _ ⟨bS, rfl, rfl⟩; refine ⟨Or.inr jn, ?_⟩
       refine kk (L' := (bS, Obj.cells #[.string (bs (Nm.fold x.name)), .int .u16 x.kind, .int .u16 x.cls, .int .u32 (Vd.timeT x.ttl), .slice (some ⟨bD, 0, none⟩) 1 1] 122 (0, 0)) :: (B ++ ((bNew, Obj.cells #[.string (bs x.name), .int .u16 x.kind, .int .u16 x.cls, .int .u32 x.ttl, .string (bs x.data)] 177 (0, 0)) :: (((bD, Obj.cells #[.string (bs (Vd.foldD x.kind x.data))] 9 (0, 0)) :: N) ++ L)))) ?_ ji; refine jD 13 je rfl rfl rfl rfl (ut (L0 := (bD, Obj.cells #[.string (bs (Vd.foldD x.kind x.data))] 9 (0, 0)) :: N) (cs := [.string (bs (Nm.fold x.name)), .int .u16 x.kind, .int .u16 x.cls, .int .u32 (Vd.timeT x.ttl), .slice (some ⟨bD, 0, none⟩) 1 1]) (y := ⟨Nm.fold x.name, x.kind, x.cls, Vd.timeT x.ttl, [Vd.foldD x.kind x.data]⟩) etO rfl rfl (hB.mono jv jn) (adh (List.mem_cons_self ..) hx5 hf5 x1 x2 htt) jd (by decide)) ?_; rintro _ _ ⟨a', c', B', rfl, hB', rfl⟩; refine ⟨Or.inr jn, ?_⟩
       refine tkQ 14 ?_
       refine tdQ ?_
       refine goA ?_
       refine jg (i + 1, a', c', B', (bD, Obj.cells #[.string (bs (Vd.foldD x.kind x.data))] 9 (0, 0)) :: N) ⟨hlt, by rw [hg]; exact hB', Wr.cons hN⟩ ?_ (fun w h => h.cnt ji) (by dsimp only; omega)
       dsimp only
       rw [hg]
       exact js
     | some j =>
       have hjl := Wv _ j hj (Nat.le_refl _)
       have hkv : kv (some j) = (j : Nat) := rfl
       rw [hkv]
       obtain ⟨s, hs⟩ : ∃ s, sets[j]? = some s := ⟨_, List.getElem?_eq_getElem hjl⟩
       have hadd : Vd.addRec sets x = sets.set j { s with ttl := min s.ttl (Vd.timeT x.ttl), data := Vd.put s.data (Vd.foldD x.kind x.data) } := by unfold Vd.addRec; rw [hm, hd, hj]; dsimp only; rw [hs]; rfl
       rw [hadd] at hg
       obtain ⟨b2, cur, rfl, hBe, _, _, hcsz, hcur⟩ := hB.block (fun e => by rw [e] at hjl; simp at hjl)
       obtain ⟨cs, _, hs2, _, hcs⟩ := hcur j s hs
       obtain ⟨sa, sc, rfl, hsl, n1, n2, n3, n4⟩ := hs2.vals
       subst hBe
       have htt := Qx x3
       have g3 : cur[0 + j * 5 + 3]? = some (.int .u32 s.ttl) := by rw [Nat.zero_add]; exact hcs 3 _ rfl
       have hKm : ∀ z ∈ [(b2, Obj.cells cur 122 (0, 0)), (bNew, Obj.cells #[.string (bs x.name), .int .u16 x.kind, .int .u16 x.cls, .int .u32 x.ttl, .string (bs x.data)] 177 (0, 0))], z ∈ (bNew, Obj.cells #[.string (bs x.name), .int .u16 x.kind, .int .u16 x.cls, .int .u32 x.ttl, .string (bs x.data)] 177 (0, 0)) :: ([(b2, Obj.cells cur 122 (0, 0))] ++ (N ++ L)) := jn
       refine goA ?_
       refine jw jc ([(b2, Obj.cells cur 122 (0, 0)), (bNew, Obj.cells #[.string (bs x.name), .int .u16 x.kind, .int .u16 x.cls, .int .u32 x.ttl, .string (bs x.data)] 177 (0, 0))]) [13] ?_
       refine tkQ 0 ?_
       refine tkQ 1 ?_
       refine tkQ 2 ?_
       refine tkQ 3 ?_
       refine tkQ 4 ?_
       refine tkQ 5 ?_
       refine tkQ 6 ?_
       refine tkQ 7 ?_
       refine tkQ 8 ?_
       refine' ju 9 rfl rfl je (jR je rfl (fun _ _ => abj _ )) ?_ ?_; (· assumption)
       refine tkQ 10 ?_
       refine tkQ 11 ?_
       refine tkQ 12 ?_
       refine kk (L' := (b2, Obj.cells cur 122 (0, 0)) :: ((bNew, Obj.cells #[.string (bs x.name), .int .u16 x.kind, .int .u16 x.cls, .int .u32 x.ttl, .string (bs x.data)] 177 (0, 0)) :: (N ++ L))) ?_ ji; refine jU 13 je rfl rfl rfl (zA rfl rfl onO rfl g3 rfl) ?_; rintro _ _ ⟨_, rfl⟩; refine ⟨Or.inl (by simp), ?_⟩
       refine tdQ ?_
       have g4 : (cur.setIfInBounds (0 + j * 5 + 3) (.int .u32 (min s.ttl (Vd.timeT x.ttl))))[0 + j * 5 + 4]? = some (.slice sa s.data.length sc) := by
        rw [Array.getElem?_setIfInBounds_ne jd, Nat.zero_add]
        exact hcs 4 _ rfl
       have hsn := hbd.data s (List.mem_of_getElem? hs)
       have hc34 : ∀ y4 : Value, _ := fun y4 => adi (o := 0 + j * 5) (y3 := .int .u32 (min s.ttl (Vd.timeT x.ttl))) (y4 := y4) (fun jj v hv => by rw [Nat.zero_add]; exact hcs jj v hv)
       have hb34 : 0 ≤ min s.ttl (Vd.timeT x.ttl) ∧ min s.ttl (Vd.timeT x.ttl) ≤ 4294967295 := by omega
       refine goA ?_
       refine jx (jb je rfl (ag1 _ s.data (Vd.foldD x.kind x.data) (jq kP _ _ _ _ jn hsl) jd (by unfold maxLen; omega))) rfl ?_
       rintro _ _ (⟨rfl, hpe, rfl⟩ | ⟨a', c', B', rfl, hB', rfl⟩)
       · obtain ⟨hin, hout⟩ := hc34 (.slice sa s.data.length sc)
         refine goA ?_
         refine jg (i + 1, some ⟨b2, 0, none⟩, c, [(b2, Obj.cells ((cur.setIfInBounds (0 + j * 5 + 3) (.int .u32 (min s.ttl (Vd.timeT x.ttl)))).setIfInBounds (0 + j * 5 + 4) (.slice sa s.data.length sc)) 122 (0, 0))], N) ⟨hlt, ?_, hN⟩ ?_ (fun w h => h.cnt ji) (by dsimp only; omega)
         · dsimp only
           rw [hg, hpe]
           exact hB.set rfl hjl rfl (⟨_, rfl, hsl, n1, n2, n3, hb34⟩ : rsR N [.string (bs s.name), .int .u16 s.kind, .int .u16 s.cls, .int .u32 (min s.ttl (Vd.timeT x.ttl)), .slice sa s.data.length sc] { s with ttl := min s.ttl (Vd.timeT x.ttl), data := s.data }) (by intro v hv; simp only [List.mem_cons, List.not_mem_nil, or_false] at hv; rcases hv with rfl | rfl | rfl | rfl | rfl <;> rfl) (by simp) (by simpa only [Nat.zero_add] using hin) (by simpa only [Nat.zero_add] using hout)
         dsimp only
         rw [hg]
         rw [List.length_set]
         exact js
       · obtain ⟨hin, hout⟩ := hc34 (.slice a' (Vd.put s.data (Vd.foldD x.kind x.data)).length c')
         refine jE (L' := (b2, Obj.cells (cur.setIfInBounds (0 + j * 5 + 3) (.int .u32 (min s.ttl (Vd.timeT x.ttl)))) 122 (0, 0)) :: ((bNew, Obj.cells #[.string (bs x.name), .int .u16 x.kind, .int .u16 x.cls, .int .u32 x.ttl, .string (bs x.data)] 177 (0, 0)) :: ((B' ++ N) ++ L))) ?_ ji
         refine goA ?_
         refine jg (i + 1, some ⟨b2, 0, none⟩, c, [(b2, Obj.cells ((cur.setIfInBounds (0 + j * 5 + 3) (.int .u32 (min s.ttl (Vd.timeT x.ttl)))).setIfInBounds (0 + j * 5 + 4) (.slice a' (Vd.put s.data (Vd.foldD x.kind x.data)).length c')) 122 (0, 0))], B' ++ N) ⟨hlt, ?_, hB'.wr.append hN⟩ ?_ (fun w h => h.cnt ji) (by dsimp only; omega)
         · dsimp only
           rw [hg]
           exact (hB.mono (L' := B' ++ N) jv jn).set rfl hjl rfl (⟨_, rfl, ORow.sliceR (L' := B' ++ N) kP (hB'.imp (L' := []) (fun cs y _ h => h)) (by simp) jn, n1, n2, n3, hb34⟩ : rsR (B' ++ N) [.string (bs s.name), .int .u16 s.kind, .int .u16 s.cls, .int .u32 (min s.ttl (Vd.timeT x.ttl)), .slice a' (Vd.put s.data (Vd.foldD x.kind x.data)).length c'] { s with ttl := min s.ttl (Vd.timeT x.ttl), data := Vd.put s.data (Vd.foldD x.kind x.data) }) (by intro v hv; simp only [List.mem_cons, List.not_mem_nil, or_false] at hv; rcases hv with rfl | rfl | rfl | rfl | rfl <;> rfl) (by simp) (by simpa only [Nat.zero_add] using hin) (by simpa only [Nat.zero_add] using hout)
         dsimp only
         rw [hg]
         rw [List.length_set]
         exact js
 · have hil : i = l.length := by omega
   subst hil
   rw [List.take_length] at hB hbd ⊢
   obtain ⟨S0, hS0⟩ : ∃ s, Vd.gather l = s := ⟨_, rfl⟩
   have hG : Vd.group l = Vd.rise S0.length S0 := by unfold Vd.group; rw [hS0]
   rw [hS0] at hB hbd ⊢
   rw [hG]
   have hfew := hbd.few
   refine goA ?_
   refine jz (σ := List RSet × Option Addr × Nat × ja × List RSet × Option Addr × Nat × ja) (fun x => x.2.2.2.2.1 ++ Vd.rise x.1.length x.1 = Vd.rise S0.length S0 ∧ ORow rsR 122 5 N x.2.1 x.2.2.1 x.1 x.2.2.2.1 ∧ ORow rsR 122 5 N x.2.2.2.2.2.1 x.2.2.2.2.2.2.1 x.2.2.2.2.1 x.2.2.2.2.2.2.2 ∧ (∀ s ∈ x.1, s.name.length ≤ 255) ∧ x.2.2.2.2.1.length + x.1.length ≤ 10000)
    (fun x => [(3, .slice x.2.1 x.1.length x.2.2.1), (10, .slice x.2.2.2.2.2.1 x.2.2.2.2.1.length x.2.2.2.2.2.2.1)]) (fun x => x.2.2.2.2.2.2.2 ++ (x.2.2.2.1 ++ (N ++ L))) (fun x => x.1.length) (S0, a, c, B, [], none, 0, []) ⟨rfl, hB, ORow.nil _, hbd.name, by dsimp only; simp; omega⟩ ?_ (fun w h => h) ?_
   exact js
   clear hB hbd hfew
   rintro ⟨sets, a, c, B, out, ao, co, Bo⟩ ⟨h1, hB, hBo, hnm, hle⟩
   dsimp only at h1 hB hBo hnm hle ⊢
   by_cases hpos : 0 < sets.length
   · have hcap := hB.cap
     obtain ⟨b2, cur, rfl, hBe, _, _, _, hcur⟩ := hB.block (fun e => by rw [e] at hpos; simp at hpos)
     refine goA ?_
     refine jz (σ := Nat) (fun k => k < sets.length) (fun k => [(3, .slice (some ⟨b2, 0, none⟩) sets.length c), (10, .slice ao out.length co), (11, .int .i64 (Vd.leastAt sets k : Nat)), (12, .int .i64 ((k + 1 : Nat) : Int))]) (fun k => Bo ++ (B ++ (N ++ L))) (fun k => sets.length - k) 0 hpos ?_ (fun w h => h) ?_
     exact js
     intro k hk
     obtain ⟨hm1, hm2⟩ := Qw sets k hk
     by_cases hk1 : k + 1 < sets.length
     · obtain ⟨s, hs⟩ : ∃ s, sets[k + 1]? = some s := ⟨_, List.getElem?_eq_getElem hk1⟩
       obtain ⟨t, ht⟩ : ∃ t, sets[Vd.leastAt sets k]? = some t := ⟨_, List.getElem?_eq_getElem hm1⟩
       have hst := Vr hs ht
       obtain ⟨cs, _, hs2, _, hcs⟩ := hcur _ s hs
       obtain ⟨ct, _, ht2, _, hct⟩ := hcur _ t ht
       obtain ⟨sa, sc, rfl, _⟩ := hs2.val
       obtain ⟨ta, tc, rfl, _⟩ := ht2.val
       have hsn := hnm s (List.mem_of_getElem? hs)
       have htn := hnm t (List.mem_of_getElem? ht)
       rw [← Nat.zero_add ((k + 1) * 5)] at hcs
       rw [← Nat.zero_add (Vd.leastAt sets k * 5)] at hct
       have hKm : ∀ z ∈ [(b2, Obj.cells cur 122 (0, 0))], z ∈ Bo ++ (B ++ (N ++ L)) := by rw [hBe]; exact jn
       cases hb : Vd.before s t with
       | true =>
         rw [hb, if_pos rfl] at hst
         refine goA ?_
         refine jw jc ([(b2, Obj.cells cur 122 (0, 0))]) [] ?_
         refine tkQ 0 ?_
         refine tkQ 1 ?_
         refine tkQ 2 ?_
         (refine' ju 3 rfl rfl je (jF (jA [.string (bs s.name), .int .u16 s.kind, .int .u16 s.cls, .int .u32 s.ttl, .slice sa s.data.length sc] rfl stL (List.mem_cons_self ..) hcs)) ?_ ?_; (· assumption))
         refine tkQ 4 ?_
         refine tkQ 5 ?_
         refine tkQ 6 ?_
         (refine' ju 7 rfl rfl je (jF (jA [.string (bs t.name), .int .u16 t.kind, .int .u16 t.cls, .int .u32 t.ttl, .slice ta t.data.length tc] rfl stL (List.mem_cons_self ..) hct)) ?_ ?_; (· assumption))
         refine' ju 8 rfl rfl je (jR je rfl (fun _ _ => (Wu _ _ _ _ hs2 ht2) ?_ ?_)) ?_ ?_; (· omega); (· omega); (· assumption)
         refine tdQ ?_
         refine goA ?_
         refine jg (k + 1) hk1 ?_ (fun w h => h) jd
         rw [hst]
         exact js
       | false =>
         rw [hb, if_neg (by simp)] at hst
         refine goA ?_
         refine jw jc ([(b2, Obj.cells cur 122 (0, 0))]) [] ?_
         refine tkQ 0 ?_
         refine tkQ 1 ?_
         refine tkQ 2 ?_
         (refine' ju 3 rfl rfl je (jF (jA [.string (bs s.name), .int .u16 s.kind, .int .u16 s.cls, .int .u32 s.ttl, .slice sa s.data.length sc] rfl stL (List.mem_cons_self ..) hcs)) ?_ ?_; (· assumption))
         refine tkQ 4 ?_
         refine tkQ 5 ?_
         refine tkQ 6 ?_
         (refine' ju 7 rfl rfl je (jF (jA [.string (bs t.name), .int .u16 t.kind, .int .u16 t.cls, .int .u32 t.ttl, .slice ta t.data.length tc] rfl stL (List.mem_cons_self ..) hct)) ?_ ?_; (· assumption))
         refine' ju 8 rfl rfl je (jR je rfl (fun _ _ => (Wu _ _ _ _ hs2 ht2) ?_ ?_)) ?_ ?_; (· omega); (· omega); (· assumption)
         refine tdQ ?_
         refine goA ?_
         refine jg (k + 1) hk1 ?_ (fun w h => h) jd
         rw [hst]
         exact js
     · have hkl : sets.length = k + 1 := by omega
       obtain ⟨mi, hmi⟩ : ∃ m, Vd.leastAt sets k = m := ⟨_, rfl⟩
       rw [hmi] at hm1 hm2 ⊢
       obtain ⟨s, hs⟩ : ∃ s, sets[mi]? = some s := ⟨_, List.getElem?_eq_getElem hm1⟩
       obtain ⟨cs, _, hs2, _, hcs⟩ := hcur _ s hs
       obtain ⟨sa, sc, rfl, _⟩ := hs2.val
       rw [← Nat.zero_add (mi * 5)] at hcs
       have hmem : (b2, Obj.cells cur 122 (0, 0)) ∈ Bo ++ (B ++ (N ++ L)) := by rw [hBe]; simp
       have hrise : Vd.rise sets.length sets = [s] ++ Vd.rise (sets.eraseIdx mi).length (sets.eraseIdx mi) := by
        have he : (sets.eraseIdx mi).length = k := by rw [List.length_eraseIdx_of_lt hm1]; omega
        rw [he, hkl]
        match sets, hkl with
        | t :: r, hkl =>
          have hr : r.length = k := by simpa using hkl
          rw [Vd.rise, hr, hmi, hs]
       have hsl : sliceR 5 (fun _ => rsR N) (B ++ N) [.slice (some ⟨b2, 0, none⟩) sets.length c] sets := (hB.imp (r' := fun _ => rsR N) (L' := N) (fun cs x _ h => h)).sliceR km jn jn
       have htake : sliceR 5 (fun _ => rsR N) (B ++ N) [.slice (some ⟨b2, 0, none⟩) (sets.take mi).length c] (sets.take mi) := by
        have h := hsl.take (k := mi) jd
        have e : (sets.take mi).length = mi := by rw [List.length_take]; omega
        rw [e]
        exact h
       have hdrop := hsl.drop (k := mi + 1) jd
       rw [show sets.length - (mi + 1) = (sets.drop (mi + 1)).length by rw [List.length_drop]] at hdrop
       refine goA ?_
       refine jy (jA [.string (bs s.name), .int .u16 s.kind, .int .u16 s.cls, .int .u32 s.ttl, .slice sa s.data.length sc] rfl stL hmem hcs) rfl ?_
       repeat (refine jP (q9 etO rfl rfl (by decide)) rfl ?_; intro bLit)
       refine jx (ut (L0 := N) (y := s) etO rfl rfl hBo hs2 jd (by decide)) rfl ?_
       rintro _ _ ⟨a2, c2, B2, rfl, hB2, rfl⟩
       refine goA ?_
       refine jw jc ([]) [] ?_
       refine tkQ 1 ?_
       refine tkQ 2 ?_
       refine tkQ 3 ?_
       refine tkQ 5 ?_
       refine tkQ 6 ?_
       refine tkQ 7 ?_
       refine tkQ 8 ?_
       refine jD 0 je rfl rfl rfl rfl (Y2 etO) ?_; rintro _ _ ⟨b0, rfl, rfl⟩; refine ⟨Or.inr (fun p hp => absurd hp (by simp)), ?_⟩
       refine kk (L' := [(b0, Obj.cells #[] 122 (0, 0))] ++ (B2 ++ (B ++ (N ++ L)))) ?_ ji; refine jD 4 je rfl rfl rfl rfl (qS (r := fun _ => rsR N) (L0 := B ++ N) (l := []) (m := sets.take mi) etO rfl rfl rfl (by rw [List.length_take]; omega) ORow.made htake jn km (fun cs y h => rsR.one h) (by simp; omega) (by decide)) ?_; rintro _ _ ⟨a3, c3, B3, rfl, hB3, rfl⟩; refine ⟨Or.inr (fun p hp => absurd hp (by simp)), ?_⟩
       refine jD 9 je rfl rfl rfl rfl (qS (r := fun _ => rsR N) (L0 := B ++ N) (l := [] ++ sets.take mi) (m := sets.drop (mi + 1)) etO rfl rfl rfl (by rw [List.length_drop]; omega) hB3 hdrop jn km (fun cs y h => rsR.one h) (by simp; omega) (by decide)) ?_; rintro _ _ ⟨a4, c4, B4, rfl, hB4, rfl⟩; refine ⟨Or.inr (fun p hp => absurd hp (by simp)), ?_⟩
       refine tkQ 10 ?_
       refine tdQ ?_
       repeat (with_reducible refine qC ?_)
       refine jg (sets.eraseIdx mi, a4, c4, B4, out ++ [s], a2, c2, B2) ⟨?_, ?_, hB2, fun t ht => hnm t (List.mem_of_mem_eraseIdx ht), ?_⟩ ?_ (fun w h => h.cnt ji) ?_
       · dsimp only
         rw [List.append_assoc, ← hrise]
         exact h1
       · have := hB4.imp (r' := rsR) (L' := N) (fun cs x _ h => h)
         rw [List.nil_append, Uz] at this
         exact this
       · dsimp only
         rw [List.length_eraseIdx_of_lt hm1, List.length_append]
         simp
         omega
       · dsimp only
         rw [List.nil_append, Uz]
         exact js
       · dsimp only
         rw [List.length_eraseIdx_of_lt hm1]
         omega
   · have h0 : sets = [] := List.eq_nil_of_length_eq_zero jd
     subst h0
     have hr : Vd.rise ([] : List RSet).length ([] : List RSet) = [] := rfl
     rw [hr, List.append_nil] at h1
     rw [← h1]
     refine goA ?_
     refine jG (L' := Bo ++ (N ++ L)) ?_ ji
     refine jf 2 _ rfl rfl ?_
     exact ⟨_, _, _, _, rfl, hBo, hN, rfl⟩
end
section
open Go.RowKit
open Vd (RSet Vdt Vote Rec Quest Piece)
variable {G : World} {L : ja}
def Vu : Rp Quest := fun _ cs q => cs = [.string (bs q.name), .int .u16 q.kind, .int .u16 q.cls] ∧ q.name.length ≤ maxLen ∧ (0 ≤ q.kind ∧ q.kind ≤ 65535) ∧ (0 ≤ q.cls ∧ q.cls ≤ 65535)
def TrOut (N L : ja) (x : Vd.Trail) (u : Value) (M : ja) : Prop := ∃ a c B a2 c2 B2, u = .tuple #[.slice a x.chain.length c, .string (bs x.pos), .slice a2 x.last.length c2, .int .i64 x.e] ∧ ORow rsR 122 5 N a c x.chain B ∧ ORow rsR 122 5 N a2 c2 x.last B2 ∧ M = B2 ++ (B ++ L)
theorem TrOut.bad {N : ja} (e : Int) (p : Vd.Bytes) : TrOut N L ⟨[], p, [], e⟩ (.tuple #[.slice none 0 0, .string (bs p), .slice none 0 0, .int .i64 e]) L := ⟨none, 0, [], none, 0, [], rfl, ORow.nil _, ORow.nil _, rfl⟩
theorem Vv {N : ja} {cs : List Value} {s : RSet} {b : Nat} {e : TypeId} (h : rsR N cs s) : ORow rsR e 5 N (some ⟨b, 0, none⟩) 1 [s] [(b, .cells cs.toArray e (0, 0))] := ORow.lit1 h.len h h.one
theorem zJ {l : List RSet} {n : Vd.Bytes} {k c : Int} (h : (Vd.findS l n k c).2 = true) : (Vd.findS l n k c).1 ∈ l := by
 unfold Vd.findS at h ⊢
 split
 · rename_i s hs
   exact List.mem_of_find?_eq_some hs
 · rename_i hs
   rw [hs] at h
   cases h
theorem abk {K N : ja} (cq : List Value) (q : Quest) (v : Value) (l : List RSet) (hq : Vu L cq q) (hqn : q.name.length ≤ 1000000) (hK : ∀ p ∈ K, p ∈ L) (hN : ∀ p ∈ N, p ∈ L) (hl : sliceR 5 (fun _ => rsR N) K [v] l) (hs : ∀ s ∈ l, s.name.length ≤ 1000000) (hd : ∀ s ∈ l, ∀ d ∈ s.data, d.length ≤ 1000000) :
 Spec Tryz.prog G 77 #[.agg cq.toArray, v] L (TrOut N L (Vd.follow q l)) := by
 obtain ⟨rfl, _, hk0, hc0⟩ := hq
 obtain ⟨av, cv, e1, hl⟩ := hl.val
 simp only [List.cons.injEq, and_true] at e1
 subst e1
 refine jl (n := 111) Tryz.func77 rfl rfl rfl ?_
 cases hm : Nm.may q.name with
 | false =>
   have hT : Vd.follow q l = ⟨[], [], [], 1⟩ := by unfold Vd.follow; rw [hm]; rfl
   rw [hT]
   repeat (first | refine goA ?_ | (refine' jN (jb je rfl (qi _ ?_)) rfl ?_; (· omega)) | (refine kD ?_; intro bBox))
   refine jr (fun w h => h.tail) ?_
   refine qD 4 5 6 7 _ _ _ _ rfl rfl rfl rfl rfl ?_
   exact TrOut.bad _ _
 | true =>
 have hT : Vd.follow q l = Vd.followGo q l 9 (Nm.fold q.name) [Nm.fold q.name] [] := by unfold Vd.follow; rw [hm]; rfl
 rw [hT]
 have hf0 := ur q.name
 repeat (first | refine goA ?_ | (refine' jN (jb je rfl (qi _ ?_)) rfl ?_; (· omega)) | (refine' jN (jb je rfl (zk _ ?_)) rfl ?_; (· omega)) | (refine kD ?_; intro bBox) | (refine qh ?_; intro bLit))
 refine jz (σ := Vd.Bytes × List Vd.Bytes × List RSet × Option Addr × Nat × ja × Option Addr × Nat × ja) (fun x => Vd.followGo q l (9 - x.2.2.1.length) x.1 x.2.1 x.2.2.1 = Vd.followGo q l 9 (Nm.fold q.name) [Nm.fold q.name] [] ∧ x.2.2.1.length ≤ 8 ∧ x.2.1.length = x.2.2.1.length + 1 ∧ x.1.length ≤ 255 ∧ ORow qL 9 1 L x.2.2.2.1 x.2.2.2.2.1 x.2.1 x.2.2.2.2.2.1 ∧ ORow rsR 122 5 N x.2.2.2.2.2.2.1 x.2.2.2.2.2.2.2.1 x.2.2.1 x.2.2.2.2.2.2.2.2)
  (fun x => [(1, .slice av l.length cv), (2, .pointer (some ⟨bBox, 0, none⟩)), (8, .string (bs x.1)), (9, .slice x.2.2.2.1 x.2.1.length x.2.2.2.2.1), (10, .slice x.2.2.2.2.2.2.1 x.2.2.1.length x.2.2.2.2.2.2.2.1)])
  (fun x => (bBox, Obj.cells #[.string (bs q.name), .int .u16 q.kind, .int .u16 q.cls] 24 (0, 0)) :: (x.2.2.2.2.2.1 ++ (x.2.2.2.2.2.2.2.2 ++ L))) (fun x => 9 - x.2.2.1.length) (Nm.fold q.name, [Nm.fold q.name], [], some ⟨bLit, 0, none⟩, 1, [(bLit, Obj.cells #[.string (bs (Nm.fold q.name))] 9 (0, 0))], none, 0, []) ⟨rfl, by simp, rfl, hf0, ORow.lit1 rfl ⟨rfl, by unfold maxLen; omega⟩ (by intro v hv; rw [List.mem_singleton.1 hv]; rfl), ORow.nil _⟩ ?_ (fun w h => h.cnt ji) ?_
 exact js
 rintro ⟨pos, met, chain, am, cm, Bm, ac, cc, Bc⟩ ⟨h1, h2, h3, h4, hM, hC⟩
 dsimp only at h1 h2 h3 h4 hM hC ⊢
 have htail : ∀ (hend : Vd.trailEnd q l pos chain = Vd.followGo q l 9 (Nm.fold q.name) [Nm.fold q.name] []), True := fun _ => trivial
 obtain ⟨f, hf⟩ : ∃ f, 9 - chain.length = f + 1 := ⟨8 - chain.length, by omega⟩
 have hf' : 9 - (chain.length + 1) = f := by omega
 rw [hf] at h1
 rw [Vd.followGo] at h1
 by_cases hk5 : q.kind = 5
 · rw [if_pos hk5] at h1
   refine goA ?_
   refine jx (jb je rfl (KY _ l pos q.kind q.cls (fun p hp => List.mem_cons_of_mem _ (List.mem_append_right _ (List.mem_append_right _ (hK p hp)))) hl jd hs)) rfl ?_
   rintro _ _ ⟨cs2, rfl, hs2, rfl⟩
   obtain ⟨⟨s2, is2⟩, hF2⟩ : ∃ x, Vd.findS l pos q.kind q.cls = x := ⟨_, rfl⟩
   unfold Vd.trailEnd at h1
   rw [hF2] at hs2 h1 ⊢
   dsimp only at hs2 h1 ⊢
   obtain ⟨a2, c2, rfl, _⟩ := hs2.vals
   rw [← h1]
   cases is2 with
   | false =>
     simp only [Bool.false_eq_true, if_false]
     repeat (first | refine goA ?_ | (refine jQ ?_; intro bNew))
     refine jG (L' := Bc ++ L) ?_ ji
     refine qD 4 5 6 7 _ _ _ _ rfl rfl rfl rfl rfl ?_
     exact ⟨ac, cc, Bc, none, 0, [], rfl, hC, ORow.nil _, rfl⟩
   | true =>
     simp only [if_true]
     repeat (first | refine goA ?_ | (refine jQ ?_; intro bNew))
     revert bNew
     intro bS2
     have hKm : ∀ z ∈ [(bS2, Obj.cells #[.string (bs s2.name), .int .u16 s2.kind, .int .u16 s2.cls, .int .u32 s2.ttl, .slice a2 s2.data.length c2] 122 (0, 0))], z ∈ (bS2, Obj.cells #[.string (bs s2.name), .int .u16 s2.kind, .int .u16 s2.cls, .int .u32 s2.ttl, .slice a2 s2.data.length c2] 122 (0, 0)) :: ((bBox, Obj.cells #[.string (bs q.name), .int .u16 q.kind, .int .u16 q.cls] 24 (0, 0)) :: (Bm ++ (Bc ++ L))) := fun z hz => by rw [List.mem_singleton.1 hz]; exact List.mem_cons_self ..
     refine jw jc ([(bS2, Obj.cells #[.string (bs s2.name), .int .u16 s2.kind, .int .u16 s2.cls, .int .u32 s2.ttl, .slice a2 s2.data.length c2] 122 (0, 0))]) [] ?_
     refine tkQ 0 ?_
     refine tkQ 1 ?_
     refine tkQ 2 ?_
     refine tkQ 4 ?_
     refine tkQ 5 ?_
     refine jD 3 je rfl rfl rfl rfl (q9 etO rfl rfl (by decide)) ?_; rintro _ _ ⟨bL2, rfl, rfl⟩; refine ⟨Or.inr (fun p hp => List.mem_cons_of_mem _ (hKm p hp)), ?_⟩
     refine tkQ 6 ?_
     refine tkQ 7 ?_
     refine tdQ ?_
     refine goA ?_
     refine jG (L' := [(bL2, Obj.cells #[.string (bs s2.name), .int .u16 s2.kind, .int .u16 s2.cls, .int .u32 s2.ttl, .slice a2 s2.data.length c2] 122 (0, 0))] ++ (Bc ++ L)) ?_ ji
     refine qD 4 5 6 7 _ _ _ _ rfl rfl rfl rfl rfl ?_
     exact ⟨ac, cc, Bc, _, _, _, rfl, hC, Vv hs2, rfl⟩
 rw [if_neg hk5] at h1
 obtain ⟨⟨s1, is1⟩, hF1⟩ : ∃ x, Vd.findS l pos 5 q.cls = x := ⟨_, rfl⟩
 refine goA ?_
 refine jx (jb je rfl (KY _ l pos 5 q.cls (fun p hp => List.mem_cons_of_mem _ (List.mem_append_right _ (List.mem_append_right _ (hK p hp)))) hl jd hs)) rfl ?_
 rintro _ _ ⟨cs1, rfl, hs1, rfl⟩
 rw [hF1] at hs1 h1 ⊢
 dsimp only at hs1 h1 ⊢
 obtain ⟨a1, c1, rfl, hs1d, _⟩ := hs1.vals
 cases is1 with
 | false =>
   simp only [Bool.not_false, Bool.not_true, Bool.true_or, Bool.false_or, if_true, Bool.false_eq_true, if_false] at h1
   repeat (first | refine goA ?_ | (refine jQ ?_; intro bNew))
   revert bNew
   intro bS1
   refine jx (jb je rfl (KY _ l pos q.kind q.cls (fun p hp => List.mem_cons_of_mem _ (List.mem_cons_of_mem _ (List.mem_append_right _ (List.mem_append_right _ (hK p hp))))) hl jd hs)) rfl ?_
   rintro _ _ ⟨cs2, rfl, hs2, rfl⟩
   obtain ⟨⟨s2, is2⟩, hF2⟩ : ∃ x, Vd.findS l pos q.kind q.cls = x := ⟨_, rfl⟩
   unfold Vd.trailEnd at h1
   rw [hF2] at hs2 h1 ⊢
   dsimp only at hs2 h1 ⊢
   obtain ⟨a2, c2, rfl, _⟩ := hs2.vals
   rw [← h1]
   cases is2 with
   | false =>
     simp only [Bool.false_eq_true, if_false]
     repeat (first | refine goA ?_ | (refine jQ ?_; intro bNew))
     refine jG (L' := Bc ++ L) ?_ ji
     refine qD 4 5 6 7 _ _ _ _ rfl rfl rfl rfl rfl ?_
     exact ⟨ac, cc, Bc, none, 0, [], rfl, hC, ORow.nil _, rfl⟩
   | true =>
     simp only [if_true]
     repeat (first | refine goA ?_ | (refine jQ ?_; intro bNew))
     revert bNew
     intro bS2
     have hKm : ∀ z ∈ [(bS2, Obj.cells #[.string (bs s2.name), .int .u16 s2.kind, .int .u16 s2.cls, .int .u32 s2.ttl, .slice a2 s2.data.length c2] 122 (0, 0))], z ∈ (bS2, Obj.cells #[.string (bs s2.name), .int .u16 s2.kind, .int .u16 s2.cls, .int .u32 s2.ttl, .slice a2 s2.data.length c2] 122 (0, 0)) :: ((bS1, Obj.cells #[.string (bs s1.name), .int .u16 s1.kind, .int .u16 s1.cls, .int .u32 s1.ttl, .slice a1 s1.data.length c1] 122 (0, 0)) :: ((bBox, Obj.cells #[.string (bs q.name), .int .u16 q.kind, .int .u16 q.cls] 24 (0, 0)) :: (Bm ++ (Bc ++ L)))) := fun z hz => by rw [List.mem_singleton.1 hz]; exact List.mem_cons_self ..
     refine jw jc ([(bS2, Obj.cells #[.string (bs s2.name), .int .u16 s2.kind, .int .u16 s2.cls, .int .u32 s2.ttl, .slice a2 s2.data.length c2] 122 (0, 0))]) [] ?_
     refine tkQ 0 ?_
     refine tkQ 1 ?_
     refine tkQ 2 ?_
     refine tkQ 4 ?_
     refine tkQ 5 ?_
     refine jD 3 je rfl rfl rfl rfl (q9 etO rfl rfl (by decide)) ?_; rintro _ _ ⟨bL2, rfl, rfl⟩; refine ⟨Or.inr (fun p hp => List.mem_cons_of_mem _ (hKm p hp)), ?_⟩
     refine tkQ 6 ?_
     refine tkQ 7 ?_
     refine tdQ ?_
     refine goA ?_
     refine jG (L' := [(bL2, Obj.cells #[.string (bs s2.name), .int .u16 s2.kind, .int .u16 s2.cls, .int .u32 s2.ttl, .slice a2 s2.data.length c2] 122 (0, 0))] ++ (Bc ++ L)) ?_ ji
     refine qD 4 5 6 7 _ _ _ _ rfl rfl rfl rfl rfl ?_
     exact ⟨ac, cc, Bc, _, _, _, rfl, hC, Vv hs2, rfl⟩
 | true =>
 simp only [Bool.not_false, Bool.not_true, Bool.true_or, Bool.false_or, if_true, Bool.false_eq_true, if_false] at h1
 by_cases h8 : 8 ≤ chain.length
 · rw [if_pos h8] at h1
   rw [← h1]
   repeat (first | refine goA ?_ | (refine jQ ?_; intro bNew))
   refine jG (L' := L) ?_ ji
   refine qD 4 5 6 7 _ _ _ _ rfl rfl rfl rfl rfl ?_
   exact TrOut.bad _ _
 rw [if_neg h8] at h1
 obtain ⟨⟨s2, is2⟩, hF2⟩ : ∃ x, Vd.findS l pos q.kind q.cls = x := ⟨_, rfl⟩
 repeat (first | refine goA ?_ | (refine jQ ?_; intro bNew))
 revert bNew
 intro bS1
 refine jx (jb je rfl (KY _ l pos q.kind q.cls (fun p hp => List.mem_cons_of_mem _ (List.mem_cons_of_mem _ (List.mem_append_right _ (List.mem_append_right _ (hK p hp))))) hl jd hs)) rfl ?_
 rintro _ _ ⟨cs2, rfl, hs2, rfl⟩
 rw [hF2] at hs2 h1 ⊢
 dsimp only at hs2 h1 ⊢
 obtain ⟨a2, c2, rfl, _⟩ := hs2.vals
 have hs1l : s1 ∈ l := by have := zJ (l := l) (n := pos) (k := 5) (c := q.cls); rw [hF1] at this; exact this rfl
 by_cases hd1 : s1.data.length = 1
 · obtain ⟨d, hdd⟩ : ∃ d, s1.data = [d] := by
    match hh : s1.data, hd1 with
    | [d], _ => exact ⟨d, rfl⟩
   have hdl := hd s1 hs1l d (by rw [hdd]; exact List.mem_cons_self ..)
   obtain ⟨_, _, _, hs1c⟩ := qT hs1d
   rcases hs1c with h0 | ⟨b3, o3, C3, t3, f3, rfl, m3, q3⟩
   · rw [h0] at hd1; simp at hd1
   have m3 := List.mem_append_right Bm (List.mem_append_right Bc (hN _ m3))
   have g3 : C3[o3 + (0 : Int).toNat * 1]? = some (.string (bs d)) := q3 0 d (by rw [hdd]; rfl)
   rw [hdd] at h1
   dsimp only at h1
   have hd1' : ((s1.data.length : Nat) : Int) = 1 := by omega
   cases hmd : Nm.may d with
   | false =>
     rw [hmd] at h1
     simp only [Bool.not_false, Bool.not_true, Bool.true_or, Bool.false_or, if_true, Bool.false_eq_true, if_false] at h1
     rw [← h1]
     repeat (first | refine goA ?_ | (refine' jX (jb je rfl (qi _ ?_)) rfl ?_; (· omega)) | (refine jQ ?_; intro bNew))
     refine jG (L' := L) ?_ ji
     refine qD 4 5 6 7 _ _ _ _ rfl rfl rfl rfl rfl ?_
     exact TrOut.bad _ _
   | true =>
   rw [hmd] at h1
   cases is2 with
   | true =>
     simp only [Bool.not_false, Bool.not_true, Bool.true_or, Bool.false_or, if_true, Bool.false_eq_true, if_false] at h1
     rw [← h1]
     repeat (first | refine goA ?_ | (refine' jX (jb je rfl (qi _ ?_)) rfl ?_; (· omega)) | (refine jQ ?_; intro bNew))
     refine jG (L' := L) ?_ ji
     refine qD 4 5 6 7 _ _ _ _ rfl rfl rfl rfl rfl ?_
     exact TrOut.bad _ _
   | false =>
   simp only [Bool.not_false, Bool.not_true, Bool.true_or, Bool.false_or, if_true, Bool.false_eq_true, if_false] at h1
   have hfd := ur d
   have hcapm := hM.cap
   repeat (first | refine goA ?_ | (refine' jX (jb je rfl (qi _ ?_)) rfl ?_; (· omega)) | (refine' jN (jb je rfl (zk _ ?_)) rfl ?_; (· omega)) | (refine jQ ?_; intro bNew))
   refine jz (σ := Nat) (fun i => i ≤ met.length ∧ (met.take i).contains (Nm.fold d) = false) (fun i => [(1, .slice av l.length cv), (2, .pointer (some ⟨bBox, 0, none⟩)), (8, .string (bs (Nm.fold d))), (9, .slice am met.length cm), (10, .slice ac chain.length cc), (11, .pointer (some ⟨bS1, 0, none⟩)), (15, .int .i64 (i : Nat))])
    (fun i => (bBox, Obj.cells #[.string (bs q.name), .int .u16 q.kind, .int .u16 q.cls] 24 (0, 0)) :: ((bS1, Obj.cells #[.string (bs s1.name), .int .u16 s1.kind, .int .u16 s1.cls, .int .u32 s1.ttl, .slice (some ⟨b3, o3, none⟩) s1.data.length c1] 122 (0, 0)) :: (Bm ++ (Bc ++ L)))) (fun i => met.length - i) 0 ⟨Nat.zero_le _, by simp⟩ ?_ (fun w h => h.cnt ji) ?_
   exact js
   rintro i ⟨hi, hcon⟩
   by_cases hil : i < met.length
   · obtain ⟨b4, cur, rfl, hBe, _, _, _, hcur⟩ := hM.block (fun e => by rw [e] at hil; simp at hil)
     obtain ⟨y, hy⟩ : ∃ y, met[i]? = some y := ⟨_, List.getElem?_eq_getElem hil⟩
     obtain ⟨cy, _, ⟨rfl, _⟩, _, hcy⟩ := hcur i y hy
     have g4 : cur[0 + i * 1]? = some (.string (bs y)) := by rw [Nat.zero_add]; exact hcy 0 _ rfl
     have m4 : (b4, Obj.cells cur 9 (0, 0)) ∈ (bBox, Obj.cells #[.string (bs q.name), .int .u16 q.kind, .int .u16 q.cls] 24 (0, 0)) :: ((bS1, Obj.cells #[.string (bs s1.name), .int .u16 s1.kind, .int .u16 s1.cls, .int .u32 s1.ttl, .slice (some ⟨b3, o3, none⟩) s1.data.length c1] 122 (0, 0)) :: (Bm ++ (Bc ++ L))) := by rw [hBe]; simp
     by_cases hyd : y = Nm.fold d
     · have hc : met.contains (Nm.fold d) = true := by rw [List.contains_iff_mem, ← hyd]; exact List.mem_of_getElem? hy
       rw [hc] at h1
       simp only [if_true] at h1
       rw [← h1]
       refine goA ?_
       refine jG (L' := L) ?_ ji
       refine qD 4 5 6 7 _ _ _ _ rfl rfl rfl rfl rfl ?_
       exact TrOut.bad _ _
     · refine goA ?_
       refine jg (i + 1) ⟨hil, ?_⟩ ?_ (fun w h => h) jd
       · rw [List.take_add_one, hy, List.contains_eq_any_beq, List.any_append, ← List.contains_eq_any_beq, hcon]
         simp
         exact fun e => hyd e.symm
       exact js
   · have hie : i = met.length := by omega
     subst hie
     rw [List.take_length] at hcon
     rw [hcon] at h1
     simp only [Bool.false_eq_true, if_false] at h1
     repeat (first | refine goA ?_ | (refine qh ?_; intro bLit))
     refine jE (L' := (bLit, Obj.cells #[.string (bs (Nm.fold d))] 9 (0, 0)) :: (Bm ++ ((bBox, Obj.cells #[.string (bs q.name), .int .u16 q.kind, .int .u16 q.cls] 24 (0, 0)) :: ((bS1, Obj.cells #[.string (bs s1.name), .int .u16 s1.kind, .int .u16 s1.cls, .int .u32 s1.ttl, .slice (some ⟨b3, o3, none⟩) s1.data.length c1] 122 (0, 0)) :: (Bc ++ L))))) ?_ ji
     refine jx (uT (L0 := L) (y := Nm.fold d) etO rfl rfl hM (by unfold maxLen; omega) jd (by decide)) rfl ?_
     rintro _ _ ⟨am', cm', Bm', rfl, hM', rfl⟩
     refine jE (L' := (bS1, Obj.cells #[.string (bs s1.name), .int .u16 s1.kind, .int .u16 s1.cls, .int .u32 s1.ttl, .slice (some ⟨b3, o3, none⟩) s1.data.length c1] 122 (0, 0)) :: ((bBox, Obj.cells #[.string (bs q.name), .int .u16 q.kind, .int .u16 q.cls] 24 (0, 0)) :: (Bm' ++ (Bc ++ L)))) ?_ ji
     repeat (first | refine goA ?_ | (refine qh ?_; intro bLit))
     refine jE (L' := (bLit, Obj.cells #[.string (bs s1.name), .int .u16 s1.kind, .int .u16 s1.cls, .int .u32 s1.ttl, .slice (some ⟨b3, o3, none⟩) s1.data.length c1] 122 (0, 0)) :: (Bc ++ ((bBox, Obj.cells #[.string (bs q.name), .int .u16 q.kind, .int .u16 q.cls] 24 (0, 0)) :: (Bm' ++ L)))) ?_ ji
     refine jx (ut (L0 := N) (y := s1) etO rfl rfl hC hs1 jd (by decide)) rfl ?_
     rintro _ _ ⟨ac', cc', Bc', rfl, hC', rfl⟩
     refine goA ?_
     refine jg (Nm.fold d, met ++ [Nm.fold d], chain ++ [s1], am', cm', Bm', ac', cc', Bc') ⟨?_, by dsimp only; simp; omega, by simp [h3], hfd, hM', hC'⟩ ?_ (fun w h => h.cnt ji) (by dsimp only; simp; omega)
     · dsimp only
       rw [List.length_append, List.length_singleton, hf']
       exact h1
     exact js
 · have hd1' : ¬ ((s1.data.length : Nat) : Int) = 1 := by omega
   have h1' : (⟨[], [], [], 3⟩ : Vd.Trail) = Vd.followGo q l 9 (Nm.fold q.name) [Nm.fold q.name] [] := by
    rw [← h1]
    match hh : s1.data, hd1 with
    | [], _ => rfl
    | [d], h => simp at h
    | _ :: _ :: _, _ => rfl
   rw [← h1']
   repeat (first | refine goA ?_ | (refine jQ ?_; intro bNew))
   refine jG (L' := L) ?_ ji
   refine qD 4 5 6 7 _ _ _ _ rfl rfl rfl rfl rfl ?_
   exact TrOut.bad _ _
end
section
open Go.RowKit
open Vd (RSet Vdt Vote Rec Quest Piece)
def msgR : Rp Vd.Msg := fun L cs m => ∃ h0 h1 h2 h3 h4 h5 h6 h7 h8 h9 q a b x k e0 e1 e2 e3 e4, cs = [h0, h1, h2, h3, h4, h5, h6, h7, h8, h9, .int .u8 m.code, q, a, b, x, k, e0, e1, e2, e3, e4] ∧ sliceR 5 yx L [a] m.answers ∧ sliceR 5 yx L [b] m.auth ∧ (0 ≤ m.code ∧ m.code ≤ 255) ∧ ∀ v ∈ cs, v.oneCell' = true
theorem Qy : ∀ (f : Nat) (l : List RSet) (s : RSet), s ∈ Vd.rise f l → s ∈ l
 | 0, l, s, h => by simp [Vd.rise] at h
 | f + 1, [], s, h => by simp [Vd.rise] at h
 | f + 1, t :: l, s, h => by
   rw [Vd.rise] at h
   rcases List.mem_append.1 h with h | h
   · split at h
     · rename_i x hx
       rw [List.mem_singleton.1 h]
       exact List.mem_of_getElem? hx
     · simp at h
   · exact List.mem_of_mem_eraseIdx (Qy f _ s h)
theorem Ww : ∀ (f : Nat) (l : List RSet), (Vd.rise f l).length ≤ f
 | 0, l => by simp [Vd.rise]
 | f + 1, [] => by simp [Vd.rise]
 | f + 1, t :: l => by
   rw [Vd.rise, List.length_append]
   have h1 := Ww f ((t :: l).eraseIdx (Vd.leastAt (t :: l) l.length))
   split
   · simp only [List.length_singleton]; omega
   · simp only [List.length_nil]; omega
theorem uU {D : Nat} (l : List Rec) (hl : ∀ x ∈ l, x.data.length ≤ D) : (Vd.group l).length ≤ l.length ∧ ∀ s ∈ Vd.group l, s.name.length ≤ 255 ∧ s.data.length ≤ l.length ∧ s.data ≠ [] ∧ ∀ d ∈ s.data, d.length ≤ D := by
 have h := JF l hl l.length (Nat.le_refl _)
 rw [List.take_length] at h
 refine ⟨Nat.le_trans (Ww _ _) h.few, fun s hs => ?_⟩
 have hm := Qy _ _ s hs
 exact ⟨h.name s hm, h.data s hm, h.one s hm, h.datum s hm⟩
theorem Kv {q : Quest} {l chain : List RSet} {pos : Vd.Bytes} (hc : ∀ s ∈ chain, s ∈ l) : (∀ s ∈ (Vd.trailEnd q l pos chain).chain, s ∈ l) ∧ (∀ s ∈ (Vd.trailEnd q l pos chain).last, s ∈ l) ∧ (Vd.trailEnd q l pos chain).chain.length ≤ chain.length ∧ (Vd.trailEnd q l pos chain).last.length ≤ 1 ∧ (Vd.trailEnd q l pos chain).pos.length ≤ pos.length := by
 unfold Vd.trailEnd
 split
 · rename_i h
   refine ⟨hc, fun s hs => ?_, Nat.le_refl _, by simp, Nat.le_refl _⟩
   rw [List.mem_singleton.1 hs]
   exact zJ h
 · exact ⟨hc, by simp, Nat.le_refl _, by simp, Nat.le_refl _⟩
theorem Kw {q : Quest} {l : List RSet} : ∀ (f : Nat) (pos : Vd.Bytes) (met : List Vd.Bytes) (chain : List RSet), (∀ s ∈ chain, s ∈ l) → pos.length ≤ 255 →
 (∀ s ∈ (Vd.followGo q l f pos met chain).chain, s ∈ l) ∧ (∀ s ∈ (Vd.followGo q l f pos met chain).last, s ∈ l) ∧ (Vd.followGo q l f pos met chain).chain.length ≤ chain.length + f ∧ (Vd.followGo q l f pos met chain).last.length ≤ 1 ∧ (Vd.followGo q l f pos met chain).pos.length ≤ 255
 | 0, pos, met, chain, hc, hp => by
   have := Kv (q := q) (pos := pos) hc
   exact ⟨this.1, this.2.1, by have := this.2.2.1; rw [Vd.followGo]; omega, this.2.2.2.1, Nat.le_trans this.2.2.2.2 hp⟩
 | f + 1, pos, met, chain, hc, hp => by
   have he := Kv (q := q) (pos := pos) hc
   have hend : (∀ s ∈ (Vd.trailEnd q l pos chain).chain, s ∈ l) ∧ (∀ s ∈ (Vd.trailEnd q l pos chain).last, s ∈ l) ∧ (Vd.trailEnd q l pos chain).chain.length ≤ chain.length + (f + 1) ∧ (Vd.trailEnd q l pos chain).last.length ≤ 1 ∧ (Vd.trailEnd q l pos chain).pos.length ≤ 255 := ⟨he.1, he.2.1, by have := he.2.2.1; omega, he.2.2.2.1, Nat.le_trans he.2.2.2.2 hp⟩
   rw [Vd.followGo]
   split
   · exact hend
   split
   · exact hend
   rename_i h5 hf
   split
   · simp
   split
   · rename_i d hd
     split
     · simp
     split
     · simp
     · have := Kw (q := q) f (Nm.fold d) (met ++ [Nm.fold d]) (chain ++ [(Vd.findS l pos 5 q.cls).1]) (fun s hs => by
        rcases List.mem_append.1 hs with hs | hs
        · exact hc s hs
        · rw [List.mem_singleton.1 hs]; exact zJ (by simpa using hf)) (ur _)
       refine ⟨this.1, this.2.1, ?_, this.2.2.2.1, this.2.2.2.2⟩
       have h := this.2.2.1
       simp at h ⊢
       omega
   · simp
theorem UA (q : Quest) (l : List RSet) : (∀ s ∈ (Vd.follow q l).chain, s ∈ l) ∧ (∀ s ∈ (Vd.follow q l).last, s ∈ l) ∧ (Vd.follow q l).chain.length ≤ 9 ∧ (Vd.follow q l).last.length ≤ 1 ∧ (Vd.follow q l).pos.length ≤ 255 := by
 unfold Vd.follow
 split
 · have := Kw (q := q) (l := l) 9 (Nm.fold q.name) [Nm.fold q.name] [] (by simp) (ur _)
   simpa using this
 · simp
theorem abl {L : ja} {cs : List Value} {l : List Rec} (h : sliceR 5 yx L cs l) : ∀ y ∈ l, 0 ≤ y.ttl ∧ y.ttl ≤ 4294967295 := fun y hy => by
 obtain ⟨a, cap, _, _, _, h4⟩ := h
 rcases h4 with rfl | ⟨b, off, C, te, fr, _, _, q3⟩
 · simp at hy
 · obtain ⟨i, hi⟩ := List.getElem?_of_mem hy
   obtain ⟨cs', _, ⟨_, _, _, _, _, k⟩, _⟩ := q3 i y hi
   exact k
theorem Qz (l : List Rec) (hl : ∀ y ∈ l, 0 ≤ y.ttl ∧ y.ttl ≤ 4294967295) : ∀ i, i ≤ l.length → ∀ s ∈ Vd.gather (l.take i), 0 ≤ s.ttl ∧ s.ttl ≤ 4294967295
 | 0, _ => by simp [Vd.gather]
 | i + 1, h => by
   have hx : l[i]? = some l[i] := List.getElem?_eq_getElem jd
   have ih := Qz l hl i jd
   have ht := Qx (hl l[i] (List.getElem_mem _))
   rw [yQ hx]
   unfold Vd.addRec
   split
   · split
     · intro s hs
       rcases List.mem_append.1 hs with hs | hs
       · exact ih s hs
       · rw [List.mem_singleton.1 hs]; exact ht
     · split
       · rename_i j hj s hs
         intro t htm
         rcases List.mem_or_eq_of_mem_set htm with htm | rfl
         · exact ih t htm
         · have := ih s (List.mem_of_getElem? hs)
           dsimp only
           omega
       · exact ih
   · exact ih
theorem Z1 (l : List Rec) (hl : ∀ y ∈ l, 0 ≤ y.ttl ∧ y.ttl ≤ 4294967295) : ∀ s ∈ Vd.group l, 0 ≤ s.ttl ∧ s.ttl ≤ 4294967295 := fun s hs => by
 have := Qz l hl l.length (Nat.le_refl _) s
 rw [List.take_length] at this
 exact this (Qy _ _ s hs)
theorem QA {l : List RSet} {n : Vd.Bytes} {c : Int} (h : (Vd.findSoa l n c).2.1 = true) : (Vd.findSoa l n c).1 ∈ l := by
 unfold Vd.findSoa at h ⊢
 split at h
 · cases h
 · rename_i hb
   rw [if_neg hb]
   split at h
   · rename_i s hs
     split at h
     · cases h
     · rename_i hd
       rw [if_neg hd]
       exact List.mem_of_getElem? hs
   · cases h
theorem Wx : ∀ (d : Vd.Bytes) (n : Int), 0 ≤ n ∧ n ≤ 4294967295 → 0 ≤ d.foldl (fun n c => (n * 256 + ((c : UInt8).toNat : Int)) % 4294967296) n ∧ d.foldl (fun n c => (n * 256 + ((c : UInt8).toNat : Int)) % 4294967296) n ≤ 4294967295
 | [], n, h => h
 | c :: d, n, h => Wx d ((n * 256 + ((c : UInt8).toNat : Int)) % 4294967296) jd
theorem Yx (s : RSet) : Vd.soaTime s ≤ 4294967295 := by
 unfold Vd.soaTime
 split
 · omega
 split
 · rename_i d hd
   split
   · split
     · omega
     · have := Wx (d.drop (d.length - 4)) 0 jd
       unfold Vd.last4
       omega
   · omega
 · omega
theorem Wy (l : List RSet) (s : RSet) (t : Int) : Vd.leastT (l ++ [s]) t = min (Vd.leastT l t) s.ttl := by simp [Vd.leastT]
theorem UC : ∀ (l : List RSet) (t : Int), (∀ s ∈ l, 0 ≤ s.ttl ∧ s.ttl ≤ 4294967295) → 0 ≤ t ∧ t ≤ 4294967295 → 0 ≤ Vd.leastT l t ∧ Vd.leastT l t ≤ 4294967295
 | [], t, _, h => h
 | s :: l, t, hl, h => by
   have := hl s (List.mem_cons_self ..)
   exact UC l (min t s.ttl) (fun x hx => hl x (List.mem_cons_of_mem _ hx)) jd
end
section
open Go.RowKit
open Vd (RSet Vdt Vote Rec Quest Piece)
variable {G : World} {L : ja}
def OfOut (L : ja) (r : Vdt × Int × Int) (u : Value) (M : ja) : Prop := ∃ a c B a2 c2 B2 N, u = .tuple #[.agg #[.int .u8 r.1.code, .slice a r.1.sets.length c, .slice a2 r.1.soa.length c2], .int .u32 r.2.1, .int .i64 r.2.2] ∧
 ORow rsR 122 5 N a c r.1.sets B ∧ ORow rsR 122 5 N a2 c2 r.1.soa B2 ∧ Wr N ∧ M = B2 ++ (B ++ (N ++ L))
theorem OfOut.bad (e : Int) : OfOut L (Vdt.none, 0, e) (.tuple #[.agg #[.int .u8 0, .slice none 0 0, .slice none 0 0], .int .u32 0, .int .i64 e]) L := ⟨none, 0, [], none, 0, [], [], rfl, ORow.nil _, ORow.nil _, Wr.nil, rfl⟩
theorem Zh {N : ja} {s : RSet} {a : Option Addr} {c : Nat} (h : rsR N [.string (bs s.name), .int .u16 s.kind, .int .u16 s.cls, .int .u32 s.ttl, .slice a s.data.length c] s) : rsR N [.string (bs s.name), .int .u16 s.kind, .int .u16 s.cls, .int .u32 0, .slice a s.data.length c] (Vd.bare s) := by
 obtain ⟨d, e, h1, h2, h3, h4, h5⟩ := h
 simp only [List.cons.injEq, true_and, and_true] at e
 subst e
 exact ⟨_, rfl, h1, h2, h3, h4, by simp [Vd.bare]⟩
theorem JG {P : Program} {n : Nat} {ρ : jB} {Q : Exit → Act → World → Prop} {σ : Type} {x y : Code} (I : σ → Prop) (ρI : σ → jB) (LI : σ → ja) (hx : T P G n ρ L x (Exit.then (Mid G n I ρI LI) Q)) (hy : ∀ s, I s → T P G n (ρI s) (LI s) y Q) : T P G n ρ L x (Exit.then (y.wp P Q) Q) :=
 Vi hx fun e a w h => by
  cases e with
  | normal =>
    obtain ⟨s, h1, h2, h3⟩ := h
    exact (hy s h1).out a w h2 h3
  | _ => exact h
theorem yR {P : Program} {n : Nat} {ρ : jB} {Q : Exit → Act → World → Prop} {ops : Array Oper} {K : ja} {W : List Nat} {fuel : Nat} {listed : Array Bool} {i d : Nat} {oi : Oper} {Φ : Value → ja → Prop} (hi : ops[i]? = some oi) (hd : oi.dst = some d) (hdn : Nat.blt d n = true) (hg : oi.guard = none)
 (hO : OpT P G ρ L oi.op oi.type Φ) (h : ∀ v L', Φ v L' → (i ∈ W ∨ ∀ p ∈ K, p ∈ L') ∧ TA P G ops n K W Q fuel (listed.setIfInBounds i true) ((d, v) :: ρ) L') : Up P G ops n K W Q fuel listed ρ L i :=
 af6 hi (by rw [hd]; exact hdn) hg hO (by rw [hd]; exact h)
theorem qn {P : Program} {ρ : jB} {ty : TypeId} {x y : Operand} {b k : Nat} {t : TypeId} {C D : Array Value} {te : TypeId} (hx : ev ρ x = some (.pointer (some ⟨b, 0, none⟩))) (hy : ev ρ y = some (.agg D))
 (ht : jV P t k = true) (hC : C.size = k) (hD : D.size = k) (hone : Jx D = true) : OpV P G ρ ((b, Obj.cells C te (0, 0)) :: L) (.store t x y) ty undef ((b, Obj.cells D te (0, 0)) :: L) := by
 have h1 := zE (G := G) (P := P) (ρ := ρ) (L := L) (ty := ty) (b := b) (C := C) (te := te) (t := t) (cs := D.toList) hx (by simpa using hy) (by rw [Array.length_toList, hD]; exact ht) (fun v hv => List.all_eq_true.1 hone v hv) (by rw [Array.length_toList, hD, hC]; omega)
 have h2 : qN C 0 D.toList = D := by
  unfold qN
  rw [List.drop_eq_nil_of_le (by simp; omega)]
  simp
 rw [h2] at h1
 exact h1
theorem aiq (cq cm : List Value) (q : Quest) (m : Vd.Msg) (hq : Vu L cq q) (hm : msgR L cm m) (hqn : q.name.length ≤ 1000000) (hA1 : m.answers.length ≤ 10000) (hA2 : ∀ x ∈ m.answers, x.name.length ≤ 1000000 ∧ x.data.length ≤ 1000000)
 (hB1 : m.auth.length ≤ 10000) (hB2 : ∀ x ∈ m.auth, x.name.length ≤ 1000000 ∧ x.data.length ≤ 1000000) : Spec Tryz.prog G 54 #[.agg cq.toArray, .agg cm.toArray] L (OfOut L (Vd.ofM q m)) := by
 have hq0 := hq
 obtain ⟨rfl, _, hk0, hc0⟩ := hq
 obtain ⟨h0, h1, h2, h3, h4, h5, h6, h7, h8, h9, qs, va, vb, x, k, e0, e1, e2, e3, e4, rfl, hma, hmb, hcode, _⟩ := hm
 obtain ⟨aA, cA, ea, hma⟩ := hma.val
 obtain ⟨aB, cB, eb, hmb⟩ := hmb.val
 simp only [List.cons.injEq, and_true] at ea eb
 subst ea eb
 obtain ⟨gl1, gb1⟩ := uU m.answers (fun x hx => (hA2 x hx).2)
 obtain ⟨gl2, gb2⟩ := uU m.auth (fun x hx => (hB2 x hx).2)
 have hOf : Vd.ofM q m = if !Nm.may q.name || (m.code != 0 && m.code != 3) then (Vdt.none, 0, 1) else match Vd.follow q (Vd.group m.answers) with
  | ⟨l, pos, last, e⟩ =>
    if e ≠ 0 then (Vdt.none, 0, e)
    else if m.code = 3 ∧ last ≠ [] then (Vdt.none, 0, 3)
    else if last ≠ [] then (⟨m.code, (l ++ last).map Vd.bare, []⟩, Vd.leastT (l ++ last) 2147483647, 0)
    else match Vd.findSoa (Vd.group m.auth) pos q.cls with
     | (s, is, e) =>
       if e ≠ 0 then (Vdt.none, 0, e)
       else if !is then (⟨m.code, (l ++ last).map Vd.bare, []⟩, 0, 0)
       else (⟨m.code, (l ++ last).map Vd.bare, [Vd.bare s]⟩, min (Vd.leastT (l ++ last) 2147483647) (Vd.soaTime s), 0) := rfl
 have hAt : ∀ y ∈ m.answers, 0 ≤ y.ttl ∧ y.ttl ≤ 4294967295 := abl hma
 have hfi := UA q (Vd.group m.answers)
 have g10 : (#[h0, h1, h2, h3, h4, h5, h6, h7, h8, h9, .int .u8 m.code, qs, .slice aA m.answers.length cA, .slice aB m.auth.length cB, x, k, e0, e1, e2, e3, e4] : Array Value)[0 + 0 + 10]? = some (.int .u8 m.code) := rfl
 have hqm : q.name.length ≤ maxLen := by unfold maxLen; omega
 refine jl (n := 131) Tryz.func54 rfl rfl rfl ?_
 refine j7 (jO (jP (kQ rfl) rfl ?_))
 intro bQ
 refine jP (kQ rfl) rfl ?_
 intro bM
 refine jP (kh zeO rfl) rfl ?_
 intro bV
 cases hmay : Nm.may q.name with
 | false =>
   rw [hOf, hmay]
   repeat (first | refine goA ?_ | (refine' jN (jb je rfl (qi _ ?_)) rfl ?_; (· omega)) | refine jy (jm rfl (yb )) rfl ?_)
   refine kw 4 40 5 6 rfl rfl rfl rfl stO (by repeat (exact List.mem_cons_self)) rfl (fun w h => Heap.cnt (L' := L) h ji) ?_
   exact OfOut.bad _
 | true =>
 by_cases hc3 : m.code = 0 ∨ m.code = 3
 · have hOf2 : Vd.ofM q m = match Vd.follow q (Vd.group m.answers) with
    | ⟨l, pos, last, e⟩ =>
      if e ≠ 0 then (Vdt.none, 0, e)
      else if m.code = 3 ∧ last ≠ [] then (Vdt.none, 0, 3)
      else if last ≠ [] then (⟨m.code, (l ++ last).map Vd.bare, []⟩, Vd.leastT (l ++ last) 2147483647, 0)
      else match Vd.findSoa (Vd.group m.auth) pos q.cls with
       | (s, is, e) =>
         if e ≠ 0 then (Vdt.none, 0, e)
         else if !is then (⟨m.code, (l ++ last).map Vd.bare, []⟩, 0, 0)
         else (⟨m.code, (l ++ last).map Vd.bare, [Vd.bare s]⟩, min (Vd.leastT (l ++ last) 2147483647) (Vd.soaTime s), 0) := by
    rw [hOf, hmay, if_neg (by rcases hc3 with h | h <;> simp [h])]
   rw [hOf2]
   clear hOf hOf2
   have hKm : ∀ z ∈ [(bQ, Obj.cells #[.string (bs q.name), .int .u16 q.kind, .int .u16 q.cls] 24 (0, 0)), (bM, Obj.cells #[h0, h1, h2, h3, h4, h5, h6, h7, h8, h9, .int .u8 m.code, qs, .slice aA m.answers.length cA, .slice aB m.auth.length cB, x, k, e0, e1, e2, e3, e4] 132 (0, 0))], z ∈ (bV, Obj.cells #[.int .u8 0, .slice none 0 0, .slice none 0 0] 40 (0, 0)) :: ((bM, Obj.cells #[h0, h1, h2, h3, h4, h5, h6, h7, h8, h9, .int .u8 m.code, qs, .slice aA m.answers.length cA, .slice aB m.auth.length cB, x, k, e0, e1, e2, e3, e4] 132 (0, 0)) :: ((bQ, Obj.cells #[.string (bs q.name), .int .u16 q.kind, .int .u16 q.cls] 24 (0, 0)) :: L)) := jn
   refine goF ?_
   refine Y8 (σ := Unit) (fun _ => True) (fun _ => [(2, .pointer (some ⟨bQ, 0, none⟩)), (3, .pointer (some ⟨bM, 0, none⟩)), (4, .pointer (some ⟨bV, 0, none⟩))]) (fun _ => (bV, Obj.cells #[.int .u8 0, .slice none 0 0, .slice none 0 0] 40 (0, 0)) :: ((bM, Obj.cells #[h0, h1, h2, h3, h4, h5, h6, h7, h8, h9, .int .u8 m.code, qs, .slice aA m.answers.length cA, .slice aB m.auth.length cB, x, k, e0, e1, e2, e3, e4] 132 (0, 0)) :: ((bQ, Obj.cells #[.string (bs q.name), .int .u16 q.kind, .int .u16 q.cls] 24 (0, 0)) :: L))) ?_ ?_
   · rcases hc3 with hc3 | hc3
     · repeat (first | refine goA ?_ | (refine' jN (jb je rfl (qi _ ?_)) rfl ?_; (· omega)))
       refine kS () trivial ?_ (fun w h => h)
       exact js
     · repeat (first | refine goA ?_ | (refine' jN (jb je rfl (qi _ ?_)) rfl ?_; (· omega)))
       refine kS () trivial ?_ (fun w h => h)
       exact js
   intro _ _
   repeat (with_reducible refine j7 ?_)
   refine jw jc ([(bQ, Obj.cells #[.string (bs q.name), .int .u16 q.kind, .int .u16 q.cls] 24 (0, 0)), (bM, Obj.cells #[h0, h1, h2, h3, h4, h5, h6, h7, h8, h9, .int .u8 m.code, qs, .slice aA m.answers.length cA, .slice aB m.auth.length cB, x, k, e0, e1, e2, e3, e4] 132 (0, 0))]) [] ?_
   refine tkQ 0 ?_
   refine tkQ 1 ?_
   refine tkQ 2 ?_
   refine jD 3 je rfl rfl rfl rfl (jb je rfl (Vt _ m.answers (jq qm _ _ _ _ jn hma) hA1 (fun x hx => (hA2 x hx).1) (fun x hx => (hA2 x hx).2))) ?_; rintro _ _ ⟨aG, cG, BG, N, rfl, hG, hN, rfl⟩; refine ⟨Or.inr jn, ?_⟩
   refine jD 4 je rfl rfl rfl rfl (jb je rfl (abk (K := BG) (N := N) _ q _ (Vd.group m.answers) ⟨rfl, hqm, hk0, hc0⟩ hqn jn jn ((hG.imp (r' := fun _ => rsR N) (L' := []) (fun cs x _ h => h)).sliceR km jn jn) (fun s hs => Nat.le_trans (gb1 s hs).1 jd) (fun s hs => (gb1 s hs).2.2.2))) ?_; rintro _ _ ⟨aC, cC, BC, aE, cE, BE, rfl, hC, hE, rfl⟩; refine ⟨Or.inr jn, ?_⟩
   refine tkQ 5 ?_
   refine tkQ 6 ?_
   refine tkQ 7 ?_
   refine tkQ 8 ?_
   refine tkQ 9 ?_
   refine tkQ 10 ?_
   refine tkQ 11 ?_
   refine tkQ 12 ?_
   refine tkQ 13 ?_
   refine tdQ ?_
   obtain ⟨⟨chain, pos, last, e⟩, hT⟩ : ∃ t, Vd.follow q (Vd.group m.answers) = t := ⟨_, rfl⟩
   rw [hT] at hC hE hfi ⊢
   dsimp only at hC hE hfi ⊢
   obtain ⟨hi1, hi2, hi3, hi4, hi5⟩ := hfi
   refine jG (L' := ((bV, Obj.cells #[.int .u8 0, .slice none 0 0, .slice none 0 0] 40 (0, 0)) :: ((bM, Obj.cells #[h0, h1, h2, h3, h4, h5, h6, h7, h8, h9, .int .u8 m.code, qs, .slice aA m.answers.length cA, .slice aB m.auth.length cB, x, k, e0, e1, e2, e3, e4] 132 (0, 0)) :: ((bQ, Obj.cells #[.string (bs q.name), .int .u16 q.kind, .int .u16 q.cls] 24 (0, 0)) :: (BE ++ (BC ++ (BG ++ (N ++ L)))))))) ?_ ji
   by_cases he : e = 0
   · rw [if_neg (by simpa using he)]
     by_cases h3e : m.code = 3 ∧ last ≠ []
     · rw [if_pos h3e]
       obtain ⟨h3c, h3l⟩ := h3e
       have hlp : 0 < last.length := List.length_pos_iff.2 h3l
       repeat (first | refine goA ?_ | refine jy (jm rfl (yb )) rfl ?_)
       refine kw 4 40 5 6 rfl rfl rfl rfl stO (by repeat (exact List.mem_cons_self)) rfl (fun w h => Heap.cnt (L' := L) h ji) ?_
       exact OfOut.bad _
     rw [if_neg h3e]
     repeat (with_reducible refine qj ?_)
     refine j7 (j7 ?_)
     refine goF ?_
     refine Y8 (σ := Unit) (fun _ => True) (fun _ => [(2, .pointer (some ⟨bQ, 0, none⟩)), (3, .pointer (some ⟨bM, 0, none⟩)), (4, .pointer (some ⟨bV, 0, none⟩)), (7, .slice aC chain.length cC), (8, .string (bs pos)), (9, .slice aE last.length cE)]) (fun _ => ((bV, Obj.cells #[.int .u8 0, .slice none 0 0, .slice none 0 0] 40 (0, 0)) :: ((bM, Obj.cells #[h0, h1, h2, h3, h4, h5, h6, h7, h8, h9, .int .u8 m.code, qs, .slice aA m.answers.length cA, .slice aB m.auth.length cB, x, k, e0, e1, e2, e3, e4] 132 (0, 0)) :: ((bQ, Obj.cells #[.string (bs q.name), .int .u16 q.kind, .int .u16 q.cls] 24 (0, 0)) :: (BE ++ (BC ++ (BG ++ (N ++ L)))))))) ?_ ?_
     · by_cases h3 : m.code = 3
       · have hl0 : last.length = 0 := by
          cases last with
          | nil => rfl
          | cons y r => exact absurd ⟨h3, by simp⟩ h3e
         refine goA ?_
         refine kS () trivial ?_ (fun w h => h)
         exact js
       · refine goA ?_
         refine kS () trivial ?_ (fun w h => h)
         exact js
     intro _ _
     obtain ⟨tl, htl⟩ : ∃ l, chain ++ last = l := ⟨_, rfl⟩
     have htll : tl.length = chain.length + last.length := by rw [← htl, List.length_append]
     rw [htl]
     have htlg : ∀ s ∈ tl, s ∈ Vd.group m.answers := fun s hs => by
      rw [← htl] at hs
      rcases List.mem_append.1 hs with hs | hs
      · exact hi1 s hs
      · exact hi2 s hs
     have hlt : ∀ i, i ≤ tl.length → 0 ≤ Vd.leastT (tl.take i) 2147483647 ∧ Vd.leastT (tl.take i) 2147483647 ≤ 4294967295 := fun i _ => UC _ _ (fun s hs => Z1 m.answers (fun y hy => hAt y hy) s (htlg s (List.mem_of_mem_take hs))) jd
     have hcapC := hC.cap
     have hcapE := hE.cap
     repeat (first | refine goA ?_ | (refine jQ ?_; intro bNew) | refine jy (jm rfl (Y4 _)) rfl ?_)
     revert bNew
     intro b11
     refine jz (σ := Nat × Option Addr × Nat × ja) (fun y => y.1 ≤ tl.length ∧ ORow rsR 122 5 N y.2.1 y.2.2.1 ((tl.take y.1).map Vd.bare) y.2.2.2) (fun y => [(2, .pointer (some ⟨bQ, 0, none⟩)), (3, .pointer (some ⟨bM, 0, none⟩)), (4, .pointer (some ⟨bV, 0, none⟩)), (7, .slice aC chain.length cC), (8, .string (bs pos)), (9, .slice aE last.length cE), (11, .pointer (some ⟨b11, 0, none⟩)), (12, .int .u32 (Vd.leastT (tl.take y.1) 2147483647)), (13, .int .i64 (y.1 : Nat))])
      (fun y => (b11, Obj.cells #[.int .u8 m.code, .slice y.2.1 ((tl.take y.1).map Vd.bare).length y.2.2.1, .slice none 0 0] 40 (0, 0)) :: (y.2.2.2 ++ ((bV, Obj.cells #[.int .u8 0, .slice none 0 0, .slice none 0 0] 40 (0, 0)) :: ((bM, Obj.cells #[h0, h1, h2, h3, h4, h5, h6, h7, h8, h9, .int .u8 m.code, qs, .slice aA m.answers.length cA, .slice aB m.auth.length cB, x, k, e0, e1, e2, e3, e4] 132 (0, 0)) :: ((bQ, Obj.cells #[.string (bs q.name), .int .u16 q.kind, .int .u16 q.cls] 24 (0, 0)) :: (BE ++ (BC ++ (BG ++ (N ++ L))))))))) (fun y => tl.length - y.1) (0, none, 0, []) ⟨Nat.zero_le _, ORow.nil _⟩ ?_ (fun w h => h) ?_
     exact js
     rintro ⟨i, a, c, B⟩ ⟨hi, hB⟩
     dsimp only at hi hB ⊢
     have hlti := hlt i hi
     by_cases hil : i < tl.length
     · obtain ⟨s, hs⟩ : ∃ s, tl[i]? = some s := ⟨_, List.getElem?_eq_getElem hil⟩
       have hmap : (tl.take (i + 1)).map Vd.bare = (tl.take i).map Vd.bare ++ [Vd.bare s] := by rw [List.take_add_one, hs]; simp
       have hlst : Vd.leastT (tl.take (i + 1)) 2147483647 = min (Vd.leastT (tl.take i) 2147483647) s.ttl := by rw [List.take_add_one, hs]; exact Wy _ _ _
       obtain ⟨sa, sc, hs2, hload⟩ : ∃ sa sc, rsR N [.string (bs s.name), .int .u16 s.kind, .int .u16 s.cls, .int .u32 s.ttl, .slice sa s.data.length sc] s ∧ ((i < chain.length ∧ ∃ bb cur, aC = some ⟨bb, 0, none⟩ ∧ (bb, Obj.cells cur 122 (0, 0)) ∈ (b11, Obj.cells #[.int .u8 m.code, .slice a ((tl.take i).map Vd.bare).length c, .slice none 0 0] 40 (0, 0)) :: (B ++ ((bV, Obj.cells #[.int .u8 0, .slice none 0 0, .slice none 0 0] 40 (0, 0)) :: ((bM, Obj.cells #[h0, h1, h2, h3, h4, h5, h6, h7, h8, h9, .int .u8 m.code, qs, .slice aA m.answers.length cA, .slice aB m.auth.length cB, x, k, e0, e1, e2, e3, e4] 132 (0, 0)) :: ((bQ, Obj.cells #[.string (bs q.name), .int .u16 q.kind, .int .u16 q.cls] 24 (0, 0)) :: (BE ++ (BC ++ (BG ++ (N ++ L)))))))) ∧ ∀ j v, ([.string (bs s.name), .int .u16 s.kind, .int .u16 s.cls, .int .u32 s.ttl, .slice sa s.data.length sc] : List Value)[j]? = some v → cur[0 + i * 5 + j]? = some v) ∨
        (¬ i < chain.length ∧ ∃ bb cur, aE = some ⟨bb, 0, none⟩ ∧ (bb, Obj.cells cur 122 (0, 0)) ∈ (b11, Obj.cells #[.int .u8 m.code, .slice a ((tl.take i).map Vd.bare).length c, .slice none 0 0] 40 (0, 0)) :: (B ++ ((bV, Obj.cells #[.int .u8 0, .slice none 0 0, .slice none 0 0] 40 (0, 0)) :: ((bM, Obj.cells #[h0, h1, h2, h3, h4, h5, h6, h7, h8, h9, .int .u8 m.code, qs, .slice aA m.answers.length cA, .slice aB m.auth.length cB, x, k, e0, e1, e2, e3, e4] 132 (0, 0)) :: ((bQ, Obj.cells #[.string (bs q.name), .int .u16 q.kind, .int .u16 q.cls] 24 (0, 0)) :: (BE ++ (BC ++ (BG ++ (N ++ L)))))))) ∧ ∀ j v, ([.string (bs s.name), .int .u16 s.kind, .int .u16 s.cls, .int .u32 s.ttl, .slice sa s.data.length sc] : List Value)[j]? = some v → cur[0 + ((i : Int) - (chain.length : Nat)).toNat * 5 + j]? = some v)) := by
        by_cases hic : i < chain.length
        · obtain ⟨bb, cur, q1, q2, _, _, _, q3⟩ := hC.block (fun e => by rw [e] at hic; simp at hic)
          obtain ⟨cs, _, r2, _, r3⟩ := q3 i s (by rw [← htl, List.getElem?_append_left hic] at hs; exact hs)
          obtain ⟨sa, sc, rfl, _⟩ := r2.vals
          exact ⟨sa, sc, r2, Or.inl ⟨hic, bb, cur, q1, by rw [q2]; simp, by simpa only [Nat.zero_add] using r3⟩⟩
        · obtain ⟨bb, cur, q1, q2, _, _, _, q3⟩ := hE.block (fun e => by rw [e] at htll; simp at htll; omega)
          obtain ⟨cs, _, r2, _, r3⟩ := q3 (i - chain.length) s (by rw [← htl, List.getElem?_append_right jd] at hs; exact hs)
          obtain ⟨sa, sc, rfl, _⟩ := r2.vals
          refine ⟨sa, sc, r2, Or.inr ⟨hic, bb, cur, q1, by rw [q2]; simp, ?_⟩⟩
          rw [show ((i : Int) - (chain.length : Nat)).toNat = i - chain.length by omega]
          simpa only [Nat.zero_add] using r3
       have hsT : 0 ≤ s.ttl ∧ s.ttl ≤ 4294967295 := by obtain ⟨_, _, _, _, _, _, _, h⟩ := hs2.vals; exact h
       have hBn : rsR N [.string (bs s.name), .int .u16 s.kind, .int .u16 s.cls, .int .u32 0, .slice sa s.data.length sc] (Vd.bare s) := Zh hs2
       rcases hload with ⟨hic, bb, cur, rfl, hmem, hcur⟩ | ⟨hic, bb, cur, rfl, hmem, hcur⟩
       · repeat (first | refine goA ?_ | (refine jQ ?_; intro bNew) | refine jy (jm rfl (uD )) rfl ?_)
         refine jy (jA [.string (bs s.name), .int .u16 s.kind, .int .u16 s.cls, .int .u32 s.ttl, .slice sa s.data.length sc] rfl stL (List.mem_cons_of_mem _ hmem) hcur) rfl ?_
         refine goE ?_
         refine qx (C' := #[.string (bs s.name), .int .u16 s.kind, .int .u16 s.cls, .int .u32 0, .slice sa s.data.length sc]) rfl rfl onO rfl rfl rfl ?_
         repeat (first | refine goA ?_ | (refine qh ?_; intro bLit))
         refine jE (L' := (bLit, Obj.cells #[.string (bs s.name), .int .u16 s.kind, .int .u16 s.cls, .int .u32 0, .slice sa s.data.length sc] 122 (0, 0)) :: (B ++ ((bNew, Obj.cells #[.string (bs s.name), .int .u16 s.kind, .int .u16 s.cls, .int .u32 0, .slice sa s.data.length sc] 122 (0, 0)) :: ((b11, Obj.cells #[.int .u8 m.code, .slice a ((tl.take i).map Vd.bare).length c, .slice none 0 0] 40 (0, 0)) :: ((bV, Obj.cells #[.int .u8 0, .slice none 0 0, .slice none 0 0] 40 (0, 0)) :: ((bM, Obj.cells #[h0, h1, h2, h3, h4, h5, h6, h7, h8, h9, .int .u8 m.code, qs, .slice aA m.answers.length cA, .slice aB m.auth.length cB, x, k, e0, e1, e2, e3, e4] 132 (0, 0)) :: ((bQ, Obj.cells #[.string (bs q.name), .int .u16 q.kind, .int .u16 q.cls] 24 (0, 0)) :: (BE ++ (BC ++ (BG ++ (N ++ L))))))))))) ?_ ji
         refine jx (ut (L0 := N) (y := Vd.bare s) etO rfl rfl hB hBn (by rw [List.length_map, List.length_take]; omega) (by decide)) rfl ?_
         rintro _ _ ⟨a', c', B', rfl, hB', rfl⟩
         refine jE (L' := (b11, Obj.cells #[.int .u8 m.code, .slice a ((tl.take i).map Vd.bare).length c, .slice none 0 0] 40 (0, 0)) :: (B' ++ ((bV, Obj.cells #[.int .u8 0, .slice none 0 0, .slice none 0 0] 40 (0, 0)) :: ((bM, Obj.cells #[h0, h1, h2, h3, h4, h5, h6, h7, h8, h9, .int .u8 m.code, qs, .slice aA m.answers.length cA, .slice aB m.auth.length cB, x, k, e0, e1, e2, e3, e4] 132 (0, 0)) :: ((bQ, Obj.cells #[.string (bs q.name), .int .u16 q.kind, .int .u16 q.cls] 24 (0, 0)) :: (BE ++ (BC ++ (BG ++ (N ++ L))))))))) ?_ ji
         repeat (refine jy (uq rfl Qb) rfl ?_)
         refine qx (C' := #[.int .u8 m.code, .slice a' ((tl.take i).map Vd.bare ++ [Vd.bare s]).length c', .slice none 0 0]) rfl rfl onO rfl rfl rfl ?_
         refine goA ?_
         refine jg (i + 1, a', c', B') ⟨hil, by dsimp only; rw [hmap]; exact hB'⟩ ?_ (fun w h => by dsimp only; rw [hmap]; exact h) (by dsimp only; omega)
         dsimp only
         rw [hlst]
         exact js
       · repeat (first | refine goA ?_ | (refine jQ ?_; intro bNew) | refine jy (jm rfl (uD )) rfl ?_)
         refine jy (jA [.string (bs s.name), .int .u16 s.kind, .int .u16 s.cls, .int .u32 s.ttl, .slice sa s.data.length sc] rfl stL (List.mem_cons_of_mem _ hmem) hcur) rfl ?_
         refine goE ?_
         refine qx (C' := #[.string (bs s.name), .int .u16 s.kind, .int .u16 s.cls, .int .u32 0, .slice sa s.data.length sc]) rfl rfl onO rfl rfl rfl ?_
         repeat (first | refine goA ?_ | (refine qh ?_; intro bLit))
         refine jE (L' := (bLit, Obj.cells #[.string (bs s.name), .int .u16 s.kind, .int .u16 s.cls, .int .u32 0, .slice sa s.data.length sc] 122 (0, 0)) :: (B ++ ((bNew, Obj.cells #[.string (bs s.name), .int .u16 s.kind, .int .u16 s.cls, .int .u32 0, .slice sa s.data.length sc] 122 (0, 0)) :: ((b11, Obj.cells #[.int .u8 m.code, .slice a ((tl.take i).map Vd.bare).length c, .slice none 0 0] 40 (0, 0)) :: ((bV, Obj.cells #[.int .u8 0, .slice none 0 0, .slice none 0 0] 40 (0, 0)) :: ((bM, Obj.cells #[h0, h1, h2, h3, h4, h5, h6, h7, h8, h9, .int .u8 m.code, qs, .slice aA m.answers.length cA, .slice aB m.auth.length cB, x, k, e0, e1, e2, e3, e4] 132 (0, 0)) :: ((bQ, Obj.cells #[.string (bs q.name), .int .u16 q.kind, .int .u16 q.cls] 24 (0, 0)) :: (BE ++ (BC ++ (BG ++ (N ++ L))))))))))) ?_ ji
         refine jx (ut (L0 := N) (y := Vd.bare s) etO rfl rfl hB hBn (by rw [List.length_map, List.length_take]; omega) (by decide)) rfl ?_
         rintro _ _ ⟨a', c', B', rfl, hB', rfl⟩
         refine jE (L' := (b11, Obj.cells #[.int .u8 m.code, .slice a ((tl.take i).map Vd.bare).length c, .slice none 0 0] 40 (0, 0)) :: (B' ++ ((bV, Obj.cells #[.int .u8 0, .slice none 0 0, .slice none 0 0] 40 (0, 0)) :: ((bM, Obj.cells #[h0, h1, h2, h3, h4, h5, h6, h7, h8, h9, .int .u8 m.code, qs, .slice aA m.answers.length cA, .slice aB m.auth.length cB, x, k, e0, e1, e2, e3, e4] 132 (0, 0)) :: ((bQ, Obj.cells #[.string (bs q.name), .int .u16 q.kind, .int .u16 q.cls] 24 (0, 0)) :: (BE ++ (BC ++ (BG ++ (N ++ L))))))))) ?_ ji
         repeat (refine jy (uq rfl Qb) rfl ?_)
         refine qx (C' := #[.int .u8 m.code, .slice a' ((tl.take i).map Vd.bare ++ [Vd.bare s]).length c', .slice none 0 0]) rfl rfl onO rfl rfl rfl ?_
         refine goA ?_
         refine jg (i + 1, a', c', B') ⟨hil, by dsimp only; rw [hmap]; exact hB'⟩ ?_ (fun w h => by dsimp only; rw [hmap]; exact h) (by dsimp only; omega)
         dsimp only
         rw [hlst]
         exact js
     · have hie : i = tl.length := by omega
       subst hie
       rw [List.take_length] at hB hlti ⊢
       by_cases hle : last = []
       · rw [if_neg (by simpa using hle)]
         have hl0 : last.length = 0 := by rw [hle]; rfl
         obtain ⟨⟨s, is, er⟩, hS⟩ : ∃ x, Vd.findSoa (Vd.group m.auth) pos q.cls = x := ⟨_, rfl⟩
         rw [hS]
         dsimp only
         refine goA ?_
         refine JG (σ := Option Addr × Nat × Nat × ja) (fun y => rsR y.2.2.2 [.string (bs s.name), .int .u16 s.kind, .int .u16 s.cls, .int .u32 s.ttl, .slice y.1 s.data.length y.2.1] s ∧ Wr y.2.2.2) (fun y => [(4, .pointer (some ⟨bV, 0, none⟩)), (10, .int .i64 er), (11, .pointer (some ⟨b11, 0, none⟩)), (12, .int .u32 (Vd.leastT tl 2147483647)), (15, .pointer (some ⟨y.2.2.1, 0, none⟩)), (16, .bool is)]) (fun y => (y.2.2.1, Obj.cells #[.string (bs s.name), .int .u16 s.kind, .int .u16 s.cls, .int .u32 s.ttl, .slice y.1 s.data.length y.2.1] 122 (0, 0)) :: (y.2.2.2 ++ ((b11, Obj.cells #[.int .u8 m.code, .slice a (tl.map Vd.bare).length c, .slice none 0 0] 40 (0, 0)) :: (B ++ ((bV, Obj.cells #[.int .u8 0, .slice none 0 0, .slice none 0 0] 40 (0, 0)) :: ((bM, Obj.cells #[h0, h1, h2, h3, h4, h5, h6, h7, h8, h9, .int .u8 m.code, qs, .slice aA m.answers.length cA, .slice aB m.auth.length cB, x, k, e0, e1, e2, e3, e4] 132 (0, 0)) :: ((bQ, Obj.cells #[.string (bs q.name), .int .u16 q.kind, .int .u16 q.cls] 24 (0, 0)) :: (BE ++ (BC ++ (BG ++ (N ++ L))))))))))) ?_ ?_
         · have hKm2 : ∀ z ∈ [(bQ, Obj.cells #[.string (bs q.name), .int .u16 q.kind, .int .u16 q.cls] 24 (0, 0)), (bM, Obj.cells #[h0, h1, h2, h3, h4, h5, h6, h7, h8, h9, .int .u8 m.code, qs, .slice aA m.answers.length cA, .slice aB m.auth.length cB, x, k, e0, e1, e2, e3, e4] 132 (0, 0))], z ∈ ((b11, Obj.cells #[.int .u8 m.code, .slice a (tl.map Vd.bare).length c, .slice none 0 0] 40 (0, 0)) :: (B ++ ((bV, Obj.cells #[.int .u8 0, .slice none 0 0, .slice none 0 0] 40 (0, 0)) :: ((bM, Obj.cells #[h0, h1, h2, h3, h4, h5, h6, h7, h8, h9, .int .u8 m.code, qs, .slice aA m.answers.length cA, .slice aB m.auth.length cB, x, k, e0, e1, e2, e3, e4] 132 (0, 0)) :: ((bQ, Obj.cells #[.string (bs q.name), .int .u16 q.kind, .int .u16 q.cls] 24 (0, 0)) :: (BE ++ (BC ++ (BG ++ (N ++ L))))))))) := jn
           refine jw jc ([(bQ, Obj.cells #[.string (bs q.name), .int .u16 q.kind, .int .u16 q.cls] 24 (0, 0)), (bM, Obj.cells #[h0, h1, h2, h3, h4, h5, h6, h7, h8, h9, .int .u8 m.code, qs, .slice aA m.answers.length cA, .slice aB m.auth.length cB, x, k, e0, e1, e2, e3, e4] 132 (0, 0))]) [] ?_
           refine tkQ 0 ?_
           refine tkQ 1 ?_
           refine tkQ 3 ?_
           refine tkQ 4 ?_
           refine tkQ 5 ?_
           refine Vg 2 11 je ?_ ?_
           · refine yR rfl rfl rfl rfl (jb je rfl (Vt _ m.auth (jq qm _ _ _ _ jn hmb) hB1 (fun x hx => (hB2 x hx).1) (fun x hx => (hB2 x hx).2))) ?_
             rintro _ _ ⟨aG2, cG2, BG2, N2, rfl, hG2, hN2, rfl⟩; refine ⟨Or.inr jn, ?_⟩
             have hKm3 : ∀ z ∈ [(bQ, Obj.cells #[.string (bs q.name), .int .u16 q.kind, .int .u16 q.cls] 24 (0, 0)), (bM, Obj.cells #[h0, h1, h2, h3, h4, h5, h6, h7, h8, h9, .int .u8 m.code, qs, .slice aA m.answers.length cA, .slice aB m.auth.length cB, x, k, e0, e1, e2, e3, e4] 132 (0, 0))], z ∈ BG2 ++ (N2 ++ ((b11, Obj.cells #[.int .u8 m.code, .slice a (tl.map Vd.bare).length c, .slice none 0 0] 40 (0, 0)) :: (B ++ ((bV, Obj.cells #[.int .u8 0, .slice none 0 0, .slice none 0 0] 40 (0, 0)) :: ((bM, Obj.cells #[h0, h1, h2, h3, h4, h5, h6, h7, h8, h9, .int .u8 m.code, qs, .slice aA m.answers.length cA, .slice aB m.auth.length cB, x, k, e0, e1, e2, e3, e4] 132 (0, 0)) :: ((bQ, Obj.cells #[.string (bs q.name), .int .u16 q.kind, .int .u16 q.cls] 24 (0, 0)) :: (BE ++ (BC ++ (BG ++ (N ++ L)))))))))) := jn
             refine Vg 6 11 je ?_ ?_
             · refine yR rfl rfl rfl rfl (jb je rfl (JC (K := BG2) (N := N2) _ (Vd.group m.auth) pos q.cls jn ((hG2.imp (r' := fun _ => rsR N2) (L' := []) (fun cs x _ h => h)).sliceR km jn jn) jd (fun s hs => Nat.le_trans (gb2 s hs).1 jd))) ?_
               rintro _ _ ⟨cs, rfl, hs2, rfl⟩; rw [hS] at hs2 ⊢; obtain ⟨sa, sc, rfl, _⟩ := hs2.vals; refine ⟨Or.inr jn, ?_⟩
               refine tkQ 7 ?_
               refine tkQ 8 ?_
               refine tkQ 9 ?_
               refine tkQ 10 ?_
               refine jD 11 je rfl rfl rfl rfl (kh (C := #[.string (bs []), .int .u16 0, .int .u16 0, .int .u32 0, .slice none 0 0]) zeO rfl) ?_; rintro _ _ ⟨b15, rfl, rfl⟩; refine ⟨Or.inr jn, ?_⟩
               refine kk (L' := (b15, Obj.cells #[.string (bs []), .int .u16 0, .int .u16 0, .int .u32 0, .slice none 0 0] 122 (0, 0)) :: (BG2 ++ (N2 ++ ((b11, Obj.cells #[.int .u8 m.code, .slice a (tl.map Vd.bare).length c, .slice none 0 0] 40 (0, 0)) :: (B ++ ((bV, Obj.cells #[.int .u8 0, .slice none 0 0, .slice none 0 0] 40 (0, 0)) :: ((bM, Obj.cells #[h0, h1, h2, h3, h4, h5, h6, h7, h8, h9, .int .u8 m.code, qs, .slice aA m.answers.length cA, .slice aB m.auth.length cB, x, k, e0, e1, e2, e3, e4] 132 (0, 0)) :: ((bQ, Obj.cells #[.string (bs q.name), .int .u16 q.kind, .int .u16 q.cls] 24 (0, 0)) :: (BE ++ (BC ++ (BG ++ (N ++ L)))))))))))) ?_ ji; refine jU 12 je rfl rfl rfl (qn rfl rfl stO rfl rfl rfl) ?_; rintro _ _ ⟨_, rfl⟩; refine ⟨Or.inr jn, ?_⟩
               refine tkQ 13 ?_
               refine tkQ 14 ?_
               refine tdQ ?_
               skip
               refine kS (sa, sc, b15, N2) ⟨hs2, hN2⟩ ?_ (fun w h => h.cnt ji)
               exact js
             · refine yR rfl rfl rfl rfl (kh (C := #[.string (bs []), .int .u16 0, .int .u16 0, .int .u32 0, .slice none 0 0]) zeO rfl) ?_
               rintro _ _ ⟨b15, rfl, rfl⟩; refine ⟨Or.inr jn, ?_⟩
               refine jD 6 je rfl rfl rfl rfl (jb je rfl (JC (K := BG2) (N := N2) _ (Vd.group m.auth) pos q.cls jn ((hG2.imp (r' := fun _ => rsR N2) (L' := []) (fun cs x _ h => h)).sliceR km jn jn) jd (fun s hs => Nat.le_trans (gb2 s hs).1 jd))) ?_; rintro _ _ ⟨cs, rfl, hs2, rfl⟩; rw [hS] at hs2 ⊢; obtain ⟨sa, sc, rfl, _⟩ := hs2.vals; refine ⟨Or.inr jn, ?_⟩
               refine tkQ 7 ?_
               refine tkQ 8 ?_
               refine tkQ 9 ?_
               refine tkQ 10 ?_
               refine kk (L' := (b15, Obj.cells #[.string (bs []), .int .u16 0, .int .u16 0, .int .u32 0, .slice none 0 0] 122 (0, 0)) :: (BG2 ++ (N2 ++ ((b11, Obj.cells #[.int .u8 m.code, .slice a (tl.map Vd.bare).length c, .slice none 0 0] 40 (0, 0)) :: (B ++ ((bV, Obj.cells #[.int .u8 0, .slice none 0 0, .slice none 0 0] 40 (0, 0)) :: ((bM, Obj.cells #[h0, h1, h2, h3, h4, h5, h6, h7, h8, h9, .int .u8 m.code, qs, .slice aA m.answers.length cA, .slice aB m.auth.length cB, x, k, e0, e1, e2, e3, e4] 132 (0, 0)) :: ((bQ, Obj.cells #[.string (bs q.name), .int .u16 q.kind, .int .u16 q.cls] 24 (0, 0)) :: (BE ++ (BC ++ (BG ++ (N ++ L)))))))))))) ?_ ji; refine jU 12 je rfl rfl rfl (qn rfl rfl stO rfl rfl rfl) ?_; rintro _ _ ⟨_, rfl⟩; refine ⟨Or.inr jn, ?_⟩
               refine tkQ 13 ?_
               refine tkQ 14 ?_
               refine tdQ ?_
               skip
               refine kS (sa, sc, b15, N2) ⟨hs2, hN2⟩ ?_ (fun w h => h.cnt ji)
               exact js
           · refine yR rfl rfl rfl rfl (kh (C := #[.string (bs []), .int .u16 0, .int .u16 0, .int .u32 0, .slice none 0 0]) zeO rfl) ?_
             rintro _ _ ⟨b15, rfl, rfl⟩; refine ⟨Or.inr jn, ?_⟩
             refine jD 2 je rfl rfl rfl rfl (jb je rfl (Vt _ m.auth (jq qm _ _ _ _ jn hmb) hB1 (fun x hx => (hB2 x hx).1) (fun x hx => (hB2 x hx).2))) ?_; rintro _ _ ⟨aG2, cG2, BG2, N2, rfl, hG2, hN2, rfl⟩; refine ⟨Or.inr jn, ?_⟩
             refine jD 6 je rfl rfl rfl rfl (jb je rfl (JC (K := BG2) (N := N2) _ (Vd.group m.auth) pos q.cls jn ((hG2.imp (r' := fun _ => rsR N2) (L' := []) (fun cs x _ h => h)).sliceR km jn jn) jd (fun s hs => Nat.le_trans (gb2 s hs).1 jd))) ?_; rintro _ _ ⟨cs, rfl, hs2, rfl⟩; rw [hS] at hs2 ⊢; obtain ⟨sa, sc, rfl, _⟩ := hs2.vals; refine ⟨Or.inr jn, ?_⟩
             refine tkQ 7 ?_
             refine tkQ 8 ?_
             refine tkQ 9 ?_
             refine tkQ 10 ?_
             refine kk (L' := (b15, Obj.cells #[.string (bs []), .int .u16 0, .int .u16 0, .int .u32 0, .slice none 0 0] 122 (0, 0)) :: (BG2 ++ (N2 ++ ((b11, Obj.cells #[.int .u8 m.code, .slice a (tl.map Vd.bare).length c, .slice none 0 0] 40 (0, 0)) :: (B ++ ((bV, Obj.cells #[.int .u8 0, .slice none 0 0, .slice none 0 0] 40 (0, 0)) :: ((bM, Obj.cells #[h0, h1, h2, h3, h4, h5, h6, h7, h8, h9, .int .u8 m.code, qs, .slice aA m.answers.length cA, .slice aB m.auth.length cB, x, k, e0, e1, e2, e3, e4] 132 (0, 0)) :: ((bQ, Obj.cells #[.string (bs q.name), .int .u16 q.kind, .int .u16 q.cls] 24 (0, 0)) :: (BE ++ (BC ++ (BG ++ (N ++ L)))))))))))) ?_ ji; refine jU 12 je rfl rfl rfl (qn rfl rfl stO rfl rfl rfl) ?_; rintro _ _ ⟨_, rfl⟩; refine ⟨Or.inr jn, ?_⟩
             refine tkQ 13 ?_
             refine tkQ 14 ?_
             refine tdQ ?_
             skip
             refine kS (sa, sc, b15, N2) ⟨hs2, hN2⟩ ?_ (fun w h => h.cnt ji)
             exact js
         · rintro ⟨sa, sc, b15, N2⟩ ⟨hs2, hN2⟩
           dsimp only at hs2 hN2 ⊢
           by_cases he2 : er = 0
           · rw [if_neg (by simpa using he2)]
             cases is with
             | false =>
               simp only [Bool.not_false, if_true]
               have hm11 : (b11, Obj.cells #[.int .u8 m.code, .slice a (tl.map Vd.bare).length c, .slice none 0 0] 40 (0, 0)) ∈ (b15, Obj.cells #[.string (bs s.name), .int .u16 s.kind, .int .u16 s.cls, .int .u32 s.ttl, .slice sa s.data.length sc] 122 (0, 0)) :: (N2 ++ ((b11, Obj.cells #[.int .u8 m.code, .slice a (tl.map Vd.bare).length c, .slice none 0 0] 40 (0, 0)) :: (B ++ ((bV, Obj.cells #[.int .u8 0, .slice none 0 0, .slice none 0 0] 40 (0, 0)) :: ((bM, Obj.cells #[h0, h1, h2, h3, h4, h5, h6, h7, h8, h9, .int .u8 m.code, qs, .slice aA m.answers.length cA, .slice aB m.auth.length cB, x, k, e0, e1, e2, e3, e4] 132 (0, 0)) :: ((bQ, Obj.cells #[.string (bs q.name), .int .u16 q.kind, .int .u16 q.cls] 24 (0, 0)) :: (BE ++ (BC ++ (BG ++ (N ++ L)))))))))) := by simp
               refine goA ?_
               refine jE (L' := (bV, Obj.cells #[.int .u8 0, .slice none 0 0, .slice none 0 0] 40 (0, 0)) :: (B ++ (N ++ L))) ?_ ji
               refine goA ?_
               refine kw 4 40 5 6 rfl rfl rfl rfl stO (by repeat (exact List.mem_cons_self)) rfl (fun w h => Heap.cnt (L' := [] ++ (B ++ (N ++ L))) h ji) ?_
               exact ⟨a, c, B, none, 0, [], N, rfl, hB, ORow.nil _, hN, rfl⟩
             | true =>
               simp only [Bool.not_true, Bool.false_eq_true, if_false]
               have hsg : s ∈ Vd.group m.auth := by have := QA (l := Vd.group m.auth) (n := pos) (c := q.cls); rw [hS] at this; exact this rfl
               refine goA ?_
               refine jN (jb je rfl (aez _ s (jv _ _ _ _ jn hs2) (gb2 s hsg).2.2.2)) rfl ?_
               have htm := Yx s
               refine goE ?_
               refine qx (C' := #[.string (bs s.name), .int .u16 s.kind, .int .u16 s.cls, .int .u32 0, .slice sa s.data.length sc]) rfl rfl onO rfl rfl rfl ?_
               repeat (first | refine goE ?_ | (refine qh ?_; intro bLit))
               refine jE (L' := (b11, Obj.cells #[.int .u8 m.code, .slice a (tl.map Vd.bare).length c, .slice none 0 0] 40 (0, 0)) :: ((bV, Obj.cells #[.int .u8 0, .slice none 0 0, .slice none 0 0] 40 (0, 0)) :: ((bLit, Obj.cells #[.string (bs s.name), .int .u16 s.kind, .int .u16 s.cls, .int .u32 0, .slice sa s.data.length sc] 122 (0, 0)) :: (B ++ (N2 ++ (N ++ L)))))) ?_ ji
               refine qx (C' := #[.int .u8 m.code, .slice a (tl.map Vd.bare).length c, .slice (some ⟨bLit, 0, none⟩) 1 1]) rfl rfl onO rfl rfl rfl ?_
               refine goA ?_
               refine jE (L' := (bV, Obj.cells #[.int .u8 0, .slice none 0 0, .slice none 0 0] 40 (0, 0)) :: ((bLit, Obj.cells #[.string (bs s.name), .int .u16 s.kind, .int .u16 s.cls, .int .u32 0, .slice sa s.data.length sc] 122 (0, 0)) :: (B ++ ((N2 ++ N) ++ L)))) ?_ ji
               refine goA ?_
               refine kw 4 40 5 6 rfl rfl rfl rfl stO (by repeat (exact List.mem_cons_self)) rfl (fun w h => Heap.cnt (L' := [(bLit, Obj.cells #[.string (bs s.name), .int .u16 s.kind, .int .u16 s.cls, .int .u32 0, .slice sa s.data.length sc] 122 (0, 0))] ++ (B ++ ((N2 ++ N) ++ L))) h ji) ?_
               exact ⟨a, c, B, _, _, _, N2 ++ N, rfl, hB.mono jv jn, Vv (jv _ _ _ _ jn (Zh hs2)), hN2.append hN, rfl⟩
           · rw [if_pos (by simpa using he2)]
             repeat (first | refine goA ?_ | refine jy (jm rfl (yb )) rfl ?_)
             refine jE (L' := (bV, Obj.cells #[.int .u8 0, .slice none 0 0, .slice none 0 0] 40 (0, 0)) :: L) ?_ ji
             refine goA ?_
             refine kw 4 40 5 6 rfl rfl rfl rfl stO (by repeat (exact List.mem_cons_self)) rfl (fun w h => Heap.cnt (L' := L) h ji) ?_
             exact OfOut.bad _
       · rw [if_pos (by simpa using hle)]
         have hlp : 0 < last.length := List.length_pos_iff.2 hle
         refine goA ?_
         refine jE (L' := (bV, Obj.cells #[.int .u8 0, .slice none 0 0, .slice none 0 0] 40 (0, 0)) :: (B ++ (N ++ L))) ?_ ji
         refine goA ?_
         refine kw 4 40 5 6 rfl rfl rfl rfl stO (by repeat (exact List.mem_cons_self)) rfl (fun w h => Heap.cnt (L' := [] ++ (B ++ (N ++ L))) h ji) ?_
         exact ⟨a, c, B, none, 0, [], N, rfl, hB, ORow.nil _, hN, rfl⟩
   · rw [if_pos (by simpa using he)]
     repeat (first | refine goA ?_ | refine jy (jm rfl (yb )) rfl ?_)
     refine kw 4 40 5 6 rfl rfl rfl rfl stO (by repeat (exact List.mem_cons_self)) rfl (fun w h => Heap.cnt (L' := L) h ji) ?_
     exact OfOut.bad _
 · rw [hOf, hmay, if_pos (by simp only [not_or] at hc3; simp [hc3.1, hc3.2])]
   simp only [not_or] at hc3
   obtain ⟨hc31, hc32⟩ := hc3
   repeat (first | refine goA ?_ | (refine' jN (jb je rfl (qi _ ?_)) rfl ?_; (· omega)) | refine jy (jm rfl (yb )) rfl ?_)
   refine kw 4 40 5 6 rfl rfl rfl rfl stO (by repeat (exact List.mem_cons_self)) rfl (fun w h => Heap.cnt (L' := L) h ji) ?_
   exact OfOut.bad _
end
section
open Go.RowKit
open Vd (RSet Vdt Vote Rec Quest Piece)
section
variable {G : World} {P : Program} {n : Nat} {ρ : jB} {L : ja} {Q : Exit → Act → World → Prop}
end
def air (dk : List (Nat × Nat)) (D : ja) : Prop := ∀ k ∈ dk, ∃ C te, (k.1, Obj.cells C te (0, 0)) ∈ D ∧ k.2 ≤ C.size
def DS (dk : List (Nat × Nat)) (a : Option Addr) (m : Nat) : Prop := m = 0 ∨ ∃ b off s, a = some ⟨b, off, none⟩ ∧ (b, s) ∈ dk ∧ off + m ≤ s ∧ m ≤ 9223372036854775807
theorem DS.ex {dk : List (Nat × Nat)} {a : Option Addr} {m : Nat} (h : DS dk a m) (hm : 0 < m) : ∃ b off s, a = some ⟨b, off, none⟩ ∧ (b, s) ∈ dk ∧ off + m ≤ s ∧ m ≤ 9223372036854775807 := by
 rcases h with h | h
 · omega
 · exact h
def RowS (dk : List (Nat × Nat)) (B : ja) (a : Option Addr) (n : Nat) : Prop := (n = 0 ∧ B = []) ∨ ∃ b cur, a = some ⟨b, 0, none⟩ ∧ B = [(b, Obj.cells cur 122 (0, 0))] ∧ n * 5 ≤ cur.size ∧ ∀ i, i < n → ∃ da m c, cur[i * 5 + 4]? = some (.slice da m c) ∧ DS dk da m
theorem RowS.ex {dk : List (Nat × Nat)} {B : ja} {a : Option Addr} {n i : Nat} (h : RowS dk B a n) (hi : i < n) : ∃ b cur, a = some ⟨b, 0, none⟩ ∧ B = [(b, Obj.cells cur 122 (0, 0))] ∧ n * 5 ≤ cur.size ∧ ∀ i, i < n → ∃ da m c, cur[i * 5 + 4]? = some (.slice da m c) ∧ DS dk da m := by
 rcases h with h | h
 · omega
 · exact h
def ahK : List Value := [.string (bs [115, 112, 111, 105, 108, 116]), .int .u16 0, .int .u16 0, .int .u32 0, .slice none 0 0]
theorem RowS.put {dk : List (Nat × Nat)} {b : Nat} {cur : Array Value} {n i : Nat} (h : RowS dk [(b, Obj.cells cur 122 (0, 0))] (some ⟨b, 0, none⟩) n) (hi : i < n) :
 RowS dk [(b, Obj.cells (qN cur (0 + i * 5) [.string (bs [115, 112, 111, 105, 108, 116]), .int .u16 0, .int .u16 0, .int .u32 0, .slice none 0 0]) 122 (0, 0))] (some ⟨b, 0, none⟩) n := by
 obtain ⟨b0, cur0, e1, e2, h3, h4⟩ := h.ex hi
 simp only [List.cons.injEq, Prod.mk.injEq, Obj.cells.injEq, and_true] at e2
 obtain ⟨rfl, rfl⟩ := e2
 have hle : (i + 1) * 5 ≤ n * 5 := Nat.mul_le_mul_right _ hi
 refine Or.inr ⟨_, _, rfl, rfl, ?_, fun j hj => ?_⟩
 · unfold qN; simp; omega
 · rw [Nat.zero_add]
   by_cases hji : j = i
   · subst hji
     refine ⟨none, 0, 0, ?_, Or.inl rfl⟩
     unfold qN
     simp only [List.getElem?_toArray]
     rw [List.append_assoc, List.getElem?_append_right (by simp; omega), List.getElem?_append_left (by simp; omega)]
     have : min (j * 5) cur.size = j * 5 := by omega
     simp [this]
   · obtain ⟨da, m, c, k1, k2⟩ := h4 j hj
     refine ⟨da, m, c, ?_, k2⟩
     rw [← k1]
     unfold qN
     simp only [List.getElem?_toArray]
     have hmin : min (i * 5) cur.size = i * 5 := by omega
     by_cases hlt : j < i
     · have : (j + 1) * 5 ≤ i * 5 := Nat.mul_le_mul_right _ hlt
       rw [List.append_assoc, List.getElem?_append_left (by simp; omega), List.getElem?_take_of_lt jd]
       simp
     · have : (i + 1) * 5 ≤ j * 5 := Nat.mul_le_mul_right _ jd
       rw [List.getElem?_append_right (by simp; omega), List.getElem?_drop]
       simp only [List.length_append, List.length_take, Array.length_toList, List.length_cons, List.length_nil, hmin]
       rw [show i * 5 + (0 + 1 + 1 + 1 + 1 + 1) + (j * 5 + 4 - (i * 5 + (0 + 1 + 1 + 1 + 1 + 1))) = j * 5 + 4 by omega]
       simp
variable {G : World} {L : ja}
end
section
open Go.RowKit
open Vd (RSet Vdt Vote Rec Quest Piece)
theorem sliceR.const {α : Type} {r : Rp α} {sz : Nat} {L : ja} {cs : List Value} {l : List α} (h : sliceR sz r L cs l) : sliceR sz (fun _ => r L) L cs l := h.imp (fun _ h => h) (fun _ _ _ h => h)
def SmS (l : List RSet) : Prop := l.length ≤ 100000 ∧ ∀ s ∈ l, s.data.length ≤ 100000
def SmV (v : Vdt) : Prop := SmS v.sets ∧ SmS v.soa
variable {G : World} {L : ja}
def abm (L : ja) (v : Vdt) (u : Value) (M : ja) : Prop := ∃ a c B a2 c2 B2 N, u = .agg #[.int .u8 v.code, .slice a v.sets.length c, .slice a2 v.soa.length c2] ∧
 ORow rsR 122 5 N a c v.sets B ∧ ORow rsR 122 5 N a2 c2 v.soa B2 ∧ Wr N ∧ M = B2 ++ (B ++ (N ++ L))
theorem Kx (v : Value) (l : List RSet) (hl : sliceR 5 rsR L [v] l) (hs : SmS l) : Spec Tryz.prog G 116 #[v] L fun u M => ∃ a c B N, u = .slice a l.length c ∧ ORow rsR 122 5 N a c l B ∧ Wr N ∧ M = B ++ (N ++ L) := by
 obtain ⟨hn, hd⟩ := hs
 obtain ⟨a0, c0, e1, hl⟩ := hl.val
 simp only [List.cons.injEq, and_true] at e1
 subst e1
 obtain ⟨_, ka1, ka2, hl⟩ := uR hl
 refine jl (n := 22) Tryz.func116 rfl rfl rfl ?_
 refine goA ?_
 refine jz (σ := Nat × Option Addr × Nat × ja × ja) (fun x => x.1 ≤ l.length ∧ ORow rsR 122 5 x.2.2.2.2 x.2.1 x.2.2.1 (l.take x.1) x.2.2.2.1 ∧ Wr x.2.2.2.2) (fun x => [(3, .slice x.2.1 (l.take x.1).length x.2.2.1), (6, .slice a0 l.length c0), (7, .int .i64 (l.length : Nat)), (8, .int .i64 (x.1 : Nat))]) (fun x => x.2.2.2.1 ++ (x.2.2.2.2 ++ L)) (fun x => l.length - x.1) (0, none, 0, [], []) ⟨Nat.zero_le _, ORow.nil _, Wr.nil⟩ ?_ (fun w h => h) ?_
 exact js
 rintro ⟨k, a, c, B, N⟩ ⟨hk, hB, hN⟩
 dsimp only at hk hB hN ⊢
 by_cases hlt : k < l.length
 · obtain ⟨x, hx⟩ : ∃ x, l[k]? = some x := ⟨_, List.getElem?_eq_getElem hlt⟩
   have htk : l.take (k + 1) = l.take k ++ [x] := by rw [List.take_add_one, hx]; rfl
   have htl : (l.take k).length ≤ 100000 := by rw [List.length_take]; omega
   rcases hl with rfl | ⟨b1, o1, C1, t1, f1, rfl, m1, q1⟩
   · simp at hlt
   obtain ⟨cx, _, hx2, hcx⟩ := q1 k x hx
   obtain ⟨xa, xc, rfl, hxd, hx4⟩ := hx2.vals
   have m1' : (b1, Obj.cells C1 t1 f1) ∈ B ++ (N ++ L) := List.mem_append_right _ (List.mem_append_right _ m1)
   refine goA ?_
   refine jy (jA [.string (bs x.name), .int .u16 x.kind, .int .u16 x.cls, .int .u32 x.ttl, .slice xa x.data.length xc] rfl stL m1' hcx) rfl ?_
   repeat (first | refine goA ?_ | (refine jQ ?_; intro bNew))
   refine jx (jb je rfl (Vs _ x.data (jq kP _ _ _ _ jn hxd) (Nat.le_trans (hd x (List.mem_of_getElem? hx)) jd))) rfl ?_
   rintro _ _ ⟨ad, cd, Bd, rfl, hBd, rfl⟩
   refine jE (L' := (bNew, Obj.cells #[.string (bs x.name), .int .u16 x.kind, .int .u16 x.cls, .int .u32 x.ttl, .slice xa x.data.length xc] 122 (0, 0)) :: (B ++ ((Bd ++ N) ++ L))) ?_ ji
   repeat (refine jy (uq rfl Qb) rfl ?_)
   refine qx (C' := #[.string (bs x.name), .int .u16 x.kind, .int .u16 x.cls, .int .u32 x.ttl, .slice ad x.data.length cd]) rfl rfl onO rfl rfl rfl ?_
   repeat (first | refine goA ?_ | (refine qh ?_; intro bLit))
   refine jE (L' := (bLit, Obj.cells #[.string (bs x.name), .int .u16 x.kind, .int .u16 x.cls, .int .u32 x.ttl, .slice ad x.data.length cd] 122 (0, 0)) :: (B ++ ((bNew, Obj.cells #[.string (bs x.name), .int .u16 x.kind, .int .u16 x.cls, .int .u32 x.ttl, .slice ad x.data.length cd] 122 (0, 0)) :: ((Bd ++ N) ++ L)))) ?_ ji
   refine jx (ut (L0 := Bd ++ N) (cs := [.string (bs x.name), .int .u16 x.kind, .int .u16 x.cls, .int .u32 x.ttl, .slice ad x.data.length cd]) (y := x) etO rfl rfl (hB.mono jv jn) ⟨_, rfl, (hBd.imp (L' := []) (fun cs y _ h => h)).sliceR kP jn jn, hx4⟩ jd (by decide)) rfl ?_
   rintro _ _ ⟨a', c', B', rfl, hB', rfl⟩
   refine goA ?_
   refine jg (k + 1, a', c', B', Bd ++ N) ⟨hlt, by dsimp only; rw [htk]; exact hB', hBd.wr.append hN⟩ ?_ (fun w h => h.cnt ji) (by dsimp only; omega)
   dsimp only
   rw [htk]
   exact js
 · have hkn : k = l.length := by omega
   subst hkn
   rw [List.take_length] at hB ⊢
   refine goA ?_
   refine jf 2 _ rfl rfl ?_
   exact ⟨a, c, B, N, rfl, hB, hN, rfl⟩
theorem yS (cs : List Value) (v : Vdt) (hv : vdR L cs v) (hs : SmV v) : Spec Tryz.prog G 84 #[.agg cs.toArray] L (abm L v) := by
 obtain ⟨va, vb, rfl, h1, h2, hcode⟩ := hv
 obtain ⟨a1, c1, ea, h1⟩ := h1.val
 obtain ⟨a2, c2, eb, h2⟩ := h2.val
 simp only [List.cons.injEq, and_true] at ea eb
 subst ea eb
 refine jl (n := 12) Tryz.func84 rfl rfl rfl ?_
 repeat (first | refine goA ?_ | (refine jQ ?_; intro bNew) | (refine kD ?_; intro bBox))
 have hKm : ∀ z ∈ [(bBox, Obj.cells #[.int .u8 v.code, .slice a1 v.sets.length c1, .slice a2 v.soa.length c2] 40 (0, 0))], z ∈ (bNew, Obj.cells #[.int .u8 0, .slice none 0 0, .slice none 0 0] 40 (0, 0)) :: ((bBox, Obj.cells #[.int .u8 v.code, .slice a1 v.sets.length c1, .slice a2 v.soa.length c2] 40 (0, 0)) :: L) := jn
 refine jw jc ([(bBox, Obj.cells #[.int .u8 v.code, .slice a1 v.sets.length c1, .slice a2 v.soa.length c2] 40 (0, 0))]) [] ?_
 refine tkQ 0 ?_
 refine tkQ 1 ?_
 refine tkQ 2 ?_
 refine tkQ 3 ?_
 refine tkQ 5 ?_
 refine tkQ 6 ?_
 refine jD 4 je rfl rfl rfl rfl (jb je rfl (Kx _ v.sets (jq jv _ _ _ _ jn h1) hs.1)) ?_; rintro _ _ ⟨aR, cR, BR, NR, rfl, hR, hNR, rfl⟩; refine ⟨Or.inr jn, ?_⟩
 refine jD 7 je rfl rfl rfl rfl (jb je rfl (Kx _ v.soa (jq jv _ _ _ _ jn h2) hs.2)) ?_; rintro _ _ ⟨aS, cS, BS, NS, rfl, hS, hNS, rfl⟩; refine ⟨Or.inr jn, ?_⟩
 (refine' ju 8 rfl rfl je (jF (jm rfl (yF _ _ _ _ _ _ _))) ?_ ?_; (· intro p hp; grind))
 refine kk (L' := (bNew, Obj.cells #[.int .u8 0, .slice none 0 0, .slice none 0 0] 40 (0, 0)) :: (BS ++ (NS ++ (BR ++ (NR ++ ((bBox, Obj.cells #[.int .u8 v.code, .slice a1 v.sets.length c1, .slice a2 v.soa.length c2] 40 (0, 0)) :: L)))))) ?_ ji; refine jU 9 je rfl rfl rfl (qn rfl rfl stO rfl rfl rfl) ?_; rintro _ _ ⟨_, rfl⟩; refine ⟨Or.inr jn, ?_⟩
 refine tdQ ?_
 refine goA ?_
 refine kO 2 40  rfl rfl  stO (by repeat (exact List.mem_cons_self)) rfl (fun w h => Heap.cnt (L' := BS ++ (BR ++ ((NS ++ NR) ++ L))) h ji) ?_
 exact ⟨_, _, _, _, _, _, NS ++ NR, rfl, hR.mono jv jn, hS.mono jv jn, hNS.append hNR, rfl⟩
theorem Ky (v : Value) (l : List RSet) (hl : sliceR 5 rsR L [v] l) (hs : SmS l) : Spec Tryz.prog G 126 #[v] L fun u M => ∃ a c B N, u = .slice a l.length c ∧ ORow rsR 122 5 N a c l B ∧ Wr N ∧ M = B ++ (N ++ L) := by
 obtain ⟨hn, hd⟩ := hs
 obtain ⟨a0, c0, e1, hl⟩ := hl.val
 simp only [List.cons.injEq, and_true] at e1
 subst e1
 obtain ⟨_, ka1, ka2, hl⟩ := uR hl
 refine jl (n := 22) Tryz.func126 rfl rfl rfl ?_
 refine goA ?_
 refine jz (σ := Nat × Option Addr × Nat × ja × ja) (fun x => x.1 ≤ l.length ∧ ORow rsR 122 5 x.2.2.2.2 x.2.1 x.2.2.1 (l.take x.1) x.2.2.2.1 ∧ Wr x.2.2.2.2) (fun x => [(3, .slice x.2.1 (l.take x.1).length x.2.2.1), (6, .slice a0 l.length c0), (7, .int .i64 (l.length : Nat)), (8, .int .i64 (x.1 : Nat))]) (fun x => x.2.2.2.1 ++ (x.2.2.2.2 ++ L)) (fun x => l.length - x.1) (0, none, 0, [], []) ⟨Nat.zero_le _, ORow.nil _, Wr.nil⟩ ?_ (fun w h => h) ?_
 exact js
 rintro ⟨k, a, c, B, N⟩ ⟨hk, hB, hN⟩
 dsimp only at hk hB hN ⊢
 by_cases hlt : k < l.length
 · obtain ⟨x, hx⟩ : ∃ x, l[k]? = some x := ⟨_, List.getElem?_eq_getElem hlt⟩
   have htk : l.take (k + 1) = l.take k ++ [x] := by rw [List.take_add_one, hx]; rfl
   have htl : (l.take k).length ≤ 100000 := by rw [List.length_take]; omega
   rcases hl with rfl | ⟨b1, o1, C1, t1, f1, rfl, m1, q1⟩
   · simp at hlt
   obtain ⟨cx, _, hx2, hcx⟩ := q1 k x hx
   obtain ⟨xa, xc, rfl, hxd, hx4⟩ := hx2.vals
   have m1' : (b1, Obj.cells C1 t1 f1) ∈ B ++ (N ++ L) := List.mem_append_right _ (List.mem_append_right _ m1)
   refine goA ?_
   refine jy (jA [.string (bs x.name), .int .u16 x.kind, .int .u16 x.cls, .int .u32 x.ttl, .slice xa x.data.length xc] rfl stL m1' hcx) rfl ?_
   repeat (first | refine goA ?_ | (refine jQ ?_; intro bNew))
   refine jx (jb je rfl (Vs _ x.data (jq kP _ _ _ _ jn hxd) (Nat.le_trans (hd x (List.mem_of_getElem? hx)) jd))) rfl ?_
   rintro _ _ ⟨ad, cd, Bd, rfl, hBd, rfl⟩
   refine jE (L' := (bNew, Obj.cells #[.string (bs x.name), .int .u16 x.kind, .int .u16 x.cls, .int .u32 x.ttl, .slice xa x.data.length xc] 122 (0, 0)) :: (B ++ ((Bd ++ N) ++ L))) ?_ ji
   repeat (refine jy (uq rfl Qb) rfl ?_)
   refine qx (C' := #[.string (bs x.name), .int .u16 x.kind, .int .u16 x.cls, .int .u32 x.ttl, .slice ad x.data.length cd]) rfl rfl onO rfl rfl rfl ?_
   repeat (first | refine goA ?_ | (refine qh ?_; intro bLit))
   refine jE (L' := (bLit, Obj.cells #[.string (bs x.name), .int .u16 x.kind, .int .u16 x.cls, .int .u32 x.ttl, .slice ad x.data.length cd] 122 (0, 0)) :: (B ++ ((bNew, Obj.cells #[.string (bs x.name), .int .u16 x.kind, .int .u16 x.cls, .int .u32 x.ttl, .slice ad x.data.length cd] 122 (0, 0)) :: ((Bd ++ N) ++ L)))) ?_ ji
   refine jx (ut (L0 := Bd ++ N) (cs := [.string (bs x.name), .int .u16 x.kind, .int .u16 x.cls, .int .u32 x.ttl, .slice ad x.data.length cd]) (y := x) etO rfl rfl (hB.mono jv jn) ⟨_, rfl, (hBd.imp (L' := []) (fun cs y _ h => h)).sliceR kP jn jn, hx4⟩ jd (by decide)) rfl ?_
   rintro _ _ ⟨a', c', B', rfl, hB', rfl⟩
   refine goA ?_
   refine jg (k + 1, a', c', B', Bd ++ N) ⟨hlt, by dsimp only; rw [htk]; exact hB', hBd.wr.append hN⟩ ?_ (fun w h => h.cnt ji) (by dsimp only; omega)
   dsimp only
   rw [htk]
   exact js
 · have hkn : k = l.length := by omega
   subst hkn
   rw [List.take_length] at hB ⊢
   refine goA ?_
   refine jf 2 _ rfl rfl ?_
   exact ⟨a, c, B, N, rfl, hB, hN, rfl⟩
theorem yT (cs : List Value) (v : Vdt) (hv : vdR L cs v) (hs : SmV v) : Spec Tryz.prog G 101 #[.agg cs.toArray] L (abm L v) := by
 obtain ⟨va, vb, rfl, h1, h2, hcode⟩ := hv
 obtain ⟨a1, c1, ea, h1⟩ := h1.val
 obtain ⟨a2, c2, eb, h2⟩ := h2.val
 simp only [List.cons.injEq, and_true] at ea eb
 subst ea eb
 refine jl (n := 12) Tryz.func101 rfl rfl rfl ?_
 repeat (first | refine goA ?_ | (refine jQ ?_; intro bNew) | (refine kD ?_; intro bBox))
 have hKm : ∀ z ∈ [(bBox, Obj.cells #[.int .u8 v.code, .slice a1 v.sets.length c1, .slice a2 v.soa.length c2] 40 (0, 0))], z ∈ (bNew, Obj.cells #[.int .u8 0, .slice none 0 0, .slice none 0 0] 40 (0, 0)) :: ((bBox, Obj.cells #[.int .u8 v.code, .slice a1 v.sets.length c1, .slice a2 v.soa.length c2] 40 (0, 0)) :: L) := jn
 refine jw jc ([(bBox, Obj.cells #[.int .u8 v.code, .slice a1 v.sets.length c1, .slice a2 v.soa.length c2] 40 (0, 0))]) [] ?_
 refine tkQ 0 ?_
 refine tkQ 1 ?_
 refine tkQ 2 ?_
 refine tkQ 3 ?_
 refine tkQ 5 ?_
 refine tkQ 6 ?_
 refine jD 4 je rfl rfl rfl rfl (jb je rfl (Ky _ v.sets (jq jv _ _ _ _ jn h1) hs.1)) ?_; rintro _ _ ⟨aR, cR, BR, NR, rfl, hR, hNR, rfl⟩; refine ⟨Or.inr jn, ?_⟩
 refine jD 7 je rfl rfl rfl rfl (jb je rfl (Ky _ v.soa (jq jv _ _ _ _ jn h2) hs.2)) ?_; rintro _ _ ⟨aS, cS, BS, NS, rfl, hS, hNS, rfl⟩; refine ⟨Or.inr jn, ?_⟩
 (refine' ju 8 rfl rfl je (jF (jm rfl (yF _ _ _ _ _ _ _))) ?_ ?_; (· intro p hp; grind))
 refine kk (L' := (bNew, Obj.cells #[.int .u8 0, .slice none 0 0, .slice none 0 0] 40 (0, 0)) :: (BS ++ (NS ++ (BR ++ (NR ++ ((bBox, Obj.cells #[.int .u8 v.code, .slice a1 v.sets.length c1, .slice a2 v.soa.length c2] 40 (0, 0)) :: L)))))) ?_ ji; refine jU 9 je rfl rfl rfl (qn rfl rfl stO rfl rfl rfl) ?_; rintro _ _ ⟨_, rfl⟩; refine ⟨Or.inr jn, ?_⟩
 refine tdQ ?_
 refine goA ?_
 refine kO 2 40  rfl rfl  stO (by repeat (exact List.mem_cons_self)) rfl (fun w h => Heap.cnt (L' := BS ++ (BR ++ ((NS ++ NR) ++ L))) h ji) ?_
 exact ⟨_, _, _, _, _, _, NS ++ NR, rfl, hR.mono jv jn, hS.mono jv jn, hNS.append hNR, rfl⟩
end
section
open Go.RowKit
open Vd (RSet Vdt Vote Rec Quest Piece Ballot)
def ballotR : Rp Ballot := fun L cs x => ∃ a1 c1 a2 c2, cs = [.int .i64 x.v.up, .int .u8 x.v.vd.code, .slice a1 x.v.vd.sets.length c1, .slice a2 x.v.vd.soa.length c2, .int .u32 x.v.time, .bool x.pass] ∧ voteR L [.int .i64 x.v.up, .int .u8 x.v.vd.code, .slice a1 x.v.vd.sets.length c1, .slice a2 x.v.vd.soa.length c2, .int .u32 x.v.time] x.v
theorem Wz : uL ballotR := fun L L' cs x hL ⟨a1, c1, a2, c2, h1, h2⟩ => ⟨a1, c1, a2, c2, h1, kU L L' _ _ hL h2⟩
theorem voteR.vals {L : ja} {cs : List Value} {v : Vote} (h : voteR L cs v) : ∃ a1 c1 a2 c2, cs = [.int .i64 v.up, .int .u8 v.vd.code, .slice a1 v.vd.sets.length c1, .slice a2 v.vd.soa.length c2, .int .u32 v.time] ∧ sliceR 5 rsR L [.slice a1 v.vd.sets.length c1] v.vd.sets ∧ sliceR 5 rsR L [.slice a2 v.vd.soa.length c2] v.vd.soa ∧ (0 ≤ v.vd.code ∧ v.vd.code ≤ 255) ∧ (0 ≤ v.time ∧ v.time ≤ 4294967295) ∧ (-9223372036854775808 ≤ v.up ∧ v.up ≤ 9223372036854775807) := by
 obtain ⟨a, b, rfl, h1, h2, h3⟩ := h
 obtain ⟨a1, c1, e1, h1⟩ := h1.val
 obtain ⟨a2, c2, e2, h2⟩ := h2.val
 simp only [List.cons.injEq, and_true] at e1 e2
 subst e1 e2
 exact ⟨a1, c1, a2, c2, rfl, h1, h2, h3⟩
theorem voteR.one {L : ja} {cs : List Value} {v : Vote} (h : voteR L cs v) : ∀ x ∈ cs, x.oneCell' = true := by
 obtain ⟨a1, c1, a2, c2, rfl, _⟩ := h.vals
 intro x hx
 simp only [List.mem_cons, List.not_mem_nil, or_false] at hx
 rcases hx with rfl | rfl | rfl | rfl | rfl <;> rfl
theorem voteR.len {L : ja} {cs : List Value} {v : Vote} (h : voteR L cs v) : cs.length = 5 := by
 obtain ⟨a1, c1, a2, c2, rfl, _⟩ := h.vals
 rfl
theorem ballotR.one {L : ja} {cs : List Value} {x : Ballot} (h : ballotR L cs x) : ∀ v ∈ cs, v.oneCell' = true := by
 obtain ⟨a1, c1, a2, c2, rfl, _⟩ := h
 intro v hv
 simp only [List.mem_cons, List.not_mem_nil, or_false] at hv
 rcases hv with rfl | rfl | rfl | rfl | rfl | rfl <;> rfl
theorem ballotR.len {L : ja} {cs : List Value} {x : Ballot} (h : ballotR L cs x) : cs.length = 6 := by
 obtain ⟨a1, c1, a2, c2, rfl, _⟩ := h
 rfl
section
variable {G : World} {P : Program} {n : Nat} {ρ : jB} {L : ja} {Q : Exit → Act → World → Prop} {ops : Array Oper} {K : ja} {W : List Nat} {fuel : Nat} {listed : Array Bool}
end
section
variable {G : World} {P : Program} {ρ : jB} {L : ja} {ty : TypeId}
theorem abn {α : Type} {r : List Value → α → Prop} {s x : Operand} {t e te : TypeId} {sz bytes bl : Nat} {z : Value} {a : Option Addr} {c : Nat} {cs : List Value} {y : α} {l : List α} {B L0 : ja} (E : ElemTy P t e sz bytes z) (hs : ev ρ s = some (.slice a l.length c)) (hx : ev ρ x = some (.slice (some ⟨bl, 0, none⟩) 1 1))
 (hrow : ORow (fun _ => r) e sz L0 a c l B) (hn : cs.length = sz) (hone : ∀ v ∈ cs, v.oneCell' = true) (hy : r cs y) (h63 : l.length ≤ 1000000) (hb : bytes ≤ 1000) :
 OpT P G ρ ((bl, .cells cs.toArray te (0, 0)) :: (B ++ L)) (.call ⟨.builtin .append, #[s, x], #[t, t]⟩) ty fun v' L' => ∃ a' c' B', v' = .slice a' (l ++ [y]).length c' ∧ ORow (fun _ => r) e sz L0 a' c' (l ++ [y]) B' ∧ L' = B' ++ L :=
 qO (r := fun _ => r) E hs hx hrow hn hone hy (by unfold maxLen; omega) (Nat.le_trans (Nat.mul_le_mul (show l.length + 1 ≤ 1000001 by omega) hb) (by decide))
end
variable {G : World} {L : ja}
end
section
open Go.RowKit
open Vd (RSet Vdt Vote Rec Quest Piece Ballot)
variable {G : World} {L : ja}
theorem qo (l : List Ballot) (y : Ballot) : Vd.votesB (l ++ [y]) = if y.pass then Vd.votesB l else Vd.votesB l ++ [y.v] := by
 unfold Vd.votesB
 rw [List.filter_append, List.map_append]
 cases hy : y.pass <;> simp [hy]
theorem kn (l : List Ballot) : (Vd.votesB l).length ≤ l.length := by
 unfold Vd.votesB
 rw [List.length_map]
 exact List.length_filter_le _ _
end
section
open Go.RowKit
open Vd (RSet Vdt Vote Rec Quest Piece Ballot)
def kC (f : Int → Int × Int) : List Value := [.int .u8 (f 0).1, .int .i64 (f 0).2, .int .u8 (f 1).1, .int .i64 (f 1).2, .int .u8 (f 2).1, .int .i64 (f 2).2, .int .u8 (f 3).1, .int .i64 (f 3).2, .int .u8 (f 4).1, .int .i64 (f 4).2, .int .u8 (f 5).1, .int .i64 (f 5).2, .int .u8 (f 6).1, .int .i64 (f 6).2, .int .u8 (f 7).1, .int .i64 (f 7).2, .int .u8 (f 8).1, .int .i64 (f 8).2]
def kf (want : Int) (f : Int → Int × Int) (v : Value) : List Value := .int .i64 want :: (kC f ++ [v])
theorem WA {want : Int} {f : Int → Int × Int} {v : Value} : (kf want f v).toArray.size = 20 := rfl
theorem JH {want : Int} {f : Int → Int × Int} {v : Value} {u : Int} (h : 0 ≤ u ∧ u < 9) : (kf want f v).toArray[1 + u.toNat * 2 + 0]? = some (.int .u8 (f u).1) := by
 obtain ⟨n, rfl⟩ : ∃ n : Nat, u = n := ⟨u.toNat, by omega⟩
 have hn : n < 9 := by omega
 match n, hn with
 | 0, _ | 1, _ | 2, _ | 3, _ | 4, _ | 5, _ | 6, _ | 7, _ | 8, _ => rfl
theorem QB {want : Int} {f : Int → Int × Int} {v : Value} {u : Int} (h : 0 ≤ u ∧ u < 9) : (kf want f v).toArray[1 + u.toNat * 2 + 1]? = some (.int .i64 (f u).2) := by
 obtain ⟨n, rfl⟩ : ∃ n : Nat, u = n := ⟨u.toNat, by omega⟩
 have hn : n < 9 := by omega
 match n, hn with
 | 0, _ | 1, _ | 2, _ | 3, _ | 4, _ | 5, _ | 6, _ | 7, _ | 8, _ => rfl
def upd (f : Int → Int × Int) (u : Int) (x : Int × Int) : Int → Int × Int := fun w => if w = u then x else f w
theorem WB {want : Int} {f : Int → Int × Int} {v : Value} {u : Int} (h : 0 ≤ u ∧ u < 9) (x : Int × Int) : qN (kf want f v).toArray (1 + u.toNat * 2) [.int .u8 x.1, .int .i64 x.2] = (kf want (upd f u x) v).toArray := by
 obtain ⟨n, rfl⟩ : ∃ n : Nat, u = n := ⟨u.toNat, by omega⟩
 have hn : n < 9 := by omega
 match n, hn with
 | 0, _ | 1, _ | 2, _ | 3, _ | 4, _ | 5, _ | 6, _ | 7, _ | 8, _ => simp [qN, kf, kC, upd]
theorem WC {l : List Ballot} (h : BoxOk l) {x : Ballot} (hx : Vd.hasB l x.v.up = false) (hb : 0 ≤ x.v.up ∧ x.v.up < 9) : jp (l ++ [x]) = upd (jp l) x.v.up (if x.pass then ((1, 0) : Int × Int) else (2, (jC (Vd.votesB l) x.v.vd : Int))) := by
 funext u
 rw [ZN h hx hb _ rfl (qo l x) u]
 rfl
def TBox (K : ja) (bb : Nat) (want : Int) (l : List Ballot) (M : ja) : Prop := ∃ a c B, ORow voteR 65 5 K a c (Vd.votesB l) B ∧ M = (bb, Obj.cells (kf want (jp l) (.slice a (Vd.votesB l).length c)).toArray 165 (0, 0)) :: B
def RBox (K : ja) (bb : Nat) (want : Int) (l : List Ballot) (M : ja) : Prop := ∃ a c B, ORow ballotR 225 6 K a c l B ∧ M = (bb, Obj.cells #[.int .i64 want, .slice a l.length c] 200 (0, 0)) :: B
theorem TBox.mono {K K' : ja} (hK : ∀ p ∈ K, p ∈ K') {bb : Nat} {want : Int} {l : List Ballot} {M : ja} (h : TBox K bb want l M) : TBox K' bb want l M := by
 obtain ⟨a, c, B, h1, h2⟩ := h
 exact ⟨a, c, B, h1.mono kU hK, h2⟩
theorem RBox.mono {K K' : ja} (hK : ∀ p ∈ K, p ∈ K') {bb : Nat} {want : Int} {l : List Ballot} {M : ja} (h : RBox K bb want l M) : RBox K' bb want l M := by
 obtain ⟨a, c, B, h1, h2⟩ := h
 exact ⟨a, c, B, h1.mono Wz hK, h2⟩
end
section
open Go.RowKit
open Vd (RSet Vdt Vote Rec Quest Piece Ballot)
variable {G : World} {L : ja}
theorem abo {l : List Ballot} (h : BoxOk l) {u : Int} (hu : ¬ (0 ≤ u ∧ u < 9)) : Vd.hasB l u = false := by
 cases hb : Vd.hasB l u with
 | false => rfl
 | true =>
   obtain ⟨b, hb1, hb2⟩ := List.mem_map.1 ((Wg l u).1 hb)
   have := h.up b hb1
   omega
theorem Z2 (l : List Ballot) (u : Int) : ((jp l u).1 != 0) = Vd.hasB l u := by
 have := aa8 l u
 cases hb : Vd.hasB l u with
 | true =>
   rw [hb] at this
   have h : ¬ (jp l u).1 = 0 := fun e => by have := this.1 e; cases this
   simpa using h
 | false => rw [this.2 hb]; rfl
theorem abp (bb : Nat) (want u : Int) (l : List Ballot) (vv : Value) (hm : (bb, Obj.cells (kf want (jp l) vv).toArray 165 (0, 0)) ∈ L) (hl : BoxOk l) :
 Spec Tryz.prog G 98 #[.pointer (some ⟨bb, 0, none⟩), .int .i64 u] L fun w M => w = .bool (Vd.hasB l u) ∧ M = L := by
 refine jl (n := 25) Tryz.func98 rfl rfl rfl ?_
 by_cases hu : 0 ≤ u ∧ u < 9
 · obtain ⟨h0, h9⟩ := hu
   have hg : (kf want (jp l) vv).toArray[0 + 1 + u.toNat * 2 + 0]? = some (.int .u8 (jp l u).1) := JH ⟨h0, h9⟩
   refine goA ?_
   refine jf 4 _ rfl rfl ?_
   exact ⟨by rw [← Z2], rfl⟩
 · rw [abo hl hu]
   by_cases h0 : 0 ≤ u
   · have h9 : ¬ u < 9 := fun h => hu ⟨h0, h⟩
     refine goA ?_
     refine jf 4 _ rfl rfl ?_
     exact ⟨rfl, rfl⟩
   · refine goA ?_
     refine jf 4 _ rfl rfl ?_
     exact ⟨rfl, rfl⟩
def QC (l : List Ballot) (u : Int) : Int := if u < 0 ∨ 9 ≤ u then 1 else if Vd.hasB l u then 7 else 0
theorem abq (l : List Ballot) (x : Ballot) : (Vd.putB l x).2 = QC l x.v.up := by
 unfold Vd.putB QC
 split
 · rfl
 · split <;> rfl
theorem Vw {l : List Ballot} {x : Ballot} (h : QC l x.v.up ≠ 0) : (Vd.putB l x).1 = l := by
 unfold Vd.putB
 unfold QC at h
 split
 · rfl
 · rename_i h1
   rw [if_neg h1] at h
   split
   · rfl
   · rename_i h2
     rw [if_neg h2] at h
     exact absurd rfl h
theorem QD {l : List Ballot} {x : Ballot} (h : QC l x.v.up = 0) : (Vd.putB l x).1 = l ++ [x] ∧ (0 ≤ x.v.up ∧ x.v.up < 9) ∧ Vd.hasB l x.v.up = false := by
 unfold Vd.putB
 unfold QC at h
 by_cases h1 : x.v.up < 0 ∨ 9 ≤ x.v.up
 · rw [if_pos h1] at h; cases h
 · rw [if_neg h1] at h ⊢
   by_cases h2 : Vd.hasB l x.v.up = true
   · rw [if_pos h2] at h; cases h
   · rw [if_neg h2]
     exact ⟨rfl, by omega, by simpa using h2⟩
theorem abr (bb : Nat) (want u : Int) (l : List Ballot) (vv : Value) (hm : (bb, Obj.cells (kf want (jp l) vv).toArray 165 (0, 0)) ∈ L) (hl : BoxOk l) :
 Spec Tryz.prog G 72 #[.pointer (some ⟨bb, 0, none⟩), .int .i64 u] L fun w M => w = .int .i64 (QC l u) ∧ M = L := by
 refine jl (n := 16) Tryz.func72 rfl rfl rfl ?_
 unfold QC
 by_cases h0 : u < 0
 · rw [if_pos (Or.inl h0)]
   refine goA ?_
   refine jf 4 _ rfl rfl ?_
   exact ⟨rfl, rfl⟩
 · by_cases h9 : 9 ≤ u
   · rw [if_pos (Or.inr h9)]
     refine goA ?_
     refine jf 4 _ rfl rfl ?_
     exact ⟨rfl, rfl⟩
   · rw [if_neg jd]
     cases hb : Vd.hasB l u with
     | true =>
       repeat (first | refine goA ?_ | (refine' jN (jb je rfl ((abp bb want u l vv hm hl) )) rfl ?_))
       refine jf 4 _ rfl rfl ?_
       exact ⟨rfl, rfl⟩
     | false =>
       repeat (first | refine goA ?_ | (refine' jN (jb je rfl ((abp bb want u l vv hm hl) )) rfl ?_))
       refine jf 4 _ rfl rfl ?_
       exact ⟨rfl, rfl⟩
theorem adj {K : ja} (bb : Nat) (want u : Int) (l : List Ballot) (M0 : ja) (hb : TBox K bb want l M0) (hl : BoxOk l) :
 Spec Tryz.prog G 49 #[.pointer (some ⟨bb, 0, none⟩), .int .i64 u] (M0 ++ L) fun w M => w = .int .i64 (Vd.putB l ⟨⟨u, Vdt.none, 0⟩, true⟩).2 ∧ ∃ M', TBox K bb want (Vd.putB l ⟨⟨u, Vdt.none, 0⟩, true⟩).1 M' ∧ M = M' ++ L := by
 obtain ⟨a, c, B, hB, rfl⟩ := hb
 refine jl (n := 18) Tryz.func49 rfl rfl rfl ?_
 refine goA ?_
 refine jN (jb je rfl (abr bb want u l _ (List.mem_cons_self ..) hl)) rfl ?_
 have he := abq l ⟨⟨u, Vdt.none, 0⟩, true⟩
 rw [he]
 by_cases h0 : QC l u = 0
 · obtain ⟨h1, h2, h3⟩ := QD (x := ⟨⟨u, Vdt.none, 0⟩, true⟩) h0
   obtain ⟨h20, h29⟩ := h2
   dsimp only at h20 h29 h3
   repeat (first | refine goA ?_ | refine jy (jm rfl (V0 _)) rfl ?_)
   refine U2 (zE (cs := [.int .u8 1, .int .i64 0]) rfl rfl stL (by intro v hv; simp only [List.mem_cons, List.not_mem_nil, or_false] at hv; rcases hv with rfl | rfl <;> rfl) (by rw [WA]; simp; omega)) ?_
   have hput : qN (kf want (jp l) (.slice a (Vd.votesB l).length c)).toArray (0 + 1 + u.toNat * 2) [.int .u8 1, .int .i64 0] = (kf want (jp (l ++ [⟨⟨u, Vdt.none, 0⟩, true⟩])) (.slice a (Vd.votesB l).length c)).toArray := by
    rw [WC hl (x := ⟨⟨u, Vdt.none, 0⟩, true⟩) h3 ⟨h20, h29⟩, Nat.zero_add]
    exact WB ⟨h20, h29⟩ (1, 0)
   rw [hput]
   refine goA ?_
   refine jf 4 _ rfl rfl ?_
   have hv : Vd.votesB (l ++ [⟨⟨u, Vdt.none, 0⟩, true⟩]) = Vd.votesB l := by rw [qo]; rfl
   refine ⟨by dsimp only; rw [h0], _, ⟨a, c, B, ?_, rfl⟩, ?_⟩
   · rw [h1, hv]; exact hB
   · rw [h1, hv]; rfl
 · have h1 := Vw (x := ⟨⟨u, Vdt.none, 0⟩, true⟩) h0
   rw [h1]
   refine goA ?_
   refine jf 4 _ rfl rfl ?_
   exact ⟨rfl, _, ⟨a, c, B, hB, rfl⟩, rfl⟩
end
section
open Go.RowKit
open Vd (RSet Vdt Vote Rec Quest Piece Ballot)
variable {G : World} {L : ja}
def adk (L : ja) (x : Vote) (u : Value) (M : ja) : Prop := ∃ a c B a2 c2 B2 N, u = .agg #[.int .i64 x.up, .int .u8 x.vd.code, .slice a x.vd.sets.length c, .slice a2 x.vd.soa.length c2, .int .u32 x.time] ∧
 ORow rsR 122 5 N a c x.vd.sets B ∧ ORow rsR 122 5 N a2 c2 x.vd.soa B2 ∧ Wr N ∧ M = B2 ++ (B ++ (N ++ L))
theorem Kz (cs : List Value) (x : Vote) (hx : voteR L cs x) (hs : SmV x.vd) : Spec Tryz.prog G 75 #[.agg cs.toArray] L (adk L x) := by
 obtain ⟨x1, xc1, x2, xc2, rfl, h1, h2, h3, h4, h5⟩ := hx.vals
 refine jl (n := 11) Tryz.func75 rfl rfl rfl ?_
 refine j7 (jO (jP (kQ rfl) rfl ?_))
 intro bX
 refine jP (kh (C := #[.int .i64 0, .int .u8 0, .slice none 0 0, .slice none 0 0, .int .u32 0]) zeO rfl) rfl ?_
 intro bO
 have hKm : ∀ z ∈ [(bX, Obj.cells #[.int .i64 x.up, .int .u8 x.vd.code, .slice x1 x.vd.sets.length xc1, .slice x2 x.vd.soa.length xc2, .int .u32 x.time] 65 (0, 0))], z ∈ (bX, Obj.cells #[.int .i64 x.up, .int .u8 x.vd.code, .slice x1 x.vd.sets.length xc1, .slice x2 x.vd.soa.length xc2, .int .u32 x.time] 65 (0, 0)) :: L := by
  intro z hz
  rw [List.mem_singleton.1 hz]
  exact List.mem_cons_self ..
 have gx : ∀ j v, ([.int .u8 x.vd.code, .slice x1 x.vd.sets.length xc1, .slice x2 x.vd.soa.length xc2] : List Value)[j]? = some v → (#[.int .i64 x.up, .int .u8 x.vd.code, .slice x1 x.vd.sets.length xc1, .slice x2 x.vd.soa.length xc2, .int .u32 x.time] : Array Value)[0 + 1 + j]? = some v := fun j v hj => by
  match j, hj with
  | 0, hj => exact hj
  | 1, hj => exact hj
  | 2, hj => exact hj
 repeat (first | refine goA ?_ | (refine jQ ?_; intro bNew) | (refine kD ?_; intro bBox) | refine jy (jm rfl (qR _ _ _ _ _)) rfl ?_)
 refine jw jc ([(bX, Obj.cells #[.int .i64 x.up, .int .u8 x.vd.code, .slice x1 x.vd.sets.length xc1, .slice x2 x.vd.soa.length xc2, .int .u32 x.time] 65 (0, 0))]) [] ?_
 refine tkQ 0 ?_
 refine tkQ 1 ?_
 refine tkQ 2 ?_
 (refine' ju 3 rfl rfl je (jF (jA [.int .u8 x.vd.code, .slice x1 x.vd.sets.length xc1, .slice x2 x.vd.soa.length xc2] rfl stL (List.mem_cons_self ..) gx)) ?_ ?_; (· first | assumption | (intro p hp; grind)))
 refine tkQ 5 ?_
 refine tkQ 6 ?_
 refine jD 4 je rfl rfl rfl rfl (jb je rfl (yT [.int .u8 x.vd.code, .slice x1 x.vd.sets.length xc1, .slice x2 x.vd.soa.length xc2] x.vd ⟨_, _, rfl, jq jv _ _ _ _ jn h1, jq jv _ _ _ _ jn h2, h3⟩ hs)) ?_
 rintro _ _ ⟨a, c, B, a2, c2, B2, N, rfl, hB, hB2, hN, rfl⟩
 refine ⟨Or.inr (by first | exact (fun z hz => j9 ji z (hKm z hz)) | simp), ?_⟩
 first | (refine' ju 7 rfl rfl je (jF (jm rfl (qR _ _ _ _ _))) ?_ ?_; (· first | assumption | (intro p hp; grind)))
 refine kk (L' := (bO, Obj.cells #[.int .i64 0, .int .u8 0, .slice none 0 0, .slice none 0 0, .int .u32 0] 65 (0, 0)) :: (B2 ++ (B ++ (N ++ ((bX, Obj.cells #[.int .i64 x.up, .int .u8 x.vd.code, .slice x1 x.vd.sets.length xc1, .slice x2 x.vd.soa.length xc2, .int .u32 x.time] 65 (0, 0)) :: L))))) ?_ ji
 refine jU 8 je rfl rfl rfl (qn rfl rfl stO rfl rfl rfl) ?_
 rintro _ _ ⟨_, rfl⟩
 refine ⟨Or.inr (by first | exact (fun z hz => j9 ji z (hKm z hz)) | simp), ?_⟩
 refine tdQ ?_
 repeat (first | refine goA ?_ | (refine jQ ?_; intro bNew) | (refine kD ?_; intro bBox) | refine jy (jm rfl (qR _ _ _ _ _)) rfl ?_)
 refine kO 2 65  rfl rfl  stO (by repeat (first | assumption | exact List.mem_cons_self | apply List.mem_cons_of_mem)) rfl (fun w h => Heap.cnt (L' := B2 ++ (B ++ (N ++ L))) h ji) ?_
 exact ⟨_, _, _, _, _, _, _, rfl, hB, hB2, hN, rfl⟩
end
section
open Go.RowKit
open Vd (RSet Vdt Vote Rec Quest Piece Ballot)
variable {G : World} {L : ja}
theorem Yy {vs : List Vote} {v : Vdt} {i : Nat} {y : Vote} (hy : vs[i]? = some y) (he : y.vd = v) (hno : ∀ z ∈ vs.take i, z.vd ≠ v) : jC vs v = i := by
 obtain ⟨hi, rfl⟩ := List.getElem?_eq_some_iff.1 hy
 unfold jC
 rw [List.findIdx_eq hi]
 refine ⟨by simpa using he, fun j hj => ?_⟩
 have := hno vs[j] (by rw [List.mem_take_iff_getElem]; exact ⟨j, by omega, rfl⟩)
 simpa using this
theorem Vx {vs : List Vote} {v : Vdt} (hno : ∀ z ∈ vs, z.vd ≠ v) : jC vs v = vs.length := by
 unfold jC
 rw [List.findIdx_eq_length]
 intro z hz
 simpa using hno z hz
theorem adl {K : ja} (bb : Nat) (want : Int) (l : List Ballot) (M0 : ja) (cs : List Value) (x : Vote) (hb : TBox K bb want l M0) (hl : BoxOk l) (hK : ∀ p ∈ K, p ∈ L) (hx : voteR L cs x) (hs : SmV x.vd) (hn : l.length ≤ 9) :
 Spec Tryz.prog G 52 #[.pointer (some ⟨bb, 0, none⟩), .agg cs.toArray] (M0 ++ L) fun w M => w = .int .i64 (Vd.putB l ⟨x, false⟩).2 ∧ ∃ M' N, TBox (N ++ K) bb want (Vd.putB l ⟨x, false⟩).1 M' ∧ Wr N ∧ M = M' ++ (N ++ L) := by
 obtain ⟨a, c, B, hB, rfl⟩ := hb
 obtain ⟨x1, xc1, x2, xc2, rfl, h1, h2, h3, h4, h5⟩ := hx.vals
 have hvl := kn l
 have hcap := hB.cap
 unfold maxLen at hcap
 refine jl (n := 57) Tryz.func52 rfl rfl rfl ?_
 refine j7 (jO (jP (kQ rfl) rfl ?_))
 intro bV
 refine goA ?_
 refine jN (jb je rfl (abr bb want x.up l _ (List.mem_cons_of_mem _ (List.mem_cons_self ..)) hl)) rfl ?_
 have he := abq l ⟨x, false⟩
 rw [he]
 by_cases h0 : QC l x.up = 0
 · obtain ⟨hp1, hp2, hp3⟩ := QD (x := ⟨x, false⟩) h0
   obtain ⟨h20, h29⟩ := hp2
   dsimp only at h20 h29 hp3
   obtain ⟨vs, hvs⟩ : ∃ vs, Vd.votesB l = vs := ⟨_, rfl⟩
   rw [hvs] at hB hvl hcap ⊢
   have gx : ∀ j v, ([.int .u8 x.vd.code, .slice x1 x.vd.sets.length xc1, .slice x2 x.vd.soa.length xc2] : List Value)[j]? = some v → (#[.int .i64 x.up, .int .u8 x.vd.code, .slice x1 x.vd.sets.length xc1, .slice x2 x.vd.soa.length xc2, .int .u32 x.time] : Array Value)[0 + 1 + j]? = some v := fun j v hj => by
    match j, hj with
    | 0, hj => exact hj
    | 1, hj => exact hj
    | 2, hj => exact hj
   refine goF ?_
   refine j7 ?_
   refine goF ?_
   refine j7 ?_
   refine goF ?_
   refine j7 ?_
   skip
   refine JG (σ := Unit) (fun _ => True) (fun _ => [(0, .pointer (some ⟨bb, 0, none⟩)), (3, .pointer (some ⟨bV, 0, none⟩)), (6, .int .i64 (jC vs x.vd : Nat))]) (fun _ => (bV, Obj.cells #[.int .i64 x.up, .int .u8 x.vd.code, .slice x1 x.vd.sets.length xc1, .slice x2 x.vd.soa.length xc2, .int .u32 x.time] 65 (0, 0)) :: ((bb, Obj.cells (kf want (jp l) (.slice a vs.length c)).toArray 165 (0, 0)) :: (B ++ L))) ?_ ?_
   · skip
     refine goA ?_
     refine jz (σ := Nat) (fun i => i ≤ vs.length ∧ ∀ z ∈ vs.take i, z.vd ≠ x.vd) (fun i => [(0, .pointer (some ⟨bb, 0, none⟩)), (3, .pointer (some ⟨bV, 0, none⟩)), (6, .int .i64 (vs.length : Nat)), (24, .slice a vs.length c), (25, .int .i64 (vs.length : Nat)), (26, .int .i64 (i : Nat))]) (fun _ => (bV, Obj.cells #[.int .i64 x.up, .int .u8 x.vd.code, .slice x1 x.vd.sets.length xc1, .slice x2 x.vd.soa.length xc2, .int .u32 x.time] 65 (0, 0)) :: ((bb, Obj.cells (kf want (jp l) (.slice a vs.length c)).toArray 165 (0, 0)) :: (B ++ L))) (fun i => vs.length - i) 0 ⟨Nat.zero_le _, by simp⟩ ?_ (fun w h => h) ?_
     exact js
     rintro i ⟨hi, hno⟩
     by_cases hil : i < vs.length
     · obtain ⟨y, hy⟩ : ∃ y, vs[i]? = some y := ⟨_, List.getElem?_eq_getElem hil⟩
       obtain ⟨bc, cur, rfl, rfl, _, _, _, hcur⟩ := hB.block (fun e => by rw [e] at hil; simp at hil)
       obtain ⟨csy, _, hyv, _, hcy⟩ := hcur i y hy
       obtain ⟨y1, yc1, y2, yc2, rfl, hy1, hy2, hy3, hy4, hy5⟩ := hyv.vals
       have hcy' : ∀ j v, ([.int .i64 y.up, .int .u8 y.vd.code, .slice y1 y.vd.sets.length yc1, .slice y2 y.vd.soa.length yc2, .int .u32 y.time] : List Value)[j]? = some v → cur[0 + i * 5 + j]? = some v := fun j v hj => by rw [Nat.zero_add]; exact hcy j v hj
       have gy : ∀ j v, ([.int .u8 y.vd.code, .slice y1 y.vd.sets.length yc1, .slice y2 y.vd.soa.length yc2] : List Value)[j]? = some v → (#[.int .i64 y.up, .int .u8 y.vd.code, .slice y1 y.vd.sets.length yc1, .slice y2 y.vd.soa.length yc2, .int .u32 y.time] : Array Value)[0 + 1 + j]? = some v := fun j v hj => by
        match j, hj with
        | 0, hj => exact hj
        | 1, hj => exact hj
        | 2, hj => exact hj
       have mc : (bc, Obj.cells cur 65 (0, 0)) ∈ (bV, Obj.cells #[.int .i64 x.up, .int .u8 x.vd.code, .slice x1 x.vd.sets.length xc1, .slice x2 x.vd.soa.length xc2, .int .u32 x.time] 65 (0, 0)) :: ((bb, Obj.cells (kf want (jp l) (.slice (some ⟨bc, 0, none⟩) vs.length c)).toArray 165 (0, 0)) :: ([(bc, Obj.cells cur 65 (0, 0))] ++ L)) := by simp
       refine goA ?_
       refine jy (jA [.int .i64 y.up, .int .u8 y.vd.code, .slice y1 y.vd.sets.length yc1, .slice y2 y.vd.soa.length yc2, .int .u32 y.time] rfl stL mc hcy') rfl ?_
       repeat (first | refine goA ?_ | (refine jQ ?_; intro bNew))
       refine jy (jA [.int .u8 y.vd.code, .slice y1 y.vd.sets.length yc1, .slice y2 y.vd.soa.length yc2] rfl stL (by repeat (exact List.mem_cons_self)) gy) rfl ?_
       repeat (refine jy (uq rfl Qb) rfl ?_)
       refine jy (jA [.int .u8 x.vd.code, .slice x1 x.vd.sets.length xc1, .slice x2 x.vd.soa.length xc2] rfl stL (by repeat (first | exact List.mem_cons_self | apply List.mem_cons_of_mem)) gx) rfl ?_
       refine jN (jb je rfl (Vn [.int .u8 y.vd.code, .slice y1 y.vd.sets.length yc1, .slice y2 y.vd.soa.length yc2] [.int .u8 x.vd.code, .slice x1 x.vd.sets.length xc1, .slice x2 x.vd.soa.length xc2] y.vd x.vd ⟨_, _, rfl, jq jv _ _ _ _ (fun p hp => (jn) p (hK p hp)) hy1, jq jv _ _ _ _ (fun p hp => (jn) p (hK p hp)) hy2, hy3⟩ ⟨_, _, rfl, jq jv _ _ _ _ jn h1, jq jv _ _ _ _ jn h2, h3⟩)) rfl ?_
       by_cases hyx : y.vd = x.vd
       · have hf := Yy hy hyx hno
         refine goA ?_
         refine kS () trivial ?_ (fun w h => h.cnt ji)
         rw [hf]
         exact js
       · refine goA ?_
         refine jg (i + 1) ⟨hil, fun z hz => ?_⟩ ?_ (fun w h => h.cnt ji) jd
         · rw [List.take_add_one, hy] at hz
           rcases List.mem_append.1 hz with hz | hz
           · exact hno z hz
           · rw [show z = y by simpa using hz]; exact hyx
         exact js
     · have hie : i = vs.length := by omega
       subst hie
       rw [List.take_length] at hno
       have hf := Vx hno
       refine goA ?_
       refine kS () trivial ?_ (fun w h => h)
       rw [hf]
       exact js
   · rintro _ _
     dsimp only
     obtain ⟨f', hf'⟩ : ∃ f, upd (jp l) x.up (2, (jC vs x.vd : Int)) = f := ⟨_, rfl⟩
     have hput : qN (kf want (jp l) (.slice a vs.length c)).toArray (0 + 1 + x.up.toNat * 2) [.int .u8 2, .int .i64 (jC vs x.vd : Nat)] = (kf want f' (.slice a vs.length c)).toArray := by
      rw [← hf', Nat.zero_add]
      exact WB ⟨h20, h29⟩ (2, (jC vs x.vd : Int))
     have hsl : jp (l ++ [⟨x, false⟩]) = f' := by
      rw [WC hl (x := ⟨x, false⟩) hp3 ⟨h20, h29⟩, ← hf', ← hvs]
      rfl
     have hvn : Vd.votesB (l ++ [⟨x, false⟩]) = vs ++ [x] := by rw [qo, hvs]; rfl
     have hKm : ∀ z ∈ [(bb, Obj.cells (kf want (jp l) (.slice a vs.length c)).toArray 165 (0, 0)), (bV, Obj.cells #[.int .i64 x.up, .int .u8 x.vd.code, .slice x1 x.vd.sets.length xc1, .slice x2 x.vd.soa.length xc2, .int .u32 x.time] 65 (0, 0))], z ∈ (bV, Obj.cells #[.int .i64 x.up, .int .u8 x.vd.code, .slice x1 x.vd.sets.length xc1, .slice x2 x.vd.soa.length xc2, .int .u32 x.time] 65 (0, 0)) :: ((bb, Obj.cells (kf want (jp l) (.slice a vs.length c)).toArray 165 (0, 0)) :: (B ++ L)) := by
      intro z hz
      simp only [List.mem_cons, List.not_mem_nil, or_false] at hz
      rcases hz with rfl | rfl <;> simp
     repeat (with_reducible refine j7 ?_)
     refine jw jc ([(bb, Obj.cells (kf want (jp l) (.slice a vs.length c)).toArray 165 (0, 0)), (bV, Obj.cells #[.int .i64 x.up, .int .u8 x.vd.code, .slice x1 x.vd.sets.length xc1, .slice x2 x.vd.soa.length xc2, .int .u32 x.time] 65 (0, 0))]) [8] ?_
     refine tkQ 0 ?_
     refine tkQ 1 ?_
     refine tkQ 2 ?_
     refine tkQ 3 ?_
     (refine' ju 4 rfl rfl je (jF (jm rfl (Qc _ _))) ?_ ?_; (· assumption))
     refine tkQ 5 ?_
     refine tkQ 6 ?_
     refine tkQ 7 ?_
     refine kk (L' := (bb, Obj.cells (kf want (jp l) (.slice a vs.length c)).toArray 165 (0, 0)) :: ((bV, Obj.cells #[.int .i64 x.up, .int .u8 x.vd.code, .slice x1 x.vd.sets.length xc1, .slice x2 x.vd.soa.length xc2, .int .u32 x.time] 65 (0, 0)) :: (B ++ L))) ?_ ji
     refine jU 8 je rfl rfl rfl (zE (cs := [.int .u8 2, .int .i64 (jC vs x.vd : Nat)]) rfl rfl stL (by intro v hv; simp only [List.mem_cons, List.not_mem_nil, or_false] at hv; rcases hv with rfl | rfl <;> rfl) (by rw [WA]; simp; omega)) ?_
     rintro _ _ ⟨_, rfl⟩
     refine ⟨Or.inl (by simp), ?_⟩
     refine tdQ ?_
     rw [hput]
     clear hKm
     have hKm : ∀ z ∈ [(bb, Obj.cells (kf want f' (.slice a vs.length c)).toArray 165 (0, 0)), (bV, Obj.cells #[.int .i64 x.up, .int .u8 x.vd.code, .slice x1 x.vd.sets.length xc1, .slice x2 x.vd.soa.length xc2, .int .u32 x.time] 65 (0, 0))], z ∈ (bb, Obj.cells (kf want f' (.slice a vs.length c)).toArray 165 (0, 0)) :: ((bV, Obj.cells #[.int .i64 x.up, .int .u8 x.vd.code, .slice x1 x.vd.sets.length xc1, .slice x2 x.vd.soa.length xc2, .int .u32 x.time] 65 (0, 0)) :: L) := by
      intro z hz
      simp only [List.mem_cons, List.not_mem_nil, or_false] at hz
      rcases hz with rfl | rfl <;> simp
     refine goA ?_
     refine jw jc ([(bb, Obj.cells (kf want f' (.slice a vs.length c)).toArray 165 (0, 0)), (bV, Obj.cells #[.int .i64 x.up, .int .u8 x.vd.code, .slice x1 x.vd.sets.length xc1, .slice x2 x.vd.soa.length xc2, .int .u32 x.time] 65 (0, 0))]) [11] ?_
     refine tkQ 0 ?_
     refine tkQ 1 ?_
     refine tkQ 2 ?_
     refine tkQ 3 ?_
     refine tkQ 4 ?_
     refine tkQ 5 ?_
     refine jD 6 je rfl rfl rfl rfl (jb je rfl (Kz [.int .i64 x.up, .int .u8 x.vd.code, .slice x1 x.vd.sets.length xc1, .slice x2 x.vd.soa.length xc2, .int .u32 x.time] x (kU _ _ _ _ jn hx) hs)) ?_
     rintro _ _ ⟨a6, c6, B6, a7, c7, B7, N, rfl, h6, h7, hN, rfl⟩
     refine ⟨Or.inr (by exact (fun z hz => j9 ji z (hKm z hz))), ?_⟩
     refine jD 7 je rfl rfl rfl rfl (q9 etO rfl rfl (by decide)) ?_
     rintro _ _ ⟨bL, rfl, rfl⟩
     refine ⟨Or.inr (by exact (fun z hz => j9 ji z (hKm z hz))), ?_⟩
     refine kk (L' := (bL, Obj.cells #[.int .i64 x.up, .int .u8 x.vd.code, .slice a6 x.vd.sets.length c6, .slice a7 x.vd.soa.length c7, .int .u32 x.time] 65 (0, 0)) :: (B ++ ((bb, Obj.cells (kf want f' (.slice a vs.length c)).toArray 165 (0, 0)) :: ((bV, Obj.cells #[.int .i64 x.up, .int .u8 x.vd.code, .slice x1 x.vd.sets.length xc1, .slice x2 x.vd.soa.length xc2, .int .u32 x.time] 65 (0, 0)) :: ((B7 ++ (B6 ++ N)) ++ L))))) ?_ ji
     refine jD 8 je rfl rfl rfl rfl (qO (L0 := (B7 ++ (B6 ++ N)) ++ K) (cs := [.int .i64 x.up, .int .u8 x.vd.code, .slice a6 x.vd.sets.length c6, .slice a7 x.vd.soa.length c7, .int .u32 x.time]) (y := x) etO rfl rfl (hB.mono kU jn) rfl (fun v hv => by simp only [List.mem_cons, List.not_mem_nil, or_false] at hv; rcases hv with rfl | rfl | rfl | rfl | rfl <;> rfl) ⟨_, _, rfl, h6.sliceR jv jn jn, h7.sliceR jv jn jn, h3, h4, h5⟩ (by unfold maxLen; omega) jd) ?_
     rintro _ _ ⟨a8, c8, B8, rfl, hB8, rfl⟩
     refine ⟨Or.inr (by exact (fun z hz => j9 ji z (hKm z hz))), ?_⟩
     refine tkQ 9 ?_
     refine tkQ 10 ?_
     refine kk (L' := (bb, Obj.cells (kf want f' (.slice a vs.length c)).toArray 165 (0, 0)) :: (B8 ++ ((bV, Obj.cells #[.int .i64 x.up, .int .u8 x.vd.code, .slice x1 x.vd.sets.length xc1, .slice x2 x.vd.soa.length xc2, .int .u32 x.time] 65 (0, 0)) :: ((B7 ++ (B6 ++ N)) ++ L)))) ?_ ji
     refine jU 11 je rfl rfl rfl (zA (C' := (kf want f' (.slice a8 (vs ++ [x]).length c8)).toArray) rfl rfl onO rfl rfl rfl) ?_
     rintro _ _ ⟨_, rfl⟩
     refine ⟨Or.inl (by simp), ?_⟩
     refine tdQ ?_
     refine goA ?_
     refine jG (L' := (bb, Obj.cells (kf want f' (.slice a8 (vs ++ [x]).length c8)).toArray 165 (0, 0)) :: (B8 ++ ((B7 ++ (B6 ++ N)) ++ L))) ?_ (by exact ji)
     refine jf 4 _ rfl rfl ?_
     refine ⟨by rw [h0], _, B7 ++ (B6 ++ N), ⟨a8, c8, B8, ?_, rfl⟩, h7.wr.append (h6.wr.append hN), ?_⟩
     · rw [hp1, hvn]; exact hB8
     · rw [hp1, hvn, hsl]; rfl
 · have hp1 := Vw (x := ⟨x, false⟩) h0
   rw [hp1]
   refine goA ?_
   refine jG (L' := (bb, Obj.cells (kf want (jp l) (.slice a (Vd.votesB l).length c)).toArray 165 (0, 0)) :: (B ++ ([] ++ L))) ?_ ji
   refine jf 4 _ rfl rfl ?_
   exact ⟨rfl, _, [], ⟨a, c, B, hB, rfl⟩, Wr.nil, rfl⟩
end
end Go.Proofs.YtbjkkoacclfejaaGreat
