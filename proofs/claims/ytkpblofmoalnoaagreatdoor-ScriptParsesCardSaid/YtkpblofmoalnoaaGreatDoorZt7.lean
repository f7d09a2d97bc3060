/-
 Part 7: CI Rf Rg Db De Dg Ld Lf Lg Lh.
-/
import Derived.Test.YtkpblofmoalnoaaGreatDoorZt6
import Derived.Test.YtkpblofmoalnoaaGreatDoorZt1
import Derived.Test.YtkpblofmoalnoaaGreatDoorZt4
import Derived.Test.YtkpblofmoalnoaaGreatDoorZt5
import Derived.Test.YtkpblofmoalnoaaGreatDoorZv
set_option maxRecDepth 100000
set_option maxHeartbeats 16000000
set_option linter.unusedVariables false
set_option linter.unusedSimpArgs false
namespace Go.Proofs.YtkpblofmoalnoaaGreatDoor
open Go.RowKit
open Cn (Zo Cf)
section
variable {G : World} {P : Program} {n : Nat} {ρ : jn} {L : jc} {ty : TypeId} {Q : Exit → Act → World → Prop} {ops : Array Oper} {K : jc} {W : List Nat} {fuel : Nat} {listed : Array Bool}
theorem KL (i : Nat) {d j dj : Nat} {want b : Bool} {op : Op} {pos : String} {after : Array Edge} {Φ : Value → jc → Prop} (hr : Region.ready .any ops listed = [i]) (hi : ops[i]? = some ⟨some d, op, ty, pos, after, some (j, want)⟩) (hdn : Nat.blt d n = true)
 (hs : jJ ops j = some dj) (hv : ρ.lookup dj = some (.bool b)) (hb : b = want)
 (hO : OpT P G ρ L op ty Φ) (h : ∀ v L', Φ v L' → (i ∈ W ∨ ∀ p ∈ K, p ∈ L') ∧ TA P G ops n K W Q fuel (listed.setIfInBounds i true) ((d, v) :: ρ) L') : TA P G ops n K W Q (fuel + 1) listed ρ L := by
 refine ⟨fun h0 => (by rw [hr] at h0; cases h0), fun k hk => ?_⟩
 rw [hr] at hk
 obtain rfl : k = i := by simpa using hk
 exact ⟨_, hi, fun d' e => by cases e; simpa using hdn, true, ⟨dj, _, hs, hv, by simp [Yz, hb]⟩, Or.inl ⟨rfl, Φ, hO, h⟩⟩
end
variable {G : World} {L : jc}
def ajV : Rp Int := fun _ cs n => cs = [.int .i64 n]
theorem Wh {s : Nm.Bytes} {f i : Nat} {c : UInt8} (hf : f ≤ i) (hc : s[i]? = some c) : s.drop f = (s.take i).drop f ++ c :: s.drop (i + 1) := by
 obtain ⟨h1, h2⟩ := List.getElem?_eq_some_iff.1 hc
 have e : s = s.take i ++ c :: s.drop (i + 1) := by
  rw [← h2, ← List.drop_eq_getElem_cons h1, List.take_append_drop]
 have hl : f ≤ (s.take i).length := by rw [List.length_take]; omega
 calc s.drop f = (s.take i ++ c :: s.drop (i + 1)).drop f := by rw [← e]
  _ = _ := List.drop_append_of_le_length hl
theorem Z6 {s : Nm.Bytes} {f i : Nat} {c : UInt8} (hf : f ≤ i) (hc : s[i]? = some c) : (s.take (i + 1)).drop f = (s.take i).drop f ++ [c] := by
 obtain ⟨h1, h2⟩ := List.getElem?_eq_some_iff.1 hc
 have hl : f ≤ (s.take i).length := by rw [List.length_take]; omega
 rw [List.take_add_one, hc]
 exact List.drop_append_of_le_length hl
section
variable {l x1 x2 : Nm.Bytes} {k : Nat}
theorem air (h : (Cn.spl 32 l).length ≠ 2) : Cn.readNum k l = none := by
 unfold Cn.readNum
 split
 · rename_i e
   rw [e] at h
   exact absurd rfl h
 · rfl
theorem ahg {w : Nm.Bytes} (h : Cn.spl 32 l = [x1, x2]) (hw : Cn.words12[k]? = some w) (hx : x1 ≠ w) : Cn.readNum k l = none := by
 unfold Cn.readNum
 rw [h]
 dsimp only
 rw [hw, if_neg (fun e => hx (Option.some.inj e))]
theorem ais (h : Cn.spl 32 l = [x1, x2]) (hn : Cn.numP x2 2147483647 = none) : Cn.readNum k l = none := by
 unfold Cn.readNum
 rw [h]
 dsimp only
 rw [hn]
 split <;> rfl
theorem ajW {n : Nat} (h : Cn.spl 32 l = [x1, x2]) (hw : Cn.words12[k]? = some x1) (hn : Cn.numP x2 2147483647 = some n) : Cn.readNum k l = some (n : Int) := by
 unfold Cn.readNum
 rw [h]
 dsimp only
 rw [hw, if_pos rfl, hn]
 rfl
end
theorem adE {P : Program} {ρ : jn} {ty : TypeId} {x y : Operand} {b k : Nat} {t : TypeId} {C D : Array Value} {te : TypeId} (hx : ev ρ x = some (.pointer (some ⟨b, 0, none⟩))) (hy : ev ρ y = some (.agg D))
 (ht : j8 P t k = true) (hC : C.size = k) (hD : D.size = k) (hone : WF D = true) : OpV P G ρ ((b, Obj.cells C te (0, 0)) :: L) (.store t x y) ty undef ((b, Obj.cells D te (0, 0)) :: L) := by
 have h1 := Um (G := G) (P := P) (ρ := ρ) (L := L) (ty := ty) (b := b) (C := C) (te := te) (t := t) (cs := D.toList) hx (by simpa using hy) (by rw [Array.length_toList, hD]; exact ht) (fun v hv => List.all_eq_true.1 hone v hv) (by rw [Array.length_toList, hD, hC]; omega)
 have h2 : jQ C 0 D.toList = D := by
  unfold jQ
  rw [List.drop_eq_nil_of_le (by simp; omega)]
  simp
 rw [h2] at h1
 exact h1
theorem ahh (vs : List Int) (bn cap : Nat) (cur : Array Value) (h12 : vs.length = 12) (hm : (bn, Obj.cells cur 3 (0, 0)) ∈ L) (hc : ∀ i x, vs[i]? = some x → cur[0 + i * 1]? = some (.int .i64 x)) (hcap : 12 ≤ cap) (hmax : cap ≤ 9223372036854775807) :
 Spec Tryz.prog G 37 #[.slice (some ⟨bn, 0, none⟩) 12 cap] L fun u M => u = .agg (jg (Cn.ofN vs []) (.slice none 0 0)).toArray ∧ M = L := by
 match vs, h12 with
 | [v0, v1, v2, v3, v4, v5, v6, v7, v8, v9, v10, v11], _ =>
   have g0 := hc 0 v0 rfl
   have g1 := hc 1 v1 rfl
   have g2 := hc 2 v2 rfl
   have g3 := hc 3 v3 rfl
   have g4 := hc 4 v4 rfl
   have g5 := hc 5 v5 rfl
   have g6 := hc 6 v6 rfl
   have g7 := hc 7 v7 rfl
   have g8 := hc 8 v8 rfl
   have g9 := hc 9 v9 rfl
   have g10 := hc 10 v10 rfl
   have g11 := hc 11 v11 rfl
   clear hc
   refine ju (n := 40) Tryz.func37 rfl rfl rfl ?_
   repeat (first | refine goA ?_ | (refine jx ?_; intro bNew) | refine jl (ja rfl (j7 _ _ _ _ _ _ _ _ _ _ _ _)) rfl ?_)
   obtain ⟨b2, hb2⟩ : ∃ b, bNew = b := ⟨_, rfl⟩
   rw [hb2]
   clear hb2 bNew
   have hKm : ∀ p ∈ [(bn, Obj.cells cur 3 (0, 0))], p ∈ L := by
    intro p hp
    simp only [List.mem_cons, List.not_mem_nil, or_false] at hp
    subst hp
    exact hm
   refine jR jo ([(bn, Obj.cells cur 3 (0, 0))]) [] ?_
   refine tkQ 0 ?_
   refine tkQ 1 ?_
   refine tkQ 2 ?_
   refine tkQ 3 ?_
   refine tkQ 4 ?_
   refine tkQ 5 ?_
   refine tkQ 6 ?_
   refine tkQ 7 ?_
   refine tkQ 8 ?_
   refine tkQ 9 ?_
   refine tkQ 10 ?_
   refine tkQ 11 ?_
   refine tkQ 12 ?_
   refine tkQ 13 ?_
   refine tkQ 14 ?_
   refine tkQ 15 ?_
   refine tkQ 16 ?_
   refine tkQ 17 ?_
   refine tkQ 18 ?_
   refine tkQ 19 ?_
   refine tkQ 20 ?_
   refine tkQ 21 ?_
   refine tkQ 22 ?_
   refine tkQ 23 ?_
   refine tkQ 24 ?_
   refine tkQ 25 ?_
   refine tkQ 26 ?_
   refine tkQ 27 ?_
   refine tkQ 28 ?_
   refine tkQ 29 ?_
   refine tkQ 30 ?_
   refine tkQ 31 ?_
   refine tkQ 32 ?_
   refine tkQ 33 ?_
   refine tkQ 34 ?_
   refine tkQ 35 ?_
   first | (refine' jG 36 rfl rfl je (kz (ja rfl (j7 _ _ _ _ _ _ _ _ _ _ _ _))) ?_ ?_; (· first | assumption | (intro p hp; grind)))
   refine uI 37 je rfl rfl rfl (adE rfl rfl stO rfl rfl rfl) ?_
   rintro _ _ ⟨_, rfl⟩
   refine ⟨Or.inr (by first | exact (fun z hz => qD kl z (hKm z hz)) | simp), ?_⟩
   refine tdQ ?_
   repeat (first | refine goA ?_ | (refine jx ?_; intro bNew) | refine jl (ja rfl (j7 _ _ _ _ _ _ _ _ _ _ _ _)) rfl ?_)
   refine WG 2 25  rfl rfl  stO (by repeat (first | assumption | exact List.mem_cons_self | apply List.mem_cons_of_mem)) rfl (fun w h => h.tail) ?_
   exact ⟨rfl, rfl⟩
theorem afD (s : Nm.Bytes) (hs : s.length ≤ 40000) : Spec Tryz.prog G 13 #[.string (bs s)] L fun u M => ajU (Cn.parseP theT s) L u M := by
 refine ju (n := 106) Tryz.func13 rfl rfl rfl ?_
 repeat (first | refine goA ?_ | (refine jx ?_; intro bNew) | refine jl (ja rfl (jp )) rfl ?_ | refine jf (ja rfl (jp )) rfl ?_ | (refine jD ?_; intro bLit))
 obtain ⟨b2, hb2⟩ : ∃ b, bNew = b := ⟨_, rfl⟩
 rw [hb2]
 clear hb2 bNew
 refine jK (σ := (Nat × Nat × Nat) × (List Int × Option Addr × Nat × jc) × (List Zo × Option Addr × Nat × jc)) (fun x => (x.1.1 ≤ x.1.2.1 ∧ x.1.2.1 ≤ s.length) ∧ (10 : UInt8) ∉ (s.take x.1.2.1).drop x.1.1 ∧ PInv s x.1.2.2 (s.drop x.1.1) x.2.1.1 x.2.2.1 ∧ ORow ajV 3 1 [] x.2.1.2.1 x.2.1.2.2.1 x.2.1.1 x.2.1.2.2.2 ∧ ORow zoR 45 3 [] x.2.2.2.1 x.2.2.2.2.1 x.2.2.1 x.2.2.2.2.2)
  (fun x => [(0, .string (bs s)), (2, .pointer (some ⟨b2, 0, none⟩)), (5, .slice x.2.1.2.1 x.2.1.1.length x.2.1.2.2.1), (6, .slice x.2.2.2.1 x.2.2.1.length x.2.2.2.2.1), (7, .int .i64 ((x.1.2.2 : Nat) + 1)), (8, .int .i64 (x.1.1 : Nat)), (9, .int .i64 (x.1.2.1 : Nat))])
  (fun x => (b2, Obj.cells (jg Cn.zeroC (.slice none 0 0)).toArray 25 (0, 0)) :: (x.2.1.2.2.2 ++ (x.2.2.2.2.2 ++ L))) (fun x => s.length - x.1.2.1) ((0, 0, 0), ([], none, 0, []), ([], none, 0, [])) ⟨⟨Nat.le_refl _, Nat.zero_le _⟩, by simp, by dsimp only; rw [List.drop_zero]; exact PInv.zero s, ORow.nil _, ORow.nil _⟩ ?_ (fun _ h => h) ?_
 exact jL
 rintro ⟨⟨f, i, k⟩, ⟨vs, a1, c1, B1⟩, ⟨zs, a2, c2, B2⟩⟩ ⟨⟨hfi, hil⟩, h10, hI, hB1, hB2⟩
 dsimp only at hfi hil h10 hI hB1 hB2 ⊢
 have hsz := hI.size
 rw [List.length_drop] at hsz
 have hvl := hI.vl
 have hzl := hI.zl
 by_cases hlt : i < s.length
 · obtain ⟨c, hc⟩ : ∃ c, s[i]? = some c := ⟨_, List.getElem?_eq_getElem hlt⟩
   have hcb := c.toNat_lt
   by_cases hc10 : c.toNat = 10
   rotate_left
   · have hcn : c ≠ 10 := fun e => hc10 (by rw [e]; rfl)
     repeat (first | refine goA ?_ | (refine jx ?_; intro bNew) | refine jl (ja rfl (jp )) rfl ?_ | refine jf (ja rfl (jp )) rfl ?_ | (refine jD ?_; intro bLit))
     refine jz ((f, i + 1, k), (vs, a1, c1, B1), (zs, a2, c2, B2)) ⟨⟨by dsimp only; omega, by dsimp only; omega⟩, ?_, hI, hB1, hB2⟩ ?_ (fun _ h => h) (by dsimp only; omega)
     · dsimp only
       rw [Z6 hfi hc, List.mem_append]
       rintro (q | q)
       · exact h10 q
       · exact hcn (List.mem_singleton.1 q).symm
     exact jL
   have hc' : c = 10 := UInt8.toNat_inj.1 hc10
   have hdl := Wh hfi hc
   rw [hc'] at hdl
   rw [hdl] at hI
   obtain ⟨l, hl⟩ : ∃ l, (s.take i).drop f = l := ⟨_, rfl⟩
   rw [hl] at hI h10
   have hll : l.length ≤ 40000 := by rw [← hl, List.length_drop, List.length_take]; omega
   have hsl : List.drop (f : Int).toNat (List.take (i : Int).toNat s) = l := by rw [Int.toNat_natCast, Int.toNat_natCast]; exact hl
   have hnew : (10 : UInt8) ∉ (s.take (i + 1)).drop (i + 1) := by rw [List.drop_eq_nil_of_le (by rw [List.length_take]; omega)]; simp
   by_cases hk : k < 12
   · have hk12 : (k : Int) + 1 ≤ 12 := by omega
     repeat (first | refine goA ?_ | (refine jx ?_; intro bNew) | refine jl (ja rfl (jp )) rfl ?_ | refine jf (ja rfl (jp )) rfl ?_ | (refine jD ?_; intro bLit))
     rw [hsl]
     repeat (first | refine goA ?_ | (refine jx ?_; intro bNew) | refine jl (ja rfl (jp )) rfl ?_ | refine jf (ja rfl (jp )) rfl ?_ | (refine jD ?_; intro bLit))
     refine jX (jb je rfl (yf l jj)) rfl ?_
     rintro _ _ ⟨a, cap, B, rfl, hB, rfl⟩
     have hlen := yn 32 l
     have hcnt := qJ 32 l
     have hrnl := air (l := l) (k := k)
     have hne := Cn.spl_ne 32 l
     obtain ⟨ws, hws⟩ : ∃ ws, Cn.spl 32 l = ws := ⟨_, rfl⟩
     rw [hws] at hB hlen hcnt hrnl hne ⊢
     obtain ⟨b4, cur, rfl, rfl, hcap, hmax, hsz, hat⟩ := hB.block hne
     have hcell : ∀ i x, ws[i]? = some x → cur[0 + i * 1]? = some (.string (bs x)) := fun i x hx => by
      obtain ⟨cs, _, ⟨rfl, _⟩, _, h⟩ := hat i x hx
      have := h 0 _ rfl
      rwa [Nat.add_zero, ← Nat.zero_add (i * 1)] at this
     clear hat hB
     unfold maxLen at hmax
     have hKm : ∀ p ∈ [(b4, Obj.cells cur 9 (0, 0))], p ∈ (b4, Obj.cells cur 9 (0, 0)) :: (b2, Obj.cells (jg Cn.zeroC (.slice none 0 0)).toArray 25 (0, 0)) :: (B1 ++ (B2 ++ L)) := by
      intro p hp
      simp only [List.mem_cons, List.not_mem_nil, or_false] at hp
      subst hp
      exact List.mem_cons_self ..
     by_cases h2 : ws.length = 2
     rotate_left
     · rw [hI.bad jj h10 (Or.inl ⟨hk, hrnl h2⟩)]
       repeat (first | refine goA ?_ | (refine jx ?_; intro bNew) | refine jl (ja rfl (jp )) rfl ?_ | refine jf (ja rfl (jp )) rfl ?_ | (refine jD ?_; intro bLit))
       refine jR jo ([(b4, Obj.cells cur 9 (0, 0))]) [] ?_
       refine tkQ 0 ?_
       refine tkQ 1 ?_
       refine tkQ 2 ?_
       refine tkQ 3 ?_
       refine tkQ 4 ?_
       refine tkQ 5 ?_
       refine tkQ 6 ?_
       refine tkQ 7 ?_
       refine tkQ 8 ?_
       refine tkQ 9 ?_
       refine tkQ 10 ?_
       refine tkQ 11 ?_
       refine tkQ 12 ?_
       refine tkQ 13 ?_
       refine tdQ ?_
       repeat (first | refine goA ?_ | (refine jx ?_; intro bNew) | refine jl (ja rfl (jp )) rfl ?_ | refine jf (ja rfl (jp )) rfl ?_ | (refine jD ?_; intro bLit))
       refine kA (L' := (b2, Obj.cells (jg Cn.zeroC (.slice none 0 0)).toArray 25 (0, 0)) :: L) ?_ kl
       repeat (first | refine goA ?_ | (refine jx ?_; intro bNew) | refine jl (ja rfl (jp )) rfl ?_ | refine jf (ja rfl (jp )) rfl ?_ | (refine jD ?_; intro bLit))
       refine kj 2 25 3 4 rfl rfl rfl rfl stO (by repeat (first | assumption | exact List.mem_cons_self | apply List.mem_cons_of_mem)) rfl (fun w h => h.tail) ?_
       exact ⟨none, 0, [], rfl, ORow.nil _, rfl⟩
     obtain ⟨x1, x2, hwe⟩ : ∃ x1 x2, ws = [x1, x2] := by
      match ws, h2 with
      | [x1, x2], _ => exact ⟨x1, x2, rfl⟩
     have d0 := hcell 0 x1 (by rw [hwe]; rfl)
     have d1 := hcell 1 x2 (by rw [hwe]; rfl)
     have hx1 := hlen x1 (by rw [hwe]; simp)
     have hx2 := hlen x2 (by rw [hwe]; simp)
     have hspl := hws.trans hwe
     obtain ⟨w', hw'⟩ : ∃ w', Cn.words12[k]? = some w' := ⟨_, List.getElem?_eq_getElem hk⟩
     have hword : (Cn.words12.map ka).toArray[0 + ((k : Int) + 1 - 1).toNat * 1]? = some (.string (bs w')) := by
      rw [show 0 + ((k : Int) + 1 - 1).toNat * 1 = k by omega, List.getElem?_toArray, List.getElem?_map, hw']; rfl
     by_cases hww : x1 = w'
     rotate_left
     · rw [hI.bad jj h10 (Or.inl ⟨hk, ahg hspl hw' hww⟩)]
       repeat (first | refine goA ?_ | (refine jx ?_; intro bNew) | refine jl (ja rfl (jp )) rfl ?_ | refine jf (ja rfl (jp )) rfl ?_ | (refine jD ?_; intro bLit))
       refine jR jo ([(b4, Obj.cells cur 9 (0, 0))]) [] ?_
       refine tkQ 0 ?_
       refine tkQ 1 ?_
       refine tkQ 2 ?_
       refine tkQ 3 ?_
       refine tkQ 4 ?_
       refine tkQ 5 ?_
       refine tkQ 6 ?_
       refine tkQ 8 ?_
       refine tkQ 9 ?_
       refine KL 7 je rfl rfl rfl rfl (by first | with_reducible rfl | assumption | exact Bool.not_false | exact Bool.not_true | exact dT (by first | assumption | with_reducible rfl | omega) | exact dF (by first | assumption | with_reducible rfl | omega) | exact eT (by first | assumption | with_reducible rfl | omega) | exact eF (by first | assumption | with_reducible rfl | omega) | exact nT (by first | assumption | with_reducible rfl | omega) | exact nF (by first | assumption | with_reducible rfl | omega) | exact xT (by first | assumption | exact dT (by first | assumption | with_reducible rfl | omega) | exact dF (by first | assumption | with_reducible rfl | omega) | exact eT (by first | assumption | with_reducible rfl | omega) | exact eF (by first | assumption | with_reducible rfl | omega) | exact nT (by first | assumption | with_reducible rfl | omega) | exact nF (by first | assumption | with_reducible rfl | omega)) | exact xF (by first | assumption | exact dT (by first | assumption | with_reducible rfl | omega) | exact dF (by first | assumption | with_reducible rfl | omega) | exact eT (by first | assumption | with_reducible rfl | omega) | exact eF (by first | assumption | with_reducible rfl | omega) | exact nT (by first | assumption | with_reducible rfl | omega) | exact nF (by first | assumption | with_reducible rfl | omega))) (jb je rfl Wf) ?_
       rintro _ _ ⟨bW, rfl, rfl⟩
       refine ⟨Or.inr (by first | exact (fun z hz => qD kl z (hKm z hz)) | simp), ?_⟩
       refine tkQ 10 ?_
       refine KL 11 je rfl rfl rfl rfl (by first | with_reducible rfl | assumption | exact Bool.not_false | exact Bool.not_true | exact dT (by first | assumption | with_reducible rfl | omega) | exact dF (by first | assumption | with_reducible rfl | omega) | exact eT (by first | assumption | with_reducible rfl | omega) | exact eF (by first | assumption | with_reducible rfl | omega) | exact nT (by first | assumption | with_reducible rfl | omega) | exact nF (by first | assumption | with_reducible rfl | omega) | exact xT (by first | assumption | exact dT (by first | assumption | with_reducible rfl | omega) | exact dF (by first | assumption | with_reducible rfl | omega) | exact eT (by first | assumption | with_reducible rfl | omega) | exact eF (by first | assumption | with_reducible rfl | omega) | exact nT (by first | assumption | with_reducible rfl | omega) | exact nF (by first | assumption | with_reducible rfl | omega)) | exact xF (by first | assumption | exact dT (by first | assumption | with_reducible rfl | omega) | exact dF (by first | assumption | with_reducible rfl | omega) | exact eT (by first | assumption | with_reducible rfl | omega) | exact eF (by first | assumption | with_reducible rfl | omega) | exact nT (by first | assumption | with_reducible rfl | omega) | exact nF (by first | assumption | with_reducible rfl | omega))) ((abE (L := (bW, Obj.cells (Cn.words12.map ka).toArray 9 (0, 0)) :: (b4, Obj.cells cur 9 (0, 0)) :: (b2, Obj.cells (jg Cn.zeroC (.slice none 0 0)).toArray 25 (0, 0)) :: (B1 ++ (B2 ++ L))) rfl plO (List.mem_cons_self ..) hword).v) ?_
       rintro _ _ ⟨rfl, rfl⟩
       refine ⟨Or.inr (by first | exact (fun z hz => qD kl z (hKm z hz)) | simp), ?_⟩
       refine tkQ 12 ?_
       refine tkQ 13 ?_
       refine tdQ ?_
       repeat (first | refine goA ?_ | (refine jx ?_; intro bNew) | refine jl (ja rfl (jp )) rfl ?_ | refine jf (ja rfl (jp )) rfl ?_ | (refine jD ?_; intro bLit))
       refine kA (L' := (b2, Obj.cells (jg Cn.zeroC (.slice none 0 0)).toArray 25 (0, 0)) :: L) ?_ kl
       repeat (first | refine goA ?_ | (refine jx ?_; intro bNew) | refine jl (ja rfl (jp )) rfl ?_ | refine jf (ja rfl (jp )) rfl ?_ | (refine jD ?_; intro bLit))
       refine kj 2 25 3 4 rfl rfl rfl rfl stO (by repeat (first | assumption | exact List.mem_cons_self | apply List.mem_cons_of_mem)) rfl (fun w h => h.tail) ?_
       exact ⟨none, 0, [], rfl, ORow.nil _, rfl⟩
     subst hww
     repeat (first | refine goA ?_ | (refine jx ?_; intro bNew) | refine jl (ja rfl (jp )) rfl ?_ | refine jf (ja rfl (jp )) rfl ?_ | (refine jD ?_; intro bLit))
     refine jR jo ([(b4, Obj.cells cur 9 (0, 0))]) [] ?_
     refine tkQ 0 ?_
     refine tkQ 1 ?_
     refine tkQ 2 ?_
     refine tkQ 3 ?_
     refine tkQ 4 ?_
     refine tkQ 5 ?_
     refine tkQ 6 ?_
     refine tkQ 8 ?_
     refine tkQ 9 ?_
     refine KL 7 je rfl rfl rfl rfl (by first | with_reducible rfl | assumption | exact Bool.not_false | exact Bool.not_true | exact dT (by first | assumption | with_reducible rfl | omega) | exact dF (by first | assumption | with_reducible rfl | omega) | exact eT (by first | assumption | with_reducible rfl | omega) | exact eF (by first | assumption | with_reducible rfl | omega) | exact nT (by first | assumption | with_reducible rfl | omega) | exact nF (by first | assumption | with_reducible rfl | omega) | exact xT (by first | assumption | exact dT (by first | assumption | with_reducible rfl | omega) | exact dF (by first | assumption | with_reducible rfl | omega) | exact eT (by first | assumption | with_reducible rfl | omega) | exact eF (by first | assumption | with_reducible rfl | omega) | exact nT (by first | assumption | with_reducible rfl | omega) | exact nF (by first | assumption | with_reducible rfl | omega)) | exact xF (by first | assumption | exact dT (by first | assumption | with_reducible rfl | omega) | exact dF (by first | assumption | with_reducible rfl | omega) | exact eT (by first | assumption | with_reducible rfl | omega) | exact eF (by first | assumption | with_reducible rfl | omega) | exact nT (by first | assumption | with_reducible rfl | omega) | exact nF (by first | assumption | with_reducible rfl | omega))) (jb je rfl Wf) ?_
     rintro _ _ ⟨bW, rfl, rfl⟩
     refine ⟨Or.inr (by first | exact (fun z hz => qD kl z (hKm z hz)) | simp), ?_⟩
     refine tkQ 10 ?_
     refine KL 11 je rfl rfl rfl rfl (by first | with_reducible rfl | assumption | exact Bool.not_false | exact Bool.not_true | exact dT (by first | assumption | with_reducible rfl | omega) | exact dF (by first | assumption | with_reducible rfl | omega) | exact eT (by first | assumption | with_reducible rfl | omega) | exact eF (by first | assumption | with_reducible rfl | omega) | exact nT (by first | assumption | with_reducible rfl | omega) | exact nF (by first | assumption | with_reducible rfl | omega) | exact xT (by first | assumption | exact dT (by first | assumption | with_reducible rfl | omega) | exact dF (by first | assumption | with_reducible rfl | omega) | exact eT (by first | assumption | with_reducible rfl | omega) | exact eF (by first | assumption | with_reducible rfl | omega) | exact nT (by first | assumption | with_reducible rfl | omega) | exact nF (by first | assumption | with_reducible rfl | omega)) | exact xF (by first | assumption | exact dT (by first | assumption | with_reducible rfl | omega) | exact dF (by first | assumption | with_reducible rfl | omega) | exact eT (by first | assumption | with_reducible rfl | omega) | exact eF (by first | assumption | with_reducible rfl | omega) | exact nT (by first | assumption | with_reducible rfl | omega) | exact nF (by first | assumption | with_reducible rfl | omega))) ((abE (L := (bW, Obj.cells (Cn.words12.map ka).toArray 9 (0, 0)) :: (b4, Obj.cells cur 9 (0, 0)) :: (b2, Obj.cells (jg Cn.zeroC (.slice none 0 0)).toArray 25 (0, 0)) :: (B1 ++ (B2 ++ L))) rfl plO (List.mem_cons_self ..) hword).v) ?_
     rintro _ _ ⟨rfl, rfl⟩
     refine ⟨Or.inr (by first | exact (fun z hz => qD kl z (hKm z hz)) | simp), ?_⟩
     refine tkQ 12 ?_
     refine tkQ 13 ?_
     refine tdQ ?_
     clear hKm
     repeat (first | refine goA ?_ | (refine jx ?_; intro bNew) | refine jl (ja rfl (jp )) rfl ?_ | refine jf (ja rfl (jp )) rfl ?_ | (refine jD ?_; intro bLit))
     refine ji (jb je rfl (We x2 2147483647 jj jj)) rfl ?_
     rcases U8 x2 2147483647 with ⟨n, hn, hv⟩ | ⟨hn, n, hu, hv⟩
     rotate_left
     · rw [hI.bad jj h10 (Or.inl ⟨hk, ais hspl hn⟩), hv]
       repeat (first | refine goA ?_ | (refine jx ?_; intro bNew) | refine jl (ja rfl (jp )) rfl ?_ | refine jf (ja rfl (jp )) rfl ?_ | (refine jD ?_; intro bLit))
       refine kA (L' := (b2, Obj.cells (jg Cn.zeroC (.slice none 0 0)).toArray 25 (0, 0)) :: L) ?_ kl
       repeat (first | refine goA ?_ | (refine jx ?_; intro bNew) | refine jl (ja rfl (jp )) rfl ?_ | refine jf (ja rfl (jp )) rfl ?_ | (refine jD ?_; intro bLit))
       refine kj 2 25 3 4 rfl rfl rfl rfl stO (by repeat (first | assumption | exact List.mem_cons_self | apply List.mem_cons_of_mem)) rfl (fun w h => h.tail) ?_
       exact ⟨none, 0, [], rfl, ORow.nil _, rfl⟩
     have hn2 := (Cn.numP_some hn).2
     rw [hv]
     repeat (first | refine goA ?_ | (refine jx ?_; intro bNew) | refine jl (ja rfl (jp )) rfl ?_ | refine jf (ja rfl (jp )) rfl ?_ | (refine jD ?_; intro bLit))
     obtain ⟨bL, hbL⟩ : ∃ b, bLit = b := ⟨_, rfl⟩
     rw [hbL]
     clear hbL bLit
     refine kA (L' := (bL, Obj.cells #[(#[Value.int .i64 (n : Nat), .bool true] : Array Value)[0]] 3 (0, 0)) :: (B1 ++ ((b2, Obj.cells (jg Cn.zeroC (.slice none 0 0)).toArray 25 (0, 0)) :: (B2 ++ L)))) ?_ kl
     refine jX (uJ (r := ajV) (cs := [.int .i64 (n : Nat)]) (y := (n : Int)) etO rfl rfl hB1 rfl (by intro v hv; rw [List.mem_singleton.1 hv]; rfl) rfl (by unfold maxLen; omega) (Nat.le_trans (Nat.mul_le_mul (show vs.length + 1 ≤ 1000001 by omega) (Nat.le_refl _)) (by decide))) rfl ?_
     rintro _ _ ⟨a', c', B', rfl, hB', rfl⟩
     repeat (first | refine goA ?_ | (refine jx ?_; intro bNew) | refine jl (ja rfl (jp )) rfl ?_ | refine jf (ja rfl (jp )) rfl ?_ | (refine jD ?_; intro bLit))
     refine jz ((i + 1, i + 1, k + 1), (vs ++ [(n : Int)], a', c', B'), (zs, a2, c2, B2)) ⟨⟨Nat.le_refl _, by dsimp only; omega⟩, hnew, hI.num h10 hk (ajW hspl hw' hn), hB', hB2⟩ ?_ (fun w h => Heap.cnt h kl) (by dsimp only; omega)
     dsimp only
     rw [show ((k + 1 : Nat) : Int) + 1 = (k : Int) + 1 + 1 by omega]
     exact jL
   · have hk12 : ¬ (k : Int) + 1 ≤ 12 := by omega
     repeat (first | refine goA ?_ | (refine jx ?_; intro bNew) | refine jl (ja rfl (jp )) rfl ?_ | refine jf (ja rfl (jp )) rfl ?_ | (refine jD ?_; intro bLit))
     rw [hsl]
     repeat (first | refine goA ?_ | (refine jx ?_; intro bNew) | refine jl (ja rfl (jp )) rfl ?_ | refine jf (ja rfl (jp )) rfl ?_ | (refine jD ?_; intro bLit))
     refine ji (jb je rfl (ahf l jj)) rfl ?_
     cases hz : Cn.readZone theT l with
     | none =>
       rw [hI.bad jj h10 (Or.inr ⟨by omega, hz⟩), ud hz]
       repeat (first | refine goA ?_ | (refine jx ?_; intro bNew) | refine jl (ja rfl (jp )) rfl ?_ | refine jf (ja rfl (jp )) rfl ?_ | (refine jD ?_; intro bLit))
       refine kA (L' := (b2, Obj.cells (jg Cn.zeroC (.slice none 0 0)).toArray 25 (0, 0)) :: L) ?_ kl
       repeat (first | refine goA ?_ | (refine jx ?_; intro bNew) | refine jl (ja rfl (jp )) rfl ?_ | refine jf (ja rfl (jp )) rfl ?_ | (refine jD ?_; intro bLit))
       refine kj 2 25 3 4 rfl rfl rfl rfl stO (by repeat (first | assumption | exact List.mem_cons_self | apply List.mem_cons_of_mem)) rfl (fun w h => h.tail) ?_
       exact ⟨none, 0, [], rfl, ORow.nil _, rfl⟩
     | some z =>
       have hzg := yT hz
       rw [Wg hz]
       repeat (first | refine goA ?_ | (refine jx ?_; intro bNew) | refine jl (ja rfl (jp )) rfl ?_ | refine jf (ja rfl (jp )) rfl ?_ | (refine jD ?_; intro bLit))
       obtain ⟨b14, hb14⟩ : ∃ b, bNew = b := ⟨_, rfl⟩
       rw [hb14]
       clear hb14 bNew
       obtain ⟨bL, hbL⟩ : ∃ b, bLit = b := ⟨_, rfl⟩
       rw [hbL]
       clear hbL bLit
       refine kA (L' := (bL, Obj.cells ([.string (bs z.name), .int .u8 (z.pol : Nat), .int .u16 (z.tru : Nat)] : List Value).toArray 45 (0, 0)) :: (B2 ++ ((b2, Obj.cells (jg Cn.zeroC (.slice none 0 0)).toArray 25 (0, 0)) :: (B1 ++ L)))) ?_ kl
       refine jX (uJ (r := zoR) (cs := [.string (bs z.name), .int .u8 (z.pol : Nat), .int .u16 (z.tru : Nat)]) (y := z) etO rfl rfl hB2 rfl (by intro v hv; simp only [List.mem_cons, List.not_mem_nil, or_false] at hv; rcases hv with rfl | rfl | rfl <;> rfl) ⟨rfl, by unfold maxLen; omega, by omega, by omega⟩ (by unfold maxLen; omega) (Nat.le_trans (Nat.mul_le_mul (show zs.length + 1 ≤ 1000001 by omega) (Nat.le_refl _)) (by decide))) rfl ?_
       rintro _ _ ⟨a', c', B', rfl, hB', rfl⟩
       repeat (first | refine goA ?_ | (refine jx ?_; intro bNew) | refine jl (ja rfl (jp )) rfl ?_ | refine jf (ja rfl (jp )) rfl ?_ | (refine jD ?_; intro bLit))
       refine jz ((i + 1, i + 1, k + 1), (vs, a1, c1, B1), (zs ++ [z], a', c', B')) ⟨⟨Nat.le_refl _, by dsimp only; omega⟩, hnew, hI.zone h10 jj hz, hB1, hB'⟩ ?_ (fun w h => Heap.cnt h kl) (by dsimp only; omega)
       dsimp only
       rw [show ((k + 1 : Nat) : Int) + 1 = (k : Int) + 1 + 1 by omega]
       exact jL
 · obtain rfl : i = s.length := by omega
   rw [List.take_length] at h10
   by_cases hgo : k < 12 ∨ f < s.length
   · rw [hI.open' jj h10 (by rcases hgo with h | h; exact Or.inl h; exact Or.inr (fun e => by have := congrArg List.length e; rw [List.length_drop, List.length_nil] at this; omega))]
     by_cases hfl : f < s.length
     · repeat (first | refine goA ?_ | (refine jx ?_; intro bNew) | refine jl (ja rfl (jp )) rfl ?_ | refine jf (ja rfl (jp )) rfl ?_ | (refine jD ?_; intro bLit))
       refine kj 2 25 3 4 rfl rfl rfl rfl stO (by repeat (first | assumption | exact List.mem_cons_self | apply List.mem_cons_of_mem)) rfl (fun w h => Heap.cnt (L' := L) h kl) ?_
       exact ⟨none, 0, [], rfl, ORow.nil _, rfl⟩
     · have hk12 : (k : Int) + 1 ≤ 12 := by omega
       repeat (first | refine goA ?_ | (refine jx ?_; intro bNew) | refine jl (ja rfl (jp )) rfl ?_ | refine jf (ja rfl (jp )) rfl ?_ | (refine jD ?_; intro bLit))
       refine kj 2 25 3 4 rfl rfl rfl rfl stO (by repeat (first | assumption | exact List.mem_cons_self | apply List.mem_cons_of_mem)) rfl (fun w h => Heap.cnt (L' := L) h kl) ?_
       exact ⟨none, 0, [], rfl, ORow.nil _, rfl⟩
   · have hk12 : ¬ (k : Int) + 1 ≤ 12 := by omega
     have hfl : ¬ f < s.length := by omega
     rw [List.drop_eq_nil_of_le jj] at hI
     rw [hI.end' jj jj]
     have hv12 : vs.length = 12 := by omega
     obtain ⟨bn, cur, rfl, rfl, hcap, hmax, hsz1, hat⟩ := hB1.block (fun e => by rw [e] at hv12; simp at hv12)
     have hcell : ∀ i x, vs[i]? = some x → cur[0 + i * 1]? = some (.int .i64 x) := fun i x hx => by
      obtain ⟨cs, _, rfl, _, h⟩ := hat i x hx
      have := h 0 _ rfl
      rwa [Nat.add_zero, ← Nat.zero_add (i * 1)] at this
     clear hat
     unfold maxLen at hmax
     rw [hv12]
     repeat (first | refine goA ?_ | (refine jx ?_; intro bNew) | refine jl (ja rfl (jp )) rfl ?_ | refine jf (ja rfl (jp )) rfl ?_ | (refine jD ?_; intro bLit))
     refine ji (jb je rfl (ahh vs bn c1 cur hv12 (List.mem_cons_of_mem _ (List.mem_append_left _ (List.mem_cons_self ..))) hcell jj jj)) rfl ?_
     repeat (first | refine goA ?_ | (refine jx ?_; intro bNew) | refine jl (ja rfl (jp )) rfl ?_ | refine jf (ja rfl (jp )) rfl ?_ | (refine jD ?_; intro bLit))
     obtain ⟨b16, hb16⟩ : ∃ b, bNew = b := ⟨_, rfl⟩
     rw [hb16]
     clear hb16 bNew
     have hset : (jg (Cn.ofN vs []) (.slice none 0 0)).toArray.setIfInBounds (0 + 12) (.slice a2 zs.length c2) = (jg (Cn.ofN vs zs) (.slice a2 zs.length c2)).toArray := rfl
     rw [hset]
     have hcl : ∀ L' : jc, (∀ p ∈ B2, p ∈ L') → CfL L' (Cn.ofN vs zs) (.slice a2 zs.length c2) := fun L' hp => ⟨ORow.sliceR ut hB2 (by simp) hp, fun z hz => by have := (hI.zr z hz).1; omega⟩
     refine ji (jb je rfl (ail _ _ (hcl _ j4))) rfl ?_
     cases hm : Cn.mayP (Cn.ofN vs zs) with
     | true =>
       rw [Qk hm, if_pos rfl]
       repeat (first | refine goA ?_ | (refine jx ?_; intro bNew) | refine jl (ja rfl (jp )) rfl ?_ | refine jf (ja rfl (jp )) rfl ?_ | (refine jD ?_; intro bLit))
       refine kA (L' := (b2, Obj.cells (jg Cn.zeroC (.slice none 0 0)).toArray 25 (0, 0)) :: (b16, Obj.cells (jg (Cn.ofN vs zs) (.slice a2 zs.length c2)).toArray 25 (0, 0)) :: (B2 ++ L)) ?_ kl
       repeat (first | refine goA ?_ | (refine jx ?_; intro bNew) | refine jl (ja rfl (jp )) rfl ?_ | refine jf (ja rfl (jp )) rfl ?_ | (refine jD ?_; intro bLit))
       refine kj 2 25 3 4 rfl rfl rfl rfl stO (by repeat (first | assumption | exact List.mem_cons_self | apply List.mem_cons_of_mem)) rfl (fun w h => Heap.cnt (L' := B2 ++ L) h kl) ?_
       exact ⟨a2, c2, B2, rfl, hB2, rfl⟩
     | false =>
       rw [KJ hm, if_neg (by decide)]
       repeat (first | refine goA ?_ | (refine jx ?_; intro bNew) | refine jl (ja rfl (jp )) rfl ?_ | refine jf (ja rfl (jp )) rfl ?_ | (refine jD ?_; intro bLit))
       refine kA (L' := (b2, Obj.cells (jg Cn.zeroC (.slice none 0 0)).toArray 25 (0, 0)) :: L) ?_ kl
       repeat (first | refine goA ?_ | (refine jx ?_; intro bNew) | refine jl (ja rfl (jp )) rfl ?_ | refine jf (ja rfl (jp )) rfl ?_ | (refine jD ?_; intro bLit))
       refine kj 2 25 3 4 rfl rfl rfl rfl stO (by repeat (first | assumption | exact List.mem_cons_self | apply List.mem_cons_of_mem)) rfl (fun w h => h.tail) ?_
       exact ⟨none, 0, [], rfl, ORow.nil _, rfl⟩
end Go.Proofs.YtkpblofmoalnoaaGreatDoor
namespace Go.Proofs.YtkpblofmoalnoaaGreatDoor.Ev
open Go
def qi {α : Type} (step : α → Value → Option Exit × α) : α → List Value → Option Exit × α
 | a, [] => (none, a)
 | a, v :: vs => match step a v with
   | (none, b) => qi step b vs
   | (some x, b) => (some x, b)
section
variable {P : Program} {G : World} {n : Nat} {ρ : jn} {L M : jc} {ops : Array Oper} {Q : Exit → Act → World → Prop}
structure RoundS {α : Type} (P : Program) (G : World) (l : Nat) (rc : Loop) (step : α → Value → Option Exit × α) (Inv : α → jc → Prop) (Nx : α → Value → Prop) : Prop where
 out : ∀ {a : α} {v : Value} {M : jc}, Nx a v → Inv a M → ∀ w, Heap G w ((l, .loop rc) :: M) →
  RoundIn Fence.wide 0 P l rc.fn ((rc.params.zip #[v]).foldl (fun tmps (t, a) => tmps.setIfInBounds t a) rc.tmps) rc.assign rc.body w
   (jU G fun u M' => u = .bool (step a v).1.isNone ∧ ∃ M2, Inv (step a v).2 M2 ∧ M' = (l, .loop (kN rc (step a v).1)) :: M2)
def yU {α : Type} (step : α → Value → Option Exit × α) (Nx : α → Value → Prop) : α → List Value → Prop
 | _, [] => True
 | a, v :: vs => Nx a v ∧ ∀ b, step a v = (none, b) → yU step Nx b vs
def Z7 (P : Program) (f : FuncId) (Cap : Array Value) (vs : List Value) (K : jc) : Prop := ∀ {α : Type} {G : World} {l : Nat} {rc : Loop} {step : α → Value → Option Exit × α} {Inv : α → jc → Prop} {Nx : α → Value → Prop} {a : α} {M : jc},
 rc.params.size = 1 → RoundS P G l rc step Inv Nx → yU step Nx a vs → (∀ b N, Inv b N → ∀ p ∈ K, p ∈ N) → Inv a M →
 Spec P G f (#[.func (.yield l) #[] #[]] ++ Cap) ((l, .loop rc) :: M) fun u M' => ∃ M2, Inv (qi step a vs).2 M2 ∧ M' = (l, .loop (kN rc (qi step a vs).1)) :: M2
def Z8 (b : Nat) (a : Act) : Act := qN [uz b] a
structure TB (P : Program) (G : World) (n : Nat) (ρ : jn) (b : Nat) (L : jc) (c : Code) (Q : Exit → Act → World → Prop) : Prop where
 out : ∀ a w, Env n ρ a → Heap G w L → c.wp P Q (Z8 b a) w
structure TBQ (G : World) (n : Nat) (ρ : jn) (b : Nat) (L : jc) (x : Exit) (Q : Exit → Act → World → Prop) : Prop where
 out : ∀ a w, Env n ρ a → Heap G w L → Q x (Z8 b a) w
variable {b : Nat}
theorem TB_seq {x y : Code} (h : TB P G n ρ b L x (Exit.then (y.wp P Q) Q)) : TB P G n ρ b L (.seq x y) Q := ⟨fun a w he hw => wp_seq (h.out a w he hw)⟩
theorem TB_skip (h : TBQ G n ρ b L .normal Q) : TB P G n ρ b L .skip Q := ⟨fun a w he hw => wp_skip (h.out a w he hw)⟩
theorem TB_ret (h : TBQ G n ρ b L .ret Q) : TB P G n ρ b L .ret Q := ⟨fun a w he hw => wp_ret (h.out a w he hw)⟩
theorem TB_true {c : Operand} {x y : Code} (hc : ev ρ c = some (.bool true)) (ht : TB P G n ρ b L x Q) : TB P G n ρ b L (.cond c x y) Q := ⟨fun a w he hw => wp_cond_true (a := Z8 b a) (he.reads c _ hc) (ht.out a w he hw)⟩
theorem TB_false {c : Operand} {x y : Code} (hc : ev ρ c = some (.bool false)) (ht : TB P G n ρ b L y Q) : TB P G n ρ b L (.cond c x y) Q := ⟨fun a w he hw => wp_cond_false (a := Z8 b a) (he.reads c _ hc) (ht.out a w he hw)⟩
theorem TB_region {id : Nat} {l : List Oper} (h : TL P G l.toArray n ρ L l fun e a w => Q e (Z8 b a) w) : TB P G n ρ b L (.region id l.toArray false) Q :=
 ⟨fun a w he hw => wp_region_lit (uy (fun e a w h => h) l a w (h.out a w he hw))⟩
theorem TQ_TB {x : Exit} (h : TBQ G n ρ b L x Q) : TQ G n ρ L x fun e a w => Q e (Z8 b a) w := ⟨fun a w he hw => h.out a w he hw⟩
theorem TBQ_then {y : Code} {Q' : Exit → Act → World → Prop} (h : TB P G n ρ b L y Q) : TBQ G n ρ b L .normal (Exit.then (y.wp P Q) Q') := ⟨fun a w he hw => h.out a w he hw⟩
theorem TBQ_thenX {K : Act → World → Prop} {x : Exit} (hx : x ≠ .normal) (h : TBQ G n ρ b L x Q) : TBQ G n ρ b L x (Exit.then K Q) := by
 cases x with
 | normal => exact absurd rfl hx
 | _ => exact ⟨fun a w he hw => h.out a w he hw⟩
theorem TBQ_block {id : Nat} (h : TBQ G n ρ b L .normal Q) : TBQ G n ρ b L .normal (Exit.inBlock id Q) := ⟨fun a w he hw => h.out a w he hw⟩
theorem TBQ_block_ret {id : Nat} (h : TBQ G n ρ b L .ret Q) : TBQ G n ρ b L .ret (Exit.inBlock id Q) := ⟨fun a w he hw => h.out a w he hw⟩
variable {R : Fence} {k : Nat}
theorem yv {x y : Code} (h : TI R k P G n ρ L x (Exit.then (y.wpIn R k P Q) Q)) : TI R k P G n ρ L (.seq x y) Q := ⟨fun a w he hw => wpIn_seq (h.out a w he hw)⟩
theorem KM {id : Nat} {c : Code} (h : TI R k P G n ρ L c (Exit.inBlock id Q)) : TI R k P G n ρ L (.block id c) Q := ⟨fun a w he hw => wpIn_block (h.out a w he hw)⟩
theorem Ud (h : TQ G n ρ L .normal Q) : TI R k P G n ρ L .skip Q := ⟨fun a w he hw => wpIn_skip (h.out a w he hw)⟩
theorem Qo (h : TQ G n ρ L .ret Q) : TI R k P G n ρ L .ret Q := ⟨fun a w he hw => wpIn_ret (h.out a w he hw)⟩
theorem zR {c : Operand} {x y : Code} (hc : ev ρ c = some (.bool true)) (ht : TI R k P G n ρ L x Q) : TI R k P G n ρ L (.cond c x y) Q := ⟨fun a w he hw => wpIn_cond_true (he.reads c _ hc) (ht.out a w he hw)⟩
theorem KN {c : Operand} {x y : Code} (hc : ev ρ c = some (.bool false)) (ht : TI R k P G n ρ L y Q) : TI R k P G n ρ L (.cond c x y) Q := ⟨fun a w he hw => wpIn_cond_false (he.reads c _ hc) (ht.out a w he hw)⟩
theorem abq (hR : Wide R) (hlo : ¬ LetsOut Q) {id : Nat} {l : List Oper} (hp : allB qz l = true) (h : TL P G l.toArray n ρ L l Q) : TI R k P G n ρ L (.region id l.toArray false) Q :=
 ⟨fun a w he hw => wpIn_region_lit (hR.list hlo l (fun o ho => kK hp o ho) (h.out a w he hw))⟩
theorem qB {y : Code} {Q' : Exit → Act → World → Prop} (h : TI R k P G n ρ L y Q) : TQ G n ρ L .normal (Exit.then (y.wpIn R k P Q) Q') := ⟨fun a w he hw => h.out a w he hw⟩
def BodyPost (G : World) (l b : Nat) (rc : Loop) (x : Option Exit) (Φ : jc → Prop) : Exit → Act → World → Prop
 | .normal, _, w => x = none ∧ ∃ M, Φ M ∧ Heap G w ((l, .loop { rc with state := .busy }) :: (b, shutO) :: M)
 | .ret, _, w => x = some .ret ∧ ∃ M, Φ M ∧ Heap G w ((l, .loop { rc with state := .busy }) :: (b, shutO) :: M)
 | .exit id, _, w => x = some (.exit id) ∧ ∃ M, Φ M ∧ Heap G w ((l, .loop { rc with state := .busy }) :: (b, shutO) :: M)
 | _, _, _ => False
theorem bodyPost_lo {l b : Nat} {rc : Loop} {x : Option Exit} {Φ : jc → Prop} : ¬ LetsOut (BodyPost G l b rc x Φ) := by
 rintro ⟨_, _, h⟩
 exact h
def yV (P : Program) (G : World) (n l b : Nat) (rc : Loop) (body : Code) (Q : Exit → Act → World → Prop) : Exit → Act → World → Prop
 | .normal, a, w => ∃ ρ M, Env n ρ a ∧ Heap G w ((l, .loop rc) :: (b, shutO) :: M) ∧ TI (Fence.wide.inRound l) 0 P G n ρ ((l, .loop { rc with state := .busy }) :: (b, shutO) :: M) body Q
 | _, _, _ => False
theorem assignPost_lo {l b : Nat} {rc : Loop} {body : Code} : ¬ LetsOut (yV P G n l b rc body Q) := by
 rintro ⟨_, _, h⟩
 exact h
theorem zS {l b : Nat} {rc : Loop} {body : Code} (h : TI (Fence.wide.inRound l) 0 P G n ρ ((l, .loop { rc with state := .busy }) :: (b, shutO) :: M) body Q) : TQ G n ρ ((l, .loop rc) :: (b, shutO) :: M) .normal (yV P G n l b rc body Q) :=
 ⟨fun a w he hw => ⟨ρ, M, he, hw, h⟩⟩
theorem yW {l b : Nat} {rc : Loop} {x : Exit} {j : Option Exit} {Φ : jc → Prop} (hx : x = .normal ∧ j = none ∨ x = .ret ∧ j = some .ret ∨ ∃ id, x = .exit id ∧ j = some (.exit id)) (h : Φ M) :
 TQ G n ρ ((l, .loop { rc with state := .busy }) :: (b, shutO) :: M) x (BodyPost G l b rc j Φ) :=
 ⟨fun a w he hw => by
   rcases hx with ⟨rfl, rfl⟩ | ⟨rfl, rfl⟩ | ⟨id, rfl, rfl⟩ <;> exact ⟨rfl, M, h, hw⟩⟩
theorem Heap.put {w : World} {l : Nat} {O O' : Obj} (h : Heap G w ((l, O) :: L)) : Heap G (w.putObj l O') ((l, O') :: L) := by
 have hlt := h.lt (List.mem_cons_self ..)
 refine h.update ⟨rfl, rfl, rfl, ?_⟩ (World.putObj_heap_same hlt) fun j _ hj => World.putObj_heap_other hj
 simp
theorem adF {α : Type} {step : α → Value → Option Exit × α} {Inv : α → jc → Prop} {Nx : α → Value → Prop} {l b p : Nat} {rc : Loop} {assign body : Code} {a0 : Act} (he0 : Env n ρ a0) (hp : p < n)
 (hrc : rc = { rc with state := .ready, pending := none }) (h1 : rc.tmps = a0.tmps) (h2 : rc.params = #[p]) (h3 : rc.assign = assign) (h4 : rc.body = body)
 (hround : ∀ (a : α) (v : Value) (M : jc), Nx a v → Inv a M → TI (Fence.wide.inRound l) 0 P G n ((p, v) :: ρ) ((l, .loop rc) :: (b, shutO) :: M) assign (yV P G n l b rc body (BodyPost G l b rc (step a v).1 (Inv (step a v).2)))) :
 RoundS P G l rc step (fun a M => ∃ M1, Inv a M1 ∧ M = (b, shutO) :: M1) Nx := by
 refine ⟨fun {a v M} hv hI w hw => ?_⟩
 obtain ⟨M1, hI, rfl⟩ := hI
 rw [h1, h2, h3, h4]
 refine roundIn_of_wpIn trivial ?_
 have hz : ((#[p] : Array Tmp).zip #[v]).foldl (fun tmps (t, a) => tmps.setIfInBounds t a) a0.tmps = a0.tmps.setIfInBounds p v := by simp
 rw [hz]
 have hput : ({ tmps := a0.tmps.setIfInBounds p v, defers := [] } : Act) = a0.put (some p) v := by
  show _ = ({ a0 with tmps := a0.tmps.setIfInBounds p v } : Act)
  rw [← he0.defers]
 rw [hput]
 refine wpIn_mono ((hround a v M1 hv hI).out _ _ (he0.put p hp v) hw) fun x a1 w1 hx => ?_
 cases x with
 | normal =>
   obtain ⟨ρ1, M2, he1, hw1, hbody⟩ := hx
   refine ⟨_, run_beginRound (hw1.get _ (List.mem_cons_self ..)) (by rw [hrc]), ?_⟩
   refine wpIn_mono (hbody.out _ _ he1 (Heap.put hw1)) fun x a2 w2 hx => ?_
   have fin : ∀ j : Option Exit, (step a v).1 = j → (∃ M, Inv (step a v).2 M ∧ Heap G w2 ((l, .loop { rc with state := .busy }) :: (b, shutO) :: M)) → ∃ v' w', (Instr.endRound l (j.map abY)).run P w2 = .ok v' w' ∧ jU G (fun u M' => u = .bool (step a v).1.isNone ∧ ∃ M2, (∃ M1, Inv (step a v).2 M1 ∧ M2 = (b, shutO) :: M1) ∧ M' = (l, .loop (kN rc (step a v).1)) :: M2) (.returned v') w' := fun j hj ⟨M3, h5, h6⟩ => by
    refine ⟨_, _, Zk hrc (h6.get _ (List.mem_cons_self ..)), _, _, rfl, ⟨by rw [hj], _, ⟨M3, h5, rfl⟩, by rw [hj]⟩, Heap.put h6⟩
   cases x with
   | normal => exact fin none hx.1 hx.2
   | ret => exact fin (some .ret) hx.1 hx.2
   | exit id => exact fin (some (.exit id)) hx.1 hx.2
   | _ => exact hx.elim
 | _ => exact hx.elim
def acp : Option Exit → Exit
 | none => .normal
 | some x => x
theorem KO {α : Type} {step : α → Value → Option Exit × α} {Inv : α → jc → Prop} {Nx : α → Value → Prop} {vs : List Value} {f : FuncId} {Cap : Array Value} {K M0 : jc} {g : Operand} {p : Tmp} {assign body : Code} {a0 : α}
 (hp : p < n) (hg : ev ρ g = some (.func (.func f) #[] Cap)) (hbody : ke P f = true) (hit : Z7 P f Cap vs K) (hK : ∀ a N, Inv a N → ∀ q ∈ K, q ∈ N) (h0 : Inv a0 M0) (hch : yU step Nx a0 vs)
 (hround : ∀ (l b : Nat) (rc : Loop) (a : α) (v : Value) (M : jc), Nx a v → Inv a M → TI (Fence.wide.inRound l) 0 P G n ((p, v) :: ρ) ((l, .loop rc) :: (b, shutO) :: M) assign (yV P G n l b rc body (BodyPost G l b rc (step a v).1 (Inv (step a v).2))))
 (hx : ∀ x, (qi step a0 vs).1 = some x → x = .ret ∨ ∃ id, x = .exit id)
 (hQ : ∀ (b : Nat) (M : jc), Inv (qi step a0 vs).2 M → TBQ G n ρ b ((b, shutO) :: M) (acp (qi step a0 vs).1) Q) :
 T P G n ρ M0 (.rangeFunc g #[p] assign body) Q := by
 refine ⟨fun a w he hw => ?_⟩
 have hev : a.eval g = .func (.func f) #[] Cap := he.reads _ _ hg
 refine wpIn_wide.1 (wpIn_rangeFunc (n := 0) fun fn _ => ?_)
 let rc : Loop := { state := .ready, pending := none, fn, tmps := a.tmps, params := #[p], assign, body, defers := w.heap.size }
 have hw2 : Heap G ((w.alloc shutO).alloc (.loop rc)) ((w.heap.size + 1, .loop rc) :: (w.heap.size, shutO) :: M0) := by
  have := (hw.alloc shutO).alloc (.loop rc)
  rw [World.size_alloc] at this
  exact this
 have hrd := adF (P := P) (G := G) (step := step) (Inv := Inv) (Nx := Nx) (l := w.heap.size + 1) (b := w.heap.size) (p := p) (rc := rc) (assign := assign) (body := body) he hp rfl rfl rfl rfl rfl (fun a v M hv hI => hround _ _ rc a v M hv hI)
 have hsp := hit (G := G) (a := a0) (M := (w.heap.size, shutO) :: M0) rfl hrd hch (fun b N hN q hq => by
  obtain ⟨M1, h1, rfl⟩ := hN
  exact List.mem_cons_of_mem _ (hK b M1 h1 q hq)) ⟨M0, h0, rfl⟩
 have hres : (resolve a.eval (rangeCall g (w.heap.size + 1)) 0).run P ((w.alloc shutO).alloc (.loop rc)) = .ok ⟨.fn (.func f) Cap, #[.func (.yield (w.heap.size + 1)) #[] #[]]⟩ ((w.alloc shutO).alloc (.loop rc)) := by
  have hc : ∀ v, a.eval (.const v) = v := fun _ => rfl
  simp [resolve, hev, hc, Deferred.ofValue]
 have hinv : (invoke (.fn (.func f) Cap) #[.func (.yield (w.heap.size + 1)) #[] #[]]).run P ((w.alloc shutO).alloc (.loop rc)) = .ok (.enter f (#[.func (.yield (w.heap.size + 1)) #[] #[]] ++ Cap)) ((w.alloc shutO).alloc (.loop rc)) := by
  rw [show invoke (.fn (.func f) Cap) #[.func (.yield (w.heap.size + 1)) #[] #[]] = callFunc f (#[.func (.yield (w.heap.size + 1)) #[] #[]] ++ Cap) from by simp [invoke]]
  exact qm hbody ..
 refine ⟨w.heap.size + 1, [uz w.heap.size], _, _, _, f, _, _, run_enterLoop_outer fn a.tmps #[p] assign body, hres, fun _ _ => trivial, hinv, (fun h => by cases h), ?_⟩
 refine callsIn_wide.2 (Calls.mono (hsp.out _ hw2) fun e' w' hh => ?_)
 obtain ⟨u, M, rfl, ⟨M2, ⟨M1, hI, rfl⟩, rfl⟩, k3⟩ := hh
 have hnb : (kN rc (qi step a0 vs).1).state ≠ .busy := by
  cases (qi step a0 vs).1 <;> simp [kN, rc]
 refine ⟨_, _, run_endLoop (k3.get _ (List.mem_cons_self ..)) hnb, ?_⟩
 have hfin : ∀ x, acp (qi step a0 vs).1 = x → Q x { a with defers := [uz w.heap.size] ++ a.defers } (w'.putObj (w.heap.size + 1) (.loop { kN rc (qi step a0 vs).1 with state := .exhausted })) := fun x hxx => by
  subst hxx
  have := (hQ w.heap.size M1 hI).out a _ he (Heap.put (O' := .loop { kN rc (qi step a0 vs).1 with state := .exhausted }) k3).tail
  unfold Z8 qN at this
  rw [he.defers] at this ⊢
  exact this
 cases hr : (qi step a0 vs).1 with
 | none => rw [hr] at hfin; exact hfin .normal rfl
 | some x =>
   rw [hr] at hfin
   rcases hx x hr with rfl | ⟨id, rfl⟩
   · exact wpIn_ret (hfin .ret rfl)
   · exact wpIn_exit (hfin (.exit id) rfl)
theorem KP {f : FuncId} {fn : Func} {c : Code} {args : Array Value} {Φ : Value → jc → Prop} (hf : P.funcs[f]? = some fn) (hb : fn.body = some c) (hn : fn.ntmps = n) (hs : Nat.ble args.size n = true)
 (h : T P G n (qC 0 args.toList) L c (bodyPostM Fence.wide 0 P fn (jU G Φ))) : Spec P G f args L Φ := by
 refine ⟨fun w hw => (callsIn_wide (n := 0)).1 (callsIn_of_wp_marks hf hb trivial (wpIn_wide.2 (h.out _ _ ⟨?_, rfl, fun t v hv => ?_⟩ hw)))⟩
 · have : args.size ≤ n := by simpa using hs
   simp [hn]
   omega
 · obtain ⟨_, h2⟩ := q9 args.toList 0 t v hv
   have h3 : args[t]? = some v := by simpa using h2
   have h4 := (Array.getElem?_eq_some_iff.1 h3).1
   show (args ++ _)[t]? = some v
   rw [Array.getElem?_append_left h4]
   exact h3
theorem Yq {fn : Func} {Φ : Value → jc → Prop} (h : TQ G n ρ L .ret (bodyPost P fn (jU G Φ))) : TQ G n ρ L .ret (bodyPostM Fence.wide 0 P fn (jU G Φ)) :=
 ⟨fun a w he hw => by
   obtain ⟨h1, v, h2, h3⟩ := h.out a w he hw
   show LeavesInM Fence.wide 0 P fn a.tmps _ a.defers .returning w
   rw [h1]
   exact ⟨v, h2, h3⟩⟩
theorem yo {fn : Func} {Φ : Value → jc → Prop} (h : TQ G n ρ M .ret (bodyPost P fn (jU G Φ))) : TBQ G n ρ b ((b, shutO) :: M) .ret (bodyPostM Fence.wide 0 P fn (jU G Φ)) :=
 ⟨fun a w he hw => by
   show LeavesInM Fence.wide 0 P fn a.tmps _ (a.defers ++ [uz b]) .returning w
   rw [he.defers]
   refine ⟨by simp, Or.inl ⟨b, _, rfl, run_takeDeferred (hw.get _ (List.mem_cons_self ..)), ?_⟩⟩
   obtain ⟨h1, v, h2, h3⟩ := h.out a _ he (Heap.put (O' := .deferred none) hw).tail
   exact ⟨v, h2, h3⟩⟩
theorem TBQ_heap {L' : jc} {x : Exit} (hh : ∀ w, Heap G w L → Heap G w L') (h : TBQ G n ρ b L' x Q) : TBQ G n ρ b L x Q := ⟨fun a w he hw => h.out a w he (hh w hw)⟩
end
end Go.Proofs.YtkpblofmoalnoaaGreatDoor.Ev
namespace Go.Proofs.YtkpblofmoalnoaaGreatDoor.Ev
open Go
section
variable {P : Program} {G : World} {n : Nat} {ρ : jn} {L M : jc} {ops : Array Oper} {Q : Exit → Act → World → Prop} {R : Fence} {k : Nat}
theorem then_lo {Q : Exit → Act → World → Prop} {K : Act → World → Prop} (h : ¬ LetsOut Q) : ¬ LetsOut (Exit.then K Q) := fun h' => h h'
theorem inBlock_lo {Q : Exit → Act → World → Prop} {id : Nat} (h : ¬ LetsOut Q) : ¬ LetsOut (Exit.inBlock id Q) := fun h' => h h'
theorem Yr (hR : Wide R) (hlo : ¬ LetsOut Q) {id : Nat} (hm : P.follows .mixedOrders = true) (hp : allB qz ops.toList = true) (K : jc) (W : List Nat) (h : TA P G ops n K W Q ops.size (Array.replicate ops.size false) ρ L) : TI R k P G n ρ L (.region id ops true) Q :=
 ⟨fun a w he hw => wpIn_region_any hm (hR.any hlo (fun i o ho => kK hp o (by rw [Array.mem_toList_iff]; exact Array.mem_of_getElem? ho)) _ (h.sound _ _ _ _ a _ he (hw.same ⟨rfl, rfl, rfl, Nat.le_refl _⟩ rfl)))⟩
theorem TB_draw {b : Nat} {id : Nat} (hm : P.follows .mixedOrders = true) (K : jc) (W : List Nat) (h : TA P G ops n K W (fun e a w => Q e (Z8 b a) w) ops.size (Array.replicate ops.size false) ρ L) : TB P G n ρ b L (.region id ops true) Q :=
 ⟨fun a w he hw => wp_region_any hm (yb (D := [uz b]) (fun e a w h => h) _ (h.sound _ _ _ _ a _ he (hw.same ⟨rfl, rfl, rfl, Nat.le_refl _⟩ rfl)))⟩
theorem regI {l : Nat} {id : Nat} {os : List Oper} (h : TL P G os.toArray n ρ L os Q) (hlo : ¬ LetsOut Q := by repeat (first | with_reducible exact Go.Proofs.YtkpblofmoalnoaaGreatDoor.Ev.bodyPost_lo | with_reducible exact Go.Proofs.YtkpblofmoalnoaaGreatDoor.Ev.assignPost_lo | with_reducible apply Go.Proofs.YtkpblofmoalnoaaGreatDoor.Ev.then_lo | with_reducible apply Go.Proofs.YtkpblofmoalnoaaGreatDoor.Ev.inBlock_lo)) (hp : allB qz os = true := by exact rfl) : TI (Fence.wide.inRound l) k P G n ρ L (.region id os.toArray false) Q := abq (yN l) hlo hp h
theorem drawI {l : Nat} {id : Nat} (K : jc) (W : List Nat) (hm : P.follows .mixedOrders = true) (h : TA P G ops n K W Q ops.size (Array.replicate ops.size false) ρ L) (hlo : ¬ LetsOut Q := by repeat (first | with_reducible exact Go.Proofs.YtkpblofmoalnoaaGreatDoor.Ev.bodyPost_lo | with_reducible exact Go.Proofs.YtkpblofmoalnoaaGreatDoor.Ev.assignPost_lo | with_reducible apply Go.Proofs.YtkpblofmoalnoaaGreatDoor.Ev.then_lo | with_reducible apply Go.Proofs.YtkpblofmoalnoaaGreatDoor.Ev.inBlock_lo)) (hp : allB qz ops.toList = true := by exact rfl) : TI (Fence.wide.inRound l) k P G n ρ L (.region id ops true) Q := Yr (yN l) hlo hm hp K W h
theorem TI_heap {c : Code} {L' : jc} (hh : ∀ w, Heap G w L → Heap G w L') (h : TI R k P G n ρ L' c Q) : TI R k P G n ρ L c Q := ⟨fun a w he hw => h.out a w he (hh w hw)⟩
end
end Go.Proofs.YtkpblofmoalnoaaGreatDoor.Ev
namespace Go.Proofs.YtkpblofmoalnoaaGreatDoor
open Go.RowKit
section
variable {G : World} {P : Program} {n : Nat} {ρ : jn} {L : jc}
theorem Ue {a b : Nat} {t : TypeId} {C : Array Value} {te : TypeId} {fr : Nat × Nat} {v : Value} {ac : Act} {w : World} (he : Env n ρ ac) (hv : ρ.lookup a = some (.pointer (some ⟨b, 0, none⟩))) (ht : qT P t = true) (hg : w.heap[b]? = some (.cells C te fr)) (hk : C[0]? = some v) :
 ac.tmps.getD a undef = .pointer (some ⟨b, 0, none⟩) ∧ (loadVar t ⟨b, 0, none⟩).run P w = .ok v w := by
 have h1 : ac.tmps.getD a undef = .pointer (some ⟨b, 0, none⟩) := he.reads (.tmp a) _ hv
 refine ⟨h1, ?_⟩
 unfold qT at ht
 cases hu : P.underlying t with
 | none => simp [hu] at ht
 | some d =>
   simp only [hu] at ht
   have hc : w.cell? ⟨b, 0, none⟩ = some v := by
    unfold World.cell?
    rw [hg]
    simpa using hk
   have ha : (isAgg t).run P w = .ok false w := by
    unfold isAgg
    cases d <;> simp_all [run_underlying hu, KV]
   simp [loadVar, ha, load, Sem.run, hc]
theorem ahG {fn : Func} {Φ : Value → jc → Prop} (a t c u : Nat) {b d : Nat} {C D : Array Value} {te ue : TypeId} {fr gr : Nat × Nat} {x y : Value} {M : jc} (hr : fn.results = #[.cell a t, .cell c u]) (hv : ρ.lookup a = some (.pointer (some ⟨b, 0, none⟩))) (hx : ρ.lookup c = some (.pointer (some ⟨d, 0, none⟩)))
 (ht : qT P t = true) (hu : qT P u = true) (hm : (b, Obj.cells C te fr) ∈ L) (hn : (d, Obj.cells D ue gr) ∈ L) (hC : C[0]? = some x) (hD : D[0]? = some y) (h : Φ (.tuple #[x, y]) M) (hf : ∀ p, cnt p M ≤ cnt p L) : TQ G n ρ L .ret (bodyPost P fn (jU G Φ)) :=
 ⟨fun ac w he hw => ⟨he.defers, .tuple #[x, y], by
   obtain ⟨h1, h0⟩ := Ue he hv ht (hw.get _ hm) hC
   obtain ⟨h2, h3⟩ := Ue he hx hu (hw.get _ hn) hD
   rw [Array.getD_eq_getD_getElem?] at h1 h2
   simp only [results, hr]
   simp
   simp [h1, asAddr, h0, h2, h3], _, M, rfl, h, hw.cnt hf⟩⟩
theorem U9 {fn : Func} {Φ : Value → jc → Prop} (a t c u e s : Nat) {b d f k : Nat} {C D F : Array Value} {te ue se : TypeId} {fr gr sr : Nat × Nat} {y z : Value} {M : jc} (hr : fn.results = #[.cell a t, .cell c u, .cell e s]) (hv : ρ.lookup a = some (.pointer (some ⟨b, 0, none⟩))) (hx : ρ.lookup c = some (.pointer (some ⟨d, 0, none⟩))) (hz : ρ.lookup e = some (.pointer (some ⟨f, 0, none⟩)))
 (ht : j8 P t k = true) (hu : qT P u = true) (hs : qT P s = true) (hm : (b, Obj.cells C te fr) ∈ L) (hn : (d, Obj.cells D ue gr) ∈ L) (ho : (f, Obj.cells F se sr) ∈ L) (hC : C.size = k) (hD : D[0]? = some y) (hF : F[0]? = some z) (h : Φ (.tuple #[.agg C, y, z]) M) (hf : ∀ p, cnt p M ≤ cnt p L) : TQ G n ρ L .ret (bodyPost P fn (jU G Φ)) :=
 ⟨fun ac w he hw => ⟨he.defers, .tuple #[.agg C, y, z], by
   obtain ⟨h1, h0⟩ := Un he hv ht (hw.get _ hm) hC
   obtain ⟨h2, h3⟩ := Ue he hx hu (hw.get _ hn) hD
   obtain ⟨h4, h5⟩ := Ue he hz hs (hw.get _ ho) hF
   rw [Array.getD_eq_getD_getElem?] at h1 h2 h4
   simp only [results, hr]
   simp
   simp [h1, asAddr, h0, h2, h3, h4, h5], _, M, rfl, h, hw.cnt hf⟩⟩
end
end Go.Proofs.YtkpblofmoalnoaaGreatDoor
namespace Go.Proofs.YtkpblofmoalnoaaGreatDoor
open Go.RowKit
open Cn (Zo Cf)
open Ev (Z7 RoundS yU qi TLI K6 WY yA K7 kN)
variable {G : World} {L : jc}
def zW (at_ : Nat) (p : Nm.Bytes × Bool) : Value := .agg #[.int .i64 (at_ : Nat), .string (bs p.1), .bool p.2]
def uf : Nat → Cn.Rows → List Value
 | _, [] => []
 | at_, p :: rs => zW at_ p :: uf (at_ + (p.1.length + 1)) rs
theorem row_built (x : Int) (s : ByteArray) (b : Bool) : Built Tryz.prog 69 [(0, .int .i64 x), (1, .string s), (2, .bool b)] (.agg #[.int .i64 x, .string s, .bool b]) := ⟨fun w => by kernel_rfl⟩
theorem Va (t : Nm.Bytes) : t = [] ∨ ((10 : UInt8) ∉ t ∧ t ≠ [] ∧ Lib.cut t [10] = (t, [], false) ∧ Cn.rowsP t = [(t, false)]) ∨
 ∃ l r, t = l ++ 10 :: r ∧ (10 : UInt8) ∉ l ∧ Lib.cut t [10] = (l, r, true) ∧ Cn.rowsP t = (l, true) :: Cn.rowsP r := by
 rcases abb 10 t with h | ⟨l, r, rfl, h⟩
 · by_cases h0 : t = []
   · exact Or.inl h0
   · exact Or.inr (Or.inl ⟨h, h0, ae9 h, Cn.rowsP_end t h h0⟩)
 · exact Or.inr (Or.inr ⟨l, r, rfl, h, acd h, Cn.rowsP_line l r h⟩)
theorem afE (t : Nm.Bytes) (h : t ≠ []) : ∃ a b e, Lib.cut t [10] = (a, b, e) ∧ Cn.rowsP t = (a, e) :: Cn.rowsP (t.drop (a.length + 1)) ∧ a.length ≤ t.length := by
 rcases Va t with h0 | ⟨h10, hne, hct, hrw⟩ | ⟨l, r, rfl, h10, hct, hrw⟩
 · exact absurd h0 h
 · refine ⟨_, _, _, hct, ?_, Nat.le_refl _⟩
   rw [hrw, List.drop_eq_nil_iff.2 (by omega), Cn.rowsP_nil]
 · refine ⟨_, _, _, hct, ?_, by simp⟩
   rw [hrw, show (l ++ 10 :: r).drop (l.length + 1) = r by rw [List.drop_append, List.drop_eq_nil_iff.2 (by omega)]; simp]
structure LInv {α : Type} (step : α → Value → Option Exit × α) (Inv : α → jc → Prop) (Nx : α → Value → Prop) (vs : List Value) (s : Nm.Bytes) (a0 : α) (x : Nat × α × jc) : Prop where
 inv : Inv x.2.1 x.2.2
 run : qi step a0 vs = qi step x.2.1 (uf x.1 (Cn.rowsP (s.drop x.1)))
 ch : yU step Nx x.2.1 (uf x.1 (Cn.rowsP (s.drop x.1)))
 le : x.1 ≤ s.length + 1
theorem Z9 (s : Nm.Bytes) : Spec Tryz.prog G 19 #[.string (bs s)] L fun u M => ∃ b, u = .func (.func 46) #[] #[.pointer (some ⟨b, 0, none⟩)] ∧ M = (b, Obj.cells #[.string (bs s)] 9 (0, 0)) :: L := by
 refine ju (n := 4) Tryz.func19 rfl rfl rfl ?_
 repeat (first | refine goU ?_ | (refine kh ?_; intro bBox))
 refine jl (aik (vs := [.pointer (some ⟨bBox, 0, none⟩)]) rfl) rfl ?_
 refine goU ?_
 exact kv 2 rfl rfl ⟨bBox, rfl, rfl⟩ kP
theorem acq (s : Nm.Bytes) (hs : s.length ≤ 1000000) (b : Nat) (K : jc) {tS : TypeId} {frS : Nat × Nat} (hK : (b, Obj.cells #[.string (bs s)] tS frS) ∈ K) (hg : Glob K) : Z7 Tryz.prog 46 #[.pointer (some ⟨b, 0, none⟩)] (uf 0 (Cn.rowsP s)) K := by
 intro α G l rc step Inv Nx a M hps hrd hch hKI hI
 show Spec Tryz.prog G 46 #[.func (.yield l) #[] #[], .pointer (some ⟨b, 0, none⟩)] ((l, .loop rc) :: M) _
 refine ju (n := 31) Tryz.func46 rfl rfl rfl ?_
 refine goU ?_
 refine jK (σ := Nat × α × jc) (LInv step Inv Nx (uf 0 (Cn.rowsP s)) s a) (fun x => [(0, .func (.yield l) #[] #[]), (1, .pointer (some ⟨b, 0, none⟩)), (3, .int .i64 (x.1 : Nat))]) (fun x => (l, .loop rc) :: x.2.2) (fun x => s.length + 1 - x.1) (0, a, M) ⟨hI, rfl, hch, by dsimp only; omega⟩ ?_ (fun w h => h) ?_
 · exact jL
 rintro ⟨k, a', M'⟩ ⟨hI', hrun, hch', hk⟩
 dsimp only at hI' hrun hch' hk ⊢
 have hKM : ∀ p ∈ K, p ∈ M' := hKI _ _ hI'
 have hcell := hKM _ hK
 have hlen : (s.drop k).length = s.length - k := List.length_drop ..
 have fin : ∀ j M2, Inv (qi step a (uf 0 (Cn.rowsP s))).2 M2 → (qi step a (uf 0 (Cn.rowsP s))).1 = j → ∃ M2', Inv (qi step a (uf 0 (Cn.rowsP s))).2 M2' ∧ (l, Obj.loop (kN rc j)) :: M2 = (l, Obj.loop (kN rc (qi step a (uf 0 (Cn.rowsP s))).1)) :: M2' := fun j M2 h1 h2 => ⟨M2, h1, by rw [h2]⟩
 by_cases h0 : s.drop k = []
 · rw [h0] at hrun hlen
   have hk2 : ¬ (k : Int) < s.length := by simp at hlen; omega
   refine goU ?_
   refine ahD rfl ?_ (M := (l, .loop rc) :: M') kP
   exact fin none M' (by rw [hrun]; exact hI') (by rw [hrun]; rfl)
 have hk2 : (k : Int) < s.length := by have := List.length_pos_iff.2 h0; omega
 obtain ⟨t, b1, e, hct, hrw, htl⟩ := afE _ h0
 rw [hrw, List.drop_drop] at hrun hch'
 obtain ⟨hv, hch2⟩ := hch'
 refine jT (jT ?_)
 refine goW ?_
 refine jT ?_
 refine goW ?_
 refine uE (acb (s.drop k) (by omega) (hg.mono fun p hp => List.mem_cons_of_mem _ (hKM p hp))) ?_
 rw [hct]
 dsimp only
 refine goW ?_
 refine jT (jT ?_)
 refine K6 ?_
 refine yA (qk (v := .func (.yield l) #[] #[]) rfl) (by simp) rfl ?_
 refine yA (qk (v := .int .i64 (k : Nat)) rfl) (by simp) rfl ?_
 refine yA (qk (v := .string (bs t)) rfl) (by simp) rfl ?_
 refine yA (qk (v := .bool e) rfl) (by simp) rfl ?_
 refine yA (ja rfl (row_built _ _ _)) (by simp) rfl ?_
 refine K7 (V := zW k (t, e)) (l := l) (rc := rc) rfl rfl (List.mem_cons_self ..) hps rfl (hrd.out hv hI') ?_
 rintro u M2 ⟨rfl, M3, hI3, rfl⟩
 refine yA (Ws rfl) (by simp) rfl (WY (qd ?_))
 rw [uf, qi] at hrun
 cases hst : (step a' (zW k (t, e))).1 with
 | some x =>
   have hst2 : step a' (zW k (t, e)) = (some x, (step a' (zW k (t, e))).2) := by rw [← hst]
   rw [hst2] at hrun
   refine goU ?_
   refine ahD rfl ?_ (M := (l, .loop (kN rc (some x))) :: M3) kP
   exact fin (some x) M3 (by rw [hrun]; exact hI3) (by rw [hrun])
 | none =>
   have hst2 : step a' (zW k (t, e)) = (none, (step a' (zW k (t, e))).2) := by rw [← hst]
   rw [hst2] at hrun
   refine goU ?_
   refine jz (k + (t.length + 1), (step a' (zW k (t, e))).2, M3) ⟨hI3, hrun, hch2 _ hst2, by dsimp only; omega⟩ ?_ (fun w h => h) (by dsimp only; omega)
   dsimp only
   rw [show ((k + (t.length + 1) : Nat) : Int) = (k : Int) + ((t.length : Int) + 1) by omega]
   exact jL
end Go.Proofs.YtkpblofmoalnoaaGreatDoor
namespace Go.Proofs.YtkpblofmoalnoaaGreatDoor
open Go.RowKit
open Cn (Zo Cf)
open Ev (Z7 RoundS yU qi abq yv KM Ud Qo zR KN qB Yr zS yW KO KP Yq yo acp)
variable {G : World} {L : jc}
def abr : Cn.Rows → Nat → Nat
 | _, 0 => 0
 | [], _ + 1 => 0
 | p :: rs, k + 1 => p.1.length + 1 + abr rs k
theorem Wi (rs : Cn.Rows) : abr rs 0 = 0 := by cases rs <;> rfl
theorem abs (ls : List Nm.Bytes) (rest : Cn.Rows) : ∀ k, k ≤ ls.length → abr (ls.map (fun l => (l, true)) ++ rest) k = (Cn.unlines (ls.take k) []).length := by
 induction ls with
 | nil => intro k hk; simp at hk; subst hk; rw [Wi]; rfl
 | cons l ls ih =>
   intro k hk
   cases k with
   | zero => rw [Wi]; rfl
   | succ k =>
     rw [List.take_succ_cons, Cn.unlines_cons, List.map_cons, List.cons_append, abr, ih k (by simpa using hk)]
     simp
     omega
theorem adG (s : Nm.Bytes) (k : Nat) (hk : k < (Cn.rowsP s).length) : abr (Cn.rowsP s) k = (Cn.unR ((Cn.rowsP s).take k)).length := by
 unfold Cn.rowsP Cn.rowsOf at *
 generalize (Cn.linesP s).1 = ls at *
 generalize (Cn.linesP s).2 = r at *
 have h1 : k ≤ ls.length := by
  unfold Cn.tailR at hk
  split at hk
  · simp at hk; omega
  · simp at hk; omega
 rw [abs _ _ _ h1, List.take_append_of_le_length (by simpa using h1), ← List.map_take, Cn.unR_lines]
theorem J6 (s : Nm.Bytes) : (Cn.rowsP s).length ≤ s.length := by
 have h : ∀ (n : Nat) (s : Nm.Bytes), s.length = n → (Cn.rowsP s).length ≤ s.length := by
  intro n
  induction n using Nat.strongRecOn with
  | _ n ih =>
    intro s hn
    rcases Va s with rfl | ⟨_, hne, _, hr⟩ | ⟨l, r, rfl, _, _, hr⟩
    · exact Nat.le_refl _
    · rw [hr]
      exact List.length_pos_iff.2 hne
    · rw [hr]
      have := ih r.length (by subst hn; simp; omega) r rfl
      simp
      omega
 exact h _ s rfl
theorem Wj {s : Nm.Bytes} {p : Nm.Bytes × Bool} (h : p ∈ Cn.rowsP s) : p.1.length ≤ s.length := by
 have h2 : ∀ rs : Cn.Rows, p ∈ rs → p.1.length ≤ (Cn.unR rs).length := fun rs => by
  induction rs with
  | nil => intro h; cases h
  | cons q rs ih =>
    intro h
    have e : Cn.unR (q :: rs) = (if q.2 then q.1 ++ [10] else q.1) ++ Cn.unR rs := by simp [Cn.unR]
    rw [e, List.length_append]
    rcases List.mem_cons.1 h with rfl | h
    · split <;> simp <;> omega
    · have := ih h; omega
 have := h2 _ h
 rwa [Cn.unR_P] at this
def aaa : Value → Nm.Bytes
 | .agg a => match a[1]? with
   | some (Value.string t) => t.data.toList
   | _ => []
 | _ => []
def atV : Value → Value
 | .agg a => a[0]?.getD .nilFunc
 | _ => .nilFunc
theorem zT (at_ : Nat) (p : Nm.Bytes × Bool) : aaa (zW at_ p) = p.1 := by simp [aaa, zW, bs]
def Ve (x : Nat × Value) (v : Value) : Option Exit × (Nat × Value) := if Cn.isSeed (aaa v) then (some .ret, (x.1, atV v)) else (none, (x.1 + 1, x.2))
def NxH (x : Nat × Value) (v : Value) : Prop := x.1 ≤ 1000000 ∧ ∃ at_ p, v = zW at_ p ∧ p.1.length ≤ 1000000
theorem Qp : ∀ (rs : Cn.Rows) (at_ c : Nat) (r : Value), qi Ve (c, r) (uf at_ rs) = if Cn.kS rs < rs.length then (some .ret, (c + Cn.kS rs, .int .i64 ((at_ + abr rs (Cn.kS rs) : Nat) : Int))) else (none, (c + rs.length, r))
 | [], at_, c, r => rfl
 | p :: rs, at_, c, r => by
   rw [uf, qi, Cn.kS, Ve, zT]
   by_cases h : Cn.isSeed p.1 = true
   · rw [if_pos h, if_pos h, if_pos (by simp)]
     rfl
   · rw [if_neg h, if_neg h]
     dsimp only
     rw [Qp rs]
     by_cases h2 : Cn.kS rs < rs.length
     · rw [if_pos h2, if_pos (by simpa using h2), abr]
       congr 2
       · omega
       · congr 2; omega
     · rw [if_neg h2, if_neg (by simpa using h2), List.length_cons]
       congr 2
       omega
theorem Vf : ∀ (rs : Cn.Rows) (at_ c : Nat) (r : Value), c + rs.length ≤ 1000000 → (∀ p ∈ rs, p.1.length ≤ 1000000) → yU Ve NxH (c, r) (uf at_ rs)
 | [], at_, c, r, _, _ => trivial
 | p :: rs, at_, c, r, h, hp => by
   refine ⟨⟨by rw [List.length_cons] at h; dsimp only; omega, at_, p, rfl, hp p (List.mem_cons_self ..)⟩, fun b hb => ?_⟩
   rw [Ve] at hb
   split at hb
   · cases hb
   · cases hb
     exact Vf rs _ _ _ (by rw [List.length_cons] at h; omega) fun q hq => hp q (List.mem_cons_of_mem _ hq)
def ajX (b2 b3 : Nat) (K : jc) (x : Nat × Value) (M : jc) : Prop := x.2.oneCell' = true ∧ M = (b2, Obj.cells #[x.2] 3 (0, 0)) :: (b3, Obj.cells #[.int .i64 (x.1 : Nat)] 3 (0, 0)) :: K
theorem acr {t : Nm.Bytes} : Cn.isSeed t = (t == Cn.seedW || (Cn.seedW ++ [32]).isPrefixOf t) := rfl
theorem QK (s p : Nm.Bytes) (hs : s.length ≤ 1000000) (hp : p.length ≤ 1000000) : Spec Tryz.prog G 41 #[.string (bs s), .string (bs p)] L fun u M => u = .bool (p.isPrefixOf s) ∧ M = L := by
 refine Spec.ofSame fun w => (Tryz.strings_HasPrefix (bs s) (bs p) w).mono fun e w' ⟨he, hw'⟩ => ⟨?_, hw'.symm⟩
 rw [he]
 rfl
theorem ait (s : Nm.Bytes) (hs : s.length ≤ 1000000) (hg : Glob L) : Spec Tryz.prog G 17 #[.string (bs s)] L fun u M => u = .tuple #[.int .i64 ((Cn.unR ((Cn.rowsP s).take (Cn.kS (Cn.rowsP s)))).length : Nat), .int .i64 (Cn.kS (Cn.rowsP s) : Nat)] ∧ M = L := by
 have hrl := J6 s
 have htx : ∀ p ∈ Cn.rowsP s, p.1.length ≤ 1000000 := fun p hp => by have := Wj hp; omega
 refine KP (n := 24) Tryz.func17 rfl rfl rfl ?_
 refine jT (jY ?_)
 refine jx ?_; intro b2
 refine jx ?_; intro b3
 refine goW ?_
 refine jT (jT (jY ?_))
 refine goW ?_
 refine uA (Z9 s) ?_
 rintro _ _ ⟨b6, rfl, rfl⟩
 refine goW ?_
 refine Wq (L' := (b2, Obj.cells #[.int .i64 0] 3 (0, 0)) :: (b3, Obj.cells #[.int .i64 0] 3 (0, 0)) :: (b6, Obj.cells #[.string (bs s)] 9 (0, 0)) :: L) (fun w h => by
  have h' : Heap G w ((b6, Obj.cells #[.string (bs s)] 9 (0, 0)) :: (b3, Obj.cells #[.int .i64 0] 3 (0, 0)) :: (b2, Obj.cells #[.int .i64 0] 3 (0, 0)) :: L) := h
  exact Heap.cnt h' (by intro p; (try simp only [jw, jC, jI]) <;> omega)) ?_
 refine KO (α := Nat × Value) (step := Ve) (Inv := ajX b2 b3 ((b6, Obj.cells #[.string (bs s)] 9 (0, 0)) :: L)) (Nx := NxH) (vs := uf 0 (Cn.rowsP s)) (K := (b6, Obj.cells #[.string (bs s)] 9 (0, 0)) :: L) (a0 := (0, .int .i64 0)) (by decide) rfl (by kernel_rfl) (acq s hs b6 _ (List.mem_cons_self ..) (hg.mono fun p hp => List.mem_cons_of_mem _ hp)) ?_ ⟨rfl, rfl⟩ (Vf _ _ _ _ (by omega) htx) ?_ ?_ ?_
 · intro a N hN q hq
   obtain ⟨_, rfl⟩ := hN
   exact List.mem_cons_of_mem _ (List.mem_cons_of_mem _ hq)
 · rintro l b rc ⟨c, r⟩ v M ⟨hc, at_, p, rfl, hp⟩ ⟨ho, rfl⟩
   dsimp only at hc ho ⊢
   unfold zW
   refine Ev.regI ?_
   refine jx ?_; intro b4
   refine goU ?_
   refine ahR (L' := (l, .loop rc) :: (b, Ev.shutO) :: ((b4, Obj.cells #[.int .i64 (at_ : Nat), .string (bs p.1), .bool p.2] 69 (0, 0)) :: (b2, Obj.cells #[r] 3 (0, 0)) :: (b3, Obj.cells #[.int .i64 (c : Nat)] 3 (0, 0)) :: (b6, Obj.cells #[.string (bs s)] 9 (0, 0)) :: L)) ?_ (by intro p; (try simp only [jw, jC, jI]) <;> omega)
   refine zS ?_
   refine KM (yv (yv ?_))
   refine Ev.regI ?_
   have hKK : ∀ q ∈ (b6, Obj.cells #[.string (bs s)] 9 (0, 0)) :: L, q ∈ (b6, Obj.cells #[.string (bs s)] 9 (0, 0)) :: L := fun q hq => hq
   by_cases hse : Cn.isSeed p.1 = true
   · have hst : Ve (c, r) (.agg #[.int .i64 (at_ : Nat), .string (bs p.1), .bool p.2]) = (some .ret, (c, .int .i64 (at_ : Nat))) := if_pos hse
     rw [hst]
     have hcs : p.1 = Cn.seedW ∨ (¬ p.1 = Cn.seedW ∧ (Cn.seedW ++ [32]).isPrefixOf p.1 = true) := by
      rw [acr, Bool.or_eq_true] at hse
      by_cases hq : p.1 = Cn.seedW
      · exact Or.inl hq
      · refine Or.inr ⟨hq, hse.resolve_left fun k => hq (by simpa using k)⟩
     unfold Cn.seedW at hcs
     have fin : ∀ (K : Act → World → Prop) (ρ : jn) (M : jc), (∀ p', cnt p' ((l, Obj.loop { rc with state := .busy }) :: (b, Ev.shutO) :: (b2, Obj.cells #[.int .i64 (at_ : Nat)] 3 (0, 0)) :: (b3, Obj.cells #[.int .i64 (c : Nat)] 3 (0, 0)) :: (b6, Obj.cells #[.string (bs s)] 9 (0, 0)) :: L) ≤ cnt p' M) →
      TQ G 24 ρ M .ret (Ev.BodyPost G l b rc (some .ret) (ajX b2 b3 ((b6, Obj.cells #[.string (bs s)] 9 (0, 0)) :: L) (c, .int .i64 (at_ : Nat)))) := fun K ρ M h => jr (fun w hw => hw.cnt h) (yW (Or.inr (Or.inl ⟨rfl, rfl⟩)) ⟨rfl, rfl⟩)
     rcases hcs with hq | ⟨hq, hpre⟩
     · refine goU ?_
       refine qB (zR rfl (yv ?_))
       refine Ev.drawI [(b4, Obj.cells #[.int .i64 (at_ : Nat), .string (bs p.1), .bool p.2] 69 (0, 0)), (b3, Obj.cells #[.int .i64 (c : Nat)] 3 (0, 0))] [4] jo ?_
       refine tkQ 0 (hK := j4) ?_
       refine tkQ 1 (hK := j4) ?_
       refine tkQ 2 (hK := j4) ?_
       refine Yl 3 ?_
       refine adw 4 ?_
       refine tdQ ?_
       refine qB (Qo (kC (kb ?_)))
       exact fin (fun _ _ => True) _ ((l, Obj.loop { rc with state := .busy }) :: (b, Ev.shutO) :: (b4, Obj.cells #[.int .i64 (at_ : Nat), .string (bs p.1), .bool p.2] 69 (0, 0)) :: (b2, Obj.cells #[.int .i64 (at_ : Nat)] 3 (0, 0)) :: (b3, Obj.cells #[.int .i64 (c : Nat)] 3 (0, 0)) :: (b6, Obj.cells #[.string (bs s)] 9 (0, 0)) :: L) (by intro p; (try simp only [jw, jC, jI]) <;> omega)
     · refine goU ?_
       refine ahC (QK p.1 [115, 101, 101, 100, 32] (by omega) (by simp)) ?_
       rw [show List.isPrefixOf [115, 101, 101, 100, 32] p.1 = true from hpre]
       refine goU ?_
       refine qB (zR rfl (yv ?_))
       refine Ev.drawI [(b4, Obj.cells #[.int .i64 (at_ : Nat), .string (bs p.1), .bool p.2] 69 (0, 0)), (b3, Obj.cells #[.int .i64 (c : Nat)] 3 (0, 0))] [4] jo ?_
       refine tkQ 0 (hK := j4) ?_
       refine tkQ 1 (hK := j4) ?_
       refine tkQ 2 (hK := j4) ?_
       refine Yl 3 ?_
       refine adw 4 ?_
       refine tdQ ?_
       refine qB (Qo (kC (kb ?_)))
       exact fin (fun _ _ => True) _ ((l, Obj.loop { rc with state := .busy }) :: (b, Ev.shutO) :: (b4, Obj.cells #[.int .i64 (at_ : Nat), .string (bs p.1), .bool p.2] 69 (0, 0)) :: (b2, Obj.cells #[.int .i64 (at_ : Nat)] 3 (0, 0)) :: (b3, Obj.cells #[.int .i64 (c : Nat)] 3 (0, 0)) :: (b6, Obj.cells #[.string (bs s)] 9 (0, 0)) :: L) (by intro p; (try simp only [jw, jC, jI]) <;> omega)
   · have hst : Ve (c, r) (.agg #[.int .i64 (at_ : Nat), .string (bs p.1), .bool p.2]) = (none, (c + 1, r)) := if_neg hse
     rw [hst]
     rw [acr, Bool.or_eq_true, not_or] at hse
     obtain ⟨hq, hpre⟩ := hse
     have hq : ¬ p.1 = [115, 101, 101, 100] := fun k => hq (by rw [k]; rfl)
     refine goU ?_
     refine ahC (QK p.1 [115, 101, 101, 100, 32] (by omega) (by simp)) ?_
     rw [show List.isPrefixOf [115, 101, 101, 100, 32] p.1 = false from Bool.not_eq_true _ ▸ hpre]
     refine goU ?_
     refine qB (KN rfl (Ud (qB ?_)))
     refine Ev.regI ?_
     refine goU ?_
     refine jr (L' := (l, Obj.loop { rc with state := .busy }) :: (b, Ev.shutO) :: ((b2, Obj.cells #[r] 3 (0, 0)) :: (b3, Obj.cells #[.int .i64 ((c + 1 : Nat) : Int)] 3 (0, 0)) :: (b6, Obj.cells #[.string (bs s)] 9 (0, 0)) :: L)) (fun w h => by
      have h' : Heap G w ((l, Obj.loop { rc with state := .busy }) :: (b, Ev.shutO) :: (b4, Obj.cells #[.int .i64 (at_ : Nat), .string (bs p.1), .bool p.2] 69 (0, 0)) :: (b2, Obj.cells #[r] 3 (0, 0)) :: (b3, Obj.cells #[.int .i64 ((c + 1 : Nat) : Int)] 3 (0, 0)) :: (b6, Obj.cells #[.string (bs s)] 9 (0, 0)) :: L) := h
      exact Heap.cnt h' (by intro p; (try simp only [jw, jC, jI]) <;> omega)) ?_
     exact yW (Or.inl ⟨rfl, rfl⟩) ⟨ho, rfl⟩
 · intro x hx
   rw [Qp] at hx
   split at hx
   · cases hx; exact Or.inl rfl
   · cases hx
 · intro b M hM
   rw [Qp] at hM ⊢
   have e0 : Cn.unR (Cn.rowsP s) = s := Cn.unR_P s
   by_cases hk : Cn.kS (Cn.rowsP s) < (Cn.rowsP s).length
   · rw [if_pos hk] at hM ⊢
     obtain ⟨_, rfl⟩ := hM
     have ho := adG s _ hk
     refine Ev.TBQ_block_ret (Ev.TBQ_thenX (by simp) (yo ?_))
     refine ahG 2 3 3 3 rfl rfl rfl (by kernel_rfl) (by kernel_rfl) (List.mem_cons_self ..) (List.mem_cons_of_mem _ (List.mem_cons_self ..)) rfl rfl ⟨?_, rfl⟩ (by intro p; (try simp only [jw, jC, jI]) <;> omega)
     rw [ho]
     simp
   · rw [if_neg hk] at hM ⊢
     obtain ⟨_, rfl⟩ := hM
     have hkl : Cn.kS (Cn.rowsP s) = (Cn.rowsP s).length := by have := Cn.kS_le (Cn.rowsP s); omega
     refine Ev.TBQ_block (Ev.TBQ_then (Ev.TB_seq ?_))
     refine Ev.TB_draw jo [(b3, Obj.cells #[.int .i64 ((0 + (Cn.rowsP s).length : Nat) : Int)] 3 (0, 0))] [4] ?_
     refine tkQ 0 (hK := j4) ?_
     refine tkQ 1 (hK := j4) ?_
     refine tkQ 2 (hK := j4) ?_
     refine Yl 3 ?_
     refine adw 4 ?_
     refine tdQ ?_
     refine Ev.TQ_TB (Ev.TBQ_then (Ev.TB_ret ?_))
     refine Ev.TBQ_heap (L' := (b, Ev.shutO) :: ((b2, Obj.cells #[.int .i64 (s.length : Nat)] 3 (0, 0)) :: (b3, Obj.cells #[.int .i64 ((0 + (Cn.rowsP s).length : Nat) : Int)] 3 (0, 0)) :: (b6, Obj.cells #[.string (bs s)] 9 (0, 0)) :: L)) (fun w h => h) ?_
     refine yo ?_
     refine ahG 2 3 3 3 rfl rfl rfl (by kernel_rfl) (by kernel_rfl) (List.mem_cons_self ..) (List.mem_cons_of_mem _ (List.mem_cons_self ..)) rfl rfl ⟨?_, rfl⟩ (by intro p; (try simp only [jw, jC, jI]) <;> omega)
     rw [hkl, List.take_length, e0]
     simp
end Go.Proofs.YtkpblofmoalnoaaGreatDoor
namespace Go.Proofs.YtkpblofmoalnoaaGreatDoor
open Go.RowKit
open Cn (Zo Cf Scr Evn)
open Ev (Z7 RoundS yU qi abq yv KM Ud Qo zR KN qB Yr zS yW KO KP Yq yo acp)
variable {G : World} {L : jc}
structure PSt where
 n : Nat
 x : Scr
 bad : Bool
def ajY : Value → Bool
 | .agg a => match a[2]? with
   | some (Value.bool b) => b
   | _ => false
 | _ => false
theorem aab (at_ : Nat) (p : Nm.Bytes × Bool) : ajY (zW at_ p) = p.2 := rfl
def Vg (a : PSt) (v : Value) : Option Exit × PSt := if ajY v then match Cn.takeP (a.n + 1) (Cn.spl 32 (aaa v)) a.x with
  | some y => (none, ⟨a.n + 1, y, false⟩)
  | none => (some .ret, ⟨a.n + 1, a.x, true⟩)
 else (some .ret, ⟨a.n + 1, a.x, true⟩)
structure Small (n : Nat) (x : Scr) : Prop where
 num : n ≤ 200000
 first : n < 2 → x.first = []
 evs : x.evs.length ≤ n
 len : x.first.length ≤ 256
def NxP (a : PSt) (v : Value) : Prop := a.bad = false ∧ Small a.n a.x ∧ ∃ at_ p, v = zW at_ p ∧ p.1.length ≤ 200000
theorem aac : ∀ (ws : List Nm.Bytes) (l : List Nat), Cn.nums ws = some l → l.length = ws.length
 | [], l, h => by cases h; rfl
 | w :: ws, l, h => by
   rw [Cn.nums] at h
   cases hw : Cn.num64 w with
   | none => rw [hw] at h; cases h
   | some n =>
     cases hq : Cn.nums ws with
     | none => rw [hw, hq] at h; cases h
     | some q =>
       rw [hw, hq] at h
       cases h
       rw [List.length_cons, List.length_cons, aac ws q hq]
theorem yX {n : Nat} {x y : Scr} {ws : List Nm.Bytes} (hs : Small n x) (hn : n < 200000) (h : Cn.takeP (n + 1) ws x = some y) : Small (n + 1) y := by
 obtain ⟨h1, h2, h3, h4⟩ := hs
 unfold Cn.takeP at h
 by_cases e1 : n + 1 = 1
 · rw [if_pos e1] at h
   obtain ⟨v, _, rfl⟩ := Option.map_eq_some_iff.1 h
   exact ⟨by omega, fun _ => h2 (by omega), by dsimp only; omega, h4⟩
 · rw [if_neg e1] at h
   by_cases e2 : n + 1 = 2
   · rw [if_pos e2] at h
     obtain ⟨v, hv, rfl⟩ := Option.map_eq_some_iff.1 h
     refine ⟨by omega, fun q => by omega, by dsimp only; omega, ?_⟩
     match ws, hv with
     | [], hv => cases hv
     | a :: ws, hv =>
       by_cases q : a = Cn.tapeW ∧ ws.length ≤ 256
       · rw [Qj q.1 q.2] at hv
         have := aac ws v hv
         dsimp only
         omega
       · rw [KH q] at hv
         cases hv
   · rw [if_neg e2] at h
     obtain ⟨v, _, rfl⟩ := Option.map_eq_some_iff.1 h
     exact ⟨by omega, fun q => by omega, by simp; omega, h4⟩
theorem ahi {n : Nat} {x y : Scr} {ws : List Nm.Bytes} (h : Cn.takeP n ws x = some y) : y.cf = x.cf := by
 unfold Cn.takeP at h
 split at h
 · obtain ⟨v, _, rfl⟩ := Option.map_eq_some_iff.1 h; rfl
 · split at h
   · obtain ⟨v, _, rfl⟩ := Option.map_eq_some_iff.1 h; rfl
   · obtain ⟨v, _, rfl⟩ := Option.map_eq_some_iff.1 h; rfl
theorem afF : ∀ (rs : Cn.Rows) (n : Nat) (x : Scr) {m : Nat} {y : Scr}, Cn.goS n rs x = .inr (m, y) → y.cf = x.cf
 | [], n, x, m, y, h => by cases h; rfl
 | p :: rs, n, x, m, y, h => by
   rw [Cn.goS] at h
   split at h
   · split at h
     · rename_i z hz
       rw [afF rs (n + 1) z h, ahi hz]
     · cases h
   · cases h
theorem Vh : ∀ (rs : Cn.Rows) (at_ n : Nat) (x : Scr), ∃ z, qi Vg ⟨n, x, false⟩ (uf at_ rs) = match Cn.goS n rs x with
  | .inl j => (some .ret, ⟨j, z, true⟩)
  | .inr (m, y) => (none, ⟨m, y, false⟩)
 | [], at_, n, x => ⟨x, rfl⟩
 | p :: rs, at_, n, x => by
   rw [uf, qi, Cn.goS, Vg, aab, zT]
   cases p.2 with
   | false => exact ⟨x, rfl⟩
   | true =>
     rw [if_pos rfl, if_pos rfl]
     cases ht : Cn.takeP (n + 1) (Cn.spl 32 p.1) x with
     | none => exact ⟨x, rfl⟩
     | some y => exact Vh rs _ (n + 1) y
theorem QL : ∀ (rs : Cn.Rows) (at_ n : Nat) (x : Scr), Small n x → n + rs.length ≤ 200000 → (∀ p ∈ rs, p.1.length ≤ 200000) → yU Vg NxP ⟨n, x, false⟩ (uf at_ rs)
 | [], at_, n, x, _, _, _ => trivial
 | p :: rs, at_, n, x, hs, hn, hp => by
   rw [List.length_cons] at hn
   refine ⟨⟨rfl, hs, at_, p, rfl, hp p (List.mem_cons_self ..)⟩, fun b hb => ?_⟩
   rw [Vg, aab, zT] at hb
   dsimp only at hb
   split at hb
   · split at hb
     · rename_i y hy
       cases hb
       exact QL rs _ (n + 1) y (yX hs (by omega) hy) (by omega) fun q hq => hp q (List.mem_cons_of_mem _ hq)
     · cases hb
   · cases hb
def SRes (r : Scr × Int × Int) (L : jc) (u : Value) (M : jc) : Prop := ∃ a cap Bz C B, u = .tuple #[.agg C.toArray, .int .i64 r.2.1, .int .i64 r.2.2] ∧ ORow zoR 45 3 [] a cap r.1.cf.zs Bz ∧ ScIn r.1 (.slice a r.1.cf.zs.length cap) C B ∧ M = B ++ (Bz ++ L)
def zeroCs : List Value := scC Cn.zeroS (.slice none 0 0) (.slice none 0 0) (.slice none 0 0)
theorem J7 : Built Tryz.prog 36 [] (.agg zeroCs.toArray) := ⟨fun w => by kernel_rfl⟩
theorem ahj : ScIn Cn.zeroS (.slice none 0 0) zeroCs [] := ⟨none, 0, [], none, 0, [], rfl, ORow.nil _, ORow.nil _, rfl⟩
theorem SRes.nothing (line e : Int) : SRes (Cn.zeroS, line, e) L (.tuple #[.agg zeroCs.toArray, .int .i64 line, .int .i64 e]) L := ⟨none, 0, [], zeroCs, [], rfl, ORow.nil _, ahj, rfl⟩
structure PB where
 b2 : Nat
 b3 : Nat
 b4 : Nat
 b6 : Nat
 b10 : Nat
def ajZ (q : PB) (before : Nat) (cv : Value) (K : jc) (a : PSt) (M : jc) : Prop := ∃ C B, M = (q.b2, Obj.cells C.toArray 36 (0, 0)) :: (q.b3, Obj.cells #[.int .i64 (if a.bad then ((before + a.n : Nat) : Int) else 0)] 3 (0, 0)) :: (q.b4, Obj.cells #[.int .i64 (if a.bad then 3 else 0)] 31 (0, 0)) :: (q.b6, Obj.cells #[.int .i64 (before : Nat)] 3 (0, 0)) :: (q.b10, Obj.cells #[.int .i64 (a.n : Nat)] 3 (0, 0)) :: (B ++ K) ∧
 if a.bad then C = zeroCs else ScIn a.x cv C B
section
variable {P : Program} {ρ : jn}
theorem abt {ty : TypeId} {x hi : Operand} {s : List UInt8} {k : IntKind} {j : Int} {t : TypeId} (hx : ev ρ x = some (.string (bs s))) (hhi : ev ρ hi = some (.int k j)) (ht : P.underlying t = some .string)
 (h0 : 0 ≤ j) (h2 : j ≤ s.length) : OpQ P ρ L (.slice t x none (some hi) none) ty (.string (bs (s.take j.toNat))) :=
 ⟨fun r hr w hw o ho _ => by
   have e : (bs s).extract 0 j.toNat = bs (s.take j.toNat) := by
    apply ByteArray.ext
    rw [ByteArray.data_extract]
    simp [bs, List.extract_eq_take_drop]
   have e1 : ((j.toNat : Nat) : Int) = j := by omega
   simp [execOp, ho, hr _ _ hx, hr _ _ hhi, Instr.sliceAt, run_underlying ht, Instr.slice, Instr.sliceBounds, Instr.sliceBound, asIntOf, h0, h2, e, e1]⟩
end
theorem zU {P : Program} {ρ : jn} {ty : TypeId} {x y : Operand} {b k : Nat} {t : TypeId} {C D : Array Value} {te : TypeId} (hx : ev ρ x = some (.pointer (some ⟨b, 0, none⟩))) (hy : ev ρ y = some (.agg D))
 (ht : j8 P t k = true) (hC : C.size = k) (hD : D.size = k) (hone : WF D = true) : OpV P G ρ ((b, Obj.cells C te (0, 0)) :: L) (.store t x y) ty undef ((b, Obj.cells D te (0, 0)) :: L) := by
 have h1 := Um (G := G) (P := P) (ρ := ρ) (L := L) (ty := ty) (b := b) (C := C) (te := te) (t := t) (cs := D.toList) hx (by simpa using hy) (by rw [Array.length_toList, hD]; exact ht) (fun v hv => List.all_eq_true.1 hone v hv) (by rw [Array.length_toList, hD, hC]; omega)
 have h2 : jQ C 0 D.toList = D := by
  unfold jQ
  rw [List.drop_eq_nil_of_le (by simp; omega)]
  simp
 rw [h2] at h1
 exact h1
theorem abu (s : Nm.Bytes) (k : Nat) : s = Cn.unR ((Cn.rowsP s).take k) ++ Cn.unR ((Cn.rowsP s).drop k) := by
 rw [← Cn.unR_append, List.take_append_drop, Cn.unR_P]
theorem afG (s : Nm.Bytes) (hs : s.length ≤ 100000) (hg : GlobS L) : Spec Tryz.prog G 6 #[.string (bs s)] L fun u M => SRes (Cn.parseS theT s) L u M := by
 refine KP (n := 69) Tryz.func6 rfl rfl rfl ?_
 refine jT (jY ?_)
 refine jx ?_; intro b2
 refine jx ?_; intro b3
 refine jx ?_; intro b4
 refine goW ?_
 refine jT (jT ?_)
 by_cases hlong : 131072 < s.length
 · exfalso; omega
 refine goW ?_
 refine jT ?_
 refine goW ?_
 refine uE (ait s (by omega) (hg.base.mono j4)) ?_
 refine goW ?_
 refine jx ?_; intro b6
 refine goW ?_
 have hsp := abu s (Cn.kS (Cn.rowsP s))
 have hdrop := Cn.rowsP_drop s (Cn.kS (Cn.rowsP s))
 have hrl := J6 s
 have htx : ∀ p ∈ Cn.rowsP s, p.1.length ≤ 200000 := fun p hp => by have := Wj hp; omega
 have hkl := Cn.kS_le (Cn.rowsP s)
 have hres : Cn.parseS theT s = Cn.restS (Cn.parseP theT (Cn.unR ((Cn.rowsP s).take (Cn.kS (Cn.rowsP s))))) (Cn.kS (Cn.rowsP s)) ((Cn.rowsP s).drop (Cn.kS (Cn.rowsP s))) := by unfold Cn.parseS; rw [if_neg hlong]; rfl
 have hdl : ((Cn.rowsP s).drop (Cn.kS (Cn.rowsP s))).length ≤ s.length := by rw [List.length_drop]; omega
 have hdt : ∀ p ∈ (Cn.rowsP s).drop (Cn.kS (Cn.rowsP s)), p.1.length ≤ 200000 := fun p hp => htx p (List.mem_of_mem_drop hp)
 rw [hres]
 obtain ⟨rows, hrows⟩ : ∃ rows, (Cn.rowsP s).drop (Cn.kS (Cn.rowsP s)) = rows := ⟨_, rfl⟩
 rw [hrows] at hdl hdt hdrop hsp ⊢
 obtain ⟨front, hfr⟩ : ∃ f, Cn.unR ((Cn.rowsP s).take (Cn.kS (Cn.rowsP s))) = f := ⟨_, rfl⟩
 rw [hfr] at hsp ⊢
 obtain ⟨k, hk⟩ : ∃ k, Cn.kS (Cn.rowsP s) = k := ⟨_, rfl⟩
 rw [hk] at hkl ⊢
 obtain ⟨rest, hrest⟩ : ∃ r, Cn.unR rows = r := ⟨_, rfl⟩
 rw [hrest] at hsp hdrop
 have hlen : s.length = front.length + rest.length := by rw [hsp, List.length_append]
 have htake : s.take front.length = front := by rw [hsp]; simp
 have hdr : s.drop front.length = rest := by rw [hsp]; simp
 clear hres hrows hfr hk hrest
 refine jT ?_
 refine goW ?_
 refine jl (abt rfl rfl Tryz.underlying9 (j := (front.length : Nat)) (by omega) (by omega)) rfl ?_
 rw [Int.toNat_natCast, htake]
 obtain ⟨L1, hL1⟩ : ∃ L1 : jc, L1 = (b6, Obj.cells #[.int .i64 (k : Nat)] 3 (0, 0)) :: (b4, Obj.cells #[.int .i64 0] 31 (0, 0)) :: (b3, Obj.cells #[.int .i64 0] 3 (0, 0)) :: (b2, Obj.cells zeroCs.toArray 36 (0, 0)) :: L := ⟨_, rfl⟩
 have hg1 : GlobS L1 := hg.mono (by subst hL1; exact j4)
 refine uA (afy (L := L1) front (by omega) (Or.inr (by omega)) hg1.base) ?_ (hf := by subst hL1; exact ⟨fun p => Nat.le_refl _⟩)
 rintro _ _ ⟨az, cz, Bz, rfl, hBz, rfl⟩
 obtain ⟨⟨cf, wrong, inv⟩, hpp⟩ : ∃ r, Cn.parseP theT front = r := ⟨_, rfl⟩
 have hln0 : (Cn.parseP theT front).2.2 ≠ 3 → (Cn.parseP theT front).2.1 = 0 := Cn.parseP_line
 rw [hpp] at hBz hln0
 simp only [hpp]
 dsimp only at hBz hln0 ⊢
 unfold Ql
 refine goW ?_
 refine jx ?_; intro b7
 refine goW ?_
 by_cases hi3 : inv = 3
 · subst hi3
   rw [show Cn.restS (cf, wrong, 3) k rows = (Cn.zeroS, wrong, 3) from if_pos rfl]
   subst hL1
   refine goU ?_
   refine Yq ?_
   refine U9 2 36 3 3 4 31 rfl rfl rfl rfl stO (by kernel_rfl) (by kernel_rfl) (by exact uD) (by exact uD) (by exact uD) rfl rfl rfl (SRes.nothing (L := L) wrong 3) (by intro p; (try simp only [jw, jC, jI]) <;> omega)
 refine jT (jT ?_)
 refine goW ?_
 refine jT ?_
 subst hL1
 refine goW ?_
 obtain ⟨cv, hcv⟩ : ∃ cv : Value, cv = .slice az cf.zs.length cz := ⟨_, rfl⟩
 have hone : (jg cf (.slice az cf.zs.length cz)).all (·.oneCell') = true := rfl
 refine kA (L' := (b2, Obj.cells zeroCs.toArray 36 (0, 0)) :: (b3, Obj.cells #[.int .i64 0] 3 (0, 0)) :: (b4, Obj.cells #[.int .i64 0] 31 (0, 0)) :: (b6, Obj.cells #[.int .i64 (k : Nat)] 3 (0, 0)) :: (Bz ++ L)) ?_ (by intro p; (try simp only [jw, jC, jI]) <;> omega)
 refine Uh (Um (cs := jg cf (.slice az cf.zs.length cz)) rfl rfl stL (fun v hv => List.all_eq_true.1 hone v hv) (Nat.le_of_ble_eq_true rfl)) ?_
 refine QW (L' := (b2, Obj.cells (scC { Cn.zeroS with cf := cf } (.slice az cf.zs.length cz) (.slice none 0 0) (.slice none 0 0)).toArray 36 (0, 0)) :: (b3, Obj.cells #[.int .i64 0] 3 (0, 0)) :: (b4, Obj.cells #[.int .i64 0] 31 (0, 0)) :: (b6, Obj.cells #[.int .i64 (k : Nat)] 3 (0, 0)) :: (Bz ++ L)) (fun w h => h) ?_
 refine goW ?_
 refine jT ?_
 refine goW ?_
 refine jx ?_; intro b10
 refine goW ?_
 refine jT (jT ?_)
 refine goW ?_
 rw [show s.drop ((front.length : Nat) : Int).toNat = rest by rw [Int.toNat_natCast]; exact hdr]
 refine uA (Z9 rest) ?_
 rintro _ _ ⟨bs0, rfl, rfl⟩
 refine goW ?_
 have hg2 : GlobS ((bs0, Obj.cells #[.string (bs rest)] 9 (0, 0)) :: (Bz ++ L)) := hg.mono fun p hp => List.mem_cons_of_mem _ (List.mem_append_right _ hp)
 refine Wq (L' := (b2, Obj.cells (scC { Cn.zeroS with cf := cf } (.slice az cf.zs.length cz) (.slice none 0 0) (.slice none 0 0)).toArray 36 (0, 0)) :: (b3, Obj.cells #[.int .i64 0] 3 (0, 0)) :: (b4, Obj.cells #[.int .i64 0] 31 (0, 0)) :: (b6, Obj.cells #[.int .i64 (k : Nat)] 3 (0, 0)) :: (b10, Obj.cells #[.int .i64 0] 3 (0, 0)) :: ([] ++ ((bs0, Obj.cells #[.string (bs rest)] 9 (0, 0)) :: (Bz ++ L)))) (fun w h => by
  have h' : Heap G w ((bs0, Obj.cells #[.string (bs rest)] 9 (0, 0)) :: (b10, Obj.cells #[.int .i64 0] 3 (0, 0)) :: (b2, Obj.cells (scC { Cn.zeroS with cf := cf } (.slice az cf.zs.length cz) (.slice none 0 0) (.slice none 0 0)).toArray 36 (0, 0)) :: (b3, Obj.cells #[.int .i64 0] 3 (0, 0)) :: (b4, Obj.cells #[.int .i64 0] 31 (0, 0)) :: (b6, Obj.cells #[.int .i64 (k : Nat)] 3 (0, 0)) :: (Bz ++ L)) := h
  exact Heap.cnt h' (by intro p; (try simp only [jw, jC, jI]) <;> omega)) ?_
 obtain ⟨zr, hzr⟩ := Vh rows 0 0 { Cn.zeroS with cf := cf }
 refine KO (α := PSt) (step := Vg) (Inv := ajZ ⟨b2, b3, b4, b6, b10⟩ k (.slice az cf.zs.length cz) ((bs0, Obj.cells #[.string (bs rest)] 9 (0, 0)) :: (Bz ++ L))) (Nx := NxP) (vs := uf 0 rows) (K := (bs0, Obj.cells #[.string (bs rest)] 9 (0, 0)) :: (Bz ++ L)) (a0 := ⟨0, { Cn.zeroS with cf := cf }, false⟩) (by decide) rfl (by kernel_rfl) (hdrop ▸ acq rest (by omega) bs0 _ (List.mem_cons_self ..) hg2.base) ?_ ⟨_, [], rfl, ⟨none, 0, [], none, 0, [], rfl, ORow.nil _, ORow.nil _, rfl⟩⟩ (QL _ _ _ _ ⟨by omega, fun _ => rfl, Nat.le_refl _, Nat.zero_le _⟩ (by omega) hdt) ?_ ?_ ?_
 · rintro a N ⟨C, B, rfl, _⟩ q hq
   exact List.mem_cons_of_mem _ (List.mem_cons_of_mem _ (List.mem_cons_of_mem _ (List.mem_cons_of_mem _ (List.mem_cons_of_mem _ (List.mem_append_right _ hq)))))
 · rintro l b rc ⟨n, x, bad⟩ v M ⟨rfl, hsm, at_, p, rfl, hp⟩ ⟨C, B, rfl, hC⟩
   dsimp only at hsm hC ⊢
   have hC : ScIn x (.slice az cf.zs.length cz) C B := by simpa using hC
   have hnb := hsm.num
   unfold zW
   refine Ev.regI ?_
   refine jx ?_; intro b11
   refine goU ?_
   refine jr (L' := (l, .loop rc) :: (b, Ev.shutO) :: ((b11, Obj.cells #[.int .i64 (at_ : Nat), .string (bs p.1), .bool p.2] 69 (0, 0)) :: (b10, Obj.cells #[.int .i64 (n : Nat)] 3 (0, 0)) :: (b2, Obj.cells C.toArray 36 (0, 0)) :: (b3, Obj.cells #[.int .i64 0] 3 (0, 0)) :: (b4, Obj.cells #[.int .i64 0] 31 (0, 0)) :: (b6, Obj.cells #[.int .i64 (k : Nat)] 3 (0, 0)) :: (B ++ ((bs0, Obj.cells #[.string (bs rest)] 9 (0, 0)) :: (Bz ++ L))))) (fun w h => by
    have h' : Heap G w ((b11, Obj.cells #[.int .i64 (at_ : Nat), .string (bs p.1), .bool p.2] 69 (0, 0)) :: (l, .loop rc) :: (b, Ev.shutO) :: (b2, Obj.cells C.toArray 36 (0, 0)) :: (b3, Obj.cells #[.int .i64 0] 3 (0, 0)) :: (b4, Obj.cells #[.int .i64 0] 31 (0, 0)) :: (b6, Obj.cells #[.int .i64 (k : Nat)] 3 (0, 0)) :: (b10, Obj.cells #[.int .i64 (n : Nat)] 3 (0, 0)) :: (B ++ ((bs0, Obj.cells #[.string (bs rest)] 9 (0, 0)) :: (Bz ++ L)))) := h
    exact Heap.cnt h' (by intro p; (try simp only [jw, jC, jI]) <;> omega)) ?_
   refine zS ?_
   refine KM (yv ?_)
   refine Ev.regI ?_
   refine goU ?_
   refine qB (yv ?_)
   obtain ⟨L2, hL2⟩ : ∃ L2 : jc, L2 = (l, Obj.loop { rc with state := .busy }) :: (b, Ev.shutO) :: ((b11, Obj.cells #[.int .i64 (at_ : Nat), .string (bs p.1), .bool p.2] 69 (0, 0)) :: (b10, Obj.cells #[.int .i64 ((n + 1 : Nat) : Int)] 3 (0, 0)) :: (b3, Obj.cells #[.int .i64 0] 3 (0, 0)) :: (b4, Obj.cells #[.int .i64 0] 31 (0, 0)) :: (b6, Obj.cells #[.int .i64 (k : Nat)] 3 (0, 0)) :: ((bs0, Obj.cells #[.string (bs rest)] 9 (0, 0)) :: (Bz ++ L))) := ⟨_, rfl⟩
   refine Ev.TI_heap (L' := (b2, Obj.cells C.toArray 36 (0, 0)) :: (B ++ L2)) (fun w h => by
    subst hL2
    have h' : Heap G w ((l, Obj.loop { rc with state := .busy }) :: (b, Ev.shutO) :: ((b11, Obj.cells #[.int .i64 (at_ : Nat), .string (bs p.1), .bool p.2] 69 (0, 0)) :: (b10, Obj.cells #[.int .i64 ((n + 1 : Nat) : Int)] 3 (0, 0)) :: (b2, Obj.cells C.toArray 36 (0, 0)) :: (b3, Obj.cells #[.int .i64 0] 3 (0, 0)) :: (b4, Obj.cells #[.int .i64 0] 31 (0, 0)) :: (b6, Obj.cells #[.int .i64 (k : Nat)] 3 (0, 0)) :: (B ++ ((bs0, Obj.cells #[.string (bs rest)] 9 (0, 0)) :: (Bz ++ L))))) := h
    exact Heap.cnt h' (by intro p; (try simp only [jw, jC, jI]) <;> omega)) ?_
   have m11 : (b11, Obj.cells #[.int .i64 (at_ : Nat), .string (bs p.1), .bool p.2] 69 (0, 0)) ∈ L2 := by subst hL2; exact uD
   have m10 : (b10, Obj.cells #[.int .i64 ((n + 1 : Nat) : Int)] 3 (0, 0)) ∈ L2 := by subst hL2; exact uD
   have hgl : GlobS L2 := by subst hL2; exact hg.mono fun q hq => List.mem_cons_of_mem _ (List.mem_cons_of_mem _ (List.mem_cons_of_mem _ (List.mem_cons_of_mem _ (List.mem_cons_of_mem _ (List.mem_cons_of_mem _ (List.mem_cons_of_mem _ (List.mem_cons_of_mem _ (List.mem_append_right _ hq))))))))
   have hKL : ∀ q ∈ [(b11, Obj.cells #[.int .i64 (at_ : Nat), .string (bs p.1), .bool p.2] 69 (0, 0)), (b10, Obj.cells #[.int .i64 ((n + 1 : Nat) : Int)] 3 (0, 0))], q ∈ L2 := by
    intro q hq
    simp only [List.mem_cons, List.not_mem_nil, or_false] at hq
    rcases hq with rfl | rfl
    · exact m11
    · exact m10
   refine Ev.drawI [(b11, Obj.cells #[.int .i64 (at_ : Nat), .string (bs p.1), .bool p.2] 69 (0, 0)), (b10, Obj.cells #[.int .i64 ((n + 1 : Nat) : Int)] 3 (0, 0))] [] jo ?_
   have hK0 : ∀ (X : jc), ∀ q ∈ [(b11, Obj.cells #[.int .i64 (at_ : Nat), .string (bs p.1), .bool p.2] 69 (0, 0)), (b10, Obj.cells #[.int .i64 ((n + 1 : Nat) : Int)] 3 (0, 0))], q ∈ X ++ L2 := fun X q hq => List.mem_append_right _ (hKL q hq)
   refine tkQ 0 (hK := fun q hq => List.mem_cons_of_mem _ (hK0 B q hq)) ?_
   refine tkQ 1 (hK := fun q hq => List.mem_cons_of_mem _ (hK0 B q hq)) ?_
   refine tkQ 2 (hK := fun q hq => List.mem_cons_of_mem _ (hK0 B q hq)) ?_
   refine tkQ 3 (hK := fun q hq => List.mem_cons_of_mem _ (hK0 B q hq)) ?_
   have hMem : ∀ (X : jc), ∀ q ∈ [(b11, Obj.cells #[.int .i64 (at_ : Nat), .string (bs p.1), .bool p.2] 69 (0, 0)), (b10, Obj.cells #[.int .i64 ((n + 1 : Nat) : Int)] 3 (0, 0))], q ∈ (b2, Obj.cells C.toArray 36 (0, 0)) :: (X ++ L2) := fun X q hq => List.mem_cons_of_mem _ (hK0 X q hq)
   cases hp2 : p.2 with
   | false =>
     have hst : Vg ⟨n, x, false⟩ (.agg #[.int .i64 (at_ : Nat), .string (bs p.1), .bool false]) = (some .ret, ⟨n + 1, x, true⟩) := rfl
     rw [hst]
     rw [hp2] at hMem
     refine tkQ 4 (hK := hMem B) ?_
     refine tkQ 5 (hK := hMem B) ?_
     refine tkQ 6 (hK := hMem B) ?_
     refine tkQ 7 (hK := hMem B) ?_
     refine tkQ 8 (hK := hMem B) ?_
     refine tkQ 9 (hK := hMem B) ?_
     refine tkQ 10 (hK := hMem B) ?_
     refine tdQ ?_
     refine qB (zR rfl (yv ?_))
     refine Ev.TI_heap (L' := (b2, Obj.cells C.toArray 36 (0, 0)) :: (b3, Obj.cells #[.int .i64 0] 3 (0, 0)) :: (b4, Obj.cells #[.int .i64 0] 31 (0, 0)) :: (b6, Obj.cells #[.int .i64 (k : Nat)] 3 (0, 0)) :: (b10, Obj.cells #[.int .i64 ((n + 1 : Nat) : Int)] 3 (0, 0)) :: (l, Obj.loop { rc with state := .busy }) :: (b, Ev.shutO) :: (bs0, Obj.cells #[.string (bs rest)] 9 (0, 0)) :: (Bz ++ L)) (fun w h => by
      subst hL2
      exact Heap.cnt h (by intro p; (try simp only [jw, jC, jI]) <;> omega)) ?_
     refine Ev.drawI [(b6, Obj.cells #[.int .i64 (k : Nat)] 3 (0, 0)), (b10, Obj.cells #[.int .i64 ((n + 1 : Nat) : Int)] 3 (0, 0))] [] jo ?_
     refine tkQ 0 (hK := j4) (hq := kz (ja (ps := []) rfl J7)) ?_
     refine tkQ 1 (hK := j4) ?_
     refine tkQ 2 (hK := j4) ?_
     refine tkQ 3 (hK := j4) ?_
     refine uI 4 (by decide +kernel) rfl rfl rfl (zU (D := zeroCs.toArray) rfl rfl stO (by simpa using hC.len) rfl rfl) ?_
     rintro _ _ ⟨_, rfl⟩
     refine ⟨Or.inr j4, ?_⟩
     refine Yl 5 ?_
     refine Yl 6 ?_
     refine tdQ ?_
     refine qB (Qo (kb ?_))
     refine jr (L' := (l, Obj.loop { rc with state := .busy }) :: (b, Ev.shutO) :: ((b2, Obj.cells zeroCs.toArray 36 (0, 0)) :: (b3, Obj.cells #[.int .i64 ((k + (n + 1) : Nat) : Int)] 3 (0, 0)) :: (b4, Obj.cells #[.int .i64 3] 31 (0, 0)) :: (b6, Obj.cells #[.int .i64 (k : Nat)] 3 (0, 0)) :: (b10, Obj.cells #[.int .i64 ((n + 1 : Nat) : Int)] 3 (0, 0)) :: ([] ++ ((bs0, Obj.cells #[.string (bs rest)] 9 (0, 0)) :: (Bz ++ L))))) (fun w h => by
      have h' : Heap G w ((b2, Obj.cells zeroCs.toArray 36 (0, 0)) :: (b3, Obj.cells #[.int .i64 ((k + (n + 1) : Nat) : Int)] 3 (0, 0)) :: (b4, Obj.cells #[.int .i64 3] 31 (0, 0)) :: (b6, Obj.cells #[.int .i64 (k : Nat)] 3 (0, 0)) :: (b10, Obj.cells #[.int .i64 ((n + 1 : Nat) : Int)] 3 (0, 0)) :: (l, Obj.loop { rc with state := .busy }) :: (b, Ev.shutO) :: (bs0, Obj.cells #[.string (bs rest)] 9 (0, 0)) :: (Bz ++ L)) := h
      exact Heap.cnt h' (by intro p; (try simp only [jw, jC, jI]) <;> omega)) ?_
     exact yW (Or.inr (Or.inl ⟨rfl, rfl⟩)) ⟨zeroCs, [], rfl, rfl⟩
   | true =>
     have hst : Vg ⟨n, x, false⟩ (.agg #[.int .i64 (at_ : Nat), .string (bs p.1), .bool true]) = match Cn.takeP (n + 1) (Cn.spl 32 p.1) x with
       | some y => (none, ⟨n + 1, y, false⟩)
       | none => (some .ret, ⟨n + 1, x, true⟩) := by
      show (match Cn.takeP (n + 1) (Cn.spl 32 (aaa (zW at_ (p.1, true)))) x with
       | some y => ((none : Option Exit), (⟨n + 1, y, false⟩ : PSt))
       | none => (some .ret, ⟨n + 1, x, true⟩)) = _
      rw [zT at_ (p.1, true)]
     rw [hst]
     rw [hp2] at hMem hKL
     have hsl := yn 32 p.1
     have hsc := qJ 32 p.1
     refine tkQ 4 (hK := hMem B) ?_
     refine tkQ 5 (hK := hMem B) ?_
     refine tkQ 6 (hK := hMem B) ?_
     refine Yj 7 (aca (L := (b2, Obj.cells C.toArray 36 (0, 0)) :: (B ++ L2)) p.1 (by omega) (hgl.base.mono fun q hq => List.mem_cons_of_mem _ (List.mem_append_right _ hq))) ?_ (hf := ⟨fun q => Nat.le_refl _⟩)
     rintro _ _ ⟨bw, rfl, rfl⟩
     refine ⟨fun q hq => List.mem_cons_of_mem _ (hMem B q hq), ?_⟩
     refine Yj 8 (ag6 (L := (bw, Obj.cells ((Cn.spl 32 p.1).map ka).toArray 9 (0, 0)) :: L2) b2 x (.slice az cf.zs.length cz) C B hC (n + 1) (by omega) (fun e => hsm.first (by omega)) (by have := hsm.evs; omega) bw (Cn.spl 32 p.1) (Cn.spl_ne _ _) (List.mem_cons_self ..) (by omega) (fun w hw => by have := hsl w hw; omega) (hgl.mono fun q hq => List.mem_cons_of_mem _ hq)) ?_ (hf := ⟨fun q => by simp only [ScM, jw, jC, jI]; omega⟩)
     rintro u M ⟨C', B', hl16, rfl, hout⟩
     have hMem2 : ∀ q ∈ [(b11, Obj.cells #[.int .i64 (at_ : Nat), .string (bs p.1), .bool true] 69 (0, 0)), (b10, Obj.cells #[.int .i64 ((n + 1 : Nat) : Int)] 3 (0, 0))], q ∈ (b2, Obj.cells C'.toArray 36 (0, 0)) :: (B' ++ ((bw, Obj.cells ((Cn.spl 32 p.1).map ka).toArray 9 (0, 0)) :: L2)) := fun q hq => by
      exact List.mem_cons_of_mem _ (List.mem_append_right _ (List.mem_cons_of_mem _ (hKL q hq)))
     refine ⟨hMem2, ?_⟩
     cases htk : Cn.takeP (n + 1) (Cn.spl 32 p.1) x with
     | none =>
       rw [htk] at hout
       obtain rfl : u = .bool false := hout
       dsimp only
       refine tkQ 9 (hK := hMem2) ?_
       refine tkQ 10 (hK := hMem2) ?_
       refine tdQ ?_
       refine qB (zR rfl (yv ?_))
       refine Ev.TI_heap (L' := (b2, Obj.cells C'.toArray 36 (0, 0)) :: (b3, Obj.cells #[.int .i64 0] 3 (0, 0)) :: (b4, Obj.cells #[.int .i64 0] 31 (0, 0)) :: (b6, Obj.cells #[.int .i64 (k : Nat)] 3 (0, 0)) :: (b10, Obj.cells #[.int .i64 ((n + 1 : Nat) : Int)] 3 (0, 0)) :: (l, Obj.loop { rc with state := .busy }) :: (b, Ev.shutO) :: (bs0, Obj.cells #[.string (bs rest)] 9 (0, 0)) :: (Bz ++ L)) (fun w h => by
        subst hL2
        exact Heap.cnt h (by intro p; (try simp only [jw, jC, jI]) <;> omega)) ?_
       refine Ev.drawI [(b6, Obj.cells #[.int .i64 (k : Nat)] 3 (0, 0)), (b10, Obj.cells #[.int .i64 ((n + 1 : Nat) : Int)] 3 (0, 0))] [] jo ?_
       refine tkQ 0 (hK := j4) (hq := kz (ja (ps := []) rfl J7)) ?_
       refine tkQ 1 (hK := j4) ?_
       refine tkQ 2 (hK := j4) ?_
       refine tkQ 3 (hK := j4) ?_
       refine uI 4 (by decide +kernel) rfl rfl rfl (zU (D := zeroCs.toArray) rfl rfl stO (by simpa using hl16) rfl rfl) ?_
       rintro _ _ ⟨_, rfl⟩
       refine ⟨Or.inr j4, ?_⟩
       refine Yl 5 ?_
       refine Yl 6 ?_
       refine tdQ ?_
       refine qB (Qo (kb ?_))
       refine jr (L' := (l, Obj.loop { rc with state := .busy }) :: (b, Ev.shutO) :: ((b2, Obj.cells zeroCs.toArray 36 (0, 0)) :: (b3, Obj.cells #[.int .i64 ((k + (n + 1) : Nat) : Int)] 3 (0, 0)) :: (b4, Obj.cells #[.int .i64 3] 31 (0, 0)) :: (b6, Obj.cells #[.int .i64 (k : Nat)] 3 (0, 0)) :: (b10, Obj.cells #[.int .i64 ((n + 1 : Nat) : Int)] 3 (0, 0)) :: ([] ++ ((bs0, Obj.cells #[.string (bs rest)] 9 (0, 0)) :: (Bz ++ L))))) (fun w h => by
        have h' : Heap G w ((b2, Obj.cells zeroCs.toArray 36 (0, 0)) :: (b3, Obj.cells #[.int .i64 ((k + (n + 1) : Nat) : Int)] 3 (0, 0)) :: (b4, Obj.cells #[.int .i64 3] 31 (0, 0)) :: (b6, Obj.cells #[.int .i64 (k : Nat)] 3 (0, 0)) :: (b10, Obj.cells #[.int .i64 ((n + 1 : Nat) : Int)] 3 (0, 0)) :: (l, Obj.loop { rc with state := .busy }) :: (b, Ev.shutO) :: (bs0, Obj.cells #[.string (bs rest)] 9 (0, 0)) :: (Bz ++ L)) := h
        exact Heap.cnt h' (by intro p; (try simp only [jw, jC, jI]) <;> omega)) ?_
       exact yW (Or.inr (Or.inl ⟨rfl, rfl⟩)) ⟨zeroCs, [], rfl, rfl⟩
     | some y =>
       rw [htk] at hout
       obtain ⟨rfl, hsc'⟩ : u = .bool true ∧ ScIn y (.slice az cf.zs.length cz) C' B' := hout
       dsimp only
       refine tkQ 9 (hK := hMem2) ?_
       refine tkQ 10 (hK := hMem2) ?_
       refine tdQ ?_
       refine qB (KN rfl (Ud (uu ?_)))
       refine jr (L' := (l, Obj.loop { rc with state := .busy }) :: (b, Ev.shutO) :: ((b2, Obj.cells C'.toArray 36 (0, 0)) :: (b3, Obj.cells #[.int .i64 0] 3 (0, 0)) :: (b4, Obj.cells #[.int .i64 0] 31 (0, 0)) :: (b6, Obj.cells #[.int .i64 (k : Nat)] 3 (0, 0)) :: (b10, Obj.cells #[.int .i64 ((n + 1 : Nat) : Int)] 3 (0, 0)) :: (B' ++ ((bs0, Obj.cells #[.string (bs rest)] 9 (0, 0)) :: (Bz ++ L))))) (fun w h => by
        subst hL2
        exact Heap.cnt h (by intro p; (try simp only [jw, jC, jI]) <;> omega)) ?_
       exact yW (Or.inl ⟨rfl, rfl⟩) ⟨C', B', rfl, hsc'⟩
 · intro x hx
   rw [hzr] at hx
   split at hx
   · cases hx; exact Or.inl rfl
   · cases hx
 · intro b M hM
   rw [hzr] at hM ⊢
   have hi3' : ¬ inv = 3 := hi3
   cases hgo : Cn.goS 0 rows { Cn.zeroS with cf := cf } with
   | inl j =>
     have hrs : Cn.restS (cf, wrong, inv) k rows = (Cn.zeroS, ((k + j : Nat) : Int), 3) := by
      unfold Cn.restS
      rw [if_neg hi3', hgo]
     rw [hgo] at hM
     obtain ⟨C, B, rfl, hC⟩ := hM
     obtain rfl : C = zeroCs := hC
     rw [hrs]
     refine Ev.TBQ_block_ret (Ev.TBQ_thenX (by simp) (yo ?_))
     refine U9 2 36 3 3 4 31 rfl rfl rfl rfl stO (by kernel_rfl) (by kernel_rfl) (by exact uD) (by exact uD) (by exact uD) rfl rfl rfl (SRes.nothing (L := L) _ 3) (by intro p; (try simp only [jw, jC, jI]) <;> omega)
   | inr q =>
     obtain ⟨n, y⟩ := q
     have hn := Cn.goS_inr _ _ _ hgo
     rw [hgo] at hM
     obtain ⟨C, B, rfl, hC⟩ := hM
     have hC : ScIn y (.slice az cf.zs.length cz) C B := by simpa using hC
     have hn : n = rows.length := by omega
     refine Ev.TBQ_heap (L' := (b, Ev.shutO) :: (b2, Obj.cells C.toArray 36 (0, 0)) :: (b3, Obj.cells #[.int .i64 0] 3 (0, 0)) :: (b4, Obj.cells #[.int .i64 0] 31 (0, 0)) :: (b6, Obj.cells #[.int .i64 (k : Nat)] 3 (0, 0)) :: (b10, Obj.cells #[.int .i64 (n : Nat)] 3 (0, 0)) :: (B ++ ((bs0, Obj.cells #[.string (bs rest)] 9 (0, 0)) :: (Bz ++ L)))) (fun w h => h) ?_
     refine Ev.TBQ_block (Ev.TBQ_then (Ev.TB_seq (Ev.TB_seq (Ev.TB_region ?_))))
     refine goU ?_
     refine Ev.TQ_TB (Ev.TBQ_then ?_)
     by_cases hn2 : n < 2
     · have hrs : Cn.restS (cf, wrong, inv) k rows = (Cn.zeroS, ((k + n : Nat) : Int) + 1, 3) := by
        unfold Cn.restS
        rw [if_neg hi3', hgo]
        exact if_pos hn2
       rw [hrs]
       have d2 : decide ((n : Int) < 2) = true := decide_eq_true (by omega)
       rw [d2]
       refine Ev.TB_true rfl (Ev.TB_seq ?_)
       refine Ev.TB_draw jo [(b6, Obj.cells #[.int .i64 (k : Nat)] 3 (0, 0)), (b10, Obj.cells #[.int .i64 (n : Nat)] 3 (0, 0))] [] ?_
       refine tkQ 0 (hK := j4) (hq := kz (ja (ps := []) rfl J7)) ?_
       refine tkQ 1 (hK := j4) ?_
       refine tkQ 2 (hK := j4) ?_
       refine tkQ 3 (hK := j4) ?_
       refine tkQ 4 (hK := j4) ?_
       refine WD (L' := (b2, Obj.cells C.toArray 36 (0, 0)) :: (b, Ev.shutO) :: (b3, Obj.cells #[.int .i64 0] 3 (0, 0)) :: (b4, Obj.cells #[.int .i64 0] 31 (0, 0)) :: (b6, Obj.cells #[.int .i64 (k : Nat)] 3 (0, 0)) :: (b10, Obj.cells #[.int .i64 (n : Nat)] 3 (0, 0)) :: L) (fun w h => Heap.cnt h (by intro p; (try simp only [jw, jC, jI]) <;> omega)) (fun _ => j4) ?_
       refine uI 5 (by decide +kernel) rfl rfl rfl (zU (D := zeroCs.toArray) rfl rfl stO (by simpa using hC.len) rfl rfl) ?_
       rintro _ _ ⟨_, rfl⟩
       refine ⟨Or.inr j4, ?_⟩
       refine Yl 6 ?_
       refine Yl 7 ?_
       refine tdQ ?_
       refine Ev.TQ_TB (Ev.TBQ_then (Ev.TB_ret (Ev.TBQ_thenX (by simp) ?_)))
       refine Ev.TBQ_heap (L' := (b, Ev.shutO) :: ((b2, Obj.cells zeroCs.toArray 36 (0, 0)) :: (b3, Obj.cells #[.int .i64 (((k + n : Nat) : Int) + 1)] 3 (0, 0)) :: (b4, Obj.cells #[.int .i64 3] 31 (0, 0)) :: L)) (fun w h => by
        have h' : Heap G w ((b2, Obj.cells zeroCs.toArray 36 (0, 0)) :: (b, Ev.shutO) :: (b3, Obj.cells #[.int .i64 (((k + n : Nat) : Int) + 1)] 3 (0, 0)) :: (b4, Obj.cells #[.int .i64 3] 31 (0, 0)) :: (b6, Obj.cells #[.int .i64 (k : Nat)] 3 (0, 0)) :: (b10, Obj.cells #[.int .i64 (n : Nat)] 3 (0, 0)) :: L) := h
        exact Heap.cnt h' (by intro p; (try simp only [jw, jC, jI]) <;> omega)) ?_
       refine yo ?_
       refine U9 2 36 3 3 4 31 rfl rfl rfl rfl stO (by kernel_rfl) (by kernel_rfl) (by exact uD) (by exact uD) (by exact uD) rfl rfl rfl (SRes.nothing (L := L) _ 3) (by intro p; (try simp only [jw, jC, jI]) <;> omega)
     have d2 : decide ((n : Int) < 2) = false := decide_eq_false (by omega)
     rw [d2]
     refine Ev.TB_false rfl (Ev.TB_skip (Ev.TBQ_then (Ev.TB_seq (Ev.TB_seq (Ev.TB_region ?_)))))
     refine goU ?_
     refine Ev.TQ_TB (Ev.TBQ_then ?_)
     by_cases hi0 : inv = 0
     rotate_left
     · have hrs : Cn.restS (cf, wrong, inv) k rows = (Cn.zeroS, 0, inv) := by
        unfold Cn.restS
        rw [if_neg hi3', hgo]
        exact (if_neg hn2).trans (if_pos hi0)
       rw [hrs]
       have d3 : (inv != 0) = true := by simpa using hi0
       rw [d3]
       refine Ev.TB_true rfl (Ev.TB_seq (Ev.TB_region ?_))
       refine goU ?_
       refine kA (L' := (b2, Obj.cells C.toArray 36 (0, 0)) :: (b3, Obj.cells #[.int .i64 0] 3 (0, 0)) :: (b4, Obj.cells #[.int .i64 0] 31 (0, 0)) :: (b, Ev.shutO) :: L) ?_ (by intro p; (try simp only [jw, jC, jI]) <;> omega)
       refine Uh (zU (D := zeroCs.toArray) rfl rfl stO (by simpa using hC.len) rfl rfl) ?_
       refine goU ?_
       refine Ev.TQ_TB (Ev.TBQ_then (Ev.TB_ret (Ev.TBQ_thenX (by simp) ?_)))
       refine Ev.TBQ_heap (L' := (b, Ev.shutO) :: ((b2, Obj.cells zeroCs.toArray 36 (0, 0)) :: (b3, Obj.cells #[.int .i64 0] 3 (0, 0)) :: (b4, Obj.cells #[.int .i64 inv] 31 (0, 0)) :: L)) (fun w h => by
        have h' : Heap G w ((b2, Obj.cells zeroCs.toArray 36 (0, 0)) :: (b3, Obj.cells #[.int .i64 0] 3 (0, 0)) :: (b4, Obj.cells #[.int .i64 inv] 31 (0, 0)) :: (b, Ev.shutO) :: L) := h
        exact Heap.cnt h' (by intro p; (try simp only [jw, jC, jI]) <;> omega)) ?_
       refine yo ?_
       refine U9 2 36 3 3 4 31 rfl rfl rfl rfl stO (by kernel_rfl) (by kernel_rfl) (by exact uD) (by exact uD) (by exact uD) rfl rfl rfl (SRes.nothing (L := L) 0 inv) (by intro p; (try simp only [jw, jC, jI]) <;> omega)
     · subst hi0
       have hrs : Cn.restS (cf, wrong, 0) k rows = (y, 0, 0) := by
        unfold Cn.restS
        rw [if_neg hi3', hgo]
        exact (if_neg hn2).trans (if_neg (fun q => q rfl))
       rw [hrs]
       have d3 : ((0 : Int) != 0) = false := rfl
       rw [d3]
       refine Ev.TB_false rfl (Ev.TB_skip (Ev.TBQ_then (Ev.TB_seq (Ev.TB_region ?_))))
       refine kA (L' := (b2, Obj.cells C.toArray 36 (0, 0)) :: (b3, Obj.cells #[.int .i64 0] 3 (0, 0)) :: (b4, Obj.cells #[.int .i64 0] 31 (0, 0)) :: (b, Ev.shutO) :: (B ++ (Bz ++ L))) ?_ (by intro p; (try simp only [jw, jC, jI]) <;> omega)
       have hC2 := hC
       obtain ⟨a1, c1, B1, a2, c2, B2, rfl, r1, r2, rfl⟩ := hC.ex
       refine goU ?_
       refine Ev.TQ_TB (Ev.TBQ_then (Ev.TB_ret ?_))
       refine Ev.TBQ_heap (L' := (b, Ev.shutO) :: ((b2, Obj.cells (scC y (.slice az cf.zs.length cz) (.slice a1 y.first.length c1) (.slice a2 y.evs.length c2)).toArray 36 (0, 0)) :: (b3, Obj.cells #[.int .i64 0] 3 (0, 0)) :: (b4, Obj.cells #[.int .i64 0] 31 (0, 0)) :: ((B1 ++ B2) ++ (Bz ++ L)))) (fun w h => by
        have h' : Heap G w ((b2, Obj.cells (scC y (.slice az cf.zs.length cz) (.slice a1 y.first.length c1) (.slice a2 y.evs.length c2)).toArray 36 (0, 0)) :: (b3, Obj.cells #[.int .i64 0] 3 (0, 0)) :: (b4, Obj.cells #[.int .i64 0] 31 (0, 0)) :: (b, Ev.shutO) :: ((B1 ++ B2) ++ (Bz ++ L))) := h
        exact Heap.cnt h' (by intro p; (try simp only [jw, jC, jI]) <;> omega)) ?_
       refine yo ?_
       have hcf : y.cf = cf := afF rows 0 _ hgo
       refine U9 2 36 3 3 4 31 rfl rfl rfl rfl stO (by kernel_rfl) (by kernel_rfl) (by exact uD) (by exact uD) (by exact uD) rfl rfl rfl (M := (B1 ++ B2) ++ (Bz ++ L)) ⟨az, cz, Bz, _, B1 ++ B2, rfl, by rw [hcf]; exact hBz, by rw [hcf]; exact hC2, rfl⟩ (by intro p; (try simp only [jw, jC, jI]) <;> omega)
end Go.Proofs.YtkpblofmoalnoaaGreatDoor
namespace Go.Proofs.YtkpblofmoalnoaaGreatDoor
open Go.RowKit
open Cn (Zo Cf Scr Evn)
namespace Cn
theorem atD_at {l : Bytes} : ∀ (ls : List Bytes) (k : Nat), k ≤ atD ls → ls[k]? = some l → isSeed l = true → atD ls = k
 | [], k, _, h, _ => by simp at h
 | a :: t, 0, _, h, hs => by
   have e : a = l := by simpa using h
   subst e
   unfold atD
   rw [hs]
   rfl
 | a :: t, k + 1, hk, h, hs => by
   unfold atD at hk ⊢
   cases ha : isSeed a with
   | true => rw [ha] at hk; simp at hk
   | false =>
     rw [ha] at hk
     have hk : k + 1 ≤ atD t + 1 := hk
     have := atD_at t k (by omega) (by simpa using h) hs
     show atD t + 1 = k + 1
     omega
theorem atD_next {l : Bytes} : ∀ (ls : List Bytes) (k : Nat), k ≤ atD ls → ls[k]? = some l → isSeed l = false → k + 1 ≤ atD ls
 | [], k, _, h, _ => by simp at h
 | a :: t, 0, _, h, hs => by
   have e : a = l := by simpa using h
   subst e
   unfold atD
   rw [hs]
   show 0 + 1 ≤ atD t + 1
   omega
 | a :: t, k + 1, hk, h, hs => by
   unfold atD at hk ⊢
   cases ha : isSeed a with
   | true => rw [ha] at hk; simp at hk
   | false =>
     rw [ha] at hk
     have hk : k + 1 ≤ atD t + 1 := hk
     have := atD_next t k (by omega) (by simpa using h) hs
     show k + 1 + 1 ≤ atD t + 1
     omega
theorem unlines_snoc (ls : List Bytes) (l : Bytes) : unlines (ls ++ [l]) [] = unlines ls [] ++ l ++ [10] := by simp [unlines]
theorem goS_step {rs : List Bytes} {n : Nat} {l : Bytes} {x0 y z : Scr} (h : goS 0 (linesR (rs.take n)) x0 = .inr (n, y)) (hl : rs[n]? = some l) (ht : takeP (n + 1) (spl 32 l) y = some z) : goS 0 (linesR (rs.take (n + 1))) x0 = .inr (n + 1, z) := by
 have e : linesR (rs.take (n + 1)) = linesR (rs.take n) ++ [(l, true)] := by unfold linesR; rw [List.take_add_one, hl, List.map_append]; rfl
 rw [e, yO, h]
 show (if true then match takeP (n + 1) (spl 32 l) y with | some y => goS (n + 1) [] y | none => .inl (n + 1) else _) = _
 rw [ht]
 rfl
theorem goS_stop {rs : List Bytes} {n : Nat} {l : Bytes} {x0 y : Scr} (h : goS 0 (linesR (rs.take n)) x0 = .inr (n, y)) (hl : rs[n]? = some l) (ht : takeP (n + 1) (spl 32 l) y = none) : goS 0 (linesR rs) x0 = .inl (n + 1) := by
 have hn : n < rs.length := by
  obtain ⟨h1, _⟩ := List.getElem?_eq_some_iff.1 hl
  exact h1
 have e : linesR rs = linesR (rs.take n) ++ ((l, true) :: linesR (rs.drop (n + 1))) := by
  have e2 : rs = rs.take n ++ (l :: rs.drop (n + 1)) := by
   obtain ⟨h1, h2⟩ := List.getElem?_eq_some_iff.1 hl
   rw [← h2, ← List.drop_eq_getElem_cons h1, List.take_append_drop]
  conv => lhs; rw [e2]
  unfold linesR
  rw [List.map_append]
  rfl
 rw [e, yO, h]
 show (if true then match takeP (n + 1) (spl 32 l) y with | some y => goS (n + 1) (linesR (rs.drop (n + 1))) y | none => .inl (n + 1) else _) = _
 rw [ht]
 rfl
end Cn
variable {G : World} {L : jc}
section
variable {P : Program} {n : Nat} {ρ : jn} {ty : TypeId} {Q : Exit → Act → World → Prop} {ops : Array Oper}
theorem QM {fn : Func} {Φ : Value → jc → Prop} (a t u s : Nat) {b k : Nat} {C : Array Value} {te : TypeId} {fr : Nat × Nat} {x y : Value} {M : jc} (hr : fn.results = #[.cell a t, .tmp u, .tmp s]) (hv : ρ.lookup a = some (.pointer (some ⟨b, 0, none⟩))) (hx : ρ.lookup u = some x) (hy : ρ.lookup s = some y) (h : Φ (.tuple #[.agg C, x, y]) M) (hf : Fits M L)
 (ht : j8 P t k = true := by exact stO) (hm : (b, Obj.cells C te fr) ∈ L := by exact uD) (hk : C.size = k := by exact rfl) : TQ G n ρ L .ret (bodyPost P fn (jU G Φ)) := kj a t u s hr hv hx hy ht hm hk (fun w hw => hw.cnt hf.out) h
end
theorem afH (s : Nm.Bytes) (hs : s.length ≤ 200000) : Spec Tryz.prog G 11 #[.string (bs s)] L fun u M => ∃ a cap B, u = .tuple #[.slice a (Cn.linesP s).1.length cap, .string (bs (Cn.linesP s).2)] ∧ ORow WH 9 1 [] a cap (Cn.linesP s).1 B ∧ M = B ++ L := by
 refine ju (n := 30) Tryz.func11 rfl rfl rfl ?_
 refine goU ?_
 refine jK (σ := (Nat × Nat) × List Nm.Bytes × Option Addr × Nat × jc) (fun x => (x.1.1 ≤ x.1.2 ∧ x.1.2 ≤ s.length) ∧ (10 : UInt8) ∉ (s.take x.1.2).drop x.1.1 ∧ x.2.1.length ≤ x.1.1 ∧ Cn.linesP s = (x.2.1 ++ (Cn.linesP (s.drop x.1.1)).1, (Cn.linesP (s.drop x.1.1)).2) ∧ ORow WH 9 1 [] x.2.2.1 x.2.2.2.1 x.2.1 x.2.2.2.2)
  (fun x => [(0, .string (bs s)), (4, .slice x.2.2.1 x.2.1.length x.2.2.2.1), (5, .int .i64 (x.1.1 : Nat)), (6, .int .i64 (x.1.2 : Nat))]) (fun x => x.2.2.2.2 ++ L) (fun x => s.length - x.1.2) ((0, 0), [], none, 0, []) ⟨⟨Nat.le_refl _, Nat.zero_le _⟩, by simp, by simp, by simp, ORow.nil _⟩ ?_ (fun w h => h) ?_
 · exact jL
 rintro ⟨⟨f, i⟩, out, a, cap, B⟩ ⟨⟨hfi, hil⟩, h10, ho, he, hB⟩
 dsimp only at hfi hil h10 ho he hB ⊢
 by_cases hlt : i < s.length
 · obtain ⟨c, hc⟩ : ∃ c, s[i]? = some c := ⟨_, List.getElem?_eq_getElem hlt⟩
   have hcb := c.toNat_lt
   by_cases hc10 : c.toNat = 10
   rotate_left
   · have hcn : c ≠ 10 := fun e => hc10 (by rw [e]; rfl)
     refine goU ?_
     refine jz ((f, i + 1), out, a, cap, B) ⟨⟨by dsimp only; omega, by dsimp only; omega⟩, ?_, ho, he, hB⟩ ?_ (fun _ h => h) (by dsimp only; omega)
     · dsimp only
       rw [Z6 hfi hc, List.mem_append]
       rintro (q | q)
       · exact h10 q
       · exact hcn (List.mem_singleton.1 q).symm
     exact jL
   have hc' : c = 10 := UInt8.toNat_inj.1 hc10
   have hdl := Wh hfi hc
   rw [hc'] at hdl
   obtain ⟨l, hl⟩ : ∃ l, (s.take i).drop f = l := ⟨_, rfl⟩
   rw [hl] at hdl h10
   rw [hdl, Cn.linesP_line l _ h10] at he
   dsimp only at he
   have hll : l.length ≤ 200000 := by rw [← hl, List.length_drop, List.length_take]; omega
   have hsl : List.drop (f : Int).toNat (List.take (i : Int).toNat s) = l := by rw [Int.toNat_natCast, Int.toNat_natCast]; exact hl
   have hnew : (10 : UInt8) ∉ (s.take (i + 1)).drop (i + 1) := by rw [List.drop_eq_nil_of_le (by rw [List.length_take]; omega)]; simp
   refine goU ?_
   rw [hsl]
   refine jD ?_
   intro bL
   refine V7 l hB (cs := [.string (bs l)]) ⟨rfl, by unfold maxLen; omega⟩ ?_
   intro a' c' B' hB'
   refine goU ?_
   refine jz ((i + 1, i + 1), out ++ [l], a', c', B') ⟨⟨Nat.le_refl _, by dsimp only; omega⟩, hnew, by simp; omega, by dsimp only; rw [he]; simp, hB'⟩ ?_ (fun w h => h) (by dsimp only; omega)
   exact jL
 · obtain rfl : i = s.length := by omega
   rw [List.take_length] at h10
   rw [Cn.linesP_end _ h10] at he
   dsimp only at he
   rw [List.append_nil] at he
   rw [he]
   refine goU ?_
   refine kq 2 3 rfl rfl rfl ⟨a, cap, B, ?_, hB, rfl⟩ jH
   dsimp only
   rw [Int.toNat_natCast]
theorem Wk (s : Nm.Bytes) : (Cn.linesP s).1.length ≤ s.length := by
 unfold Cn.linesP
 have := qJ 10 s
 dsimp only
 rw [List.length_dropLast]
 omega
theorem Vi (s : Nm.Bytes) : 0 ≤ (Cn.parseP theT s).2.1 ∧ (Cn.parseP theT s).2.1 ≤ (s.length : Int) + 1 := by
 have h := Wk s
 unfold Cn.parseP
 split
 · dsimp only; omega
 · split
   · rename_i k hg
     have := (Cn.goP_inl _ 0 k [] [] hg).2.1
     dsimp only
     omega
   · split
     · dsimp only; omega
     · split
       · dsimp only; omega
       · dsimp only; omega
structure DIn (x : Scr) (cv : Value) (C : List Value) (B : jc) : Prop where
 ex : ∃ a1 c1 B1 a2 c2 B2, C = scC x cv (.slice a1 x.first.length c1) (.slice a2 x.evs.length c2) ∧ ORow Ym 26 1 [] a1 c1 x.first B1 ∧ ORow evR 60 4 [] a2 c2 x.evs B2 ∧ B = B1 ++ B2
def DRes (r : Scr × Int × Int) (L : jc) (u : Value) (M : jc) : Prop := ∃ a cap Bz C B, u = .tuple #[.agg C.toArray, .int .i64 r.2.1, .int .i64 r.2.2] ∧ ORow zoR 45 3 [] a cap r.1.cf.zs Bz ∧ DIn r.1 (.slice a r.1.cf.zs.length cap) C B ∧ M = B ++ (Bz ++ L)
theorem afI : DIn Cn.zeroS (.slice none 0 0) zeroCs [] := ⟨none, 0, [], none, 0, [], rfl, ORow.nil _, ORow.nil _, rfl⟩
theorem DRes.nothing (line e : Int) : DRes (Cn.zeroS, line, e) L (.tuple #[.agg zeroCs.toArray, .int .i64 line, .int .i64 e]) L := ⟨none, 0, [], zeroCs, [], rfl, ORow.nil _, afI, rfl⟩
theorem afJ (s : Nm.Bytes) (hs : s.length ≤ 40000) : Spec Tryz.prog G 5 #[.string (bs s)] L (DRes (Cn.parseS theT s) L) := by
 have hdeq := Cn.parseD_eq (T := theT) (s := s) (by omega)
 rw [hdeq]
 clear hdeq
 refine ju (n := 146) Tryz.func5 rfl rfl rfl ?_
 refine jT ?_
 refine goW ?_
 refine jx ?_
 intro b2
 refine goW ?_
 refine jT (jT ?_)
 refine goW ?_
 refine jT ?_
 refine goW ?_
 refine uA (afH (L := (b2, Obj.cells zeroCs.toArray 30 (0, 0)) :: L) s (by omega)) ?_
 rintro _ _ ⟨al, cl, Bl, rfl, hBl, rfl⟩
 obtain ⟨hu, hc10, hr10⟩ := Cn.un_lines s
 obtain ⟨ls, r, hls⟩ : ∃ ls r, Cn.linesP s = (ls, r) := ⟨_, _, rfl⟩
 rw [hls] at hu hc10 hr10 hBl ⊢
 dsimp only at hu hc10 hr10 hBl ⊢
 have hulen := Cn.unlines_len ls r
 rw [hu] at hulen
 have hlsn : ls.length ≤ 40000 := by
  have := Wk s
  rw [hls] at this
  dsimp only at this
  omega
 have hll : ∀ l ∈ ls, l.length ≤ 40000 := fun l hl => by
  have h1 : l.length ≤ (Cn.unlines ls []).length := by
   obtain ⟨a, b, rfl⟩ := List.append_of_mem hl
   simp [Cn.unlines]
   omega
  omega
 have hatle := Cn.atD_le ls
 refine goW ?_
 refine jT ?_
 refine goW ?_
 refine jT ?_
 refine goW ?_
 refine jT ?_
 refine abk (σ := Unit) (fun _ => True) (fun _ => [(2, .pointer (some ⟨b2, 0, none⟩)), (5, .slice al ls.length cl), (6, .string (bs r)), (7, .string (bs (Cn.unlines (ls.take (Cn.atD ls)) []))), (8, .int .i64 (Cn.atD ls : Nat))]) (fun _ => Bl ++ ((b2, Obj.cells zeroCs.toArray 30 (0, 0)) :: L)) ?_ ?_
 · refine um ?_
   refine jK (σ := Nat) (fun k => k ≤ Cn.atD ls) (fun k => [(2, .pointer (some ⟨b2, 0, none⟩)), (5, .slice al ls.length cl), (6, .string (bs r)), (7, .string (bs (Cn.unlines (ls.take k) []))), (8, .int .i64 (k : Nat))]) (fun _ => Bl ++ ((b2, Obj.cells zeroCs.toArray 30 (0, 0)) :: L)) (fun k => ls.length - k) 0 (Nat.zero_le _) ?_ (fun _ h => h) ?_
   · exact jL
   intro k hk
   by_cases hlt : k < ls.length
   · obtain ⟨l, hl⟩ : ∃ l, ls[k]? = some l := ⟨_, List.getElem?_eq_getElem hlt⟩
     have hlb := hll l (List.mem_of_getElem? hl)
     obtain ⟨bl, cur, rfl, rfl, hcap, hmax, hcell⟩ := yg hBl (fun e => by rw [e] at hlt; simp at hlt)
     have dk : cur[0 + (k : Int).toNat * 1]? = some (.string (bs l)) := by rw [Int.toNat_natCast]; exact hcell k l hl
     have hub := Cn.unlines_take ls k
     refine goU ?_
     refine ahB (yf (L := [(bl, Obj.cells cur 9 (0, 0))] ++ ((b2, Obj.cells zeroCs.toArray 30 (0, 0)) :: L)) l (by omega)) ?_
     rintro _ _ ⟨aw, cw, Bw, rfl, hBw, rfl⟩
     obtain ⟨t, hw⟩ := Cn.spl_head l
     have hsd := Cn.isSeed_word l
     obtain ⟨w0, hw0⟩ : ∃ w0, l.takeWhile (fun c => c != 32) = w0 := ⟨_, rfl⟩
     rw [hw0] at hw hsd
     obtain ⟨bw, curw, rfl, rfl, hcw, hmw, hcellw⟩ := yg hBw (Cn.spl_ne 32 l)
     rw [hw] at hcw hcellw ⊢
     rw [List.length_cons] at hcw ⊢
     have d0 := hcellw 0 w0 rfl
     clear hBw
     cases hseed : Cn.isSeed l with
     | true =>
       rw [hseed] at hsd
       have hw1 : w0 = [115, 101, 101, 100] := by simpa [Cn.seedW] using hsd.symm
       have e := Cn.atD_at ls k hk hl hseed
       rw [e]
       refine goU ?_
       exact zj () trivial jL (fun w h => Heap.cnt h (by intro p; (try simp only [jw, jC, jI]) <;> omega))
     | false =>
       rw [hseed] at hsd
       have hw1 : w0 ≠ [115, 101, 101, 100] := by simpa [Cn.seedW] using hsd.symm
       have hn := Cn.atD_next ls k hk hl hseed
       have htk : Cn.unlines (ls.take (k + 1)) [] = Cn.unlines (ls.take k) [] ++ l ++ [10] := by
        rw [List.take_add_one, hl]
        exact Cn.unlines_snoc _ _
       refine goU ?_
       refine jl (kF rfl rfl (yw (by simp; omega))) rfl ?_
       refine goU ?_
       refine jz (k + 1) hn ?_ (fun w h => Heap.cnt h (by intro p; (try simp only [jw, jC, jI]) <;> omega)) (by omega)
       rw [htk]
       exact jL
   · have hkl : k = ls.length := by omega
     have e : Cn.atD ls = k := by omega
     rw [e]
     refine goU ?_
     exact zj () trivial jL (fun w h => h)
 intro _ _
 refine jT ?_
 have hhl := Cn.head_len ls r
 rw [hu] at hhl
 have hub := Cn.unlines_take ls (Cn.atD ls)
 refine abk (σ := Unit) (fun _ => True) (fun _ => [(2, .pointer (some ⟨b2, 0, none⟩)), (5, .slice al ls.length cl), (6, .string (bs r)), (7, .string (bs (Cn.headD ls r))), (8, .int .i64 (Cn.atD ls : Nat))]) (fun _ => Bl ++ ((b2, Obj.cells zeroCs.toArray 30 (0, 0)) :: L)) ?_ ?_
 · by_cases hat : Cn.atD ls = ls.length
   · refine goU ?_
     refine ahB (yf (L := Bl ++ ((b2, Obj.cells zeroCs.toArray 30 (0, 0)) :: L)) r (by omega)) ?_
     rintro _ _ ⟨aw, cw, Bw, rfl, hBw, rfl⟩
     obtain ⟨t, hw⟩ := Cn.spl_head r
     have hsd := Cn.isSeed_word r
     obtain ⟨w0, hw0⟩ : ∃ w0, r.takeWhile (fun c => c != 32) = w0 := ⟨_, rfl⟩
     rw [hw0] at hw hsd
     obtain ⟨bw, curw, rfl, rfl, hcw, hmw, hcellw⟩ := yg hBw (Cn.spl_ne 32 r)
     rw [hw] at hcw hcellw ⊢
     rw [List.length_cons] at hcw ⊢
     have d0 := hcellw 0 w0 rfl
     clear hBw
     cases hseed : Cn.isSeed r with
     | true =>
       rw [hseed] at hsd
       have hw1 : w0 = [115, 101, 101, 100] := by simpa [Cn.seedW] using hsd.symm
       have e : Cn.headD ls r = Cn.unlines (ls.take (Cn.atD ls)) [] := by
        unfold Cn.headD
        rw [if_neg (fun q => by rw [hseed] at q; cases q.2)]
       rw [e]
       refine goU ?_
       exact zj () trivial jL (fun w h => Heap.cnt h (by intro p; (try simp only [jw, jC, jI]) <;> omega))
     | false =>
       rw [hseed] at hsd
       have hw1 : w0 ≠ [115, 101, 101, 100] := by simpa [Cn.seedW] using hsd.symm
       have e : Cn.headD ls r = Cn.unlines (ls.take (Cn.atD ls)) [] ++ r := by
        unfold Cn.headD
        rw [if_pos ⟨hat, hseed⟩]
        simp [Cn.unlines]
       rw [e]
       refine goU ?_
       exact zj () trivial jL (fun w h => Heap.cnt h (by intro p; (try simp only [jw, jC, jI]) <;> omega))
   · have e : Cn.headD ls r = Cn.unlines (ls.take (Cn.atD ls)) [] := by
      unfold Cn.headD
      rw [if_neg (fun q => hat q.1)]
     rw [e]
     refine goU ?_
     exact zj () trivial jL (fun w h => h)
 intro _ _
 refine goU ?_
 refine uA (afD (L := Bl ++ ((b2, Obj.cells zeroCs.toArray 30 (0, 0)) :: L)) (Cn.headD ls r) (by omega)) ?_
 rintro _ _ ⟨az, cz, Bz, rfl, hBz, rfl⟩
 have hinv := Cn.parseP_inv (T := theT) (s := Cn.headD ls r) (by omega)
 have hD : ∀ q, Cn.parseD theT ls r = q → Cn.parseD theT ls r = q := fun _ h => h
 unfold Cn.parseD at hD ⊢
 have hwle := Vi (Cn.headD ls r)
 obtain ⟨⟨cf, wrong, inv⟩, hpp⟩ : ∃ p, Cn.parseP theT (Cn.headD ls r) = p := ⟨_, rfl⟩
 rw [hpp] at hinv hBz hwle ⊢
 clear hD
 dsimp only at hinv hBz hwle ⊢
 unfold Ql
 refine goU ?_
 refine jx ?_
 intro b9
 refine goU ?_
 by_cases h3 : inv = 3
 · rw [if_pos h3]
   subst h3
   refine goU ?_
   exact QM 2 30 3 4 rfl rfl rfl rfl (DRes.nothing wrong 3) jH
 rw [if_neg h3]
 refine goU ?_
 refine jx ?_
 intro b12
 refine goU ?_
 obtain ⟨x0, hx0⟩ : ∃ x0 : Scr, x0 = { Cn.zeroS with cf := cf } := ⟨_, rfl⟩
 rw [← hx0]
 refine jK (σ := Nat × Scr × (Option Addr × Nat × jc) × (Option Addr × Nat × jc)) (fun x => Cn.goS 0 (Cn.linesR ((ls.drop (Cn.atD ls)).take x.1)) x0 = .inr (x.1, x.2.1) ∧ Cn.atD ls + x.1 ≤ ls.length ∧ x.2.1.cf = cf ∧ Small x.1 x.2.1 ∧ ORow Ym 26 1 [] x.2.2.1.1 x.2.2.1.2.1 x.2.1.first x.2.2.1.2.2 ∧ ORow evR 60 4 [] x.2.2.2.1 x.2.2.2.2.1 x.2.1.evs x.2.2.2.2.2)
  (fun x => [(2, .pointer (some ⟨b2, 0, none⟩)), (5, .slice al ls.length cl), (6, .string (bs r)), (8, .int .i64 (Cn.atD ls : Nat)), (11, .int .i64 inv), (12, .pointer (some ⟨b12, 0, none⟩)), (13, .int .i64 ((Cn.atD ls + x.1 : Nat) : Int))])
  (fun x => (b2, Obj.cells zeroCs.toArray 30 (0, 0)) :: (b12, Obj.cells (scC x.2.1 (.slice az cf.zs.length cz) (.slice x.2.2.1.1 x.2.1.first.length x.2.2.1.2.1) (.slice x.2.2.2.1 x.2.1.evs.length x.2.2.2.2.1)).toArray 30 (0, 0)) :: (x.2.2.1.2.2 ++ (x.2.2.2.2.2 ++ (Bz ++ (Bl ++ L)))))
  (fun x => ls.length - (Cn.atD ls + x.1)) (0, x0, (none, 0, []), (none, 0, [])) ⟨by subst hx0; rfl, by dsimp only; omega, by subst hx0; rfl, by subst hx0; exact ⟨by omega, fun _ => rfl, Nat.le_refl _, by show (0 : Nat) ≤ 256; omega⟩, by subst hx0; exact ORow.nil _, by subst hx0; exact ORow.nil _⟩ ?_ (fun w h => by
    subst hx0
    have h' : Heap G w ((b12, Obj.cells (scC { Cn.zeroS with cf := cf } (.slice az cf.zs.length cz) (.slice none 0 0) (.slice none 0 0)).toArray 30 (0, 0)) :: (b9, Obj.cells (jg cf (.slice az cf.zs.length cz)).toArray 25 (0, 0)) :: (Bz ++ (Bl ++ ((b2, Obj.cells zeroCs.toArray 30 (0, 0)) :: L)))) := h
    show Heap G w ((b2, Obj.cells zeroCs.toArray 30 (0, 0)) :: (b12, Obj.cells (scC { Cn.zeroS with cf := cf } (.slice az cf.zs.length cz) (.slice none 0 0) (.slice none 0 0)).toArray 30 (0, 0)) :: (Bz ++ (Bl ++ L)))
    exact Heap.cnt h' (by intro p; (try simp only [jw, jC, jI]) <;> omega)) ?_
 · subst hx0
   exact jL
 rintro ⟨n, y, ⟨a1, c1, B1⟩, ⟨a2, c2, B2⟩⟩ ⟨hg, hn, hcf, hsm, hB1, hB2⟩
 dsimp only at hg hn hcf hsm hB1 hB2 ⊢
 have hev := hsm.evs
 have hfl := hsm.len
 by_cases hlt : Cn.atD ls + n < ls.length
 rotate_left
 · have hall : (ls.drop (Cn.atD ls)).take n = ls.drop (Cn.atD ls) := List.take_of_length_le (by rw [List.length_drop]; omega)
   rw [hall] at hg
   rw [hg]
   dsimp only
   by_cases hr0 : r = []
   rotate_left
   · rw [if_pos (Or.inl hr0)]
     refine goU ?_
     exact QM 2 30 3 4 rfl rfl rfl rfl (DRes.nothing _ 3) jH
   by_cases hn2 : ls.length < Cn.atD ls + 2
   · rw [if_pos (Or.inr hn2)]
     refine goU ?_
     exact QM 2 30 3 4 rfl rfl rfl rfl (DRes.nothing _ 3) jH
   rw [if_neg (fun q => q.elim (fun q => q hr0) hn2)]
   by_cases hi0 : inv = 0
   rotate_left
   · rw [if_pos hi0]
     refine goU ?_
     exact QM 2 30 3 4 rfl rfl rfl rfl (DRes.nothing 0 1) jH
   rw [if_neg (fun q => q hi0)]
   refine goU ?_
   refine QM 2 30 3 4 (C := (scC y (.slice az cf.zs.length cz) (.slice a1 y.first.length c1) (.slice a2 y.evs.length c2)).toArray) (M := (B1 ++ B2) ++ (Bz ++ L)) rfl rfl rfl rfl ⟨az, cz, Bz, scC y (.slice az cf.zs.length cz) (.slice a1 y.first.length c1) (.slice a2 y.evs.length c2), B1 ++ B2, rfl, by rw [hcf]; exact hBz, by rw [hcf]; exact ⟨a1, c1, B1, a2, c2, B2, rfl, hB1, hB2, rfl⟩, rfl⟩ jH
 obtain ⟨l, hl⟩ : ∃ l, ls[Cn.atD ls + n]? = some l := ⟨_, List.getElem?_eq_getElem hlt⟩
 have hrs : (ls.drop (Cn.atD ls))[n]? = some l := by rw [List.getElem?_drop]; exact hl
 have hlb := hll l (List.mem_of_getElem? hl)
 obtain ⟨bl, cur, rfl, rfl, hcap, hmax, hcell⟩ := yg hBl (fun e => by rw [e] at hlt; simp at hlt)
 have dk : cur[0 + ((Cn.atD ls + n : Nat) : Int).toNat * 1]? = some (.string (bs l)) := by rw [Int.toNat_natCast]; exact hcell _ l hl
 by_cases hn0 : n = 0
 · subst hn0
   have ht : Cn.takeP (0 + 1) (Cn.spl 32 l) y = (Cn.seedP (Cn.spl 32 l)).map fun v => { y with seed := v } := rfl
   refine goU ?_
   refine uE (ahc l (by omega)) ?_
   unfold abn
   cases hsd : Cn.seedP (Cn.spl 32 l) with
   | none =>
     rw [Cn.goS_stop hg hrs (by rw [ht, hsd]; rfl)]
     dsimp only
     refine goU ?_
     exact QM 2 30 3 4 rfl rfl rfl rfl (DRes.nothing _ 3) jH
   | some v =>
     have htk : Cn.takeP (0 + 1) (Cn.spl 32 l) y = some { y with seed := v } := by rw [ht, hsd]; rfl
     refine goU ?_
     refine jz (0 + 1, { y with seed := v }, (a1, c1, B1), (a2, c2, B2)) ⟨Cn.goS_step hg hrs htk, by dsimp only; omega, hcf, yX hsm (by omega) htk, hB1, hB2⟩ ?_ (fun w h => h) (by dsimp only; omega)
     exact jL
 by_cases hn1 : n = 1
 · subst hn1
   have hfst : y.first = [] := hsm.first (by omega)
   have ht : Cn.takeP (1 + 1) (Cn.spl 32 l) y = (Cn.tapeP (Cn.spl 32 l)).map fun v => { y with first := v } := rfl
   refine goU ?_
   refine uA (ahd (L := (b2, Obj.cells zeroCs.toArray 30 (0, 0)) :: (b12, Obj.cells (scC y (.slice az cf.zs.length cz) (.slice a1 y.first.length c1) (.slice a2 y.evs.length c2)).toArray 30 (0, 0)) :: (B1 ++ (B2 ++ (Bz ++ ([(bl, Obj.cells cur 9 (0, 0))] ++ L))))) l (by omega)) ?_
   rintro _ _ ⟨at_, ct, Bt, rfl, hBt, rfl⟩
   cases htp : Cn.tapeP (Cn.spl 32 l) with
   | none =>
     rw [Cn.goS_stop hg hrs (by rw [ht, htp]; rfl)]
     dsimp only
     refine goU ?_
     exact QM 2 30 3 4 rfl rfl rfl rfl (DRes.nothing _ 3) jH
   | some v =>
     rw [htp] at hBt
     have hBt : ORow Ym 26 1 [] at_ ct v Bt := hBt
     have htk : Cn.takeP (1 + 1) (Cn.spl 32 l) y = some { y with first := v } := by rw [ht, htp]; rfl
     refine goU ?_
     refine jz (1 + 1, { y with first := v }, (at_, ct, Bt), (a2, c2, B2)) ⟨Cn.goS_step hg hrs htk, by dsimp only; omega, hcf, yX hsm (by omega) htk, hBt, hB2⟩ ?_ (fun w h => by
      have h' : Heap G w (Bt ++ ((b2, Obj.cells zeroCs.toArray 30 (0, 0)) :: (b12, Obj.cells (scC { y with first := v } (.slice az cf.zs.length cz) (.slice at_ v.length ct) (.slice a2 y.evs.length c2)).toArray 30 (0, 0)) :: (B1 ++ (B2 ++ (Bz ++ ([(bl, Obj.cells cur 9 (0, 0))] ++ L)))))) := h
      exact Heap.cnt h' (by intro p; (try simp only [jw, jC, jI]) <;> omega)) (by dsimp only; omega)
     exact jL
 have ht : Cn.takeP (n + 1) (Cn.spl 32 l) y = (Cn.eventP (Cn.spl 32 l)).map fun v => { y with evs := y.evs ++ [v] } := by
  unfold Cn.takeP
  rw [if_neg (by omega), if_neg (by omega)]
 refine goU ?_
 refine uA (afB (L := (b2, Obj.cells zeroCs.toArray 30 (0, 0)) :: (b12, Obj.cells (scC y (.slice az cf.zs.length cz) (.slice a1 y.first.length c1) (.slice a2 y.evs.length c2)).toArray 30 (0, 0)) :: (B1 ++ (B2 ++ (Bz ++ ([(bl, Obj.cells cur 9 (0, 0))] ++ L))))) l (by omega)) ?_
 rintro _ _ ⟨⟨e, he, rfl, heq⟩, rfl⟩
 refine goU ?_
 refine jx ?_
 intro b15
 refine goU ?_
 refine jD ?_
 intro bL
 refine V7 e hB2 (cs := evC e) he ?_
 intro a' c' B' hB'
 cases hep : Cn.eventP (Cn.spl 32 l) with
 | none =>
   rw [Cn.goS_stop hg hrs (by rw [ht, hep]; rfl)]
   dsimp only
   refine goU ?_
   exact QM 2 30 3 4 rfl rfl rfl rfl (DRes.nothing _ 3) jH
 | some v =>
   obtain rfl := heq v hep
   have htk : Cn.takeP (n + 1) (Cn.spl 32 l) y = some { y with evs := y.evs ++ [v] } := by rw [ht, hep]; rfl
   refine goU ?_
   refine jz (n + 1, { y with evs := y.evs ++ [v] }, (a1, c1, B1), (a', c', B')) ⟨Cn.goS_step hg hrs htk, by dsimp only; omega, hcf, yX hsm (by omega) htk, hB1, hB'⟩ ?_ (fun w h => by
    have h' : Heap G w (B' ++ ((b15, Obj.cells (evC v).toArray 60 (0, 0)) :: (b2, Obj.cells zeroCs.toArray 30 (0, 0)) :: (b12, Obj.cells (scC { y with evs := y.evs ++ [v] } (.slice az cf.zs.length cz) (.slice a1 y.first.length c1) (.slice a' (y.evs ++ [v]).length c')).toArray 30 (0, 0)) :: (B1 ++ (Bz ++ ([(bl, Obj.cells cur 9 (0, 0))] ++ L))))) := h
    show Heap G w ((b2, Obj.cells zeroCs.toArray 30 (0, 0)) :: (b12, Obj.cells (scC { y with evs := y.evs ++ [v] } (.slice az cf.zs.length cz) (.slice a1 y.first.length c1) (.slice a' (y.evs ++ [v]).length c')).toArray 30 (0, 0)) :: (B1 ++ (B' ++ (Bz ++ ([(bl, Obj.cells cur 9 (0, 0))] ++ L)))))
    exact Heap.cnt h' (by intro p; (try simp only [jw, jC, jI]) <;> omega)) (by dsimp only; omega)
   exact jL
end Go.Proofs.YtkpblofmoalnoaaGreatDoor
namespace Go.Proofs.YtkpblofmoalnoaaGreatDoor
open Go.RowKit
open Cn (Zo Cf Scr Evn)
theorem afK : Tryz.prog.stoodInHeld 60 = false := by kernel_rfl
theorem ahk (d : Nat) (a : Nm.Bytes) (p q r : Int) (w : World) : (Op.equalIn (d + 1 + 1) 60 (.agg #[.int .u8 p, .int .i64 q, .int .i64 r, .string (bs a)]) (.agg #[.int .u8 p, .int .i64 q, .int .i64 r, .string (bs a)])).run Tryz.prog w = .ok true w := by
 have e1 : ∀ x y : ByteArray, (Op.equalIn (d + 1) 9 (.string x) (.string y)).run Tryz.prog w = .ok (x == y) w := fun x y => Z0 d x y w
 have e2 : ∀ x y : Int, (Op.equalIn (d + 1) 5 (.int .u8 x) (.int .u8 y)).run Tryz.prog w = .ok (x == y) w := fun x y => zA Tryz.underlying5 d x y w
 have e3 : ∀ x y : Int, (Op.equalIn (d + 1) 3 (.int .i64 x) (.int .i64 y)).run Tryz.prog w = .ok (x == y) w := fun x y => zA Tryz.underlying3 d x y w
 have e4 : ∀ x y : Int, (Op.equalIn (d + 1) 2 (.int .i64 x) (.int .i64 y)).run Tryz.prog w = .ok (x == y) w := fun x y => zA Tryz.underlying2 d x y w
 have hb : (bs a == bs a) = true := by rw [afz]; simp
 rw [Op.equalIn]
 simp [run_underlying Tryz.underlying60, afK, part, Tryz.isAgg9, Tryz.isAgg5, Tryz.isAgg3, Tryz.isAgg2, Tryz.sizeOf9, Tryz.sizeOf5, Tryz.sizeOf3, Tryz.sizeOf2, e1, e2, e3, e4, hb]
theorem adH {e : Evn} : Bin Tryz.prog .neq 60 (.agg (evC e).toArray) (.agg (evC e).toArray) (.bool false) := ⟨fun a b w => by
 have h := ahk 9998 e.data e.kind e.frm e.num w
 unfold evC
 simp only [eqGuard, binOp, ql]
 simp [h]⟩
variable {G : World} {L : jc}
theorem afL {x : Scr} {cv a b : Value} : ∀ j v, (jg x.cf cv)[j]? = some v → (scC x cv a b).toArray[0 + j]? = some v := fun j v h => by
 rw [Nat.zero_add, List.getElem?_toArray]
 unfold scC
 rw [List.getElem?_append_left (List.getElem?_eq_some_iff.1 h).1]
 exact h
structure ScL (L : jc) (x : Scr) (cv f e : Value) : Prop where
 zs : sliceR 3 zoR L [cv] x.cf.zs
 first : sliceR 1 Ym L [f] x.first
 evs : sliceR 4 evR L [e] x.evs
theorem ScL.mono {L' : jc} {x : Scr} {cv f e : Value} (h : ScL L x cv f e) (hs : ∀ p ∈ L, p ∈ L') : ScL L' x cv f e := ⟨qp ut _ _ _ _ hs h.zs, qp KG _ _ _ _ hs h.first, qp Q9 _ _ _ _ hs h.evs⟩
theorem ahl (x : Scr) (cv f e cv2 f2 e2 : Value) (h : ScL L x cv f e) (h2 : ScL L x cv2 f2 e2) : Spec Tryz.prog G 7 #[.agg (scC x cv f e).toArray, .agg (scC x cv2 f2 e2).toArray] L fun u M => u = .bool true ∧ M = L := by
 obtain ⟨hz, hf, he⟩ := h
 obtain ⟨hz2, hf2, he2⟩ := h2
 obtain ⟨fa, fc, q, hf⟩ := hf.val
 obtain rfl := (List.cons.inj q).1
 clear q
 obtain ⟨ea, ec, q, he⟩ := he.val
 obtain rfl := (List.cons.inj q).1
 clear q
 obtain ⟨fa2, fc2, q, hf2⟩ := hf2.val
 obtain rfl := (List.cons.inj q).1
 clear q
 obtain ⟨ea2, ec2, q, he2⟩ := he2.val
 obtain rfl := (List.cons.inj q).1
 clear q
 have k1 := (sliceR.cut hf).2
 have k2 := (sliceR.cut he).2
 have k3 := (sliceR.cut hf2).2
 have k4 := (sliceR.cut he2).2
 unfold maxLen at k1 k2 k3 k4
 refine ju (n := 74) Tryz.func7 rfl rfl rfl ?_
 refine jT (jY (kM (qU rfl) rfl ?_))
 intro b1
 refine kM (qU rfl) rfl ?_
 intro b2
 obtain ⟨L2, hL2⟩ : ∃ L2 : jc, L2 = (b2, Obj.cells (scC x cv2 (.slice fa2 x.first.length fc2) (.slice ea2 x.evs.length ec2)).toArray 30 (0, 0)) :: (b1, Obj.cells (scC x cv (.slice fa x.first.length fc) (.slice ea x.evs.length ec)).toArray 30 (0, 0)) :: L := ⟨_, rfl⟩
 have hsub : ∀ p ∈ L, p ∈ L2 := fun p hp => by rw [hL2]; exact List.mem_cons_of_mem _ (List.mem_cons_of_mem _ hp)
 refine goU ?_
 refine jl (ub (jg x.cf cv) rfl stL (by exact uD) afL) rfl ?_
 refine goU ?_
 refine jl (ub (jg x.cf cv2) rfl stL (by exact uD) afL) rfl ?_
 have hs17 := adC (G := G) (L := L2) x.cf x.cf cv cv2 (qp ut _ _ _ _ hsub hz) (qp ut _ _ _ _ hsub hz2)
 rw [afA, decide_eq_true rfl, hL2] at hs17
 refine uE hs17 ?_
 refine goU ?_
 have hh1 : (b1, Obj.cells (scC x cv (.slice fa x.first.length fc) (.slice ea x.evs.length ec)).toArray 30 (0, 0)) ∈ L2 := by rw [hL2]; exact List.mem_cons_of_mem _ (List.mem_cons_self ..)
 clear hs17
 refine jK (σ := Nat) (fun i => i ≤ x.first.length) (fun i => [(2, .pointer (some ⟨b1, 0, none⟩)), (3, .pointer (some ⟨b2, 0, none⟩)), (5, .int .i64 (i : Nat))]) (fun _ => (b2, Obj.cells (scC x cv2 (.slice fa2 x.first.length fc2) (.slice ea2 x.evs.length ec2)).toArray 30 (0, 0)) :: (b1, Obj.cells (scC x cv (.slice fa x.first.length fc) (.slice ea x.evs.length ec)).toArray 30 (0, 0)) :: L) (fun i => x.first.length - i) 0 (Nat.zero_le _) ?_ (fun _ h => h) ?_
 · exact jL
 intro i hi
 by_cases hlt : i < x.first.length
 · obtain ⟨v, hv⟩ : ∃ v, x.first[i]? = some v := ⟨_, List.getElem?_eq_getElem hlt⟩
   obtain ⟨bx, ox, Cx, tx, fx, rfl, mx, csx, _, ⟨rfl, _⟩, hcx⟩ := sliceR.at hf hv
   obtain ⟨bw, ow, Cw, tw, fw, rfl, mw, csw, _, ⟨rfl, _⟩, hcw⟩ := sliceR.at hf2 hv
   have ex : Cx[ox + (i : Int).toNat * 1]? = some (.int .u64 (v : Nat)) := by rw [Int.toNat_natCast]; exact hcx 0 _ rfl
   have ew : Cw[ow + (i : Int).toNat * 1]? = some (.int .u64 (v : Nat)) := by rw [Int.toNat_natCast]; exact hcw 0 _ rfl
   refine goU ?_
   refine jz (i + 1) (by omega) ?_ (fun _ h => h) (by omega)
   exact jL
 refine goU ?_
 refine jK (σ := Nat) (fun i => i ≤ x.evs.length) (fun i => [(2, .pointer (some ⟨b1, 0, none⟩)), (3, .pointer (some ⟨b2, 0, none⟩)), (6, .int .i64 (i : Nat))]) (fun _ => (b2, Obj.cells (scC x cv2 (.slice fa2 x.first.length fc2) (.slice ea2 x.evs.length ec2)).toArray 30 (0, 0)) :: (b1, Obj.cells (scC x cv (.slice fa x.first.length fc) (.slice ea x.evs.length ec)).toArray 30 (0, 0)) :: L) (fun i => x.evs.length - i) 0 (Nat.zero_le _) ?_ (fun _ h => h) ?_
 · exact jL
 intro j hj
 by_cases hlt2 : j < x.evs.length
 · obtain ⟨v, hv⟩ : ∃ v, x.evs[j]? = some v := ⟨_, List.getElem?_eq_getElem hlt2⟩
   obtain ⟨bx, ox, Cx, tx, fx, rfl, mx, csx, _, ⟨rfl, _⟩, hcx⟩ := sliceR.at he hv
   obtain ⟨bw, ow, Cw, tw, fw, rfl, mw, csw, _, ⟨rfl, _⟩, hcw⟩ := sliceR.at he2 hv
   refine goU ?_
   refine jR jo ((b2, Obj.cells (scC x cv2 (.slice fa2 x.first.length fc2) (.slice (some ⟨bw, ow, none⟩) x.evs.length ec2)).toArray 30 (0, 0)) :: (b1, Obj.cells (scC x cv (.slice fa x.first.length fc) (.slice (some ⟨bx, ox, none⟩) x.evs.length ec)).toArray 30 (0, 0)) :: L) [] ?_
   refine tkQ 0 (hK := fun p h => h) ?_
   refine tkQ 1 (hK := fun p h => h) ?_
   refine tkQ 2 (hK := fun p h => h) ?_
   refine tkQ 3 (hK := fun p h => h) ?_
   refine tkQ 4 (hK := fun p h => h) (hq := kz (ub (evC v) rfl stL (List.mem_cons_of_mem _ (List.mem_cons_of_mem _ mx)) hcx)) ?_
   refine tkQ 5 (hK := fun p h => h) ?_
   refine tkQ 6 (hK := fun p h => h) ?_
   refine tkQ 7 (hK := fun p h => h) ?_
   refine tkQ 8 (hK := fun p h => h) ?_
   refine tkQ 9 (hK := fun p h => h) (hq := kz (ub (evC v) rfl stL (List.mem_cons_of_mem _ (List.mem_cons_of_mem _ mw)) hcw)) ?_
   refine tkQ 10 (hK := fun p h => h) (hq := kz (kF rfl rfl adH)) ?_
   refine tdQ ?_
   refine goU ?_
   refine jz (j + 1) (by omega) ?_ (fun _ h => h) (by omega)
   exact jL
 refine goU ?_
 exact kv 4 rfl rfl ⟨rfl, rfl⟩ jH
end Go.Proofs.YtkpblofmoalnoaaGreatDoor
namespace Go.Proofs.YtkpblofmoalnoaaGreatDoor
open Go.RowKit
open Cn (Zo Cf Scr Evn)
variable {G : World} {L : jc}
section
variable {P : Program} {n : Nat} {ρ : jn} {ty : TypeId} {Q : Exit → Act → World → Prop} {ops : Array Oper}
theorem aj0 {fn : Func} {Φ : Value → jc → Prop} (a t : Nat) {b k : Nat} {C : Array Value} {te : TypeId} {fr : Nat × Nat} {M : jc} (hr : fn.results = #[.cell a t]) (hv : ρ.lookup a = some (.pointer (some ⟨b, 0, none⟩))) (h : Φ (.agg C) M) (hf : Fits M L)
 (ht : j8 P t k = true := by exact stO) (hm : (b, Obj.cells C te fr) ∈ L := by exact uD) (hk : C.size = k := by exact rfl) : TQ G n ρ L .ret (bodyPost P fn (jU G Φ)) := WG a t hr hv ht hm hk (fun w hw => hw.cnt hf.out) h
end
theorem afM (x : Scr) (cv f e : Value) (h : ScL L x cv f e) (hn : x.evs.length ≤ 100000) : Spec Tryz.prog G 8 #[.agg (scC x cv f e).toArray] L fun u M => ∃ a c B, u = .agg (scC x cv f (.slice a x.evs.length c)).toArray ∧ ORow evR 60 4 [] a c x.evs B ∧ M = B ++ L := by
 obtain ⟨hz, hf, he⟩ := h
 obtain ⟨fa, fc, q, hf⟩ := hf.val
 obtain rfl := (List.cons.inj q).1
 clear q
 obtain ⟨ea, ec, q, he⟩ := he.val
 obtain rfl := (List.cons.inj q).1
 clear q
 have k1 := (sliceR.cut hf).2
 have k2 := (sliceR.cut he).2
 unfold maxLen at k1 k2
 obtain ⟨za, zc, q, hz⟩ := hz.val
 obtain rfl := (List.cons.inj q).1
 clear q
 refine ju (n := 30) Tryz.func8 rfl rfl rfl ?_
 refine jT (jY (kM (qU rfl) rfl ?_))
 intro b1
 refine jx ?_
 intro b2
 refine goU ?_
 refine jl (ub (jg x.cf (.slice za x.cf.zs.length zc)) rfl stL (by exact uD) afL) rfl ?_
 refine goU ?_
 refine jx ?_
 intro b3
 refine goU ?_
 refine jK (σ := Nat × Option Addr × Nat × jc) (fun y => y.1 ≤ x.evs.length ∧ ORow evR 60 4 [] y.2.1 y.2.2.1 (x.evs.take y.1) y.2.2.2) (fun y => [(1, .pointer (some ⟨b1, 0, none⟩)), (2, .pointer (some ⟨b2, 0, none⟩)), (3, .pointer (some ⟨b3, 0, none⟩)), (4, .int .i64 (y.1 : Nat))])
  (fun y => (b3, Obj.cells (scC x (.slice za x.cf.zs.length zc) (.slice fa x.first.length fc) (.slice y.2.1 (x.evs.take y.1).length y.2.2.1)).toArray 30 (0, 0)) :: (b2, Obj.cells zeroCs.toArray 30 (0, 0)) :: (b1, Obj.cells (scC x (.slice za x.cf.zs.length zc) (.slice fa x.first.length fc) (.slice ea x.evs.length ec)).toArray 36 (0, 0)) :: (y.2.2.2 ++ L)) (fun y => x.evs.length - y.1) (0, none, 0, []) ⟨Nat.zero_le _, by dsimp only; rw [List.take_zero]; exact ORow.nil _⟩ ?_ (fun w h => h) ?_
 · exact jL
 rintro ⟨i, a, c, B⟩ ⟨hi, hB⟩
 dsimp only at hi hB ⊢
 by_cases hlt : i < x.evs.length
 · obtain ⟨v, hv⟩ : ∃ v, x.evs[i]? = some v := ⟨_, List.getElem?_eq_getElem hlt⟩
   obtain ⟨bx, ox, Cx, tx, fx, rfl, mx, csx, _, hev, hcx⟩ := sliceR.at he hv
   obtain rfl : csx = evC v := hev.1
   have htl : (x.evs.take i).length = i := by rw [List.length_take]; omega
   have htk : x.evs.take (i + 1) = x.evs.take i ++ [v] := by rw [List.take_add_one, hv]; rfl
   refine goU ?_
   refine jR jo ((b3, Obj.cells (scC x (.slice za x.cf.zs.length zc) (.slice fa x.first.length fc) (.slice a (x.evs.take i).length c)).toArray 30 (0, 0)) :: (b1, Obj.cells (scC x (.slice za x.cf.zs.length zc) (.slice fa x.first.length fc) (.slice (some ⟨bx, ox, none⟩) x.evs.length ec)).toArray 36 (0, 0)) :: L) [10] ?_
   refine tkQ 0 (hK := j4) ?_
   refine tkQ 1 (hK := j4) ?_
   refine tkQ 2 (hK := j4) ?_
   refine tkQ 3 (hK := j4) ?_
   refine tkQ 4 (hK := j4) ?_
   refine tkQ 5 (hK := j4) ?_
   refine tkQ 6 (hK := j4) (hq := kz (ub (evC v) rfl stL (List.mem_cons_of_mem _ (List.mem_cons_of_mem _ mx)) hcx)) ?_
   refine V9 7 (Q3 (cs := evC v) etO rfl rfl (by show (4 : Nat) ≤ 1000; omega)) ?_
   rintro _ _ ⟨bL, rfl, rfl⟩
   refine ⟨j4, ?_⟩
   have hone : (evC v).all (·.oneCell') = true := rfl
   refine V9 8 (uJ (bytes := 40) (y := v) etO rfl rfl hB rfl (fun v hv => List.all_eq_true.1 hone v hv) hev (by unfold maxLen; omega) (by omega)) ?_
   rintro _ _ ⟨a', c', B', rfl, hB', rfl⟩
   refine ⟨j4, ?_⟩
   refine tkQ 9 (hK := j4) ?_
   refine adw 10 ?_
   refine tdQ ?_
   refine goU ?_
   rw [← htk] at hB'
   refine jz (i + 1, a', c', B') ⟨by dsimp only; omega, hB'⟩ ?_ (fun w h => by
    rw [← htk] at h
    have h' : Heap G w (B' ++ ((b3, Obj.cells (scC x (.slice za x.cf.zs.length zc) (.slice fa x.first.length fc) (.slice a' (x.evs.take (i + 1)).length c')).toArray 30 (0, 0)) :: (b2, Obj.cells zeroCs.toArray 30 (0, 0)) :: (b1, Obj.cells (scC x (.slice za x.cf.zs.length zc) (.slice fa x.first.length fc) (.slice (some ⟨bx, ox, none⟩) x.evs.length ec)).toArray 36 (0, 0)) :: L)) := h
    show Heap G w ((b3, Obj.cells (scC x (.slice za x.cf.zs.length zc) (.slice fa x.first.length fc) (.slice a' (x.evs.take (i + 1)).length c')).toArray 30 (0, 0)) :: (b2, Obj.cells zeroCs.toArray 30 (0, 0)) :: (b1, Obj.cells (scC x (.slice za x.cf.zs.length zc) (.slice fa x.first.length fc) (.slice (some ⟨bx, ox, none⟩) x.evs.length ec)).toArray 36 (0, 0)) :: (B' ++ L))
    exact Heap.cnt h' (by intro p; (try simp only [jw, jC, jI]) <;> omega)) (by dsimp only; omega)
   exact jL
 · have hil : i = x.evs.length := by omega
   subst hil
   rw [List.take_length] at hB ⊢
   refine goU ?_
   exact aj0 2 30 (M := B ++ L) rfl rfl ⟨a, c, B, rfl, hB, rfl⟩ jH
end Go.Proofs.YtkpblofmoalnoaaGreatDoor
namespace Go.Proofs.YtkpblofmoalnoaaGreatDoor
open Go.RowKit
open Cn (Zo Cf Scr Evn)
variable {G : World} {L : jc}
def abv (e : TypeId) (sz : Nat) (a : Option Addr) (n cap : Nat) (B : jc) : Prop := n = 0 ∨ ∃ b cur, a = some ⟨b, 0, none⟩ ∧ B = [(b, Obj.cells cur e (0, 0))] ∧ n ≤ cap ∧ cap ≤ 9223372036854775807 ∧ cur.size = cap * sz
theorem ORow.wrow {α : Type} {r : Rp α} {e : TypeId} {sz : Nat} {L0 : jc} {a : Option Addr} {c : Nat} {l : List α} {B : jc} (h : ORow r e sz L0 a c l B) : abv e sz a l.length c B := by
 by_cases hl : l = []
 · subst hl; exact Or.inl rfl
 · obtain ⟨b, cur, h1, h2, h3, h4, h5, _⟩ := h.block hl
   unfold maxLen at h4
   exact Or.inr ⟨b, cur, h1, h2, h3, by omega, h5⟩
theorem QN {C : Array Value} {o : Nat} {vs : List Value} (h : o + vs.length ≤ C.size) : (jQ C o vs).size = C.size := by simp [jQ]; omega
theorem acs : ∀ (rs : Cn.Rows) (n : Nat) (x : Scr) {m : Nat} {y : Scr}, Cn.goS n rs x = .inr (m, y) → y.evs.length ≤ x.evs.length + rs.length
 | [], n, x, m, y, h => by cases h; exact Nat.le_add_right _ _
 | p :: rs, n, x, m, y, h => by
   rw [Cn.goS] at h
   rw [List.length_cons]
   split at h
   · split at h
     · rename_i z hz
       have h1 := acs rs (n + 1) z h
       have h2 : z.evs.length ≤ x.evs.length + 1 := by
        unfold Cn.takeP at hz
        split at hz
        · obtain ⟨v, _, rfl⟩ := Option.map_eq_some_iff.1 hz; dsimp only; omega
        · split at hz
          · obtain ⟨v, _, rfl⟩ := Option.map_eq_some_iff.1 hz; dsimp only; omega
          · obtain ⟨v, _, rfl⟩ := Option.map_eq_some_iff.1 hz; simp
       omega
     · cases h
   · cases h
theorem abw (s : Nm.Bytes) : (Cn.parseS theT s).1.evs.length ≤ s.length + 1 := by
 have hr := J6 s
 unfold Cn.parseS Cn.parseR Cn.restS
 split
 · show (0 : Nat) ≤ _; omega
 · split
   · show (0 : Nat) ≤ _; omega
   · split
     · show (0 : Nat) ≤ _; omega
     · rename_i n x hj
       have h1 := acs _ _ _ hj
       rw [List.length_drop] at h1
       have h1 : x.evs.length ≤ 0 + ((Cn.rowsP s).length - Cn.kS (Cn.rowsP s)) := h1
       split
       · show (0 : Nat) ≤ _; omega
       · split
         · show (0 : Nat) ≤ _; omega
         · dsimp only; omega
section
variable {P : Program} {n : Nat} {ρ : jn} {ty : TypeId} {Q : Exit → Act → World → Prop} {ops : Array Oper} {L' : jc}
theorem aj1 {x y : Operand} {pos : String} {after : Array Edge} {rest : List Oper} {b off : Nat} {t : TypeId} {C : Array Value} {te : TypeId} (cs : List Value) (hv : off + cs.length ≤ C.size)
 (h : TL P G ops n ρ L' rest Q) (hx : ev ρ x = some (.pointer (some ⟨b, off, none⟩)) := by exact rfl) (hy : ev ρ y = some (.agg cs.toArray) := by exact rfl)
 (h1 : j8 P t cs.length = true := by exact stL) (hu : Upd b (.cells C te (0, 0)) (.cells (jQ C off cs) te (0, 0)) L L' := by exact abc) (hone : cs.all (·.oneCell') = true := by exact rfl) :
 TL P G ops n ρ L (⟨none, .store t x y, ty, pos, after, none⟩ :: rest) Q := by
 obtain ⟨R, p1, p2⟩ := hu.perm
 exact ku p1 (Uh (Um hx hy h1 (fun v hv => List.all_eq_true.1 hone v hv) hv) (ku p2 h))
end
abbrev ScB (b : Nat) (x : Scr) (cv f e : Value) (t : TypeId) : Nat × Obj := (b, Obj.cells (scC x cv f e).toArray t (0, 0))
theorem adI (s : Nm.Bytes) (hs : s.length ≤ maxLen) (hg : GlobA L) : Spec Tryz.prog G 3 #[.string (bs s)] L fun u M => u = .bool true ∧ M = L := by
 unfold maxLen at hs
 refine ju (n := 86) Tryz.func3 rfl rfl rfl ?_
 by_cases hbig : 20000 < s.length
 · refine goU ?_
   refine uE (Ev.awakeE_S hg.laid) ?_
   refine goU ?_
   exact kv 2 rfl rfl ⟨rfl, rfl⟩ kP
 refine goU ?_
 refine uA (afJ (L := L) s (by omega)) ?_
 rintro _ _ ⟨za, zc, Bz, C, B, rfl, hBz, hC, rfl⟩
 have hev := abw s
 obtain ⟨⟨x, line, e⟩, hr⟩ : ∃ r, Cn.parseS theT s = r := ⟨_, rfl⟩
 rw [hr] at hBz hC hev
 simp only [hr]
 dsimp only at hBz hC hev ⊢
 obtain ⟨a1, c1, B1, a2, c2, B2, rfl, r1, r2, rfl⟩ := hC.ex
 refine goU ?_
 refine jx ?_
 intro b3
 refine goU ?_
 refine jK (σ := Nat) (fun k => k ≤ 2) (fun k => [(0, .string (bs s)), (3, .pointer (some ⟨b3, 0, none⟩)), (4, .int .i64 line), (5, .int .i64 e), (6, .int .i64 (k : Nat))]) (fun _ => ScB b3 x (.slice za x.cf.zs.length zc) (.slice a1 x.first.length c1) (.slice a2 x.evs.length c2) 30 :: ((B1 ++ B2) ++ (Bz ++ L))) (fun k => 2 - k) 0 (by omega) ?_ (fun _ h => h) ?_
 · exact jL
 intro k hk
 by_cases hlt : k < 2
 rotate_left
 · refine goU ?_
   refine uA (Ev.awakeE_S (L := L) hg.laid) ?_
   rintro _ _ ⟨rfl, rfl⟩
   refine goU ?_
   exact kv 2 rfl rfl ⟨rfl, rfl⟩ jH
 refine goU ?_
 refine uA (afG (L := ScB b3 x (.slice za x.cf.zs.length zc) (.slice a1 x.first.length c1) (.slice a2 x.evs.length c2) 30 :: ((B1 ++ B2) ++ (Bz ++ L))) s (by omega) (hg.glob.mono fun p hp => List.mem_cons_of_mem _ (List.mem_append_right _ (List.mem_append_right _ hp)))) ?_
 rintro _ _ ⟨ya, yc, By, C', D, rfl, hBy, hC', rfl⟩
 rw [hr] at hBy hC'
 simp only [hr]
 dsimp only at hBy hC' ⊢
 obtain ⟨d1, e1, D1, d2, e2, D2, rfl, q1, q2, rfl⟩ := hC'.ex
 refine goU ?_
 refine jx ?_
 intro b7
 refine goU ?_
 have hb1 : x.evs.length ≤ 20001 := by omega
 obtain ⟨M1, hM1⟩ : ∃ M : jc, M = ScB b7 x (.slice ya x.cf.zs.length yc) (.slice d1 x.first.length e1) (.slice d2 x.evs.length e2) 36 :: ((D1 ++ D2) ++ (By ++ (ScB b3 x (.slice za x.cf.zs.length zc) (.slice a1 x.first.length c1) (.slice a2 x.evs.length c2) 30 :: ((B1 ++ B2) ++ (Bz ++ L))))) := ⟨_, rfl⟩
 have m7 : ScB b7 x (.slice ya x.cf.zs.length yc) (.slice d1 x.first.length e1) (.slice d2 x.evs.length e2) 36 ∈ M1 := by rw [hM1]; exact List.mem_cons_self
 have m3 : ScB b3 x (.slice za x.cf.zs.length zc) (.slice a1 x.first.length c1) (.slice a2 x.evs.length c2) 30 ∈ M1 := by rw [hM1]; exact List.mem_cons_of_mem _ (List.mem_append_right _ (List.mem_append_right _ List.mem_cons_self))
 have n1 : ∀ p ∈ D1, p ∈ M1 := by rw [hM1]; exact j4
 have n2 : ∀ p ∈ D2, p ∈ M1 := by rw [hM1]; exact j4
 have n3 : ∀ p ∈ By, p ∈ M1 := by rw [hM1]; exact j4
 have n4 : ∀ p ∈ B1, p ∈ M1 := by rw [hM1]; exact j4
 have n5 : ∀ p ∈ B2, p ∈ M1 := by rw [hM1]; exact j4
 have n6 : ∀ p ∈ Bz, p ∈ M1 := by rw [hM1]; exact j4
 have s1 : ScL M1 x (.slice ya x.cf.zs.length yc) (.slice d1 x.first.length e1) (.slice d2 x.evs.length e2) := ⟨hBy.sliceR ut (by simp) n3, q1.sliceR KG (by simp) n1, q2.sliceR Q9 (by simp) n2⟩
 have s2 : ScL M1 x (.slice za x.cf.zs.length zc) (.slice a1 x.first.length c1) (.slice a2 x.evs.length c2) := ⟨hBz.sliceR ut (by simp) n6, r1.sliceR KG (by simp) n4, r2.sliceR Q9 (by simp) n5⟩
 rw [← hM1]
 refine jR jo [ScB b7 x (.slice ya x.cf.zs.length yc) (.slice d1 x.first.length e1) (.slice d2 x.evs.length e2) 36, ScB b3 x (.slice za x.cf.zs.length zc) (.slice a1 x.first.length c1) (.slice a2 x.evs.length c2) 30] [] ?_
 have hK1 : ∀ B : jc, ∀ p ∈ [ScB b7 x (.slice ya x.cf.zs.length yc) (.slice d1 x.first.length e1) (.slice d2 x.evs.length e2) 36, ScB b3 x (.slice za x.cf.zs.length zc) (.slice a1 x.first.length c1) (.slice a2 x.evs.length c2) 30], p ∈ B ++ M1 := fun B p hp => by
  simp only [List.mem_cons, List.not_mem_nil, or_false] at hp
  rcases hp with rfl | rfl
  · exact List.mem_append_right _ m7
  · exact List.mem_append_right _ m3
 refine tkQ 0 (hK := hK1 []) ?_
 refine tkQ 1 (hK := hK1 []) ?_
 refine tkQ 2 (hK := hK1 []) ?_
 refine tkQ 3 (hK := hK1 []) ?_
 refine tkQ 4 (hK := hK1 []) ?_
 refine tkQ 5 (hK := hK1 []) ?_
 refine tkQ 6 (hK := hK1 []) ?_
 refine tkQ 7 (hK := hK1 []) ?_
 refine tkQ 8 (hK := hK1 []) ?_
 refine tkQ 9 (hK := hK1 []) ?_
 refine tkQ 11 (hK := hK1 []) ?_
 refine Yj 10 (afM (L := M1) x (.slice ya x.cf.zs.length yc) (.slice d1 x.first.length e1) (.slice d2 x.evs.length e2) s1 (by omega)) ?_ (hf := kP)
 rintro _ _ ⟨a3, c3, B3, rfl, hB3, rfl⟩
 refine ⟨hK1 B3, ?_⟩
 have s3 : ScL (B3 ++ M1) x (.slice ya x.cf.zs.length yc) (.slice d1 x.first.length e1) (.slice a3 x.evs.length c3) := ⟨qp ut _ _ _ _ (fun p hp => List.mem_append_right _ hp) s1.zs, qp KG _ _ _ _ (fun p hp => List.mem_append_right _ hp) s1.first, hB3.sliceR Q9 (by simp) (fun p hp => List.mem_append_left _ hp)⟩
 refine Yj 12 (ahl (L := B3 ++ M1) x (.slice ya x.cf.zs.length yc) (.slice d1 x.first.length e1) (.slice a3 x.evs.length c3) (.slice za x.cf.zs.length zc) (.slice a1 x.first.length c1) (.slice a2 x.evs.length c2) s3 (s2.mono fun p hp => List.mem_append_right _ hp)) ?_ (hf := kP)
 rintro _ _ ⟨rfl, rfl⟩
 refine ⟨hK1 B3, ?_⟩
 refine tkQ 13 (hK := hK1 B3) ?_
 refine tkQ 14 (hK := hK1 B3) ?_
 refine tdQ ?_
 rw [hM1]
 clear hK1 s1 s2 s3 m7 m3 n1 n2 n3 n4 n5 n6
 have w1 : abv 42 4 d2 x.evs.length e2 D2 := q2.wrow
 have w2 : abv 26 1 d1 x.first.length e1 D1 := q1.wrow
 have w3 : abv 45 3 ya x.cf.zs.length yc By := hBy.wrow
 have h1c := q1.cap
 have h2c := q2.cap
 have h3c := hBy.cap
 unfold maxLen at h1c h2c h3c
 refine goU ?_
 refine jK (σ := Nat × jc) (fun y => y.1 ≤ x.evs.length ∧ abv 42 4 d2 x.evs.length e2 y.2) (fun y => [(0, .string (bs s)), (3, .pointer (some ⟨b3, 0, none⟩)), (4, .int .i64 line), (5, .int .i64 e), (6, .int .i64 (k : Nat)), (7, .pointer (some ⟨b7, 0, none⟩)), (10, .int .i64 (y.1 : Nat))])
  (fun y => ScB b7 x (.slice ya x.cf.zs.length yc) (.slice d1 x.first.length e1) (.slice d2 x.evs.length e2) 36 :: (y.2 ++ (D1 ++ (By ++ (ScB b3 x (.slice za x.cf.zs.length zc) (.slice a1 x.first.length c1) (.slice a2 x.evs.length c2) 30 :: ((B1 ++ B2) ++ (Bz ++ L))))))) (fun y => x.evs.length - y.1) (0, D2) ⟨Nat.zero_le _, w1⟩ ?_ (fun w h => Heap.cnt h (by intro p; (try simp only [jw, jC, jI]) <;> omega)) ?_
 · exact jL
 rintro ⟨i, E⟩ ⟨hi, hE⟩
 dsimp only at hi hE ⊢
 by_cases hil : i < x.evs.length
 · obtain h0 | ⟨be, cur, rfl, rfl, hnc, hcm, hsz⟩ := hE
   · omega
   rw [List.singleton_append]
   refine goU ?_
   refine aj1 (off := 0 + i * 4) [.int .u8 9, .int .i64 0, .int .i64 0, .string (bs [])] (by rw [hsz]; show 0 + i * 4 + 4 ≤ e2 * 4; omega) ?_
   refine goU ?_
   refine jz (i + 1, [(be, Obj.cells (jQ cur (0 + i * 4) [.int .u8 9, .int .i64 0, .int .i64 0, .string (bs [])]) 42 (0, 0))]) ⟨by dsimp only; omega, Or.inr ⟨be, _, rfl, rfl, hnc, hcm, (QN (by rw [hsz]; show 0 + i * 4 + 4 ≤ e2 * 4; omega)).trans hsz⟩⟩ ?_ (fun w h => Heap.cnt h (by intro p; (try simp only [jw, jC, jI]) <;> omega)) (by dsimp only; omega)
   exact jL
 refine goU ?_
 refine jK (σ := Nat × jc) (fun y => y.1 ≤ x.first.length ∧ abv 26 1 d1 x.first.length e1 y.2) (fun y => [(0, .string (bs s)), (3, .pointer (some ⟨b3, 0, none⟩)), (4, .int .i64 line), (5, .int .i64 e), (6, .int .i64 (k : Nat)), (7, .pointer (some ⟨b7, 0, none⟩)), (11, .int .i64 (y.1 : Nat))])
  (fun y => ScB b7 x (.slice ya x.cf.zs.length yc) (.slice d1 x.first.length e1) (.slice d2 x.evs.length e2) 36 :: (y.2 ++ (By ++ (ScB b3 x (.slice za x.cf.zs.length zc) (.slice a1 x.first.length c1) (.slice a2 x.evs.length c2) 30 :: ((B1 ++ B2) ++ (Bz ++ L)))))) (fun y => x.first.length - y.1) (0, D1) ⟨Nat.zero_le _, w2⟩ ?_ (fun w h => Heap.cnt h (by intro p; (try simp only [jw, jC, jI]) <;> omega)) ?_
 · exact jL
 rintro ⟨i2, E2⟩ ⟨hi2, hE2⟩
 dsimp only at hi2 hE2 ⊢
 by_cases hil2 : i2 < x.first.length
 · obtain h0 | ⟨be, cur, rfl, rfl, hnc, hcm, hsz⟩ := hE2
   · omega
   rw [List.singleton_append]
   obtain ⟨u, hu⟩ : ∃ u, cur[0 + i2 * 1]? = some u := ⟨_, Array.getElem?_eq_getElem (by rw [hsz]; show 0 + i2 * 1 < e1 * 1; omega)⟩
   refine goU ?_
   refine jz (i2 + 1, [(be, Obj.cells (cur.setIfInBounds (0 + i2 * 1) (.int .u64 9)) 26 (0, 0))]) ⟨by dsimp only; omega, Or.inr ⟨be, _, rfl, rfl, hnc, hcm, (Array.size_setIfInBounds ..).trans hsz⟩⟩ ?_ (fun w h => Heap.cnt h (by intro p; (try simp only [jw, jC, jI]) <;> omega)) (by dsimp only; omega)
   exact jL
 refine goU ?_
 refine jK (σ := Nat × jc) (fun y => y.1 ≤ x.cf.zs.length ∧ abv 45 3 ya x.cf.zs.length yc y.2) (fun y => [(0, .string (bs s)), (3, .pointer (some ⟨b3, 0, none⟩)), (4, .int .i64 line), (5, .int .i64 e), (6, .int .i64 (k : Nat)), (7, .pointer (some ⟨b7, 0, none⟩)), (12, .int .i64 (y.1 : Nat))])
  (fun y => ScB b7 x (.slice ya x.cf.zs.length yc) (.slice d1 x.first.length e1) (.slice d2 x.evs.length e2) 36 :: (y.2 ++ (ScB b3 x (.slice za x.cf.zs.length zc) (.slice a1 x.first.length c1) (.slice a2 x.evs.length c2) 30 :: ((B1 ++ B2) ++ (Bz ++ L))))) (fun y => x.cf.zs.length - y.1) (0, By) ⟨Nat.zero_le _, w3⟩ ?_ (fun w h => Heap.cnt h (by intro p; (try simp only [jw, jC, jI]) <;> omega)) ?_
 · exact jL
 rintro ⟨i3, E3⟩ ⟨hi3, hE3⟩
 dsimp only at hi3 hE3 ⊢
 by_cases hil3 : i3 < x.cf.zs.length
 · obtain h0 | ⟨be, cur, rfl, rfl, hnc, hcm, hsz⟩ := hE3
   · omega
   rw [List.singleton_append]
   refine goU ?_
   refine aj1 (off := 0 + i3 * 3) [.string (bs []), .int .u8 99, .int .u16 0] (by rw [hsz]; show 0 + i3 * 3 + 3 ≤ yc * 3; omega) ?_
   refine goU ?_
   refine jz (i3 + 1, [(be, Obj.cells (jQ cur (0 + i3 * 3) [.string (bs []), .int .u8 99, .int .u16 0]) 45 (0, 0))]) ⟨by dsimp only; omega, Or.inr ⟨be, _, rfl, rfl, hnc, hcm, (QN (by rw [hsz]; show 0 + i3 * 3 + 3 ≤ yc * 3; omega)).trans hsz⟩⟩ ?_ (fun w h => Heap.cnt h (by intro p; (try simp only [jw, jC, jI]) <;> omega)) (by dsimp only; omega)
   exact jL
 refine goU ?_
 refine jz (k + 1) (by omega) ?_ (fun w h => Heap.cnt h (by intro p; (try simp only [jw, jC, jI]) <;> omega)) (by omega)
 exact jL
end Go.Proofs.YtkpblofmoalnoaaGreatDoor
