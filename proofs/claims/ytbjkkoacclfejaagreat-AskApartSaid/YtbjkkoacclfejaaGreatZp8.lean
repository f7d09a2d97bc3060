/-
 Part 8: Ck Cl En Eo Ep Eq Es Et Eu Ew Ev Ex Ey.
-/
import Derived.Test.YtbjkkoacclfejaaGreatZp7
import Derived.Test.YtbjkkoacclfejaaGreatZp2
import Derived.Test.YtbjkkoacclfejaaGreatZp1
import Derived.Test.YtbjkkoacclfejaaGreatZp4
import Derived.Test.YtbjkkoacclfejaaGreatZp5
import Derived.Test.YtbjkkoacclfejaaGreatZp6
set_option maxRecDepth 100000
set_option maxHeartbeats 8000000
set_option linter.unusedVariables false
set_option linter.unusedSimpArgs false
namespace Go.Proofs.YtbjkkoacclfejaaGreat
section
open Go.RowKit
open Cn (Zo Cf)
variable {G : World} {L : ja}
theorem qo {ups : Int} {zs : List Zo} {i : Nat} (hi : i < zs.length) (h : Cn.goodAt ups zs i = false) : Cn.mayZs ups zs = false := by
 unfold Cn.mayZs
 rw [Bool.and_eq_false_iff]
 right
 rw [List.all_eq_false]
 exact ⟨i, List.mem_range.2 hi, by rw [h]; decide⟩
theorem Zb {ups : Int} {zs : List Zo} (h16 : zs.length ≤ 16) (h : ∀ j < zs.length, Cn.goodAt ups zs j = true) : Cn.mayZs ups zs = true := by
 unfold Cn.mayZs
 rw [decide_eq_true h16, Bool.true_and, List.all_eq_true]
 exact fun i hi => h i (List.mem_range.1 hi)
theorem WK {ups : Int} {zs : List Zo} (h : 16 < zs.length) : Cn.mayZs ups zs = false := by
 unfold Cn.mayZs
 rw [decide_eq_false je]
 rfl
theorem acd {ups : Int} {zs : List Zo} {i : Nat} {z : Zo} (h : zs[i]? = some z) : Cn.goodAt ups zs i = (Cn.okZo ups z && !(zs.take i).any (fun y => y.name == z.name)) := by unfold Cn.goodAt; rw [h]
theorem WL (c : Cf) (v : Value) (hz : sliceR 3 zoR L [v] c.zs) (hu : 1 ≤ c.ups ∧ c.ups ≤ 9) (hs : ∀ z ∈ c.zs, z.name.length ≤ 1000000) :
 Spec Tryz.prog G 68 #[.agg (jn c v).toArray] L fun u M => u = .bool (Cn.mayZs c.ups c.zs) ∧ M = L := by
 obtain ⟨a, cap, e, hz⟩ := hz.val
 obtain rfl := (List.cons.inj e).1
 clear e
 have hcap := (sliceR.cut hz).2.1
 have hmax := (sliceR.cut hz).2.2.1
 unfold maxLen at hmax
 refine jl (n := 69) Tryz.func68 rfl rfl rfl ?_
 refine jY (jS (jP (kx rfl) rfl ?_))
 intro b1
 have g0 : (jn (c) (.slice a c.zs.length cap)).toArray[0 + 0]? = some (.int .i64 (c).ups) := rfl
 have g1 : (jn (c) (.slice a c.zs.length cap)).toArray[0 + 1]? = some (.int .i64 (c).ded) := rfl
 have g2 : (jn (c) (.slice a c.zs.length cap)).toArray[0 + 2]? = some (.int .i64 (c).hdg) := rfl
 have g3 : (jn (c) (.slice a c.zs.length cap)).toArray[0 + 3]? = some (.int .i64 (c).wai) := rfl
 have g4 : (jn (c) (.slice a c.zs.length cap)).toArray[0 + 4]? = some (.int .i64 (c).tri) := rfl
 have g5 : (jn (c) (.slice a c.zs.length cap)).toArray[0 + 5]? = some (.int .i64 (c).res) := rfl
 have g6 : (jn (c) (.slice a c.zs.length cap)).toArray[0 + 6]? = some (.int .i64 (c).lim) := rfl
 have g7 : (jn (c) (.slice a c.zs.length cap)).toArray[0 + 7]? = some (.int .i64 (c).cac) := rfl
 have g8 : (jn (c) (.slice a c.zs.length cap)).toArray[0 + 8]? = some (.int .i64 (c).fli) := rfl
 have g9 : (jn (c) (.slice a c.zs.length cap)).toArray[0 + 9]? = some (.int .i64 (c).wtr) := rfl
 have g10 : (jn (c) (.slice a c.zs.length cap)).toArray[0 + 10]? = some (.int .i64 (c).ttl) := rfl
 have g11 : (jn (c) (.slice a c.zs.length cap)).toArray[0 + 11]? = some (.int .i64 (c).siz) := rfl
 have g12 : (jn (c) (.slice a c.zs.length cap)).toArray[0 + 12]? = some (.slice a c.zs.length cap) := rfl
 by_cases h16 : 16 < c.zs.length
 · rw [WK h16]
   refine goA ?_
   refine jq (fun w h => h.tail) ?_
   refine jf 2 _ rfl rfl ?_
   exact ⟨rfl, rfl⟩
 refine goA ?_
 refine jA (σ := Nat) (fun i => i ≤ c.zs.length ∧ ∀ j < i, Cn.goodAt c.ups c.zs j = true) (fun i => [(1, .pointer (some ⟨b1, 0, none⟩)), (12, .slice a c.zs.length cap), (13, .int .i64 (c.zs.length : Nat)), (14, .int .i64 (i : Nat))]) (fun _ => (b1, Obj.cells (jn c (.slice a c.zs.length cap)).toArray 30 (0, 0)) :: L) (fun i => c.zs.length - i) 0 ⟨by omega, fun j hj => by omega⟩ ?_ (fun _ h => h) ?_
 exact ju
 rintro i ⟨hi, hall⟩
 by_cases hlt : i < c.zs.length
 · obtain ⟨z, hzi⟩ : ∃ z, c.zs[i]? = some z := ⟨_, List.getElem?_eq_getElem hlt⟩
   obtain ⟨b2, o2, C2, t2, f2, rfl, m2, cs, _, ⟨rfl, hzn, hzp, hzt⟩, hcs⟩ := sliceR.at hz hzi
   have hzs := hs z (List.mem_of_getElem? hzi)
   have e0 : C2[o2 + i * 3 + 0]? = some (.string (bs z.name)) := hcs 0 _ rfl
   have hgood := acd (ups := c.ups) hzi
   refine goA ?_
   refine jz (jy [.string (bs z.name), .int .u8 (z.pol : Nat), .int .u16 (z.tru : Nat)] rfl stL (List.mem_cons_of_mem _ m2) hcs) rfl ?_
   repeat (first | refine goA ?_ | (refine jO ?_; intro bNew))
   obtain ⟨b4, hb4⟩ : ∃ b, bNew = b := ⟨_, rfl⟩
   rw [hb4]
   clear hb4 bNew
   have k0 : ([.string (bs z.name), .int .u8 (z.pol : Nat), .int .u16 (z.tru : Nat)] : List Value).toArray[0 + 0]? = some (.string (bs z.name)) := rfl
   have k1 : ([.string (bs z.name), .int .u8 (z.pol : Nat), .int .u16 (z.tru : Nat)] : List Value).toArray[0 + 1]? = some (.int .u8 (z.pol : Nat)) := rfl
   have k2 : ([.string (bs z.name), .int .u8 (z.pol : Nat), .int .u16 (z.tru : Nat)] : List Value).toArray[0 + 2]? = some (.int .u16 (z.tru : Nat)) := rfl
   have hKm : ∀ p ∈ [(b4, Obj.cells ([.string (bs z.name), .int .u8 (z.pol : Nat), .int .u16 (z.tru : Nat)] : List Value).toArray 26 (0, 0))], p ∈ (b4, Obj.cells ([.string (bs z.name), .int .u8 (z.pol : Nat), .int .u16 (z.tru : Nat)] : List Value).toArray 26 (0, 0)) :: (b1, Obj.cells (jn c (.slice (some ⟨b2, o2, none⟩) c.zs.length cap)).toArray 30 (0, 0)) :: L := by
    intro p hp
    simp only [List.mem_cons, List.not_mem_nil, or_false] at hp
    subst hp
    exact List.mem_cons_self ..
   cases hmay : Nm.may z.name with
   | false =>
     have hno : Cn.okZo c.ups z = false := by unfold Cn.okZo Cn.okName; rw [hmay]; rfl
     rw [qo hlt (by rw [hgood, hno]; rfl)]
     refine jw jc ([(b4, Obj.cells ([.string (bs z.name), .int .u8 (z.pol : Nat), .int .u16 (z.tru : Nat)] : List Value).toArray 26 (0, 0))]) [] ?_
     refine tkQ 0 ?_
     refine tkQ 1 ?_
     refine' jt 2 rfl rfl jd (jR jd rfl (fun _ _ => Jn _ ?_)) ?_ ?_; (· omega); (· assumption)
     refine tkQ 3 ?_
     refine tkQ 4 ?_
     refine tkQ 5 ?_
     refine tkQ 6 ?_
     refine tkQ 7 ?_
     refine tkQ 8 ?_
     refine tkQ 9 ?_
     refine tkQ 10 ?_
     refine tkQ 11 ?_
     refine tdQ ?_
     refine goA ?_
     refine jq (fun w h => h.tail.tail) ?_
     refine jf 2 _ rfl rfl ?_
     exact ⟨rfl, rfl⟩
   | true =>
     by_cases hf : Nm.fold z.name = z.name
     rotate_left
     · have hno : Cn.okZo c.ups z = false := by unfold Cn.okZo Cn.okName; rw [beq_false_of_ne hf, Bool.and_false, Bool.false_and]
       rw [qo hlt (by rw [hgood, hno]; rfl)]
       refine jw jc ([(b4, Obj.cells ([.string (bs z.name), .int .u8 (z.pol : Nat), .int .u16 (z.tru : Nat)] : List Value).toArray 26 (0, 0))]) [] ?_
       refine tkQ 0 ?_
       refine tkQ 1 ?_
       refine' jt 2 rfl rfl jd (jR jd rfl (fun _ _ => Jn _ ?_)) ?_ ?_; (· omega); (· assumption)
       refine tkQ 3 ?_
       refine tkQ 4 ?_
       refine tkQ 5 ?_
       refine tkQ 6 ?_
       (refine' jt 7 rfl rfl jd (kU rfl rfl (by exact xF (by assumption)) jd rfl (fun _ _ => Wi _ ?_)) ?_ ?_; (· omega); (· assumption))
       refine tkQ 8 ?_
       refine tkQ 9 ?_
       refine tkQ 10 ?_
       refine tkQ 11 ?_
       refine tdQ ?_
       refine goA ?_
       refine jq (fun w h => h.tail.tail) ?_
       refine jf 2 _ rfl rfl ?_
       exact ⟨rfl, rfl⟩
     have hokn : Cn.okName z = true := by unfold Cn.okName; rw [hmay, beq_iff_eq.2 hf]; rfl
     refine jw jc ([(b4, Obj.cells ([.string (bs z.name), .int .u8 (z.pol : Nat), .int .u16 (z.tru : Nat)] : List Value).toArray 26 (0, 0))]) [] ?_
     refine tkQ 0 ?_
     refine tkQ 1 ?_
     refine' jt 2 rfl rfl jd (jR jd rfl (fun _ _ => Jn _ ?_)) ?_ ?_; (· omega); (· assumption)
     refine tkQ 3 ?_
     refine tkQ 4 ?_
     refine tkQ 5 ?_
     refine tkQ 6 ?_
     (refine' jt 7 rfl rfl jd (kU rfl rfl (by exact xF (by assumption)) jd rfl (fun _ _ => Wi _ ?_)) ?_ ?_; (· omega); (· assumption))
     refine tkQ 8 ?_
     refine tkQ 9 ?_
     refine tkQ 10 ?_
     refine tkQ 11 ?_
     refine tdQ ?_
     refine goA ?_
     refine jA (σ := Nat) (fun k => k ≤ i ∧ (c.zs.take k).any (fun y => y.name == z.name) = false) (fun k => [(1, .pointer (some ⟨b1, 0, none⟩)), (3, .int .i64 (i : Nat)), (4, .pointer (some ⟨b4, 0, none⟩)), (12, .slice (some ⟨b2, o2, none⟩) c.zs.length cap), (13, .int .i64 (c.zs.length : Nat)), (14, .int .i64 (i : Nat)), (34, .slice (some ⟨b2, o2, none⟩) i cap), (35, .int .i64 (i : Nat)), (36, .int .i64 (k : Nat))]) (fun _ => (b4, Obj.cells ([.string (bs z.name), .int .u8 (z.pol : Nat), .int .u16 (z.tru : Nat)] : List Value).toArray 26 (0, 0)) :: (b1, Obj.cells (jn c (.slice (some ⟨b2, o2, none⟩) c.zs.length cap)).toArray 30 (0, 0)) :: L) (fun k => i - k) 0 ⟨by omega, by simp⟩ ?_ (fun _ h => h) ?_
     exact ju
     rintro k ⟨hk, hany⟩
     by_cases hki : k < i
     · obtain ⟨y, hyk⟩ : ∃ y, c.zs[k]? = some y := ⟨_, List.getElem?_eq_getElem je⟩
       obtain ⟨b5, o5, C5, t5, f5, e5, m5, cs5, _, ⟨rfl, hyn, hyp, hyt⟩, hcs5⟩ := sliceR.at hz hyk
       cases e5
       refine goA ?_
       refine jz (jy [.string (bs y.name), .int .u8 (y.pol : Nat), .int .u16 (y.tru : Nat)] rfl stL (List.mem_cons_of_mem _ (List.mem_cons_of_mem _ m5)) hcs5) rfl ?_
       repeat (first | refine goA ?_ | (refine jO ?_; intro bNew))
       obtain ⟨b6, hb6⟩ : ∃ b, bNew = b := ⟨_, rfl⟩
       rw [hb6]
       clear hb6 bNew
       have l0 : ([.string (bs y.name), .int .u8 (y.pol : Nat), .int .u16 (y.tru : Nat)] : List Value).toArray[0 + 0]? = some (.string (bs y.name)) := rfl
       by_cases hyz : y.name = z.name
       · have hbad : Cn.goodAt c.ups c.zs i = false := by
          rw [hgood, Bool.and_eq_false_iff]
          right
          rw [Bool.not_eq_false', List.any_eq_true]
          exact ⟨y, List.mem_take_iff_getElem.2 ⟨k, by omega, (List.getElem?_eq_some_iff.1 hyk).2⟩, beq_iff_eq.2 hyz⟩
         rw [qo hlt hbad]
         refine goA ?_
         refine jq (fun w h => h.tail.tail.tail) ?_
         refine jf 2 _ rfl rfl ?_
         exact ⟨rfl, rfl⟩
       · refine goA ?_
         refine jh (k + 1) ⟨by omega, ?_⟩ ?_ (fun _ h => h.tail) je
         · rw [List.take_add_one, hyk, List.any_append, hany]
           simp [hyz]
         exact ju
     · have hkie : k = i := by omega
       subst hkie
       rw [hany, Bool.not_false, Bool.and_true] at hgood
       unfold Cn.okZo at hgood
       rw [hokn, Bool.true_and] at hgood
       obtain ⟨n, hn⟩ : ∃ n : Nat, c.ups = (n : Nat) := ⟨c.ups.toNat, by omega⟩
       have hn2 : c.ups.toNat = n := by omega
       have fin : ∀ b, Cn.okPol c.ups z = b → Cn.goodAt c.ups c.zs k = b := fun b h => hgood.trans h
       have nxt : Cn.okPol c.ups z = true → ∀ j < k + 1, Cn.goodAt c.ups c.zs j = true := fun h j hj => by
        rcases Nat.lt_or_ge j k with q | q
        · exact hall j q
        · have : j = k := by omega
          subst this
          exact fin true h
       have pol : Cn.okPol c.ups z = decide (((z.pol = 1 ∨ z.pol = 2 ∨ z.pol = 4) ∧ z.tru = 0) ∨ (z.pol = 3 ∧ z.tru ≠ 0 ∧ z.tru / 2 ^ n = 0)) := by unfold Cn.okPol; rw [hn2]
       rw [hn] at g0
       obtain ⟨q, hq⟩ : ∃ q, z.tru / 2 ^ n = q := ⟨_, rfl⟩
       have hsh := QL (P := Tryz.prog) (t := 22) (k := .i64) (a := z.tru) (u := n) je
       rw [hq] at pol hsh
       by_cases p1 : z.pol = 1
       · by_cases t0 : z.tru = 0
         · skip
           have hy : Cn.okPol c.ups z = true := by rw [pol]; exact decide_eq_true je
           refine goA ?_
           refine jh (k + 1) ⟨by omega, nxt hy⟩ ?_ (fun _ h => h.tail) je
           exact ju
         · skip
           rw [qo hlt (fin false (by rw [pol]; exact decide_eq_false je))]
           refine goA ?_
           refine jq (fun w h => h.tail.tail) ?_
           refine jf 2 _ rfl rfl ?_
           exact ⟨rfl, rfl⟩
       by_cases p2 : z.pol = 2
       · by_cases t0 : z.tru = 0
         · skip
           have hy : Cn.okPol c.ups z = true := by rw [pol]; exact decide_eq_true je
           refine goA ?_
           refine jh (k + 1) ⟨by omega, nxt hy⟩ ?_ (fun _ h => h.tail) je
           exact ju
         · skip
           rw [qo hlt (fin false (by rw [pol]; exact decide_eq_false je))]
           refine goA ?_
           refine jq (fun w h => h.tail.tail) ?_
           refine jf 2 _ rfl rfl ?_
           exact ⟨rfl, rfl⟩
       by_cases p4 : z.pol = 4
       · by_cases t0 : z.tru = 0
         · skip
           have hy : Cn.okPol c.ups z = true := by rw [pol]; exact decide_eq_true je
           refine goA ?_
           refine jh (k + 1) ⟨by omega, nxt hy⟩ ?_ (fun _ h => h.tail) je
           exact ju
         · skip
           rw [qo hlt (fin false (by rw [pol]; exact decide_eq_false je))]
           refine goA ?_
           refine jq (fun w h => h.tail.tail) ?_
           refine jf 2 _ rfl rfl ?_
           exact ⟨rfl, rfl⟩
       by_cases p3 : z.pol = 3
       · by_cases t0 : z.tru = 0
         · skip
           rw [qo hlt (fin false (by rw [pol]; exact decide_eq_false je))]
           refine goA ?_
           refine jq (fun w h => h.tail.tail) ?_
           refine jf 2 _ rfl rfl ?_
           exact ⟨rfl, rfl⟩
         · by_cases q0 : q = 0
           · skip
             refine goA ?_
             refine jM (qO rfl rfl hsh) rfl ?_
             have hy : Cn.okPol c.ups z = true := by rw [pol]; exact decide_eq_true je
             refine goA ?_
             refine jh (k + 1) ⟨by omega, nxt hy⟩ ?_ (fun _ h => h.tail) je
             exact ju
           · skip
             rw [qo hlt (fin false (by rw [pol]; exact decide_eq_false je))]
             refine goA ?_
             refine jM (qO rfl rfl hsh) rfl ?_
             refine goA ?_
             refine jq (fun w h => h.tail.tail) ?_
             refine jf 2 _ rfl rfl ?_
             exact ⟨rfl, rfl⟩
       rw [qo hlt (fin false (by rw [pol]; exact decide_eq_false je))]
       refine goA ?_
       refine jq (fun w h => h.tail.tail) ?_
       refine jf 2 _ rfl rfl ?_
       exact ⟨rfl, rfl⟩
 · have hil : i = c.zs.length := by omega
   subst hil
   rw [Zb je hall]
   refine goA ?_
   refine jq (fun w h => h.tail) ?_
   refine jf 2 _ rfl rfl ?_
   exact ⟨rfl, rfl⟩
end
section
open Go.RowKit
open Cn (Zo Cf)
variable {G : World} {L : ja}
structure CfL (L : ja) (c : Cf) (v : Value) : Prop where
 row : sliceR 3 zoR L [v] c.zs
 small : ∀ z ∈ c.zs, z.name.length ≤ 1000000
theorem CfL.mono {L' : ja} {c : Cf} {v : Value} (h : CfL L c v) (hs : ∀ p ∈ L, p ∈ L') : CfL L' c v := ⟨jp JX _ _ _ _ hs h.row, h.small⟩
theorem K2 {c : Cf} (h : Cn.mayNum c = true) : 1 ≤ c.ups ∧ c.ups ≤ 9 := by
 have := of_decide_eq_true h
 omega
def yh (c : Cf) : Int := if Cn.mayP c then 0 else 1
theorem Yp (c : Cf) (v : Value) (h : CfL L c v) : Spec Tryz.prog G 36 #[.agg (jn c v).toArray] L fun u M => u = .int .i64 (yh c) ∧ M = L := by
 refine jl (n := 11) Tryz.func36 rfl rfl rfl ?_
 refine jY (jS (jP (kx rfl) rfl ?_))
 intro b1
 refine goA ?_
 refine jJ (jb jd rfl (aaI c v)) rfl ?_
 cases hn : Cn.mayNum c with
 | false =>
   have hm : yh c = 1 := by unfold yh Cn.mayP; rw [hn]; rfl
   rw [hm]
   refine goA ?_
   refine jq (fun w h => h.tail) ?_
   refine jf 2 _ rfl rfl ?_
   exact ⟨rfl, rfl⟩
 | true =>
   refine goA ?_
   refine jQ (jb jd rfl (WL c v (jp JX _ _ _ _ jr h.row) (K2 hn) h.small)) rfl ?_
   cases hz : Cn.mayZs c.ups c.zs with
   | false =>
     have hm : yh c = 1 := by unfold yh Cn.mayP; rw [hn, hz]; rfl
     rw [hm]
     refine goA ?_
     refine jq (fun w h => h.tail) ?_
     refine jf 2 _ rfl rfl ?_
     exact ⟨rfl, rfl⟩
   | true =>
     have hm : yh c = 0 := by unfold yh Cn.mayP; rw [hn, hz]; rfl
     rw [hm]
     refine goA ?_
     refine jq (fun w h => h.tail) ?_
     refine jf 2 _ rfl rfl ?_
     exact ⟨rfl, rfl⟩
theorem QM {c : Cf} (h : Cn.mayP c = true) : yh c = 0 := if_pos h
theorem VN {c : Cf} (h : Cn.mayP c = false) : yh c = 1 := if_neg (by rw [h]; decide)
theorem Yq (c : Cf) (v : Value) (h : CfL L c v) : Spec Tryz.prog G 19 #[.agg (jn c v).toArray] L fun u M => u = .int .i64 (Cn.liesP c) ∧ M = L := by
 refine jl (n := 9) Tryz.func19 rfl rfl rfl ?_
 refine jY (jS (jP (kx rfl) rfl ?_))
 intro b1
 have g0 : (jn (c) (v)).toArray[0 + 0]? = some (.int .i64 (c).ups) := rfl
 have g1 : (jn (c) (v)).toArray[0 + 1]? = some (.int .i64 (c).ded) := rfl
 have g2 : (jn (c) (v)).toArray[0 + 2]? = some (.int .i64 (c).hdg) := rfl
 have g3 : (jn (c) (v)).toArray[0 + 3]? = some (.int .i64 (c).wai) := rfl
 have g4 : (jn (c) (v)).toArray[0 + 4]? = some (.int .i64 (c).tri) := rfl
 have g5 : (jn (c) (v)).toArray[0 + 5]? = some (.int .i64 (c).res) := rfl
 have g6 : (jn (c) (v)).toArray[0 + 6]? = some (.int .i64 (c).lim) := rfl
 have g7 : (jn (c) (v)).toArray[0 + 7]? = some (.int .i64 (c).cac) := rfl
 have g8 : (jn (c) (v)).toArray[0 + 8]? = some (.int .i64 (c).fli) := rfl
 have g9 : (jn (c) (v)).toArray[0 + 9]? = some (.int .i64 (c).wtr) := rfl
 have g10 : (jn (c) (v)).toArray[0 + 10]? = some (.int .i64 (c).ttl) := rfl
 have g11 : (jn (c) (v)).toArray[0 + 11]? = some (.int .i64 (c).siz) := rfl
 have g12 : (jn (c) (v)).toArray[0 + 12]? = some (v) := rfl
 refine goA ?_
 refine jJ (jb jd rfl (Yp c v (h.mono jr))) rfl ?_
 cases hm : Cn.mayP c with
 | true =>
   have he : yh c = 0 := QM hm
   have hu := K2 (Bool.and_eq_true_iff.1 hm).1
   have hl : Cn.liesP c = c.ups / 2 := by unfold Cn.liesP; rw [if_pos hm]
   rw [he, hl]
   refine goA ?_
   refine jq (fun w h => h.tail) ?_
   refine jf 2 _ rfl rfl ?_
   exact ⟨rfl, rfl⟩
 | false =>
   have he : yh c = 1 := VN hm
   have hl : Cn.liesP c = 0 := by unfold Cn.liesP; rw [hm]; rfl
   rw [he, hl]
   refine goA ?_
   refine jq (fun w h => h.tail) ?_
   refine jf 2 _ rfl rfl ?_
   exact ⟨rfl, rfl⟩
end
section
open Go.RowKit
open Hg (En Pl)
open Vd (RSet Vdt Vote Rec Quest Piece Ballot)
variable {G : World} {L : ja}
theorem JY {ap : Nat} {a : As} {X : ja} (h : qU ap a X) (hX : ∀ p ∈ X, p ∈ L) : Spec Tryz.prog G 18 #[.pointer (some ⟨ap, 0, none⟩)] L fun u M => u = .bool a.over ∧ M = L := by
 obtain ⟨bp, bb, Mp, Mb, hp, hb, rfl⟩ := h
 refine jl (n := 5) Tryz.func18 rfl rfl rfl ?_
 refine goB ?_
 refine jJ (jb jd rfl (zz ap bp bb a (hX _ (List.mem_cons_self ..)))) rfl ?_
 refine goB ?_
 refine jf 2 _ rfl rfl ?_
 exact ⟨rfl, rfl⟩
theorem acY {p : Pl} (h : Good p) : 0 ≤ (due p).1 ∧ (due p).1 ≤ Hg.top := by
 have hn := h.now
 unfold due
 split
 · exact ⟨Int.le_refl 0, by show (0 : Int) ≤ 1099511627776; decide⟩
 · split
   · exact ⟨Int.le_refl 0, by show (0 : Int) ≤ 1099511627776; decide⟩
   · rename_i h1
     have h2 : p.now + 1 ≤ dueT p := Int.le_max_right ..
     dsimp only
     omega
theorem acZ {ap : Nat} {a : As} {X : ja} (h : qU ap a X) (hA : AWell a) : Spec Tryz.prog G 24 #[.pointer (some ⟨ap, 0, none⟩)] (X ++ L) fun u M => u = .tuple #[.int .i64 (Aq.dueA a).1, .bool (Aq.dueA a).2] ∧ M = X ++ L := by
 obtain ⟨bp, bb, Mp, Mb, hp, hb, rfl⟩ := h
 have e5 : (jk a bp bb)[0 + 5]? = some (.pointer (some ⟨bp, 0, none⟩)) := rfl
 have e7 : (jk a bp bb)[0 + 7]? = some (.int .i64 a.ded) := rfl
 have e8 : (jk a bp bb)[0 + 8]? = some (.int .i64 a.now) := rfl
 have hn := hA.ok.now
 have hdn := hA.ok.ded
 have htop : Hg.top = 1099511627776 := rfl
 have hdue := acY hA.ok.good
 rw [List.cons_append]
 refine jl (n := 35) Tryz.func24 rfl rfl rfl ?_
 refine goB ?_
 refine jJ (jb jd rfl (zz ap bp bb a (by simp))) rfl ?_
 cases ho : a.over with
 | true =>
   have hm : Aq.dueA a = (0, false) := by unfold Aq.dueA; rw [if_pos ho]
   rw [hm]
   refine goB ?_
   refine jB (L' := ((ap, Obj.cells (jk a bp bb) 102 (0, 0)) :: (Mp ++ Mb)) ++ L) ?_ ji
   refine jN 2 3 _ _ rfl rfl rfl ?_
   exact ⟨rfl, rfl⟩
 | false =>
   have hm : Aq.dueA a = if Hg.top < Aq.dueT a then (0, false) else (Aq.dueT a, true) := by unfold Aq.dueA; rw [if_neg (by rw [ho]; decide)]
   have hT : Aq.dueT a = max (if (due a.p).2 then min a.ded (due a.p).1 else a.ded) (a.now + 1) := rfl
   rw [hm]
   refine goB ?_
   refine jC (L' := Mp ++ ((ap, Obj.cells (jk a bp bb) 102 (0, 0)) :: (Mb ++ L))) ?_ ji
   refine jJ (jb jd rfl (ae6 hp hA.ok.begins)) rfl ?_
   obtain ⟨⟨d1, d2⟩, hd⟩ : ∃ z, z = due a.p := ⟨_, rfl⟩
   rw [← hd] at hT hdue ⊢
   dsimp only at hT hdue ⊢
   cases d2 with
   | true =>
     rw [if_pos rfl] at hT
     by_cases ht : Hg.top < Aq.dueT a
     · rw [if_pos ht]
       rw [hT, htop] at ht
       refine goB ?_
       refine jB (L' := ((ap, Obj.cells (jk a bp bb) 102 (0, 0)) :: (Mp ++ Mb)) ++ L) ?_ ji
       refine jN 2 3 _ _ rfl rfl rfl ?_
       exact ⟨rfl, rfl⟩
     · rw [if_neg ht]
       rw [hT] at ht ⊢
       rw [htop] at ht
       refine goB ?_
       refine jB (L' := ((ap, Obj.cells (jk a bp bb) 102 (0, 0)) :: (Mp ++ Mb)) ++ L) ?_ ji
       refine jN 2 3 _ _ rfl rfl rfl ?_
       exact ⟨rfl, rfl⟩
   | false =>
     rw [if_neg (by decide)] at hT
     by_cases ht : Hg.top < Aq.dueT a
     · rw [if_pos ht]
       rw [hT, htop] at ht
       refine goB ?_
       refine jB (L' := ((ap, Obj.cells (jk a bp bb) 102 (0, 0)) :: (Mp ++ Mb)) ++ L) ?_ ji
       refine jN 2 3 _ _ rfl rfl rfl ?_
       exact ⟨rfl, rfl⟩
     · rw [if_neg ht]
       rw [hT] at ht ⊢
       rw [htop] at ht
       refine goB ?_
       refine jB (L' := ((ap, Obj.cells (jk a bp bb) 102 (0, 0)) :: (Mp ++ Mb)) ++ L) ?_ ji
       refine jN 2 3 _ _ rfl rfl rfl ?_
       exact ⟨rfl, rfl⟩
theorem UD {ap : Nat} {a : As} {X : ja} (h : qU ap a X) : Spec Tryz.prog G 16 #[.pointer (some ⟨ap, 0, none⟩)] (X ++ L) fun u M => ∃ b2 X2, u = .pointer (some ⟨b2, 0, none⟩) ∧ qU b2 a X2 ∧ M = X2 ++ (X ++ L) := by
 obtain ⟨bp, bb, Mp, Mb, hp, hb, rfl⟩ := h
 have e5 : (jk a bp bb)[0 + 5]? = some (.pointer (some ⟨bp, 0, none⟩)) := rfl
 have e6 : (jk a bp bb)[0 + 6]? = some (.pointer (some ⟨bb, 0, none⟩)) := rfl
 have g1 : Option.isNone (some (⟨ap, 0, none⟩ : Addr)) = false := rfl
 rw [List.cons_append]
 refine jl (n := 21) Tryz.func16 rfl rfl rfl ?_
 repeat (first | refine goB ?_ | (refine jO ?_; intro bNew))
 refine jC (L' := Mp ++ ((bNew, Obj.cells (jk a bp bb) 102 (0, 0)) :: (ap, Obj.cells (jk a bp bb) 102 (0, 0)) :: (Mb ++ L))) ?_ ji
 refine jv (jb jd rfl (acT hp)) rfl ?_
 rintro _ _ ⟨bq, M2, rfl, hp2, rfl⟩
 refine jC (L' := (bNew, Obj.cells (jk a bp bb) 102 (0, 0)) :: (ap, Obj.cells (jk a bp bb) 102 (0, 0)) :: (M2 ++ (Mp ++ (Mb ++ L)))) ?_ ji
 refine goB ?_
 refine kX (L' := (bNew, Obj.cells (jk a bq bb) 102 (0, 0)) :: (ap, Obj.cells (jk a bp bb) 102 (0, 0)) :: (M2 ++ (Mp ++ (Mb ++ L)))) (fun w h => h) ?_
 refine jC (L' := Mb ++ ((bNew, Obj.cells (jk a bq bb) 102 (0, 0)) :: (ap, Obj.cells (jk a bp bb) 102 (0, 0)) :: (M2 ++ (Mp ++ L)))) ?_ ji
 refine jv (jb jd rfl (abT hb)) rfl ?_
 rintro _ _ ⟨b3, M3, rfl, hb3, rfl⟩
 refine jC (L' := (bNew, Obj.cells (jk a bq bb) 102 (0, 0)) :: (ap, Obj.cells (jk a bp bb) 102 (0, 0)) :: (M3 ++ (Mb ++ (M2 ++ (Mp ++ L))))) ?_ ji
 refine goB ?_
 refine jq (L' := (bNew, Obj.cells (jk a bq b3) 102 (0, 0)) :: (ap, Obj.cells (jk a bp bb) 102 (0, 0)) :: (M3 ++ (Mb ++ (M2 ++ (Mp ++ L))))) (fun w h => h) ?_
 refine jB (L' := ((bNew, Obj.cells (jk a bq b3) 102 (0, 0)) :: (M2 ++ M3)) ++ (((ap, Obj.cells (jk a bp bb) 102 (0, 0)) :: (Mp ++ Mb)) ++ L)) ?_ ji
 refine jf 2 _ rfl rfl ?_
 exact ⟨bNew, _, rfl, ⟨bq, b3, M2, M3, hp2, hb3, rfl⟩, rfl⟩
end
section
open Go.RowKit
open Hg (En Pl)
open Vd (RSet Vdt Vote Rec Quest Piece Ballot)
variable {G : World} {L : ja}
section
variable {P : Program} {ρ : jD} {ty : TypeId}
theorem z9 {x : Operand} {t : TypeId} {fs : Array Field} {v : Value} (hx : ev ρ x = some v) (hu : P.underlying t = some (.struct fs)) : OpQ P ρ L (.makeInterface t x) ty (.iface t v) :=
 ⟨fun r hr w hw o ho _ => by simp [execOp, ho, hr _ _ hx, Instr.makeInterface, run_underlying hu]⟩
end
theorem agq : Built Tryz.prog 152 [] (.agg #[]) := ⟨fun w => by kernel_rfl⟩
theorem agr : Built Tryz.prog 155 [] (.agg #[]) := ⟨fun w => by kernel_rfl⟩
theorem VO (k : Nat) (lies : Int) (hl : 0 ≤ lies ∧ lies ≤ 1000) : Spec Tryz.prog G 38 #[.int .u8 (k : Nat), .int .i64 lies] L fun u M => (u = if 1 ≤ k ∧ k ≤ 3 then .tuple #[.iface (WI k) (Ql k (lies + 1)), .int .i64 (if k = 3 then 1 else lies + 1), .bool true] else .tuple #[.nilIface, .int .i64 0, .bool false]) ∧ M = L := by
 refine jl (n := 26) Tryz.func38 rfl rfl rfl ?_
 by_cases h1 : k = 1
 · subst h1
   refine goB ?_
   refine jz (jm rfl agq) rfl ?_
   refine jz (z9 rfl Tryz.underlying152) rfl ?_
   refine goB ?_
   refine kE 4 5 6 _ _ _ rfl rfl rfl rfl ?_
   exact ⟨rfl, rfl⟩
 by_cases h2 : k = 2
 · subst h2
   repeat (first | refine goB ?_ | refine jz (jm rfl (ZG _)) rfl ?_)
   refine jz (z9 rfl Tryz.underlying154) rfl ?_
   refine goB ?_
   refine kE 4 5 6 _ _ _ rfl rfl rfl rfl ?_
   exact ⟨rfl, rfl⟩
 by_cases h3 : k = 3
 · subst h3
   refine goB ?_
   refine jz (jm rfl agr) rfl ?_
   refine jz (z9 rfl Tryz.underlying155) rfl ?_
   refine goB ?_
   refine kE 4 5 6 _ _ _ rfl rfl rfl rfl ?_
   exact ⟨rfl, rfl⟩
 rw [if_neg je]
 refine goB ?_
 refine kE 4 5 6 _ _ _ rfl rfl rfl rfl ?_
 exact ⟨rfl, rfl⟩
theorem yi {ups : Int} {l : List Int} {i : Nat} {x : Int} (hx : l[i]? = some x) (h : x < 0 ∨ ups ≤ x ∨ x ∈ l.take i) : Aq.distinct ups l = false := by
 unfold Aq.distinct
 rw [Bool.and_eq_false_iff]
 rcases h with h | h | h
 · left; rw [List.all_eq_false]; exact ⟨x, List.mem_of_getElem? hx, by simp; omega⟩
 · left; rw [List.all_eq_false]; exact ⟨x, List.mem_of_getElem? hx, by simp; omega⟩
 · right
   rw [decide_eq_false_iff_not]
   intro hn
   obtain ⟨hi, rfl⟩ := List.getElem?_eq_some_iff.1 hx
   obtain ⟨j, hj, e⟩ := List.getElem_of_mem h
   have hj' : j < i := by simp at hj; omega
   rw [List.getElem_take] at e
   have := (List.getElem_inj hn).1 e
   omega
theorem WM (vl : Value) (l : List Int) (ups : Int) (hl : IRow L vl l) (hn : l.length ≤ 1000) (hu : 1 ≤ ups ∧ ups ≤ 9) : Spec Tryz.prog G 39 #[vl, .int .i64 ups] L fun u M => u = .bool (Aq.distinct ups l) ∧ M = L := by
 obtain ⟨al, cl, rfl, hl⟩ := hl
 refine jl (n := 29) Tryz.func39 rfl rfl rfl ?_
 repeat (first | refine goB ?_ | (refine jO ?_; intro bNew))
 refine jA (σ := Nat) (fun k => k ≤ l.length ∧ (∀ x ∈ l.take k, 0 ≤ x ∧ x < ups) ∧ (l.take k).Nodup) (fun k => [(1, .int .i64 ups), (5, .pointer (some ⟨bNew, 0, none⟩)), (8, .slice al l.length cl), (9, .int .i64 (l.length : Nat)), (10, .int .i64 (k : Nat))]) (fun k => (bNew, .cells (yv (l.take k)) 48 (0, 0)) :: L) (fun k => l.length - k) 0 ⟨Nat.zero_le _, by simp, by simp⟩ ?_ (fun w h => h) ?_
 exact ju
 rintro k ⟨hk, hall, hnd⟩
 by_cases hlt : k < l.length
 · obtain ⟨x, hx⟩ : ∃ x, l[k]? = some x := ⟨_, List.getElem?_eq_getElem hlt⟩
   rcases hl with rfl | ⟨b1, o1, C1, t1, f1, rfl, m1, q1⟩
   · simp at hlt
   have c1 := q1 k x hx
   have tk : l.take (k + 1) = l.take k ++ [x] := by rw [List.take_add_one, hx]; rfl
   by_cases x0 : x < 0
   · rw [yi hx (Or.inl x0)]
     refine goB ?_
     refine jB (L' := L) ?_ ji
     refine jf 4 _ rfl rfl ?_
     exact ⟨rfl, rfl⟩
   by_cases x9 : ups ≤ x
   · rw [yi hx (Or.inr (Or.inl x9))]
     refine goB ?_
     refine jB (L' := L) ?_ ji
     refine jf 4 _ rfl rfl ?_
     exact ⟨rfl, rfl⟩
   have g3 := Yg (l.take k) x je je
   cases hc : (l.take k).contains x with
   | true =>
     rw [hc] at g3
     have hmem : x ∈ l.take k := by simpa using hc
     rw [yi hx (Or.inr (Or.inr hmem))]
     refine goB ?_
     refine jB (L' := L) ?_ ji
     refine jf 4 _ rfl rfl ?_
     exact ⟨rfl, rfl⟩
   | false =>
     rw [hc] at g3
     have hmem : x ∉ l.take k := by simpa using hc
     refine goB ?_
     refine jh (k + 1) ⟨hlt, ?_, ?_⟩ ?_ (fun w h => ?_) je
     · rw [tk]
       intro y hy
       rcases List.mem_append.1 hy with hy | hy
       · exact hall y hy
       · rw [List.mem_singleton.1 hy]; omega
     · rw [tk]
       refine List.nodup_append.2 ⟨hnd, by simp, fun a ha b hb => ?_⟩
       rw [List.mem_singleton.1 hb]
       rintro rfl
       exact hmem ha
     exact ju
     · rw [tk]
       rw [VH _ _ je je] at h
       exact h
 · have hkn : k = l.length := by omega
   subst hkn
   rw [List.take_length] at hall hnd
   have hy : Aq.distinct ups l = true := by
    unfold Aq.distinct
    rw [Bool.and_eq_true]
    exact ⟨List.all_eq_true.2 fun x hx => decide_eq_true (hall x hx), decide_eq_true hnd⟩
   rw [hy]
   refine goB ?_
   refine jB (L' := L) ?_ ji
   refine jf 4 _ rfl rfl ?_
   exact ⟨rfl, rfl⟩
end
section
open Go.RowKit
open Hg (En Pl)
open Vd (RSet Vdt Vote Rec Quest Piece Ballot)
open Cn (Zo Cf)
section
variable {G : World} {P : Program} {n : Nat} {ρ : jD} {L : ja}
theorem qe {fn : Func} {Φ : Value → ja → Prop} (u a t s : Nat) {b k : Nat} {C : Array Value} {te : TypeId} {fr : Nat × Nat} {x y : Value} {L' : ja} (hr : fn.results = #[.tmp u, .cell a t, .tmp s]) (hv : ρ.lookup a = some (.pointer (some ⟨b, 0, none⟩))) (hx : ρ.lookup u = some x) (hy : ρ.lookup s = some y)
 (ht : jV P t k = true) (hm : (b, Obj.cells C te fr) ∈ L) (hk : C.size = k) (hl : ∀ w, Heap G w L → Heap G w L') (h : Φ (.tuple #[x, .agg C, y]) L') : TQ G n ρ L .ret (bodyPost P fn (kO G Φ)) :=
 ⟨fun ac w he hw => ⟨he.defers, .tuple #[x, .agg C, y], by
   obtain ⟨h1, h0⟩ := zd he hv ht (hw.get _ hm) hk
   have h2 : ac.tmps.getD u undef = x := he.reads (.tmp u) x hx
   have h3 : ac.tmps.getD s undef = y := he.reads (.tmp s) y hy
   rw [Array.getD_eq_getD_getElem?] at h1 h2 h3
   simp only [results, hr]
   simp
   simp [h1, asAddr, h0, h2, h3], _, L', rfl, h, hl w hw⟩⟩
end
variable {G : World} {L : ja}
theorem WN (k : Nat) (lies : Int) (hl : 0 ≤ lies ∧ lies ≤ 1000) (h : 1 ≤ k ∧ k ≤ 3) : Spec Tryz.prog G 38 #[.int .u8 (k : Nat), .int .i64 lies] L fun u M => u = .tuple #[.iface (WI k) (Ql k (lies + 1)), .int .i64 (if k = 3 then 1 else lies + 1), .bool true] ∧ M = L := by
 have := VO (G := G) (L := L) k lies hl
 rw [if_pos h] at this
 exact this
theorem Zc (k : Nat) (lies : Int) (hl : 0 ≤ lies ∧ lies ≤ 1000) (h : ¬ (1 ≤ k ∧ k ≤ 3)) : Spec Tryz.prog G 38 #[.int .u8 (k : Nat), .int .i64 lies] L fun u M => u = .tuple #[.nilIface, .int .i64 0, .bool false] ∧ M = L := by
 have := VO (G := G) (L := L) k lies hl
 rw [if_neg h] at this
 exact this
theorem Zd (v0 v1 v2 : Value) (t : TypeId) (x : Value) (want ded now : Int) (bp bb : Option Addr) : Built Tryz.prog 102 [(0, .agg #[v0, v1, v2]), (1, .iface t x), (2, .int .i64 want), (3, .pointer bp), (4, .pointer bb), (5, .int .i64 ded), (6, .int .i64 now)] (.agg #[v0, v1, v2, .iface t x, .int .i64 want, .pointer bp, .pointer bb, .int .i64 ded, .int .i64 now, .bool false]) := ⟨fun w => by kernel_rfl⟩
def WO (pol tru : Nat) (u : Int) : Bool := decide (pol ≠ 3) || tru.testBit u.toNat
def aaJ (L : ja) (e : Int) (r : As × Dd) (u : Value) (M : ja) : Prop :=
 (e = 0 ∧ ∃ ap cs X N, u = .tuple #[.pointer (some ⟨ap, 0, none⟩), .agg cs.toArray, .int .i64 0] ∧ JJ N cs r.2 ∧ qU ap r.1 X ∧ M = X ++ (N ++ L)) ∨ (e ≠ 0 ∧ u = .tuple #[.pointer none, .agg (ko (.slice none 0 0) (.slice none 0 0)), .int .i64 e] ∧ M = L)
structure NewIn (q : Quest) (z : Zo) (l : List Int) (c : Cf) (now : Int) : Prop where
 may : Cn.mayP c = true
 name : Nm.may q.name = true
 pol : 1 ≤ z.pol ∧ z.pol ≤ 3
 now : 0 ≤ now ∧ now ≤ Hg.top
 dist : Aq.distinct c.ups l = true
theorem Yr {q : Quest} {z : Zo} {l : List Int} {c : Cf} {now : Int} (h : NewIn q z l c now) : Aq.newE q z l c now = if Aq.own z.pol z.tru l = [] then 6 else 0 := by
 have h1 := h.pol
 have h2 := h.now
 unfold Aq.newE
 rw [h.may, h.name, h.dist, decide_eq_false je, decide_eq_false je]
 rfl
theorem qV {q : Quest} {z : Zo} {l : List Int} {c : Cf} {now : Int} (h : ¬ NewIn q z l c now) : Aq.newE q z l c now = 1 := by
 unfold Aq.newE
 rw [if_pos]
 refine Decidable.byContradiction fun k => h ?_
 simp only [Bool.or_eq_true, Bool.not_eq_true', decide_eq_true_eq, not_or, Bool.not_eq_false] at k
 exact ⟨k.1.1.1.1, k.1.1.1.2, by omega, by omega, k.2⟩
theorem QN {q : Quest} {z : Zo} {l : List Int} {c : Cf} {now : Int} (h : Aq.newE q z l c now = 0) : NewIn q z l c now ∧ Aq.own z.pol z.tru l ≠ [] := by
 by_cases hi : NewIn q z l c now
 · rw [Yr hi] at h
   refine ⟨hi, fun k => ?_⟩
   rw [if_pos k] at h
   cases h
 · rw [qV hi] at h; cases h
theorem zA {c : Cf} (h : Cn.mayP c = true) : (1 ≤ c.ups ∧ c.ups ≤ 9) ∧ (1 ≤ c.hdg ∧ c.hdg ≤ 1000) ∧ (1 ≤ c.wai ∧ c.wai ≤ 1000) ∧ (1 ≤ c.tri ∧ c.tri ≤ 4) ∧ (0 ≤ c.ded ∧ c.ded ≤ 100000) ∧ Cn.liesP c = c.ups / 2 := by
 have h1 := of_decide_eq_true (Bool.and_eq_true_iff.1 h).1
 obtain ⟨⟨a1, a2, _⟩, a3, a4, a5, ⟨a6, a7⟩, _⟩ := h1
 have h2 : 0 ≤ c.ups / 2 * c.hdg := Int.mul_nonneg je je
 have h3 : 0 ≤ c.tri * c.wai := Int.mul_nonneg je je
 exact ⟨⟨a1, a2⟩, a3, a4, a5, ⟨by omega, a7⟩, by unfold Cn.liesP; rw [if_pos h]⟩
theorem QO {c : Cf} (h : Cn.mayP c = true) (pol : Nat) : 1 ≤ Aq.wantOf c pol ∧ Aq.wantOf c pol ≤ 9 := by
 obtain ⟨h1, _, _, _, _, h2⟩ := zA h
 unfold Aq.wantOf
 split <;> omega
theorem JF {ups : Int} {l : List Int} (h : Aq.distinct ups l = true) : (∀ x ∈ l, 0 ≤ x ∧ x < ups) ∧ l.Nodup := by
 unfold Aq.distinct at h
 rw [Bool.and_eq_true, List.all_eq_true] at h
 exact ⟨fun x hx => of_decide_eq_true (h.1 x hx), of_decide_eq_true h.2⟩
theorem WP {pol tru : Nat} {ups : Int} {l : List Int} (h : Aq.distinct ups l = true) (hu : ups ≤ 9) : (∀ x ∈ Aq.own pol tru l, 0 ≤ x ∧ x ≤ 8) ∧ (Aq.own pol tru l).Nodup ∧ (Aq.own pol tru l).length ≤ 9 := by
 obtain ⟨h1, h2⟩ := JF h
 have h3 : ∀ x ∈ Aq.own pol tru l, 0 ≤ x ∧ x ≤ 8 := fun x hx => by
  have := h1 x ((List.mem_filter.1 hx).1)
  omega
 have h4 : (Aq.own pol tru l).Nodup := h2.sublist List.filter_sublist
 exact ⟨h3, h4, uX 9 _ h4 fun x hx => by have := h3 x hx; omega⟩
theorem JG : ∀ (k : Nat) (p : Pl), (Hg.nexts k p).1.made = p.made
 | 0, p => rfl
 | k + 1, p => JG k (Hg.next p)
theorem yx {q : Quest} {z : Zo} {l : List Int} {c : Cf} {now : Int} (h : NewIn q z l c now) (hq : QOk q) : AWell (Aq.new0 q z l c now) := by
 obtain ⟨n1, n2, n3, n4, n5, n6⟩ := zA h.may
 obtain ⟨o1, o2, o3⟩ := WP (pol := z.pol) (tru := z.tru) h.dist n1.2
 have hw := QO h.may z.pol
 have hp := h.pol
 have hn := h.now
 have htop : Hg.top = 1099511627776 := rfl
 have hg := Yh (Aq.own z.pol z.tru l) (Aq.wantOf c z.pol) c.hdg c.wai c.tri now o3 hw n2 n3 n4 je
 refine ⟨⟨hg.begin', (Fr.mk _ _ _ _ _ _).begin', Uz _ rfl, ?_, hw, ?_, hn, ?_, h.name, BoxOk.nil⟩, hq, by simp [Aq.new0, Aq.votes, Vd.votesB]⟩
 · show (Hg.begin' _).1.made = true
   unfold Hg.begin'
   split
   · rfl
   · exact (JG _ _).trans rfl
 · show (z.pol : Int) = 1 ∨ (z.pol : Int) = 2 ∨ ((z.pol : Int) = 3 ∧ Aq.wantOf c z.pol = 1)
   rcases (by omega : z.pol = 1 ∨ z.pol = 2 ∨ z.pol = 3) with e | e | e
   · exact Or.inl je
   · exact Or.inr (Or.inl je)
   · exact Or.inr (Or.inr ⟨by omega, by unfold Aq.wantOf; rw [if_pos e]⟩)
 · show 0 ≤ now + c.ded ∧ now + c.ded ≤ Hg.top + 100000
   omega
theorem QP {q : Quest} {z : Zo} {l : List Int} {c : Cf} {now : Int} (h : NewIn q z l c now) (hq : QOk q) : AWell (Aq.new1 q z l c now).1 := (yx h hq).look
theorem aaK (q : Quest) (z : Zo) (vl vz : Value) (l : List Int) (c : Cf) (now : Int) (hq1 : q.name.length ≤ 1000000) (hq2 : 0 ≤ q.kind ∧ q.kind ≤ 65535) (hq3 : 0 ≤ q.cls ∧ q.cls ≤ 65535) (hz : z.pol ≤ 255 ∧ z.tru ≤ 65535) (hl : IRow L vl l) (hl2 : l.length ≤ 1000) (hc : CfL L c vz) (hnow : -9223372036854775808 ≤ now ∧ now ≤ 9223372036854775807) :
 Spec Tryz.prog G 10 #[.agg (kf q), .agg #[.string (bs z.name), .int .u8 (z.pol : Nat), .int .u16 (z.tru : Nat)], vl, .agg (jn c vz).toArray, .int .i64 now] L (aaJ L (Aq.newE q z l c now) (Aq.new1 q z l c now)) := by
 obtain ⟨al, cl, rfl, hlr⟩ := id hl
 have htop : Hg.top = 1099511627776 := rfl
 have g0 : (jn (c) (vz)).toArray[0 + 0]? = some (.int .i64 (c).ups) := rfl
 have g1 : (jn (c) (vz)).toArray[0 + 1]? = some (.int .i64 (c).ded) := rfl
 have g2 : (jn (c) (vz)).toArray[0 + 2]? = some (.int .i64 (c).hdg) := rfl
 have g3 : (jn (c) (vz)).toArray[0 + 3]? = some (.int .i64 (c).wai) := rfl
 have g4 : (jn (c) (vz)).toArray[0 + 4]? = some (.int .i64 (c).tri) := rfl
 have g5 : (jn (c) (vz)).toArray[0 + 5]? = some (.int .i64 (c).res) := rfl
 have g6 : (jn (c) (vz)).toArray[0 + 6]? = some (.int .i64 (c).lim) := rfl
 have g7 : (jn (c) (vz)).toArray[0 + 7]? = some (.int .i64 (c).cac) := rfl
 have g8 : (jn (c) (vz)).toArray[0 + 8]? = some (.int .i64 (c).fli) := rfl
 have g9 : (jn (c) (vz)).toArray[0 + 9]? = some (.int .i64 (c).wtr) := rfl
 have g10 : (jn (c) (vz)).toArray[0 + 10]? = some (.int .i64 (c).ttl) := rfl
 have g11 : (jn (c) (vz)).toArray[0 + 11]? = some (.int .i64 (c).siz) := rfl
 have g12 : (jn (c) (vz)).toArray[0 + 12]? = some (vz) := rfl
 have k0 : (kf q)[0 + 0]? = some (.string (bs q.name)) := rfl
 refine jl (n := 132) Tryz.func10 rfl rfl rfl ?_
 repeat (first | refine goB ?_ | (refine jO ?_; intro bNew) | (refine kk ?_; intro bBox))
 obtain ⟨b11, hb11⟩ : ∃ b, bNew = b := ⟨_, rfl⟩
 rw [hb11]
 clear hb11
 obtain ⟨bc, hbc⟩ : ∃ b, bBox = b := ⟨_, rfl⟩
 rw [hbc]
 clear hbc
 rename_i bq bz
 refine jJ (jb jd rfl (Yp c vz (hc.mono jr))) rfl ?_
 cases hmay : Cn.mayP c with
 | false =>
   have he : Aq.newE q z l c now = 1 := qV fun k => by have := k.may; rw [hmay] at this; cases this
   rw [he, VN hmay]
   repeat (first | refine goB ?_ | refine jz (jm rfl (uD )) rfl ?_)
   refine jB (L' := (b11, Obj.cells #[.slice none 0 0, .slice none 0 0, .bool false, .bool false, .int .u8 0, .slice none 0 0, .slice none 0 0, .int .u32 0, .slice none 0 0, .slice none 0 0] 43 (0, 0)) :: L) ?_ ji
   refine qe 10 11 43 12 rfl rfl rfl rfl stO (List.mem_cons_self ..) rfl (fun w h => h.tail) ?_
   exact Or.inr ⟨by decide, rfl, rfl⟩
 | true =>
 rw [QM hmay]
 obtain ⟨n1, n2, n3, n4, n5, n6⟩ := zA hmay
 cases hname : Nm.may q.name with
 | false =>
   have he : Aq.newE q z l c now = 1 := qV fun k => by have := k.name; rw [hname] at this; cases this
   rw [he]
   repeat (first | refine goB ?_ | (refine' jQ (jb jd rfl (Jn _ ?_)) rfl ?_; (· omega)) | refine jz (jm rfl (uD )) rfl ?_)
   refine jB (L' := (b11, Obj.cells #[.slice none 0 0, .slice none 0 0, .bool false, .bool false, .int .u8 0, .slice none 0 0, .slice none 0 0, .int .u32 0, .slice none 0 0, .slice none 0 0] 43 (0, 0)) :: L) ?_ ji
   refine qe 10 11 43 12 rfl rfl rfl rfl stO (List.mem_cons_self ..) rfl (fun w h => h.tail) ?_
   exact Or.inr ⟨by decide, rfl, rfl⟩
 | true =>
 have hK : ∀ y ∈ [(bc, Obj.cells (jn c vz).toArray 30 (0, 0)), (bz, Obj.cells #[.string (bs z.name), .int .u8 (z.pol : Nat), .int .u16 (z.tru : Nat)] 26 (0, 0))], y ∈ (b11, Obj.cells #[.slice none 0 0, .slice none 0 0, .bool false, .bool false, .int .u8 0, .slice none 0 0, .slice none 0 0, .int .u32 0, .slice none 0 0, .slice none 0 0] 43 (0, 0)) :: (bc, Obj.cells (jn c vz).toArray 30 (0, 0)) :: (bz, Obj.cells #[.string (bs z.name), .int .u8 (z.pol : Nat), .int .u16 (z.tru : Nat)] 26 (0, 0)) :: (bq, Obj.cells (kf q) 24 (0, 0)) :: L := fun y hz => by simp only [List.mem_cons, List.not_mem_nil, or_false] at hz; rcases hz with rfl | rfl <;> simp
 by_cases hpol : 1 ≤ z.pol ∧ z.pol ≤ 3
 rotate_left
 · have he : Aq.newE q z l c now = 1 := qV fun k => hpol k.pol
   rw [he]
   have hch := Zc (G := G) (L := (b11, Obj.cells #[.slice none 0 0, .slice none 0 0, .bool false, .bool false, .int .u8 0, .slice none 0 0, .slice none 0 0, .int .u32 0, .slice none 0 0, .slice none 0 0] 43 (0, 0)) :: (bc, Obj.cells (jn c vz).toArray 30 (0, 0)) :: (bz, Obj.cells #[.string (bs z.name), .int .u8 (z.pol : Nat), .int .u16 (z.tru : Nat)] 26 (0, 0)) :: (bq, Obj.cells (kf q) 24 (0, 0)) :: L) z.pol (Cn.liesP c) je hpol
   repeat (first | refine goB ?_ | (refine' jQ (jb jd rfl (Jn _ ?_)) rfl ?_; (· omega)))
   refine jw jc ([(bc, Obj.cells (jn c vz).toArray 30 (0, 0)), (bz, Obj.cells #[.string (bs z.name), .int .u8 (z.pol : Nat), .int .u16 (z.tru : Nat)] 26 (0, 0))]) [] ?_
   refine tkQ 0 ?_
   refine tkQ 1 ?_
   refine tkQ 2 ?_
   refine jF 3 jd rfl rfl rfl rfl (jb jd rfl (Yq c vz (hc.mono jr))) ?_; rintro _ _ ⟨rfl, rfl⟩; refine ⟨Or.inr (fun z hz => by simp only [List.mem_cons, List.not_mem_nil, or_false] at hz; rcases hz with rfl | rfl <;> simp), ?_⟩
   refine jF 4 jd rfl rfl rfl rfl (jb jd rfl hch) ?_; rintro _ _ ⟨rfl, rfl⟩; refine ⟨Or.inr (fun z hz => by simp only [List.mem_cons, List.not_mem_nil, or_false] at hz; rcases hz with rfl | rfl <;> simp), ?_⟩
   refine tkQ 5 ?_
   refine tkQ 6 ?_
   refine tkQ 7 ?_
   refine tkQ 8 ?_
   refine tkQ 9 ?_
   refine tkQ 10 ?_
   refine tkQ 11 ?_
   refine tdQ ?_
   repeat (first | refine goB ?_ | refine jz (jm rfl (uD )) rfl ?_)
   refine jB (L' := (b11, Obj.cells #[.slice none 0 0, .slice none 0 0, .bool false, .bool false, .int .u8 0, .slice none 0 0, .slice none 0 0, .int .u32 0, .slice none 0 0, .slice none 0 0] 43 (0, 0)) :: L) ?_ ji
   refine qe 10 11 43 12 rfl rfl rfl rfl stO (List.mem_cons_self ..) rfl (fun w h => h.tail) ?_
   exact Or.inr ⟨by decide, rfl, rfl⟩
 have hch := WN (G := G) (L := (b11, Obj.cells #[.slice none 0 0, .slice none 0 0, .bool false, .bool false, .int .u8 0, .slice none 0 0, .slice none 0 0, .int .u32 0, .slice none 0 0, .slice none 0 0] 43 (0, 0)) :: (bc, Obj.cells (jn c vz).toArray 30 (0, 0)) :: (bz, Obj.cells #[.string (bs z.name), .int .u8 (z.pol : Nat), .int .u16 (z.tru : Nat)] 26 (0, 0)) :: (bq, Obj.cells (kf q) 24 (0, 0)) :: L) z.pol (Cn.liesP c) je hpol
 have hwant : (if z.pol = 3 then 1 else Cn.liesP c + 1) = Aq.wantOf c z.pol := rfl
 have hw := QO hmay z.pol
 rw [hwant] at hch
 repeat (first | refine goB ?_ | (refine' jQ (jb jd rfl (Jn _ ?_)) rfl ?_; (· omega)))
 refine jw jc ([(bc, Obj.cells (jn c vz).toArray 30 (0, 0)), (bz, Obj.cells #[.string (bs z.name), .int .u8 (z.pol : Nat), .int .u16 (z.tru : Nat)] 26 (0, 0))]) [] ?_
 refine tkQ 0 ?_
 refine tkQ 1 ?_
 refine tkQ 2 ?_
 refine jF 3 jd rfl rfl rfl rfl (jb jd rfl (Yq c vz (hc.mono jr))) ?_; rintro _ _ ⟨rfl, rfl⟩; refine ⟨Or.inr (fun z hz => by simp only [List.mem_cons, List.not_mem_nil, or_false] at hz; rcases hz with rfl | rfl <;> simp), ?_⟩
 refine jF 4 jd rfl rfl rfl rfl (jb jd rfl hch) ?_; rintro _ _ ⟨rfl, rfl⟩; refine ⟨Or.inr (fun z hz => by simp only [List.mem_cons, List.not_mem_nil, or_false] at hz; rcases hz with rfl | rfl <;> simp), ?_⟩
 refine tkQ 5 ?_
 refine tkQ 6 ?_
 refine tkQ 7 ?_
 refine tkQ 8 ?_
 refine tkQ 9 ?_
 refine tkQ 10 ?_
 refine tkQ 11 ?_
 refine tdQ ?_
 refine goB ?_
 refine jQ (jb jd rfl (WM _ l c.ups (hl.mono jr) hl2 n1)) rfl ?_
 cases hd : Aq.distinct c.ups l with
 | false =>
   have he : Aq.newE q z l c now = 1 := qV fun k => by have := k.dist; rw [hd] at this; cases this
   rw [he]
   repeat (first | refine goB ?_ | refine jz (jm rfl (uD )) rfl ?_)
   refine jB (L' := (b11, Obj.cells #[.slice none 0 0, .slice none 0 0, .bool false, .bool false, .int .u8 0, .slice none 0 0, .slice none 0 0, .int .u32 0, .slice none 0 0, .slice none 0 0] 43 (0, 0)) :: L) ?_ ji
   refine qe 10 11 43 12 rfl rfl rfl rfl stO (List.mem_cons_self ..) rfl (fun w h => h.tail) ?_
   exact Or.inr ⟨by decide, rfl, rfl⟩
 | true =>
 by_cases t0 : now < 0
 · have he : Aq.newE q z l c now = 1 := qV fun k => by have := k.now; omega
   rw [he]
   repeat (first | refine goB ?_ | refine jz (jm rfl (uD )) rfl ?_)
   refine jB (L' := (b11, Obj.cells #[.slice none 0 0, .slice none 0 0, .bool false, .bool false, .int .u8 0, .slice none 0 0, .slice none 0 0, .int .u32 0, .slice none 0 0, .slice none 0 0] 43 (0, 0)) :: L) ?_ ji
   refine qe 10 11 43 12 rfl rfl rfl rfl stO (List.mem_cons_self ..) rfl (fun w h => h.tail) ?_
   exact Or.inr ⟨by decide, rfl, rfl⟩
 by_cases t1 : 1099511627776 < now
 · have he : Aq.newE q z l c now = 1 := qV fun k => by have := k.now; omega
   rw [he]
   repeat (first | refine goB ?_ | refine jz (jm rfl (uD )) rfl ?_)
   refine jB (L' := (b11, Obj.cells #[.slice none 0 0, .slice none 0 0, .bool false, .bool false, .int .u8 0, .slice none 0 0, .slice none 0 0, .int .u32 0, .slice none 0 0, .slice none 0 0] 43 (0, 0)) :: L) ?_ ji
   refine qe 10 11 43 12 rfl rfl rfl rfl stO (List.mem_cons_self ..) rfl (fun w h => h.tail) ?_
   exact Or.inr ⟨by decide, rfl, rfl⟩
 have hin : NewIn q z l c now := ⟨hmay, hname, hpol, by omega, hd⟩
 rw [Yr hin]
 refine goB ?_
 refine jA (σ := Nat × Option Addr × Nat × ja) (fun x => x.1 ≤ l.length ∧ Row 3 1 (.slice x.2.1 (Aq.own z.pol z.tru (l.take x.1)).length x.2.2.1) (Aq.own z.pol z.tru (l.take x.1)).length (qq (Aq.own z.pol z.tru (l.take x.1))) x.2.2.2)
  (fun x => [(4, .int .i64 now), (5, .pointer (some ⟨bq, 0, none⟩)), (6, .pointer (some ⟨bz, 0, none⟩)), (8, .pointer (some ⟨bc, 0, none⟩)), (11, .pointer (some ⟨b11, 0, none⟩)), (13, .iface (WI z.pol) (Ql z.pol (Cn.liesP c + 1))), (14, .int .i64 (Aq.wantOf c z.pol)), (16, .slice x.2.1 (Aq.own z.pol z.tru (l.take x.1)).length x.2.2.1), (61, .slice al l.length cl), (62, .int .i64 (l.length : Nat)), (63, .int .i64 (x.1 : Nat))])
  (fun x => x.2.2.2 ++ ((b11, Obj.cells #[.slice none 0 0, .slice none 0 0, .bool false, .bool false, .int .u8 0, .slice none 0 0, .slice none 0 0, .int .u32 0, .slice none 0 0, .slice none 0 0] 43 (0, 0)) :: (bc, Obj.cells (jn c vz).toArray 30 (0, 0)) :: (bz, Obj.cells #[.string (bs z.name), .int .u8 (z.pol : Nat), .int .u16 (z.tru : Nat)] 26 (0, 0)) :: (bq, Obj.cells (kf q) 24 (0, 0)) :: L)) (fun x => l.length - x.1) (0, none, 0, []) ⟨Nat.zero_le _, Row.nil _ _⟩ ?_ (fun w h => h) ?_
 exact ju
 rintro ⟨k, y, yc, B⟩ ⟨hk, hR⟩
 dsimp only at hk hR ⊢
 have hlen : (Aq.own z.pol z.tru (l.take k)).length ≤ k := Nat.le_trans (List.length_filter_le _ _) (by simp; omega)
 by_cases hlt : k < l.length
 · obtain ⟨x, hx⟩ : ∃ x, l[k]? = some x := ⟨_, List.getElem?_eq_getElem hlt⟩
   obtain ⟨xr, _⟩ := JF hd
   have hx1 := xr x (List.mem_of_getElem? hx)
   obtain ⟨n, rfl⟩ : ∃ n : Nat, x = n := ⟨x.toNat, by omega⟩
   rcases hlr with rfl | ⟨b1, o1, C1, t1', f1, rfl, m1, q1⟩
   · simp at hlt
   have c1 := q1 k _ hx
   have hto : Aq.own z.pol z.tru (l.take (k + 1)) = Aq.own z.pol z.tru (l.take k) ++ (if WO z.pol z.tru n then [(n : Int)] else []) := by
    unfold Aq.own
    rw [List.take_add_one, hx, List.filter_append]
    congr 1
    simp only [Option.toList_some, List.filter_cons, List.filter_nil]
    rfl
   have hshr := QL (P := Tryz.prog) (t := 22) (k := .i64) (a := z.tru) (u := n) je
   have hand := Za (P := Tryz.prog) (t := 22) (a := z.tru / 2 ^ n) (Nat.lt_of_le_of_lt (Nat.div_le_self _ _) je)
   by_cases hp3 : z.pol = 3
   · refine goB ?_
     refine jM (qO rfl rfl hshr) rfl ?_
     repeat (refine kr rfl rfl ?_ ?_; (· exact nF (by omega)))
     refine jM (qO rfl rfl hand) rfl ?_
     by_cases hbit : z.tru / 2 ^ n % 2 = 1
     · have hob : WO z.pol z.tru n = true := by unfold WO; rw [Int.toNat_natCast, aaH, decide_eq_true hbit, Bool.or_true]
       rw [hob] at hto
       rw [if_pos rfl] at hto
       repeat (first | refine goB ?_ | (refine kR ?_; intro bLit))
       refine uB etO rfl rfl hR rfl (by unfold maxLen; omega) je rfl ?_
       intro v4 B4 hR4
       obtain ⟨a4, c4, rfl⟩ := hR4.slice
       have k4 : (Aq.own z.pol z.tru (l.take k)).length + 1 = (Aq.own z.pol z.tru (l.take (k + 1))).length := by rw [hto]; simp
       have k5 : qq (Aq.own z.pol z.tru (l.take k)) ++ [Value.int .i64 (n : Int)] = qq (Aq.own z.pol z.tru (l.take (k + 1))) := by rw [hto]; simp [qq]
       rw [k4, k5] at hR4
       rw [k4]
       refine goB ?_
       refine jh (k + 1, a4, c4, B4) ⟨hlt, hR4⟩ ?_ (fun w h => h) (by dsimp only; omega)
       exact ju
     · have hob : WO z.pol z.tru n = false := by unfold WO; rw [Int.toNat_natCast, aaH, decide_eq_false hbit, decide_eq_false (by simpa using hp3)]; rfl
       rw [hob] at hto
       rw [if_neg (by decide), List.append_nil] at hto
       refine goB ?_
       refine jh (k + 1, y, yc, B) ⟨hlt, by dsimp only; rw [hto]; exact hR⟩ ?_ (fun w h => h) (by dsimp only; omega)
       rw [hto]
       exact ju
   · have hob : WO z.pol z.tru n = true := by unfold WO; rw [decide_eq_true hp3]; rfl
     rw [hob] at hto
     rw [if_pos rfl] at hto
     repeat (first | refine goB ?_ | (refine kR ?_; intro bLit))
     refine uB etO rfl rfl hR rfl (by unfold maxLen; omega) je rfl ?_
     intro v4 B4 hR4
     obtain ⟨a4, c4, rfl⟩ := hR4.slice
     have k4 : (Aq.own z.pol z.tru (l.take k)).length + 1 = (Aq.own z.pol z.tru (l.take (k + 1))).length := by rw [hto]; simp
     have k5 : qq (Aq.own z.pol z.tru (l.take k)) ++ [Value.int .i64 (n : Int)] = qq (Aq.own z.pol z.tru (l.take (k + 1))) := by rw [hto]; simp [qq]
     rw [k4, k5] at hR4
     rw [k4]
     refine goB ?_
     refine jh (k + 1, a4, c4, B4) ⟨hlt, hR4⟩ ?_ (fun w h => h) (by dsimp only; omega)
     exact ju
 · have htk : l.take k = l := List.take_of_length_le je
   rw [htk] at hR hlen ⊢
   obtain ⟨o1, o2, o3⟩ := WP (pol := z.pol) (tru := z.tru) hd n1.2
   obtain ⟨ow, how⟩ : ∃ w, w = Aq.own z.pol z.tru l := ⟨_, rfl⟩
   rw [← how] at hR hlen o1 o2 o3 ⊢
   by_cases h0 : ow = []
   · subst h0
     rw [if_pos rfl]
     refine W2 (L' := (b11, Obj.cells #[.slice none 0 0, .slice none 0 0, .bool false, .bool false, .int .u8 0, .slice none 0 0, .slice none 0 0, .int .u32 0, .slice none 0 0, .slice none 0 0] 43 (0, 0)) :: L) ?_ ji
     repeat (first | refine goB ?_ | refine jz (jm rfl (uD )) rfl ?_)
     refine jB (L' := (b11, Obj.cells #[.slice none 0 0, .slice none 0 0, .bool false, .bool false, .int .u8 0, .slice none 0 0, .slice none 0 0, .int .u32 0, .slice none 0 0, .slice none 0 0] 43 (0, 0)) :: L) ?_ ji
     refine qe 10 11 43 12 rfl rfl rfl rfl stO (List.mem_cons_self ..) rfl (fun w h => h.tail) ?_
     exact Or.inr ⟨by decide, rfl, rfl⟩
   · rw [if_neg h0]
     have h0l : 0 < ow.length := List.length_pos_iff.2 h0
     have hnew := ae4 (G := G) (L := B ++ ((b11, Obj.cells #[.slice none 0 0, .slice none 0 0, .bool false, .bool false, .int .u8 0, .slice none 0 0, .slice none 0 0, .int .u32 0, .slice none 0 0, .slice none 0 0] 43 (0, 0)) :: (bc, Obj.cells (jn c vz).toArray 30 (0, 0)) :: (bz, Obj.cells #[.string (bs z.name), .int .u8 (z.pol : Nat), .int .u16 (z.tru : Nat)] 26 (0, 0)) :: (bq, Obj.cells (kf q) 24 (0, 0)) :: L)) _ ow (Aq.wantOf c z.pol) c.hdg c.wai c.tri now (hR.irow jr) o3 o1 o2 hw n2 n3 n4 je
     refine goB ?_
     refine jv (jb jd rfl hnew) rfl ?_
     rintro _ _ ⟨bp, M1, rfl, hp1, rfl⟩
     refine goB ?_
     refine jv (jb jd rfl (acL (Aq.wantOf c z.pol))) rfl ?_
     intro u0 M0 hu0
     rcases hu0 with ⟨_, _, bb, X0, rfl, hX0, rfl⟩ | ⟨hbad, _⟩
     rotate_left
     · omega
     refine goB ?_
     have hpx : Ql z.pol (Cn.liesP c + 1) = Ql z.pol (Aq.wantOf c z.pol) := by
      unfold Ql Aq.wantOf
      by_cases e : z.pol = 3
      · rw [if_neg je, if_neg je]
      · rw [if_neg e]
     rw [hpx]
     obtain ⟨a0, ha0⟩ : ∃ w, w = Aq.new0 q z l c now := ⟨_, rfl⟩
     obtain ⟨pm, hpm⟩ : ∃ w, w = Hg.mk ow (Aq.wantOf c z.pol) c.hdg c.wai c.tri now := ⟨_, rfl⟩
     rw [← hpm] at hp1
     have hqok : QOk q := ⟨hq1, hq2, hq3, hname⟩
     have hw0 : AWell a0 := by rw [ha0]; exact yx hin hqok
     have hp0 : a0.p = (Hg.begin' pm).1 := by rw [ha0, hpm, how]; rfl
     have hn1 : Aq.new1 q z l c now = Aq.look a0 (dd (Hg.begin' pm).2 []) := by rw [ha0, hpm, how]; rfl
     have ho0 : a0.over = false := by rw [ha0]; rfl
     have hb0 : PBox bb a0.want a0.l X0 := by rw [ha0]; exact hX0
     refine jz (jm rfl (Zd _ _ _ _ _ _ _ _ _ _)) rfl ?_
     refine jP (kx rfl) rfl ?_
     intro ap
     refine goB ?_
     refine kX (L' := (ap, Obj.cells (jk a0 bp bb) 102 (0, 0)) :: (X0 ++ (M1 ++ (B ++ ((b11, Obj.cells #[.slice none 0 0, .slice none 0 0, .bool false, .bool false, .int .u8 0, .slice none 0 0, .slice none 0 0, .int .u32 0, .slice none 0 0, .slice none 0 0] 43 (0, 0)) :: (bc, Obj.cells (jn c vz).toArray 30 (0, 0)) :: (bz, Obj.cells #[.string (bs z.name), .int .u8 (z.pol : Nat), .int .u16 (z.tru : Nat)] 26 (0, 0)) :: (bq, Obj.cells (kf q) 24 (0, 0)) :: L))))) (fun w h => by rw [ha0]; exact h) ?_
     refine jC (L' := M1 ++ ((ap, Obj.cells (jk a0 bp bb) 102 (0, 0)) :: (X0 ++ (B ++ ((b11, Obj.cells #[.slice none 0 0, .slice none 0 0, .bool false, .bool false, .int .u8 0, .slice none 0 0, .slice none 0 0, .int .u32 0, .slice none 0 0, .slice none 0 0] 43 (0, 0)) :: (bc, Obj.cells (jn c vz).toArray 30 (0, 0)) :: (bz, Obj.cells #[.string (bs z.name), .int .u8 (z.pol : Nat), .int .u16 (z.tru : Nat)] 26 (0, 0)) :: (bq, Obj.cells (kf q) 24 (0, 0)) :: L))))) ?_ ji
     refine jv (jb jd rfl (abX hp1 (by rw [hpm]; rfl) (by rw [hpm]; rfl) (by rw [hpm]; rfl))) rfl ?_
     rintro _ _ ⟨sa, sc, SB, M2, rfl, hRs, hp2, rfl⟩
     rw [← hp0] at hp2
     have hsl : (Hg.begin' pm).2.length ≤ 100 := by
      unfold Hg.begin'
      split
      · simp
      · rw [(qz _ _).2.2.2]
        have : pm.list.length ≤ 9 := by rw [hpm]; simpa [Hg.mk] using o3
        exact Nat.le_trans (Nat.min_le_right _ _) (Nat.le_trans (Nat.sub_le _ _) (Nat.le_trans this (by decide)))
     repeat (first | refine goB ?_ | (refine jO ?_; intro bNew) | refine jz (jm rfl (Q8 _ _ _)) rfl ?_)
     obtain ⟨b23, hb23⟩ : ∃ b, bNew = b := ⟨_, rfl⟩
     rw [hb23]
     clear hb23
     refine kX (L' := (b23, Obj.cells (ko (.slice sa (Hg.begin' pm).2.length sc) (.slice none 0 0)) 43 (0, 0)) :: (M2 ++ (SB ++ ((ap, Obj.cells (jk a0 bp bb) 102 (0, 0)) :: (X0 ++ (B ++ ((b11, Obj.cells #[.slice none 0 0, .slice none 0 0, .bool false, .bool false, .int .u8 0, .slice none 0 0, .slice none 0 0, .int .u32 0, .slice none 0 0, .slice none 0 0] 43 (0, 0)) :: (bc, Obj.cells (jn c vz).toArray 30 (0, 0)) :: (bz, Obj.cells #[.string (bs z.name), .int .u8 (z.pol : Nat), .int .u16 (z.tru : Nat)] 26 (0, 0)) :: (bq, Obj.cells (kf q) 24 (0, 0)) :: L))))))) (fun w h => h) ?_
     refine jC (L' := (ap, Obj.cells (jk a0 bp bb) 102 (0, 0)) :: (b23, Obj.cells (ko (.slice sa (Hg.begin' pm).2.length sc) (.slice none 0 0)) 43 (0, 0)) :: (M2 ++ (X0 ++ (SB ++ (B ++ ((b11, Obj.cells #[.slice none 0 0, .slice none 0 0, .bool false, .bool false, .int .u8 0, .slice none 0 0, .slice none 0 0, .int .u32 0, .slice none 0 0, .slice none 0 0] 43 (0, 0)) :: (bc, Obj.cells (jn c vz).toArray 30 (0, 0)) :: (bz, Obj.cells #[.string (bs z.name), .int .u8 (z.pol : Nat), .int .u16 (z.tru : Nat)] 26 (0, 0)) :: (bq, Obj.cells (kf q) 24 (0, 0)) :: L)))))) ?_ ji
     refine jv (jb jd rfl (uO (Ng := []) (g := []) hp2 hb0 hw0 ho0 hsl hRs jK (by simp))) rfl ?_
     rintro _ _ ⟨cs, M4, N, hp4, hdd, rfl⟩
     rw [hn1]
     obtain ⟨r, hr⟩ : ∃ r, r = Aq.look a0 (dd (Hg.begin' pm).2 []) := ⟨_, rfl⟩
     have hkk := kp (d := dd (Hg.begin' pm).2 []) hw0.ok
     rw [← hr] at hp4 hdd hkk ⊢
     have hb5 : PBox bb r.1.want r.1.l X0 := by rw [hkk.2.2.1, hkk.2.2.2.2.1]; exact hb0
     have hd' := hdd
     obtain ⟨d1, d2, d3, d4, d5, d6, d7, d8, d9, d10, d11, d12, rfl, _⟩ := hd'
     have hKd : ∀ y ∈ [(b23, Obj.cells ([.slice d1 r.2.sends.length d2, .slice d3 r.2.gone.length d4, .bool r.2.over, .bool r.2.done, .int .u8 r.2.vd.code, .slice d5 r.2.vd.sets.length d6, .slice d7 r.2.vd.soa.length d8, .int .u32 r.2.time, .slice d9 r.2.agree.length d10, .slice d11 r.2.dissent.length d12] : List Value).toArray 43 (0, 0))], y ∈ (ap, Obj.cells (jk r.1 bp bb) 102 (0, 0)) :: (b23, Obj.cells ([.slice d1 r.2.sends.length d2, .slice d3 r.2.gone.length d4, .bool r.2.over, .bool r.2.done, .int .u8 r.2.vd.code, .slice d5 r.2.vd.sets.length d6, .slice d7 r.2.vd.soa.length d8, .int .u32 r.2.time, .slice d9 r.2.agree.length d10, .slice d11 r.2.dissent.length d12] : List Value).toArray 43 (0, 0)) :: (M4 ++ (X0 ++ (N ++ (B ++ ((b11, Obj.cells #[.slice none 0 0, .slice none 0 0, .bool false, .bool false, .int .u8 0, .slice none 0 0, .slice none 0 0, .int .u32 0, .slice none 0 0, .slice none 0 0] 43 (0, 0)) :: (bc, Obj.cells (jn c vz).toArray 30 (0, 0)) :: (bz, Obj.cells #[.string (bs z.name), .int .u8 (z.pol : Nat), .int .u16 (z.tru : Nat)] 26 (0, 0)) :: (bq, Obj.cells (kf q) 24 (0, 0)) :: L))))) := fun y hy => by rw [List.mem_singleton.1 hy]; simp
     refine goB ?_
     refine jw jc ([(b23, Obj.cells ([.slice d1 r.2.sends.length d2, .slice d3 r.2.gone.length d4, .bool r.2.over, .bool r.2.done, .int .u8 r.2.vd.code, .slice d5 r.2.vd.sets.length d6, .slice d7 r.2.vd.soa.length d8, .int .u32 r.2.time, .slice d9 r.2.agree.length d10, .slice d11 r.2.dissent.length d12] : List Value).toArray 43 (0, 0))]) [] ?_
     refine tkQ 0 ?_
     refine tkQ 1 ?_
     refine tkQ 2 ?_
     refine jZ (L' := (b11, Obj.cells #[.slice none 0 0, .slice none 0 0, .bool false, .bool false, .int .u8 0, .slice none 0 0, .slice none 0 0, .int .u32 0, .slice none 0 0, .slice none 0 0] 43 (0, 0)) :: (b23, Obj.cells ([.slice d1 r.2.sends.length d2, .slice d3 r.2.gone.length d4, .bool r.2.over, .bool r.2.done, .int .u8 r.2.vd.code, .slice d5 r.2.vd.sets.length d6, .slice d7 r.2.vd.soa.length d8, .int .u32 r.2.time, .slice d9 r.2.agree.length d10, .slice d11 r.2.dissent.length d12] : List Value).toArray 43 (0, 0)) :: (ap, Obj.cells (jk r.1 bp bb) 102 (0, 0)) :: (M4 ++ (X0 ++ (N ++ (B ++ ((bc, Obj.cells (jn c vz).toArray 30 (0, 0)) :: (bz, Obj.cells #[.string (bs z.name), .int .u8 (z.pol : Nat), .int .u16 (z.tru : Nat)] 26 (0, 0)) :: (bq, Obj.cells (kf q) 24 (0, 0)) :: L)))))) ?_ ji; refine jW 3 jd rfl rfl rfl (uv rfl rfl stO rfl rfl rfl) ?_; rintro _ _ ⟨_, rfl⟩; refine ⟨Or.inr (fun y hy => by rw [List.mem_singleton.1 hy]; simp), ?_⟩
     refine tkQ 4 ?_
     refine tdQ ?_
     refine goB ?_
     refine qe 10 11 43 12 rfl rfl rfl rfl stO (List.mem_cons_self ..) rfl (L' := ((ap, Obj.cells (jk r.1 bp bb) 102 (0, 0)) :: (M4 ++ X0)) ++ (N ++ L)) (fun w h => h.cnt ji) ?_
     exact Or.inl ⟨rfl, ap, _, _, N, rfl, by simpa using hdd, ⟨bp, bb, M4, X0, hp4, hb5, rfl⟩, rfl⟩
end
section
open Go.RowKit
open Hg (En Pl)
open Vd (RSet Vdt Vote Rec Quest Piece Ballot)
variable {G : World} {L : ja}
theorem VP (ca cb : List Value) (a b : Vdt) (ha : vdR L ca a) (hb : vdR L cb b) : Spec Tryz.prog G 55 #[.agg ca.toArray, .agg cb.toArray] L fun u M => u = .bool (decide (a = b)) ∧ M = L := by
 obtain ⟨a1, a2, rfl, ha1, ha2, _⟩ := ha
 obtain ⟨b1, b2, rfl, hb1, hb2, _⟩ := hb
 refine jl (n := 24) Tryz.func55 rfl rfl rfl ?_
 by_cases n1 : a.code = b.code
 rotate_left
 · rw [decide_eq_false (fun e => n1 (by rw [e]))]
   repeat (first | refine goA ?_ | (refine kk ?_; intro bBox))
   refine jB (L' := L) ?_ ji
   refine jf 4 _ rfl rfl ?_
   exact ⟨rfl, rfl⟩
 repeat (first | refine goA ?_ | (refine kk ?_; intro bBox))
 refine jQ (jb jd rfl (Qu _ _ a.sets b.sets (jp jx _ _ _ _ jr ha1) (jp jx _ _ _ _ jr hb1))) rfl ?_
 by_cases n2 : a.sets = b.sets
 rotate_left
 · rw [decide_eq_false n2, decide_eq_false (fun e => n2 (by rw [e]))]
   refine goA ?_
   refine jB (L' := L) ?_ ji
   refine jf 4 _ rfl rfl ?_
   exact ⟨rfl, rfl⟩
 rw [decide_eq_true n2]
 refine goA ?_
 refine jQ (jb jd rfl (Qu _ _ a.soa b.soa (jp jx _ _ _ _ jr ha2) (jp jx _ _ _ _ jr hb2))) rfl ?_
 have e : decide (a = b) = decide (a.soa = b.soa) := by congr 1; rw [acl]; simp [n1, n2]
 rw [e]
 refine goA ?_
 refine jB (L' := L) ?_ ji
 refine jf 4 _ rfl rfl ?_
 exact ⟨rfl, rfl⟩
structure DFew (d : Dd) : Prop where
 sends : d.sends.length ≤ 1000000
 gone : d.gone.length ≤ 1000000
 agree : d.agree.length ≤ 1000000
 dissent : d.dissent.length ≤ 1000000
theorem aaL (ca cb : List Value) (a b : Dd) (ha : JJ L ca a) (hb : JJ L cb b) (hf : DFew a) : Spec Tryz.prog G 44 #[.agg ca.toArray, .agg cb.toArray] L fun u M => u = .bool (decide (a = b)) ∧ M = L := by
 obtain ⟨y1, k1, y2, k2, y3, k3, y4, k4, y5, k5, y6, k6, rfl, ha1, ha2, ha3, ha4, ha5⟩ := ha
 obtain ⟨z1, w1, z2, w2, z3, w3, z4, w4, z5, w5, z6, w6, rfl, hb1, hb2, hb3, hb4, hb5⟩ := hb
 have q4 : ∀ j v, ([.int .u8 a.vd.code, .slice y3 a.vd.sets.length k3, .slice y4 a.vd.soa.length k4] : List Value)[j]? = some v → ([.slice y1 a.sends.length k1, .slice y2 a.gone.length k2, .bool a.over, .bool a.done, .int .u8 a.vd.code, .slice y3 a.vd.sets.length k3, .slice y4 a.vd.soa.length k4, .int .u32 a.time, .slice y5 a.agree.length k5, .slice y6 a.dissent.length k6] : List Value).toArray[0 + 4 + j]? = some v := fun j v hj => by
  match j, hj with
  | 0, hj => exact hj
  | 1, hj => exact hj
  | 2, hj => exact hj
 have r4 : ∀ j v, ([.int .u8 b.vd.code, .slice z3 b.vd.sets.length w3, .slice z4 b.vd.soa.length w4] : List Value)[j]? = some v → ([.slice z1 b.sends.length w1, .slice z2 b.gone.length w2, .bool b.over, .bool b.done, .int .u8 b.vd.code, .slice z3 b.vd.sets.length w3, .slice z4 b.vd.soa.length w4, .int .u32 b.time, .slice z5 b.agree.length w5, .slice z6 b.dissent.length w6] : List Value).toArray[0 + 4 + j]? = some v := fun j v hj => by
  match j, hj with
  | 0, hj => exact hj
  | 1, hj => exact hj
  | 2, hj => exact hj
 refine jl (n := 59) Tryz.func44 rfl rfl rfl ?_
 by_cases n1 : a.over = b.over
 rotate_left
 · have en1 : (a.over == b.over) = false := beq_false_of_ne n1
   rw [decide_eq_false (fun e => n1 (by rw [e]))]
   repeat (first | refine goA ?_ | (refine kk ?_; intro bBox))
   refine jB (L' := L) ?_ ji
   refine jf 4 _ rfl rfl ?_
   exact ⟨rfl, rfl⟩
 have en1 : (a.over == b.over) = true := beq_iff_eq.2 n1
 by_cases n2 : a.done = b.done
 rotate_left
 · have en2 : (a.done == b.done) = false := beq_false_of_ne n2
   rw [decide_eq_false (fun e => n2 (by rw [e]))]
   repeat (first | refine goA ?_ | (refine kk ?_; intro bBox))
   refine jB (L' := L) ?_ ji
   refine jf 4 _ rfl rfl ?_
   exact ⟨rfl, rfl⟩
 have en2 : (a.done == b.done) = true := beq_iff_eq.2 n2
 by_cases n3 : a.time = b.time
 rotate_left
 · rw [decide_eq_false (fun e => n3 (by rw [e]))]
   repeat (first | refine goA ?_ | (refine kk ?_; intro bBox))
   refine jB (L' := L) ?_ ji
   refine jf 4 _ rfl rfl ?_
   exact ⟨rfl, rfl⟩
 repeat (first | refine goA ?_ | (refine kk ?_; intro bBox))
 refine jQ (jb jd rfl (Uy _ _ a.sends b.sends (ha1.mono jr) (hb1.mono jr) hf.sends)) rfl ?_
 by_cases n4 : a.sends = b.sends
 rotate_left
 · rw [beq_false_of_ne n4, decide_eq_false (fun e => n4 (by rw [e]))]
   refine goA ?_
   refine jB (L' := L) ?_ ji
   refine jf 4 _ rfl rfl ?_
   exact ⟨rfl, rfl⟩
 rw [beq_iff_eq.2 n4]
 refine goA ?_
 refine jQ (jb jd rfl (Uy _ _ a.gone b.gone (ha2.mono jr) (hb2.mono jr) hf.gone)) rfl ?_
 by_cases n5 : a.gone = b.gone
 rotate_left
 · rw [beq_false_of_ne n5, decide_eq_false (fun e => n5 (by rw [e]))]
   refine goA ?_
   refine jB (L' := L) ?_ ji
   refine jf 4 _ rfl rfl ?_
   exact ⟨rfl, rfl⟩
 rw [beq_iff_eq.2 n5]
 refine goA ?_
 refine jQ (jb jd rfl (Uy _ _ a.agree b.agree (ha4.mono jr) (hb4.mono jr) hf.agree)) rfl ?_
 by_cases n6 : a.agree = b.agree
 rotate_left
 · rw [beq_false_of_ne n6, decide_eq_false (fun e => n6 (by rw [e]))]
   refine goA ?_
   refine jB (L' := L) ?_ ji
   refine jf 4 _ rfl rfl ?_
   exact ⟨rfl, rfl⟩
 rw [beq_iff_eq.2 n6]
 refine goA ?_
 refine jQ (jb jd rfl (Uy _ _ a.dissent b.dissent (ha5.mono jr) (hb5.mono jr) hf.dissent)) rfl ?_
 by_cases n7 : a.dissent = b.dissent
 rotate_left
 · rw [beq_false_of_ne n7, decide_eq_false (fun e => n7 (by rw [e]))]
   refine goA ?_
   refine jB (L' := L) ?_ ji
   refine jf 4 _ rfl rfl ?_
   exact ⟨rfl, rfl⟩
 rw [beq_iff_eq.2 n7]
 refine goA ?_
 refine jM (jy [.int .u8 a.vd.code, .slice y3 a.vd.sets.length k3, .slice y4 a.vd.soa.length k4] rfl stL (List.mem_cons_of_mem _ (List.mem_cons_self ..)) q4) rfl ?_
 refine goA ?_
 refine jM (jy [.int .u8 b.vd.code, .slice z3 b.vd.sets.length w3, .slice z4 b.vd.soa.length w4] rfl stL (List.mem_cons_self ..) r4) rfl ?_
 repeat (refine kr rfl rfl ?_ ?_; (· with_reducible rfl))
 refine jQ (jb jd rfl (VP _ _ a.vd b.vd (ki _ _ _ _ jr ha3) (ki _ _ _ _ jr hb3))) rfl ?_
 have e : decide (a = b) = decide (a.vd = b.vd) := by
  congr 1
  obtain ⟨s1, s2, s3, s4, s5, s6, s7, s8⟩ := a
  obtain ⟨t1, t2, t3, t4, t5, t6, t7, t8⟩ := b
  dsimp only at n1 n2 n3 n4 n5 n6 n7
  subst n1 n2 n3 n4 n5 n6 n7
  simp
 rw [e]
 refine goA ?_
 refine jB (L' := L) ?_ ji
 refine jf 4 _ rfl rfl ?_
 exact ⟨rfl, rfl⟩
theorem qv (ca cb : List Value) (a b : Dd) (ha : JJ L ca a) (hb : JJ L cb b) (hf : DFew a) : Spec Tryz.prog G 12 #[.agg ca.toArray, .agg cb.toArray] L fun u M => u = .bool (decide (a = b)) ∧ M = L := by
 have h1 := (ue ha)
 have h2 := (ue hb)
 refine jl (n := 8) Tryz.func12 rfl rfl rfl ?_
 repeat (first | refine goA ?_ | (refine kk ?_; intro bBox))
 refine jz (ui rfl stO (List.mem_cons_of_mem _ (List.mem_cons_self ..)) h1.2) rfl ?_
 refine jz (ui rfl stO (List.mem_cons_self ..) h2.2) rfl ?_
 skip
 refine jJ (jb jd rfl (aaL ca cb a b (kz _ _ _ _ jr ha) (kz _ _ _ _ jr hb) hf)) rfl ?_
 refine goA ?_
 refine jB (L' := L) ?_ ji
 refine jf 4 _ rfl rfl ?_
 exact ⟨rfl, rfl⟩
end
section
open Go.RowKit
open Vd (RSet Vdt Vote Rec Quest Piece Ballot)
variable {G : World} {L : ja}
def kq (s : RSet) : List Rec := s.data.map fun d => ⟨s.name, s.kind, s.cls, s.ttl, d⟩
def js (l : List RSet) : List Rec := l.flatMap kq
theorem uf (l : List RSet) : 10 * (js l).length ≤ ur l := by
 induction l with
 | nil => simp [js]
 | cons s l ih =>
   have h3 := Wp (l := s.data.map qC) (c := 10) (fun x hx => by obtain ⟨d, _, rfl⟩ := List.mem_map.1 hx; unfold qC; omega)
   rw [List.length_map] at h3
   have h4 : ua s = 30 + min 6000 s.name.length + (s.data.map qC).sum := rfl
   have h5 : ur (s :: l) = ua s + ur l := by simp [ur]
   have h6 : (js (s :: l)).length = s.data.length + (js l).length := by simp [js, kq]
   omega
theorem QQ (cs : List Value) (s : RSet) (hs : rsR L cs s) (hn : s.name.length ≤ maxLen) (hd : s.data.length ≤ 100000) : Spec Tryz.prog G 53 #[.agg cs.toArray] L fun u M => ∃ a c B, u = .slice a (kq s).length c ∧ ORow uR 177 5 [] a c (kq s) B ∧ M = B ++ L := by
 obtain ⟨da, dc, rfl, hsd, _, hkk, hc, ht⟩ := hs.vals
 have hdl := Qx hsd
 have hl := sliceR.cut hsd
 unfold maxLen at hl
 obtain ⟨_, hl1, hl2, hl⟩ := hl
 refine jl (n := 30) Tryz.func53 rfl rfl rfl ?_
 repeat (first | refine goA ?_ | (refine kk ?_; intro bBox))
 obtain ⟨C0, hC0⟩ : ∃ C : Array Value, C = #[.string (bs s.name), .int .u16 s.kind, .int .u16 s.cls, .int .u32 s.ttl, .slice da s.data.length dc] := ⟨_, rfl⟩
 rw [← hC0]
 have g0 : C0[0 + 0]? = some (.string (bs s.name)) := by rw [hC0]; rfl
 have g1 : C0[0 + 1]? = some (.int .u16 s.kind) := by rw [hC0]; rfl
 have g2 : C0[0 + 2]? = some (.int .u16 s.cls) := by rw [hC0]; rfl
 have g3 : C0[0 + 3]? = some (.int .u32 s.ttl) := by rw [hC0]; rfl
 have g4 : C0[0 + 4]? = some (.slice da s.data.length dc) := by rw [hC0]; rfl
 clear hC0
 refine jA (σ := Nat × Option Addr × Nat × ja) (fun x => x.1 ≤ s.data.length ∧ ORow uR 177 5 [] x.2.1 x.2.2.1 ((kq s).take x.1) x.2.2.2) (fun x => [(1, .pointer (some ⟨bBox, 0, none⟩)), (3, .slice x.2.1 ((kq s).take x.1).length x.2.2.1), (4, .int .i64 (x.1 : Nat))]) (fun x => x.2.2.2 ++ ((bBox, Obj.cells C0 122 (0, 0)) :: L)) (fun x => s.data.length - x.1) (0, none, 0, []) ⟨Nat.zero_le _, by simpa using ORow.nil _⟩ ?_ (fun w h => h) ?_
 exact ju
 rintro ⟨k, y, yc, B⟩ ⟨hk, hR⟩
 dsimp only at hk hR ⊢
 have hrl : (kq s).length = s.data.length := by simp [kq]
 have htl : ((kq s).take k).length = k := by rw [List.length_take, hrl]; omega
 by_cases hlt : k < s.data.length
 · obtain ⟨d, hdk⟩ : ∃ d, s.data[k]? = some d := ⟨_, List.getElem?_eq_getElem hlt⟩
   obtain ⟨b1, o1, C1, t1, f1, rfl, m1, cs1, _, ⟨rfl, hdm⟩, hcs1⟩ := sliceR.at hsd hdk
   have c1 : C1[o1 + k * 1]? = some (.string (bs d)) := hcs1 0 _ rfl
   have hrk : (kq s)[k]? = some ⟨s.name, s.kind, s.cls, s.ttl, d⟩ := Un _ hdk
   have hsucc : (kq s).take (k + 1) = (kq s).take k ++ [⟨s.name, s.kind, s.cls, s.ttl, d⟩] := by rw [List.take_add_one, hrk]; rfl
   have hK : ∀ z ∈ [(bBox, Obj.cells C0 122 (0, 0)), (b1, Obj.cells C1 t1 f1)], z ∈ B ++ ((bBox, Obj.cells C0 122 (0, 0)) :: L) := fun z hz => by
    simp only [List.mem_cons, List.not_mem_nil, or_false] at hz
    rcases hz with rfl | rfl
    · simp
    · exact List.mem_append_right _ (List.mem_cons_of_mem _ m1)
   have hK2 : ∀ A : ja, ∀ z ∈ [(bBox, Obj.cells C0 122 (0, 0)), (b1, Obj.cells C1 t1 f1)], z ∈ A ++ ((bBox, Obj.cells C0 122 (0, 0)) :: L) := fun A z hz => by
    simp only [List.mem_cons, List.not_mem_nil, or_false] at hz
    rcases hz with rfl | rfl
    · simp
    · exact List.mem_append_right _ (List.mem_cons_of_mem _ m1)
   refine goA ?_
   refine jw jc ([(bBox, Obj.cells C0 122 (0, 0)), (b1, Obj.cells C1 t1 f1)]) [] ?_
   refine tkQ 0 ?_
   refine tkQ 1 ?_
   refine tkQ 2 ?_
   refine tkQ 3 ?_
   refine tkQ 4 ?_
   refine tkQ 5 ?_
   refine tkQ 6 ?_
   refine tkQ 7 ?_
   refine tkQ 8 ?_
   refine tkQ 9 ?_
   refine tkQ 10 ?_
   refine tkQ 11 ?_
   refine tkQ 12 ?_
   refine tkQ 13 ?_
   (refine' jt 14 rfl rfl jd (jG (jm rfl (zL _ _ _ _ _))) ?_ ?_; (· assumption))
   refine jF 15 jd rfl rfl rfl rfl (q9 (cs := [.string (bs s.name), .int .u16 s.kind, .int .u16 s.cls, .int .u32 s.ttl, .string (bs d)]) etO rfl rfl (by decide)) ?_; rintro _ _ ⟨bl, rfl, rfl⟩; refine ⟨Or.inr (fun z hz => List.mem_cons_of_mem _ (hK z hz)), ?_⟩
   refine jF 16 jd rfl rfl rfl rfl (q8 (cs := [.string (bs s.name), .int .u16 s.kind, .int .u16 s.cls, .int .u32 s.ttl, .string (bs d)]) (y := (⟨s.name, s.kind, s.cls, s.ttl, d⟩ : Rec)) etO rfl rfl hR rfl (by intro v hv; simp only [List.mem_cons, List.not_mem_nil, or_false] at hv; rcases hv with rfl | rfl | rfl | rfl | rfl <;> rfl) ⟨rfl, hn, hdm, hkk, hc, ht⟩ (by unfold maxLen; omega) je) ?_; rintro _ _ ⟨a2, c2, B2, rfl, hB2, rfl⟩; refine ⟨Or.inr (hK2 B2), ?_⟩
   refine tkQ 17 ?_
   refine tdQ ?_
   refine goA ?_
   rw [← hsucc] at hB2 ⊢
   refine jh (k + 1, a2, c2, B2) ⟨hlt, hB2⟩ ?_ (fun w h => h) (by dsimp only; omega)
   exact ju
 · have hke : k = (kq s).length := by omega
   have hta : (kq s).take k = kq s := by rw [hke, List.take_length]
   rw [hta] at hR ⊢
   refine goA ?_
   refine jB (L' := B ++ L) ?_ ji
   refine jf 2 _ rfl rfl ?_
   exact ⟨y, yc, B, rfl, hR, rfl⟩
def K3 (q : Quest) (v : Vdt) : Bool := decide ((Vd.ofM q ⟨v.code, js v.sets, js v.soa⟩).2.2 = 0 ∧ (Vd.ofM q ⟨v.code, js v.sets, js v.soa⟩).1 = v)
theorem ac0 {L : ja} {m : Vd.Msg} {a b : Value} (vq : Value) (hq : vq.oneCell' = true) (hc : 0 ≤ m.code ∧ m.code ≤ 255) (ha : sliceR 5 uR L [a] m.answers) (hb : sliceR 5 uR L [b] m.auth) :
 msgR L [.int .u16 0, .bool true, .int .u8 0, .bool false, .bool false, .bool false, .bool false, .bool false, .bool false, .bool false, .int .u8 m.code, vq, a, b, .slice none 0 0, .bool false, .int .u16 0, .int .u8 0, .int .u8 0, .int .u16 0, .slice none 0 0] m := by
 obtain ⟨x1, k1, e1, ha⟩ := ha.val
 obtain rfl := (List.cons.inj e1).1
 obtain ⟨x2, k2, e2, hb⟩ := hb.val
 obtain rfl := (List.cons.inj e2).1
 refine ⟨_, _, _, _, _, _, _, _, _, _, _, _, _, _, _, _, _, _, _, _, rfl, ha, hb, hc, fun w hw => ?_⟩
 simp only [List.mem_cons, List.not_mem_nil, or_false] at hw
 rcases hw with rfl | rfl | rfl | rfl | rfl | rfl | rfl | rfl | rfl | rfl | rfl | rfl | rfl | rfl | rfl | rfl | rfl | rfl | rfl | rfl | rfl <;> (first | rfl | exact hq)
theorem QR (l : List RSet) (k : Nat) : ur (l.take k) ≤ ur l := by
 unfold ur
 rw [List.map_take]
 exact u5 _ _
theorem VQ {L : ja} : ∀ cs y, uR L cs y → ∀ v ∈ cs, v.oneCell' = true := by
 rintro cs y ⟨rfl, _⟩ v hv
 simp only [List.mem_cons, List.not_mem_nil, or_false] at hv
 rcases hv with rfl | rfl | rfl | rfl | rfl <;> rfl
theorem aaM (q : Quest) (v : Vdt) (cv : List Value) (hv : vdR L cv v) (hq1 : q.name.length ≤ 1000000) (hq2 : 0 ≤ q.kind ∧ q.kind ≤ 65535) (hq3 : 0 ≤ q.cls ∧ q.cls ≤ 65535) (hl1 : LSm v.sets) (hl2 : LSm v.soa) :
 Spec Tryz.prog G 21 #[.agg (kf q), .agg cv.toArray] L fun u M => u = .bool (K3 q v) ∧ M = L := by
 obtain ⟨a1, c1, a2, c2, rfl, h1, h2, hcode⟩ := hv.vals
 have k1 := (sliceR.cut h1).2
 have k2 := (sliceR.cut h2).2
 unfold maxLen at k1 k2
 obtain ⟨k11, k12, _⟩ := k1
 obtain ⟨k21, k22, _⟩ := k2
 have ht1 := hl1.tot
 have ht2 := hl2.tot
 refine jl (n := 64) Tryz.func21 rfl rfl rfl ?_
 repeat (first | refine goA ?_ | (refine jO ?_; intro bNew) | (refine kk ?_; intro bBox))
 obtain ⟨b5, hb5⟩ : ∃ b, bNew = b := ⟨_, rfl⟩
 rw [hb5]
 clear hb5
 obtain ⟨b3, hb3⟩ : ∃ b, bBox = b := ⟨_, rfl⟩
 rw [hb3]
 clear hb3
 rename_i b2
 refine jP (j9 (vs := [(0, .slice a1 v.sets.length c1), (1, .slice a2 v.soa.length c2)]) rfl (uC (C := #[.slice a1 v.sets.length c1, .slice a2 v.soa.length c2]) etO [.slice a1 v.sets.length c1, .slice a2 v.soa.length c2] rfl (by simp [Value.cells]) (by decide) rfl)) rfl ?_
 intro bl
 refine goA ?_
 refine jA (σ := Nat × (Option Addr × Nat × ja) × (Option Addr × Nat × ja)) (fun x => x.1 ≤ 2 ∧ ORow uR 177 5 [] x.2.1.1 x.2.1.2.1 (if x.1 = 0 then [] else js v.sets) x.2.1.2.2 ∧ ORow uR 177 5 [] x.2.2.1 x.2.2.2.1 (if x.1 ≤ 1 then [] else js v.soa) x.2.2.2.2 ∧ (x.1 = 0 → x.2.1 = (none, 0, [])) ∧ (x.1 ≤ 1 → x.2.2 = (none, 0, [])))
  (fun x => [(2, .pointer (some ⟨b2, 0, none⟩)), (3, .pointer (some ⟨b3, 0, none⟩)), (5, .pointer (some ⟨b5, 0, none⟩)), (16, .slice (some ⟨bl, 0, none⟩) 2 2), (17, .int .i64 2), (18, .int .i64 (x.1 : Nat))])
  (fun x => (b5, Obj.cells #[.slice x.2.1.1 (if x.1 = 0 then [] else js v.sets).length x.2.1.2.1, .slice x.2.2.1 (if x.1 ≤ 1 then [] else js v.soa).length x.2.2.2.1] 117 (0, 0)) :: (x.2.1.2.2 ++ (x.2.2.2.2 ++ ((bl, Obj.cells #[.slice a1 v.sets.length c1, .slice a2 v.soa.length c2] 38 (0, 0)) :: (b3, Obj.cells #[.int .u8 v.code, .slice a1 v.sets.length c1, .slice a2 v.soa.length c2] 40 (0, 0)) :: (b2, Obj.cells (kf q) 24 (0, 0)) :: L)))) (fun x => 2 - x.1) (0, (none, 0, []), (none, 0, [])) ⟨by decide, ORow.nil _, ORow.nil _, fun _ => rfl, fun _ => rfl⟩ ?_ (fun w h => by dsimp only; rw [if_pos rfl, if_pos (by decide)]; simp only [List.length_nil]; exact h.cnt ji) ?_
 exact ju
 rintro ⟨i, ⟨y0, yc0, B0⟩, ⟨y1, yc1, B1⟩⟩ ⟨hi, h0, h1r, e0, e1⟩
 dsimp only at hi h0 h1r e0 e1 ⊢
 rcases (by omega : i = 0 ∨ i = 1 ∨ i = 2) with rfl | rfl | rfl
 · obtain ⟨rfl, rfl, rfl⟩ : y0 = none ∧ yc0 = 0 ∧ B0 = [] := by simpa using e0 rfl
   obtain ⟨rfl, rfl, rfl⟩ : y1 = none ∧ yc1 = 0 ∧ B1 = [] := by simpa using e1 (by decide)
   refine UN [(2, .pointer (some ⟨b2, 0, none⟩)), (3, .pointer (some ⟨b3, 0, none⟩)), (5, .pointer (some ⟨b5, 0, none⟩)), (16, .slice (some ⟨bl, 0, none⟩) 2 2), (17, .int .i64 2), (18, .int .i64 ((0 : Nat) : Int))] ((b5, Obj.cells #[.slice none 0 0, .slice none 0 0] 117 (0, 0)) :: ((bl, Obj.cells #[.slice a1 v.sets.length c1, .slice a2 v.soa.length c2] 38 (0, 0)) :: (b3, Obj.cells #[.int .u8 v.code, .slice a1 v.sets.length c1, .slice a2 v.soa.length c2] 40 (0, 0)) :: (b2, Obj.cells (kf q) 24 (0, 0)) :: L)) ?_ ?_ ?_
   exact ju
   · intro w h
     rw [if_pos rfl, if_pos (by decide)] at h
     simp only [List.length_nil] at h
     exact h.cnt ji
   refine goA ?_
   obtain ⟨X, hX⟩ : ∃ z, z = v.sets := ⟨_, rfl⟩
   obtain ⟨ax, hax⟩ : ∃ z, z = a1 := ⟨_, rfl⟩
   obtain ⟨cx, hcx⟩ : ∃ z, z = c1 := ⟨_, rfl⟩
   obtain ⟨ii, hii⟩ : ∃ z : Int, z = ((0 : Nat) : Int) := ⟨_, rfl⟩
   obtain ⟨f, hf⟩ : ∃ f : Value → Array Value, f = fun x => #[x, .slice none 0 0] := ⟨_, rfl⟩
   obtain ⟨RST, hRST⟩ : ∃ B : ja, B = (bl, Obj.cells #[.slice a1 v.sets.length c1, .slice a2 v.soa.length c2] 38 (0, 0)) :: (b3, Obj.cells #[.int .u8 v.code, .slice a1 v.sets.length c1, .slice a2 v.soa.length c2] 40 (0, 0)) :: (b2, Obj.cells (kf q) 24 (0, 0)) :: L := ⟨_, rfl⟩
   have hf1 : ∀ x, (f x)[0 + ii.toNat * 1]? = some x := fun x => by rw [hf, hii]; rfl
   have hf2 : ∀ x y, (f x).setIfInBounds (0 + ii.toNat * 1) y = f y := fun x y => by rw [hf, hii]; rfl
   have hiiB : 0 ≤ ii ∧ ii < 2 := by rw [hii]; decide
   have hxs : sliceR 5 rsR L [.slice ax X.length cx] X := by rw [hax, hX, hcx]; exact h1
   have hlX : LSm X := by rw [hX]; exact hl1
   have hLR : ∀ p ∈ L, p ∈ RST := by rw [hRST]; intro p hp; simp [hp]
   have hXc : X.length ≤ cx ∧ cx ≤ 9223372036854775807 := by rw [hX, hcx]; omega
   have htX := hlX.tot
   skip
   refine jA (σ := Nat × Option Addr × Nat × ja) (fun x => x.1 ≤ X.length ∧ ORow uR 177 5 [] x.2.1 x.2.2.1 (js (X.take x.1)) x.2.2.2) (fun x => [(2, .pointer (some ⟨b2, 0, none⟩)), (3, .pointer (some ⟨b3, 0, none⟩)), (5, .pointer (some ⟨b5, 0, none⟩)), (16, .slice (some ⟨bl, 0, none⟩) 2 2), (17, .int .i64 2), (18, .int .i64 ii), (6, .int .i64 ii), (7, .slice ax X.length cx), (8, .int .i64 (x.1 : Nat))]) (fun x => (b5, Obj.cells (f (.slice x.2.1 (js (X.take x.1)).length x.2.2.1)) 117 (0, 0)) :: (x.2.2.2 ++ RST)) (fun x => X.length - x.1) (0, none, 0, []) ⟨Nat.zero_le _, by simpa [js] using ORow.nil _⟩ ?_ (fun w h => by rw [hf, hRST]; exact h) ?_
   · (rw [hX, hax, hcx, hii]; (repeat (first | exact trivial | refine ⟨rfl, ?_⟩)))
   rintro ⟨k, y, yc, B⟩ ⟨hk, hR⟩
   dsimp only at hk hR ⊢
   have hrl : (js (X.take k)).length ≤ 600 := by
    have := uf (X.take k)
    have h2 := QR X k
    omega
   by_cases hlt : k < X.length
   · obtain ⟨s, hsk⟩ : ∃ s, X[k]? = some s := ⟨_, List.getElem?_eq_getElem hlt⟩
     obtain ⟨w1, o1, C1, t1, f1, haw, m1, cs1, _, hcs0, hcs⟩ := sliceR.at hxs hsk
     rw [haw]
     obtain ⟨da, dc, rfl, hd, hsn, _⟩ := id hcs0.vals
     obtain ⟨hs1, hs2, hs3⟩ := hlX.set (List.mem_of_getElem? hsk)
     have hsucc : js (X.take (k + 1)) = js (X.take k) ++ kq s := by unfold js; rw [List.take_add_one, hsk, List.flatMap_append]; simp
     have hrs : (kq s).length ≤ 600 := by simpa [kq] using hs2
     have hset : ∀ j w, ([.string (bs s.name), .int .u16 s.kind, .int .u16 s.cls, .int .u32 s.ttl, .slice da s.data.length dc] : List Value)[j]? = some w → C1[o1 + k * 5 + j]? = some w := hcs
     have hf3 := hf1 (.slice y (js (X.take k)).length yc)
     have hKA : ∀ (A : ja), ∀ z ∈ [(b5, Obj.cells (f (.slice y (js (X.take k)).length yc)) 117 (0, 0)), (w1, Obj.cells C1 t1 f1)], z ∈ A ++ ((b5, Obj.cells (f (.slice y (js (X.take k)).length yc)) 117 (0, 0)) :: RST) := fun A z hz => by
      simp only [List.mem_cons, List.not_mem_nil, or_false] at hz
      rcases hz with rfl | rfl
      · simp
      · exact List.mem_append_right _ (List.mem_cons_of_mem _ (hLR _ m1))
     have hK : ∀ z ∈ [(b5, Obj.cells (f (.slice y (js (X.take k)).length yc)) 117 (0, 0)), (w1, Obj.cells C1 t1 f1)], z ∈ (b5, Obj.cells (f (.slice y (js (X.take k)).length yc)) 117 (0, 0)) :: (B ++ RST) := fun z hz => by
      simp only [List.mem_cons, List.not_mem_nil, or_false] at hz
      rcases hz with rfl | rfl
      · exact List.mem_cons_self ..
      · exact List.mem_cons_of_mem _ (List.mem_append_right _ (hLR _ m1))
     refine goA ?_
     refine jw jc ([(b5, Obj.cells (f (.slice y (js (X.take k)).length yc)) 117 (0, 0)), (w1, Obj.cells C1 t1 f1)]) [11] ?_
     refine tkQ 0 ?_
     refine tkQ 1 ?_
     refine tkQ 2 ?_
     refine tkQ 3 ?_
     refine tkQ 4 ?_
     refine tkQ 5 ?_
     refine tkQ 6 ?_
     (refine' jt 7 rfl rfl jd (jG (jy [.string (bs s.name), .int .u16 s.kind, .int .u16 s.cls, .int .u32 s.ttl, .slice da s.data.length dc] rfl stL (List.mem_cons_of_mem _ (List.mem_singleton.2 rfl)) hset)) ?_ ?_; (· assumption))
     refine jF 8 jd rfl rfl rfl rfl (jb jd rfl (QQ _ s (jx _ _ _ _ (fun p hp => List.mem_cons_of_mem _ (List.mem_append_right _ (hLR p hp))) hcs0) hsn je)) ?_; rintro _ _ ⟨ra, rc, RB, rfl, hRB, rfl⟩; refine ⟨Or.inr (fun z hz => List.mem_append_right _ (hK z hz)), ?_⟩
     refine jZ (L' := B ++ (RB ++ ((b5, Obj.cells (f (.slice y (js (X.take k)).length yc)) 117 (0, 0)) :: RST))) ?_ ji; refine jF 9 jd rfl rfl rfl rfl (qw (r := uR) (L0 := RB) (l := js (X.take k)) (m := kq s) etO rfl rfl rfl rfl (hR.mono kQ (by simp)) (hRB.sliceR kQ (by simp) (fun p hp => hp)) (fun p hp => List.mem_append_left _ hp) kQ VQ je (by decide)) ?_; rintro _ _ ⟨a3, c3, B3, rfl, hB3, rfl⟩; refine ⟨Or.inr (fun z hz => by have := hKA (B3 ++ RB) z hz; simpa using this), ?_⟩
     refine tkQ 10 ?_
     refine jZ (L' := (b5, Obj.cells (f (.slice y (js (X.take k)).length yc)) 117 (0, 0)) :: (B3 ++ (RB ++ RST))) ?_ ji; refine jW 11 jd rfl rfl rfl (yE rfl rfl onO rfl hf3 (hf2 _ _)) ?_; rintro _ _ ⟨_, rfl⟩; refine ⟨Or.inl (by simp), ?_⟩
     refine tdQ ?_
     refine goA ?_
     rw [← hsucc] at hB3 ⊢
     refine jh (k + 1, a3, c3, B3) ⟨hlt, hB3.imp (fun cs x _ h => h)⟩ ?_ (fun w h => h.cnt ji) (by dsimp only; omega)
     exact ju
   · have hta : X.take k = X := List.take_of_length_le je
     rw [hta] at hR ⊢
     rw [hX] at hR ⊢
     rw [hii, hf, hRST]
     rw [hX] at hlt
     refine goA ?_
     refine jh (1, (y, yc, B), (none, 0, [])) ⟨show 1 ≤ 2 by decide, hR, ORow.nil _, fun h => (by cases h), fun _ => rfl⟩ ?_ (fun w h => by dsimp only; rw [if_neg (by decide), if_pos (by decide)]; simp only [List.length_nil]; exact h.cnt ji) (by show 2 - 1 < 2 - 0; decide)
     exact ju
 · obtain ⟨rfl, rfl, rfl⟩ : y1 = none ∧ yc1 = 0 ∧ B1 = [] := by simpa using e1 (by decide)
   refine UN [(2, .pointer (some ⟨b2, 0, none⟩)), (3, .pointer (some ⟨b3, 0, none⟩)), (5, .pointer (some ⟨b5, 0, none⟩)), (16, .slice (some ⟨bl, 0, none⟩) 2 2), (17, .int .i64 2), (18, .int .i64 ((1 : Nat) : Int))] ((b5, Obj.cells #[.slice y0 (js v.sets).length yc0, .slice none 0 0] 117 (0, 0)) :: (B0 ++ ((bl, Obj.cells #[.slice a1 v.sets.length c1, .slice a2 v.soa.length c2] 38 (0, 0)) :: (b3, Obj.cells #[.int .u8 v.code, .slice a1 v.sets.length c1, .slice a2 v.soa.length c2] 40 (0, 0)) :: (b2, Obj.cells (kf q) 24 (0, 0)) :: L))) ?_ ?_ ?_
   exact ju
   · intro w h
     rw [if_neg (by decide), if_pos (by decide)] at h
     simp only [List.length_nil] at h
     exact h.cnt ji
   refine goA ?_
   obtain ⟨X, hX⟩ : ∃ z, z = v.soa := ⟨_, rfl⟩
   obtain ⟨ax, hax⟩ : ∃ z, z = a2 := ⟨_, rfl⟩
   obtain ⟨cx, hcx⟩ : ∃ z, z = c2 := ⟨_, rfl⟩
   obtain ⟨ii, hii⟩ : ∃ z : Int, z = ((1 : Nat) : Int) := ⟨_, rfl⟩
   obtain ⟨f, hf⟩ : ∃ f : Value → Array Value, f = fun x => #[.slice y0 (js v.sets).length yc0, x] := ⟨_, rfl⟩
   obtain ⟨RST, hRST⟩ : ∃ B : ja, B = B0 ++ ((bl, Obj.cells #[.slice a1 v.sets.length c1, .slice a2 v.soa.length c2] 38 (0, 0)) :: (b3, Obj.cells #[.int .u8 v.code, .slice a1 v.sets.length c1, .slice a2 v.soa.length c2] 40 (0, 0)) :: (b2, Obj.cells (kf q) 24 (0, 0)) :: L) := ⟨_, rfl⟩
   have hf1 : ∀ x, (f x)[0 + ii.toNat * 1]? = some x := fun x => by rw [hf, hii]; rfl
   have hf2 : ∀ x y, (f x).setIfInBounds (0 + ii.toNat * 1) y = f y := fun x y => by rw [hf, hii]; rfl
   have hiiB : 0 ≤ ii ∧ ii < 2 := by rw [hii]; decide
   have hxs : sliceR 5 rsR L [.slice ax X.length cx] X := by rw [hax, hX, hcx]; exact h2
   have hlX : LSm X := by rw [hX]; exact hl2
   have hLR : ∀ p ∈ L, p ∈ RST := by rw [hRST]; intro p hp; simp [hp]
   have hXc : X.length ≤ cx ∧ cx ≤ 9223372036854775807 := by rw [hX, hcx]; omega
   have htX := hlX.tot
   skip
   refine jA (σ := Nat × Option Addr × Nat × ja) (fun x => x.1 ≤ X.length ∧ ORow uR 177 5 [] x.2.1 x.2.2.1 (js (X.take x.1)) x.2.2.2) (fun x => [(2, .pointer (some ⟨b2, 0, none⟩)), (3, .pointer (some ⟨b3, 0, none⟩)), (5, .pointer (some ⟨b5, 0, none⟩)), (16, .slice (some ⟨bl, 0, none⟩) 2 2), (17, .int .i64 2), (18, .int .i64 ii), (6, .int .i64 ii), (7, .slice ax X.length cx), (8, .int .i64 (x.1 : Nat))]) (fun x => (b5, Obj.cells (f (.slice x.2.1 (js (X.take x.1)).length x.2.2.1)) 117 (0, 0)) :: (x.2.2.2 ++ RST)) (fun x => X.length - x.1) (0, none, 0, []) ⟨Nat.zero_le _, by simpa [js] using ORow.nil _⟩ ?_ (fun w h => by rw [hf, hRST]; exact h) ?_
   · (rw [hX, hax, hcx, hii]; (repeat (first | exact trivial | refine ⟨rfl, ?_⟩)))
   rintro ⟨k, y, yc, B⟩ ⟨hk, hR⟩
   dsimp only at hk hR ⊢
   have hrl : (js (X.take k)).length ≤ 600 := by
    have := uf (X.take k)
    have h2 := QR X k
    omega
   by_cases hlt : k < X.length
   · obtain ⟨s, hsk⟩ : ∃ s, X[k]? = some s := ⟨_, List.getElem?_eq_getElem hlt⟩
     obtain ⟨w1, o1, C1, t1, f1, haw, m1, cs1, _, hcs0, hcs⟩ := sliceR.at hxs hsk
     rw [haw]
     obtain ⟨da, dc, rfl, hd, hsn, _⟩ := id hcs0.vals
     obtain ⟨hs1, hs2, hs3⟩ := hlX.set (List.mem_of_getElem? hsk)
     have hsucc : js (X.take (k + 1)) = js (X.take k) ++ kq s := by unfold js; rw [List.take_add_one, hsk, List.flatMap_append]; simp
     have hrs : (kq s).length ≤ 600 := by simpa [kq] using hs2
     have hset : ∀ j w, ([.string (bs s.name), .int .u16 s.kind, .int .u16 s.cls, .int .u32 s.ttl, .slice da s.data.length dc] : List Value)[j]? = some w → C1[o1 + k * 5 + j]? = some w := hcs
     have hf3 := hf1 (.slice y (js (X.take k)).length yc)
     have hKA : ∀ (A : ja), ∀ z ∈ [(b5, Obj.cells (f (.slice y (js (X.take k)).length yc)) 117 (0, 0)), (w1, Obj.cells C1 t1 f1)], z ∈ A ++ ((b5, Obj.cells (f (.slice y (js (X.take k)).length yc)) 117 (0, 0)) :: RST) := fun A z hz => by
      simp only [List.mem_cons, List.not_mem_nil, or_false] at hz
      rcases hz with rfl | rfl
      · simp
      · exact List.mem_append_right _ (List.mem_cons_of_mem _ (hLR _ m1))
     have hK : ∀ z ∈ [(b5, Obj.cells (f (.slice y (js (X.take k)).length yc)) 117 (0, 0)), (w1, Obj.cells C1 t1 f1)], z ∈ (b5, Obj.cells (f (.slice y (js (X.take k)).length yc)) 117 (0, 0)) :: (B ++ RST) := fun z hz => by
      simp only [List.mem_cons, List.not_mem_nil, or_false] at hz
      rcases hz with rfl | rfl
      · exact List.mem_cons_self ..
      · exact List.mem_cons_of_mem _ (List.mem_append_right _ (hLR _ m1))
     refine goA ?_
     refine jw jc ([(b5, Obj.cells (f (.slice y (js (X.take k)).length yc)) 117 (0, 0)), (w1, Obj.cells C1 t1 f1)]) [11] ?_
     refine tkQ 0 ?_
     refine tkQ 1 ?_
     refine tkQ 2 ?_
     refine tkQ 3 ?_
     refine tkQ 4 ?_
     refine tkQ 5 ?_
     refine tkQ 6 ?_
     (refine' jt 7 rfl rfl jd (jG (jy [.string (bs s.name), .int .u16 s.kind, .int .u16 s.cls, .int .u32 s.ttl, .slice da s.data.length dc] rfl stL (List.mem_cons_of_mem _ (List.mem_singleton.2 rfl)) hset)) ?_ ?_; (· assumption))
     refine jF 8 jd rfl rfl rfl rfl (jb jd rfl (QQ _ s (jx _ _ _ _ (fun p hp => List.mem_cons_of_mem _ (List.mem_append_right _ (hLR p hp))) hcs0) hsn je)) ?_; rintro _ _ ⟨ra, rc, RB, rfl, hRB, rfl⟩; refine ⟨Or.inr (fun z hz => List.mem_append_right _ (hK z hz)), ?_⟩
     refine jZ (L' := B ++ (RB ++ ((b5, Obj.cells (f (.slice y (js (X.take k)).length yc)) 117 (0, 0)) :: RST))) ?_ ji; refine jF 9 jd rfl rfl rfl rfl (qw (r := uR) (L0 := RB) (l := js (X.take k)) (m := kq s) etO rfl rfl rfl rfl (hR.mono kQ (by simp)) (hRB.sliceR kQ (by simp) (fun p hp => hp)) (fun p hp => List.mem_append_left _ hp) kQ VQ je (by decide)) ?_; rintro _ _ ⟨a3, c3, B3, rfl, hB3, rfl⟩; refine ⟨Or.inr (fun z hz => by have := hKA (B3 ++ RB) z hz; simpa using this), ?_⟩
     refine tkQ 10 ?_
     refine jZ (L' := (b5, Obj.cells (f (.slice y (js (X.take k)).length yc)) 117 (0, 0)) :: (B3 ++ (RB ++ RST))) ?_ ji; refine jW 11 jd rfl rfl rfl (yE rfl rfl onO rfl hf3 (hf2 _ _)) ?_; rintro _ _ ⟨_, rfl⟩; refine ⟨Or.inl (by simp), ?_⟩
     refine tdQ ?_
     refine goA ?_
     rw [← hsucc] at hB3 ⊢
     refine jh (k + 1, a3, c3, B3) ⟨hlt, hB3.imp (fun cs x _ h => h)⟩ ?_ (fun w h => h.cnt ji) (by dsimp only; omega)
     exact ju
   · have hta : X.take k = X := List.take_of_length_le je
     rw [hta] at hR ⊢
     rw [hX] at hR ⊢
     rw [hii, hf, hRST]
     rw [hX] at hlt
     refine goA ?_
     refine jh (2, (y0, yc0, B0), (y, yc, B)) ⟨show 2 ≤ 2 by decide, h0, hR, fun h => (by cases h), fun h => absurd h (show ¬ 2 ≤ 1 by decide)⟩ ?_ (fun w h => by dsimp only; rw [if_neg (by decide), if_neg (by decide)]; exact h.cnt ji) (by show 2 - 2 < 2 - 1; decide)
     exact ju
 · refine UN [(2, .pointer (some ⟨b2, 0, none⟩)), (3, .pointer (some ⟨b3, 0, none⟩)), (5, .pointer (some ⟨b5, 0, none⟩)), (16, .slice (some ⟨bl, 0, none⟩) 2 2), (17, .int .i64 2), (18, .int .i64 ((2 : Nat) : Int))] ((b5, Obj.cells #[.slice y0 (js v.sets).length yc0, .slice y1 (js v.soa).length yc1] 117 (0, 0)) :: (B0 ++ (B1 ++ ((bl, Obj.cells #[.slice a1 v.sets.length c1, .slice a2 v.soa.length c2] 38 (0, 0)) :: (b3, Obj.cells #[.int .u8 v.code, .slice a1 v.sets.length c1, .slice a2 v.soa.length c2] 40 (0, 0)) :: (b2, Obj.cells (kf q) 24 (0, 0)) :: L)))) ?_ ?_ ?_
   exact ju
   · intro w h
     rw [if_neg (by decide), if_neg (by decide)] at h
     exact h
   have h0' : ORow uR 177 5 [] y0 yc0 (js v.sets) B0 := h0
   have h1' : ORow uR 177 5 [] y1 yc1 (js v.soa) B1 := h1r
   have l1 := uf v.sets
   have l2 := uf v.soa
   repeat (first | refine goA ?_ | refine jz (jm rfl (US _ _)) rfl ?_ | refine jz (jm rfl (J3 _ _ _ _ _ _ _ _ _ _ _ _ _ _ _ _ _ _ _ _)) rfl ?_ | (refine kR ?_; intro bLit))
   obtain ⟨bqs, hbqs⟩ : ∃ b, bLit = b := ⟨_, rfl⟩
   rw [hbqs]
   clear hbqs
   have hm := ac0 (m := ⟨v.code, js v.sets, js v.soa⟩) (L := (bqs, Obj.cells [.string (bs q.name), .int .u16 q.kind, .int .u16 q.cls].toArray 24 (0, 0)) :: ((b5, Obj.cells #[.slice y0 (js v.sets).length yc0, .slice y1 (js v.soa).length yc1] 117 (0, 0)) :: (B0 ++ (B1 ++ ((bl, Obj.cells #[.slice a1 v.sets.length c1, .slice a2 v.soa.length c2] 38 (0, 0)) :: (b3, Obj.cells #[.int .u8 v.code, .slice a1 v.sets.length c1, .slice a2 v.soa.length c2] 40 (0, 0)) :: (b2, Obj.cells (kf q) 24 (0, 0)) :: L))))) (.slice (some ⟨bqs, 0, none⟩) 1 1) rfl hcode (h0'.sliceR kQ (by simp) jr) (h1'.sliceR kQ (by simp) jr)
   have hsm : ∀ (l : List RSet), LSm l → ∀ x ∈ js l, x.name.length ≤ 1000000 ∧ x.data.length ≤ 1000000 := fun l hl x hx => by
    obtain ⟨s, hs, hx⟩ := List.mem_flatMap.1 hx
    obtain ⟨d, hd, rfl⟩ := List.mem_map.1 hx
    obtain ⟨e1, _, e3⟩ := hl.set hs
    have := e3 d hd
    exact ⟨by dsimp only; omega, by dsimp only; omega⟩
   refine jv (jb jd rfl (agk [.string (bs q.name), .int .u16 q.kind, .int .u16 q.cls] _ q ⟨v.code, js v.sets, js v.soa⟩ ⟨rfl, by unfold maxLen; omega, hq2, hq3⟩ hm hq1 (by show (js v.sets).length ≤ 10000; omega) (hsm _ hl1) (by show (js v.soa).length ≤ 10000; omega) (hsm _ hl2))) rfl ?_
   obtain ⟨r, hr⟩ : ∃ r, r = Vd.ofM q ⟨v.code, js v.sets, js v.soa⟩ := ⟨_, rfl⟩
   have hrp : K3 q v = decide (r.2.2 = 0 ∧ r.1 = v) := by rw [hr]; rfl
   rw [← hr, hrp]
   rintro _ _ ⟨ra, rc, RB, ra2, rc2, RB2, N, rfl, hR1, hR2, hN, rfl⟩
   repeat (first | refine goA ?_ | (refine jO ?_; intro bNew))
   have hcd := aad q ⟨v.code, js v.sets, js v.soa⟩ hcode
   rw [← hr] at hcd
   by_cases hr0 : r.2.2 = 0
   · have e : decide (r.2.2 = 0 ∧ r.1 = v) = decide (r.1 = v) := by congr 1; simp [hr0]
     rw [e]
     refine goA ?_
     refine jQ (jb jd rfl (VP _ _ r.1 v ⟨_, _, rfl, hR1.sliceR jx jr jr, hR2.sliceR jx jr jr, hcd⟩ ⟨_, _, rfl, jp jx _ _ _ _ jr h1, jp jx _ _ _ _ jr h2, hcode⟩)) rfl ?_
     refine goA ?_
     refine jB (L' := L) ?_ ji
     refine jf 4 _ rfl rfl ?_
     exact ⟨rfl, rfl⟩
   · have e : decide (r.2.2 = 0 ∧ r.1 = v) = false := decide_eq_false fun k => hr0 k.1
     rw [e]
     refine goA ?_
     refine jB (L' := L) ?_ ji
     refine jf 4 _ rfl rfl ?_
     exact ⟨rfl, rfl⟩
end
section
open Go.RowKit
open Vd (RSet Vdt Vote Rec Quest Piece Ballot)
theorem LSm.smS {l : List RSet} (h : LSm l) : SmS l := ⟨by have := h.few; omega, fun s hs => by have := (h.set hs).2.1; omega⟩
theorem ace {q : Quest} {v : Vdt} (h : K3 q v = true) : (Vd.ofM q ⟨v.code, js v.sets, js v.soa⟩).1 = v := (of_decide_eq_true h).2
theorem Ze {q : Quest} {v : Vdt} (h : K3 q v = true) : aao (fun s => s.data ≠ []) v := by
 have h1 := VA q ⟨v.code, js v.sets, js v.soa⟩ (fun s => s.data ≠ []) (fun s hs => hs)
  (fun s hs => ((uq (D := ((js v.sets).map (·.data.length)).sum) (js v.sets) (fun x hx => Uo (List.mem_map_of_mem (f := fun x : Rec => x.data.length) hx))).2 s hs).2.2.1)
  (fun s hs => ((uq (D := ((js v.soa).map (·.data.length)).sum) (js v.soa) (fun x hx => Uo (List.mem_map_of_mem (f := fun x : Rec => x.data.length) hx))).2 s hs).2.2.1)
 rw [ace h] at h1
 exact h1
structure VOk (q : Quest) (v : Vdt) : Prop where
 sm : SmV v
 ends : EndOk q v
theorem Ys {q : Quest} {v : Vdt} (h : K3 q v = true) (h1 : LSm v.sets) (h2 : LSm v.soa) : VOk q v := by
 have hd := Ze h
 refine ⟨⟨h1.smS, h2.smS⟩, ?_, ?_, ?_⟩
 · by_cases he : (Vd.endV q v).2 = true
   · exact (h1.set (JV he).1).2.1
   · rw [Uw (by simpa using he)]; simp [RSet.none]
 · by_cases he : (Vd.endV q v).2 = true
   · intro d hdm
     have := (h1.set (JV he).1).2.2 d hdm
     omega
   · rw [Uw (by simpa using he)]; simp [RSet.none]
 · intro he
   exact hd.1 _ (JV he).1
end
section
open Go.RowKit
open Vd (RSet Vdt Vote Rec Quest Piece Ballot)
open Cn (Zo Cf)
variable {G : World} {L : ja}
def qE : Quest := ⟨[2, 101, 120, 0], 1, 1⟩
def strictZ : Zo := ⟨[0], 1, 0⟩
def aaN (ups ded hdg wai tri : Int) : Cf := ⟨ups, ded, hdg, wai, tri, 1, 1, 0, 1, 1, 0, 512, []⟩
def qW (b : UInt8) : Vdt := ⟨0, [⟨[2, 101, 120, 0], 1, 1, 0, [[10, 0, 0, b]]⟩], []⟩
theorem ags : Spec Tryz.prog G 32 #[] L fun u M => u = .agg (kf qE) ∧ M = L := by
 refine jl (n := 2) Tryz.func32 rfl rfl rfl ?_
 repeat (first | refine goA ?_ | (refine jO ?_; intro bNew) | refine jz (jm rfl (UR _ _ _)) rfl ?_)
 refine ke 0 24  rfl rfl  stO (by repeat (exact List.mem_cons_self)) rfl (fun w h => h.tail) ?_
 exact ⟨rfl, rfl⟩
theorem Zf : Spec Tryz.prog G 33 #[] L fun u M => u = .agg #[.string (bs strictZ.name), .int .u8 (strictZ.pol : Nat), .int .u16 (strictZ.tru : Nat)] ∧ M = L := by
 refine jl (n := 2) Tryz.func33 rfl rfl rfl ?_
 repeat (first | refine goA ?_ | (refine jO ?_; intro bNew) | refine jz (jm rfl (Yy _ _)) rfl ?_)
 refine ke 0 26  rfl rfl  stO (by repeat (exact List.mem_cons_self)) rfl (fun w h => h.tail) ?_
 exact ⟨rfl, rfl⟩
theorem aaO (ups ded hdg wai tri : Int) : Spec Tryz.prog G 34 #[.int .i64 ups, .int .i64 ded, .int .i64 hdg, .int .i64 wai, .int .i64 tri] L fun u M => u = .agg (jn (aaN ups ded hdg wai tri) (.slice none 0 0)).toArray ∧ M = L := by
 refine jl (n := 17) Tryz.func34 rfl rfl rfl ?_
 repeat (first | refine goA ?_ | (refine jO ?_; intro bNew) | refine jz (jm rfl (qR _ _ _ _ _ _ _ _ _ _)) rfl ?_)
 refine ke 10 30  rfl rfl  stO (by repeat (exact List.mem_cons_self)) rfl (fun w h => h.tail) ?_
 exact ⟨rfl, rfl⟩
def acf (L : ja) (b : UInt8) (u : Value) (M : ja) : Prop := ∃ cv N, u = .agg cv.toArray ∧ vdR N cv (qW b) ∧ M = N ++ L
theorem UE (c : UInt8) (x : Int) (hx : x = (c.toNat : Int)) : Spec Tryz.prog G 35 #[.int .u8 x] L (acf L c) := by
 subst hx
 refine jl (n := 11) Tryz.func35 rfl rfl rfl ?_
 refine jY (jS (jP (j4 (C := #[.int .u8 0, .slice none 0 0, .slice none 0 0]) zeO rfl) rfl ?_))
 intro b2
 repeat (first | refine goA ?_ | (refine kR ?_; intro bLit))
 refine jz (Q1 [c] rfl rfl unO unO unO (List.mem_cons_self ..) (fun j hj => ?_)) rfl ?_
 · match j, hj with
   | 0, _ => rfl
 repeat (first | refine goA ?_ | refine jz (jm rfl (abo _ _ _)) rfl ?_ | refine jz (jm rfl (J2 _ _ _ _ _ _)) rfl ?_ | (refine kR ?_; intro bLit))
 rename_i bB bD
 refine kX (L' := [(bLit, Obj.cells #[.string (bs [2, 101, 120, 0]), .int .u16 1, .int .u16 1, .int .u32 0, .slice (some ⟨bD, 0, none⟩) 1 1] 122 (0, 0)), (bD, Obj.cells #[.string (bs ([10, 0, 0] ++ [c]))] 9 (0, 0)), (bB, Obj.cells #[.int .u8 (c.toNat : Int)] 5 (0, 0))] ++ ((b2, Obj.cells #[.int .u8 0, .slice none 0 0, .slice none 0 0] 40 (0, 0)) :: L)) (fun w h => h) ?_
 refine jC (L' := (b2, Obj.cells #[.int .u8 0, .slice none 0 0, .slice none 0 0] 40 (0, 0)) :: ([(bLit, Obj.cells #[.string (bs [2, 101, 120, 0]), .int .u16 1, .int .u16 1, .int .u32 0, .slice (some ⟨bD, 0, none⟩) 1 1] 122 (0, 0)), (bD, Obj.cells #[.string (bs ([10, 0, 0] ++ [c]))] 9 (0, 0)), (bB, Obj.cells #[.int .u8 (c.toNat : Int)] 5 (0, 0))] ++ L)) ?_ ji
 refine goA ?_
 refine ke 2 40  rfl rfl  stO (by repeat (exact List.mem_cons_self)) rfl (fun w h => h.tail) ?_
 have hD : sliceR 1 qp [(bLit, Obj.cells #[.string (bs [2, 101, 120, 0]), .int .u16 1, .int .u16 1, .int .u32 0, .slice (some ⟨bD, 0, none⟩) 1 1] 122 (0, 0)), (bD, Obj.cells #[.string (bs ([10, 0, 0] ++ [c]))] 9 (0, 0)), (bB, Obj.cells #[.int .u8 (c.toNat : Int)] 5 (0, 0))] [.slice (some ⟨bD, 0, none⟩) 1 1] [[10, 0, 0, c]] := ⟨_, 1, rfl, Nat.le_refl 1, by unfold maxLen; omega, Or.inr ⟨bD, 0, #[.string (bs ([10, 0, 0] ++ [c]))], 9, (0, 0), rfl, List.mem_cons_of_mem _ (List.mem_cons_self ..), fun i x hi => by
  match i, hi with
  | 0, hi =>
    obtain rfl := Option.some.inj hi
    exact ⟨[.string (bs [10, 0, 0, c])], rfl, ⟨rfl, by show 4 ≤ maxLen; decide⟩, fun j v hj => by match j, hj with | 0, hj => exact hj⟩⟩⟩
 refine ⟨_, [(bLit, Obj.cells #[.string (bs [2, 101, 120, 0]), .int .u16 1, .int .u16 1, .int .u32 0, .slice (some ⟨bD, 0, none⟩) 1 1] 122 (0, 0)), (bD, Obj.cells #[.string (bs ([10, 0, 0] ++ [c]))] 9 (0, 0)), (bB, Obj.cells #[.int .u8 (c.toNat : Int)] 5 (0, 0))], rfl, ⟨_, _, rfl, ⟨some ⟨bLit, 0, none⟩, 1, rfl, Nat.le_refl 1, by unfold maxLen; omega, Or.inr ⟨bLit, 0, _, _, _, rfl, List.mem_cons_self .., fun i x hi => ?_⟩⟩, sliceR.nil, by show (0 : Int) ≤ 0 ∧ (0 : Int) ≤ 255; decide⟩, rfl⟩
 match i, hi with
 | 0, hi =>
   obtain rfl := Option.some.inj hi
   exact ⟨[.string (bs [2, 101, 120, 0]), .int .u16 1, .int .u16 1, .int .u32 0, .slice (some ⟨bD, 0, none⟩) 1 1], rfl, ⟨_, rfl, hD, by show (4 : Nat) ≤ maxLen; decide, by show (0 : Int) ≤ 1 ∧ (1 : Int) ≤ 65535; decide, by show (0 : Int) ≤ 1 ∧ (1 : Int) ≤ 65535; decide, by show (0 : Int) ≤ 0 ∧ (0 : Int) ≤ 4294967295; decide⟩, fun j v hj => by
    rw [show 0 + 0 * 5 + j = j by omega, List.getElem?_toArray]
    exact hj⟩
end
section
open Go.RowKit
open Vd (RSet Vdt Vote Rec Quest Piece Ballot)
open Cn (Zo Cf)
variable {G : World} {L : ja}
def exC : Cf := aaN 3 20 10 5 1
def exL : List Int := [2, 0, 1]
def ex0 : As := (Aq.new1 qE strictZ exL exC 100).1
def ex1 : As := (Aq.vote ex0 2 (qW 1) 9 101).1
def ex2 : As := (Aq.vote ex1 0 (qW 2) 9 102).1
def ex3 : As := (Aq.vote ex2 1 (qW 1) 7 103).1
def ex4 : As := (Aq.pass ex2 1 103).1
def exD : Dd := ⟨[], [], true, true, qW 1, 7, [1, 2], [0]⟩
theorem exN : Aq.newE qE strictZ exL exC 100 = 0 := by decide +kernel
theorem agt : (Aq.new1 qE strictZ exL exC 100).2 = { Dd.none with sends := [2, 0] } := by decide +kernel
theorem agu : (Aq.vote ex0 2 (qW 1) 9 101).2 = Dd.none := by decide +kernel
theorem agv : (Aq.vote ex1 0 (qW 2) 9 102).2 = { Dd.none with sends := [1] } := by decide +kernel
theorem agw : (Aq.vote ex2 1 (qW 1) 7 103).2 = exD := by decide +kernel
theorem agx : (Aq.pass ex2 1 103).2 = { Dd.none with over := true } := by decide +kernel
theorem agy : ex3.over = true := by decide +kernel
theorem agz : ex4.over = true := by decide +kernel
theorem zB (b : UInt8) : EndOk qE (qW b) := ⟨show 1 ≤ 600 by decide, fun d hd => by
 have : d = [10, 0, 0, b] := by simpa [Vd.endV, qW, qE] using hd
 rw [this]; show 4 ≤ 1000000; decide, fun _ => by show ([[10, 0, 0, b]] : List (List UInt8)) ≠ []; simp⟩
theorem WQ (b : UInt8) : SmV (qW b) := ⟨⟨show 1 ≤ 100000 by decide, fun s hs => by
 have : s = ⟨[2, 101, 120, 0], 1, 1, 0, [[10, 0, 0, b]]⟩ := by simpa [qW] using hs
 rw [this]; show 1 ≤ 100000; decide⟩, ⟨show 0 ≤ 100000 by decide, fun s hs => by cases hs⟩⟩
theorem yj {K : ja} {b : Nat} {l : List Int} {t : TypeId} {fr : Nat × Nat} (h : (b, Obj.cells (l.map (Value.int .i64)).toArray t fr) ∈ K) : IRow K (.slice (some ⟨b, 0, none⟩) l.length l.length) l :=
 ⟨_, l.length, rfl, Or.inr ⟨b, 0, _, _, _, rfl, h, fun i x hi => by simp [hi]⟩⟩
theorem QS {K : ja} {a : Option Addr} {c : Nat} {l : List Int} (h : IRow K (.slice a l.length c) l) : JJ K [.slice a l.length c, .slice none 0 0, .bool false, .bool false, .int .u8 0, .slice none 0 0, .slice none 0 0, .int .u32 0, .slice none 0 0, .slice none 0 0] { Dd.none with sends := l } :=
 ⟨a, c, none, 0, none, 0, none, 0, none, 0, none, 0, rfl, h, jK, ⟨_, _, rfl, sliceR.nil, sliceR.nil, Int.le_refl 0, show (0 : Int) ≤ 255 by decide⟩, jK, jK⟩
theorem aaP {K : ja} : JJ K [.slice none 0 0, .slice none 0 0, .bool true, .bool false, .int .u8 0, .slice none 0 0, .slice none 0 0, .int .u32 0, .slice none 0 0, .slice none 0 0] { Dd.none with over := true } :=
 ⟨none, 0, none, 0, none, 0, none, 0, none, 0, none, 0, rfl, jK, jK, ⟨_, _, rfl, sliceR.nil, sliceR.nil, Int.le_refl 0, show (0 : Int) ≤ 255 by decide⟩, jK, jK⟩
theorem exIn : NewIn qE strictZ exL exC 100 := (QN exN).1
theorem exW0 : AWell ex0 := QP exIn ⟨show 4 ≤ 1000000 by decide, show (0 : Int) ≤ 1 ∧ (1 : Int) ≤ 65535 by decide, show (0 : Int) ≤ 1 ∧ (1 : Int) ≤ 65535 by decide, exIn.name⟩
theorem afd : ex0.q = qE := by decide +kernel
theorem afe : ex1.q = qE := by decide +kernel
theorem agA : ex2.q = qE := by decide +kernel
theorem exW1 : AWell ex1 := exW0.vote fun _ _ => by rw [afd]; exact zB 1
theorem aff : AWell ex2 := exW1.vote fun _ _ => by rw [afe]; exact zB 2
theorem Zg : Spec Tryz.prog G 9 #[] L fun u M => u = .bool true ∧ M = L := by
 refine jl (n := 64) Tryz.func9 rfl rfl rfl ?_
 repeat (first | refine goA ?_ | (refine' jJ (jb jd rfl (ags )) rfl ?_) | (refine' jJ (jb jd rfl (Zf )) rfl ?_))
 refine jP (j9 (vs := [(0, .int .i64 2), (1, .int .i64 0), (2, .int .i64 1)]) rfl (uC (C := (([2, 0, 1] : List Int).map (Value.int .i64)).toArray) etO [.int .i64 2, .int .i64 0, .int .i64 1] rfl (by intro v hv; simp only [List.mem_cons, List.not_mem_nil, or_false] at hv; rcases hv with rfl | rfl | rfl <;> rfl) (by decide) rfl)) rfl ?_
 intro bl
 repeat (refine' jJ (jb jd rfl (aaO 3 20 10 5 1 )) rfl ?_)
 refine jv (jb jd rfl (aaK qE strictZ _ _ exL exC 100 (show 4 ≤ 1000000 by decide) (show (0 : Int) ≤ 1 ∧ (1 : Int) ≤ 65535 by decide) (show (0 : Int) ≤ 1 ∧ (1 : Int) ≤ 65535 by decide) (show 1 ≤ 255 ∧ 0 ≤ 65535 by decide) (yj (l := [2, 0, 1]) (List.mem_cons_self ..)) (show 3 ≤ 1000 by decide) ⟨sliceR.nil, fun z hz => by cases hz⟩ (by decide))) rfl ?_
 rintro u0 M0 (⟨_, ap, cs0, X0, N0, rfl, hd0, hX0, rfl⟩ | ⟨hne, _⟩)
 rotate_left
 · exact absurd exN hne
 rw [agt] at hd0
 have hX0' : qU ap ex0 X0 := hX0
 obtain ⟨d1, e1, d2, e2, d3, e3, d4, e4, d5, e5, d6, e6, hcs, _⟩ := id hd0
 have hone := ue hd0
 repeat (first | refine goA ?_ | (refine jO ?_; intro bNew))
 refine ku rfl rfl stO rfl hone.2 hone.1 ?_
 refine goA ?_
 refine jM (ui rfl stO (List.mem_cons_self ..) hone.2) rfl ?_
 repeat (refine kr rfl rfl ?_ ?_; (· exact Bool.not_true))
 refine qA (j9 (vs := [(0, .int .i64 2), (1, .int .i64 0)]) rfl (uC (C := (([2, 0] : List Int).map (Value.int .i64)).toArray) etO [.int .i64 2, .int .i64 0] rfl (by intro v hv; simp only [List.mem_cons, List.not_mem_nil, or_false] at hv; rcases hv with rfl | rfl <;> rfl) (by decide) rfl)) rfl ?_
 rintro _ _ ⟨bl2, rfl, rfl⟩
 repeat (first | refine goA ?_ | refine jM (jm rfl (Q8 _ _ _)) rfl ?_)
 refine jQ (jb jd rfl (qv _ _ _ _ (kz _ _ _ _ jr hd0) (QS (yj (l := [2, 0]) (List.mem_cons_self ..))) ⟨by decide, by decide, by decide, by decide⟩)) rfl ?_
 rw [decide_eq_true rfl]
 refine goA ?_
 refine qA (jb jd rfl (UE 1 1 rfl)) rfl ?_
 rintro _ _ ⟨cv1, V1, rfl, hv1, rfl⟩
 repeat (refine kr rfl rfl ?_ ?_; (· exact Bool.not_true))
 refine qA (OpT.heap (L' := X0 ++ (V1 ++ L)) (fun w h => h.cnt ji) (jb jd rfl (JW hX0' exW0 2 (qW 1) 9 101 cv1 (ki _ _ _ _ jr hv1) (WQ 1) (fun _ _ => by rw [afd]; exact zB 1) (by decide) (by decide)))) rfl ?_
 rintro _ _ ⟨cs1, X1, N1, rfl, hd1, hX1, rfl⟩
 rw [agu] at hd1
 have hX1' : qU ap ex1 X1 := hX1
 repeat (first | refine goA ?_ | refine jM (jm rfl (uD )) rfl ?_)
 refine jQ (jb jd rfl (qv _ _ _ _ (kz _ _ _ _ jr hd1) qn ⟨by decide, by decide, by decide, by decide⟩)) rfl ?_
 rw [decide_eq_true rfl]
 refine goA ?_
 refine qA (jb jd rfl (UE 2 2 rfl)) rfl ?_
 rintro _ _ ⟨cv2, V2, rfl, hv2, rfl⟩
 repeat (refine kr rfl rfl ?_ ?_; (· exact Bool.not_true))
 refine qA (OpT.heap (L' := X1 ++ (V2 ++ L)) (fun w h => h.cnt ji) (jb jd rfl (JW hX1' exW1 0 (qW 2) 9 102 cv2 (ki _ _ _ _ jr hv2) (WQ 2) (fun _ _ => by rw [afe]; exact zB 2) (by decide) (by decide)))) rfl ?_
 rintro _ _ ⟨cs2, X2, N2, rfl, hd2, hX2, rfl⟩
 rw [agv] at hd2
 have hX2' : qU ap ex2 X2 := hX2
 repeat (refine kr rfl rfl ?_ ?_; (· exact Bool.not_true))
 refine qA (j9 (vs := [(0, .int .i64 1)]) rfl (uC (C := (([1] : List Int).map (Value.int .i64)).toArray) etO [.int .i64 1] rfl (by intro v hv; simp only [List.mem_cons, List.not_mem_nil, or_false] at hv; rcases hv with rfl <;> rfl) (by decide) rfl)) rfl ?_
 rintro _ _ ⟨bl3, rfl, rfl⟩
 repeat (first | refine goA ?_ | refine jM (jm rfl (Q8 _ _ _)) rfl ?_)
 refine jQ (jb jd rfl (qv _ _ _ _ (kz _ _ _ _ jr hd2) (QS (yj (l := [1]) (List.mem_cons_self ..))) ⟨by decide, by decide, by decide, by decide⟩)) rfl ?_
 rw [decide_eq_true rfl]
 refine goA ?_
 refine jv (OpT.heap (L' := X2 ++ L) (fun w h => h.cnt ji) (jb jd rfl (UD hX2'))) rfl ?_
 rintro _ _ ⟨ap2, X5, rfl, hX5, rfl⟩
 refine goA ?_
 refine jv (jb jd rfl (UE 1 1 rfl)) rfl ?_
 rintro _ _ ⟨cv3, V3, rfl, hv3, rfl⟩
 skip
 refine jv (OpT.heap (L' := X2 ++ (V3 ++ (X5 ++ L))) (fun w h => h.cnt ji) (jb jd rfl (JW hX2' aff 1 (qW 1) 7 103 cv3 (ki _ _ _ _ jr hv3) (WQ 1) (fun _ _ => by rw [agA]; exact zB 1) (by decide) (by decide)))) rfl ?_
 rintro _ _ ⟨cs3, X6, N3, rfl, hd3, hX6, rfl⟩
 rw [agw] at hd3
 have hX6' : qU ap ex3 X6 := hX6
 skip
 refine jv (jb jd rfl (UE 1 1 rfl)) rfl ?_
 rintro _ _ ⟨cv4, V4, rfl, hv4, rfl⟩
 obtain ⟨s1, w1, s2, w2, rfl, hs1, hs2, hsc⟩ := hv4.vals
 skip
 refine jP (j9 (vs := [(0, .int .i64 1), (1, .int .i64 2)]) rfl (uC (C := (([1, 2] : List Int).map (Value.int .i64)).toArray) etO [.int .i64 1, .int .i64 2] rfl (by intro v hv; simp only [List.mem_cons, List.not_mem_nil, or_false] at hv; rcases hv with rfl | rfl <;> rfl) (by decide) rfl)) rfl ?_
 intro bl4
 repeat (first | refine jz (jm rfl (yZ _ _ _ _ _ _ _ _ _ _ _ _)) rfl ?_ | (refine kR ?_; intro bLit))
 refine kX (L' := (bLit, Obj.cells (([0] : List Int).map (Value.int .i64)).toArray 3 (0, 0)) :: (bl4, Obj.cells (([1, 2] : List Int).map (Value.int .i64)).toArray 3 (0, 0)) :: (V4 ++ (X6 ++ (N3 ++ (V3 ++ (X5 ++ L)))))) (fun w h => h) ?_
 refine jJ (jb jd rfl (qv _ _ exD exD (kz _ _ _ _ jr hd3) ⟨none, 0, none, 0, s1, w1, s2, w2, _, _, _, _, rfl, jK, jK, ki _ _ _ _ jr hv4, yj (l := [1, 2]) (List.mem_cons_of_mem _ (List.mem_cons_self ..)), yj (l := [0]) (List.mem_cons_self ..)⟩ ⟨by decide, by decide, by decide, by decide⟩)) rfl ?_
 rw [decide_eq_true rfl]
 refine goA ?_
 refine jQ (jb jd rfl (JY hX6' jr)) rfl ?_
 rw [agy]
 refine goA ?_
 refine qA (OpT.heap (L' := X5 ++ L) (fun w h => h.cnt ji) (jb jd rfl (Yn hX5 aff 1 103))) rfl ?_
 rintro _ _ ⟨cs5, X7, N5, rfl, hd5, hX7, rfl⟩
 rw [agx] at hd5
 have hX7' : qU ap2 ex4 X7 := hX7
 repeat (first | refine goA ?_ | refine jM (jm rfl (abp _)) rfl ?_)
 refine jQ (jb jd rfl (qv _ _ _ _ (kz _ _ _ _ jr hd5) aaP ⟨by decide, by decide, by decide, by decide⟩)) rfl ?_
 rw [decide_eq_true rfl]
 refine goA ?_
 refine jQ (jb jd rfl (JY hX7' jr)) rfl ?_
 rw [agz]
 refine goA ?_
 refine jB (L' := L) ?_ ji
 refine jf 0 _ rfl rfl ?_
 exact ⟨rfl, rfl⟩
end
section
open Go.RowKit
open Vd (RSet Vdt Vote Rec Quest Piece Ballot)
open Cn (Zo Cf)
structure CaseT where
 q : Quest
 z : Zo
 l : List Int
 c : Cf
 now : Int
instance : Inhabited CaseT := ⟨⟨⟨[], 0, 0⟩, ⟨[], 0, 0⟩, [], Cn.zeroC, 0⟩⟩
structure ActT where
 what : Int
 up : Int
 v : Vdt
 t : Int
 now : Int
instance : Inhabited ActT := ⟨⟨0, 0, Vdt.none, 0, 0⟩⟩
def Ja (x : CaseT) (vl vz : Value) : List Value := [.string (bs x.q.name), .int .u16 x.q.kind, .int .u16 x.q.cls, .string (bs x.z.name), .int .u8 (x.z.pol : Nat), .int .u16 (x.z.tru : Nat), vl] ++ (jn x.c vz ++ [.int .i64 x.now])
def QT : Rp CaseT := fun L cs x => ∃ vl vz, cs = Ja x vl vz ∧ Ul L [.string (bs x.q.name), .int .u16 x.q.kind, .int .u16 x.q.cls] x.q ∧ zoR L [.string (bs x.z.name), .int .u8 (x.z.pol : Nat), .int .u16 (x.z.tru : Nat)] x.z ∧ sliceR 1 (yz .i64) L [vl] x.l ∧ cfR L (jn x.c vz) x.c ∧ kJ .i64 x.now
def K4 : Rp ActT := fun L cs x => ∃ va vb, cs = [.int .u8 x.what, .int .i64 x.up, .int .u8 x.v.code, va, vb, .int .u32 x.t, .int .i64 x.now] ∧ vdR L [.int .u8 x.v.code, va, vb] x.v ∧ kJ .u8 x.what ∧ kJ .i64 x.up ∧ kJ .u32 x.t ∧ kJ .i64 x.now
theorem QU : uj QT := fun L L' cs x hL ⟨vl, vz, h1, h2, h3, h4, h5, h6⟩ => ⟨vl, vz, h1, h2, h3, jp (J6 _) L L' _ _ hL h4, aca L L' _ _ hL h5, h6⟩
theorem qX : uj K4 := fun L L' cs x hL ⟨va, vb, h1, h2, h3⟩ => ⟨va, vb, h1, ki L L' _ _ hL h2, h3⟩
theorem K5 {x : Int} (h : kJ .i64 x) : -9223372036854775808 ≤ x ∧ x ≤ 9223372036854775807 := by
 unfold kJ Lit.wf at h
 simpa [IntKind.min, IntKind.max, IntKind.bits, IntKind.signed] using h
theorem acg {x : Int} (h : kJ .u8 x) : 0 ≤ x ∧ x ≤ 255 := by
 unfold kJ Lit.wf at h
 simpa [IntKind.min, IntKind.max, IntKind.bits, IntKind.signed] using h
theorem aaQ {x : Int} (h : kJ .u32 x) : 0 ≤ x ∧ x ≤ 4294967295 := by
 unfold kJ Lit.wf at h
 simpa [IntKind.min, IntKind.max, IntKind.bits, IntKind.signed] using h
structure CSm (x : CaseT) : Prop where
 name : x.q.name.length ≤ 3000
 list : x.l.length ≤ 100
 zones : x.c.zs.length ≤ 100
 names : ∀ z ∈ x.c.zs, z.name.length ≤ 300
structure ASm (l : List ActT) : Prop where
 few : l.length ≤ 200
 sets : ∀ a ∈ l, LSm a.v.sets ∧ LSm a.v.soa
variable {G : World} {L : ja}
theorem aaR (cs : List Value) (x : CaseT) (v : Value) (l : List ActT) (hx : QT L cs x) (hl : sliceR 7 K4 L [v] l) : Spec Tryz.prog G 7 #[.agg cs.toArray, v] L fun u M => ∃ b, u = .bool b ∧ M = L ∧ (b = false → CSm x ∧ ASm l) := by
 obtain ⟨vl, vz, rfl, ⟨_, hqn, _⟩, _, hli, ⟨vz', e1, hzs, _⟩, _⟩ := hx
 obtain rfl : vz' = vz := by simpa [jn] using e1.symm
 obtain ⟨la, lc, e2, hli⟩ := hli.val
 obtain rfl := (List.cons.inj e2).1
 obtain ⟨za, zc, e3, hzs⟩ := hzs.val
 obtain rfl := (List.cons.inj e3).1
 obtain ⟨aa, ac, e4, hl⟩ := hl.val
 obtain rfl := (List.cons.inj e4).1
 have k1 := (sliceR.cut hli).2
 have k2 := (sliceR.cut hzs).2
 have k3 := (sliceR.cut hl).2
 unfold maxLen at k1 k2 k3 hqn
 obtain ⟨k11, k12, _⟩ := k1
 obtain ⟨k21, k22, _⟩ := k2
 obtain ⟨k31, k32, _⟩ := k3
 clear e1 e2 e3 e4
 refine jl (n := 95) Tryz.func7 rfl rfl rfl ?_
 refine jY (jS (jP (kx rfl) rfl ?_))
 intro bBox
 obtain ⟨C0, hC0⟩ : ∃ C : Array Value, C = (Ja x (.slice la x.l.length lc) (.slice za x.c.zs.length zc)).toArray := ⟨_, rfl⟩
 rw [← hC0]
 have g0 : C0[0 + 0 + 0]? = some (.string (bs x.q.name)) := by rw [hC0]; rfl
 have g6 : C0[0 + 6]? = some (.slice la x.l.length lc) := by rw [hC0]; rfl
 have g19 : C0[0 + 7 + 12]? = some (.slice za x.c.zs.length zc) := by rw [hC0]; rfl
 clear hC0
 by_cases c1 : 3000 < x.q.name.length
 · skip
   refine goA ?_
   refine jB (L' := L) ?_ ji
   refine jf 4 _ rfl rfl ?_
   exact ⟨true, rfl, rfl, fun h => by cases h⟩
 by_cases c2 : 100 < x.l.length
 · skip
   refine goA ?_
   refine jB (L' := L) ?_ ji
   refine jf 4 _ rfl rfl ?_
   exact ⟨true, rfl, rfl, fun h => by cases h⟩
 by_cases c3 : 100 < x.c.zs.length
 · skip
   refine goA ?_
   refine jB (L' := L) ?_ ji
   refine jf 4 _ rfl rfl ?_
   exact ⟨true, rfl, rfl, fun h => by cases h⟩
 by_cases c4 : 200 < l.length
 · skip
   refine goA ?_
   refine jB (L' := L) ?_ ji
   refine jf 4 _ rfl rfl ?_
   exact ⟨true, rfl, rfl, fun h => by cases h⟩
 refine goA ?_
 refine jA (σ := Nat) (fun k => k ≤ x.c.zs.length ∧ ∀ z ∈ x.c.zs.take k, z.name.length ≤ 300) (fun k => [(1, .slice aa l.length ac), (2, .pointer (some ⟨bBox, 0, none⟩)), (5, .int .i64 (k : Nat))]) (fun _ => (bBox, Obj.cells C0 32 (0, 0)) :: L) (fun k => x.c.zs.length - k) 0 ⟨Nat.zero_le _, by simp⟩ ?_ (fun w h => h) ?_
 exact ju
 rintro k ⟨hk, hall⟩
 by_cases hlt : k < x.c.zs.length
 · obtain ⟨z, hz⟩ : ∃ z, x.c.zs[k]? = some z := ⟨_, List.getElem?_eq_getElem hlt⟩
   obtain ⟨b1, o1, C1, t1, f1, rfl, m1, cs1, _, ⟨rfl, hzn, _⟩, hcs⟩ := sliceR.at hzs hz
   unfold maxLen at hzn
   have c0 : C1[o1 + k * 3 + 0]? = some (.string (bs z.name)) := hcs 0 _ rfl
   by_cases hn : 300 < z.name.length
   · skip
     refine goA ?_
     refine jB (L' := L) ?_ ji
     refine jf 4 _ rfl rfl ?_
     exact ⟨true, rfl, rfl, fun h => by cases h⟩
   · refine goA ?_
     refine jh (k + 1) ⟨hlt, fun y hy => ?_⟩ ?_ (fun w h => h) je
     · rw [List.take_add_one, hz] at hy
       rcases List.mem_append.1 hy with hy | hy
       · exact hall y hy
       · rw [List.mem_singleton.1 hy]; omega
     exact ju
 rw [List.take_of_length_le je] at hall
 have hcsm : CSm x := ⟨by omega, by omega, by omega, hall⟩
 refine goA ?_
 refine jA (σ := Nat × Nat) (fun y => y.1 ≤ l.length ∧ y.2 ≤ 7000 ∧ ∀ a ∈ l.take y.1, LSm a.v.sets ∧ LSm a.v.soa) (fun y => [(1, .slice aa l.length ac), (2, .pointer (some ⟨bBox, 0, none⟩)), (6, .int .i64 (y.2 : Nat)), (7, .int .i64 (y.1 : Nat))]) (fun _ => (bBox, Obj.cells C0 32 (0, 0)) :: L) (fun y => l.length - y.1) (0, 0) ⟨Nat.zero_le _, by decide, by simp⟩ ?_ (fun w h => h) ?_
 exact ju
 rintro ⟨i, n⟩ ⟨hi, hn, hall2⟩
 dsimp only at hi hn hall2 ⊢
 by_cases hgo : i < l.length ∧ n < 3000
 · obtain ⟨hlt2, hn3⟩ := hgo
   obtain ⟨a, ha⟩ : ∃ a, l[i]? = some a := ⟨_, List.getElem?_eq_getElem hlt2⟩
   obtain ⟨b2, o2, C2, t2, f2, rfl, m2, cs2, _, ⟨va, vb, rfl, hvd, _⟩, hcs2⟩ := sliceR.at hl ha
   obtain ⟨y1, z1, y2, z2, e5, hs1, hs2, _⟩ := hvd.vals
   simp only [List.cons.injEq, and_true, true_and] at e5
   obtain ⟨rfl, rfl⟩ := e5
   have d3 : C2[o2 + i * 7 + 2 + 1]? = some (.slice y1 a.v.sets.length z1) := hcs2 3 _ rfl
   have d4 : C2[o2 + i * 7 + 2 + 2]? = some (.slice y2 a.v.soa.length z2) := hcs2 4 _ rfl
   have j1 := (sliceR.cut hs1).2
   have j2 := (sliceR.cut hs2).2
   unfold maxLen at j1 j2
   obtain ⟨j11, j12, _⟩ := j1
   obtain ⟨j21, j22, _⟩ := j2
   refine goA ?_
   refine jJ (jb jd rfl (KE _ a.v.sets (jp jx _ _ _ _ jr hs1))) rfl ?_
   by_cases l1 : 6000 ≤ ur a.v.sets
   · rw [decide_eq_true l1]
     refine goA ?_
     refine jB (L' := L) ?_ ji
     refine jf 4 _ rfl rfl ?_
     exact ⟨true, rfl, rfl, fun h => by cases h⟩
   rw [decide_eq_false l1]
   refine goA ?_
   refine jQ (jb jd rfl (KE _ a.v.soa (jp jx _ _ _ _ jr hs2))) rfl ?_
   by_cases l2 : 6000 ≤ ur a.v.soa
   · rw [decide_eq_true l2]
     refine goA ?_
     refine jB (L' := L) ?_ ji
     refine jf 4 _ rfl rfl ?_
     exact ⟨true, rfl, rfl, fun h => by cases h⟩
   rw [decide_eq_false l2]
   have w1 : LSm a.v.sets := ⟨by omega⟩
   have w2 : LSm a.v.soa := ⟨by omega⟩
   have u1 := w1.few
   have u2 := w2.few
   have hK : ∀ z ∈ [(b2, Obj.cells C2 t2 f2)], z ∈ (bBox, Obj.cells C0 32 (0, 0)) :: L := fun z hz => by rw [List.mem_singleton.1 hz]; exact List.mem_cons_of_mem _ m2
   refine goA ?_
   refine jw jc ([(b2, Obj.cells C2 t2 f2)]) [] ?_
   refine tkQ 0 ?_
   refine tkQ 1 ?_
   refine tkQ 2 ?_
   refine tkQ 3 ?_
   refine tkQ 4 ?_
   refine tkQ 5 ?_
   refine tkQ 6 ?_
   refine tkQ 7 ?_
   refine tkQ 8 ?_
   refine tkQ 9 ?_
   refine tkQ 10 ?_
   refine tkQ 11 ?_
   refine tkQ 12 ?_
   refine tkQ 13 ?_
   refine tkQ 14 ?_
   refine tkQ 15 ?_
   refine tkQ 16 ?_
   refine tkQ 17 ?_
   refine tkQ 18 ?_
   refine tkQ 19 ?_
   refine tdQ ?_
   refine goA ?_
   refine jh (i + 1, n + 5 + min 3000 (a.v.sets.length + a.v.soa.length)) ⟨hlt2, by dsimp only; omega, fun y hy => ?_⟩ ?_ (fun w h => h) (by dsimp only; omega)
   · dsimp only at hy
     rw [List.take_add_one, ha] at hy
     rcases List.mem_append.1 hy with hy | hy
     · exact hall2 y hy
     · rw [List.mem_singleton.1 hy]; exact ⟨w1, w2⟩
   have e7 : ((n + 5 + min 3000 (a.v.sets.length + a.v.soa.length) : Nat) : Int) = (n : Int) + 5 + min 3000 ((a.v.sets.length : Int) + (a.v.soa.length : Int)) := by omega
   rw [e7]
   exact ju
 · by_cases hlt2 : i < l.length
   · skip
     refine goA ?_
     refine jB (L' := L) ?_ ji
     refine jf 4 _ rfl rfl ?_
     exact ⟨true, by rw [decide_eq_true (show (3000 : Int) ≤ (n : Int) by omega)], rfl, fun h => by cases h⟩
   · rw [List.take_of_length_le je] at hall2
     refine goA ?_
     refine jB (L' := L) ?_ ji
     refine jf 4 _ rfl rfl ?_
     exact ⟨_, rfl, rfl, fun _ => ⟨hcsm, by omega, hall2⟩⟩
end
section
open Hg (En Pl)
open Vd (RSet Vdt Vote Rec Quest Piece Ballot)
theorem JH (l : List Int) : (kP l).length ≤ 9 * l.length := by
 have h : ∀ (ns : List Nat), (ns.flatMap fun (n : Nat) => l.filter fun x => x == (n : Int)).length ≤ ns.length * l.length := fun ns => by
  induction ns with
  | nil => simp
  | cons n ns ih =>
    rw [List.flatMap_cons, List.length_append, List.length_cons, Nat.succ_mul]
    have := List.length_filter_le (fun x => x == (n : Int)) l
    omega
 have := h (List.range 9)
 rw [List.length_range] at this
 exact this
theorem aaS (want : Int) (vs : List Vote) : (qB want vs).2.2.1.length ≤ 9 * vs.length := by
 unfold qB
 split
 · simp
 · split
   · refine Nat.le_trans (JH _) (Nat.mul_le_mul_left _ ?_)
     rw [List.length_map]
     unfold jU
     exact Nat.le_trans (List.length_filter_le _ _) (by rw [List.length_take]; omega)
   · simp
theorem VR (want : Int) (vs : List Vote) : (kB want vs).length ≤ 9 * vs.length := by
 unfold kB
 split
 · refine Nat.le_trans (JH _) (Nat.mul_le_mul_left _ ?_)
   rw [List.length_map]
   exact List.length_filter_le _ _
 · simp
theorem Zh {a : As} (h : AOk a) : (Aq.votes a).length ≤ 9 := Nat.le_trans (j6 a.l) h.box.len
structure DSh (d : Dd) : Prop where
 sends : d.sends.length ≤ 1000
 gone : d.gone.length ≤ 1000
 agree : d.agree.length ≤ 1000
 dissent : d.dissent.length ≤ 1000
theorem DSh.few {d : Dd} (h : DSh d) : DFew d := ⟨Nat.le_trans h.sends (by decide), Nat.le_trans h.gone (by decide), Nat.le_trans h.agree (by decide), Nat.le_trans h.dissent (by decide)⟩
theorem Jb : ∀ (n : Nat) (a : As) (d : Dd), (Aq.lookL n a d).2.sends.length ≤ d.sends.length + n ∧ (Aq.lookL n a d).2.gone = d.gone ∧ (Aq.lookL n a d).2.agree = d.agree ∧ (Aq.lookL n a d).2.dissent = d.dissent
 | 0, a, d => ⟨Nat.le_refl _, rfl, rfl, rfl⟩
 | n + 1, a, d => by
   unfold Aq.lookL
   split
   · exact ⟨by dsimp only; omega, rfl, rfl, rfl⟩
   · split
     · obtain ⟨h1, h2, h3, h4⟩ := Jb n { a with p := (Hg.more a.p a.now).1 } { d with sends := d.sends ++ [(Hg.more a.p a.now).2.1] }
       refine ⟨?_, h2, h3, h4⟩
       rw [List.length_append, List.length_singleton] at h1
       omega
     · exact ⟨by dsimp only; omega, rfl, rfl, rfl⟩
theorem zC {a : As} {d : Dd} (h : AOk a) (h1 : d.sends.length ≤ 500) (h2 : d.gone.length ≤ 500) (h3 : d.agree = []) (h4 : d.dissent = []) : DSh (Aq.look a d).2 := by
 have hv := Zh h
 have hl := h.good.len
 unfold Aq.look
 split
 · rename_i v t ag di hd
   have hb : ag.length ≤ 81 ∧ di.length ≤ 81 := by
    unfold Aq.decided at hd
    split at hd
    · split at hd
      · have w1 := aaS a.want (Aq.votes a)
        have w2 := VR a.want (Aq.votes a)
        simp only [Option.some.injEq, Prod.mk.injEq] at hd
        obtain ⟨_, _, rfl, rfl⟩ := hd
        omega
      · cases hd
    · split at hd
      · cases hd
      · split at hd
        · simp only [Option.some.injEq, Prod.mk.injEq] at hd
          obtain ⟨_, _, rfl, rfl⟩ := hd
          simp
        · split at hd
          · simp only [Option.some.injEq, Prod.mk.injEq] at hd
            obtain ⟨_, _, rfl, rfl⟩ := hd
            simp
          · cases hd
   exact ⟨by dsimp only; omega, by dsimp only; omega, by dsimp only; omega, by dsimp only; omega⟩
 · obtain ⟨k1, k2, k3, k4⟩ := Jb (a.p.list.length + 1) a d
   exact ⟨by omega, by rw [k2]; omega, by rw [k3, h3]; simp, by rw [k4, h4]; simp⟩
theorem none_sh : DSh Dd.none := ⟨Nat.zero_le _, Nat.zero_le _, Nat.zero_le _, Nat.zero_le _⟩
theorem ach {a : As} (h : AOk a) (u : Int) (v : Vdt) (t now : Int) : DSh (Aq.vote a u v t now).2 := by
 unfold Aq.vote
 split
 · exact none_sh
 · split
   · exact zC (AOk.put (a := Aq.upto { a with p := (Hg.close a.p u).1 } now) ((h.close u).upto now) ⟨⟨u, v, t⟩, false⟩) (Nat.zero_le _) (Nat.zero_le _) rfl rfl
   · exact none_sh
theorem aci {a : As} (h : AOk a) (u now : Int) : DSh (Aq.pass a u now).2 := by
 unfold Aq.pass
 split
 · exact none_sh
 · split
   · exact zC (AOk.put (a := Aq.upto { a with p := (Hg.close a.p u).1 } now) ((h.close u).upto now) ⟨⟨u, Vdt.none, 0⟩, true⟩) (Nat.zero_le _) (Nat.zero_le _) rfl rfl
   · exact none_sh
theorem aaT {p : Pl} (h : Good p) (t : Int) : (Hg.tick p t).2.1.length ≤ 100 := by
 have h9 := h.len
 unfold Hg.tick
 split
 · simp
 · have f2 := yr (Hg.goneE (Hg.advance p t).now (Hg.advance p t).wait (Hg.advance p t).tries) (Hg.advance p t).list (fun x => by unfold Hg.goneE; split <;> simp) p.list.length
   rw [List.take_of_length_le (by simp [Hg.advance])] at f2
   dsimp only
   omega
theorem Yt {a : As} (h : AOk a) (now : Int) : DSh (Aq.tick a now).2 := by
 unfold Aq.tick
 split
 · exact none_sh
 · split
   · exact ⟨Nat.zero_le _, Nat.zero_le _, Nat.zero_le _, Nat.zero_le _⟩
   · exact zC (a := { (Aq.upto a now) with p := (Hg.tick a.p (Aq.upto a now).now).1 }) ((h.upto now).tick _) (Nat.le_trans (VM h.good _) (by decide)) (Nat.le_trans (aaT h.good _) (by decide)) rfl rfl
theorem Zi (p : Pl) : (Hg.begin' p).2.length ≤ p.list.length := by
 unfold Hg.begin'
 split
 · simp
 · rw [(qz _ _).2.2.2]
   exact Nat.le_trans (Nat.min_le_right _ _) (Nat.sub_le _ _)
theorem ac1 {q : Quest} {z : Cn.Zo} {l : List Int} {c : Cn.Cf} {now : Int} (h : NewIn q z l c now) (hq : QOk q) : DSh (Aq.new1 q z l c now).2 := by
 obtain ⟨n1, _⟩ := zA h.may
 obtain ⟨_, _, o3⟩ := WP (pol := z.pol) (tru := z.tru) h.dist n1.2
 refine zC (yx h hq).ok (Nat.le_trans (Zi _) ?_) (Nat.zero_le _) rfl rfl
 simp only [Hg.mk, List.length_map]
 omega
theorem QV (wait : Int) : ∀ (l : List En) (d : Int), l.foldl (ye wait) d = d ∨ ∃ x ∈ l, x.op = true ∧ l.foldl (ye wait) d = x.last + wait
 | [], d => Or.inl rfl
 | x :: l, d => by
   rw [List.foldl_cons]
   rcases QV wait l (ye wait d x) with h | ⟨y, hy, h1, h2⟩
   · rw [h]
     unfold ye
     split
     · rename_i ho
       rcases Int.le_total d (x.last + wait) with q | q
       · left; omega
       · right; exact ⟨x, List.mem_cons_self .., ho, by omega⟩
     · left; rfl
   · exact Or.inr ⟨y, List.mem_cons_of_mem _ hy, h1, h2⟩
theorem Zj {p : Pl} (h : Good p) (hb : p.begins = true) {t : Int} (ht : dueT p ≤ t) (htop : t ≤ Hg.top) : (Hg.tick p t).2.1 ≠ [] ∨ (Hg.tick p t).2.2 ≠ [] := by
 have hn := h.now
 have hev := h.every
 have hre := h.reached
 have hT : dueT p = max (if p.asked < p.list.length then min (WD p) (p.start + (p.reached + 1) * p.every) else WD p) (p.now + 1) := rfl
 have hnow : p.now + 1 ≤ dueT p := by rw [hT]; omega
 have hadv : (Hg.advance p t).now = t := by simp only [Hg.advance]; omega
 have htk : Hg.tick p t = ((Hg.hedged (Hg.examine (Hg.advance p t))).1, (Hg.advance p t).list.flatMap (Hg.goneE t p.wait p.tries), (Hg.advance p t).list.flatMap (Hg.sendE t p.wait p.tries) ++ (Hg.hedged (Hg.examine (Hg.advance p t))).2) := by
  unfold Hg.tick
  rw [if_neg (by rw [hb]; decide)]
  dsimp only
  rw [hadv]
  rfl
 have key : WD p ≤ t ∨ (p.asked < p.list.length ∧ p.start + (p.reached + 1) * p.every ≤ t) := by
  by_cases ha : p.asked < p.list.length
  · rw [if_pos ha] at hT; omega
  · rw [if_neg ha] at hT; omega
 rcases key with hl | ⟨ha, hx⟩
 · rcases QV p.wait p.list (Hg.top + 1) with e | ⟨x, hxm, hxo, e⟩
   · exfalso
     have : WD p = Hg.top + 1 := e
     omega
   · have hle : x.last + p.wait ≤ t := by
      have : WD p = x.last + p.wait := e
      omega
     have hlate : Hg.late t p.wait x = true := by unfold Hg.late; rw [hxo, Bool.true_and]; exact decide_eq_true je
     by_cases htr : p.tries ≤ x.asked
     · left
       rw [htk]
       intro k
       have := List.flatMap_eq_nil_iff.1 k x hxm
       unfold Hg.goneE at this
       rw [hlate, decide_eq_true htr] at this
       cases this
     · right
       rw [htk]
       intro k
       have := List.flatMap_eq_nil_iff.1 (List.append_eq_nil_iff.1 k).1 x hxm
       unfold Hg.sendE at this
       rw [hlate, decide_eq_false htr] at this
       cases this
 · right
   rw [htk]
   intro k
   have h2 := (List.append_eq_nil_iff.1 k).2
   have hk : p.reached < (t - p.start) / p.every := by
    have : p.reached + 1 ≤ (t - p.start) / p.every := (Int.le_ediv_iff_mul_le je).2 je
    omega
   have hq : (Hg.examine (Hg.advance p t)).now = t := hadv
   unfold Hg.hedged at h2
   dsimp only at h2
   rw [hq] at h2
   have hk' : (Hg.examine (Hg.advance p t)).reached < (t - (Hg.examine (Hg.advance p t)).start) / (Hg.examine (Hg.advance p t)).every := hk
   have ha' : (Hg.examine (Hg.advance p t)).asked < (Hg.examine (Hg.advance p t)).list.length := by simpa [Hg.examine, Hg.advance] using ha
   rw [if_pos hk'] at h2
   rw [if_pos ha'] at h2
   cases h2
theorem Zk (a : As) (d : Dd) : (Aq.look a d).2.gone = d.gone ∧ ∃ r, (Aq.look a d).2.sends = d.sends ++ r := by
 have hL : ∀ (n : Nat) (a : As) (d : Dd), ∃ r, (Aq.lookL n a d).2.sends = d.sends ++ r := fun n => by
  induction n with
  | zero => exact fun a d => ⟨[], by simp [Aq.lookL]⟩
  | succ n ih =>
    intro a d
    unfold Aq.lookL
    split
    · exact ⟨[], by simp⟩
    · split
      · obtain ⟨r, hr⟩ := ih { a with p := (Hg.more a.p a.now).1 } { d with sends := d.sends ++ [(Hg.more a.p a.now).2.1] }
        exact ⟨(Hg.more a.p a.now).2.1 :: r, by rw [hr]; simp⟩
      · exact ⟨[], by simp⟩
 unfold Aq.look
 split
 · exact ⟨rfl, [], by simp⟩
 · exact ⟨(Jb _ _ _).2.1, hL _ _ _⟩
theorem aaU {a : As} (h : AOk a) (hd : (Aq.dueA a).2 = true) : 1 ≤ (Aq.dueA a).1 ∧ (Aq.tick a (Aq.dueA a).1).2 ≠ Dd.none := by
 have hn := h.now
 unfold Aq.dueA at hd ⊢
 split at hd
 · cases hd
 rename_i ho
 split at hd
 · cases hd
 rename_i ht
 rw [if_neg ho, if_neg ht]
 dsimp only
 have hT : Aq.dueT a = max (if (due a.p).2 then min a.ded (due a.p).1 else a.ded) (a.now + 1) := rfl
 obtain ⟨at1, hat⟩ : ∃ z, z = Aq.dueT a := ⟨_, rfl⟩
 rw [← hat] at hT ht ⊢
 have hup : (Aq.upto a at1).now = at1 := by unfold Aq.upto; dsimp only; omega
 refine ⟨by omega, ?_⟩
 unfold Aq.tick
 rw [if_neg ho, hup]
 by_cases he : a.ded ≤ at1
 · rw [if_pos he]
   intro k
   have := congrArg Dd.over k
   cases this
 · rw [if_neg he]
   have hp2 : (due a.p).2 = true := by
    cases hq : (due a.p).2 with
    | true => rfl
    | false =>
      rw [hq, if_neg (by decide)] at hT
      omega
   rw [hp2, if_pos rfl] at hT
   have hdue : due a.p = (dueT a.p, true) := by
    unfold due at hp2 ⊢
    split at hp2
    · cases hp2
    rename_i h1
    split at hp2
    · cases hp2
    rename_i h2
    rw [if_neg h1, if_neg h2]
   rw [hdue] at hT
   dsimp only at hT
   have hle : dueT a.p ≤ at1 := by omega
   have hdo := Zj h.good h.begins hle je
   obtain ⟨g1, r, g2⟩ := Zk { (Aq.upto a at1) with p := (Hg.tick a.p at1).1 } { Dd.none with sends := (Hg.tick a.p at1).2.2, gone := (Hg.tick a.p at1).2.1 }
   intro k
   rcases hdo with q | q
   · have := congrArg Dd.gone k
     rw [g1] at this
     exact q this
   · have := congrArg Dd.sends k
     rw [g2] at this
     exact q (List.append_eq_nil_iff.1 this).1
end
section
open Go.RowKit
open Vd (RSet Vdt Vote Rec Quest Piece Ballot)
open Cn (Zo Cf)
variable {G : World} {L : ja}
def qt (a : As) (m : ActT) : As × Dd := if m.what = 1 then Aq.vote a m.up m.v m.t m.now else if m.what = 2 then Aq.pass a m.up m.now else Aq.tick a m.now
def yG (q : Quest) (m : ActT) : Prop := m.what = 1 → VOk q m.v
theorem yQ {a : As} (h : AWell a) {m : ActT} (hm : yG a.q m) : AWell (qt a m).1 := by
 unfold qt
 split
 · rename_i h1; exact h.vote fun _ _ => (hm h1).ends
 · split
   · exact h.pass
   · exact h.tick
theorem ac2 {a : As} (h : AOk a) (u : Int) (v : Vdt) (t now : Int) : (Aq.vote a u v t now).1.q = a.q := by
 unfold Aq.vote
 split
 · rfl
 · split
   · exact (kp (AOk.put (a := Aq.upto { a with p := (Hg.close a.p u).1 } now) ((h.close u).upto now) ⟨⟨u, v, t⟩, false⟩)).2.1
   · rfl
theorem ac3 {a : As} (h : AOk a) (u now : Int) : (Aq.pass a u now).1.q = a.q := by
 unfold Aq.pass
 split
 · rfl
 · split
   · exact (kp (AOk.put (a := Aq.upto { a with p := (Hg.close a.p u).1 } now) ((h.close u).upto now) ⟨⟨u, Vdt.none, 0⟩, true⟩)).2.1
   · rfl
theorem ac4 {a : As} (h : AOk a) (now : Int) : (Aq.tick a now).1.q = a.q := by
 unfold Aq.tick
 split
 · rfl
 · split
   · rfl
   · exact (kp (a := { (Aq.upto a now) with p := (Hg.tick a.p (Aq.upto a now).now).1 }) ((h.upto now).tick _)).2.1
theorem acj {a : As} (h : AOk a) (m : ActT) : (qt a m).1.q = a.q := by
 unfold qt
 split
 · exact ac2 h _ _ _ _
 · split
   · exact ac3 h _ _
   · exact ac4 h _
theorem VS {a : As} (h : AOk a) (m : ActT) : DSh (qt a m).2 := by
 unfold qt
 split
 · exact ach h _ _ _ _
 · split
   · exact aci h _ _
   · exact Yt h _
theorem K6 {ap : Nat} {a : As} {X : ja} (h : qU ap a X) (hA : AWell a) (cs : List Value) (m : ActT) (hm : K4 L cs m) (hok : yG a.q m) :
 Spec Tryz.prog G 23 #[.pointer (some ⟨ap, 0, none⟩), .agg cs.toArray] (X ++ L) (UC (qU ap (qt a m).1) L (qt a m).2) := by
 obtain ⟨va, vb, rfl, hvd, h1, h2, h3, h4⟩ := hm
 obtain ⟨y1, z1, y2, z2, e5, _, _, _⟩ := hvd.vals
 simp only [List.cons.injEq, and_true, true_and] at e5
 obtain ⟨rfl, rfl⟩ := e5
 have l1 := acg h1
 have l2 := K5 h2
 have l3 := aaQ h3
 have l4 := K5 h4
 have hver : ∀ j w, ([.int .u8 m.v.code, .slice y1 m.v.sets.length z1, .slice y2 m.v.soa.length z2] : List Value)[j]? = some w → ([.int .u8 m.what, .int .i64 m.up, .int .u8 m.v.code, .slice y1 m.v.sets.length z1, .slice y2 m.v.soa.length z2, .int .u32 m.t, .int .i64 m.now] : List Value).toArray[0 + 2 + j]? = some w := fun j w hj => by
  match j, hj with
  | 0, hj => exact hj
  | 1, hj => exact hj
  | 2, hj => exact hj
 refine jl (n := 31) Tryz.func23 rfl rfl rfl ?_
 by_cases c1 : m.what = 1
 · have e : qt a m = Aq.vote a m.up m.v m.t m.now := by unfold qt; rw [if_pos c1]
   rw [e]
   repeat (first | refine goA ?_ | (refine jO ?_; intro bNew) | (refine kk ?_; intro bBox))
   refine jz (jy [.int .u8 m.v.code, .slice y1 m.v.sets.length z1, .slice y2 m.v.soa.length z2] rfl stL (List.mem_cons_of_mem _ (List.mem_cons_self ..)) hver) rfl ?_
   refine goA ?_
   refine jv (OpT.heap (L' := X ++ ((bNew, Obj.cells #[.slice none 0 0, .slice none 0 0, .bool false, .bool false, .int .u8 0, .slice none 0 0, .slice none 0 0, .int .u32 0, .slice none 0 0, .slice none 0 0] 43 (0, 0)) :: (bBox, Obj.cells ([.int .u8 m.what, .int .i64 m.up, .int .u8 m.v.code, .slice y1 m.v.sets.length z1, .slice y2 m.v.soa.length z2, .int .u32 m.t, .int .i64 m.now] : List Value).toArray 69 (0, 0)) :: L)) (fun w h => h.cnt ji) (jb jd rfl (JW h hA m.up m.v m.t m.now _ (ki _ _ _ _ jr hvd) (hok c1).sm (fun _ _ => (hok c1).ends) l3 l2))) rfl ?_
   rintro _ _ ⟨cd, X2, N, rfl, hd, hX2, rfl⟩
   have hone := ue hd
   refine jC (L' := (bNew, Obj.cells #[.slice none 0 0, .slice none 0 0, .bool false, .bool false, .int .u8 0, .slice none 0 0, .slice none 0 0, .int .u32 0, .slice none 0 0, .slice none 0 0] 43 (0, 0)) :: (X2 ++ (N ++ L))) ?_ ji
   refine ku rfl rfl stO rfl hone.2 hone.1 ?_
   refine goA ?_
   refine ke 4 43 rfl rfl stO (List.mem_cons_self ..) hone.2 (fun w h => h.tail) ?_
   exact ⟨cd, X2, N, rfl, hd, hX2, rfl⟩
 by_cases c2 : m.what = 2
 · have e : qt a m = Aq.pass a m.up m.now := by unfold qt; rw [if_neg c1, if_pos c2]
   rw [e]
   repeat (first | refine goA ?_ | (refine jO ?_; intro bNew) | (refine kk ?_; intro bBox))
   refine jv (OpT.heap (L' := X ++ ((bNew, Obj.cells #[.slice none 0 0, .slice none 0 0, .bool false, .bool false, .int .u8 0, .slice none 0 0, .slice none 0 0, .int .u32 0, .slice none 0 0, .slice none 0 0] 43 (0, 0)) :: (bBox, Obj.cells ([.int .u8 m.what, .int .i64 m.up, .int .u8 m.v.code, .slice y1 m.v.sets.length z1, .slice y2 m.v.soa.length z2, .int .u32 m.t, .int .i64 m.now] : List Value).toArray 69 (0, 0)) :: L)) (fun w h => h.cnt ji) (jb jd rfl (Yn h hA m.up m.now))) rfl ?_
   rintro _ _ ⟨cd, X2, N, rfl, hd, hX2, rfl⟩
   have hone := ue hd
   refine jC (L' := (bNew, Obj.cells #[.slice none 0 0, .slice none 0 0, .bool false, .bool false, .int .u8 0, .slice none 0 0, .slice none 0 0, .int .u32 0, .slice none 0 0, .slice none 0 0] 43 (0, 0)) :: (X2 ++ (N ++ L))) ?_ ji
   refine ku rfl rfl stO rfl hone.2 hone.1 ?_
   refine goA ?_
   refine ke 4 43 rfl rfl stO (List.mem_cons_self ..) hone.2 (fun w h => h.tail) ?_
   exact ⟨cd, X2, N, rfl, hd, hX2, rfl⟩
 have e : qt a m = Aq.tick a m.now := by unfold qt; rw [if_neg c1, if_neg c2]
 rw [e]
 repeat (first | refine goA ?_ | (refine jO ?_; intro bNew) | (refine kk ?_; intro bBox))
 refine jv (OpT.heap (L' := X ++ ((bNew, Obj.cells #[.slice none 0 0, .slice none 0 0, .bool false, .bool false, .int .u8 0, .slice none 0 0, .slice none 0 0, .int .u32 0, .slice none 0 0, .slice none 0 0] 43 (0, 0)) :: (bBox, Obj.cells ([.int .u8 m.what, .int .i64 m.up, .int .u8 m.v.code, .slice y1 m.v.sets.length z1, .slice y2 m.v.soa.length z2, .int .u32 m.t, .int .i64 m.now] : List Value).toArray 69 (0, 0)) :: L)) (fun w h => h.cnt ji) (jb jd rfl (Yo h hA m.now))) rfl ?_
 rintro _ _ ⟨cd, X2, N, rfl, hd, hX2, rfl⟩
 have hone := ue hd
 refine jC (L' := (bNew, Obj.cells #[.slice none 0 0, .slice none 0 0, .bool false, .bool false, .int .u8 0, .slice none 0 0, .slice none 0 0, .int .u32 0, .slice none 0 0, .slice none 0 0] 43 (0, 0)) :: (X2 ++ (N ++ L))) ?_ ji
 refine ku rfl rfl stO rfl hone.2 hone.1 ?_
 refine goA ?_
 refine ke 4 43 rfl rfl stO (List.mem_cons_self ..) hone.2 (fun w h => h.tail) ?_
 exact ⟨cd, X2, N, rfl, hd, hX2, rfl⟩
end
end Go.Proofs.YtbjkkoacclfejaaGreat
