/-
 Part 9: Ch Ck Cl En Eo Ep Ec Ed Eg Eh Ei.
-/
import Derived.Test.YtbjkkoacclfejaaGreatZs8
import Derived.Test.YtbjkkoacclfejaaGreatZs1
import Derived.Test.YtbjkkoacclfejaaGreatZs2
set_option maxRecDepth 100000
set_option maxHeartbeats 8000000
set_option linter.unusedVariables false
set_option linter.unusedSimpArgs false
namespace Go.Proofs.YtbjkkoacclfejaaGreat
section
open Go.RowKit
open Cn (Zo Cf)
variable {G : World} {L : ja}
def u5 (c : Cf) : Prop := (1 ≤ c.ups ∧ c.ups ≤ 9 ∧ c.ups % 2 = 1) ∧ (1 ≤ c.hdg ∧ c.hdg ≤ 1000) ∧ (1 ≤ c.wai ∧ c.wai ≤ 1000) ∧ (1 ≤ c.tri ∧ c.tri ≤ 4) ∧
 (c.ups / 2 * c.hdg + c.tri * c.wai ≤ c.ded ∧ c.ded ≤ 100000) ∧ (1 ≤ c.res ∧ c.res ≤ 100000) ∧ (1 ≤ c.lim ∧ c.lim ≤ 100) ∧ (0 ≤ c.cac ∧ c.cac ≤ 256) ∧ (1 ≤ c.fli ∧ c.fli ≤ 32) ∧
 (1 ≤ c.wtr ∧ c.wtr ≤ 16) ∧ (0 ≤ c.ttl ∧ c.ttl ≤ 2147483647) ∧ (512 ≤ c.siz ∧ c.siz ≤ 4096)
instance (c : Cf) : Decidable (u5 c) := by unfold u5; infer_instance
theorem acv (c : Cf) (v : Value) : Spec Tryz.prog G 67 #[.agg (jo c v).toArray] L fun u M => u = .bool (Cn.mayNum c) ∧ M = L := by
 refine jm (n := 81) Tryz.func67 rfl rfl rfl ?_
 refine kh (jY (j0 (kF rfl) rfl ?_))
 intro b1
 have g0 : (jo (c) (v)).toArray[0 + 0]? = some (.int .i64 (c).ups) := rfl
 have g1 : (jo (c) (v)).toArray[0 + 1]? = some (.int .i64 (c).ded) := rfl
 have g2 : (jo (c) (v)).toArray[0 + 2]? = some (.int .i64 (c).hdg) := rfl
 have g3 : (jo (c) (v)).toArray[0 + 3]? = some (.int .i64 (c).wai) := rfl
 have g4 : (jo (c) (v)).toArray[0 + 4]? = some (.int .i64 (c).tri) := rfl
 have g5 : (jo (c) (v)).toArray[0 + 5]? = some (.int .i64 (c).res) := rfl
 have g6 : (jo (c) (v)).toArray[0 + 6]? = some (.int .i64 (c).lim) := rfl
 have g7 : (jo (c) (v)).toArray[0 + 7]? = some (.int .i64 (c).cac) := rfl
 have g8 : (jo (c) (v)).toArray[0 + 8]? = some (.int .i64 (c).fli) := rfl
 have g9 : (jo (c) (v)).toArray[0 + 9]? = some (.int .i64 (c).wtr) := rfl
 have g10 : (jo (c) (v)).toArray[0 + 10]? = some (.int .i64 (c).ttl) := rfl
 have g11 : (jo (c) (v)).toArray[0 + 11]? = some (.int .i64 (c).siz) := rfl
 have g12 : (jo (c) (v)).toArray[0 + 12]? = some (v) := rfl
 have no : ¬ u5 c → false = Cn.mayNum c := fun k => (decide_eq_false k).symm
 by_cases h1 : 1 ≤ c.ups ∧ c.ups ≤ 9
 rotate_left
 · repeat (first | refine goA ?_ | (refine' jU (jc je rfl (j4 _ _ _ )) rfl ?_))
   refine ju (fun w h => h.tail) ?_
   refine ji 2 _ rfl rfl ?_
   exact ⟨congrArg Value.bool (no fun k => h1 (by unfold u5 at k; omega)), rfl⟩
 by_cases he : c.ups % 2 = 1
 rotate_left
 · repeat (first | refine goA ?_ | (refine' jU (jc je rfl (j4 _ _ _ )) rfl ?_))
   refine ju (fun w h => h.tail) ?_
   refine ji 2 _ rfl rfl ?_
   exact ⟨congrArg Value.bool (no fun k => he (by unfold u5 at k; omega)), rfl⟩
 by_cases h2 : 1 ≤ c.hdg ∧ c.hdg ≤ 1000
 rotate_left
 · repeat (first | refine goA ?_ | (refine' jU (jc je rfl (j4 _ _ _ )) rfl ?_))
   refine ju (fun w h => h.tail) ?_
   refine ji 2 _ rfl rfl ?_
   exact ⟨congrArg Value.bool (no fun k => h2 (by unfold u5 at k; omega)), rfl⟩
 by_cases h3 : 1 ≤ c.wai ∧ c.wai ≤ 1000
 rotate_left
 · repeat (first | refine goA ?_ | (refine' jU (jc je rfl (j4 _ _ _ )) rfl ?_) | (refine' kf (jc je rfl (j4 _ _ _ )) rfl ?_))
   refine ju (fun w h => h.tail) ?_
   refine ji 2 _ rfl rfl ?_
   exact ⟨congrArg Value.bool (no fun k => h3 (by unfold u5 at k; omega)), rfl⟩
 by_cases h4 : 1 ≤ c.tri ∧ c.tri ≤ 4
 rotate_left
 · repeat (first | refine goA ?_ | (refine' jU (jc je rfl (j4 _ _ _ )) rfl ?_) | (refine' kf (jc je rfl (j4 _ _ _ )) rfl ?_))
   refine ju (fun w h => h.tail) ?_
   refine ji 2 _ rfl rfl ?_
   exact ⟨congrArg Value.bool (no fun k => h4 (by unfold u5 at k; omega)), rfl⟩
 have m1 : 0 ≤ c.ups / 2 * c.hdg ∧ c.ups / 2 * c.hdg ≤ 4000 := ⟨Int.mul_nonneg jd jd, Int.le_trans (Int.mul_le_mul (show c.ups / 2 ≤ 4 by omega) h2.2 jd jd) (by decide)⟩
 have m2 : 0 ≤ c.tri * c.wai ∧ c.tri * c.wai ≤ 4000 := ⟨Int.mul_nonneg jd jd, Int.le_trans (Int.mul_le_mul h4.2 h3.2 jd jd) (by decide)⟩
 by_cases h5 : c.ups / 2 * c.hdg + c.tri * c.wai ≤ c.ded ∧ c.ded ≤ 100000
 rotate_left
 · repeat (first | refine goA ?_ | (refine' jU (jc je rfl (j4 _ _ _ )) rfl ?_) | (refine' kf (jc je rfl (j4 _ _ _ )) rfl ?_))
   refine ju (fun w h => h.tail) ?_
   refine ji 2 _ rfl rfl ?_
   exact ⟨congrArg Value.bool (no fun k => h5 (by unfold u5 at k; omega)), rfl⟩
 by_cases h6 : 1 ≤ c.res ∧ c.res ≤ 100000
 rotate_left
 · repeat (first | refine goA ?_ | (refine' jU (jc je rfl (j4 _ _ _ )) rfl ?_) | (refine' kf (jc je rfl (j4 _ _ _ )) rfl ?_))
   refine ju (fun w h => h.tail) ?_
   refine ji 2 _ rfl rfl ?_
   exact ⟨congrArg Value.bool (no fun k => h6 (by unfold u5 at k; omega)), rfl⟩
 by_cases h7 : 1 ≤ c.lim ∧ c.lim ≤ 100
 rotate_left
 · repeat (first | refine goA ?_ | (refine' jU (jc je rfl (j4 _ _ _ )) rfl ?_) | (refine' kf (jc je rfl (j4 _ _ _ )) rfl ?_))
   refine ju (fun w h => h.tail) ?_
   refine ji 2 _ rfl rfl ?_
   exact ⟨congrArg Value.bool (no fun k => h7 (by unfold u5 at k; omega)), rfl⟩
 by_cases h8 : 0 ≤ c.cac ∧ c.cac ≤ 256
 rotate_left
 · repeat (first | refine goA ?_ | (refine' jU (jc je rfl (j4 _ _ _ )) rfl ?_) | (refine' kf (jc je rfl (j4 _ _ _ )) rfl ?_))
   refine ju (fun w h => h.tail) ?_
   refine ji 2 _ rfl rfl ?_
   exact ⟨congrArg Value.bool (no fun k => h8 (by unfold u5 at k; omega)), rfl⟩
 by_cases h9 : 1 ≤ c.fli ∧ c.fli ≤ 32
 rotate_left
 · repeat (first | refine goA ?_ | (refine' jU (jc je rfl (j4 _ _ _ )) rfl ?_) | (refine' kf (jc je rfl (j4 _ _ _ )) rfl ?_))
   refine ju (fun w h => h.tail) ?_
   refine ji 2 _ rfl rfl ?_
   exact ⟨congrArg Value.bool (no fun k => h9 (by unfold u5 at k; omega)), rfl⟩
 by_cases h10 : 1 ≤ c.wtr ∧ c.wtr ≤ 16
 rotate_left
 · repeat (first | refine goA ?_ | (refine' jU (jc je rfl (j4 _ _ _ )) rfl ?_) | (refine' kf (jc je rfl (j4 _ _ _ )) rfl ?_))
   refine ju (fun w h => h.tail) ?_
   refine ji 2 _ rfl rfl ?_
   exact ⟨congrArg Value.bool (no fun k => h10 (by unfold u5 at k; omega)), rfl⟩
 by_cases h11 : 0 ≤ c.ttl ∧ c.ttl ≤ 2147483647
 rotate_left
 · repeat (first | refine goA ?_ | (refine' jU (jc je rfl (j4 _ _ _ )) rfl ?_) | (refine' kf (jc je rfl (j4 _ _ _ )) rfl ?_))
   refine ju (fun w h => h.tail) ?_
   refine ji 2 _ rfl rfl ?_
   exact ⟨congrArg Value.bool (no fun k => h11 (by unfold u5 at k; omega)), rfl⟩
 by_cases h12 : 512 ≤ c.siz ∧ c.siz ≤ 4096
 rotate_left
 · repeat (first | refine goA ?_ | (refine' jU (jc je rfl (j4 _ _ _ )) rfl ?_) | (refine' kf (jc je rfl (j4 _ _ _ )) rfl ?_))
   refine ju (fun w h => h.tail) ?_
   refine ji 2 _ rfl rfl ?_
   exact ⟨congrArg Value.bool ((decide_eq_false h12).trans <| no fun k => h12 (by unfold u5 at k; omega)), rfl⟩
 have yes : true = Cn.mayNum c := (decide_eq_true (show u5 c from ⟨⟨h1.1, h1.2, he⟩, h2, h3, h4, h5, h6, h7, h8, h9, h10, h11, h12⟩)).symm
 repeat (first | refine goA ?_ | (refine' jU (jc je rfl (j4 _ _ _ )) rfl ?_) | (refine' kf (jc je rfl (j4 _ _ _ )) rfl ?_))
 refine ju (fun w h => h.tail) ?_
 refine ji 2 _ rfl rfl ?_
 exact ⟨congrArg Value.bool ((decide_eq_true h12).trans yes), rfl⟩
end
section
open Go.RowKit
open Cn (Zo Cf)
variable {G : World} {L : ja}
theorem kR {ups : Int} {zs : List Zo} {i : Nat} (hi : i < zs.length) (h : Cn.goodAt ups zs i = false) : Cn.mayZs ups zs = false := by
 unfold Cn.mayZs
 rw [Bool.and_eq_false_iff]
 right
 rw [List.all_eq_false]
 exact ⟨i, List.mem_range.2 hi, by rw [h]; decide⟩
theorem U8 {ups : Int} {zs : List Zo} (h16 : zs.length ≤ 16) (h : ∀ j < zs.length, Cn.goodAt ups zs j = true) : Cn.mayZs ups zs = true := by
 unfold Cn.mayZs
 rw [decide_eq_true h16, Bool.true_and, List.all_eq_true]
 exact fun i hi => h i (List.mem_range.1 hi)
theorem Uo {ups : Int} {zs : List Zo} (h : 16 < zs.length) : Cn.mayZs ups zs = false := by
 unfold Cn.mayZs
 rw [decide_eq_false jd]
 rfl
theorem Z6 {ups : Int} {zs : List Zo} {i : Nat} {z : Zo} (h : zs[i]? = some z) : Cn.goodAt ups zs i = (Cn.okZo ups z && !(zs.take i).any (fun y => y.name == z.name)) := by unfold Cn.goodAt; rw [h]
theorem Zp (c : Cf) (v : Value) (hz : sliceR 3 zoR L [v] c.zs) (hu : 1 ≤ c.ups ∧ c.ups ≤ 9) (hs : ∀ z ∈ c.zs, z.name.length ≤ 1000000) :
 Spec Tryz.prog G 68 #[.agg (jo c v).toArray] L fun u M => u = .bool (Cn.mayZs c.ups c.zs) ∧ M = L := by
 obtain ⟨a, cap, e, hz⟩ := hz.val
 obtain rfl := (List.cons.inj e).1
 clear e
 have hcap := (sliceR.cut hz).2.1
 have hmax := (sliceR.cut hz).2.2.1
 unfold maxLen at hmax
 refine jm (n := 69) Tryz.func68 rfl rfl rfl ?_
 refine kh (jY (j0 (kF rfl) rfl ?_))
 intro b1
 have g0 : (jo (c) (.slice a c.zs.length cap)).toArray[0 + 0]? = some (.int .i64 (c).ups) := rfl
 have g1 : (jo (c) (.slice a c.zs.length cap)).toArray[0 + 1]? = some (.int .i64 (c).ded) := rfl
 have g2 : (jo (c) (.slice a c.zs.length cap)).toArray[0 + 2]? = some (.int .i64 (c).hdg) := rfl
 have g3 : (jo (c) (.slice a c.zs.length cap)).toArray[0 + 3]? = some (.int .i64 (c).wai) := rfl
 have g4 : (jo (c) (.slice a c.zs.length cap)).toArray[0 + 4]? = some (.int .i64 (c).tri) := rfl
 have g5 : (jo (c) (.slice a c.zs.length cap)).toArray[0 + 5]? = some (.int .i64 (c).res) := rfl
 have g6 : (jo (c) (.slice a c.zs.length cap)).toArray[0 + 6]? = some (.int .i64 (c).lim) := rfl
 have g7 : (jo (c) (.slice a c.zs.length cap)).toArray[0 + 7]? = some (.int .i64 (c).cac) := rfl
 have g8 : (jo (c) (.slice a c.zs.length cap)).toArray[0 + 8]? = some (.int .i64 (c).fli) := rfl
 have g9 : (jo (c) (.slice a c.zs.length cap)).toArray[0 + 9]? = some (.int .i64 (c).wtr) := rfl
 have g10 : (jo (c) (.slice a c.zs.length cap)).toArray[0 + 10]? = some (.int .i64 (c).ttl) := rfl
 have g11 : (jo (c) (.slice a c.zs.length cap)).toArray[0 + 11]? = some (.int .i64 (c).siz) := rfl
 have g12 : (jo (c) (.slice a c.zs.length cap)).toArray[0 + 12]? = some (.slice a c.zs.length cap) := rfl
 by_cases h16 : 16 < c.zs.length
 · rw [Uo h16]
   refine goA ?_
   refine ju (fun w h => h.tail) ?_
   refine ji 2 _ rfl rfl ?_
   exact ⟨rfl, rfl⟩
 refine goA ?_
 refine jy (σ := Nat) (fun i => i ≤ c.zs.length ∧ ∀ j < i, Cn.goodAt c.ups c.zs j = true) (fun i => [(1, .pointer (some ⟨b1, 0, none⟩)), (12, .slice a c.zs.length cap), (13, .int .i64 (c.zs.length : Nat)), (14, .int .i64 (i : Nat))]) (fun _ => (b1, Obj.cells (jo c (.slice a c.zs.length cap)).toArray 30 (0, 0)) :: L) (fun i => c.zs.length - i) 0 ⟨by omega, fun j hj => by omega⟩ ?_ (fun _ h => h) ?_
 exact jr
 rintro i ⟨hi, hall⟩
 by_cases hlt : i < c.zs.length
 · obtain ⟨z, hzi⟩ : ∃ z, c.zs[i]? = some z := ⟨_, List.getElem?_eq_getElem hlt⟩
   obtain ⟨b2, o2, C2, t2, f2, rfl, m2, cs, _, ⟨rfl, hzn, hzp, hzt⟩, hcs⟩ := sliceR.at hz hzi
   have hzs := hs z (List.mem_of_getElem? hzi)
   have e0 : C2[o2 + i * 3 + 0]? = some (.string (bs z.name)) := hcs 0 _ rfl
   have hgood := Z6 (ups := c.ups) hzi
   refine goA ?_
   refine jB (jA [.string (bs z.name), .int .u8 (z.pol : Nat), .int .u16 (z.tru : Nat)] rfl stL (List.mem_cons_of_mem _ m2) hcs) rfl ?_
   repeat (first | refine goA ?_ | (refine jO ?_; intro bNew))
   obtain ⟨b4, hb4⟩ : ∃ b, bNew = b := ⟨_, rfl⟩
   rw [hb4]
   clear hb4 bNew
   have k0 : ([.string (bs z.name), .int .u8 (z.pol : Nat), .int .u16 (z.tru : Nat)] : List Value).toArray[0 + 0]? = some (.string (bs z.name)) := rfl
   have k1 : ([.string (bs z.name), .int .u8 (z.pol : Nat), .int .u16 (z.tru : Nat)] : List Value).toArray[0 + 1]? = some (.int .u8 (z.pol : Nat)) := rfl
   have k2 : ([.string (bs z.name), .int .u8 (z.pol : Nat), .int .u16 (z.tru : Nat)] : List Value).toArray[0 + 2]? = some (.int .u16 (z.tru : Nat)) := rfl
   have hKm : ∀ p ∈ [(b4, Obj.cells ([.string (bs z.name), .int .u8 (z.pol : Nat), .int .u16 (z.tru : Nat)] : List Value).toArray 26 (0, 0))], p ∈ (b4, Obj.cells ([.string (bs z.name), .int .u8 (z.pol : Nat), .int .u16 (z.tru : Nat)] : List Value).toArray 26 (0, 0)) :: (b1, Obj.cells (jo c (.slice (some ⟨b2, o2, none⟩) c.zs.length cap)).toArray 30 (0, 0)) :: L := by
    intro p hp
    simp only [List.mem_cons, List.not_mem_nil, or_false] at hp
    subst hp
    exact List.mem_cons_self ..
   cases hmay : Nm.may z.name with
   | false =>
     have hno : Cn.okZo c.ups z = false := by unfold Cn.okZo Cn.okName; rw [hmay]; rfl
     rw [kR hlt (by rw [hgood, hno]; rfl)]
     refine jq jb ([(b4, Obj.cells ([.string (bs z.name), .int .u8 (z.pol : Nat), .int .u16 (z.tru : Nat)] : List Value).toArray 26 (0, 0))]) [] ?_
     refine tkQ 0 ?_
     refine tkQ 1 ?_
     refine' jp 2 rfl rfl je (jV je rfl (fun _ _ => KP _ ?_)) ?_ ?_; (· omega); (· assumption)
     refine tkQ 3 ?_
     refine tkQ 4 ?_
     refine tkQ 5 ?_
     refine tkQ 6 ?_
     refine tkQ 7 ?_
     refine tkQ 8 ?_
     refine tkQ 9 ?_
     refine tkQ 10 ?_
     refine tkQ 11 ?_
     refine tdQ ?_
     refine goA ?_
     refine ju (fun w h => h.tail.tail) ?_
     refine ji 2 _ rfl rfl ?_
     exact ⟨rfl, rfl⟩
   | true =>
     by_cases hf : Nm.fold z.name = z.name
     rotate_left
     · have hno : Cn.okZo c.ups z = false := by unfold Cn.okZo Cn.okName; rw [beq_false_of_ne hf, Bool.and_false, Bool.false_and]
       rw [kR hlt (by rw [hgood, hno]; rfl)]
       refine jq jb ([(b4, Obj.cells ([.string (bs z.name), .int .u8 (z.pol : Nat), .int .u16 (z.tru : Nat)] : List Value).toArray 26 (0, 0))]) [] ?_
       refine tkQ 0 ?_
       refine tkQ 1 ?_
       refine' jp 2 rfl rfl je (jV je rfl (fun _ _ => KP _ ?_)) ?_ ?_; (· omega); (· assumption)
       refine tkQ 3 ?_
       refine tkQ 4 ?_
       refine tkQ 5 ?_
       refine tkQ 6 ?_
       (refine' jp 7 rfl rfl je (kt rfl rfl (by exact xF (by assumption)) je rfl (fun _ _ => YU _ ?_)) ?_ ?_; (· omega); (· assumption))
       refine tkQ 8 ?_
       refine tkQ 9 ?_
       refine tkQ 10 ?_
       refine tkQ 11 ?_
       refine tdQ ?_
       refine goA ?_
       refine ju (fun w h => h.tail.tail) ?_
       refine ji 2 _ rfl rfl ?_
       exact ⟨rfl, rfl⟩
     have hokn : Cn.okName z = true := by unfold Cn.okName; rw [hmay, beq_iff_eq.2 hf]; rfl
     refine jq jb ([(b4, Obj.cells ([.string (bs z.name), .int .u8 (z.pol : Nat), .int .u16 (z.tru : Nat)] : List Value).toArray 26 (0, 0))]) [] ?_
     refine tkQ 0 ?_
     refine tkQ 1 ?_
     refine' jp 2 rfl rfl je (jV je rfl (fun _ _ => KP _ ?_)) ?_ ?_; (· omega); (· assumption)
     refine tkQ 3 ?_
     refine tkQ 4 ?_
     refine tkQ 5 ?_
     refine tkQ 6 ?_
     (refine' jp 7 rfl rfl je (kt rfl rfl (by exact xF (by assumption)) je rfl (fun _ _ => YU _ ?_)) ?_ ?_; (· omega); (· assumption))
     refine tkQ 8 ?_
     refine tkQ 9 ?_
     refine tkQ 10 ?_
     refine tkQ 11 ?_
     refine tdQ ?_
     refine goA ?_
     refine jy (σ := Nat) (fun k => k ≤ i ∧ (c.zs.take k).any (fun y => y.name == z.name) = false) (fun k => [(1, .pointer (some ⟨b1, 0, none⟩)), (3, .int .i64 (i : Nat)), (4, .pointer (some ⟨b4, 0, none⟩)), (12, .slice (some ⟨b2, o2, none⟩) c.zs.length cap), (13, .int .i64 (c.zs.length : Nat)), (14, .int .i64 (i : Nat)), (34, .slice (some ⟨b2, o2, none⟩) i cap), (35, .int .i64 (i : Nat)), (36, .int .i64 (k : Nat))]) (fun _ => (b4, Obj.cells ([.string (bs z.name), .int .u8 (z.pol : Nat), .int .u16 (z.tru : Nat)] : List Value).toArray 26 (0, 0)) :: (b1, Obj.cells (jo c (.slice (some ⟨b2, o2, none⟩) c.zs.length cap)).toArray 30 (0, 0)) :: L) (fun k => i - k) 0 ⟨by omega, by simp⟩ ?_ (fun _ h => h) ?_
     exact jr
     rintro k ⟨hk, hany⟩
     by_cases hki : k < i
     · obtain ⟨y, hyk⟩ : ∃ y, c.zs[k]? = some y := ⟨_, List.getElem?_eq_getElem jd⟩
       obtain ⟨b5, o5, C5, t5, f5, e5, m5, cs5, _, ⟨rfl, hyn, hyp, hyt⟩, hcs5⟩ := sliceR.at hz hyk
       cases e5
       refine goA ?_
       refine jB (jA [.string (bs y.name), .int .u8 (y.pol : Nat), .int .u16 (y.tru : Nat)] rfl stL (List.mem_cons_of_mem _ (List.mem_cons_of_mem _ m5)) hcs5) rfl ?_
       repeat (first | refine goA ?_ | (refine jO ?_; intro bNew))
       obtain ⟨b6, hb6⟩ : ∃ b, bNew = b := ⟨_, rfl⟩
       rw [hb6]
       clear hb6 bNew
       have l0 : ([.string (bs y.name), .int .u8 (y.pol : Nat), .int .u16 (y.tru : Nat)] : List Value).toArray[0 + 0]? = some (.string (bs y.name)) := rfl
       by_cases hyz : y.name = z.name
       · have hbad : Cn.goodAt c.ups c.zs i = false := by
          rw [hgood, Bool.and_eq_false_iff]
          right
          rw [Bool.not_eq_false', List.any_eq_true]
          exact ⟨y, List.mem_take_iff_getElem.2 ⟨k, by omega, (List.getElem?_eq_some_iff.1 hyk).2⟩, beq_iff_eq.2 hyz⟩
         rw [kR hlt hbad]
         refine goA ?_
         refine ju (fun w h => h.tail.tail.tail) ?_
         refine ji 2 _ rfl rfl ?_
         exact ⟨rfl, rfl⟩
       · refine goA ?_
         refine jh (k + 1) ⟨by omega, ?_⟩ ?_ (fun _ h => h.tail) jd
         · rw [List.take_add_one, hyk, List.any_append, hany]
           simp [hyz]
         exact jr
     · have hkie : k = i := by omega
       subst hkie
       rw [hany, Bool.not_false, Bool.and_true] at hgood
       unfold Cn.okZo at hgood
       rw [hokn, Bool.true_and] at hgood
       obtain ⟨n, hn⟩ : ∃ n : Nat, c.ups = (n : Nat) := ⟨c.ups.toNat, by omega⟩
       have hn2 : c.ups.toNat = n := by omega
       have fin : ∀ b, Cn.okPol c.ups z = b → Cn.goodAt c.ups c.zs k = b := fun b h => hgood.trans h
       have nxt : Cn.okPol c.ups z = true → ∀ j < k + 1, Cn.goodAt c.ups c.zs j = true := fun h j hj => by
        rcases Nat.lt_or_ge j k with q | q
        · exact hall j q
        · have : j = k := by omega
          subst this
          exact fin true h
       have pol : Cn.okPol c.ups z = decide (((z.pol = 1 ∨ z.pol = 2 ∨ z.pol = 4) ∧ z.tru = 0) ∨ (z.pol = 3 ∧ z.tru ≠ 0 ∧ z.tru / 2 ^ n = 0)) := by unfold Cn.okPol; rw [hn2]
       rw [hn] at g0
       obtain ⟨q, hq⟩ : ∃ q, z.tru / 2 ^ n = q := ⟨_, rfl⟩
       have hsh := yk (P := Tryz.prog) (t := 22) (k := .i64) (a := z.tru) (u := n) jd
       rw [hq] at pol hsh
       by_cases p1 : z.pol = 1
       · by_cases t0 : z.tru = 0
         · skip
           have hy : Cn.okPol c.ups z = true := by rw [pol]; exact decide_eq_true jd
           refine goA ?_
           refine jh (k + 1) ⟨by omega, nxt hy⟩ ?_ (fun _ h => h.tail) jd
           exact jr
         · skip
           rw [kR hlt (fin false (by rw [pol]; exact decide_eq_false jd))]
           refine goA ?_
           refine ju (fun w h => h.tail.tail) ?_
           refine ji 2 _ rfl rfl ?_
           exact ⟨rfl, rfl⟩
       by_cases p2 : z.pol = 2
       · by_cases t0 : z.tru = 0
         · skip
           have hy : Cn.okPol c.ups z = true := by rw [pol]; exact decide_eq_true jd
           refine goA ?_
           refine jh (k + 1) ⟨by omega, nxt hy⟩ ?_ (fun _ h => h.tail) jd
           exact jr
         · skip
           rw [kR hlt (fin false (by rw [pol]; exact decide_eq_false jd))]
           refine goA ?_
           refine ju (fun w h => h.tail.tail) ?_
           refine ji 2 _ rfl rfl ?_
           exact ⟨rfl, rfl⟩
       by_cases p4 : z.pol = 4
       · by_cases t0 : z.tru = 0
         · skip
           have hy : Cn.okPol c.ups z = true := by rw [pol]; exact decide_eq_true jd
           refine goA ?_
           refine jh (k + 1) ⟨by omega, nxt hy⟩ ?_ (fun _ h => h.tail) jd
           exact jr
         · skip
           rw [kR hlt (fin false (by rw [pol]; exact decide_eq_false jd))]
           refine goA ?_
           refine ju (fun w h => h.tail.tail) ?_
           refine ji 2 _ rfl rfl ?_
           exact ⟨rfl, rfl⟩
       by_cases p3 : z.pol = 3
       · by_cases t0 : z.tru = 0
         · skip
           rw [kR hlt (fin false (by rw [pol]; exact decide_eq_false jd))]
           refine goA ?_
           refine ju (fun w h => h.tail.tail) ?_
           refine ji 2 _ rfl rfl ?_
           exact ⟨rfl, rfl⟩
         · by_cases q0 : q = 0
           · skip
             refine goA ?_
             refine jN (qJ rfl rfl hsh) rfl ?_
             have hy : Cn.okPol c.ups z = true := by rw [pol]; exact decide_eq_true jd
             refine goA ?_
             refine jh (k + 1) ⟨by omega, nxt hy⟩ ?_ (fun _ h => h.tail) jd
             exact jr
           · skip
             rw [kR hlt (fin false (by rw [pol]; exact decide_eq_false jd))]
             refine goA ?_
             refine jN (qJ rfl rfl hsh) rfl ?_
             refine goA ?_
             refine ju (fun w h => h.tail.tail) ?_
             refine ji 2 _ rfl rfl ?_
             exact ⟨rfl, rfl⟩
       rw [kR hlt (fin false (by rw [pol]; exact decide_eq_false jd))]
       refine goA ?_
       refine ju (fun w h => h.tail.tail) ?_
       refine ji 2 _ rfl rfl ?_
       exact ⟨rfl, rfl⟩
 · have hil : i = c.zs.length := by omega
   subst hil
   rw [U8 jd hall]
   refine goA ?_
   refine ju (fun w h => h.tail) ?_
   refine ji 2 _ rfl rfl ?_
   exact ⟨rfl, rfl⟩
end
section
open Go.RowKit
open Cn (Zo Cf)
variable {G : World} {L : ja}
structure CfL (L : ja) (c : Cf) (v : Value) : Prop where
 row : sliceR 3 zoR L [v] c.zs
 small : ∀ z ∈ c.zs, z.name.length ≤ 1000000
theorem CfL.mono {L' : ja} {c : Cf} {v : Value} (h : CfL L c v) (hs : ∀ p ∈ L, p ∈ L') : CfL L' c v := ⟨jx JL _ _ _ _ hs h.row, h.small⟩
theorem Jb {c : Cf} (h : Cn.mayNum c = true) : 1 ≤ c.ups ∧ c.ups ≤ 9 := by
 have := of_decide_eq_true h
 omega
def uW (c : Cf) : Int := if Cn.mayP c then 0 else 1
theorem Z7 (c : Cf) (v : Value) (h : CfL L c v) : Spec Tryz.prog G 36 #[.agg (jo c v).toArray] L fun u M => u = .int .i64 (uW c) ∧ M = L := by
 refine jm (n := 11) Tryz.func36 rfl rfl rfl ?_
 refine kh (jY (j0 (kF rfl) rfl ?_))
 intro b1
 refine goA ?_
 refine jU (jc je rfl (acv c v)) rfl ?_
 cases hn : Cn.mayNum c with
 | false =>
   have hm : uW c = 1 := by unfold uW Cn.mayP; rw [hn]; rfl
   rw [hm]
   refine goA ?_
   refine ju (fun w h => h.tail) ?_
   refine ji 2 _ rfl rfl ?_
   exact ⟨rfl, rfl⟩
 | true =>
   refine goA ?_
   refine kf (jc je rfl (Zp c v (jx JL _ _ _ _ jf h.row) (Jb hn) h.small)) rfl ?_
   cases hz : Cn.mayZs c.ups c.zs with
   | false =>
     have hm : uW c = 1 := by unfold uW Cn.mayP; rw [hn, hz]; rfl
     rw [hm]
     refine goA ?_
     refine ju (fun w h => h.tail) ?_
     refine ji 2 _ rfl rfl ?_
     exact ⟨rfl, rfl⟩
   | true =>
     have hm : uW c = 0 := by unfold uW Cn.mayP; rw [hn, hz]; rfl
     rw [hm]
     refine goA ?_
     refine ju (fun w h => h.tail) ?_
     refine ji 2 _ rfl rfl ?_
     exact ⟨rfl, rfl⟩
theorem zJ {c : Cf} (h : Cn.mayP c = true) : uW c = 0 := if_pos h
theorem zu {c : Cf} (h : Cn.mayP c = false) : uW c = 1 := if_neg (by rw [h]; decide)
theorem Z8 (c : Cf) (v : Value) (h : CfL L c v) : Spec Tryz.prog G 19 #[.agg (jo c v).toArray] L fun u M => u = .int .i64 (Cn.liesP c) ∧ M = L := by
 refine jm (n := 9) Tryz.func19 rfl rfl rfl ?_
 refine kh (jY (j0 (kF rfl) rfl ?_))
 intro b1
 have g0 : (jo (c) (v)).toArray[0 + 0]? = some (.int .i64 (c).ups) := rfl
 have g1 : (jo (c) (v)).toArray[0 + 1]? = some (.int .i64 (c).ded) := rfl
 have g2 : (jo (c) (v)).toArray[0 + 2]? = some (.int .i64 (c).hdg) := rfl
 have g3 : (jo (c) (v)).toArray[0 + 3]? = some (.int .i64 (c).wai) := rfl
 have g4 : (jo (c) (v)).toArray[0 + 4]? = some (.int .i64 (c).tri) := rfl
 have g5 : (jo (c) (v)).toArray[0 + 5]? = some (.int .i64 (c).res) := rfl
 have g6 : (jo (c) (v)).toArray[0 + 6]? = some (.int .i64 (c).lim) := rfl
 have g7 : (jo (c) (v)).toArray[0 + 7]? = some (.int .i64 (c).cac) := rfl
 have g8 : (jo (c) (v)).toArray[0 + 8]? = some (.int .i64 (c).fli) := rfl
 have g9 : (jo (c) (v)).toArray[0 + 9]? = some (.int .i64 (c).wtr) := rfl
 have g10 : (jo (c) (v)).toArray[0 + 10]? = some (.int .i64 (c).ttl) := rfl
 have g11 : (jo (c) (v)).toArray[0 + 11]? = some (.int .i64 (c).siz) := rfl
 have g12 : (jo (c) (v)).toArray[0 + 12]? = some (v) := rfl
 refine goA ?_
 refine jU (jc je rfl (Z7 c v (h.mono jf))) rfl ?_
 cases hm : Cn.mayP c with
 | true =>
   have he : uW c = 0 := zJ hm
   have hu := Jb (Bool.and_eq_true_iff.1 hm).1
   have hl : Cn.liesP c = c.ups / 2 := by unfold Cn.liesP; rw [if_pos hm]
   rw [he, hl]
   refine goA ?_
   refine ju (fun w h => h.tail) ?_
   refine ji 2 _ rfl rfl ?_
   exact ⟨rfl, rfl⟩
 | false =>
   have he : uW c = 1 := zu hm
   have hl : Cn.liesP c = 0 := by unfold Cn.liesP; rw [hm]; rfl
   rw [he, hl]
   refine goA ?_
   refine ju (fun w h => h.tail) ?_
   refine ji 2 _ rfl rfl ?_
   exact ⟨rfl, rfl⟩
end
section
open Go.RowKit
open Hg (En Pl)
open Vd (RSet Vdt Vote Rec Quest Piece Ballot)
variable {G : World} {L : ja}
theorem JM {ap : Nat} {a : As} {X : ja} (h : uP ap a X) (hX : ∀ p ∈ X, p ∈ L) : Spec Tryz.prog G 18 #[.pointer (some ⟨ap, 0, none⟩)] L fun u M => u = .bool a.over ∧ M = L := by
 obtain ⟨bp, bb, Mp, Mb, hp, hb, rfl⟩ := h
 refine jm (n := 5) Tryz.func18 rfl rfl rfl ?_
 refine goB ?_
 refine jU (jc je rfl (JJ ap bp bb a (hX _ (List.mem_cons_self ..)))) rfl ?_
 refine goB ?_
 refine ji 2 _ rfl rfl ?_
 exact ⟨rfl, rfl⟩
theorem aee {ap : Nat} {a : As} {X : ja} (h : uP ap a X) (hA : AWell a) : Spec Tryz.prog G 29 #[.pointer (some ⟨ap, 0, none⟩)] (X ++ L) fun u M => u = .int .i64 (Hg.opens a.p) ∧ M = X ++ L := by
 obtain ⟨bp, bb, Mp, Mb, hp, hb, rfl⟩ := h
 have e5 : (jt a bp bb)[0 + 5]? = some (.pointer (some ⟨bp, 0, none⟩)) := rfl
 have g1 : Option.isNone (some (⟨ap, 0, none⟩ : Addr)) = false := rfl
 have g2 : Option.isNone (some (⟨bp, 0, none⟩ : Addr)) = false := rfl
 rw [List.cons_append]
 refine jm (n := 17) Tryz.func29 rfl rfl rfl ?_
 refine goB ?_
 refine jH (L' := Mp ++ ((ap, Obj.cells (jt a bp bb) 102 (0, 0)) :: (Mb ++ L))) ?_ jn
 refine jU (jc je rfl (acn hp)) rfl ?_
 refine goB ?_
 refine jJ (L' := ((ap, Obj.cells (jt a bp bb) 102 (0, 0)) :: (Mp ++ Mb)) ++ L) ?_ jn
 refine ji 2 _ rfl rfl ?_
 exact ⟨rfl, rfl⟩
theorem acw {p : Pl} (h : Good p) : 0 ≤ (due p).1 ∧ (due p).1 ≤ Hg.top := by
 have hn := h.now
 unfold due
 split
 · exact ⟨Int.le_refl 0, by show (0 : Int) ≤ 1099511627776; decide⟩
 · split
   · exact ⟨Int.le_refl 0, by show (0 : Int) ≤ 1099511627776; decide⟩
   · rename_i h1
     have h2 : p.now + 1 ≤ dueT p := Int.le_max_right ..
     dsimp only
     omega
theorem afi {ap : Nat} {a : As} {X : ja} (h : uP ap a X) (hA : AWell a) : Spec Tryz.prog G 24 #[.pointer (some ⟨ap, 0, none⟩)] (X ++ L) fun u M => u = .tuple #[.int .i64 (Aq.dueA a).1, .bool (Aq.dueA a).2] ∧ M = X ++ L := by
 obtain ⟨bp, bb, Mp, Mb, hp, hb, rfl⟩ := h
 have e5 : (jt a bp bb)[0 + 5]? = some (.pointer (some ⟨bp, 0, none⟩)) := rfl
 have e7 : (jt a bp bb)[0 + 7]? = some (.int .i64 a.ded) := rfl
 have e8 : (jt a bp bb)[0 + 8]? = some (.int .i64 a.now) := rfl
 have hn := hA.ok.now
 have hdn := hA.ok.ded
 have htop : Hg.top = 1099511627776 := rfl
 have hdue := acw hA.ok.good
 rw [List.cons_append]
 refine jm (n := 35) Tryz.func24 rfl rfl rfl ?_
 refine goB ?_
 refine jU (jc je rfl (JJ ap bp bb a (by simp))) rfl ?_
 cases ho : a.over with
 | true =>
   have hm : Aq.dueA a = (0, false) := by unfold Aq.dueA; rw [if_pos ho]
   rw [hm]
   refine goB ?_
   refine jJ (L' := ((ap, Obj.cells (jt a bp bb) 102 (0, 0)) :: (Mp ++ Mb)) ++ L) ?_ jn
   refine jM 2 3 _ _ rfl rfl rfl ?_
   exact ⟨rfl, rfl⟩
 | false =>
   have hm : Aq.dueA a = if Hg.top < Aq.dueT a then (0, false) else (Aq.dueT a, true) := by unfold Aq.dueA; rw [if_neg (by rw [ho]; decide)]
   have hT : Aq.dueT a = max (if (due a.p).2 then min a.ded (due a.p).1 else a.ded) (a.now + 1) := rfl
   rw [hm]
   refine goB ?_
   refine jH (L' := Mp ++ ((ap, Obj.cells (jt a bp bb) 102 (0, 0)) :: (Mb ++ L))) ?_ jn
   refine jU (jc je rfl (ah2 hp hA.ok.begins)) rfl ?_
   obtain ⟨⟨d1, d2⟩, hd⟩ : ∃ z, z = due a.p := ⟨_, rfl⟩
   rw [← hd] at hT hdue ⊢
   dsimp only at hT hdue ⊢
   cases d2 with
   | true =>
     rw [if_pos rfl] at hT
     by_cases ht : Hg.top < Aq.dueT a
     · rw [if_pos ht]
       rw [hT, htop] at ht
       refine goB ?_
       refine jJ (L' := ((ap, Obj.cells (jt a bp bb) 102 (0, 0)) :: (Mp ++ Mb)) ++ L) ?_ jn
       refine jM 2 3 _ _ rfl rfl rfl ?_
       exact ⟨rfl, rfl⟩
     · rw [if_neg ht]
       rw [hT] at ht ⊢
       rw [htop] at ht
       refine goB ?_
       refine jJ (L' := ((ap, Obj.cells (jt a bp bb) 102 (0, 0)) :: (Mp ++ Mb)) ++ L) ?_ jn
       refine jM 2 3 _ _ rfl rfl rfl ?_
       exact ⟨rfl, rfl⟩
   | false =>
     rw [if_neg (by decide)] at hT
     by_cases ht : Hg.top < Aq.dueT a
     · rw [if_pos ht]
       rw [hT, htop] at ht
       refine goB ?_
       refine jJ (L' := ((ap, Obj.cells (jt a bp bb) 102 (0, 0)) :: (Mp ++ Mb)) ++ L) ?_ jn
       refine jM 2 3 _ _ rfl rfl rfl ?_
       exact ⟨rfl, rfl⟩
     · rw [if_neg ht]
       rw [hT] at ht ⊢
       rw [htop] at ht
       refine goB ?_
       refine jJ (L' := ((ap, Obj.cells (jt a bp bb) 102 (0, 0)) :: (Mp ++ Mb)) ++ L) ?_ jn
       refine jM 2 3 _ _ rfl rfl rfl ?_
       exact ⟨rfl, rfl⟩
theorem Z9 {ap : Nat} {a : As} {X : ja} (h : uP ap a X) : Spec Tryz.prog G 16 #[.pointer (some ⟨ap, 0, none⟩)] (X ++ L) fun u M => ∃ b2 X2, u = .pointer (some ⟨b2, 0, none⟩) ∧ uP b2 a X2 ∧ M = X2 ++ (X ++ L) := by
 obtain ⟨bp, bb, Mp, Mb, hp, hb, rfl⟩ := h
 have e5 : (jt a bp bb)[0 + 5]? = some (.pointer (some ⟨bp, 0, none⟩)) := rfl
 have e6 : (jt a bp bb)[0 + 6]? = some (.pointer (some ⟨bb, 0, none⟩)) := rfl
 have g1 : Option.isNone (some (⟨ap, 0, none⟩ : Addr)) = false := rfl
 rw [List.cons_append]
 refine jm (n := 21) Tryz.func16 rfl rfl rfl ?_
 repeat (first | refine goB ?_ | (refine jO ?_; intro bNew))
 refine jH (L' := Mp ++ ((bNew, Obj.cells (jt a bp bb) 102 (0, 0)) :: (ap, Obj.cells (jt a bp bb) 102 (0, 0)) :: (Mb ++ L))) ?_ jn
 refine jw (jc je rfl (afd hp)) rfl ?_
 rintro _ _ ⟨bq, M2, rfl, hp2, rfl⟩
 refine jH (L' := (bNew, Obj.cells (jt a bp bb) 102 (0, 0)) :: (ap, Obj.cells (jt a bp bb) 102 (0, 0)) :: (M2 ++ (Mp ++ (Mb ++ L)))) ?_ jn
 refine goB ?_
 refine qI (L' := (bNew, Obj.cells (jt a bq bb) 102 (0, 0)) :: (ap, Obj.cells (jt a bp bb) 102 (0, 0)) :: (M2 ++ (Mp ++ (Mb ++ L)))) (fun w h => h) ?_
 refine jH (L' := Mb ++ ((bNew, Obj.cells (jt a bq bb) 102 (0, 0)) :: (ap, Obj.cells (jt a bp bb) 102 (0, 0)) :: (M2 ++ (Mp ++ L)))) ?_ jn
 refine jw (jc je rfl (adW hb)) rfl ?_
 rintro _ _ ⟨b3, M3, rfl, hb3, rfl⟩
 refine jH (L' := (bNew, Obj.cells (jt a bq bb) 102 (0, 0)) :: (ap, Obj.cells (jt a bp bb) 102 (0, 0)) :: (M3 ++ (Mb ++ (M2 ++ (Mp ++ L))))) ?_ jn
 refine goB ?_
 refine ju (L' := (bNew, Obj.cells (jt a bq b3) 102 (0, 0)) :: (ap, Obj.cells (jt a bp bb) 102 (0, 0)) :: (M3 ++ (Mb ++ (M2 ++ (Mp ++ L))))) (fun w h => h) ?_
 refine jJ (L' := ((bNew, Obj.cells (jt a bq b3) 102 (0, 0)) :: (M2 ++ M3)) ++ (((ap, Obj.cells (jt a bp bb) 102 (0, 0)) :: (Mp ++ Mb)) ++ L)) ?_ jn
 refine ji 2 _ rfl rfl ?_
 exact ⟨bNew, _, rfl, ⟨bq, b3, M2, M3, hp2, hb3, rfl⟩, rfl⟩
end
section
open Go.RowKit
open Hg (En Pl)
open Vd (RSet Vdt Vote Rec Quest Piece Ballot)
variable {G : World} {L : ja}
section
variable {P : Program} {ρ : jG} {ty : TypeId}
theorem Kx {x : Operand} {t : TypeId} {fs : Array Field} {v : Value} (hx : ev ρ x = some v) (hu : P.underlying t = some (.struct fs)) : OpQ P ρ L (.makeInterface t x) ty (.iface t v) :=
 ⟨fun r hr w hw o ho _ => by simp [execOp, ho, hr _ _ hx, Instr.makeInterface, run_underlying hu]⟩
end
theorem ajM : Built Tryz.prog 152 [] (.agg #[]) := ⟨fun w => by kernel_rfl⟩
theorem ajN : Built Tryz.prog 155 [] (.agg #[]) := ⟨fun w => by kernel_rfl⟩
theorem Yq (k : Nat) (lies : Int) (hl : 0 ≤ lies ∧ lies ≤ 1000) : Spec Tryz.prog G 38 #[.int .u8 (k : Nat), .int .i64 lies] L fun u M => (u = if 1 ≤ k ∧ k ≤ 3 then .tuple #[.iface (Zl k) (UH k (lies + 1)), .int .i64 (if k = 3 then 1 else lies + 1), .bool true] else .tuple #[.nilIface, .int .i64 0, .bool false]) ∧ M = L := by
 refine jm (n := 26) Tryz.func38 rfl rfl rfl ?_
 by_cases h1 : k = 1
 · subst h1
   refine goB ?_
   refine jB (jl rfl ajM) rfl ?_
   refine jB (Kx rfl Tryz.underlying152) rfl ?_
   refine goB ?_
   refine qc 4 5 6 _ _ _ rfl rfl rfl rfl ?_
   exact ⟨rfl, rfl⟩
 by_cases h2 : k = 2
 · subst h2
   repeat (first | refine goB ?_ | refine jB (jl rfl (Wv _)) rfl ?_)
   refine jB (Kx rfl Tryz.underlying154) rfl ?_
   refine goB ?_
   refine qc 4 5 6 _ _ _ rfl rfl rfl rfl ?_
   exact ⟨rfl, rfl⟩
 by_cases h3 : k = 3
 · subst h3
   refine goB ?_
   refine jB (jl rfl ajN) rfl ?_
   refine jB (Kx rfl Tryz.underlying155) rfl ?_
   refine goB ?_
   refine qc 4 5 6 _ _ _ rfl rfl rfl rfl ?_
   exact ⟨rfl, rfl⟩
 rw [if_neg jd]
 refine goB ?_
 refine qc 4 5 6 _ _ _ rfl rfl rfl rfl ?_
 exact ⟨rfl, rfl⟩
theorem qS {ups : Int} {l : List Int} {i : Nat} {x : Int} (hx : l[i]? = some x) (h : x < 0 ∨ ups ≤ x ∨ x ∈ l.take i) : Aq.distinct ups l = false := by
 unfold Aq.distinct
 rw [Bool.and_eq_false_iff]
 rcases h with h | h | h
 · left; rw [List.all_eq_false]; exact ⟨x, List.mem_of_getElem? hx, by simp; omega⟩
 · left; rw [List.all_eq_false]; exact ⟨x, List.mem_of_getElem? hx, by simp; omega⟩
 · right
   rw [decide_eq_false_iff_not]
   intro hn
   obtain ⟨hi, rfl⟩ := List.getElem?_eq_some_iff.1 hx
   obtain ⟨j, hj, e⟩ := List.getElem_of_mem h
   have hj' : j < i := by simp at hj; omega
   rw [List.getElem_take] at e
   have := (List.getElem_inj hn).1 e
   omega
theorem Zq (vl : Value) (l : List Int) (ups : Int) (hl : IRow L vl l) (hn : l.length ≤ 1000) (hu : 1 ≤ ups ∧ ups ≤ 9) : Spec Tryz.prog G 39 #[vl, .int .i64 ups] L fun u M => u = .bool (Aq.distinct ups l) ∧ M = L := by
 obtain ⟨al, cl, rfl, hl⟩ := hl
 refine jm (n := 29) Tryz.func39 rfl rfl rfl ?_
 repeat (first | refine goB ?_ | (refine jO ?_; intro bNew))
 refine jy (σ := Nat) (fun k => k ≤ l.length ∧ (∀ x ∈ l.take k, 0 ≤ x ∧ x < ups) ∧ (l.take k).Nodup) (fun k => [(1, .int .i64 ups), (5, .pointer (some ⟨bNew, 0, none⟩)), (8, .slice al l.length cl), (9, .int .i64 (l.length : Nat)), (10, .int .i64 (k : Nat))]) (fun k => (bNew, .cells (zF (l.take k)) 48 (0, 0)) :: L) (fun k => l.length - k) 0 ⟨Nat.zero_le _, by simp, by simp⟩ ?_ (fun w h => h) ?_
 exact jr
 rintro k ⟨hk, hall, hnd⟩
 by_cases hlt : k < l.length
 · obtain ⟨x, hx⟩ : ∃ x, l[k]? = some x := ⟨_, List.getElem?_eq_getElem hlt⟩
   rcases hl with rfl | ⟨b1, o1, C1, t1, f1, rfl, m1, q1⟩
   · simp at hlt
   have c1 := q1 k x hx
   have tk : l.take (k + 1) = l.take k ++ [x] := by rw [List.take_add_one, hx]; rfl
   by_cases x0 : x < 0
   · rw [qS hx (Or.inl x0)]
     refine goB ?_
     refine jJ (L' := L) ?_ jn
     refine ji 4 _ rfl rfl ?_
     exact ⟨rfl, rfl⟩
   by_cases x9 : ups ≤ x
   · rw [qS hx (Or.inr (Or.inl x9))]
     refine goB ?_
     refine jJ (L' := L) ?_ jn
     refine ji 4 _ rfl rfl ?_
     exact ⟨rfl, rfl⟩
   have g3 := Z0 (l.take k) x jd jd
   cases hc : (l.take k).contains x with
   | true =>
     rw [hc] at g3
     have hmem : x ∈ l.take k := by simpa using hc
     rw [qS hx (Or.inr (Or.inr hmem))]
     refine goB ?_
     refine jJ (L' := L) ?_ jn
     refine ji 4 _ rfl rfl ?_
     exact ⟨rfl, rfl⟩
   | false =>
     rw [hc] at g3
     have hmem : x ∉ l.take k := by simpa using hc
     refine goB ?_
     refine jh (k + 1) ⟨hlt, ?_, ?_⟩ ?_ (fun w h => ?_) jd
     · rw [tk]
       intro y hy
       rcases List.mem_append.1 hy with hy | hy
       · exact hall y hy
       · rw [List.mem_singleton.1 hy]; omega
     · rw [tk]
       refine List.nodup_append.2 ⟨hnd, by simp, fun a ha b hb => ?_⟩
       rw [List.mem_singleton.1 hb]
       rintro rfl
       exact hmem ha
     exact jr
     · rw [tk]
       rw [Yk _ _ jd jd] at h
       exact h
 · have hkn : k = l.length := by omega
   subst hkn
   rw [List.take_length] at hall hnd
   have hy : Aq.distinct ups l = true := by
    unfold Aq.distinct
    rw [Bool.and_eq_true]
    exact ⟨List.all_eq_true.2 fun x hx => decide_eq_true (hall x hx), decide_eq_true hnd⟩
   rw [hy]
   refine goB ?_
   refine jJ (L' := L) ?_ jn
   refine ji 4 _ rfl rfl ?_
   exact ⟨rfl, rfl⟩
end
section
open Go.RowKit
open Hg (En Pl)
open Vd (RSet Vdt Vote Rec Quest Piece Ballot)
open Cn (Zo Cf)
section
variable {G : World} {P : Program} {n : Nat} {ρ : jG} {L : ja}
theorem qF {fn : Func} {Φ : Value → ja → Prop} (u a t s : Nat) {b k : Nat} {C : Array Value} {te : TypeId} {fr : Nat × Nat} {x y : Value} {L' : ja} (hr : fn.results = #[.tmp u, .cell a t, .tmp s]) (hv : ρ.lookup a = some (.pointer (some ⟨b, 0, none⟩))) (hx : ρ.lookup u = some x) (hy : ρ.lookup s = some y)
 (ht : j5 P t k = true) (hm : (b, Obj.cells C te fr) ∈ L) (hk : C.size = k) (hl : ∀ w, Heap G w L → Heap G w L') (h : Φ (.tuple #[x, .agg C, y]) L') : TQ G n ρ L .ret (bodyPost P fn (kE G Φ)) :=
 ⟨fun ac w he hw => ⟨he.defers, .tuple #[x, .agg C, y], by
   obtain ⟨h1, h0⟩ := Jn he hv ht (hw.get _ hm) hk
   have h2 : ac.tmps.getD u undef = x := he.reads (.tmp u) x hx
   have h3 : ac.tmps.getD s undef = y := he.reads (.tmp s) y hy
   rw [Array.getD_eq_getD_getElem?] at h1 h2 h3
   simp only [results, hr]
   simp
   simp [h1, asAddr, h0, h2, h3], _, L', rfl, h, hl w hw⟩⟩
end
variable {G : World} {L : ja}
theorem Zr (k : Nat) (lies : Int) (hl : 0 ≤ lies ∧ lies ≤ 1000) (h : 1 ≤ k ∧ k ≤ 3) : Spec Tryz.prog G 38 #[.int .u8 (k : Nat), .int .i64 lies] L fun u M => u = .tuple #[.iface (Zl k) (UH k (lies + 1)), .int .i64 (if k = 3 then 1 else lies + 1), .bool true] ∧ M = L := by
 have := Yq (G := G) (L := L) k lies hl
 rw [if_pos h] at this
 exact this
theorem aaV (k : Nat) (lies : Int) (hl : 0 ≤ lies ∧ lies ≤ 1000) (h : ¬ (1 ≤ k ∧ k ≤ 3)) : Spec Tryz.prog G 38 #[.int .u8 (k : Nat), .int .i64 lies] L fun u M => u = .tuple #[.nilIface, .int .i64 0, .bool false] ∧ M = L := by
 have := Yq (G := G) (L := L) k lies hl
 rw [if_neg h] at this
 exact this
theorem aaW (v0 v1 v2 : Value) (t : TypeId) (x : Value) (want ded now : Int) (bp bb : Option Addr) : Built Tryz.prog 102 [(0, .agg #[v0, v1, v2]), (1, .iface t x), (2, .int .i64 want), (3, .pointer bp), (4, .pointer bb), (5, .int .i64 ded), (6, .int .i64 now)] (.agg #[v0, v1, v2, .iface t x, .int .i64 want, .pointer bp, .pointer bb, .int .i64 ded, .int .i64 now, .bool false]) := ⟨fun w => by kernel_rfl⟩
def JN (pol tru : Nat) (u : Int) : Bool := decide (pol ≠ 3) || tru.testBit u.toNat
def acx (L : ja) (e : Int) (r : As × Dd) (u : Value) (M : ja) : Prop :=
 (e = 0 ∧ ∃ ap cs X N, u = .tuple #[.pointer (some ⟨ap, 0, none⟩), .agg cs.toArray, .int .i64 0] ∧ Ja N cs r.2 ∧ uP ap r.1 X ∧ M = X ++ (N ++ L)) ∨ (e ≠ 0 ∧ u = .tuple #[.pointer none, .agg (ke (.slice none 0 0) (.slice none 0 0)), .int .i64 e] ∧ M = L)
structure NewIn (q : Quest) (z : Zo) (l : List Int) (c : Cf) (now : Int) : Prop where
 may : Cn.mayP c = true
 name : Nm.may q.name = true
 pol : 1 ≤ z.pol ∧ z.pol ≤ 3
 now : 0 ≤ now ∧ now ≤ Hg.top
 dist : Aq.distinct c.ups l = true
theorem V8 {q : Quest} {z : Zo} {l : List Int} {c : Cf} {now : Int} (h : NewIn q z l c now) : Aq.newE q z l c now = if Aq.own z.pol z.tru l = [] then 6 else 0 := by
 have h1 := h.pol
 have h2 := h.now
 unfold Aq.newE
 rw [h.may, h.name, h.dist, decide_eq_false jd, decide_eq_false jd]
 rfl
theorem kX {q : Quest} {z : Zo} {l : List Int} {c : Cf} {now : Int} (h : ¬ NewIn q z l c now) : Aq.newE q z l c now = 1 := by
 unfold Aq.newE
 rw [if_pos]
 refine Decidable.byContradiction fun k => h ?_
 simp only [Bool.or_eq_true, Bool.not_eq_true', decide_eq_true_eq, not_or, Bool.not_eq_false] at k
 exact ⟨k.1.1.1.1, k.1.1.1.2, by omega, by omega, k.2⟩
theorem Ky {q : Quest} {z : Zo} {l : List Int} {c : Cf} {now : Int} (h : Aq.newE q z l c now = 0) : NewIn q z l c now ∧ Aq.own z.pol z.tru l ≠ [] := by
 by_cases hi : NewIn q z l c now
 · rw [V8 hi] at h
   refine ⟨hi, fun k => ?_⟩
   rw [if_pos k] at h
   cases h
 · rw [kX hi] at h; cases h
theorem yl {c : Cf} (h : Cn.mayP c = true) : (1 ≤ c.ups ∧ c.ups ≤ 9) ∧ (1 ≤ c.hdg ∧ c.hdg ≤ 1000) ∧ (1 ≤ c.wai ∧ c.wai ≤ 1000) ∧ (1 ≤ c.tri ∧ c.tri ≤ 4) ∧ (0 ≤ c.ded ∧ c.ded ≤ 100000) ∧ Cn.liesP c = c.ups / 2 := by
 have h1 := of_decide_eq_true (Bool.and_eq_true_iff.1 h).1
 obtain ⟨⟨a1, a2, _⟩, a3, a4, a5, ⟨a6, a7⟩, _⟩ := h1
 have h2 : 0 ≤ c.ups / 2 * c.hdg := Int.mul_nonneg jd jd
 have h3 : 0 ≤ c.tri * c.wai := Int.mul_nonneg jd jd
 exact ⟨⟨a1, a2⟩, a3, a4, a5, ⟨by omega, a7⟩, by unfold Cn.liesP; rw [if_pos h]⟩
theorem Kz {c : Cf} (h : Cn.mayP c = true) (pol : Nat) : 1 ≤ Aq.wantOf c pol ∧ Aq.wantOf c pol ≤ 9 := by
 obtain ⟨h1, _, _, _, _, h2⟩ := yl h
 unfold Aq.wantOf
 split <;> omega
theorem K8 {ups : Int} {l : List Int} (h : Aq.distinct ups l = true) : (∀ x ∈ l, 0 ≤ x ∧ x < ups) ∧ l.Nodup := by
 unfold Aq.distinct at h
 rw [Bool.and_eq_true, List.all_eq_true] at h
 exact ⟨fun x hx => of_decide_eq_true (h.1 x hx), of_decide_eq_true h.2⟩
theorem V9 {pol tru : Nat} {ups : Int} {l : List Int} (h : Aq.distinct ups l = true) (hu : ups ≤ 9) : (∀ x ∈ Aq.own pol tru l, 0 ≤ x ∧ x ≤ 8) ∧ (Aq.own pol tru l).Nodup ∧ (Aq.own pol tru l).length ≤ 9 := by
 obtain ⟨h1, h2⟩ := K8 h
 have h3 : ∀ x ∈ Aq.own pol tru l, 0 ≤ x ∧ x ≤ 8 := fun x hx => by
  have := h1 x ((List.mem_filter.1 hx).1)
  omega
 have h4 : (Aq.own pol tru l).Nodup := h2.sublist List.filter_sublist
 exact ⟨h3, h4, zf 9 _ h4 fun x hx => by have := h3 x hx; omega⟩
theorem K9 : ∀ (k : Nat) (p : Pl), (Hg.nexts k p).1.made = p.made
 | 0, p => rfl
 | k + 1, p => K9 k (Hg.next p)
theorem ym {q : Quest} {z : Zo} {l : List Int} {c : Cf} {now : Int} (h : NewIn q z l c now) (hq : QOk q) : AWell (Aq.new0 q z l c now) := by
 obtain ⟨n1, n2, n3, n4, n5, n6⟩ := yl h.may
 obtain ⟨o1, o2, o3⟩ := V9 (pol := z.pol) (tru := z.tru) h.dist n1.2
 have hw := Kz h.may z.pol
 have hp := h.pol
 have hn := h.now
 have htop : Hg.top = 1099511627776 := rfl
 have hg := VZ (Aq.own z.pol z.tru l) (Aq.wantOf c z.pol) c.hdg c.wai c.tri now o3 hw n2 n3 n4 jd
 refine ⟨⟨hg.begin', (Fr.mk _ _ _ _ _ _).begin', V0 _ rfl, ?_, hw, ?_, hn, ?_, h.name, BoxOk.nil⟩, hq, by simp [Aq.new0, Aq.votes, Vd.votesB]⟩
 · show (Hg.begin' _).1.made = true
   unfold Hg.begin'
   split
   · rfl
   · exact (K9 _ _).trans rfl
 · show (z.pol : Int) = 1 ∨ (z.pol : Int) = 2 ∨ ((z.pol : Int) = 3 ∧ Aq.wantOf c z.pol = 1)
   rcases (by omega : z.pol = 1 ∨ z.pol = 2 ∨ z.pol = 3) with e | e | e
   · exact Or.inl jd
   · exact Or.inr (Or.inl jd)
   · exact Or.inr (Or.inr ⟨by omega, by unfold Aq.wantOf; rw [if_pos e]⟩)
 · show 0 ≤ now + c.ded ∧ now + c.ded ≤ Hg.top + 100000
   omega
theorem U9 {q : Quest} {z : Zo} {l : List Int} {c : Cf} {now : Int} (h : NewIn q z l c now) (hq : QOk q) : AWell (Aq.new1 q z l c now).1 := (ym h hq).look
theorem acy (q : Quest) (z : Zo) (vl vz : Value) (l : List Int) (c : Cf) (now : Int) (hq1 : q.name.length ≤ 1000000) (hq2 : 0 ≤ q.kind ∧ q.kind ≤ 65535) (hq3 : 0 ≤ q.cls ∧ q.cls ≤ 65535) (hz : z.pol ≤ 255 ∧ z.tru ≤ 65535) (hl : IRow L vl l) (hl2 : l.length ≤ 1000) (hc : CfL L c vz) (hnow : -9223372036854775808 ≤ now ∧ now ≤ 9223372036854775807) :
 Spec Tryz.prog G 10 #[.agg (kq q), .agg #[.string (bs z.name), .int .u8 (z.pol : Nat), .int .u16 (z.tru : Nat)], vl, .agg (jo c vz).toArray, .int .i64 now] L (acx L (Aq.newE q z l c now) (Aq.new1 q z l c now)) := by
 obtain ⟨al, cl, rfl, hlr⟩ := id hl
 have htop : Hg.top = 1099511627776 := rfl
 have g0 : (jo (c) (vz)).toArray[0 + 0]? = some (.int .i64 (c).ups) := rfl
 have g1 : (jo (c) (vz)).toArray[0 + 1]? = some (.int .i64 (c).ded) := rfl
 have g2 : (jo (c) (vz)).toArray[0 + 2]? = some (.int .i64 (c).hdg) := rfl
 have g3 : (jo (c) (vz)).toArray[0 + 3]? = some (.int .i64 (c).wai) := rfl
 have g4 : (jo (c) (vz)).toArray[0 + 4]? = some (.int .i64 (c).tri) := rfl
 have g5 : (jo (c) (vz)).toArray[0 + 5]? = some (.int .i64 (c).res) := rfl
 have g6 : (jo (c) (vz)).toArray[0 + 6]? = some (.int .i64 (c).lim) := rfl
 have g7 : (jo (c) (vz)).toArray[0 + 7]? = some (.int .i64 (c).cac) := rfl
 have g8 : (jo (c) (vz)).toArray[0 + 8]? = some (.int .i64 (c).fli) := rfl
 have g9 : (jo (c) (vz)).toArray[0 + 9]? = some (.int .i64 (c).wtr) := rfl
 have g10 : (jo (c) (vz)).toArray[0 + 10]? = some (.int .i64 (c).ttl) := rfl
 have g11 : (jo (c) (vz)).toArray[0 + 11]? = some (.int .i64 (c).siz) := rfl
 have g12 : (jo (c) (vz)).toArray[0 + 12]? = some (vz) := rfl
 have k0 : (kq q)[0 + 0]? = some (.string (bs q.name)) := rfl
 refine jm (n := 132) Tryz.func10 rfl rfl rfl ?_
 repeat (first | refine goB ?_ | (refine jO ?_; intro bNew) | (refine kl ?_; intro bBox))
 obtain ⟨b11, hb11⟩ : ∃ b, bNew = b := ⟨_, rfl⟩
 rw [hb11]
 clear hb11
 obtain ⟨bc, hbc⟩ : ∃ b, bBox = b := ⟨_, rfl⟩
 rw [hbc]
 clear hbc
 rename_i bq bz
 refine jU (jc je rfl (Z7 c vz (hc.mono jf))) rfl ?_
 cases hmay : Cn.mayP c with
 | false =>
   have he : Aq.newE q z l c now = 1 := kX fun k => by have := k.may; rw [hmay] at this; cases this
   rw [he, zu hmay]
   repeat (first | refine goB ?_ | refine jB (jl rfl (yy )) rfl ?_)
   refine jJ (L' := (b11, Obj.cells #[.slice none 0 0, .slice none 0 0, .bool false, .bool false, .int .u8 0, .slice none 0 0, .slice none 0 0, .int .u32 0, .slice none 0 0, .slice none 0 0] 43 (0, 0)) :: L) ?_ jn
   refine qF 10 11 43 12 rfl rfl rfl rfl stO (List.mem_cons_self ..) rfl (fun w h => h.tail) ?_
   exact Or.inr ⟨by decide, rfl, rfl⟩
 | true =>
 rw [zJ hmay]
 obtain ⟨n1, n2, n3, n4, n5, n6⟩ := yl hmay
 cases hname : Nm.may q.name with
 | false =>
   have he : Aq.newE q z l c now = 1 := kX fun k => by have := k.name; rw [hname] at this; cases this
   rw [he]
   repeat (first | refine goB ?_ | (refine' kf (jc je rfl (KP _ ?_)) rfl ?_; (· omega)) | refine jB (jl rfl (yy )) rfl ?_)
   refine jJ (L' := (b11, Obj.cells #[.slice none 0 0, .slice none 0 0, .bool false, .bool false, .int .u8 0, .slice none 0 0, .slice none 0 0, .int .u32 0, .slice none 0 0, .slice none 0 0] 43 (0, 0)) :: L) ?_ jn
   refine qF 10 11 43 12 rfl rfl rfl rfl stO (List.mem_cons_self ..) rfl (fun w h => h.tail) ?_
   exact Or.inr ⟨by decide, rfl, rfl⟩
 | true =>
 have hK : ∀ y ∈ [(bc, Obj.cells (jo c vz).toArray 30 (0, 0)), (bz, Obj.cells #[.string (bs z.name), .int .u8 (z.pol : Nat), .int .u16 (z.tru : Nat)] 26 (0, 0))], y ∈ (b11, Obj.cells #[.slice none 0 0, .slice none 0 0, .bool false, .bool false, .int .u8 0, .slice none 0 0, .slice none 0 0, .int .u32 0, .slice none 0 0, .slice none 0 0] 43 (0, 0)) :: (bc, Obj.cells (jo c vz).toArray 30 (0, 0)) :: (bz, Obj.cells #[.string (bs z.name), .int .u8 (z.pol : Nat), .int .u16 (z.tru : Nat)] 26 (0, 0)) :: (bq, Obj.cells (kq q) 24 (0, 0)) :: L := fun y hz => by simp only [List.mem_cons, List.not_mem_nil, or_false] at hz; rcases hz with rfl | rfl <;> simp
 by_cases hpol : 1 ≤ z.pol ∧ z.pol ≤ 3
 rotate_left
 · have he : Aq.newE q z l c now = 1 := kX fun k => hpol k.pol
   rw [he]
   have hch := aaV (G := G) (L := (b11, Obj.cells #[.slice none 0 0, .slice none 0 0, .bool false, .bool false, .int .u8 0, .slice none 0 0, .slice none 0 0, .int .u32 0, .slice none 0 0, .slice none 0 0] 43 (0, 0)) :: (bc, Obj.cells (jo c vz).toArray 30 (0, 0)) :: (bz, Obj.cells #[.string (bs z.name), .int .u8 (z.pol : Nat), .int .u16 (z.tru : Nat)] 26 (0, 0)) :: (bq, Obj.cells (kq q) 24 (0, 0)) :: L) z.pol (Cn.liesP c) jd hpol
   repeat (first | refine goB ?_ | (refine' kf (jc je rfl (KP _ ?_)) rfl ?_; (· omega)))
   refine jq jb ([(bc, Obj.cells (jo c vz).toArray 30 (0, 0)), (bz, Obj.cells #[.string (bs z.name), .int .u8 (z.pol : Nat), .int .u16 (z.tru : Nat)] 26 (0, 0))]) [] ?_
   refine tkQ 0 ?_
   refine tkQ 1 ?_
   refine tkQ 2 ?_
   refine jF 3 je rfl rfl rfl rfl (jc je rfl (Z8 c vz (hc.mono jf))) ?_; rintro _ _ ⟨rfl, rfl⟩; refine ⟨Or.inr (fun z hz => by simp only [List.mem_cons, List.not_mem_nil, or_false] at hz; rcases hz with rfl | rfl <;> simp), ?_⟩
   refine jF 4 je rfl rfl rfl rfl (jc je rfl hch) ?_; rintro _ _ ⟨rfl, rfl⟩; refine ⟨Or.inr (fun z hz => by simp only [List.mem_cons, List.not_mem_nil, or_false] at hz; rcases hz with rfl | rfl <;> simp), ?_⟩
   refine tkQ 5 ?_
   refine tkQ 6 ?_
   refine tkQ 7 ?_
   refine tkQ 8 ?_
   refine tkQ 9 ?_
   refine tkQ 10 ?_
   refine tkQ 11 ?_
   refine tdQ ?_
   repeat (first | refine goB ?_ | refine jB (jl rfl (yy )) rfl ?_)
   refine jJ (L' := (b11, Obj.cells #[.slice none 0 0, .slice none 0 0, .bool false, .bool false, .int .u8 0, .slice none 0 0, .slice none 0 0, .int .u32 0, .slice none 0 0, .slice none 0 0] 43 (0, 0)) :: L) ?_ jn
   refine qF 10 11 43 12 rfl rfl rfl rfl stO (List.mem_cons_self ..) rfl (fun w h => h.tail) ?_
   exact Or.inr ⟨by decide, rfl, rfl⟩
 have hch := Zr (G := G) (L := (b11, Obj.cells #[.slice none 0 0, .slice none 0 0, .bool false, .bool false, .int .u8 0, .slice none 0 0, .slice none 0 0, .int .u32 0, .slice none 0 0, .slice none 0 0] 43 (0, 0)) :: (bc, Obj.cells (jo c vz).toArray 30 (0, 0)) :: (bz, Obj.cells #[.string (bs z.name), .int .u8 (z.pol : Nat), .int .u16 (z.tru : Nat)] 26 (0, 0)) :: (bq, Obj.cells (kq q) 24 (0, 0)) :: L) z.pol (Cn.liesP c) jd hpol
 have hwant : (if z.pol = 3 then 1 else Cn.liesP c + 1) = Aq.wantOf c z.pol := rfl
 have hw := Kz hmay z.pol
 rw [hwant] at hch
 repeat (first | refine goB ?_ | (refine' kf (jc je rfl (KP _ ?_)) rfl ?_; (· omega)))
 refine jq jb ([(bc, Obj.cells (jo c vz).toArray 30 (0, 0)), (bz, Obj.cells #[.string (bs z.name), .int .u8 (z.pol : Nat), .int .u16 (z.tru : Nat)] 26 (0, 0))]) [] ?_
 refine tkQ 0 ?_
 refine tkQ 1 ?_
 refine tkQ 2 ?_
 refine jF 3 je rfl rfl rfl rfl (jc je rfl (Z8 c vz (hc.mono jf))) ?_; rintro _ _ ⟨rfl, rfl⟩; refine ⟨Or.inr (fun z hz => by simp only [List.mem_cons, List.not_mem_nil, or_false] at hz; rcases hz with rfl | rfl <;> simp), ?_⟩
 refine jF 4 je rfl rfl rfl rfl (jc je rfl hch) ?_; rintro _ _ ⟨rfl, rfl⟩; refine ⟨Or.inr (fun z hz => by simp only [List.mem_cons, List.not_mem_nil, or_false] at hz; rcases hz with rfl | rfl <;> simp), ?_⟩
 refine tkQ 5 ?_
 refine tkQ 6 ?_
 refine tkQ 7 ?_
 refine tkQ 8 ?_
 refine tkQ 9 ?_
 refine tkQ 10 ?_
 refine tkQ 11 ?_
 refine tdQ ?_
 refine goB ?_
 refine kf (jc je rfl (Zq _ l c.ups (hl.mono jf) hl2 n1)) rfl ?_
 cases hd : Aq.distinct c.ups l with
 | false =>
   have he : Aq.newE q z l c now = 1 := kX fun k => by have := k.dist; rw [hd] at this; cases this
   rw [he]
   repeat (first | refine goB ?_ | refine jB (jl rfl (yy )) rfl ?_)
   refine jJ (L' := (b11, Obj.cells #[.slice none 0 0, .slice none 0 0, .bool false, .bool false, .int .u8 0, .slice none 0 0, .slice none 0 0, .int .u32 0, .slice none 0 0, .slice none 0 0] 43 (0, 0)) :: L) ?_ jn
   refine qF 10 11 43 12 rfl rfl rfl rfl stO (List.mem_cons_self ..) rfl (fun w h => h.tail) ?_
   exact Or.inr ⟨by decide, rfl, rfl⟩
 | true =>
 by_cases t0 : now < 0
 · have he : Aq.newE q z l c now = 1 := kX fun k => by have := k.now; omega
   rw [he]
   repeat (first | refine goB ?_ | refine jB (jl rfl (yy )) rfl ?_)
   refine jJ (L' := (b11, Obj.cells #[.slice none 0 0, .slice none 0 0, .bool false, .bool false, .int .u8 0, .slice none 0 0, .slice none 0 0, .int .u32 0, .slice none 0 0, .slice none 0 0] 43 (0, 0)) :: L) ?_ jn
   refine qF 10 11 43 12 rfl rfl rfl rfl stO (List.mem_cons_self ..) rfl (fun w h => h.tail) ?_
   exact Or.inr ⟨by decide, rfl, rfl⟩
 by_cases t1 : 1099511627776 < now
 · have he : Aq.newE q z l c now = 1 := kX fun k => by have := k.now; omega
   rw [he]
   repeat (first | refine goB ?_ | refine jB (jl rfl (yy )) rfl ?_)
   refine jJ (L' := (b11, Obj.cells #[.slice none 0 0, .slice none 0 0, .bool false, .bool false, .int .u8 0, .slice none 0 0, .slice none 0 0, .int .u32 0, .slice none 0 0, .slice none 0 0] 43 (0, 0)) :: L) ?_ jn
   refine qF 10 11 43 12 rfl rfl rfl rfl stO (List.mem_cons_self ..) rfl (fun w h => h.tail) ?_
   exact Or.inr ⟨by decide, rfl, rfl⟩
 have hin : NewIn q z l c now := ⟨hmay, hname, hpol, by omega, hd⟩
 rw [V8 hin]
 refine goB ?_
 refine jy (σ := Nat × Option Addr × Nat × ja) (fun x => x.1 ≤ l.length ∧ Row 3 1 (.slice x.2.1 (Aq.own z.pol z.tru (l.take x.1)).length x.2.2.1) (Aq.own z.pol z.tru (l.take x.1)).length (kC (Aq.own z.pol z.tru (l.take x.1))) x.2.2.2)
  (fun x => [(4, .int .i64 now), (5, .pointer (some ⟨bq, 0, none⟩)), (6, .pointer (some ⟨bz, 0, none⟩)), (8, .pointer (some ⟨bc, 0, none⟩)), (11, .pointer (some ⟨b11, 0, none⟩)), (13, .iface (Zl z.pol) (UH z.pol (Cn.liesP c + 1))), (14, .int .i64 (Aq.wantOf c z.pol)), (16, .slice x.2.1 (Aq.own z.pol z.tru (l.take x.1)).length x.2.2.1), (61, .slice al l.length cl), (62, .int .i64 (l.length : Nat)), (63, .int .i64 (x.1 : Nat))])
  (fun x => x.2.2.2 ++ ((b11, Obj.cells #[.slice none 0 0, .slice none 0 0, .bool false, .bool false, .int .u8 0, .slice none 0 0, .slice none 0 0, .int .u32 0, .slice none 0 0, .slice none 0 0] 43 (0, 0)) :: (bc, Obj.cells (jo c vz).toArray 30 (0, 0)) :: (bz, Obj.cells #[.string (bs z.name), .int .u8 (z.pol : Nat), .int .u16 (z.tru : Nat)] 26 (0, 0)) :: (bq, Obj.cells (kq q) 24 (0, 0)) :: L)) (fun x => l.length - x.1) (0, none, 0, []) ⟨Nat.zero_le _, Row.nil _ _⟩ ?_ (fun w h => h) ?_
 exact jr
 rintro ⟨k, y, yc, B⟩ ⟨hk, hR⟩
 dsimp only at hk hR ⊢
 have hlen : (Aq.own z.pol z.tru (l.take k)).length ≤ k := Nat.le_trans (List.length_filter_le _ _) (by simp; omega)
 by_cases hlt : k < l.length
 · obtain ⟨x, hx⟩ : ∃ x, l[k]? = some x := ⟨_, List.getElem?_eq_getElem hlt⟩
   obtain ⟨xr, _⟩ := K8 hd
   have hx1 := xr x (List.mem_of_getElem? hx)
   obtain ⟨n, rfl⟩ : ∃ n : Nat, x = n := ⟨x.toNat, by omega⟩
   rcases hlr with rfl | ⟨b1, o1, C1, t1', f1, rfl, m1, q1⟩
   · simp at hlt
   have c1 := q1 k _ hx
   have hto : Aq.own z.pol z.tru (l.take (k + 1)) = Aq.own z.pol z.tru (l.take k) ++ (if JN z.pol z.tru n then [(n : Int)] else []) := by
    unfold Aq.own
    rw [List.take_add_one, hx, List.filter_append]
    congr 1
    simp only [Option.toList_some, List.filter_cons, List.filter_nil]
    rfl
   have hshr := yk (P := Tryz.prog) (t := 22) (k := .i64) (a := z.tru) (u := n) jd
   have hand := aaU (P := Tryz.prog) (t := 22) (a := z.tru / 2 ^ n) (Nat.lt_of_le_of_lt (Nat.div_le_self _ _) jd)
   by_cases hp3 : z.pol = 3
   · refine goB ?_
     refine jN (qJ rfl rfl hshr) rfl ?_
     repeat (refine ql rfl rfl ?_ ?_; (· exact nF (by omega)))
     refine jN (qJ rfl rfl hand) rfl ?_
     by_cases hbit : z.tru / 2 ^ n % 2 = 1
     · have hob : JN z.pol z.tru n = true := by unfold JN; rw [Int.toNat_natCast, V7, decide_eq_true hbit, Bool.or_true]
       rw [hob] at hto
       rw [if_pos rfl] at hto
       repeat (first | refine goB ?_ | (refine jS ?_; intro bLit))
       refine qU etO rfl rfl hR rfl (by unfold maxLen; omega) jd rfl ?_
       intro v4 B4 hR4
       obtain ⟨a4, c4, rfl⟩ := hR4.slice
       have k4 : (Aq.own z.pol z.tru (l.take k)).length + 1 = (Aq.own z.pol z.tru (l.take (k + 1))).length := by rw [hto]; simp
       have k5 : kC (Aq.own z.pol z.tru (l.take k)) ++ [Value.int .i64 (n : Int)] = kC (Aq.own z.pol z.tru (l.take (k + 1))) := by rw [hto]; simp [kC]
       rw [k4, k5] at hR4
       rw [k4]
       refine goB ?_
       refine jh (k + 1, a4, c4, B4) ⟨hlt, hR4⟩ ?_ (fun w h => h) (by dsimp only; omega)
       exact jr
     · have hob : JN z.pol z.tru n = false := by unfold JN; rw [Int.toNat_natCast, V7, decide_eq_false hbit, decide_eq_false (by simpa using hp3)]; rfl
       rw [hob] at hto
       rw [if_neg (by decide), List.append_nil] at hto
       refine goB ?_
       refine jh (k + 1, y, yc, B) ⟨hlt, by dsimp only; rw [hto]; exact hR⟩ ?_ (fun w h => h) (by dsimp only; omega)
       rw [hto]
       exact jr
   · have hob : JN z.pol z.tru n = true := by unfold JN; rw [decide_eq_true hp3]; rfl
     rw [hob] at hto
     rw [if_pos rfl] at hto
     repeat (first | refine goB ?_ | (refine jS ?_; intro bLit))
     refine qU etO rfl rfl hR rfl (by unfold maxLen; omega) jd rfl ?_
     intro v4 B4 hR4
     obtain ⟨a4, c4, rfl⟩ := hR4.slice
     have k4 : (Aq.own z.pol z.tru (l.take k)).length + 1 = (Aq.own z.pol z.tru (l.take (k + 1))).length := by rw [hto]; simp
     have k5 : kC (Aq.own z.pol z.tru (l.take k)) ++ [Value.int .i64 (n : Int)] = kC (Aq.own z.pol z.tru (l.take (k + 1))) := by rw [hto]; simp [kC]
     rw [k4, k5] at hR4
     rw [k4]
     refine goB ?_
     refine jh (k + 1, a4, c4, B4) ⟨hlt, hR4⟩ ?_ (fun w h => h) (by dsimp only; omega)
     exact jr
 · have htk : l.take k = l := List.take_of_length_le jd
   rw [htk] at hR hlen ⊢
   obtain ⟨o1, o2, o3⟩ := V9 (pol := z.pol) (tru := z.tru) hd n1.2
   obtain ⟨ow, how⟩ : ∃ w, w = Aq.own z.pol z.tru l := ⟨_, rfl⟩
   rw [← how] at hR hlen o1 o2 o3 ⊢
   by_cases h0 : ow = []
   · subst h0
     rw [if_pos rfl]
     refine UP (L' := (b11, Obj.cells #[.slice none 0 0, .slice none 0 0, .bool false, .bool false, .int .u8 0, .slice none 0 0, .slice none 0 0, .int .u32 0, .slice none 0 0, .slice none 0 0] 43 (0, 0)) :: L) ?_ jn
     repeat (first | refine goB ?_ | refine jB (jl rfl (yy )) rfl ?_)
     refine jJ (L' := (b11, Obj.cells #[.slice none 0 0, .slice none 0 0, .bool false, .bool false, .int .u8 0, .slice none 0 0, .slice none 0 0, .int .u32 0, .slice none 0 0, .slice none 0 0] 43 (0, 0)) :: L) ?_ jn
     refine qF 10 11 43 12 rfl rfl rfl rfl stO (List.mem_cons_self ..) rfl (fun w h => h.tail) ?_
     exact Or.inr ⟨by decide, rfl, rfl⟩
   · rw [if_neg h0]
     have h0l : 0 < ow.length := List.length_pos_iff.2 h0
     have hnew := ah0 (G := G) (L := B ++ ((b11, Obj.cells #[.slice none 0 0, .slice none 0 0, .bool false, .bool false, .int .u8 0, .slice none 0 0, .slice none 0 0, .int .u32 0, .slice none 0 0, .slice none 0 0] 43 (0, 0)) :: (bc, Obj.cells (jo c vz).toArray 30 (0, 0)) :: (bz, Obj.cells #[.string (bs z.name), .int .u8 (z.pol : Nat), .int .u16 (z.tru : Nat)] 26 (0, 0)) :: (bq, Obj.cells (kq q) 24 (0, 0)) :: L)) _ ow (Aq.wantOf c z.pol) c.hdg c.wai c.tri now (hR.irow jf) o3 o1 o2 hw n2 n3 n4 jd
     refine goB ?_
     refine jw (jc je rfl hnew) rfl ?_
     rintro _ _ ⟨bp, M1, rfl, hp1, rfl⟩
     refine goB ?_
     refine jw (jc je rfl (ae6 (Aq.wantOf c z.pol))) rfl ?_
     intro u0 M0 hu0
     rcases hu0 with ⟨_, _, bb, X0, rfl, hX0, rfl⟩ | ⟨hbad, _⟩
     rotate_left
     · omega
     refine goB ?_
     have hpx : UH z.pol (Cn.liesP c + 1) = UH z.pol (Aq.wantOf c z.pol) := by
      unfold UH Aq.wantOf
      by_cases e : z.pol = 3
      · rw [if_neg jd, if_neg jd]
      · rw [if_neg e]
     rw [hpx]
     obtain ⟨a0, ha0⟩ : ∃ w, w = Aq.new0 q z l c now := ⟨_, rfl⟩
     obtain ⟨pm, hpm⟩ : ∃ w, w = Hg.mk ow (Aq.wantOf c z.pol) c.hdg c.wai c.tri now := ⟨_, rfl⟩
     rw [← hpm] at hp1
     have hqok : QOk q := ⟨hq1, hq2, hq3, hname⟩
     have hw0 : AWell a0 := by rw [ha0]; exact ym hin hqok
     have hp0 : a0.p = (Hg.begin' pm).1 := by rw [ha0, hpm, how]; rfl
     have hn1 : Aq.new1 q z l c now = Aq.look a0 (dd (Hg.begin' pm).2 []) := by rw [ha0, hpm, how]; rfl
     have ho0 : a0.over = false := by rw [ha0]; rfl
     have hb0 : PBox bb a0.want a0.l X0 := by rw [ha0]; exact hX0
     refine jB (jl rfl (aaW _ _ _ _ _ _ _ _ _ _)) rfl ?_
     refine j0 (kF rfl) rfl ?_
     intro ap
     refine goB ?_
     refine qI (L' := (ap, Obj.cells (jt a0 bp bb) 102 (0, 0)) :: (X0 ++ (M1 ++ (B ++ ((b11, Obj.cells #[.slice none 0 0, .slice none 0 0, .bool false, .bool false, .int .u8 0, .slice none 0 0, .slice none 0 0, .int .u32 0, .slice none 0 0, .slice none 0 0] 43 (0, 0)) :: (bc, Obj.cells (jo c vz).toArray 30 (0, 0)) :: (bz, Obj.cells #[.string (bs z.name), .int .u8 (z.pol : Nat), .int .u16 (z.tru : Nat)] 26 (0, 0)) :: (bq, Obj.cells (kq q) 24 (0, 0)) :: L))))) (fun w h => by rw [ha0]; exact h) ?_
     refine jH (L' := M1 ++ ((ap, Obj.cells (jt a0 bp bb) 102 (0, 0)) :: (X0 ++ (B ++ ((b11, Obj.cells #[.slice none 0 0, .slice none 0 0, .bool false, .bool false, .int .u8 0, .slice none 0 0, .slice none 0 0, .int .u32 0, .slice none 0 0, .slice none 0 0] 43 (0, 0)) :: (bc, Obj.cells (jo c vz).toArray 30 (0, 0)) :: (bz, Obj.cells #[.string (bs z.name), .int .u8 (z.pol : Nat), .int .u16 (z.tru : Nat)] 26 (0, 0)) :: (bq, Obj.cells (kq q) 24 (0, 0)) :: L))))) ?_ jn
     refine jw (jc je rfl (adZ hp1 (by rw [hpm]; rfl) (by rw [hpm]; rfl) (by rw [hpm]; rfl))) rfl ?_
     rintro _ _ ⟨sa, sc, SB, M2, rfl, hRs, hp2, rfl⟩
     rw [← hp0] at hp2
     have hsl : (Hg.begin' pm).2.length ≤ 100 := by
      unfold Hg.begin'
      split
      · simp
      · rw [(qR _ _).2.2.2]
        have : pm.list.length ≤ 9 := by rw [hpm]; simpa [Hg.mk] using o3
        exact Nat.le_trans (Nat.min_le_right _ _) (Nat.le_trans (Nat.sub_le _ _) (Nat.le_trans this (by decide)))
     repeat (first | refine goB ?_ | (refine jO ?_; intro bNew) | refine jB (jl rfl (Qt _ _ _)) rfl ?_)
     obtain ⟨b23, hb23⟩ : ∃ b, bNew = b := ⟨_, rfl⟩
     rw [hb23]
     clear hb23
     refine qI (L' := (b23, Obj.cells (ke (.slice sa (Hg.begin' pm).2.length sc) (.slice none 0 0)) 43 (0, 0)) :: (M2 ++ (SB ++ ((ap, Obj.cells (jt a0 bp bb) 102 (0, 0)) :: (X0 ++ (B ++ ((b11, Obj.cells #[.slice none 0 0, .slice none 0 0, .bool false, .bool false, .int .u8 0, .slice none 0 0, .slice none 0 0, .int .u32 0, .slice none 0 0, .slice none 0 0] 43 (0, 0)) :: (bc, Obj.cells (jo c vz).toArray 30 (0, 0)) :: (bz, Obj.cells #[.string (bs z.name), .int .u8 (z.pol : Nat), .int .u16 (z.tru : Nat)] 26 (0, 0)) :: (bq, Obj.cells (kq q) 24 (0, 0)) :: L))))))) (fun w h => h) ?_
     refine jH (L' := (ap, Obj.cells (jt a0 bp bb) 102 (0, 0)) :: (b23, Obj.cells (ke (.slice sa (Hg.begin' pm).2.length sc) (.slice none 0 0)) 43 (0, 0)) :: (M2 ++ (X0 ++ (SB ++ (B ++ ((b11, Obj.cells #[.slice none 0 0, .slice none 0 0, .bool false, .bool false, .int .u8 0, .slice none 0 0, .slice none 0 0, .int .u32 0, .slice none 0 0, .slice none 0 0] 43 (0, 0)) :: (bc, Obj.cells (jo c vz).toArray 30 (0, 0)) :: (bz, Obj.cells #[.string (bs z.name), .int .u8 (z.pol : Nat), .int .u16 (z.tru : Nat)] 26 (0, 0)) :: (bq, Obj.cells (kq q) 24 (0, 0)) :: L)))))) ?_ jn
     refine jw (jc je rfl (yM (Ng := []) (g := []) hp2 hb0 hw0 ho0 hsl hRs jI (by simp))) rfl ?_
     rintro _ _ ⟨cs, M4, N, hp4, hdd, rfl⟩
     rw [hn1]
     obtain ⟨r, hr⟩ : ∃ r, r = Aq.look a0 (dd (Hg.begin' pm).2 []) := ⟨_, rfl⟩
     have hkk := ko (d := dd (Hg.begin' pm).2 []) hw0.ok
     rw [← hr] at hp4 hdd hkk ⊢
     have hb5 : PBox bb r.1.want r.1.l X0 := by rw [hkk.2.2.1, hkk.2.2.2.2.1]; exact hb0
     have hd' := hdd
     obtain ⟨d1, d2, d3, d4, d5, d6, d7, d8, d9, d10, d11, d12, rfl, _⟩ := hd'
     have hKd : ∀ y ∈ [(b23, Obj.cells ([.slice d1 r.2.sends.length d2, .slice d3 r.2.gone.length d4, .bool r.2.over, .bool r.2.done, .int .u8 r.2.vd.code, .slice d5 r.2.vd.sets.length d6, .slice d7 r.2.vd.soa.length d8, .int .u32 r.2.time, .slice d9 r.2.agree.length d10, .slice d11 r.2.dissent.length d12] : List Value).toArray 43 (0, 0))], y ∈ (ap, Obj.cells (jt r.1 bp bb) 102 (0, 0)) :: (b23, Obj.cells ([.slice d1 r.2.sends.length d2, .slice d3 r.2.gone.length d4, .bool r.2.over, .bool r.2.done, .int .u8 r.2.vd.code, .slice d5 r.2.vd.sets.length d6, .slice d7 r.2.vd.soa.length d8, .int .u32 r.2.time, .slice d9 r.2.agree.length d10, .slice d11 r.2.dissent.length d12] : List Value).toArray 43 (0, 0)) :: (M4 ++ (X0 ++ (N ++ (B ++ ((b11, Obj.cells #[.slice none 0 0, .slice none 0 0, .bool false, .bool false, .int .u8 0, .slice none 0 0, .slice none 0 0, .int .u32 0, .slice none 0 0, .slice none 0 0] 43 (0, 0)) :: (bc, Obj.cells (jo c vz).toArray 30 (0, 0)) :: (bz, Obj.cells #[.string (bs z.name), .int .u8 (z.pol : Nat), .int .u16 (z.tru : Nat)] 26 (0, 0)) :: (bq, Obj.cells (kq q) 24 (0, 0)) :: L))))) := fun y hy => by rw [List.mem_singleton.1 hy]; simp
     refine goB ?_
     refine jq jb ([(b23, Obj.cells ([.slice d1 r.2.sends.length d2, .slice d3 r.2.gone.length d4, .bool r.2.over, .bool r.2.done, .int .u8 r.2.vd.code, .slice d5 r.2.vd.sets.length d6, .slice d7 r.2.vd.soa.length d8, .int .u32 r.2.time, .slice d9 r.2.agree.length d10, .slice d11 r.2.dissent.length d12] : List Value).toArray 43 (0, 0))]) [] ?_
     refine tkQ 0 ?_
     refine tkQ 1 ?_
     refine tkQ 2 ?_
     refine j6 (L' := (b11, Obj.cells #[.slice none 0 0, .slice none 0 0, .bool false, .bool false, .int .u8 0, .slice none 0 0, .slice none 0 0, .int .u32 0, .slice none 0 0, .slice none 0 0] 43 (0, 0)) :: (b23, Obj.cells ([.slice d1 r.2.sends.length d2, .slice d3 r.2.gone.length d4, .bool r.2.over, .bool r.2.done, .int .u8 r.2.vd.code, .slice d5 r.2.vd.sets.length d6, .slice d7 r.2.vd.soa.length d8, .int .u32 r.2.time, .slice d9 r.2.agree.length d10, .slice d11 r.2.dissent.length d12] : List Value).toArray 43 (0, 0)) :: (ap, Obj.cells (jt r.1 bp bb) 102 (0, 0)) :: (M4 ++ (X0 ++ (N ++ (B ++ ((bc, Obj.cells (jo c vz).toArray 30 (0, 0)) :: (bz, Obj.cells #[.string (bs z.name), .int .u8 (z.pol : Nat), .int .u16 (z.tru : Nat)] 26 (0, 0)) :: (bq, Obj.cells (kq q) 24 (0, 0)) :: L)))))) ?_ jn; refine jZ 3 je rfl rfl rfl (yj rfl rfl stO rfl rfl rfl) ?_; rintro _ _ ⟨_, rfl⟩; refine ⟨Or.inr (fun y hy => by rw [List.mem_singleton.1 hy]; simp), ?_⟩
     refine tkQ 4 ?_
     refine tdQ ?_
     refine goB ?_
     refine qF 10 11 43 12 rfl rfl rfl rfl stO (List.mem_cons_self ..) rfl (L' := ((ap, Obj.cells (jt r.1 bp bb) 102 (0, 0)) :: (M4 ++ X0)) ++ (N ++ L)) (fun w h => h.cnt jn) ?_
     exact Or.inl ⟨rfl, ap, _, _, N, rfl, by simpa using hdd, ⟨bp, bb, M4, X0, hp4, hb5, rfl⟩, rfl⟩
end
section
open Go.RowKit
open Hg (En Pl)
variable {G : World} {L : ja}
def jv (p : Pl) (v : Value) : Array Value := #[v, .int .i64 p.want, .int .i64 p.every, .int .i64 p.wait, .int .i64 p.tries, .int .i64 p.start, .int .i64 p.now, .int .i64 p.reached, .bool p.begins]
structure RPlan (rp : Nat) (p : Pl) (M : ja) : Prop where
 is : ∃ a c B, ORow enR 148 4 [] a c p.list B ∧ M = (rp, .cells (jv p (.slice a p.list.length c)) 146 (0, 0)) :: B
 good : Good p
 fr : Fr p
 made : p.made = true
theorem Uq {e : TypeId} {l : List En} {a : Option Addr} {c : Nat} {B : ja} (h : ORow enR e 4 [] a c l B) {i : Nat} {x : En} (hx : l[i]? = some x) : ∃ b cur, a = some ⟨b, 0, none⟩ ∧ B = [(b, .cells cur e (0, 0))] ∧ ∀ j v, (kj x)[j]? = some v → cur[0 + i * 4 + j]? = some v := by
 obtain ⟨b, cur, h1, h2, _, _, _, h3⟩ := h.block (fun e => by rw [e] at hx; simp at hx)
 obtain ⟨cs, _, hcs, _, k3⟩ := h3 i x hx
 rw [show cs = kj x from hcs] at k3
 exact ⟨b, cur, h1, h2, fun j v hj => by rw [Nat.zero_add]; exact k3 j v hj⟩
theorem Ur {e : TypeId} {l : List En} {a : Option Addr} {c : Nat} {b i j : Nat} {x y : En} {cur : Array Value} {v : Value} (h : ORow enR e 4 [] a c l [(b, .cells cur e (0, 0))]) (hx : i < l.length) (hc : ∀ j v, (kj x)[j]? = some v → cur[0 + i * 4 + j]? = some v) (hj : j < 4) (hv : v.oneCell' = true) (hy : (kj x).set j v = kj y) :
 ORow enR e 4 [] a c (l.set i y) [(b, .cells (cur.setIfInBounds (0 + i * 4 + j) v) e (0, 0))] ∧ ∀ j' v', (kj y)[j']? = some v' → (cur.setIfInBounds (0 + i * 4 + j) v)[0 + i * 4 + j']? = some v' := by
 have := h.put rfl hx rfl hc (uL x) hj hv (y := y) hy
 rw [hy] at this
 exact this
theorem Vf (rp : Nat) (p : Pl) (v : Value) (now : Int) : Spec Tryz.prog G 123 #[.pointer (some ⟨rp, 0, none⟩), .int .i64 now] ((rp, .cells (jv p v) 146 (0, 0)) :: L) fun u M => M = (rp, .cells (jv (Hg.advance p now) v) 146 (0, 0)) :: L := by
 unfold jv Hg.advance Hg.top
 refine jm (n := 16) Tryz.func123 rfl rfl rfl ?_
 repeat' (first | (with_reducible first | refine kh ?_ | refine jY ?_ | refine uh ?_ | refine kZ ?_ | refine uF ?_ | refine ut ?_) | refine jB (uq rfl) rfl ?_ | refine jB (zy rfl) rfl ?_ | (refine' jB (qJ rfl rfl ?_) rfl ?_; rotate_left 1; (· exact ZF)) | refine jB (yU rfl) rfl ?_ | refine jB (ui rfl Qj) rfl ?_ | (refine' jB (Wq rfl plO ?_ ?_) rfl ?_; rotate_left 4; (· repeat (exact List.mem_cons_self)); (· rfl)) | (refine' qG rfl rfl onO rfl ?_ rfl ?_; rotate_left 1; (· rfl)) | refine Jm rfl (fun hc => ?_) (fun hc => ?_) | refine uR rfl ?_)
 all_goals (dsimp only; (first | (rw [show max p.now (min now 1099511627776) = p.now by omega]; done) | (rw [show max p.now (min now 1099511627776) = now by omega]; rfl) | (rw [show max p.now (min now 1099511627776) = 1099511627776 by omega]; rfl)))
theorem Wa (rp : Nat) (p : Pl) (a : Option Addr) (c : Nat) (hp : (rp, Obj.cells (jv p (.slice a p.list.length c)) 146 (0, 0)) ∈ L) (hl : sliceR 4 enR L [.slice a p.list.length c] p.list) (hF : Fr p) (h9 : p.list.length ≤ 9) :
 Spec Tryz.prog G 95 #[.pointer (some ⟨rp, 0, none⟩)] L fun u M => u = .int .i64 (if p.asked < p.list.length then (p.asked : Int) else -1) ∧ M = L := by
 obtain ⟨_, _, _, hl⟩ := sliceR.cut hl
 have r0 : (jv p (.slice a p.list.length c))[0 + 0]? = some (.slice a p.list.length c) := rfl
 refine jm (n := 23) Tryz.func95 rfl rfl rfl ?_
 refine goB ?_
 refine jy (σ := Nat) (fun k => k ≤ p.list.length ∧ k ≤ p.asked) (fun k => [(0, .pointer (some ⟨rp, 0, none⟩)), (3, .int .i64 (k : Nat))]) (fun _ => L) (fun k => p.list.length - k) 0 ⟨Nat.zero_le _, Nat.zero_le _⟩ ?_ (fun w h => h) ?_
 exact jr
 rintro k ⟨hk, hka⟩
 by_cases hlt : k < p.list.length
 · obtain ⟨x, hx⟩ : ∃ x, p.list[k]? = some x := ⟨_, List.getElem?_eq_getElem hlt⟩
   obtain ⟨f1, f2⟩ := hF k x hx
   rcases hl with h0 | ⟨b1, o1, C1, t1, fr1, rfl, m1, q1⟩
   · rw [h0] at hlt; simp at hlt
   obtain ⟨cs, _, rfl, hcs⟩ := q1 k x hx
   have n1 : C1[o1 + k * 4 + 1]? = some (.int .i64 x.asked) := hcs 1 _ rfl
   by_cases hkk : k < p.asked
   · have f3 := f1 hkk
     refine goB ?_
     refine jh (k + 1) ⟨hlt, hkk⟩ ?_ (fun w h => h) jd
     exact jr
   · have hkk2 : k = p.asked := by omega
     have f3 : x.asked = 0 := by rw [f2 jd]; rfl
     refine goB ?_
     refine ji 2 _ rfl rfl ?_
     rw [if_pos jd, hkk2]
     exact ⟨rfl, rfl⟩
 · refine goB ?_
   refine ji 2 _ rfl rfl ?_
   rw [if_neg jd]
   exact ⟨rfl, rfl⟩
theorem aaa (rp : Nat) (p : Pl) (l : List En) (a : Option Addr) (c : Nat) (B : ja) (i : Nat) (x : En) (hR : ORow enR 148 4 [] a c l B) (hx : l[i]? = some x) (h9 : l.length ≤ 9) (hb : 0 ≤ x.asked ∧ x.asked ≤ 4) :
 Spec Tryz.prog G 118 #[.pointer (some ⟨rp, 0, none⟩), .int .i64 (i : Nat)] ((rp, .cells (jv p (.slice a l.length c)) 146 (0, 0)) :: (B ++ L)) fun u M => ∃ B', ORow enR 148 4 [] a c (l.set i (V5 p.now x)) B' ∧ M = (rp, .cells (jv p (.slice a l.length c)) 146 (0, 0)) :: (B' ++ L) := by
 obtain ⟨b, cur, rfl, rfl, hc⟩ := Uq hR hx
 have hi := (List.getElem?_eq_some_iff.1 hx).1
 simp only [List.cons_append, List.nil_append]
 have r0 : (jv p (.slice (some ⟨b, 0, none⟩) l.length c))[0 + 0]? = some (.slice (some ⟨b, 0, none⟩) l.length c) := rfl
 have r1 : (jv p (.slice (some ⟨b, 0, none⟩) l.length c))[0 + 1]? = some (.int .i64 p.want) := rfl
 have r2 : (jv p (.slice (some ⟨b, 0, none⟩) l.length c))[0 + 2]? = some (.int .i64 p.every) := rfl
 have r3 : (jv p (.slice (some ⟨b, 0, none⟩) l.length c))[0 + 3]? = some (.int .i64 p.wait) := rfl
 have r4 : (jv p (.slice (some ⟨b, 0, none⟩) l.length c))[0 + 4]? = some (.int .i64 p.tries) := rfl
 have r5 : (jv p (.slice (some ⟨b, 0, none⟩) l.length c))[0 + 5]? = some (.int .i64 p.start) := rfl
 have r6 : (jv p (.slice (some ⟨b, 0, none⟩) l.length c))[0 + 6]? = some (.int .i64 p.now) := rfl
 have n1 : cur[0 + i * 4 + 1]? = some (.int .i64 x.asked) := hc 1 _ rfl
 obtain ⟨h1, c1⟩ := Ur (j := 1) (v := .int .i64 (x.asked + 1)) (y := { x with asked := x.asked + 1 }) hR hi hc jd rfl rfl
 obtain ⟨h2, c2⟩ := Ur (j := 2) (v := .int .i64 p.now) (y := { x with asked := x.asked + 1, last := p.now }) h1 (by simpa using hi) c1 jd rfl rfl
 obtain ⟨h3, c3⟩ := Ur (j := 3) (v := .bool true) (y := V5 p.now x) h2 (by simpa using hi) c2 jd rfl rfl
 have m2 := c1 2 _ rfl
 have m3 := c2 3 _ rfl
 rw [List.set_set, List.set_set] at h3
 have hK : ∀ C : Array Value, ∀ q ∈ [(rp, Obj.cells (jv p (.slice (some ⟨b, 0, none⟩) l.length c)) 146 (0, 0))], q ∈ (rp, Obj.cells (jv p (.slice (some ⟨b, 0, none⟩) l.length c)) 146 (0, 0)) :: (b, Obj.cells C 148 (0, 0)) :: L := fun C q hq => by
  rw [List.mem_singleton.1 hq]; exact List.mem_cons_self ..
 refine jm (n := 33) Tryz.func118 rfl rfl rfl ?_
 refine goB ?_
 have hK1 := hK (cur.setIfInBounds (0 + i * 4 + 1) (.int .i64 (x.asked + 1)))
 refine jq jb ([(rp, Obj.cells (jv p (.slice (some ⟨b, 0, none⟩) l.length c)) 146 (0, 0))]) [11] ?_
 refine tkQ 0 ?_
 refine tkQ 1 ?_
 refine tkQ 2 ?_
 refine tkQ 3 ?_
 refine tkQ 4 ?_
 refine tkQ 5 ?_
 refine tkQ 6 ?_
 refine tkQ 7 ?_
 refine tkQ 8 ?_
 refine tkQ 9 ?_
 refine tkQ 10 ?_
 refine j6 (L' := (b, Obj.cells (cur.setIfInBounds (0 + i * 4 + 1) (.int .i64 (x.asked + 1))) 148 (0, 0)) :: (rp, Obj.cells (jv p (.slice (some ⟨b, 0, none⟩) l.length c)) 146 (0, 0)) :: L) ?_ jn; refine jZ 11 je rfl rfl rfl (ul rfl rfl onO rfl m2 rfl) ?_; rintro _ _ ⟨_, rfl⟩; refine ⟨Or.inl (by simp), ?_⟩
 refine tdQ ?_
 refine jJ (L' := (rp, Obj.cells (jv p (.slice (some ⟨b, 0, none⟩) l.length c)) 146 (0, 0)) :: (b, Obj.cells ((cur.setIfInBounds (0 + i * 4 + 1) (.int .i64 (x.asked + 1))).setIfInBounds (0 + i * 4 + 2) (.int .i64 p.now)) 148 (0, 0)) :: L) ?_ jn
 refine goB ?_
 refine uR rfl ?_
 exact ⟨_, h3, rfl⟩
end
section
open Go.RowKit
open Hg (En Pl)
variable {G : World} {L : ja}
theorem Wb {rp : Nat} {p : Pl} {M : ja} (h : RPlan rp p M) (hM : ∀ q ∈ M, q ∈ L) : Spec Tryz.prog G 30 #[.pointer (some ⟨rp, 0, none⟩)] L fun u N => u = .int .i64 (Hg.opens p) ∧ N = L := by
 obtain ⟨⟨a, c, B, hR, rfl⟩, hG, _, _⟩ := h
 have h9 := hG.len
 have hl : sliceR 4 enR L [.slice a p.list.length c] p.list := hR.sliceR zG (by simp) (fun q hq => hM q (by simp [hq]))
 have hp := hM _ (List.mem_cons_self ..)
 obtain ⟨_, _, _, hl⟩ := sliceR.cut hl
 have r0 : (jv p (.slice a p.list.length c))[0 + 0]? = some (.slice a p.list.length c) := rfl
 refine jm (n := 25) Tryz.func30 rfl rfl rfl ?_
 refine goB ?_
 refine jy (σ := Nat) (fun k => k ≤ p.list.length) (fun k => [(0, .pointer (some ⟨rp, 0, none⟩)), (3, .int .i64 (((p.list.take k).filter (·.op)).length : Nat)), (4, .int .i64 (k : Nat))]) (fun _ => L) (fun k => p.list.length - k) 0 (Nat.zero_le _) ?_ (fun w h => h) ?_
 exact jr
 rintro k hk
 by_cases hlt : k < p.list.length
 · obtain ⟨x, hx⟩ : ∃ x, p.list[k]? = some x := ⟨_, List.getElem?_eq_getElem hlt⟩
   rcases hl with h0 | ⟨b1, o1, C1, t1, fr1, rfl, m1, q1⟩
   · rw [h0] at hlt; simp at hlt
   obtain ⟨cs, _, rfl, hcs⟩ := q1 k x hx
   have n3 : C1[o1 + k * 4 + 3]? = some (.bool x.op) := hcs 3 _ rfl
   have hf : ((p.list.take (k + 1)).filter (·.op)).length = ((p.list.take k).filter (·.op)).length + (if x.op then 1 else 0) := by
    obtain ⟨hi, rfl⟩ := List.getElem?_eq_some_iff.1 hx
    rw [List.take_succ_eq_append_getElem hi, List.filter_append, List.length_append]
    cases hop : p.list[k].op <;> simp [hop]
   have hm : ((p.list.take k).filter (·.op)).length ≤ 9 := Nat.le_trans (List.length_filter_le _ _) (by simp; omega)
   cases hop : x.op with
   | false =>
     rw [hop] at hf n3
     refine goB ?_
     refine jh (k + 1) hlt ?_ (fun w h => h) jd
     rw [hf]
     exact jr
   | true =>
     rw [hop] at hf n3
     refine goB ?_
     refine jh (k + 1) hlt ?_ (fun w h => h) jd
     rw [hf]
     exact jr
 · refine goB ?_
   refine ji 2 _ rfl rfl ?_
   rw [List.take_of_length_le jd]
   exact ⟨rfl, rfl⟩
theorem RPlan.of {rp : Nat} {p : Pl} {a : Option Addr} {c : Nat} {B : ja} (h : ORow enR 148 4 [] a c p.list B) (hG : Good p) (hF : Fr p) (hm : p.made = true) : RPlan rp p ((rp, .cells (jv p (.slice a p.list.length c)) 146 (0, 0)) :: B) := ⟨⟨a, c, B, h, rfl⟩, hG, hF, hm⟩
theorem Yr {rp : Nat} {p : Pl} {M : ja} (h : RPlan rp p M) (u : Int) : Spec Tryz.prog G 90 #[.pointer (some ⟨rp, 0, none⟩), .int .i64 u] (M ++ L) fun r N => r = .bool (Hg.close p u).2 ∧ ∃ M', RPlan rp (Hg.close p u).1 M' ∧ N = M' ++ L := by
 obtain ⟨⟨a, c, B, hR, rfl⟩, hG, hF, hmd⟩ := h
 have h9 := hG.len
 have r0 : (jv p (.slice a p.list.length c))[0 + 0]? = some (.slice a p.list.length c) := rfl
 rw [List.cons_append]
 refine jm (n := 42) Tryz.func90 rfl rfl rfl ?_
 refine goB ?_
 refine jy (σ := Nat) (fun k => k ≤ p.list.length ∧ ∀ y ∈ p.list.take k, Hg.isIt u y = false) (fun k => [(0, .pointer (some ⟨rp, 0, none⟩)), (1, .int .i64 u), (5, .int .i64 (k : Nat))]) (fun _ => (rp, .cells (jv p (.slice a p.list.length c)) 146 (0, 0)) :: (B ++ L)) (fun k => p.list.length - k) 0 ⟨Nat.zero_le _, by simp⟩ ?_ (fun w h => h) ?_
 exact jr
 rintro k ⟨hk, hno⟩
 by_cases hlt : k < p.list.length
 · obtain ⟨x, hx⟩ : ∃ x, p.list[k]? = some x := ⟨_, List.getElem?_eq_getElem hlt⟩
   obtain ⟨b, cur, rfl, rfl, hc⟩ := Uq hR hx
   have n0 : cur[0 + k * 4 + 0]? = some (.int .i64 x.up) := hc 0 _ rfl
   have n3 : cur[0 + k * 4 + 3]? = some (.bool x.op) := hc 3 _ rfl
   simp only [List.cons_append, List.nil_append]
   by_cases hup : x.up = u
   · cases hop : x.op with
     | false =>
       rw [hop] at n3
       refine goB ?_
       refine jh (k + 1) ⟨hlt, JG hno hx (by simp [Hg.isIt, hop])⟩ ?_ (fun w h => h) jd
       exact jr
     | true =>
       rw [hop] at n3
       obtain ⟨k1, k2⟩ := Kk u p.list k x hno hx (by simp [Hg.isIt, hop, hup])
       obtain ⟨h3, c3⟩ := Ur (j := 3) (v := .bool false) (y := { x with op := false }) hR hlt hc jd rfl rfl
       refine goB ?_
       refine ji 4 _ rfl rfl ?_
       rw [← k1] at h3
       have hk2 : (Hg.close p u).1.list.length = p.list.length := by simp only [Hg.close]; rw [k1, List.length_set]
       exact ⟨by rw [Hg.close, k2], _, RPlan.of (p := (Hg.close p u).1) h3 (hG.close u) (hF.close u) hmd, by rw [hk2]; rfl⟩
   · refine goB ?_
     refine jh (k + 1) ⟨hlt, JG hno hx (by simp [Hg.isIt, hup])⟩ ?_ (fun w h => h) jd
     exact jr
 · have hkn : k = p.list.length := by omega
   subst hkn
   rw [List.take_length] at hno
   obtain ⟨k1, k2⟩ := zt u p.list hno
   refine goB ?_
   refine ji 4 _ rfl rfl ?_
   have hk2 : (Hg.close p u).1.list.length = p.list.length := by simp only [Hg.close]; rw [k1]
   rw [← k1] at hR
   exact ⟨by rw [Hg.close, k2], _, RPlan.of (p := (Hg.close p u).1) hR (hG.close u) (hF.close u) hmd, by rw [hk2]; rfl⟩
theorem ORow.made2 {α : Type} {r : Rp α} {e : TypeId} {sz b : Nat} {L : ja} : ORow r e sz L (some ⟨b, 0, none⟩) 0 ([] : List α) [(b, .cells #[] e (0, 0))] := ⟨[], Row.made (by simp) (by unfold maxLen; omega), rfl, by simp⟩
theorem Wc {p : Pl} {x : En} {i : Nat} (hx : p.list[i]? = some x) : Hg.upAt p i = x.up := by simp [Hg.upAt, hx]
theorem aef {rp : Nat} {p : Pl} {M : ja} (h : RPlan rp p M) (now : Int) : Spec Tryz.prog G 121 #[.pointer (some ⟨rp, 0, none⟩), .int .i64 now] (M ++ L) fun r N => r = .tuple #[.int .i64 (Hg.more p now).2.1, .bool (Hg.more p now).2.2] ∧ ∃ M', RPlan rp (Hg.more p now).1 M' ∧ N = M' ++ L := by
 obtain ⟨⟨a, c, B, hR, rfl⟩, hG, hF, hmd⟩ := h
 have h9 := hG.len
 have ha := hG.asked
 have r8 : (jv p (.slice a p.list.length c))[0 + 8]? = some (.bool p.begins) := rfl
 rw [List.cons_append]
 refine jm (n := 30) Tryz.func121 rfl rfl rfl ?_
 cases hb : p.begins with
 | false =>
   have hm : Hg.more p now = (p, 0, false) := by unfold Hg.more; rw [if_pos (by rw [hb]; rfl)]
   rw [hm]
   rw [hb] at r8
   refine goB ?_
   refine jM 4 5 _ _ rfl rfl rfl ?_
   exact ⟨rfl, _, ⟨⟨a, c, B, hR, rfl⟩, hG, hF, hmd⟩, rfl⟩
 | true =>
   rw [hb] at r8
   refine goB ?_
   refine jw (jc je rfl (Vf rp p _ now)) rfl ?_
   rintro u0 M0 hM0
   rw [hM0]
   clear hM0 M0
   obtain ⟨q, hq⟩ : ∃ q, q = Hg.advance p now := ⟨_, rfl⟩
   have hql : q.list = p.list := by rw [hq]; rfl
   have hqa : q.asked = p.asked := by rw [hq]; rfl
   have hqF : Fr q := by rw [hq]; exact hF.advance now
   have hqG : Good q := by rw [hq]; exact hG.advance now
   have hqm : q.made = true := by rw [hq]; exact hmd
   rw [← hql] at hR h9 ha
   rw [← hqa] at ha
   rw [← hq, ← hql]
   have q0 : (jv q (.slice a q.list.length c))[0 + 0]? = some (.slice a q.list.length c) := rfl
   have hm : Hg.more p now = if q.list.length ≤ q.asked then (q, 0, false) else (Hg.next q, Hg.upAt q q.asked, true) := by unfold Hg.more; rw [if_neg (by rw [hb]; simp), hq]
   refine goB ?_
   refine jw (jc je rfl (Wa rp q a c (List.mem_cons_self ..) (hR.sliceR zG (by simp) jf) hqF h9)) rfl ?_
   rintro _ _ ⟨rfl, rfl⟩
   by_cases hlen : q.list.length ≤ q.asked
   · rw [hm, if_pos hlen, if_neg jd]
     refine goB ?_
     refine jM 4 5 _ _ rfl rfl rfl ?_
     exact ⟨rfl, _, ⟨⟨a, c, B, hR, rfl⟩, hqG, hqF, hqm⟩, rfl⟩
   · rw [hm, if_neg hlen, if_pos jd]
     obtain ⟨x, hx⟩ : ∃ x, q.list[q.asked]? = some x := ⟨_, List.getElem?_eq_getElem jd⟩
     have hfx := (hqF _ _ hx).2 (Nat.le_refl _)
     refine goB ?_
     refine jw (jc je rfl (aaa rp q q.list a c B q.asked x hR hx h9 (by rw [hfx]; exact ⟨Int.le_refl _, by show (0 : Int) ≤ 4; decide⟩))) rfl ?_
     rintro _ _ ⟨B', hB', rfl⟩
     have hnl := Kv hqF hx
     obtain ⟨b, cur, rfl, rfl, hc⟩ := Uq hB' (i := q.asked) (x := V5 q.now x) (by rw [List.getElem?_set_self jd])
     have n0 : cur[0 + q.asked * 4 + 0]? = some (.int .i64 x.up) := hc 0 _ rfl
     simp only [List.cons_append, List.nil_append]
     refine goB ?_
     refine jM 4 5 _ _ rfl rfl rfl ?_
     have hk2 : (Hg.next q).list.length = q.list.length := by rw [hnl, List.length_set]
     rw [← hnl] at hB'
     exact ⟨by rw [Wc hx], _, RPlan.of (p := Hg.next q) hB' (hqG.next jd) hqF.next hqm, by rw [hk2]; rfl⟩
theorem aeg {rp : Nat} {p : Pl} {M : ja} (h : RPlan rp p M) (hM : ∀ q ∈ M, q ∈ L) : Spec Tryz.prog G 60 #[.pointer (some ⟨rp, 0, none⟩)] L fun r N => ∃ b2 M2, r = .pointer (some ⟨b2, 0, none⟩) ∧ RPlan b2 p M2 ∧ N = M2 ++ L := by
 obtain ⟨⟨a, c, B, hR, rfl⟩, hG, hF, hmd⟩ := h
 have h9 := hG.len
 have hl : sliceR 4 enR L [.slice a p.list.length c] p.list := hR.sliceR zG (by simp) (fun q hq => hM q (by simp [hq]))
 have hp := hM _ (List.mem_cons_self ..)
 have r0 : (jv p (.slice a p.list.length c))[0 + 0]? = some (.slice a p.list.length c) := rfl
 have r1 : (jv p (.slice a p.list.length c))[0 + 1]? = some (.int .i64 p.want) := rfl
 have r2 : (jv p (.slice a p.list.length c))[0 + 2]? = some (.int .i64 p.every) := rfl
 have r3 : (jv p (.slice a p.list.length c))[0 + 3]? = some (.int .i64 p.wait) := rfl
 have r4 : (jv p (.slice a p.list.length c))[0 + 4]? = some (.int .i64 p.tries) := rfl
 have r5 : (jv p (.slice a p.list.length c))[0 + 5]? = some (.int .i64 p.start) := rfl
 have r6 : (jv p (.slice a p.list.length c))[0 + 6]? = some (.int .i64 p.now) := rfl
 have r7 : (jv p (.slice a p.list.length c))[0 + 7]? = some (.int .i64 p.reached) := rfl
 have r8 : (jv p (.slice a p.list.length c))[0 + 8]? = some (.bool p.begins) := rfl
 refine jm (n := 14) Tryz.func60 rfl rfl rfl ?_
 repeat (first | refine goB ?_ | (refine jO ?_; intro bNew))
 refine jw (yw etO) rfl ?_
 rintro _ _ ⟨b0, rfl, rfl⟩
 refine goB ?_
 refine jw (OpT.heap (L' := [(b0, Obj.cells #[] 148 (0, 0))] ++ ((bNew, Obj.cells (jv p (.slice a p.list.length c)) 146 (0, 0)) :: L)) (fun w h => h.cnt jn) (kP (r := enR) (L0 := L) (l := []) (m := p.list) etO rfl rfl rfl rfl ORow.made2 hl jf zG (fun cs y h => h.one) (by simp; omega) (by decide))) rfl ?_
 rintro _ _ ⟨a3, c3, B3, rfl, hB3, rfl⟩
 rw [List.nil_append] at hB3 ⊢
 refine jH (L' := (bNew, Obj.cells (jv p (.slice a p.list.length c)) 146 (0, 0)) :: (B3 ++ L)) ?_ jn
 refine goB ?_
 refine ji 2 _ rfl rfl ?_
 exact ⟨bNew, _, rfl, RPlan.of (hB3.imp (fun cs x _ h => h)) hG hF hmd, rfl⟩
end
section
open Go.RowKit
open Hg (En Pl)
variable {G : World} {L : ja}
theorem Vg : ∀ (k : Nat) (p : Pl), (Hg.nexts k p).1.now = p.now
 | 0, p => rfl
 | k + 1, p => Vg k (Hg.next p)
theorem aab : ∀ (k : Nat) (p : Pl) (v : Value), jv (Hg.nexts k p).1 v = jv p v
 | 0, p, v => rfl
 | k + 1, p, v => aab k (Hg.next p) v
theorem Us : ∀ (k : Nat) (p : Pl), (Hg.nexts k p).1.made = p.made
 | 0, p => rfl
 | k + 1, p => Us k (Hg.next p)
theorem acz {rp : Nat} {p : Pl} {M : ja} (h : RPlan rp p M) (hg : p.begins = false) (hz : p.asked = 0) : Spec Tryz.prog G 88 #[.pointer (some ⟨rp, 0, none⟩)] (M ++ L) fun u N => ∃ a1 c1 B1 M', u = .slice a1 (Hg.begin' p).2.length c1 ∧ Row 3 1 (.slice a1 (Hg.begin' p).2.length c1) (Hg.begin' p).2.length (kC (Hg.begin' p).2) B1 ∧ RPlan rp (Hg.begin' p).1 M' ∧ N = M' ++ (B1 ++ L) := by
 obtain ⟨⟨a, c, B, hR, rfl⟩, hG, hF, hmd⟩ := h
 have h9 := hG.len
 have hw := hG.want
 obtain ⟨p0, hp0⟩ : ∃ p0 : Pl, p0 = { p with begins := true } := ⟨_, rfl⟩
 obtain ⟨K, hK⟩ : ∃ K, K = min p.want.toNat (p.list.length - p.asked) := ⟨_, rfl⟩
 have hbeg : Hg.begin' p = Hg.nexts K p0 := by unfold Hg.begin'; rw [if_neg (by rw [hmd, hg]; simp), hp0, hK]
 rw [hbeg]
 have hp0l : p0.list = p.list := by rw [hp0]
 have hp0w : p0.want = p.want := by rw [hp0]
 have hp0a : p0.asked = 0 := by rw [hp0]; exact hz
 have hp0G : Good p0 := by rw [hp0]; exact ⟨hG.len, hG.asked, hG.want, hG.tries, hG.every, hG.wait, hG.now, hG.reached, hG.each⟩
 have hp0F : Fr p0 := by rw [hp0]; exact hF.list rfl rfl
 have hp0m : p0.made = true := by rw [hp0]; exact hmd
 have r0 : (jv p (.slice a p.list.length c))[0 + 0]? = some (.slice a p.list.length c) := rfl
 have r1 : (jv p (.slice a p.list.length c))[0 + 1]? = some (.int .i64 p.want) := rfl
 have r2 : (jv p (.slice a p.list.length c))[0 + 2]? = some (.int .i64 p.every) := rfl
 have r3 : (jv p (.slice a p.list.length c))[0 + 3]? = some (.int .i64 p.wait) := rfl
 have r4 : (jv p (.slice a p.list.length c))[0 + 4]? = some (.int .i64 p.tries) := rfl
 have r5 : (jv p (.slice a p.list.length c))[0 + 5]? = some (.int .i64 p.start) := rfl
 have r6 : (jv p (.slice a p.list.length c))[0 + 6]? = some (.int .i64 p.now) := rfl
 have r7 : (jv p (.slice a p.list.length c))[0 + 7]? = some (.int .i64 p.reached) := rfl
 have r8 : (jv p (.slice a p.list.length c))[0 + 8]? = some (.bool p.begins) := rfl
 rw [hg] at r8
 rw [List.cons_append]
 refine jm (n := 44) Tryz.func88 rfl rfl rfl ?_
 refine goB ?_
 have hst : (jv p (.slice a p.list.length c)).setIfInBounds (0 + 8) (.bool true) = jv p0 (.slice a p.list.length c) := by rw [hp0]; rfl
 refine jy (σ := Nat × Option Addr × Nat × ja × ja) (fun x => x.1 ≤ K ∧ Row 3 1 (.slice x.2.1 x.1 x.2.2.1) x.1 (kC (Hg.nexts x.1 p0).2) x.2.2.2.1 ∧ ORow enR 148 4 [] a c (Hg.nexts x.1 p0).1.list x.2.2.2.2)
  (fun x => [(0, .pointer (some ⟨rp, 0, none⟩)), (3, .slice x.2.1 x.1 x.2.2.1), (4, .int .i64 (x.1 : Nat))]) (fun x => (rp, .cells (jv p0 (.slice a p.list.length c)) 146 (0, 0)) :: (x.2.2.2.2 ++ (x.2.2.2.1 ++ L))) (fun x => K - x.1) (0, none, 0, [], B) ⟨Nat.zero_le _, Row.nil _ _, ?_⟩ ?_ ?_ ?_
 · show ORow _ _ _ _ _ _ p0.list B
   rw [hp0l]; exact hR
 exact jr
 · intro w h
   rw [← hst]
   exact h
 rintro ⟨k, a3, c3, B1, B2⟩ ⟨hk, hR1, hR2⟩
 dsimp only at hk hR1 hR2 ⊢
 obtain ⟨q1, q2, q3, q4⟩ := qR k p0
 have q5 := Vg k p0
 have q6 : jv p0 (.slice a p.list.length c) = jv (Hg.nexts k p0).1 (.slice a p.list.length c) := (aab k p0 _).symm
 have q7 : Good (Hg.nexts k p0).1 := Good.nexts k hp0G (by rw [hp0l, hp0a]; omega)
 have q8 : Fr (Hg.nexts k p0).1 := Fr.nexts k hp0F
 have q9 : (Hg.nexts k p0).1.made = true := (Us k p0).trans hp0m
 obtain ⟨q, hq⟩ : ∃ q, q = (Hg.nexts k p0).1 := ⟨_, rfl⟩
 have hS := z7 k p0
 rw [← hq] at q1 q2 q3 q5 q6 q7 q8 q9 hR2 hS
 rw [hp0a] at q1
 rw [hp0l] at q2
 rw [hp0w] at q3
 rw [q6]
 rw [hz] at hK
 have t0 : (jv q (.slice a p.list.length c))[0 + 0]? = some (.slice a p.list.length c) := rfl
 have t1 : (jv q (.slice a p.list.length c))[0 + 1]? = some (.int .i64 p.want) := by rw [← q3]; rfl
 by_cases hkN : k < K
 · obtain ⟨x, hx⟩ : ∃ x, q.list[k]? = some x := ⟨_, List.getElem?_eq_getElem jd⟩
   have hqk : q.asked = k := by omega
   have hfx := (q8 _ _ hx).2 jd
   refine goB ?_
   have hask := aaa (G := G) (L := B1 ++ L) rp q q.list a c B2 k x hR2 hx jd (by rw [hfx]; exact ⟨Int.le_refl _, by show (0 : Int) ≤ 4; decide⟩)
   rw [q2] at hask
   refine jw (jc je rfl hask) rfl ?_
   rintro _ _ ⟨B', hB', rfl⟩
   have hnl := Kv q8 (x := x) (by rw [hqk]; exact hx)
   rw [hqk] at hnl
   have hup : Hg.upAt q q.asked = x.up := by rw [hqk]; exact Wc hx
   rw [hup] at hS
   obtain ⟨b, cur, rfl, rfl, hc⟩ := Uq hB' (i := k) (x := V5 q.now x) (by rw [List.getElem?_set_self jd])
   have n0 : cur[0 + k * 4 + 0]? = some (.int .i64 x.up) := hc 0 _ rfl
   simp only [List.cons_append, List.nil_append]
   repeat (first | refine goB ?_ | (refine jS ?_; intro bLit))
   refine jH (L' := (bLit, Obj.cells #[.int .i64 x.up] 3 (0, 0)) :: (B1 ++ ((rp, Obj.cells (jv q (.slice (some ⟨b, 0, none⟩) p.list.length c)) 146 (0, 0)) :: (b, Obj.cells cur 148 (0, 0)) :: L))) ?_ jn
   refine qU etO rfl rfl hR1 rfl (by unfold maxLen; omega) jd rfl ?_
   intro v4 B4 hR4
   obtain ⟨a4, c4, rfl⟩ := hR4.slice
   refine goB ?_
   refine jh (k + 1, a4, c4, B4, [(b, Obj.cells cur 148 (0, 0))]) ⟨hkN, ?_, ?_⟩ ?_ ?_ ?_
   · dsimp only
     rw [hS]
     simpa [kC] using hR4
   · dsimp only
     rw [hS]
     show ORow _ _ _ _ _ _ (Hg.next q).list _
     rw [hnl]
     exact hB'
   exact jr
   · dsimp only
     exact fun w h => h.cnt jn
   · dsimp only; omega
 · have hkN' : k = K := by omega
   have fin : (RPlan rp q ((rp, .cells (jv q (.slice a q.list.length c)) 146 (0, 0)) :: B2)) := RPlan.of hR2 q7 q8 q9
   rw [q2] at fin
   by_cases hkl : k < p.list.length
   · refine goB ?_
     refine ji 2 _ rfl rfl ?_
     rw [← hkN', q4, ← hq]
     exact ⟨a3, c3, B1, _, rfl, hR1, fin, rfl⟩
   · refine goB ?_
     refine ji 2 _ rfl rfl ?_
     rw [← hkN', q4, ← hq]
     exact ⟨a3, c3, B1, _, rfl, hR1, fin, rfl⟩
end
section
open Go.RowKit
open Hg (En Pl)
variable {G : World} {L : ja}
theorem aac {f : En → List Int} {l : List En} {i : Nat} (hf : ∀ x, (f x).length ≤ 1) : ((l.take i).flatMap f).length ≤ i := yK f l hf i
theorem aeh {rp : Nat} {p : Pl} {M : ja} (h : RPlan rp p M) (hb : p.begins = true) (now : Int) : Spec Tryz.prog G 94 #[.pointer (some ⟨rp, 0, none⟩), .int .i64 now] (M ++ L) fun u N => ∃ ag cg az cs Bg Bs M', u = .tuple #[.slice ag (Hg.tick p now).2.1.length cg, .slice az (Hg.tick p now).2.2.length cs] ∧
 Row 3 1 (.slice ag (Hg.tick p now).2.1.length cg) (Hg.tick p now).2.1.length (kC (Hg.tick p now).2.1) Bg ∧ Row 3 1 (.slice az (Hg.tick p now).2.2.length cs) (Hg.tick p now).2.2.length (kC (Hg.tick p now).2.2) Bs ∧ RPlan rp (Hg.tick p now).1 M' ∧ N = M' ++ (Bg ++ (Bs ++ L)) := by
 obtain ⟨⟨a, c, B, hR, rfl⟩, hG, hF, hmd⟩ := h
 have p8 : (jv p (.slice a p.list.length c))[0 + 8]? = some (.bool true) := by rw [← hb]; rfl
 obtain ⟨q, hq⟩ : ∃ q, q = Hg.advance p now := ⟨_, rfl⟩
 have hGq : Good q := by rw [hq]; exact hG.advance now
 have hFq : Fr q := by rw [hq]; exact hF.advance now
 have hmq : q.made = true := by rw [hq]; exact hmd
 have hql : q.list = p.list := by rw [hq]; rfl
 have htick : Hg.tick p now = ((Hg.hedged (Hg.examine q)).1, q.list.flatMap (Hg.goneE q.now q.wait q.tries), q.list.flatMap (Hg.sendE q.now q.wait q.tries) ++ (Hg.hedged (Hg.examine q)).2) := by
  unfold Hg.tick
  rw [if_neg (by rw [hb]; simp), hq]
 have hfin := hGq.examine.hedged
 have hfinF := hFq.examine.hedged
 rw [List.cons_append]
 refine jm (n := 146) Tryz.func94 rfl rfl rfl ?_
 refine goB ?_
 refine jw (jc je rfl (Vf rp p _ now)) rfl ?_
 rintro u0 M0 hM0
 rw [hM0, ← hq]
 clear hM0 M0
 rw [← hql] at hR ⊢
 have h9 := hGq.len
 have hnow := hGq.now
 have htr := hGq.tries
 have hwt := hGq.wait
 have htop : Hg.top = 1099511627776 := rfl
 obtain ⟨n, hn⟩ : ∃ n, n = q.list.length := ⟨_, rfl⟩
 rw [← hn] at h9 ⊢
 have r0 : (jv q (.slice a n c))[0 + 0]? = some (.slice a n c) := rfl
 have r1 : (jv q (.slice a n c))[0 + 1]? = some (.int .i64 q.want) := rfl
 have r2 : (jv q (.slice a n c))[0 + 2]? = some (.int .i64 q.every) := rfl
 have r3 : (jv q (.slice a n c))[0 + 3]? = some (.int .i64 q.wait) := rfl
 have r4 : (jv q (.slice a n c))[0 + 4]? = some (.int .i64 q.tries) := rfl
 have r5 : (jv q (.slice a n c))[0 + 5]? = some (.int .i64 q.start) := rfl
 have r6 : (jv q (.slice a n c))[0 + 6]? = some (.int .i64 q.now) := rfl
 have r7 : (jv q (.slice a n c))[0 + 7]? = some (.int .i64 q.reached) := rfl
 have r8 : (jv q (.slice a n c))[0 + 8]? = some (.bool q.begins) := rfl
 refine goB ?_
 refine jy (σ := Nat × (Option Addr × Nat × ja) × (Option Addr × Nat × ja) × ja) (fun x => x.1 ≤ n ∧ Row 3 1 (.slice x.2.1.1 ((q.list.take x.1).flatMap (Hg.goneE q.now q.wait q.tries)).length x.2.1.2.1) ((q.list.take x.1).flatMap (Hg.goneE q.now q.wait q.tries)).length (kC ((q.list.take x.1).flatMap (Hg.goneE q.now q.wait q.tries))) x.2.1.2.2 ∧
  Row 3 1 (.slice x.2.2.1.1 ((q.list.take x.1).flatMap (Hg.sendE q.now q.wait q.tries)).length x.2.2.1.2.1) ((q.list.take x.1).flatMap (Hg.sendE q.now q.wait q.tries)).length (kC ((q.list.take x.1).flatMap (Hg.sendE q.now q.wait q.tries))) x.2.2.1.2.2 ∧ ORow enR 148 4 [] a c (mid q x.1) x.2.2.2)
  (fun x => [(0, .pointer (some ⟨rp, 0, none⟩)), (6, .slice x.2.1.1 ((q.list.take x.1).flatMap (Hg.goneE q.now q.wait q.tries)).length x.2.1.2.1), (7, .slice x.2.2.1.1 ((q.list.take x.1).flatMap (Hg.sendE q.now q.wait q.tries)).length x.2.2.1.2.1), (8, .int .i64 (x.1 : Nat))])
  (fun x => (rp, .cells (jv q (.slice a n c)) 146 (0, 0)) :: (x.2.2.2 ++ (x.2.1.2.2 ++ (x.2.2.1.2.2 ++ L)))) (fun x => n - x.1) (0, (none, 0, []), (none, 0, []), B) ⟨Nat.zero_le _, Row.nil _ _, Row.nil _ _, ?_⟩ ?_ (fun w h => h) ?_
 · dsimp only; rw [Ye]; exact hR
 exact jr
 rintro ⟨i, ⟨ag, cg, Bg⟩, ⟨as1, cs1, Bs⟩, Be⟩ ⟨hi, hRg, hRs, hRe⟩
 dsimp only at hi hRg hRs hRe ⊢
 have hmg9 := aac (f := Hg.goneE q.now q.wait q.tries) (l := q.list) (i := i) (fun x => by unfold Hg.goneE; split <;> simp)
 have hms9 := aac (f := Hg.sendE q.now q.wait q.tries) (l := q.list) (i := i) (fun x => by unfold Hg.sendE; split <;> simp)
 have hml : (mid q i).length = n := by rw [z8 q i jd, hn]
 by_cases hlt : i < n
 · obtain ⟨x, hx⟩ : ∃ x, q.list[i]? = some x := ⟨_, List.getElem?_eq_getElem jd⟩
   obtain ⟨e1, e2, e3, e4⟩ := hGq.each x (List.mem_of_getElem? hx)
   have hmx := Ug q i x hx
   obtain ⟨be, cur, rfl, rfl, hc⟩ := Uq hRe hmx
   have n0 : cur[0 + i * 4 + 0]? = some (.int .i64 x.up) := hc 0 _ rfl
   have n1 : cur[0 + i * 4 + 1]? = some (.int .i64 x.asked) := hc 1 _ rfl
   have n2 : cur[0 + i * 4 + 2]? = some (.int .i64 x.last) := hc 2 _ rfl
   have n3 : cur[0 + i * 4 + 3]? = some (.bool x.op) := hc 3 _ rfl
   simp only [List.cons_append, List.nil_append]
   obtain ⟨mg, hmg⟩ : ∃ mg, mg = (q.list.take i).flatMap (Hg.goneE q.now q.wait q.tries) := ⟨_, rfl⟩
   obtain ⟨ms, hms⟩ : ∃ ms, ms = (q.list.take i).flatMap (Hg.sendE q.now q.wait q.tries) := ⟨_, rfl⟩
   rw [← hmg] at hRg hmg9 ⊢
   rw [← hms] at hRs hms9 ⊢
   have hK : ∀ y ∈ [(rp, Obj.cells (jv q (.slice (some ⟨be, 0, none⟩) n c)) 146 (0, 0)), (be, Obj.cells cur 148 (0, 0))], y ∈ (rp, Obj.cells (jv q (.slice (some ⟨be, 0, none⟩) n c)) 146 (0, 0)) :: (be, Obj.cells cur 148 (0, 0)) :: (Bg ++ (Bs ++ L)) := fun y hy => by
    simp only [List.mem_cons, List.not_mem_nil, or_false] at hy
    rcases hy with rfl | rfl <;> simp
   cases hop : x.op with
   | false =>
     have hlate : Hg.late q.now q.wait x = false := by simp [Hg.late, hop]
     rw [hop] at n3
     obtain ⟨k1, k2, k3⟩ := JF q i x hx hlate
     rw [← hmg] at k2
     rw [← hms] at k3
     refine goB ?_
     refine jq jb ([(rp, Obj.cells (jv q (.slice (some ⟨be, 0, none⟩) n c)) 146 (0, 0)), (be, Obj.cells cur 148 (0, 0))]) [] ?_
     refine tkQ 0 ?_
     refine tkQ 1 ?_
     refine tkQ 2 ?_
     refine tkQ 3 ?_
     refine tkQ 4 ?_
     refine tkQ 5 ?_
     refine tkQ 6 ?_
     refine tkQ 7 ?_
     refine tkQ 8 ?_
     refine tkQ 9 ?_
     refine tkQ 10 ?_
     refine tkQ 11 ?_
     refine tkQ 12 ?_
     refine tkQ 13 ?_
     refine tkQ 14 ?_
     refine tkQ 15 ?_
     refine tkQ 16 ?_
     refine tkQ 17 ?_
     refine tkQ 18 ?_
     refine tkQ 19 ?_
     refine tkQ 20 ?_
     refine tkQ 21 ?_
     refine tkQ 22 ?_
     refine tkQ 23 ?_
     refine tkQ 24 ?_
     refine tkQ 25 ?_
     refine tkQ 26 ?_
     refine tkQ 27 ?_
     refine tkQ 28 ?_
     refine tdQ ?_
     refine goB ?_
     refine jh (i + 1, (ag, cg, Bg), (as1, cs1, Bs), [(be, Obj.cells cur 148 (0, 0))]) ⟨hlt, ?_, ?_, ?_⟩ ?_ ?_ ?_
     · dsimp only; rw [k2]; exact hRg
     · dsimp only; rw [k3]; exact hRs
     · dsimp only; rw [k1]; exact hRe
     · rw [k2, k3]
       exact jr
     · exact fun w hw => hw
     · dsimp only; omega
   | true =>
   rw [hop] at n3
   by_cases hw : q.now < x.last + q.wait
   · have hlate : Hg.late q.now q.wait x = false := by simp only [Hg.late, hop, Bool.true_and]; exact decide_eq_false jd
     obtain ⟨k1, k2, k3⟩ := JF q i x hx hlate
     rw [← hmg] at k2
     rw [← hms] at k3
     refine goB ?_
     refine jq jb ([(rp, Obj.cells (jv q (.slice (some ⟨be, 0, none⟩) n c)) 146 (0, 0)), (be, Obj.cells cur 148 (0, 0))]) [] ?_
     refine tkQ 0 ?_
     refine tkQ 1 ?_
     refine tkQ 2 ?_
     refine tkQ 3 ?_
     refine tkQ 4 ?_
     refine tkQ 5 ?_
     refine tkQ 6 ?_
     refine tkQ 7 ?_
     refine tkQ 8 ?_
     refine tkQ 9 ?_
     refine tkQ 10 ?_
     refine tkQ 11 ?_
     refine tkQ 12 ?_
     refine tkQ 13 ?_
     refine tkQ 14 ?_
     refine tkQ 15 ?_
     refine tkQ 16 ?_
     refine tkQ 17 ?_
     refine tkQ 18 ?_
     refine tkQ 19 ?_
     refine tkQ 20 ?_
     refine tkQ 21 ?_
     refine tkQ 22 ?_
     refine tkQ 23 ?_
     refine tkQ 24 ?_
     refine tkQ 25 ?_
     refine tkQ 26 ?_
     refine tkQ 27 ?_
     refine tkQ 28 ?_
     refine tdQ ?_
     refine goB ?_
     refine jh (i + 1, (ag, cg, Bg), (as1, cs1, Bs), [(be, Obj.cells cur 148 (0, 0))]) ⟨hlt, ?_, ?_, ?_⟩ ?_ ?_ ?_
     · dsimp only; rw [k2]; exact hRg
     · dsimp only; rw [k3]; exact hRs
     · dsimp only; rw [k1]; exact hRe
     · rw [k2, k3]
       exact jr
     · exact fun w hw => hw
     · dsimp only; omega
   have hlate : Hg.late q.now q.wait x = true := by simp only [Hg.late, hop, Bool.true_and]; exact decide_eq_true jd
   by_cases ht : q.tries ≤ x.asked
   · obtain ⟨k1, k2, k3⟩ := Yg q i x hx hlate ht
     rw [← hmg] at k2
     rw [← hms] at k3
     obtain ⟨h3, c3⟩ := Ur (j := 3) (v := .bool false) (y := { x with op := false }) hRe jd hc jd rfl rfl
     have m0 := c3 0 _ rfl
     refine goB ?_
     refine jq jb ([(rp, Obj.cells (jv q (.slice (some ⟨be, 0, none⟩) n c)) 146 (0, 0)), (be, Obj.cells cur 148 (0, 0))]) [] ?_
     refine tkQ 0 ?_
     refine tkQ 1 ?_
     refine tkQ 2 ?_
     refine tkQ 3 ?_
     refine tkQ 4 ?_
     refine tkQ 5 ?_
     refine tkQ 6 ?_
     refine tkQ 7 ?_
     refine tkQ 8 ?_
     refine tkQ 9 ?_
     refine tkQ 10 ?_
     refine tkQ 11 ?_
     refine tkQ 12 ?_
     refine tkQ 13 ?_
     refine tkQ 14 ?_
     refine tkQ 15 ?_
     refine tkQ 16 ?_
     refine tkQ 17 ?_
     refine tkQ 18 ?_
     refine tkQ 19 ?_
     refine tkQ 20 ?_
     refine tkQ 21 ?_
     refine tkQ 22 ?_
     refine tkQ 23 ?_
     refine tkQ 24 ?_
     refine tkQ 25 ?_
     refine tkQ 26 ?_
     refine tkQ 27 ?_
     refine tkQ 28 ?_
     refine tdQ ?_
     refine goB ?_
     refine jq jb ([(rp, Obj.cells (jv q (.slice (some ⟨be, 0, none⟩) n c)) 146 (0, 0)), (be, Obj.cells cur 148 (0, 0))]) [] ?_
     refine tkQ 0 ?_
     refine tkQ 1 ?_
     refine tkQ 2 ?_
     refine tkQ 3 ?_
     refine tkQ 4 ?_
     refine tkQ 5 ?_
     refine tkQ 6 ?_
     refine tkQ 7 ?_
     refine tkQ 8 ?_
     refine tkQ 9 ?_
     refine tkQ 10 ?_
     refine tkQ 11 ?_
     refine tkQ 12 ?_
     refine tdQ ?_
     repeat (first | refine goB ?_ | (refine jS ?_; intro bLit))
     refine jH (L' := (bLit, Obj.cells #[.int .i64 x.up] 3 (0, 0)) :: (Bg ++ ((rp, Obj.cells (jv q (.slice (some ⟨be, 0, none⟩) n c)) 146 (0, 0)) :: (be, Obj.cells (cur.setIfInBounds (0 + i * 4 + 3) (.bool false)) 148 (0, 0)) :: (Bs ++ L)))) ?_ jn
     refine qU etO rfl rfl hRg rfl (by unfold maxLen; omega) jd rfl ?_
     intro v4 B4 hR4
     obtain ⟨a4, c4, rfl⟩ := hR4.slice
     have k4 : mg.length + 1 = (mg ++ [x.up]).length := by simp
     rw [k4] at hR4 ⊢
     refine goB ?_
     refine jh (i + 1, (a4, c4, B4), (as1, cs1, Bs), [(be, Obj.cells (cur.setIfInBounds (0 + i * 4 + 3) (.bool false)) 148 (0, 0))]) ⟨hlt, ?_, ?_, ?_⟩ ?_ ?_ ?_
     · dsimp only; rw [k2]; simpa [kC] using hR4
     · dsimp only; rw [k3]; exact hRs
     · dsimp only; rw [k1]; exact h3
     · rw [k2, k3]
       exact jr
     · exact fun w hw => hw.cnt jn
     · dsimp only; omega
   · obtain ⟨k1, k2, k3⟩ := Yh q i x hx hlate ht
     rw [← hmg] at k2
     rw [← hms] at k3
     have ask := aaa (G := G) (L := Bg ++ (Bs ++ L)) rp q (mid q i) (some ⟨be, 0, none⟩) c _ i x hRe hmx jd jd
     rw [hml] at ask
     have hax : ({ x with asked := x.asked + 1, last := q.now } : En) = V5 q.now x := by unfold V5; rw [hop]
     rw [hax] at k1
     refine goB ?_
     refine jq jb ([(rp, Obj.cells (jv q (.slice (some ⟨be, 0, none⟩) n c)) 146 (0, 0)), (be, Obj.cells cur 148 (0, 0))]) [] ?_
     refine tkQ 0 ?_
     refine tkQ 1 ?_
     refine tkQ 2 ?_
     refine tkQ 3 ?_
     refine tkQ 4 ?_
     refine tkQ 5 ?_
     refine tkQ 6 ?_
     refine tkQ 7 ?_
     refine tkQ 8 ?_
     refine tkQ 9 ?_
     refine tkQ 10 ?_
     refine tkQ 11 ?_
     refine tkQ 12 ?_
     refine tkQ 13 ?_
     refine tkQ 14 ?_
     refine tkQ 15 ?_
     refine tkQ 16 ?_
     refine tkQ 17 ?_
     refine tkQ 18 ?_
     refine tkQ 19 ?_
     refine tkQ 20 ?_
     refine tkQ 21 ?_
     refine tkQ 22 ?_
     refine tkQ 23 ?_
     refine tkQ 24 ?_
     refine tkQ 25 ?_
     refine tkQ 26 ?_
     refine tkQ 27 ?_
     refine tkQ 28 ?_
     refine tdQ ?_
     refine goB ?_
     refine jq jb ([(rp, Obj.cells (jv q (.slice (some ⟨be, 0, none⟩) n c)) 146 (0, 0)), (be, Obj.cells cur 148 (0, 0))]) [] ?_
     refine tkQ 0 ?_
     refine tkQ 1 ?_
     refine tkQ 2 ?_
     refine tkQ 3 ?_
     refine tkQ 4 ?_
     refine tkQ 5 ?_
     refine tkQ 6 ?_
     refine tkQ 7 ?_
     refine tkQ 8 ?_
     refine tkQ 9 ?_
     refine tkQ 10 ?_
     refine tkQ 11 ?_
     refine tkQ 12 ?_
     refine tdQ ?_
     refine goB ?_
     refine jw (jc je rfl ask) rfl ?_
     rintro _ _ ⟨B', hB', rfl⟩
     obtain ⟨be2, cur2, hbe, rfl, hc2⟩ := Uq hB' (i := i) (x := V5 q.now x) (by rw [List.getElem?_set_self jd])
     obtain rfl : be = be2 := by injection hbe with h; injection h
     have m0 : cur2[0 + i * 4 + 0]? = some (.int .i64 x.up) := hc2 0 _ rfl
     simp only [List.cons_append, List.nil_append]
     repeat (first | refine goB ?_ | (refine jS ?_; intro bLit))
     refine jH (L' := (bLit, Obj.cells #[.int .i64 x.up] 3 (0, 0)) :: (Bs ++ ((rp, Obj.cells (jv q (.slice (some ⟨be, 0, none⟩) n c)) 146 (0, 0)) :: (be, Obj.cells cur2 148 (0, 0)) :: (Bg ++ L)))) ?_ jn
     refine qU etO rfl rfl hRs rfl (by unfold maxLen; omega) jd rfl ?_
     intro v4 B4 hR4
     obtain ⟨a4, c4, rfl⟩ := hR4.slice
     have k4 : ms.length + 1 = (ms ++ [x.up]).length := by simp
     rw [k4] at hR4 ⊢
     refine goB ?_
     refine jh (i + 1, (ag, cg, Bg), (a4, c4, B4), [(be, Obj.cells cur2 148 (0, 0))]) ⟨hlt, ?_, ?_, ?_⟩ ?_ ?_ ?_
     · dsimp only; rw [k2]; exact hRg
     · dsimp only; rw [k3]; simpa [kC] using hR4
     · dsimp only; rw [k1]; exact hB'
     · rw [k2, k3]
       exact jr
     · exact fun w hw => hw.cnt jn
     · dsimp only; omega
 · have hie : i = n := by omega
   subst hie
   have htl : q.list.take i = q.list := List.take_of_length_le jd
   rw [htl] at hRg hRs hmg9 hms9 ⊢
   rw [hn, ZZ] at hRe
   have hxl : (Hg.examine q).list.length = i := by simp [Hg.examine, hn]
   obtain ⟨mg, hmg⟩ : ∃ mg, mg = q.list.flatMap (Hg.goneE q.now q.wait q.tries) := ⟨_, rfl⟩
   obtain ⟨ms, hms⟩ : ∃ ms, ms = q.list.flatMap (Hg.sendE q.now q.wait q.tries) := ⟨_, rfl⟩
   rw [← hmg, ← hms] at htick
   rw [← hmg] at hRg hmg9 ⊢
   rw [← hms] at hRs hms9 ⊢
   have hev := hGq.every
   have hre := hGq.reached
   have hk0 : 0 ≤ (q.now - q.start) / q.every := Int.ediv_nonneg jd jd
   have hk1 : (q.now - q.start) / q.every ≤ q.now - q.start := Int.ediv_le_self _ jd
   have hdiv : Int.tdiv (q.now - q.start) q.every = (q.now - q.start) / q.every := Int.tdiv_eq_ediv_of_nonneg jd
   have hK : ∀ y ∈ [(rp, Obj.cells (jv q (.slice a i c)) 146 (0, 0))], y ∈ (rp, Obj.cells (jv q (.slice a i c)) 146 (0, 0)) :: (Be ++ (Bg ++ (Bs ++ L))) := fun y hy => by
    rw [List.mem_singleton.1 hy]; exact List.mem_cons_self ..
   by_cases hkr : q.reached < (q.now - q.start) / q.every
   · obtain ⟨q1, hq1⟩ : ∃ q1 : Pl, q1 = { Hg.examine q with reached := (q.now - q.start) / q.every } := ⟨_, rfl⟩
     have hq1l : q1.list = (Hg.examine q).list := by rw [hq1]
     have hq1F : Fr q1 := by rw [hq1]; exact hFq.examine.list rfl rfl
     have hhed : Hg.hedged (Hg.examine q) = if q1.asked < q1.list.length then (Hg.next q1, [Hg.upAt q1 q1.asked]) else (q1, []) := by
      unfold Hg.hedged
      rw [if_pos (by exact hkr), hq1]
      rfl
     have hst : (jv q (.slice a i c)).setIfInBounds (0 + 7) (.int .i64 ((q.now - q.start) / q.every)) = jv q1 (.slice a i c) := by rw [hq1]; rfl
     have hqr : (jv q1 (.slice a i c))[0 + 0]? = some (.slice a i c) := rfl
     rw [← hq1l] at hRe hxl
     have hn1 := Wa (G := G) (L := (rp, Obj.cells (jv q1 (.slice a q1.list.length c)) 146 (0, 0)) :: (Be ++ (Bg ++ (Bs ++ L)))) rp q1 a c (List.mem_cons_self ..) (hRe.sliceR zG (by simp) jf) hq1F jd
     rw [hxl] at hn1
     refine goB ?_
     refine jq jb ([(rp, Obj.cells (jv q (.slice a i c)) 146 (0, 0))]) [] ?_
     refine tkQ 0 ?_
     refine tkQ 1 ?_
     refine tkQ 2 ?_
     refine tkQ 3 ?_
     refine tkQ 4 ?_
     refine tkQ 5 ?_
     refine tkQ 6 ?_
     refine tkQ 7 ?_
     refine tkQ 8 ?_
     refine tkQ 9 ?_
     refine tkQ 10 ?_
     refine tkQ 11 ?_
     refine tkQ 12 ?_
     refine tkQ 13 ?_
     refine tkQ 14 ?_
     refine tdQ ?_
     refine goB ?_
     rw [hst]
     refine jw (jc je rfl hn1) rfl ?_
     rintro _ _ ⟨rfl, rfl⟩
     have hq1G : Good q1 := by
      rw [hq1]
      have := hGq.examine
      exact ⟨this.len, this.asked, this.want, this.tries, this.every, this.wait, this.now, ⟨hk0, by dsimp only; omega⟩, this.each⟩
     have hq1m : q1.made = true := by rw [hq1]; exact hmq
     by_cases hal : q1.asked < q1.list.length
     · rw [if_pos hal] at hhed
       rw [hhed] at htick hfin hfinF
       rw [← hxl, if_pos hal, hxl]
       obtain ⟨x, hx⟩ : ∃ x, q1.list[q1.asked]? = some x := ⟨_, List.getElem?_eq_getElem jd⟩
       have hfx := (hq1F _ _ hx).2 (Nat.le_refl _)
       have ask := aaa (G := G) (L := Bg ++ (Bs ++ L)) rp q1 q1.list a c Be q1.asked x hRe hx jd (by rw [hfx]; exact ⟨Int.le_refl _, by show (0 : Int) ≤ 4; decide⟩)
       rw [hxl] at ask
       refine goB ?_
       refine jw (jc je rfl ask) rfl ?_
       rintro _ _ ⟨B', hB', rfl⟩
       have hnl := Kv hq1F hx
       have hup : Hg.upAt q1 q1.asked = x.up := Wc hx
       obtain ⟨be, cur, rfl, rfl, hc⟩ := Uq hB' (i := q1.asked) (x := V5 q1.now x) (by rw [List.getElem?_set_self jd])
       have n0 : cur[0 + q1.asked * 4 + 0]? = some (.int .i64 x.up) := hc 0 _ rfl
       have fin := RPlan.of (rp := rp) (p := Hg.next q1) (B := [(be, Obj.cells cur 148 (0, 0))]) (c := c) (a := some ⟨be, 0, none⟩) (by rw [hnl]; exact hB') hfin hfinF hq1m
       have fl : (Hg.next q1).list.length = i := by rw [hnl, List.length_set, hxl]
       rw [fl] at fin
       have fr : jv (Hg.next q1) (.slice (some ⟨be, 0, none⟩) i c) = jv q1 (.slice (some ⟨be, 0, none⟩) i c) := rfl
       rw [fr] at fin
       rw [hup] at htick
       simp only [List.cons_append, List.nil_append]
       repeat (first | refine goB ?_ | (refine jS ?_; intro bLit))
       refine jH (L' := (bLit, Obj.cells #[.int .i64 x.up] 3 (0, 0)) :: (Bs ++ ((rp, Obj.cells (jv q1 (.slice (some ⟨be, 0, none⟩) i c)) 146 (0, 0)) :: (be, Obj.cells cur 148 (0, 0)) :: (Bg ++ L)))) ?_ jn
       refine qU etO rfl rfl hRs rfl (by unfold maxLen; omega) jd rfl ?_
       intro v4 B4 hR4
       obtain ⟨a4, c4, rfl⟩ := hR4.slice
       have k4 : ms.length + 1 = (ms ++ [x.up]).length := by simp
       rw [k4] at hR4 ⊢
       refine goB ?_
       refine jJ (L' := ((rp, Obj.cells (jv q1 (.slice (some ⟨be, 0, none⟩) i c)) 146 (0, 0)) :: [(be, Obj.cells cur 148 (0, 0))]) ++ (Bg ++ (B4 ++ L))) ?_ jn
       refine jM 4 5 _ _ rfl rfl rfl ?_
       rw [htick]
       exact ⟨ag, cg, a4, c4, Bg, B4, _, rfl, hRg, by simpa [kC] using hR4, fin, rfl⟩
     · rw [if_neg hal] at hhed
       rw [hhed] at htick hfin hfinF
       rw [List.append_nil] at htick
       rw [← hxl, if_neg hal, hxl]
       have fin := RPlan.of (rp := rp) (p := q1) hRe hfin hfinF hq1m
       rw [hxl] at fin
       rw [htick]
       refine goB ?_
       refine jM 4 5 _ _ rfl rfl rfl ?_
       exact ⟨ag, cg, as1, cs1, Bg, Bs, _, rfl, hRg, hRs, fin, rfl⟩
   · have hhed : Hg.hedged (Hg.examine q) = (Hg.examine q, []) := by
      unfold Hg.hedged
      rw [if_neg (by exact hkr)]
     rw [hhed] at htick hfin hfinF
     have fin := RPlan.of (rp := rp) (p := Hg.examine q) hRe hfin hfinF hmq
     rw [hxl] at fin
     rw [List.append_nil] at htick
     rw [htick]
     refine goB ?_
     refine jq jb ([(rp, Obj.cells (jv q (.slice a i c)) 146 (0, 0))]) [] ?_
     refine tkQ 0 ?_
     refine tkQ 1 ?_
     refine tkQ 2 ?_
     refine tkQ 3 ?_
     refine tkQ 4 ?_
     refine tkQ 5 ?_
     refine tkQ 6 ?_
     refine tkQ 7 ?_
     refine tkQ 8 ?_
     refine tkQ 9 ?_
     refine tkQ 10 ?_
     refine tkQ 11 ?_
     refine tkQ 12 ?_
     refine tkQ 13 ?_
     refine tkQ 14 ?_
     refine tdQ ?_
     refine goB ?_
     refine jM 4 5 _ _ rfl rfl rfl ?_
     exact ⟨ag, cg, as1, cs1, Bg, Bs, _, rfl, hRg, hRs, fin, rfl⟩
end
section
open Go.RowKit
open Hg (En Pl)
variable {G : World} {L : ja}
def yn (wait : Int) (d : Int × Bool) (x : En) : Int × Bool := if x.op = true ∧ (d.2 = false ∨ x.last + wait < d.1) then (x.last + wait, true) else d
theorem afj (wait : Int) (l : List En) (d : Int × Bool) : l.foldl (z9 wait) (if d.2 then min (Hg.top + 1) d.1 else Hg.top + 1) = if (l.foldl (yn wait) d).2 then min (Hg.top + 1) (l.foldl (yn wait) d).1 else Hg.top + 1 := by
 induction l generalizing d with
 | nil => rfl
 | cons x l ih =>
   rw [List.foldl_cons, List.foldl_cons, ← ih]
   congr 1
   obtain ⟨o, is⟩ := d
   unfold z9 yn
   cases hx : x.op <;> cases is <;> simp
   split <;> simp <;> omega
theorem aad (p : Pl) (h : Good p) : ∀ k, 0 ≤ ((p.list.take k).foldl (yn p.wait) (0, false)).1 ∧ ((p.list.take k).foldl (yn p.wait) (0, false)).1 ≤ Hg.top + 1000
 | 0 => by simp [Hg.top]
 | k + 1 => by
   have ih := aad p h k
   rw [List.take_add_one]
   cases hx : p.list[k]? with
   | none => simpa using ih
   | some x =>
     have h1 := h.each x (List.mem_of_getElem? hx)
     have h2 := h.wait
     have h3 := h.now
     simp only [Option.toList_some, List.foldl_append, List.foldl_cons, List.foldl_nil]
     generalize List.foldl (yn p.wait) (0, false) (List.take k p.list) = d at ih
     unfold yn
     split <;> omega
theorem Qm {α β : Type} (f : β → α → β) (l : List α) (z : β) {k : Nat} {x : α} (hx : l[k]? = some x) : (l.take (k + 1)).foldl f z = f ((l.take k).foldl f z) x := by
 rw [List.take_add_one, hx, List.foldl_append]; rfl
theorem aei (len asked : Nat) (o at1 now DL DT o2 : Int) (is is2 : Bool) (hn : now ≤ Hg.top) (hL : DL = if is then min (Hg.top + 1) o else Hg.top + 1) (hT : DT = max (if asked < len then min DL at1 else DL) (now + 1))
 (h : (asked < len ∧ (is = false ∨ at1 < o) ∧ o2 = at1 ∧ is2 = true) ∨ (¬ (asked < len ∧ (is = false ∨ at1 < o)) ∧ o2 = o ∧ is2 = is)) :
 (if Hg.top < DT then ((0, false) : Int × Bool) else (DT, true)) = if is2 = false ∨ Hg.top < max o2 (now + 1) then (0, false) else (max o2 (now + 1), true) := by
 have key : (Hg.top < DT ↔ (is2 = false ∨ Hg.top < max o2 (now + 1))) ∧ (¬ Hg.top < DT → DT = max o2 (now + 1)) := by
  rcases h with ⟨q1, q2, q3, q4⟩ | ⟨q1, q3, q4⟩
  · rw [if_pos q1] at hT
    subst q3 q4
    cases is with
    | false =>
      have hL' : DL = Hg.top + 1 := hL
      simp only [reduceCtorEq, false_or]
      omega
    | true =>
      have hL' : DL = min (Hg.top + 1) o := hL
      have q2' : o2 < o := q2.resolve_left (by decide)
      simp only [reduceCtorEq, false_or]
      omega
  · subst q3 q4
    cases is2 with
    | false =>
      have hL' : DL = Hg.top + 1 := hL
      have q1' : ¬ asked < len := fun k => q1 ⟨k, Or.inl rfl⟩
      rw [if_neg q1'] at hT
      simp only [true_or, iff_true]
      omega
    | true =>
      have hL' : DL = min (Hg.top + 1) o2 := hL
      simp only [reduceCtorEq, false_or]
      by_cases q3 : asked < len
      · have q1' : ¬ at1 < o2 := fun k => q1 ⟨q3, Or.inr k⟩
        rw [if_pos q3] at hT
        omega
      · rw [if_neg q3] at hT
        omega
 by_cases hc : Hg.top < DT
 · rw [if_pos hc, if_pos (key.1.1 hc)]
 · rw [if_neg hc, if_neg (fun k => hc (key.1.2 k)), key.2 hc]
theorem afk {rp : Nat} {p : Pl} {M : ja} (h : RPlan rp p M) (hb : p.begins = true) (hM : ∀ q ∈ M, q ∈ L) : Spec Tryz.prog G 65 #[.pointer (some ⟨rp, 0, none⟩)] L fun u N => u = .tuple #[.int .i64 (due p).1, .bool (due p).2] ∧ N = L := by
 obtain ⟨⟨a, c, B, hR, rfl⟩, hG, hF, hmd⟩ := h
 have h9 := hG.len
 have ha := hG.asked
 have hl0 : sliceR 4 enR L [.slice a p.list.length c] p.list := hR.sliceR zG (by simp) (fun q hq => hM q (by simp [hq]))
 have hp := hM _ (List.mem_cons_self ..)
 obtain ⟨_, _, _, hl⟩ := sliceR.cut hl0
 have r0 : (jv p (.slice a p.list.length c))[0 + 0]? = some (.slice a p.list.length c) := rfl
 have r1 : (jv p (.slice a p.list.length c))[0 + 1]? = some (.int .i64 p.want) := rfl
 have r2 : (jv p (.slice a p.list.length c))[0 + 2]? = some (.int .i64 p.every) := rfl
 have r3 : (jv p (.slice a p.list.length c))[0 + 3]? = some (.int .i64 p.wait) := rfl
 have r4 : (jv p (.slice a p.list.length c))[0 + 4]? = some (.int .i64 p.tries) := rfl
 have r5 : (jv p (.slice a p.list.length c))[0 + 5]? = some (.int .i64 p.start) := rfl
 have r6 : (jv p (.slice a p.list.length c))[0 + 6]? = some (.int .i64 p.now) := rfl
 have r7 : (jv p (.slice a p.list.length c))[0 + 7]? = some (.int .i64 p.reached) := rfl
 have r8 : (jv p (.slice a p.list.length c))[0 + 8]? = some (.bool p.begins) := rfl
 rw [hb] at r8
 have hnow := hG.now
 have hwt := hG.wait
 have hre := hG.reached
 have hev := hG.every
 have htop : Hg.top = 1099511627776 := rfl
 have hmul1 : 0 ≤ (p.reached + 1) * p.every := Int.mul_nonneg jd jd
 have hmul2 : (p.reached + 1) * p.every ≤ 1099511627777 * 1000 := Int.mul_le_mul jd jd jd jd
 have hn1 := Wa (G := G) (L := L) rp p a c hp hl0 hF h9
 have hK : ∀ q ∈ [(rp, Obj.cells (jv p (.slice a p.list.length c)) 146 (0, 0))], q ∈ L := fun q hq => by
  rw [List.mem_singleton.1 hq]; exact hp
 refine jm (n := 101) Tryz.func65 rfl rfl rfl ?_
 refine goB ?_
 refine jy (σ := Nat) (fun k => k ≤ p.list.length) (fun k => [(0, .pointer (some ⟨rp, 0, none⟩)), (4, .int .i64 ((p.list.take k).foldl (yn p.wait) (0, false)).1), (5, .bool ((p.list.take k).foldl (yn p.wait) (0, false)).2), (6, .int .i64 (k : Nat))]) (fun _ => L) (fun k => p.list.length - k) 0 (Nat.zero_le _) ?_ (fun w h => h) ?_
 exact jr
 rintro k hk
 have hin := aad p hG k
 by_cases hlt : k < p.list.length
 · obtain ⟨x, hx⟩ : ∃ x, p.list[k]? = some x := ⟨_, List.getElem?_eq_getElem hlt⟩
   have hbx := hG.each x (List.mem_of_getElem? hx)
   rcases hl with h0 | ⟨b1, o1, C1, t1, fr1, rfl, m1, q1⟩
   · rw [h0] at hlt; simp at hlt
   obtain ⟨cs, _, rfl, hcs⟩ := q1 k x hx
   have n2 : C1[o1 + k * 4 + 2]? = some (.int .i64 x.last) := hcs 2 _ rfl
   have n3 : C1[o1 + k * 4 + 3]? = some (.bool x.op) := hcs 3 _ rfl
   have hfs := Qm (yn p.wait) p.list (0, false) hx
   obtain ⟨⟨o, is⟩, hd⟩ : ∃ z, z = (p.list.take k).foldl (yn p.wait) (0, false) := ⟨_, rfl⟩
   rw [← hd] at hfs hin ⊢
   dsimp only at hin ⊢
   have hK2 : ∀ q ∈ [(rp, Obj.cells (jv p (.slice (some ⟨b1, o1, none⟩) p.list.length c)) 146 (0, 0)), (b1, Obj.cells C1 t1 fr1)], q ∈ L := fun q hq => by
    simp only [List.mem_cons, List.not_mem_nil, or_false] at hq
    rcases hq with rfl | rfl <;> assumption
   cases hop : x.op with
   | false =>
     rw [hop] at n3
     have e : yn p.wait (o, is) x = (o, is) := by unfold yn; rw [if_neg (by rw [hop]; simp)]
     rw [e] at hfs
     refine goB ?_
     refine jq jb ([(rp, Obj.cells (jv p (.slice (some ⟨b1, o1, none⟩) p.list.length c)) 146 (0, 0)), (b1, Obj.cells C1 t1 fr1)]) [] ?_
     refine tkQ 0 ?_
     refine tkQ 1 ?_
     refine tkQ 2 ?_
     refine tkQ 3 ?_
     refine tkQ 4 ?_
     refine tkQ 5 ?_
     refine tkQ 6 ?_
     refine tkQ 7 ?_
     refine tkQ 8 ?_
     refine tkQ 9 ?_
     refine tkQ 10 ?_
     refine tkQ 11 ?_
     refine tkQ 12 ?_
     refine tkQ 13 ?_
     refine tdQ ?_
     refine goB ?_
     refine jh (k + 1) hlt ?_ (fun w h => h) jd
     rw [hfs]
     exact jr
   | true =>
     rw [hop] at n3
     by_cases hlow : is = false ∨ x.last + p.wait < o
     · have e : yn p.wait (o, is) x = (x.last + p.wait, true) := by unfold yn; rw [if_pos ⟨hop, hlow⟩]
       rw [e] at hfs
       cases is with
       | false =>
         refine goB ?_
         refine jq jb ([(rp, Obj.cells (jv p (.slice (some ⟨b1, o1, none⟩) p.list.length c)) 146 (0, 0)), (b1, Obj.cells C1 t1 fr1)]) [] ?_
         refine tkQ 0 ?_
         refine tkQ 1 ?_
         refine tkQ 2 ?_
         refine tkQ 3 ?_
         refine tkQ 4 ?_
         refine tkQ 5 ?_
         refine tkQ 6 ?_
         refine tkQ 7 ?_
         refine tkQ 8 ?_
         refine tkQ 9 ?_
         refine tkQ 10 ?_
         refine tkQ 11 ?_
         refine tkQ 12 ?_
         refine tkQ 13 ?_
         refine tdQ ?_
         refine goB ?_
         refine jh (k + 1) hlt ?_ (fun w h => h) jd
         rw [hfs]
         exact jr
       | true =>
         have hlow2 : x.last + p.wait < o := hlow.resolve_left (by decide)
         refine goB ?_
         refine jq jb ([(rp, Obj.cells (jv p (.slice (some ⟨b1, o1, none⟩) p.list.length c)) 146 (0, 0)), (b1, Obj.cells C1 t1 fr1)]) [] ?_
         refine tkQ 0 ?_
         refine tkQ 1 ?_
         refine tkQ 2 ?_
         refine tkQ 3 ?_
         refine tkQ 4 ?_
         refine tkQ 5 ?_
         refine tkQ 6 ?_
         refine tkQ 7 ?_
         refine tkQ 8 ?_
         refine tkQ 9 ?_
         refine tkQ 10 ?_
         refine tkQ 11 ?_
         refine tkQ 12 ?_
         refine tkQ 13 ?_
         refine tdQ ?_
         refine goB ?_
         refine jh (k + 1) hlt ?_ (fun w h => h) jd
         rw [hfs]
         exact jr
     · have e : yn p.wait (o, is) x = (o, is) := by unfold yn; rw [if_neg (fun k => hlow k.2)]
       rw [e] at hfs
       have his : is = true := by
        cases is with
        | true => rfl
        | false => exact absurd (Or.inl rfl) hlow
       subst his
       have hlow2 : ¬ x.last + p.wait < o := fun k => hlow (Or.inr k)
       refine goB ?_
       refine jq jb ([(rp, Obj.cells (jv p (.slice (some ⟨b1, o1, none⟩) p.list.length c)) 146 (0, 0)), (b1, Obj.cells C1 t1 fr1)]) [] ?_
       refine tkQ 0 ?_
       refine tkQ 1 ?_
       refine tkQ 2 ?_
       refine tkQ 3 ?_
       refine tkQ 4 ?_
       refine tkQ 5 ?_
       refine tkQ 6 ?_
       refine tkQ 7 ?_
       refine tkQ 8 ?_
       refine tkQ 9 ?_
       refine tkQ 10 ?_
       refine tkQ 11 ?_
       refine tkQ 12 ?_
       refine tkQ 13 ?_
       refine tdQ ?_
       refine goB ?_
       refine jh (k + 1) hlt ?_ (fun w h => h) jd
       rw [hfs]
       exact jr
 · have hL : aaO p = if ((p.list.foldl (yn p.wait) (0, false)).2) then min (Hg.top + 1) ((p.list.foldl (yn p.wait) (0, false)).1) else Hg.top + 1 := afj p.wait p.list (0, false)
   rw [List.take_of_length_le jd] at hin ⊢
   obtain ⟨⟨o, is⟩, hd⟩ : ∃ z, z = p.list.foldl (yn p.wait) (0, false) := ⟨_, rfl⟩
   rw [← hd] at hL hin ⊢
   dsimp only at hL hin ⊢
   have hdue : due p = if Hg.top < dueT p then (0, false) else (dueT p, true) := by unfold due; rw [if_neg (by simp [hb])]
   have hT : dueT p = max (if p.asked < p.list.length then min (aaO p) (p.start + (p.reached + 1) * p.every) else aaO p) (p.now + 1) := rfl
   obtain ⟨at1, hat⟩ : ∃ z, z = p.start + (p.reached + 1) * p.every := ⟨_, rfl⟩
   rw [← hat] at hT
   have fin : ∀ (o2 : Int) (is2 : Bool), ((p.asked < p.list.length ∧ (is = false ∨ at1 < o) ∧ o2 = at1 ∧ is2 = true) ∨ (¬ (p.asked < p.list.length ∧ (is = false ∨ at1 < o)) ∧ o2 = o ∧ is2 = is)) →
    due p = if is2 = false ∨ Hg.top < max o2 (p.now + 1) then (0, false) else (max o2 (p.now + 1), true) := by
    intro o2 is2 h
    rw [hdue]
    exact aei p.list.length p.asked o at1 p.now (aaO p) (dueT p) o2 is is2 jd hL hT h
   refine goB ?_
   refine jq jb ([(rp, Obj.cells (jv p (.slice a p.list.length c)) 146 (0, 0))]) [] ?_
   refine tkQ 0 ?_
   refine tkQ 1 ?_
   refine tkQ 2 ?_
   refine tkQ 3 ?_
   refine tkQ 4 ?_
   refine tkQ 5 ?_
   refine tkQ 6 ?_
   refine tkQ 7 ?_
   refine tkQ 8 ?_
   refine tkQ 9 ?_
   refine tkQ 10 ?_
   refine tkQ 11 ?_
   refine tkQ 12 ?_
   refine tkQ 13 ?_
   refine tkQ 14 ?_
   refine tkQ 15 ?_
   refine tdQ ?_
   rw [← hat]
   repeat (with_reducible refine kZ ?_)
   refine KJ (σ := Int × Bool) (fun y => (0 ≤ y.1 ∧ y.1 ≤ 1099511627777 * 1001) ∧ due p = if y.2 = false ∨ Hg.top < max y.1 (p.now + 1) then (0, false) else (max y.1 (p.now + 1), true)) (fun y => [(0, .pointer (some ⟨rp, 0, none⟩)), (4, .int .i64 y.1), (5, .bool y.2)]) (fun _ => L) ?_ ?_
   · by_cases hal : p.asked < p.list.length
     · rw [if_pos hal] at hn1
       by_cases hlow : is = false ∨ at1 < o
       · have f := fin at1 true (Or.inl ⟨hal, hlow, rfl, rfl⟩)
         have hcase : is = false ∨ (is = true ∧ at1 < o) := by
          cases is with
          | false => exact Or.inl rfl
          | true => exact Or.inr ⟨rfl, hlow.resolve_left (by decide)⟩
         rcases hcase with rfl | ⟨rfl, hlow2⟩
         all_goals
          repeat (first | refine goB ?_ | (refine' kf (jc je rfl (hn1 )) rfl ?_))
          refine j9 (at1, true) ⟨by dsimp only; omega, f⟩ ?_ (fun w h => h)
          exact jr
       · have f := fin o is (Or.inr ⟨fun k => hlow k.2, rfl, rfl⟩)
         have his : is = true := by
          cases is with
          | true => rfl
          | false => exact absurd (Or.inl rfl) hlow
         subst his
         have hlow2 : ¬ at1 < o := fun k => hlow (Or.inr k)
         repeat (first | refine goB ?_ | (refine' kf (jc je rfl (hn1 )) rfl ?_))
         refine j9 (o, true) ⟨by dsimp only; omega, f⟩ ?_ (fun w h => h)
         exact jr
     · rw [if_neg hal] at hn1
       have f := fin o is (Or.inr ⟨fun k => hal k.1, rfl, rfl⟩)
       repeat (first | refine goB ?_ | (refine' kf (jc je rfl (hn1 )) rfl ?_))
       refine j9 (o, is) ⟨by dsimp only; omega, f⟩ ?_ (fun w h => h)
       exact jr
   rintro ⟨o2, is2⟩ ⟨⟨hb1, hb2⟩, f⟩
   dsimp only at hb1 hb2 f ⊢
   rw [f]
   by_cases hle : o2 ≤ p.now
   · have e : max o2 (p.now + 1) = p.now + 1 := by omega
     rw [e]
     by_cases ht : is2 = false ∨ Hg.top < p.now + 1
     · rw [if_pos ht]
       cases is2 with
       | false =>
         refine goB ?_
         refine jM 2 3 _ _ rfl rfl rfl ?_
         exact ⟨rfl, rfl⟩
       | true =>
         have ht2 := ht.resolve_left (by decide)
         refine goB ?_
         refine jM 2 3 _ _ rfl rfl rfl ?_
         exact ⟨rfl, rfl⟩
     · rw [if_neg ht]
       cases is2 with
       | false => exact absurd (Or.inl rfl) ht
       | true =>
         have ht2 : ¬ Hg.top < p.now + 1 := fun k => ht (Or.inr k)
         refine goB ?_
         refine jM 2 3 _ _ rfl rfl rfl ?_
         exact ⟨rfl, rfl⟩
   · have e : max o2 (p.now + 1) = o2 := by omega
     rw [e]
     by_cases ht : is2 = false ∨ Hg.top < o2
     · rw [if_pos ht]
       cases is2 with
       | false =>
         refine goB ?_
         refine jM 2 3 _ _ rfl rfl rfl ?_
         exact ⟨rfl, rfl⟩
       | true =>
         have ht2 := ht.resolve_left (by decide)
         refine goB ?_
         refine jM 2 3 _ _ rfl rfl rfl ?_
         exact ⟨rfl, rfl⟩
     · rw [if_neg ht]
       cases is2 with
       | false => exact absurd (Or.inl rfl) ht
       | true =>
         have ht2 : ¬ Hg.top < o2 := fun k => ht (Or.inr k)
         refine goB ?_
         refine jM 2 3 _ _ rfl rfl rfl ?_
         exact ⟨rfl, rfl⟩
end
end Go.Proofs.YtbjkkoacclfejaaGreat
