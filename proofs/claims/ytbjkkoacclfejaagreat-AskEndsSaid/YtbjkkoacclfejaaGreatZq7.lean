/-
 Part 7: Fb Sq Er Es Et Eu Ev Ew Ey Fc Fd Ez Fe Ff Fg OpE OpU.
-/
import Derived.Test.YtbjkkoacclfejaaGreatZq6
import Derived.Test.YtbjkkoacclfejaaGreatZq1
import Derived.Test.YtbjkkoacclfejaaGreatZq2
import Derived.Test.YtbjkkoacclfejaaGreatZq3
import Derived.Test.YtbjkkoacclfejaaGreatZq4
set_option maxRecDepth 100000
set_option maxHeartbeats 32000000
set_option linter.unusedVariables false
set_option linter.unusedSimpArgs false
namespace Go.Proofs.YtbjkkoacclfejaaGreat
section
open Hg (En Pl)
open Vd (RSet Vdt Vote Rec Quest Piece Ballot)
structure Bk where
 times : Int → Int
 shut : Int → Bool
 overs : Int
namespace Bk
def zero : Bk := ⟨fun _ => 0, fun _ => false, 0⟩
def told (b : Bk) (d : Dd) : Bk := if 0 < b.overs then b else ⟨fun u => b.times u + (d.sends.count u : Nat), fun u => b.shut u || d.gone.contains u, b.overs + if d.over then 1 else 0⟩
def put (b : Bk) (u : Int) : Bk := { b with shut := fun v => b.shut v || v == u }
end Bk
structure TOk (us : List Int) (tries : Int) (b : Bk) (d : Dd) : Prop where
 past : 0 < b.overs → d = Dd.none
 zero : 0 ≤ b.overs ∧ b.overs ≤ 1
 sends : b.overs = 0 → ∀ u ∈ d.sends, (0 ≤ u ∧ u < 9) ∧ b.shut u = false ∧ u ∈ us ∧ b.times u + (d.sends.count u : Nat) ≤ tries
 gone : b.overs = 0 → ∀ u ∈ d.gone, (0 ≤ u ∧ u < 9) ∧ b.shut u = false ∧ 1 ≤ b.times u + (d.sends.count u : Nat)
 nod : b.overs = 0 → d.gone.Nodup
 ends : b.overs = 0 → (d.over || !d.done) = true
 num : ∀ u, 0 ≤ b.times u ∧ b.times u ≤ 4
structure Rb (b : Bk) (p : Pl) : Prop where
 row : ∀ x ∈ p.list, b.times x.up = x.asked ∧ b.shut x.up = qs x
 out : ∀ u, u ∉ km p → b.times u = 0 ∧ b.shut u = false
structure KR (us : List Int) (tries : Int) (b : Bk) (a : As) : Prop where
 over : a.over = true → b.overs = 1
 not : a.over = false → b.overs = 0 ∧ Rb b a.p
 ups : km a.p = us
 tries : a.p.tries = tries
 num : ∀ u, 0 ≤ b.times u ∧ b.times u ≤ 4
theorem Rb.num {b : Bk} {p : Pl} (h : Rb b p) (hg : Good p) (u : Int) : 0 ≤ b.times u ∧ b.times u ≤ 4 := by
 have ht := hg.tries
 by_cases hu : u ∈ km p
 · obtain ⟨x, hx, rfl⟩ := List.mem_map.1 hu
   have h1 := (h.row x hx).1
   have h2 := hg.each x hx
   omega
 · have := (h.out u hu).1
   omega
theorem Rb.stp {b : Bk} {p q : Pl} {d : Dd} (h : Rb b p) (hs : Stp p q d.sends d.gone) (h0 : b.overs = 0) : Rb (b.told d) q := by
 have e : b.told d = ⟨fun u => b.times u + (d.sends.count u : Nat), fun u => b.shut u || d.gone.contains u, b.overs + if d.over then 1 else 0⟩ := by unfold Bk.told; rw [if_neg jf]
 rw [e]
 refine ⟨fun y hy => ?_, fun u hu => ?_⟩
 · obtain ⟨i, hi⟩ := List.mem_iff_getElem?.1 hy
   obtain ⟨x, hx⟩ : ∃ x, p.list[i]? = some x := ⟨_, List.getElem?_eq_getElem (by rw [← hs.len]; exact (List.getElem?_eq_some_iff.1 hi).1)⟩
   obtain ⟨r1, r2, _, _⟩ := hs.row i x y hx hi
   obtain ⟨q1, q2⟩ := h.row x (List.mem_of_getElem? hx)
   dsimp only
   rw [hs.upAt hx hi, q1, q2]
   exact ⟨r1.symm, r2.symm⟩
 · rw [hs.ups] at hu
   obtain ⟨q1, q2⟩ := h.out u hu
   dsimp only
   rw [q1, q2, List.count_eq_zero.2 (fun hm => hu (hs.inS u hm))]
   refine ⟨rfl, ?_⟩
   rw [Bool.false_or, Bool.eq_false_iff]
   exact fun hc => hu (hs.inG u (List.contains_iff_mem.1 hc))
theorem KR.step {us : List Int} {tries : Int} {b : Bk} {a a' : As} {d : Dd} (h : KR us tries b a) (hr : ∀ u ∈ us, 0 ≤ u ∧ u < 9) (ho : a.over = false) (hs : Stp a.p a'.p d.sends d.gone) (hov : a'.over = d.over) (hdn : (d.over || !d.done) = true) (hg : Good a'.p) :
 TOk us tries b d ∧ KR us tries (b.told d) a' := by
 obtain ⟨h0, hb⟩ := h.not ho
 have hb' := hb.stp hs h0
 have e : b.told d = ⟨fun u => b.times u + (d.sends.count u : Nat), fun u => b.shut u || d.gone.contains u, b.overs + if d.over then 1 else 0⟩ := by unfold Bk.told; rw [if_neg jf]
 have hin : ∀ u, u ∈ km a.p → ∃ x y, x.up = u ∧ y ∈ a'.p.list ∧ b.times u = x.asked ∧ b.shut u = qs x ∧ y.asked = x.asked + (d.sends.count u : Nat) ∧ (u ∈ d.sends → qs x = false) ∧ (u ∈ d.gone → qs x = false ∧ 1 ≤ y.asked) := fun u hu => by
  obtain ⟨x, hx, rfl⟩ := List.mem_map.1 hu
  obtain ⟨i, hi⟩ := List.mem_iff_getElem?.1 hx
  obtain ⟨y, hy⟩ : ∃ y, a'.p.list[i]? = some y := ⟨_, List.getElem?_eq_getElem (by rw [hs.len]; exact (List.getElem?_eq_some_iff.1 hi).1)⟩
  obtain ⟨r1, _, r3, r4⟩ := hs.row i x y hi hy
  exact ⟨x, y, rfl, List.mem_of_getElem? hy, (hb.row x hx).1, (hb.row x hx).2, r1, r3, r4⟩
 refine ⟨⟨fun hp => by omega, by omega, fun _ u hu => ?_, fun _ u hu => ?_, fun _ => hs.nod, fun _ => hdn, h.num⟩, ?_, fun ho' => ?_, hs.ups.trans h.ups, hs.tries.trans h.tries, hb'.num hg⟩
 · have hm := hs.inS u hu
   obtain ⟨x, y, e1, hy, e2, e3, e4, e5, _⟩ := hin u hm
   rw [h.ups] at hm
   refine ⟨hr u hm, by rw [e3]; exact e5 hu, hm, ?_⟩
   have := (hg.each y hy).2.2.2
   rw [hs.tries, h.tries] at this
   omega
 · have hm := hs.inG u hu
   obtain ⟨x, y, e1, hy, e2, e3, e4, _, e6⟩ := hin u hm
   rw [h.ups] at hm
   exact ⟨hr u hm, by rw [e3]; exact (e6 hu).1, by have := (e6 hu).2; omega⟩
 · intro ho'
   rw [e]
   dsimp only
   rw [← hov, ho', if_pos rfl]
   omega
 · refine ⟨?_, hb'⟩
   rw [e]
   dsimp only
   rw [← hov, ho', h0]
   rfl
theorem KR.past {us : List Int} {tries : Int} {b : Bk} {a : As} (h : KR us tries b a) (ho : a.over = true) : TOk us tries b Dd.none ∧ b.told Dd.none = b := by
 have h1 := h.over ho
 exact ⟨⟨fun _ => rfl, by omega, fun k => by omega, fun k => by omega, fun k => by omega, fun k => by omega, h.num⟩, by unfold Bk.told; rw [if_pos jf]⟩
theorem AOk.tickA {a : As} (h : AOk a) (t : Int) : AOk (Aq.tick a t).1 := by
 unfold Aq.tick
 split
 · exact h
 · split
   · exact (h.upto t).over true
   · exact (jT (a := { (Aq.upto a t) with p := (Hg.tick a.p (Aq.upto a t).now).1 }) ((h.upto t).tick _)).1
theorem AOk.passA {a : As} (h : AOk a) (u t : Int) : AOk (Aq.pass a u t).1 := by
 unfold Aq.pass
 split
 · exact h
 · split
   · exact (jT (AOk.put (a := Aq.upto { a with p := (Hg.close a.p u).1 } t) ((h.close u).upto t) ⟨⟨u, Vdt.none, 0⟩, true⟩)).1
   · exact h.close u
theorem KR.tick {us : List Int} {tries : Int} {b : Bk} {a : As} (h : KR us tries b a) (hr : ∀ u ∈ us, 0 ≤ u ∧ u < 9) (hn : us.Nodup) (ha : AOk a) (t : Int) : TOk us tries b (Aq.tick a t).2 ∧ KR us tries (b.told (Aq.tick a t).2) (Aq.tick a t).1 := by
 cases ho : a.over with
 | true =>
   have e : Aq.tick a t = (a, Dd.none) := by unfold Aq.tick; rw [if_pos ho]
   obtain ⟨h1, h2⟩ := h.past ho
   rw [e]
   exact ⟨h1, by dsimp only; rw [h2]; exact h⟩
 | false =>
   have hok := ha.tickA t
   unfold Aq.tick at hok ⊢
   rw [if_neg (by rw [ho]; decide)] at hok ⊢
   split
   · exact h.step hr ho (Stp.same rfl rfl) rfl rfl (ha.upto t).good
   · rename_i he
     rw [if_neg he] at hok
     have hnp : (km a.p).Nodup := by rw [h.ups]; exact hn
     have s1 := Stp.tick ha.good ha.fr hnp (Aq.upto a t).now
     obtain ⟨r, k1, k2, k3, k4, k5⟩ := JK { (Aq.upto a t) with p := (Hg.tick a.p (Aq.upto a t).now).1 } { Dd.none with sends := (Hg.tick a.p (Aq.upto a t).now).2.2, gone := (Hg.tick a.p (Aq.upto a t).now).2.1 } (ha.fr.tick _) (by show (km (Hg.tick a.p _).1).Nodup; rw [s1.ups]; exact hnp) ho rfl rfl
     refine h.step hr ho ?_ k4 k5 hok.good
     rw [k1, k3]
     exact s1.trans k2
theorem yd (u : Int) : ∀ (l : List En), (l.map (·.up)).Nodup → Hg.closeL u l = l.map fun x => if Hg.isIt u x then { x with op := false } else x
 | [], _ => rfl
 | x :: r, hn => by
   rw [List.map_cons, List.nodup_cons] at hn
   unfold Hg.closeL
   rw [List.map_cons]
   split
   · rename_i hx
     congr 1
     refine ((List.map_congr_left fun y hy => ?_).trans (List.map_id r)).symm
     have hxu : x.up = u := by unfold Hg.isIt at hx; simp at hx; exact hx.1
     have : Hg.isIt u y = false := by
      unfold Hg.isIt
      have : y.up ≠ u := fun e => hn.1 (by rw [hxu, ← e]; exact List.mem_map_of_mem hy)
      simp [this]
     rw [this]
     rfl
   · rename_i hx
     rw [yd u r hn.2]
def Bk.was (b : Bk) (u : Int) : Bool := decide (b.overs = 0) && (decide (0 ≤ u ∧ u < 9) && (decide (0 < b.times u) && !b.shut u))
theorem aa0 {p : Pl} (hf : Fr p) {x : En} (hx : x ∈ p.list) (ho : x.op = true) : 1 ≤ x.asked := by
 obtain ⟨i, hi⟩ := List.mem_iff_getElem?.1 hx
 obtain ⟨h1, h2⟩ := hf i x hi
 rcases Nat.lt_or_ge i p.asked with h | h
 · exact h1 h
 · have := h2 h
   rw [this] at ho
   cases ho
theorem Rb.was {b : Bk} {p : Pl} (h : Rb b p) (hf : Fr p) (hr : ∀ u ∈ km p, 0 ≤ u ∧ u < 9) (h0 : b.overs = 0) (u : Int) : (Hg.close p u).2 = b.was u := by
 unfold Hg.close Bk.was
 dsimp only
 rw [Bool.eq_iff_iff, List.any_eq_true]
 simp only [Bool.and_eq_true, decide_eq_true_eq, Bool.not_eq_true']
 refine ⟨fun ⟨x, hx, hi⟩ => ?_, fun ⟨_, hru, ht, hs⟩ => ?_⟩
 · unfold Hg.isIt at hi
   simp only [Bool.and_eq_true, beq_iff_eq] at hi
   obtain ⟨rfl, ho⟩ := hi
   have ha := aa0 hf hx ho
   obtain ⟨r1, r2⟩ := h.row x hx
   exact ⟨h0, hr _ (List.mem_map_of_mem hx), by omega, by rw [r2]; unfold qs; rw [ho]; simp⟩
 · by_cases hu : u ∈ km p
   · obtain ⟨x, hx, rfl⟩ := List.mem_map.1 hu
     obtain ⟨r1, r2⟩ := h.row x hx
     refine ⟨x, hx, ?_⟩
     rw [hs] at r2
     unfold qs at r2
     have : decide (1 ≤ x.asked) = true := decide_eq_true jf
     rw [this] at r2
     unfold Hg.isIt
     simp at r2 ⊢
     exact r2.symm ▸ rfl
   · have := (h.out u hu).1
     omega
theorem Vn {p : Pl} {u : Int} (h : (Hg.close p u).2 = false) : (Hg.close p u).1.list = p.list := by
 unfold Hg.close at h ⊢
 dsimp only at h ⊢
 rw [List.any_eq_false] at h
 have : ∀ l : List En, (∀ x ∈ l, ¬ Hg.isIt u x = true) → Hg.closeL u l = l := fun l => by
  induction l with
  | nil => exact fun _ => rfl
  | cons x r ih =>
    intro hl
    unfold Hg.closeL
    rw [if_neg (hl x (List.mem_cons_self ..)), ih fun y hy => hl y (List.mem_cons_of_mem _ hy)]
 exact this _ h
theorem KD {p : Pl} (hn : (km p).Nodup) (u : Int) : km (Hg.close p u).1 = km p := by
 unfold km Hg.close
 dsimp only
 rw [yd u p.list hn, List.map_map]
 exact List.map_congr_left fun x _ => by dsimp only [Function.comp]; split <;> rfl
theorem Rb.close {b : Bk} {p : Pl} (h : Rb b p) (hf : Fr p) (hn : (km p).Nodup) (hr : ∀ u ∈ km p, 0 ≤ u ∧ u < 9) (h0 : b.overs = 0) {u : Int} (hw : b.was u = true) : Rb (b.put u) (Hg.close p u).1 := by
 have hwu := hw
 unfold Bk.was at hwu
 simp only [Bool.and_eq_true, decide_eq_true_eq, Bool.not_eq_true'] at hwu
 obtain ⟨_, hru, ht, hs⟩ := hwu
 refine ⟨fun y hy => ?_, fun v hv => ?_⟩
 · have hy' : y ∈ p.list.map fun x => if Hg.isIt u x then { x with op := false } else x := by rw [← yd u p.list hn]; exact hy
   obtain ⟨x, hx, rfl⟩ := List.mem_map.1 hy'
   obtain ⟨r1, r2⟩ := h.row x hx
   cases hi : Hg.isIt u x with
   | true =>
     rw [if_pos rfl]
     have hi' := hi
     unfold Hg.isIt at hi'
     simp only [Bool.and_eq_true, beq_iff_eq] at hi'
     obtain ⟨rfl, ho⟩ := hi'
     have ha := aa0 hf hx ho
     refine ⟨r1, ?_⟩
     simp [Bk.put, qs, ha]
   | false =>
     rw [if_neg (by decide)]
     refine ⟨r1, ?_⟩
     have hne : x.up ≠ u := fun e => by
      subst e
      rw [hs] at r2
      unfold qs at r2
      unfold Hg.isIt at hi
      have : decide (1 ≤ x.asked) = true := decide_eq_true jf
      rw [this] at r2
      simp at hi r2
      rw [hi] at r2
      cases r2
     simp [Bk.put, r2, hne]
 · rw [KD hn] at hv
   obtain ⟨q1, q2⟩ := h.out v hv
   refine ⟨q1, ?_⟩
   have : v ≠ u := fun e => by subst e; omega
   simp [Bk.put, q2, this]
theorem KR.pass {us : List Int} {tries : Int} {b : Bk} {a : As} (h : KR us tries b a) (hr : ∀ u ∈ us, 0 ≤ u ∧ u < 9) (hn : us.Nodup) (ha : AOk a) (u t : Int) :
 (b.was u = false → (Aq.pass a u t).2 = Dd.none) ∧ TOk us tries (if b.was u then b.put u else b) (Aq.pass a u t).2 ∧ KR us tries ((if b.was u then b.put u else b).told (Aq.pass a u t).2) (Aq.pass a u t).1 ∧ ((Aq.pass a u t).1.over = false → (Hg.close (Aq.pass a u t).1.p u).2 = false) := by
 cases ho : a.over with
 | true =>
   have e : Aq.pass a u t = (a, Dd.none) := by unfold Aq.pass; rw [if_pos ho]
   obtain ⟨h1, h2⟩ := h.past ho
   have hw : b.was u = false := by unfold Bk.was; rw [decide_eq_false (by have := h.over ho; omega)]; rfl
   rw [e, hw]
   exact ⟨fun _ => rfl, h1, by rw [if_neg (by decide), h2]; exact h, fun k => (by rw [ho] at k; cases k)⟩
 | false =>
   obtain ⟨h0, hb⟩ := h.not ho
   have hnp : (km a.p).Nodup := by rw [h.ups]; exact hn
   have hrp : ∀ u ∈ km a.p, 0 ≤ u ∧ u < 9 := by rw [h.ups]; exact hr
   have hw := hb.was ha.fr hrp h0 u
   have hcu := KD hnp u
   cases hwv : b.was u with
   | false =>
     rw [hwv] at hw
     have e : Aq.pass a u t = ({ a with p := (Hg.close a.p u).1 }, Dd.none) := by unfold Aq.pass; rw [if_neg (by rw [ho]; decide), if_neg (by rw [hw]; decide)]
     have hl := Vn hw
     rw [e, if_neg (by decide)]
     have := h.step (a' := { a with p := (Hg.close a.p u).1 }) (d := Dd.none) hr ho (Stp.same hl rfl) ho rfl (ha.close u).good
     refine ⟨fun _ => rfl, this.1, this.2, fun _ => ?_⟩
     show ((Hg.close a.p u).1.list.any (Hg.isIt u)) = false
     rw [hl]
     exact hw
   | true =>
     rw [hwv] at hw
     have hk : KR us tries (b.put u) { a with p := (Hg.close a.p u).1 } := ⟨fun k => (by rw [ho] at k; cases k), fun _ => ⟨h0, hb.close ha.fr hnp hrp h0 hwv⟩, hcu.trans h.ups, h.tries, h.num⟩
     have hok := ha.passA u t
     unfold Aq.pass at hok ⊢
     rw [if_neg (by rw [ho]; decide), if_pos hw] at hok ⊢
     rw [if_pos rfl]
     obtain ⟨r, k1, k2, k3, k4, k5⟩ := JK { (Aq.upto { a with p := (Hg.close a.p u).1 } t) with l := (Vd.putB a.l ⟨⟨u, Vdt.none, 0⟩, true⟩).1 } Dd.none (ha.fr.close u) (by show (km (Hg.close a.p u).1).Nodup; rw [hcu]; exact hnp) ho rfl rfl
     have k2' : Stp (Hg.close a.p u).1 (Aq.look { (Aq.upto { a with p := (Hg.close a.p u).1 } t) with l := (Vd.putB a.l ⟨⟨u, Vdt.none, 0⟩, true⟩).1 } Dd.none).1.p r [] := k2
     have hst : Stp (Hg.close a.p u).1 (Aq.look { (Aq.upto { a with p := (Hg.close a.p u).1 } t) with l := (Vd.putB a.l ⟨⟨u, Vdt.none, 0⟩, true⟩).1 } Dd.none).1.p (Aq.look { (Aq.upto { a with p := (Hg.close a.p u).1 } t) with l := (Vd.putB a.l ⟨⟨u, Vdt.none, 0⟩, true⟩).1 } Dd.none).2.sends (Aq.look { (Aq.upto { a with p := (Hg.close a.p u).1 } t) with l := (Vd.putB a.l ⟨⟨u, Vdt.none, 0⟩, true⟩).1 } Dd.none).2.gone := by
      rw [k1, k3]; exact k2'
     have hs := hk.step hr ho hst k4 k5 hok.good
     refine ⟨fun k => (by cases k), hs.1, hs.2, fun hov => ?_⟩
     have hnot := (hs.2.not hov)
     have hfr := hok.fr
     rw [hnot.2.was hfr (by rw [hs.2.ups]; exact hr) hnot.1 u]
     unfold Bk.was
     have : ((b.put u).told (Aq.look { (Aq.upto { a with p := (Hg.close a.p u).1 } t) with l := (Vd.putB a.l ⟨⟨u, Vdt.none, 0⟩, true⟩).1 } Dd.none).2).shut u = true := by
      unfold Bk.told
      rw [if_neg (by show ¬ 0 < b.overs; omega)]
      simp [Bk.put]
     rw [this]
     simp
end
section
open Go.RowKit
structure RemO (q : Nat × Obj) (L R : ja) : Prop where out : ∀ p, cnt p L = hit p q + cnt p R
structure RemA (A L R : ja) : Prop where out : ∀ p, cnt p L = cnt p A + cnt p R
structure Fits (M L : ja) : Prop where out : ∀ p, cnt p M ≤ cnt p L
section
variable {q r : Nat × Obj} {A B L M R R1 : ja}
theorem KE : RemO q (q :: R) R := ⟨fun p => by rw [j8]⟩
theorem WC {b : Nat} {o o' : Obj} (e : o' = o) : RemO (b, o) ((b, o') :: R) R := e ▸ KE
theorem WD (h : RemO q R R1) : RemO q (r :: R) (r :: R1) := ⟨fun p => by rw [j8, j8, h.out p]; omega⟩
theorem Y8 (h : RemO q R R1) : RemO q (B ++ R) (B ++ R1) := ⟨fun p => by rw [kD, kD, h.out p]; omega⟩
theorem WE : RemA A (A ++ R) R := ⟨fun p => by rw [kD]⟩
theorem Y9 : RemA A A [] := ⟨fun p => by rw [zR]; omega⟩
theorem WF (h : RemA A R R1) : RemA A (r :: R) (r :: R1) := ⟨fun p => by rw [j8, j8, h.out p]; omega⟩
theorem Za (h : RemA A R R1) : RemA A (B ++ R) (B ++ R1) := ⟨fun p => by rw [kD, kD, h.out p]; omega⟩
theorem WG : Fits L L := ⟨fun p => Nat.le_refl _⟩
theorem Zb : Fits [] L := ⟨fun p => by rw [zR]; omega⟩
theorem WH (h : RemO q L R) (k : Fits M R) : Fits (q :: M) L := ⟨fun p => by rw [j8, h.out p]; have := k.out p; omega⟩
theorem Zc (h : RemA A L R) (k : Fits M R) : Fits (A ++ M) L := ⟨fun p => by rw [kD, h.out p]; have := k.out p; omega⟩
theorem Zd (h : RemA A L R) : Fits A L := ⟨fun p => by rw [h.out p]; omega⟩
theorem Ze {N : ja} (h : Fits (A ++ (M ++ N)) L) : Fits ((A ++ M) ++ N) L := by rw [List.append_assoc]; exact h
theorem Zf (h : Fits (q :: (A ++ M)) L) : Fits ((q :: A) ++ M) L := h
theorem Zg (h : Fits M L) : Fits ([] ++ M) L := h
theorem WI {L' : ja} (e : L = L') (h : Fits M L') : Fits M L := e ▸ h
end
theorem adF {q : Nat × Obj} {L R : ja} (h : RemO q L R := by repeat (first | with_reducible exact KE | ((with_reducible apply WC); exact rfl) | with_reducible apply WD | with_reducible apply Y8)) : RemO q L R := h
theorem aa1 {A L R : ja} (h : RemA A L R := by repeat (first | with_reducible exact WE | with_reducible exact Y9 | with_reducible apply WF | with_reducible apply Za)) : RemA A L R := h
theorem kn {M L : ja} (h : Fits M L := by
 apply WI
 · (try simp only [List.append_assoc, List.cons_append, List.nil_append]); exact rfl
 repeat (first | with_reducible exact WG | with_reducible exact Zb | with_reducible apply Ze | with_reducible apply Zf | with_reducible apply Zg | ((with_reducible apply WH); · exact adF) | ((with_reducible apply Zc); · exact aa1) | ((with_reducible apply Zd); exact aa1))) : Fits M L := h
section
variable {P : Program} {G : World} {n : Nat} {ρ : jp} {L M : ja} {op : Op} {ty : TypeId} {v : Value} {Q : Exit → Act → World → Prop} {ops : Array Oper}
theorem Fits.heap (h : Fits M L) : ∀ w, Heap G w L → Heap G w M := fun w hw => hw.cnt h.out
theorem OpT.fits {Φ : Value → ja → Prop} (h : OpT P G ρ M op ty Φ) (k : Fits M L) : OpT P G ρ L op ty Φ := OpT.heap (fun w hw => hw.cnt k.out) h
theorem Uu {d : Nat} {f : FuncId} {xs : List Operand} {ats : Array TypeId} {pos : String} {after : Array Edge} {rest : List Oper} {vs : List Value} {Φ : Value → ja → Prop}
 (hspec : Spec P G f vs.toArray M Φ) (hr : ∀ v L', Φ v L' → TL P G ops n ((d, v) :: ρ) L' rest Q) (hv : kk ρ xs = some vs := by exact rfl) (hf : Fits M L := by exact kn) (hb : kB P f = true := by kernel_rfl) (hd : Nat.blt d n = true := by exact rfl) :
 TL P G ops n ρ L (⟨some d, .call ⟨.value (.func f), xs.toArray, ats⟩, ty, pos, after, none⟩ :: rest) Q :=
 jx ((jb hb hv hspec).fits hf) hd hr
theorem Zh {d : Nat} {f : FuncId} {xs : List Operand} {ats : Array TypeId} {rest : List Oper} {vs : List Value} {Φ : Value → ja → Prop}
 (hspec : Spec P G f vs.toArray M Φ) (hr : ∀ v L', Φ v L' → TL P G ops n ((d, v) :: ρ) L' rest Q) (hv : kk ρ xs = some vs := by exact rfl) (hf : Fits M L := by exact kn) (hb : kB P f = true := by kernel_rfl) (hd : Nat.blt d n = true := by exact rfl) :
 TG P G ops n ρ L d (.call ⟨.value (.func f), xs.toArray, ats⟩) ty rest Q :=
 qq ((jb hb hv hspec).fits hf) hd hr
theorem Zi {d : Nat} {f : FuncId} {xs : List Operand} {ats : Array TypeId} {pos : String} {after : Array Edge} {rest : List Oper} {vs : List Value}
 (hspec : Spec P G f vs.toArray L fun u N => u = v ∧ N = L) (hr : TL P G ops n ((d, v) :: ρ) L rest Q) (hv : kk ρ xs = some vs := by exact rfl) (hb : kB P f = true := by kernel_rfl) (hd : Nat.blt d n = true := by exact rfl) :
 TL P G ops n ρ L (⟨some d, .call ⟨.value (.func f), xs.toArray, ats⟩, ty, pos, after, none⟩ :: rest) Q :=
 jX (jb hb hv hspec) hd hr
theorem Uv {d : Nat} {f : FuncId} {xs : List Operand} {ats : Array TypeId} {rest : List Oper} {vs : List Value}
 (hspec : Spec P G f vs.toArray L fun u N => u = v ∧ N = L) (hr : TL P G ops n ((d, v) :: ρ) L rest Q) (hv : kk ρ xs = some vs := by exact rfl) (hb : kB P f = true := by kernel_rfl) (hd : Nat.blt d n = true := by exact rfl) :
 TG P G ops n ρ L d (.call ⟨.value (.func f), xs.toArray, ats⟩) ty rest Q :=
 jZ (jb hb hv hspec) hd hr
theorem Zj {d : Nat} {f : FuncId} {x : Operand} {xs : List Operand} {ats : Array TypeId} {pos : String} {after : Array Edge} {rest : List Oper} {vs cap : List Value} {args : Array Value} {Φ : Value → ja → Prop}
 (hspec : Spec P G f args M Φ) (hr : ∀ v L', Φ v L' → TL P G ops n ((d, v) :: ρ) L' rest Q) (hx : ev ρ x = some (.func (.func f) #[] cap.toArray) := by exact rfl) (hv : kk ρ xs = some vs := by exact rfl) (he : args = (vs ++ cap).toArray := by exact rfl) (hf : Fits M L := by exact kn) (hb : kB P f = true := by kernel_rfl) (hd : Nat.blt d n = true := by exact rfl) :
 TL P G ops n ρ L (⟨some d, .call ⟨.value x, xs.toArray, ats⟩, ty, pos, after, none⟩ :: rest) Q :=
 jx ((Jj hb hx hv (he ▸ hspec)).fits hf) hd hr
theorem aa2 {d : Nat} {f : FuncId} {x : Operand} {xs : List Operand} {ats : Array TypeId} {rest : List Oper} {vs cap : List Value} {args : Array Value} {Φ : Value → ja → Prop}
 (hspec : Spec P G f args M Φ) (hr : ∀ v L', Φ v L' → TL P G ops n ((d, v) :: ρ) L' rest Q) (hx : ev ρ x = some (.func (.func f) #[] cap.toArray) := by exact rfl) (hv : kk ρ xs = some vs := by exact rfl) (he : args = (vs ++ cap).toArray := by exact rfl) (hf : Fits M L := by exact kn) (hb : kB P f = true := by kernel_rfl) (hd : Nat.blt d n = true := by exact rfl) :
 TG P G ops n ρ L d (.call ⟨.value x, xs.toArray, ats⟩) ty rest Q :=
 qq ((Jj hb hx hv (he ▸ hspec)).fits hf) hd hr
theorem abE {f : FuncId} {xs : List Operand} {vs : List Value} (ha : kk ρ xs = some vs) : OpQ P ρ L (.makeFunc (.func f) #[] xs.toArray) ty (.func (.func f) #[] vs.toArray) :=
 ⟨fun r hr w hw o ho _ => by
   have hm := qG hr xs vs ha
   simp [execOp, ho, Instr.makeFunc, hm]⟩
end
inductive Upd (b : Nat) (o o' : Obj) : ja → ja → Prop
 | here {R : ja} : Upd b o o' ((b, o) :: R) ((b, o') :: R)
 | cons {r : Nat × Obj} {R R' : ja} : Upd b o o' R R' → Upd b o o' (r :: R) (r :: R')
 | app {B R R' : ja} : Upd b o o' R R' → Upd b o o' (B ++ R) (B ++ R')
theorem Upd.perm {b : Nat} {o o' : Obj} : ∀ {L L' : ja}, Upd b o o' L L' → ∃ R, L.Perm ((b, o) :: R) ∧ ((b, o') :: R).Perm L'
 | _, _, .here => ⟨_, List.Perm.refl _, List.Perm.refl _⟩
 | _, _, .cons (r := r) h => by
   obtain ⟨R, h1, h2⟩ := h.perm
   exact ⟨r :: R, (h1.cons r).trans (List.Perm.swap _ _ _), (List.Perm.swap _ _ _).trans (h2.cons r)⟩
 | _, _, .app (B := B) h => by
   obtain ⟨R, h1, h2⟩ := h.perm
   exact ⟨B ++ R, (h1.append_left B).trans List.perm_middle, List.perm_middle.symm.trans (h2.append_left B)⟩
theorem JZ {b : Nat} {o o' : Obj} {L L' : ja} (h : Upd b o o' L L' := by repeat (first | with_reducible exact Upd.here | with_reducible apply Upd.cons | with_reducible apply Upd.app)) : Upd b o o' L L' := h
section
variable {P : Program} {G : World} {n : Nat} {ρ : jp} {L L' : ja} {op : Op} {ty : TypeId} {v : Value} {Q : Exit → Act → World → Prop} {ops : Array Oper}
theorem stU {x y : Operand} {pos : String} {after : Array Edge} {rest : List Oper} {b off : Nat} {t : TypeId} {C C' : Array Value} {te : TypeId} {v u : Value} (hx : ev ρ x = some (.pointer (some ⟨b, off, none⟩))) (hy : ev ρ y = some v)
 (h1 : Jb P t = true) (hu : Upd b (.cells C te (0, 0)) (.cells C' te (0, 0)) L L') (hone : v.oneCell' = true) (hv : C[off]? = some u) (hC : C.setIfInBounds off v = C') (h : TL P G ops n ρ L' rest Q) :
 TL P G ops n ρ L (⟨none, .store t x y, ty, pos, after, none⟩ :: rest) Q := by
 obtain ⟨R, p1, p2⟩ := hu.perm
 exact kR p1 (qJ hx hy h1 hone hv hC (kR p2 h))
theorem Qq {x y : Operand} {pos : String} {after : Array Edge} {rest : List Oper} {b k : Nat} {t : TypeId} {C D : Array Value} {te : TypeId} (hx : ev ρ x = some (.pointer (some ⟨b, 0, none⟩))) (hy : ev ρ y = some (.agg D))
 (ht : jL P t k = true) (hu : Upd b (.cells C te (0, 0)) (.cells D te (0, 0)) L L') (hC : C.size = k) (hD : D.size = k) (hone : yP D = true) (h : TL P G ops n ρ L' rest Q) : TL P G ops n ρ L (⟨none, .store t x y, ty, pos, after, none⟩ :: rest) Q := by
 obtain ⟨R, p1, p2⟩ := hu.perm
 exact kR p1 (qk hx hy ht hC hD hone (kR p2 h))
theorem uo {fn : Func} {Φ : Value → ja → Prop} (t : Nat) {v : Value} {M : ja} (hr : fn.results = #[.tmp t]) (hv : ρ.lookup t = some v) (h : Φ v M) (hf : Fits M L) : TQ G n ρ L .ret (bodyPost P fn (kM G Φ)) := js (fun w hw => hw.cnt hf.out) (je t v hr hv h)
end
section
variable {P : Program} {G : World} {n : Nat} {ρ : jp} {L : ja} {ty : TypeId} {Q : Exit → Act → World → Prop} {ops : Array Oper}
theorem adG {α : Type} {r : Rp α} (y : α) {d : Nat} {s x : Operand} {pos : String} {after : Array Edge} {rest : List Oper} {t e te : TypeId} {sz bytes bl : Nat} {z : Value} {a : Option Addr} {c : Nat} {cs : List Value} {l : List α} {B F L0 : ja}
 (hrow : ORow r e sz L0 a c l B) (hy : r L0 cs y) (hr : ∀ a' c' B', ORow r e sz L0 a' c' (l ++ [y]) B' → TL P G ops n ((d, .slice a' (l ++ [y]).length c') :: ρ) (B' ++ F) rest Q)
 (E : ElemTy P t e sz bytes z := by exact etO) (hs : ev ρ s = some (.slice a l.length c) := by exact rfl) (hx : ev ρ x = some (.slice (some ⟨bl, 0, none⟩) 1 1) := by exact rfl) (hf : Fits ((bl, .cells cs.toArray te (0, 0)) :: (B ++ F)) L := by exact kn)
 (hn : cs.length = sz := by exact rfl) (hone : cs.all (·.oneCell') = true := by exact rfl) (h63 : l.length + 1 ≤ maxLen := by unfold maxLen; omega) (hby : (l.length + 1) * bytes ≤ 140737488355328 := by omega) (hd : Nat.blt d n = true := by exact rfl) :
 TL P G ops n ρ L (⟨some d, .call ⟨.builtin .append, #[s, x], #[t, t]⟩, ty, pos, after, none⟩ :: rest) Q :=
 jx ((uS E hs hx hrow hn (fun v hv => List.all_eq_true.1 hone v hv) hy h63 hby).fits hf) hd fun v M ⟨a', c', B', h1, h2, h3⟩ => by subst h1 h3; exact hr a' c' B' h2
end
def zg (n k : Nat) : Array Bool := ((List.range n).map fun i => decide (i < k)).toArray
theorem WJ (n : Nat) : zg n 0 = Array.replicate n false := by
 unfold zg
 apply Array.ext <;> simp
theorem Zk (n k : Nat) : (zg n k).setIfInBounds k true = zg n (k + 1) := by
 unfold zg
 rw [List.setIfInBounds_toArray]
 congr 1
 apply List.ext_getElem
 · simp
 · intro i h1 h2
   rw [List.getElem_set]
   simp only [List.getElem_map, List.getElem_range]
   split
   · rename_i e; subst e; simp
   · rename_i e; rw [decide_eq_decide]; omega
section
variable {P : Program} {G : World} {n : Nat} {ρ : jp} {L : ja} {v : Value} {Q : Exit → Act → World → Prop} {ops : Array Oper}
theorem aaM {id : Nat} (hm : P.follows .mixedOrders = true) (K : ja) (W : List Nat) (h : TA P G ops n K W Q ops.size (zg ops.size 0) ρ L) : T P G n ρ L (.region id ops true) Q := jw hm K W (by rw [← WJ]; exact h)
theorem Qr {id : Nat} (hm : P.follows .mixedOrders = true) (h : TA P G ops n L [] Q ops.size (zg ops.size 0) ρ L) : T P G n ρ L (.region id ops true) Q := aaM hm L [] h
theorem tkS {K : ja} {W : List Nat} {fuel N k : Nat} {d : Nat} {oi : Oper} (h : TA P G ops n K W Q fuel (zg N (k + 1)) ((d, v) :: ρ) L) (hi : ops[k]? = some oi := by exact rfl) (hd : oi.dst = some d := by exact rfl) (ht : QA ops W n (zg N k) k d = true := by kernel_rfl)
 (hq : Quiet P G ops K ρ oi v := by exact qqQ) (hK : ∀ p ∈ K, p ∈ L := by first | exact fun p h => h | assumption | (intro p hp; grind)) : TA P G ops n K W Q (fuel + 1) (zg N k) ρ L := jz k hi hd ht hq hK (by rw [Zk]; exact h)
theorem tkL {K : ja} {W : List Nat} {fuel N k : Nat} {d : Nat} {oi : Oper} (hi : ops[k]? = some oi) (hd : oi.dst = some d) (ht : QA ops W n (zg N k) k d = true) (hq : Quiet P G ops K ρ oi v) (hK : ∀ p ∈ K, p ∈ L) (h : TA P G ops n K W Q fuel (zg N (k + 1)) ((d, v) :: ρ) L) : TA P G ops n K W Q (fuel + 1) (zg N k) ρ L := tkS h hi hd ht hq hK
theorem Vo {K : ja} {W : List Nat} {fuel : Nat} {listed : Array Bool} {M : ja} (i : Nat) {d j dj : Nat} {want b : Bool} {f : FuncId} {xs : List Operand} {ats : Array TypeId} {ty : TypeId} {pos : String} {after : Array Edge} {vs : List Value} {args : Array Value} {Φ : Value → ja → Prop}
 (hspec : Spec P G f args M Φ) (h : ∀ v L', Φ v L' → (∀ p ∈ K, p ∈ L') ∧ TA P G ops n K W Q fuel (listed.setIfInBounds i true) ((d, v) :: ρ) L') (hi : ops[i]? = some ⟨some d, .call ⟨.value (.func f), xs.toArray, ats⟩, ty, pos, after, some (j, want)⟩ := by exact rfl) (ha : kk ρ xs = some vs := by exact rfl) (he : args = vs.toArray := by exact rfl) (hf : Fits M L := by exact kn)
 (hs : jE ops j = some dj := by exact rfl) (hv : ρ.lookup dj = some (.bool b) := by exact rfl) (hw : b = want := by exact jQ) (hb : kB P f = true := by kernel_rfl) (hdn : Nat.blt d n = true := by exact rfl) (hr : Region.ready .any ops listed = [i] := by decide +kernel) : TA P G ops n K W Q (fuel + 1) listed ρ L := by
 refine ⟨fun h0 => (by rw [hr] at h0; cases h0), fun k hk => ?_⟩
 rw [hr] at hk
 obtain rfl : k = i := by simpa using hk
 refine ⟨_, hi, fun e he' => ?_, true, ⟨dj, _, hs, hv, by rw [hw]; simp [UF]⟩, Or.inl ⟨rfl, Φ, (jb hb ha (he ▸ hspec)).fits hf, fun v L' hv' => ⟨Or.inr (h v L' hv').1, (h v L' hv').2⟩⟩⟩
 cases he'
 simpa using hdn
end
theorem goU {P Q : Prop} (k : Q) (run : Hd Q → P := by intro k; (repeat1' (first | with_reducible apply kL | with_reducible apply qo | (apply ju; (· exact qR); (· exact rfl)) | with_reducible apply jI | with_reducible apply jU | with_reducible apply qt | with_reducible apply kY | with_reducible apply qD | with_reducible apply qi | with_reducible apply qZ | with_reducible apply ye | with_reducible apply kd | with_reducible apply kq | with_reducible apply jN | with_reducible apply j3 | with_reducible apply ke | with_reducible apply j0 | with_reducible apply qv | (apply j4; (· decide)) | (apply ju; (· apply jV; (· exact rfl); (· exact jQ); (· exact rfl)); (· exact rfl)) | (apply ju; (· apply jR; (· exact rfl); (· exact jQ); (· exact rfl)); (· exact rfl)) | (apply ky; (· exact rfl); (· exact rfl); (· exact jQ)) | (apply jA; (· exact qR); (· exact rfl)) | (apply jA; (· apply jV; (· exact rfl); (· exact jQ); (· exact rfl)); (· exact rfl)) | (apply jA; (· apply jR; (· exact rfl); (· exact jQ); (· exact rfl)); (· exact rfl)) | (apply ua; (· exact rfl); (· exact rfl); (· exact jQ); (· exact rfl)) | (apply kS; (· exact rfl); (· exact rfl); (· exact rfl)) | (apply ju; (· exact UO); (· exact rfl)) | (apply jA; (· exact UO); (· exact rfl)) | (apply Qq; (· exact rfl); (· exact rfl); (· exact stO); (· exact JZ); (· exact rfl); (· exact rfl); (· exact rfl)) | (apply stU; (· exact rfl); (· exact rfl); (· exact onO); (· exact JZ); (· exact rfl); (· exact zK); (· exact rfl)) | (refine Qr jc ?_; (repeat1' (apply tkL; (· exact rfl); (· exact rfl); (· kernel_rfl); (· exact qqQ); (· exact fun p h => h))); (apply zN; (· decide +kernel))) | (apply yl; (· exact rfl); (· exact jQ)) | (apply JS; (· exact rfl); (· exact jQ)))); exact k.out) : P := run ⟨k⟩
theorem goV {P Q : Prop} (k : Q) (run : Hd Q → P := by intro k; (repeat1' (first | with_reducible apply kL | with_reducible apply qo | (apply ju; (· exact qR); (· exact rfl)) | with_reducible apply jI | with_reducible apply jU | with_reducible apply qt | with_reducible apply kY | with_reducible apply qD | with_reducible apply qi | with_reducible apply qZ | with_reducible apply ye | with_reducible apply kd | with_reducible apply kq | with_reducible apply jN | with_reducible apply j3 | with_reducible apply ke | with_reducible apply j0 | with_reducible apply qv | (apply j4; (· decide)) | (apply ju; (· apply jV; (· exact rfl); (· exact jQ); (· exact rfl)); (· exact rfl)) | (apply ju; (· apply jR; (· exact rfl); (· exact jQ); (· exact rfl)); (· exact rfl)) | (apply ky; (· exact rfl); (· exact rfl); (· exact jQ)) | (apply jA; (· exact qR); (· exact rfl)) | (apply jA; (· apply jV; (· exact rfl); (· exact jQ); (· exact rfl)); (· exact rfl)) | (apply jA; (· apply jR; (· exact rfl); (· exact jQ); (· exact rfl)); (· exact rfl)) | (apply ua; (· exact rfl); (· exact rfl); (· exact jQ); (· exact rfl)) | (apply kS; (· exact rfl); (· exact rfl); (· exact rfl)) | (apply ju; (· exact UO); (· exact rfl)) | (apply jA; (· exact UO); (· exact rfl)) | (refine Qr jc ?_; (repeat1' (apply tkL; (· exact rfl); (· exact rfl); (· kernel_rfl); (· exact qqQ); (· exact fun p h => h))); (apply zN; (· decide +kernel))) | (apply yl; (· exact rfl); (· exact jQ)) | (apply JS; (· exact rfl); (· exact jQ)))); exact k.out) : P := run ⟨k⟩
theorem goW {P Q : Prop} (k : Q) (run : Hd Q → P := by intro k; (repeat1' (first | with_reducible apply kL | with_reducible apply qo | (apply ju; (· exact qR); (· exact rfl)) | with_reducible apply jI | with_reducible apply qt | with_reducible apply kY | with_reducible apply qD | with_reducible apply qi | with_reducible apply qZ | with_reducible apply ye | with_reducible apply kd | with_reducible apply kq | with_reducible apply jN | with_reducible apply j3 | with_reducible apply ke | with_reducible apply j0 | with_reducible apply qv | (apply j4; (· decide)) | (apply ju; (· apply jV; (· exact rfl); (· exact jQ); (· exact rfl)); (· exact rfl)) | (apply ju; (· apply jR; (· exact rfl); (· exact jQ); (· exact rfl)); (· exact rfl)) | (apply ky; (· exact rfl); (· exact rfl); (· exact jQ)) | (apply jA; (· exact qR); (· exact rfl)) | (apply jA; (· apply jV; (· exact rfl); (· exact jQ); (· exact rfl)); (· exact rfl)) | (apply jA; (· apply jR; (· exact rfl); (· exact jQ); (· exact rfl)); (· exact rfl)) | (apply ua; (· exact rfl); (· exact rfl); (· exact jQ); (· exact rfl)) | (apply kS; (· exact rfl); (· exact rfl); (· exact rfl)) | (apply ju; (· exact UO); (· exact rfl)) | (apply jA; (· exact UO); (· exact rfl)) | (apply Qq; (· exact rfl); (· exact rfl); (· exact stO); (· exact JZ); (· exact rfl); (· exact rfl); (· exact rfl)) | (apply stU; (· exact rfl); (· exact rfl); (· exact onO); (· exact JZ); (· exact rfl); (· exact zK); (· exact rfl)) | (refine Qr jc ?_; (repeat1' (apply tkL; (· exact rfl); (· exact rfl); (· kernel_rfl); (· exact qqQ); (· exact fun p h => h))); (apply zN; (· decide +kernel))) | (apply yl; (· exact rfl); (· exact jQ)) | (apply JS; (· exact rfl); (· exact jQ)))); exact k.out) : P := run ⟨k⟩
end
section
open Go.RowKit
open Vd (RSet Vdt Vote Rec Quest Piece Ballot)
variable {G : World} {L : ja}
def qY (d : Vd.Bytes) : Nat := 10 + min 6000 d.length
def uq (s : RSet) : Nat := 30 + min 6000 s.name.length + (s.data.map qY).sum
def zh (l : List RSet) : Nat := (l.map uq).sum
theorem zH (l : List Nat) (k : Nat) : (l.take k).sum ≤ l.sum := by
 conv => rhs; rw [← List.take_append_drop k l, List.sum_append]
 omega
theorem qQ {l : List Nat} {k : Nat} {x : Nat} (h : l[k]? = some x) : (l.take (k + 1)).sum = (l.take k).sum + x := by
 rw [List.take_add_one, h]; simp
theorem Vp {α β : Type} (f : α → β) {l : List α} {i : Nat} {x : α} (h : l[i]? = some x) : (l.map f)[i]? = some (f x) := by rw [List.getElem?_map, h]; rfl
theorem Zl {l : List Nat} {x : Nat} (h : x ∈ l) : x ≤ l.sum := by
 induction l with
 | nil => cases h
 | cons a l ih =>
   rw [List.sum_cons]
   rcases List.mem_cons.1 h with rfl | h
   · omega
   · have := ih h; omega
theorem Zm {l : List Nat} {c : Nat} (h : ∀ x ∈ l, c ≤ x) : c * l.length ≤ l.sum := by
 induction l with
 | nil => simp
 | cons a l ih =>
   rw [List.sum_cons, List.length_cons, Nat.mul_succ]
   have h1 := h a (List.mem_cons_self ..)
   have h2 := ih fun x hx => h x (List.mem_cons_of_mem _ hx)
   omega
structure LSm (l : List RSet) : Prop where
 tot : zh l < 6000
theorem LSm.few {l : List RSet} (h : LSm l) : l.length ≤ 200 := by
 have h1 := h.tot
 have h2 := Zm (l := l.map uq) (c := 30) (fun x hx => by obtain ⟨s, _, rfl⟩ := List.mem_map.1 hx; unfold uq; omega)
 rw [List.length_map] at h2
 unfold zh at h1
 omega
theorem LSm.set {l : List RSet} (h : LSm l) {s : RSet} (hs : s ∈ l) : s.name.length < 6000 ∧ s.data.length ≤ 600 ∧ ∀ d ∈ s.data, d.length < 6000 := by
 have h1 := h.tot
 have h2 : uq s ≤ zh l := Zl (List.mem_map_of_mem hs)
 have h3 := Zm (l := s.data.map qY) (c := 10) (fun x hx => by obtain ⟨d, _, rfl⟩ := List.mem_map.1 hx; unfold qY; omega)
 rw [List.length_map] at h3
 unfold uq at h2
 refine ⟨by omega, by omega, fun d hd => ?_⟩
 have h4 : qY d ≤ (s.data.map qY).sum := Zl (List.mem_map_of_mem hd)
 have h5 : qY d = 10 + min 6000 d.length := rfl
 omega
theorem JL (v : Value) (l : List RSet) (hl : sliceR 5 rsR L [v] l) : Spec Tryz.prog G 31 #[v] L fun u M => u = .bool (decide (6000 ≤ zh l)) ∧ M = L := by
 obtain ⟨a, c, e1, hl⟩ := hl.val
 obtain rfl := (List.cons.inj e1).1
 have hcap := (sliceR.cut hl).2
 unfold maxLen at hcap
 obtain ⟨hcap1, hcap2, _⟩ := hcap
 refine jm (n := 55) Tryz.func31 rfl rfl rfl ?_
 refine goA ?_
 refine jB (σ := Nat × Nat) (fun x => x.1 ≤ l.length ∧ x.2 ≤ 20000 ∧ (x.2 < 6000 → x.2 = ((l.map uq).take x.1).sum) ∧ (6000 ≤ x.2 → 6000 ≤ zh l)) (fun x => [(0, .slice a l.length c), (3, .int .i64 (x.2 : Nat)), (4, .int .i64 (x.1 : Nat))]) (fun _ => L) (fun x => l.length - x.1) (0, 0) ⟨Nat.zero_le _, by decide, fun _ => rfl, fun h => absurd h (by decide)⟩ ?_ (fun w h => h) ?_
 exact jv
 rintro ⟨i, n⟩ ⟨hi, hn, hn1, hn2⟩
 dsimp only at hi hn hn1 hn2 ⊢
 by_cases hgo : i < l.length ∧ n < 6000
 · obtain ⟨hlt, hn6⟩ := hgo
   obtain ⟨s, hs⟩ : ∃ s, l[i]? = some s := ⟨_, List.getElem?_eq_getElem hlt⟩
   obtain ⟨b1, o1, C1, t1, f1, rfl, m1, cs, _, hcs0, hcs⟩ := sliceR.at hl hs
   obtain ⟨da, dc, rfl, hd, hsn, _⟩ := hcs0.vals
   have c0 : C1[o1 + i * 5 + 0]? = some (.string (bs s.name)) := hcs 0 _ rfl
   have c4 : C1[o1 + i * 5 + 4]? = some (.slice da s.data.length dc) := hcs 4 _ rfl
   have hdcap := (sliceR.cut hd).2
   unfold maxLen at hdcap hsn
   obtain ⟨hd1, hd2, _⟩ := hdcap
   have hnn := hn1 hn6
   have htot : ((l.map uq).take i).sum + uq s ≤ zh l := by
    have := qQ (Vp uq hs)
    have h2 := zH (l.map uq) (i + 1)
    unfold zh
    omega
   have hsucc := qQ (Vp uq hs)
   obtain ⟨n1, hn1e⟩ : ∃ m, m = n + 30 + min 6000 s.name.length := ⟨_, rfl⟩
   have hcost : uq s = 30 + min 6000 s.name.length + (s.data.map qY).sum := rfl
   skip
   refine jU ?_
   skip
   refine jU ?_
   refine goF ?_
   refine QN (σ := Nat) (fun m => m ≤ 20000 ∧ (m < 6000 → m = n1 + (s.data.map qY).sum) ∧ (6000 ≤ m → 6000 ≤ zh l)) (fun m => [(0, .slice (some ⟨b1, o1, none⟩) l.length c), (3, .int .i64 (m : Nat)), (4, .int .i64 (i : Nat))]) (fun _ => L) ?_ ?_
   · skip
     refine goA ?_
     refine jB (σ := Nat × Nat) (fun x => x.1 ≤ s.data.length ∧ x.2 ≤ 19000 ∧ (x.2 < 6000 → x.2 = n1 + ((s.data.map qY).take x.1).sum) ∧ (6000 ≤ x.2 → 6000 ≤ zh l)) (fun x => [(0, .slice (some ⟨b1, o1, none⟩) l.length c), (3, .int .i64 (x.2 : Nat)), (4, .int .i64 (i : Nat)), (5, .int .i64 (x.1 : Nat))]) (fun _ => L) (fun x => s.data.length - x.1) (0, n1) ⟨Nat.zero_le _, by dsimp only; omega, fun _ => by simp, fun h => by dsimp only at h; omega⟩ ?_ (fun w h => h) ?_
     · have : ((n1 : Nat) : Int) = (n : Int) + 30 + min 6000 (s.name.length : Int) := by omega
       rw [this]
       exact jv
     rintro ⟨k, m⟩ ⟨hk, hm, hm1, hm2⟩
     dsimp only at hk hm hm1 hm2 ⊢
     by_cases hgo : k < s.data.length ∧ m < 6000
     · obtain ⟨hkl, hm6⟩ := hgo
       obtain ⟨d, hdk⟩ : ∃ d, s.data[k]? = some d := ⟨_, List.getElem?_eq_getElem hkl⟩
       obtain ⟨b2, o2, C2, t2, f2, rfl, m2, cs2, _, ⟨rfl, hdl⟩, hcs2⟩ := sliceR.at hd hdk
       unfold maxLen at hdl
       have d0 : C2[o2 + k * 1]? = some (.string (bs d)) := hcs2 0 _ rfl
       have hsk := qQ (Vp qY hdk)
       have hsl := zH (s.data.map qY) (k + 1)
       have hcd : qY d = 10 + min 6000 d.length := rfl
       have hmm := hm1 hm6
       refine goA ?_
       refine jk (k + 1, m + 10 + min 6000 d.length) ⟨hkl, by dsimp only; omega, fun _ => by dsimp only; omega, fun h => by dsimp only at h; omega⟩ ?_ (fun w h => h) (by dsimp only; omega)
       have : ((m + 10 + min 6000 d.length : Nat) : Int) = (m : Int) + 10 + min 6000 (d.length : Int) := by omega
       rw [this]
       exact jv
     · have hend : m < 6000 → m = n1 + (s.data.map qY).sum := fun h => by
        have := hm1 h
        rw [List.take_of_length_le (by rw [List.length_map]; omega)] at this
        exact this
       by_cases hkl : k < s.data.length
       · refine goA ?_
         refine kw m ⟨by omega, hend, hm2⟩ ?_ (fun w h => h)
         exact jv
       · refine goA ?_
         refine kw m ⟨by omega, hend, hm2⟩ ?_ (fun w h => h)
         exact jv
   rintro m ⟨hm, hm1, hm2⟩
   refine goA ?_
   refine jk (i + 1, m) ⟨hlt, hm, fun h => ?_, hm2⟩ ?_ (fun w h => h) (by dsimp only; omega)
   · have := hm1 h
     dsimp only
     omega
   exact jv
 · by_cases hlt : i < l.length
   · have h6 : 6000 ≤ n := by omega
     rw [decide_eq_true (hn2 h6)]
     refine goA ?_
     refine je 2 _ rfl rfl ?_
     exact ⟨by rw [decide_eq_true (show (6000 : Int) ≤ (n : Int) by omega)], rfl⟩
   · have e : decide (6000 ≤ zh l) = decide ((6000 : Int) ≤ (n : Int)) := by
      by_cases h6 : 6000 ≤ n
      · rw [decide_eq_true (hn2 h6), decide_eq_true jf]
      · have := hn1 jf
        rw [List.take_of_length_le (by rw [List.length_map]; omega)] at this
        rw [decide_eq_false (by unfold zh; omega), decide_eq_false jf]
     rw [e]
     refine goA ?_
     refine je 2 _ rfl rfl ?_
     exact ⟨rfl, rfl⟩
end
section
open Go.RowKit
open Vd (RSet Vdt Vote Rec Quest Piece Ballot)
variable {G : World} {L : ja}
def abF (s : RSet) : List Rec := s.data.map fun d => ⟨s.name, s.kind, s.cls, s.ttl, d⟩
def z8 (l : List RSet) : List Rec := l.flatMap abF
def afD (q : Quest) (v : Vdt) : Bool := decide ((Vd.ofM q ⟨v.code, z8 v.sets, z8 v.soa⟩).2.2 = 0 ∧ (Vd.ofM q ⟨v.code, z8 v.sets, z8 v.soa⟩).1 = v)
end
section
open Go.RowKit
open Vd (RSet Vdt Vote Rec Quest Piece Ballot)
theorem LSm.smS {l : List RSet} (h : LSm l) : SmS l := ⟨by have := h.few; omega, fun s hs => by have := (h.set hs).2.1; omega⟩
structure VOk (q : Quest) (v : Vdt) : Prop where
 sm : SmV v
 ends : EndOk q v
end
section
open Go.RowKit
open Vd (RSet Vdt Vote Rec Quest Piece Ballot)
open Cn (Zo Cf)
variable {G : World} {L : ja}
def qE : Quest := ⟨[2, 101, 120, 0], 1, 1⟩
def strictZ : Zo := ⟨[0], 1, 0⟩
def Zn (ups ded hdg wai tri : Int) : Cf := ⟨ups, ded, hdg, wai, tri, 1, 1, 0, 1, 1, 0, 512, []⟩
def qI (b : UInt8) : Vdt := ⟨0, [⟨[2, 101, 120, 0], 1, 1, 0, [[10, 0, 0, b]]⟩], []⟩
theorem aeP : Spec Tryz.prog G 32 #[] L fun u M => u = .agg (kQ qE) ∧ M = L := by
 refine jm (n := 2) Tryz.func32 rfl rfl rfl ?_
 repeat (first | refine goA ?_ | (refine j5 ?_; intro bNew) | refine ju (jo rfl (zm _ _ _)) rfl ?_)
 refine ku 0 24  rfl rfl  stO (by repeat (exact List.mem_cons_self)) rfl (fun w h => h.tail) ?_
 exact ⟨rfl, rfl⟩
theorem WK : Spec Tryz.prog G 33 #[] L fun u M => u = .agg #[.string (bs strictZ.name), .int .u8 (strictZ.pol : Nat), .int .u16 (strictZ.tru : Nat)] ∧ M = L := by
 refine jm (n := 2) Tryz.func33 rfl rfl rfl ?_
 repeat (first | refine goA ?_ | (refine j5 ?_; intro bNew) | refine ju (jo rfl (J2 _ _)) rfl ?_)
 refine ku 0 26  rfl rfl  stO (by repeat (exact List.mem_cons_self)) rfl (fun w h => h.tail) ?_
 exact ⟨rfl, rfl⟩
theorem Zp (ups ded hdg wai tri : Int) : Spec Tryz.prog G 34 #[.int .i64 ups, .int .i64 ded, .int .i64 hdg, .int .i64 wai, .int .i64 tri] L fun u M => u = .agg (ji (Zn ups ded hdg wai tri) (.slice none 0 0)).toArray ∧ M = L := by
 refine jm (n := 17) Tryz.func34 rfl rfl rfl ?_
 repeat (first | refine goA ?_ | (refine j5 ?_; intro bNew) | refine ju (jo rfl (kO _ _ _ _ _ _ _ _ _ _)) rfl ?_)
 refine ku 10 30  rfl rfl  stO (by repeat (exact List.mem_cons_self)) rfl (fun w h => h.tail) ?_
 exact ⟨rfl, rfl⟩
def aaN (L : ja) (b : UInt8) (u : Value) (M : ja) : Prop := ∃ cv N, u = .agg cv.toArray ∧ vdR N cv (qI b) ∧ M = N ++ L
theorem Qs (c : UInt8) (x : Int) (hx : x = (c.toNat : Int)) : Spec Tryz.prog G 35 #[.int .u8 x] L (aaN L c) := by
 subst hx
 refine jm (n := 11) Tryz.func35 rfl rfl rfl ?_
 refine jU (jI (jP (kt (C := #[.int .u8 0, .slice none 0 0, .slice none 0 0]) zeO rfl) rfl ?_))
 intro b2
 repeat (first | refine goA ?_ | (refine uf ?_; intro bLit))
 refine ju (KO [c] rfl rfl unO unO unO (List.mem_cons_self ..) (fun j hj => ?_)) rfl ?_
 · match j, hj with
   | 0, _ => rfl
 repeat (first | refine goA ?_ | refine ju (jo rfl (VC _ _ _)) rfl ?_ | refine ju (jo rfl (uy _ _ _ _ _ _)) rfl ?_ | (refine uf ?_; intro bLit))
 rename_i bB bD
 refine kU (L' := [(bLit, Obj.cells #[.string (bs [2, 101, 120, 0]), .int .u16 1, .int .u16 1, .int .u32 0, .slice (some ⟨bD, 0, none⟩) 1 1] 122 (0, 0)), (bD, Obj.cells #[.string (bs ([10, 0, 0] ++ [c]))] 9 (0, 0)), (bB, Obj.cells #[.int .u8 (c.toNat : Int)] 5 (0, 0))] ++ ((b2, Obj.cells #[.int .u8 0, .slice none 0 0, .slice none 0 0] 40 (0, 0)) :: L)) (fun w h => h) ?_
 refine jy (L' := (b2, Obj.cells #[.int .u8 0, .slice none 0 0, .slice none 0 0] 40 (0, 0)) :: ([(bLit, Obj.cells #[.string (bs [2, 101, 120, 0]), .int .u16 1, .int .u16 1, .int .u32 0, .slice (some ⟨bD, 0, none⟩) 1 1] 122 (0, 0)), (bD, Obj.cells #[.string (bs ([10, 0, 0] ++ [c]))] 9 (0, 0)), (bB, Obj.cells #[.int .u8 (c.toNat : Int)] 5 (0, 0))] ++ L)) ?_ jl
 refine goA ?_
 refine ku 2 40  rfl rfl  stO (by repeat (exact List.mem_cons_self)) rfl (fun w h => h.tail) ?_
 have hD : sliceR 1 qO [(bLit, Obj.cells #[.string (bs [2, 101, 120, 0]), .int .u16 1, .int .u16 1, .int .u32 0, .slice (some ⟨bD, 0, none⟩) 1 1] 122 (0, 0)), (bD, Obj.cells #[.string (bs ([10, 0, 0] ++ [c]))] 9 (0, 0)), (bB, Obj.cells #[.int .u8 (c.toNat : Int)] 5 (0, 0))] [.slice (some ⟨bD, 0, none⟩) 1 1] [[10, 0, 0, c]] := ⟨_, 1, rfl, Nat.le_refl 1, by unfold maxLen; omega, Or.inr ⟨bD, 0, #[.string (bs ([10, 0, 0] ++ [c]))], 9, (0, 0), rfl, List.mem_cons_of_mem _ (List.mem_cons_self ..), fun i x hi => by
  match i, hi with
  | 0, hi =>
    obtain rfl := Option.some.inj hi
    exact ⟨[.string (bs [10, 0, 0, c])], rfl, ⟨rfl, by show 4 ≤ maxLen; decide⟩, fun j v hj => by match j, hj with | 0, hj => exact hj⟩⟩⟩
 refine ⟨_, [(bLit, Obj.cells #[.string (bs [2, 101, 120, 0]), .int .u16 1, .int .u16 1, .int .u32 0, .slice (some ⟨bD, 0, none⟩) 1 1] 122 (0, 0)), (bD, Obj.cells #[.string (bs ([10, 0, 0] ++ [c]))] 9 (0, 0)), (bB, Obj.cells #[.int .u8 (c.toNat : Int)] 5 (0, 0))], rfl, ⟨_, _, rfl, ⟨some ⟨bLit, 0, none⟩, 1, rfl, Nat.le_refl 1, by unfold maxLen; omega, Or.inr ⟨bLit, 0, _, _, _, rfl, List.mem_cons_self .., fun i x hi => ?_⟩⟩, sliceR.nil, by show (0 : Int) ≤ 0 ∧ (0 : Int) ≤ 255; decide⟩, rfl⟩
 match i, hi with
 | 0, hi =>
   obtain rfl := Option.some.inj hi
   exact ⟨[.string (bs [2, 101, 120, 0]), .int .u16 1, .int .u16 1, .int .u32 0, .slice (some ⟨bD, 0, none⟩) 1 1], rfl, ⟨_, rfl, hD, by show (4 : Nat) ≤ maxLen; decide, by show (0 : Int) ≤ 1 ∧ (1 : Int) ≤ 65535; decide, by show (0 : Int) ≤ 1 ∧ (1 : Int) ≤ 65535; decide, by show (0 : Int) ≤ 0 ∧ (0 : Int) ≤ 4294967295; decide⟩, fun j v hj => by
    rw [show 0 + 0 * 5 + j = j by omega, List.getElem?_toArray]
    exact hj⟩
end
section
open Go.RowKit
open Vd (RSet Vdt Vote Rec Quest Piece Ballot)
open Cn (Zo Cf)
structure CaseT where
 q : Quest
 z : Zo
 l : List Int
 c : Cf
 now : Int
instance : Inhabited CaseT := ⟨⟨⟨[], 0, 0⟩, ⟨[], 0, 0⟩, [], Cn.zeroC, 0⟩⟩
structure ActT where
 what : Int
 up : Int
 v : Vdt
 t : Int
 now : Int
instance : Inhabited ActT := ⟨⟨0, 0, Vdt.none, 0, 0⟩⟩
def uX (x : CaseT) (vl vz : Value) : List Value := [.string (bs x.q.name), .int .u16 x.q.kind, .int .u16 x.q.cls, .string (bs x.z.name), .int .u8 (x.z.pol : Nat), .int .u16 (x.z.tru : Nat), vl] ++ (ji x.c vz ++ [.int .i64 x.now])
def JM : Rp CaseT := fun L cs x => ∃ vl vz, cs = uX x vl vz ∧ Yk L [.string (bs x.q.name), .int .u16 x.q.kind, .int .u16 x.q.cls] x.q ∧ zoR L [.string (bs x.z.name), .int .u8 (x.z.pol : Nat), .int .u16 (x.z.tru : Nat)] x.z ∧ sliceR 1 (uZ .i64) L [vl] x.l ∧ cfR L (ji x.c vz) x.c ∧ kx .i64 x.now
def abG : Rp ActT := fun L cs x => ∃ va vb, cs = [.int .u8 x.what, .int .i64 x.up, .int .u8 x.v.code, va, vb, .int .u32 x.t, .int .i64 x.now] ∧ vdR L [.int .u8 x.v.code, va, vb] x.v ∧ kx .u8 x.what ∧ kx .i64 x.up ∧ kx .u32 x.t ∧ kx .i64 x.now
theorem WL : ue JM := fun L L' cs x hL ⟨vl, vz, h1, h2, h3, h4, h5, h6⟩ => ⟨vl, vz, h1, h2, h3, jn (Je _) L L' _ _ hL h4, aaI L L' _ _ hL h5, h6⟩
theorem Zq : ue abG := fun L L' cs x hL ⟨va, vb, h1, h2, h3⟩ => ⟨va, vb, h1, ko L L' _ _ hL h2, h3⟩
theorem Uw {x : Int} (h : kx .i64 x) : -9223372036854775808 ≤ x ∧ x ≤ 9223372036854775807 := by
 unfold kx Lit.wf at h
 simpa [IntKind.min, IntKind.max, IntKind.bits, IntKind.signed] using h
theorem aaO {x : Int} (h : kx .u8 x) : 0 ≤ x ∧ x ≤ 255 := by
 unfold kx Lit.wf at h
 simpa [IntKind.min, IntKind.max, IntKind.bits, IntKind.signed] using h
theorem Zr {x : Int} (h : kx .u32 x) : 0 ≤ x ∧ x ≤ 4294967295 := by
 unfold kx Lit.wf at h
 simpa [IntKind.min, IntKind.max, IntKind.bits, IntKind.signed] using h
structure CSm (x : CaseT) : Prop where
 name : x.q.name.length ≤ 3000
 list : x.l.length ≤ 100
 zones : x.c.zs.length ≤ 100
 names : ∀ z ∈ x.c.zs, z.name.length ≤ 300
structure ASm (l : List ActT) : Prop where
 few : l.length ≤ 200
 sets : ∀ a ∈ l, LSm a.v.sets ∧ LSm a.v.soa
variable {G : World} {L : ja}
theorem Zs (cs : List Value) (x : CaseT) (v : Value) (l : List ActT) (hx : JM L cs x) (hl : sliceR 7 abG L [v] l) : Spec Tryz.prog G 7 #[.agg cs.toArray, v] L fun u M => ∃ b, u = .bool b ∧ M = L ∧ (b = false → CSm x ∧ ASm l) := by
 obtain ⟨vl, vz, rfl, ⟨_, hqn, _⟩, _, hli, ⟨vz', e1, hzs, _⟩, _⟩ := hx
 obtain rfl : vz' = vz := by simpa [ji] using e1.symm
 obtain ⟨la, lc, e2, hli⟩ := hli.val
 obtain rfl := (List.cons.inj e2).1
 obtain ⟨za, zc, e3, hzs⟩ := hzs.val
 obtain rfl := (List.cons.inj e3).1
 obtain ⟨aa, ac, e4, hl⟩ := hl.val
 obtain rfl := (List.cons.inj e4).1
 have k1 := (sliceR.cut hli).2
 have k2 := (sliceR.cut hzs).2
 have k3 := (sliceR.cut hl).2
 unfold maxLen at k1 k2 k3 hqn
 obtain ⟨k11, k12, _⟩ := k1
 obtain ⟨k21, k22, _⟩ := k2
 obtain ⟨k31, k32, _⟩ := k3
 clear e1 e2 e3 e4
 refine jm (n := 95) Tryz.func7 rfl rfl rfl ?_
 refine jU (jI (jP (kE rfl) rfl ?_))
 intro bBox
 obtain ⟨C0, hC0⟩ : ∃ C : Array Value, C = (uX x (.slice la x.l.length lc) (.slice za x.c.zs.length zc)).toArray := ⟨_, rfl⟩
 rw [← hC0]
 have g0 : C0[0 + 0 + 0]? = some (.string (bs x.q.name)) := by rw [hC0]; rfl
 have g6 : C0[0 + 6]? = some (.slice la x.l.length lc) := by rw [hC0]; rfl
 have g19 : C0[0 + 7 + 12]? = some (.slice za x.c.zs.length zc) := by rw [hC0]; rfl
 clear hC0
 by_cases c1 : 3000 < x.q.name.length
 · skip
   refine goA ?_
   refine jH (L' := L) ?_ jl
   refine je 4 _ rfl rfl ?_
   exact ⟨true, rfl, rfl, fun h => by cases h⟩
 by_cases c2 : 100 < x.l.length
 · skip
   refine goA ?_
   refine jH (L' := L) ?_ jl
   refine je 4 _ rfl rfl ?_
   exact ⟨true, rfl, rfl, fun h => by cases h⟩
 by_cases c3 : 100 < x.c.zs.length
 · skip
   refine goA ?_
   refine jH (L' := L) ?_ jl
   refine je 4 _ rfl rfl ?_
   exact ⟨true, rfl, rfl, fun h => by cases h⟩
 by_cases c4 : 200 < l.length
 · skip
   refine goA ?_
   refine jH (L' := L) ?_ jl
   refine je 4 _ rfl rfl ?_
   exact ⟨true, rfl, rfl, fun h => by cases h⟩
 refine goA ?_
 refine jB (σ := Nat) (fun k => k ≤ x.c.zs.length ∧ ∀ z ∈ x.c.zs.take k, z.name.length ≤ 300) (fun k => [(1, .slice aa l.length ac), (2, .pointer (some ⟨bBox, 0, none⟩)), (5, .int .i64 (k : Nat))]) (fun _ => (bBox, Obj.cells C0 32 (0, 0)) :: L) (fun k => x.c.zs.length - k) 0 ⟨Nat.zero_le _, by simp⟩ ?_ (fun w h => h) ?_
 exact jv
 rintro k ⟨hk, hall⟩
 by_cases hlt : k < x.c.zs.length
 · obtain ⟨z, hz⟩ : ∃ z, x.c.zs[k]? = some z := ⟨_, List.getElem?_eq_getElem hlt⟩
   obtain ⟨b1, o1, C1, t1, f1, rfl, m1, cs1, _, ⟨rfl, hzn, _⟩, hcs⟩ := sliceR.at hzs hz
   unfold maxLen at hzn
   have c0 : C1[o1 + k * 3 + 0]? = some (.string (bs z.name)) := hcs 0 _ rfl
   by_cases hn : 300 < z.name.length
   · skip
     refine goA ?_
     refine jH (L' := L) ?_ jl
     refine je 4 _ rfl rfl ?_
     exact ⟨true, rfl, rfl, fun h => by cases h⟩
   · refine goA ?_
     refine jk (k + 1) ⟨hlt, fun y hy => ?_⟩ ?_ (fun w h => h) jf
     · rw [List.take_add_one, hz] at hy
       rcases List.mem_append.1 hy with hy | hy
       · exact hall y hy
       · rw [List.mem_singleton.1 hy]; omega
     exact jv
 rw [List.take_of_length_le jf] at hall
 have hcsm : CSm x := ⟨by omega, by omega, by omega, hall⟩
 refine goA ?_
 refine jB (σ := Nat × Nat) (fun y => y.1 ≤ l.length ∧ y.2 ≤ 7000 ∧ ∀ a ∈ l.take y.1, LSm a.v.sets ∧ LSm a.v.soa) (fun y => [(1, .slice aa l.length ac), (2, .pointer (some ⟨bBox, 0, none⟩)), (6, .int .i64 (y.2 : Nat)), (7, .int .i64 (y.1 : Nat))]) (fun _ => (bBox, Obj.cells C0 32 (0, 0)) :: L) (fun y => l.length - y.1) (0, 0) ⟨Nat.zero_le _, by decide, by simp⟩ ?_ (fun w h => h) ?_
 exact jv
 rintro ⟨i, n⟩ ⟨hi, hn, hall2⟩
 dsimp only at hi hn hall2 ⊢
 by_cases hgo : i < l.length ∧ n < 3000
 · obtain ⟨hlt2, hn3⟩ := hgo
   obtain ⟨a, ha⟩ : ∃ a, l[i]? = some a := ⟨_, List.getElem?_eq_getElem hlt2⟩
   obtain ⟨b2, o2, C2, t2, f2, rfl, m2, cs2, _, ⟨va, vb, rfl, hvd, _⟩, hcs2⟩ := sliceR.at hl ha
   obtain ⟨y1, z1, y2, z2, e5, hs1, hs2, _⟩ := hvd.vals
   simp only [List.cons.injEq, and_true, true_and] at e5
   obtain ⟨rfl, rfl⟩ := e5
   have d3 : C2[o2 + i * 7 + 2 + 1]? = some (.slice y1 a.v.sets.length z1) := hcs2 3 _ rfl
   have d4 : C2[o2 + i * 7 + 2 + 2]? = some (.slice y2 a.v.soa.length z2) := hcs2 4 _ rfl
   have j1 := (sliceR.cut hs1).2
   have j2 := (sliceR.cut hs2).2
   unfold maxLen at j1 j2
   obtain ⟨j11, j12, _⟩ := j1
   obtain ⟨j21, j22, _⟩ := j2
   refine goA ?_
   refine jX (jb jg rfl (JL _ a.v.sets (jn jq _ _ _ _ jt hs1))) rfl ?_
   by_cases l1 : 6000 ≤ zh a.v.sets
   · rw [decide_eq_true l1]
     refine goA ?_
     refine jH (L' := L) ?_ jl
     refine je 4 _ rfl rfl ?_
     exact ⟨true, rfl, rfl, fun h => by cases h⟩
   rw [decide_eq_false l1]
   refine goA ?_
   refine jZ (jb jg rfl (JL _ a.v.soa (jn jq _ _ _ _ jt hs2))) rfl ?_
   by_cases l2 : 6000 ≤ zh a.v.soa
   · rw [decide_eq_true l2]
     refine goA ?_
     refine jH (L' := L) ?_ jl
     refine je 4 _ rfl rfl ?_
     exact ⟨true, rfl, rfl, fun h => by cases h⟩
   rw [decide_eq_false l2]
   have w1 : LSm a.v.sets := ⟨by omega⟩
   have w2 : LSm a.v.soa := ⟨by omega⟩
   have u1 := w1.few
   have u2 := w2.few
   have hK : ∀ z ∈ [(b2, Obj.cells C2 t2 f2)], z ∈ (bBox, Obj.cells C0 32 (0, 0)) :: L := fun z hz => by rw [List.mem_singleton.1 hz]; exact List.mem_cons_of_mem _ m2
   refine goA ?_
   refine jw jc ([(b2, Obj.cells C2 t2 f2)]) [] ?_
   refine tkQ 0 ?_
   refine tkQ 1 ?_
   refine tkQ 2 ?_
   refine tkQ 3 ?_
   refine tkQ 4 ?_
   refine tkQ 5 ?_
   refine tkQ 6 ?_
   refine tkQ 7 ?_
   refine tkQ 8 ?_
   refine tkQ 9 ?_
   refine tkQ 10 ?_
   refine tkQ 11 ?_
   refine tkQ 12 ?_
   refine tkQ 13 ?_
   refine tkQ 14 ?_
   refine tkQ 15 ?_
   refine tkQ 16 ?_
   refine tkQ 17 ?_
   refine tkQ 18 ?_
   refine tkQ 19 ?_
   refine tdQ ?_
   refine goA ?_
   refine jk (i + 1, n + 5 + min 3000 (a.v.sets.length + a.v.soa.length)) ⟨hlt2, by dsimp only; omega, fun y hy => ?_⟩ ?_ (fun w h => h) (by dsimp only; omega)
   · dsimp only at hy
     rw [List.take_add_one, ha] at hy
     rcases List.mem_append.1 hy with hy | hy
     · exact hall2 y hy
     · rw [List.mem_singleton.1 hy]; exact ⟨w1, w2⟩
   have e7 : ((n + 5 + min 3000 (a.v.sets.length + a.v.soa.length) : Nat) : Int) = (n : Int) + 5 + min 3000 ((a.v.sets.length : Int) + (a.v.soa.length : Int)) := by omega
   rw [e7]
   exact jv
 · by_cases hlt2 : i < l.length
   · skip
     refine goA ?_
     refine jH (L' := L) ?_ jl
     refine je 4 _ rfl rfl ?_
     exact ⟨true, by rw [decide_eq_true (show (3000 : Int) ≤ (n : Int) by omega)], rfl, fun h => by cases h⟩
   · rw [List.take_of_length_le jf] at hall2
     refine goA ?_
     refine jH (L' := L) ?_ jl
     refine je 4 _ rfl rfl ?_
     exact ⟨_, rfl, rfl, fun _ => ⟨hcsm, by omega, hall2⟩⟩
end
section
open Go.RowKit
open Vd (RSet Vdt Vote Rec Quest Piece Ballot)
open Cn (Zo Cf)
variable {G : World} {L : ja}
def exC : Cf := Zn 3 20 10 5 1
def exL : List Int := [2, 0, 1]
def ex0 : As := (Aq.new1 qE strictZ exL exC 100).1
def ex1 : As := (Aq.vote ex0 2 (qI 1) 9 101).1
def ex2 : As := (Aq.vote ex1 0 (qI 2) 9 102).1
def ex3 : As := (Aq.vote ex2 1 (qI 1) 7 103).1
def ex4 : As := (Aq.pass ex2 1 103).1
def exD : Dd := ⟨[], [], true, true, qI 1, 7, [1, 2], [0]⟩
theorem exN : Aq.newE qE strictZ exL exC 100 = 0 := by decide +kernel
theorem aeQ : (Aq.new1 qE strictZ exL exC 100).2 = { Dd.none with sends := [2, 0] } := by decide +kernel
theorem aeR : (Aq.vote ex0 2 (qI 1) 9 101).2 = Dd.none := by decide +kernel
theorem aeS : (Aq.vote ex1 0 (qI 2) 9 102).2 = { Dd.none with sends := [1] } := by decide +kernel
theorem aeT : (Aq.vote ex2 1 (qI 1) 7 103).2 = exD := by decide +kernel
theorem aeU : (Aq.pass ex2 1 103).2 = { Dd.none with over := true } := by decide +kernel
theorem aeV : ex3.over = true := by decide +kernel
theorem aeW : ex4.over = true := by decide +kernel
theorem yJ (b : UInt8) : EndOk qE (qI b) := ⟨show 1 ≤ 600 by decide, fun d hd => by
 have : d = [10, 0, 0, b] := by simpa [Vd.endV, qI, qE] using hd
 rw [this]; show 4 ≤ 1000000; decide, fun _ => by show ([[10, 0, 0, b]] : List (List UInt8)) ≠ []; simp⟩
theorem Vq (b : UInt8) : SmV (qI b) := ⟨⟨show 1 ≤ 100000 by decide, fun s hs => by
 have : s = ⟨[2, 101, 120, 0], 1, 1, 0, [[10, 0, 0, b]]⟩ := by simpa [qI] using hs
 rw [this]; show 1 ≤ 100000; decide⟩, ⟨show 0 ≤ 100000 by decide, fun s hs => by cases hs⟩⟩
theorem uM {K : ja} {b : Nat} {l : List Int} {t : TypeId} {fr : Nat × Nat} (h : (b, Obj.cells (l.map (Value.int .i64)).toArray t fr) ∈ K) : IRow K (.slice (some ⟨b, 0, none⟩) l.length l.length) l :=
 ⟨_, l.length, rfl, Or.inr ⟨b, 0, _, _, _, rfl, h, fun i x hi => by simp [hi]⟩⟩
theorem KF {K : ja} {a : Option Addr} {c : Nat} {l : List Int} (h : IRow K (.slice a l.length c) l) : yZ K [.slice a l.length c, .slice none 0 0, .bool false, .bool false, .int .u8 0, .slice none 0 0, .slice none 0 0, .int .u32 0, .slice none 0 0, .slice none 0 0] { Dd.none with sends := l } :=
 ⟨a, c, none, 0, none, 0, none, 0, none, 0, none, 0, rfl, h, jC, ⟨_, _, rfl, sliceR.nil, sliceR.nil, Int.le_refl 0, show (0 : Int) ≤ 255 by decide⟩, jC, jC⟩
theorem Zt {K : ja} : yZ K [.slice none 0 0, .slice none 0 0, .bool true, .bool false, .int .u8 0, .slice none 0 0, .slice none 0 0, .int .u32 0, .slice none 0 0, .slice none 0 0] { Dd.none with over := true } :=
 ⟨none, 0, none, 0, none, 0, none, 0, none, 0, none, 0, rfl, jC, jC, ⟨_, _, rfl, sliceR.nil, sliceR.nil, Int.le_refl 0, show (0 : Int) ≤ 255 by decide⟩, jC, jC⟩
theorem exIn : NewIn qE strictZ exL exC 100 := (Kz exN).1
theorem exW0 : AWell ex0 := zf exIn ⟨show 4 ≤ 1000000 by decide, show (0 : Int) ≤ 1 ∧ (1 : Int) ≤ 65535 by decide, show (0 : Int) ≤ 1 ∧ (1 : Int) ≤ 65535 by decide, exIn.name⟩
theorem adH : ex0.q = qE := by decide +kernel
theorem adI : ex1.q = qE := by decide +kernel
theorem aeX : ex2.q = qE := by decide +kernel
theorem exW1 : AWell ex1 := exW0.vote fun _ _ => by rw [adH]; exact yJ 1
theorem adJ : AWell ex2 := exW1.vote fun _ _ => by rw [adI]; exact yJ 2
theorem WM : Spec Tryz.prog G 9 #[] L fun u M => u = .bool true ∧ M = L := by
 refine jm (n := 64) Tryz.func9 rfl rfl rfl ?_
 repeat (first | refine goA ?_ | (refine' jX (jb jg rfl (aeP )) rfl ?_) | (refine' jX (jb jg rfl (WK )) rfl ?_))
 refine jP (ki (vs := [(0, .int .i64 2), (1, .int .i64 0), (2, .int .i64 1)]) rfl (uR (C := (([2, 0, 1] : List Int).map (Value.int .i64)).toArray) etO [.int .i64 2, .int .i64 0, .int .i64 1] rfl (by intro v hv; simp only [List.mem_cons, List.not_mem_nil, or_false] at hv; rcases hv with rfl | rfl | rfl <;> rfl) (by decide) rfl)) rfl ?_
 intro bl
 repeat (refine' jX (jb jg rfl (Zp 3 20 10 5 1 )) rfl ?_)
 refine jx (jb jg rfl (Y3 qE strictZ _ _ exL exC 100 (show 4 ≤ 1000000 by decide) (show (0 : Int) ≤ 1 ∧ (1 : Int) ≤ 65535 by decide) (show (0 : Int) ≤ 1 ∧ (1 : Int) ≤ 65535 by decide) (show 1 ≤ 255 ∧ 0 ≤ 65535 by decide) (uM (l := [2, 0, 1]) (List.mem_cons_self ..)) (show 3 ≤ 1000 by decide) ⟨sliceR.nil, fun z hz => by cases hz⟩ (by decide))) rfl ?_
 rintro u0 M0 (⟨_, ap, cs0, X0, N0, rfl, hd0, hX0, rfl⟩ | ⟨hne, _⟩)
 rotate_left
 · exact absurd exN hne
 rw [aeQ] at hd0
 have hX0' : ut ap ex0 X0 := hX0
 obtain ⟨d1, e1, d2, e2, d3, e3, d4, e4, d5, e5, d6, e6, hcs, _⟩ := id hd0
 have hone := yI hd0
 repeat (first | refine goA ?_ | (refine j5 ?_; intro bNew))
 refine qk rfl rfl stO rfl hone.2 hone.1 ?_
 refine goA ?_
 refine jA (yp rfl stO (List.mem_cons_self ..) hone.2) rfl ?_
 repeat (refine ky rfl rfl ?_ ?_; (· exact Bool.not_true))
 refine qq (ki (vs := [(0, .int .i64 2), (1, .int .i64 0)]) rfl (uR (C := (([2, 0] : List Int).map (Value.int .i64)).toArray) etO [.int .i64 2, .int .i64 0] rfl (by intro v hv; simp only [List.mem_cons, List.not_mem_nil, or_false] at hv; rcases hv with rfl | rfl <;> rfl) (by decide) rfl)) rfl ?_
 rintro _ _ ⟨bl2, rfl, rfl⟩
 repeat (first | refine goA ?_ | refine jA (jo rfl (zP _ _ _)) rfl ?_)
 refine jZ (jb jg rfl (qy _ _ _ _ (j9 _ _ _ _ jt hd0) (KF (uM (l := [2, 0]) (List.mem_cons_self ..))) ⟨by decide, by decide, by decide, by decide⟩)) rfl ?_
 rw [decide_eq_true rfl]
 refine goA ?_
 refine qq (jb jg rfl (Qs 1 1 rfl)) rfl ?_
 rintro _ _ ⟨cv1, V1, rfl, hv1, rfl⟩
 repeat (refine ky rfl rfl ?_ ?_; (· exact Bool.not_true))
 refine qq (OpT.heap (L' := X0 ++ (V1 ++ L)) (fun w h => h.cnt jl) (jb jg rfl (zZ hX0' exW0 2 (qI 1) 9 101 cv1 (ko _ _ _ _ jt hv1) (Vq 1) (fun _ _ => by rw [adH]; exact yJ 1) (by decide) (by decide)))) rfl ?_
 rintro _ _ ⟨cs1, X1, N1, rfl, hd1, hX1, rfl⟩
 rw [aeR] at hd1
 have hX1' : ut ap ex1 X1 := hX1
 repeat (first | refine goA ?_ | refine jA (jo rfl (ud )) rfl ?_)
 refine jZ (jb jg rfl (qy _ _ _ _ (j9 _ _ _ _ jt hd1) kT ⟨by decide, by decide, by decide, by decide⟩)) rfl ?_
 rw [decide_eq_true rfl]
 refine goA ?_
 refine qq (jb jg rfl (Qs 2 2 rfl)) rfl ?_
 rintro _ _ ⟨cv2, V2, rfl, hv2, rfl⟩
 repeat (refine ky rfl rfl ?_ ?_; (· exact Bool.not_true))
 refine qq (OpT.heap (L' := X1 ++ (V2 ++ L)) (fun w h => h.cnt jl) (jb jg rfl (zZ hX1' exW1 0 (qI 2) 9 102 cv2 (ko _ _ _ _ jt hv2) (Vq 2) (fun _ _ => by rw [adI]; exact yJ 2) (by decide) (by decide)))) rfl ?_
 rintro _ _ ⟨cs2, X2, N2, rfl, hd2, hX2, rfl⟩
 rw [aeS] at hd2
 have hX2' : ut ap ex2 X2 := hX2
 repeat (refine ky rfl rfl ?_ ?_; (· exact Bool.not_true))
 refine qq (ki (vs := [(0, .int .i64 1)]) rfl (uR (C := (([1] : List Int).map (Value.int .i64)).toArray) etO [.int .i64 1] rfl (by intro v hv; simp only [List.mem_cons, List.not_mem_nil, or_false] at hv; rcases hv with rfl <;> rfl) (by decide) rfl)) rfl ?_
 rintro _ _ ⟨bl3, rfl, rfl⟩
 repeat (first | refine goA ?_ | refine jA (jo rfl (zP _ _ _)) rfl ?_)
 refine jZ (jb jg rfl (qy _ _ _ _ (j9 _ _ _ _ jt hd2) (KF (uM (l := [1]) (List.mem_cons_self ..))) ⟨by decide, by decide, by decide, by decide⟩)) rfl ?_
 rw [decide_eq_true rfl]
 refine goA ?_
 refine jx (OpT.heap (L' := X2 ++ L) (fun w h => h.cnt jl) (jb jg rfl (VV hX2'))) rfl ?_
 rintro _ _ ⟨ap2, X5, rfl, hX5, rfl⟩
 refine goA ?_
 refine jx (jb jg rfl (Qs 1 1 rfl)) rfl ?_
 rintro _ _ ⟨cv3, V3, rfl, hv3, rfl⟩
 skip
 refine jx (OpT.heap (L' := X2 ++ (V3 ++ (X5 ++ L))) (fun w h => h.cnt jl) (jb jg rfl (zZ hX2' adJ 1 (qI 1) 7 103 cv3 (ko _ _ _ _ jt hv3) (Vq 1) (fun _ _ => by rw [aeX]; exact yJ 1) (by decide) (by decide)))) rfl ?_
 rintro _ _ ⟨cs3, X6, N3, rfl, hd3, hX6, rfl⟩
 rw [aeT] at hd3
 have hX6' : ut ap ex3 X6 := hX6
 skip
 refine jx (jb jg rfl (Qs 1 1 rfl)) rfl ?_
 rintro _ _ ⟨cv4, V4, rfl, hv4, rfl⟩
 obtain ⟨s1, w1, s2, w2, rfl, hs1, hs2, hsc⟩ := hv4.vals
 skip
 refine jP (ki (vs := [(0, .int .i64 1), (1, .int .i64 2)]) rfl (uR (C := (([1, 2] : List Int).map (Value.int .i64)).toArray) etO [.int .i64 1, .int .i64 2] rfl (by intro v hv; simp only [List.mem_cons, List.not_mem_nil, or_false] at hv; rcases hv with rfl | rfl <;> rfl) (by decide) rfl)) rfl ?_
 intro bl4
 repeat (first | refine ju (jo rfl (qK _ _ _ _ _ _ _ _ _ _ _ _)) rfl ?_ | (refine uf ?_; intro bLit))
 refine kU (L' := (bLit, Obj.cells (([0] : List Int).map (Value.int .i64)).toArray 3 (0, 0)) :: (bl4, Obj.cells (([1, 2] : List Int).map (Value.int .i64)).toArray 3 (0, 0)) :: (V4 ++ (X6 ++ (N3 ++ (V3 ++ (X5 ++ L)))))) (fun w h => h) ?_
 refine jX (jb jg rfl (qy _ _ exD exD (j9 _ _ _ _ jt hd3) ⟨none, 0, none, 0, s1, w1, s2, w2, _, _, _, _, rfl, jC, jC, ko _ _ _ _ jt hv4, uM (l := [1, 2]) (List.mem_cons_of_mem _ (List.mem_cons_self ..)), uM (l := [0]) (List.mem_cons_self ..)⟩ ⟨by decide, by decide, by decide, by decide⟩)) rfl ?_
 rw [decide_eq_true rfl]
 refine goA ?_
 refine jZ (jb jg rfl (Qp hX6' jt)) rfl ?_
 rw [aeV]
 refine goA ?_
 refine qq (OpT.heap (L' := X5 ++ L) (fun w h => h.cnt jl) (jb jg rfl (VS hX5 adJ 1 103))) rfl ?_
 rintro _ _ ⟨cs5, X7, N5, rfl, hd5, hX7, rfl⟩
 rw [aeU] at hd5
 have hX7' : ut ap2 ex4 X7 := hX7
 repeat (first | refine goA ?_ | refine jA (jo rfl (VD _)) rfl ?_)
 refine jZ (jb jg rfl (qy _ _ _ _ (j9 _ _ _ _ jt hd5) Zt ⟨by decide, by decide, by decide, by decide⟩)) rfl ?_
 rw [decide_eq_true rfl]
 refine goA ?_
 refine jZ (jb jg rfl (Qp hX7' jt)) rfl ?_
 rw [aeW]
 refine goA ?_
 refine jH (L' := L) ?_ jl
 refine je 0 _ rfl rfl ?_
 exact ⟨rfl, rfl⟩
end
section
open Go.RowKit
open Vd (RSet Vdt Vote Rec Quest Piece Ballot)
open Cn (Zo Cf)
variable {G : World} {L : ja}
def adK (a : As) (m : ActT) : As × Dd := if m.what = 1 then Aq.vote a m.up m.v m.t m.now else if m.what = 2 then Aq.pass a m.up m.now else Aq.tick a m.now
def afE (q : Quest) (m : ActT) : Prop := m.what = 1 → VOk q m.v
theorem abH {a : As} (h : AOk a) (u now : Int) : (Aq.pass a u now).1.q = a.q := by
 unfold Aq.pass
 split
 · rfl
 · split
   · exact (jT (AOk.put (a := Aq.upto { a with p := (Hg.close a.p u).1 } now) ((h.close u).upto now) ⟨⟨u, Vdt.none, 0⟩, true⟩)).2.1
   · rfl
theorem abI {a : As} (h : AOk a) (now : Int) : (Aq.tick a now).1.q = a.q := by
 unfold Aq.tick
 split
 · rfl
 · split
   · rfl
   · exact (jT (a := { (Aq.upto a now) with p := (Hg.tick a.p (Aq.upto a now).now).1 }) ((h.upto now).tick _)).2.1
end
section
open Go.RowKit
open Vd (RSet Vdt Vote Rec Quest Piece Ballot)
open Cn (Zo Cf)
variable {G : World} {L : ja}
def uN (t : Int → Int) : Array Value := ((List.range 9).map fun (i : Nat) => Value.int .i64 (t (i : Int))).toArray
def zI (s : Int → Bool) : Array Value := ((List.range 9).map fun (i : Nat) => Value.bool (s (i : Int))).toArray
theorem Ux {α : Type} {f : Int → α} {u : Int} (h : 0 ≤ u ∧ u < 9) (g : α → Value) : (((List.range 9).map fun (i : Nat) => g (f (i : Int))).toArray)[0 + u.toNat * 1]? = some (g (f u)) := by
 obtain ⟨n, rfl⟩ := Int.eq_ofNat_of_zero_le h.1
 have hn : n < 9 := by omega
 rw [Int.toNat_natCast, Nat.mul_one, Nat.zero_add]
 simp [hn]
theorem KG {f f' : Int → Value} {u : Int} (h : 0 ≤ u ∧ u < 9) (hu : ∀ v, v ≠ u → f' v = f v) : (((List.range 9).map fun (i : Nat) => f (i : Int)).toArray).setIfInBounds (0 + u.toNat * 1) (f' u) = ((List.range 9).map fun (i : Nat) => f' (i : Int)).toArray := by
 obtain ⟨n, rfl⟩ := Int.eq_ofNat_of_zero_le h.1
 rw [Int.toNat_natCast, Nat.mul_one, Nat.zero_add, List.setIfInBounds_toArray]
 congr 1
 apply List.ext_getElem
 · simp
 · intro i h1 h2
   rw [List.getElem_set]
   simp only [List.getElem_map, List.getElem_range]
   split
   · rename_i e; rw [e]
   · rename_i e; exact (hu _ jf).symm
theorem uY {t : Int → Int} {u : Int} (h : 0 ≤ u ∧ u < 9) : (uN t)[0 + u.toNat * 1]? = some (.int .i64 (t u)) := Ux h _
theorem yK {s : Int → Bool} {u : Int} (h : 0 ≤ u ∧ u < 9) : (zI s)[0 + u.toNat * 1]? = some (.bool (s u)) := Ux h _
theorem Vr {t t' : Int → Int} {u x : Int} (h : 0 ≤ u ∧ u < 9) (hx : t' u = x) (hu : ∀ v, v ≠ u → t' v = t v) : (uN t).setIfInBounds (0 + u.toNat * 1) (.int .i64 x) = uN t' := by
 rw [← hx]
 exact KG (f := fun v => Value.int .i64 (t v)) (f' := fun v => Value.int .i64 (t' v)) h fun v hv => by rw [hu v hv]
theorem KH {t t' : Int → Bool} {u : Int} {x : Bool} (h : 0 ≤ u ∧ u < 9) (hx : t' u = x) (hu : ∀ v, v ≠ u → t' v = t v) : (zI t).setIfInBounds (0 + u.toNat * 1) (.bool x) = zI t' := by
 rw [← hx]
 exact KG (f := fun v => Value.bool (t v)) (f' := fun v => Value.bool (t' v)) h fun v hv => by rw [hu v hv]
theorem VY {a : Option Addr} {n c : Nat} {l : List Int} {i : Nat} {x : Int} (h : IRow L (.slice a n c) l) (hx : l[i]? = some x) : ∃ b off C te fr, a = some ⟨b, off, none⟩ ∧ (b, Obj.cells C te fr) ∈ L ∧ C[off + i * 1]? = some (.int .i64 x) := by
 obtain ⟨a', c', e, h⟩ := h
 cases e
 rcases h with rfl | ⟨b, off, C, te, fr, e1, e2, e3⟩
 · cases hx
 · exact ⟨b, off, C, te, fr, e1, e2, e3 i x hx⟩
abbrev BkM (po ps pt : Nat) (b : Bk) (L : ja) : ja := (po, .cells #[.int .i64 b.overs] 3 (0, 0)) :: (ps, .cells (zI b.shut) 48 (0, 0)) :: (pt, .cells (uN b.times) 47 (0, 0)) :: L
theorem JN {po ps pt pc : Nat} {C0 : Array Value} {us : List Int} {tries : Int} (b : Bk) (d : Dd) (ds : List Value) (z : Zo) (cl : List Int) (vl : Value) (hd : yZ L ds d) (hf : DFew d) (hok : TOk us tries b d) (hus : us = Aq.own z.pol z.tru cl) (hz : z.tru < 65536) (hcl : IRow L vl cl) (hcn : cl.length ≤ 1000)
 (hC : (pc, Obj.cells C0 32 (0, 0)) ∈ L) (g6 : C0[0 + 6]? = some vl) (g4 : C0[0 + 3 + 1]? = some (.int .u8 (z.pol : Nat))) (g5 : C0[0 + 3 + 2]? = some (.int .u16 (z.tru : Nat))) (g11 : C0[0 + 7 + 4]? = some (.int .i64 tries)) :
 Spec Tryz.prog G 11 #[.agg ds.toArray, .pointer (some ⟨po, 0, none⟩), .pointer (some ⟨ps, 0, none⟩), .pointer (some ⟨pc, 0, none⟩), .pointer (some ⟨pt, 0, none⟩)] (BkM po ps pt b L) fun u M => u = .bool true ∧ M = BkM po ps pt (b.told d) L := by
 have hd0 := hd
 obtain ⟨y1, k1, y2, k2, y3, k3, y4, k4, y5, k5, y6, k6, rfl, hs, hg, _⟩ := hd
 have hzero := hok.zero
 unfold BkM
 refine jm (n := 115) Tryz.func11 rfl rfl rfl ?_
 by_cases hov : 0 < b.overs
 · have hdn := hok.past hov
   have hm : b.told d = b := by unfold Bk.told; rw [if_pos hov]
   rw [hm]
   repeat (first | refine goU ?_ | (refine kK ?_; intro bBox))
   refine Zi (qy _ _ d Dd.none (j9 _ _ _ _ jt hd0) kT hf) ?_
   rw [decide_eq_true hdn]
   refine goU ?_
   refine uo 6 rfl rfl ⟨rfl, rfl⟩ kn
 have h0 : b.overs = 0 := by omega
 obtain ⟨tb, htb⟩ : ∃ t : Nat → Int → Int, t = fun k u => b.times u + ((d.sends.take k).count u : Nat) := ⟨_, rfl⟩
 have ht0 : uN b.times = uN (tb 0) := by rw [htb]; simp
 have hsl := hf.sends
 have hgl := hf.gone
 rw [ht0]
 repeat (first | refine goU ?_ | (refine kK ?_; intro bBox))
 refine jB (σ := Nat) (fun k => k ≤ d.sends.length) (fun k => [(1, .pointer (some ⟨po, 0, none⟩)), (2, .pointer (some ⟨ps, 0, none⟩)), (3, .pointer (some ⟨pc, 0, none⟩)), (4, .pointer (some ⟨pt, 0, none⟩)), (5, .pointer (some ⟨bBox, 0, none⟩)), (7, .int .i64 (k : Nat))])
  (fun k => (bBox, Obj.cells _ 43 (0, 0)) :: (po, .cells #[.int .i64 b.overs] 3 (0, 0)) :: (ps, .cells (zI b.shut) 48 (0, 0)) :: (pt, .cells (uN (tb k)) 47 (0, 0)) :: L) (fun k => d.sends.length - k) 0 (Nat.zero_le _) ?_ (fun w h => h) ?_
 · exact jv
 intro k hk
 by_cases hlt : k < d.sends.length
 · obtain ⟨u, hu⟩ : ∃ u, d.sends[k]? = some u := ⟨_, List.getElem?_eq_getElem hlt⟩
   obtain ⟨hr, hsh, hmem, hle⟩ := hok.sends h0 u (List.mem_of_getElem? hu)
   obtain ⟨b1, o1, C1, t1, f1, rfl, m1, e1⟩ := VY hs hu
   have q1 := uY (t := tb k) hr
   have q2 := yK (s := b.shut) hr
   rw [hsh] at q2
   have hnum := hok.num u
   have hcnt : (d.sends.take (k + 1)).count u = (d.sends.take k).count u + 1 := by rw [List.take_add_one, hu, List.count_append]; simp
   have hcle : (d.sends.take (k + 1)).count u ≤ d.sends.count u := (List.take_sublist _ _).count_le u
   have hin : cl.contains u = true := by
    rw [List.contains_iff_mem]
    rw [hus] at hmem
    exact (List.mem_filter.1 hmem).1
   have hown : z.pol = 3 → z.tru.testBit u.toNat = true := fun h3 => by
    rw [hus] at hmem
    have := (List.mem_filter.1 hmem).2
    rw [h3] at this
    simpa using this
   obtain ⟨n, rfl⟩ := Int.eq_ofNat_of_zero_le hr.1
   obtain ⟨w, hw⟩ : ∃ w, w = z.tru / 2 ^ n := ⟨_, rfl⟩
   have hshr := zd (P := Tryz.prog) (t := 22) (k := .i64) (a := z.tru) (u := n) hz
   rw [← hw] at hshr
   have hbit : z.pol = 3 → w % 2 = 1 := fun h3 => by
    have := hown h3
    rw [Int.toNat_natCast, Vh] at this
    rw [hw]
    simpa using this
   have hval : tb k n + 1 = tb (k + 1) n := by rw [htb]; dsimp only; rw [hcnt]; omega
   have hset := Vr (t := tb k) (t' := tb (k + 1)) (x := tb k n + 1) hr hval.symm (fun v hv => by
    rw [htb]; dsimp only
    rw [List.take_add_one, hu, List.count_append]
    simp [Ne.symm hv])
   have hlo : 0 ≤ tb k n ∧ tb k n ≤ 100000000 := by rw [htb]; dsimp only; have := List.count_le_length (a := (n : Int)) (l := d.sends.take k); rw [List.length_take] at this; omega
   have hle2 : tb (k + 1) n ≤ tries := by rw [htb]; dsimp only; omega
   have q3 := uY (t := tb (k + 1)) hr
   refine goU ?_
   refine Uv (aeO vl cl n (hcl.mono jt) jf) ?_
   rw [hin]
   by_cases h3 : z.pol = 3
   · have hb1 := hbit h3
     refine goU ?_
     refine jA (qp rfl rfl hshr) rfl ?_
     refine goV ?_
     refine stU rfl rfl onO JZ rfl q1 hset ?_
     refine goU ?_
     exact jk (k + 1) hlt jv (fun w h => h) jf
   · refine goV ?_
     refine stU rfl rfl onO JZ rfl q1 hset ?_
     refine goU ?_
     exact jk (k + 1) hlt jv (fun w h => h) jf
 · have hkl : k = d.sends.length := by omega
   refine goU ?_
   have htk : tb k = (b.told d).times := by rw [htb, hkl]; unfold Bk.told; rw [if_neg jf]; funext u; dsimp only; rw [List.take_length]
   rw [htk]
   obtain ⟨sb, hsb⟩ : ∃ t : Nat → Int → Bool, t = fun k u => b.shut u || (d.gone.take k).contains u := ⟨_, rfl⟩
   have hs0 : zI b.shut = zI (sb 0) := by rw [hsb]; simp
   have htm : (b.told d).times = fun u => b.times u + (d.sends.count u : Nat) := by unfold Bk.told; rw [if_neg jf]
   rw [hs0]
   refine jB (σ := Nat) (fun k => k ≤ d.gone.length) (fun k => [(1, .pointer (some ⟨po, 0, none⟩)), (2, .pointer (some ⟨ps, 0, none⟩)), (3, .pointer (some ⟨pc, 0, none⟩)), (4, .pointer (some ⟨pt, 0, none⟩)), (5, .pointer (some ⟨bBox, 0, none⟩)), (9, .int .i64 (k : Nat))])
    (fun k => (bBox, Obj.cells _ 43 (0, 0)) :: (po, .cells #[.int .i64 b.overs] 3 (0, 0)) :: (ps, .cells (zI (sb k)) 48 (0, 0)) :: (pt, .cells (uN (b.told d).times) 47 (0, 0)) :: L) (fun k => d.gone.length - k) 0 (Nat.zero_le _) ?_ (fun w h => h) ?_
   · exact jv
   intro j hj
   by_cases hlg : j < d.gone.length
   · obtain ⟨u, hu⟩ : ∃ u, d.gone[j]? = some u := ⟨_, List.getElem?_eq_getElem hlg⟩
     obtain ⟨hr, hsh, hle⟩ := hok.gone h0 u (List.mem_of_getElem? hu)
     obtain ⟨b1, o1, C1, t1, f1, rfl, m1, e1⟩ := VY hg hu
     have hnd := hok.nod h0
     have hsj : sb j u = false := by
      rw [hsb]
      dsimp only
      rw [hsh, Bool.false_or, Bool.eq_false_iff]
      intro hc
      obtain ⟨i, hi⟩ := List.mem_iff_getElem?.1 (List.contains_iff_mem.1 hc)
      have hil := (List.getElem?_eq_some_iff.1 hi).1
      rw [List.length_take] at hil
      rw [List.getElem?_take_of_lt jf] at hi
      have := (List.getElem?_inj jf hnd).1 (hi.trans hu.symm)
      omega
     have q1 := uY (t := (b.told d).times) hr
     have q2 := yK (s := sb j) hr
     rw [hsj] at q2
     have hge : 1 ≤ (b.told d).times u := by rw [htm]; exact hle
     have hset := KH (t := sb j) (t' := sb (j + 1)) (x := true) hr (by rw [hsb]; dsimp only; rw [List.take_add_one, hu]; simp) (fun v hv => by
      rw [hsb]; dsimp only
      rw [List.take_add_one, hu]
      simp [hv])
     refine goV ?_
     refine stU rfl rfl onO JZ rfl q2 hset ?_
     refine goU ?_
     exact jk (j + 1) hlg jv (fun w h => h) jf
   · have hjl : j = d.gone.length := by omega
     have hsj : sb j = (b.told d).shut := by rw [hsb, hjl]; unfold Bk.told; rw [if_neg jf]; funext u; dsimp only; rw [List.take_length]
     have hends := hok.ends h0
     rw [hsj]
     cases hdo : d.over with
     | true =>
       have hoe : (b.told d).overs = b.overs + 1 := by unfold Bk.told; rw [if_neg jf, hdo]; rfl
       refine goU ?_
       refine uo 6 rfl rfl ⟨rfl, rfl⟩ ?_
       rw [hoe]
       exact kn
     | false =>
       have hdd : d.done = false := by rw [hdo] at hends; simpa using hends
       have hoe : (b.told d).overs = b.overs := by unfold Bk.told; rw [if_neg jf, hdo]; simp
       rw [hdd]
       refine goU ?_
       refine uo 6 rfl rfl ⟨rfl, rfl⟩ ?_
       rw [hoe]
       exact kn
end
section
open Go.RowKit
open Vd (RSet Vdt Vote Rec Quest Piece Ballot)
open Cn (Zo Cf)
variable {G : World} {L : ja}
structure TurnT where
 ticks : Int
 up : Int
 pass : Bool
 v : Vdt
 t : Int
instance : Inhabited TurnT := ⟨⟨0, 0, false, Vdt.none, 0⟩⟩
def KI : Rp TurnT := fun L cs x => ∃ va vb, cs = [.int .u8 x.ticks, .int .i64 x.up, .bool x.pass, .int .u8 x.v.code, va, vb, .int .u32 x.t] ∧ vdR L [.int .u8 x.v.code, va, vb] x.v ∧ kx .u8 x.ticks ∧ kx .i64 x.up ∧ kx .u32 x.t
theorem WN : ue KI := fun L L' cs x hL ⟨va, vb, h1, h2, h3⟩ => ⟨va, vb, h1, ko L L' _ _ hL h2, h3⟩
structure TSm (l : List TurnT) : Prop where
 few : l.length ≤ 60
 sets : ∀ x ∈ l, LSm x.v.sets ∧ LSm x.v.soa
def zJ (x : TurnT) : ActT := ⟨0, 0, x.v, 0, 0⟩
def Zu : CaseT := ⟨⟨[], 0, 0⟩, ⟨[], 0, 0⟩, [], Cn.zeroC, 0⟩
theorem ur : I64 0 := by unfold I64; omega
theorem abJ : CfIn Cn.zeroC := ⟨ur, ur, ur, ur, ur, ur, ur, ur, ur, ur, ur, ur⟩
theorem aaP (v : Value) (l : List TurnT) (hl : sliceR 7 KI L [v] l) : Spec Tryz.prog G 8 #[v] L fun u M => ∃ b, u = .bool b ∧ M = L ∧ (b = false → TSm l) := by
 obtain ⟨la, lc, e, hl⟩ := hl.val
 obtain rfl := (List.cons.inj e).1
 have k1 := (sliceR.cut hl).2
 unfold maxLen at k1
 obtain ⟨k11, k12, _⟩ := k1
 refine jm (n := 32) Tryz.func8 rfl rfl rfl ?_
 refine goU ?_
 refine jB (σ := Nat × Option Addr × Nat × ja) (fun s => s.1 ≤ l.length ∧ s.1 ≤ 100 ∧ ORow abG 69 7 L s.2.1 s.2.2.1 ((l.take s.1).map zJ) s.2.2.2) (fun s => [(0, .slice la l.length lc), (3, .slice s.2.1 ((l.take s.1).map zJ).length s.2.2.1), (4, .int .i64 (s.1 : Nat))]) (fun s => s.2.2.2 ++ L) (fun s => l.length - s.1) (0, none, 0, []) ⟨Nat.zero_le _, Nat.zero_le _, ORow.nil _⟩ ?_ (fun w h => h) ?_
 · exact jv
 rintro ⟨k, a, c, B⟩ ⟨hk, hk2, hB⟩
 dsimp only at hk hk2 hB ⊢
 by_cases hlt : k < l.length ∧ k < 100
 · obtain ⟨hlt, hlt2⟩ := hlt
   obtain ⟨x, hx⟩ : ∃ x, l[k]? = some x := ⟨_, List.getElem?_eq_getElem hlt⟩
   obtain ⟨b1, o1, C1, t1, f1, rfl, m1, cs1, hn1, ⟨va, vb, rfl, hvd, h1, h2, h3⟩, hcs⟩ := sliceR.at hl hx
   obtain ⟨y1, z1, y2, z2, e5, _, _, _⟩ := hvd.vals
   simp only [List.cons.injEq, and_true, true_and] at e5
   obtain ⟨rfl, rfl⟩ := e5
   have htk : (l.take (k + 1)).map zJ = (l.take k).map zJ ++ [zJ x] := by rw [List.take_add_one, hx]; simp
   have hlen : ((l.take k).map zJ).length ≤ 100 := by rw [List.length_map, List.length_take]; omega
   have hver : ∀ j w, ([.int .u8 x.v.code, .slice y1 x.v.sets.length z1, .slice y2 x.v.soa.length z2] : List Value)[j]? = some w → C1[o1 + k * 7 + 3 + j]? = some w := fun j w hj =>
    match j, hj with
    | 0, hj => hcs 3 _ hj
    | 1, hj => hcs 4 _ hj
    | 2, hj => hcs 5 _ hj
   refine goU ?_
   refine ju (jD [.int .u8 x.v.code, .slice y1 x.v.sets.length z1, .slice y2 x.v.soa.length z2] rfl stL (List.mem_append_right _ m1) hver) rfl ?_
   repeat (first | refine goU ?_ | (refine uf ?_; intro bL))
   refine adG (zJ x) hB ⟨_, _, rfl, hvd, rfl, rfl, rfl, rfl⟩ ?_
   intro a' c' B' hB'
   refine goU ?_
   rw [← htk] at hB' ⊢
   exact jk (k + 1, a', c', B') ⟨hlt, hlt2, hB'⟩ jv (fun w h => h) (by dsimp only; omega)
 · by_cases h60 : 60 < l.length
   · by_cases hlt2 : k < l.length
     · have h100 : ¬ (k : Int) < 100 := by omega
       refine goU ?_
       refine uo 2 rfl rfl ⟨true, rfl, rfl, fun h => by cases h⟩ kn
     · refine goU ?_
       refine uo 2 rfl rfl ⟨true, rfl, rfl, fun h => by cases h⟩ kn
   · have hkl : k = l.length := by omega
     have hsl := hB.sliceR Zq (L' := B ++ L) jt jt
     have hz0 : JM (B ++ L) (uX Zu (.slice none 0 0) (.slice none 0 0)) Zu := ⟨_, _, rfl, ⟨rfl, by show 0 ≤ maxLen; omega, ⟨by show (0 : Int) ≤ 0; omega, by show (0 : Int) ≤ 65535; omega⟩, by show (0 : Int) ≤ 0; omega, by show (0 : Int) ≤ 65535; omega⟩, ⟨rfl, by show 0 ≤ maxLen; omega, by show 0 ≤ 255; omega, by show 0 ≤ 65535; omega⟩, sliceR.nil, ⟨_, rfl, sliceR.nil, abJ⟩, rfl⟩
     refine goU ?_
     refine Zh (Zs _ Zu _ _ hz0 hsl) ?_
     rintro _ _ ⟨b, rfl, rfl, hb⟩
     refine goU ?_
     refine uo 2 rfl rfl ⟨b, rfl, rfl, fun h => ?_⟩ kn
     have := (hb h).2.sets
     refine ⟨by omega, fun y hy => ?_⟩
     rw [hkl, List.take_length] at this
     exact this (zJ y) (List.mem_map_of_mem hy)
end
section
open Go.RowKit
open Vd (RSet Vdt Vote Rec Quest Piece Ballot)
open Cn (Zo Cf)
variable {G : World} {L : ja}
def afX (a : As) (l : List ActT) : As := l.foldl (fun a m => (adK a m).1) a
end
section
open Go.RowKit
open Hg (En Pl)
open Vd (RSet Vdt Vote Rec Quest Piece Ballot)
open Cn (Zo Cf)
theorem aaQ {c : Cf} (h : Cn.mayP c = true) : 1 ≤ c.ded := by
 have h1 := of_decide_eq_true (Bool.and_eq_true_iff.1 h).1
 obtain ⟨⟨a1, a2, _⟩, a3, a4, a5, ⟨a6, a7⟩, _⟩ := h1
 have h2 : 0 ≤ c.ups / 2 * c.hdg := Int.mul_nonneg jf jf
 have h3 : 1 * 1 ≤ c.tri * c.wai := Int.mul_le_mul jf jf jf jf
 omega
theorem aaR (l : List Int) (a b c d e : Int) : km (Hg.mk l a b c d e) = l := by
 unfold km Hg.mk
 dsimp only
 rw [List.map_map]
 exact (List.map_congr_left fun x _ => rfl).trans (List.map_id l)
theorem KR.new {q : Quest} {z : Zo} {l : List Int} {c : Cf} {now : Int} (h : NewIn q z l c now) (hq : QOk q) :
 TOk (Aq.own z.pol z.tru l) c.tri Bk.zero (Aq.new1 q z l c now).2 ∧ KR (Aq.own z.pol z.tru l) c.tri (Bk.zero.told (Aq.new1 q z l c now).2) (Aq.new1 q z l c now).1 := by
 obtain ⟨n1, n2, n3, n4, n5, n6⟩ := qX h.may
 obtain ⟨o1, o2, o3⟩ := JH (pol := z.pol) (tru := z.tru) h.dist n1.2
 have hf := Fr.mk (Aq.own z.pol z.tru l) (Aq.wantOf c z.pol) c.hdg c.wai c.tri now
 have hu := aaR (Aq.own z.pol z.tru l) (Aq.wantOf c z.pol) c.hdg c.wai c.tri now
 have hn : (km (Hg.mk (Aq.own z.pol z.tru l) (Aq.wantOf c z.pol) c.hdg c.wai c.tri now)).Nodup := by rw [hu]; exact o2
 have s1 := Stp.begin' hf hn
 have hok := (zf h hq).ok
 have hr : ∀ u ∈ Aq.own z.pol z.tru l, 0 ≤ u ∧ u < 9 := fun u hm => by have := o1 u hm; omega
 have hk : KR (Aq.own z.pol z.tru l) c.tri Bk.zero { Aq.new0 q z l c now with p := Hg.mk (Aq.own z.pol z.tru l) (Aq.wantOf c z.pol) c.hdg c.wai c.tri now } := by
  refine ⟨fun k => (by cases k), fun _ => ⟨rfl, fun x hx => ?_, fun u _ => ⟨rfl, rfl⟩⟩, hu, rfl, fun u => ⟨Int.le_refl 0, by show (0 : Int) ≤ 4; omega⟩⟩
  simp only [Hg.mk, List.mem_map] at hx
  obtain ⟨v, _, rfl⟩ := hx
  exact ⟨rfl, rfl⟩
 obtain ⟨r, k1, k2, k3, k4, k5⟩ := JK (Aq.new0 q z l c now) { Dd.none with sends := (Hg.begin' (Hg.mk (Aq.own z.pol z.tru l) (Aq.wantOf c z.pol) c.hdg c.wai c.tri now)).2 } (qC h hq).ok.fr (by show (km (Hg.begin' _).1).Nodup; rw [s1.ups]; exact hn) rfl rfl rfl
 refine hk.step (a' := (Aq.new1 q z l c now).1) hr rfl ?_ k4 k5 hok.good
 show Stp _ _ (Aq.look _ _).2.sends (Aq.look _ _).2.gone
 rw [k1, k3]
 exact s1.trans k2
theorem Zv {a : As} (h : AOk a) (t : Int) : (Aq.tick a t).1.ded = a.ded := by
 unfold Aq.tick
 split
 · rfl
 · split
   · rfl
   · exact (jT (a := { (Aq.upto a t) with p := (Hg.tick a.p (Aq.upto a t).now).1 }) ((h.upto t).tick _)).2.2.2.2.2.1
theorem Zw {a : As} (h : AOk a) (u t : Int) : (Aq.pass a u t).1.ded = a.ded := by
 unfold Aq.pass
 split
 · rfl
 · split
   · exact (jT (AOk.put (a := Aq.upto { a with p := (Hg.close a.p u).1 } t) ((h.close u).upto t) ⟨⟨u, Vdt.none, 0⟩, true⟩)).2.2.2.2.2.1
   · rfl
theorem WO {a : As} {t : Int} (h : a.ded ≤ t) (ht : t ≤ Hg.top) : (Aq.tick a t).1.over = true := by
 unfold Aq.tick
 split
 · assumption
 · have hu : (Aq.upto a t).now = max a.now (min t Hg.top) := rfl
   rw [if_pos jf]
theorem KJ {a : As} {t : Int} (h : a.over = true) : Aq.tick a t = (a, Dd.none) := by unfold Aq.tick; rw [if_pos h]
theorem WP {a : As} {u t : Int} (h : a.over = true) : Aq.pass a u t = (a, Dd.none) := by unfold Aq.pass; rw [if_pos h]
structure EnI (us : List Int) (c : Cf) (q : Quest) (t0 : Int) (b : Bk) (a : As) (now : Int) : Prop where
 well : AWell a
 q : a.q = q
 kr : KR us c.tri b a
 ded : a.ded = t0 + c.ded
 clk : t0 ≤ now ∧ 0 ≤ now
 run : a.over = true ∨ now < t0 + c.ded
theorem EnI.tick {us : List Int} {c : Cf} {q : Quest} {t0 : Int} {b : Bk} {a : As} {now : Int} (h : EnI us c q t0 b a now) (hr : ∀ u ∈ us, 0 ≤ u ∧ u < 9) (hn : us.Nodup) (ht : now + 1 ≤ Hg.top) :
 TOk us c.tri b (Aq.tick a (now + 1)).2 ∧ EnI us c q t0 (b.told (Aq.tick a (now + 1)).2) (Aq.tick a (now + 1)).1 (now + 1) := by
 obtain ⟨k1, k2⟩ := h.kr.tick hr hn h.well.ok (now + 1)
 refine ⟨k1, h.well.tick, (abI h.well.ok _).trans h.q, k2, (Zv h.well.ok _).trans h.ded, ⟨by have := h.clk; omega, by have := h.clk; omega⟩, ?_⟩
 rcases h.run with ho | ho
 · left; rw [KJ ho]; exact ho
 · by_cases e : now + 1 < t0 + c.ded
   · exact Or.inr e
   · exact Or.inl (WO (by rw [h.ded]; omega) ht)
theorem EnI.pass {us : List Int} {c : Cf} {q : Quest} {t0 : Int} {b : Bk} {a : As} {now : Int} (h : EnI us c q t0 b a now) (hr : ∀ u ∈ us, 0 ≤ u ∧ u < 9) (hn : us.Nodup) (u : Int) :
 (b.was u = false → (Aq.pass a u now).2 = Dd.none) ∧ TOk us c.tri (if b.was u then b.put u else b) (Aq.pass a u now).2 ∧ EnI us c q t0 ((if b.was u then b.put u else b).told (Aq.pass a u now).2) (Aq.pass a u now).1 now ∧ (∀ v t, (Aq.vote (Aq.pass a u now).1 u v t now).2 = Dd.none) ∧ ((Aq.pass a u now).1.over = false → (Hg.close (Aq.pass a u now).1.p u).2 = true → False) := by
 obtain ⟨k0, k1, k2, k3⟩ := h.kr.pass hr hn h.well.ok u now
 have hnot : (Aq.pass a u now).1.over = false → (Hg.close (Aq.pass a u now).1.p u).2 = true → False := fun e1 e2 => by
  have := k3 e1
  rw [e2] at this
  cases this
 refine ⟨k0, k1, ⟨h.well.pass, (abH h.well.ok _ _).trans h.q, k2, (Zw h.well.ok _ _).trans h.ded, h.clk, ?_⟩, fun v t => ?_, hnot⟩
 · rcases h.run with ho | ho
   · left; rw [WP ho]; exact ho
   · exact Or.inr ho
 · unfold Aq.vote
   split
   · rfl
   · rename_i ho
     rw [if_neg (fun e => hnot (by simpa using ho) e)]
end
section
open Go.RowKit
open Hg (En Pl)
open Vd (RSet Vdt Vote Rec Quest Piece Ballot)
open Cn (Zo Cf)
variable {G : World} {L : ja}
theorem WQ (cx : List Value) (x : CaseT) (v : Value) (l : List TurnT) (hx : JM L cx x) (hl : sliceR 7 KI L [v] l) : Spec Tryz.prog G 3 #[.agg cx.toArray, v] L fun u M => u = .bool true ∧ M = L := by
 have hx0 := hx
 obtain ⟨vl, vz, rfl, hq, hz, hli, hcf, hnow⟩ := hx
 obtain ⟨_, hqn, hqk, hqc⟩ := hq
 obtain ⟨_, hzn, hzp, hzt⟩ := hz
 obtain ⟨vz', e1, hzs, hci⟩ := hcf
 obtain rfl : vz' = vz := by simpa [ji] using e1.symm
 obtain ⟨la, lc, e2, hli⟩ := hli.val
 obtain rfl := (List.cons.inj e2).1
 obtain ⟨aa, ac, e4, hl⟩ := hl.val
 obtain rfl := (List.cons.inj e4).1
 clear e1 e2 e4
 have hnw := Uw hnow
 have k3 := (sliceR.cut hl).2
 unfold maxLen at k3
 obtain ⟨k31, k32, _⟩ := k3
 refine jm (n := 199) Tryz.func3 rfl rfl rfl ?_
 refine jU ?_
 refine jI (jP (kE rfl) rfl ?_)
 intro bC
 obtain ⟨C0, hC0⟩ : ∃ C : Array Value, C = (uX x (.slice la x.l.length lc) vz').toArray := ⟨_, rfl⟩
 rw [← hC0]
 have hC0s : C0.size = 21 := by rw [hC0]; rfl
 have hlong : ∀ M : ja, (∀ p ∈ L, p ∈ M) → Spec Tryz.prog G 7 #[.agg C0, .slice none 0 0] M fun u N => ∃ b, u = .bool b ∧ N = M ∧ (b = false → CSm x ∧ ASm []) := fun M hM => by
  rw [hC0]
  exact Zs _ x _ [] (WL _ _ _ _ hM hx0) sliceR.nil
 have haw : ∀ M : ja, Spec Tryz.prog G 9 #[] M fun u N => u = .bool true ∧ N = M := fun M => WM
 have f6 : C0[0 + 6]? = some (.slice la x.l.length lc) := by rw [hC0]; rfl
 have f20 : C0[0 + 20]? = some (.int .i64 x.now) := by rw [hC0]; rfl
 have g4 : C0[0 + 3 + 1]? = some (.int .u8 (x.z.pol : Nat)) := by rw [hC0]; rfl
 have g5 : C0[0 + 3 + 2]? = some (.int .u16 (x.z.tru : Nat)) := by rw [hC0]; rfl
 have g8 : C0[0 + 7 + 1]? = some (.int .i64 x.c.ded) := by rw [hC0]; rfl
 have g11 : C0[0 + 7 + 4]? = some (.int .i64 x.c.tri) := by rw [hC0]; rfl
 have fq : ∀ j u, ([.string (bs x.q.name), .int .u16 x.q.kind, .int .u16 x.q.cls] : List Value)[j]? = some u → C0[0 + 0 + j]? = some u := fun j u hj => by
  rw [hC0]
  match j, hj with
  | 0, hj => exact hj
  | 1, hj => exact hj
  | 2, hj => exact hj
 have fz : ∀ j u, ([.string (bs x.z.name), .int .u8 (x.z.pol : Nat), .int .u16 (x.z.tru : Nat)] : List Value)[j]? = some u → C0[0 + 3 + j]? = some u := fun j u hj => by
  rw [hC0]
  match j, hj with
  | 0, hj => exact hj
  | 1, hj => exact hj
  | 2, hj => exact hj
 have fc : ∀ j u, (ji x.c vz')[j]? = some u → C0[0 + 7 + j]? = some u := fun j u hj => by
  rw [hC0]
  have hlt := (List.getElem?_eq_some_iff.1 hj).1
  have : j < 13 := hlt
  match j, hj with
  | 0, hj => exact hj
  | 1, hj => exact hj
  | 2, hj => exact hj
  | 3, hj => exact hj
  | 4, hj => exact hj
  | 5, hj => exact hj
  | 6, hj => exact hj
  | 7, hj => exact hj
  | 8, hj => exact hj
  | 9, hj => exact hj
  | 10, hj => exact hj
  | 11, hj => exact hj
  | 12, hj => exact hj
  | (j + 13), hj => exact absurd this jf
 clear hC0
 refine goU ?_
 refine Uu (hlong _ ?_) ?_
 · exact jt
 rintro _ _ ⟨b, rfl, rfl, hsm1⟩
 cases b with
 | true =>
   refine goU ?_
   refine Zi (haw _) ?_
   refine goU ?_
   exact uo 4 rfl rfl ⟨rfl, rfl⟩ kn
 | false =>
 obtain ⟨hcsm, _⟩ := hsm1 rfl
 refine goU ?_
 refine Zh (aaP _ l (jn WN _ _ _ _ ?_ hl)) ?_
 · exact jt
 rintro _ _ ⟨b, rfl, rfl, hsm2⟩
 cases b with
 | true =>
   refine goU ?_
   refine Zi (haw _) ?_
   refine goU ?_
   exact uo 4 rfl rfl ⟨rfl, rfl⟩ kn
 | false =>
 have htsm := hsm2 rfl
 refine goU ?_
 refine Uv (haw _) ?_
 refine goU ?_
 refine ju (jD [.string (bs x.q.name), .int .u16 x.q.kind, .int .u16 x.q.cls] rfl stL JV fq) rfl ?_
 refine goU ?_
 refine ju (jD [.string (bs x.z.name), .int .u8 (x.z.pol : Nat), .int .u16 (x.z.tru : Nat)] rfl stL JV fz) rfl ?_
 refine goU ?_
 refine ju (jD (ji x.c vz') rfl stL JV fc) rfl ?_
 refine goU ?_
 have hnew : ∀ M : ja, (∀ p ∈ L, p ∈ M) → Spec Tryz.prog G 10 #[.agg (kQ x.q), .agg #[.string (bs x.z.name), .int .u8 (x.z.pol : Nat), .int .u16 (x.z.tru : Nat)], .slice la x.l.length lc, .agg (ji x.c vz').toArray, .int .i64 x.now] M (Y2 M (Aq.newE x.q x.z x.l x.c x.now) (Aq.new1 x.q x.z x.l x.c x.now)) := fun M hM =>
  Y3 x.q x.z _ vz' x.l x.c x.now (by have := hcsm.name; omega) hqk hqc ⟨hzp, hzt⟩ ((zX hli).mono hM) (by have := hcsm.list; omega) ⟨jn z7 _ _ _ _ hM hzs, fun z hz => by have := hcsm.names z hz; omega⟩ hnw
 refine Uu (hnew _ ?_) ?_
 · exact jt
 by_cases he : Aq.newE x.q x.z x.l x.c x.now = 0
 rotate_left
 · rintro _ _ (⟨h0, _⟩ | ⟨_, rfl, rfl⟩)
   · exact absurd h0 he
   repeat (first | refine goU ?_ | (refine j5 ?_; intro bNew))
   exact uo 4 rfl rfl ⟨rfl, rfl⟩ kn
 have hin := (Kz he).1
 have hqok : QOk x.q := ⟨by have := hcsm.name; omega, hqk, hqc, hin.name⟩
 obtain ⟨a0, ha0⟩ : ∃ a, a = (Aq.new1 x.q x.z x.l x.c x.now).1 := ⟨_, rfl⟩
 obtain ⟨d0, hd00⟩ : ∃ a, a = (Aq.new1 x.q x.z x.l x.c x.now).2 := ⟨_, rfl⟩
 have hw0 : AWell a0 := by rw [ha0]; exact zf hin hqok
 have hsh0 := abD hin hqok
 have hq0 : a0.q = x.q := by rw [ha0]; exact (jT (qC hin hqok).ok).2.1
 have hk0 := KR.new hin hqok
 have hdp := aaQ hin.may
 have hded0 : a0.ded = x.now + x.c.ded := by rw [ha0]; exact (jT (qC hin hqok).ok).2.2.2.2.2.1
 obtain ⟨n1, n2, n3, n4, n5, n6⟩ := qX hin.may
 obtain ⟨o1, o2, o3⟩ := JH (pol := x.z.pol) (tru := x.z.tru) hin.dist n1.2
 obtain ⟨us, hus⟩ : ∃ us, us = Aq.own x.z.pol x.z.tru x.l := ⟨_, rfl⟩
 rw [← hus] at o1 o2 hk0
 have hru : ∀ u ∈ us, 0 ≤ u ∧ u < 9 := fun u hm => by have := o1 u hm; omega
 rintro _ _ (⟨_, ap, cs0, X0, N0, rfl, hd0, hX0, rfl⟩ | ⟨h0, _⟩)
 rotate_left
 · exact absurd he h0
 rw [← ha0] at hX0 hk0
 rw [← hd00] at hd0 hk0 hsh0
 have hone0 := yI hd0
 repeat (first | refine goV ?_ | (refine j5 ?_; intro bD))
 refine Qq rfl rfl stO JZ rfl hone0.2 hone0.1 ?_
 by_cases hbig : 300 < x.c.ded ∨ 549755813888 < x.now
 · have hret : ∀ b : Bool, b = true → True := fun _ _ => trivial
   by_cases hb1 : 300 < x.c.ded
   · refine goU ?_
     exact uo 4 rfl rfl ⟨rfl, rfl⟩ kn
   · have hb2 : 549755813888 < x.now := by omega
     refine goU ?_
     exact uo 4 rfl rfl ⟨rfl, rfl⟩ kn
 have hs1 : ¬ 300 < x.c.ded := by omega
 have hs2 : ¬ 549755813888 < x.now := by omega
 repeat (first | refine goU ?_ | (refine j5 ?_; intro bT))
 rename_i pt ps
 obtain ⟨po, hpo⟩ : ∃ b, bT = b := ⟨_, rfl⟩
 rw [hpo]
 clear hpo
 have hsz0 : cs0.toArray.size = 10 := hone0.2
 have htl : x.z.tru < 65536 := by omega
 have hcl := zX hli
 have hxl := hcsm.list
 refine ju (abE rfl) rfl ?_
 refine goU ?_
 refine Zj (JN Bk.zero d0 cs0 x.z x.l (.slice la x.l.length lc) (j9 _ _ _ _ ?_ hd0) hsh0.few hk0.1 hus htl (hcl.mono ?_) jf ?_ f6 g4 g5 g11) ?_
 · exact jt
 · exact jt
 · exact JV
 rintro _ _ ⟨rfl, rfl⟩
 refine goU ?_
 have hE0 : EnI us x.c x.q x.now (Bk.zero.told d0) a0 x.now := ⟨hw0, hq0, hk0.2, hded0, ⟨Int.le_refl _, hin.now.1⟩, Or.inr jf⟩
 have htop : Hg.top = 1099511627776 := rfl
 have h60 := htsm.few
 refine jB (σ := Nat × As × ja × Bk × Int) (fun s => s.1 ≤ l.length ∧ EnI us x.c x.q x.now s.2.2.2.1 s.2.1 s.2.2.2.2 ∧ ut ap s.2.1 s.2.2.1 ∧ s.2.2.2.2 ≤ x.now + 20 * s.1)
  (fun s => [(1, .slice aa l.length ac), (2, .pointer (some ⟨bC, 0, none⟩)), (5, .pointer (some ⟨ap, 0, none⟩)), (8, .pointer (some ⟨pt, 0, none⟩)), (9, .pointer (some ⟨ps, 0, none⟩)), (10, .pointer (some ⟨po, 0, none⟩)), (11, .func (.func 11) #[] (([.pointer (some ⟨po, 0, none⟩), .pointer (some ⟨ps, 0, none⟩), .pointer (some ⟨bC, 0, none⟩), .pointer (some ⟨pt, 0, none⟩)] : List Value).toArray)), (12, .int .i64 s.2.2.2.2), (13, .int .i64 (s.1 : Nat))])
  (fun s => BkM po ps pt s.2.2.2.1 ((bC, .cells C0 32 (0, 0)) :: (s.2.2.1 ++ L))) (fun s => l.length - s.1) (0, a0, X0, Bk.zero.told d0, x.now) ⟨Nat.zero_le _, hE0, hX0, by dsimp only; omega⟩ ?_ (Fits.heap kn) ?_
 · exact jv
 rintro ⟨i, a, X, b, now⟩ ⟨hi, hE, hX, hnb⟩
 dsimp only at hi hE hX hnb ⊢
 by_cases hlt : i < l.length
 · obtain ⟨y, hy⟩ : ∃ y, l[i]? = some y := ⟨_, List.getElem?_eq_getElem hlt⟩
   obtain ⟨b1, o1, C1, t1, f1, rfl, m1, cs1, hn1, ⟨va, vb, rfl, hvd, h1, h2, h3⟩, hcs⟩ := sliceR.at hl hy
   obtain ⟨y1, z1, y2, z2, e5, _, _, _⟩ := hvd.vals
   simp only [List.cons.injEq, and_true, true_and] at e5
   obtain ⟨rfl, rfl⟩ := e5
   have l1 := aaO h1
   have l2 := Uw h2
   have l3 := Zr h3
   have c0 : C1[o1 + i * 7 + 0]? = some (.int .u8 y.ticks) := hcs 0 _ rfl
   have c1 : C1[o1 + i * 7 + 1]? = some (.int .i64 y.up) := hcs 1 _ rfl
   have c2 : C1[o1 + i * 7 + 2]? = some (.bool y.pass) := hcs 2 _ rfl
   have c4 : C1[o1 + i * 7 + 4 + 2]? = some (.int .u32 y.t) := hcs 6 _ rfl
   have hm1 : 0 ≤ y.ticks % 20 ∧ y.ticks % 20 < 20 := ⟨Int.emod_nonneg _ (by decide), Int.emod_lt_of_pos _ (by decide)⟩
   refine goU ?_
   refine jB (σ := Nat × As × ja × Bk × Int) (fun s => (s.1 : Int) ≤ y.ticks % 20 ∧ EnI us x.c x.q x.now s.2.2.2.1 s.2.1 s.2.2.2.2 ∧ ut ap s.2.1 s.2.2.1 ∧ s.2.2.2.2 ≤ x.now + 20 * i + s.1)
    (fun s => [(1, .slice (some ⟨b1, o1, none⟩) l.length ac), (2, .pointer (some ⟨bC, 0, none⟩)), (5, .pointer (some ⟨ap, 0, none⟩)), (8, .pointer (some ⟨pt, 0, none⟩)), (9, .pointer (some ⟨ps, 0, none⟩)), (10, .pointer (some ⟨po, 0, none⟩)), (11, .func (.func 11) #[] (([.pointer (some ⟨po, 0, none⟩), .pointer (some ⟨ps, 0, none⟩), .pointer (some ⟨bC, 0, none⟩), .pointer (some ⟨pt, 0, none⟩)] : List Value).toArray)), (12, .int .i64 s.2.2.2.2), (13, .int .i64 (i : Nat)), (14, .int .i64 (s.1 : Nat))])
    (fun s => BkM po ps pt s.2.2.2.1 ((bC, .cells C0 32 (0, 0)) :: (s.2.2.1 ++ L))) (fun s => 20 - s.1) (0, a, X, b, now) ⟨by dsimp only; omega, hE, hX, by dsimp only; omega⟩ ?_ (fun w h => h) ?_
   · exact jv
   · rintro ⟨k, a, X, b, now⟩ ⟨hk, hE, hX, hnb⟩
     dsimp only at hk hE hX hnb ⊢
     have hck := hE.clk
     by_cases hkl : (k : Int) < y.ticks % 20
     · obtain ⟨q1, q2⟩ := hE.tick hru (hus ▸ o2) jf
       refine goU ?_
       refine Uu (Qo hX hE.well (now + 1)) ?_
       rintro _ _ ⟨cd, X2, N, rfl, hd, hX2, rfl⟩
       refine Zj (JN b (Aq.tick a (now + 1)).2 cd x.z x.l (.slice la x.l.length lc) (j9 _ _ _ _ ?_ hd) (DSh.few (VX hE.well.ok (now + 1))) q1 hus htl (hcl.mono ?_) jf ?_ f6 g4 g5 g11) ?_
       · exact jt
       · exact jt
       · exact JV
       rintro _ _ ⟨rfl, rfl⟩
       refine goU ?_
       exact jk (k + 1, (Aq.tick a (now + 1)).1, X2, b.told (Aq.tick a (now + 1)).2, now + 1) ⟨by dsimp only; omega, q2, hX2, by dsimp only; omega⟩ jv (Fits.heap kn) (by dsimp only; omega)
     · refine jU ?_
       refine jU ?_
       refine goW ?_
       refine jU ?_
       refine goW ?_
       refine QN (σ := Unit) (fun _ => True) (fun _ => [(1, .slice (some ⟨b1, o1, none⟩) l.length ac), (2, .pointer (some ⟨bC, 0, none⟩)), (5, .pointer (some ⟨ap, 0, none⟩)), (8, .pointer (some ⟨pt, 0, none⟩)), (9, .pointer (some ⟨ps, 0, none⟩)), (10, .pointer (some ⟨po, 0, none⟩)), (11, .func (.func 11) #[] (([.pointer (some ⟨po, 0, none⟩), .pointer (some ⟨ps, 0, none⟩), .pointer (some ⟨bC, 0, none⟩), .pointer (some ⟨pt, 0, none⟩)] : List Value).toArray)), (12, .int .i64 now), (13, .int .i64 (i : Nat)), (15, .int .i64 y.up), (16, .bool (b.was y.up))]) (fun _ => BkM po ps pt b ((bC, .cells C0 32 (0, 0)) :: (X ++ L))) ?_ ?_
       · by_cases e1 : b.overs = 0
         rotate_left
         · have hw : b.was y.up = false := by unfold Bk.was; rw [decide_eq_false e1]; rfl
           rw [hw]
           refine goU ?_
           exact kw () trivial jv (Fits.heap kn)
         by_cases e2 : 0 ≤ y.up
         rotate_left
         · have hw : b.was y.up = false := by unfold Bk.was; rw [decide_eq_false (p := 0 ≤ y.up ∧ y.up < 9) jf]; simp
           rw [hw]
           refine goU ?_
           exact kw () trivial jv (Fits.heap kn)
         by_cases e3 : y.up < 9
         rotate_left
         · have hw : b.was y.up = false := by unfold Bk.was; rw [decide_eq_false (p := 0 ≤ y.up ∧ y.up < 9) jf]; simp
           rw [hw]
           refine goU ?_
           exact kw () trivial jv (Fits.heap kn)
         have q1 := uY (t := b.times) ⟨e2, e3⟩
         have q2 := yK (s := b.shut) ⟨e2, e3⟩
         by_cases e4 : 0 < b.times y.up
         rotate_left
         · have hw : b.was y.up = false := by unfold Bk.was; rw [decide_eq_false e4]; simp
           rw [hw]
           refine goU ?_
           exact kw () trivial jv (Fits.heap kn)
         have hw : b.was y.up = !b.shut y.up := by unfold Bk.was; rw [decide_eq_true e1, decide_eq_true (p := 0 ≤ y.up ∧ y.up < 9) ⟨e2, e3⟩, decide_eq_true e4]; rfl
         rw [hw]
         refine goU ?_
         exact kw () trivial jv (Fits.heap kn)
       rintro _ _
       obtain ⟨p0, p1, p2, p3, p4⟩ := hE.pass hru (hus ▸ o2) y.up
       refine QN (σ := Unit) (fun _ => True) (fun _ => [(1, .slice (some ⟨b1, o1, none⟩) l.length ac), (2, .pointer (some ⟨bC, 0, none⟩)), (5, .pointer (some ⟨ap, 0, none⟩)), (8, .pointer (some ⟨pt, 0, none⟩)), (9, .pointer (some ⟨ps, 0, none⟩)), (10, .pointer (some ⟨po, 0, none⟩)), (11, .func (.func 11) #[] (([.pointer (some ⟨po, 0, none⟩), .pointer (some ⟨ps, 0, none⟩), .pointer (some ⟨bC, 0, none⟩), .pointer (some ⟨pt, 0, none⟩)] : List Value).toArray)), (12, .int .i64 now), (13, .int .i64 (i : Nat)), (15, .int .i64 y.up), (16, .bool (b.was y.up))]) (fun _ => BkM po ps pt (if b.was y.up then b.put y.up else b) ((bC, .cells C0 32 (0, 0)) :: (X ++ L))) ?_ ?_
       · cases hwv : b.was y.up with
         | false =>
           rw [if_neg (by decide)]
           refine goU ?_
           exact kw () trivial jv (Fits.heap kn)
         | true =>
           have hwu := hwv
           unfold Bk.was at hwu
           simp only [Bool.and_eq_true, decide_eq_true_eq, Bool.not_eq_true'] at hwu
           obtain ⟨_, hruu, _, hss⟩ := hwu
           have q2 := yK (s := b.shut) hruu
           have hset := KH (t := b.shut) (t' := (b.put y.up).shut) (x := true) hruu (by simp [Bk.put]) (fun v hv => by simp [Bk.put, hv])
           rw [if_pos rfl]
           refine goV ?_
           refine stU rfl rfl onO JZ rfl q2 hset ?_
           refine goU ?_
           exact kw () trivial jv (Fits.heap kn)
       rintro _ _
       obtain ⟨bk, hbk⟩ : ∃ k, k = if b.was y.up then b.put y.up else b := ⟨_, rfl⟩
       obtain ⟨a3, ha3⟩ : ∃ z, z = Aq.pass a y.up now := ⟨_, rfl⟩
       have hps := aaL hE.well.ok y.up now
       rw [← hbk] at p1 p2 ⊢
       refine goU ?_
       refine Uu (VS hX hE.well y.up now) ?_
       rw [← ha3] at p0 p1 p2 p3 p4 hps ⊢
       rintro _ _ ⟨cd, X2, N, rfl, hd, hX2, rfl⟩
       have hone := yI hd
       have hsz : cd.toArray.size = 10 := hone.2
       repeat (first | refine goV ?_ | (refine j5 ?_; intro bD2))
       refine Qq rfl rfl stO JZ rfl hone.2 hone.1 ?_
       refine goW ?_
       refine QN (σ := Unit) (fun _ => True) (fun _ => [(1, .slice (some ⟨b1, o1, none⟩) l.length ac), (2, .pointer (some ⟨bC, 0, none⟩)), (5, .pointer (some ⟨ap, 0, none⟩)), (8, .pointer (some ⟨pt, 0, none⟩)), (9, .pointer (some ⟨ps, 0, none⟩)), (10, .pointer (some ⟨po, 0, none⟩)), (11, .func (.func 11) #[] (([.pointer (some ⟨po, 0, none⟩), .pointer (some ⟨ps, 0, none⟩), .pointer (some ⟨bC, 0, none⟩), .pointer (some ⟨pt, 0, none⟩)] : List Value).toArray)), (12, .int .i64 now), (13, .int .i64 (i : Nat)), (15, .int .i64 y.up)]) (fun _ => BkM po ps pt (bk.told a3.2) ((bC, .cells C0 32 (0, 0)) :: (X2 ++ L))) ?_ ?_
       · cases hwv : b.was y.up with
         | false =>
           refine goU ?_
           refine Uv (qy cd _ a3.2 Dd.none (j9 _ _ _ _ jt hd) kT (DSh.few hps)) ?_
           rw [decide_eq_true (p0 hwv)]
           refine goU ?_
           refine aa2 (JN bk a3.2 cd x.z x.l (.slice la x.l.length lc) (j9 _ _ _ _ ?_ hd) (DSh.few hps) p1 hus htl (hcl.mono ?_) jf ?_ f6 g4 g5 g11) ?_
           · exact jt
           · exact jt
           · exact JV
           rintro _ _ ⟨rfl, rfl⟩
           refine goU ?_
           exact kw () trivial jv (Fits.heap kn)
         | true =>
           refine goU ?_
           refine aa2 (JN bk a3.2 cd x.z x.l (.slice la x.l.length lc) (j9 _ _ _ _ ?_ hd) (DSh.few hps) p1 hus htl (hcl.mono ?_) jf ?_ f6 g4 g5 g11) ?_
           · exact jt
           · exact jt
           · exact JV
           rintro _ _ ⟨rfl, rfl⟩
           refine goU ?_
           exact kw () trivial jv (Fits.heap kn)
       rintro _ _
       cases hp : y.pass with
       | true =>
         rw [hp] at c2
         refine goU ?_
         exact jk (i + 1, a3.1, X2, bk.told a3.2, now) ⟨hlt, p2, hX2, by dsimp only; omega⟩ jv (fun w h => h) (by dsimp only; omega)
       | false =>
         rw [hp] at c2
         refine goU ?_
         have hK1 : ∀ p ∈ [(b1, Obj.cells C1 t1 f1)], p ∈ BkM po ps pt (bk.told a3.2) ((bC, .cells C0 32 (0, 0)) :: (X2 ++ L)) := fun p hp => by rw [List.mem_singleton.1 hp]; simp [m1]
         have hver : ∀ j w, ([.int .u8 y.v.code, .slice y1 y.v.sets.length z1, .slice y2 y.v.soa.length z2] : List Value)[j]? = some w → C1[o1 + i * 7 + 3 + j]? = some w := fun j w hj =>
          match j, hj with
          | 0, hj => hcs 3 _ hj
          | 1, hj => hcs 4 _ hj
          | 2, hj => hcs 5 _ hj
         refine jw jc [(b1, Obj.cells C1 t1 f1)] [] ?_
         refine tkQ 0 ?_
         refine tkQ 1 ?_
         refine tkQ 2 ?_
         refine tkQ 3 ?_
         refine tkQ 4 ?_
         refine tkQ 5 ?_
         refine tkQ 6 ?_
         refine tkQ 7 ?_
         refine tkQ 9 ?_
         refine tkQ 10 ?_
         refine tkQ 11 ?_
         refine tkQ 12 ?_
         refine tkQ 13 ?_
         refine jz 14 rfl rfl jg (kZ rfl rfl jQ (jD [.int .u8 y.v.code, .slice y1 y.v.sets.length z1, .slice y2 y.v.soa.length z2] rfl stL (List.mem_cons_self ..) hver)) hK1 ?_
         refine tkQ 15 ?_
         refine tkQ 16 ?_
         refine tkQ 17 ?_
         refine tkQ 18 ?_
         refine tkQ 19 ?_
         refine tkQ 20 ?_
         refine jz 22 rfl rfl jg (kZ rfl rfl jQ UO) hK1 ?_
         refine Vo 8 (VV hX2) ?_
         rintro _ _ ⟨bq, X3, rfl, hX3, rfl⟩
         refine ⟨fun p hp => by rw [List.mem_singleton.1 hp]; simp [m1], ?_⟩
         refine Vo 21 (zZ hX3 p2.well y.up y.v y.t now _ (ko _ _ _ _ ?_ hvd) ?_ (fun e1 e2 => (p4 e1 e2).elim) l3 l2) ?_
         · exact jt
         · exact ⟨(htsm.sets y (List.mem_of_getElem? hy)).1.smS, (htsm.sets y (List.mem_of_getElem? hy)).2.smS⟩
         rintro _ _ ⟨cv, X4, N4, rfl, hd4, hX4, rfl⟩
         refine ⟨fun p hp => by rw [List.mem_singleton.1 hp]; simp [m1], ?_⟩
         rw [p3] at hd4
         refine Vo 23 (qy cv _ Dd.none Dd.none (j9 _ _ _ _ ?_ hd4) kT none_sh.few) ?_
         · exact jt
         rintro _ _ ⟨rfl, rfl⟩
         refine ⟨fun p hp => by rw [List.mem_singleton.1 hp]; simp [m1], ?_⟩
         have hK2 : ∀ M : ja, (∀ p ∈ L, p ∈ M) → ∀ p ∈ [(b1, Obj.cells C1 t1 f1)], p ∈ M := fun M hM p hp => by rw [List.mem_singleton.1 hp]; exact hM _ m1
         refine tkQ 24 (hK := hK2 _ jt) ?_
         refine tkQ 25 (hK := hK2 _ jt) ?_
         refine tdQ ?_
         refine goU ?_
         exact jk (i + 1, a3.1, X2, bk.told a3.2, now) ⟨hlt, p2, hX2, by dsimp only; omega⟩ jv (Fits.heap kn) (by dsimp only; omega)
 · refine goU ?_
   refine jB (σ := As × ja × Bk × Int) (fun s => EnI us x.c x.q x.now s.2.2.1 s.1 s.2.2.2 ∧ ut ap s.1 s.2.1 ∧ s.2.2.2 ≤ x.now + 2000)
    (fun s => [(2, .pointer (some ⟨bC, 0, none⟩)), (5, .pointer (some ⟨ap, 0, none⟩)), (8, .pointer (some ⟨pt, 0, none⟩)), (9, .pointer (some ⟨ps, 0, none⟩)), (10, .pointer (some ⟨po, 0, none⟩)), (11, .func (.func 11) #[] (([.pointer (some ⟨po, 0, none⟩), .pointer (some ⟨ps, 0, none⟩), .pointer (some ⟨bC, 0, none⟩), .pointer (some ⟨pt, 0, none⟩)] : List Value).toArray)), (12, .int .i64 s.2.2.2)])
    (fun s => BkM po ps pt s.2.2.1 ((bC, .cells C0 32 (0, 0)) :: (s.2.1 ++ L))) (fun s => (x.now + x.c.ded - s.2.2.2).toNat) (a, X, b, now) ⟨hE, hX, by dsimp only; omega⟩ ?_ (fun w h => h) ?_
   · exact jv
   rintro ⟨a, X, b, now⟩ ⟨hE, hX, hnb⟩
   dsimp only at hE hX hnb ⊢
   have hck := hE.clk
   by_cases hrun : now < x.now + x.c.ded
   · obtain ⟨q1, q2⟩ := hE.tick hru (hus ▸ o2) jf
     refine goU ?_
     refine Uu (Qo hX hE.well (now + 1)) ?_
     rintro _ _ ⟨cd, X2, N, rfl, hd, hX2, rfl⟩
     refine Zj (JN b (Aq.tick a (now + 1)).2 cd x.z x.l (.slice la x.l.length lc) (j9 _ _ _ _ ?_ hd) (DSh.few (VX hE.well.ok (now + 1))) q1 hus htl (hcl.mono ?_) jf ?_ f6 g4 g5 g11) ?_
     · exact jt
     · exact jt
     · exact JV
     rintro _ _ ⟨rfl, rfl⟩
     refine goU ?_
     exact jk ((Aq.tick a (now + 1)).1, X2, b.told (Aq.tick a (now + 1)).2, now + 1) ⟨q2, hX2, by dsimp only; omega⟩ jv (Fits.heap kn) (by dsimp only; omega)
   · have hov : a.over = true := by
      rcases hE.run with h | h
      · exact h
      · exact absurd h hrun
     have hbo : b.overs = 1 := hE.kr.over hov
     have htp := KJ (t := now + 1) hov
     refine goU ?_
     refine Uv (Qp hX jt) ?_
     rw [hov]
     refine goU ?_
     refine Zh (Qo hX hE.well (now + 1)) ?_
     rw [htp]
     rintro _ _ ⟨cd, X2, N, rfl, hd, hX2, rfl⟩
     refine goU ?_
     refine Uv (qy cd _ Dd.none Dd.none (j9 _ _ _ _ jt hd) kT none_sh.few) ?_
     refine goU ?_
     exact uo 4 rfl rfl ⟨rfl, rfl⟩ kn
end
section
open Go.RowKit
theorem Qt (cx : List Value) (x : CaseT) (v : Value) (l : List TurnT) (W : World) (hx : JM (kp W) cx x) (hl : sliceR 7 KI (kp W) [v] l) :
 Calls Tryz.prog 3 #[.agg cx.toArray, v] W fun e w' => e = .returned (.bool true) ∧ Below W.heap.size W w' :=
 Spec.below (WQ cx x v l hx hl)
end
section
open Go.ChangeShapes Go.WideShapes Go.ChangeAt Go.RowKit
open Vd (RSet Vdt Vote Rec Quest Piece Ballot)
open Cn (Zo Cf)
theorem own : ownKnob Tryz.prog.godebug = none := by kernel_rfl
theorem VZ : laidOutB Tryz.prog = true := by kernel_rfl
section
variable {H : Type} {enc : TypeId × Value → H} {W : World} {v : Value} {d : DataW H} {p : List MemPlace} {base : Nat}
theorem Zx {n : Int} (h : kx .u16 n) : 0 ≤ n ∧ n ≤ 65535 := by unfold kx Lit.wf at h; simp [IntKind.min, IntKind.max, IntKind.bits, IntKind.signed] at h; omega
theorem aeY {n : Int} (h : kx .u32 n) : 0 ≤ n ∧ n ≤ 4294967295 := by unfold kx Lit.wf at h; simp [IntKind.min, IntKind.max, IntKind.bits, IntKind.signed] at h; omega
theorem bd8 {n : Int} (h : kx .u8 n) : 0 ≤ n ∧ n ≤ 255 := by unfold kx Lit.wf at h; simp [IntKind.min, IntKind.max, IntKind.bits, IntKind.signed] at h; omega
theorem zM {n : Int} (h : kx .i64 n) : -9223372036854775808 ≤ n ∧ n ≤ 9223372036854775807 := by unfold kx Lit.wf at h; simp [IntKind.min, IntKind.max, IntKind.bits, IntKind.signed] at h; omega
theorem Uy : Opens enc Tryz.prog W 24 3 Yk := fun fuel cs x hf => by
 obtain ⟨hlen, hfs⟩ := kC Tryz.underlying24 hf
 have hc : Tryz.prog.cellsOf 24 = 3 := by kernel_rfl
 rw [hc] at hlen
 have c0 : Tryz.prog.cellsOf 9 = 1 := by kernel_rfl
 have c1 : Tryz.prog.cellsOf 22 = 1 := by kernel_rfl
 obtain ⟨n0, y0, g0⟩ := hfs 0 _ rfl
 have g0 : DataW.trod enc Tryz.prog W 0 (fun _ => true) true n0 9 ((cs.drop 0).take (Tryz.prog.cellsOf 9)) = some y0 := g0
 rw [c0] at g0
 obtain ⟨a0, k0, w0⟩ := (qw unO).at g0
 obtain ⟨n1, y1, g1⟩ := hfs 1 _ rfl
 have g1 : DataW.trod enc Tryz.prog W 0 (fun _ => true) true n1 22 ((cs.drop 1).take (Tryz.prog.cellsOf 22)) = some y1 := g1
 rw [c1] at g1
 obtain ⟨a1, k1, w1⟩ := (jF unO).at g1
 obtain ⟨n2, y2, g2⟩ := hfs 2 _ rfl
 have g2 : DataW.trod enc Tryz.prog W 0 (fun _ => true) true n2 22 ((cs.drop 2).take (Tryz.prog.cellsOf 22)) = some y2 := g2
 rw [c1] at g2
 obtain ⟨a2, k2, w2⟩ := (jF unO).at g2
 refine ⟨hlen, ⟨a0, a1, a2⟩, ?_⟩
 match cs, hlen with
 | [x0, x1, x2], _ =>
   obtain rfl : x0 = _ := by simpa using k0
   obtain rfl : x1 = _ := by simpa using k1
   obtain rfl : x2 = _ := by simpa using k2
   exact ⟨rfl, w0, Zx w1, Zx w2⟩
theorem Uz : Opens enc Tryz.prog W 26 3 zoR := fun fuel cs x hf => by
 obtain ⟨hlen, hfs⟩ := kC Tryz.underlying26 hf
 have hc : Tryz.prog.cellsOf 26 = 3 := by kernel_rfl
 rw [hc] at hlen
 have c0 : Tryz.prog.cellsOf 9 = 1 := by kernel_rfl
 have c1 : Tryz.prog.cellsOf 5 = 1 := by kernel_rfl
 have c2 : Tryz.prog.cellsOf 22 = 1 := by kernel_rfl
 obtain ⟨n0, y0, g0⟩ := hfs 0 _ rfl
 have g0 : DataW.trod enc Tryz.prog W 0 (fun _ => true) true n0 9 ((cs.drop 0).take (Tryz.prog.cellsOf 9)) = some y0 := g0
 rw [c0] at g0
 obtain ⟨a0, k0, w0⟩ := (qw unO).at g0
 obtain ⟨n1, y1, g1⟩ := hfs 1 _ rfl
 have g1 : DataW.trod enc Tryz.prog W 0 (fun _ => true) true n1 5 ((cs.drop 1).take (Tryz.prog.cellsOf 5)) = some y1 := g1
 rw [c1] at g1
 obtain ⟨a1, k1, w1⟩ := (jF unO).at g1
 obtain ⟨n2, y2, g2⟩ := hfs 2 _ rfl
 have g2 : DataW.trod enc Tryz.prog W 0 (fun _ => true) true n2 22 ((cs.drop 2).take (Tryz.prog.cellsOf 22)) = some y2 := g2
 rw [c2] at g2
 obtain ⟨a2, k2, w2⟩ := (jF unO).at g2
 refine ⟨hlen, ⟨a0, a1.toNat, a2.toNat⟩, ?_⟩
 match cs, hlen with
 | [x0, x1, x2], _ =>
   obtain rfl : x0 = _ := by simpa using k0
   obtain rfl : x1 = _ := by simpa using k1
   obtain rfl : x2 = _ := by simpa using k2
   have q1 := bd8 w1
   have q2 := Zx w2
   refine ⟨?_, w0, by show a1.toNat ≤ 255; omega, by show a2.toNat ≤ 65535; omega⟩
   show _ = [_, Value.int .u8 ((a1.toNat : Nat) : Int), Value.int .u16 ((a2.toNat : Nat) : Int)]
   rw [Int.toNat_of_nonneg q1.1, Int.toNat_of_nonneg q2.1]
theorem Zy : Opens enc Tryz.prog W 30 13 cfR := fun fuel cs x hf => by
 obtain ⟨hlen, hfs⟩ := kC Tryz.underlying30 hf
 have hc : Tryz.prog.cellsOf 30 = 13 := by kernel_rfl
 rw [hc] at hlen
 have c0 : Tryz.prog.cellsOf 3 = 1 := by kernel_rfl
 have c1 : Tryz.prog.cellsOf 28 = 1 := by kernel_rfl
 obtain ⟨n0, y0, g0⟩ := hfs 0 _ rfl
 have g0 : DataW.trod enc Tryz.prog W 0 (fun _ => true) true n0 3 ((cs.drop 0).take (Tryz.prog.cellsOf 3)) = some y0 := g0
 rw [c0] at g0
 obtain ⟨a0, k0, w0⟩ := (jF unO).at g0
 obtain ⟨n1, y1, g1⟩ := hfs 1 _ rfl
 have g1 : DataW.trod enc Tryz.prog W 0 (fun _ => true) true n1 3 ((cs.drop 1).take (Tryz.prog.cellsOf 3)) = some y1 := g1
 rw [c0] at g1
 obtain ⟨a1, k1, w1⟩ := (jF unO).at g1
 obtain ⟨n2, y2, g2⟩ := hfs 2 _ rfl
 have g2 : DataW.trod enc Tryz.prog W 0 (fun _ => true) true n2 3 ((cs.drop 2).take (Tryz.prog.cellsOf 3)) = some y2 := g2
 rw [c0] at g2
 obtain ⟨a2, k2, w2⟩ := (jF unO).at g2
 obtain ⟨n3, y3, g3⟩ := hfs 3 _ rfl
 have g3 : DataW.trod enc Tryz.prog W 0 (fun _ => true) true n3 3 ((cs.drop 3).take (Tryz.prog.cellsOf 3)) = some y3 := g3
 rw [c0] at g3
 obtain ⟨a3, k3, w3⟩ := (jF unO).at g3
 obtain ⟨n4, y4, g4⟩ := hfs 4 _ rfl
 have g4 : DataW.trod enc Tryz.prog W 0 (fun _ => true) true n4 3 ((cs.drop 4).take (Tryz.prog.cellsOf 3)) = some y4 := g4
 rw [c0] at g4
 obtain ⟨a4, k4, w4⟩ := (jF unO).at g4
 obtain ⟨n5, y5, g5⟩ := hfs 5 _ rfl
 have g5 : DataW.trod enc Tryz.prog W 0 (fun _ => true) true n5 3 ((cs.drop 5).take (Tryz.prog.cellsOf 3)) = some y5 := g5
 rw [c0] at g5
 obtain ⟨a5, k5, w5⟩ := (jF unO).at g5
 obtain ⟨n6, y6, g6⟩ := hfs 6 _ rfl
 have g6 : DataW.trod enc Tryz.prog W 0 (fun _ => true) true n6 3 ((cs.drop 6).take (Tryz.prog.cellsOf 3)) = some y6 := g6
 rw [c0] at g6
 obtain ⟨a6, k6, w6⟩ := (jF unO).at g6
 obtain ⟨n7, y7, g7⟩ := hfs 7 _ rfl
 have g7 : DataW.trod enc Tryz.prog W 0 (fun _ => true) true n7 3 ((cs.drop 7).take (Tryz.prog.cellsOf 3)) = some y7 := g7
 rw [c0] at g7
 obtain ⟨a7, k7, w7⟩ := (jF unO).at g7
 obtain ⟨n8, y8, g8⟩ := hfs 8 _ rfl
 have g8 : DataW.trod enc Tryz.prog W 0 (fun _ => true) true n8 3 ((cs.drop 8).take (Tryz.prog.cellsOf 3)) = some y8 := g8
 rw [c0] at g8
 obtain ⟨a8, k8, w8⟩ := (jF unO).at g8
 obtain ⟨n9, y9, g9⟩ := hfs 9 _ rfl
 have g9 : DataW.trod enc Tryz.prog W 0 (fun _ => true) true n9 3 ((cs.drop 9).take (Tryz.prog.cellsOf 3)) = some y9 := g9
 rw [c0] at g9
 obtain ⟨a9, k9, w9⟩ := (jF unO).at g9
 obtain ⟨n10, y10, g10⟩ := hfs 10 _ rfl
 have g10 : DataW.trod enc Tryz.prog W 0 (fun _ => true) true n10 3 ((cs.drop 10).take (Tryz.prog.cellsOf 3)) = some y10 := g10
 rw [c0] at g10
 obtain ⟨a10, k10, w10⟩ := (jF unO).at g10
 obtain ⟨n11, y11, g11⟩ := hfs 11 _ rfl
 have g11 : DataW.trod enc Tryz.prog W 0 (fun _ => true) true n11 3 ((cs.drop 11).take (Tryz.prog.cellsOf 3)) = some y11 := g11
 rw [c0] at g11
 obtain ⟨a11, k11, w11⟩ := (jF unO).at g11
 obtain ⟨n12, y12, g12⟩ := hfs 12 _ rfl
 have g12 : DataW.trod enc Tryz.prog W 0 (fun _ => true) true n12 28 ((cs.drop 12).take (Tryz.prog.cellsOf 28)) = some y12 := g12
 rw [c1] at g12
 obtain ⟨a12, k12⟩ := (kV unO jg (by decide) (Uz (enc := enc))).at g12
 refine ⟨hlen, ⟨a0, a1, a2, a3, a4, a5, a6, a7, a8, a9, a10, a11, a12⟩, ?_⟩
 match cs, hlen with
 | [x0, x1, x2, x3, x4, x5, x6, x7, x8, x9, x10, x11, x12], _ =>
   obtain rfl : x0 = _ := by simpa using k0
   obtain rfl : x1 = _ := by simpa using k1
   obtain rfl : x2 = _ := by simpa using k2
   obtain rfl : x3 = _ := by simpa using k3
   obtain rfl : x4 = _ := by simpa using k4
   obtain rfl : x5 = _ := by simpa using k5
   obtain rfl : x6 = _ := by simpa using k6
   obtain rfl : x7 = _ := by simpa using k7
   obtain rfl : x8 = _ := by simpa using k8
   obtain rfl : x9 = _ := by simpa using k9
   obtain rfl : x10 = _ := by simpa using k10
   obtain rfl : x11 = _ := by simpa using k11
   exact ⟨x12, rfl, by simpa using k12, ⟨zM w0, zM w1, zM w2, zM w3, zM w4, zM w5, zM w6, zM w7, zM w8, zM w9, zM w10, zM w11⟩⟩
instance : Inhabited RSet := ⟨RSet.none⟩
theorem KK : Opens enc Tryz.prog W 122 5 rsR := fun fuel cs x hf => by
 obtain ⟨hlen, hfs⟩ := kC Tryz.underlying122 hf
 have hc : Tryz.prog.cellsOf 122 = 5 := by kernel_rfl
 rw [hc] at hlen
 have c0 : Tryz.prog.cellsOf 9 = 1 := by kernel_rfl
 have c1 : Tryz.prog.cellsOf 22 = 1 := by kernel_rfl
 have c2 : Tryz.prog.cellsOf 41 = 1 := by kernel_rfl
 have c3 : Tryz.prog.cellsOf 120 = 1 := by kernel_rfl
 obtain ⟨n0, y0, g0⟩ := hfs 0 _ rfl
 have g0 : DataW.trod enc Tryz.prog W 0 (fun _ => true) true n0 9 ((cs.drop 0).take (Tryz.prog.cellsOf 9)) = some y0 := g0
 rw [c0] at g0
 obtain ⟨a0, k0, w0⟩ := (qw unO).at g0
 obtain ⟨n1, y1, g1⟩ := hfs 1 _ rfl
 have g1 : DataW.trod enc Tryz.prog W 0 (fun _ => true) true n1 22 ((cs.drop 1).take (Tryz.prog.cellsOf 22)) = some y1 := g1
 rw [c1] at g1
 obtain ⟨a1, k1, w1⟩ := (jF unO).at g1
 obtain ⟨n2, y2, g2⟩ := hfs 2 _ rfl
 have g2 : DataW.trod enc Tryz.prog W 0 (fun _ => true) true n2 22 ((cs.drop 2).take (Tryz.prog.cellsOf 22)) = some y2 := g2
 rw [c1] at g2
 obtain ⟨a2, k2, w2⟩ := (jF unO).at g2
 obtain ⟨n3, y3, g3⟩ := hfs 3 _ rfl
 have g3 : DataW.trod enc Tryz.prog W 0 (fun _ => true) true n3 41 ((cs.drop 3).take (Tryz.prog.cellsOf 41)) = some y3 := g3
 rw [c2] at g3
 obtain ⟨a3, k3, w3⟩ := (jF unO).at g3
 obtain ⟨n4, y4, g4⟩ := hfs 4 _ rfl
 have g4 : DataW.trod enc Tryz.prog W 0 (fun _ => true) true n4 120 ((cs.drop 4).take (Tryz.prog.cellsOf 120)) = some y4 := g4
 rw [c3] at g4
 obtain ⟨a4, k4⟩ := (kV unO jg (by decide) (qw unO)).at g4
 refine ⟨hlen, ⟨a0, a1, a2, a3, a4⟩, ?_⟩
 match cs, hlen with
 | [x0, x1, x2, x3, x4], _ =>
   obtain rfl : x0 = _ := by simpa using k0
   obtain rfl : x1 = _ := by simpa using k1
   obtain rfl : x2 = _ := by simpa using k2
   obtain rfl : x3 = _ := by simpa using k3
   exact ⟨x4, rfl, by simpa using k4, w0, Zx w1, Zx w2, aeY w3⟩
theorem Zz : Opens enc Tryz.prog W 40 3 vdR := fun fuel cs x hf => by
 obtain ⟨hlen, hfs⟩ := kC Tryz.underlying40 hf
 have hc : Tryz.prog.cellsOf 40 = 3 := by kernel_rfl
 rw [hc] at hlen
 have c0 : Tryz.prog.cellsOf 5 = 1 := by kernel_rfl
 have c1 : Tryz.prog.cellsOf 38 = 1 := by kernel_rfl
 obtain ⟨n0, y0, g0⟩ := hfs 0 _ rfl
 have g0 : DataW.trod enc Tryz.prog W 0 (fun _ => true) true n0 5 ((cs.drop 0).take (Tryz.prog.cellsOf 5)) = some y0 := g0
 rw [c0] at g0
 obtain ⟨a0, k0, w0⟩ := (jF unO).at g0
 obtain ⟨n1, y1, g1⟩ := hfs 1 _ rfl
 have g1 : DataW.trod enc Tryz.prog W 0 (fun _ => true) true n1 38 ((cs.drop 1).take (Tryz.prog.cellsOf 38)) = some y1 := g1
 rw [c1] at g1
 obtain ⟨a1, k1⟩ := (kV unO jg (by decide) (KK (enc := enc))).at g1
 obtain ⟨n2, y2, g2⟩ := hfs 2 _ rfl
 have g2 : DataW.trod enc Tryz.prog W 0 (fun _ => true) true n2 38 ((cs.drop 2).take (Tryz.prog.cellsOf 38)) = some y2 := g2
 rw [c1] at g2
 obtain ⟨a2, k2⟩ := (kV unO jg (by decide) (KK (enc := enc))).at g2
 refine ⟨hlen, ⟨a0, a1, a2⟩, ?_⟩
 match cs, hlen with
 | [x0, x1, x2], _ =>
   obtain rfl : x0 = _ := by simpa using k0
   exact ⟨x1, x2, rfl, by simpa using k1, by simpa using k2, bd8 w0⟩
theorem opens_case : Opens enc Tryz.prog W 32 21 JM := fun fuel cs x hf => by
 obtain ⟨hlen, hfs⟩ := kC Tryz.underlying32 hf
 have hc : Tryz.prog.cellsOf 32 = 21 := by kernel_rfl
 rw [hc] at hlen
 have c0 : Tryz.prog.cellsOf 24 = 3 := by kernel_rfl
 have c1 : Tryz.prog.cellsOf 26 = 3 := by kernel_rfl
 have c2 : Tryz.prog.cellsOf 27 = 1 := by kernel_rfl
 have c3 : Tryz.prog.cellsOf 30 = 13 := by kernel_rfl
 have c4 : Tryz.prog.cellsOf 2 = 1 := by kernel_rfl
 obtain ⟨n0, y0, g0⟩ := hfs 0 _ rfl
 have g0 : DataW.trod enc Tryz.prog W 0 (fun _ => true) true n0 24 ((cs.drop 0).take (Tryz.prog.cellsOf 24)) = some y0 := g0
 rw [c0] at g0
 obtain ⟨a0, k0⟩ := (Uy (enc := enc)).at g0
 obtain ⟨n1, y1, g1⟩ := hfs 1 _ rfl
 have g1 : DataW.trod enc Tryz.prog W 0 (fun _ => true) true n1 26 ((cs.drop 3).take (Tryz.prog.cellsOf 26)) = some y1 := g1
 rw [c1] at g1
 obtain ⟨a1, k1⟩ := (Uz (enc := enc)).at g1
 obtain ⟨n2, y2, g2⟩ := hfs 2 _ rfl
 have g2 : DataW.trod enc Tryz.prog W 0 (fun _ => true) true n2 27 ((cs.drop 6).take (Tryz.prog.cellsOf 27)) = some y2 := g2
 rw [c2] at g2
 obtain ⟨a2, k2⟩ := (kV unO jg (by decide) (jF unO)).at g2
 obtain ⟨n3, y3, g3⟩ := hfs 3 _ rfl
 have g3 : DataW.trod enc Tryz.prog W 0 (fun _ => true) true n3 30 ((cs.drop 7).take (Tryz.prog.cellsOf 30)) = some y3 := g3
 rw [c3] at g3
 obtain ⟨a3, k3⟩ := (Zy (enc := enc)).at g3
 obtain ⟨n4, y4, g4⟩ := hfs 4 _ rfl
 have g4 : DataW.trod enc Tryz.prog W 0 (fun _ => true) true n4 2 ((cs.drop 20).take (Tryz.prog.cellsOf 2)) = some y4 := g4
 rw [c4] at g4
 obtain ⟨a4, k4, w4⟩ := (jF unO).at g4
 refine ⟨hlen, ⟨a0, a1, a2, a3, a4⟩, ?_⟩
 match cs, hlen with
 | [x0, x1, x2, x3, x4, x5, x6, x7, x8, x9, x10, x11, x12, x13, x14, x15, x16, x17, x18, x19, x20], _ =>
   obtain rfl : x20 = _ := by simpa using k4
   obtain ⟨e0, hq⟩ := k0
   obtain ⟨e1, hz⟩ := k1
   obtain ⟨vz, e3, hcf⟩ := k3
   simp only [List.drop_zero, List.take_succ_cons, List.take_zero, List.drop_succ_cons, List.cons.injEq, and_true] at e0 e1 e3
   unfold ji at e3
   simp only [List.cons.injEq, and_true] at e3
   obtain ⟨rfl, rfl, rfl⟩ := e0
   obtain ⟨rfl, rfl, rfl⟩ := e1
   obtain ⟨rfl, rfl, rfl, rfl, rfl, rfl, rfl, rfl, rfl, rfl, rfl, rfl, rfl⟩ := e3
   exact ⟨_, _, rfl, ⟨rfl, hq⟩, ⟨rfl, hz⟩, by simpa using k2, ⟨_, rfl, hcf⟩, w4⟩
theorem UA (hv : Value.okWide Tryz.prog W .any base 32 v) (h : DataW.Trod enc Tryz.prog W 0 (fun _ => true) true 32 v d p) : ∃ cs a, v = .agg cs.toArray ∧ JM (kp W) cs a := by
 obtain ⟨cs, rfl, hsz⟩ := okWide_struct Tryz.underlying32 hv
 obtain ⟨fuel, hf⟩ := h
 obtain ⟨q, hq⟩ := opens_case.at hf
 exact ⟨cs.toList, q, by simp, by simpa [Value.cells] using hq⟩
end
end
section
open Go.ChangeShapes Go.WideShapes Go.ChangeAt Go.RowKit
open Vd (RSet Vdt Vote Rec Quest Piece Ballot)
open Cn (Zo Cf)
section
variable {H : Type} {enc : TypeId × Value → H} {W : World} {v : Value} {d : DataW H} {p : List MemPlace} {base : Nat}
theorem Vs : Opens enc Tryz.prog W 53 7 KI := fun fuel cs x hf => by
 obtain ⟨hlen, hfs⟩ := kC Tryz.underlying53 hf
 have hc : Tryz.prog.cellsOf 53 = 7 := by kernel_rfl
 rw [hc] at hlen
 have c0 : Tryz.prog.cellsOf 5 = 1 := by kernel_rfl
 have c1 : Tryz.prog.cellsOf 3 = 1 := by kernel_rfl
 have c2 : Tryz.prog.cellsOf 4 = 1 := by kernel_rfl
 have c3 : Tryz.prog.cellsOf 40 = 3 := by kernel_rfl
 have c4 : Tryz.prog.cellsOf 41 = 1 := by kernel_rfl
 obtain ⟨n0, y0, g0⟩ := hfs 0 _ rfl
 have g0 : DataW.trod enc Tryz.prog W 0 (fun _ => true) true n0 5 ((cs.drop 0).take (Tryz.prog.cellsOf 5)) = some y0 := g0
 rw [c0] at g0
 obtain ⟨a0, k0, w0⟩ := (jF unO).at g0
 obtain ⟨n1, y1, g1⟩ := hfs 1 _ rfl
 have g1 : DataW.trod enc Tryz.prog W 0 (fun _ => true) true n1 3 ((cs.drop 1).take (Tryz.prog.cellsOf 3)) = some y1 := g1
 rw [c1] at g1
 obtain ⟨a1, k1, w1⟩ := (jF unO).at g1
 obtain ⟨n2, y2, g2⟩ := hfs 2 _ rfl
 have g2 : DataW.trod enc Tryz.prog W 0 (fun _ => true) true n2 4 ((cs.drop 2).take (Tryz.prog.cellsOf 4)) = some y2 := g2
 rw [c2] at g2
 obtain ⟨a2, k2⟩ := (UJ unO).at g2
 obtain ⟨n3, y3, g3⟩ := hfs 3 _ rfl
 have g3 : DataW.trod enc Tryz.prog W 0 (fun _ => true) true n3 40 ((cs.drop 3).take (Tryz.prog.cellsOf 40)) = some y3 := g3
 rw [c3] at g3
 obtain ⟨a3, k3⟩ := (Zz (enc := enc)).at g3
 obtain ⟨n4, y4, g4⟩ := hfs 4 _ rfl
 have g4 : DataW.trod enc Tryz.prog W 0 (fun _ => true) true n4 41 ((cs.drop 6).take (Tryz.prog.cellsOf 41)) = some y4 := g4
 rw [c4] at g4
 obtain ⟨a4, k4, w4⟩ := (jF unO).at g4
 refine ⟨hlen, ⟨a0, a1, a2, a3, a4⟩, ?_⟩
 match cs, hlen with
 | [x0, x1, x2, x3, x4, x5, x6], _ =>
   obtain rfl : x0 = _ := by simpa using k0
   obtain rfl : x1 = _ := by simpa using k1
   obtain rfl : x2 = _ := by simpa [aaU] using k2
   obtain rfl : x6 = _ := by simpa using k4
   obtain ⟨va, vb, ev, hs1, hs2, hcd⟩ := k3
   simp only [List.drop_zero, List.take_succ_cons, List.take_zero, List.drop_succ_cons, List.cons.injEq, and_true] at ev
   obtain ⟨rfl, rfl, rfl⟩ := ev
   exact ⟨_, _, rfl, ⟨_, _, rfl, hs1, hs2, hcd⟩, w0, w1, w4⟩
theorem JO (hv : Value.okWide Tryz.prog W .any base 33 v) (h : DataW.Trod enc Tryz.prog W 0 (fun _ => true) true 33 v d p) : ∃ l, sliceR 7 KI (kp W) [v] l := by
 obtain ⟨a, len, cap, rfl⟩ := okWide_slice unO hv
 obtain ⟨fuel, hf⟩ := h
 obtain ⟨l, k0⟩ := (kV unO jg (by decide) (Vs (enc := enc))).at hf
 exact ⟨l, k0⟩
end
end
end Go.Proofs.YtbjkkoacclfejaaGreat
