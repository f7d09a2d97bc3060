/-
 Part 8: Hd He Hf Hg Ea Ca Cb Ee Ef Ej Ek El Em Cd Ce Cg Cj Ci.
-/
import Derived.Test.YtbjkkoacclfejaaGreatZs7
import Derived.Test.YtbjkkoacclfejaaGreatZs1
import Derived.Test.YtbjkkoacclfejaaGreatZs2
import Derived.Lib.ItoaNum
import Derived.Test.YtbjkkoacclfejaaGreatZs3
import Derived.Test.YtbjkkoacclfejaaGreatZs4
set_option maxRecDepth 100000
set_option maxHeartbeats 8000000
set_option linter.unusedVariables false
set_option linter.unusedSimpArgs false
namespace Go.Proofs.YtbjkkoacclfejaaGreat
open Go.RowKit
open Hg (En Pl)
variable {G : World} {L : ja}
structure IsPlan (bp : Nat) (p : Pl) (M : ja) : Prop where
 is : ∃ a c B, Row 160 4 (.slice a p.list.length c) p.list.length (kD p.list) B ∧ M = (bp, .cells (jk p (.slice a p.list.length c)) 158 (0, 0)) :: B
 good : Good p
theorem Yj (u : Int) : Built Tryz.prog 160 [(0, .int .i64 u)] (.agg #[.int .i64 u, .int .i64 0, .int .i64 0, .bool false]) := ⟨fun w => by kernel_rfl⟩
theorem Zg (a b c d e f : Int) : Built Tryz.prog 158 [(2, .int .i64 a), (3, .int .i64 b), (4, .int .i64 c), (5, .int .i64 d), (6, .int .i64 e), (7, .int .i64 f), (9, .bool true)] (.agg #[.slice none 0 0, .int .i64 0, .int .i64 a, .int .i64 b, .int .i64 c, .int .i64 d, .int .i64 e, .int .i64 f, .int .i64 0, .bool true, .bool false]) := ⟨fun w => by kernel_rfl⟩
def zF (l : List Int) : Array Value := #[.bool (l.contains 0), .bool (l.contains 1), .bool (l.contains 2), .bool (l.contains 3), .bool (l.contains 4), .bool (l.contains 5), .bool (l.contains 6), .bool (l.contains 7), .bool (l.contains 8)]
theorem ahZ {u : Int} (h0 : 0 ≤ u) (h8 : u ≤ 8) : u = 0 ∨ u = 1 ∨ u = 2 ∨ u = 3 ∨ u = 4 ∨ u = 5 ∨ u = 6 ∨ u = 7 ∨ u = 8 := by omega
theorem Z0 (l : List Int) (u : Int) (h0 : 0 ≤ u) (h8 : u ≤ 8) : (zF l)[0 + u.toNat * 1]? = some (.bool (l.contains u)) := by
 rcases ahZ h0 h8 with rfl | rfl | rfl | rfl | rfl | rfl | rfl | rfl | rfl <;> rfl
theorem Yk (l : List Int) (u : Int) (h0 : 0 ≤ u) (h8 : u ≤ 8) : (zF l).setIfInBounds (0 + u.toNat * 1) (.bool true) = zF (l ++ [u]) := by
 rcases ahZ h0 h8 with rfl | rfl | rfl | rfl | rfl | rfl | rfl | rfl | rfl <;> simp [zF]
theorem Row.src {sz : Nat} {b : Nat} {cs : List Value} {te : TypeId} (hm : (b, Obj.cells cs.toArray te (0, 0)) ∈ L) (hn : cs.length = sz) (hone : ∀ v ∈ cs, v.oneCell' = true) : Src L (.slice (some ⟨b, 0, none⟩) 1 1) 1 cs sz :=
 ⟨by omega, hone, Or.inr ⟨b, 0, 1, cs.toArray, te, (0, 0), rfl, hm, fun j x hj => by rw [Nat.zero_add]; simpa using hj⟩⟩
theorem VZ (l : List Int) (want every wait tries now : Int) (h9 : l.length ≤ 9) (hw : 1 ≤ want ∧ want ≤ 9) (he : 1 ≤ every ∧ every ≤ 1000) (ha : 1 ≤ wait ∧ wait ≤ 1000) (ht : 1 ≤ tries ∧ tries ≤ 4) (ho : 0 ≤ now ∧ now ≤ 1099511627776) : Good (Hg.mk l want every wait tries now) :=
 ⟨by simpa [Hg.mk] using h9, by simp [Hg.mk], hw, ht, he, ha, ⟨ho.1, Int.le_refl _, ho.2⟩, ⟨by simp [Hg.mk], by simp [Hg.mk, Hg.top]⟩, fun x hx => by
   simp only [Hg.mk, List.mem_map] at hx
   obtain ⟨u, _, rfl⟩ := hx
   simp only [Hg.fresh, Hg.mk]
   omega⟩
theorem ah0 (vl : Value) (l : List Int) (want every wait tries now : Int) (hl : IRow L vl l) (h9 : l.length ≤ 9) (hr : ∀ u ∈ l, 0 ≤ u ∧ u ≤ 8) (hn : l.Nodup) (hw : 1 ≤ want ∧ want ≤ 9) (he : 1 ≤ every ∧ every ≤ 1000) (ha : 1 ≤ wait ∧ wait ≤ 1000) (ht : 1 ≤ tries ∧ tries ≤ 4) (ho : 0 ≤ now ∧ now ≤ 1099511627776) :
 Spec Tryz.prog G 40 #[vl, .int .i64 want, .int .i64 every, .int .i64 wait, .int .i64 tries, .int .i64 now] L fun u M => ∃ bp N, u = .tuple #[.pointer (some ⟨bp, 0, none⟩), .int .i64 0] ∧ IsPlan bp (Hg.mk l want every wait tries now) N ∧ M = N ++ L := by
 obtain ⟨al, cl, rfl, hl⟩ := hl
 have d0 : decide ((9 : Int) < ((l.length : Nat) : Int)) = false := decide_eq_false jd
 have w1 : decide (want < 1) = false := decide_eq_false jd
 have w2 : decide (9 < want) = false := decide_eq_false jd
 have e1 : decide (every < 1) = false := decide_eq_false jd
 have e2 : decide (1000 < every) = false := decide_eq_false jd
 have a1 : decide (wait < 1) = false := decide_eq_false jd
 have a2 : decide (1000 < wait) = false := decide_eq_false jd
 have t1 : decide (tries < 1) = false := decide_eq_false jd
 have t2 : decide (4 < tries) = false := decide_eq_false jd
 have o1 : decide (now < 0) = false := decide_eq_false jd
 have o2 : decide (1099511627776 < now) = false := decide_eq_false jd
 refine jm (n := 106) Tryz.func40 rfl rfl rfl ?_
 repeat (first | refine goD ?_ | (refine jO ?_; intro bNew))
 refine jy (σ := Nat) (fun k => k ≤ l.length) (fun k => [(0, .slice al l.length cl), (1, .int .i64 want), (2, .int .i64 every), (3, .int .i64 wait), (4, .int .i64 tries), (5, .int .i64 now), (14, .pointer (some ⟨bNew, 0, none⟩)), (23, .slice al l.length cl), (24, .int .i64 (l.length : Nat)), (25, .int .i64 (k : Nat))]) (fun k => (bNew, .cells (zF (l.take k)) 48 (0, 0)) :: L) (fun k => l.length - k) 0 (Nat.zero_le _) ?_ (fun w h => h) ?_
 exact jr
 intro k hk
 by_cases hlt : k < l.length
 · have d1 : decide (((k : Nat) : Int) < ((l.length : Nat) : Int)) = true := decide_eq_true jd
   obtain ⟨x, hx⟩ : ∃ x, l[k]? = some x := ⟨_, List.getElem?_eq_getElem hlt⟩
   obtain ⟨r1, r2⟩ := hr x (List.mem_of_getElem? hx)
   rcases hl with rfl | ⟨b1, o1, C1, t1, f1, rfl, m1, q1⟩
   · simp at hlt
   have c1 := q1 k x hx
   have g1 : decide (x < 0) = false := decide_eq_false jd
   have g2 : decide (9 ≤ x) = false := decide_eq_false jd
   have g3 := Z0 (l.take k) x r1 r2
   have g4 : (l.take k).contains x = false := by
    obtain ⟨hi, rfl⟩ := List.getElem?_eq_some_iff.1 hx
    rw [List.contains_eq_mem, decide_eq_false_iff_not]
    intro hm
    obtain ⟨j, hj, e⟩ := List.getElem_of_mem hm
    have hj' : j < k := by simp at hj; omega
    rw [List.getElem_take] at e
    have := (List.getElem_inj hn).1 e
    omega
   rw [g4] at g3
   refine goD ?_
   refine jh (k + 1) hlt ?_ (fun w h => ?_) jd
   exact jr
   rw [Yk _ _ r1 r2] at h
   obtain ⟨hi, rfl⟩ := List.getElem?_eq_some_iff.1 hx
   rw [List.take_succ_eq_append_getElem hi]
   exact h
 have d1 : decide (((k : Nat) : Int) < ((l.length : Nat) : Int)) = false := decide_eq_false jd
 refine goD ?_
 refine jB (jl (vs := [(2, .int .i64 want), (3, .int .i64 tries), (4, .int .i64 every), (5, .int .i64 wait), (6, .int .i64 now), (7, .int .i64 now), (9, .bool true)]) rfl (Zg ..)) rfl ?_
 refine j0 (YG rfl rfl) rfl ?_
 intro bp
 refine goD ?_
 obtain ⟨P0, hP0⟩ : ∃ P0, P0 = Hg.mk l want every wait tries now := ⟨_, rfl⟩
 refine jy (σ := Nat × Option Addr × Nat × ja) (fun x => x.1 ≤ l.length ∧ Row 160 4 (.slice x.2.1 x.1 x.2.2.1) x.1 (kD ((l.take x.1).map Hg.fresh)) x.2.2.2) (fun x => [(17, .pointer (some ⟨bp, 0, none⟩)), (87, .slice al l.length cl), (88, .int .i64 (l.length : Nat)), (89, .int .i64 (x.1 : Nat))]) (fun x => (bp, .cells (jk P0 (.slice x.2.1 x.1 x.2.2.1)) 158 (0, 0)) :: (x.2.2.2 ++ L)) (fun x => l.length - x.1) (0, none, 0, []) ⟨Nat.zero_le _, Row.nil _ _⟩ ?_ (fun w h => ?_) ?_
 exact jr
 · rw [hP0]
   exact h.sub ((List.sublist_cons_self _ _).cons_cons _)
 rintro ⟨k, a, c, B⟩ ⟨hk, hR⟩
 dsimp only at hk hR ⊢
 by_cases hlt : k < l.length
 · have d1 : decide (((k : Nat) : Int) < ((l.length : Nat) : Int)) = true := decide_eq_true jd
   obtain ⟨x, hx⟩ : ∃ x, l[k]? = some x := ⟨_, List.getElem?_eq_getElem hlt⟩
   rcases hl with rfl | ⟨b1, o1, C1, t1, f1, rfl, m1, q1⟩
   · simp at hlt
   have c1 := q1 k x hx
   have m2 : (b1, Obj.cells C1 t1 f1) ∈ B ++ L := List.mem_append_right _ m1
   have pc0 : (jk P0 (.slice a k c))[0 + 0]? = some (.slice a k c) := rfl
   refine goD ?_
   refine jB (jl (vs := [(0, .int .i64 x)]) rfl (Yj x)) rfl ?_
   refine j0 (kr rfl (uS (C := (kj (Hg.fresh x)).toArray) etO [.agg (kj (Hg.fresh x)).toArray] rfl (by simp [kj, Value.cells]) (by decide) rfl)) rfl ?_
   intro bl
   refine qk (L' := B ++ ((bl, Obj.cells (kj (Hg.fresh x)).toArray 160 (0, 0)) :: (bp, .cells (jk P0 (.slice a k c)) 158 (0, 0)) :: L)) ?_ ?_
   · exact (List.perm_middle (a := (bp, Obj.cells (jk P0 (.slice a k c)) 158 (0, 0))).symm.cons _).trans List.perm_middle.symm
   refine JT etO rfl rfl hR (Row.src (List.mem_cons_self ..) (by rfl) (uL _)) (by unfold maxLen; omega) jd rfl ?_
   intro v2 B2 hR2
   obtain ⟨a2, c2, rfl⟩ := hR2.slice
   refine qI (L' := (bp, .cells (jk P0 (.slice a k c)) 158 (0, 0)) :: (B2 ++ L)) (fun w h => ?_) ?_
   · exact (h.perm List.perm_middle).tail.perm List.perm_middle
   refine goD ?_
   refine jh (k + 1, a2, c2, B2) ⟨hlt, ?_⟩ ?_ (fun w h => h) (by dsimp only; omega)
   · obtain ⟨hi, rfl⟩ := List.getElem?_eq_some_iff.1 hx
     dsimp only
     rw [List.take_succ_eq_append_getElem hi, List.map_append]
     simpa [kD] using hR2
   exact jr
 have d1 : decide (((k : Nat) : Int) < ((l.length : Nat) : Int)) = false := decide_eq_false jd
 have hkn : k = l.length := by omega
 subst hkn
 rw [List.take_length] at hR
 refine goD ?_
 refine jM 12 13 _ _ rfl rfl rfl ?_
 refine ⟨bp, (bp, .cells (jk P0 (.slice a l.length c)) 158 (0, 0)) :: B, rfl, ⟨⟨a, c, B, ?_, ?_⟩, VZ l want every wait tries now h9 hw he ha ht ho⟩, rfl⟩
 · simpa [Hg.mk] using hR
 · rw [hP0]; simp [Hg.mk]
end Go.Proofs.YtbjkkoacclfejaaGreat
namespace Go.Proofs.YtbjkkoacclfejaaGreat
open Go.RowKit
open Hg (En Pl)
variable {G : World} {L : ja}
theorem Good.examine {p : Pl} (h : Good p) : Good (Hg.examine p) := by
 refine ⟨by simpa [Hg.examine] using h.len, by simpa [Hg.examine] using h.asked, h.want, h.tries, h.every, h.wait, h.now, h.reached, fun x hx => ?_⟩
 simp only [Hg.examine, List.mem_map] at hx
 obtain ⟨y, hy, rfl⟩ := hx
 have h1 := h.each y hy
 have h2 := h.now
 simp only [Hg.tickE, Hg.examine]
 split
 · split <;> dsimp only <;> omega
 · exact h1
theorem Good.next {p : Pl} (h : Good p) (ha : p.asked < p.list.length) : Good (Hg.next p) := by
 have h2 := h.now
 have h3 := h.tries
 refine ⟨by simpa [Hg.next] using h.len, by simp [Hg.next]; omega, h.want, h.tries, h.every, h.wait, h.now, h.reached, fun x hx => ?_⟩
 simp only [Hg.next] at hx ⊢
 obtain ⟨i, hi, rfl⟩ := List.getElem_of_mem hx
 rw [List.getElem_modify]
 have hi' : i < p.list.length := by simpa using hi
 have h1 := h.each p.list[i] (List.getElem_mem hi')
 split
 · simp only [Hg.askAt]; omega
 · exact h1
theorem Good.hedged {p : Pl} (h : Good p) : Good (Hg.hedged p).1 := by
 have h2 := h.now
 have h3 := h.every
 have h4 : 0 ≤ (p.now - p.start) / p.every := Int.ediv_nonneg jd jd
 have h5 : (p.now - p.start) / p.every ≤ p.now - p.start := Int.ediv_le_self _ jd
 have hq : Good { p with reached := (p.now - p.start) / p.every } := ⟨h.len, h.asked, h.want, h.tries, h.every, h.wait, h.now, ⟨h4, by dsimp only; omega⟩, h.each⟩
 unfold Hg.hedged
 dsimp only
 split
 · split
   · rename_i h6; exact hq.next h6
   · exact hq
 · exact h
theorem Good.tick {p : Pl} (h : Good p) (t : Int) : Good (Hg.tick p t).1 := by
 unfold Hg.tick
 split
 · exact h
 · exact (h.advance t).examine.hedged
theorem Good.more {p : Pl} (h : Good p) (t : Int) : Good (Hg.more p t).1 := by
 unfold Hg.more
 split
 · exact h
 · dsimp only
   split
   · exact h.advance t
   · exact (h.advance t).next jd
theorem yL (u : Int) : ∀ l, (Hg.closeL u l).length = l.length
 | [] => rfl
 | x :: r => by
   unfold Hg.closeL
   split
   · simp
   · simp [yL u r]
theorem Ui (u : Int) : ∀ l, ∀ x ∈ Hg.closeL u l, ∃ y ∈ l, x.last = y.last ∧ x.asked = y.asked ∧ x.up = y.up
 | [], x, h => by simp [Hg.closeL] at h
 | z :: r, x, h => by
   unfold Hg.closeL at h
   split at h
   · rcases List.mem_cons.1 h with rfl | h
     · exact ⟨z, List.mem_cons_self .., rfl, rfl, rfl⟩
     · exact ⟨x, List.mem_cons_of_mem _ h, rfl, rfl, rfl⟩
   · rcases List.mem_cons.1 h with rfl | h
     · exact ⟨x, List.mem_cons_self .., rfl, rfl, rfl⟩
     · obtain ⟨y, h1, h2⟩ := Ui u r x h
       exact ⟨y, List.mem_cons_of_mem _ h1, h2⟩
theorem Good.close {p : Pl} (h : Good p) (u : Int) : Good (Hg.close p u).1 := by
 refine ⟨by simpa [Hg.close, yL] using h.len, by simpa [Hg.close, yL] using h.asked, h.want, h.tries, h.every, h.wait, h.now, h.reached, fun x hx => ?_⟩
 simp only [Hg.close] at hx ⊢
 obtain ⟨y, h1, h2, h3, _⟩ := Ui u _ x hx
 rw [h2, h3]
 exact h.each y h1
theorem Good.nexts : ∀ (k : Nat) {p : Pl}, Good p → k ≤ p.list.length - p.asked → Good (Hg.nexts k p).1
 | 0, p, h, _ => h
 | k + 1, p, h, hk => Good.nexts k (h.next jd) (by simp only [Hg.next, List.length_modify]; omega)
theorem Good.begin' {p : Pl} (h : Good p) : Good (Hg.begin' p).1 := by
 unfold Hg.begin'
 split
 · exact h
 · exact Good.nexts _ (p := { p with begins := true }) ⟨h.len, h.asked, h.want, h.tries, h.every, h.wait, h.now, h.reached, h.each⟩ (Nat.min_le_right _ _)
theorem Yl (p : Pl) (t : Int) : (Hg.tick p t).1.list.length = p.list.length := by
 unfold Hg.tick
 split
 · rfl
 · simp only [Hg.hedged]
   split
   · split <;> simp [Hg.next, Hg.examine, Hg.advance]
   · simp [Hg.examine, Hg.advance]
theorem Ym (p : Pl) (t : Int) : (Hg.tick p t).1.begins = p.begins := by
 unfold Hg.tick
 split
 · rfl
 · simp only [Hg.hedged]
   split
   · split <;> simp [Hg.next, Hg.examine, Hg.advance]
   · simp [Hg.examine, Hg.advance]
theorem Uj (p : Pl) (t : Int) : (Hg.more p t).1.list.length = p.list.length := by
 unfold Hg.more
 split
 · rfl
 · dsimp only
   split <;> simp [Hg.next, Hg.advance]
theorem Yn (p : Pl) (t : Int) : (Hg.more p t).1.begins = p.begins := by
 unfold Hg.more
 split
 · rfl
 · dsimp only
   split <;> simp [Hg.next, Hg.advance]
theorem Ku (p : Pl) : (Hg.begin' p).1.list.length = p.list.length := by
 unfold Hg.begin'
 split
 · rfl
 · exact (qR _ _).2.1
theorem JH : ∀ (k : Nat) (p : Pl), (Hg.nexts k p).1.begins = p.begins
 | 0, p => rfl
 | k + 1, p => JH k (Hg.next p)
theorem V0 (p : Pl) (h : p.made = true) : (Hg.begin' p).1.begins = true := by
 unfold Hg.begin'
 split
 · rename_i h1; simpa [h] using h1
 · exact JH _ _
theorem aaN (p : Pl) (t : Int) : (Hg.tick p t).2.1.length ≤ 1000000 ∧ (Hg.tick p t).2.2.length ≤ 1000000 ∨ ¬ p.list.length ≤ 9 := by
 by_cases h9 : p.list.length ≤ 9
 · left
   unfold Hg.tick
   split
   · simp
   · have f1 := yK (Hg.goneE (Hg.advance p t).now (Hg.advance p t).wait (Hg.advance p t).tries) (Hg.advance p t).list (fun x => by unfold Hg.goneE; split <;> simp) p.list.length
     have f2 := yK (Hg.sendE (Hg.advance p t).now (Hg.advance p t).wait (Hg.advance p t).tries) (Hg.advance p t).list (fun x => by unfold Hg.sendE; split <;> simp) p.list.length
     rw [List.take_of_length_le (by simp [Hg.advance])] at f1 f2
     have f3 : (Hg.hedged (Hg.examine (Hg.advance p t))).2.length ≤ 1 := by
      unfold Hg.hedged
      dsimp only
      split
      · split <;> simp
      · simp
     refine ⟨by dsimp only; omega, ?_⟩
     dsimp only
     rw [List.length_append]
     omega
 · exact Or.inr h9
theorem IsPlan.len {bp : Nat} {p : Pl} {M : ja} (h : IsPlan bp p M) : p.list.length ≤ 9 := h.good.len
theorem afb {bp : Nat} {p : Pl} {M : ja} (h : IsPlan bp p M) (hb : p.begins = true) (now : Int) : Spec Tryz.prog G 47 #[.pointer (some ⟨bp, 0, none⟩), .int .i64 now] (M ++ L) fun u N => ∃ ag cg az cs Bg Bs M', u = .tuple #[.slice ag (Hg.tick p now).2.1.length cg, .slice az (Hg.tick p now).2.2.length cs] ∧
 Row 3 1 (.slice ag (Hg.tick p now).2.1.length cg) (Hg.tick p now).2.1.length (kC (Hg.tick p now).2.1) Bg ∧ Row 3 1 (.slice az (Hg.tick p now).2.2.length cs) (Hg.tick p now).2.2.length (kC (Hg.tick p now).2.2) Bs ∧ IsPlan bp (Hg.tick p now).1 M' ∧ N = M' ++ (Bg ++ (Bs ++ L)) := by
 obtain ⟨⟨a, c, B, hR, rfl⟩, hg⟩ := h
 refine (ae9 bp p a c B now hR hg hb).mono ?_
 rintro _ _ ⟨vg, vs, Bg, Bs, B', rfl, h1, h2, h3, rfl⟩
 obtain ⟨ag, cg, rfl⟩ := h1.slice
 obtain ⟨az, cs, rfl⟩ := h2.slice
 exact ⟨ag, cg, az, cs, Bg, Bs, _, rfl, h1, h2, ⟨⟨a, c, B', by rw [Yl]; exact h3, rfl⟩, hg.tick now⟩, by rw [Yl]; rfl⟩
theorem afc {bp : Nat} {p : Pl} {M : ja} (h : IsPlan bp p M) (now : Int) : Spec Tryz.prog G 70 #[.pointer (some ⟨bp, 0, none⟩), .int .i64 now] (M ++ L) fun u N => u = .tuple #[.int .i64 (Hg.more p now).2.1, .bool (Hg.more p now).2.2] ∧ ∃ M', IsPlan bp (Hg.more p now).1 M' ∧ N = M' ++ L := by
 obtain ⟨⟨a, c, B, hR, rfl⟩, hg⟩ := h
 refine (ae8 bp p a c B now hR hg.len).mono ?_
 rintro _ _ ⟨rfl, B', h3, rfl⟩
 rw [Uj] at h3
 exact ⟨rfl, _, ⟨⟨a, c, B', by rw [Uj]; exact h3, rfl⟩, hg.more now⟩, by rw [Uj]; rfl⟩
theorem Z1 {bp : Nat} {p : Pl} {M : ja} (h : IsPlan bp p M) (x : Int) : Spec Tryz.prog G 48 #[.pointer (some ⟨bp, 0, none⟩), .int .i64 x] (M ++ L) fun u N => u = .bool (Hg.close p x).2 ∧ ∃ M', IsPlan bp (Hg.close p x).1 M' ∧ N = M' ++ L := by
 obtain ⟨⟨a, c, B, hR, rfl⟩, hg⟩ := h
 refine (adY bp p a c B x hR hg.len).mono ?_
 rintro _ _ ⟨rfl, B', h3, rfl⟩
 have hl : (Hg.close p x).1.list.length = p.list.length := yL _ _
 exact ⟨rfl, _, ⟨⟨a, c, B', by rw [hl]; exact h3, rfl⟩, hg.close x⟩, by rw [hl]; rfl⟩
theorem adZ {bp : Nat} {p : Pl} {M : ja} (h : IsPlan bp p M) (hm : p.made = true) (hg : p.begins = false) (hz : p.asked = 0) : Spec Tryz.prog G 42 #[.pointer (some ⟨bp, 0, none⟩)] (M ++ L) fun u N => ∃ a1 c1 B1 M', u = .slice a1 (Hg.begin' p).2.length c1 ∧ Row 3 1 (.slice a1 (Hg.begin' p).2.length c1) (Hg.begin' p).2.length (kC (Hg.begin' p).2) B1 ∧ IsPlan bp (Hg.begin' p).1 M' ∧ N = M' ++ (B1 ++ L) := by
 obtain ⟨⟨a, c, B, hR, rfl⟩, hG⟩ := h
 refine (adX bp p a c B hR hG.len hG.want hm hg hz).mono ?_
 rintro u _ ⟨B1, B', h1, h3, rfl⟩
 obtain ⟨a1, c1, rfl⟩ := h1.slice
 rw [Ku] at h3
 exact ⟨a1, c1, B1, _, rfl, h1, ⟨⟨a, c, B', by rw [Ku]; exact h3, rfl⟩, hG.begin'⟩, by rw [Ku]; rfl⟩
theorem acn {bp : Nat} {p : Pl} {M : ja} (h : IsPlan bp p M) : Spec Tryz.prog G 66 #[.pointer (some ⟨bp, 0, none⟩)] (M ++ L) fun u N => u = .int .i64 (Hg.opens p) ∧ N = M ++ L := by
 obtain ⟨⟨a, c, B, hR, rfl⟩, hG⟩ := h
 exact afa bp p a c B hR hG.len
end Go.Proofs.YtbjkkoacclfejaaGreat
namespace Go.Proofs.YtbjkkoacclfejaaGreat
open Go.RowKit
open Hg (En Pl)
variable {G : World} {L : ja}
def z9 (wait : Int) (d : Int) (x : En) : Int := if x.op then min d (x.last + wait) else d
def aaO (p : Pl) : Int := p.list.foldl (z9 p.wait) (Hg.top + 1)
def dueT (p : Pl) : Int := max (if p.asked < p.list.length then min (aaO p) (p.start + (p.reached + 1) * p.every) else aaO p) (p.now + 1)
def due (p : Pl) : Int × Bool := if !p.begins then (0, false) else if Hg.top < dueT p then (0, false) else (dueT p, true)
theorem Z2 (p : Pl) (h : Good p) : ∀ k, 0 ≤ (p.list.take k).foldl (z9 p.wait) (Hg.top + 1) ∧ (p.list.take k).foldl (z9 p.wait) (Hg.top + 1) ≤ Hg.top + 1
 | 0 => by simp [Hg.top]
 | k + 1 => by
   have ih := Z2 p h k
   rw [List.take_add_one]
   cases hx : p.list[k]? with
   | none => simpa using ih
   | some x =>
     have h1 := h.each x (List.mem_of_getElem? hx)
     have h2 := h.wait
     simp only [Option.toList_some, List.foldl_append, List.foldl_cons, List.foldl_nil]
     generalize List.foldl (z9 p.wait) (Hg.top + 1) (List.take k p.list) = d at ih
     unfold z9
     split <;> omega
theorem ah1 (bp : Nat) (p : Pl) (a : Option Addr) (c : Nat) (B : ja) (hR : Row 160 4 (.slice a p.list.length c) p.list.length (kD p.list) B) (hG : Good p) (hb : p.begins = true) :
 Spec Tryz.prog G 58 #[.pointer (some ⟨bp, 0, none⟩)] ((bp, .cells (jk p (.slice a p.list.length c)) 158 (0, 0)) :: (B ++ L)) fun u M => u = .tuple #[.int .i64 (due p).1, .bool (due p).2] ∧ M = (bp, .cells (jk p (.slice a p.list.length c)) 158 (0, 0)) :: (B ++ L) := by
 have pc0 : (jk (p) (.slice a p.list.length c))[0 + 0]? = some (.slice a p.list.length c) := rfl
 have pc1 : (jk (p) (.slice a p.list.length c))[0 + 1]? = some (.int .i64 ((p).asked : Nat)) := rfl
 have pc2 : (jk (p) (.slice a p.list.length c))[0 + 2]? = some (.int .i64 (p).want) := rfl
 have pc3 : (jk (p) (.slice a p.list.length c))[0 + 3]? = some (.int .i64 (p).tries) := rfl
 have pc4 : (jk (p) (.slice a p.list.length c))[0 + 4]? = some (.int .i64 (p).every) := rfl
 have pc5 : (jk (p) (.slice a p.list.length c))[0 + 5]? = some (.int .i64 (p).wait) := rfl
 have pc6 : (jk (p) (.slice a p.list.length c))[0 + 6]? = some (.int .i64 (p).start) := rfl
 have pc7 : (jk (p) (.slice a p.list.length c))[0 + 7]? = some (.int .i64 (p).now) := rfl
 have pc8 : (jk (p) (.slice a p.list.length c))[0 + 8]? = some (.int .i64 (p).reached) := rfl
 have pc9 : (jk (p) (.slice a p.list.length c))[0 + 9]? = some (.bool (p).made) := rfl
 have pc10 : (jk (p) (.slice a p.list.length c))[0 + 10]? = some (.bool (p).begins) := rfl
 have g1 : Option.isNone (some (⟨bp, 0, none⟩ : Addr)) = false := rfl
 have g2 : (!p.begins) = false := by rw [hb]; rfl
 have hl := hG.len
 have hnow := hG.now
 have hwait := hG.wait
 have hreached := hG.reached
 have hevery := hG.every
 have hK : ∀ q ∈ [(bp, Obj.cells (jk p (.slice a p.list.length c)) 158 (0, 0))], q ∈ (bp, Obj.cells (jk p (.slice a p.list.length c)) 158 (0, 0)) :: (B ++ L) := fun q hq => by
  rw [List.mem_singleton.1 hq]; exact List.mem_cons_self ..
 unfold Hg.top at hnow hreached
 refine jm (n := 74) Tryz.func58 rfl rfl rfl ?_
 refine goD ?_
 refine jy (σ := Nat) (fun k => k ≤ p.list.length) (fun k => [(0, .pointer (some ⟨bp, 0, none⟩)), (4, .int .i64 ((p.list.take k).foldl (z9 p.wait) (Hg.top + 1))), (19, .slice a p.list.length c), (20, .int .i64 (p.list.length : Nat)), (21, .int .i64 (k : Nat))]) (fun k => (bp, .cells (jk p (.slice a p.list.length c)) 158 (0, 0)) :: (B ++ L)) (fun k => p.list.length - k) 0 (Nat.zero_le _) ?_ (fun w h => h) ?_
 exact jr
 intro k hk
 have hd := Z2 p hG k
 unfold Hg.top at hd
 by_cases hlt : k < p.list.length
 · have d1 : decide (((k : Nat) : Int) < ((p.list.length : Nat) : Int)) = true := decide_eq_true jd
   obtain ⟨x, hx⟩ : ∃ x, p.list[k]? = some x := ⟨_, List.getElem?_eq_getElem hlt⟩
   have hbx := hG.each x (List.mem_of_getElem? hx)
   rcases hR.is with ⟨_, h, _⟩ | ⟨be, cap, cur, hsl, rfl, h3, h4, h5, h6⟩
   · omega
   cases hsl
   have hcx := Kt h6 hx hlt
   have hf : (p.list.take (k + 1)).foldl (z9 p.wait) (Hg.top + 1) = z9 p.wait ((p.list.take k).foldl (z9 p.wait) (Hg.top + 1)) x := by
    obtain ⟨hi, rfl⟩ := List.getElem?_eq_some_iff.1 hx
    rw [List.take_succ_eq_append_getElem hi, List.foldl_append]
    rfl
   refine goD ?_
   refine jB (jA (kj x) rfl Yi (List.mem_cons_of_mem _ (List.mem_cons_self ..)) hcx) rfl ?_
   repeat (first | refine goD ?_ | (refine jO ?_; intro bNew))
   cases hop : x.op with
   | false =>
     refine goD ?_
     refine jh (k + 1) hlt ?_ (fun w h => h.tail) jd
     rw [hf, z9, hop, if_neg (by simp)]
     exact jr
   | true =>
     repeat (refine Jg rfl ?_ ?_; (· assumption))
     have hK2 : ∀ q ∈ [(bNew, Obj.cells (kj x).toArray 160 (0, 0)), (bp, Obj.cells (jk p (.slice (some ⟨be, 0, none⟩) p.list.length c)) 158 (0, 0))], q ∈ (bNew, Obj.cells (kj x).toArray 160 (0, 0)) :: (bp, Obj.cells (jk p (.slice (some ⟨be, 0, none⟩) p.list.length c)) 158 (0, 0)) :: ([(be, Obj.cells cur 160 (0, 0))] ++ L) := fun q hq => by
      simp only [List.mem_cons, List.not_mem_nil, or_false] at hq
      rcases hq with rfl | rfl
      · exact List.mem_cons_self ..
      · exact List.mem_cons_of_mem _ (List.mem_cons_self ..)
     refine jq jb ([(bNew, Obj.cells (kj x).toArray 160 (0, 0)), (bp, Obj.cells (jk p (.slice (some ⟨be, 0, none⟩) p.list.length c)) 158 (0, 0))]) [] ?_
     refine tkQ 0 ?_
     refine tkQ 1 ?_
     refine tkQ 2 ?_
     refine tkQ 3 ?_
     refine tkQ 4 ?_
     refine tkQ 5 ?_
     refine tkQ 6 ?_
     refine tkQ 7 ?_
     refine tkQ 8 ?_
     refine tkQ 9 ?_
     refine tdQ ?_
     refine goD ?_
     refine jh (k + 1) hlt ?_ (fun w h => h.tail) jd
     rw [hf, z9, hop, if_pos rfl]
     exact jr
 have d1 : decide (((k : Nat) : Int) < ((p.list.length : Nat) : Int)) = false := decide_eq_false jd
 have hkn : k = p.list.length := by omega
 subst hkn
 rw [List.take_length] at hd ⊢
 have hmul1 : 0 ≤ (p.reached + 1) * p.every := Int.mul_nonneg jd jd
 have hmul2 : (p.reached + 1) * p.every ≤ 1099511627777 * 1000 := Int.mul_le_mul jd jd jd jd
 refine goD ?_
 by_cases ha : p.asked < p.list.length
 · have d2 : decide (((p.asked : Nat) : Int) < ((p.list.length : Nat) : Int)) = true := decide_eq_true jd
   have hT : dueT p = max (min (p.list.foldl (z9 p.wait) (Hg.top + 1)) (p.start + (p.reached + 1) * p.every)) (p.now + 1) := by unfold dueT; rw [if_pos ha]; rfl
   refine jq jb ([(bp, Obj.cells (jk p (.slice a p.list.length c)) 158 (0, 0))]) [] ?_
   refine tkQ 0 ?_
   refine tkQ 1 ?_
   refine tkQ 2 ?_
   refine tkQ 3 ?_
   refine tkQ 4 ?_
   refine tkQ 5 ?_
   refine tkQ 6 ?_
   refine tkQ 7 ?_
   refine tkQ 8 ?_
   refine tkQ 9 ?_
   refine tdQ ?_
   refine goD ?_
   refine jq jb ([(bp, Obj.cells (jk p (.slice a p.list.length c)) 158 (0, 0))]) [] ?_
   refine tkQ 0 ?_
   refine tkQ 1 ?_
   refine tkQ 2 ?_
   refine tkQ 3 ?_
   refine tkQ 4 ?_
   refine tkQ 5 ?_
   refine tkQ 6 ?_
   refine tkQ 7 ?_
   refine tkQ 8 ?_
   refine tkQ 9 ?_
   refine tkQ 10 ?_
   refine tkQ 11 ?_
   refine tkQ 12 ?_
   refine tkQ 13 ?_
   refine tkQ 14 ?_
   refine tkQ 15 ?_
   refine tkQ 16 ?_
   refine tkQ 17 ?_
   refine tdQ ?_
   refine goD ?_
   rw [← hT]
   by_cases ht : Hg.top < dueT p
   · have d3 : decide (1099511627776 < dueT p) = true := decide_eq_true ht
     have hD : due p = (0, false) := by unfold due; rw [if_neg (by simp [hb]), if_pos ht]
     rw [hD]
     refine goD ?_
     refine jM 2 3 _ _ rfl rfl rfl ?_
     exact ⟨rfl, rfl⟩
   · have d3 : decide (1099511627776 < dueT p) = false := decide_eq_false ht
     have hD : due p = (dueT p, true) := by unfold due; rw [if_neg (by simp [hb]), if_neg ht]
     rw [hD]
     refine goD ?_
     refine jM 2 3 _ _ rfl rfl rfl ?_
     exact ⟨rfl, rfl⟩
 · have d2 : decide (((p.asked : Nat) : Int) < ((p.list.length : Nat) : Int)) = false := decide_eq_false jd
   have hT : dueT p = max (p.list.foldl (z9 p.wait) (Hg.top + 1)) (p.now + 1) := by unfold dueT; rw [if_neg ha]; rfl
   refine jq jb ([(bp, Obj.cells (jk p (.slice a p.list.length c)) 158 (0, 0))]) [] ?_
   refine tkQ 0 ?_
   refine tkQ 1 ?_
   refine tkQ 2 ?_
   refine tkQ 3 ?_
   refine tkQ 4 ?_
   refine tkQ 5 ?_
   refine tkQ 6 ?_
   refine tkQ 7 ?_
   refine tkQ 8 ?_
   refine tkQ 9 ?_
   refine tdQ ?_
   refine goD ?_
   rw [← hT]
   by_cases ht : Hg.top < dueT p
   · have d3 : decide (1099511627776 < dueT p) = true := decide_eq_true ht
     have hD : due p = (0, false) := by unfold due; rw [if_neg (by simp [hb]), if_pos ht]
     rw [hD]
     refine goD ?_
     refine jM 2 3 _ _ rfl rfl rfl ?_
     exact ⟨rfl, rfl⟩
   · have d3 : decide (1099511627776 < dueT p) = false := decide_eq_false ht
     have hD : due p = (dueT p, true) := by unfold due; rw [if_neg (by simp [hb]), if_neg ht]
     rw [hD]
     refine goD ?_
     refine jM 2 3 _ _ rfl rfl rfl ?_
     exact ⟨rfl, rfl⟩
theorem ah2 {bp : Nat} {p : Pl} {M : ja} (h : IsPlan bp p M) (hb : p.begins = true) : Spec Tryz.prog G 58 #[.pointer (some ⟨bp, 0, none⟩)] (M ++ L) fun u N => u = .tuple #[.int .i64 (due p).1, .bool (due p).2] ∧ N = M ++ L := by
 obtain ⟨⟨a, c, B, hR, rfl⟩, hG⟩ := h
 exact ah1 bp p a c B hR hG hb
end Go.Proofs.YtbjkkoacclfejaaGreat
namespace Go.Proofs.YtbjkkoacclfejaaGreat
open Go.RowKit
open Hg (En Pl)
variable {G : World} {L : ja}
theorem Row.toSrc {e : TypeId} {sz : Nat} {v : Value} {m : Nat} {xs : List Value} {B : ja} (h : Row e sz v m xs B) (hB : ∀ p ∈ B, p ∈ L) (hone : ∀ x ∈ xs, x.oneCell' = true) : Src L v m xs sz := by
 refine ⟨h.len, hone, ?_⟩
 rcases h.is with ⟨h1, h2, h3⟩ | ⟨b, cap, cur, h1, h2, h3, h4, h5, h6⟩
 · exact Or.inl ⟨0, by rw [h1], h2⟩
 · refine Or.inr ⟨b, 0, cap, cur, e, (0, 0), h1, hB _ (by rw [h2]; exact List.mem_cons_self ..), fun j x hj => ?_⟩
   have hjl := (List.getElem?_eq_some_iff.1 hj).1
   have hlen := h.len
   rw [← h6, List.getElem?_take_of_lt jd] at hj
   rw [Nat.zero_add]
   simpa using hj
theorem aaP (l : List En) : ∀ v ∈ kD l, v.oneCell' = true := by
 intro v hv
 obtain ⟨x, _, hx⟩ := List.mem_flatMap.1 hv
 exact uL x v hx
theorem afd {bp : Nat} {p : Pl} {M : ja} (h : IsPlan bp p M) : Spec Tryz.prog G 50 #[.pointer (some ⟨bp, 0, none⟩)] (M ++ L) fun u N => ∃ bq M2, u = .pointer (some ⟨bq, 0, none⟩) ∧ IsPlan bq p M2 ∧ N = M2 ++ (M ++ L) := by
 obtain ⟨⟨a, c, B, hR, rfl⟩, hG⟩ := h
 have pc0 : (jk (p) (.slice a p.list.length c))[0 + 0]? = some (.slice a p.list.length c) := rfl
 have pc1 : (jk (p) (.slice a p.list.length c))[0 + 1]? = some (.int .i64 ((p).asked : Nat)) := rfl
 have pc2 : (jk (p) (.slice a p.list.length c))[0 + 2]? = some (.int .i64 (p).want) := rfl
 have pc3 : (jk (p) (.slice a p.list.length c))[0 + 3]? = some (.int .i64 (p).tries) := rfl
 have pc4 : (jk (p) (.slice a p.list.length c))[0 + 4]? = some (.int .i64 (p).every) := rfl
 have pc5 : (jk (p) (.slice a p.list.length c))[0 + 5]? = some (.int .i64 (p).wait) := rfl
 have pc6 : (jk (p) (.slice a p.list.length c))[0 + 6]? = some (.int .i64 (p).start) := rfl
 have pc7 : (jk (p) (.slice a p.list.length c))[0 + 7]? = some (.int .i64 (p).now) := rfl
 have pc8 : (jk (p) (.slice a p.list.length c))[0 + 8]? = some (.int .i64 (p).reached) := rfl
 have pc9 : (jk (p) (.slice a p.list.length c))[0 + 9]? = some (.bool (p).made) := rfl
 have pc10 : (jk (p) (.slice a p.list.length c))[0 + 10]? = some (.bool (p).begins) := rfl
 have g1 : Option.isNone (some (⟨bp, 0, none⟩ : Addr)) = false := rfl
 have hl := hG.len
 rw [List.cons_append]
 refine jm (n := 15) Tryz.func50 rfl rfl rfl ?_
 repeat (first | refine goD ?_ | (refine jO ?_; intro bNew))
 refine JT (B := []) etO rfl rfl (Row.nil _ _) (hR.toSrc (fun q hq => List.mem_cons_of_mem _ (List.mem_cons_of_mem _ (List.mem_append_left _ hq))) (aaP _)) (by unfold maxLen; omega) jd rfl ?_
 intro v2 B2 hR2
 obtain ⟨a2, c2, rfl⟩ := hR2.slice
 rw [Nat.zero_add] at hR2 ⊢
 rw [List.nil_append] at hR2
 refine qk List.perm_middle ?_
 repeat (first | refine goD ?_ | (refine jO ?_; intro bNew))
 refine ji 2 _ rfl rfl ?_
 exact ⟨bNew, (bNew, Obj.cells (jk p (.slice a2 p.list.length c2)) 158 (0, 0)) :: B2, rfl, ⟨⟨a2, c2, B2, hR2, rfl⟩, hG⟩, rfl⟩
end Go.Proofs.YtbjkkoacclfejaaGreat
namespace Go.Proofs.YtbjkkoacclfejaaGreat
open Go.RowKit
open Hg (En Pl)
theorem ORow.put {α : Type} {r : Rp α} {sz : Nat} {L : ja} {e : TypeId} {a : Option Addr} {c : Nat} {l : List α} {B : ja} {b i j : Nat} {y : α} {cs : List Value} {cur : Array Value} {v : Value} (h : ORow r e sz L a c l B) (hB : B = [(b, .cells cur e (0, 0))]) (hi : i < l.length) (hn : cs.length = sz)
 (hc : ∀ j v, cs[j]? = some v → cur[0 + i * sz + j]? = some v) (hone : ∀ v ∈ cs, v.oneCell' = true) (hj : j < sz) (hv : v.oneCell' = true) (hy : r L (cs.set j v) y) :
 ORow r e sz L a c (l.set i y) [(b, .cells (cur.setIfInBounds (0 + i * sz + j) v) e (0, 0))] ∧ ∀ j' v', (cs.set j v)[j']? = some v' → (cur.setIfInBounds (0 + i * sz + j) v)[0 + i * sz + j']? = some v' := by
 have hin : ∀ j' v', (cs.set j v)[j']? = some v' → (cur.setIfInBounds (0 + i * sz + j) v)[0 + i * sz + j']? = some v' := by
  intro j' v' hj'
  by_cases e : j = j'
  · subst e
    have hb := (Array.getElem?_eq_some_iff.1 (hc j _ (List.getElem?_eq_getElem jd))).1
    rw [List.getElem?_set_self jd] at hj'
    rw [Array.getElem?_setIfInBounds_self_of_lt hb]
    exact hj'
  · rw [List.getElem?_set_ne e] at hj'
    rw [Array.getElem?_setIfInBounds_ne jd]
    exact hc j' v' hj'
 refine ⟨h.set hB hi (by simp [hn]) hy (fun v' h' => ?_) (by simp) (fun j' v' hj' => ?_) (fun k hk => ?_), hin⟩
 · rcases List.mem_or_eq_of_mem_set h' with h' | rfl
   · exact hone _ h'
   · exact hv
 · have := hin j' v' hj'
   rw [Nat.zero_add] at this ⊢
   exact this
 · rw [Array.getElem?_setIfInBounds_ne jd]
def enR : Rp En := fun _ cs x => cs = kj x
theorem zG : uZ enR := fun _ _ _ _ _ h => h
theorem enR.one {L : ja} {cs : List Value} {x : En} (h : enR L cs x) : ∀ v ∈ cs, v.oneCell' = true := by
 rw [show cs = kj x from h]; exact uL x
def Fr (p : Pl) : Prop := ∀ i x, p.list[i]? = some x → (i < p.asked → 1 ≤ x.asked) ∧ (p.asked ≤ i → x = Hg.fresh x.up)
def V5 (now : Int) (x : En) : En := ⟨x.up, x.asked + 1, now, true⟩
theorem Fr.mk (l : List Int) (want every wait tries now : Int) : Fr (Hg.mk l want every wait tries now) := by
 intro i x hx
 refine ⟨fun h => absurd h (Nat.not_lt_zero _), fun _ => ?_⟩
 simp only [Hg.mk, List.getElem?_map, Option.map_eq_some_iff] at hx
 obtain ⟨u, _, rfl⟩ := hx
 rfl
theorem Fr.list {p q : Pl} (h : Fr p) (hl : q.list = p.list) (ha : q.asked = p.asked) : Fr q := by
 unfold Fr; rw [hl, ha]; exact h
theorem Fr.advance {p : Pl} (h : Fr p) (t : Int) : Fr (Hg.advance p t) := h.list rfl rfl
theorem Fr.next {p : Pl} (h : Fr p) : Fr (Hg.next p) := by
 intro i x hx
 simp only [Hg.next, List.getElem?_modify] at hx ⊢
 obtain ⟨y, hy, e1⟩ := Option.map_eq_some_iff.1 hx
 by_cases e : p.asked = i
 · subst e
   rw [if_pos rfl] at e1
   subst e1
   exact ⟨fun _ => by simp [Hg.askAt], fun hle => by omega⟩
 · rw [if_neg e] at e1
   have e2 : y = x := e1
   subst e2
   obtain ⟨h1, h2⟩ := h i y hy
   exact ⟨fun hlt => h1 jd, fun hle => h2 jd⟩
theorem Kv {p : Pl} (h : Fr p) {x : En} (hx : p.list[p.asked]? = some x) : (Hg.next p).list = p.list.set p.asked (V5 p.now x) := by
 have hf := (h _ _ hx).2 (Nat.le_refl _)
 simp only [Hg.next]
 apply List.ext_getElem?
 intro i
 rw [List.getElem?_modify, List.getElem?_set]
 by_cases e : p.asked = i
 · subst e
   have hlt := (List.getElem?_eq_some_iff.1 hx).1
   rw [hx, if_pos rfl, if_pos hlt]
   simp only [Option.map_some, if_pos]
   rw [hf]
   rfl
 · rw [if_neg e]
   cases p.list[i]? with
   | none => rfl
   | some y => simp [e]
theorem Fr.examine {p : Pl} (h : Fr p) : Fr (Hg.examine p) := by
 intro i x hx
 simp only [Hg.examine, List.getElem?_map] at hx ⊢
 obtain ⟨y, hy, rfl⟩ := Option.map_eq_some_iff.1 hx
 obtain ⟨h1, h2⟩ := h i y hy
 refine ⟨fun hlt => ?_, fun hle => ?_⟩
 · have := h1 hlt
   unfold Hg.tickE
   split
   · split
     · exact this
     · dsimp only; omega
   · exact this
 · have := h2 hle
   rw [this]
   rfl
theorem Fr.hedged {p : Pl} (h : Fr p) : Fr (Hg.hedged p).1 := by
 unfold Hg.hedged
 dsimp only
 split
 · split
   · exact Fr.next (h.list rfl rfl)
   · exact h.list rfl rfl
 · exact h
theorem Fr.tick {p : Pl} (h : Fr p) (t : Int) : Fr (Hg.tick p t).1 := by
 unfold Hg.tick
 split
 · exact h
 · exact (h.advance t).examine.hedged
theorem Fr.more {p : Pl} (h : Fr p) (t : Int) : Fr (Hg.more p t).1 := by
 unfold Hg.more
 split
 · exact h
 · dsimp only
   split
   · exact h.advance t
   · exact (h.advance t).next
theorem Fr.nexts : ∀ (k : Nat) {p : Pl}, Fr p → Fr (Hg.nexts k p).1
 | 0, p, h => h
 | k + 1, p, h => Fr.nexts k h.next
theorem Fr.begin' {p : Pl} (h : Fr p) : Fr (Hg.begin' p).1 := by
 unfold Hg.begin'
 split
 · exact h
 · exact Fr.nexts _ (p := { p with begins := true }) (h.list rfl rfl)
theorem Uk (u : Int) : ∀ (l : List En) (i : Nat) (x : En), (Hg.closeL u l)[i]? = some x → ∃ y, l[i]? = some y ∧ (x = y ∨ (y.op = true ∧ y.up = u ∧ x = { y with op := false }))
 | [], i, x, h => by simp [Hg.closeL] at h
 | z :: r, i, x, h => by
   unfold Hg.closeL at h
   split at h
   · rename_i hz
     have hz' : z.up = u ∧ z.op = true := by simpa [Hg.isIt] using hz
     cases i with
     | zero =>
       simp at h
       subst h
       exact ⟨z, rfl, Or.inr ⟨hz'.2, hz'.1, rfl⟩⟩
     | succ i => exact ⟨x, by simpa using h, Or.inl rfl⟩
   · cases i with
     | zero => exact ⟨x, by simpa using h, Or.inl rfl⟩
     | succ i =>
       obtain ⟨y, h1, h2⟩ := Uk u r i x (by simpa using h)
       exact ⟨y, by simpa using h1, h2⟩
theorem Fr.close {p : Pl} (h : Fr p) (u : Int) : Fr (Hg.close p u).1 := by
 intro i x hx
 simp only [Hg.close] at hx ⊢
 obtain ⟨y, hy, h3⟩ := Uk u _ i x hx
 obtain ⟨h1, h2⟩ := h i y hy
 rcases h3 with rfl | ⟨hop, hup, rfl⟩
 · exact ⟨h1, h2⟩
 · refine ⟨h1, fun hle => ?_⟩
   have := h2 hle
   rw [this] at hop
   cases hop
end Go.Proofs.YtbjkkoacclfejaaGreat
namespace Go.Proofs.YtbjkkoacclfejaaGreat.Cn
open Go.Lib (decDigits)
abbrev Bytes := List UInt8
def ah3 (c : UInt8) : Bool := 48 ≤ c.toNat && c.toNat ≤ 57
def ah4 (l : Bytes) : Nat := l.foldl (fun n c => n * 10 + (c.toNat - 48)) 0
def okD (w : Bytes) : Bool := !(w == []) && decide (w.length ≤ 10) && !((w.head? == some 48) && decide (1 < w.length)) && w.all ah3
def numP (w : Bytes) (most : Nat) : Option Nat := if okD w && decide (ah4 w ≤ most) then some (ah4 w) else none
def spl (c : UInt8) : Bytes → List Bytes
 | [] => [[]]
 | a :: t => if a = c then [] :: spl c t else match spl c t with
   | [] => [[a]]
   | w :: ws => (a :: w) :: ws
def ah5 (c : UInt8) : List Bytes → Bytes
 | [] => []
 | [w] => w
 | w :: ws => w ++ c :: ah5 c ws
def V6 (s : Bytes) : List Bytes × Bytes := ((spl 10 s).dropLast, (spl 10 s).getLastD [])
def ad0 (ls : List Bytes) (r : Bytes) : Bytes := (ls.flatMap fun l => l ++ [10]) ++ r
end Go.Proofs.YtbjkkoacclfejaaGreat.Cn
namespace Go.Proofs.YtbjkkoacclfejaaGreat.Cn
open Go.Lib (decDigits)
structure Zo where
 name : Bytes
 pol : Nat
 tru : Nat
deriving DecidableEq
structure Cf where
 ups : Int
 ded : Int
 hdg : Int
 wai : Int
 tri : Int
 res : Int
 lim : Int
 cac : Int
 fli : Int
 wtr : Int
 ttl : Int
 siz : Int
 zs : List Zo
deriving DecidableEq
def Cf.nums (c : Cf) : List Int := [c.ups, c.ded, c.hdg, c.wai, c.tri, c.res, c.lim, c.cac, c.fli, c.wtr, c.ttl, c.siz]
def zeroC : Cf := ⟨0, 0, 0, 0, 0, 0, 0, 0, 0, 0, 0, 0, []⟩
def ofN (v : List Int) (zs : List Zo) : Cf := ⟨v.getD 0 0, v.getD 1 0, v.getD 2 0, v.getD 3 0, v.getD 4 0, v.getD 5 0, v.getD 6 0, v.getD 7 0, v.getD 8 0, v.getD 9 0, v.getD 10 0, v.getD 11 0, zs⟩
def mayNum (c : Cf) : Bool := decide ((1 ≤ c.ups ∧ c.ups ≤ 9 ∧ c.ups % 2 = 1) ∧ (1 ≤ c.hdg ∧ c.hdg ≤ 1000) ∧ (1 ≤ c.wai ∧ c.wai ≤ 1000) ∧ (1 ≤ c.tri ∧ c.tri ≤ 4) ∧
 (c.ups / 2 * c.hdg + c.tri * c.wai ≤ c.ded ∧ c.ded ≤ 100000) ∧ (1 ≤ c.res ∧ c.res ≤ 100000) ∧ (1 ≤ c.lim ∧ c.lim ≤ 100) ∧ (0 ≤ c.cac ∧ c.cac ≤ 256) ∧ (1 ≤ c.fli ∧ c.fli ≤ 32) ∧
 (1 ≤ c.wtr ∧ c.wtr ≤ 16) ∧ (0 ≤ c.ttl ∧ c.ttl ≤ 2147483647) ∧ (512 ≤ c.siz ∧ c.siz ≤ 4096))
def okPol (ups : Int) (z : Zo) : Bool := decide (((z.pol = 1 ∨ z.pol = 2 ∨ z.pol = 4) ∧ z.tru = 0) ∨ (z.pol = 3 ∧ z.tru ≠ 0 ∧ z.tru / 2 ^ ups.toNat = 0))
def okName (z : Zo) : Bool := Nm.may z.name && (Nm.fold z.name == z.name)
def okZo (ups : Int) (z : Zo) : Bool := okName z && okPol ups z
def goodAt (ups : Int) (zs : List Zo) (i : Nat) : Bool := match zs[i]? with
 | some z => okZo ups z && !(zs.take i).any (fun y => y.name == z.name)
 | none => true
def mayZs (ups : Int) (zs : List Zo) : Bool := decide (zs.length ≤ 16) && (List.range zs.length).all (goodAt ups zs)
def mayP (c : Cf) : Bool := mayNum c && mayZs c.ups c.zs
def liesP (c : Cf) : Int := if mayP c then c.ups / 2 else 0
structure Names where
 text : Bytes → Bytes
 par : Bytes → Bytes × Int
structure Names.Ok (T : Names) : Prop where
 back : ∀ n, Nm.may n = true → T.par (T.text n) = (n, 0)
 may : ∀ t n, T.par t = (n, 0) → Nm.may n = true
 clean : ∀ n, Nm.may n = true → ∀ c ∈ T.text n, 33 ≤ c.toNat
 len : ∀ n, Nm.may n = true → (T.text n).length ≤ 2000
def Z3 : List Bytes := [[117, 112, 115], [100, 101, 97, 100, 108, 105, 110, 101], [104, 101, 100, 103, 101], [119, 97, 105, 116], [116, 114, 105, 101, 115], [114, 101, 115, 116], [108, 105, 109, 105, 116], [99, 97, 99, 104, 101], [102, 108, 105, 103, 104, 116, 115], [119, 97, 105, 116, 101, 114, 115], [116, 116, 108], [115, 105, 122, 101]]
def strictW : Bytes := [115, 116, 114, 105, 99, 116]
def unionW : Bytes := [117, 110, 105, 111, 110]
def trustedW : Bytes := [116, 114, 117, 115, 116, 101, 100]
def refuseW : Bytes := [114, 101, 102, 117, 115, 101]
def aeB : Bytes := [122, 111, 110, 101]
def ajI (p : Nat) : Bytes := if p = 1 then strictW else if p = 2 then unionW else if p = 3 then trustedW else refuseW
def ajJ (w : Bytes) : Option Nat := if w = strictW then some 1 else if w = unionW then some 2 else if w = refuseW then some 4 else if w = trustedW then some 3 else none
def afe (t : Nat) : List Nat := (List.range 16).filter fun u => t.testBit u
def ad1 (w : Bytes) (v : Int) : Bytes := w ++ 32 :: decDigits v.toNat
def aff (t : Nat) : Bytes := (afe t).flatMap fun u => 32 :: decDigits u
section
variable (T : Names)
def aco (z : Zo) : Bytes := aeB ++ 32 :: (T.text z.name ++ 32 :: (ajI z.pol ++ aff z.tru))
def ah6 (c : Cf) : List Bytes := List.zipWith ad1 Z3 c.nums ++ c.zs.map (aco T)
def ah7 (c : Cf) : Bytes := ad0 (ah6 T c) []
def akI (c : Cf) : Bytes × Int := if mayP c then (ah7 T c, 0) else ([], 1)
def ad2 (k : Nat) (l : Bytes) : Option Int := match spl 32 l with
 | [w, n] => if some w = Z3[k]? then (numP n 2147483647).map Int.ofNat else none
 | _ => none
def acp : Int → Nat → List Bytes → Option Nat
 | _, t, [] => some t
 | last, t, w :: ws => match numP w 15 with
   | some u => if (u : Int) ≤ last then none else acp u (t ||| 2 ^ u) ws
   | none => none
def readName (w : Bytes) : Option Bytes := if (T.par w).2 = 0 ∧ T.text (T.par w).1 = w then some (T.par w).1 else none
def acq (l : Bytes) : Option Zo := match spl 32 l with
 | z :: w :: p :: ws => if z = aeB then match readName T w, ajJ p, acp (-1) 0 ws with
   | some n, some p, some t => if (decide (p = 3)) = (decide (t ≠ 0)) then some ⟨n, p, t⟩ else none
   | _, _, _ => none
   else none
 | _ => none
def goP : Nat → List Bytes → List Int → List Zo → Nat ⊕ (List Int × List Zo)
 | _, [], vs, zs => .inr (vs, zs)
 | k, l :: ls, vs, zs => if k < 12 then match ad2 k l with
    | some n => goP (k + 1) ls (vs ++ [n]) zs
    | none => .inl k
   else match acq T l with
    | some z => goP (k + 1) ls vs (zs ++ [z])
    | none => .inl k
def ajK (s : Bytes) : Cf × Int × Int := if 131072 < s.length then (zeroC, 0, 5) else
 match goP T 0 (V6 s).1 [] [] with
 | .inl k => (zeroC, (k : Int) + 1, 3)
 | .inr (vs, zs) => if (V6 s).2 ≠ [] ∨ (V6 s).1.length < 12 then (zeroC, ((V6 s).1.length : Int) + 1, 3) else
   if mayP (ofN vs zs) then (ofN vs zs, 0, 0) else (zeroC, 0, 1)
end
end Go.Proofs.YtbjkkoacclfejaaGreat.Cn
namespace Go.Proofs.YtbjkkoacclfejaaGreat
open Hg (En Pl)
open Vd (RSet Vdt Vote Rec Quest Piece Ballot)
structure Dd where
 sends : List Int
 gone : List Int
 over : Bool
 done : Bool
 vd : Vdt
 time : Int
 agree : List Int
 dissent : List Int
deriving DecidableEq
namespace Dd
def none : Dd := ⟨[], [], false, false, Vdt.none, 0, [], []⟩
end Dd
structure As where
 q : Quest
 pol : Int
 want : Int
 p : Pl
 l : List Ballot
 ded : Int
 now : Int
 over : Bool
namespace Aq
def votes (a : As) : List Vote := Vd.votesB a.l
def decided (a : As) : Option (Vdt × Int × List Int × List Int) :=
 if a.pol = 1 then (if (qr a.want (votes a)).2.2.2 then some ((qr a.want (votes a)).1, (qr a.want (votes a)).2.1, (qr a.want (votes a)).2.2.1, kw a.want (votes a)) else none)
 else if ((votes a).length : Int) < a.want then none
 else if a.pol = 2 then some ((Vd.union a.q (votes a)).1, (Vd.union a.q (votes a)).2.1, [], [])
 else match (votes a)[0]? with
  | some x => some (x.vd, x.time, [], [])
  | none => none
def hope (a : As) : Int := Hg.opens a.p + (if a.pol = 1 then qO (votes a) else ((votes a).length : Int))
def lookL : Nat → As → Dd → As × Dd
 | 0, a, d => (a, d)
 | n + 1, a, d =>
   if a.want ≤ hope a then (a, d)
   else if (Hg.more a.p a.now).2.2 then lookL n { a with p := (Hg.more a.p a.now).1 } { d with sends := d.sends ++ [(Hg.more a.p a.now).2.1] }
   else ({ a with p := (Hg.more a.p a.now).1, over := true }, { d with over := true })
def look (a : As) (d : Dd) : As × Dd :=
 match decided a with
 | some (v, t, ag, di) => ({ a with over := true }, { d with over := true, done := true, vd := v, time := t, agree := ag, dissent := di })
 | none => lookL (a.p.list.length + 1) a d
def upto (a : As) (now : Int) : As := { a with now := max a.now (min now Hg.top) }
def vote (a : As) (u : Int) (v : Vdt) (t : Int) (now : Int) : As × Dd :=
 if a.over then (a, Dd.none)
 else if (Hg.close a.p u).2 then look { (upto { a with p := (Hg.close a.p u).1 } now) with l := (Vd.putB a.l ⟨⟨u, v, t⟩, false⟩).1 } Dd.none
 else ({ a with p := (Hg.close a.p u).1 }, Dd.none)
def pass (a : As) (u : Int) (now : Int) : As × Dd :=
 if a.over then (a, Dd.none)
 else if (Hg.close a.p u).2 then look { (upto { a with p := (Hg.close a.p u).1 } now) with l := (Vd.putB a.l ⟨⟨u, Vdt.none, 0⟩, true⟩).1 } Dd.none
 else ({ a with p := (Hg.close a.p u).1 }, Dd.none)
def tick (a : As) (now : Int) : As × Dd :=
 if a.over then (a, Dd.none)
 else if a.ded ≤ (upto a now).now then ({ (upto a now) with over := true }, { Dd.none with over := true })
 else look { (upto a now) with p := (Hg.tick a.p (upto a now).now).1 } { Dd.none with sends := (Hg.tick a.p (upto a now).now).2.2, gone := (Hg.tick a.p (upto a now).now).2.1 }
def dueT (a : As) : Int := max (if (due a.p).2 then min a.ded (due a.p).1 else a.ded) (a.now + 1)
def dueA (a : As) : Int × Bool := if a.over then (0, false) else if Hg.top < dueT a then (0, false) else (dueT a, true)
def own (pol tru : Nat) (l : List Int) : List Int := l.filter fun u => decide (pol ≠ 3) || tru.testBit u.toNat
def distinct (ups : Int) (l : List Int) : Bool := l.all (fun u => decide (0 ≤ u ∧ u < ups)) && decide l.Nodup
def wantOf (c : Cn.Cf) (pol : Nat) : Int := if pol = 3 then 1 else Cn.liesP c + 1
def newE (q : Quest) (z : Cn.Zo) (l : List Int) (c : Cn.Cf) (now : Int) : Int :=
 if !Cn.mayP c || !Nm.may q.name || decide (z.pol < 1 ∨ 3 < z.pol) || decide (now < 0 ∨ Hg.top < now) || !distinct c.ups l then 1
 else if own z.pol z.tru l = [] then 6 else 0
def new0 (q : Quest) (z : Cn.Zo) (l : List Int) (c : Cn.Cf) (now : Int) : As :=
 { q := q, pol := z.pol, want := wantOf c z.pol, p := (Hg.begin' (Hg.mk (own z.pol z.tru l) (wantOf c z.pol) c.hdg c.wai c.tri now)).1, l := [], ded := now + c.ded, now := now, over := false }
def new1 (q : Quest) (z : Cn.Zo) (l : List Int) (c : Cn.Cf) (now : Int) : As × Dd :=
 look (new0 q z l c now) { Dd.none with sends := (Hg.begin' (Hg.mk (own z.pol z.tru l) (wantOf c z.pol) c.hdg c.wai c.tri now)).2 }
end Aq
structure AOk (a : As) : Prop where
 good : Good a.p
 fr : Fr a.p
 begins : a.p.begins = true
 made : a.p.made = true
 want : 1 ≤ a.want ∧ a.want ≤ 9
 pol : a.pol = 1 ∨ a.pol = 2 ∨ (a.pol = 3 ∧ a.want = 1)
 now : 0 ≤ a.now ∧ a.now ≤ Hg.top
 ded : 0 ≤ a.ded ∧ a.ded ≤ Hg.top + 100000
 name : Nm.may a.q.name = true
 box : BoxOk a.l
end Go.Proofs.YtbjkkoacclfejaaGreat
namespace Go.Proofs.YtbjkkoacclfejaaGreat
open Go.RowKit
open Vd (RSet Vdt Vote Rec Quest Piece Ballot)
variable {G : World} {L : ja}
theorem yj {P : Program} {ρ : jG} {ty : TypeId} {x y : Operand} {b k : Nat} {t : TypeId} {C D : Array Value} {te : TypeId} (hx : ev ρ x = some (.pointer (some ⟨b, 0, none⟩))) (hy : ev ρ y = some (.agg D))
 (ht : j5 P t k = true) (hC : C.size = k) (hD : D.size = k) (hone : JV D = true) : OpV P G ρ ((b, Obj.cells C te (0, 0)) :: L) (.store t x y) ty undef ((b, Obj.cells D te (0, 0)) :: L) := by
 have h1 := yx (G := G) (P := P) (ρ := ρ) (L := L) (ty := ty) (b := b) (C := C) (te := te) (t := t) (cs := D.toList) hx (by simpa using hy) (by rw [Array.length_toList, hD]; exact ht) (fun v hv => List.all_eq_true.1 hone v hv) (by rw [Array.length_toList, hD, hC]; omega)
 have h2 : qM C 0 D.toList = D := by
  unfold qM
  rw [List.drop_eq_nil_of_le (by simp; omega)]
  simp
 rw [h2] at h1
 exact h1
def ah8 (L : ja) (cs : List Value) (v : Vdt) (t : Int) (ag di : List Int) : Prop := ∃ y1 k1 y2 k2 y3 k3 y4 k4, cs = [.int .u8 v.code, .slice y1 v.sets.length k1, .slice y2 v.soa.length k2, .int .u32 t, .slice y3 ag.length k3, .slice y4 di.length k4] ∧
 vdR L [.int .u8 v.code, .slice y1 v.sets.length k1, .slice y2 v.soa.length k2] v ∧ IRow L (.slice y3 ag.length k3) ag ∧ IRow L (.slice y4 di.length k4) di
def DecOut (L : ja) (r : Option (Vdt × Int × List Int × List Int)) (u : Value) (M : ja) : Prop := ∃ v t ag di cs N, u = .tuple #[.agg cs.toArray, .bool r.isSome] ∧ ah8 N cs v t ag di ∧ (∀ x, r = some x → x = (v, t, ag, di)) ∧ M = N ++ L
theorem jI {L : ja} : IRow L (.slice none 0 0) [] := ⟨none, 0, rfl, Or.inl rfl⟩
theorem zH {L : ja} {a : Option Addr} {c : Nat} {l : List Int} (h : sliceR 1 (uj .i64) L [.slice a l.length c] l) : IRow L (.slice a l.length c) l := by
 obtain ⟨_, _, _, h⟩ := sliceR.cut h
 refine ⟨a, c, rfl, h.imp id ?_⟩
 rintro ⟨b, off, C, te, fr, q1, q2, q3⟩
 refine ⟨b, off, C, te, fr, q1, q2, fun i x hx => ?_⟩
 obtain ⟨cs', _, ⟨rfl, _⟩, k3⟩ := q3 i x hx
 exact k3 0 _ rfl
theorem DecOut.no : DecOut L none (.tuple #[.agg #[.int .u8 0, .slice none 0 0, .slice none 0 0, .int .u32 0, .slice none 0 0, .slice none 0 0], .bool false]) L :=
 ⟨Vdt.none, 0, [], [], _, [], rfl, ⟨none, 0, none, 0, none, 0, none, 0, rfl, ⟨_, _, rfl, sliceR.nil, sliceR.nil, by decide⟩, jI, jI⟩, by simp, rfl⟩
theorem PBox.codes {bb : Nat} {want : Int} {l : List Ballot} {X : ja} (h : PBox bb want l X) : ∀ x ∈ Vd.votesB l, (0 ≤ x.vd.code ∧ x.vd.code ≤ 255) ∧ (0 ≤ x.time ∧ x.time ≤ 4294967295) := by
 obtain ⟨hs, _, N, ⟨a, c, B, hB, rfl⟩, hN, rfl⟩ := h
 obtain ⟨_, _, hl, _⟩ := hB.ex
 intro x hx
 obtain ⟨i, hi⟩ := List.getElem?_of_mem hx
 obtain ⟨cs, _, ⟨_, _, _, _, _, h1, h2, _⟩, _⟩ := hl.at hi
 exact ⟨h1, h2⟩
theorem U7 {want : Int} {vs : List Vote} : ∀ {j k : Nat}, ky want vs j = some k → ∃ x, vs[k]? = some x
 | 0, k, h => by cases h
 | j + 1, k, h => by
   unfold ky at h
   split at h
   · rename_i k' hk
     obtain rfl := Option.some.inj h
     exact U7 hk
   · split at h
     · rename_i x hx
       split at h
       · obtain rfl := Option.some.inj h
         exact ⟨x, hx⟩
       · cases h
     · cases h
theorem acr {want : Int} {vs : List Vote} (h : (qr want vs).2.2.2 = true) : ∃ x ∈ vs, (qr want vs).1 = x.vd := by
 unfold qr at h ⊢
 cases hw : ky want vs vs.length with
 | none => rw [hw] at h; cases h
 | some j =>
   rw [hw] at h
   dsimp only at h ⊢
   obtain ⟨x, hx⟩ := U7 hw
   rw [hx]
   exact ⟨x, List.mem_of_getElem? hx, rfl⟩
theorem ad3 {want : Int} (h : 1 ≤ want) (vs : List Vote) : aaH want vs = qr want vs := if_neg jd
theorem aaQ {a : As} (h : a.pol = 1) : Aq.decided a = if (qr a.want (Aq.votes a)).2.2.2 then some ((qr a.want (Aq.votes a)).1, (qr a.want (Aq.votes a)).2.1, (qr a.want (Aq.votes a)).2.2.1, kw a.want (Aq.votes a)) else none := by
 unfold Aq.decided; rw [if_pos h]
theorem afg {v : Vdt} {t : Int} {ag di : List Int} {N : ja} {y1 y2 y3 y4 : Option Addr} {k1 k2 k3 k4 : Nat} (h : vdR N [.int .u8 v.code, .slice y1 v.sets.length k1, .slice y2 v.soa.length k2] v) (h3 : IRow N (.slice y3 ag.length k3) ag) (h4 : IRow N (.slice y4 di.length k4) di) :
 DecOut L (some (v, t, ag, di)) (.tuple #[.agg #[.int .u8 v.code, .slice y1 v.sets.length k1, .slice y2 v.soa.length k2, .int .u32 t, .slice y3 ag.length k3, .slice y4 di.length k4], .bool true]) (N ++ L) :=
 ⟨v, t, ag, di, _, N, rfl, ⟨y1, k1, y2, k2, y3, k3, y4, k4, rfl, h, h3, h4⟩, fun x hx => (Option.some.inj hx).symm, rfl⟩
theorem aaR {bb : Nat} {X : ja} (a : As) (c1 c2 c3 : Value) (hq : JV #[c1, c2, c3] = true) (hb : PBox bb a.want a.l X) (hX : ∀ p ∈ X, p ∈ L) (hw : 1 ≤ a.want) (hp : a.pol = 1) :
 Spec Tryz.prog G 187 #[.agg #[], .agg #[c1, c2, c3], .pointer (some ⟨bb, 0, none⟩)] L (DecOut L (Aq.decided a)) := by
 rw [aaQ hp]
 have hcd := hb.codes
 refine jm (n := 28) Tryz.func187 rfl rfl rfl ?_
 repeat (first | refine goA ?_ | (refine jO ?_; intro bNew) | (refine kl ?_; intro bBox))
 obtain ⟨b6, hb6⟩ : ∃ b, bNew = b := ⟨_, rfl⟩
 rw [hb6]
 clear hb6
 rename_i bx1
 refine jw (jc je rfl (ae7 hb (fun p hp => List.mem_cons_of_mem _ (List.mem_cons_of_mem _ (List.mem_cons_of_mem _ (hX p hp)))))) rfl ?_
 rw [ad3 hw]
 obtain ⟨r, hr⟩ : ∃ r, r = qr a.want (Vd.votesB a.l) := ⟨_, rfl⟩
 have hv : Aq.votes a = Vd.votesB a.l := rfl
 rw [hv, ← hr]
 rintro _ _ ⟨ra, rc, RB, ra2, rc2, RB2, ra3, rc3, RB3, N, rfl, hR1, hR2, hR3, hN, rfl⟩
 repeat (first | refine goA ?_ | (refine jO ?_; intro bNew))
 cases hf : r.2.2.2 with
 | false =>
   rw [if_neg (by simp)]
   refine UP (L' := (b6, Obj.cells #[.int .u8 0, .slice none 0 0, .slice none 0 0, .int .u32 0, .slice none 0 0, .slice none 0 0] 167 (0, 0)) :: L) ?_ jn
   repeat (first | refine goA ?_ | refine jB (jl rfl (Qu )) rfl ?_)
   refine kB 6 167 7 rfl rfl rfl stO (by repeat (exact List.mem_cons_self)) rfl (L' := L) (fun w h => h.cnt jn) ?_
   exact DecOut.no
 | true =>
   obtain ⟨x, hx, hxe⟩ := acr (want := a.want) (vs := Vd.votesB a.l) (by rw [← hr]; exact hf)
   have hxc := (hcd x hx).1
   rw [← hr] at hxe
   rw [← hxe] at hxc
   rw [if_pos rfl]
   obtain ⟨b7, hb7⟩ : ∃ b, bNew = b := ⟨_, rfl⟩
   rw [hb7]
   clear hb7
   have hag := Ze (G := G) (L := (b7, Obj.cells #[.int .u8 r.1.code, .slice ra r.1.sets.length rc, .slice ra2 r.1.soa.length rc2] 40 (0, 0)) :: (RB3 ++ (RB2 ++ (RB ++ (N ++ ((b6, Obj.cells #[.int .u8 0, .slice none 0 0, .slice none 0 0, .int .u32 0, .slice none 0 0, .slice none 0 0] 167 (0, 0)) :: (bBox, Obj.cells #[c1, c2, c3] 24 (0, 0)) :: (bx1, Obj.cells #[] 152 (0, 0)) :: L)))))) hb (fun p hp => by have := hX p hp; simp [this])
   rw [if_neg jd] at hag
   obtain ⟨ag, hage⟩ : ∃ z, z = kw a.want (Vd.votesB a.l) := ⟨_, rfl⟩
   rw [← hage] at hag ⊢
   have hK : ∀ z ∈ [(b7, Obj.cells #[.int .u8 r.1.code, .slice ra r.1.sets.length rc, .slice ra2 r.1.soa.length rc2] 40 (0, 0))], z ∈ (b7, Obj.cells #[.int .u8 r.1.code, .slice ra r.1.sets.length rc, .slice ra2 r.1.soa.length rc2] 40 (0, 0)) :: (RB3 ++ (RB2 ++ (RB ++ (N ++ ((b6, Obj.cells #[.int .u8 0, .slice none 0 0, .slice none 0 0, .int .u32 0, .slice none 0 0, .slice none 0 0] 167 (0, 0)) :: (bBox, Obj.cells #[c1, c2, c3] 24 (0, 0)) :: (bx1, Obj.cells #[] 152 (0, 0)) :: L))))) := fun z hz => by simp only [List.mem_singleton] at hz; subst hz; simp
   refine goA ?_
   refine jq jb ([(b7, Obj.cells #[.int .u8 r.1.code, .slice ra r.1.sets.length rc, .slice ra2 r.1.soa.length rc2] 40 (0, 0))]) [] ?_
   refine tkQ 0 ?_
   refine tkQ 1 ?_
   refine tkQ 2 ?_
   refine tkQ 3 ?_
   refine jF 4 je rfl rfl rfl rfl (jc je rfl hag) ?_; rintro _ _ ⟨a3, c3', B3, rfl, hB3, rfl⟩; refine ⟨Or.inr (fun z hz => by simp only [List.mem_singleton] at hz; subst hz; simp), ?_⟩
   (refine' jp 5 rfl rfl je (jL (jl rfl (zd _ _ _ _ _ _ _ _ _ _))) ?_ ?_; (· intro p hp; grind))
   refine j6 (L' := (b6, Obj.cells #[.int .u8 0, .slice none 0 0, .slice none 0 0, .int .u32 0, .slice none 0 0, .slice none 0 0] 167 (0, 0)) :: (B3 ++ (RB3 ++ (RB2 ++ (RB ++ (N ++ ((b7, Obj.cells #[.int .u8 r.1.code, .slice ra r.1.sets.length rc, .slice ra2 r.1.soa.length rc2] 40 (0, 0)) :: (bBox, Obj.cells #[c1, c2, c3] 24 (0, 0)) :: (bx1, Obj.cells #[] 152 (0, 0)) :: L))))))) ?_ jn; refine jZ 6 je rfl rfl rfl (yj rfl rfl stO rfl rfl rfl) ?_; rintro _ _ ⟨_, rfl⟩; refine ⟨Or.inr (fun z hz => by simp only [List.mem_singleton] at hz; subst hz; simp), ?_⟩
   refine tkQ 7 ?_
   refine tdQ ?_
   refine goA ?_
   refine kB 6 167 7 rfl rfl rfl stO (by repeat (exact List.mem_cons_self)) rfl (L' := (B3 ++ (RB3 ++ (RB2 ++ (RB ++ N)))) ++ L) (fun w h => h.cnt jn) ?_
   exact afg (N := B3 ++ (RB3 ++ (RB2 ++ (RB ++ N)))) ⟨_, _, rfl, hR1.sliceR jC jf jf, hR2.sliceR jC jf jf, hxc⟩ (zH (hR3.sliceR (uf _) (by simp) jf)) (zH (hB3.sliceR (uf _) (by simp) jf))
theorem aaS {bb : Nat} {want : Int} {l : List Ballot} {X : ja} (n : Int) (hn : 0 ≤ n ∧ n ≤ 1000) (hb : PBox bb want l X) (hX : ∀ p ∈ X, p ∈ L) :
 Spec Tryz.prog G 188 #[.agg #[], .int .i64 n, .pointer (some ⟨bb, 0, none⟩)] L fun u M => u = .int .i64 (n + qO (Vd.votesB l)) ∧ M = L := by
 have hl9 := hb.1.ok.len
 have hvl := j7 l
 have hm0 := zD (Vd.votesB l)
 have hm9 : qO (Vd.votesB l) ≤ 9 := mostR_le.2 ⟨by decide, fun x hx => by have := List.length_filter_le (fun y : Vote => decide (y.vd = x.vd)) (Vd.votesB l); unfold jR; omega⟩
 refine jm (n := 11) Tryz.func188 rfl rfl rfl ?_
 repeat (first | refine goA ?_ | (refine kl ?_; intro bBox))
 refine jw (jc je rfl (adT hb (fun p hp => List.mem_cons_of_mem _ (hX p hp)))) rfl ?_
 rintro _ _ ⟨rfl, rfl⟩
 refine goA ?_
 refine jJ (L' := L) ?_ jn
 refine ji 6 _ rfl rfl ?_
 exact ⟨rfl, rfl⟩
theorem acs {bb : Nat} {want : Int} {l : List Ballot} {X : ja} (n : Int) (hn : 0 ≤ n ∧ n ≤ 1000) (w0 : Int) (hb : PBox bb want l X) (hX : ∀ p ∈ X, p ∈ L) :
 Spec Tryz.prog G 209 #[.agg #[.int .i64 w0], .int .i64 n, .pointer (some ⟨bb, 0, none⟩)] L fun u M => u = .int .i64 (n + ((Vd.votesB l).length : Int)) ∧ M = L := by
 have hl9 := hb.1.ok.len
 have hvl := j7 l
 have hm0 := zD (Vd.votesB l)
 have hm9 : qO (Vd.votesB l) ≤ 9 := mostR_le.2 ⟨by decide, fun x hx => by have := List.length_filter_le (fun y : Vote => decide (y.vd = x.vd)) (Vd.votesB l); unfold jR; omega⟩
 refine jm (n := 12) Tryz.func209 rfl rfl rfl ?_
 repeat (first | refine goA ?_ | (refine kl ?_; intro bBox))
 refine jw (jc je rfl (JE hb (fun p hp => List.mem_cons_of_mem _ (hX p hp)))) rfl ?_
 rintro _ _ ⟨va, vc, VB, N, rfl, hVB, hN, rfl⟩
 refine goA ?_
 refine jJ (L' := L) ?_ jn
 refine ji 6 _ rfl rfl ?_
 exact ⟨rfl, rfl⟩
theorem Zh {bb : Nat} {want : Int} {l : List Ballot} {X : ja} (n : Int) (hn : 0 ≤ n ∧ n ≤ 1000) (hb : PBox bb want l X) (hX : ∀ p ∈ X, p ∈ L) :
 Spec Tryz.prog G 212 #[.agg #[], .int .i64 n, .pointer (some ⟨bb, 0, none⟩)] L fun u M => u = .int .i64 (n + ((Vd.votesB l).length : Int)) ∧ M = L := by
 have hl9 := hb.1.ok.len
 have hvl := j7 l
 have hm0 := zD (Vd.votesB l)
 have hm9 : qO (Vd.votesB l) ≤ 9 := mostR_le.2 ⟨by decide, fun x hx => by have := List.length_filter_le (fun y : Vote => decide (y.vd = x.vd)) (Vd.votesB l); unfold jR; omega⟩
 refine jm (n := 12) Tryz.func212 rfl rfl rfl ?_
 repeat (first | refine goA ?_ | (refine kl ?_; intro bBox))
 refine jw (jc je rfl (JE hb (fun p hp => List.mem_cons_of_mem _ (hX p hp)))) rfl ?_
 rintro _ _ ⟨va, vc, VB, N, rfl, hVB, hN, rfl⟩
 refine goA ?_
 refine jJ (L' := L) ?_ jn
 refine ji 6 _ rfl rfl ?_
 exact ⟨rfl, rfl⟩
structure EndOk (q : Quest) (v : Vdt) : Prop where
 few : (Vd.endV q v).1.data.length ≤ 600
 small : ∀ d ∈ (Vd.endV q v).1.data, d.length ≤ 1000000
 some : (Vd.endV q v).2 = true → (Vd.endV q v).1.data ≠ []
structure QOk (q : Quest) : Prop where
 name : q.name.length ≤ 1000000
 kind : 0 ≤ q.kind ∧ q.kind ≤ 65535
 cls : 0 ≤ q.cls ∧ q.cls ≤ 65535
 may : Nm.may q.name = true
theorem act {q : Quest} (h : Nm.may q.name = true) {l : List Vote} (hl : l ≠ []) : (Vd.union q l).2.2 = true := by
 cases l with
 | nil => exact absurd rfl hl
 | cons w r =>
   unfold Vd.union
   dsimp only
   rw [if_neg (by rw [h]; simp)]
   split <;> rfl
theorem Zi {q : Quest} {l : List Vote} (hc : ∀ x ∈ l, 0 ≤ x.vd.code ∧ x.vd.code ≤ 255) : 0 ≤ (Vd.union q l).1.code ∧ (Vd.union q l).1.code ≤ 255 := by
 cases l with
 | nil => exact ⟨Int.le_refl 0, show (0 : Int) ≤ 255 by decide⟩
 | cons w r =>
   unfold Vd.union
   dsimp only
   split
   · exact ⟨Int.le_refl 0, show (0 : Int) ≤ 255 by decide⟩
   · split
     · split
       · rename_i x hx
         exact hc x (List.mem_of_getElem? hx)
       · exact ⟨Int.le_refl 0, show (0 : Int) ≤ 255 by decide⟩
     · exact ⟨Int.le_refl 0, show (0 : Int) ≤ 255 by decide⟩
theorem Yo {a : As} (h : a.pol = 2) : Aq.decided a = if ((Aq.votes a).length : Int) < a.want then none else some ((Vd.union a.q (Aq.votes a)).1, (Vd.union a.q (Aq.votes a)).2.1, [], []) := by
 unfold Aq.decided
 rw [if_neg jd, if_pos h]
theorem acu {bb : Nat} {X : ja} (a : As) (hb : PBox bb a.want a.l X) (hX : ∀ p ∈ X, p ∈ L) (hw : 1 ≤ a.want) (hp : a.pol = 2) (hq : QOk a.q) (he : ∀ x ∈ Aq.votes a, EndOk a.q x.vd) :
 Spec Tryz.prog G 208 #[.agg #[.int .i64 a.want], .agg #[.string (bs a.q.name), .int .u16 a.q.kind, .int .u16 a.q.cls], .pointer (some ⟨bb, 0, none⟩)] L (DecOut L (Aq.decided a)) := by
 rw [Yo hp]
 have hcd := hb.codes
 have hl9 := hb.1.ok.len
 have hvl := j7 a.l
 have hsm := hb.1.sm
 have hv : Aq.votes a = Vd.votesB a.l := rfl
 rw [hv] at he ⊢
 refine jm (n := 33) Tryz.func208 rfl rfl rfl ?_
 repeat (first | refine goA ?_ | (refine jO ?_; intro bNew) | (refine kl ?_; intro bBox))
 obtain ⟨b6, hb6⟩ : ∃ b, bNew = b := ⟨_, rfl⟩
 rw [hb6]
 clear hb6
 rename_i bx1
 refine jw (jc je rfl (JE hb (fun p hp => List.mem_cons_of_mem _ (List.mem_cons_of_mem _ (List.mem_cons_of_mem _ (hX p hp)))))) rfl ?_
 rintro _ _ ⟨va, vc, VB, N, rfl, hVB, hN, rfl⟩
 by_cases hlen : ((Vd.votesB a.l).length : Int) < a.want
 · rw [if_pos hlen]
   repeat (first | refine goA ?_ | refine jB (jl rfl (Qu )) rfl ?_)
   refine jH (L' := (b6, Obj.cells #[.int .u8 0, .slice none 0 0, .slice none 0 0, .int .u32 0, .slice none 0 0, .slice none 0 0] 167 (0, 0)) :: L) ?_ jn
   refine goA ?_
   refine kB 6 167 7 rfl rfl rfl stO (by repeat (exact List.mem_cons_self)) rfl (L' := L) (fun w h => h.cnt jn) ?_
   exact DecOut.no
 · rw [if_neg hlen]
   have hne : Vd.votesB a.l ≠ [] := fun e => by rw [e] at hlen; simp at hlen; omega
   have hus : J8 a.q (Vd.votesB a.l) = Vd.union a.q (Vd.votesB a.l) := Zd a.q _ (fun x hx => (he x hx).some)
   have hui := act hq.may hne
   have huc := Zi (q := a.q) (fun x hx => (hcd x hx).1)
   generalize hvs : Vd.votesB a.l = vs at hVB hus hui huc hl9 hvl he hsm hlen ⊢
   have hun := acg (G := G) (L := VB ++ (N ++ ((b6, Obj.cells #[.int .u8 0, .slice none 0 0, .slice none 0 0, .int .u32 0, .slice none 0 0, .slice none 0 0] 167 (0, 0)) :: (bBox, Obj.cells #[.string (bs a.q.name), .int .u16 a.q.kind, .int .u16 a.q.cls] 24 (0, 0)) :: (bx1, Obj.cells #[.int .i64 a.want] 154 (0, 0)) :: L))) (K := N) _ a.q vs jf hq.name hq.kind hq.cls ((hVB.imp (r' := fun _ => voteR N) (L' := []) (fun cs x _ h => h)).sliceR j3 (by simp) jf) jd (fun x hx => (he x hx).few) hsm
   rw [hus] at hun
   generalize hr : Vd.union a.q vs = r at hun hui huc ⊢
   refine goA ?_
   refine jw (jc je rfl hun) rfl ?_
   rintro _ _ ⟨ra, rc, RB, ra2, rc2, RB2, RN, rfl, hR1, hR2, hRN, rfl⟩
   repeat (first | refine goA ?_ | (refine jO ?_; intro bNew) | refine jB (jl rfl (zQ _ _ _ _)) rfl ?_)
   rw [hui]
   skip
   refine jH (L' := (b6, Obj.cells #[.int .u8 0, .slice none 0 0, .slice none 0 0, .int .u32 0, .slice none 0 0, .slice none 0 0] 167 (0, 0)) :: ((RB2 ++ (RB ++ RN)) ++ L)) ?_ jn
   refine goA ?_
   refine kB 6 167 7 rfl rfl rfl stO (by repeat (exact List.mem_cons_self)) rfl (L' := (RB2 ++ (RB ++ RN)) ++ L) (fun w h => h.cnt jn) ?_
   exact afg (N := RB2 ++ (RB ++ RN)) (ag := []) (di := []) ⟨_, _, rfl, hR1.sliceR jC jf jf, hR2.sliceR jC jf jf, huc⟩ jI jI
theorem Zj {a : As} (h : a.pol = 3) (hw : a.want = 1) : Aq.decided a = match (Aq.votes a)[0]? with | some x => some (x.vd, x.time, [], []) | none => none := by
 unfold Aq.decided
 rw [if_neg jd, hw]
 cases hv : (Aq.votes a)[0]? with
 | none =>
   have : (Aq.votes a).length = 0 := by have := List.getElem?_eq_none_iff.1 hv; omega
   rw [this, if_pos (by decide)]
 | some x =>
   have := (List.getElem?_eq_some_iff.1 hv).1
   rw [if_neg jd, if_neg jd]
theorem Zk {bb : Nat} {X : ja} (a : As) (c1 c2 c3 : Value) (hb : PBox bb a.want a.l X) (hX : ∀ p ∈ X, p ∈ L) (hw : a.want = 1) (hp : a.pol = 3) :
 Spec Tryz.prog G 211 #[.agg #[], .agg #[c1, c2, c3], .pointer (some ⟨bb, 0, none⟩)] L (DecOut L (Aq.decided a)) := by
 rw [Zj hp hw]
 have hcd := hb.codes
 have hl9 := hb.1.ok.len
 have hvl := j7 a.l
 have hv : Aq.votes a = Vd.votesB a.l := rfl
 rw [hv]
 refine jm (n := 24) Tryz.func211 rfl rfl rfl ?_
 repeat (first | refine goA ?_ | (refine jO ?_; intro bNew) | (refine kl ?_; intro bBox))
 obtain ⟨b6, hb6⟩ : ∃ b, bNew = b := ⟨_, rfl⟩
 rw [hb6]
 clear hb6
 rename_i bx1
 refine jw (jc je rfl (JE hb (fun p hp => List.mem_cons_of_mem _ (List.mem_cons_of_mem _ (List.mem_cons_of_mem _ (hX p hp)))))) rfl ?_
 obtain ⟨vs, hvs⟩ : ∃ vs, vs = Vd.votesB a.l := ⟨_, rfl⟩
 rw [← hvs] at hvl hcd ⊢
 rintro _ _ ⟨va, vc, VB, N, rfl, hVB, hN, rfl⟩
 cases hx : vs[0]? with
 | none =>
   have h0 : vs.length = 0 := by have := List.getElem?_eq_none_iff.1 hx; omega
   rw [h0]
   repeat (first | refine goA ?_ | refine jB (jl rfl (Qu )) rfl ?_)
   refine jH (L' := (b6, Obj.cells #[.int .u8 0, .slice none 0 0, .slice none 0 0, .int .u32 0, .slice none 0 0, .slice none 0 0] 167 (0, 0)) :: L) ?_ jn
   refine goA ?_
   refine kB 6 167 7 rfl rfl rfl stO (by repeat (exact List.mem_cons_self)) rfl (L' := L) (fun w h => h.cnt jn) ?_
   exact DecOut.no
 | some x =>
   have hlt := (List.getElem?_eq_some_iff.1 hx).1
   have hxc := (hcd x (List.mem_of_getElem? hx)).1
   have hR := (hVB.imp (r' := fun _ => voteR N) (L' := []) (fun cs x _ h => h)).sliceR j3 (L' := VB) (by simp) (fun p hp => hp)
   obtain ⟨b1, o1, C1, t1, f1, rfl, m1, cs, _, ⟨y1, y2, rfl, hs1, hs2, _⟩, hcs⟩ := sliceR.at hR hx
   obtain ⟨z1, w1, e1, hs1⟩ := hs1.val
   obtain ⟨z2, w2, e2, hs2⟩ := hs2.val
   simp only [List.cons.injEq, and_true] at e1 e2
   subst e1 e2
   have g1 : C1[o1 + 0 * 5 + 1 + 0]? = some (.int .u8 x.vd.code) := hcs 1 _ rfl
   have g4 : C1[o1 + 0 * 5 + 4]? = some (.int .u32 x.time) := hcs 4 _ rfl
   have hver : ∀ j v, ([.int .u8 x.vd.code, .slice z1 x.vd.sets.length w1, .slice z2 x.vd.soa.length w2] : List Value)[j]? = some v → C1[o1 + 0 * 5 + 1 + j]? = some v := fun j v hj => by
    match j, hj with
    | 0, hj => exact hcs 1 _ hj
    | 1, hj => exact hcs 2 _ hj
    | 2, hj => exact hcs 3 _ hj
   have hK : ∀ z ∈ [(b1, Obj.cells C1 t1 f1)], z ∈ VB ++ (N ++ ((b6, Obj.cells #[.int .u8 0, .slice none 0 0, .slice none 0 0, .int .u32 0, .slice none 0 0, .slice none 0 0] 167 (0, 0)) :: (bBox, Obj.cells #[c1, c2, c3] 24 (0, 0)) :: (bx1, Obj.cells #[] 155 (0, 0)) :: L)) := fun z hz => by rw [List.mem_singleton.1 hz]; exact List.mem_append_left _ m1
   refine goA ?_
   refine jq jb ([(b1, Obj.cells C1 t1 f1)]) [] ?_
   refine tkQ 0 ?_
   refine tkQ 1 ?_
   refine tkQ 2 ?_
   (refine' jp 3 rfl rfl je (jL (jA [.int .u8 x.vd.code, .slice z1 x.vd.sets.length w1, .slice z2 x.vd.soa.length w2] rfl stL (List.mem_singleton.2 rfl) hver)) ?_ ?_; (· assumption))
   refine tkQ 4 ?_
   refine tkQ 5 ?_
   refine tkQ 6 ?_
   refine tkQ 7 ?_
   (refine' jp 8 rfl rfl je (jL (jl rfl (zQ _ _ _ _))) ?_ ?_; (· assumption))
   refine j6 (L' := (b6, Obj.cells #[.int .u8 0, .slice none 0 0, .slice none 0 0, .int .u32 0, .slice none 0 0, .slice none 0 0] 167 (0, 0)) :: (VB ++ (N ++ ((bBox, Obj.cells #[c1, c2, c3] 24 (0, 0)) :: (bx1, Obj.cells #[] 155 (0, 0)) :: L)))) ?_ jn; refine jZ 9 je rfl rfl rfl (yj rfl rfl stO rfl rfl rfl) ?_; rintro _ _ ⟨_, rfl⟩; refine ⟨Or.inr (fun z hz => by rw [List.mem_singleton.1 hz]; exact List.mem_cons_of_mem _ (List.mem_append_left _ m1)), ?_⟩
   refine tkQ 10 ?_
   refine tdQ ?_
   refine goA ?_
   refine kB 6 167 7 rfl rfl rfl stO (by repeat (exact List.mem_cons_self)) rfl (L' := N ++ L) (fun w h => h.cnt jn) ?_
   exact afg (N := N) (ag := []) (di := []) ⟨_, _, rfl, hs1, hs2, hxc⟩ jI jI
end Go.Proofs.YtbjkkoacclfejaaGreat
namespace Go.Proofs.YtbjkkoacclfejaaGreat
open Go.RowKit
open Hg (En Pl)
open Vd (RSet Vdt Vote Rec Quest Piece Ballot)
theorem aeC : Jh Tryz.prog 92 = true := by kernel_rfl
def Zl (pol : Int) : TypeId := if pol = 1 then 152 else if pol = 2 then 154 else 155
def UH (pol want : Int) : Value := if pol = 2 then .agg #[.int .i64 want] else .agg #[]
def kq (q : Quest) : Array Value := #[.string (bs q.name), .int .u16 q.kind, .int .u16 q.cls]
def jt (a : As) (bp bb : Nat) : Array Value := #[.string (bs a.q.name), .int .u16 a.q.kind, .int .u16 a.q.cls, .iface (Zl a.pol) (UH a.pol a.want), .int .i64 a.want, .pointer (some ⟨bp, 0, none⟩), .pointer (some ⟨bb, 0, none⟩), .int .i64 a.ded, .int .i64 a.now, .bool a.over]
def Ja : Rp Dd := fun K cs d => ∃ y1 k1 y2 k2 y3 k3 y4 k4 y5 k5 y6 k6, cs = [.slice y1 d.sends.length k1, .slice y2 d.gone.length k2, .bool d.over, .bool d.done, .int .u8 d.vd.code, .slice y3 d.vd.sets.length k3, .slice y4 d.vd.soa.length k4, .int .u32 d.time, .slice y5 d.agree.length k5, .slice y6 d.dissent.length k6] ∧
 IRow K (.slice y1 d.sends.length k1) d.sends ∧ IRow K (.slice y2 d.gone.length k2) d.gone ∧ vdR K [.int .u8 d.vd.code, .slice y3 d.vd.sets.length k3, .slice y4 d.vd.soa.length k4] d.vd ∧ IRow K (.slice y5 d.agree.length k5) d.agree ∧ IRow K (.slice y6 d.dissent.length k6) d.dissent
theorem kH : uZ Ja := by
 rintro L L' cs d hL ⟨y1, k1, y2, k2, y3, k3, y4, k4, y5, k5, y6, k6, h, h1, h2, h3, h4, h5⟩
 exact ⟨y1, k1, y2, k2, y3, k3, y4, k4, y5, k5, y6, k6, h, h1.mono hL, h2.mono hL, jQ _ _ _ _ hL h3, h4.mono hL, h5.mono hL⟩
structure AWell (a : As) : Prop where
 ok : AOk a
 q : QOk a.q
 ends : ∀ x ∈ Aq.votes a, EndOk a.q x.vd
section
variable {G : World} {L : ja} {ρ : jG} {ty : TypeId}
theorem JI {P : Program} {x : Operand} {t : TypeId} {v : Value} (hx : ev ρ x = some (.iface t v)) : OpQ P ρ L (.nilCheck x) ty (.iface t v) :=
 ⟨fun r hr w hw o ho _ => by simp [execOp, ho, hr _ _ hx]⟩
theorem ad4 (w : World) : (method (Tryz.prog.types.size + Made.depth) 152 (.agg #[]) "hustings/ask.decided").run Tryz.prog w = .ok (187, .agg #[]) w := by kernel_rfl
theorem ad5 (n : Int) (w : World) : (method (Tryz.prog.types.size + Made.depth) 154 (.agg #[.int .i64 n]) "hustings/ask.decided").run Tryz.prog w = .ok (208, .agg #[.int .i64 n]) w := by kernel_rfl
theorem ad6 (w : World) : (method (Tryz.prog.types.size + Made.depth) 155 (.agg #[]) "hustings/ask.decided").run Tryz.prog w = .ok (211, .agg #[]) w := by kernel_rfl
theorem ad7 (w : World) : (method (Tryz.prog.types.size + Made.depth) 152 (.agg #[]) "hustings/ask.hope").run Tryz.prog w = .ok (188, .agg #[]) w := by kernel_rfl
theorem ad8 (n : Int) (w : World) : (method (Tryz.prog.types.size + Made.depth) 154 (.agg #[.int .i64 n]) "hustings/ask.hope").run Tryz.prog w = .ok (209, .agg #[.int .i64 n]) w := by kernel_rfl
theorem ad9 (w : World) : (method (Tryz.prog.types.size + Made.depth) 155 (.agg #[]) "hustings/ask.hope").run Tryz.prog w = .ok (212, .agg #[]) w := by kernel_rfl
theorem Ul {a : As} {bb : Nat} {X : ja} {recv x y : Operand} {ats : Array TypeId} (hx : ev ρ recv = some (.iface (Zl a.pol) (UH a.pol a.want))) (hq : ev ρ x = some (.agg (kq a.q))) (hy : ev ρ y = some (.pointer (some ⟨bb, 0, none⟩)))
 (hA : AWell a) (hb : PBox bb a.want a.l X) (hX : ∀ p ∈ X, p ∈ L) : OpT Tryz.prog G ρ L (.call ⟨.invoke recv "hustings/ask.decided", #[x, y], ats⟩) ty (DecOut L (Aq.decided a)) := by
 have ha : kY ρ [x, y] = some [.agg (kq a.q), .pointer (some ⟨bb, 0, none⟩)] := by simp [kY, hq, hy]
 rcases hA.ok.pol with h | h | ⟨h, hw⟩
 · rw [h] at hx
   exact uC (xs := [x, y]) je hx ha ad4 (aaR a _ _ _ rfl hb hX hA.ok.want.1 h)
 · rw [h] at hx
   exact uC (xs := [x, y]) je hx ha (ad5 a.want) (acu a hb hX hA.ok.want.1 h hA.q hA.ends)
 · rw [h] at hx
   exact uC (xs := [x, y]) je hx ha ad6 (Zk a _ _ _ hb hX hw h)
def zI (pol : Int) (vs : List Vote) : Int := if pol = 1 then qO vs else (vs.length : Int)
theorem aea {pol want : Int} {l : List Ballot} {bb : Nat} {X : ja} {recv x y : Operand} {ats : Array TypeId} {n : Int} (hn : 0 ≤ n ∧ n ≤ 1000) (hx : ev ρ recv = some (.iface (Zl pol) (UH pol want))) (hq : ev ρ x = some (.int .i64 n)) (hy : ev ρ y = some (.pointer (some ⟨bb, 0, none⟩)))
 (hA : pol = 1 ∨ pol = 2 ∨ pol = 3) (hb : PBox bb want l X) (hX : ∀ p ∈ X, p ∈ L) : OpT Tryz.prog G ρ L (.call ⟨.invoke recv "hustings/ask.hope", #[x, y], ats⟩) ty fun u M => u = .int .i64 (n + zI pol (Vd.votesB l)) ∧ M = L := by
 have ha : kY ρ [x, y] = some [.int .i64 n, .pointer (some ⟨bb, 0, none⟩)] := by simp [kY, hq, hy]
 rcases hA with rfl | rfl | rfl
 · exact uC (xs := [x, y]) je hx ha ad7 (aaS n hn hb hX)
 · exact uC (xs := [x, y]) je hx ha (ad8 want) (acs n hn _ hb hX)
 · exact uC (xs := [x, y]) je hx ha ad9 (Zh n hn hb hX)
end
theorem AOk.more {a : As} (h : AOk a) : AOk { a with p := (Hg.more a.p a.now).1 } :=
 ⟨h.good.more _, h.fr.more _, by rw [Yn]; exact h.begins, by
   show (Hg.more a.p a.now).1.made = true
   unfold Hg.more
   split
   · exact h.made
   · dsimp only
     split <;> exact h.made, h.want, h.pol, h.now, h.ded, h.name, h.box⟩
theorem AWell.more {a : As} (h : AWell a) : AWell { a with p := (Hg.more a.p a.now).1 } := ⟨h.ok.more, h.q, h.ends⟩
def qK (p : Pl) : Nat := p.list.length - p.asked
theorem Yp {p : Pl} {t : Int} (h : (Hg.more p t).2.2 = true) : qK (Hg.more p t).1 < qK p := by
 unfold Hg.more at h ⊢
 split at h
 · cases h
 · rename_i hb
   rw [if_neg hb]
   dsimp only at h ⊢
   split at h
   · cases h
   · rename_i hl
     rw [if_neg hl]
     simp only [Hg.advance] at hl
     simp only [qK, Hg.next, Hg.advance, List.length_modify]
     omega
theorem Um {p : Pl} (h : Good p) : 0 ≤ Hg.opens p ∧ Hg.opens p ≤ 9 := by
 have h1 := h.len
 have h2 := List.length_filter_le (fun x : En => x.op) p.list
 unfold Hg.opens
 omega
end Go.Proofs.YtbjkkoacclfejaaGreat
namespace Go.Proofs.YtbjkkoacclfejaaGreat
open Go.RowKit
open Hg (En Pl)
open Vd (RSet Vdt Vote Rec Quest Piece Ballot)
variable {G : World} {L : ja}
def dd (s g : List Int) : Dd := ⟨s, g, false, false, Vdt.none, 0, [], []⟩
def ke (vs vg : Value) : Array Value := #[vs, vg, .bool false, .bool false, .int .u8 0, .slice none 0 0, .slice none 0 0, .int .u32 0, .slice none 0 0, .slice none 0 0]
def aiT (vs vg : Value) (o : Bool) : Array Value := #[vs, vg, .bool o, .bool false, .int .u8 0, .slice none 0 0, .slice none 0 0, .int .u32 0, .slice none 0 0, .slice none 0 0]
theorem yM {ap bp bb bd : Nat} {a : As} {s g : List Int} {Mp X Bs Ng : ja} {ys yg : Option Addr} {ks kg : Nat} (hp : IsPlan bp a.p Mp) (hb : PBox bb a.want a.l X) (hA : AWell a) (ho : a.over = false) (hs9 : s.length ≤ 100)
 (hR : Row 3 1 (.slice ys s.length ks) s.length (kC s) Bs) (hg : IRow Ng (.slice yg g.length kg) g) (hN : ∀ p ∈ Ng, p ∈ L) :
 Spec Tryz.prog G 43 #[.pointer (some ⟨ap, 0, none⟩), .pointer (some ⟨bd, 0, none⟩)] ((ap, .cells (jt a bp bb) 102 (0, 0)) :: (bd, .cells (ke (.slice ys s.length ks) (.slice yg g.length kg)) 43 (0, 0)) :: (Mp ++ (X ++ (Bs ++ L)))) fun u M =>
  ∃ cs Mp' N, IsPlan bp (Aq.look a (dd s g)).1.p Mp' ∧ Ja (N ++ Ng) cs (Aq.look a (dd s g)).2 ∧ M = (ap, .cells (jt (Aq.look a (dd s g)).1 bp bb) 102 (0, 0)) :: (bd, .cells cs.toArray 43 (0, 0)) :: (Mp' ++ (X ++ (N ++ L))) := by
 have hAw := hA.ok.want
 have hAn := hA.ok.now
 have hKm : ∀ z ∈ [(ap, Obj.cells (jt a bp bb) 102 (0, 0))], z ∈ ((ap, Obj.cells (jt a bp bb) 102 (0, 0)) :: (bd, Obj.cells (ke (.slice ys s.length ks) (.slice yg g.length kg)) 43 (0, 0)) :: (Mp ++ (X ++ (Bs ++ L)))) := fun z hz => by rw [List.mem_singleton.1 hz]; exact List.mem_cons_self ..
 have hK : ∀ z ∈ [(ap, Obj.cells (jt a bp bb) 102 (0, 0))], z ∈ ((ap, Obj.cells (jt a bp bb) 102 (0, 0)) :: (bd, Obj.cells (ke (.slice ys s.length ks) (.slice yg g.length kg)) 43 (0, 0)) :: (Mp ++ (X ++ (Bs ++ L)))) := hKm
 have q3 : ∀ j v, ([.string (bs a.q.name), .int .u16 a.q.kind, .int .u16 a.q.cls] : List Value)[j]? = some v → (jt a bp bb)[0 + 0 + j]? = some v := fun j v hj => by
  match j, hj with
  | 0, hj => exact hj
  | 1, hj => exact hj
  | 2, hj => exact hj
 have e0 : (jt a bp bb)[0 + 0]? = some (.string (bs a.q.name)) := rfl
 have e1 : (jt a bp bb)[0 + 1]? = some (.int .u16 a.q.kind) := rfl
 have e2 : (jt a bp bb)[0 + 2]? = some (.int .u16 a.q.cls) := rfl
 have e3 : (jt a bp bb)[0 + 3]? = some (.iface (Zl a.pol) (UH a.pol a.want)) := rfl
 have e4 : (jt a bp bb)[0 + 4]? = some (.int .i64 a.want) := rfl
 have e5 : (jt a bp bb)[0 + 5]? = some (.pointer (some ⟨bp, 0, none⟩)) := rfl
 have e6 : (jt a bp bb)[0 + 6]? = some (.pointer (some ⟨bb, 0, none⟩)) := rfl
 have e7 : (jt a bp bb)[0 + 7]? = some (.int .i64 a.ded) := rfl
 have e8 : (jt a bp bb)[0 + 8]? = some (.int .i64 a.now) := rfl
 have e9 : (jt a bp bb)[0 + 9]? = some (.bool a.over) := rfl
 refine jm (n := 107) Tryz.func43 rfl rfl rfl ?_
 refine kh ?_
 skip
 refine kh ?_
 skip
 refine uK (σ := Nat × Vdt × Int × List Int × List Int × List Value × ja) (fun y => ah8 y.2.2.2.2.2.2 y.2.2.2.2.2.1 y.2.1 y.2.2.1 y.2.2.2.1 y.2.2.2.2.1 ∧ ∀ x, Aq.decided a = some x → x = (y.2.1, y.2.2.1, y.2.2.2.1, y.2.2.2.2.1)) (fun y => [(0, .pointer (some ⟨ap, 0, none⟩)), (1, .pointer (some ⟨bd, 0, none⟩)), (4, .pointer (some ⟨y.1, 0, none⟩)), (5, .bool (Aq.decided a).isSome)])
  (fun y => (y.1, Obj.cells y.2.2.2.2.2.1.toArray 167 (0, 0)) :: (y.2.2.2.2.2.2 ++ ((ap, Obj.cells (jt a bp bb) 102 (0, 0)) :: (bd, Obj.cells (ke (.slice ys s.length ks) (.slice yg g.length kg)) 43 (0, 0)) :: (Mp ++ (X ++ (Bs ++ L)))))) ?_ ?_
 · skip
   refine jq jb ([(ap, Obj.cells (jt a bp bb) 102 (0, 0))]) [] ?_
   refine tkQ 0 ?_
   refine tkQ 1 ?_
   refine tkQ 2 ?_
   (refine' jp 3 rfl rfl je (jL (Wq rfl aeC ?_ ?_)) ?_ ?_; rotate_left 4; (· repeat (exact List.mem_cons_self)); (· assumption); (· assumption))
   refine tkQ 4 ?_
   refine tkQ 5 ?_
   refine tkQ 6 ?_
   (refine' jp 7 rfl rfl je (jL (jA [.string (bs a.q.name), .int .u16 a.q.kind, .int .u16 a.q.cls] rfl stL (List.mem_singleton.2 rfl) q3)) ?_ ?_; (· assumption))
   refine tkQ 8 ?_
   refine tkQ 9 ?_
   refine tkQ 10 ?_
   refine tkQ 11 ?_
   (refine' jp 12 rfl rfl je (jL (JI rfl)) ?_ ?_; (· assumption))
   refine tkQ 13 ?_
   refine JU 14 18 je ?_ ?_
   · refine uk rfl rfl rfl rfl (Ul rfl rfl rfl hA hb jf) ?_
     rintro _ _ ⟨v, t, ag, di, _, N, rfl, ⟨y1, k1, y2, k2, y3, k3, y4, k4, rfl, hv1, hv2, hv3⟩, hdec, rfl⟩
     refine ⟨Or.inr (by exact (fun z hz => jW jn z (hKm z hz))), ?_⟩
     refine tkQ 15 ?_
     refine tkQ 16 ?_
     refine tkQ 17 ?_
     refine jF 18 je rfl rfl rfl rfl (kk (C := #[.int .u8 0, .slice none 0 0, .slice none 0 0, .int .u32 0, .slice none 0 0, .slice none 0 0]) zeO rfl) ?_
     rintro _ _ ⟨b4, rfl, rfl⟩
     refine ⟨Or.inr (by exact (fun z hz => jW jn z (hKm z hz))), ?_⟩
     refine j6 (L' := (b4, Obj.cells #[.int .u8 0, .slice none 0 0, .slice none 0 0, .int .u32 0, .slice none 0 0, .slice none 0 0] 167 (0, 0)) :: (N ++ ((ap, Obj.cells (jt a bp bb) 102 (0, 0)) :: (bd, Obj.cells (ke (.slice ys s.length ks) (.slice yg g.length kg)) 43 (0, 0)) :: (Mp ++ (X ++ (Bs ++ L)))))) ?_ jn
     refine jZ 19 je rfl rfl rfl (yj rfl rfl stO rfl rfl rfl) ?_
     rintro _ _ ⟨_, rfl⟩
     refine ⟨Or.inr (by exact (fun z hz => jW jn z (hKm z hz))), ?_⟩
     refine tkQ 20 ?_
     refine tdQ ?_
     refine j9 (b4, v, t, ag, di, [_, _, _, _, _, _], N) ⟨⟨y1, k1, y2, k2, y3, k3, y4, k4, rfl, hv1, hv2, hv3⟩, hdec⟩ ?_ (fun w h => h)
     exact jr
   · refine uk rfl rfl rfl rfl (kk (C := #[.int .u8 0, .slice none 0 0, .slice none 0 0, .int .u32 0, .slice none 0 0, .slice none 0 0]) zeO rfl) ?_
     rintro _ _ ⟨b4, rfl, rfl⟩
     refine ⟨Or.inr (by exact (fun z hz => jW jn z (hKm z hz))), ?_⟩
     refine jF 14 je rfl rfl rfl rfl (Ul rfl rfl rfl hA hb jf) ?_
     rintro _ _ ⟨v, t, ag, di, _, N, rfl, ⟨y1, k1, y2, k2, y3, k3, y4, k4, rfl, hv1, hv2, hv3⟩, hdec, rfl⟩
     refine ⟨Or.inr (by exact (fun z hz => jW jn z (hKm z hz))), ?_⟩
     refine tkQ 15 ?_
     refine tkQ 16 ?_
     refine tkQ 17 ?_
     refine j6 (L' := (b4, Obj.cells #[.int .u8 0, .slice none 0 0, .slice none 0 0, .int .u32 0, .slice none 0 0, .slice none 0 0] 167 (0, 0)) :: (N ++ ((ap, Obj.cells (jt a bp bb) 102 (0, 0)) :: (bd, Obj.cells (ke (.slice ys s.length ks) (.slice yg g.length kg)) 43 (0, 0)) :: (Mp ++ (X ++ (Bs ++ L)))))) ?_ jn
     refine jZ 19 je rfl rfl rfl (yj rfl rfl stO rfl rfl rfl) ?_
     rintro _ _ ⟨_, rfl⟩
     refine ⟨Or.inr (by exact (fun z hz => jW jn z (hKm z hz))), ?_⟩
     refine tkQ 20 ?_
     refine tdQ ?_
     refine j9 (b4, v, t, ag, di, [_, _, _, _, _, _], N) ⟨⟨y1, k1, y2, k2, y3, k3, y4, k4, rfl, hv1, hv2, hv3⟩, hdec⟩ ?_ (fun w h => h)
     exact jr
 rintro ⟨b4, v, t, ag, di, cs, N⟩ ⟨⟨y1, k1, y2, k2, y3, k3, y4, k4, h1, hv1, hv2, hv3⟩, hdec⟩
 dsimp only at h1 hv1 hv2 hv3 hdec ⊢
 subst h1
 obtain ⟨C4, hC4⟩ : ∃ C : Array Value, C = ([.int .u8 v.code, .slice y1 v.sets.length k1, .slice y2 v.soa.length k2, .int .u32 t, .slice y3 ag.length k3, .slice y4 di.length k4] : List Value).toArray := ⟨_, rfl⟩
 rw [← hC4]
 cases hdc : Aq.decided a with
 | some x =>
   obtain rfl := hdec x hdc
   have hl : Aq.look a (dd s g) = ({ a with over := true }, { dd s g with over := true, done := true, vd := v, time := t, agree := ag, dissent := di }) := by unfold Aq.look; rw [hdc]
   rw [hl]
   have z0 : C4[0 + 0 + 0]? = some (.int .u8 v.code) := by rw [hC4]; rfl
   have z3 : C4[0 + 3]? = some (.int .u32 t) := by rw [hC4]; rfl
   have z4 : C4[0 + 4]? = some (.slice y3 ag.length k3) := by rw [hC4]; rfl
   have z5 : C4[0 + 5]? = some (.slice y4 di.length k4) := by rw [hC4]; rfl
   have hver : ∀ j w, ([.int .u8 v.code, .slice y1 v.sets.length k1, .slice y2 v.soa.length k2] : List Value)[j]? = some w → C4[0 + 0 + j]? = some w := fun j w hj => by
    rw [hC4]
    match j, hj with
    | 0, hj => exact hj
    | 1, hj => exact hj
    | 2, hj => exact hj
   refine UP (L' := (ap, Obj.cells (jt a bp bb) 102 (0, 0)) :: (bd, Obj.cells (ke (.slice ys s.length ks) (.slice yg g.length kg)) 43 (0, 0)) :: (b4, Obj.cells C4 167 (0, 0)) :: (N ++ (Mp ++ (X ++ (Bs ++ L))))) ?_ jn
   refine goB ?_
   obtain ⟨A1, hA1⟩ : ∃ A : Array Value, A = (jt a bp bb).setIfInBounds (0 + 9) (.bool true) := ⟨_, rfl⟩
   obtain ⟨D1, hD1⟩ : ∃ D : Array Value, D = ((ke (.slice ys s.length ks) (.slice yg g.length kg)).setIfInBounds (0 + 2) (.bool true)).setIfInBounds (0 + 3) (.bool true) := ⟨_, rfl⟩
   rw [← hA1, ← hD1]
   obtain ⟨D2, hD2⟩ : ∃ D : Array Value, D = qM D1 (0 + 4) [.int .u8 v.code, .slice y1 v.sets.length k1, .slice y2 v.soa.length k2] := ⟨_, rfl⟩
   have w7 : D2[0 + 7]? = some (.int .u32 0) := by rw [hD2, hD1]; rfl
   obtain ⟨D3, hD3⟩ : ∃ D : Array Value, D = D2.setIfInBounds (0 + 7) (.int .u32 t) := ⟨_, rfl⟩
   have w8 : D3[0 + 8]? = some (.slice none 0 0) := by rw [hD3, hD2, hD1]; rfl
   obtain ⟨D4, hD4⟩ : ∃ D : Array Value, D = D3.setIfInBounds (0 + 8) (.slice y3 ag.length k3) := ⟨_, rfl⟩
   have w9 : D4[0 + 9]? = some (.slice none 0 0) := by rw [hD4, hD3, hD2, hD1]; rfl
   obtain ⟨D5, hD5⟩ : ∃ D : Array Value, D = D4.setIfInBounds (0 + 9) (.slice y4 di.length k4) := ⟨_, rfl⟩
   have hK4 : ∀ z ∈ [(b4, Obj.cells C4 167 (0, 0))], z ∈ (ap, Obj.cells A1 102 (0, 0)) :: (bd, Obj.cells D1 43 (0, 0)) :: (b4, Obj.cells C4 167 (0, 0)) :: (N ++ (Mp ++ (X ++ (Bs ++ L)))) := fun z hz => by rw [List.mem_singleton.1 hz]; simp
   have hK5 : ∀ D, ∀ z ∈ [(b4, Obj.cells C4 167 (0, 0))], z ∈ (bd, Obj.cells D 43 (0, 0)) :: (ap, Obj.cells A1 102 (0, 0)) :: (b4, Obj.cells C4 167 (0, 0)) :: (N ++ (Mp ++ (X ++ (Bs ++ L)))) := fun D z hz => by rw [List.mem_singleton.1 hz]; simp
   have hK6 := hK5 D2
   have hK7 := hK5 D3
   have hK8 := hK5 D4
   refine jq jb ([(b4, Obj.cells C4 167 (0, 0))]) [] ?_
   refine tkQ 0 ?_
   refine tkQ 1 ?_
   refine tkQ 2 ?_
   (refine' jp 3 rfl rfl je (jL (jA [.int .u8 v.code, .slice y1 v.sets.length k1, .slice y2 v.soa.length k2] rfl stL (List.mem_singleton.2 rfl) hver)) ?_ ?_; (· assumption))
   refine tkQ 4 ?_
   refine tkQ 5 ?_
   refine tkQ 6 ?_
   refine tkQ 7 ?_
   refine j6 (L' := (bd, Obj.cells D1 43 (0, 0)) :: (ap, Obj.cells A1 102 (0, 0)) :: (b4, Obj.cells C4 167 (0, 0)) :: (N ++ (Mp ++ (X ++ (Bs ++ L))))) ?_ jn; refine jZ 8 je rfl rfl rfl (yx (cs := [.int .u8 v.code, .slice y1 v.sets.length k1, .slice y2 v.soa.length k2]) rfl rfl stL (by intro w hw; simp only [List.mem_cons, List.not_mem_nil, or_false] at hw; rcases hw with rfl | rfl | rfl <;> rfl) (by rw [hD1]; show 7 ≤ 10; decide)) ?_; rintro _ _ ⟨_, rfl⟩; rw [← hD2]; refine ⟨Or.inr (fun z hz => by rw [List.mem_singleton.1 hz]; simp), ?_⟩
   refine tkQ 9 ?_
   refine tkQ 10 ?_
   refine jZ 11 je rfl rfl rfl (ul rfl rfl onO rfl w7 rfl) ?_; rintro _ _ ⟨_, rfl⟩; rw [← hD3]; refine ⟨Or.inr (fun z hz => by rw [List.mem_singleton.1 hz]; simp), ?_⟩
   refine tdQ ?_
   refine goB ?_
   refine jq jb ([(b4, Obj.cells C4 167 (0, 0))]) [] ?_
   refine tkQ 0 ?_
   refine tkQ 1 ?_
   refine tkQ 2 ?_
   refine tkQ 3 ?_
   refine tkQ 4 ?_
   refine tkQ 5 ?_
   refine tkQ 6 ?_
   refine tkQ 7 ?_
   refine jZ 8 je rfl rfl rfl (ul rfl rfl onO rfl w8 rfl) ?_; rintro _ _ ⟨_, rfl⟩; rw [← hD4]; refine ⟨Or.inr (fun z hz => by rw [List.mem_singleton.1 hz]; simp), ?_⟩
   refine tkQ 9 ?_
   refine tkQ 10 ?_
   refine jZ 11 je rfl rfl rfl (ul rfl rfl onO rfl w9 rfl) ?_; rintro _ _ ⟨_, rfl⟩; rw [← hD5]; refine ⟨Or.inr (fun z hz => by rw [List.mem_singleton.1 hz]; simp), ?_⟩
   refine tdQ ?_
   refine goB ?_
   refine jJ (L' := (ap, Obj.cells A1 102 (0, 0)) :: (bd, Obj.cells D5 43 (0, 0)) :: (Mp ++ (X ++ ((N ++ Bs) ++ L)))) ?_ jn
   refine uR rfl ?_
   refine ⟨[.slice ys s.length ks, .slice yg g.length kg, .bool true, .bool true, .int .u8 v.code, .slice y1 v.sets.length k1, .slice y2 v.soa.length k2, .int .u32 t, .slice y3 ag.length k3, .slice y4 di.length k4], Mp, N ++ Bs, hp, ⟨ys, ks, yg, kg, y1, k1, y2, k2, y3, k3, y4, k4, rfl, hR.irow (by simp +contextual), hg.mono (by simp +contextual), jQ _ _ _ _ (by simp +contextual) hv1, hv2.mono (by simp +contextual), hv3.mono (by simp +contextual)⟩, ?_⟩
   have f1 : A1 = jt { a with over := true } bp bb := by rw [hA1]; rfl
   have f2 : D5 = ([.slice ys s.length ks, .slice yg g.length kg, .bool true, .bool true, .int .u8 v.code, .slice y1 v.sets.length k1, .slice y2 v.soa.length k2, .int .u32 t, .slice y3 ag.length k3, .slice y4 di.length k4] : List Value).toArray := by rw [hD5, hD4, hD3, hD2, hD1]; rfl
   rw [f1, f2]
 | none =>
   have hlk : Aq.look a (dd s g) = Aq.lookL (a.p.list.length + 1) a (dd s g) := by unfold Aq.look; rw [hdc]
   refine goB ?_
   refine jy (σ := Pl × List Int × Option Addr × Nat × ja × ja) (fun x => IsPlan bp x.1 x.2.2.2.2.1 ∧ AWell { a with p := x.1 } ∧ x.2.1.length + qK x.1 ≤ 200 ∧ Row 3 1 (.slice x.2.2.1 x.2.1.length x.2.2.2.1) x.2.1.length (kC x.2.1) x.2.2.2.2.2 ∧ ∃ n, qK x.1 ≤ n ∧ Aq.lookL (n + 1) { a with p := x.1 } (dd x.2.1 g) = Aq.look a (dd s g))
    (fun x => [(0, .pointer (some ⟨ap, 0, none⟩)), (1, .pointer (some ⟨bd, 0, none⟩))]) (fun x => (ap, Obj.cells (jt a bp bb) 102 (0, 0)) :: (bd, Obj.cells (ke (.slice x.2.2.1 x.2.1.length x.2.2.2.1) (.slice yg g.length kg)) 43 (0, 0)) :: (x.2.2.2.2.1 ++ (X ++ (x.2.2.2.2.2 ++ L)))) (fun x => qK x.1) (a.p, s, ys, ks, Mp, Bs) ⟨hp, hA, ?_, hR, a.p.list.length, Nat.sub_le _ _, hlk.symm⟩ ?_ (fun w h => h.cnt jn) ?_
   · have := hA.ok.good.len
     have : qK a.p ≤ a.p.list.length := Nat.sub_le _ _
     dsimp only
     omega
   exact jr
   rintro ⟨p, s', y, k, Mq, Bq⟩ ⟨hp', hA', hsl, hR', n, hn, hlook⟩
   dsimp only at hp' hA' hsl hR' hn hlook ⊢
   rw [← hlook]
   have hop : 0 ≤ Hg.opens p ∧ Hg.opens p ≤ 9 := Um hA'.ok.good
   have hpl : a.pol = 1 ∨ a.pol = 2 ∨ a.pol = 3 := hA.ok.pol.imp id (Or.imp id And.left)
   have hh : Aq.hope { a with p := p } = Hg.opens p + zI a.pol (Vd.votesB a.l) := rfl
   have hK2 : ∀ z ∈ [(ap, Obj.cells (jt a bp bb) 102 (0, 0))], z ∈ (ap, Obj.cells (jt a bp bb) 102 (0, 0)) :: (bd, Obj.cells (ke (.slice y s'.length k) (.slice yg g.length kg)) 43 (0, 0)) :: (Mq ++ (X ++ (Bq ++ L))) := fun z hz => by rw [List.mem_singleton.1 hz]; exact List.mem_cons_self ..
   have hop9 : 0 ≤ Hg.opens p ∧ Hg.opens p ≤ 1000 := ⟨hop.1, by omega⟩
   have hvl := j7 a.l
   have hl9 := hb.1.ok.len
   have hbh : 0 ≤ zI a.pol (Vd.votesB a.l) ∧ zI a.pol (Vd.votesB a.l) ≤ 9 := by
    unfold zI
    split
    · exact ⟨zD _, mostR_le.2 ⟨by decide, fun x hx => by have := List.length_filter_le (fun y : Vote => decide (y.vd = x.vd)) (Vd.votesB a.l); unfold jR; omega⟩⟩
    · omega
   repeat (with_reducible refine kh ?_)
   refine jq jb ([(ap, Obj.cells (jt a bp bb) 102 (0, 0))]) [] ?_
   refine tkQ 0 ?_
   refine tkQ 1 ?_
   refine tkQ 2 ?_
   (refine' jp 3 rfl rfl je (jL (Wq rfl aeC ?_ ?_)) ?_ ?_; rotate_left 4; (· repeat (exact List.mem_cons_self)); (· assumption); (· assumption))
   refine tkQ 4 ?_
   refine tkQ 5 ?_
   refine tkQ 6 ?_
   refine tkQ 7 ?_
   refine tkQ 9 ?_
   refine tkQ 10 ?_
   refine tkQ 11 ?_
   refine tkQ 12 ?_
   (refine' jp 13 rfl rfl je (jL (JI rfl)) ?_ ?_; (· assumption))
   refine tkQ 14 ?_
   refine tkQ 16 ?_
   refine tkQ 17 ?_
   refine tkQ 18 ?_
   refine tkQ 19 ?_
   refine j6 (L' := Mq ++ ((ap, Obj.cells (jt a bp bb) 102 (0, 0)) :: (bd, Obj.cells (ke (.slice y s'.length k) (.slice yg g.length kg)) 43 (0, 0)) :: (X ++ (Bq ++ L)))) ?_ jn; refine jF 8 je rfl rfl rfl rfl (jc je rfl (acn hp')) ?_; rintro _ _ ⟨rfl, rfl⟩; refine ⟨Or.inr (fun z hz => by rw [List.mem_singleton.1 hz]; simp), ?_⟩
   refine jF 15 je rfl rfl rfl rfl (aea hop9 rfl rfl rfl hpl hb jf) ?_; rintro _ _ ⟨rfl, rfl⟩; refine ⟨Or.inr (fun z hz => by rw [List.mem_singleton.1 hz]; simp), ?_⟩
   refine tkQ 20 ?_
   refine tdQ ?_
   by_cases hw : a.want ≤ Aq.hope { a with p := p }
   · have e : Aq.lookL (n + 1) { a with p := p } (dd s' g) = ({ a with p := p }, dd s' g) := by unfold Aq.lookL; rw [if_pos hw]
     rw [e]
     rw [hh] at hw
     refine goB ?_
     refine jJ (L' := (ap, Obj.cells (jt a bp bb) 102 (0, 0)) :: (bd, Obj.cells (ke (.slice y s'.length k) (.slice yg g.length kg)) 43 (0, 0)) :: (Mq ++ (X ++ (Bq ++ L)))) ?_ jn
     refine uR rfl ?_
     exact ⟨[.slice y s'.length k, .slice yg g.length kg, .bool false, .bool false, .int .u8 0, .slice none 0 0, .slice none 0 0, .int .u32 0, .slice none 0 0, .slice none 0 0], Mq, Bq, hp', ⟨y, k, yg, kg, none, 0, none, 0, none, 0, none, 0, rfl, hR'.irow (by simp +contextual), hg.mono (by simp +contextual), ⟨_, _, rfl, sliceR.nil, sliceR.nil, Int.le_refl 0, show (0 : Int) ≤ 255 by decide⟩, jI, jI⟩, rfl⟩
   · have e : Aq.lookL (n + 1) { a with p := p } (dd s' g) = if (Hg.more p a.now).2.2 then Aq.lookL n { a with p := (Hg.more p a.now).1 } (dd (s' ++ [(Hg.more p a.now).2.1]) g) else ({ a with p := (Hg.more p a.now).1, over := true }, { dd s' g with over := true }) := by rw [Aq.lookL, if_neg hw]; rfl
     rw [hh] at hw
     rw [e]
     have hlt : ¬ a.want ≤ Hg.opens p + zI a.pol (Vd.votesB a.l) := hw
     have hK3 : ∀ z ∈ [(ap, Obj.cells (jt a bp bb) 102 (0, 0))], z ∈ Mq ++ ((ap, Obj.cells (jt a bp bb) 102 (0, 0)) :: (bd, Obj.cells (ke (.slice y s'.length k) (.slice yg g.length kg)) 43 (0, 0)) :: (X ++ (Bq ++ L))) := fun z hz => by rw [List.mem_singleton.1 hz]; simp
     refine goB ?_
     refine jq jb ([(ap, Obj.cells (jt a bp bb) 102 (0, 0))]) [] ?_
     refine tkQ 0 ?_
     refine tkQ 1 ?_
     refine tkQ 2 ?_
     refine tkQ 3 ?_
     refine tkQ 4 ?_
     refine tkQ 5 ?_
     refine tkQ 6 ?_
     refine tkQ 7 ?_
     refine jF 8 je rfl rfl rfl rfl (jc je rfl (afc hp' a.now)) ?_; rintro _ _ ⟨rfl, M3, hp3, rfl⟩; refine ⟨Or.inr (fun z hz => by rw [List.mem_singleton.1 hz]; simp), ?_⟩
     refine tkQ 9 ?_
     refine tkQ 10 ?_
     refine tkQ 11 ?_
     refine tkQ 12 ?_
     refine tkQ 13 ?_
     refine tdQ ?_
     obtain ⟨r, hr⟩ : ∃ r, r = Hg.more p a.now := ⟨_, rfl⟩
     have hA2 : AWell { a with p := r.1 } := by rw [hr]; exact hA'.more
     have hlf : r.2.2 = true → qK r.1 < qK p := by rw [hr]; exact Yp
     rw [← hr] at hp3 ⊢
     cases hm : r.2.2 with
     | false =>
       rw [if_neg (by simp)]
       refine jJ (L' := (ap, Obj.cells (jt a bp bb) 102 (0, 0)) :: (bd, Obj.cells (ke (.slice y s'.length k) (.slice yg g.length kg)) 43 (0, 0)) :: (M3 ++ (X ++ (Bq ++ L)))) ?_ jn
       refine goB ?_
       refine uR rfl ?_
       exact ⟨[.slice y s'.length k, .slice yg g.length kg, .bool true, .bool false, .int .u8 0, .slice none 0 0, .slice none 0 0, .int .u32 0, .slice none 0 0, .slice none 0 0], M3, Bq, hp3, ⟨y, k, yg, kg, none, 0, none, 0, none, 0, none, 0, rfl, hR'.irow (by simp +contextual), hg.mono (by simp +contextual), ⟨_, _, rfl, sliceR.nil, sliceR.nil, Int.le_refl 0, show (0 : Int) ≤ 255 by decide⟩, jI, jI⟩, rfl⟩
     | true =>
       rw [if_pos rfl]
       have hlf2 := hlf hm
       repeat (first | refine goB ?_ | (refine jS ?_; intro bLit))
       refine qI (L' := (bLit, Obj.cells #[.int .i64 r.2.1] 3 (0, 0)) :: (M3 ++ ((ap, Obj.cells (jt a bp bb) 102 (0, 0)) :: (bd, Obj.cells (ke (.slice y s'.length k) (.slice yg g.length kg)) 43 (0, 0)) :: (X ++ (Bq ++ L))))) (fun w h => h) ?_
       refine jH (L' := (bLit, Obj.cells #[.int .i64 r.2.1] 3 (0, 0)) :: (Bq ++ ((bd, Obj.cells (ke (.slice y s'.length k) (.slice yg g.length kg)) 43 (0, 0)) :: (ap, Obj.cells (jt a bp bb) 102 (0, 0)) :: (M3 ++ (X ++ L))))) ?_ jn
       refine qU etO rfl rfl hR' rfl (by unfold maxLen; omega) jd rfl ?_
       intro v4 B4 hR4
       obtain ⟨a4, c4, rfl⟩ := hR4.slice
       have k4 : s'.length + 1 = (s' ++ [r.2.1]).length := by simp
       have k5 : kC s' ++ [Value.int .i64 r.2.1] = kC (s' ++ [r.2.1]) := by simp [kC]
       rw [k4, k5] at hR4
       rw [k4]
       refine jH (L' := (bd, Obj.cells (ke (.slice y s'.length k) (.slice yg g.length kg)) 43 (0, 0)) :: (ap, Obj.cells (jt a bp bb) 102 (0, 0)) :: (M3 ++ (X ++ (B4 ++ L)))) ?_ jn
       refine goB ?_
       obtain ⟨n2, rfl⟩ : ∃ n2, n = n2 + 1 := ⟨n - 1, by omega⟩
       refine jh (r.1, s' ++ [r.2.1], a4, c4, M3, B4) ⟨hp3, hA2, ?_, hR4, n2, ?_, rfl⟩ ?_ (fun w h => Heap.cnt (show Heap G w ((bd, Obj.cells (ke (.slice a4 (s' ++ [r.2.1]).length c4) (.slice yg g.length kg)) 43 (0, 0)) :: (ap, Obj.cells (jt a bp bb) 102 (0, 0)) :: (M3 ++ (X ++ (B4 ++ L)))) from h) jn) hlf2
       · dsimp only
         rw [List.length_append, List.length_singleton]
         omega
       · dsimp only; omega
       exact jr
end Go.Proofs.YtbjkkoacclfejaaGreat
namespace Go.Proofs.YtbjkkoacclfejaaGreat
open Go.RowKit
open Hg (En Pl)
open Vd (RSet Vdt Vote Rec Quest Piece Ballot)
variable {G : World} {L : ja}
def uP (ap : Nat) (a : As) (X : ja) : Prop := ∃ bp bb Mp Mb, IsPlan bp a.p Mp ∧ PBox bb a.want a.l Mb ∧ X = (ap, .cells (jt a bp bb) 102 (0, 0)) :: (Mp ++ Mb)
theorem aeb {a : As} (h : 0 ≤ a.now ∧ a.now ≤ Hg.top) (t : Int) : 0 ≤ (Aq.upto a t).now ∧ (Aq.upto a t).now ≤ Hg.top := by
 unfold Aq.upto
 dsimp only
 omega
theorem aaT (p : Pl) (t : Int) : (Hg.tick p t).1.made = p.made := by
 unfold Hg.tick
 split
 · rfl
 · simp only [Hg.hedged]
   split
   · split <;> rfl
   · rfl
theorem AOk.close {a : As} (h : AOk a) (u : Int) : AOk { a with p := (Hg.close a.p u).1 } := ⟨h.good.close u, h.fr.close u, h.begins, h.made, h.want, h.pol, h.now, h.ded, h.name, h.box⟩
theorem AOk.upto {a : As} (h : AOk a) (t : Int) : AOk (Aq.upto a t) := ⟨h.good, h.fr, h.begins, h.made, h.want, h.pol, aeb h.now t, h.ded, h.name, h.box⟩
theorem AOk.tick {a : As} (h : AOk a) (t : Int) : AOk { a with p := (Hg.tick a.p t).1 } := ⟨h.good.tick t, h.fr.tick t, by rw [Ym]; exact h.begins, by rw [aaT]; exact h.made, h.want, h.pol, h.now, h.ded, h.name, h.box⟩
theorem AOk.put {a : As} (h : AOk a) (x : Ballot) : AOk { a with l := (Vd.putB a.l x).1 } := ⟨h.good, h.fr, h.begins, h.made, h.want, h.pol, h.now, h.ded, h.name, h.box.put x⟩
theorem AOk.over {a : As} (h : AOk a) (b : Bool) : AOk { a with over := b } := ⟨h.good, h.fr, h.begins, h.made, h.want, h.pol, h.now, h.ded, h.name, h.box⟩
theorem Zm {l : List Ballot} {x : Ballot} {y : Vote} (h : y ∈ Vd.votesB (Vd.putB l x).1) : y ∈ Vd.votesB l ∨ (x.pass = false ∧ y = x.v) := by
 unfold Vd.putB at h
 split at h
 · exact Or.inl h
 split at h
 · exact Or.inl h
 · rw [qz] at h
   split at h
   · exact Or.inl h
   · rename_i hp
     rcases List.mem_append.1 h with h | h
     · exact Or.inl h
     · exact Or.inr ⟨by simpa using hp, List.mem_singleton.1 h⟩
theorem AWell.put {a : As} (h : AWell a) (x : Ballot) (hx : x.pass = false → EndOk a.q x.v.vd) : AWell { a with l := (Vd.putB a.l x).1 } :=
 ⟨h.ok.put x, h.q, fun y hy => by
   rcases Zm (show y ∈ Vd.votesB (Vd.putB a.l x).1 from hy) with hy | ⟨hp, rfl⟩
   · exact h.ends y hy
   · exact hx hp⟩
theorem AWell.of {a b : As} (h : AWell a) (hk : AOk b) (hq : b.q = a.q) (hl : b.l = a.l) : AWell b := ⟨hk, by rw [hq]; exact h.q, fun x hx => by unfold Aq.votes at hx; rw [hl] at hx; rw [hq]; exact h.ends x hx⟩
theorem K7 : ∀ (n : Nat) (a : As) (d : Dd), AOk a → AOk (Aq.lookL n a d).1 ∧ (Aq.lookL n a d).1.q = a.q ∧ (Aq.lookL n a d).1.l = a.l ∧ (Aq.lookL n a d).1.pol = a.pol ∧ (Aq.lookL n a d).1.want = a.want ∧ (Aq.lookL n a d).1.ded = a.ded ∧ (Aq.lookL n a d).1.now = a.now
 | 0, a, d, h => ⟨h, rfl, rfl, rfl, rfl, rfl, rfl⟩
 | n + 1, a, d, h => by
   unfold Aq.lookL
   split
   · exact ⟨h, rfl, rfl, rfl, rfl, rfl, rfl⟩
   · split
     · exact K7 n _ _ h.more
     · exact ⟨(h.more).over true, rfl, rfl, rfl, rfl, rfl, rfl⟩
theorem ko {a : As} {d : Dd} (h : AOk a) : AOk (Aq.look a d).1 ∧ (Aq.look a d).1.q = a.q ∧ (Aq.look a d).1.l = a.l ∧ (Aq.look a d).1.pol = a.pol ∧ (Aq.look a d).1.want = a.want ∧ (Aq.look a d).1.ded = a.ded ∧ (Aq.look a d).1.now = a.now := by
 unfold Aq.look
 split
 · exact ⟨h.over true, rfl, rfl, rfl, rfl, rfl, rfl⟩
 · exact K7 _ _ _ h
theorem AWell.look {a : As} {d : Dd} (h : AWell a) : AWell (Aq.look a d).1 := h.of (ko h.ok).1 (ko h.ok).2.1 (ko h.ok).2.2.1
theorem AWell.vote {a : As} (h : AWell a) {u : Int} {v : Vdt} {t now : Int} (hv : a.over = false → (Hg.close a.p u).2 = true → EndOk a.q v) : AWell (Aq.vote a u v t now).1 := by
 unfold Aq.vote
 split
 · exact h
 · rename_i ho
   split
   · rename_i hc
     exact AWell.look (AWell.put (a := Aq.upto { a with p := (Hg.close a.p u).1 } now) (h.of ((h.ok.close u).upto now) rfl rfl) ⟨⟨u, v, t⟩, false⟩ (fun _ => hv (by simpa using ho) hc))
   · exact h.of (h.ok.close u) rfl rfl
theorem AWell.pass {a : As} (h : AWell a) {u now : Int} : AWell (Aq.pass a u now).1 := by
 unfold Aq.pass
 split
 · exact h
 · split
   · exact AWell.look (AWell.put (a := Aq.upto { a with p := (Hg.close a.p u).1 } now) (h.of ((h.ok.close u).upto now) rfl rfl) ⟨⟨u, Vdt.none, 0⟩, true⟩ (fun h => by cases h))
   · exact h.of (h.ok.close u) rfl rfl
theorem AWell.tick {a : As} (h : AWell a) {now : Int} : AWell (Aq.tick a now).1 := by
 unfold Aq.tick
 split
 · exact h
 · split
   · exact h.of ((h.ok.upto now).over true) rfl rfl
   · exact AWell.look (a := { (Aq.upto a now) with p := (Hg.tick a.p (Aq.upto a now).now).1 }) (h.of ((h.ok.upto now).tick _) rfl rfl)
theorem JJ (ap bp bb : Nat) (a : As) (hm : (ap, Obj.cells (jt a bp bb) 102 (0, 0)) ∈ L) : Spec Tryz.prog G 45 #[.pointer (some ⟨ap, 0, none⟩)] L fun u M => u = .bool a.over ∧ M = L := by
 have e3 : (jt a bp bb)[0 + 5]? = some (.pointer (some ⟨bp, 0, none⟩)) := rfl
 have e7 : (jt a bp bb)[0 + 9]? = some (.bool a.over) := rfl
 have g1 : Option.isNone (some (⟨ap, 0, none⟩ : Addr)) = false := rfl
 have g2 : Option.isNone (some (⟨bp, 0, none⟩ : Addr)) = false := rfl
 refine jm (n := 18) Tryz.func45 rfl rfl rfl ?_
 refine goB ?_
 refine ji 2 _ rfl rfl ?_
 exact ⟨rfl, rfl⟩
theorem Kw (ap bp bb : Nat) (a : As) (now : Int) (hn : 0 ≤ a.now ∧ a.now ≤ Hg.top) : Spec Tryz.prog G 46 #[.pointer (some ⟨ap, 0, none⟩), .int .i64 now] ((ap, .cells (jt a bp bb) 102 (0, 0)) :: L) fun u M => M = (ap, .cells (jt (Aq.upto a now) bp bb) 102 (0, 0)) :: L := by
 unfold jt
 refine jm (n := 14) Tryz.func46 rfl rfl rfl ?_
 refine goB ?_
 refine uR rfl ?_
 rfl
theorem qh {K : ja} : Ja K [.slice none 0 0, .slice none 0 0, .bool false, .bool false, .int .u8 0, .slice none 0 0, .slice none 0 0, .int .u32 0, .slice none 0 0, .slice none 0 0] Dd.none :=
 ⟨none, 0, none, 0, none, 0, none, 0, none, 0, none, 0, rfl, jI, jI, ⟨_, _, rfl, sliceR.nil, sliceR.nil, by decide⟩, jI, jI⟩
theorem uz {K : ja} {cs : List Value} {d : Dd} (h : Ja K cs d) : JV cs.toArray = true ∧ cs.length = 10 := by
 obtain ⟨y1, k1, y2, k2, y3, k3, y4, k4, y5, k5, y6, k6, rfl, _⟩ := h
 exact ⟨rfl, rfl⟩
def Zn (X : ja → Prop) (L : ja) (d : Dd) (u : Value) (M : ja) : Prop := ∃ cs X' N, u = .agg cs.toArray ∧ Ja N cs d ∧ X X' ∧ M = X' ++ (N ++ L)
theorem JK {ap : Nat} {a : As} {X : ja} (h : uP ap a X) (hA : AWell a) (u : Int) (v : Vdt) (t now : Int) (cv : List Value) (hv : vdR L cv v) (hsv : SmV v) (hev : a.over = false → (Hg.close a.p u).2 = true → EndOk a.q v) (ht : 0 ≤ t ∧ t ≤ 4294967295) (hu : -9223372036854775808 ≤ u ∧ u ≤ 9223372036854775807) :
 Spec Tryz.prog G 17 #[.pointer (some ⟨ap, 0, none⟩), .int .i64 u, .agg cv.toArray, .int .u32 t, .int .i64 now] (X ++ L) (Zn (uP ap (Aq.vote a u v t now).1) L (Aq.vote a u v t now).2) := by
 obtain ⟨bp, bb, Mp, Mb, hp, hb, rfl⟩ := h
 have hn := hA.ok.now
 obtain ⟨vv1, vv2, rfl, hvs1, hvs2, hvc⟩ := id hv
 rw [List.cons_append]
 refine jm (n := 39) Tryz.func17 rfl rfl rfl ?_
 repeat (first | refine goB ?_ | (refine jO ?_; intro bNew) | (refine kl ?_; intro bBox))
 obtain ⟨b5, hb5⟩ : ∃ b, bNew = b := ⟨_, rfl⟩
 rw [hb5]
 clear hb5
 rename_i b10
 refine jU (jc je rfl (JJ ap bp bb a (by simp))) rfl ?_
 cases ho : a.over with
 | true =>
   have hm : Aq.vote a u v t now = (a, Dd.none) := by unfold Aq.vote; rw [if_pos ho]
   rw [hm]
   refine goB ?_
   refine jH (L' := (b10, Obj.cells #[.slice none 0 0, .slice none 0 0, .bool false, .bool false, .int .u8 0, .slice none 0 0, .slice none 0 0, .int .u32 0, .slice none 0 0, .slice none 0 0] 43 (0, 0)) :: (b5, Obj.cells #[.slice none 0 0, .slice none 0 0, .bool false, .bool false, .int .u8 0, .slice none 0 0, .slice none 0 0, .int .u32 0, .slice none 0 0, .slice none 0 0] 43 (0, 0)) :: (((ap, Obj.cells (jt a bp bb) 102 (0, 0)) :: (Mp ++ Mb)) ++ ([] ++ L))) ?_ jn
   refine goB ?_
   refine kT 10 43  rfl rfl  stO (by repeat (exact List.mem_cons_self)) rfl (L' := (((ap, Obj.cells (jt a bp bb) 102 (0, 0)) :: (Mp ++ Mb)) ++ ([] ++ L))) (fun w h => h.cnt jn) ?_
   exact ⟨_, _, [], rfl, qh, ⟨bp, bb, Mp, Mb, hp, hb, rfl⟩, rfl⟩
 | false =>
   have hcl := Z1 (G := G) (L := (b5, Obj.cells #[.slice none 0 0, .slice none 0 0, .bool false, .bool false, .int .u8 0, .slice none 0 0, .slice none 0 0, .int .u32 0, .slice none 0 0, .slice none 0 0] 43 (0, 0)) :: (b10, Obj.cells #[.slice none 0 0, .slice none 0 0, .bool false, .bool false, .int .u8 0, .slice none 0 0, .slice none 0 0, .int .u32 0, .slice none 0 0, .slice none 0 0] 43 (0, 0)) :: (bBox, Obj.cells #[.int .u8 v.code, vv1, vv2] 40 (0, 0)) :: (ap, Obj.cells (jt a bp bb) 102 (0, 0)) :: (Mb ++ L)) hp u
   refine goB ?_
   refine uH (OpT.heap (L' := Mp ++ ((b5, Obj.cells #[.slice none 0 0, .slice none 0 0, .bool false, .bool false, .int .u8 0, .slice none 0 0, .slice none 0 0, .int .u32 0, .slice none 0 0, .slice none 0 0] 43 (0, 0)) :: (b10, Obj.cells #[.slice none 0 0, .slice none 0 0, .bool false, .bool false, .int .u8 0, .slice none 0 0, .slice none 0 0, .int .u32 0, .slice none 0 0, .slice none 0 0] 43 (0, 0)) :: (bBox, Obj.cells #[.int .u8 v.code, vv1, vv2] 40 (0, 0)) :: (ap, Obj.cells (jt a bp bb) 102 (0, 0)) :: (Mb ++ L))) (fun w h => h.cnt jn) (jc je rfl hcl)) rfl ?_
   rintro _ _ ⟨rfl, M2, hp2, rfl⟩
   cases hc : (Hg.close a.p u).2 with
   | false =>
     have hm : Aq.vote a u v t now = ({ a with p := (Hg.close a.p u).1 }, Dd.none) := by unfold Aq.vote; rw [if_neg (by rw [ho]; decide), hc]; rfl
     rw [hm]
     refine goB ?_
     refine jH (L' := (b10, Obj.cells #[.slice none 0 0, .slice none 0 0, .bool false, .bool false, .int .u8 0, .slice none 0 0, .slice none 0 0, .int .u32 0, .slice none 0 0, .slice none 0 0] 43 (0, 0)) :: (b5, Obj.cells #[.slice none 0 0, .slice none 0 0, .bool false, .bool false, .int .u8 0, .slice none 0 0, .slice none 0 0, .int .u32 0, .slice none 0 0, .slice none 0 0] 43 (0, 0)) :: (((ap, Obj.cells (jt a bp bb) 102 (0, 0)) :: (M2 ++ Mb)) ++ ([] ++ L))) ?_ jn
     refine goB ?_
     refine kT 10 43  rfl rfl  stO (by repeat (exact List.mem_cons_self)) rfl (L' := (((ap, Obj.cells (jt a bp bb) 102 (0, 0)) :: (M2 ++ Mb)) ++ ([] ++ L))) (fun w h => h.cnt jn) ?_
     exact ⟨_, _, [], rfl, qh, ⟨bp, bb, M2, Mb, hp2, hb, rfl⟩, rfl⟩
   | true =>
     obtain ⟨a2, ha2⟩ : ∃ z, z = { (Aq.upto { a with p := (Hg.close a.p u).1 } now) with l := (Vd.putB a.l ⟨⟨u, v, t⟩, false⟩).1 } := ⟨_, rfl⟩
     have hm : Aq.vote a u v t now = Aq.look a2 (dd [] []) := by unfold Aq.vote; rw [if_neg (by rw [ho]; decide), hc, if_pos rfl, ha2]; rfl
     have hw2 : AWell a2 := by rw [ha2]; exact AWell.put (a := Aq.upto { a with p := (Hg.close a.p u).1 } now) (hA.of ((hA.ok.close u).upto now) rfl rfl) ⟨⟨u, v, t⟩, false⟩ (fun _ => hev ho hc)
     rw [hm]
     refine goB ?_
     refine jH (L' := (ap, Obj.cells (jt a bp bb) 102 (0, 0)) :: (M2 ++ (Mb ++ ((b5, Obj.cells #[.slice none 0 0, .slice none 0 0, .bool false, .bool false, .int .u8 0, .slice none 0 0, .slice none 0 0, .int .u32 0, .slice none 0 0, .slice none 0 0] 43 (0, 0)) :: (b10, Obj.cells #[.slice none 0 0, .slice none 0 0, .bool false, .bool false, .int .u8 0, .slice none 0 0, .slice none 0 0, .int .u32 0, .slice none 0 0, .slice none 0 0] 43 (0, 0)) :: (bBox, Obj.cells #[.int .u8 v.code, vv1, vv2] 40 (0, 0)) :: L)))) ?_ jn
     refine jw (jc je rfl (Kw ap bp bb a now hn)) rfl ?_
     rintro _ _ rfl
     have he2 : jt (Aq.upto a now) bp bb = jt a2 bp bb := by rw [ha2]; rfl
     rw [he2]
     have hK : ∀ z ∈ [(ap, Obj.cells (jt a2 bp bb) 102 (0, 0)), (bBox, Obj.cells #[.int .u8 v.code, vv1, vv2] 40 (0, 0))], z ∈ (ap, Obj.cells (jt a2 bp bb) 102 (0, 0)) :: (M2 ++ (Mb ++ ((b5, Obj.cells #[.slice none 0 0, .slice none 0 0, .bool false, .bool false, .int .u8 0, .slice none 0 0, .slice none 0 0, .int .u32 0, .slice none 0 0, .slice none 0 0] 43 (0, 0)) :: (b10, Obj.cells #[.slice none 0 0, .slice none 0 0, .bool false, .bool false, .int .u8 0, .slice none 0 0, .slice none 0 0, .int .u32 0, .slice none 0 0, .slice none 0 0] 43 (0, 0)) :: (bBox, Obj.cells #[.int .u8 v.code, vv1, vv2] 40 (0, 0)) :: L))) := fun z hz => by simp only [List.mem_cons, List.not_mem_nil, or_false] at hz; rcases hz with rfl | rfl <;> simp
     have hvote : voteR ((ap, Obj.cells (jt a2 bp bb) 102 (0, 0)) :: (bBox, Obj.cells #[.int .u8 v.code, vv1, vv2] 40 (0, 0)) :: (M2 ++ ((b5, Obj.cells #[.slice none 0 0, .slice none 0 0, .bool false, .bool false, .int .u8 0, .slice none 0 0, .slice none 0 0, .int .u32 0, .slice none 0 0, .slice none 0 0] 43 (0, 0)) :: (b10, Obj.cells #[.slice none 0 0, .slice none 0 0, .bool false, .bool false, .int .u8 0, .slice none 0 0, .slice none 0 0, .int .u32 0, .slice none 0 0, .slice none 0 0] 43 (0, 0)) :: L))) [.int .i64 u, .int .u8 v.code, vv1, vv2, .int .u32 t] ⟨u, v, t⟩ := ⟨vv1, vv2, rfl, jx jC _ _ _ _ (by simp +contextual) hvs1, jx jC _ _ _ _ (by simp +contextual) hvs2, hvc, ht, hu⟩
     have e6 : (jt a2 bp bb)[0 + 6]? = some (.pointer (some ⟨bb, 0, none⟩)) := rfl
     refine goB ?_
     refine jq jb ([(ap, Obj.cells (jt a2 bp bb) 102 (0, 0)), (bBox, Obj.cells #[.int .u8 v.code, vv1, vv2] 40 (0, 0))]) [] ?_
     refine tkQ 0 ?_
     refine tkQ 1 ?_
     refine tkQ 2 ?_
     refine tkQ 3 ?_
     refine tkQ 4 ?_
     refine tkQ 5 ?_
     refine tkQ 6 ?_
     (refine' jp 7 rfl rfl je (jL (jl rfl (ue _ _ _ _ _))) ?_ ?_; (· assumption))
     refine j6 (L' := Mb ++ ((ap, Obj.cells (jt a2 bp bb) 102 (0, 0)) :: (bBox, Obj.cells #[.int .u8 v.code, vv1, vv2] 40 (0, 0)) :: (M2 ++ ((b5, Obj.cells #[.slice none 0 0, .slice none 0 0, .bool false, .bool false, .int .u8 0, .slice none 0 0, .slice none 0 0, .int .u32 0, .slice none 0 0, .slice none 0 0] 43 (0, 0)) :: (b10, Obj.cells #[.slice none 0 0, .slice none 0 0, .bool false, .bool false, .int .u8 0, .slice none 0 0, .slice none 0 0, .int .u32 0, .slice none 0 0, .slice none 0 0] 43 (0, 0)) :: L)))) ?_ jn; refine jF 8 je rfl rfl rfl rfl (jc je rfl (adU hb hvote hsv)) ?_; rintro _ _ ⟨rfl, Mc, hb2, rfl⟩; refine ⟨Or.inr (fun z hz => by simp only [List.mem_cons, List.not_mem_nil, or_false] at hz; rcases hz with rfl | rfl <;> simp), ?_⟩
     refine tdQ ?_
     have hb3 : PBox bb a2.want a2.l Mc := by rw [ha2]; exact hb2
     have hp3 : IsPlan bp a2.p M2 := by rw [ha2]; exact hp2
     have ho2 : a2.over = false := by rw [ha2]; exact ho
     have hev2 := yM (G := G) (L := (b10, Obj.cells #[.slice none 0 0, .slice none 0 0, .bool false, .bool false, .int .u8 0, .slice none 0 0, .slice none 0 0, .int .u32 0, .slice none 0 0, .slice none 0 0] 43 (0, 0)) :: (bBox, Obj.cells #[.int .u8 v.code, vv1, vv2] 40 (0, 0)) :: L) (ap := ap) (bd := b5) (g := []) (s := []) (Bs := []) (Ng := []) (ys := none) (yg := none) (ks := 0) (kg := 0) hp3 hb3 hw2 ho2 (by simp) (Row.nil _ _) jI (by simp)
     refine goB ?_
     refine jH (L' := (ap, Obj.cells (jt a2 bp bb) 102 (0, 0)) :: (b5, Obj.cells #[.slice none 0 0, .slice none 0 0, .bool false, .bool false, .int .u8 0, .slice none 0 0, .slice none 0 0, .int .u32 0, .slice none 0 0, .slice none 0 0] 43 (0, 0)) :: (M2 ++ (Mc ++ ([] ++ ((b10, Obj.cells #[.slice none 0 0, .slice none 0 0, .bool false, .bool false, .int .u8 0, .slice none 0 0, .slice none 0 0, .int .u32 0, .slice none 0 0, .slice none 0 0] 43 (0, 0)) :: (bBox, Obj.cells #[.int .u8 v.code, vv1, vv2] 40 (0, 0)) :: L))))) ?_ jn
     refine jw (jc je rfl hev2) rfl ?_
     rintro _ _ ⟨cs, M4, N, hp4, hd, rfl⟩
     obtain ⟨r, hr⟩ : ∃ r, r = Aq.look a2 (dd [] []) := ⟨_, rfl⟩
     have hk := ko (d := dd [] []) hw2.ok
     rw [← hr] at hp4 hd hk ⊢
     have hb5 : PBox bb r.1.want r.1.l Mc := by rw [hk.2.2.1, hk.2.2.2.2.1]; exact hb3
     have hd' := hd
     obtain ⟨d1, d2, d3, d4, d5, d6, d7, d8, d9, d10, d11, d12, rfl, _⟩ := hd'
     refine jH (L' := (b10, Obj.cells #[.slice none 0 0, .slice none 0 0, .bool false, .bool false, .int .u8 0, .slice none 0 0, .slice none 0 0, .int .u32 0, .slice none 0 0, .slice none 0 0] 43 (0, 0)) :: (b5, Obj.cells ([.slice d1 r.2.sends.length d2, .slice d3 r.2.gone.length d4, .bool r.2.over, .bool r.2.done, .int .u8 r.2.vd.code, .slice d5 r.2.vd.sets.length d6, .slice d7 r.2.vd.soa.length d8, .int .u32 r.2.time, .slice d9 r.2.agree.length d10, .slice d11 r.2.dissent.length d12] : List Value).toArray 43 (0, 0)) :: (((ap, Obj.cells (jt r.1 bp bb) 102 (0, 0)) :: (M4 ++ Mc)) ++ (N ++ L))) ?_ jn
     refine goB ?_
     refine kT 10 43  rfl rfl  stO (by repeat (exact List.mem_cons_self)) rfl (L' := (((ap, Obj.cells (jt r.1 bp bb) 102 (0, 0)) :: (M4 ++ Mc)) ++ (N ++ L))) (fun w h => h.cnt jn) ?_
     exact ⟨_, _, N, rfl, by simpa using hd, ⟨bp, bb, M4, Mc, hp4, hb5, rfl⟩, rfl⟩
theorem Z4 {ap : Nat} {a : As} {X : ja} (h : uP ap a X) (hA : AWell a) (u now : Int) :
 Spec Tryz.prog G 15 #[.pointer (some ⟨ap, 0, none⟩), .int .i64 u, .int .i64 now] (X ++ L) (Zn (uP ap (Aq.pass a u now).1) L (Aq.pass a u now).2) := by
 obtain ⟨bp, bb, Mp, Mb, hp, hb, rfl⟩ := h
 have hn := hA.ok.now
 rw [List.cons_append]
 refine jm (n := 32) Tryz.func15 rfl rfl rfl ?_
 repeat (first | refine goB ?_ | (refine jO ?_; intro bNew))
 obtain ⟨b5, hb5⟩ : ∃ b, bNew = b := ⟨_, rfl⟩
 rw [hb5]
 clear hb5
 rename_i b10
 refine jU (jc je rfl (JJ ap bp bb a (by simp))) rfl ?_
 cases ho : a.over with
 | true =>
   have hm : Aq.pass a u now = (a, Dd.none) := by unfold Aq.pass; rw [if_pos ho]
   rw [hm]
   refine goB ?_
   refine jH (L' := (b10, Obj.cells #[.slice none 0 0, .slice none 0 0, .bool false, .bool false, .int .u8 0, .slice none 0 0, .slice none 0 0, .int .u32 0, .slice none 0 0, .slice none 0 0] 43 (0, 0)) :: (b5, Obj.cells #[.slice none 0 0, .slice none 0 0, .bool false, .bool false, .int .u8 0, .slice none 0 0, .slice none 0 0, .int .u32 0, .slice none 0 0, .slice none 0 0] 43 (0, 0)) :: (((ap, Obj.cells (jt a bp bb) 102 (0, 0)) :: (Mp ++ Mb)) ++ ([] ++ L))) ?_ jn
   refine goB ?_
   refine kT 6 43  rfl rfl  stO (by repeat (exact List.mem_cons_self)) rfl (L' := (((ap, Obj.cells (jt a bp bb) 102 (0, 0)) :: (Mp ++ Mb)) ++ ([] ++ L))) (fun w h => h.cnt jn) ?_
   exact ⟨_, _, [], rfl, qh, ⟨bp, bb, Mp, Mb, hp, hb, rfl⟩, rfl⟩
 | false =>
   have hcl := Z1 (G := G) (L := (b5, Obj.cells #[.slice none 0 0, .slice none 0 0, .bool false, .bool false, .int .u8 0, .slice none 0 0, .slice none 0 0, .int .u32 0, .slice none 0 0, .slice none 0 0] 43 (0, 0)) :: (b10, Obj.cells #[.slice none 0 0, .slice none 0 0, .bool false, .bool false, .int .u8 0, .slice none 0 0, .slice none 0 0, .int .u32 0, .slice none 0 0, .slice none 0 0] 43 (0, 0)) :: (ap, Obj.cells (jt a bp bb) 102 (0, 0)) :: (Mb ++ L)) hp u
   refine goB ?_
   refine uH (OpT.heap (L' := Mp ++ ((b5, Obj.cells #[.slice none 0 0, .slice none 0 0, .bool false, .bool false, .int .u8 0, .slice none 0 0, .slice none 0 0, .int .u32 0, .slice none 0 0, .slice none 0 0] 43 (0, 0)) :: (b10, Obj.cells #[.slice none 0 0, .slice none 0 0, .bool false, .bool false, .int .u8 0, .slice none 0 0, .slice none 0 0, .int .u32 0, .slice none 0 0, .slice none 0 0] 43 (0, 0)) :: (ap, Obj.cells (jt a bp bb) 102 (0, 0)) :: (Mb ++ L))) (fun w h => h.cnt jn) (jc je rfl hcl)) rfl ?_
   rintro _ _ ⟨rfl, M2, hp2, rfl⟩
   cases hc : (Hg.close a.p u).2 with
   | false =>
     have hm : Aq.pass a u now = ({ a with p := (Hg.close a.p u).1 }, Dd.none) := by unfold Aq.pass; rw [if_neg (by rw [ho]; decide), hc]; rfl
     rw [hm]
     refine goB ?_
     refine jH (L' := (b10, Obj.cells #[.slice none 0 0, .slice none 0 0, .bool false, .bool false, .int .u8 0, .slice none 0 0, .slice none 0 0, .int .u32 0, .slice none 0 0, .slice none 0 0] 43 (0, 0)) :: (b5, Obj.cells #[.slice none 0 0, .slice none 0 0, .bool false, .bool false, .int .u8 0, .slice none 0 0, .slice none 0 0, .int .u32 0, .slice none 0 0, .slice none 0 0] 43 (0, 0)) :: (((ap, Obj.cells (jt a bp bb) 102 (0, 0)) :: (M2 ++ Mb)) ++ ([] ++ L))) ?_ jn
     refine goB ?_
     refine kT 6 43  rfl rfl  stO (by repeat (exact List.mem_cons_self)) rfl (L' := (((ap, Obj.cells (jt a bp bb) 102 (0, 0)) :: (M2 ++ Mb)) ++ ([] ++ L))) (fun w h => h.cnt jn) ?_
     exact ⟨_, _, [], rfl, qh, ⟨bp, bb, M2, Mb, hp2, hb, rfl⟩, rfl⟩
   | true =>
     obtain ⟨a2, ha2⟩ : ∃ z, z = { (Aq.upto { a with p := (Hg.close a.p u).1 } now) with l := (Vd.putB a.l ⟨⟨u, Vdt.none, 0⟩, true⟩).1 } := ⟨_, rfl⟩
     have hm : Aq.pass a u now = Aq.look a2 (dd [] []) := by unfold Aq.pass; rw [if_neg (by rw [ho]; decide), hc, if_pos rfl, ha2]; rfl
     have hw2 : AWell a2 := by rw [ha2]; exact AWell.put (a := Aq.upto { a with p := (Hg.close a.p u).1 } now) (hA.of ((hA.ok.close u).upto now) rfl rfl) ⟨⟨u, Vdt.none, 0⟩, true⟩ (fun h => by cases h)
     rw [hm]
     refine goB ?_
     refine jH (L' := (ap, Obj.cells (jt a bp bb) 102 (0, 0)) :: (M2 ++ (Mb ++ ((b5, Obj.cells #[.slice none 0 0, .slice none 0 0, .bool false, .bool false, .int .u8 0, .slice none 0 0, .slice none 0 0, .int .u32 0, .slice none 0 0, .slice none 0 0] 43 (0, 0)) :: (b10, Obj.cells #[.slice none 0 0, .slice none 0 0, .bool false, .bool false, .int .u8 0, .slice none 0 0, .slice none 0 0, .int .u32 0, .slice none 0 0, .slice none 0 0] 43 (0, 0)) :: L)))) ?_ jn
     refine jw (jc je rfl (Kw ap bp bb a now hn)) rfl ?_
     rintro _ _ rfl
     have he2 : jt (Aq.upto a now) bp bb = jt a2 bp bb := by rw [ha2]; rfl
     rw [he2]
     have e6 : (jt a2 bp bb)[0 + 6]? = some (.pointer (some ⟨bb, 0, none⟩)) := rfl
     refine goB ?_
     refine jH (L' := Mb ++ ((ap, Obj.cells (jt a2 bp bb) 102 (0, 0)) :: (M2 ++ ((b5, Obj.cells #[.slice none 0 0, .slice none 0 0, .bool false, .bool false, .int .u8 0, .slice none 0 0, .slice none 0 0, .int .u32 0, .slice none 0 0, .slice none 0 0] 43 (0, 0)) :: (b10, Obj.cells #[.slice none 0 0, .slice none 0 0, .bool false, .bool false, .int .u8 0, .slice none 0 0, .slice none 0 0, .int .u32 0, .slice none 0 0, .slice none 0 0] 43 (0, 0)) :: L)))) ?_ jn
     refine jw (jc je rfl (adV u hb)) rfl ?_
     rintro _ _ ⟨rfl, Mc, hb2, rfl⟩
     have hb3 : PBox bb a2.want a2.l Mc := by rw [ha2]; exact hb2
     have hp3 : IsPlan bp a2.p M2 := by rw [ha2]; exact hp2
     have ho2 : a2.over = false := by rw [ha2]; exact ho
     have hev2 := yM (G := G) (L := (b10, Obj.cells #[.slice none 0 0, .slice none 0 0, .bool false, .bool false, .int .u8 0, .slice none 0 0, .slice none 0 0, .int .u32 0, .slice none 0 0, .slice none 0 0] 43 (0, 0)) :: L) (ap := ap) (bd := b5) (g := []) (s := []) (Bs := []) (Ng := []) (ys := none) (yg := none) (ks := 0) (kg := 0) hp3 hb3 hw2 ho2 (by simp) (Row.nil _ _) jI (by simp)
     refine goB ?_
     refine jH (L' := (ap, Obj.cells (jt a2 bp bb) 102 (0, 0)) :: (b5, Obj.cells #[.slice none 0 0, .slice none 0 0, .bool false, .bool false, .int .u8 0, .slice none 0 0, .slice none 0 0, .int .u32 0, .slice none 0 0, .slice none 0 0] 43 (0, 0)) :: (M2 ++ (Mc ++ ([] ++ ((b10, Obj.cells #[.slice none 0 0, .slice none 0 0, .bool false, .bool false, .int .u8 0, .slice none 0 0, .slice none 0 0, .int .u32 0, .slice none 0 0, .slice none 0 0] 43 (0, 0)) :: L))))) ?_ jn
     refine jw (jc je rfl hev2) rfl ?_
     rintro _ _ ⟨cs, M4, N, hp4, hd, rfl⟩
     obtain ⟨r, hr⟩ : ∃ r, r = Aq.look a2 (dd [] []) := ⟨_, rfl⟩
     have hk := ko (d := dd [] []) hw2.ok
     rw [← hr] at hp4 hd hk ⊢
     have hb5 : PBox bb r.1.want r.1.l Mc := by rw [hk.2.2.1, hk.2.2.2.2.1]; exact hb3
     have hd' := hd
     obtain ⟨d1, d2, d3, d4, d5, d6, d7, d8, d9, d10, d11, d12, rfl, _⟩ := hd'
     refine jH (L' := (b10, Obj.cells #[.slice none 0 0, .slice none 0 0, .bool false, .bool false, .int .u8 0, .slice none 0 0, .slice none 0 0, .int .u32 0, .slice none 0 0, .slice none 0 0] 43 (0, 0)) :: (b5, Obj.cells ([.slice d1 r.2.sends.length d2, .slice d3 r.2.gone.length d4, .bool r.2.over, .bool r.2.done, .int .u8 r.2.vd.code, .slice d5 r.2.vd.sets.length d6, .slice d7 r.2.vd.soa.length d8, .int .u32 r.2.time, .slice d9 r.2.agree.length d10, .slice d11 r.2.dissent.length d12] : List Value).toArray 43 (0, 0)) :: (((ap, Obj.cells (jt r.1 bp bb) 102 (0, 0)) :: (M4 ++ Mc)) ++ (N ++ L))) ?_ jn
     refine goB ?_
     refine kT 6 43  rfl rfl  stO (by repeat (exact List.mem_cons_self)) rfl (L' := (((ap, Obj.cells (jt r.1 bp bb) 102 (0, 0)) :: (M4 ++ Mc)) ++ (N ++ L))) (fun w h => h.cnt jn) ?_
     exact ⟨_, _, N, rfl, by simpa using hd, ⟨bp, bb, M4, Mc, hp4, hb5, rfl⟩, rfl⟩
end Go.Proofs.YtbjkkoacclfejaaGreat
namespace Go.Proofs.YtbjkkoacclfejaaGreat
open Go.RowKit
open Hg (En Pl)
open Vd (RSet Vdt Vote Rec Quest Piece Ballot)
variable {G : World} {L : ja}
theorem Un {p : Pl} (h : Good p) (t : Int) : (Hg.tick p t).2.2.length ≤ 100 := by
 have h9 := h.len
 unfold Hg.tick
 split
 · simp
 · have f2 := yK (Hg.sendE (Hg.advance p t).now (Hg.advance p t).wait (Hg.advance p t).tries) (Hg.advance p t).list (fun x => by unfold Hg.sendE; split <;> simp) p.list.length
   rw [List.take_of_length_le (by simp [Hg.advance])] at f2
   have f3 : (Hg.hedged (Hg.examine (Hg.advance p t))).2.length ≤ 1 := by
    unfold Hg.hedged
    dsimp only
    split
    · split <;> simp
    · simp
   dsimp only
   rw [List.length_append]
   omega
theorem Z5 {ap : Nat} {a : As} {X : ja} (h : uP ap a X) (hA : AWell a) (now : Int) :
 Spec Tryz.prog G 14 #[.pointer (some ⟨ap, 0, none⟩), .int .i64 now] (X ++ L) (Zn (uP ap (Aq.tick a now).1) L (Aq.tick a now).2) := by
 obtain ⟨bp, bb, Mp, Mb, hp, hb, rfl⟩ := h
 have hn := hA.ok.now
 have htop : Hg.top = 1099511627776 := rfl
 rw [List.cons_append]
 refine jm (n := 43) Tryz.func14 rfl rfl rfl ?_
 repeat (first | refine goB ?_ | (refine jO ?_; intro bNew))
 obtain ⟨b5, hb5⟩ : ∃ b, bNew = b := ⟨_, rfl⟩
 rw [hb5]
 clear hb5
 rename_i b10
 refine jU (jc je rfl (JJ ap bp bb a (by simp))) rfl ?_
 cases ho : a.over with
 | true =>
   have hm : Aq.tick a now = (a, Dd.none) := by unfold Aq.tick; rw [if_pos ho]
   rw [hm]
   refine goB ?_
   refine jH (L' := (b10, Obj.cells #[.slice none 0 0, .slice none 0 0, .bool false, .bool false, .int .u8 0, .slice none 0 0, .slice none 0 0, .int .u32 0, .slice none 0 0, .slice none 0 0] 43 (0, 0)) :: (b5, Obj.cells #[.slice none 0 0, .slice none 0 0, .bool false, .bool false, .int .u8 0, .slice none 0 0, .slice none 0 0, .int .u32 0, .slice none 0 0, .slice none 0 0] 43 (0, 0)) :: (((ap, Obj.cells (jt a bp bb) 102 (0, 0)) :: (Mp ++ Mb)) ++ ([] ++ L))) ?_ jn
   refine goB ?_
   refine kT 4 43  rfl rfl  stO (by repeat (exact List.mem_cons_self)) rfl (L' := (((ap, Obj.cells (jt a bp bb) 102 (0, 0)) :: (Mp ++ Mb)) ++ ([] ++ L))) (fun w h => h.cnt jn) ?_
   exact ⟨_, _, [], rfl, qh, ⟨bp, bb, Mp, Mb, hp, hb, rfl⟩, rfl⟩
 | false =>
   obtain ⟨a1, ha1⟩ : ∃ z, z = Aq.upto a now := ⟨_, rfl⟩
   have hw1 : AWell a1 := by rw [ha1]; exact hA.of (hA.ok.upto now) rfl rfl
   have hp1 : IsPlan bp a1.p Mp := by rw [ha1]; exact hp
   have hb1 : PBox bb a1.want a1.l Mb := by rw [ha1]; exact hb
   have ho1 : a1.over = false := by rw [ha1]; exact ho
   have hn1 := hw1.ok.now
   have had : a1.ded = a.ded := by rw [ha1]; rfl
   have hap : a1.p = a.p := by rw [ha1]; rfl
   have e7 : (jt a1 bp bb)[0 + 7]? = some (.int .i64 a1.ded) := rfl
   have e8 : (jt a1 bp bb)[0 + 8]? = some (.int .i64 a1.now) := rfl
   have e5 : (jt a1 bp bb)[0 + 5]? = some (.pointer (some ⟨bp, 0, none⟩)) := rfl
   have hadv := Kw (G := G) (L := (b5, Obj.cells #[.slice none 0 0, .slice none 0 0, .bool false, .bool false, .int .u8 0, .slice none 0 0, .slice none 0 0, .int .u32 0, .slice none 0 0, .slice none 0 0] 43 (0, 0)) :: (b10, Obj.cells #[.slice none 0 0, .slice none 0 0, .bool false, .bool false, .int .u8 0, .slice none 0 0, .slice none 0 0, .int .u32 0, .slice none 0 0, .slice none 0 0] 43 (0, 0)) :: (Mp ++ (Mb ++ L))) ap bp bb a now hn
   rw [← ha1] at hadv
   refine goB ?_
   refine jH (L' := (ap, Obj.cells (jt a bp bb) 102 (0, 0)) :: ((b5, Obj.cells #[.slice none 0 0, .slice none 0 0, .bool false, .bool false, .int .u8 0, .slice none 0 0, .slice none 0 0, .int .u32 0, .slice none 0 0, .slice none 0 0] 43 (0, 0)) :: (b10, Obj.cells #[.slice none 0 0, .slice none 0 0, .bool false, .bool false, .int .u8 0, .slice none 0 0, .slice none 0 0, .int .u32 0, .slice none 0 0, .slice none 0 0] 43 (0, 0)) :: (Mp ++ (Mb ++ L)))) ?_ jn
   refine jw (jc je rfl hadv) rfl ?_
   rintro _ _ rfl
   have hK : ∀ z ∈ [(ap, Obj.cells (jt a1 bp bb) 102 (0, 0))], z ∈ (ap, Obj.cells (jt a1 bp bb) 102 (0, 0)) :: ((b5, Obj.cells #[.slice none 0 0, .slice none 0 0, .bool false, .bool false, .int .u8 0, .slice none 0 0, .slice none 0 0, .int .u32 0, .slice none 0 0, .slice none 0 0] 43 (0, 0)) :: (b10, Obj.cells #[.slice none 0 0, .slice none 0 0, .bool false, .bool false, .int .u8 0, .slice none 0 0, .slice none 0 0, .int .u32 0, .slice none 0 0, .slice none 0 0] 43 (0, 0)) :: (Mp ++ (Mb ++ L))) := fun z hz => by rw [List.mem_singleton.1 hz]; exact List.mem_cons_self ..
   by_cases hend : a1.ded ≤ a1.now
   · have hm : Aq.tick a now = ({ a1 with over := true }, { Dd.none with over := true }) := by unfold Aq.tick; rw [if_neg (by rw [ho]; decide), ← ha1, if_pos (had ▸ hend)]
     rw [hm]
     refine goB ?_
     refine jq jb ([(ap, Obj.cells (jt a1 bp bb) 102 (0, 0))]) [] ?_
     refine tkQ 0 ?_
     refine tkQ 1 ?_
     refine tkQ 2 ?_
     refine tkQ 3 ?_
     refine tkQ 4 ?_
     refine tkQ 5 ?_
     refine tkQ 6 ?_
     refine tkQ 7 ?_
     refine tkQ 8 ?_
     refine tdQ ?_
     refine goB ?_
     refine qI (L' := (ap, Obj.cells (jt { a1 with over := true } bp bb) 102 (0, 0)) :: (b5, Obj.cells #[.slice none 0 0, .slice none 0 0, .bool true, .bool false, .int .u8 0, .slice none 0 0, .slice none 0 0, .int .u32 0, .slice none 0 0, .slice none 0 0] 43 (0, 0)) :: (b10, Obj.cells #[.slice none 0 0, .slice none 0 0, .bool false, .bool false, .int .u8 0, .slice none 0 0, .slice none 0 0, .int .u32 0, .slice none 0 0, .slice none 0 0] 43 (0, 0)) :: (Mp ++ (Mb ++ L))) (fun w h => h) ?_
     refine jH (L' := (b10, Obj.cells #[.slice none 0 0, .slice none 0 0, .bool false, .bool false, .int .u8 0, .slice none 0 0, .slice none 0 0, .int .u32 0, .slice none 0 0, .slice none 0 0] 43 (0, 0)) :: (b5, Obj.cells #[.slice none 0 0, .slice none 0 0, .bool true, .bool false, .int .u8 0, .slice none 0 0, .slice none 0 0, .int .u32 0, .slice none 0 0, .slice none 0 0] 43 (0, 0)) :: (((ap, Obj.cells (jt { a1 with over := true } bp bb) 102 (0, 0)) :: (Mp ++ Mb)) ++ ([] ++ L))) ?_ jn
     refine goB ?_
     refine kT 4 43  rfl rfl  stO (by repeat (exact List.mem_cons_self)) rfl (L' := (((ap, Obj.cells (jt { a1 with over := true } bp bb) 102 (0, 0)) :: (Mp ++ Mb)) ++ ([] ++ L))) (fun w h => h.cnt jn) ?_
     exact ⟨_, _, [], rfl, ⟨none, 0, none, 0, none, 0, none, 0, none, 0, none, 0, rfl, jI, jI, ⟨_, _, rfl, sliceR.nil, sliceR.nil, Int.le_refl 0, show (0 : Int) ≤ 255 by decide⟩, jI, jI⟩, ⟨bp, bb, Mp, Mb, hp1, hb1, rfl⟩, rfl⟩
   · obtain ⟨k, hk⟩ : ∃ k, k = Hg.tick a1.p a1.now := ⟨_, rfl⟩
     obtain ⟨a2, ha2⟩ : ∃ z, z = { a1 with p := k.1 } := ⟨_, rfl⟩
     have hm : Aq.tick a now = Aq.look a2 (dd k.2.2 k.2.1) := by unfold Aq.tick; rw [if_neg (by rw [ho]; decide), ← ha1, if_neg (had ▸ hend), ha2, hk, hap]; rfl
     have hw2 : AWell a2 := by rw [ha2, hk]; exact hw1.of (hw1.ok.tick _) rfl rfl
     have htk := afb (G := G) (L := (ap, Obj.cells (jt a1 bp bb) 102 (0, 0)) :: ((b5, Obj.cells #[.slice none 0 0, .slice none 0 0, .bool false, .bool false, .int .u8 0, .slice none 0 0, .slice none 0 0, .int .u32 0, .slice none 0 0, .slice none 0 0] 43 (0, 0)) :: (b10, Obj.cells #[.slice none 0 0, .slice none 0 0, .bool false, .bool false, .int .u8 0, .slice none 0 0, .slice none 0 0, .int .u32 0, .slice none 0 0, .slice none 0 0] 43 (0, 0)) :: (Mb ++ L))) hp1 hw1.ok.begins a1.now
     have hfl := (aaN a1.p a1.now).resolve_right (by have := hw1.ok.good.len; omega)
     have hf2 : k.2.2.length ≤ 100 := by rw [hk]; exact Un hw1.ok.good a1.now
     rw [← hk] at htk hfl
     rw [hm]
     refine goB ?_
     refine jq jb ([(ap, Obj.cells (jt a1 bp bb) 102 (0, 0))]) [] ?_
     refine tkQ 0 ?_
     refine tkQ 1 ?_
     refine tkQ 2 ?_
     refine tkQ 3 ?_
     refine tkQ 4 ?_
     refine tkQ 5 ?_
     refine tkQ 6 ?_
     refine tkQ 7 ?_
     refine tkQ 8 ?_
     refine tdQ ?_
     refine goB ?_
     refine jq jb ([(ap, Obj.cells (jt a1 bp bb) 102 (0, 0))]) [] ?_
     refine tkQ 0 ?_
     refine tkQ 1 ?_
     refine tkQ 2 ?_
     refine tkQ 3 ?_
     refine tkQ 4 ?_
     refine tkQ 5 ?_
     refine tkQ 6 ?_
     refine tkQ 7 ?_
     refine j6 (L' := Mp ++ ((ap, Obj.cells (jt a1 bp bb) 102 (0, 0)) :: ((b5, Obj.cells #[.slice none 0 0, .slice none 0 0, .bool false, .bool false, .int .u8 0, .slice none 0 0, .slice none 0 0, .int .u32 0, .slice none 0 0, .slice none 0 0] 43 (0, 0)) :: (b10, Obj.cells #[.slice none 0 0, .slice none 0 0, .bool false, .bool false, .int .u8 0, .slice none 0 0, .slice none 0 0, .int .u32 0, .slice none 0 0, .slice none 0 0] 43 (0, 0)) :: (Mb ++ L)))) ?_ jn; refine jF 8 je rfl rfl rfl rfl (jc je rfl htk) ?_; rintro _ _ ⟨ag, cg, az, cz, Bg, Bs, M2, rfl, hRg, hRs, hp2, rfl⟩; refine ⟨Or.inr (fun z hz => by rw [List.mem_singleton.1 hz]; simp), ?_⟩
     refine tkQ 9 ?_
     refine tkQ 10 ?_
     refine tkQ 11 ?_
     refine tkQ 12 ?_
     refine j6 (L' := (b5, Obj.cells #[.slice none 0 0, .slice none 0 0, .bool false, .bool false, .int .u8 0, .slice none 0 0, .slice none 0 0, .int .u32 0, .slice none 0 0, .slice none 0 0] 43 (0, 0)) :: ((ap, Obj.cells (jt a1 bp bb) 102 (0, 0)) :: (M2 ++ (Bg ++ (Bs ++ ((b10, Obj.cells #[.slice none 0 0, .slice none 0 0, .bool false, .bool false, .int .u8 0, .slice none 0 0, .slice none 0 0, .int .u32 0, .slice none 0 0, .slice none 0 0] 43 (0, 0)) :: (Mb ++ L))))))) ?_ jn; refine jZ 13 je rfl rfl rfl (ul rfl rfl onO rfl rfl rfl) ?_; rintro _ _ ⟨_, rfl⟩; refine ⟨Or.inr (fun z hz => by rw [List.mem_singleton.1 hz]; simp), ?_⟩
     refine tkQ 14 ?_
     refine jZ 15 je rfl rfl rfl (ul rfl rfl onO rfl rfl rfl) ?_; rintro _ _ ⟨_, rfl⟩; refine ⟨Or.inr (fun z hz => by rw [List.mem_singleton.1 hz]; simp), ?_⟩
     refine tdQ ?_
     have he2 : jt a1 bp bb = jt a2 bp bb := by rw [ha2]; rfl
     have hp3 : IsPlan bp a2.p M2 := by rw [ha2]; exact hp2
     have hb3 : PBox bb a2.want a2.l Mb := by rw [ha2]; exact hb1
     have ho2 : a2.over = false := by rw [ha2]; exact ho1
     refine ju (L' := (b5, Obj.cells (ke (.slice az k.2.2.length cz) (.slice ag k.2.1.length cg)) 43 (0, 0)) :: ((ap, Obj.cells (jt a1 bp bb) 102 (0, 0)) :: (M2 ++ (Bg ++ (Bs ++ ((b10, Obj.cells #[.slice none 0 0, .slice none 0 0, .bool false, .bool false, .int .u8 0, .slice none 0 0, .slice none 0 0, .int .u32 0, .slice none 0 0, .slice none 0 0] 43 (0, 0)) :: (Mb ++ L))))))) (fun w h => h) ?_
     rw [he2]
     have hev2 := yM (G := G) (L := Bg ++ ((b10, Obj.cells #[.slice none 0 0, .slice none 0 0, .bool false, .bool false, .int .u8 0, .slice none 0 0, .slice none 0 0, .int .u32 0, .slice none 0 0, .slice none 0 0] 43 (0, 0)) :: L)) (ap := ap) (bd := b5) (Ng := Bg) hp3 hb3 hw2 ho2 hf2 hRs (hRg.irow (fun q hq => hq)) (by simp +contextual)
     refine goB ?_
     refine jH (L' := (ap, Obj.cells (jt a2 bp bb) 102 (0, 0)) :: (b5, Obj.cells (ke (.slice az k.2.2.length cz) (.slice ag k.2.1.length cg)) 43 (0, 0)) :: (M2 ++ (Mb ++ (Bs ++ (Bg ++ ((b10, Obj.cells #[.slice none 0 0, .slice none 0 0, .bool false, .bool false, .int .u8 0, .slice none 0 0, .slice none 0 0, .int .u32 0, .slice none 0 0, .slice none 0 0] 43 (0, 0)) :: L)))))) ?_ jn
     refine jw (jc je rfl hev2) rfl ?_
     rintro _ _ ⟨cs, M4, N, hp4, hd, rfl⟩
     obtain ⟨r, hr⟩ : ∃ r, r = Aq.look a2 (dd k.2.2 k.2.1) := ⟨_, rfl⟩
     have hkk := ko (d := dd k.2.2 k.2.1) hw2.ok
     rw [← hr] at hp4 hd hkk ⊢
     have hb5 : PBox bb r.1.want r.1.l Mb := by rw [hkk.2.2.1, hkk.2.2.2.2.1]; exact hb3
     have hd' := hd
     obtain ⟨d1, d2, d3, d4, d5, d6, d7, d8, d9, d10, d11, d12, rfl, _⟩ := hd'
     refine jH (L' := (b10, Obj.cells #[.slice none 0 0, .slice none 0 0, .bool false, .bool false, .int .u8 0, .slice none 0 0, .slice none 0 0, .int .u32 0, .slice none 0 0, .slice none 0 0] 43 (0, 0)) :: (b5, Obj.cells ([.slice d1 r.2.sends.length d2, .slice d3 r.2.gone.length d4, .bool r.2.over, .bool r.2.done, .int .u8 r.2.vd.code, .slice d5 r.2.vd.sets.length d6, .slice d7 r.2.vd.soa.length d8, .int .u32 r.2.time, .slice d9 r.2.agree.length d10, .slice d11 r.2.dissent.length d12] : List Value).toArray 43 (0, 0)) :: (((ap, Obj.cells (jt r.1 bp bb) 102 (0, 0)) :: (M4 ++ Mb)) ++ ((N ++ Bg) ++ L))) ?_ jn
     refine goB ?_
     refine kT 4 43  rfl rfl  stO (by repeat (exact List.mem_cons_self)) rfl (L' := (((ap, Obj.cells (jt r.1 bp bb) 102 (0, 0)) :: (M4 ++ Mb)) ++ ((N ++ Bg) ++ L))) (fun w h => h.cnt jn) ?_
     exact ⟨_, _, N ++ Bg, rfl, hd, ⟨bp, bb, M4, Mb, hp4, hb5, rfl⟩, rfl⟩
end Go.Proofs.YtbjkkoacclfejaaGreat
namespace Go.Proofs.YtbjkkoacclfejaaGreat.Cn
variable {T : Names}
def ajL : Bytes → Int → Bytes
 | [], _ => []
 | a :: t, k => if k = 0 then [] else a :: ajL t (if a = 10 then k - 1 else k)
end Go.Proofs.YtbjkkoacclfejaaGreat.Cn
namespace Go.Proofs.YtbjkkoacclfejaaGreat
open Go.RowKit
open Cn (Zo Cf)
def zoR : Rp Zo := fun _ cs z => cs = [.string (bs z.name), .int .u8 z.pol, .int .u16 z.tru] ∧ z.name.length ≤ maxLen ∧ z.pol ≤ 255 ∧ z.tru ≤ 65535
theorem JL : uZ zoR := fun _ _ _ _ _ h => h
theorem zoR.len {L : ja} {cs : List Value} {z : Zo} (h : zoR L cs z) : cs.length = 3 := by obtain ⟨rfl, _⟩ := h; rfl
theorem zoR.one {L : ja} {cs : List Value} {z : Zo} (h : zoR L cs z) : ∀ v ∈ cs, v.oneCell' = true := by
 obtain ⟨rfl, _⟩ := h
 intro v hv
 simp only [List.mem_cons, List.not_mem_nil, or_false] at hv
 rcases hv with rfl | rfl | rfl <;> rfl
instance : Inhabited Zo := ⟨⟨[], 0, 0⟩⟩
instance : Inhabited Cf := ⟨Cn.zeroC⟩
def jo (c : Cf) (v : Value) : List Value := [.int .i64 c.ups, .int .i64 c.ded, .int .i64 c.hdg, .int .i64 c.wai, .int .i64 c.tri, .int .i64 c.res, .int .i64 c.lim, .int .i64 c.cac, .int .i64 c.fli, .int .i64 c.wtr, .int .i64 c.ttl, .int .i64 c.siz, v]
def I64 (n : Int) : Prop := -9223372036854775808 ≤ n ∧ n ≤ 9223372036854775807
structure CfIn (c : Cf) : Prop where
 ups : I64 c.ups
 ded : I64 c.ded
 hdg : I64 c.hdg
 wai : I64 c.wai
 tri : I64 c.tri
 res : I64 c.res
 lim : I64 c.lim
 cac : I64 c.cac
 fli : I64 c.fli
 wtr : I64 c.wtr
 ttl : I64 c.ttl
 siz : I64 c.siz
def cfR : Rp Cf := fun L cs c => ∃ v, cs = jo c v ∧ sliceR 3 zoR L [v] c.zs ∧ CfIn c
theorem aec : uZ cfR := fun L L' cs a hL ⟨v, h1, h2, h3⟩ => ⟨v, h1, jx JL L L' _ _ hL h2, h3⟩
theorem cfR.len {L : ja} {cs : List Value} {c : Cf} (h : cfR L cs c) : cs.length = 13 := by obtain ⟨v, rfl, _⟩ := h; rfl
end Go.Proofs.YtbjkkoacclfejaaGreat
namespace Go.Proofs.YtbjkkoacclfejaaGreat
open Go.RowKit
open Cn (Zo Cf)
variable {G : World} {L : ja}
theorem j4 (n lo hi : Int) : Spec Tryz.prog G 96 #[.int .i64 n, .int .i64 lo, .int .i64 hi] L fun u M => u = .bool (decide (lo ≤ n ∧ n ≤ hi)) ∧ M = L := by
 refine jm (n := 15) Tryz.func96 rfl rfl rfl ?_
 by_cases h1 : lo ≤ n
 · by_cases h2 : n ≤ hi
   · rw [decide_eq_true ⟨h1, h2⟩]
     refine goA ?_
     refine ji 6 _ rfl rfl ?_
     exact ⟨by rw [decide_eq_true h2], rfl⟩
   · rw [decide_eq_false (fun k => h2 k.2)]
     refine goA ?_
     refine ji 6 _ rfl rfl ?_
     exact ⟨by rw [decide_eq_false h2], rfl⟩
 · rw [decide_eq_false (fun k => h1 k.1)]
   refine goA ?_
   refine ji 6 _ rfl rfl ?_
   exact ⟨rfl, rfl⟩
section
variable {P : Program} {n : Nat} {ρ : jG} {ty : TypeId}
end
end Go.Proofs.YtbjkkoacclfejaaGreat
namespace Go.Proofs.YtbjkkoacclfejaaGreat
open Go.RowKit
theorem afh {n : Nat} (h : n < 65536) : IntKind.wrap .u16 (n : Int) = n := by
 unfold IntKind.wrap
 simp [IntKind.signed, IntKind.bits]
 omega
theorem aed {n : Nat} (h : n < 65536) : (BitVec.ofInt (IntKind.bits .u16) (n : Int)).toNat = n := by
 show (BitVec.ofInt 16 (n : Int)).toNat = n
 rw [BitVec.toNat_ofInt]
 omega
section
variable {P : Program}
theorem aaU {t : TypeId} {a : Nat} (ha : a < 65536) : Bin P .and t (.int .u16 (a : Nat)) (.int .u16 1) (.int .u16 ((a % 2 : Nat) : Int)) := ⟨fun x y w => by
 have e : (BitVec.ofInt (IntKind.bits .u16) (a : Int) &&& BitVec.ofInt (IntKind.bits .u16) (1 : Int)).toNat = a % 2 := by
  rw [BitVec.toNat_and, aed ha, show (BitVec.ofInt (IntKind.bits .u16) (1 : Int)).toNat = 1 from rfl, Nat.and_one_is_mod]
 have h2 : a % 2 < 65536 := by omega
 simp only [eqGuard, binOp, Op.intBits, e, afh h2]
 rfl⟩
theorem yk {t : TypeId} {k : IntKind} {a u : Nat} (ha : a < 65536) : Bin P .shr t (.int .u16 (a : Nat)) (.int k (u : Nat)) (.int .u16 ((a / 2 ^ u : Nat) : Int)) := ⟨fun x y w => by
 have hneg : ¬ ((u : Nat) : Int) < 0 := by omega
 have e : ((a : Nat) : Int).fdiv (2 ^ (min u (IntKind.bits .u16))) = ((a / 2 ^ u : Nat) : Int) := by
  rw [Int.fdiv_eq_ediv_of_nonneg _ (by exact_mod_cast Nat.zero_le _)]
  show ((a : Nat) : Int) / 2 ^ (min u 16) = _
  rcases Nat.le_or_ge u 16 with h | h
  · rw [Nat.min_eq_left h]; simp
  · rw [Nat.min_eq_right h]
    have h1 : a / 2 ^ u = 0 := by
     rw [Nat.div_eq_of_lt]
     exact Nat.lt_of_lt_of_le ha (by rw [show 65536 = 2 ^ 16 by decide]; exact Nat.pow_le_pow_right (by decide) h)
    rw [h1]
    omega
 simp only [eqGuard, binOp, Op.shift, if_neg hneg, Int.toNat_natCast, e]
 rfl⟩
end
theorem V7 (a u : Nat) : a.testBit u = decide (a / 2 ^ u % 2 = 1) := Nat.testBit_eq_decide_div_mod_eq
end Go.Proofs.YtbjkkoacclfejaaGreat
namespace Go.Proofs.YtbjkkoacclfejaaGreat
open Go.RowKit
open Cn (Zo Cf)
variable {G : World} {L : ja}
def akT (w : Nm.Bytes) (most : Nat) : Value := match Cn.numP w most with
 | some n => .tuple #[.int .i64 (n : Nat), .bool true]
 | none => .tuple #[.int .i64 0, .bool false]
end Go.Proofs.YtbjkkoacclfejaaGreat
