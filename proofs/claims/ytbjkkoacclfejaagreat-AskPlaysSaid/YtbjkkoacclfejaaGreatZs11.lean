/-
 Part 11: Es Et Eu Ew Ev Ey Ie Ez If Ig OpE.
-/
import Derived.Test.YtbjkkoacclfejaaGreatZs10
import Derived.Test.YtbjkkoacclfejaaGreatZs5
import Derived.Test.YtbjkkoacclfejaaGreatZs1
import Derived.Test.YtbjkkoacclfejaaGreatZs2
import Derived.Test.YtbjkkoacclfejaaGreatZs7
set_option maxRecDepth 100000
set_option maxHeartbeats 32000000
set_option linter.unusedVariables false
set_option linter.unusedSimpArgs false
namespace Go.Proofs.YtbjkkoacclfejaaGreat
section
open Go.RowKit
open Vd (RSet Vdt Vote Rec Quest Piece Ballot)
variable {G : World} {L : ja}
def kS (s : RSet) : List Rec := s.data.map fun d => ⟨s.name, s.kind, s.cls, s.ttl, d⟩
def jD (l : List RSet) : List Rec := l.flatMap kS
theorem uY (l : List RSet) : 10 * (jD l).length ≤ yp l := by
 induction l with
 | nil => simp [jD]
 | cons s l ih =>
   have h3 := Zy (l := s.data.map um) (c := 10) (fun x hx => by obtain ⟨d, _, rfl⟩ := List.mem_map.1 hx; unfold um; omega)
   rw [List.length_map] at h3
   have h4 : uX s = 30 + min 6000 s.name.length + (s.data.map um).sum := rfl
   have h5 : yp (s :: l) = uX s + yp l := by simp [yp]
   have h6 : (jD (s :: l)).length = s.data.length + (jD l).length := by simp [jD, kS]
   omega
theorem Vl (cs : List Value) (s : RSet) (hs : rsR L cs s) (hn : s.name.length ≤ maxLen) (hd : s.data.length ≤ 100000) : Spec Tryz.prog G 53 #[.agg cs.toArray] L fun u M => ∃ a c B, u = .slice a (kS s).length c ∧ ORow yR 177 5 [] a c (kS s) B ∧ M = B ++ L := by
 obtain ⟨da, dc, rfl, hsd, _, hkk, hc, ht⟩ := hs.vals
 have hdl := J0 hsd
 have hl := sliceR.cut hsd
 unfold maxLen at hl
 obtain ⟨_, hl1, hl2, hl⟩ := hl
 refine jm (n := 30) Tryz.func53 rfl rfl rfl ?_
 repeat (first | refine goA ?_ | (refine kl ?_; intro bBox))
 obtain ⟨C0, hC0⟩ : ∃ C : Array Value, C = #[.string (bs s.name), .int .u16 s.kind, .int .u16 s.cls, .int .u32 s.ttl, .slice da s.data.length dc] := ⟨_, rfl⟩
 rw [← hC0]
 have g0 : C0[0 + 0]? = some (.string (bs s.name)) := by rw [hC0]; rfl
 have g1 : C0[0 + 1]? = some (.int .u16 s.kind) := by rw [hC0]; rfl
 have g2 : C0[0 + 2]? = some (.int .u16 s.cls) := by rw [hC0]; rfl
 have g3 : C0[0 + 3]? = some (.int .u32 s.ttl) := by rw [hC0]; rfl
 have g4 : C0[0 + 4]? = some (.slice da s.data.length dc) := by rw [hC0]; rfl
 clear hC0
 refine jy (σ := Nat × Option Addr × Nat × ja) (fun x => x.1 ≤ s.data.length ∧ ORow yR 177 5 [] x.2.1 x.2.2.1 ((kS s).take x.1) x.2.2.2) (fun x => [(1, .pointer (some ⟨bBox, 0, none⟩)), (3, .slice x.2.1 ((kS s).take x.1).length x.2.2.1), (4, .int .i64 (x.1 : Nat))]) (fun x => x.2.2.2 ++ ((bBox, Obj.cells C0 122 (0, 0)) :: L)) (fun x => s.data.length - x.1) (0, none, 0, []) ⟨Nat.zero_le _, by simpa using ORow.nil _⟩ ?_ (fun w h => h) ?_
 exact jr
 rintro ⟨k, y, yc, B⟩ ⟨hk, hR⟩
 dsimp only at hk hR ⊢
 have hrl : (kS s).length = s.data.length := by simp [kS]
 have htl : ((kS s).take k).length = k := by rw [List.length_take, hrl]; omega
 by_cases hlt : k < s.data.length
 · obtain ⟨d, hdk⟩ : ∃ d, s.data[k]? = some d := ⟨_, List.getElem?_eq_getElem hlt⟩
   obtain ⟨b1, o1, C1, t1, f1, rfl, m1, cs1, _, ⟨rfl, hdm⟩, hcs1⟩ := sliceR.at hsd hdk
   have c1 : C1[o1 + k * 1]? = some (.string (bs d)) := hcs1 0 _ rfl
   have hrk : (kS s)[k]? = some ⟨s.name, s.kind, s.cls, s.ttl, d⟩ := We _ hdk
   have hsucc : (kS s).take (k + 1) = (kS s).take k ++ [⟨s.name, s.kind, s.cls, s.ttl, d⟩] := by rw [List.take_add_one, hrk]; rfl
   have hK : ∀ z ∈ [(bBox, Obj.cells C0 122 (0, 0)), (b1, Obj.cells C1 t1 f1)], z ∈ B ++ ((bBox, Obj.cells C0 122 (0, 0)) :: L) := fun z hz => by
    simp only [List.mem_cons, List.not_mem_nil, or_false] at hz
    rcases hz with rfl | rfl
    · simp
    · exact List.mem_append_right _ (List.mem_cons_of_mem _ m1)
   have hK2 : ∀ A : ja, ∀ z ∈ [(bBox, Obj.cells C0 122 (0, 0)), (b1, Obj.cells C1 t1 f1)], z ∈ A ++ ((bBox, Obj.cells C0 122 (0, 0)) :: L) := fun A z hz => by
    simp only [List.mem_cons, List.not_mem_nil, or_false] at hz
    rcases hz with rfl | rfl
    · simp
    · exact List.mem_append_right _ (List.mem_cons_of_mem _ m1)
   refine goA ?_
   refine jq jb ([(bBox, Obj.cells C0 122 (0, 0)), (b1, Obj.cells C1 t1 f1)]) [] ?_
   refine tkQ 0 ?_
   refine tkQ 1 ?_
   refine tkQ 2 ?_
   refine tkQ 3 ?_
   refine tkQ 4 ?_
   refine tkQ 5 ?_
   refine tkQ 6 ?_
   refine tkQ 7 ?_
   refine tkQ 8 ?_
   refine tkQ 9 ?_
   refine tkQ 10 ?_
   refine tkQ 11 ?_
   refine tkQ 12 ?_
   refine tkQ 13 ?_
   (refine' jp 14 rfl rfl je (jL (jl rfl (u9 _ _ _ _ _))) ?_ ?_; (· assumption))
   refine jF 15 je rfl rfl rfl rfl (qC (cs := [.string (bs s.name), .int .u16 s.kind, .int .u16 s.cls, .int .u32 s.ttl, .string (bs d)]) etO rfl rfl (by decide)) ?_; rintro _ _ ⟨bl, rfl, rfl⟩; refine ⟨Or.inr (fun z hz => List.mem_cons_of_mem _ (hK z hz)), ?_⟩
   refine jF 16 je rfl rfl rfl rfl (uv (cs := [.string (bs s.name), .int .u16 s.kind, .int .u16 s.cls, .int .u32 s.ttl, .string (bs d)]) (y := (⟨s.name, s.kind, s.cls, s.ttl, d⟩ : Rec)) etO rfl rfl hR rfl (by intro v hv; simp only [List.mem_cons, List.not_mem_nil, or_false] at hv; rcases hv with rfl | rfl | rfl | rfl | rfl <;> rfl) ⟨rfl, hn, hdm, hkk, hc, ht⟩ (by unfold maxLen; omega) jd) ?_; rintro _ _ ⟨a2, c2, B2, rfl, hB2, rfl⟩; refine ⟨Or.inr (hK2 B2), ?_⟩
   refine tkQ 17 ?_
   refine tdQ ?_
   refine goA ?_
   rw [← hsucc] at hB2 ⊢
   refine jh (k + 1, a2, c2, B2) ⟨hlt, hB2⟩ ?_ (fun w h => h) (by dsimp only; omega)
   exact jr
 · have hke : k = (kS s).length := by omega
   have hta : (kS s).take k = kS s := by rw [hke, List.take_length]
   rw [hta] at hR ⊢
   refine goA ?_
   refine jJ (L' := B ++ L) ?_ jn
   refine ji 2 _ rfl rfl ?_
   exact ⟨y, yc, B, rfl, hR, rfl⟩
def Qc (q : Quest) (v : Vdt) : Bool := decide ((Vd.ofM q ⟨v.code, jD v.sets, jD v.soa⟩).2.2 = 0 ∧ (Vd.ofM q ⟨v.code, jD v.sets, jD v.soa⟩).1 = v)
theorem afr {L : ja} {m : Vd.Msg} {a b : Value} (vq : Value) (hq : vq.oneCell' = true) (hc : 0 ≤ m.code ∧ m.code ≤ 255) (ha : sliceR 5 yR L [a] m.answers) (hb : sliceR 5 yR L [b] m.auth) :
 msgR L [.int .u16 0, .bool true, .int .u8 0, .bool false, .bool false, .bool false, .bool false, .bool false, .bool false, .bool false, .int .u8 m.code, vq, a, b, .slice none 0 0, .bool false, .int .u16 0, .int .u8 0, .int .u8 0, .int .u16 0, .slice none 0 0] m := by
 obtain ⟨x1, k1, e1, ha⟩ := ha.val
 obtain rfl := (List.cons.inj e1).1
 obtain ⟨x2, k2, e2, hb⟩ := hb.val
 obtain rfl := (List.cons.inj e2).1
 refine ⟨_, _, _, _, _, _, _, _, _, _, _, _, _, _, _, _, _, _, _, _, rfl, ha, hb, hc, fun w hw => ?_⟩
 simp only [List.mem_cons, List.not_mem_nil, or_false] at hw
 rcases hw with rfl | rfl | rfl | rfl | rfl | rfl | rfl | rfl | rfl | rfl | rfl | rfl | rfl | rfl | rfl | rfl | rfl | rfl | rfl | rfl | rfl <;> (first | rfl | exact hq)
theorem Vm (l : List RSet) (k : Nat) : yp (l.take k) ≤ yp l := by
 unfold yp
 rw [List.map_take]
 exact zw _ _
theorem Yw {L : ja} : ∀ cs y, yR L cs y → ∀ v ∈ cs, v.oneCell' = true := by
 rintro cs y ⟨rfl, _⟩ v hv
 simp only [List.mem_cons, List.not_mem_nil, or_false] at hv
 rcases hv with rfl | rfl | rfl | rfl | rfl <;> rfl
theorem acR (q : Quest) (v : Vdt) (cv : List Value) (hv : vdR L cv v) (hq1 : q.name.length ≤ 1000000) (hq2 : 0 ≤ q.kind ∧ q.kind ≤ 65535) (hq3 : 0 ≤ q.cls ∧ q.cls ≤ 65535) (hl1 : LSm v.sets) (hl2 : LSm v.soa) :
 Spec Tryz.prog G 21 #[.agg (kq q), .agg cv.toArray] L fun u M => u = .bool (Qc q v) ∧ M = L := by
 obtain ⟨a1, c1, a2, c2, rfl, h1, h2, hcode⟩ := hv.vals
 have k1 := (sliceR.cut h1).2
 have k2 := (sliceR.cut h2).2
 unfold maxLen at k1 k2
 obtain ⟨k11, k12, _⟩ := k1
 obtain ⟨k21, k22, _⟩ := k2
 have ht1 := hl1.tot
 have ht2 := hl2.tot
 refine jm (n := 64) Tryz.func21 rfl rfl rfl ?_
 repeat (first | refine goA ?_ | (refine jO ?_; intro bNew) | (refine kl ?_; intro bBox))
 obtain ⟨b5, hb5⟩ : ∃ b, bNew = b := ⟨_, rfl⟩
 rw [hb5]
 clear hb5
 obtain ⟨b3, hb3⟩ : ∃ b, bBox = b := ⟨_, rfl⟩
 rw [hb3]
 clear hb3
 rename_i b2
 refine j0 (kr (vs := [(0, .slice a1 v.sets.length c1), (1, .slice a2 v.soa.length c2)]) rfl (uS (C := #[.slice a1 v.sets.length c1, .slice a2 v.soa.length c2]) etO [.slice a1 v.sets.length c1, .slice a2 v.soa.length c2] rfl (by simp [Value.cells]) (by decide) rfl)) rfl ?_
 intro bl
 refine goA ?_
 refine jy (σ := Nat × (Option Addr × Nat × ja) × (Option Addr × Nat × ja)) (fun x => x.1 ≤ 2 ∧ ORow yR 177 5 [] x.2.1.1 x.2.1.2.1 (if x.1 = 0 then [] else jD v.sets) x.2.1.2.2 ∧ ORow yR 177 5 [] x.2.2.1 x.2.2.2.1 (if x.1 ≤ 1 then [] else jD v.soa) x.2.2.2.2 ∧ (x.1 = 0 → x.2.1 = (none, 0, [])) ∧ (x.1 ≤ 1 → x.2.2 = (none, 0, [])))
  (fun x => [(2, .pointer (some ⟨b2, 0, none⟩)), (3, .pointer (some ⟨b3, 0, none⟩)), (5, .pointer (some ⟨b5, 0, none⟩)), (16, .slice (some ⟨bl, 0, none⟩) 2 2), (17, .int .i64 2), (18, .int .i64 (x.1 : Nat))])
  (fun x => (b5, Obj.cells #[.slice x.2.1.1 (if x.1 = 0 then [] else jD v.sets).length x.2.1.2.1, .slice x.2.2.1 (if x.1 ≤ 1 then [] else jD v.soa).length x.2.2.2.1] 117 (0, 0)) :: (x.2.1.2.2 ++ (x.2.2.2.2 ++ ((bl, Obj.cells #[.slice a1 v.sets.length c1, .slice a2 v.soa.length c2] 38 (0, 0)) :: (b3, Obj.cells #[.int .u8 v.code, .slice a1 v.sets.length c1, .slice a2 v.soa.length c2] 40 (0, 0)) :: (b2, Obj.cells (kq q) 24 (0, 0)) :: L)))) (fun x => 2 - x.1) (0, (none, 0, []), (none, 0, [])) ⟨by decide, ORow.nil _, ORow.nil _, fun _ => rfl, fun _ => rfl⟩ ?_ (fun w h => by dsimp only; rw [if_pos rfl, if_pos (by decide)]; simp only [List.length_nil]; exact h.cnt jn) ?_
 exact jr
 rintro ⟨i, ⟨y0, yc0, B0⟩, ⟨y1, yc1, B1⟩⟩ ⟨hi, h0, h1r, e0, e1⟩
 dsimp only at hi h0 h1r e0 e1 ⊢
 rcases (by omega : i = 0 ∨ i = 1 ∨ i = 2) with rfl | rfl | rfl
 · obtain ⟨rfl, rfl, rfl⟩ : y0 = none ∧ yc0 = 0 ∧ B0 = [] := by simpa using e0 rfl
   obtain ⟨rfl, rfl, rfl⟩ : y1 = none ∧ yc1 = 0 ∧ B1 = [] := by simpa using e1 (by decide)
   refine Wp [(2, .pointer (some ⟨b2, 0, none⟩)), (3, .pointer (some ⟨b3, 0, none⟩)), (5, .pointer (some ⟨b5, 0, none⟩)), (16, .slice (some ⟨bl, 0, none⟩) 2 2), (17, .int .i64 2), (18, .int .i64 ((0 : Nat) : Int))] ((b5, Obj.cells #[.slice none 0 0, .slice none 0 0] 117 (0, 0)) :: ((bl, Obj.cells #[.slice a1 v.sets.length c1, .slice a2 v.soa.length c2] 38 (0, 0)) :: (b3, Obj.cells #[.int .u8 v.code, .slice a1 v.sets.length c1, .slice a2 v.soa.length c2] 40 (0, 0)) :: (b2, Obj.cells (kq q) 24 (0, 0)) :: L)) ?_ ?_ ?_
   exact jr
   · intro w h
     rw [if_pos rfl, if_pos (by decide)] at h
     simp only [List.length_nil] at h
     exact h.cnt jn
   refine goA ?_
   obtain ⟨X, hX⟩ : ∃ z, z = v.sets := ⟨_, rfl⟩
   obtain ⟨ax, hax⟩ : ∃ z, z = a1 := ⟨_, rfl⟩
   obtain ⟨cx, hcx⟩ : ∃ z, z = c1 := ⟨_, rfl⟩
   obtain ⟨ii, hii⟩ : ∃ z : Int, z = ((0 : Nat) : Int) := ⟨_, rfl⟩
   obtain ⟨f, hf⟩ : ∃ f : Value → Array Value, f = fun x => #[x, .slice none 0 0] := ⟨_, rfl⟩
   obtain ⟨RST, hRST⟩ : ∃ B : ja, B = (bl, Obj.cells #[.slice a1 v.sets.length c1, .slice a2 v.soa.length c2] 38 (0, 0)) :: (b3, Obj.cells #[.int .u8 v.code, .slice a1 v.sets.length c1, .slice a2 v.soa.length c2] 40 (0, 0)) :: (b2, Obj.cells (kq q) 24 (0, 0)) :: L := ⟨_, rfl⟩
   have hf1 : ∀ x, (f x)[0 + ii.toNat * 1]? = some x := fun x => by rw [hf, hii]; rfl
   have hf2 : ∀ x y, (f x).setIfInBounds (0 + ii.toNat * 1) y = f y := fun x y => by rw [hf, hii]; rfl
   have hiiB : 0 ≤ ii ∧ ii < 2 := by rw [hii]; decide
   have hxs : sliceR 5 rsR L [.slice ax X.length cx] X := by rw [hax, hX, hcx]; exact h1
   have hlX : LSm X := by rw [hX]; exact hl1
   have hLR : ∀ p ∈ L, p ∈ RST := by rw [hRST]; intro p hp; simp [hp]
   have hXc : X.length ≤ cx ∧ cx ≤ 9223372036854775807 := by rw [hX, hcx]; omega
   have htX := hlX.tot
   skip
   refine jy (σ := Nat × Option Addr × Nat × ja) (fun x => x.1 ≤ X.length ∧ ORow yR 177 5 [] x.2.1 x.2.2.1 (jD (X.take x.1)) x.2.2.2) (fun x => [(2, .pointer (some ⟨b2, 0, none⟩)), (3, .pointer (some ⟨b3, 0, none⟩)), (5, .pointer (some ⟨b5, 0, none⟩)), (16, .slice (some ⟨bl, 0, none⟩) 2 2), (17, .int .i64 2), (18, .int .i64 ii), (6, .int .i64 ii), (7, .slice ax X.length cx), (8, .int .i64 (x.1 : Nat))]) (fun x => (b5, Obj.cells (f (.slice x.2.1 (jD (X.take x.1)).length x.2.2.1)) 117 (0, 0)) :: (x.2.2.2 ++ RST)) (fun x => X.length - x.1) (0, none, 0, []) ⟨Nat.zero_le _, by simpa [jD] using ORow.nil _⟩ ?_ (fun w h => by rw [hf, hRST]; exact h) ?_
   · (rw [hX, hax, hcx, hii]; (repeat (first | exact trivial | refine ⟨rfl, ?_⟩)))
   rintro ⟨k, y, yc, B⟩ ⟨hk, hR⟩
   dsimp only at hk hR ⊢
   have hrl : (jD (X.take k)).length ≤ 600 := by
    have := uY (X.take k)
    have h2 := Vm X k
    omega
   by_cases hlt : k < X.length
   · obtain ⟨s, hsk⟩ : ∃ s, X[k]? = some s := ⟨_, List.getElem?_eq_getElem hlt⟩
     obtain ⟨w1, o1, C1, t1, f1, haw, m1, cs1, _, hcs0, hcs⟩ := sliceR.at hxs hsk
     rw [haw]
     obtain ⟨da, dc, rfl, hd, hsn, _⟩ := id hcs0.vals
     obtain ⟨hs1, hs2, hs3⟩ := hlX.set (List.mem_of_getElem? hsk)
     have hsucc : jD (X.take (k + 1)) = jD (X.take k) ++ kS s := by unfold jD; rw [List.take_add_one, hsk, List.flatMap_append]; simp
     have hrs : (kS s).length ≤ 600 := by simpa [kS] using hs2
     have hset : ∀ j w, ([.string (bs s.name), .int .u16 s.kind, .int .u16 s.cls, .int .u32 s.ttl, .slice da s.data.length dc] : List Value)[j]? = some w → C1[o1 + k * 5 + j]? = some w := hcs
     have hf3 := hf1 (.slice y (jD (X.take k)).length yc)
     have hKA : ∀ (A : ja), ∀ z ∈ [(b5, Obj.cells (f (.slice y (jD (X.take k)).length yc)) 117 (0, 0)), (w1, Obj.cells C1 t1 f1)], z ∈ A ++ ((b5, Obj.cells (f (.slice y (jD (X.take k)).length yc)) 117 (0, 0)) :: RST) := fun A z hz => by
      simp only [List.mem_cons, List.not_mem_nil, or_false] at hz
      rcases hz with rfl | rfl
      · simp
      · exact List.mem_append_right _ (List.mem_cons_of_mem _ (hLR _ m1))
     have hK : ∀ z ∈ [(b5, Obj.cells (f (.slice y (jD (X.take k)).length yc)) 117 (0, 0)), (w1, Obj.cells C1 t1 f1)], z ∈ (b5, Obj.cells (f (.slice y (jD (X.take k)).length yc)) 117 (0, 0)) :: (B ++ RST) := fun z hz => by
      simp only [List.mem_cons, List.not_mem_nil, or_false] at hz
      rcases hz with rfl | rfl
      · exact List.mem_cons_self ..
      · exact List.mem_cons_of_mem _ (List.mem_append_right _ (hLR _ m1))
     refine goA ?_
     refine jq jb ([(b5, Obj.cells (f (.slice y (jD (X.take k)).length yc)) 117 (0, 0)), (w1, Obj.cells C1 t1 f1)]) [11] ?_
     refine tkQ 0 ?_
     refine tkQ 1 ?_
     refine tkQ 2 ?_
     refine tkQ 3 ?_
     refine tkQ 4 ?_
     refine tkQ 5 ?_
     refine tkQ 6 ?_
     (refine' jp 7 rfl rfl je (jL (jA [.string (bs s.name), .int .u16 s.kind, .int .u16 s.cls, .int .u32 s.ttl, .slice da s.data.length dc] rfl stL (List.mem_cons_of_mem _ (List.mem_singleton.2 rfl)) hset)) ?_ ?_; (· assumption))
     refine jF 8 je rfl rfl rfl rfl (jc je rfl (Vl _ s (jC _ _ _ _ (fun p hp => List.mem_cons_of_mem _ (List.mem_append_right _ (hLR p hp))) hcs0) hsn jd)) ?_; rintro _ _ ⟨ra, rc, RB, rfl, hRB, rfl⟩; refine ⟨Or.inr (fun z hz => List.mem_append_right _ (hK z hz)), ?_⟩
     refine j6 (L' := B ++ (RB ++ ((b5, Obj.cells (f (.slice y (jD (X.take k)).length yc)) 117 (0, 0)) :: RST))) ?_ jn; refine jF 9 je rfl rfl rfl rfl (kP (r := yR) (L0 := RB) (l := jD (X.take k)) (m := kS s) etO rfl rfl rfl rfl (hR.mono qx (by simp)) (hRB.sliceR qx (by simp) (fun p hp => hp)) (fun p hp => List.mem_append_left _ hp) qx Yw jd (by decide)) ?_; rintro _ _ ⟨a3, c3, B3, rfl, hB3, rfl⟩; refine ⟨Or.inr (fun z hz => by have := hKA (B3 ++ RB) z hz; simpa using this), ?_⟩
     refine tkQ 10 ?_
     refine j6 (L' := (b5, Obj.cells (f (.slice y (jD (X.take k)).length yc)) 117 (0, 0)) :: (B3 ++ (RB ++ RST))) ?_ jn; refine jZ 11 je rfl rfl rfl (ul rfl rfl onO rfl hf3 (hf2 _ _)) ?_; rintro _ _ ⟨_, rfl⟩; refine ⟨Or.inl (by simp), ?_⟩
     refine tdQ ?_
     refine goA ?_
     rw [← hsucc] at hB3 ⊢
     refine jh (k + 1, a3, c3, B3) ⟨hlt, hB3.imp (fun cs x _ h => h)⟩ ?_ (fun w h => h.cnt jn) (by dsimp only; omega)
     exact jr
   · have hta : X.take k = X := List.take_of_length_le jd
     rw [hta] at hR ⊢
     rw [hX] at hR ⊢
     rw [hii, hf, hRST]
     rw [hX] at hlt
     refine goA ?_
     refine jh (1, (y, yc, B), (none, 0, [])) ⟨show 1 ≤ 2 by decide, hR, ORow.nil _, fun h => (by cases h), fun _ => rfl⟩ ?_ (fun w h => by dsimp only; rw [if_neg (by decide), if_pos (by decide)]; simp only [List.length_nil]; exact h.cnt jn) (by show 2 - 1 < 2 - 0; decide)
     exact jr
 · obtain ⟨rfl, rfl, rfl⟩ : y1 = none ∧ yc1 = 0 ∧ B1 = [] := by simpa using e1 (by decide)
   refine Wp [(2, .pointer (some ⟨b2, 0, none⟩)), (3, .pointer (some ⟨b3, 0, none⟩)), (5, .pointer (some ⟨b5, 0, none⟩)), (16, .slice (some ⟨bl, 0, none⟩) 2 2), (17, .int .i64 2), (18, .int .i64 ((1 : Nat) : Int))] ((b5, Obj.cells #[.slice y0 (jD v.sets).length yc0, .slice none 0 0] 117 (0, 0)) :: (B0 ++ ((bl, Obj.cells #[.slice a1 v.sets.length c1, .slice a2 v.soa.length c2] 38 (0, 0)) :: (b3, Obj.cells #[.int .u8 v.code, .slice a1 v.sets.length c1, .slice a2 v.soa.length c2] 40 (0, 0)) :: (b2, Obj.cells (kq q) 24 (0, 0)) :: L))) ?_ ?_ ?_
   exact jr
   · intro w h
     rw [if_neg (by decide), if_pos (by decide)] at h
     simp only [List.length_nil] at h
     exact h.cnt jn
   refine goA ?_
   obtain ⟨X, hX⟩ : ∃ z, z = v.soa := ⟨_, rfl⟩
   obtain ⟨ax, hax⟩ : ∃ z, z = a2 := ⟨_, rfl⟩
   obtain ⟨cx, hcx⟩ : ∃ z, z = c2 := ⟨_, rfl⟩
   obtain ⟨ii, hii⟩ : ∃ z : Int, z = ((1 : Nat) : Int) := ⟨_, rfl⟩
   obtain ⟨f, hf⟩ : ∃ f : Value → Array Value, f = fun x => #[.slice y0 (jD v.sets).length yc0, x] := ⟨_, rfl⟩
   obtain ⟨RST, hRST⟩ : ∃ B : ja, B = B0 ++ ((bl, Obj.cells #[.slice a1 v.sets.length c1, .slice a2 v.soa.length c2] 38 (0, 0)) :: (b3, Obj.cells #[.int .u8 v.code, .slice a1 v.sets.length c1, .slice a2 v.soa.length c2] 40 (0, 0)) :: (b2, Obj.cells (kq q) 24 (0, 0)) :: L) := ⟨_, rfl⟩
   have hf1 : ∀ x, (f x)[0 + ii.toNat * 1]? = some x := fun x => by rw [hf, hii]; rfl
   have hf2 : ∀ x y, (f x).setIfInBounds (0 + ii.toNat * 1) y = f y := fun x y => by rw [hf, hii]; rfl
   have hiiB : 0 ≤ ii ∧ ii < 2 := by rw [hii]; decide
   have hxs : sliceR 5 rsR L [.slice ax X.length cx] X := by rw [hax, hX, hcx]; exact h2
   have hlX : LSm X := by rw [hX]; exact hl2
   have hLR : ∀ p ∈ L, p ∈ RST := by rw [hRST]; intro p hp; simp [hp]
   have hXc : X.length ≤ cx ∧ cx ≤ 9223372036854775807 := by rw [hX, hcx]; omega
   have htX := hlX.tot
   skip
   refine jy (σ := Nat × Option Addr × Nat × ja) (fun x => x.1 ≤ X.length ∧ ORow yR 177 5 [] x.2.1 x.2.2.1 (jD (X.take x.1)) x.2.2.2) (fun x => [(2, .pointer (some ⟨b2, 0, none⟩)), (3, .pointer (some ⟨b3, 0, none⟩)), (5, .pointer (some ⟨b5, 0, none⟩)), (16, .slice (some ⟨bl, 0, none⟩) 2 2), (17, .int .i64 2), (18, .int .i64 ii), (6, .int .i64 ii), (7, .slice ax X.length cx), (8, .int .i64 (x.1 : Nat))]) (fun x => (b5, Obj.cells (f (.slice x.2.1 (jD (X.take x.1)).length x.2.2.1)) 117 (0, 0)) :: (x.2.2.2 ++ RST)) (fun x => X.length - x.1) (0, none, 0, []) ⟨Nat.zero_le _, by simpa [jD] using ORow.nil _⟩ ?_ (fun w h => by rw [hf, hRST]; exact h) ?_
   · (rw [hX, hax, hcx, hii]; (repeat (first | exact trivial | refine ⟨rfl, ?_⟩)))
   rintro ⟨k, y, yc, B⟩ ⟨hk, hR⟩
   dsimp only at hk hR ⊢
   have hrl : (jD (X.take k)).length ≤ 600 := by
    have := uY (X.take k)
    have h2 := Vm X k
    omega
   by_cases hlt : k < X.length
   · obtain ⟨s, hsk⟩ : ∃ s, X[k]? = some s := ⟨_, List.getElem?_eq_getElem hlt⟩
     obtain ⟨w1, o1, C1, t1, f1, haw, m1, cs1, _, hcs0, hcs⟩ := sliceR.at hxs hsk
     rw [haw]
     obtain ⟨da, dc, rfl, hd, hsn, _⟩ := id hcs0.vals
     obtain ⟨hs1, hs2, hs3⟩ := hlX.set (List.mem_of_getElem? hsk)
     have hsucc : jD (X.take (k + 1)) = jD (X.take k) ++ kS s := by unfold jD; rw [List.take_add_one, hsk, List.flatMap_append]; simp
     have hrs : (kS s).length ≤ 600 := by simpa [kS] using hs2
     have hset : ∀ j w, ([.string (bs s.name), .int .u16 s.kind, .int .u16 s.cls, .int .u32 s.ttl, .slice da s.data.length dc] : List Value)[j]? = some w → C1[o1 + k * 5 + j]? = some w := hcs
     have hf3 := hf1 (.slice y (jD (X.take k)).length yc)
     have hKA : ∀ (A : ja), ∀ z ∈ [(b5, Obj.cells (f (.slice y (jD (X.take k)).length yc)) 117 (0, 0)), (w1, Obj.cells C1 t1 f1)], z ∈ A ++ ((b5, Obj.cells (f (.slice y (jD (X.take k)).length yc)) 117 (0, 0)) :: RST) := fun A z hz => by
      simp only [List.mem_cons, List.not_mem_nil, or_false] at hz
      rcases hz with rfl | rfl
      · simp
      · exact List.mem_append_right _ (List.mem_cons_of_mem _ (hLR _ m1))
     have hK : ∀ z ∈ [(b5, Obj.cells (f (.slice y (jD (X.take k)).length yc)) 117 (0, 0)), (w1, Obj.cells C1 t1 f1)], z ∈ (b5, Obj.cells (f (.slice y (jD (X.take k)).length yc)) 117 (0, 0)) :: (B ++ RST) := fun z hz => by
      simp only [List.mem_cons, List.not_mem_nil, or_false] at hz
      rcases hz with rfl | rfl
      · exact List.mem_cons_self ..
      · exact List.mem_cons_of_mem _ (List.mem_append_right _ (hLR _ m1))
     refine goA ?_
     refine jq jb ([(b5, Obj.cells (f (.slice y (jD (X.take k)).length yc)) 117 (0, 0)), (w1, Obj.cells C1 t1 f1)]) [11] ?_
     refine tkQ 0 ?_
     refine tkQ 1 ?_
     refine tkQ 2 ?_
     refine tkQ 3 ?_
     refine tkQ 4 ?_
     refine tkQ 5 ?_
     refine tkQ 6 ?_
     (refine' jp 7 rfl rfl je (jL (jA [.string (bs s.name), .int .u16 s.kind, .int .u16 s.cls, .int .u32 s.ttl, .slice da s.data.length dc] rfl stL (List.mem_cons_of_mem _ (List.mem_singleton.2 rfl)) hset)) ?_ ?_; (· assumption))
     refine jF 8 je rfl rfl rfl rfl (jc je rfl (Vl _ s (jC _ _ _ _ (fun p hp => List.mem_cons_of_mem _ (List.mem_append_right _ (hLR p hp))) hcs0) hsn jd)) ?_; rintro _ _ ⟨ra, rc, RB, rfl, hRB, rfl⟩; refine ⟨Or.inr (fun z hz => List.mem_append_right _ (hK z hz)), ?_⟩
     refine j6 (L' := B ++ (RB ++ ((b5, Obj.cells (f (.slice y (jD (X.take k)).length yc)) 117 (0, 0)) :: RST))) ?_ jn; refine jF 9 je rfl rfl rfl rfl (kP (r := yR) (L0 := RB) (l := jD (X.take k)) (m := kS s) etO rfl rfl rfl rfl (hR.mono qx (by simp)) (hRB.sliceR qx (by simp) (fun p hp => hp)) (fun p hp => List.mem_append_left _ hp) qx Yw jd (by decide)) ?_; rintro _ _ ⟨a3, c3, B3, rfl, hB3, rfl⟩; refine ⟨Or.inr (fun z hz => by have := hKA (B3 ++ RB) z hz; simpa using this), ?_⟩
     refine tkQ 10 ?_
     refine j6 (L' := (b5, Obj.cells (f (.slice y (jD (X.take k)).length yc)) 117 (0, 0)) :: (B3 ++ (RB ++ RST))) ?_ jn; refine jZ 11 je rfl rfl rfl (ul rfl rfl onO rfl hf3 (hf2 _ _)) ?_; rintro _ _ ⟨_, rfl⟩; refine ⟨Or.inl (by simp), ?_⟩
     refine tdQ ?_
     refine goA ?_
     rw [← hsucc] at hB3 ⊢
     refine jh (k + 1, a3, c3, B3) ⟨hlt, hB3.imp (fun cs x _ h => h)⟩ ?_ (fun w h => h.cnt jn) (by dsimp only; omega)
     exact jr
   · have hta : X.take k = X := List.take_of_length_le jd
     rw [hta] at hR ⊢
     rw [hX] at hR ⊢
     rw [hii, hf, hRST]
     rw [hX] at hlt
     refine goA ?_
     refine jh (2, (y0, yc0, B0), (y, yc, B)) ⟨show 2 ≤ 2 by decide, h0, hR, fun h => (by cases h), fun h => absurd h (show ¬ 2 ≤ 1 by decide)⟩ ?_ (fun w h => by dsimp only; rw [if_neg (by decide), if_neg (by decide)]; exact h.cnt jn) (by show 2 - 2 < 2 - 1; decide)
     exact jr
 · refine Wp [(2, .pointer (some ⟨b2, 0, none⟩)), (3, .pointer (some ⟨b3, 0, none⟩)), (5, .pointer (some ⟨b5, 0, none⟩)), (16, .slice (some ⟨bl, 0, none⟩) 2 2), (17, .int .i64 2), (18, .int .i64 ((2 : Nat) : Int))] ((b5, Obj.cells #[.slice y0 (jD v.sets).length yc0, .slice y1 (jD v.soa).length yc1] 117 (0, 0)) :: (B0 ++ (B1 ++ ((bl, Obj.cells #[.slice a1 v.sets.length c1, .slice a2 v.soa.length c2] 38 (0, 0)) :: (b3, Obj.cells #[.int .u8 v.code, .slice a1 v.sets.length c1, .slice a2 v.soa.length c2] 40 (0, 0)) :: (b2, Obj.cells (kq q) 24 (0, 0)) :: L)))) ?_ ?_ ?_
   exact jr
   · intro w h
     rw [if_neg (by decide), if_neg (by decide)] at h
     exact h
   have h0' : ORow yR 177 5 [] y0 yc0 (jD v.sets) B0 := h0
   have h1' : ORow yR 177 5 [] y1 yc1 (jD v.soa) B1 := h1r
   have l1 := uY v.sets
   have l2 := uY v.soa
   repeat (first | refine goA ?_ | refine jB (jl rfl (KH _ _)) rfl ?_ | refine jB (jl rfl (yZ _ _ _ _ _ _ _ _ _ _ _ _ _ _ _ _ _ _ _ _)) rfl ?_ | (refine jS ?_; intro bLit))
   obtain ⟨bqs, hbqs⟩ : ∃ b, bLit = b := ⟨_, rfl⟩
   rw [hbqs]
   clear hbqs
   have hm := afr (m := ⟨v.code, jD v.sets, jD v.soa⟩) (L := (bqs, Obj.cells [.string (bs q.name), .int .u16 q.kind, .int .u16 q.cls].toArray 24 (0, 0)) :: ((b5, Obj.cells #[.slice y0 (jD v.sets).length yc0, .slice y1 (jD v.soa).length yc1] 117 (0, 0)) :: (B0 ++ (B1 ++ ((bl, Obj.cells #[.slice a1 v.sets.length c1, .slice a2 v.soa.length c2] 38 (0, 0)) :: (b3, Obj.cells #[.int .u8 v.code, .slice a1 v.sets.length c1, .slice a2 v.soa.length c2] 40 (0, 0)) :: (b2, Obj.cells (kq q) 24 (0, 0)) :: L))))) (.slice (some ⟨bqs, 0, none⟩) 1 1) rfl hcode (h0'.sliceR qx (by simp) jf) (h1'.sliceR qx (by simp) jf)
   have hsm : ∀ (l : List RSet), LSm l → ∀ x ∈ jD l, x.name.length ≤ 1000000 ∧ x.data.length ≤ 1000000 := fun l hl x hx => by
    obtain ⟨s, hs, hx⟩ := List.mem_flatMap.1 hx
    obtain ⟨d, hd, rfl⟩ := List.mem_map.1 hx
    obtain ⟨e1, _, e3⟩ := hl.set hs
    have := e3 d hd
    exact ⟨by dsimp only; omega, by dsimp only; omega⟩
   refine jw (jc je rfl (ajG [.string (bs q.name), .int .u16 q.kind, .int .u16 q.cls] _ q ⟨v.code, jD v.sets, jD v.soa⟩ ⟨rfl, by unfold maxLen; omega, hq2, hq3⟩ hm hq1 (by show (jD v.sets).length ≤ 10000; omega) (hsm _ hl1) (by show (jD v.soa).length ≤ 10000; omega) (hsm _ hl2))) rfl ?_
   obtain ⟨r, hr⟩ : ∃ r, r = Vd.ofM q ⟨v.code, jD v.sets, jD v.soa⟩ := ⟨_, rfl⟩
   have hrp : Qc q v = decide (r.2.2 = 0 ∧ r.1 = v) := by rw [hr]; rfl
   rw [← hr, hrp]
   rintro _ _ ⟨ra, rc, RB, ra2, rc2, RB2, N, rfl, hR1, hR2, hN, rfl⟩
   repeat (first | refine goA ?_ | (refine jO ?_; intro bNew))
   have hcd := ab4 q ⟨v.code, jD v.sets, jD v.soa⟩ hcode
   rw [← hr] at hcd
   by_cases hr0 : r.2.2 = 0
   · have e : decide (r.2.2 = 0 ∧ r.1 = v) = decide (r.1 = v) := by congr 1; simp [hr0]
     rw [e]
     refine goA ?_
     refine kf (jc je rfl (Ys _ _ r.1 v ⟨_, _, rfl, hR1.sliceR jC jf jf, hR2.sliceR jC jf jf, hcd⟩ ⟨_, _, rfl, jx jC _ _ _ _ jf h1, jx jC _ _ _ _ jf h2, hcode⟩)) rfl ?_
     refine goA ?_
     refine jJ (L' := L) ?_ jn
     refine ji 4 _ rfl rfl ?_
     exact ⟨rfl, rfl⟩
   · have e : decide (r.2.2 = 0 ∧ r.1 = v) = false := decide_eq_false fun k => hr0 k.1
     rw [e]
     refine goA ?_
     refine jJ (L' := L) ?_ jn
     refine ji 4 _ rfl rfl ?_
     exact ⟨rfl, rfl⟩
end
section
open Go.RowKit
open Vd (RSet Vdt Vote Rec Quest Piece Ballot)
theorem LSm.smS {l : List RSet} (h : LSm l) : SmS l := ⟨by have := h.few; omega, fun s hs => by have := (h.set hs).2.1; omega⟩
theorem aev {q : Quest} {v : Vdt} (h : Qc q v = true) : (Vd.ofM q ⟨v.code, jD v.sets, jD v.soa⟩).1 = v := (of_decide_eq_true h).2
theorem aa7 {q : Quest} {v : Vdt} (h : Qc q v = true) : aci (fun s => s.data ≠ []) v := by
 have h1 := Yd q ⟨v.code, jD v.sets, jD v.soa⟩ (fun s => s.data ≠ []) (fun s hs => hs)
  (fun s hs => ((yf (D := ((jD v.sets).map (·.data.length)).sum) (jD v.sets) (fun x hx => Wf (List.mem_map_of_mem (f := fun x : Rec => x.data.length) hx))).2 s hs).2.2.1)
  (fun s hs => ((yf (D := ((jD v.soa).map (·.data.length)).sum) (jD v.soa) (fun x hx => Wf (List.mem_map_of_mem (f := fun x : Rec => x.data.length) hx))).2 s hs).2.2.1)
 rw [aev h] at h1
 exact h1
structure VOk (q : Quest) (v : Vdt) : Prop where
 sm : SmV v
 ends : EndOk q v
theorem aew {q : Quest} {v : Vdt} (h : Qc q v = true) (h1 : LSm v.sets) (h2 : LSm v.soa) : VOk q v := by
 have hd := aa7 h
 refine ⟨⟨h1.smS, h2.smS⟩, ?_, ?_, ?_⟩
 · by_cases he : (Vd.endV q v).2 = true
   · exact (h1.set (QB he).1).2.1
   · rw [VX (by simpa using he)]; simp [RSet.none]
 · by_cases he : (Vd.endV q v).2 = true
   · intro d hdm
     have := (h1.set (QB he).1).2.2 d hdm
     omega
   · rw [VX (by simpa using he)]; simp [RSet.none]
 · intro he
   exact hd.1 _ (QB he).1
end
section
open Go.RowKit
open Vd (RSet Vdt Vote Rec Quest Piece Ballot)
open Cn (Zo Cf)
variable {G : World} {L : ja}
def qE : Quest := ⟨[2, 101, 120, 0], 1, 1⟩
def strictZ : Zo := ⟨[0], 1, 0⟩
def acS (ups ded hdg wai tri : Int) : Cf := ⟨ups, ded, hdg, wai, tri, 1, 1, 0, 1, 1, 0, 512, []⟩
def uO (b : UInt8) : Vdt := ⟨0, [⟨[2, 101, 120, 0], 1, 1, 0, [[10, 0, 0, b]]⟩], []⟩
theorem ajS : Spec Tryz.prog G 32 #[] L fun u M => u = .agg (kq qE) ∧ M = L := by
 refine jm (n := 2) Tryz.func32 rfl rfl rfl ?_
 repeat (first | refine goA ?_ | (refine jO ?_; intro bNew) | refine jB (jl rfl (KG _ _ _)) rfl ?_)
 refine kT 0 24  rfl rfl  stO (by repeat (exact List.mem_cons_self)) rfl (fun w h => h.tail) ?_
 exact ⟨rfl, rfl⟩
theorem aa8 : Spec Tryz.prog G 33 #[] L fun u M => u = .agg #[.string (bs strictZ.name), .int .u8 (strictZ.pol : Nat), .int .u16 (strictZ.tru : Nat)] ∧ M = L := by
 refine jm (n := 2) Tryz.func33 rfl rfl rfl ?_
 repeat (first | refine goA ?_ | (refine jO ?_; intro bNew) | refine jB (jl rfl (UN _ _)) rfl ?_)
 refine kT 0 26  rfl rfl  stO (by repeat (exact List.mem_cons_self)) rfl (fun w h => h.tail) ?_
 exact ⟨rfl, rfl⟩
theorem acT (ups ded hdg wai tri : Int) : Spec Tryz.prog G 34 #[.int .i64 ups, .int .i64 ded, .int .i64 hdg, .int .i64 wai, .int .i64 tri] L fun u M => u = .agg (jo (acS ups ded hdg wai tri) (.slice none 0 0)).toArray ∧ M = L := by
 refine jm (n := 17) Tryz.func34 rfl rfl rfl ?_
 repeat (first | refine goA ?_ | (refine jO ?_; intro bNew) | refine jB (jl rfl (qv _ _ _ _ _ _ _ _ _ _)) rfl ?_)
 refine kT 10 30  rfl rfl  stO (by repeat (exact List.mem_cons_self)) rfl (fun w h => h.tail) ?_
 exact ⟨rfl, rfl⟩
def aex (L : ja) (b : UInt8) (u : Value) (M : ja) : Prop := ∃ cv N, u = .agg cv.toArray ∧ vdR N cv (uO b) ∧ M = N ++ L
theorem Wg (c : UInt8) (x : Int) (hx : x = (c.toNat : Int)) : Spec Tryz.prog G 35 #[.int .u8 x] L (aex L c) := by
 subst hx
 refine jm (n := 11) Tryz.func35 rfl rfl rfl ?_
 refine kh (jY (j0 (kk (C := #[.int .u8 0, .slice none 0 0, .slice none 0 0]) zeO rfl) rfl ?_))
 intro b2
 repeat (first | refine goA ?_ | (refine jS ?_; intro bLit))
 refine jB (Vs [c] rfl rfl unO unO unO (List.mem_cons_self ..) (fun j hj => ?_)) rfl ?_
 · match j, hj with
   | 0, _ => rfl
 repeat (first | refine goA ?_ | refine jB (jl rfl (VD _ _ _)) rfl ?_ | refine jB (jl rfl (uI _ _ _ _ _ _)) rfl ?_ | (refine jS ?_; intro bLit))
 rename_i bB bD
 refine qI (L' := [(bLit, Obj.cells #[.string (bs [2, 101, 120, 0]), .int .u16 1, .int .u16 1, .int .u32 0, .slice (some ⟨bD, 0, none⟩) 1 1] 122 (0, 0)), (bD, Obj.cells #[.string (bs ([10, 0, 0] ++ [c]))] 9 (0, 0)), (bB, Obj.cells #[.int .u8 (c.toNat : Int)] 5 (0, 0))] ++ ((b2, Obj.cells #[.int .u8 0, .slice none 0 0, .slice none 0 0] 40 (0, 0)) :: L)) (fun w h => h) ?_
 refine jH (L' := (b2, Obj.cells #[.int .u8 0, .slice none 0 0, .slice none 0 0] 40 (0, 0)) :: ([(bLit, Obj.cells #[.string (bs [2, 101, 120, 0]), .int .u16 1, .int .u16 1, .int .u32 0, .slice (some ⟨bD, 0, none⟩) 1 1] 122 (0, 0)), (bD, Obj.cells #[.string (bs ([10, 0, 0] ++ [c]))] 9 (0, 0)), (bB, Obj.cells #[.int .u8 (c.toNat : Int)] 5 (0, 0))] ++ L)) ?_ jn
 refine goA ?_
 refine kT 2 40  rfl rfl  stO (by repeat (exact List.mem_cons_self)) rfl (fun w h => h.tail) ?_
 have hD : sliceR 1 qB [(bLit, Obj.cells #[.string (bs [2, 101, 120, 0]), .int .u16 1, .int .u16 1, .int .u32 0, .slice (some ⟨bD, 0, none⟩) 1 1] 122 (0, 0)), (bD, Obj.cells #[.string (bs ([10, 0, 0] ++ [c]))] 9 (0, 0)), (bB, Obj.cells #[.int .u8 (c.toNat : Int)] 5 (0, 0))] [.slice (some ⟨bD, 0, none⟩) 1 1] [[10, 0, 0, c]] := ⟨_, 1, rfl, Nat.le_refl 1, by unfold maxLen; omega, Or.inr ⟨bD, 0, #[.string (bs ([10, 0, 0] ++ [c]))], 9, (0, 0), rfl, List.mem_cons_of_mem _ (List.mem_cons_self ..), fun i x hi => by
  match i, hi with
  | 0, hi =>
    obtain rfl := Option.some.inj hi
    exact ⟨[.string (bs [10, 0, 0, c])], rfl, ⟨rfl, by show 4 ≤ maxLen; decide⟩, fun j v hj => by match j, hj with | 0, hj => exact hj⟩⟩⟩
 refine ⟨_, [(bLit, Obj.cells #[.string (bs [2, 101, 120, 0]), .int .u16 1, .int .u16 1, .int .u32 0, .slice (some ⟨bD, 0, none⟩) 1 1] 122 (0, 0)), (bD, Obj.cells #[.string (bs ([10, 0, 0] ++ [c]))] 9 (0, 0)), (bB, Obj.cells #[.int .u8 (c.toNat : Int)] 5 (0, 0))], rfl, ⟨_, _, rfl, ⟨some ⟨bLit, 0, none⟩, 1, rfl, Nat.le_refl 1, by unfold maxLen; omega, Or.inr ⟨bLit, 0, _, _, _, rfl, List.mem_cons_self .., fun i x hi => ?_⟩⟩, sliceR.nil, by show (0 : Int) ≤ 0 ∧ (0 : Int) ≤ 255; decide⟩, rfl⟩
 match i, hi with
 | 0, hi =>
   obtain rfl := Option.some.inj hi
   exact ⟨[.string (bs [2, 101, 120, 0]), .int .u16 1, .int .u16 1, .int .u32 0, .slice (some ⟨bD, 0, none⟩) 1 1], rfl, ⟨_, rfl, hD, by show (4 : Nat) ≤ maxLen; decide, by show (0 : Int) ≤ 1 ∧ (1 : Int) ≤ 65535; decide, by show (0 : Int) ≤ 1 ∧ (1 : Int) ≤ 65535; decide, by show (0 : Int) ≤ 0 ∧ (0 : Int) ≤ 4294967295; decide⟩, fun j v hj => by
    rw [show 0 + 0 * 5 + j = j by omega, List.getElem?_toArray]
    exact hj⟩
end
section
open Go.RowKit
open Vd (RSet Vdt Vote Rec Quest Piece Ballot)
open Cn (Zo Cf)
variable {G : World} {L : ja}
def exC : Cf := acS 3 20 10 5 1
def exL : List Int := [2, 0, 1]
def ex0 : As := (Aq.new1 qE strictZ exL exC 100).1
def ex1 : As := (Aq.vote ex0 2 (uO 1) 9 101).1
def ex2 : As := (Aq.vote ex1 0 (uO 2) 9 102).1
def ex3 : As := (Aq.vote ex2 1 (uO 1) 7 103).1
def ex4 : As := (Aq.pass ex2 1 103).1
def exD : Dd := ⟨[], [], true, true, uO 1, 7, [1, 2], [0]⟩
theorem exN : Aq.newE qE strictZ exL exC 100 = 0 := by decide +kernel
theorem ajT : (Aq.new1 qE strictZ exL exC 100).2 = { Dd.none with sends := [2, 0] } := by decide +kernel
theorem ajU : (Aq.vote ex0 2 (uO 1) 9 101).2 = Dd.none := by decide +kernel
theorem ajV : (Aq.vote ex1 0 (uO 2) 9 102).2 = { Dd.none with sends := [1] } := by decide +kernel
theorem ajW : (Aq.vote ex2 1 (uO 1) 7 103).2 = exD := by decide +kernel
theorem ajX : (Aq.pass ex2 1 103).2 = { Dd.none with over := true } := by decide +kernel
theorem ajY : ex3.over = true := by decide +kernel
theorem ajZ : ex4.over = true := by decide +kernel
theorem JQ (b : UInt8) : EndOk qE (uO b) := ⟨show 1 ≤ 600 by decide, fun d hd => by
 have : d = [10, 0, 0, b] := by simpa [Vd.endV, uO, qE] using hd
 rw [this]; show 4 ≤ 1000000; decide, fun _ => by show ([[10, 0, 0, b]] : List (List UInt8)) ≠ []; simp⟩
theorem Zz (b : UInt8) : SmV (uO b) := ⟨⟨show 1 ≤ 100000 by decide, fun s hs => by
 have : s = ⟨[2, 101, 120, 0], 1, 1, 0, [[10, 0, 0, b]]⟩ := by simpa [uO] using hs
 rw [this]; show 1 ≤ 100000; decide⟩, ⟨show 0 ≤ 100000 by decide, fun s hs => by cases hs⟩⟩
theorem zx {K : ja} {b : Nat} {l : List Int} {t : TypeId} {fr : Nat × Nat} (h : (b, Obj.cells (l.map (Value.int .i64)).toArray t fr) ∈ K) : IRow K (.slice (some ⟨b, 0, none⟩) l.length l.length) l :=
 ⟨_, l.length, rfl, Or.inr ⟨b, 0, _, _, _, rfl, h, fun i x hi => by simp [hi]⟩⟩
theorem Vn {K : ja} {a : Option Addr} {c : Nat} {l : List Int} (h : IRow K (.slice a l.length c) l) : Ja K [.slice a l.length c, .slice none 0 0, .bool false, .bool false, .int .u8 0, .slice none 0 0, .slice none 0 0, .int .u32 0, .slice none 0 0, .slice none 0 0] { Dd.none with sends := l } :=
 ⟨a, c, none, 0, none, 0, none, 0, none, 0, none, 0, rfl, h, jI, ⟨_, _, rfl, sliceR.nil, sliceR.nil, Int.le_refl 0, show (0 : Int) ≤ 255 by decide⟩, jI, jI⟩
theorem acU {K : ja} : Ja K [.slice none 0 0, .slice none 0 0, .bool true, .bool false, .int .u8 0, .slice none 0 0, .slice none 0 0, .int .u32 0, .slice none 0 0, .slice none 0 0] { Dd.none with over := true } :=
 ⟨none, 0, none, 0, none, 0, none, 0, none, 0, none, 0, rfl, jI, jI, ⟨_, _, rfl, sliceR.nil, sliceR.nil, Int.le_refl 0, show (0 : Int) ≤ 255 by decide⟩, jI, jI⟩
theorem exIn : NewIn qE strictZ exL exC 100 := (Ky exN).1
theorem exW0 : AWell ex0 := U9 exIn ⟨show 4 ≤ 1000000 by decide, show (0 : Int) ≤ 1 ∧ (1 : Int) ≤ 65535 by decide, show (0 : Int) ≤ 1 ∧ (1 : Int) ≤ 65535 by decide, exIn.name⟩
theorem aij : ex0.q = qE := by decide +kernel
theorem aik : ex1.q = qE := by decide +kernel
theorem aj0 : ex2.q = qE := by decide +kernel
theorem exW1 : AWell ex1 := exW0.vote fun _ _ => by rw [aij]; exact JQ 1
theorem ail : AWell ex2 := exW1.vote fun _ _ => by rw [aik]; exact JQ 2
theorem aa9 : Spec Tryz.prog G 9 #[] L fun u M => u = .bool true ∧ M = L := by
 refine jm (n := 64) Tryz.func9 rfl rfl rfl ?_
 repeat (first | refine goA ?_ | (refine' jU (jc je rfl (ajS )) rfl ?_) | (refine' jU (jc je rfl (aa8 )) rfl ?_))
 refine j0 (kr (vs := [(0, .int .i64 2), (1, .int .i64 0), (2, .int .i64 1)]) rfl (uS (C := (([2, 0, 1] : List Int).map (Value.int .i64)).toArray) etO [.int .i64 2, .int .i64 0, .int .i64 1] rfl (by intro v hv; simp only [List.mem_cons, List.not_mem_nil, or_false] at hv; rcases hv with rfl | rfl | rfl <;> rfl) (by decide) rfl)) rfl ?_
 intro bl
 repeat (refine' jU (jc je rfl (acT 3 20 10 5 1 )) rfl ?_)
 refine jw (jc je rfl (acy qE strictZ _ _ exL exC 100 (show 4 ≤ 1000000 by decide) (show (0 : Int) ≤ 1 ∧ (1 : Int) ≤ 65535 by decide) (show (0 : Int) ≤ 1 ∧ (1 : Int) ≤ 65535 by decide) (show 1 ≤ 255 ∧ 0 ≤ 65535 by decide) (zx (l := [2, 0, 1]) (List.mem_cons_self ..)) (show 3 ≤ 1000 by decide) ⟨sliceR.nil, fun z hz => by cases hz⟩ (by decide))) rfl ?_
 rintro u0 M0 (⟨_, ap, cs0, X0, N0, rfl, hd0, hX0, rfl⟩ | ⟨hne, _⟩)
 rotate_left
 · exact absurd exN hne
 rw [ajT] at hd0
 have hX0' : uP ap ex0 X0 := hX0
 obtain ⟨d1, e1, d2, e2, d3, e3, d4, e4, d5, e5, d6, e6, hcs, _⟩ := id hd0
 have hone := uz hd0
 repeat (first | refine goA ?_ | (refine jO ?_; intro bNew))
 refine ud rfl rfl stO rfl hone.2 hone.1 ?_
 refine goA ?_
 refine jN (Jk rfl stO (List.mem_cons_self ..) hone.2) rfl ?_
 repeat (refine ql rfl rfl ?_ ?_; (· exact Bool.not_true))
 refine uH (kr (vs := [(0, .int .i64 2), (1, .int .i64 0)]) rfl (uS (C := (([2, 0] : List Int).map (Value.int .i64)).toArray) etO [.int .i64 2, .int .i64 0] rfl (by intro v hv; simp only [List.mem_cons, List.not_mem_nil, or_false] at hv; rcases hv with rfl | rfl <;> rfl) (by decide) rfl)) rfl ?_
 rintro _ _ ⟨bl2, rfl, rfl⟩
 repeat (first | refine goA ?_ | refine jN (jl rfl (Qt _ _ _)) rfl ?_)
 refine kf (jc je rfl (JO _ _ _ _ (kH _ _ _ _ jf hd0) (Vn (zx (l := [2, 0]) (List.mem_cons_self ..))) ⟨by decide, by decide, by decide, by decide⟩)) rfl ?_
 rw [decide_eq_true rfl]
 refine goA ?_
 refine uH (jc je rfl (Wg 1 1 rfl)) rfl ?_
 rintro _ _ ⟨cv1, V1, rfl, hv1, rfl⟩
 repeat (refine ql rfl rfl ?_ ?_; (· exact Bool.not_true))
 refine uH (OpT.heap (L' := X0 ++ (V1 ++ L)) (fun w h => h.cnt jn) (jc je rfl (JK hX0' exW0 2 (uO 1) 9 101 cv1 (jQ _ _ _ _ jf hv1) (Zz 1) (fun _ _ => by rw [aij]; exact JQ 1) (by decide) (by decide)))) rfl ?_
 rintro _ _ ⟨cs1, X1, N1, rfl, hd1, hX1, rfl⟩
 rw [ajU] at hd1
 have hX1' : uP ap ex1 X1 := hX1
 repeat (first | refine goA ?_ | refine jN (jl rfl (yy )) rfl ?_)
 refine kf (jc je rfl (JO _ _ _ _ (kH _ _ _ _ jf hd1) qh ⟨by decide, by decide, by decide, by decide⟩)) rfl ?_
 rw [decide_eq_true rfl]
 refine goA ?_
 refine uH (jc je rfl (Wg 2 2 rfl)) rfl ?_
 rintro _ _ ⟨cv2, V2, rfl, hv2, rfl⟩
 repeat (refine ql rfl rfl ?_ ?_; (· exact Bool.not_true))
 refine uH (OpT.heap (L' := X1 ++ (V2 ++ L)) (fun w h => h.cnt jn) (jc je rfl (JK hX1' exW1 0 (uO 2) 9 102 cv2 (jQ _ _ _ _ jf hv2) (Zz 2) (fun _ _ => by rw [aik]; exact JQ 2) (by decide) (by decide)))) rfl ?_
 rintro _ _ ⟨cs2, X2, N2, rfl, hd2, hX2, rfl⟩
 rw [ajV] at hd2
 have hX2' : uP ap ex2 X2 := hX2
 repeat (refine ql rfl rfl ?_ ?_; (· exact Bool.not_true))
 refine uH (kr (vs := [(0, .int .i64 1)]) rfl (uS (C := (([1] : List Int).map (Value.int .i64)).toArray) etO [.int .i64 1] rfl (by intro v hv; simp only [List.mem_cons, List.not_mem_nil, or_false] at hv; rcases hv with rfl <;> rfl) (by decide) rfl)) rfl ?_
 rintro _ _ ⟨bl3, rfl, rfl⟩
 repeat (first | refine goA ?_ | refine jN (jl rfl (Qt _ _ _)) rfl ?_)
 refine kf (jc je rfl (JO _ _ _ _ (kH _ _ _ _ jf hd2) (Vn (zx (l := [1]) (List.mem_cons_self ..))) ⟨by decide, by decide, by decide, by decide⟩)) rfl ?_
 rw [decide_eq_true rfl]
 refine goA ?_
 refine jw (OpT.heap (L' := X2 ++ L) (fun w h => h.cnt jn) (jc je rfl (Z9 hX2'))) rfl ?_
 rintro _ _ ⟨ap2, X5, rfl, hX5, rfl⟩
 refine goA ?_
 refine jw (jc je rfl (Wg 1 1 rfl)) rfl ?_
 rintro _ _ ⟨cv3, V3, rfl, hv3, rfl⟩
 skip
 refine jw (OpT.heap (L' := X2 ++ (V3 ++ (X5 ++ L))) (fun w h => h.cnt jn) (jc je rfl (JK hX2' ail 1 (uO 1) 7 103 cv3 (jQ _ _ _ _ jf hv3) (Zz 1) (fun _ _ => by rw [aj0]; exact JQ 1) (by decide) (by decide)))) rfl ?_
 rintro _ _ ⟨cs3, X6, N3, rfl, hd3, hX6, rfl⟩
 rw [ajW] at hd3
 have hX6' : uP ap ex3 X6 := hX6
 skip
 refine jw (jc je rfl (Wg 1 1 rfl)) rfl ?_
 rintro _ _ ⟨cv4, V4, rfl, hv4, rfl⟩
 obtain ⟨s1, w1, s2, w2, rfl, hs1, hs2, hsc⟩ := hv4.vals
 skip
 refine j0 (kr (vs := [(0, .int .i64 1), (1, .int .i64 2)]) rfl (uS (C := (([1, 2] : List Int).map (Value.int .i64)).toArray) etO [.int .i64 1, .int .i64 2] rfl (by intro v hv; simp only [List.mem_cons, List.not_mem_nil, or_false] at hv; rcases hv with rfl | rfl <;> rfl) (by decide) rfl)) rfl ?_
 intro bl4
 repeat (first | refine jB (jl rfl (uT _ _ _ _ _ _ _ _ _ _ _ _)) rfl ?_ | (refine jS ?_; intro bLit))
 refine qI (L' := (bLit, Obj.cells (([0] : List Int).map (Value.int .i64)).toArray 3 (0, 0)) :: (bl4, Obj.cells (([1, 2] : List Int).map (Value.int .i64)).toArray 3 (0, 0)) :: (V4 ++ (X6 ++ (N3 ++ (V3 ++ (X5 ++ L)))))) (fun w h => h) ?_
 refine jU (jc je rfl (JO _ _ exD exD (kH _ _ _ _ jf hd3) ⟨none, 0, none, 0, s1, w1, s2, w2, _, _, _, _, rfl, jI, jI, jQ _ _ _ _ jf hv4, zx (l := [1, 2]) (List.mem_cons_of_mem _ (List.mem_cons_self ..)), zx (l := [0]) (List.mem_cons_self ..)⟩ ⟨by decide, by decide, by decide, by decide⟩)) rfl ?_
 rw [decide_eq_true rfl]
 refine goA ?_
 refine kf (jc je rfl (JM hX6' jf)) rfl ?_
 rw [ajY]
 refine goA ?_
 refine uH (OpT.heap (L' := X5 ++ L) (fun w h => h.cnt jn) (jc je rfl (Z4 hX5 ail 1 103))) rfl ?_
 rintro _ _ ⟨cs5, X7, N5, rfl, hd5, hX7, rfl⟩
 rw [ajX] at hd5
 have hX7' : uP ap2 ex4 X7 := hX7
 repeat (first | refine goA ?_ | refine jN (jl rfl (ZK _)) rfl ?_)
 refine kf (jc je rfl (JO _ _ _ _ (kH _ _ _ _ jf hd5) acU ⟨by decide, by decide, by decide, by decide⟩)) rfl ?_
 rw [decide_eq_true rfl]
 refine goA ?_
 refine kf (jc je rfl (JM hX7' jf)) rfl ?_
 rw [ajZ]
 refine goA ?_
 refine jJ (L' := L) ?_ jn
 refine ji 0 _ rfl rfl ?_
 exact ⟨rfl, rfl⟩
end
section
open Go.RowKit
open Vd (RSet Vdt Vote Rec Quest Piece Ballot)
open Cn (Zo Cf)
structure CaseT where
 q : Quest
 z : Zo
 l : List Int
 c : Cf
 now : Int
instance : Inhabited CaseT := ⟨⟨⟨[], 0, 0⟩, ⟨[], 0, 0⟩, [], Cn.zeroC, 0⟩⟩
structure ActT where
 what : Int
 up : Int
 v : Vdt
 t : Int
 now : Int
instance : Inhabited ActT := ⟨⟨0, 0, Vdt.none, 0, 0⟩⟩
def uE (x : CaseT) (vl vz : Value) : List Value := [.string (bs x.q.name), .int .u16 x.q.kind, .int .u16 x.q.cls, .string (bs x.z.name), .int .u8 (x.z.pol : Nat), .int .u16 (x.z.tru : Nat), vl] ++ (jo x.c vz ++ [.int .i64 x.now])
def Qi : Rp CaseT := fun L cs x => ∃ vl vz, cs = uE x vl vz ∧ VQ L [.string (bs x.q.name), .int .u16 x.q.kind, .int .u16 x.q.cls] x.q ∧ zoR L [.string (bs x.z.name), .int .u8 (x.z.pol : Nat), .int .u16 (x.z.tru : Nat)] x.z ∧ sliceR 1 (uj .i64) L [vl] x.l ∧ cfR L (jo x.c vz) x.c ∧ qd .i64 x.now
def ZA : Rp ActT := fun L cs x => ∃ va vb, cs = [.int .u8 x.what, .int .i64 x.up, .int .u8 x.v.code, va, vb, .int .u32 x.t, .int .i64 x.now] ∧ vdR L [.int .u8 x.v.code, va, vb] x.v ∧ qd .u8 x.what ∧ qd .i64 x.up ∧ qd .u32 x.t ∧ qd .i64 x.now
theorem aba : uZ Qi := fun L L' cs x hL ⟨vl, vz, h1, h2, h3, h4, h5, h6⟩ => ⟨vl, vz, h1, h2, h3, jx (uf _) L L' _ _ hL h4, aec L L' _ _ hL h5, h6⟩
theorem Yx : uZ ZA := fun L L' cs x hL ⟨va, vb, h1, h2, h3⟩ => ⟨va, vb, h1, jQ L L' _ _ hL h2, h3⟩
theorem Ux {x : Int} (h : qd .i64 x) : -9223372036854775808 ≤ x ∧ x ≤ 9223372036854775807 := by
 unfold qd Lit.wf at h
 simpa [IntKind.min, IntKind.max, IntKind.bits, IntKind.signed] using h
theorem aag {x : Int} (h : qd .u8 x) : 0 ≤ x ∧ x ≤ 255 := by
 unfold qd Lit.wf at h
 simpa [IntKind.min, IntKind.max, IntKind.bits, IntKind.signed] using h
theorem Yy {x : Int} (h : qd .u32 x) : 0 ≤ x ∧ x ≤ 4294967295 := by
 unfold qd Lit.wf at h
 simpa [IntKind.min, IntKind.max, IntKind.bits, IntKind.signed] using h
structure CSm (x : CaseT) : Prop where
 name : x.q.name.length ≤ 3000
 list : x.l.length ≤ 100
 zones : x.c.zs.length ≤ 100
 names : ∀ z ∈ x.c.zs, z.name.length ≤ 300
structure ASm (l : List ActT) : Prop where
 few : l.length ≤ 200
 sets : ∀ a ∈ l, LSm a.v.sets ∧ LSm a.v.soa
variable {G : World} {L : ja}
theorem afs (cs : List Value) (x : CaseT) (v : Value) (l : List ActT) (hx : Qi L cs x) (hl : sliceR 7 ZA L [v] l) : Spec Tryz.prog G 7 #[.agg cs.toArray, v] L fun u M => ∃ b, u = .bool b ∧ M = L ∧ (b = false → CSm x ∧ ASm l) := by
 obtain ⟨vl, vz, rfl, ⟨_, hqn, _⟩, _, hli, ⟨vz', e1, hzs, _⟩, _⟩ := hx
 obtain rfl : vz' = vz := by simpa [jo] using e1.symm
 obtain ⟨la, lc, e2, hli⟩ := hli.val
 obtain rfl := (List.cons.inj e2).1
 obtain ⟨za, zc, e3, hzs⟩ := hzs.val
 obtain rfl := (List.cons.inj e3).1
 obtain ⟨aa, ac, e4, hl⟩ := hl.val
 obtain rfl := (List.cons.inj e4).1
 have k1 := (sliceR.cut hli).2
 have k2 := (sliceR.cut hzs).2
 have k3 := (sliceR.cut hl).2
 unfold maxLen at k1 k2 k3 hqn
 obtain ⟨k11, k12, _⟩ := k1
 obtain ⟨k21, k22, _⟩ := k2
 obtain ⟨k31, k32, _⟩ := k3
 clear e1 e2 e3 e4
 refine jm (n := 95) Tryz.func7 rfl rfl rfl ?_
 refine kh (jY (j0 (kF rfl) rfl ?_))
 intro bBox
 obtain ⟨C0, hC0⟩ : ∃ C : Array Value, C = (uE x (.slice la x.l.length lc) (.slice za x.c.zs.length zc)).toArray := ⟨_, rfl⟩
 rw [← hC0]
 have g0 : C0[0 + 0 + 0]? = some (.string (bs x.q.name)) := by rw [hC0]; rfl
 have g6 : C0[0 + 6]? = some (.slice la x.l.length lc) := by rw [hC0]; rfl
 have g19 : C0[0 + 7 + 12]? = some (.slice za x.c.zs.length zc) := by rw [hC0]; rfl
 clear hC0
 by_cases c1 : 3000 < x.q.name.length
 · skip
   refine goA ?_
   refine jJ (L' := L) ?_ jn
   refine ji 4 _ rfl rfl ?_
   exact ⟨true, rfl, rfl, fun h => by cases h⟩
 by_cases c2 : 100 < x.l.length
 · skip
   refine goA ?_
   refine jJ (L' := L) ?_ jn
   refine ji 4 _ rfl rfl ?_
   exact ⟨true, rfl, rfl, fun h => by cases h⟩
 by_cases c3 : 100 < x.c.zs.length
 · skip
   refine goA ?_
   refine jJ (L' := L) ?_ jn
   refine ji 4 _ rfl rfl ?_
   exact ⟨true, rfl, rfl, fun h => by cases h⟩
 by_cases c4 : 200 < l.length
 · skip
   refine goA ?_
   refine jJ (L' := L) ?_ jn
   refine ji 4 _ rfl rfl ?_
   exact ⟨true, rfl, rfl, fun h => by cases h⟩
 refine goA ?_
 refine jy (σ := Nat) (fun k => k ≤ x.c.zs.length ∧ ∀ z ∈ x.c.zs.take k, z.name.length ≤ 300) (fun k => [(1, .slice aa l.length ac), (2, .pointer (some ⟨bBox, 0, none⟩)), (5, .int .i64 (k : Nat))]) (fun _ => (bBox, Obj.cells C0 32 (0, 0)) :: L) (fun k => x.c.zs.length - k) 0 ⟨Nat.zero_le _, by simp⟩ ?_ (fun w h => h) ?_
 exact jr
 rintro k ⟨hk, hall⟩
 by_cases hlt : k < x.c.zs.length
 · obtain ⟨z, hz⟩ : ∃ z, x.c.zs[k]? = some z := ⟨_, List.getElem?_eq_getElem hlt⟩
   obtain ⟨b1, o1, C1, t1, f1, rfl, m1, cs1, _, ⟨rfl, hzn, _⟩, hcs⟩ := sliceR.at hzs hz
   unfold maxLen at hzn
   have c0 : C1[o1 + k * 3 + 0]? = some (.string (bs z.name)) := hcs 0 _ rfl
   by_cases hn : 300 < z.name.length
   · skip
     refine goA ?_
     refine jJ (L' := L) ?_ jn
     refine ji 4 _ rfl rfl ?_
     exact ⟨true, rfl, rfl, fun h => by cases h⟩
   · refine goA ?_
     refine jh (k + 1) ⟨hlt, fun y hy => ?_⟩ ?_ (fun w h => h) jd
     · rw [List.take_add_one, hz] at hy
       rcases List.mem_append.1 hy with hy | hy
       · exact hall y hy
       · rw [List.mem_singleton.1 hy]; omega
     exact jr
 rw [List.take_of_length_le jd] at hall
 have hcsm : CSm x := ⟨by omega, by omega, by omega, hall⟩
 refine goA ?_
 refine jy (σ := Nat × Nat) (fun y => y.1 ≤ l.length ∧ y.2 ≤ 7000 ∧ ∀ a ∈ l.take y.1, LSm a.v.sets ∧ LSm a.v.soa) (fun y => [(1, .slice aa l.length ac), (2, .pointer (some ⟨bBox, 0, none⟩)), (6, .int .i64 (y.2 : Nat)), (7, .int .i64 (y.1 : Nat))]) (fun _ => (bBox, Obj.cells C0 32 (0, 0)) :: L) (fun y => l.length - y.1) (0, 0) ⟨Nat.zero_le _, by decide, by simp⟩ ?_ (fun w h => h) ?_
 exact jr
 rintro ⟨i, n⟩ ⟨hi, hn, hall2⟩
 dsimp only at hi hn hall2 ⊢
 by_cases hgo : i < l.length ∧ n < 3000
 · obtain ⟨hlt2, hn3⟩ := hgo
   obtain ⟨a, ha⟩ : ∃ a, l[i]? = some a := ⟨_, List.getElem?_eq_getElem hlt2⟩
   obtain ⟨b2, o2, C2, t2, f2, rfl, m2, cs2, _, ⟨va, vb, rfl, hvd, _⟩, hcs2⟩ := sliceR.at hl ha
   obtain ⟨y1, z1, y2, z2, e5, hs1, hs2, _⟩ := hvd.vals
   simp only [List.cons.injEq, and_true, true_and] at e5
   obtain ⟨rfl, rfl⟩ := e5
   have d3 : C2[o2 + i * 7 + 2 + 1]? = some (.slice y1 a.v.sets.length z1) := hcs2 3 _ rfl
   have d4 : C2[o2 + i * 7 + 2 + 2]? = some (.slice y2 a.v.soa.length z2) := hcs2 4 _ rfl
   have j1 := (sliceR.cut hs1).2
   have j2 := (sliceR.cut hs2).2
   unfold maxLen at j1 j2
   obtain ⟨j11, j12, _⟩ := j1
   obtain ⟨j21, j22, _⟩ := j2
   refine goA ?_
   refine jU (jc je rfl (Uw _ a.v.sets (jx jC _ _ _ _ jf hs1))) rfl ?_
   by_cases l1 : 6000 ≤ yp a.v.sets
   · rw [decide_eq_true l1]
     refine goA ?_
     refine jJ (L' := L) ?_ jn
     refine ji 4 _ rfl rfl ?_
     exact ⟨true, rfl, rfl, fun h => by cases h⟩
   rw [decide_eq_false l1]
   refine goA ?_
   refine kf (jc je rfl (Uw _ a.v.soa (jx jC _ _ _ _ jf hs2))) rfl ?_
   by_cases l2 : 6000 ≤ yp a.v.soa
   · rw [decide_eq_true l2]
     refine goA ?_
     refine jJ (L' := L) ?_ jn
     refine ji 4 _ rfl rfl ?_
     exact ⟨true, rfl, rfl, fun h => by cases h⟩
   rw [decide_eq_false l2]
   have w1 : LSm a.v.sets := ⟨by omega⟩
   have w2 : LSm a.v.soa := ⟨by omega⟩
   have u1 := w1.few
   have u2 := w2.few
   have hK : ∀ z ∈ [(b2, Obj.cells C2 t2 f2)], z ∈ (bBox, Obj.cells C0 32 (0, 0)) :: L := fun z hz => by rw [List.mem_singleton.1 hz]; exact List.mem_cons_of_mem _ m2
   refine goA ?_
   refine jq jb ([(b2, Obj.cells C2 t2 f2)]) [] ?_
   refine tkQ 0 ?_
   refine tkQ 1 ?_
   refine tkQ 2 ?_
   refine tkQ 3 ?_
   refine tkQ 4 ?_
   refine tkQ 5 ?_
   refine tkQ 6 ?_
   refine tkQ 7 ?_
   refine tkQ 8 ?_
   refine tkQ 9 ?_
   refine tkQ 10 ?_
   refine tkQ 11 ?_
   refine tkQ 12 ?_
   refine tkQ 13 ?_
   refine tkQ 14 ?_
   refine tkQ 15 ?_
   refine tkQ 16 ?_
   refine tkQ 17 ?_
   refine tkQ 18 ?_
   refine tkQ 19 ?_
   refine tdQ ?_
   refine goA ?_
   refine jh (i + 1, n + 5 + min 3000 (a.v.sets.length + a.v.soa.length)) ⟨hlt2, by dsimp only; omega, fun y hy => ?_⟩ ?_ (fun w h => h) (by dsimp only; omega)
   · dsimp only at hy
     rw [List.take_add_one, ha] at hy
     rcases List.mem_append.1 hy with hy | hy
     · exact hall2 y hy
     · rw [List.mem_singleton.1 hy]; exact ⟨w1, w2⟩
   have e7 : ((n + 5 + min 3000 (a.v.sets.length + a.v.soa.length) : Nat) : Int) = (n : Int) + 5 + min 3000 ((a.v.sets.length : Int) + (a.v.soa.length : Int)) := by omega
   rw [e7]
   exact jr
 · by_cases hlt2 : i < l.length
   · skip
     refine goA ?_
     refine jJ (L' := L) ?_ jn
     refine ji 4 _ rfl rfl ?_
     exact ⟨true, by rw [decide_eq_true (show (3000 : Int) ≤ (n : Int) by omega)], rfl, fun h => by cases h⟩
   · rw [List.take_of_length_le jd] at hall2
     refine goA ?_
     refine jJ (L' := L) ?_ jn
     refine ji 4 _ rfl rfl ?_
     exact ⟨_, rfl, rfl, fun _ => ⟨hcsm, by omega, hall2⟩⟩
end
section
open Go.RowKit
open Vd (RSet Vdt Vote Rec Quest Piece Ballot)
open Cn (Zo Cf)
variable {G : World} {L : ja}
def un (a : As) (m : ActT) : As × Dd := if m.what = 1 then Aq.vote a m.up m.v m.t m.now else if m.what = 2 then Aq.pass a m.up m.now else Aq.tick a m.now
def acV (q : Quest) (m : ActT) : Prop := m.what = 1 → VOk q m.v
theorem ZB {a : As} (h : AWell a) {m : ActT} (hm : acV a.q m) : AWell (un a m).1 := by
 unfold un
 split
 · rename_i h1; exact h.vote fun _ _ => (hm h1).ends
 · split
   · exact h.pass
   · exact h.tick
theorem aft {a : As} (h : AOk a) (u : Int) (v : Vdt) (t now : Int) : (Aq.vote a u v t now).1.q = a.q := by
 unfold Aq.vote
 split
 · rfl
 · split
   · exact (ko (AOk.put (a := Aq.upto { a with p := (Hg.close a.p u).1 } now) ((h.close u).upto now) ⟨⟨u, v, t⟩, false⟩)).2.1
   · rfl
theorem afu {a : As} (h : AOk a) (u now : Int) : (Aq.pass a u now).1.q = a.q := by
 unfold Aq.pass
 split
 · rfl
 · split
   · exact (ko (AOk.put (a := Aq.upto { a with p := (Hg.close a.p u).1 } now) ((h.close u).upto now) ⟨⟨u, Vdt.none, 0⟩, true⟩)).2.1
   · rfl
theorem acW {a : As} (h : AOk a) (now : Int) : (Aq.tick a now).1.q = a.q := by
 unfold Aq.tick
 split
 · rfl
 · split
   · rfl
   · exact (ko (a := { (Aq.upto a now) with p := (Hg.tick a.p (Aq.upto a now).now).1 }) ((h.upto now).tick _)).2.1
theorem aey {a : As} (h : AOk a) (m : ActT) : (un a m).1.q = a.q := by
 unfold un
 split
 · exact aft h _ _ _ _
 · split
   · exact afu h _ _
   · exact acW h _
theorem acX {a : As} (h : AOk a) (m : ActT) : DSh (un a m).2 := by
 unfold un
 split
 · exact aer h _ _ _ _
 · split
   · exact aes h _ _
   · exact aet h _
end
section
open Go.RowKit
open Hg (En Pl)
open Vd (RSet Vdt Vote Rec Quest Piece Ballot)
open Cn (Zo Cf)
variable {G : World} {L : ja}
theorem aeH {P : Program} {n : Nat} {ρ : jG} {fn : Func} {Φ : Value → ja → Prop} (t u s : Nat) {v x y : Value} {M : ja} (hr : fn.results = #[.tmp t, .tmp u, .tmp s]) (hv : ρ.lookup t = some v) (hx : ρ.lookup u = some x) (hy : ρ.lookup s = some y) (h : Φ (.tuple #[v, x, y]) M) (hf : Fits M L) : TQ G n ρ L .ret (bodyPost P fn (kE G Φ)) := ju (fun w hw => hw.cnt hf.out) (qc t u s v x y hr hv hx hy h)
structure CaseC (C0 : Array Value) (x : CaseT) (va vz : Value) : Prop where
 sz : C0.size = 21
 l : C0[0 + 6]? = some va
 now : C0[0 + 20]? = some (.int .i64 x.now)
 q : ∀ j u, ([.string (bs x.q.name), .int .u16 x.q.kind, .int .u16 x.q.cls] : List Value)[j]? = some u → C0[0 + 0 + j]? = some u
 z : ∀ j u, ([.string (bs x.z.name), .int .u8 (x.z.pol : Nat), .int .u16 (x.z.tru : Nat)] : List Value)[j]? = some u → C0[0 + 3 + j]? = some u
 c : ∀ j u, (jo x.c vz)[j]? = some u → C0[0 + 7 + j]? = some u
theorem Uy (x : CaseT) (va vz : Value) : CaseC (uE x va vz).toArray x va vz := by
 refine ⟨rfl, rfl, rfl, fun j u hj => ?_, fun j u hj => ?_, fun j u hj => ?_⟩
 · match j, hj with
   | 0, hj => exact hj
   | 1, hj => exact hj
   | 2, hj => exact hj
 · match j, hj with
   | 0, hj => exact hj
   | 1, hj => exact hj
   | 2, hj => exact hj
 · have hlt := (List.getElem?_eq_some_iff.1 hj).1
   have : j < 13 := hlt
   match j, hj with
   | 0, hj => exact hj
   | 1, hj => exact hj
   | 2, hj => exact hj
   | 3, hj => exact hj
   | 4, hj => exact hj
   | 5, hj => exact hj
   | 6, hj => exact hj
   | 7, hj => exact hj
   | 8, hj => exact hj
   | 9, hj => exact hj
   | 10, hj => exact hj
   | 11, hj => exact hj
   | 12, hj => exact hj
   | (j + 13), hj => exact absurd this jd
def aim (L : ja) (x : CaseT) (u : Value) (M : ja) : Prop :=
 (Aq.newE x.q x.z x.l x.c x.now = 0 ∧ ∃ ap dp X Y, u = .tuple #[.pointer (some ⟨ap, 0, none⟩), .pointer (some ⟨dp, 0, none⟩), .bool true] ∧ uP ap (Aq.new1 x.q x.z x.l x.c x.now).1 X ∧ zN L dp (Aq.new1 x.q x.z x.l x.c x.now).1 Y ∧ M = X ++ (Y ++ L)) ∨ (u = .tuple #[.pointer none, .pointer none, .bool true] ∧ M = L)
theorem afv (cx : List Value) (x : CaseT) (hx : Qi L cx x) (hcsm : CSm x) : Spec Tryz.prog G 25 #[.agg cx.toArray] L (aim L x) := by
 obtain ⟨vl, vz, rfl, hq, hz, hli, hcf, hnow⟩ := hx
 obtain ⟨_, hqn, hqk, hqc⟩ := hq
 obtain ⟨_, hzn, hzp, hzt⟩ := hz
 obtain ⟨vz', e1, hzs, hci⟩ := hcf
 obtain rfl : vz' = vz := by simpa [jo] using e1.symm
 obtain ⟨la, lc, e2, hli⟩ := hli.val
 obtain rfl := (List.cons.inj e2).1
 clear e1 e2
 have hnw := Ux hnow
 have hCC := Uy x (.slice la x.l.length lc) vz'
 generalize (uE x (.slice la x.l.length lc) vz').toArray = C0 at hCC ⊢
 obtain ⟨hC0s, f6, f20, fq, fz, fc⟩ := hCC
 have hnew : ∀ M : ja, (∀ p ∈ L, p ∈ M) → Spec Tryz.prog G 10 #[.agg (kq x.q), .agg #[.string (bs x.z.name), .int .u8 (x.z.pol : Nat), .int .u16 (x.z.tru : Nat)], .slice la x.l.length lc, .agg (jo x.c vz').toArray, .int .i64 x.now] M (acx M (Aq.newE x.q x.z x.l x.c x.now) (Aq.new1 x.q x.z x.l x.c x.now)) := fun M hM =>
  acy x.q x.z _ vz' x.l x.c x.now (by have := hcsm.name; omega) hqk hqc ⟨hzp, hzt⟩ ((zH hli).mono hM) (by have := hcsm.list; omega) ⟨jx JL _ _ _ _ hM hzs, fun z hz => by have := hcsm.names z hz; omega⟩ hnw
 have hdnew : ∀ M : ja, (∀ p ∈ L, p ∈ M) → Spec Tryz.prog G 59 #[.agg (kq x.q), .agg #[.string (bs x.z.name), .int .u8 (x.z.pol : Nat), .int .u16 (x.z.tru : Nat)], .slice la x.l.length lc, .agg (jo x.c vz').toArray, .int .i64 x.now] M (aaf L M (Aq.newE x.q x.z x.l x.c x.now) (Aq.new1 x.q x.z x.l x.c x.now)) := fun M hM =>
  afq x.q x.z _ vz' x.l x.c x.now hM (by have := hcsm.name; omega) hqk hqc ⟨hzp, hzt⟩ ((zH hli).mono hM) (by have := hcsm.list; omega) ⟨jx JL _ _ _ _ hM hzs, fun z hz => by have := hcsm.names z hz; omega⟩ hnw
 refine jm (n := 58) Tryz.func25 rfl rfl rfl ?_
 repeat (first | refine goU ?_ | (refine kl ?_; intro bC))
 refine jB (jA [.string (bs x.q.name), .int .u16 x.q.kind, .int .u16 x.q.cls] rfl stL u3 fq) rfl ?_
 refine goU ?_
 refine jB (jA [.string (bs x.z.name), .int .u8 (x.z.pol : Nat), .int .u16 (x.z.tru : Nat)] rfl stL u3 fz) rfl ?_
 refine goU ?_
 refine jB (jA (jo x.c vz') rfl stL u3 fc) rfl ?_
 refine goU ?_
 refine qj (hnew _ ?_) ?_
 · exact jf
 by_cases he : Aq.newE x.q x.z x.l x.c x.now = 0
 · have hin := (Ky he).1
   have hqok : QOk x.q := ⟨by have := hcsm.name; omega, hqk, hqc, hin.name⟩
   have hsh0 := afn hin hqok
   rintro _ _ (⟨_, ap, cs0, X0, N0, rfl, hd0, hX0, rfl⟩ | ⟨h0, _⟩)
   rotate_left
   · exact absurd he h0
   have hone0 := uz hd0
   have hsz0 : cs0.toArray.size = 10 := hone0.2
   repeat (first | refine goV ?_ | (refine jO ?_; intro bD))
   refine Jc rfl rfl stO Qn rfl hone0.2 hone0.1 ?_
   refine goU ?_
   refine jB (jA [.string (bs x.q.name), .int .u16 x.q.kind, .int .u16 x.q.cls] rfl stL u3 fq) rfl ?_
   refine goU ?_
   refine jB (jA [.string (bs x.z.name), .int .u8 (x.z.pol : Nat), .int .u16 (x.z.tru : Nat)] rfl stL u3 fz) rfl ?_
   refine goU ?_
   refine jB (jA (jo x.c vz') rfl stL u3 fc) rfl ?_
   refine goU ?_
   refine qj (hdnew _ ?_) ?_
   · exact jf
   rintro _ _ (⟨_, dp, cs1, Y0, N1, rfl, hd1, hY0, rfl⟩ | ⟨h0, _⟩)
   rotate_left
   · exact absurd he h0
   have hone1 := uz hd1
   have hsz1 : cs1.toArray.size = 10 := hone1.2
   repeat (first | refine goV ?_ | (refine jO ?_; intro bE))
   refine Jc rfl rfl stO Qn rfl hone1.2 hone1.1 ?_
   refine goU ?_
   refine aae (yo cs0 cs1 _ _ (kH _ _ _ _ ?_ hd0) (kH _ _ _ _ ?_ hd1) hsh0.few) ?_
   · exact jf
   · exact jf
   rintro u _ ⟨hu, rfl⟩
   obtain rfl : u = .bool true := by rw [hu, decide_eq_true rfl]
   refine goU ?_
   exact aeH 2 3 4 rfl rfl rfl rfl (Or.inl ⟨he, ap, dp, X0, Y0, rfl, hX0, hY0, rfl⟩) jP
 · rintro _ _ (⟨h0, _⟩ | ⟨_, rfl, rfl⟩)
   · exact absurd h0 he
   repeat (first | refine goU ?_ | (refine jO ?_; intro bD))
   refine jB (jA [.string (bs x.q.name), .int .u16 x.q.kind, .int .u16 x.q.cls] rfl stL u3 fq) rfl ?_
   refine goU ?_
   refine jB (jA [.string (bs x.z.name), .int .u8 (x.z.pol : Nat), .int .u16 (x.z.tru : Nat)] rfl stL u3 fz) rfl ?_
   refine goU ?_
   refine jB (jA (jo x.c vz') rfl stL u3 fc) rfl ?_
   refine goU ?_
   refine qj (hdnew _ ?_) ?_
   · exact jf
   rintro _ _ (⟨h0, _⟩ | ⟨_, rfl, rfl⟩)
   · exact absurd h0 he
   repeat (first | refine goU ?_ | (refine jO ?_; intro bE))
   refine aae (yo [.slice none 0 0, .slice none 0 0, .bool false, .bool false, .int .u8 0, .slice none 0 0, .slice none 0 0, .int .u32 0, .slice none 0 0, .slice none 0 0] [.slice none 0 0, .slice none 0 0, .bool false, .bool false, .int .u8 0, .slice none 0 0, .slice none 0 0, .int .u32 0, .slice none 0 0, .slice none 0 0] Dd.none Dd.none qh qh none_sh.few) ?_
   rintro u _ ⟨hu, rfl⟩
   obtain rfl : u = .bool true := by rw [hu, decide_eq_true rfl]
   refine goU ?_
   exact aeH 2 3 4 rfl rfl rfl rfl (Or.inr ⟨rfl, rfl⟩) jP
theorem afw {K : ja} {ap dp : Nat} {a : As} {X Y : ja} (hP : uP ap a X) (hD : zN K dp a Y) (hA : AWell a) (hKL : ∀ p ∈ K, p ∈ L) (cs : List Value) (m : ActT) (hm : ZA K cs m) (hok : acV a.q m) :
 Spec Tryz.prog G 27 #[.pointer (some ⟨ap, 0, none⟩), .pointer (some ⟨dp, 0, none⟩), .agg cs.toArray] (X ++ (Y ++ L)) fun u M => u = .bool true ∧ ∃ X' Y', uP ap (un a m).1 X' ∧ zN K dp (un a m).1 Y' ∧ M = X' ++ (Y' ++ L) := by
 obtain ⟨va, vb, rfl, hvd, h1, h2, h3, h4⟩ := hm
 obtain ⟨y1, z1, y2, z2, e5, _, _, _⟩ := hvd.vals
 simp only [List.cons.injEq, and_true, true_and] at e5
 obtain ⟨rfl, rfl⟩ := e5
 have l1 := aag h1
 have l2 := Ux h2
 have l3 := Yy h3
 have hver : ∀ j w, ([.int .u8 m.v.code, .slice y1 m.v.sets.length z1, .slice y2 m.v.soa.length z2] : List Value)[j]? = some w → ([.int .u8 m.what, .int .i64 m.up, .int .u8 m.v.code, .slice y1 m.v.sets.length z1, .slice y2 m.v.soa.length z2, .int .u32 m.t, .int .i64 m.now] : List Value).toArray[0 + 2 + j]? = some w := fun j w hj => by
  match j, hj with
  | 0, hj => exact hj
  | 1, hj => exact hj
  | 2, hj => exact hj
 have hsh := acX hA.ok m
 refine jm (n := 56) Tryz.func27 rfl rfl rfl ?_
 repeat (first | refine goU ?_ | (refine kl ?_; intro bB))
 by_cases c1 : m.what = 1
 · have e : un a m = Aq.vote a m.up m.v m.t m.now := by unfold un; rw [if_pos c1]
   rw [e] at hsh ⊢
   refine goU ?_
   refine jq jb [(bB, Obj.cells ([.int .u8 m.what, .int .i64 m.up, .int .u8 m.v.code, .slice y1 m.v.sets.length z1, .slice y2 m.v.soa.length z2, .int .u32 m.t, .int .i64 m.now] : List Value).toArray 69 (0, 0))] [] ?_
   refine tkQ 0 (hK := jf) ?_
   refine tkQ 1 (hK := jf) ?_
   refine tkQ 2 (hK := jf) ?_
   refine tkQ 3 (hK := jf) ?_
   refine jp 4 rfl rfl je (jL (jA [.int .u8 m.v.code, .slice y1 m.v.sets.length z1, .slice y2 m.v.soa.length z2] rfl stL (List.mem_singleton.2 rfl) hver)) jf ?_
   refine tkQ 5 (hK := jf) ?_
   refine tkQ 6 (hK := jf) ?_
   refine tkQ 7 (hK := jf) ?_
   refine tkQ 8 (hK := jf) ?_
   refine tkQ 10 (hK := jf) ?_
   refine tkQ 11 (hK := jf) ?_
   refine tkQ 12 (hK := jf) ?_
   refine tkQ 13 (hK := jf) ?_
   refine jp 14 rfl rfl je (jL (jA [.int .u8 m.v.code, .slice y1 m.v.sets.length z1, .slice y2 m.v.soa.length z2] rfl stL (List.mem_singleton.2 rfl) hver)) jf ?_
   refine tkQ 15 (hK := jf) ?_
   refine tkQ 16 (hK := jf) ?_
   refine tkQ 17 (hK := jf) ?_
   refine tkQ 18 (hK := jf) ?_
   refine qu 9 (JK hP hA m.up m.v m.t m.now [.int .u8 m.v.code, .slice y1 m.v.sets.length z1, .slice y2 m.v.soa.length z2] (jQ _ _ _ _ ?_ hvd) (hok c1).sm (fun _ _ => (hok c1).ends) l3 l2) ?_
   · exact fun p hp => (jf) p (hKL p hp)
   rintro _ _ ⟨cd, X2, N, rfl, hd, hX2, rfl⟩
   refine ⟨jf, ?_⟩
   refine qu 19 (aen hD hA ?_ m.up m.v m.t m.now [.int .u8 m.v.code, .slice y1 m.v.sets.length z1, .slice y2 m.v.soa.length z2] hvd (hok c1).ends l3 l2) ?_
   · exact fun p hp => (jf) p (hKL p hp)
   rintro _ _ ⟨ce, Y2, N2, rfl, hd2, hY2, rfl⟩
   refine ⟨jf, ?_⟩
   refine qu 20 (yo cd ce _ _ (kH _ _ _ _ ?_ hd) (kH _ _ _ _ ?_ hd2) hsh.few) ?_
   · exact jf
   · exact jf
   rintro u _ ⟨hu, rfl⟩
   obtain rfl : u = .bool true := by rw [hu, decide_eq_true rfl]
   refine ⟨jf, ?_⟩
   refine tkQ 21 (hK := jf) ?_
   refine tdQ ?_
   refine goU ?_
   exact uM 6 rfl rfl ⟨rfl, X2, Y2, hX2, hY2, rfl⟩ jP
 by_cases c2 : m.what = 2
 · have e : un a m = Aq.pass a m.up m.now := by unfold un; rw [if_neg c1, if_pos c2]
   rw [e] at hsh ⊢
   refine goU ?_
   refine jq jb [(bB, Obj.cells ([.int .u8 m.what, .int .i64 m.up, .int .u8 m.v.code, .slice y1 m.v.sets.length z1, .slice y2 m.v.soa.length z2, .int .u32 m.t, .int .i64 m.now] : List Value).toArray 69 (0, 0))] [] ?_
   refine tkQ 0 (hK := jf) ?_
   refine tkQ 1 (hK := jf) ?_
   refine tkQ 2 (hK := jf) ?_
   refine tkQ 3 (hK := jf) ?_
   refine tkQ 4 (hK := jf) ?_
   refine tkQ 6 (hK := jf) ?_
   refine tkQ 7 (hK := jf) ?_
   refine tkQ 8 (hK := jf) ?_
   refine tkQ 9 (hK := jf) ?_
   refine tkQ 10 (hK := jf) ?_
   refine qu 5 (Z4 hP hA m.up m.now) ?_
   rintro _ _ ⟨cd, X2, N, rfl, hd, hX2, rfl⟩
   refine ⟨jf, ?_⟩
   refine qu 11 (aeo hD hA ?_ m.up m.now l2) ?_
   · exact fun p hp => (jf) p (hKL p hp)
   rintro _ _ ⟨ce, Y2, N2, rfl, hd2, hY2, rfl⟩
   refine ⟨jf, ?_⟩
   refine qu 12 (yo cd ce _ _ (kH _ _ _ _ ?_ hd) (kH _ _ _ _ ?_ hd2) hsh.few) ?_
   · exact jf
   · exact jf
   rintro u _ ⟨hu, rfl⟩
   obtain rfl : u = .bool true := by rw [hu, decide_eq_true rfl]
   refine ⟨jf, ?_⟩
   refine tkQ 13 (hK := jf) ?_
   refine tdQ ?_
   refine goU ?_
   exact uM 6 rfl rfl ⟨rfl, X2, Y2, hX2, hY2, rfl⟩ jP
 · have e : un a m = Aq.tick a m.now := by unfold un; rw [if_neg c1, if_neg c2]
   rw [e] at hsh ⊢
   refine goU ?_
   refine jq jb [(bB, Obj.cells ([.int .u8 m.what, .int .i64 m.up, .int .u8 m.v.code, .slice y1 m.v.sets.length z1, .slice y2 m.v.soa.length z2, .int .u32 m.t, .int .i64 m.now] : List Value).toArray 69 (0, 0))] [] ?_
   refine tkQ 0 (hK := jf) ?_
   refine tkQ 1 (hK := jf) ?_
   refine tkQ 2 (hK := jf) ?_
   refine tkQ 4 (hK := jf) ?_
   refine tkQ 5 (hK := jf) ?_
   refine tkQ 6 (hK := jf) ?_
   refine qu 3 (Z5 hP hA m.now) ?_
   rintro _ _ ⟨cd, X2, N, rfl, hd, hX2, rfl⟩
   refine ⟨jf, ?_⟩
   refine qu 7 (aep hD hA ?_ m.now) ?_
   · exact fun p hp => (jf) p (hKL p hp)
   rintro _ _ ⟨ce, Y2, N2, rfl, hd2, hY2, rfl⟩
   refine ⟨jf, ?_⟩
   refine qu 8 (yo cd ce _ _ (kH _ _ _ _ ?_ hd) (kH _ _ _ _ ?_ hd2) hsh.few) ?_
   · exact jf
   · exact jf
   rintro u _ ⟨hu, rfl⟩
   obtain rfl : u = .bool true := by rw [hu, decide_eq_true rfl]
   refine ⟨jf, ?_⟩
   refine tkQ 9 (hK := jf) ?_
   refine tdQ ?_
   refine goU ?_
   exact uM 6 rfl rfl ⟨rfl, X2, Y2, hX2, hY2, rfl⟩ jP
end
section
open Go.RowKit
open Vd (RSet Vdt Vote Rec Quest Piece Ballot)
open Cn (Zo Cf)
variable {G : World} {L : ja}
def akU (a : As) (l : List ActT) : As := l.foldl (fun a m => (un a m).1) a
end
section
open Go.RowKit
open Hg (En Pl)
open Vd (RSet Vdt Vote Rec Quest Piece Ballot)
open Cn (Zo Cf)
variable {G : World} {L : ja}
structure StP where
 i : Nat
 a : As
 ap : Nat
 dp : Nat
 X : ja
 Y : ja
theorem ZC (cx : List Value) (x : CaseT) (v : Value) (l : List ActT) (hx : Qi L cx x) (hl : sliceR 7 ZA L [v] l) : Spec Tryz.prog G 6 #[.agg cx.toArray, v] L fun u M => u = .bool true ∧ M = L := by
 have hx0 := hx
 obtain ⟨vl, vz, rfl, hq, hz, hli, hcf, hnow⟩ := hx
 obtain ⟨_, hqn, hqk, hqc⟩ := hq
 obtain ⟨la, lc, e2, hli⟩ := hli.val
 obtain rfl := (List.cons.inj e2).1
 obtain ⟨aa, ac, e4, hl⟩ := hl.val
 obtain rfl := (List.cons.inj e4).1
 clear e2 e4
 have k3 := (sliceR.cut hl).2
 unfold maxLen at k3
 obtain ⟨k31, k32, _⟩ := k3
 have hCC := Uy x (.slice la x.l.length lc) vz
 have hcase : ∀ M : ja, (∀ p ∈ L, p ∈ M) → Qi M (uE x (.slice la x.l.length lc) vz) x := fun M hM => aba _ _ _ _ hM hx0
 generalize hgen : uE x (.slice la x.l.length lc) vz = cc at hCC hcase ⊢
 clear hgen hx0
 obtain ⟨hC0s, _, _, fq, _, _⟩ := hCC
 have haw : ∀ M : ja, Spec Tryz.prog G 9 #[] M fun u N => u = .bool true ∧ N = M := fun M => aa9
 refine jm (n := 146) Tryz.func6 rfl rfl rfl ?_
 repeat (first | refine goU ?_ | (refine kl ?_; intro bC))
 refine qj (afs cc x _ l (hcase _ ?_) (jx Yx _ _ _ _ ?_ hl)) ?_
 · exact jf
 · exact jf
 rintro _ _ ⟨b, rfl, rfl, hsm1⟩
 cases b with
 | true =>
   refine goU ?_
   refine Ut (haw _) ?_
   refine goU ?_
   exact uM 4 rfl rfl ⟨rfl, rfl⟩ jP
 | false =>
 obtain ⟨hcsm, hasm⟩ := hsm1 rfl
 refine goU ?_
 refine qj (afv cc x (hcase _ ?_) hcsm) ?_
 · exact jf
 rintro _ _ (⟨he, ap, dp, X0, Y0, rfl, hX0, hY0, rfl⟩ | ⟨rfl, rfl⟩)
 rotate_left
 · refine goU ?_
   refine jy (σ := Unit) (fun _ => True) (fun _ => [(1, .slice aa l.length ac), (6, .pointer none), (8, .int .i64 0)]) (fun _ => L) (fun _ => 0) () trivial ?_ (Fits.heap jP) ?_
   · exact jr
   rintro _ _
   by_cases hlt : 0 < l.length
   · refine goU ?_
     refine Ut (haw _) ?_
     refine goU ?_
     exact uM 4 rfl rfl ⟨rfl, rfl⟩ jP
   · refine goU ?_
     refine Ut (haw _) ?_
     refine goU ?_
     exact uM 4 rfl rfl ⟨rfl, rfl⟩ jP
 have hin := (Ky he).1
 have hqok : QOk x.q := ⟨by have := hcsm.name; omega, hqk, hqc, hin.name⟩
 obtain ⟨a0, ha0⟩ : ∃ a, a = (Aq.new1 x.q x.z x.l x.c x.now).1 := ⟨_, rfl⟩
 have hw0 : AWell a0 := by rw [ha0]; exact U9 hin hqok
 have hq0 : a0.q = x.q := by rw [ha0]; exact (ko (ym hin hqok).ok).2.1
 rw [← ha0] at hX0 hY0
 refine goU ?_
 refine jy (σ := StP) (fun s => s.i ≤ l.length ∧ AWell s.a ∧ s.a.q = x.q ∧ uP s.ap s.a s.X ∧ zN ((bC, Obj.cells cc.toArray 32 (0, 0)) :: L) s.dp s.a s.Y) (fun s => [(1, .slice aa l.length ac), (2, .pointer (some ⟨bC, 0, none⟩)), (5, .pointer (some ⟨s.ap, 0, none⟩)), (6, .pointer (some ⟨s.dp, 0, none⟩)), (8, .int .i64 (s.i : Nat))])
  (fun s => s.X ++ (s.Y ++ ((bC, Obj.cells cc.toArray 32 (0, 0)) :: L))) (fun s => l.length - s.i) ⟨0, a0, ap, dp, X0, Y0⟩ ⟨Nat.zero_le _, hw0, hq0, hX0, hY0⟩ ?_ (Fits.heap jP) ?_
 · exact jr
 clear hX0 hY0 hw0 hq0 ha0
 rintro ⟨i, a, ap, dp, X, Y⟩ ⟨hi, hA, hqa, hX, hY⟩
 dsimp only at hi hA hqa hX hY ⊢
 by_cases hlt : i < l.length
 rotate_left
 · refine goU ?_
   refine Ut (haw _) ?_
   refine goU ?_
   exact uM 4 rfl rfl ⟨rfl, rfl⟩ jP
 obtain ⟨y, hy⟩ : ∃ y, l[i]? = some y := ⟨_, List.getElem?_eq_getElem hlt⟩
 obtain ⟨b1, o1, C1, t1, f1, rfl, m1, cs1, hn1, hact, hcs⟩ := sliceR.at hl hy
 have hact0 := hact
 obtain ⟨va, vb, rfl, hvd, h1, h2, h3, h4⟩ := hact
 obtain ⟨y1, z1, y2, z2, e5, _, _, _⟩ := hvd.vals
 simp only [List.cons.injEq, and_true, true_and] at e5
 obtain ⟨rfl, rfl⟩ := e5
 have l1 := aag h1
 have l2 := Ux h2
 have l3 := Yy h3
 have c0 : C1[o1 + i * 7 + 0]? = some (.int .u8 y.what) := hcs 0 _ rfl
 have c1 : C1[o1 + i * 7 + 1]? = some (.int .i64 y.up) := hcs 1 _ rfl
 have c6 : C1[o1 + i * 7 + 6]? = some (.int .i64 y.now) := hcs 6 _ rfl
 have hver : ∀ j w, ([.int .u8 y.v.code, .slice y1 y.v.sets.length z1, .slice y2 y.v.soa.length z2] : List Value)[j]? = some w → C1[o1 + i * 7 + 2 + j]? = some w := fun j w hj =>
  match j, hj with
  | 0, hj => hcs 2 _ hj
  | 1, hj => hcs 3 _ hj
  | 2, hj => hcs 4 _ hj
 have hls := hasm.sets y (List.mem_of_getElem? hy)
 refine goU ?_
 obtain ⟨ck, hck⟩ : ∃ b : Bool, b = (decide (y.what = 1 ∨ y.what = 3) && !Qc x.q y.v) := ⟨_, rfl⟩
 refine uK (σ := Unit) (fun _ => True) (fun _ => [(1, .slice (some ⟨b1, o1, none⟩) l.length ac), (2, .pointer (some ⟨bC, 0, none⟩)), (5, .pointer (some ⟨ap, 0, none⟩)), (6, .pointer (some ⟨dp, 0, none⟩)), (8, .int .i64 (i : Nat)), (60, .bool ck)]) (fun _ => X ++ (Y ++ ((bC, Obj.cells cc.toArray 32 (0, 0)) :: L))) ?_ ?_
 · by_cases w1 : y.what = 1
   · obtain rfl : ck = !Qc x.q y.v := by rw [hck, decide_eq_true (Or.inl w1), Bool.true_and]
     refine yN jb ?_
     refine drR ?_
     refine tkL rfl rfl je (kd rfl rfl kp (jA [.string (bs x.q.name), .int .u16 x.q.kind, .int .u16 x.q.cls] rfl stL u3 fq)) (fun p h => h) ?_
     refine drR ?_
     refine tkL rfl rfl je (kd rfl rfl kp (jA [.int .u8 y.v.code, .slice y1 y.v.sets.length z1, .slice y2 y.v.soa.length z2] rfl stL u3 hver)) (fun p h => h) ?_
     refine Uu 22 (acR x.q y.v _ (jQ _ _ _ _ ?_ hvd) hqok.name hqk hqc hls.1 hls.2) ?_
     · exact jf
     rintro _ _ ⟨rfl, rfl⟩
     refine ⟨fun p h => h, ?_⟩
     refine tkQ 23 (hK := fun p h => h) ?_
     refine tkQ 24 (hK := fun p h => h) ?_
     refine tdQ ?_
     exact j9 () trivial jr (fun w h => h)
   by_cases w3 : y.what = 3
   · obtain rfl : ck = !Qc x.q y.v := by rw [hck, decide_eq_true (Or.inr w3), Bool.true_and]
     refine yN jb ?_
     refine drR ?_
     refine tkL rfl rfl je (kd rfl rfl kp (jA [.string (bs x.q.name), .int .u16 x.q.kind, .int .u16 x.q.cls] rfl stL u3 fq)) (fun p h => h) ?_
     refine drR ?_
     refine tkL rfl rfl je (kd rfl rfl kp (jA [.int .u8 y.v.code, .slice y1 y.v.sets.length z1, .slice y2 y.v.soa.length z2] rfl stL u3 hver)) (fun p h => h) ?_
     refine Uu 22 (acR x.q y.v _ (jQ _ _ _ _ ?_ hvd) hqok.name hqk hqc hls.1 hls.2) ?_
     · exact jf
     rintro _ _ ⟨rfl, rfl⟩
     refine ⟨fun p h => h, ?_⟩
     refine tkQ 23 (hK := fun p h => h) ?_
     refine tkQ 24 (hK := fun p h => h) ?_
     refine tdQ ?_
     exact j9 () trivial jr (fun w h => h)
   · obtain rfl : ck = false := by rw [hck, decide_eq_false (not_or.2 ⟨w1, w3⟩), Bool.false_and]
     refine yN jb ?_
     refine drR ?_
     refine aib ?_
     exact j9 () trivial jr (fun w h => h)
 intro _ _
 cases ck with
 | true =>
   refine goU ?_
   refine Ut (haw _) ?_
   refine goU ?_
   exact uM 4 rfl rfl ⟨rfl, rfl⟩ jP
 | false =>
 have hok : y.what = 1 ∨ y.what = 3 → VOk x.q y.v := fun h => by
  rw [decide_eq_true h, Bool.true_and] at hck
  exact aew (by simpa using hck.symm) hls.1 hls.2
 refine goU ?_
 refine uK (σ := As × Nat × Nat × ja × ja) (fun s => AWell s.1 ∧ s.1.q = x.q ∧ uP s.2.1 s.1 s.2.2.2.1 ∧ zN ((bC, Obj.cells cc.toArray 32 (0, 0)) :: L) s.2.2.1 s.1 s.2.2.2.2) (fun s => [(1, .slice (some ⟨b1, o1, none⟩) l.length ac), (2, .pointer (some ⟨bC, 0, none⟩)), (5, .pointer (some ⟨s.2.1, 0, none⟩)), (6, .pointer (some ⟨s.2.2.1, 0, none⟩)), (8, .int .i64 (i : Nat))]) (fun s => s.2.2.2.1 ++ (s.2.2.2.2 ++ ((bC, Obj.cells cc.toArray 32 (0, 0)) :: L))) ?_ ?_
 · by_cases w3 : y.what = 3
   · have hvo := hok (Or.inr w3)
     refine goU ?_
     refine qj (Z9 hX) ?_
     rintro _ _ ⟨p2, X2, rfl, hX2, rfl⟩
     refine goU ?_
     refine qj (Z5 hX hA y.now) ?_
     rintro _ _ ⟨cd, X3, N3, rfl, hd3, hX3, rfl⟩
     refine goU ?_
     refine jq jb L [] ?_
     refine tkQ 0 (hK := jf) ?_
     refine tkQ 1 (hK := jf) ?_
     refine tkQ 2 (hK := jf) ?_
     refine tkQ 3 (hK := jf) ?_
     refine tkQ 4 (hK := jf) ?_
     refine tkQ 5 (hK := jf) ?_
     refine tkQ 6 (hK := jf) ?_
     refine tkQ 7 (hK := jf) ?_
     refine tkQ 8 (hK := jf) ?_
     refine tkQ 9 (hK := jf) ?_
     refine jp 10 rfl rfl je (jL (jA [.int .u8 y.v.code, .slice y1 y.v.sets.length z1, .slice y2 y.v.soa.length z2] rfl stL u3 hver)) jf ?_
     refine tkQ 11 (hK := jf) ?_
     refine tkQ 12 (hK := jf) ?_
     refine tkQ 13 (hK := jf) ?_
     refine tkQ 14 (hK := jf) ?_
     refine tkQ 15 (hK := jf) ?_
     refine qu 16 (JK hX3 hA.tick y.up y.v 1 y.now [.int .u8 y.v.code, .slice y1 y.v.sets.length z1, .slice y2 y.v.soa.length z2] (jQ _ _ _ _ ?_ hvd) hvo.sm (fun _ _ => by rw [acW hA.ok, hqa]; exact hvo.ends) jd l2) ?_
     · exact jf
     rintro _ _ ⟨ce, X4, N4, rfl, hd4, hX4, rfl⟩
     refine ⟨jf, ?_⟩
     refine tdQ ?_
     refine goU ?_
     refine qj (aeq hY) ?_
     rintro _ _ ⟨d2, Y2, rfl, hY2, rfl⟩
     refine goU ?_
     exact j9 (a, p2, d2, X2, Y2) ⟨hA, hqa, hX2, hY2⟩ jr (Fits.heap jP)
   · have hao : acV a.q y := fun w1 => by rw [hqa]; exact hok (Or.inl w1)
     refine goU ?_
     refine jB (jA [.int .u8 y.what, .int .i64 y.up, .int .u8 y.v.code, .slice y1 y.v.sets.length z1, .slice y2 y.v.soa.length z2, .int .u32 y.t, .int .i64 y.now] rfl stL u3 hcs) rfl ?_
     refine qj (afw hX hY hA (fun p h => h) _ y (Yx _ _ _ _ ?_ hact0) hao) ?_
     · exact jf
     rintro _ _ ⟨rfl, X2, Y2, hX2, hY2, rfl⟩
     refine goU ?_
     exact j9 ((un a y).1, ap, dp, X2, Y2) ⟨ZB hA hao, (aey hA.ok y).trans hqa, hX2, hY2⟩ jr (Fits.heap jP)
 clear hX hY hA hqa
 rintro ⟨a, ap, dp, X, Y⟩ ⟨hA, hqa, hX, hY⟩
 dsimp only at hA hqa hX hY ⊢
 refine goU ?_
 refine qj (afi hX hA) ?_
 rintro _ _ ⟨rfl, rfl⟩
 refine goU ?_
 refine qj (afm hY hA) ?_
 rintro _ _ ⟨rfl, rfl⟩
 obtain ⟨⟨d1, d2⟩, hdue⟩ : ∃ z, z = Aq.dueA a := ⟨_, rfl⟩
 rw [← hdue]
 obtain ⟨bp, bb, Mp, Mb, hp, hb, rfl⟩ := id hY
 have e3 : (jE a bp bb)[0 + 5]? = some (.pointer (some ⟨bp, 0, none⟩)) := rfl
 have e9 : (jE a bp bb)[0 + 9]? = some (.bool a.over) := rfl
 have q1 : (d1 != d1) = false := bne_self_eq_false _
 have q2 : (d2 != d2) = false := bne_self_eq_false _
 have q3 : (a.over != a.over) = false := bne_self_eq_false _
 have q4 : (Hg.opens a.p != Hg.opens a.p) = false := bne_self_eq_false _
 refine goU ?_
 refine jq jb [(dp, Obj.cells (jE a bp bb) 82 (0, 0))] [] ?_
 refine tkQ 0 (hK := jf) ?_
 refine tkQ 1 (hK := jf) ?_
 refine tkQ 2 (hK := jf) ?_
 refine tkQ 3 (hK := jf) ?_
 refine tkQ 4 (hK := jf) ?_
 refine tkQ 5 (hK := jf) ?_
 refine tkQ 6 (hK := jf) ?_
 refine tkQ 7 (hK := jf) ?_
 refine tkQ 8 (hK := jf) ?_
 refine tkQ 9 (hK := jf) ?_
 refine tkQ 11 (hK := jf) ?_
 refine tkQ 12 (hK := jf) ?_
 refine tkQ 13 (hK := jf) ?_
 refine tkQ 14 (hK := jf) ?_
 refine Uu 10 (JM hX ?_) ?_
 · exact jf
 rintro _ _ ⟨rfl, rfl⟩
 refine ⟨jf, ?_⟩
 refine tkQ 15 (hK := jf) ?_
 refine tkQ 16 (hK := jf) ?_
 refine tdQ ?_
 refine goU ?_
 refine jq jb [(dp, Obj.cells (jE a bp bb) 82 (0, 0))] [] ?_
 refine tkQ 0 (hK := jf) ?_
 cases ho : a.over with
 | true =>
   refine qu 1 (JM hX ?_) ?_
   · exact jf
   rintro _ _ ⟨rfl, rfl⟩
   rw [ho]
   refine ⟨jf, ?_⟩
   refine tkQ 2 (hK := jf) ?_
   refine tkQ 3 (hK := jf) ?_
   refine tkQ 4 (hK := jf) ?_
   refine tkQ 5 (hK := jf) ?_
   refine tkQ 6 (hK := jf) ?_
   refine tkQ 7 (hK := jf) ?_
   refine tkQ 8 (hK := jf) ?_
   refine tkQ 9 (hK := jf) ?_
   refine tkQ 10 (hK := jf) ?_
   refine tkQ 11 (hK := jf) ?_
   refine tkQ 12 (hK := jf) ?_
   refine tdQ ?_
   refine goU ?_
   exact jh ⟨i + 1, a, ap, dp, X, _⟩ ⟨hlt, hA, hqa, hX, hY⟩ jr (Fits.heap jP) (by dsimp only; omega)
 | false =>
   refine qu 1 (JM hX ?_) ?_
   · exact jf
   rintro _ _ ⟨rfl, rfl⟩
   rw [ho]
   refine ⟨jf, ?_⟩
   refine tkQ 2 (hK := jf) ?_
   refine tkQ 3 (hK := jf) ?_
   refine tkQ 4 (hK := jf) ?_
   refine tkQ 6 (hK := jf) ?_
   refine tkQ 7 (hK := jf) ?_
   refine tkQ 8 (hK := jf) ?_
   refine tkQ 9 (hK := jf) ?_
   refine Uu 5 (aee hX hA) ?_
   rintro _ _ ⟨rfl, rfl⟩
   refine ⟨jf, ?_⟩
   refine Uu 10 (Wb hp ?_) ?_
   · exact jf
   rintro _ _ ⟨rfl, rfl⟩
   refine ⟨jf, ?_⟩
   refine tkQ 11 (hK := jf) ?_
   refine tkQ 12 (hK := jf) ?_
   refine tdQ ?_
   refine goU ?_
   exact jh ⟨i + 1, a, ap, dp, X, _⟩ ⟨hlt, hA, hqa, hX, hY⟩ jr (Fits.heap jP) (by dsimp only; omega)
end
section
open Go.RowKit
theorem UI (cx : List Value) (x : CaseT) (v : Value) (l : List ActT) (W : World) (hx : Qi (kU W) cx x) (hl : sliceR 7 ZA (kU W) [v] l) :
 Calls Tryz.prog 6 #[.agg cx.toArray, v] W fun e w' => e = .returned (.bool true) ∧ Below W.heap.size W w' :=
 Spec.below (ZC cx x v l hx hl)
end
section
open Go.ChangeShapes Go.WideShapes Go.ChangeAt Go.RowKit
open Vd (RSet Vdt Vote Rec Quest Piece Ballot)
open Cn (Zo Cf)
theorem own : ownKnob Tryz.prog.godebug = none := by kernel_rfl
theorem aah : laidOutB Tryz.prog = true := by kernel_rfl
section
variable {H : Type} {enc : TypeId × Value → H} {W : World} {v : Value} {d : DataW H} {p : List MemPlace} {base : Nat}
theorem acY {n : Int} (h : qd .u16 n) : 0 ≤ n ∧ n ≤ 65535 := by unfold qd Lit.wf at h; simp [IntKind.min, IntKind.max, IntKind.bits, IntKind.signed] at h; omega
theorem aj1 {n : Int} (h : qd .u32 n) : 0 ≤ n ∧ n ≤ 4294967295 := by unfold qd Lit.wf at h; simp [IntKind.min, IntKind.max, IntKind.bits, IntKind.signed] at h; omega
theorem bd8 {n : Int} (h : qd .u8 n) : 0 ≤ n ∧ n ≤ 255 := by unfold qd Lit.wf at h; simp [IntKind.min, IntKind.max, IntKind.bits, IntKind.signed] at h; omega
theorem Qo {n : Int} (h : qd .i64 n) : -9223372036854775808 ≤ n ∧ n ≤ 9223372036854775807 := by unfold qd Lit.wf at h; simp [IntKind.min, IntKind.max, IntKind.bits, IntKind.signed] at h; omega
theorem Yz : Opens enc Tryz.prog W 24 3 VQ := fun fuel cs x hf => by
 obtain ⟨hlen, hfs⟩ := qm Tryz.underlying24 hf
 have hc : Tryz.prog.cellsOf 24 = 3 := by kernel_rfl
 rw [hc] at hlen
 have c0 : Tryz.prog.cellsOf 9 = 1 := by kernel_rfl
 have c1 : Tryz.prog.cellsOf 22 = 1 := by kernel_rfl
 obtain ⟨n0, y0, g0⟩ := hfs 0 _ rfl
 have g0 : DataW.trod enc Tryz.prog W 0 (fun _ => true) true n0 9 ((cs.drop 0).take (Tryz.prog.cellsOf 9)) = some y0 := g0
 rw [c0] at g0
 obtain ⟨a0, k0, w0⟩ := (uu unO).at g0
 obtain ⟨n1, y1, g1⟩ := hfs 1 _ rfl
 have g1 : DataW.trod enc Tryz.prog W 0 (fun _ => true) true n1 22 ((cs.drop 1).take (Tryz.prog.cellsOf 22)) = some y1 := g1
 rw [c1] at g1
 obtain ⟨a1, k1, w1⟩ := (jX unO).at g1
 obtain ⟨n2, y2, g2⟩ := hfs 2 _ rfl
 have g2 : DataW.trod enc Tryz.prog W 0 (fun _ => true) true n2 22 ((cs.drop 2).take (Tryz.prog.cellsOf 22)) = some y2 := g2
 rw [c1] at g2
 obtain ⟨a2, k2, w2⟩ := (jX unO).at g2
 refine ⟨hlen, ⟨a0, a1, a2⟩, ?_⟩
 match cs, hlen with
 | [x0, x1, x2], _ =>
   obtain rfl : x0 = _ := by simpa using k0
   obtain rfl : x1 = _ := by simpa using k1
   obtain rfl : x2 = _ := by simpa using k2
   exact ⟨rfl, w0, acY w1, acY w2⟩
theorem YA : Opens enc Tryz.prog W 26 3 zoR := fun fuel cs x hf => by
 obtain ⟨hlen, hfs⟩ := qm Tryz.underlying26 hf
 have hc : Tryz.prog.cellsOf 26 = 3 := by kernel_rfl
 rw [hc] at hlen
 have c0 : Tryz.prog.cellsOf 9 = 1 := by kernel_rfl
 have c1 : Tryz.prog.cellsOf 5 = 1 := by kernel_rfl
 have c2 : Tryz.prog.cellsOf 22 = 1 := by kernel_rfl
 obtain ⟨n0, y0, g0⟩ := hfs 0 _ rfl
 have g0 : DataW.trod enc Tryz.prog W 0 (fun _ => true) true n0 9 ((cs.drop 0).take (Tryz.prog.cellsOf 9)) = some y0 := g0
 rw [c0] at g0
 obtain ⟨a0, k0, w0⟩ := (uu unO).at g0
 obtain ⟨n1, y1, g1⟩ := hfs 1 _ rfl
 have g1 : DataW.trod enc Tryz.prog W 0 (fun _ => true) true n1 5 ((cs.drop 1).take (Tryz.prog.cellsOf 5)) = some y1 := g1
 rw [c1] at g1
 obtain ⟨a1, k1, w1⟩ := (jX unO).at g1
 obtain ⟨n2, y2, g2⟩ := hfs 2 _ rfl
 have g2 : DataW.trod enc Tryz.prog W 0 (fun _ => true) true n2 22 ((cs.drop 2).take (Tryz.prog.cellsOf 22)) = some y2 := g2
 rw [c2] at g2
 obtain ⟨a2, k2, w2⟩ := (jX unO).at g2
 refine ⟨hlen, ⟨a0, a1.toNat, a2.toNat⟩, ?_⟩
 match cs, hlen with
 | [x0, x1, x2], _ =>
   obtain rfl : x0 = _ := by simpa using k0
   obtain rfl : x1 = _ := by simpa using k1
   obtain rfl : x2 = _ := by simpa using k2
   have q1 := bd8 w1
   have q2 := acY w2
   refine ⟨?_, w0, by show a1.toNat ≤ 255; omega, by show a2.toNat ≤ 65535; omega⟩
   show _ = [_, Value.int .u8 ((a1.toNat : Nat) : Int), Value.int .u16 ((a2.toNat : Nat) : Int)]
   rw [Int.toNat_of_nonneg q1.1, Int.toNat_of_nonneg q2.1]
theorem acZ : Opens enc Tryz.prog W 30 13 cfR := fun fuel cs x hf => by
 obtain ⟨hlen, hfs⟩ := qm Tryz.underlying30 hf
 have hc : Tryz.prog.cellsOf 30 = 13 := by kernel_rfl
 rw [hc] at hlen
 have c0 : Tryz.prog.cellsOf 3 = 1 := by kernel_rfl
 have c1 : Tryz.prog.cellsOf 28 = 1 := by kernel_rfl
 obtain ⟨n0, y0, g0⟩ := hfs 0 _ rfl
 have g0 : DataW.trod enc Tryz.prog W 0 (fun _ => true) true n0 3 ((cs.drop 0).take (Tryz.prog.cellsOf 3)) = some y0 := g0
 rw [c0] at g0
 obtain ⟨a0, k0, w0⟩ := (jX unO).at g0
 obtain ⟨n1, y1, g1⟩ := hfs 1 _ rfl
 have g1 : DataW.trod enc Tryz.prog W 0 (fun _ => true) true n1 3 ((cs.drop 1).take (Tryz.prog.cellsOf 3)) = some y1 := g1
 rw [c0] at g1
 obtain ⟨a1, k1, w1⟩ := (jX unO).at g1
 obtain ⟨n2, y2, g2⟩ := hfs 2 _ rfl
 have g2 : DataW.trod enc Tryz.prog W 0 (fun _ => true) true n2 3 ((cs.drop 2).take (Tryz.prog.cellsOf 3)) = some y2 := g2
 rw [c0] at g2
 obtain ⟨a2, k2, w2⟩ := (jX unO).at g2
 obtain ⟨n3, y3, g3⟩ := hfs 3 _ rfl
 have g3 : DataW.trod enc Tryz.prog W 0 (fun _ => true) true n3 3 ((cs.drop 3).take (Tryz.prog.cellsOf 3)) = some y3 := g3
 rw [c0] at g3
 obtain ⟨a3, k3, w3⟩ := (jX unO).at g3
 obtain ⟨n4, y4, g4⟩ := hfs 4 _ rfl
 have g4 : DataW.trod enc Tryz.prog W 0 (fun _ => true) true n4 3 ((cs.drop 4).take (Tryz.prog.cellsOf 3)) = some y4 := g4
 rw [c0] at g4
 obtain ⟨a4, k4, w4⟩ := (jX unO).at g4
 obtain ⟨n5, y5, g5⟩ := hfs 5 _ rfl
 have g5 : DataW.trod enc Tryz.prog W 0 (fun _ => true) true n5 3 ((cs.drop 5).take (Tryz.prog.cellsOf 3)) = some y5 := g5
 rw [c0] at g5
 obtain ⟨a5, k5, w5⟩ := (jX unO).at g5
 obtain ⟨n6, y6, g6⟩ := hfs 6 _ rfl
 have g6 : DataW.trod enc Tryz.prog W 0 (fun _ => true) true n6 3 ((cs.drop 6).take (Tryz.prog.cellsOf 3)) = some y6 := g6
 rw [c0] at g6
 obtain ⟨a6, k6, w6⟩ := (jX unO).at g6
 obtain ⟨n7, y7, g7⟩ := hfs 7 _ rfl
 have g7 : DataW.trod enc Tryz.prog W 0 (fun _ => true) true n7 3 ((cs.drop 7).take (Tryz.prog.cellsOf 3)) = some y7 := g7
 rw [c0] at g7
 obtain ⟨a7, k7, w7⟩ := (jX unO).at g7
 obtain ⟨n8, y8, g8⟩ := hfs 8 _ rfl
 have g8 : DataW.trod enc Tryz.prog W 0 (fun _ => true) true n8 3 ((cs.drop 8).take (Tryz.prog.cellsOf 3)) = some y8 := g8
 rw [c0] at g8
 obtain ⟨a8, k8, w8⟩ := (jX unO).at g8
 obtain ⟨n9, y9, g9⟩ := hfs 9 _ rfl
 have g9 : DataW.trod enc Tryz.prog W 0 (fun _ => true) true n9 3 ((cs.drop 9).take (Tryz.prog.cellsOf 3)) = some y9 := g9
 rw [c0] at g9
 obtain ⟨a9, k9, w9⟩ := (jX unO).at g9
 obtain ⟨n10, y10, g10⟩ := hfs 10 _ rfl
 have g10 : DataW.trod enc Tryz.prog W 0 (fun _ => true) true n10 3 ((cs.drop 10).take (Tryz.prog.cellsOf 3)) = some y10 := g10
 rw [c0] at g10
 obtain ⟨a10, k10, w10⟩ := (jX unO).at g10
 obtain ⟨n11, y11, g11⟩ := hfs 11 _ rfl
 have g11 : DataW.trod enc Tryz.prog W 0 (fun _ => true) true n11 3 ((cs.drop 11).take (Tryz.prog.cellsOf 3)) = some y11 := g11
 rw [c0] at g11
 obtain ⟨a11, k11, w11⟩ := (jX unO).at g11
 obtain ⟨n12, y12, g12⟩ := hfs 12 _ rfl
 have g12 : DataW.trod enc Tryz.prog W 0 (fun _ => true) true n12 28 ((cs.drop 12).take (Tryz.prog.cellsOf 28)) = some y12 := g12
 rw [c1] at g12
 obtain ⟨a12, k12⟩ := (qN unO je (by decide) (YA (enc := enc))).at g12
 refine ⟨hlen, ⟨a0, a1, a2, a3, a4, a5, a6, a7, a8, a9, a10, a11, a12⟩, ?_⟩
 match cs, hlen with
 | [x0, x1, x2, x3, x4, x5, x6, x7, x8, x9, x10, x11, x12], _ =>
   obtain rfl : x0 = _ := by simpa using k0
   obtain rfl : x1 = _ := by simpa using k1
   obtain rfl : x2 = _ := by simpa using k2
   obtain rfl : x3 = _ := by simpa using k3
   obtain rfl : x4 = _ := by simpa using k4
   obtain rfl : x5 = _ := by simpa using k5
   obtain rfl : x6 = _ := by simpa using k6
   obtain rfl : x7 = _ := by simpa using k7
   obtain rfl : x8 = _ := by simpa using k8
   obtain rfl : x9 = _ := by simpa using k9
   obtain rfl : x10 = _ := by simpa using k10
   obtain rfl : x11 = _ := by simpa using k11
   exact ⟨x12, rfl, by simpa using k12, ⟨Qo w0, Qo w1, Qo w2, Qo w3, Qo w4, Qo w5, Qo w6, Qo w7, Qo w8, Qo w9, Qo w10, Qo w11⟩⟩
instance : Inhabited RSet := ⟨RSet.none⟩
theorem Vo : Opens enc Tryz.prog W 122 5 rsR := fun fuel cs x hf => by
 obtain ⟨hlen, hfs⟩ := qm Tryz.underlying122 hf
 have hc : Tryz.prog.cellsOf 122 = 5 := by kernel_rfl
 rw [hc] at hlen
 have c0 : Tryz.prog.cellsOf 9 = 1 := by kernel_rfl
 have c1 : Tryz.prog.cellsOf 22 = 1 := by kernel_rfl
 have c2 : Tryz.prog.cellsOf 41 = 1 := by kernel_rfl
 have c3 : Tryz.prog.cellsOf 120 = 1 := by kernel_rfl
 obtain ⟨n0, y0, g0⟩ := hfs 0 _ rfl
 have g0 : DataW.trod enc Tryz.prog W 0 (fun _ => true) true n0 9 ((cs.drop 0).take (Tryz.prog.cellsOf 9)) = some y0 := g0
 rw [c0] at g0
 obtain ⟨a0, k0, w0⟩ := (uu unO).at g0
 obtain ⟨n1, y1, g1⟩ := hfs 1 _ rfl
 have g1 : DataW.trod enc Tryz.prog W 0 (fun _ => true) true n1 22 ((cs.drop 1).take (Tryz.prog.cellsOf 22)) = some y1 := g1
 rw [c1] at g1
 obtain ⟨a1, k1, w1⟩ := (jX unO).at g1
 obtain ⟨n2, y2, g2⟩ := hfs 2 _ rfl
 have g2 : DataW.trod enc Tryz.prog W 0 (fun _ => true) true n2 22 ((cs.drop 2).take (Tryz.prog.cellsOf 22)) = some y2 := g2
 rw [c1] at g2
 obtain ⟨a2, k2, w2⟩ := (jX unO).at g2
 obtain ⟨n3, y3, g3⟩ := hfs 3 _ rfl
 have g3 : DataW.trod enc Tryz.prog W 0 (fun _ => true) true n3 41 ((cs.drop 3).take (Tryz.prog.cellsOf 41)) = some y3 := g3
 rw [c2] at g3
 obtain ⟨a3, k3, w3⟩ := (jX unO).at g3
 obtain ⟨n4, y4, g4⟩ := hfs 4 _ rfl
 have g4 : DataW.trod enc Tryz.prog W 0 (fun _ => true) true n4 120 ((cs.drop 4).take (Tryz.prog.cellsOf 120)) = some y4 := g4
 rw [c3] at g4
 obtain ⟨a4, k4⟩ := (qN unO je (by decide) (uu unO)).at g4
 refine ⟨hlen, ⟨a0, a1, a2, a3, a4⟩, ?_⟩
 match cs, hlen with
 | [x0, x1, x2, x3, x4], _ =>
   obtain rfl : x0 = _ := by simpa using k0
   obtain rfl : x1 = _ := by simpa using k1
   obtain rfl : x2 = _ := by simpa using k2
   obtain rfl : x3 = _ := by simpa using k3
   exact ⟨x4, rfl, by simpa using k4, w0, acY w1, acY w2, aj1 w3⟩
theorem ac0 : Opens enc Tryz.prog W 40 3 vdR := fun fuel cs x hf => by
 obtain ⟨hlen, hfs⟩ := qm Tryz.underlying40 hf
 have hc : Tryz.prog.cellsOf 40 = 3 := by kernel_rfl
 rw [hc] at hlen
 have c0 : Tryz.prog.cellsOf 5 = 1 := by kernel_rfl
 have c1 : Tryz.prog.cellsOf 38 = 1 := by kernel_rfl
 obtain ⟨n0, y0, g0⟩ := hfs 0 _ rfl
 have g0 : DataW.trod enc Tryz.prog W 0 (fun _ => true) true n0 5 ((cs.drop 0).take (Tryz.prog.cellsOf 5)) = some y0 := g0
 rw [c0] at g0
 obtain ⟨a0, k0, w0⟩ := (jX unO).at g0
 obtain ⟨n1, y1, g1⟩ := hfs 1 _ rfl
 have g1 : DataW.trod enc Tryz.prog W 0 (fun _ => true) true n1 38 ((cs.drop 1).take (Tryz.prog.cellsOf 38)) = some y1 := g1
 rw [c1] at g1
 obtain ⟨a1, k1⟩ := (qN unO je (by decide) (Vo (enc := enc))).at g1
 obtain ⟨n2, y2, g2⟩ := hfs 2 _ rfl
 have g2 : DataW.trod enc Tryz.prog W 0 (fun _ => true) true n2 38 ((cs.drop 2).take (Tryz.prog.cellsOf 38)) = some y2 := g2
 rw [c1] at g2
 obtain ⟨a2, k2⟩ := (qN unO je (by decide) (Vo (enc := enc))).at g2
 refine ⟨hlen, ⟨a0, a1, a2⟩, ?_⟩
 match cs, hlen with
 | [x0, x1, x2], _ =>
   obtain rfl : x0 = _ := by simpa using k0
   exact ⟨x1, x2, rfl, by simpa using k1, by simpa using k2, bd8 w0⟩
theorem opens_case : Opens enc Tryz.prog W 32 21 Qi := fun fuel cs x hf => by
 obtain ⟨hlen, hfs⟩ := qm Tryz.underlying32 hf
 have hc : Tryz.prog.cellsOf 32 = 21 := by kernel_rfl
 rw [hc] at hlen
 have c0 : Tryz.prog.cellsOf 24 = 3 := by kernel_rfl
 have c1 : Tryz.prog.cellsOf 26 = 3 := by kernel_rfl
 have c2 : Tryz.prog.cellsOf 27 = 1 := by kernel_rfl
 have c3 : Tryz.prog.cellsOf 30 = 13 := by kernel_rfl
 have c4 : Tryz.prog.cellsOf 2 = 1 := by kernel_rfl
 obtain ⟨n0, y0, g0⟩ := hfs 0 _ rfl
 have g0 : DataW.trod enc Tryz.prog W 0 (fun _ => true) true n0 24 ((cs.drop 0).take (Tryz.prog.cellsOf 24)) = some y0 := g0
 rw [c0] at g0
 obtain ⟨a0, k0⟩ := (Yz (enc := enc)).at g0
 obtain ⟨n1, y1, g1⟩ := hfs 1 _ rfl
 have g1 : DataW.trod enc Tryz.prog W 0 (fun _ => true) true n1 26 ((cs.drop 3).take (Tryz.prog.cellsOf 26)) = some y1 := g1
 rw [c1] at g1
 obtain ⟨a1, k1⟩ := (YA (enc := enc)).at g1
 obtain ⟨n2, y2, g2⟩ := hfs 2 _ rfl
 have g2 : DataW.trod enc Tryz.prog W 0 (fun _ => true) true n2 27 ((cs.drop 6).take (Tryz.prog.cellsOf 27)) = some y2 := g2
 rw [c2] at g2
 obtain ⟨a2, k2⟩ := (qN unO je (by decide) (jX unO)).at g2
 obtain ⟨n3, y3, g3⟩ := hfs 3 _ rfl
 have g3 : DataW.trod enc Tryz.prog W 0 (fun _ => true) true n3 30 ((cs.drop 7).take (Tryz.prog.cellsOf 30)) = some y3 := g3
 rw [c3] at g3
 obtain ⟨a3, k3⟩ := (acZ (enc := enc)).at g3
 obtain ⟨n4, y4, g4⟩ := hfs 4 _ rfl
 have g4 : DataW.trod enc Tryz.prog W 0 (fun _ => true) true n4 2 ((cs.drop 20).take (Tryz.prog.cellsOf 2)) = some y4 := g4
 rw [c4] at g4
 obtain ⟨a4, k4, w4⟩ := (jX unO).at g4
 refine ⟨hlen, ⟨a0, a1, a2, a3, a4⟩, ?_⟩
 match cs, hlen with
 | [x0, x1, x2, x3, x4, x5, x6, x7, x8, x9, x10, x11, x12, x13, x14, x15, x16, x17, x18, x19, x20], _ =>
   obtain rfl : x20 = _ := by simpa using k4
   obtain ⟨e0, hq⟩ := k0
   obtain ⟨e1, hz⟩ := k1
   obtain ⟨vz, e3, hcf⟩ := k3
   simp only [List.drop_zero, List.take_succ_cons, List.take_zero, List.drop_succ_cons, List.cons.injEq, and_true] at e0 e1 e3
   unfold jo at e3
   simp only [List.cons.injEq, and_true] at e3
   obtain ⟨rfl, rfl, rfl⟩ := e0
   obtain ⟨rfl, rfl, rfl⟩ := e1
   obtain ⟨rfl, rfl, rfl, rfl, rfl, rfl, rfl, rfl, rfl, rfl, rfl, rfl, rfl⟩ := e3
   exact ⟨_, _, rfl, ⟨rfl, hq⟩, ⟨rfl, hz⟩, by simpa using k2, ⟨_, rfl, hcf⟩, w4⟩
theorem abb : Opens enc Tryz.prog W 69 7 ZA := fun fuel cs x hf => by
 obtain ⟨hlen, hfs⟩ := qm Tryz.underlying69 hf
 have hc : Tryz.prog.cellsOf 69 = 7 := by kernel_rfl
 rw [hc] at hlen
 have c0 : Tryz.prog.cellsOf 5 = 1 := by kernel_rfl
 have c1 : Tryz.prog.cellsOf 3 = 1 := by kernel_rfl
 have c2 : Tryz.prog.cellsOf 40 = 3 := by kernel_rfl
 have c3 : Tryz.prog.cellsOf 41 = 1 := by kernel_rfl
 have c4 : Tryz.prog.cellsOf 2 = 1 := by kernel_rfl
 obtain ⟨n0, y0, g0⟩ := hfs 0 _ rfl
 have g0 : DataW.trod enc Tryz.prog W 0 (fun _ => true) true n0 5 ((cs.drop 0).take (Tryz.prog.cellsOf 5)) = some y0 := g0
 rw [c0] at g0
 obtain ⟨a0, k0, w0⟩ := (jX unO).at g0
 obtain ⟨n1, y1, g1⟩ := hfs 1 _ rfl
 have g1 : DataW.trod enc Tryz.prog W 0 (fun _ => true) true n1 3 ((cs.drop 1).take (Tryz.prog.cellsOf 3)) = some y1 := g1
 rw [c1] at g1
 obtain ⟨a1, k1, w1⟩ := (jX unO).at g1
 obtain ⟨n2, y2, g2⟩ := hfs 2 _ rfl
 have g2 : DataW.trod enc Tryz.prog W 0 (fun _ => true) true n2 40 ((cs.drop 2).take (Tryz.prog.cellsOf 40)) = some y2 := g2
 rw [c2] at g2
 obtain ⟨a2, k2⟩ := (ac0 (enc := enc)).at g2
 obtain ⟨n3, y3, g3⟩ := hfs 3 _ rfl
 have g3 : DataW.trod enc Tryz.prog W 0 (fun _ => true) true n3 41 ((cs.drop 5).take (Tryz.prog.cellsOf 41)) = some y3 := g3
 rw [c3] at g3
 obtain ⟨a3, k3, w3⟩ := (jX unO).at g3
 obtain ⟨n4, y4, g4⟩ := hfs 4 _ rfl
 have g4 : DataW.trod enc Tryz.prog W 0 (fun _ => true) true n4 2 ((cs.drop 6).take (Tryz.prog.cellsOf 2)) = some y4 := g4
 rw [c4] at g4
 obtain ⟨a4, k4, w4⟩ := (jX unO).at g4
 refine ⟨hlen, ⟨a0, a1, a2, a3, a4⟩, ?_⟩
 match cs, hlen with
 | [x0, x1, x2, x3, x4, x5, x6], _ =>
   obtain rfl : x0 = _ := by simpa using k0
   obtain rfl : x1 = _ := by simpa using k1
   obtain rfl : x5 = _ := by simpa using k3
   obtain rfl : x6 = _ := by simpa using k4
   obtain ⟨va, vb, ev, hs1, hs2, hcd⟩ := k2
   simp only [List.drop_zero, List.take_succ_cons, List.take_zero, List.drop_succ_cons, List.cons.injEq, and_true] at ev
   obtain ⟨rfl, rfl, rfl⟩ := ev
   exact ⟨_, _, rfl, ⟨_, _, rfl, hs1, hs2, hcd⟩, w0, w1, w3, w4⟩
theorem UJ (hv : Value.okWide Tryz.prog W .any base 67 v) (h : DataW.Trod enc Tryz.prog W 0 (fun _ => true) true 67 v d p) : ∃ l, sliceR 7 ZA (kU W) [v] l := by
 obtain ⟨a, len, cap, rfl⟩ := okWide_slice unO hv
 obtain ⟨fuel, hf⟩ := h
 obtain ⟨l, k0⟩ := (qN unO je (by decide) (abb (enc := enc))).at hf
 exact ⟨l, k0⟩
theorem YB (hv : Value.okWide Tryz.prog W .any base 32 v) (h : DataW.Trod enc Tryz.prog W 0 (fun _ => true) true 32 v d p) : ∃ cs a, v = .agg cs.toArray ∧ Qi (kU W) cs a := by
 obtain ⟨cs, rfl, hsz⟩ := okWide_struct Tryz.underlying32 hv
 obtain ⟨fuel, hf⟩ := h
 obtain ⟨q, hq⟩ := opens_case.at hf
 exact ⟨cs.toList, q, by simp, by simpa [Value.cells] using hq⟩
end
end
end Go.Proofs.YtbjkkoacclfejaaGreat
