/-
 Part 9: Es Et Eu Ev Ew Ey Fc Fd Ez Fe Fj Fl Fk Fm Fn OpE.
-/
import Derived.Test.YtbjkkoacclfejaaGreatZr8
import Derived.Test.YtbjkkoacclfejaaGreatZr5
import Derived.Test.YtbjkkoacclfejaaGreatZr1
import Derived.Test.YtbjkkoacclfejaaGreatZr2
import Derived.Test.YtbjkkoacclfejaaGreatZr6
set_option maxRecDepth 100000
set_option maxHeartbeats 32000000
set_option linter.unusedVariables false
set_option linter.unusedSimpArgs false
namespace Go.Proofs.YtbjkkoacclfejaaGreat
instance i_zero_int : ZeC Tryz.prog 3 (.int .i64 0) := ⟨by kernel_rfl⟩
section
open Go.RowKit
open Vd (RSet Vdt Vote Rec Quest Piece Ballot)
variable {G : World} {L : ja}
def kI (s : RSet) : List Rec := s.data.map fun d => ⟨s.name, s.kind, s.cls, s.ttl, d⟩
def jt (l : List RSet) : List Rec := l.flatMap kI
theorem uJ (l : List RSet) : 10 * (jt l).length ≤ u3 l := by
 induction l with
 | nil => simp [jt]
 | cons s l ih =>
   have h3 := YS (l := s.data.map qX) (c := 10) (fun x hx => by obtain ⟨d, _, rfl⟩ := List.mem_map.1 hx; unfold qX; omega)
   rw [List.length_map] at h3
   have h4 : uI s = 30 + min 6000 s.name.length + (s.data.map qX).sum := rfl
   have h5 : u3 (s :: l) = uI s + u3 l := by simp [u3]
   have h6 : (jt (s :: l)).length = s.data.length + (jt l).length := by simp [jt, kI]
   omega
theorem UT (cs : List Value) (s : RSet) (hs : rsR L cs s) (hn : s.name.length ≤ maxLen) (hd : s.data.length ≤ 100000) : Spec Tryz.prog G 53 #[.agg cs.toArray] L fun u M => ∃ a c B, u = .slice a (kI s).length c ∧ ORow yx 177 5 [] a c (kI s) B ∧ M = B ++ L := by
 obtain ⟨da, dc, rfl, hsd, _, hkk, hc, ht⟩ := hs.vals
 have hdl := Uw hsd
 have hl := sliceR.cut hsd
 unfold maxLen at hl
 obtain ⟨_, hl1, hl2, hl⟩ := hl
 refine jl (n := 30) Tryz.func53 rfl rfl rfl ?_
 repeat (first | refine goA ?_ | (refine kD ?_; intro bBox))
 obtain ⟨C0, hC0⟩ : ∃ C : Array Value, C = #[.string (bs s.name), .int .u16 s.kind, .int .u16 s.cls, .int .u32 s.ttl, .slice da s.data.length dc] := ⟨_, rfl⟩
 rw [← hC0]
 have g0 : C0[0 + 0]? = some (.string (bs s.name)) := by rw [hC0]; rfl
 have g1 : C0[0 + 1]? = some (.int .u16 s.kind) := by rw [hC0]; rfl
 have g2 : C0[0 + 2]? = some (.int .u16 s.cls) := by rw [hC0]; rfl
 have g3 : C0[0 + 3]? = some (.int .u32 s.ttl) := by rw [hC0]; rfl
 have g4 : C0[0 + 4]? = some (.slice da s.data.length dc) := by rw [hC0]; rfl
 clear hC0
 refine jz (σ := Nat × Option Addr × Nat × ja) (fun x => x.1 ≤ s.data.length ∧ ORow yx 177 5 [] x.2.1 x.2.2.1 ((kI s).take x.1) x.2.2.2) (fun x => [(1, .pointer (some ⟨bBox, 0, none⟩)), (3, .slice x.2.1 ((kI s).take x.1).length x.2.2.1), (4, .int .i64 (x.1 : Nat))]) (fun x => x.2.2.2 ++ ((bBox, Obj.cells C0 122 (0, 0)) :: L)) (fun x => s.data.length - x.1) (0, none, 0, []) ⟨Nat.zero_le _, by simpa using ORow.nil _⟩ ?_ (fun w h => h) ?_
 exact js
 rintro ⟨k, y, yc, B⟩ ⟨hk, hR⟩
 dsimp only at hk hR ⊢
 have hrl : (kI s).length = s.data.length := by simp [kI]
 have htl : ((kI s).take k).length = k := by rw [List.length_take, hrl]; omega
 by_cases hlt : k < s.data.length
 · obtain ⟨d, hdk⟩ : ∃ d, s.data[k]? = some d := ⟨_, List.getElem?_eq_getElem hlt⟩
   obtain ⟨b1, o1, C1, t1, f1, rfl, m1, cs1, _, ⟨rfl, hdm⟩, hcs1⟩ := sliceR.at hsd hdk
   have c1 : C1[o1 + k * 1]? = some (.string (bs d)) := hcs1 0 _ rfl
   have hrk : (kI s)[k]? = some ⟨s.name, s.kind, s.cls, s.ttl, d⟩ := VJ _ hdk
   have hsucc : (kI s).take (k + 1) = (kI s).take k ++ [⟨s.name, s.kind, s.cls, s.ttl, d⟩] := by rw [List.take_add_one, hrk]; rfl
   have hK : ∀ z ∈ [(bBox, Obj.cells C0 122 (0, 0)), (b1, Obj.cells C1 t1 f1)], z ∈ B ++ ((bBox, Obj.cells C0 122 (0, 0)) :: L) := fun z hz => by
    simp only [List.mem_cons, List.not_mem_nil, or_false] at hz
    rcases hz with rfl | rfl
    · simp
    · exact List.mem_append_right _ (List.mem_cons_of_mem _ m1)
   have hK2 : ∀ A : ja, ∀ z ∈ [(bBox, Obj.cells C0 122 (0, 0)), (b1, Obj.cells C1 t1 f1)], z ∈ A ++ ((bBox, Obj.cells C0 122 (0, 0)) :: L) := fun A z hz => by
    simp only [List.mem_cons, List.not_mem_nil, or_false] at hz
    rcases hz with rfl | rfl
    · simp
    · exact List.mem_append_right _ (List.mem_cons_of_mem _ m1)
   refine goA ?_
   refine jw jc ([(bBox, Obj.cells C0 122 (0, 0)), (b1, Obj.cells C1 t1 f1)]) [] ?_
   refine tkQ 0 ?_
   refine tkQ 1 ?_
   refine tkQ 2 ?_
   refine tkQ 3 ?_
   refine tkQ 4 ?_
   refine tkQ 5 ?_
   refine tkQ 6 ?_
   refine tkQ 7 ?_
   refine tkQ 8 ?_
   refine tkQ 9 ?_
   refine tkQ 10 ?_
   refine tkQ 11 ?_
   refine tkQ 12 ?_
   refine tkQ 13 ?_
   (refine' ju 14 rfl rfl je (jF (jm rfl (uP _ _ _ _ _))) ?_ ?_; (· assumption))
   refine jD 15 je rfl rfl rfl rfl (q9 (cs := [.string (bs s.name), .int .u16 s.kind, .int .u16 s.cls, .int .u32 s.ttl, .string (bs d)]) etO rfl rfl (by decide)) ?_; rintro _ _ ⟨bl, rfl, rfl⟩; refine ⟨Or.inr (fun z hz => List.mem_cons_of_mem _ (hK z hz)), ?_⟩
   refine jD 16 je rfl rfl rfl rfl (qO (cs := [.string (bs s.name), .int .u16 s.kind, .int .u16 s.cls, .int .u32 s.ttl, .string (bs d)]) (y := (⟨s.name, s.kind, s.cls, s.ttl, d⟩ : Rec)) etO rfl rfl hR rfl (by intro v hv; simp only [List.mem_cons, List.not_mem_nil, or_false] at hv; rcases hv with rfl | rfl | rfl | rfl | rfl <;> rfl) ⟨rfl, hn, hdm, hkk, hc, ht⟩ (by unfold maxLen; omega) jd) ?_; rintro _ _ ⟨a2, c2, B2, rfl, hB2, rfl⟩; refine ⟨Or.inr (hK2 B2), ?_⟩
   refine tkQ 17 ?_
   refine tdQ ?_
   refine goA ?_
   rw [← hsucc] at hB2 ⊢
   refine jg (k + 1, a2, c2, B2) ⟨hlt, hB2⟩ ?_ (fun w h => h) (by dsimp only; omega)
   exact js
 · have hke : k = (kI s).length := by omega
   have hta : (kI s).take k = kI s := by rw [hke, List.take_length]
   rw [hta] at hR ⊢
   refine goA ?_
   refine jG (L' := B ++ L) ?_ ji
   refine jf 2 _ rfl rfl ?_
   exact ⟨y, yc, B, rfl, hR, rfl⟩
def UU (q : Quest) (v : Vdt) : Bool := decide ((Vd.ofM q ⟨v.code, jt v.sets, jt v.soa⟩).2.2 = 0 ∧ (Vd.ofM q ⟨v.code, jt v.sets, jt v.soa⟩).1 = v)
theorem aeU {L : ja} {m : Vd.Msg} {a b : Value} (vq : Value) (hq : vq.oneCell' = true) (hc : 0 ≤ m.code ∧ m.code ≤ 255) (ha : sliceR 5 yx L [a] m.answers) (hb : sliceR 5 yx L [b] m.auth) :
 msgR L [.int .u16 0, .bool true, .int .u8 0, .bool false, .bool false, .bool false, .bool false, .bool false, .bool false, .bool false, .int .u8 m.code, vq, a, b, .slice none 0 0, .bool false, .int .u16 0, .int .u8 0, .int .u8 0, .int .u16 0, .slice none 0 0] m := by
 obtain ⟨x1, k1, e1, ha⟩ := ha.val
 obtain rfl := (List.cons.inj e1).1
 obtain ⟨x2, k2, e2, hb⟩ := hb.val
 obtain rfl := (List.cons.inj e2).1
 refine ⟨_, _, _, _, _, _, _, _, _, _, _, _, _, _, _, _, _, _, _, _, rfl, ha, hb, hc, fun w hw => ?_⟩
 simp only [List.mem_cons, List.not_mem_nil, or_false] at hw
 rcases hw with rfl | rfl | rfl | rfl | rfl | rfl | rfl | rfl | rfl | rfl | rfl | rfl | rfl | rfl | rfl | rfl | rfl | rfl | rfl | rfl | rfl <;> (first | rfl | exact hq)
theorem UV (l : List RSet) (k : Nat) : u3 (l.take k) ≤ u3 l := by
 unfold u3
 rw [List.map_take]
 exact ze _ _
theorem W6 {L : ja} : ∀ cs y, yx L cs y → ∀ v ∈ cs, v.oneCell' = true := by
 rintro cs y ⟨rfl, _⟩ v hv
 simp only [List.mem_cons, List.not_mem_nil, or_false] at hv
 rcases hv with rfl | rfl | rfl | rfl | rfl <;> rfl
theorem aeV (q : Quest) (v : Vdt) (cv : List Value) (hv : vdR L cv v) (hq1 : q.name.length ≤ 1000000) (hq2 : 0 ≤ q.kind ∧ q.kind ≤ 65535) (hq3 : 0 ≤ q.cls ∧ q.cls ≤ 65535) (hl1 : LSm v.sets) (hl2 : LSm v.soa) :
 Spec Tryz.prog G 21 #[.agg (kt q), .agg cv.toArray] L fun u M => u = .bool (UU q v) ∧ M = L := by
 obtain ⟨a1, c1, a2, c2, rfl, h1, h2, hcode⟩ := hv.vals
 have k1 := (sliceR.cut h1).2
 have k2 := (sliceR.cut h2).2
 unfold maxLen at k1 k2
 obtain ⟨k11, k12, _⟩ := k1
 obtain ⟨k21, k22, _⟩ := k2
 have ht1 := hl1.tot
 have ht2 := hl2.tot
 refine jl (n := 64) Tryz.func21 rfl rfl rfl ?_
 repeat (first | refine goA ?_ | (refine jQ ?_; intro bNew) | (refine kD ?_; intro bBox))
 obtain ⟨b5, hb5⟩ : ∃ b, bNew = b := ⟨_, rfl⟩
 rw [hb5]
 clear hb5
 obtain ⟨b3, hb3⟩ : ∃ b, bBox = b := ⟨_, rfl⟩
 rw [hb3]
 clear hb3
 rename_i b2
 refine jP (ko (vs := [(0, .slice a1 v.sets.length c1), (1, .slice a2 v.soa.length c2)]) rfl (u9 (C := #[.slice a1 v.sets.length c1, .slice a2 v.soa.length c2]) etO [.slice a1 v.sets.length c1, .slice a2 v.soa.length c2] rfl (by simp [Value.cells]) (by decide) rfl)) rfl ?_
 intro bl
 refine goA ?_
 refine jz (σ := Nat × (Option Addr × Nat × ja) × (Option Addr × Nat × ja)) (fun x => x.1 ≤ 2 ∧ ORow yx 177 5 [] x.2.1.1 x.2.1.2.1 (if x.1 = 0 then [] else jt v.sets) x.2.1.2.2 ∧ ORow yx 177 5 [] x.2.2.1 x.2.2.2.1 (if x.1 ≤ 1 then [] else jt v.soa) x.2.2.2.2 ∧ (x.1 = 0 → x.2.1 = (none, 0, [])) ∧ (x.1 ≤ 1 → x.2.2 = (none, 0, [])))
  (fun x => [(2, .pointer (some ⟨b2, 0, none⟩)), (3, .pointer (some ⟨b3, 0, none⟩)), (5, .pointer (some ⟨b5, 0, none⟩)), (16, .slice (some ⟨bl, 0, none⟩) 2 2), (17, .int .i64 2), (18, .int .i64 (x.1 : Nat))])
  (fun x => (b5, Obj.cells #[.slice x.2.1.1 (if x.1 = 0 then [] else jt v.sets).length x.2.1.2.1, .slice x.2.2.1 (if x.1 ≤ 1 then [] else jt v.soa).length x.2.2.2.1] 117 (0, 0)) :: (x.2.1.2.2 ++ (x.2.2.2.2 ++ ((bl, Obj.cells #[.slice a1 v.sets.length c1, .slice a2 v.soa.length c2] 38 (0, 0)) :: (b3, Obj.cells #[.int .u8 v.code, .slice a1 v.sets.length c1, .slice a2 v.soa.length c2] 40 (0, 0)) :: (b2, Obj.cells (kt q) 24 (0, 0)) :: L)))) (fun x => 2 - x.1) (0, (none, 0, []), (none, 0, [])) ⟨by decide, ORow.nil _, ORow.nil _, fun _ => rfl, fun _ => rfl⟩ ?_ (fun w h => by dsimp only; rw [if_pos rfl, if_pos (by decide)]; simp only [List.length_nil]; exact h.cnt ji) ?_
 exact js
 rintro ⟨i, ⟨y0, yc0, B0⟩, ⟨y1, yc1, B1⟩⟩ ⟨hi, h0, h1r, e0, e1⟩
 dsimp only at hi h0 h1r e0 e1 ⊢
 rcases (by omega : i = 0 ∨ i = 1 ∨ i = 2) with rfl | rfl | rfl
 · obtain ⟨rfl, rfl, rfl⟩ : y0 = none ∧ yc0 = 0 ∧ B0 = [] := by simpa using e0 rfl
   obtain ⟨rfl, rfl, rfl⟩ : y1 = none ∧ yc1 = 0 ∧ B1 = [] := by simpa using e1 (by decide)
   refine VV [(2, .pointer (some ⟨b2, 0, none⟩)), (3, .pointer (some ⟨b3, 0, none⟩)), (5, .pointer (some ⟨b5, 0, none⟩)), (16, .slice (some ⟨bl, 0, none⟩) 2 2), (17, .int .i64 2), (18, .int .i64 ((0 : Nat) : Int))] ((b5, Obj.cells #[.slice none 0 0, .slice none 0 0] 117 (0, 0)) :: ((bl, Obj.cells #[.slice a1 v.sets.length c1, .slice a2 v.soa.length c2] 38 (0, 0)) :: (b3, Obj.cells #[.int .u8 v.code, .slice a1 v.sets.length c1, .slice a2 v.soa.length c2] 40 (0, 0)) :: (b2, Obj.cells (kt q) 24 (0, 0)) :: L)) ?_ ?_ ?_
   exact js
   · intro w h
     rw [if_pos rfl, if_pos (by decide)] at h
     simp only [List.length_nil] at h
     exact h.cnt ji
   refine goA ?_
   obtain ⟨X, hX⟩ : ∃ z, z = v.sets := ⟨_, rfl⟩
   obtain ⟨ax, hax⟩ : ∃ z, z = a1 := ⟨_, rfl⟩
   obtain ⟨cx, hcx⟩ : ∃ z, z = c1 := ⟨_, rfl⟩
   obtain ⟨ii, hii⟩ : ∃ z : Int, z = ((0 : Nat) : Int) := ⟨_, rfl⟩
   obtain ⟨f, hf⟩ : ∃ f : Value → Array Value, f = fun x => #[x, .slice none 0 0] := ⟨_, rfl⟩
   obtain ⟨RST, hRST⟩ : ∃ B : ja, B = (bl, Obj.cells #[.slice a1 v.sets.length c1, .slice a2 v.soa.length c2] 38 (0, 0)) :: (b3, Obj.cells #[.int .u8 v.code, .slice a1 v.sets.length c1, .slice a2 v.soa.length c2] 40 (0, 0)) :: (b2, Obj.cells (kt q) 24 (0, 0)) :: L := ⟨_, rfl⟩
   have hf1 : ∀ x, (f x)[0 + ii.toNat * 1]? = some x := fun x => by rw [hf, hii]; rfl
   have hf2 : ∀ x y, (f x).setIfInBounds (0 + ii.toNat * 1) y = f y := fun x y => by rw [hf, hii]; rfl
   have hiiB : 0 ≤ ii ∧ ii < 2 := by rw [hii]; decide
   have hxs : sliceR 5 rsR L [.slice ax X.length cx] X := by rw [hax, hX, hcx]; exact h1
   have hlX : LSm X := by rw [hX]; exact hl1
   have hLR : ∀ p ∈ L, p ∈ RST := by rw [hRST]; intro p hp; simp [hp]
   have hXc : X.length ≤ cx ∧ cx ≤ 9223372036854775807 := by rw [hX, hcx]; omega
   have htX := hlX.tot
   skip
   refine jz (σ := Nat × Option Addr × Nat × ja) (fun x => x.1 ≤ X.length ∧ ORow yx 177 5 [] x.2.1 x.2.2.1 (jt (X.take x.1)) x.2.2.2) (fun x => [(2, .pointer (some ⟨b2, 0, none⟩)), (3, .pointer (some ⟨b3, 0, none⟩)), (5, .pointer (some ⟨b5, 0, none⟩)), (16, .slice (some ⟨bl, 0, none⟩) 2 2), (17, .int .i64 2), (18, .int .i64 ii), (6, .int .i64 ii), (7, .slice ax X.length cx), (8, .int .i64 (x.1 : Nat))]) (fun x => (b5, Obj.cells (f (.slice x.2.1 (jt (X.take x.1)).length x.2.2.1)) 117 (0, 0)) :: (x.2.2.2 ++ RST)) (fun x => X.length - x.1) (0, none, 0, []) ⟨Nat.zero_le _, by simpa [jt] using ORow.nil _⟩ ?_ (fun w h => by rw [hf, hRST]; exact h) ?_
   · (rw [hX, hax, hcx, hii]; (repeat (first | exact trivial | refine ⟨rfl, ?_⟩)))
   rintro ⟨k, y, yc, B⟩ ⟨hk, hR⟩
   dsimp only at hk hR ⊢
   have hrl : (jt (X.take k)).length ≤ 600 := by
    have := uJ (X.take k)
    have h2 := UV X k
    omega
   by_cases hlt : k < X.length
   · obtain ⟨s, hsk⟩ : ∃ s, X[k]? = some s := ⟨_, List.getElem?_eq_getElem hlt⟩
     obtain ⟨w1, o1, C1, t1, f1, haw, m1, cs1, _, hcs0, hcs⟩ := sliceR.at hxs hsk
     rw [haw]
     obtain ⟨da, dc, rfl, hd, hsn, _⟩ := id hcs0.vals
     obtain ⟨hs1, hs2, hs3⟩ := hlX.set (List.mem_of_getElem? hsk)
     have hsucc : jt (X.take (k + 1)) = jt (X.take k) ++ kI s := by unfold jt; rw [List.take_add_one, hsk, List.flatMap_append]; simp
     have hrs : (kI s).length ≤ 600 := by simpa [kI] using hs2
     have hset : ∀ j w, ([.string (bs s.name), .int .u16 s.kind, .int .u16 s.cls, .int .u32 s.ttl, .slice da s.data.length dc] : List Value)[j]? = some w → C1[o1 + k * 5 + j]? = some w := hcs
     have hf3 := hf1 (.slice y (jt (X.take k)).length yc)
     have hKA : ∀ (A : ja), ∀ z ∈ [(b5, Obj.cells (f (.slice y (jt (X.take k)).length yc)) 117 (0, 0)), (w1, Obj.cells C1 t1 f1)], z ∈ A ++ ((b5, Obj.cells (f (.slice y (jt (X.take k)).length yc)) 117 (0, 0)) :: RST) := fun A z hz => by
      simp only [List.mem_cons, List.not_mem_nil, or_false] at hz
      rcases hz with rfl | rfl
      · simp
      · exact List.mem_append_right _ (List.mem_cons_of_mem _ (hLR _ m1))
     have hK : ∀ z ∈ [(b5, Obj.cells (f (.slice y (jt (X.take k)).length yc)) 117 (0, 0)), (w1, Obj.cells C1 t1 f1)], z ∈ (b5, Obj.cells (f (.slice y (jt (X.take k)).length yc)) 117 (0, 0)) :: (B ++ RST) := fun z hz => by
      simp only [List.mem_cons, List.not_mem_nil, or_false] at hz
      rcases hz with rfl | rfl
      · exact List.mem_cons_self ..
      · exact List.mem_cons_of_mem _ (List.mem_append_right _ (hLR _ m1))
     refine goA ?_
     refine jw jc ([(b5, Obj.cells (f (.slice y (jt (X.take k)).length yc)) 117 (0, 0)), (w1, Obj.cells C1 t1 f1)]) [11] ?_
     refine tkQ 0 ?_
     refine tkQ 1 ?_
     refine tkQ 2 ?_
     refine tkQ 3 ?_
     refine tkQ 4 ?_
     refine tkQ 5 ?_
     refine tkQ 6 ?_
     (refine' ju 7 rfl rfl je (jF (jA [.string (bs s.name), .int .u16 s.kind, .int .u16 s.cls, .int .u32 s.ttl, .slice da s.data.length dc] rfl stL (List.mem_cons_of_mem _ (List.mem_singleton.2 rfl)) hset)) ?_ ?_; (· assumption))
     refine jD 8 je rfl rfl rfl rfl (jb je rfl (UT _ s (jv _ _ _ _ (fun p hp => List.mem_cons_of_mem _ (List.mem_append_right _ (hLR p hp))) hcs0) hsn jd)) ?_; rintro _ _ ⟨ra, rc, RB, rfl, hRB, rfl⟩; refine ⟨Or.inr (fun z hz => List.mem_append_right _ (hK z hz)), ?_⟩
     refine kk (L' := B ++ (RB ++ ((b5, Obj.cells (f (.slice y (jt (X.take k)).length yc)) 117 (0, 0)) :: RST))) ?_ ji; refine jD 9 je rfl rfl rfl rfl (qS (r := yx) (L0 := RB) (l := jt (X.take k)) (m := kI s) etO rfl rfl rfl rfl (hR.mono qm (by simp)) (hRB.sliceR qm (by simp) (fun p hp => hp)) (fun p hp => List.mem_append_left _ hp) qm W6 jd (by decide)) ?_; rintro _ _ ⟨a3, c3, B3, rfl, hB3, rfl⟩; refine ⟨Or.inr (fun z hz => by have := hKA (B3 ++ RB) z hz; simpa using this), ?_⟩
     refine tkQ 10 ?_
     refine kk (L' := (b5, Obj.cells (f (.slice y (jt (X.take k)).length yc)) 117 (0, 0)) :: (B3 ++ (RB ++ RST))) ?_ ji; refine jU 11 je rfl rfl rfl (zA rfl rfl onO rfl hf3 (hf2 _ _)) ?_; rintro _ _ ⟨_, rfl⟩; refine ⟨Or.inl (by simp), ?_⟩
     refine tdQ ?_
     refine goA ?_
     rw [← hsucc] at hB3 ⊢
     refine jg (k + 1, a3, c3, B3) ⟨hlt, hB3.imp (fun cs x _ h => h)⟩ ?_ (fun w h => h.cnt ji) (by dsimp only; omega)
     exact js
   · have hta : X.take k = X := List.take_of_length_le jd
     rw [hta] at hR ⊢
     rw [hX] at hR ⊢
     rw [hii, hf, hRST]
     rw [hX] at hlt
     refine goA ?_
     refine jg (1, (y, yc, B), (none, 0, [])) ⟨show 1 ≤ 2 by decide, hR, ORow.nil _, fun h => (by cases h), fun _ => rfl⟩ ?_ (fun w h => by dsimp only; rw [if_neg (by decide), if_pos (by decide)]; simp only [List.length_nil]; exact h.cnt ji) (by show 2 - 1 < 2 - 0; decide)
     exact js
 · obtain ⟨rfl, rfl, rfl⟩ : y1 = none ∧ yc1 = 0 ∧ B1 = [] := by simpa using e1 (by decide)
   refine VV [(2, .pointer (some ⟨b2, 0, none⟩)), (3, .pointer (some ⟨b3, 0, none⟩)), (5, .pointer (some ⟨b5, 0, none⟩)), (16, .slice (some ⟨bl, 0, none⟩) 2 2), (17, .int .i64 2), (18, .int .i64 ((1 : Nat) : Int))] ((b5, Obj.cells #[.slice y0 (jt v.sets).length yc0, .slice none 0 0] 117 (0, 0)) :: (B0 ++ ((bl, Obj.cells #[.slice a1 v.sets.length c1, .slice a2 v.soa.length c2] 38 (0, 0)) :: (b3, Obj.cells #[.int .u8 v.code, .slice a1 v.sets.length c1, .slice a2 v.soa.length c2] 40 (0, 0)) :: (b2, Obj.cells (kt q) 24 (0, 0)) :: L))) ?_ ?_ ?_
   exact js
   · intro w h
     rw [if_neg (by decide), if_pos (by decide)] at h
     simp only [List.length_nil] at h
     exact h.cnt ji
   refine goA ?_
   obtain ⟨X, hX⟩ : ∃ z, z = v.soa := ⟨_, rfl⟩
   obtain ⟨ax, hax⟩ : ∃ z, z = a2 := ⟨_, rfl⟩
   obtain ⟨cx, hcx⟩ : ∃ z, z = c2 := ⟨_, rfl⟩
   obtain ⟨ii, hii⟩ : ∃ z : Int, z = ((1 : Nat) : Int) := ⟨_, rfl⟩
   obtain ⟨f, hf⟩ : ∃ f : Value → Array Value, f = fun x => #[.slice y0 (jt v.sets).length yc0, x] := ⟨_, rfl⟩
   obtain ⟨RST, hRST⟩ : ∃ B : ja, B = B0 ++ ((bl, Obj.cells #[.slice a1 v.sets.length c1, .slice a2 v.soa.length c2] 38 (0, 0)) :: (b3, Obj.cells #[.int .u8 v.code, .slice a1 v.sets.length c1, .slice a2 v.soa.length c2] 40 (0, 0)) :: (b2, Obj.cells (kt q) 24 (0, 0)) :: L) := ⟨_, rfl⟩
   have hf1 : ∀ x, (f x)[0 + ii.toNat * 1]? = some x := fun x => by rw [hf, hii]; rfl
   have hf2 : ∀ x y, (f x).setIfInBounds (0 + ii.toNat * 1) y = f y := fun x y => by rw [hf, hii]; rfl
   have hiiB : 0 ≤ ii ∧ ii < 2 := by rw [hii]; decide
   have hxs : sliceR 5 rsR L [.slice ax X.length cx] X := by rw [hax, hX, hcx]; exact h2
   have hlX : LSm X := by rw [hX]; exact hl2
   have hLR : ∀ p ∈ L, p ∈ RST := by rw [hRST]; intro p hp; simp [hp]
   have hXc : X.length ≤ cx ∧ cx ≤ 9223372036854775807 := by rw [hX, hcx]; omega
   have htX := hlX.tot
   skip
   refine jz (σ := Nat × Option Addr × Nat × ja) (fun x => x.1 ≤ X.length ∧ ORow yx 177 5 [] x.2.1 x.2.2.1 (jt (X.take x.1)) x.2.2.2) (fun x => [(2, .pointer (some ⟨b2, 0, none⟩)), (3, .pointer (some ⟨b3, 0, none⟩)), (5, .pointer (some ⟨b5, 0, none⟩)), (16, .slice (some ⟨bl, 0, none⟩) 2 2), (17, .int .i64 2), (18, .int .i64 ii), (6, .int .i64 ii), (7, .slice ax X.length cx), (8, .int .i64 (x.1 : Nat))]) (fun x => (b5, Obj.cells (f (.slice x.2.1 (jt (X.take x.1)).length x.2.2.1)) 117 (0, 0)) :: (x.2.2.2 ++ RST)) (fun x => X.length - x.1) (0, none, 0, []) ⟨Nat.zero_le _, by simpa [jt] using ORow.nil _⟩ ?_ (fun w h => by rw [hf, hRST]; exact h) ?_
   · (rw [hX, hax, hcx, hii]; (repeat (first | exact trivial | refine ⟨rfl, ?_⟩)))
   rintro ⟨k, y, yc, B⟩ ⟨hk, hR⟩
   dsimp only at hk hR ⊢
   have hrl : (jt (X.take k)).length ≤ 600 := by
    have := uJ (X.take k)
    have h2 := UV X k
    omega
   by_cases hlt : k < X.length
   · obtain ⟨s, hsk⟩ : ∃ s, X[k]? = some s := ⟨_, List.getElem?_eq_getElem hlt⟩
     obtain ⟨w1, o1, C1, t1, f1, haw, m1, cs1, _, hcs0, hcs⟩ := sliceR.at hxs hsk
     rw [haw]
     obtain ⟨da, dc, rfl, hd, hsn, _⟩ := id hcs0.vals
     obtain ⟨hs1, hs2, hs3⟩ := hlX.set (List.mem_of_getElem? hsk)
     have hsucc : jt (X.take (k + 1)) = jt (X.take k) ++ kI s := by unfold jt; rw [List.take_add_one, hsk, List.flatMap_append]; simp
     have hrs : (kI s).length ≤ 600 := by simpa [kI] using hs2
     have hset : ∀ j w, ([.string (bs s.name), .int .u16 s.kind, .int .u16 s.cls, .int .u32 s.ttl, .slice da s.data.length dc] : List Value)[j]? = some w → C1[o1 + k * 5 + j]? = some w := hcs
     have hf3 := hf1 (.slice y (jt (X.take k)).length yc)
     have hKA : ∀ (A : ja), ∀ z ∈ [(b5, Obj.cells (f (.slice y (jt (X.take k)).length yc)) 117 (0, 0)), (w1, Obj.cells C1 t1 f1)], z ∈ A ++ ((b5, Obj.cells (f (.slice y (jt (X.take k)).length yc)) 117 (0, 0)) :: RST) := fun A z hz => by
      simp only [List.mem_cons, List.not_mem_nil, or_false] at hz
      rcases hz with rfl | rfl
      · simp
      · exact List.mem_append_right _ (List.mem_cons_of_mem _ (hLR _ m1))
     have hK : ∀ z ∈ [(b5, Obj.cells (f (.slice y (jt (X.take k)).length yc)) 117 (0, 0)), (w1, Obj.cells C1 t1 f1)], z ∈ (b5, Obj.cells (f (.slice y (jt (X.take k)).length yc)) 117 (0, 0)) :: (B ++ RST) := fun z hz => by
      simp only [List.mem_cons, List.not_mem_nil, or_false] at hz
      rcases hz with rfl | rfl
      · exact List.mem_cons_self ..
      · exact List.mem_cons_of_mem _ (List.mem_append_right _ (hLR _ m1))
     refine goA ?_
     refine jw jc ([(b5, Obj.cells (f (.slice y (jt (X.take k)).length yc)) 117 (0, 0)), (w1, Obj.cells C1 t1 f1)]) [11] ?_
     refine tkQ 0 ?_
     refine tkQ 1 ?_
     refine tkQ 2 ?_
     refine tkQ 3 ?_
     refine tkQ 4 ?_
     refine tkQ 5 ?_
     refine tkQ 6 ?_
     (refine' ju 7 rfl rfl je (jF (jA [.string (bs s.name), .int .u16 s.kind, .int .u16 s.cls, .int .u32 s.ttl, .slice da s.data.length dc] rfl stL (List.mem_cons_of_mem _ (List.mem_singleton.2 rfl)) hset)) ?_ ?_; (· assumption))
     refine jD 8 je rfl rfl rfl rfl (jb je rfl (UT _ s (jv _ _ _ _ (fun p hp => List.mem_cons_of_mem _ (List.mem_append_right _ (hLR p hp))) hcs0) hsn jd)) ?_; rintro _ _ ⟨ra, rc, RB, rfl, hRB, rfl⟩; refine ⟨Or.inr (fun z hz => List.mem_append_right _ (hK z hz)), ?_⟩
     refine kk (L' := B ++ (RB ++ ((b5, Obj.cells (f (.slice y (jt (X.take k)).length yc)) 117 (0, 0)) :: RST))) ?_ ji; refine jD 9 je rfl rfl rfl rfl (qS (r := yx) (L0 := RB) (l := jt (X.take k)) (m := kI s) etO rfl rfl rfl rfl (hR.mono qm (by simp)) (hRB.sliceR qm (by simp) (fun p hp => hp)) (fun p hp => List.mem_append_left _ hp) qm W6 jd (by decide)) ?_; rintro _ _ ⟨a3, c3, B3, rfl, hB3, rfl⟩; refine ⟨Or.inr (fun z hz => by have := hKA (B3 ++ RB) z hz; simpa using this), ?_⟩
     refine tkQ 10 ?_
     refine kk (L' := (b5, Obj.cells (f (.slice y (jt (X.take k)).length yc)) 117 (0, 0)) :: (B3 ++ (RB ++ RST))) ?_ ji; refine jU 11 je rfl rfl rfl (zA rfl rfl onO rfl hf3 (hf2 _ _)) ?_; rintro _ _ ⟨_, rfl⟩; refine ⟨Or.inl (by simp), ?_⟩
     refine tdQ ?_
     refine goA ?_
     rw [← hsucc] at hB3 ⊢
     refine jg (k + 1, a3, c3, B3) ⟨hlt, hB3.imp (fun cs x _ h => h)⟩ ?_ (fun w h => h.cnt ji) (by dsimp only; omega)
     exact js
   · have hta : X.take k = X := List.take_of_length_le jd
     rw [hta] at hR ⊢
     rw [hX] at hR ⊢
     rw [hii, hf, hRST]
     rw [hX] at hlt
     refine goA ?_
     refine jg (2, (y0, yc0, B0), (y, yc, B)) ⟨show 2 ≤ 2 by decide, h0, hR, fun h => (by cases h), fun h => absurd h (show ¬ 2 ≤ 1 by decide)⟩ ?_ (fun w h => by dsimp only; rw [if_neg (by decide), if_neg (by decide)]; exact h.cnt ji) (by show 2 - 2 < 2 - 1; decide)
     exact js
 · refine VV [(2, .pointer (some ⟨b2, 0, none⟩)), (3, .pointer (some ⟨b3, 0, none⟩)), (5, .pointer (some ⟨b5, 0, none⟩)), (16, .slice (some ⟨bl, 0, none⟩) 2 2), (17, .int .i64 2), (18, .int .i64 ((2 : Nat) : Int))] ((b5, Obj.cells #[.slice y0 (jt v.sets).length yc0, .slice y1 (jt v.soa).length yc1] 117 (0, 0)) :: (B0 ++ (B1 ++ ((bl, Obj.cells #[.slice a1 v.sets.length c1, .slice a2 v.soa.length c2] 38 (0, 0)) :: (b3, Obj.cells #[.int .u8 v.code, .slice a1 v.sets.length c1, .slice a2 v.soa.length c2] 40 (0, 0)) :: (b2, Obj.cells (kt q) 24 (0, 0)) :: L)))) ?_ ?_ ?_
   exact js
   · intro w h
     rw [if_neg (by decide), if_neg (by decide)] at h
     exact h
   have h0' : ORow yx 177 5 [] y0 yc0 (jt v.sets) B0 := h0
   have h1' : ORow yx 177 5 [] y1 yc1 (jt v.soa) B1 := h1r
   have l1 := uJ v.sets
   have l2 := uJ v.soa
   repeat (first | refine goA ?_ | refine jy (jm rfl (J2 _ _)) rfl ?_ | refine jy (jm rfl (yH _ _ _ _ _ _ _ _ _ _ _ _ _ _ _ _ _ _ _ _)) rfl ?_ | (refine qh ?_; intro bLit))
   obtain ⟨bqs, hbqs⟩ : ∃ b, bLit = b := ⟨_, rfl⟩
   rw [hbqs]
   clear hbqs
   have hm := aeU (m := ⟨v.code, jt v.sets, jt v.soa⟩) (L := (bqs, Obj.cells [.string (bs q.name), .int .u16 q.kind, .int .u16 q.cls].toArray 24 (0, 0)) :: ((b5, Obj.cells #[.slice y0 (jt v.sets).length yc0, .slice y1 (jt v.soa).length yc1] 117 (0, 0)) :: (B0 ++ (B1 ++ ((bl, Obj.cells #[.slice a1 v.sets.length c1, .slice a2 v.soa.length c2] 38 (0, 0)) :: (b3, Obj.cells #[.int .u8 v.code, .slice a1 v.sets.length c1, .slice a2 v.soa.length c2] 40 (0, 0)) :: (b2, Obj.cells (kt q) 24 (0, 0)) :: L))))) (.slice (some ⟨bqs, 0, none⟩) 1 1) rfl hcode (h0'.sliceR qm (by simp) jn) (h1'.sliceR qm (by simp) jn)
   have hsm : ∀ (l : List RSet), LSm l → ∀ x ∈ jt l, x.name.length ≤ 1000000 ∧ x.data.length ≤ 1000000 := fun l hl x hx => by
    obtain ⟨s, hs, hx⟩ := List.mem_flatMap.1 hx
    obtain ⟨d, hd, rfl⟩ := List.mem_map.1 hx
    obtain ⟨e1, _, e3⟩ := hl.set hs
    have := e3 d hd
    exact ⟨by dsimp only; omega, by dsimp only; omega⟩
   refine jx (jb je rfl (aiq [.string (bs q.name), .int .u16 q.kind, .int .u16 q.cls] _ q ⟨v.code, jt v.sets, jt v.soa⟩ ⟨rfl, by unfold maxLen; omega, hq2, hq3⟩ hm hq1 (by show (jt v.sets).length ≤ 10000; omega) (hsm _ hl1) (by show (jt v.soa).length ≤ 10000; omega) (hsm _ hl2))) rfl ?_
   obtain ⟨r, hr⟩ : ∃ r, r = Vd.ofM q ⟨v.code, jt v.sets, jt v.soa⟩ := ⟨_, rfl⟩
   have hrp : UU q v = decide (r.2.2 = 0 ∧ r.1 = v) := by rw [hr]; rfl
   rw [← hr, hrp]
   rintro _ _ ⟨ra, rc, RB, ra2, rc2, RB2, N, rfl, hR1, hR2, hN, rfl⟩
   repeat (first | refine goA ?_ | (refine jQ ?_; intro bNew))
   have hcd := abx q ⟨v.code, jt v.sets, jt v.soa⟩ hcode
   rw [← hr] at hcd
   by_cases hr0 : r.2.2 = 0
   · have e : decide (r.2.2 = 0 ∧ r.1 = v) = decide (r.1 = v) := by congr 1; simp [hr0]
     rw [e]
     refine goA ?_
     refine jX (jb je rfl (uY _ _ r.1 v ⟨_, _, rfl, hR1.sliceR jv jn jn, hR2.sliceR jv jn jn, hcd⟩ ⟨_, _, rfl, jq jv _ _ _ _ jn h1, jq jv _ _ _ _ jn h2, hcode⟩)) rfl ?_
     refine goA ?_
     refine jG (L' := L) ?_ ji
     refine jf 4 _ rfl rfl ?_
     exact ⟨rfl, rfl⟩
   · have e : decide (r.2.2 = 0 ∧ r.1 = v) = false := decide_eq_false fun k => hr0 k.1
     rw [e]
     refine goA ?_
     refine jG (L' := L) ?_ ji
     refine jf 4 _ rfl rfl ?_
     exact ⟨rfl, rfl⟩
end
section
open Go.RowKit
open Vd (RSet Vdt Vote Rec Quest Piece Ballot)
theorem LSm.smS {l : List RSet} (h : LSm l) : SmS l := ⟨by have := h.few; omega, fun s hs => by have := (h.set hs).2.1; omega⟩
theorem adV {q : Quest} {v : Vdt} (h : UU q v = true) : (Vd.ofM q ⟨v.code, jt v.sets, jt v.soa⟩).1 = v := (of_decide_eq_true h).2
theorem aaz {q : Quest} {v : Vdt} (h : UU q v = true) : abH (fun s => s.data ≠ []) v := by
 have h1 := WN q ⟨v.code, jt v.sets, jt v.soa⟩ (fun s => s.data ≠ []) (fun s hs => hs)
  (fun s hs => ((uU (D := ((jt v.sets).map (·.data.length)).sum) (jt v.sets) (fun x hx => VK (List.mem_map_of_mem (f := fun x : Rec => x.data.length) hx))).2 s hs).2.2.1)
  (fun s hs => ((uU (D := ((jt v.soa).map (·.data.length)).sum) (jt v.soa) (fun x hx => VK (List.mem_map_of_mem (f := fun x : Rec => x.data.length) hx))).2 s hs).2.2.1)
 rw [adV h] at h1
 exact h1
structure VOk (q : Quest) (v : Vdt) : Prop where
 sm : SmV v
 ends : EndOk q v
theorem adW {q : Quest} {v : Vdt} (h : UU q v = true) (h1 : LSm v.sets) (h2 : LSm v.soa) : VOk q v := by
 have hd := aaz h
 refine ⟨⟨h1.smS, h2.smS⟩, ?_, ?_, ?_⟩
 · by_cases he : (Vd.endV q v).2 = true
   · exact (h1.set (K2 he).1).2.1
   · rw [VD (by simpa using he)]; simp [RSet.none]
 · by_cases he : (Vd.endV q v).2 = true
   · intro d hdm
     have := (h1.set (K2 he).1).2.2 d hdm
     omega
   · rw [VD (by simpa using he)]; simp [RSet.none]
 · intro he
   exact hd.1 _ (K2 he).1
end
section
open Go.RowKit
open Vd (RSet Vdt Vote Rec Quest Piece Ballot)
open Cn (Zo Cf)
variable {G : World} {L : ja}
def qE : Quest := ⟨[2, 101, 120, 0], 1, 1⟩
def strictZ : Zo := ⟨[0], 1, 0⟩
def acq (ups ded hdg wai tri : Int) : Cf := ⟨ups, ded, hdg, wai, tri, 1, 1, 0, 1, 1, 0, 512, []⟩
def uy (b : UInt8) : Vdt := ⟨0, [⟨[2, 101, 120, 0], 1, 1, 0, [[10, 0, 0, b]]⟩], []⟩
theorem aiz : Spec Tryz.prog G 32 #[] L fun u M => u = .agg (kt qE) ∧ M = L := by
 refine jl (n := 2) Tryz.func32 rfl rfl rfl ?_
 repeat (first | refine goA ?_ | (refine jQ ?_; intro bNew) | refine jy (jm rfl (J1 _ _ _)) rfl ?_)
 refine kO 0 24  rfl rfl  stO (by repeat (exact List.mem_cons_self)) rfl (fun w h => h.tail) ?_
 exact ⟨rfl, rfl⟩
theorem aaA : Spec Tryz.prog G 33 #[] L fun u M => u = .agg #[.string (bs strictZ.name), .int .u8 (strictZ.pol : Nat), .int .u16 (strictZ.tru : Nat)] ∧ M = L := by
 refine jl (n := 2) Tryz.func33 rfl rfl rfl ?_
 repeat (first | refine goA ?_ | (refine jQ ?_; intro bNew) | refine jy (jm rfl (Un _ _)) rfl ?_)
 refine kO 0 26  rfl rfl  stO (by repeat (exact List.mem_cons_self)) rfl (fun w h => h.tail) ?_
 exact ⟨rfl, rfl⟩
theorem acr (ups ded hdg wai tri : Int) : Spec Tryz.prog G 34 #[.int .i64 ups, .int .i64 ded, .int .i64 hdg, .int .i64 wai, .int .i64 tri] L fun u M => u = .agg (jo (acq ups ded hdg wai tri) (.slice none 0 0)).toArray ∧ M = L := by
 refine jl (n := 17) Tryz.func34 rfl rfl rfl ?_
 repeat (first | refine goA ?_ | (refine jQ ?_; intro bNew) | refine jy (jm rfl (ql _ _ _ _ _ _ _ _ _ _)) rfl ?_)
 refine kO 10 30  rfl rfl  stO (by repeat (exact List.mem_cons_self)) rfl (fun w h => h.tail) ?_
 exact ⟨rfl, rfl⟩
def adX (L : ja) (b : UInt8) (u : Value) (M : ja) : Prop := ∃ cv N, u = .agg cv.toArray ∧ vdR N cv (uy b) ∧ M = N ++ L
theorem VL (c : UInt8) (x : Int) (hx : x = (c.toNat : Int)) : Spec Tryz.prog G 35 #[.int .u8 x] L (adX L c) := by
 subst hx
 refine jl (n := 11) Tryz.func35 rfl rfl rfl ?_
 refine j7 (jO (jP (kh (C := #[.int .u8 0, .slice none 0 0, .slice none 0 0]) zeO rfl) rfl ?_))
 intro b2
 repeat (first | refine goA ?_ | (refine qh ?_; intro bLit))
 refine jy (U5 [c] rfl rfl unO unO unO (List.mem_cons_self ..) (fun j hj => ?_)) rfl ?_
 · match j, hj with
   | 0, _ => rfl
 repeat (first | refine goA ?_ | refine jy (jm rfl (Y5 _ _ _)) rfl ?_ | refine jy (jm rfl (yG _ _ _ _ _ _)) rfl ?_ | (refine qh ?_; intro bLit))
 rename_i bB bD
 refine qv (L' := [(bLit, Obj.cells #[.string (bs [2, 101, 120, 0]), .int .u16 1, .int .u16 1, .int .u32 0, .slice (some ⟨bD, 0, none⟩) 1 1] 122 (0, 0)), (bD, Obj.cells #[.string (bs ([10, 0, 0] ++ [c]))] 9 (0, 0)), (bB, Obj.cells #[.int .u8 (c.toNat : Int)] 5 (0, 0))] ++ ((b2, Obj.cells #[.int .u8 0, .slice none 0 0, .slice none 0 0] 40 (0, 0)) :: L)) (fun w h => h) ?_
 refine jE (L' := (b2, Obj.cells #[.int .u8 0, .slice none 0 0, .slice none 0 0] 40 (0, 0)) :: ([(bLit, Obj.cells #[.string (bs [2, 101, 120, 0]), .int .u16 1, .int .u16 1, .int .u32 0, .slice (some ⟨bD, 0, none⟩) 1 1] 122 (0, 0)), (bD, Obj.cells #[.string (bs ([10, 0, 0] ++ [c]))] 9 (0, 0)), (bB, Obj.cells #[.int .u8 (c.toNat : Int)] 5 (0, 0))] ++ L)) ?_ ji
 refine goA ?_
 refine kO 2 40  rfl rfl  stO (by repeat (exact List.mem_cons_self)) rfl (fun w h => h.tail) ?_
 have hD : sliceR 1 qL [(bLit, Obj.cells #[.string (bs [2, 101, 120, 0]), .int .u16 1, .int .u16 1, .int .u32 0, .slice (some ⟨bD, 0, none⟩) 1 1] 122 (0, 0)), (bD, Obj.cells #[.string (bs ([10, 0, 0] ++ [c]))] 9 (0, 0)), (bB, Obj.cells #[.int .u8 (c.toNat : Int)] 5 (0, 0))] [.slice (some ⟨bD, 0, none⟩) 1 1] [[10, 0, 0, c]] := ⟨_, 1, rfl, Nat.le_refl 1, by unfold maxLen; omega, Or.inr ⟨bD, 0, #[.string (bs ([10, 0, 0] ++ [c]))], 9, (0, 0), rfl, List.mem_cons_of_mem _ (List.mem_cons_self ..), fun i x hi => by
  match i, hi with
  | 0, hi =>
    obtain rfl := Option.some.inj hi
    exact ⟨[.string (bs [10, 0, 0, c])], rfl, ⟨rfl, by show 4 ≤ maxLen; decide⟩, fun j v hj => by match j, hj with | 0, hj => exact hj⟩⟩⟩
 refine ⟨_, [(bLit, Obj.cells #[.string (bs [2, 101, 120, 0]), .int .u16 1, .int .u16 1, .int .u32 0, .slice (some ⟨bD, 0, none⟩) 1 1] 122 (0, 0)), (bD, Obj.cells #[.string (bs ([10, 0, 0] ++ [c]))] 9 (0, 0)), (bB, Obj.cells #[.int .u8 (c.toNat : Int)] 5 (0, 0))], rfl, ⟨_, _, rfl, ⟨some ⟨bLit, 0, none⟩, 1, rfl, Nat.le_refl 1, by unfold maxLen; omega, Or.inr ⟨bLit, 0, _, _, _, rfl, List.mem_cons_self .., fun i x hi => ?_⟩⟩, sliceR.nil, by show (0 : Int) ≤ 0 ∧ (0 : Int) ≤ 255; decide⟩, rfl⟩
 match i, hi with
 | 0, hi =>
   obtain rfl := Option.some.inj hi
   exact ⟨[.string (bs [2, 101, 120, 0]), .int .u16 1, .int .u16 1, .int .u32 0, .slice (some ⟨bD, 0, none⟩) 1 1], rfl, ⟨_, rfl, hD, by show (4 : Nat) ≤ maxLen; decide, by show (0 : Int) ≤ 1 ∧ (1 : Int) ≤ 65535; decide, by show (0 : Int) ≤ 1 ∧ (1 : Int) ≤ 65535; decide, by show (0 : Int) ≤ 0 ∧ (0 : Int) ≤ 4294967295; decide⟩, fun j v hj => by
    rw [show 0 + 0 * 5 + j = j by omega, List.getElem?_toArray]
    exact hj⟩
end
section
open Go.RowKit
open Vd (RSet Vdt Vote Rec Quest Piece Ballot)
open Cn (Zo Cf)
structure CaseT where
 q : Quest
 z : Zo
 l : List Int
 c : Cf
 now : Int
instance : Inhabited CaseT := ⟨⟨⟨[], 0, 0⟩, ⟨[], 0, 0⟩, [], Cn.zeroC, 0⟩⟩
structure ActT where
 what : Int
 up : Int
 v : Vdt
 t : Int
 now : Int
instance : Inhabited ActT := ⟨⟨0, 0, Vdt.none, 0, 0⟩⟩
def u4 (x : CaseT) (vl vz : Value) : List Value := [.string (bs x.q.name), .int .u16 x.q.kind, .int .u16 x.q.cls, .string (bs x.z.name), .int .u8 (x.z.pol : Nat), .int .u16 (x.z.tru : Nat), vl] ++ (jo x.c vz ++ [.int .i64 x.now])
def Jr : Rp CaseT := fun L cs x => ∃ vl vz, cs = u4 x vl vz ∧ Vu L [.string (bs x.q.name), .int .u16 x.q.kind, .int .u16 x.q.cls] x.q ∧ zoR L [.string (bs x.z.name), .int .u8 (x.z.pol : Nat), .int .u16 (x.z.tru : Nat)] x.z ∧ sliceR 1 (uz .i64) L [vl] x.l ∧ cfR L (jo x.c vz) x.c ∧ kJ .i64 x.now
def aeW : Rp ActT := fun L cs x => ∃ va vb, cs = [.int .u8 x.what, .int .i64 x.up, .int .u8 x.v.code, va, vb, .int .u32 x.t, .int .i64 x.now] ∧ vdR L [.int .u8 x.v.code, va, vb] x.v ∧ kJ .u8 x.what ∧ kJ .i64 x.up ∧ kJ .u32 x.t ∧ kJ .i64 x.now
theorem UW : uL Jr := fun L L' cs x hL ⟨vl, vz, h1, h2, h3, h4, h5, h6⟩ => ⟨vl, vz, h1, h2, h3, jq (yM _) L L' _ _ hL h4, adN L L' _ _ hL h5, h6⟩
theorem acs : uL aeW := fun L L' cs x hL ⟨va, vb, h1, h2, h3⟩ => ⟨va, vb, h1, jY L L' _ _ hL h2, h3⟩
theorem W7 {x : Int} (h : kJ .i64 x) : -9223372036854775808 ≤ x ∧ x ≤ 9223372036854775807 := by
 unfold kJ Lit.wf at h
 simpa [IntKind.min, IntKind.max, IntKind.bits, IntKind.signed] using h
theorem adY {x : Int} (h : kJ .u8 x) : 0 ≤ x ∧ x ≤ 255 := by
 unfold kJ Lit.wf at h
 simpa [IntKind.min, IntKind.max, IntKind.bits, IntKind.signed] using h
theorem act {x : Int} (h : kJ .u32 x) : 0 ≤ x ∧ x ≤ 4294967295 := by
 unfold kJ Lit.wf at h
 simpa [IntKind.min, IntKind.max, IntKind.bits, IntKind.signed] using h
structure CSm (x : CaseT) : Prop where
 name : x.q.name.length ≤ 3000
 list : x.l.length ≤ 100
 zones : x.c.zs.length ≤ 100
 names : ∀ z ∈ x.c.zs, z.name.length ≤ 300
structure ASm (l : List ActT) : Prop where
 few : l.length ≤ 200
 sets : ∀ a ∈ l, LSm a.v.sets ∧ LSm a.v.soa
variable {G : World} {L : ja}
theorem acu (cs : List Value) (x : CaseT) (v : Value) (l : List ActT) (hx : Jr L cs x) (hl : sliceR 7 aeW L [v] l) : Spec Tryz.prog G 7 #[.agg cs.toArray, v] L fun u M => ∃ b, u = .bool b ∧ M = L ∧ (b = false → CSm x ∧ ASm l) := by
 obtain ⟨vl, vz, rfl, ⟨_, hqn, _⟩, _, hli, ⟨vz', e1, hzs, _⟩, _⟩ := hx
 obtain rfl : vz' = vz := by simpa [jo] using e1.symm
 obtain ⟨la, lc, e2, hli⟩ := hli.val
 obtain rfl := (List.cons.inj e2).1
 obtain ⟨za, zc, e3, hzs⟩ := hzs.val
 obtain rfl := (List.cons.inj e3).1
 obtain ⟨aa, ac, e4, hl⟩ := hl.val
 obtain rfl := (List.cons.inj e4).1
 have k1 := (sliceR.cut hli).2
 have k2 := (sliceR.cut hzs).2
 have k3 := (sliceR.cut hl).2
 unfold maxLen at k1 k2 k3 hqn
 obtain ⟨k11, k12, _⟩ := k1
 obtain ⟨k21, k22, _⟩ := k2
 obtain ⟨k31, k32, _⟩ := k3
 clear e1 e2 e3 e4
 refine jl (n := 95) Tryz.func7 rfl rfl rfl ?_
 refine j7 (jO (jP (kQ rfl) rfl ?_))
 intro bBox
 obtain ⟨C0, hC0⟩ : ∃ C : Array Value, C = (u4 x (.slice la x.l.length lc) (.slice za x.c.zs.length zc)).toArray := ⟨_, rfl⟩
 rw [← hC0]
 have g0 : C0[0 + 0 + 0]? = some (.string (bs x.q.name)) := by rw [hC0]; rfl
 have g6 : C0[0 + 6]? = some (.slice la x.l.length lc) := by rw [hC0]; rfl
 have g19 : C0[0 + 7 + 12]? = some (.slice za x.c.zs.length zc) := by rw [hC0]; rfl
 clear hC0
 by_cases c1 : 3000 < x.q.name.length
 · skip
   refine goA ?_
   refine jG (L' := L) ?_ ji
   refine jf 4 _ rfl rfl ?_
   exact ⟨true, rfl, rfl, fun h => by cases h⟩
 by_cases c2 : 100 < x.l.length
 · skip
   refine goA ?_
   refine jG (L' := L) ?_ ji
   refine jf 4 _ rfl rfl ?_
   exact ⟨true, rfl, rfl, fun h => by cases h⟩
 by_cases c3 : 100 < x.c.zs.length
 · skip
   refine goA ?_
   refine jG (L' := L) ?_ ji
   refine jf 4 _ rfl rfl ?_
   exact ⟨true, rfl, rfl, fun h => by cases h⟩
 by_cases c4 : 200 < l.length
 · skip
   refine goA ?_
   refine jG (L' := L) ?_ ji
   refine jf 4 _ rfl rfl ?_
   exact ⟨true, rfl, rfl, fun h => by cases h⟩
 refine goA ?_
 refine jz (σ := Nat) (fun k => k ≤ x.c.zs.length ∧ ∀ z ∈ x.c.zs.take k, z.name.length ≤ 300) (fun k => [(1, .slice aa l.length ac), (2, .pointer (some ⟨bBox, 0, none⟩)), (5, .int .i64 (k : Nat))]) (fun _ => (bBox, Obj.cells C0 32 (0, 0)) :: L) (fun k => x.c.zs.length - k) 0 ⟨Nat.zero_le _, by simp⟩ ?_ (fun w h => h) ?_
 exact js
 rintro k ⟨hk, hall⟩
 by_cases hlt : k < x.c.zs.length
 · obtain ⟨z, hz⟩ : ∃ z, x.c.zs[k]? = some z := ⟨_, List.getElem?_eq_getElem hlt⟩
   obtain ⟨b1, o1, C1, t1, f1, rfl, m1, cs1, _, ⟨rfl, hzn, _⟩, hcs⟩ := sliceR.at hzs hz
   unfold maxLen at hzn
   have c0 : C1[o1 + k * 3 + 0]? = some (.string (bs z.name)) := hcs 0 _ rfl
   by_cases hn : 300 < z.name.length
   · skip
     refine goA ?_
     refine jG (L' := L) ?_ ji
     refine jf 4 _ rfl rfl ?_
     exact ⟨true, rfl, rfl, fun h => by cases h⟩
   · refine goA ?_
     refine jg (k + 1) ⟨hlt, fun y hy => ?_⟩ ?_ (fun w h => h) jd
     · rw [List.take_add_one, hz] at hy
       rcases List.mem_append.1 hy with hy | hy
       · exact hall y hy
       · rw [List.mem_singleton.1 hy]; omega
     exact js
 rw [List.take_of_length_le jd] at hall
 have hcsm : CSm x := ⟨by omega, by omega, by omega, hall⟩
 refine goA ?_
 refine jz (σ := Nat × Nat) (fun y => y.1 ≤ l.length ∧ y.2 ≤ 7000 ∧ ∀ a ∈ l.take y.1, LSm a.v.sets ∧ LSm a.v.soa) (fun y => [(1, .slice aa l.length ac), (2, .pointer (some ⟨bBox, 0, none⟩)), (6, .int .i64 (y.2 : Nat)), (7, .int .i64 (y.1 : Nat))]) (fun _ => (bBox, Obj.cells C0 32 (0, 0)) :: L) (fun y => l.length - y.1) (0, 0) ⟨Nat.zero_le _, by decide, by simp⟩ ?_ (fun w h => h) ?_
 exact js
 rintro ⟨i, n⟩ ⟨hi, hn, hall2⟩
 dsimp only at hi hn hall2 ⊢
 by_cases hgo : i < l.length ∧ n < 3000
 · obtain ⟨hlt2, hn3⟩ := hgo
   obtain ⟨a, ha⟩ : ∃ a, l[i]? = some a := ⟨_, List.getElem?_eq_getElem hlt2⟩
   obtain ⟨b2, o2, C2, t2, f2, rfl, m2, cs2, _, ⟨va, vb, rfl, hvd, _⟩, hcs2⟩ := sliceR.at hl ha
   obtain ⟨y1, z1, y2, z2, e5, hs1, hs2, _⟩ := hvd.vals
   simp only [List.cons.injEq, and_true, true_and] at e5
   obtain ⟨rfl, rfl⟩ := e5
   have d3 : C2[o2 + i * 7 + 2 + 1]? = some (.slice y1 a.v.sets.length z1) := hcs2 3 _ rfl
   have d4 : C2[o2 + i * 7 + 2 + 2]? = some (.slice y2 a.v.soa.length z2) := hcs2 4 _ rfl
   have j1 := (sliceR.cut hs1).2
   have j2 := (sliceR.cut hs2).2
   unfold maxLen at j1 j2
   obtain ⟨j11, j12, _⟩ := j1
   obtain ⟨j21, j22, _⟩ := j2
   refine goA ?_
   refine jN (jb je rfl (Q6 _ a.v.sets (jq jv _ _ _ _ jn hs1))) rfl ?_
   by_cases l1 : 6000 ≤ u3 a.v.sets
   · rw [decide_eq_true l1]
     refine goA ?_
     refine jG (L' := L) ?_ ji
     refine jf 4 _ rfl rfl ?_
     exact ⟨true, rfl, rfl, fun h => by cases h⟩
   rw [decide_eq_false l1]
   refine goA ?_
   refine jX (jb je rfl (Q6 _ a.v.soa (jq jv _ _ _ _ jn hs2))) rfl ?_
   by_cases l2 : 6000 ≤ u3 a.v.soa
   · rw [decide_eq_true l2]
     refine goA ?_
     refine jG (L' := L) ?_ ji
     refine jf 4 _ rfl rfl ?_
     exact ⟨true, rfl, rfl, fun h => by cases h⟩
   rw [decide_eq_false l2]
   have w1 : LSm a.v.sets := ⟨by omega⟩
   have w2 : LSm a.v.soa := ⟨by omega⟩
   have u1 := w1.few
   have u2 := w2.few
   have hK : ∀ z ∈ [(b2, Obj.cells C2 t2 f2)], z ∈ (bBox, Obj.cells C0 32 (0, 0)) :: L := fun z hz => by rw [List.mem_singleton.1 hz]; exact List.mem_cons_of_mem _ m2
   refine goA ?_
   refine jw jc ([(b2, Obj.cells C2 t2 f2)]) [] ?_
   refine tkQ 0 ?_
   refine tkQ 1 ?_
   refine tkQ 2 ?_
   refine tkQ 3 ?_
   refine tkQ 4 ?_
   refine tkQ 5 ?_
   refine tkQ 6 ?_
   refine tkQ 7 ?_
   refine tkQ 8 ?_
   refine tkQ 9 ?_
   refine tkQ 10 ?_
   refine tkQ 11 ?_
   refine tkQ 12 ?_
   refine tkQ 13 ?_
   refine tkQ 14 ?_
   refine tkQ 15 ?_
   refine tkQ 16 ?_
   refine tkQ 17 ?_
   refine tkQ 18 ?_
   refine tkQ 19 ?_
   refine tdQ ?_
   refine goA ?_
   refine jg (i + 1, n + 5 + min 3000 (a.v.sets.length + a.v.soa.length)) ⟨hlt2, by dsimp only; omega, fun y hy => ?_⟩ ?_ (fun w h => h) (by dsimp only; omega)
   · dsimp only at hy
     rw [List.take_add_one, ha] at hy
     rcases List.mem_append.1 hy with hy | hy
     · exact hall2 y hy
     · rw [List.mem_singleton.1 hy]; exact ⟨w1, w2⟩
   have e7 : ((n + 5 + min 3000 (a.v.sets.length + a.v.soa.length) : Nat) : Int) = (n : Int) + 5 + min 3000 ((a.v.sets.length : Int) + (a.v.soa.length : Int)) := by omega
   rw [e7]
   exact js
 · by_cases hlt2 : i < l.length
   · skip
     refine goA ?_
     refine jG (L' := L) ?_ ji
     refine jf 4 _ rfl rfl ?_
     exact ⟨true, by rw [decide_eq_true (show (3000 : Int) ≤ (n : Int) by omega)], rfl, fun h => by cases h⟩
   · rw [List.take_of_length_le jd] at hall2
     refine goA ?_
     refine jG (L' := L) ?_ ji
     refine jf 4 _ rfl rfl ?_
     exact ⟨_, rfl, rfl, fun _ => ⟨hcsm, by omega, hall2⟩⟩
end
section
open Go.RowKit
open Vd (RSet Vdt Vote Rec Quest Piece Ballot)
open Cn (Zo Cf)
variable {G : World} {L : ja}
def exC : Cf := acq 3 20 10 5 1
def exL : List Int := [2, 0, 1]
def ex0 : As := (Aq.new1 qE strictZ exL exC 100).1
def ex1 : As := (Aq.vote ex0 2 (uy 1) 9 101).1
def ex2 : As := (Aq.vote ex1 0 (uy 2) 9 102).1
def ex3 : As := (Aq.vote ex2 1 (uy 1) 7 103).1
def ex4 : As := (Aq.pass ex2 1 103).1
def exD : Dd := ⟨[], [], true, true, uy 1, 7, [1, 2], [0]⟩
theorem exN : Aq.newE qE strictZ exL exC 100 = 0 := by decide +kernel
theorem aiA : (Aq.new1 qE strictZ exL exC 100).2 = { Dd.none with sends := [2, 0] } := by decide +kernel
theorem aiB : (Aq.vote ex0 2 (uy 1) 9 101).2 = Dd.none := by decide +kernel
theorem aiC : (Aq.vote ex1 0 (uy 2) 9 102).2 = { Dd.none with sends := [1] } := by decide +kernel
theorem aiD : (Aq.vote ex2 1 (uy 1) 7 103).2 = exD := by decide +kernel
theorem aiE : (Aq.pass ex2 1 103).2 = { Dd.none with over := true } := by decide +kernel
theorem aiF : ex3.over = true := by decide +kernel
theorem aiG : ex4.over = true := by decide +kernel
theorem Js (b : UInt8) : EndOk qE (uy b) := ⟨show 1 ≤ 600 by decide, fun d hd => by
 have : d = [10, 0, 0, b] := by simpa [Vd.endV, uy, qE] using hd
 rw [this]; show 4 ≤ 1000000; decide, fun _ => by show ([[10, 0, 0, b]] : List (List UInt8)) ≠ []; simp⟩
theorem YT (b : UInt8) : SmV (uy b) := ⟨⟨show 1 ≤ 100000 by decide, fun s hs => by
 have : s = ⟨[2, 101, 120, 0], 1, 1, 0, [[10, 0, 0, b]]⟩ := by simpa [uy] using hs
 rw [this]; show 1 ≤ 100000; decide⟩, ⟨show 0 ≤ 100000 by decide, fun s hs => by cases hs⟩⟩
theorem zf {K : ja} {b : Nat} {l : List Int} {t : TypeId} {fr : Nat × Nat} (h : (b, Obj.cells (l.map (Value.int .i64)).toArray t fr) ∈ K) : IRow K (.slice (some ⟨b, 0, none⟩) l.length l.length) l :=
 ⟨_, l.length, rfl, Or.inr ⟨b, 0, _, _, _, rfl, h, fun i x hi => by simp [hi]⟩⟩
theorem UX {K : ja} {a : Option Addr} {c : Nat} {l : List Int} (h : IRow K (.slice a l.length c) l) : zN K [.slice a l.length c, .slice none 0 0, .bool false, .bool false, .int .u8 0, .slice none 0 0, .slice none 0 0, .int .u32 0, .slice none 0 0, .slice none 0 0] { Dd.none with sends := l } :=
 ⟨a, c, none, 0, none, 0, none, 0, none, 0, none, 0, rfl, h, jK, ⟨_, _, rfl, sliceR.nil, sliceR.nil, Int.le_refl 0, show (0 : Int) ≤ 255 by decide⟩, jK, jK⟩
theorem acv {K : ja} : zN K [.slice none 0 0, .slice none 0 0, .bool true, .bool false, .int .u8 0, .slice none 0 0, .slice none 0 0, .int .u32 0, .slice none 0 0, .slice none 0 0] { Dd.none with over := true } :=
 ⟨none, 0, none, 0, none, 0, none, 0, none, 0, none, 0, rfl, jK, jK, ⟨_, _, rfl, sliceR.nil, sliceR.nil, Int.le_refl 0, show (0 : Int) ≤ 255 by decide⟩, jK, jK⟩
theorem exIn : NewIn qE strictZ exL exC 100 := (UO exN).1
theorem exW0 : AWell ex0 := JQ exIn ⟨show 4 ≤ 1000000 by decide, show (0 : Int) ≤ 1 ∧ (1 : Int) ≤ 65535 by decide, show (0 : Int) ≤ 1 ∧ (1 : Int) ≤ 65535 by decide, exIn.name⟩
theorem ahg : ex0.q = qE := by decide +kernel
theorem ahh : ex1.q = qE := by decide +kernel
theorem aiH : ex2.q = qE := by decide +kernel
theorem exW1 : AWell ex1 := exW0.vote fun _ _ => by rw [ahg]; exact Js 1
theorem ahi : AWell ex2 := exW1.vote fun _ _ => by rw [ahh]; exact Js 2
theorem aaB : Spec Tryz.prog G 9 #[] L fun u M => u = .bool true ∧ M = L := by
 refine jl (n := 64) Tryz.func9 rfl rfl rfl ?_
 repeat (first | refine goA ?_ | (refine' jN (jb je rfl (aiz )) rfl ?_) | (refine' jN (jb je rfl (aaA )) rfl ?_))
 refine jP (ko (vs := [(0, .int .i64 2), (1, .int .i64 0), (2, .int .i64 1)]) rfl (u9 (C := (([2, 0, 1] : List Int).map (Value.int .i64)).toArray) etO [.int .i64 2, .int .i64 0, .int .i64 1] rfl (by intro v hv; simp only [List.mem_cons, List.not_mem_nil, or_false] at hv; rcases hv with rfl | rfl | rfl <;> rfl) (by decide) rfl)) rfl ?_
 intro bl
 repeat (refine' jN (jb je rfl (acr 3 20 10 5 1 )) rfl ?_)
 refine jx (jb je rfl (ab4 qE strictZ _ _ exL exC 100 (show 4 ≤ 1000000 by decide) (show (0 : Int) ≤ 1 ∧ (1 : Int) ≤ 65535 by decide) (show (0 : Int) ≤ 1 ∧ (1 : Int) ≤ 65535 by decide) (show 1 ≤ 255 ∧ 0 ≤ 65535 by decide) (zf (l := [2, 0, 1]) (List.mem_cons_self ..)) (show 3 ≤ 1000 by decide) ⟨sliceR.nil, fun z hz => by cases hz⟩ (by decide))) rfl ?_
 rintro u0 M0 (⟨_, ap, cs0, X0, N0, rfl, hd0, hX0, rfl⟩ | ⟨hne, _⟩)
 rotate_left
 · exact absurd exN hne
 rw [aiA] at hd0
 have hX0' : yp ap ex0 X0 := hX0
 obtain ⟨d1, e1, d2, e2, d3, e3, d4, e4, d5, e5, d6, e6, hcs, _⟩ := id hd0
 have hone := ue hd0
 repeat (first | refine goA ?_ | (refine jQ ?_; intro bNew))
 refine qQ rfl rfl stO rfl hone.2 hone.1 ?_
 refine goA ?_
 refine jI (zW rfl stO (List.mem_cons_self ..) hone.2) rfl ?_
 repeat (refine kY rfl rfl ?_ ?_; (· exact Bool.not_true))
 refine uo (ko (vs := [(0, .int .i64 2), (1, .int .i64 0)]) rfl (u9 (C := (([2, 0] : List Int).map (Value.int .i64)).toArray) etO [.int .i64 2, .int .i64 0] rfl (by intro v hv; simp only [List.mem_cons, List.not_mem_nil, or_false] at hv; rcases hv with rfl | rfl <;> rfl) (by decide) rfl)) rfl ?_
 rintro _ _ ⟨bl2, rfl, rfl⟩
 repeat (first | refine goA ?_ | refine jI (jm rfl (KS _ _ _)) rfl ?_)
 refine jX (jb je rfl (zr _ _ _ _ (kV _ _ _ _ jn hd0) (UX (zf (l := [2, 0]) (List.mem_cons_self ..))) ⟨by decide, by decide, by decide, by decide⟩)) rfl ?_
 rw [decide_eq_true rfl]
 refine goA ?_
 refine uo (jb je rfl (VL 1 1 rfl)) rfl ?_
 rintro _ _ ⟨cv1, V1, rfl, hv1, rfl⟩
 repeat (refine kY rfl rfl ?_ ?_; (· exact Bool.not_true))
 refine uo (OpT.heap (L' := X0 ++ (V1 ++ L)) (fun w h => h.cnt ji) (jb je rfl (K4 hX0' exW0 2 (uy 1) 9 101 cv1 (jY _ _ _ _ jn hv1) (YT 1) (fun _ _ => by rw [ahg]; exact Js 1) (by decide) (by decide)))) rfl ?_
 rintro _ _ ⟨cs1, X1, N1, rfl, hd1, hX1, rfl⟩
 rw [aiB] at hd1
 have hX1' : yp ap ex1 X1 := hX1
 repeat (first | refine goA ?_ | refine jI (jm rfl (yd )) rfl ?_)
 refine jX (jb je rfl (zr _ _ _ _ (kV _ _ _ _ jn hd1) uu ⟨by decide, by decide, by decide, by decide⟩)) rfl ?_
 rw [decide_eq_true rfl]
 refine goA ?_
 refine uo (jb je rfl (VL 2 2 rfl)) rfl ?_
 rintro _ _ ⟨cv2, V2, rfl, hv2, rfl⟩
 repeat (refine kY rfl rfl ?_ ?_; (· exact Bool.not_true))
 refine uo (OpT.heap (L' := X1 ++ (V2 ++ L)) (fun w h => h.cnt ji) (jb je rfl (K4 hX1' exW1 0 (uy 2) 9 102 cv2 (jY _ _ _ _ jn hv2) (YT 2) (fun _ _ => by rw [ahh]; exact Js 2) (by decide) (by decide)))) rfl ?_
 rintro _ _ ⟨cs2, X2, N2, rfl, hd2, hX2, rfl⟩
 rw [aiC] at hd2
 have hX2' : yp ap ex2 X2 := hX2
 repeat (refine kY rfl rfl ?_ ?_; (· exact Bool.not_true))
 refine uo (ko (vs := [(0, .int .i64 1)]) rfl (u9 (C := (([1] : List Int).map (Value.int .i64)).toArray) etO [.int .i64 1] rfl (by intro v hv; simp only [List.mem_cons, List.not_mem_nil, or_false] at hv; rcases hv with rfl <;> rfl) (by decide) rfl)) rfl ?_
 rintro _ _ ⟨bl3, rfl, rfl⟩
 repeat (first | refine goA ?_ | refine jI (jm rfl (KS _ _ _)) rfl ?_)
 refine jX (jb je rfl (zr _ _ _ _ (kV _ _ _ _ jn hd2) (UX (zf (l := [1]) (List.mem_cons_self ..))) ⟨by decide, by decide, by decide, by decide⟩)) rfl ?_
 rw [decide_eq_true rfl]
 refine goA ?_
 refine jx (OpT.heap (L' := X2 ++ L) (fun w h => h.cnt ji) (jb je rfl (adQ hX2'))) rfl ?_
 rintro _ _ ⟨ap2, X5, rfl, hX5, rfl⟩
 refine goA ?_
 refine jx (jb je rfl (VL 1 1 rfl)) rfl ?_
 rintro _ _ ⟨cv3, V3, rfl, hv3, rfl⟩
 skip
 refine jx (OpT.heap (L' := X2 ++ (V3 ++ (X5 ++ L))) (fun w h => h.cnt ji) (jb je rfl (K4 hX2' ahi 1 (uy 1) 7 103 cv3 (jY _ _ _ _ jn hv3) (YT 1) (fun _ _ => by rw [aiH]; exact Js 1) (by decide) (by decide)))) rfl ?_
 rintro _ _ ⟨cs3, X6, N3, rfl, hd3, hX6, rfl⟩
 rw [aiD] at hd3
 have hX6' : yp ap ex3 X6 := hX6
 skip
 refine jx (jb je rfl (VL 1 1 rfl)) rfl ?_
 rintro _ _ ⟨cv4, V4, rfl, hv4, rfl⟩
 obtain ⟨s1, w1, s2, w2, rfl, hs1, hs2, hsc⟩ := hv4.vals
 skip
 refine jP (ko (vs := [(0, .int .i64 1), (1, .int .i64 2)]) rfl (u9 (C := (([1, 2] : List Int).map (Value.int .i64)).toArray) etO [.int .i64 1, .int .i64 2] rfl (by intro v hv; simp only [List.mem_cons, List.not_mem_nil, or_false] at hv; rcases hv with rfl | rfl <;> rfl) (by decide) rfl)) rfl ?_
 intro bl4
 repeat (first | refine jy (jm rfl (uC _ _ _ _ _ _ _ _ _ _ _ _)) rfl ?_ | (refine qh ?_; intro bLit))
 refine qv (L' := (bLit, Obj.cells (([0] : List Int).map (Value.int .i64)).toArray 3 (0, 0)) :: (bl4, Obj.cells (([1, 2] : List Int).map (Value.int .i64)).toArray 3 (0, 0)) :: (V4 ++ (X6 ++ (N3 ++ (V3 ++ (X5 ++ L)))))) (fun w h => h) ?_
 refine jN (jb je rfl (zr _ _ exD exD (kV _ _ _ _ jn hd3) ⟨none, 0, none, 0, s1, w1, s2, w2, _, _, _, _, rfl, jK, jK, jY _ _ _ _ jn hv4, zf (l := [1, 2]) (List.mem_cons_of_mem _ (List.mem_cons_self ..)), zf (l := [0]) (List.mem_cons_self ..)⟩ ⟨by decide, by decide, by decide, by decide⟩)) rfl ?_
 rw [decide_eq_true rfl]
 refine goA ?_
 refine jX (jb je rfl (uH hX6' jn)) rfl ?_
 rw [aiF]
 refine goA ?_
 refine uo (OpT.heap (L' := X5 ++ L) (fun w h => h.cnt ji) (jb je rfl (Zs hX5 ahi 1 103))) rfl ?_
 rintro _ _ ⟨cs5, X7, N5, rfl, hd5, hX7, rfl⟩
 rw [aiE] at hd5
 have hX7' : yp ap2 ex4 X7 := hX7
 repeat (first | refine goA ?_ | refine jI (jm rfl (Y6 _)) rfl ?_)
 refine jX (jb je rfl (zr _ _ _ _ (kV _ _ _ _ jn hd5) acv ⟨by decide, by decide, by decide, by decide⟩)) rfl ?_
 rw [decide_eq_true rfl]
 refine goA ?_
 refine jX (jb je rfl (uH hX7' jn)) rfl ?_
 rw [aiG]
 refine goA ?_
 refine jG (L' := L) ?_ ji
 refine jf 0 _ rfl rfl ?_
 exact ⟨rfl, rfl⟩
end
section
open Go.RowKit
open Vd (RSet Vdt Vote Rec Quest Piece Ballot)
open Cn (Zo Cf)
variable {G : World} {L : ja}
def ahj (a : As) (m : ActT) : As × Dd := if m.what = 1 then Aq.vote a m.up m.v m.t m.now else if m.what = 2 then Aq.pass a m.up m.now else Aq.tick a m.now
def ajk (q : Quest) (m : ActT) : Prop := m.what = 1 → VOk q m.v
theorem aeX {a : As} (h : AOk a) (u now : Int) : (Aq.pass a u now).1.q = a.q := by
 unfold Aq.pass
 split
 · rfl
 · split
   · exact (jW (AOk.put (a := Aq.upto { a with p := (Hg.close a.p u).1 } now) ((h.close u).upto now) ⟨⟨u, Vdt.none, 0⟩, true⟩)).2.1
   · rfl
theorem aeY {a : As} (h : AOk a) (now : Int) : (Aq.tick a now).1.q = a.q := by
 unfold Aq.tick
 split
 · rfl
 · split
   · rfl
   · exact (jW (a := { (Aq.upto a now) with p := (Hg.tick a.p (Aq.upto a now).now).1 }) ((h.upto now).tick _)).2.1
end
section
open Go.RowKit
open Vd (RSet Vdt Vote Rec Quest Piece Ballot)
open Cn (Zo Cf)
variable {G : World} {L : ja}
def aeZ (t : Int → Int) : Array Value := ((List.range 9).map fun (i : Nat) => Value.int .i64 (t (i : Int))).toArray
def ahk (s : Int → Bool) : Array Value := ((List.range 9).map fun (i : Nat) => Value.bool (s (i : Int))).toArray
theorem ZA {a : Option Addr} {n c : Nat} {l : List Int} {i : Nat} {x : Int} (h : IRow L (.slice a n c) l) (hx : l[i]? = some x) : ∃ b off C te fr, a = some ⟨b, off, none⟩ ∧ (b, Obj.cells C te fr) ∈ L ∧ C[off + i * 1]? = some (.int .i64 x) := by
 obtain ⟨a', c', e, h⟩ := h
 cases e
 rcases h with rfl | ⟨b, off, C, te, fr, e1, e2, e3⟩
 · cases hx
 · exact ⟨b, off, C, te, fr, e1, e2, e3 i x hx⟩
abbrev BkM (po ps pt : Nat) (b : Bk) (L : ja) : ja := (po, .cells #[.int .i64 b.overs] 3 (0, 0)) :: (ps, .cells (ahk b.shut) 48 (0, 0)) :: (pt, .cells (aeZ b.times) 47 (0, 0)) :: L
end
section
open Go.RowKit
open Vd (RSet Vdt Vote Rec Quest Piece Ballot)
open Cn (Zo Cf)
variable {G : World} {L : ja}
structure TurnT where
 ticks : Int
 up : Int
 pass : Bool
 v : Vdt
 t : Int
instance : Inhabited TurnT := ⟨⟨0, 0, false, Vdt.none, 0⟩⟩
def UY : Rp TurnT := fun L cs x => ∃ va vb, cs = [.int .u8 x.ticks, .int .i64 x.up, .bool x.pass, .int .u8 x.v.code, va, vb, .int .u32 x.t] ∧ vdR L [.int .u8 x.v.code, va, vb] x.v ∧ kJ .u8 x.ticks ∧ kJ .i64 x.up ∧ kJ .u32 x.t
theorem aaC : uL UY := fun L L' cs x hL ⟨va, vb, h1, h2, h3⟩ => ⟨va, vb, h1, jY L L' _ _ hL h2, h3⟩
structure TSm (l : List TurnT) : Prop where
 few : l.length ≤ 60
 sets : ∀ x ∈ l, LSm x.v.sets ∧ LSm x.v.soa
def KL (x : TurnT) : ActT := ⟨0, 0, x.v, 0, 0⟩
def acw : CaseT := ⟨⟨[], 0, 0⟩, ⟨[], 0, 0⟩, [], Cn.zeroC, 0⟩
theorem yw : I64 0 := by unfold I64; omega
theorem ae0 : CfIn Cn.zeroC := ⟨yw, yw, yw, yw, yw, yw, yw, yw, yw, yw, yw, yw⟩
theorem adZ (v : Value) (l : List TurnT) (hl : sliceR 7 UY L [v] l) : Spec Tryz.prog G 8 #[v] L fun u M => ∃ b, u = .bool b ∧ M = L ∧ (b = false → TSm l) := by
 obtain ⟨la, lc, e, hl⟩ := hl.val
 obtain rfl := (List.cons.inj e).1
 have k1 := (sliceR.cut hl).2
 unfold maxLen at k1
 obtain ⟨k11, k12, _⟩ := k1
 refine jl (n := 32) Tryz.func8 rfl rfl rfl ?_
 refine goU ?_
 refine jz (σ := Nat × Option Addr × Nat × ja) (fun s => s.1 ≤ l.length ∧ s.1 ≤ 100 ∧ ORow aeW 69 7 L s.2.1 s.2.2.1 ((l.take s.1).map KL) s.2.2.2) (fun s => [(0, .slice la l.length lc), (3, .slice s.2.1 ((l.take s.1).map KL).length s.2.2.1), (4, .int .i64 (s.1 : Nat))]) (fun s => s.2.2.2 ++ L) (fun s => l.length - s.1) (0, none, 0, []) ⟨Nat.zero_le _, Nat.zero_le _, ORow.nil _⟩ ?_ (fun w h => h) ?_
 · exact js
 rintro ⟨k, a, c, B⟩ ⟨hk, hk2, hB⟩
 dsimp only at hk hk2 hB ⊢
 by_cases hlt : k < l.length ∧ k < 100
 · obtain ⟨hlt, hlt2⟩ := hlt
   obtain ⟨x, hx⟩ : ∃ x, l[k]? = some x := ⟨_, List.getElem?_eq_getElem hlt⟩
   obtain ⟨b1, o1, C1, t1, f1, rfl, m1, cs1, hn1, ⟨va, vb, rfl, hvd, h1, h2, h3⟩, hcs⟩ := sliceR.at hl hx
   obtain ⟨y1, z1, y2, z2, e5, _, _, _⟩ := hvd.vals
   simp only [List.cons.injEq, and_true, true_and] at e5
   obtain ⟨rfl, rfl⟩ := e5
   have htk : (l.take (k + 1)).map KL = (l.take k).map KL ++ [KL x] := by rw [List.take_add_one, hx]; simp
   have hlen : ((l.take k).map KL).length ≤ 100 := by rw [List.length_map, List.length_take]; omega
   have hver : ∀ j w, ([.int .u8 x.v.code, .slice y1 x.v.sets.length z1, .slice y2 x.v.soa.length z2] : List Value)[j]? = some w → C1[o1 + k * 7 + 3 + j]? = some w := fun j w hj =>
    match j, hj with
    | 0, hj => hcs 3 _ hj
    | 1, hj => hcs 4 _ hj
    | 2, hj => hcs 5 _ hj
   refine goU ?_
   refine jy (jA [.int .u8 x.v.code, .slice y1 x.v.sets.length z1, .slice y2 x.v.soa.length z2] rfl stL (List.mem_append_right _ m1) hver) rfl ?_
   repeat (first | refine goU ?_ | (refine qh ?_; intro bL))
   refine acl (KL x) hB ⟨_, _, rfl, hvd, rfl, rfl, rfl, rfl⟩ ?_
   intro a' c' B' hB'
   refine goU ?_
   rw [← htk] at hB' ⊢
   exact jg (k + 1, a', c', B') ⟨hlt, hlt2, hB'⟩ js (fun w h => h) (by dsimp only; omega)
 · by_cases h60 : 60 < l.length
   · by_cases hlt2 : k < l.length
     · have h100 : ¬ (k : Int) < 100 := by omega
       refine goU ?_
       refine qV 2 rfl rfl ⟨true, rfl, rfl, fun h => by cases h⟩ j8
     · refine goU ?_
       refine qV 2 rfl rfl ⟨true, rfl, rfl, fun h => by cases h⟩ j8
   · have hkl : k = l.length := by omega
     have hsl := hB.sliceR acs (L' := B ++ L) jn jn
     have hz0 : Jr (B ++ L) (u4 acw (.slice none 0 0) (.slice none 0 0)) acw := ⟨_, _, rfl, ⟨rfl, by show 0 ≤ maxLen; omega, ⟨by show (0 : Int) ≤ 0; omega, by show (0 : Int) ≤ 65535; omega⟩, by show (0 : Int) ≤ 0; omega, by show (0 : Int) ≤ 65535; omega⟩, ⟨rfl, by show 0 ≤ maxLen; omega, by show 0 ≤ 255; omega, by show 0 ≤ 65535; omega⟩, sliceR.nil, ⟨_, rfl, sliceR.nil, ae0⟩, rfl⟩
     refine goU ?_
     refine aeg (acu _ acw _ _ hz0 hsl) ?_
     rintro _ _ ⟨b, rfl, rfl, hb⟩
     refine goU ?_
     refine qV 2 rfl rfl ⟨b, rfl, rfl, fun h => ?_⟩ j8
     have := (hb h).2.sets
     refine ⟨by omega, fun y hy => ?_⟩
     rw [hkl, List.take_length] at this
     exact this (KL y) (List.mem_map_of_mem hy)
end
section
open Go.RowKit
open Vd (RSet Vdt Vote Rec Quest Piece Ballot)
open Cn (Zo Cf)
variable {G : World} {L : ja}
def ajz (a : As) (l : List ActT) : As := l.foldl (fun a m => (ahj a m).1) a
end
section
open Go.RowKit
open Hg (En Pl)
open Vd (RSet Vdt Vote Rec Quest Piece Ballot)
open Cn (Zo Cf)
theorem ad0 {c : Cf} (h : Cn.mayP c = true) : 1 ≤ c.ded := by
 have h1 := of_decide_eq_true (Bool.and_eq_true_iff.1 h).1
 obtain ⟨⟨a1, a2, _⟩, a3, a4, a5, ⟨a6, a7⟩, _⟩ := h1
 have h2 : 0 ≤ c.ups / 2 * c.hdg := Int.mul_nonneg jd jd
 have h3 : 1 * 1 ≤ c.tri * c.wai := Int.mul_le_mul jd jd jd jd
 omega
theorem ZB (l : List Int) (a b c d e : Int) : jT (Hg.mk l a b c d e) = l := by
 unfold jT Hg.mk
 dsimp only
 rw [List.map_map]
 exact (List.map_congr_left fun x _ => rfl).trans (List.map_id l)
theorem KR.new {q : Quest} {z : Zo} {l : List Int} {c : Cf} {now : Int} (h : NewIn q z l c now) (hq : QOk q) :
 TOk (Aq.own z.pol z.tru l) c.tri Bk.zero (Aq.new1 q z l c now).2 ∧ KR (Aq.own z.pol z.tru l) c.tri (Bk.zero.told (Aq.new1 q z l c now).2) (Aq.new1 q z l c now).1 := by
 obtain ⟨n1, n2, n3, n4, n5, n6⟩ := uw h.may
 obtain ⟨o1, o2, o3⟩ := JP (pol := z.pol) (tru := z.tru) h.dist n1.2
 have hf := Fr.mk (Aq.own z.pol z.tru l) (Aq.wantOf c z.pol) c.hdg c.wai c.tri now
 have hu := ZB (Aq.own z.pol z.tru l) (Aq.wantOf c z.pol) c.hdg c.wai c.tri now
 have hn : (jT (Hg.mk (Aq.own z.pol z.tru l) (Aq.wantOf c z.pol) c.hdg c.wai c.tri now)).Nodup := by rw [hu]; exact o2
 have s1 := Stp.begin' hf hn
 have hok := (JQ h hq).ok
 have hr : ∀ u ∈ Aq.own z.pol z.tru l, 0 ≤ u ∧ u < 9 := fun u hm => by have := o1 u hm; omega
 have hk : KR (Aq.own z.pol z.tru l) c.tri Bk.zero { Aq.new0 q z l c now with p := Hg.mk (Aq.own z.pol z.tru l) (Aq.wantOf c z.pol) c.hdg c.wai c.tri now } := by
  refine ⟨fun k => (by cases k), fun _ => ⟨rfl, fun x hx => ?_, fun u _ => ⟨rfl, rfl⟩⟩, hu, rfl, fun u => ⟨Int.le_refl 0, by show (0 : Int) ≤ 4; omega⟩⟩
  simp only [Hg.mk, List.mem_map] at hx
  obtain ⟨v, _, rfl⟩ := hx
  exact ⟨rfl, rfl⟩
 obtain ⟨r, k1, k2, k3, k4, k5⟩ := zb (Aq.new0 q z l c now) { Dd.none with sends := (Hg.begin' (Hg.mk (Aq.own z.pol z.tru l) (Aq.wantOf c z.pol) c.hdg c.wai c.tri now)).2 } (qu h hq).ok.fr (by show (jT (Hg.begin' _).1).Nodup; rw [s1.ups]; exact hn) rfl rfl rfl
 refine hk.step (a' := (Aq.new1 q z l c now).1) hr rfl ?_ k4 k5 hok.good
 show Stp _ _ (Aq.look _ _).2.sends (Aq.look _ _).2.gone
 rw [k1, k3]
 exact s1.trans k2
theorem acx {a : As} (h : AOk a) (t : Int) : (Aq.tick a t).1.ded = a.ded := by
 unfold Aq.tick
 split
 · rfl
 · split
   · rfl
   · exact (jW (a := { (Aq.upto a t) with p := (Hg.tick a.p (Aq.upto a t).now).1 }) ((h.upto t).tick _)).2.2.2.2.2.1
theorem acy {a : As} (h : AOk a) (u t : Int) : (Aq.pass a u t).1.ded = a.ded := by
 unfold Aq.pass
 split
 · rfl
 · split
   · exact (jW (AOk.put (a := Aq.upto { a with p := (Hg.close a.p u).1 } t) ((h.close u).upto t) ⟨⟨u, Vdt.none, 0⟩, true⟩)).2.2.2.2.2.1
   · rfl
theorem aaD {a : As} {t : Int} (h : a.ded ≤ t) (ht : t ≤ Hg.top) : (Aq.tick a t).1.over = true := by
 unfold Aq.tick
 split
 · assumption
 · have hu : (Aq.upto a t).now = max a.now (min t Hg.top) := rfl
   rw [if_pos jd]
theorem aaE {a : As} {t : Int} (h : a.over = true) : Aq.tick a t = (a, Dd.none) := by unfold Aq.tick; rw [if_pos h]
theorem aaF {a : As} {u t : Int} (h : a.over = true) : Aq.pass a u t = (a, Dd.none) := by unfold Aq.pass; rw [if_pos h]
structure EnI (us : List Int) (c : Cf) (q : Quest) (t0 : Int) (b : Bk) (a : As) (now : Int) : Prop where
 well : AWell a
 q : a.q = q
 kr : KR us c.tri b a
 ded : a.ded = t0 + c.ded
 clk : t0 ≤ now ∧ 0 ≤ now
 run : a.over = true ∨ now < t0 + c.ded
theorem EnI.tick {us : List Int} {c : Cf} {q : Quest} {t0 : Int} {b : Bk} {a : As} {now : Int} (h : EnI us c q t0 b a now) (hr : ∀ u ∈ us, 0 ≤ u ∧ u < 9) (hn : us.Nodup) (ht : now + 1 ≤ Hg.top) :
 TOk us c.tri b (Aq.tick a (now + 1)).2 ∧ EnI us c q t0 (b.told (Aq.tick a (now + 1)).2) (Aq.tick a (now + 1)).1 (now + 1) := by
 obtain ⟨k1, k2⟩ := h.kr.tick hr hn h.well.ok (now + 1)
 refine ⟨k1, h.well.tick, (aeY h.well.ok _).trans h.q, k2, (acx h.well.ok _).trans h.ded, ⟨by have := h.clk; omega, by have := h.clk; omega⟩, ?_⟩
 rcases h.run with ho | ho
 · left; rw [aaE ho]; exact ho
 · by_cases e : now + 1 < t0 + c.ded
   · exact Or.inr e
   · exact Or.inl (aaD (by rw [h.ded]; omega) ht)
theorem EnI.pass {us : List Int} {c : Cf} {q : Quest} {t0 : Int} {b : Bk} {a : As} {now : Int} (h : EnI us c q t0 b a now) (hr : ∀ u ∈ us, 0 ≤ u ∧ u < 9) (hn : us.Nodup) (u : Int) :
 (b.was u = false → (Aq.pass a u now).2 = Dd.none) ∧ TOk us c.tri (if b.was u then b.put u else b) (Aq.pass a u now).2 ∧ EnI us c q t0 ((if b.was u then b.put u else b).told (Aq.pass a u now).2) (Aq.pass a u now).1 now ∧ (∀ v t, (Aq.vote (Aq.pass a u now).1 u v t now).2 = Dd.none) ∧ ((Aq.pass a u now).1.over = false → (Hg.close (Aq.pass a u now).1.p u).2 = true → False) := by
 obtain ⟨k0, k1, k2, k3⟩ := h.kr.pass hr hn h.well.ok u now
 have hnot : (Aq.pass a u now).1.over = false → (Hg.close (Aq.pass a u now).1.p u).2 = true → False := fun e1 e2 => by
  have := k3 e1
  rw [e2] at this
  cases this
 refine ⟨k0, k1, ⟨h.well.pass, (aeX h.well.ok _ _).trans h.q, k2, (acy h.well.ok _ _).trans h.ded, h.clk, ?_⟩, fun v t => ?_, hnot⟩
 · rcases h.run with ho | ho
   · left; rw [aaF ho]; exact ho
   · exact Or.inr ho
 · unfold Aq.vote
   split
   · rfl
   · rename_i ho
     rw [if_neg (fun e => hnot (by simpa using ho) e)]
end
section
open Go.RowKit
open Hg (En Pl)
open Vd (RSet Vdt Vote Rec Quest Piece Ballot)
open Cn (Zo Cf)
variable {G : World} {L : ja}
structure DIn (us : List Int) (d : Dd) : Prop where
 sends : ∀ u ∈ d.sends, u ∈ us
 gone : ∀ u ∈ d.gone, u ∈ us
theorem qK (us : List Int) : DIn us Dd.none := ⟨fun u h => absurd h (by simp [Dd.none]), fun u h => absurd h (by simp [Dd.none])⟩
theorem K6 {us : List Int} {a : As} {d : Dd} (hf : Fr a.p) (hn : us.Nodup) (hu : jT a.p = us) (h : DIn us d) : DIn us (Aq.look a d).2 := by
 unfold Aq.look
 split
 · exact ⟨h.sends, h.gone⟩
 · obtain ⟨r, e1, e2, e3, _⟩ := zt (a.p.list.length + 1) a d hf (by rw [hu]; exact hn)
   refine ⟨fun u hm => ?_, fun u hm => ?_⟩
   · rw [e1] at hm
     rcases List.mem_append.1 hm with hm | hm
     · exact h.sends u hm
     · rw [← hu]; exact e2.inS u hm
   · rw [e3] at hm; exact h.gone u hm
theorem ad1 {us : List Int} {a : As} (hn : us.Nodup) (hu : jT a.p = us) (ha : AOk a) (t : Int) : DIn us (Aq.tick a t).2 := by
 unfold Aq.tick
 split
 · exact qK us
 · split
   · exact ⟨(qK us).sends, (qK us).gone⟩
   · have hs := Stp.tick ha.good ha.fr (by rw [hu]; exact hn) (Aq.upto a t).now
     refine K6 (ha.fr.tick _) hn (hs.ups.trans hu) ⟨fun u hm => ?_, fun u hm => ?_⟩
     · rw [← hu]; exact hs.inS u hm
     · rw [← hu]; exact hs.inG u hm
theorem ad2 {us : List Int} {a : As} (hn : us.Nodup) (hu : jT a.p = us) (ha : AOk a) (u t : Int) : DIn us (Aq.pass a u t).2 := by
 unfold Aq.pass
 split
 · exact qK us
 · split
   · exact K6 (ha.fr.close u) hn ((ui (by rw [hu]; exact hn) u).trans hu) (qK us)
   · exact qK us
theorem ad3 {us : List Int} {a : As} (hn : us.Nodup) (hu : jT a.p = us) (ha : AOk a) (u : Int) (v : Vdt) (t now : Int) : DIn us (Aq.vote a u v t now).2 := by
 unfold Aq.vote
 split
 · exact qK us
 · split
   · exact K6 (ha.fr.close u) hn ((ui (by rw [hu]; exact hn) u).trans hu) (qK us)
   · exact qK us
abbrev MpM (pm bm : Nat) (om : Obj) (L : ja) : ja := (pm, .cells #[.map (some bm)] 61 (0, 0)) :: (bm, om) :: L
theorem VM {pm bm c : Nat} {f : Int → Int} {om : Obj} (d : Dd) (ds : List Value) {us : List Int} (hd : zN L ds d) (hf : DSh d) (hin : DIn us d) (hr : ∀ u ∈ us, 0 ≤ u ∧ u < 9) (ho : MapO Tryz.prog 3 c f om) (hc : c ≤ 1000000000) :
 Spec Tryz.prog G 20 #[.agg ds.toArray, .pointer (some ⟨pm, 0, none⟩)] (MpM pm bm om L) fun u M => u = .tuple #[] ∧ ∃ om', MapO Tryz.prog 3 (c + 2000) (qp f d) om' ∧ M = MpM pm bm om' L := by
 obtain ⟨y1, k1, y2, k2, y3, k3, y4, k4, y5, k5, y6, k6, rfl, hs, hg, _⟩ := hd
 have hsl := hf.sends
 have hgl := hf.gone
 refine jl (n := 31) Tryz.func20 rfl rfl rfl ?_
 repeat (first | refine goU ?_ | (refine kD ?_; intro bB))
 obtain ⟨sF, hsF⟩ : ∃ g : Nat → Int → Int, g = fun k u => if (d.sends.take k).contains u then 1 else f u := ⟨_, rfl⟩
 have hs0 : sF 0 = f := by rw [hsF]; funext u; simp
 refine jz (σ := Nat × Obj) (fun s => s.1 ≤ d.sends.length ∧ MapO Tryz.prog 3 (c + s.1) (sF s.1) s.2) (fun s => [(1, .pointer (some ⟨pm, 0, none⟩)), (2, .pointer (some ⟨bB, 0, none⟩)), (3, .int .i64 (s.1 : Nat))])
  (fun s => (bB, Obj.cells _ 43 (0, 0)) :: MpM pm bm s.2 L) (fun s => d.sends.length - s.1) (0, om) ⟨Nat.zero_le _, by rw [hs0]; exact ho⟩ ?_ (fun w h => h) ?_
 · exact js
 rintro ⟨k, o1⟩ ⟨hk, ho1⟩
 dsimp only at hk ho1 ⊢
 by_cases hlt : k < d.sends.length
 · obtain ⟨u, hu⟩ : ∃ u, d.sends[k]? = some u := ⟨_, List.getElem?_eq_getElem hlt⟩
   have hru := hr u (hin.sends u (List.mem_of_getElem? hu))
   obtain ⟨b1, q1, C1, t1, f1, rfl, m1, e1⟩ := ZA hs hu
   have hset : W4 (sF k) u 1 = sF (k + 1) := by
    rw [hsF]
    funext v
    unfold W4
    dsimp only
    rw [List.take_add_one, hu]
    by_cases e : v = u
    · subst e; simp
    · rw [if_neg e]; simp [e]
   refine goU ?_
   refine Zy [6] jc ?_
   refine drR ?_
   refine Zz u 1 Tryz.underlying61 unO ho1 (by unfold maxLen; omega) jd ?_
   intro o2 ho2
   refine acm ?_
   rw [hset] at ho2
   refine goU ?_
   exact jg (k + 1, o2) ⟨hlt, ho2⟩ js (Fits.heap j8) (by dsimp only; omega)
 · have hkl : k = d.sends.length := by omega
   obtain ⟨gF, hgF⟩ : ∃ g : Nat → Int → Int, g = fun j u => if (d.gone.take j).contains u then 0 else if d.sends.contains u then 1 else f u := ⟨_, rfl⟩
   have hg0 : sF k = gF 0 := by rw [hsF, hgF, hkl]; funext u; dsimp only; rw [List.take_length]; simp
   rw [hg0] at ho1
   refine goU ?_
   refine jz (σ := Nat × Obj) (fun s => s.1 ≤ d.gone.length ∧ MapO Tryz.prog 3 (c + k + s.1) (gF s.1) s.2) (fun s => [(1, .pointer (some ⟨pm, 0, none⟩)), (2, .pointer (some ⟨bB, 0, none⟩)), (4, .int .i64 (s.1 : Nat))])
    (fun s => (bB, Obj.cells _ 43 (0, 0)) :: MpM pm bm s.2 L) (fun s => d.gone.length - s.1) (0, o1) ⟨Nat.zero_le _, ho1⟩ ?_ (fun w h => h) ?_
   · exact js
   rintro ⟨j, o1⟩ ⟨hj, ho1⟩
   dsimp only at hj ho1 ⊢
   by_cases hlt : j < d.gone.length
   · obtain ⟨u, hu⟩ : ∃ u, d.gone[j]? = some u := ⟨_, List.getElem?_eq_getElem hlt⟩
     have hru := hr u (hin.gone u (List.mem_of_getElem? hu))
     obtain ⟨b1, q1, C1, t1, f1, rfl, m1, e1⟩ := ZA hg hu
     have hset : W4 (gF j) u 0 = gF (j + 1) := by
      rw [hgF]
      funext v
      unfold W4
      dsimp only
      rw [List.take_add_one, hu]
      by_cases e : v = u
      · subst e; simp
      · rw [if_neg e]; simp [e]
     refine goU ?_
     refine Zy [6] jc ?_
     refine drR ?_
     refine Zz u 0 Tryz.underlying61 unO ho1 (by unfold maxLen; omega) jd ?_
     intro o2 ho2
     refine acm ?_
     rw [hset] at ho2
     refine goU ?_
     exact jg (j + 1, o2) ⟨hlt, ho2⟩ js (Fits.heap j8) (by dsimp only; omega)
   · have hjl : j = d.gone.length := by omega
     have hge : gF j = qp f d := by rw [hgF, hjl]; funext u; dsimp only; rw [List.take_length]; rfl
     rw [hge] at ho1
     refine goU ?_
     exact ahe rfl ⟨rfl, o1, ho1.mono jd, rfl⟩ j8
end
section
open Vd (RSet Vdt Vote Rec Quest Piece Ballot)
def qw (vs : List Vote) (v : Vdt) : List Vote := vs.filter fun x => !decide (x.vd = v)
def Uj (l : List Vote) (t : Int) : Int := l.foldl (fun t v => min t v.time) t
theorem UZ (want : Int) (vs : List Vote) : ∀ (j k : Nat), jZ want vs j = some k → k < vs.length
 | 0, k, h => by cases h
 | j + 1, k, h => by
   unfold jZ at h
   split at h
   · rename_i k' hk
     cases h
     exact UZ want vs j _ hk
   · split at h
     · rename_i x hx
       split at h
       · cases h
         exact (List.getElem?_eq_some_iff.1 hx).1
       · cases h
     · cases h
theorem Q7 (want : Int) (vs : List Vote) (w : Vote) : ∀ (j : Nat), j ≤ vs.length → jZ want (vs ++ [w]) j = jZ want vs j
 | 0, _ => rfl
 | j + 1, h => by
   unfold jZ
   rw [Q7 want vs w j jd, List.getElem?_append_left jd, List.take_append_of_le_length jd]
theorem acz {want : Int} {vs : List Vote} {w : Vote} {q : Quest} (h : zd 1 want q vs = none) :
 zd 1 want q (vs ++ [w]) = if want ≤ ((jH (vs ++ [w]) w.vd).length : Int) then some (w.vd, Uj (jH (vs ++ [w]) w.vd) w.time, kx ((jH (vs ++ [w]) w.vd).map (·.up)), kx ((qw (vs ++ [w]) w.vd).map (·.up))) else none := by
 have h0 : jZ want vs vs.length = none := by
  cases hk : jZ want vs vs.length with
  | none => rfl
  | some k =>
    have hlt := UZ want vs _ k hk
    have e : (qt want vs).2.2.2 = true := by unfold qt; rw [hk]; dsimp only; rw [List.getElem?_eq_getElem hlt]
    unfold zd at h
    rw [if_pos rfl, if_pos e] at h
    cases h
 have h1 : jZ want (vs ++ [w]) (vs ++ [w]).length = if want ≤ ((jH (vs ++ [w]) w.vd).length : Int) then some vs.length else none := by
  rw [List.length_append, List.length_singleton]
  unfold jZ
  rw [Q7 want vs w vs.length (Nat.le_refl _), h0]
  dsimp only
  rw [show (vs ++ [w])[vs.length]? = some w by simp]
  dsimp only
  rw [List.take_of_length_le (by simp)]
 unfold zd
 rw [if_pos rfl]
 by_cases hw : want ≤ ((jH (vs ++ [w]) w.vd).length : Int)
 · rw [if_pos hw] at h1 ⊢
   have hr : qt want (vs ++ [w]) = (w.vd, Uj (jH (vs ++ [w]) w.vd) w.time, kx ((jH (vs ++ [w]) w.vd).map (·.up)), true) := by
    unfold qt
    rw [h1]
    dsimp only
    rw [show (vs ++ [w])[vs.length]? = some w by simp]
    dsimp only
    rw [List.take_of_length_le (by simp)]
    rfl
   unfold kE
   rw [hr]
   rfl
 · rw [if_neg hw] at h1 ⊢
   unfold qt
   rw [h1]
   rfl
def qW (n : Nat) (l : List Vote) : List Vote := (List.range n).flatMap fun (m : Nat) => l.filter fun y => y.up == (m : Int)
theorem aaG (l : List Vote) : qW 0 l = [] := rfl
theorem JT (n : Nat) (l : List Vote) : qW (n + 1) l = qW n l ++ l.filter fun y => y.up == (n : Int) := by
 unfold qW
 rw [List.range_succ, List.flatMap_append, List.flatMap_singleton]
theorem aaH (l : List Vote) : kx (l.map (·.up)) = (qW 9 l).map (·.up) := by
 unfold kx qW
 rw [List.map_flatMap]
 congr 1
 funext m
 rw [List.filter_map]
 rfl
theorem ZC (n : Nat) (l : List Vote) : (qW n l).Perm (l.filter fun y => decide (0 ≤ y.up ∧ y.up < n)) := by
 induction n with
 | zero =>
   rw [aaG]
   have : (l.filter fun y => decide (0 ≤ y.up ∧ y.up < ((0 : Nat) : Int))) = [] := by
    rw [List.filter_eq_nil_iff]; intro y _ k; have := of_decide_eq_true k; omega
   rw [this]
 | succ n ih =>
   rw [JT]
   refine (ih.append_right _).trans ?_
   have e := List.filter_append_perm (fun y : Vote => decide (y.up < (n : Int))) (l.filter fun y => decide (0 ≤ y.up ∧ y.up < ((n + 1 : Nat) : Int)))
   refine List.Perm.trans ?_ e
   rw [List.filter_filter, List.filter_filter]
   refine (List.Perm.of_eq ?_).append (List.Perm.of_eq ?_)
   · apply List.filter_congr; intro y _; rw [Bool.eq_iff_iff]; simp; omega
   · apply List.filter_congr; intro y _; rw [Bool.eq_iff_iff]; simp; omega
theorem aaI {l : List Vote} (h : ∀ y ∈ l, 0 ≤ y.up ∧ y.up < 9) : (qW 9 l).Perm l := by
 refine (ZC 9 l).trans (List.Perm.of_eq ?_)
 rw [List.filter_eq_self]
 intro y hy
 exact decide_eq_true (h y hy)
theorem aaJ {l m : List Vote} (h : l.Perm m) (t : Int) : Uj l t = Uj m t := by
 unfold Uj
 exact h.foldl_eq' (fun x _ y _ z => by omega) t
def Af (vs : List Vote) (v : Vdt) (u i : Nat) : List Vote := qW u (jH vs v) ++ (jH (vs.take i) v).filter fun y => y.up == (u : Int)
def Bf (vs : List Vote) (v : Vdt) (u i : Nat) : List Vote := qW u (qw vs v) ++ (qw (vs.take i) v).filter fun y => y.up == (u : Int)
theorem ZD (vs : List Vote) (v : Vdt) (u : Nat) : Af vs v u 0 = qW u (jH vs v) := by simp [Af, jH]
theorem ZE (vs : List Vote) (v : Vdt) (u : Nat) : Bf vs v u 0 = qW u (qw vs v) := by simp [Bf, qw]
theorem ae1 (vs : List Vote) (v : Vdt) (u : Nat) : Af vs v u vs.length = qW (u + 1) (jH vs v) := by unfold Af; rw [List.take_length, JT]
theorem ae2 (vs : List Vote) (v : Vdt) (u : Nat) : Bf vs v u vs.length = qW (u + 1) (qw vs v) := by unfold Bf; rw [List.take_length, JT]
theorem ad4 {vs : List Vote} {v : Vdt} {u i : Nat} {y : Vote} (h : vs[i]? = some y) : Af vs v u (i + 1) = Af vs v u i ++ if y.vd = v ∧ y.up = u then [y] else [] := by
 unfold Af jH
 rw [List.take_add_one, h, List.filter_append, List.filter_append, List.append_assoc]
 congr 2
 by_cases h1 : y.vd = v <;> by_cases h2 : y.up = u <;> simp [h1, h2]
theorem ad5 {vs : List Vote} {v : Vdt} {u i : Nat} {y : Vote} (h : vs[i]? = some y) : Bf vs v u (i + 1) = Bf vs v u i ++ if ¬ y.vd = v ∧ y.up = u then [y] else [] := by
 unfold Bf qw
 rw [List.take_add_one, h, List.filter_append, List.filter_append, List.append_assoc]
 congr 2
 by_cases h1 : y.vd = v <;> by_cases h2 : y.up = u <;> simp [h1, h2]
theorem yq {α : Type} (l : List α) (p : α → Bool) : (l.filter p).length ≤ l.length := List.length_filter_le p l
theorem Q8 (n : Nat) (l : List Vote) : (qW n l).length ≤ l.length := by rw [(ZC n l).length_eq]; exact yq _ _
theorem ae3 (vs : List Vote) (v : Vdt) (u i : Nat) : (Af vs v u i).length ≤ 2 * vs.length := by
 unfold Af
 rw [List.length_append]
 have h1 := Q8 u (jH vs v)
 have h2 := yq vs fun x => decide (x.vd = v)
 have h3 := yq (jH (vs.take i) v) fun y => y.up == (u : Int)
 have h4 := yq (vs.take i) fun x => decide (x.vd = v)
 rw [List.length_take] at h4
 unfold jH at h1 h3 ⊢
 omega
theorem ae4 (vs : List Vote) (v : Vdt) (u i : Nat) : (Bf vs v u i).length ≤ 2 * vs.length := by
 unfold Bf
 rw [List.length_append]
 have h1 := Q8 u (qw vs v)
 have h2 := yq vs fun x => !decide (x.vd = v)
 have h3 := yq (qw (vs.take i) v) fun y => y.up == (u : Int)
 have h4 := yq (vs.take i) fun x => !decide (x.vd = v)
 rw [List.length_take] at h4
 unfold qw at h1 h3 ⊢
 omega
end
section
open Go.RowKit
open Hg (En Pl)
open Vd (RSet Vdt Vote Rec Quest Piece Ballot)
open Cn (Zo Cf)
variable {G : World} {L : ja}
structure JIn (q : Quest) (pol want fv : Int) (vs0 : List Vote) (x : Vote) : Prop where
 pok : pol = 1 ∨ pol = 2 ∨ (pol = 3 ∧ want = 1)
 wok : pol ≠ 3 → want = fv + 1
 num : 0 ≤ fv ∧ fv ≤ 100
 dec : zd pol want q vs0 = none
 nd : ((vs0 ++ [x]).map (·.up)).Nodup
 up : ∀ y ∈ vs0 ++ [x], 0 ≤ y.up ∧ y.up < 9
 len : vs0.length ≤ 60
 qok : QOk q
 ends : ∀ y ∈ vs0 ++ [x], EndOk q y.vd
 sm : ∀ y ∈ vs0 ++ [x], SmV y.vd
theorem acA {K : ja} {fv want : Int} (x : CaseT) (cx : List Value) (vv : Value) (vs0 : List Vote) (w : Vote) (ds : List Value) (d : Dd) (hKL : ∀ p ∈ K, p ∈ L) (hx : Jr L cx x) (hv : sliceR 5 (fun _ => voteR K) L [vv] (vs0 ++ [w])) (hd : zN L ds d) (hf : DSh d) (hj : JIn x.q (x.z.pol : Nat) want fv vs0 w) (hjd : adU (zd (x.z.pol : Nat) want x.q (vs0 ++ [w])) d) :
 Spec Tryz.prog G 22 #[.agg cx.toArray, .int .i64 fv, vv, .agg ds.toArray] L fun u M => u = .bool true ∧ M = L := by
 obtain ⟨vl, vz, rfl, hq, hz, hli, hcf, hnow⟩ := hx
 obtain ⟨_, hqn, hqk, hqc⟩ := hq
 obtain ⟨_, hzn, hzp, hzt⟩ := hz
 have hd0 := hd
 obtain ⟨y1, k1, y2, k2, y3, k3, y4, k4, y5, k5, y6, k6, rfl, hs, hg, hvd, hag, hdi⟩ := hd
 obtain ⟨va, vc, e1, hv⟩ := hv.val
 obtain rfl := (List.cons.inj e1).1
 have hlen : (vs0 ++ [w]).length = vs0.length + 1 := by simp
 have h60 := hj.len
 have hw : (vs0 ++ [w])[vs0.length]? = some w := by simp
 obtain ⟨b1, o1, C1, t1, f1, rfl, m1, cw, hcn, hcw, hcs⟩ := sliceR.at hv hw
 obtain ⟨a1, c1, a2, c2, rfl, hw1, hw2, hwc, hwt, hwu⟩ := voteR.vals hcw
 have hsub : ((((vs0 ++ [w]).length : Nat) : Int) - 1).toNat = vs0.length := by rw [hlen]; omega
 have hcs' : ∀ j v, ([.int .i64 w.up, .int .u8 w.vd.code, .slice a1 w.vd.sets.length c1, .slice a2 w.vd.soa.length c2, .int .u32 w.time] : List Value)[j]? = some v → C1[o1 + ((((vs0 ++ [w]).length : Nat) : Int) - 1).toNat * 5 + j]? = some v := by rw [hsub]; exact hcs
 have hwd : ∀ j u, ([.int .u8 w.vd.code, .slice a1 w.vd.sets.length c1, .slice a2 w.vd.soa.length c2] : List Value)[j]? = some u → ([.int .i64 w.up, .int .u8 w.vd.code, .slice a1 w.vd.sets.length c1, .slice a2 w.vd.soa.length c2, .int .u32 w.time] : List Value).toArray[0 + 1 + j]? = some u := fun j u hj =>
  match j, hj with
  | 0, hj => hj
  | 1, hj => hj
  | 2, hj => hj
 have hdd : ∀ j u, ([.int .u8 d.vd.code, .slice y3 d.vd.sets.length k3, .slice y4 d.vd.soa.length k4] : List Value)[j]? = some u → ([.slice y1 d.sends.length k1, .slice y2 d.gone.length k2, .bool d.over, .bool d.done, .int .u8 d.vd.code, .slice y3 d.vd.sets.length k3, .slice y4 d.vd.soa.length k4, .int .u32 d.time, .slice y5 d.agree.length k5, .slice y6 d.dissent.length k6] : List Value).toArray[0 + 4 + j]? = some u := fun j u hj =>
  match j, hj with
  | 0, hj => hj
  | 1, hj => hj
  | 2, hj => hj
 have hvw : vdR K [.int .u8 w.vd.code, .slice a1 w.vd.sets.length c1, .slice a2 w.vd.soa.length c2] w.vd := ⟨_, _, rfl, hw1, hw2, hwc⟩
 refine jl (n := 186) Tryz.func22 rfl rfl rfl ?_
 repeat (first | refine goU ?_ | (refine kD ?_; intro bB))
 obtain ⟨bD, hbD⟩ : ∃ b, bB = b := ⟨_, rfl⟩
 rw [hbD]
 clear hbD
 rename_i bC
 refine jy (jA [.int .i64 w.up, .int .u8 w.vd.code, .slice a1 w.vd.sets.length c1, .slice a2 w.vd.soa.length c2, .int .u32 w.time] rfl stL yy hcs') rfl ?_
 repeat (first | refine goU ?_ | (refine jQ ?_; intro bW))
 have hpol := hj.pok
 have hnum := hj.num
 by_cases h3 : x.z.pol = 3
 · have hw1' : want = 1 := by omega
   have hnil : vs0 = [] := by
    have := hj.dec
    unfold zd at this
    rw [if_neg jd, hw1'] at this
    split at this
    · exact List.eq_nil_of_length_eq_zero jd
    · rw [if_neg jd] at this
      split at this
      · cases this
      · rename_i h0 _ h1
        rw [List.getElem?_eq_none_iff] at h1
        exact List.eq_nil_of_length_eq_zero jd
   have hdv : zd (x.z.pol : Nat) want x.q (vs0 ++ [w]) = some (w.vd, w.time, [], []) := by
    rw [hnil]
    unfold zd
    rw [if_neg jd, if_neg (by show ¬ ((1 : Nat) : Int) < want; omega), if_neg jd]
    rfl
   rw [hdv] at hjd
   obtain ⟨j1, j2, j3, j4, j5, j6⟩ := hjd
   have j5' : d.agree.length = 0 := by rw [j5]; rfl
   have j6' : d.dissent.length = 0 := by rw [j6]; rfl
   refine goU ?_
   refine jI (jA [.int .u8 d.vd.code, .slice y3 d.vd.sets.length k3, .slice y4 d.vd.soa.length k4] rfl stL yy hdd) rfl ?_
   refine goU ?_
   refine jI (jA [.int .u8 w.vd.code, .slice a1 w.vd.sets.length c1, .slice a2 w.vd.soa.length c2] rfl stL yy hwd) rfl ?_
   refine goU ?_
   refine zC (uY _ _ d.vd w.vd (jY _ _ _ _ jn hvd) (jY _ _ _ _ (fun p hp => (jn) p (hKL p hp)) hvw)) ?_
   rw [decide_eq_true j3]
   refine goU ?_
   exact qV 8 rfl rfl ⟨congrArg Value.bool (eT jd), rfl⟩ j8
 by_cases h2 : x.z.pol = 2
 · have hwf := hj.wok jd
   refine goU ?_
   have hfq : ∀ j u, ([.string (bs x.q.name), .int .u16 x.q.kind, .int .u16 x.q.cls] : List Value)[j]? = some u → (u4 x vl vz).toArray[0 + 0 + j]? = some u := fun j u hj => by
    match j, hj with
    | 0, hj => exact hj
    | 1, hj => exact hj
    | 2, hj => exact hj
   refine jy (jA [.string (bs x.q.name), .int .u16 x.q.kind, .int .u16 x.q.cls] rfl stL yy hfq) rfl ?_
   refine goU ?_
   have hne : (vs0 ++ [w]) ≠ [] := by simp
   have hus : zL x.q (vs0 ++ [w]) = Vd.union x.q (vs0 ++ [w]) := QP x.q _ (fun y hy => (hj.ends y hy).some)
   refine W1 (WL (K := K) _ x.q (vs0 ++ [w]) ?_ hj.qok.name hqk hqc (jq (fun _ _ _ _ _ h => h) _ _ _ _ ?_ hv) jd (fun y hy => (hj.ends y hy).few) hj.sm) ?_
   · exact fun p hp => (jn) p (hKL p hp)
   · exact jn
   rw [hus]
   rintro _ _ ⟨ua, uc, UB, ua2, uc2, UB2, UN, rfl, hU1, hU2, hUN, rfl⟩
   repeat (first | refine goV ?_ | (refine jQ ?_; intro bU))
   refine Q5 rfl rfl stO aax rfl rfl rfl ?_
   have hcodes : ∀ y ∈ vs0 ++ [w], 0 ≤ y.vd.code ∧ y.vd.code ≤ 255 := fun y hy => by
    obtain ⟨i, hi⟩ := List.mem_iff_getElem?.1 hy
    obtain ⟨_, _, _, _, _, _, _, cy, _, hcy, _⟩ := sliceR.at hv hi
    obtain ⟨_, _, _, _, _, _, _, hc, _⟩ := voteR.vals hcy
    exact hc
   have huc := QW (q := x.q) hcodes
   by_cases hlt : ((vs0 ++ [w]).length : Int) < fv + 1
   · have hdv : zd (x.z.pol : Nat) want x.q (vs0 ++ [w]) = none := by
      unfold zd
      rw [if_neg jd, if_pos (by rw [hwf]; exact hlt)]
     rw [hdv] at hjd
     have hjd' : d.done = false := hjd
     refine goU ?_
     exact qV 8 rfl rfl ⟨congrArg Value.bool (xT hjd'), rfl⟩ j8
   · have hdv : zd (x.z.pol : Nat) want x.q (vs0 ++ [w]) = some ((Vd.union x.q (vs0 ++ [w])).1, (Vd.union x.q (vs0 ++ [w])).2.1, [], []) := by
      unfold zd
      rw [if_neg jd, if_neg (by rw [hwf]; exact hlt), if_pos jd]
     rw [hdv] at hjd
     obtain ⟨j1, j2, j3, j4, j5, j6⟩ := hjd
     have j5' : d.agree.length = 0 := by rw [j5]; rfl
     have j6' : d.dissent.length = 0 := by rw [j6]; rfl
     have hvu : vdR (UB2 ++ (UB ++ UN)) [.int .u8 (Vd.union x.q (vs0 ++ [w])).1.code, .slice ua (Vd.union x.q (vs0 ++ [w])).1.sets.length uc, .slice ua2 (Vd.union x.q (vs0 ++ [w])).1.soa.length uc2] (Vd.union x.q (vs0 ++ [w])).1 := ⟨_, _, rfl, hU1.sliceR jv jn jn, hU2.sliceR jv jn jn, huc⟩
     refine goU ?_
     refine jI (jA [.int .u8 d.vd.code, .slice y3 d.vd.sets.length k3, .slice y4 d.vd.soa.length k4] rfl stL yy hdd) rfl ?_
     refine goU ?_
     refine zC (uY _ _ d.vd (Vd.union x.q (vs0 ++ [w])).1 (jY _ _ _ _ jn hvd) (jY _ _ _ _ jn hvu)) ?_
     rw [decide_eq_true j3]
     refine goU ?_
     exact qV 8 rfl rfl ⟨congrArg Value.bool (eT jd), rfl⟩ j8
 have h1 : x.z.pol = 1 := by omega
 have hwf := hj.wok jd
 obtain ⟨V, hV⟩ : ∃ V, V = vs0 ++ [w] := ⟨_, rfl⟩
 have hVl : V.length = vs0.length + 1 := by rw [hV]; exact hlen
 have hVu : ∀ y ∈ V, 0 ≤ y.up ∧ y.up < 9 := by rw [hV]; exact hj.up
 have hwh : 0 ≤ w.time ∧ w.time ≤ 4294967295 := hwt
 rw [← hV] at hv hcs' hsub hjd ⊢
 refine goU ?_
 refine jz (σ := Nat × (Option Addr × Nat × ja) × (Option Addr × Nat × ja)) (fun s => s.1 ≤ 9 ∧ ORow (uz .i64) 3 1 L s.2.1.1 s.2.1.2.1 ((qW s.1 (jH V w.vd)).map (·.up)) s.2.1.2.2 ∧ ORow (uz .i64) 3 1 L s.2.2.1 s.2.2.2.1 ((qW s.1 (qw V w.vd)).map (·.up)) s.2.2.2.2)
  (fun s => [(1, .int .i64 fv), (2, .slice (some ⟨b1, o1, none⟩) V.length vc), (7, .pointer (some ⟨bD, 0, none⟩)), (9, .pointer (some ⟨bW, 0, none⟩)), (13, .slice s.2.1.1 ((qW s.1 (jH V w.vd)).map (·.up)).length s.2.1.2.1), (14, .slice s.2.2.1 ((qW s.1 (qw V w.vd)).map (·.up)).length s.2.2.2.1), (15, .int .u32 (Uj (qW s.1 (jH V w.vd)) w.time)), (16, .int .i64 (s.1 : Nat))])
  (fun s => (bD, Obj.cells _ 43 (0, 0)) :: (bW, Obj.cells _ 65 (0, 0)) :: (s.2.1.2.2 ++ (s.2.2.2.2 ++ L))) (fun s => 9 - s.1) (0, (none, 0, []), (none, 0, [])) ⟨by omega, ORow.nil _, ORow.nil _⟩ ?_ (Fits.heap j8) ?_
 · exact js
 rintro ⟨u, ⟨aA, cA, BA⟩, ⟨aB, cB, BB⟩⟩ ⟨hu, hA, hB⟩
 dsimp only at hu hA hB ⊢
 by_cases hlt : u < 9
 · refine goU ?_
   have hA0 : ORow (uz .i64) 3 1 L aA cA ((Af V w.vd u 0).map (·.up)) BA := by rw [ZD]; exact hA
   have hB0 : ORow (uz .i64) 3 1 L aB cB ((Bf V w.vd u 0).map (·.up)) BB := by rw [ZE]; exact hB
   rw [← ZD, ← ZE]
   refine jz (σ := Nat × (Option Addr × Nat × ja) × (Option Addr × Nat × ja)) (fun s => s.1 ≤ V.length ∧ ORow (uz .i64) 3 1 L s.2.1.1 s.2.1.2.1 ((Af V w.vd u s.1).map (·.up)) s.2.1.2.2 ∧ ORow (uz .i64) 3 1 L s.2.2.1 s.2.2.2.1 ((Bf V w.vd u s.1).map (·.up)) s.2.2.2.2)
    (fun s => [(1, .int .i64 fv), (2, .slice (some ⟨b1, o1, none⟩) V.length vc), (7, .pointer (some ⟨bD, 0, none⟩)), (9, .pointer (some ⟨bW, 0, none⟩)), (13, .slice s.2.1.1 ((Af V w.vd u s.1).map (·.up)).length s.2.1.2.1), (14, .slice s.2.2.1 ((Bf V w.vd u s.1).map (·.up)).length s.2.2.2.1), (15, .int .u32 (Uj (Af V w.vd u s.1) w.time)), (16, .int .i64 (u : Nat)), (17, .int .i64 (s.1 : Nat))])
    (fun s => (bD, Obj.cells _ 43 (0, 0)) :: (bW, Obj.cells _ 65 (0, 0)) :: (s.2.1.2.2 ++ (s.2.2.2.2 ++ L))) (fun s => V.length - s.1) (0, (aA, cA, BA), (aB, cB, BB)) ⟨Nat.zero_le _, hA0, hB0⟩ ?_ (fun w h => h) ?_
   · exact js
   rintro ⟨k, ⟨aA, cA, BA⟩, ⟨aB, cB, BB⟩⟩ ⟨hk, hA, hB⟩
   dsimp only at hk hA hB ⊢
   by_cases hlk : k < V.length
   · obtain ⟨y, hy⟩ : ∃ y, V[k]? = some y := ⟨_, List.getElem?_eq_getElem hlk⟩
     obtain ⟨b2, o2, C2, t2, f2, e2, m2, cy, hyn, hcy, hys⟩ := sliceR.at hv hy
     obtain ⟨e3, e4⟩ : b1 = b2 ∧ o1 = o2 := by cases e2; exact ⟨rfl, rfl⟩
     subst e3 e4
     obtain ⟨p1, r1, p2, r2, rfl, hy1, hy2, hyc, hyt, hyu⟩ := voteR.vals hcy
     have yu : C2[o1 + k * 5 + 0]? = some (.int .i64 y.up) := hys 0 _ rfl
     have yt : C2[o1 + k * 5 + 2]? = some (.slice p1 y.vd.sets.length r1) := hys 2 _ rfl
     have ytt : C2[o1 + k * 5 + 4]? = some (.int .u32 y.time) := hys 4 _ rfl
     have hyd : ∀ j u, ([.int .u8 y.vd.code, .slice p1 y.vd.sets.length r1, .slice p2 y.vd.soa.length r2] : List Value)[j]? = some u → C2[o1 + k * 5 + 1 + j]? = some u := fun j u hj =>
      match j, hj with
      | 0, hj => hys 1 _ hj
      | 1, hj => hys 2 _ hj
      | 2, hj => hys 3 _ hj
     have hvy : vdR K [.int .u8 y.vd.code, .slice p1 y.vd.sets.length r1, .slice p2 y.vd.soa.length r2] y.vd := ⟨_, _, rfl, hy1, hy2, hyc⟩
     have sA := ad4 (v := w.vd) (u := u) hy
     have sB := ad5 (v := w.vd) (u := u) hy
     have lA := ae3 V w.vd u k
     have lB := ae4 V w.vd u k
     have lA' : ((Af V w.vd u k).map (·.up)).length ≤ 200 := by rw [List.length_map]; omega
     have lB' : ((Bf V w.vd u k).map (·.up)).length ≤ 200 := by rw [List.length_map]; omega
     by_cases hup : y.up = u
     · refine goU ?_
       refine K5 jc ?_
       refine drR ?_
       refine tkL rfl rfl je (jF (jA [.int .u8 y.vd.code, .slice p1 y.vd.sets.length r1, .slice p2 y.vd.soa.length r2] rfl stL yy hyd)) (fun p h => h) ?_
       refine drR ?_
       refine tkL rfl rfl je (jF (jA [.int .u8 w.vd.code, .slice a1 w.vd.sets.length c1, .slice a2 w.vd.soa.length c2] rfl stL yy hwd)) (fun p h => h) ?_
       refine aeh 7 (uY _ _ y.vd w.vd (jY _ _ _ _ ?_ hvy) (jY _ _ _ _ ?_ hvw)) ?_
       · exact fun p hp => (jn) p (hKL p hp)
       · exact fun p hp => (jn) p (hKL p hp)
       rintro _ _ ⟨rfl, rfl⟩
       refine ⟨fun p h => h, acm ?_⟩
       by_cases hsv : y.vd = w.vd
       · rw [if_pos ⟨hsv, hup⟩] at sA
         rw [if_neg (fun h => h.1 hsv), List.append_nil] at sB
         have sT : Uj (Af V w.vd u (k + 1)) w.time = min (Uj (Af V w.vd u k) w.time) y.time := by rw [sA]; unfold Uj; rw [List.foldl_append]; rfl
         have sAm : (Af V w.vd u (k + 1)).map (·.up) = (Af V w.vd u k).map (·.up) ++ [(u : Int)] := by rw [sA, List.map_append, ← hup]; rfl
         rw [decide_eq_true hsv]
         repeat (first | refine goU ?_ | (refine qh ?_; intro bL))
         refine acl (u : Int) hA ⟨rfl, ?_⟩ ?_
         · unfold kJ Lit.wf; simp [IntKind.min, IntKind.max, IntKind.bits, IntKind.signed]; omega
         intro a' c' B' hA'
         refine goU ?_
         rw [← sAm] at hA' ⊢
         rw [← sT]
         exact jg (k + 1, (a', c', B'), (aB, cB, BB)) ⟨hlk, hA', by rw [sB]; exact hB⟩ (by rw [sB]; exact js) (Fits.heap j8) (by dsimp only; omega)
       · rw [if_neg (fun h => hsv h.1), List.append_nil] at sA
         rw [if_pos ⟨hsv, hup⟩] at sB
         have sBm : (Bf V w.vd u (k + 1)).map (·.up) = (Bf V w.vd u k).map (·.up) ++ [(u : Int)] := by rw [sB, List.map_append, ← hup]; rfl
         rw [decide_eq_false hsv]
         repeat (first | refine goU ?_ | (refine qh ?_; intro bL))
         refine acl (u : Int) hB ⟨rfl, ?_⟩ ?_
         · unfold kJ Lit.wf; simp [IntKind.min, IntKind.max, IntKind.bits, IntKind.signed]; omega
         intro a' c' B' hB'
         refine goU ?_
         rw [← sBm] at hB' ⊢
         exact jg (k + 1, (aA, cA, BA), (a', c', B')) ⟨hlk, by rw [sA]; exact hA, hB'⟩ (by rw [sA]; exact js) (Fits.heap j8) (by dsimp only; omega)
     · rw [if_neg (fun h => hup h.2), List.append_nil] at sA sB
       refine goU ?_
       exact jg (k + 1, (aA, cA, BA), (aB, cB, BB)) ⟨hlk, by rw [sA]; exact hA, by rw [sB]; exact hB⟩ (by rw [sA, sB]; exact js) (fun w h => h) (by dsimp only; omega)
   · have hkl : k = V.length := by omega
     subst hkl
     rw [ae1] at hA ⊢
     rw [ae2] at hB ⊢
     refine goU ?_
     exact jg (u + 1, (aA, cA, BA), (aB, cB, BB)) ⟨hlt, hA, hB⟩ js (Fits.heap j8) (by dsimp only; omega)
 · have hu9 : u = 9 := by omega
   subst hu9
   have hp1 : ((x.z.pol : Nat) : Int) = 1 := by omega
   have hdec0 := hj.dec
   rw [hp1] at hjd hdec0
   have hwon := acz (w := w) hdec0
   rw [← hV] at hwon
   rw [hwon] at hjd
   have hS : ∀ y ∈ jH V w.vd, 0 ≤ y.up ∧ y.up < 9 := fun y hy => hVu y (List.mem_filter.1 hy).1
   have hSp := aaI hS
   have hSl : ((qW 9 (jH V w.vd)).map (·.up)).length = (jH V w.vd).length := by rw [List.length_map]; exact hSp.length_eq
   have hSle : (jH V w.vd).length ≤ V.length := List.length_filter_le _ _
   have hDl : ((qW 9 (qw V w.vd)).map (·.up)).length ≤ V.length := by rw [List.length_map]; exact Nat.le_trans (Q8 9 _) (List.length_filter_le _ _)
   by_cases hc : want ≤ ((jH V w.vd).length : Int)
   · rw [if_pos hc] at hjd
     obtain ⟨j1, j2, j3, j4, j5, j6⟩ := hjd
     rw [aaH] at j5 j6
     rw [← aaJ hSp] at j4
     refine goU ?_
     refine jI (jA [.int .u8 d.vd.code, .slice y3 d.vd.sets.length k3, .slice y4 d.vd.soa.length k4] rfl stL yy hdd) rfl ?_
     refine goU ?_
     refine jI (jA [.int .u8 w.vd.code, .slice a1 w.vd.sets.length c1, .slice a2 w.vd.soa.length c2] rfl stL yy hwd) rfl ?_
     refine goU ?_
     refine zC (uY _ _ d.vd w.vd (jY _ _ _ _ jn hvd) (jY _ _ _ _ (fun p hp => (jn) p (hKL p hp)) hvw)) ?_
     rw [decide_eq_true j3]
     refine goU ?_
     refine zC (JL _ _ d.agree ((qW 9 (jH V w.vd)).map (·.up)) (hag.mono jn) (Jm (hA.sliceR (yM _) jn jn)) (by rw [j5]; omega)) ?_
     rw [show (d.agree == (qW 9 (jH V w.vd)).map (·.up)) = true from beq_iff_eq.2 j5]
     refine goU ?_
     refine zC (JL _ _ d.dissent ((qW 9 (qw V w.vd)).map (·.up)) (hdi.mono jn) (Jm (hB.sliceR (yM _) jn jn)) (by rw [j6]; omega)) ?_
     rw [show (d.dissent == (qW 9 (qw V w.vd)).map (·.up)) = true from beq_iff_eq.2 j6]
     refine goU ?_
     exact qV 8 rfl rfl ⟨rfl, rfl⟩ j8
   · rw [if_neg hc] at hjd
     have hjd' : d.done = false := hjd
     refine goU ?_
     exact qV 8 rfl rfl ⟨congrArg Value.bool (xT hjd'), rfl⟩ j8
end
section
open Go.RowKit
open Hg (En Pl)
open Vd (RSet Vdt Vote Rec Quest Piece Ballot)
open Cn (Zo Cf)
theorem BI.new {q : Quest} {z : Zo} {l : List Int} {c : Cf} {now : Int} (h : NewIn q z l c now) (hq : QOk q) :
 DIn (Aq.own z.pol z.tru l) (Aq.new1 q z l c now).2 ∧ BI (Aq.own z.pol z.tru l) (qp (fun _ => 0) (Aq.new1 q z l c now).2) [] (Aq.new1 q z l c now).1 := by
 obtain ⟨n1, n2, n3, n4, n5, n6⟩ := uw h.may
 obtain ⟨o1, o2, o3⟩ := JP (pol := z.pol) (tru := z.tru) h.dist n1.2
 have hf := Fr.mk (Aq.own z.pol z.tru l) (Aq.wantOf c z.pol) c.hdg c.wai c.tri now
 have hu := ZB (Aq.own z.pol z.tru l) (Aq.wantOf c z.pol) c.hdg c.wai c.tri now
 have hn : (jT (Hg.mk (Aq.own z.pol z.tru l) (Aq.wantOf c z.pol) c.hdg c.wai c.tri now)).Nodup := by rw [hu]; exact o2
 have s1 := Stp.begin' hf hn
 have hw := (qu h hq).ok
 refine ⟨K6 hw.fr o2 (s1.ups.trans hu) ⟨fun u hm => by rw [← hu]; exact s1.inS u hm, fun u hm => absurd hm (by simp [Dd.none])⟩, ?_⟩
 refine BI.look (p0 := Hg.mk (Aq.own z.pol z.tru l) (Aq.wantOf c z.pol) c.hdg c.wai c.tri now) (a := Aq.new0 q z l c now) (d := { Dd.none with sends := (Hg.begin' (Hg.mk (Aq.own z.pol z.tru l) (Aq.wantOf c z.pol) c.hdg c.wai c.tri now)).2 }) hw.fr hf o2 hu s1 (fun u => ?_) rfl (fun b hb => by cases hb) rfl rfl rfl hw
 have : kW (Hg.mk (Aq.own z.pol z.tru l) (Aq.wantOf c z.pol) c.hdg c.wai c.tri now) u = false := by
  unfold kW
  rw [List.any_eq_false]
  intro x hx
  simp only [Hg.mk, List.mem_map] at hx
  obtain ⟨v, _, rfl⟩ := hx
  simp [Hg.isIt, Hg.fresh]
 rw [this]
 rfl
structure AKp (a b : As) : Prop where
 q : b.q = a.q
 pol : b.pol = a.pol
 want : b.want = a.want
theorem Jt {a : As} {d : Dd} (h : AOk a) : AKp a (Aq.look a d).1 := by
 obtain ⟨_, k1, _, k3, k4, _⟩ := jW (d := d) h
 exact ⟨k1, k3, k4⟩
theorem ad6 {a : As} (h : AOk a) (t : Int) : AKp a (Aq.tick a t).1 := by
 unfold Aq.tick
 split
 · exact ⟨rfl, rfl, rfl⟩
 · split
   · exact ⟨rfl, rfl, rfl⟩
   · have k := Jt (d := { Dd.none with sends := (Hg.tick a.p (Aq.upto a t).now).2.2, gone := (Hg.tick a.p (Aq.upto a t).now).2.1 }) (a := { (Aq.upto a t) with p := (Hg.tick a.p (Aq.upto a t).now).1 }) ((h.upto t).tick _)
     exact ⟨k.q, k.pol, k.want⟩
theorem ad7 {a : As} (h : AOk a) (u t : Int) : AKp a (Aq.pass a u t).1 := by
 unfold Aq.pass
 split
 · exact ⟨rfl, rfl, rfl⟩
 · split
   · have k := Jt (d := Dd.none) (AOk.put (a := Aq.upto { a with p := (Hg.close a.p u).1 } t) ((h.close u).upto t) ⟨⟨u, Vdt.none, 0⟩, true⟩)
     exact ⟨k.q, k.pol, k.want⟩
   · exact ⟨rfl, rfl, rfl⟩
theorem ad8 {a : As} (h : AOk a) (u : Int) (v : Vdt) (t now : Int) : AKp a (Aq.vote a u v t now).1 := by
 unfold Aq.vote
 split
 · exact ⟨rfl, rfl, rfl⟩
 · split
   · have k := Jt (d := Dd.none) (AOk.put (a := Aq.upto { a with p := (Hg.close a.p u).1 } now) ((h.close u).upto now) ⟨⟨u, v, t⟩, false⟩)
     exact ⟨k.q, k.pol, k.want⟩
   · exact ⟨rfl, rfl, rfl⟩
structure BeI (us : List Int) (x : CaseT) (f : Int → Int) (vs : List Vote) (a : As) (t : Int) : Prop where
 well : AWell a
 q : a.q = x.q
 pol : a.pol = (x.z.pol : Nat)
 want : a.want = Aq.wantOf x.c x.z.pol
 bi : a.over = false → BI us f vs a
 sm : ∀ y ∈ vs, EndOk x.q y.vd ∧ SmV y.vd
 clk : 0 ≤ t
theorem BeI.tick {us : List Int} {x : CaseT} {f : Int → Int} {vs : List Vote} {a : As} {t : Int} (h : BeI us x f vs a t) (hn : us.Nodup) (ho : a.over = false) : (Aq.tick a (t + 1)).2.done = false ∧ DIn us (Aq.tick a (t + 1)).2 ∧ BeI us x (qp f (Aq.tick a (t + 1)).2) vs (Aq.tick a (t + 1)).1 (t + 1) := by
 have hb := h.bi ho
 have k := ad6 h.well.ok (t + 1)
 obtain ⟨b1, b2⟩ := hb.tick hn h.well.ok ho (t + 1)
 exact ⟨b1, ad1 hn hb.ups h.well.ok (t + 1), ⟨h.well.tick, k.q.trans h.q, k.pol.trans h.pol, k.want.trans h.want, b2, h.sm, by have := h.clk; omega⟩⟩
theorem BeI.pass {us : List Int} {x : CaseT} {f : Int → Int} {vs : List Vote} {a : As} {t : Int} (h : BeI us x f vs a t) (hn : us.Nodup) (ho : a.over = false) (u : Int) : (Aq.pass a u t).2.done = false ∧ DIn us (Aq.pass a u t).2 ∧ BeI us x (zz (qp f (Aq.pass a u t).2) u 0) vs (Aq.pass a u t).1 t := by
 have hb := h.bi ho
 have k := ad7 h.well.ok u t
 obtain ⟨b1, b2⟩ := hb.pass hn h.well.ok ho u t
 exact ⟨b1, ad2 hn hb.ups h.well.ok u t, ⟨h.well.pass, k.q.trans h.q, k.pol.trans h.pol, k.want.trans h.want, b2, h.sm, h.clk⟩⟩
theorem BI.new_up {us : List Int} {f : Int → Int} {vs : List Vote} {a : As} (h : BI us f vs a) (hn : us.Nodup) (ha : AOk a) {u : Int} (hu : f u ≠ 0) {v : Vdt} {t : Int} : ((vs ++ [(⟨u, v, t⟩ : Vote)]).map (fun y : Vote => y.up)).Nodup ∧ ∀ y ∈ vs, 0 ≤ y.up ∧ y.up < 9 := by
 have hnp : (jT a.p).Nodup := by rw [h.ups]; exact hn
 have hop : kW a.p u = true := by
  have := h.opens u
  cases hc : kW a.p u with
  | true => rfl
  | false => rw [hc] at this; exact absurd this hu
 have hin : ∀ y ∈ vs, ∃ b ∈ a.l, b.v = y := fun y hy => by
  rw [← h.votes] at hy
  unfold Aq.votes Vd.votesB at hy
  obtain ⟨b, hb, rfl⟩ := List.mem_map.1 hy
  exact ⟨b, (List.mem_filter.1 hb).1, rfl⟩
 refine ⟨?_, fun y hy => ?_⟩
 · rw [List.map_append, List.nodup_append]
   refine ⟨?_, by simp, fun p hp q hq => ?_⟩
   · rw [← h.votes]
     unfold Aq.votes Vd.votesB
     rw [List.map_map]
     exact (ha.box.nd).sublist ((List.filter_sublist).map _)
   · intro e
     simp only [List.map_cons, List.map_nil, List.mem_singleton] at hq
     obtain ⟨y, hy, rfl⟩ := List.mem_map.1 hp
     obtain ⟨b, hb, rfl⟩ := hin y hy
     obtain ⟨z, hz, e1, e2⟩ := h.shut b hb
     have : z.up = u := by rw [e1, e, hq]
     subst this
     rw [zu hnp hz] at hop
     have := ((Q0 ha.fr hz).1 hop).2
     rw [e2] at this
     cases this
 · obtain ⟨b, hb, rfl⟩ := hin y hy
   exact ha.box.up b hb
structure StB where
 i : Nat
 a : As
 X : ja
 om : Obj
 f : Int → Int
 vs : List Vote
 av : Option Addr
 cv : Nat
 BV : ja
 now : Int
variable {G : World} {L : ja}
theorem Uk (cx : List Value) (x : CaseT) (v : Value) (l : List TurnT) (hx : Jr L cx x) (hl : sliceR 7 UY L [v] l) : Spec Tryz.prog G 4 #[.agg cx.toArray, v] L fun u M => u = .bool true ∧ M = L := by
 have hx0 := hx
 obtain ⟨vl, vz, rfl, hq, hz, hli, hcf, hnow⟩ := hx
 obtain ⟨_, hqn, hqk, hqc⟩ := hq
 obtain ⟨_, hzn, hzp, hzt⟩ := hz
 obtain ⟨vz', e1, hzs, hci⟩ := hcf
 obtain rfl : vz' = vz := by simpa [jo] using e1.symm
 obtain ⟨la, lc, e2, hli⟩ := hli.val
 obtain rfl := (List.cons.inj e2).1
 obtain ⟨aa, ac, e4, hl⟩ := hl.val
 obtain rfl := (List.cons.inj e4).1
 clear e1 e2 e4
 have hnw := W7 hnow
 have k3 := (sliceR.cut hl).2
 unfold maxLen at k3
 obtain ⟨k31, k32, _⟩ := k3
 refine jl (n := 185) Tryz.func4 rfl rfl rfl ?_
 refine j7 ?_
 refine jO (jP (kQ rfl) rfl ?_)
 intro bC
 obtain ⟨C0, hC0⟩ : ∃ C : Array Value, C = (u4 x (.slice la x.l.length lc) vz').toArray := ⟨_, rfl⟩
 rw [← hC0]
 have hC0s : C0.size = 21 := by rw [hC0]; rfl
 have hlong : ∀ M : ja, (∀ p ∈ L, p ∈ M) → Spec Tryz.prog G 7 #[.agg C0, .slice none 0 0] M fun u N => ∃ b, u = .bool b ∧ N = M ∧ (b = false → CSm x ∧ ASm []) := fun M hM => by
  rw [hC0]
  exact acu _ x _ [] (UW _ _ _ _ hM hx0) sliceR.nil
 have haw : ∀ M : ja, Spec Tryz.prog G 9 #[] M fun u N => u = .bool true ∧ N = M := fun M => aaB
 have f6 : C0[0 + 6]? = some (.slice la x.l.length lc) := by rw [hC0]; rfl
 have f20 : C0[0 + 20]? = some (.int .i64 x.now) := by rw [hC0]; rfl
 have g4 : C0[0 + 3 + 1]? = some (.int .u8 (x.z.pol : Nat)) := by rw [hC0]; rfl
 have g5 : C0[0 + 3 + 2]? = some (.int .u16 (x.z.tru : Nat)) := by rw [hC0]; rfl
 have g8 : C0[0 + 7 + 1]? = some (.int .i64 x.c.ded) := by rw [hC0]; rfl
 have g11 : C0[0 + 7 + 4]? = some (.int .i64 x.c.tri) := by rw [hC0]; rfl
 have fq : ∀ j u, ([.string (bs x.q.name), .int .u16 x.q.kind, .int .u16 x.q.cls] : List Value)[j]? = some u → C0[0 + 0 + j]? = some u := fun j u hj => by
  rw [hC0]
  match j, hj with
  | 0, hj => exact hj
  | 1, hj => exact hj
  | 2, hj => exact hj
 have fz : ∀ j u, ([.string (bs x.z.name), .int .u8 (x.z.pol : Nat), .int .u16 (x.z.tru : Nat)] : List Value)[j]? = some u → C0[0 + 3 + j]? = some u := fun j u hj => by
  rw [hC0]
  match j, hj with
  | 0, hj => exact hj
  | 1, hj => exact hj
  | 2, hj => exact hj
 have fc : ∀ j u, (jo x.c vz')[j]? = some u → C0[0 + 7 + j]? = some u := fun j u hj => by
  rw [hC0]
  have hlt := (List.getElem?_eq_some_iff.1 hj).1
  have : j < 13 := hlt
  match j, hj with
  | 0, hj => exact hj
  | 1, hj => exact hj
  | 2, hj => exact hj
  | 3, hj => exact hj
  | 4, hj => exact hj
  | 5, hj => exact hj
  | 6, hj => exact hj
  | 7, hj => exact hj
  | 8, hj => exact hj
  | 9, hj => exact hj
  | 10, hj => exact hj
  | 11, hj => exact hj
  | 12, hj => exact hj
  | (j + 13), hj => exact absurd this jd
 have hcase : ∀ M : ja, (∀ p ∈ L, p ∈ M) → ∃ cx : List Value, C0 = cx.toArray ∧ Jr M cx x := fun M hM => ⟨_, hC0, UW _ _ _ _ hM hx0⟩
 clear hC0
 refine goU ?_
 refine W1 (hlong _ ?_) ?_
 · exact jn
 rintro _ _ ⟨b, rfl, rfl, hsm1⟩
 cases b with
 | true =>
   refine goU ?_
   refine Q4 (haw _) ?_
   refine goU ?_
   exact qV 4 rfl rfl ⟨rfl, rfl⟩ j8
 | false =>
 obtain ⟨hcsm, _⟩ := hsm1 rfl
 refine goU ?_
 refine aeg (adZ _ l (jq aaC _ _ _ _ ?_ hl)) ?_
 · exact jn
 rintro _ _ ⟨b, rfl, rfl, hsm2⟩
 cases b with
 | true =>
   refine goU ?_
   refine Q4 (haw _) ?_
   refine goU ?_
   exact qV 4 rfl rfl ⟨rfl, rfl⟩ j8
 | false =>
 have htsm := hsm2 rfl
 refine goU ?_
 refine zC (haw _) ?_
 refine goU ?_
 refine jy (jA [.string (bs x.q.name), .int .u16 x.q.kind, .int .u16 x.q.cls] rfl stL yy fq) rfl ?_
 refine goU ?_
 refine jy (jA [.string (bs x.z.name), .int .u8 (x.z.pol : Nat), .int .u16 (x.z.tru : Nat)] rfl stL yy fz) rfl ?_
 refine goU ?_
 refine jy (jA (jo x.c vz') rfl stL yy fc) rfl ?_
 refine goU ?_
 have hnew : ∀ M : ja, (∀ p ∈ L, p ∈ M) → Spec Tryz.prog G 10 #[.agg (kt x.q), .agg #[.string (bs x.z.name), .int .u8 (x.z.pol : Nat), .int .u16 (x.z.tru : Nat)], .slice la x.l.length lc, .agg (jo x.c vz').toArray, .int .i64 x.now] M (ab3 M (Aq.newE x.q x.z x.l x.c x.now) (Aq.new1 x.q x.z x.l x.c x.now)) := fun M hM =>
  ab4 x.q x.z _ vz' x.l x.c x.now (by have := hcsm.name; omega) hqk hqc ⟨hzp, hzt⟩ ((Jm hli).mono hM) (by have := hcsm.list; omega) ⟨jq Jo _ _ _ _ hM hzs, fun z hz => by have := hcsm.names z hz; omega⟩ hnw
 refine W1 (hnew _ ?_) ?_
 · exact jn
 by_cases he : Aq.newE x.q x.z x.l x.c x.now = 0
 rotate_left
 · rintro _ _ (⟨h0, _⟩ | ⟨_, rfl, rfl⟩)
   · exact absurd h0 he
   repeat (first | refine goU ?_ | (refine jQ ?_; intro bNew))
   exact qV 4 rfl rfl ⟨rfl, rfl⟩ j8
 have hin := (UO he).1
 have hqok : QOk x.q := ⟨by have := hcsm.name; omega, hqk, hqc, hin.name⟩
 obtain ⟨a0, ha0⟩ : ∃ a, a = (Aq.new1 x.q x.z x.l x.c x.now).1 := ⟨_, rfl⟩
 obtain ⟨d0, hd00⟩ : ∃ a, a = (Aq.new1 x.q x.z x.l x.c x.now).2 := ⟨_, rfl⟩
 have hw0 : AWell a0 := by rw [ha0]; exact JQ hin hqok
 have hsh0 := aeS hin hqok
 have hq0 : a0.q = x.q := by rw [ha0]; exact (jW (qu hin hqok).ok).2.1
 have hk0 := KR.new hin hqok
 have hdp := ad0 hin.may
 have hded0 : a0.ded = x.now + x.c.ded := by rw [ha0]; exact (jW (qu hin hqok).ok).2.2.2.2.2.1
 obtain ⟨n1, n2, n3, n4, n5, n6⟩ := uw hin.may
 obtain ⟨o1, o2, o3⟩ := JP (pol := x.z.pol) (tru := x.z.tru) hin.dist n1.2
 obtain ⟨us, hus⟩ : ∃ us, us = Aq.own x.z.pol x.z.tru x.l := ⟨_, rfl⟩
 rw [← hus] at o1 o2 hk0
 have hru : ∀ u ∈ us, 0 ≤ u ∧ u < 9 := fun u hm => by have := o1 u hm; omega
 rintro _ _ (⟨_, ap, cs0, X0, N0, rfl, hd0, hX0, rfl⟩ | ⟨h0, _⟩)
 rotate_left
 · exact absurd he h0
 rw [← ha0] at hX0 hk0
 rw [← hd00] at hd0 hk0 hsh0
 have hone0 := ue hd0
 repeat (first | refine goV ?_ | (refine jQ ?_; intro bD))
 refine Q5 rfl rfl stO aax rfl hone0.2 hone0.1 ?_
 by_cases hb2 : 549755813888 < x.now
 · refine goU ?_
   exact qV 4 rfl rfl ⟨rfl, rfl⟩ j8
 refine goU ?_
 refine jy (jA (jo x.c vz') rfl stL yy fc) rfl ?_
 refine Q4 (VI x.c vz' ⟨jq Jo _ _ _ _ jn hzs, fun z hz => by have := hcsm.names z hz; omega⟩) ?_
 refine goU ?_
 refine jP aco rfl ?_
 intro bm
 repeat (first | refine goU ?_ | (refine jQ ?_; intro pm))
 refine jy (aeT rfl) rfl ?_
 have hsz0 : cs0.toArray.size = 10 := hone0.2
 refine goU ?_
 have hnd : us.Nodup := hus ▸ o2
 have hu0 : jT a0.p = us := hk0.2.ups
 have hB0 := BI.new hin hqok
 rw [← hus, ← ha0, ← hd00] at hB0
 refine Zw (VM d0 cs0 (kV _ _ _ _ ?_ hd0) hsh0 hB0.1 hru MapO.nil jd) ?_
 · exact jn
 rintro _ _ ⟨rfl, om0, hom0, rfl⟩
 refine goU ?_
 have hE0 : BeI us x (qp (fun _ => 0) d0) [] a0 x.now := ⟨hw0, hq0, by rw [ha0]; exact (Jt (a := Aq.new0 x.q x.z x.l x.c x.now) (qu hin hqok).ok).pol, by rw [ha0]; exact (Jt (a := Aq.new0 x.q x.z x.l x.c x.now) (qu hin hqok).ok).want, fun _ => hB0.2, fun y hy => (by cases hy), hin.now.1⟩
 have htop : Hg.top = 1099511627776 := rfl
 have h60 := htsm.few
 refine jz (σ := StB) (fun s => s.i ≤ l.length ∧ BeI us x s.f s.vs s.a s.now ∧ yp ap s.a s.X ∧ MapO Tryz.prog 3 (2000 + s.i * 60000) s.f s.om ∧ ORow (fun _ => voteR L) 65 5 [] s.av s.cv s.vs s.BV ∧ s.vs.length ≤ s.i ∧ s.now ≤ x.now + 20 * s.i)
  (fun s => [(1, .slice aa l.length ac), (2, .pointer (some ⟨bC, 0, none⟩)), (5, .pointer (some ⟨ap, 0, none⟩)), (8, .int .i64 (Cn.liesP x.c)), (9, .slice s.av s.vs.length s.cv), (10, .pointer (some ⟨pm, 0, none⟩)), (11, .func (.func 20) #[] (([.pointer (some ⟨pm, 0, none⟩)] : List Value).toArray)), (12, .int .i64 s.now), (13, .int .i64 (s.i : Nat))])
  (fun s => MpM pm bm s.om ((bC, .cells C0 32 (0, 0)) :: (s.X ++ (s.BV ++ L)))) (fun s => l.length - s.i) ⟨0, a0, X0, om0, qp (fun _ => 0) d0, [], none, 0, [], x.now⟩ ⟨Nat.zero_le _, hE0, hX0, hom0.mono jd, ORow.nil _, Nat.zero_le _, by dsimp only; omega⟩ ?_ (Fits.heap j8) ?_
 · exact js
 rintro ⟨i, a, X, om, f, vs, av, cv, BV, now⟩ ⟨hi, hE, hX, hM, hR, hvl, hnb⟩
 dsimp only at hi hE hX hM hR hvl hnb ⊢
 by_cases hlt : i < l.length
 rotate_left
 · refine goU ?_
   exact qV 4 rfl rfl ⟨rfl, rfl⟩ j8
 cases ho : a.over with
 | true =>
   refine goU ?_
   refine zC (uH hX jn) ?_
   rw [ho]
   refine goU ?_
   exact qV 4 rfl rfl ⟨rfl, rfl⟩ j8
 | false =>
 obtain ⟨y, hy⟩ : ∃ y, l[i]? = some y := ⟨_, List.getElem?_eq_getElem hlt⟩
 obtain ⟨b1, o1', C1, t1, f1, rfl, m1, cs1, hn1, ⟨va, vb, rfl, hvd, h1, h2, h3⟩, hcs⟩ := sliceR.at hl hy
 obtain ⟨y1, z1, y2, z2, e5, _, _, _⟩ := hvd.vals
 simp only [List.cons.injEq, and_true, true_and] at e5
 obtain ⟨rfl, rfl⟩ := e5
 have l1 := adY h1
 have l2 := W7 h2
 have l3 := act h3
 have c0 : C1[o1' + i * 7 + 0]? = some (.int .u8 y.ticks) := hcs 0 _ rfl
 have c1 : C1[o1' + i * 7 + 1]? = some (.int .i64 y.up) := hcs 1 _ rfl
 have c2 : C1[o1' + i * 7 + 2]? = some (.bool y.pass) := hcs 2 _ rfl
 have c4 : C1[o1' + i * 7 + 4 + 2]? = some (.int .u32 y.t) := hcs 6 _ rfl
 have hm1 : 0 ≤ y.ticks % 20 ∧ y.ticks % 20 < 20 := ⟨Int.emod_nonneg _ (by decide), Int.emod_lt_of_pos _ (by decide)⟩
 refine goU ?_
 refine zC (uH hX jn) ?_
 rw [ho]
 refine goU ?_
 clear ho
 refine jz (σ := StB) (fun s => (s.i : Int) ≤ y.ticks % 20 ∧ BeI us x s.f vs s.a s.now ∧ yp ap s.a s.X ∧ MapO Tryz.prog 3 (2000 + i * 60000 + s.i * 2000) s.f s.om ∧ s.now ≤ x.now + 20 * i + s.i)
  (fun s => [(1, .slice (some ⟨b1, o1', none⟩) l.length ac), (2, .pointer (some ⟨bC, 0, none⟩)), (5, .pointer (some ⟨ap, 0, none⟩)), (8, .int .i64 (Cn.liesP x.c)), (9, .slice av vs.length cv), (10, .pointer (some ⟨pm, 0, none⟩)), (11, .func (.func 20) #[] (([.pointer (some ⟨pm, 0, none⟩)] : List Value).toArray)), (12, .int .i64 s.now), (13, .int .i64 (i : Nat)), (14, .int .i64 (s.i : Nat))])
  (fun s => MpM pm bm s.om ((bC, .cells C0 32 (0, 0)) :: (s.X ++ (BV ++ L)))) (fun s => 20 - s.i) ⟨0, a, X, om, f, [], none, 0, [], now⟩ ⟨by dsimp only; omega, hE, hX, hM.mono jd, by dsimp only; omega⟩ ?_ (fun w h => h) ?_
 · exact js
 rintro ⟨k, a, X, om, f, _, _, _, _, now⟩ ⟨hk, hE, hX, hM, hnb⟩
 dsimp only at hk hE hX hM hnb ⊢
 have hck := hE.clk
 by_cases hkl : (k : Int) < y.ticks % 20
 · cases ho : a.over with
   | true =>
     refine goU ?_
     refine zC (uH hX jn) ?_
     rw [ho]
     refine goU ?_
     refine Q4 (uH hX jn) ?_
     rw [ho]
     refine goU ?_
     exact qV 4 rfl rfl ⟨rfl, rfl⟩ j8
   | false =>
     obtain ⟨q1, q2, q3⟩ := hE.tick hnd ho
     refine goU ?_
     refine zC (uH hX jn) ?_
     rw [ho]
     refine goU ?_
     refine W1 (adM hX hE.well (now + 1)) ?_
     rintro _ _ ⟨cd, X2, N, rfl, hd, hX2, rfl⟩
     have hone := ue hd
     have hsz : cd.toArray.size = 10 := hone.2
     have hd' := hd
     obtain ⟨d1, d2, d3, d4, d5, d6, d7, d8, d9, d10, d11, d12, rfl, _⟩ := hd'
     repeat (first | refine goV ?_ | (refine jQ ?_; intro bD2))
     refine Q5 rfl rfl stO aax rfl hone.2 hone.1 ?_
     refine goU ?_
     refine Zw (VM (Aq.tick a (now + 1)).2 _ (kV _ _ _ _ ?_ hd) (adT hE.well.ok (now + 1)) q2 hru hM jd) ?_
     · exact jn
     rintro _ _ ⟨rfl, om2, hM2, rfl⟩
     refine goU ?_
     exact jg ⟨k + 1, (Aq.tick a (now + 1)).1, X2, om2, qp f (Aq.tick a (now + 1)).2, [], none, 0, [], now + 1⟩ ⟨by dsimp only; omega, q3, hX2, hM2.mono (by show 2000 + i * 60000 + k * 2000 + 2000 ≤ 2000 + i * 60000 + (k + 1) * 2000; omega), by dsimp only; omega⟩ js (Fits.heap j8) (by dsimp only; omega)
 · refine goU ?_
   refine Q4 (uH hX jn) ?_
   cases ho : a.over with
   | true =>
     refine goU ?_
     exact qV 4 rfl rfl ⟨rfl, rfl⟩ j8
   | false =>
   cases hp : y.pass with
   | true =>
     rw [hp] at c2
     obtain ⟨q1, q2, q3⟩ := hE.pass hnd ho y.up
     refine goU ?_
     refine W1 (Zs hX hE.well y.up now) ?_
     rintro _ _ ⟨cd, X2, N, rfl, hd, hX2, rfl⟩
     have hone := ue hd
     have hsz : cd.toArray.size = 10 := hone.2
     have hd' := hd
     obtain ⟨d1, d2, d3, d4, d5, d6, d7, d8, d9, d10, d11, d12, rfl, _⟩ := hd'
     repeat (first | refine goV ?_ | (refine jQ ?_; intro bD2))
     refine Q5 rfl rfl stO aax rfl hone.2 hone.1 ?_
     refine goU ?_
     refine Zw (VM (Aq.pass a y.up now).2 _ (kV _ _ _ _ ?_ hd) (adS hE.well.ok y.up now) q2 hru hM jd) ?_
     · exact jn
     rintro _ _ ⟨rfl, om2, hM2, rfl⟩
     refine goU ?_
     refine aei y.up 0 Tryz.underlying61 unO hM2 (by unfold maxLen; omega) jd ?_
     intro om3 hM3
     refine goU ?_
     exact jg ⟨i + 1, (Aq.pass a y.up now).1, X2, om3, zz (qp f (Aq.pass a y.up now).2) y.up 0, vs, av, cv, BV, now⟩ ⟨hlt, q3, hX2, (show MapO Tryz.prog 3 _ (zz (qp f (Aq.pass a y.up now).2) y.up 0) om3 from hM3).mono (by show 2000 + i * 60000 + k * 2000 + 2000 + 1 ≤ 2000 + (i + 1) * 60000; omega), hR, by dsimp only; omega, by dsimp only; omega⟩ js (Fits.heap j8) (by dsimp only; omega)
   | false =>
     rw [hp] at c2
     refine goU ?_
     have hver : ∀ j w, ([.int .u8 y.v.code, .slice y1 y.v.sets.length z1, .slice y2 y.v.soa.length z2] : List Value)[j]? = some w → C1[o1' + i * 7 + 3 + j]? = some w := fun j w hj =>
      match j, hj with
      | 0, hj => hcs 3 _ hj
      | 1, hj => hcs 4 _ hj
      | 2, hj => hcs 5 _ hj
     have hls := htsm.sets y (List.mem_of_getElem? hy)
     refine K5 jc ?_
     refine drR ?_
     refine tkL rfl rfl je (jF (jA [.string (bs x.q.name), .int .u16 x.q.kind, .int .u16 x.q.cls] rfl stL yy fq)) (fun p h => h) ?_
     refine drR ?_
     refine tkL rfl rfl je (jF (jA [.int .u8 y.v.code, .slice y1 y.v.sets.length z1, .slice y2 y.v.soa.length z2] rfl stL yy hver)) (fun p h => h) ?_
     refine aeh 7 (aeV x.q y.v _ (jY _ _ _ _ ?_ hvd) hqok.name hqk hqc hls.1 hls.2) ?_
     · exact jn
     rintro _ _ ⟨rfl, rfl⟩
     refine ⟨fun p h => h, ?_⟩
     refine tkQ 8 ?_
     refine tdQ ?_
     cases hreal : UU x.q y.v with
     | false =>
       refine goU ?_
       exact qV 4 rfl rfl ⟨rfl, rfl⟩ j8
     | true =>
     have hvok := adW hreal hls.1 hls.2
     refine goU ?_
     obtain ⟨a4, ha4⟩ : ∃ z, z = Aq.vote a y.up y.v y.t now := ⟨_, rfl⟩
     have hvs := adR hE.well.ok y.up y.v y.t now
     refine JG (σ := Nat × List Value × ja × ja) (fun s => zN s.2.2.2 s.2.1 a4.2 ∧ yp ap a4.1 s.2.2.1) (fun s => [(1, .slice (some ⟨b1, o1', none⟩) l.length ac), (2, .pointer (some ⟨bC, 0, none⟩)), (5, .pointer (some ⟨ap, 0, none⟩)), (8, .int .i64 (Cn.liesP x.c)), (9, .slice av vs.length cv), (10, .pointer (some ⟨pm, 0, none⟩)), (11, .func (.func 20) #[] (([.pointer (some ⟨pm, 0, none⟩)] : List Value).toArray)), (12, .int .i64 now), (13, .int .i64 (i : Nat)), (16, .int .i64 y.up), (18, .pointer (some ⟨s.1, 0, none⟩))]) (fun s => (s.1, .cells s.2.1.toArray 43 (0, 0)) :: MpM pm bm om ((bC, .cells C0 32 (0, 0)) :: (s.2.2.1 ++ (s.2.2.2 ++ (BV ++ L))))) ?_ ?_
     · have hK1 : ∀ p ∈ [(b1, Obj.cells C1 t1 f1)], p ∈ MpM pm bm om ((bC, .cells C0 32 (0, 0)) :: (X ++ (BV ++ L))) := (fun p hp => by rw [List.mem_singleton.1 hp]; simp [m1])
       have hspec : ∀ M : ja, (∀ p ∈ L, p ∈ M) → Spec Tryz.prog G 17 #[.pointer (some ⟨ap, 0, none⟩), .int .i64 y.up, .agg ([.int .u8 y.v.code, .slice y1 y.v.sets.length z1, .slice y2 y.v.soa.length z2] : List Value).toArray, .int .u32 y.t, .int .i64 now] (X ++ M) (VH (yp ap a4.1) M a4.2) := fun M hM => by
        rw [ha4]
        exact K4 hX hE.well y.up y.v y.t now _ (jY _ _ _ _ hM hvd) hvok.sm (fun _ _ => hE.q ▸ hvok.ends) l3 l2
       refine jw jc [(b1, Obj.cells C1 t1 f1)] [] ?_
       refine tkQ 0 ?_
       refine tkQ 1 ?_
       refine tkQ 2 ?_
       refine tkQ 3 ?_
       refine tkQ 4 ?_
       refine tkQ 5 ?_
       refine ju 6 rfl rfl je (jF (jA [.int .u8 y.v.code, .slice y1 y.v.sets.length z1, .slice y2 y.v.soa.length z2] rfl stL (List.mem_cons_self ..) hver)) hK1 ?_
       refine tkQ 7 ?_
       refine tkQ 8 ?_
       refine tkQ 9 ?_
       refine tkQ 10 ?_
       refine tkQ 11 ?_
       refine tkQ 12 ?_
       refine Vg 13 14 je ?_ ?_
       · refine yR rfl rfl rfl rfl (OpT.fits (jb je rfl (hspec (MpM pm bm om ((bC, .cells C0 32 (0, 0)) :: (BV ++ L))) jn)) j8) ?_
         rintro _ _ ⟨cd, X2, N, rfl, hd, hX2, rfl⟩
         refine ⟨Or.inr (fun p hp => by rw [List.mem_singleton.1 hp]; simp [m1]), ?_⟩
         refine jD 14 je rfl rfl rfl rfl (Jy zeO) ?_
         rintro _ _ ⟨b18, rfl, rfl⟩
         refine ⟨Or.inr (fun p hp => by rw [List.mem_singleton.1 hp]; simp [m1]), ?_⟩
         have hone := ue hd
         refine jU 15 je rfl rfl rfl (qn rfl rfl stO rfl hone.2 hone.1) ?_
         rintro _ _ ⟨_, rfl⟩
         refine ⟨Or.inr (fun p hp => by rw [List.mem_singleton.1 hp]; simp [m1]), ?_⟩
         refine tdQ ?_
         exact kS (b18, cd, X2, N) ⟨hd, hX2⟩ js (Fits.heap j8)
       · refine yR rfl rfl rfl rfl (Jy zeO) ?_
         rintro _ _ ⟨b18, rfl, rfl⟩
         refine ⟨Or.inr (fun p hp => by rw [List.mem_singleton.1 hp]; simp [m1]), ?_⟩
         refine jD 13 je rfl rfl rfl rfl (OpT.fits (jb je rfl (hspec ((b18, _) :: MpM pm bm om ((bC, .cells C0 32 (0, 0)) :: (BV ++ L))) jn)) j8) ?_
         rintro _ _ ⟨cd, X2, N, rfl, hd, hX2, rfl⟩
         refine ⟨Or.inr (fun p hp => by rw [List.mem_singleton.1 hp]; simp [m1]), ?_⟩
         have hone := ue hd
         refine jU 15 je rfl rfl rfl (OpT.fits (qn (L := X2 ++ (N ++ MpM pm bm om ((bC, .cells C0 32 (0, 0)) :: (BV ++ L)))) rfl rfl stO rfl hone.2 hone.1) j8) ?_
         rintro _ _ ⟨_, rfl⟩
         refine ⟨Or.inr (fun p hp => by rw [List.mem_singleton.1 hp]; simp [m1]), ?_⟩
         refine tdQ ?_
         exact kS (b18, cd, X2, N) ⟨hd, hX2⟩ js (Fits.heap j8)
     rintro ⟨b18, cd, X2, N⟩ ⟨hd, hX2⟩
     dsimp only at hd hX2 ⊢
     have hone := ue hd
     have hsz : cd.toArray.size = 10 := hone.2
     have hbi := hE.bi ho
     obtain ⟨w1, w2⟩ := hbi.vote hnd hru hE.well.ok ho y.up y.v y.t now
     have kp := ad8 hE.well.ok y.up y.v y.t now
     have hin4 := ad3 hnd hbi.ups hE.well.ok y.up y.v y.t now
     have hwell4 : AWell a4.1 := by rw [ha4]; exact hE.well.vote (fun _ _ => hE.q ▸ hvok.ends)
     rw [← ha4] at w1 w2 kp hin4 hvs
     refine goU ?_
     refine jy (acp Tryz.underlying61 unO zeO rfl rfl hM jd yy) rfl ?_
     by_cases hf0 : f y.up = 0
     · obtain ⟨v1, v2, v3⟩ := w1 hf0
       refine goU ?_
       refine Q4 (zr cd _ a4.2 Dd.none (kV _ _ _ _ jn hd) uu (DSh.few hvs)) ?_
       rw [decide_eq_true v1]
       refine goU ?_
       exact jg ⟨i + 1, a4.1, X2, om, f, vs, av, cv, BV, now⟩ ⟨hlt, ⟨hwell4, kp.q.trans hE.q, kp.pol.trans hE.pol, kp.want.trans hE.want, fun _ => v2, hE.sm, hE.clk⟩, hX2, hM.mono (by show 2000 + i * 60000 + k * 2000 ≤ 2000 + (i + 1) * 60000; omega), hR, by dsimp only; omega, by dsimp only; omega⟩ js (Fits.heap j8) (by dsimp only; omega)
     · obtain ⟨v1, v2, v3⟩ := w2 hf0
       refine goU ?_
       refine aei y.up 0 Tryz.underlying61 unO hM (by unfold maxLen; omega) jd ?_
       intro om3 hM3
       refine goU ?_
       obtain ⟨w, hw⟩ : ∃ w : Vote, w = ⟨y.up, y.v, y.t⟩ := ⟨_, rfl⟩
       have hvw : voteR L [.int .i64 y.up, .int .u8 y.v.code, .slice y1 y.v.sets.length z1, .slice y2 y.v.soa.length z2, .int .u32 y.t] w := by
        obtain ⟨_, _, e9, q1, q2, q3⟩ := hvd
        simp only [List.cons.injEq, and_true, true_and] at e9
        obtain ⟨rfl, rfl⟩ := e9
        rw [hw]
        exact ⟨_, _, rfl, q1, q2, q3, l3, l2⟩
       have hvl60 : vs.length ≤ 60 := by omega
       obtain ⟨nu1, nu2⟩ := hbi.new_up hnd hE.well.ok hf0 (v := y.v) (t := y.t)
       rw [← hw] at v1 v3 nu1
       have hK1 : ∀ M : ja, (∀ p ∈ L, p ∈ M) → ∀ p ∈ [(b1, Obj.cells C1 t1 f1)], p ∈ M := fun M hM p hp => by rw [List.mem_singleton.1 hp]; exact hM _ m1
       refine jw jc [(b1, Obj.cells C1 t1 f1)] [] ?_
       refine tkQ 0 (hK := hK1 _ jn) ?_
       refine tkQ 1 (hK := hK1 _ jn) ?_
       refine tkQ 2 (hK := hK1 _ jn) ?_
       refine tkQ 3 (hK := hK1 _ jn) ?_
       refine tkQ 4 (hK := hK1 _ jn) ?_
       refine tkQ 5 (hK := hK1 _ jn) ?_
       refine ju 6 rfl rfl je (jF (jA [.int .u8 y.v.code, .slice y1 y.v.sets.length z1, .slice y2 y.v.soa.length z2] rfl stL (List.mem_cons_self ..) hver)) (hK1 _ jn) ?_
       refine tkQ 7 (hK := hK1 _ jn) ?_
       refine tkQ 8 (hK := hK1 _ jn) ?_
       refine tkQ 9 (hK := hK1 _ jn) ?_
       refine tkQ 10 (hK := hK1 _ jn) ?_
       refine tkQ 11 (hK := hK1 _ jn) ?_
       refine ju 12 rfl rfl je (jF aa5) (hK1 _ jn) ?_
       refine jD 13 je rfl rfl rfl rfl (q9 (cs := [.int .i64 y.up, .int .u8 y.v.code, .slice y1 y.v.sets.length z1, .slice y2 y.v.soa.length z2, .int .u32 y.t]) etO rfl rfl (by decide)) ?_
       rintro _ _ ⟨bL, rfl, rfl⟩
       refine ⟨Or.inr (hK1 _ jn), ?_⟩
       refine jD 14 je rfl rfl rfl rfl (OpT.fits (qO (r := fun _ => voteR L) (y := w) etO rfl rfl hR rfl (by intro v hv; simp only [List.mem_cons, List.not_mem_nil, or_false] at hv; rcases hv with rfl | rfl | rfl | rfl | rfl <;> rfl) hvw (by unfold maxLen; omega) jd) j8) ?_
       rintro _ _ ⟨a', c', B', rfl, hR', rfl⟩
       refine ⟨Or.inr (hK1 _ jn), ?_⟩
       refine tkQ 15 (hK := hK1 _ jn) ?_
       refine tdQ ?_
       have hdecv : zd a.pol a.want a.q vs = none := by
        have := hbi.nodec ho
        rw [zv, hbi.votes] at this
        exact this
       have hjin : JIn x.q (x.z.pol : Nat) a.want (Cn.liesP x.c) vs w := by
        refine ⟨by have := hE.well.ok.pol; rw [hE.pol] at this; exact this, fun h3 => ?_, by rw [n6]; omega, by rw [← hE.pol, ← hE.q]; exact hdecv, nu1, fun z hz => ?_, hvl60, hqok, fun z hz => ?_, fun z hz => ?_⟩
        · rw [hE.want]; unfold Aq.wantOf; rw [if_neg jd]
        · rcases List.mem_append.1 hz with hz | hz
          · exact nu2 z hz
          · rw [List.mem_singleton.1 hz, hw]; exact v2
        · rcases List.mem_append.1 hz with hz | hz
          · exact (hE.sm z hz).1
          · rw [List.mem_singleton.1 hz, hw]; exact hvok.ends
        · rcases List.mem_append.1 hz with hz | hz
          · exact (hE.sm z hz).2
          · rw [List.mem_singleton.1 hz, hw]; exact hvok.sm
       rw [hE.pol, hE.q] at v1
       refine goU ?_
       have hjs : ∀ M : ja, (∀ p ∈ L, p ∈ M) → (∀ p ∈ B', p ∈ M) → (∀ p ∈ N, p ∈ M) → Spec Tryz.prog G 22 #[.agg C0, .int .i64 (Cn.liesP x.c), .slice a' (vs ++ [w]).length c', .agg cd.toArray] M fun u M' => u = .bool true ∧ M' = M := fun M q1 q2 q3 => by
        obtain ⟨cx, e1, e2⟩ := hcase M q1
        rw [e1]
        exact acA (K := L) x cx _ vs w cd a4.2 q1 e2 (hR'.sliceR (fun _ _ _ _ _ h => h) (fun p hp => absurd hp (by simp)) q2) (kV _ _ _ _ q3 hd) hvs hjin v1
       refine Q4 (hjs _ jn jn jn) ?_
       refine goU ?_
       refine Zw (VM a4.2 _ (kV _ _ _ _ ?_ hd) hvs hin4 hru (show MapO Tryz.prog 3 _ (zz f y.up 0) om3 from hM3) jd) ?_
       · exact jn
       rintro _ _ ⟨rfl, om5, hM5, rfl⟩
       refine goU ?_
       exact jg ⟨i + 1, a4.1, X2, om5, qp (zz f y.up 0) a4.2, vs ++ [w], a', c', B', now⟩ ⟨hlt, ⟨hwell4, kp.q.trans hE.q, kp.pol.trans hE.pol, kp.want.trans hE.want, v3, fun z hz => ⟨hjin.ends z hz, hjin.sm z hz⟩, hE.clk⟩, hX2, hM5.mono (by show 2000 + i * 60000 + k * 2000 + 1 + 2000 ≤ 2000 + (i + 1) * 60000; omega), hR', by show (vs ++ [w]).length ≤ i + 1; rw [List.length_append, List.length_singleton]; omega, by dsimp only; omega⟩ js (Fits.heap j8) (by dsimp only; omega)
end
section
open Go.RowKit
theorem JU (cx : List Value) (x : CaseT) (v : Value) (l : List TurnT) (W : World) (hx : Jr (kL W) cx x) (hl : sliceR 7 UY (kL W) [v] l) :
 Calls Tryz.prog 4 #[.agg cx.toArray, v] W fun e w' => e = .returned (.bool true) ∧ Below W.heap.size W w' :=
 Spec.below (Uk cx x v l hx hl)
end
section
open Go.ChangeShapes Go.WideShapes Go.ChangeAt Go.RowKit
open Vd (RSet Vdt Vote Rec Quest Piece Ballot)
open Cn (Zo Cf)
theorem own : ownKnob Tryz.prog.godebug = none := by kernel_rfl
theorem ZF : laidOutB Tryz.prog = true := by kernel_rfl
section
variable {H : Type} {enc : TypeId × Value → H} {W : World} {v : Value} {d : DataW H} {p : List MemPlace} {base : Nat}
theorem acB {n : Int} (h : kJ .u16 n) : 0 ≤ n ∧ n ≤ 65535 := by unfold kJ Lit.wf at h; simp [IntKind.min, IntKind.max, IntKind.bits, IntKind.signed] at h; omega
theorem aiI {n : Int} (h : kJ .u32 n) : 0 ≤ n ∧ n ≤ 4294967295 := by unfold kJ Lit.wf at h; simp [IntKind.min, IntKind.max, IntKind.bits, IntKind.signed] at h; omega
theorem bd8 {n : Int} (h : kJ .u8 n) : 0 ≤ n ∧ n ≤ 255 := by unfold kJ Lit.wf at h; simp [IntKind.min, IntKind.max, IntKind.bits, IntKind.signed] at h; omega
theorem KN {n : Int} (h : kJ .i64 n) : -9223372036854775808 ≤ n ∧ n ≤ 9223372036854775807 := by unfold kJ Lit.wf at h; simp [IntKind.min, IntKind.max, IntKind.bits, IntKind.signed] at h; omega
theorem W8 : Opens enc Tryz.prog W 24 3 Vu := fun fuel cs x hf => by
 obtain ⟨hlen, hfs⟩ := kZ Tryz.underlying24 hf
 have hc : Tryz.prog.cellsOf 24 = 3 := by kernel_rfl
 rw [hc] at hlen
 have c0 : Tryz.prog.cellsOf 9 = 1 := by kernel_rfl
 have c1 : Tryz.prog.cellsOf 22 = 1 := by kernel_rfl
 obtain ⟨n0, y0, g0⟩ := hfs 0 _ rfl
 have g0 : DataW.trod enc Tryz.prog W 0 (fun _ => true) true n0 9 ((cs.drop 0).take (Tryz.prog.cellsOf 9)) = some y0 := g0
 rw [c0] at g0
 obtain ⟨a0, k0, w0⟩ := (q8 unO).at g0
 obtain ⟨n1, y1, g1⟩ := hfs 1 _ rfl
 have g1 : DataW.trod enc Tryz.prog W 0 (fun _ => true) true n1 22 ((cs.drop 1).take (Tryz.prog.cellsOf 22)) = some y1 := g1
 rw [c1] at g1
 obtain ⟨a1, k1, w1⟩ := (jL unO).at g1
 obtain ⟨n2, y2, g2⟩ := hfs 2 _ rfl
 have g2 : DataW.trod enc Tryz.prog W 0 (fun _ => true) true n2 22 ((cs.drop 2).take (Tryz.prog.cellsOf 22)) = some y2 := g2
 rw [c1] at g2
 obtain ⟨a2, k2, w2⟩ := (jL unO).at g2
 refine ⟨hlen, ⟨a0, a1, a2⟩, ?_⟩
 match cs, hlen with
 | [x0, x1, x2], _ =>
   obtain rfl : x0 = _ := by simpa using k0
   obtain rfl : x1 = _ := by simpa using k1
   obtain rfl : x2 = _ := by simpa using k2
   exact ⟨rfl, w0, acB w1, acB w2⟩
theorem W9 : Opens enc Tryz.prog W 26 3 zoR := fun fuel cs x hf => by
 obtain ⟨hlen, hfs⟩ := kZ Tryz.underlying26 hf
 have hc : Tryz.prog.cellsOf 26 = 3 := by kernel_rfl
 rw [hc] at hlen
 have c0 : Tryz.prog.cellsOf 9 = 1 := by kernel_rfl
 have c1 : Tryz.prog.cellsOf 5 = 1 := by kernel_rfl
 have c2 : Tryz.prog.cellsOf 22 = 1 := by kernel_rfl
 obtain ⟨n0, y0, g0⟩ := hfs 0 _ rfl
 have g0 : DataW.trod enc Tryz.prog W 0 (fun _ => true) true n0 9 ((cs.drop 0).take (Tryz.prog.cellsOf 9)) = some y0 := g0
 rw [c0] at g0
 obtain ⟨a0, k0, w0⟩ := (q8 unO).at g0
 obtain ⟨n1, y1, g1⟩ := hfs 1 _ rfl
 have g1 : DataW.trod enc Tryz.prog W 0 (fun _ => true) true n1 5 ((cs.drop 1).take (Tryz.prog.cellsOf 5)) = some y1 := g1
 rw [c1] at g1
 obtain ⟨a1, k1, w1⟩ := (jL unO).at g1
 obtain ⟨n2, y2, g2⟩ := hfs 2 _ rfl
 have g2 : DataW.trod enc Tryz.prog W 0 (fun _ => true) true n2 22 ((cs.drop 2).take (Tryz.prog.cellsOf 22)) = some y2 := g2
 rw [c2] at g2
 obtain ⟨a2, k2, w2⟩ := (jL unO).at g2
 refine ⟨hlen, ⟨a0, a1.toNat, a2.toNat⟩, ?_⟩
 match cs, hlen with
 | [x0, x1, x2], _ =>
   obtain rfl : x0 = _ := by simpa using k0
   obtain rfl : x1 = _ := by simpa using k1
   obtain rfl : x2 = _ := by simpa using k2
   have q1 := bd8 w1
   have q2 := acB w2
   refine ⟨?_, w0, by show a1.toNat ≤ 255; omega, by show a2.toNat ≤ 65535; omega⟩
   show _ = [_, Value.int .u8 ((a1.toNat : Nat) : Int), Value.int .u16 ((a2.toNat : Nat) : Int)]
   rw [Int.toNat_of_nonneg q1.1, Int.toNat_of_nonneg q2.1]
theorem acC : Opens enc Tryz.prog W 30 13 cfR := fun fuel cs x hf => by
 obtain ⟨hlen, hfs⟩ := kZ Tryz.underlying30 hf
 have hc : Tryz.prog.cellsOf 30 = 13 := by kernel_rfl
 rw [hc] at hlen
 have c0 : Tryz.prog.cellsOf 3 = 1 := by kernel_rfl
 have c1 : Tryz.prog.cellsOf 28 = 1 := by kernel_rfl
 obtain ⟨n0, y0, g0⟩ := hfs 0 _ rfl
 have g0 : DataW.trod enc Tryz.prog W 0 (fun _ => true) true n0 3 ((cs.drop 0).take (Tryz.prog.cellsOf 3)) = some y0 := g0
 rw [c0] at g0
 obtain ⟨a0, k0, w0⟩ := (jL unO).at g0
 obtain ⟨n1, y1, g1⟩ := hfs 1 _ rfl
 have g1 : DataW.trod enc Tryz.prog W 0 (fun _ => true) true n1 3 ((cs.drop 1).take (Tryz.prog.cellsOf 3)) = some y1 := g1
 rw [c0] at g1
 obtain ⟨a1, k1, w1⟩ := (jL unO).at g1
 obtain ⟨n2, y2, g2⟩ := hfs 2 _ rfl
 have g2 : DataW.trod enc Tryz.prog W 0 (fun _ => true) true n2 3 ((cs.drop 2).take (Tryz.prog.cellsOf 3)) = some y2 := g2
 rw [c0] at g2
 obtain ⟨a2, k2, w2⟩ := (jL unO).at g2
 obtain ⟨n3, y3, g3⟩ := hfs 3 _ rfl
 have g3 : DataW.trod enc Tryz.prog W 0 (fun _ => true) true n3 3 ((cs.drop 3).take (Tryz.prog.cellsOf 3)) = some y3 := g3
 rw [c0] at g3
 obtain ⟨a3, k3, w3⟩ := (jL unO).at g3
 obtain ⟨n4, y4, g4⟩ := hfs 4 _ rfl
 have g4 : DataW.trod enc Tryz.prog W 0 (fun _ => true) true n4 3 ((cs.drop 4).take (Tryz.prog.cellsOf 3)) = some y4 := g4
 rw [c0] at g4
 obtain ⟨a4, k4, w4⟩ := (jL unO).at g4
 obtain ⟨n5, y5, g5⟩ := hfs 5 _ rfl
 have g5 : DataW.trod enc Tryz.prog W 0 (fun _ => true) true n5 3 ((cs.drop 5).take (Tryz.prog.cellsOf 3)) = some y5 := g5
 rw [c0] at g5
 obtain ⟨a5, k5, w5⟩ := (jL unO).at g5
 obtain ⟨n6, y6, g6⟩ := hfs 6 _ rfl
 have g6 : DataW.trod enc Tryz.prog W 0 (fun _ => true) true n6 3 ((cs.drop 6).take (Tryz.prog.cellsOf 3)) = some y6 := g6
 rw [c0] at g6
 obtain ⟨a6, k6, w6⟩ := (jL unO).at g6
 obtain ⟨n7, y7, g7⟩ := hfs 7 _ rfl
 have g7 : DataW.trod enc Tryz.prog W 0 (fun _ => true) true n7 3 ((cs.drop 7).take (Tryz.prog.cellsOf 3)) = some y7 := g7
 rw [c0] at g7
 obtain ⟨a7, k7, w7⟩ := (jL unO).at g7
 obtain ⟨n8, y8, g8⟩ := hfs 8 _ rfl
 have g8 : DataW.trod enc Tryz.prog W 0 (fun _ => true) true n8 3 ((cs.drop 8).take (Tryz.prog.cellsOf 3)) = some y8 := g8
 rw [c0] at g8
 obtain ⟨a8, k8, w8⟩ := (jL unO).at g8
 obtain ⟨n9, y9, g9⟩ := hfs 9 _ rfl
 have g9 : DataW.trod enc Tryz.prog W 0 (fun _ => true) true n9 3 ((cs.drop 9).take (Tryz.prog.cellsOf 3)) = some y9 := g9
 rw [c0] at g9
 obtain ⟨a9, k9, w9⟩ := (jL unO).at g9
 obtain ⟨n10, y10, g10⟩ := hfs 10 _ rfl
 have g10 : DataW.trod enc Tryz.prog W 0 (fun _ => true) true n10 3 ((cs.drop 10).take (Tryz.prog.cellsOf 3)) = some y10 := g10
 rw [c0] at g10
 obtain ⟨a10, k10, w10⟩ := (jL unO).at g10
 obtain ⟨n11, y11, g11⟩ := hfs 11 _ rfl
 have g11 : DataW.trod enc Tryz.prog W 0 (fun _ => true) true n11 3 ((cs.drop 11).take (Tryz.prog.cellsOf 3)) = some y11 := g11
 rw [c0] at g11
 obtain ⟨a11, k11, w11⟩ := (jL unO).at g11
 obtain ⟨n12, y12, g12⟩ := hfs 12 _ rfl
 have g12 : DataW.trod enc Tryz.prog W 0 (fun _ => true) true n12 28 ((cs.drop 12).take (Tryz.prog.cellsOf 28)) = some y12 := g12
 rw [c1] at g12
 obtain ⟨a12, k12⟩ := (qz unO je (by decide) (W9 (enc := enc))).at g12
 refine ⟨hlen, ⟨a0, a1, a2, a3, a4, a5, a6, a7, a8, a9, a10, a11, a12⟩, ?_⟩
 match cs, hlen with
 | [x0, x1, x2, x3, x4, x5, x6, x7, x8, x9, x10, x11, x12], _ =>
   obtain rfl : x0 = _ := by simpa using k0
   obtain rfl : x1 = _ := by simpa using k1
   obtain rfl : x2 = _ := by simpa using k2
   obtain rfl : x3 = _ := by simpa using k3
   obtain rfl : x4 = _ := by simpa using k4
   obtain rfl : x5 = _ := by simpa using k5
   obtain rfl : x6 = _ := by simpa using k6
   obtain rfl : x7 = _ := by simpa using k7
   obtain rfl : x8 = _ := by simpa using k8
   obtain rfl : x9 = _ := by simpa using k9
   obtain rfl : x10 = _ := by simpa using k10
   obtain rfl : x11 = _ := by simpa using k11
   exact ⟨x12, rfl, by simpa using k12, ⟨KN w0, KN w1, KN w2, KN w3, KN w4, KN w5, KN w6, KN w7, KN w8, KN w9, KN w10, KN w11⟩⟩
instance : Inhabited RSet := ⟨RSet.none⟩
theorem U0 : Opens enc Tryz.prog W 122 5 rsR := fun fuel cs x hf => by
 obtain ⟨hlen, hfs⟩ := kZ Tryz.underlying122 hf
 have hc : Tryz.prog.cellsOf 122 = 5 := by kernel_rfl
 rw [hc] at hlen
 have c0 : Tryz.prog.cellsOf 9 = 1 := by kernel_rfl
 have c1 : Tryz.prog.cellsOf 22 = 1 := by kernel_rfl
 have c2 : Tryz.prog.cellsOf 41 = 1 := by kernel_rfl
 have c3 : Tryz.prog.cellsOf 120 = 1 := by kernel_rfl
 obtain ⟨n0, y0, g0⟩ := hfs 0 _ rfl
 have g0 : DataW.trod enc Tryz.prog W 0 (fun _ => true) true n0 9 ((cs.drop 0).take (Tryz.prog.cellsOf 9)) = some y0 := g0
 rw [c0] at g0
 obtain ⟨a0, k0, w0⟩ := (q8 unO).at g0
 obtain ⟨n1, y1, g1⟩ := hfs 1 _ rfl
 have g1 : DataW.trod enc Tryz.prog W 0 (fun _ => true) true n1 22 ((cs.drop 1).take (Tryz.prog.cellsOf 22)) = some y1 := g1
 rw [c1] at g1
 obtain ⟨a1, k1, w1⟩ := (jL unO).at g1
 obtain ⟨n2, y2, g2⟩ := hfs 2 _ rfl
 have g2 : DataW.trod enc Tryz.prog W 0 (fun _ => true) true n2 22 ((cs.drop 2).take (Tryz.prog.cellsOf 22)) = some y2 := g2
 rw [c1] at g2
 obtain ⟨a2, k2, w2⟩ := (jL unO).at g2
 obtain ⟨n3, y3, g3⟩ := hfs 3 _ rfl
 have g3 : DataW.trod enc Tryz.prog W 0 (fun _ => true) true n3 41 ((cs.drop 3).take (Tryz.prog.cellsOf 41)) = some y3 := g3
 rw [c2] at g3
 obtain ⟨a3, k3, w3⟩ := (jL unO).at g3
 obtain ⟨n4, y4, g4⟩ := hfs 4 _ rfl
 have g4 : DataW.trod enc Tryz.prog W 0 (fun _ => true) true n4 120 ((cs.drop 4).take (Tryz.prog.cellsOf 120)) = some y4 := g4
 rw [c3] at g4
 obtain ⟨a4, k4⟩ := (qz unO je (by decide) (q8 unO)).at g4
 refine ⟨hlen, ⟨a0, a1, a2, a3, a4⟩, ?_⟩
 match cs, hlen with
 | [x0, x1, x2, x3, x4], _ =>
   obtain rfl : x0 = _ := by simpa using k0
   obtain rfl : x1 = _ := by simpa using k1
   obtain rfl : x2 = _ := by simpa using k2
   obtain rfl : x3 = _ := by simpa using k3
   exact ⟨x4, rfl, by simpa using k4, w0, acB w1, acB w2, aiI w3⟩
theorem acD : Opens enc Tryz.prog W 40 3 vdR := fun fuel cs x hf => by
 obtain ⟨hlen, hfs⟩ := kZ Tryz.underlying40 hf
 have hc : Tryz.prog.cellsOf 40 = 3 := by kernel_rfl
 rw [hc] at hlen
 have c0 : Tryz.prog.cellsOf 5 = 1 := by kernel_rfl
 have c1 : Tryz.prog.cellsOf 38 = 1 := by kernel_rfl
 obtain ⟨n0, y0, g0⟩ := hfs 0 _ rfl
 have g0 : DataW.trod enc Tryz.prog W 0 (fun _ => true) true n0 5 ((cs.drop 0).take (Tryz.prog.cellsOf 5)) = some y0 := g0
 rw [c0] at g0
 obtain ⟨a0, k0, w0⟩ := (jL unO).at g0
 obtain ⟨n1, y1, g1⟩ := hfs 1 _ rfl
 have g1 : DataW.trod enc Tryz.prog W 0 (fun _ => true) true n1 38 ((cs.drop 1).take (Tryz.prog.cellsOf 38)) = some y1 := g1
 rw [c1] at g1
 obtain ⟨a1, k1⟩ := (qz unO je (by decide) (U0 (enc := enc))).at g1
 obtain ⟨n2, y2, g2⟩ := hfs 2 _ rfl
 have g2 : DataW.trod enc Tryz.prog W 0 (fun _ => true) true n2 38 ((cs.drop 2).take (Tryz.prog.cellsOf 38)) = some y2 := g2
 rw [c1] at g2
 obtain ⟨a2, k2⟩ := (qz unO je (by decide) (U0 (enc := enc))).at g2
 refine ⟨hlen, ⟨a0, a1, a2⟩, ?_⟩
 match cs, hlen with
 | [x0, x1, x2], _ =>
   obtain rfl : x0 = _ := by simpa using k0
   exact ⟨x1, x2, rfl, by simpa using k1, by simpa using k2, bd8 w0⟩
theorem opens_case : Opens enc Tryz.prog W 32 21 Jr := fun fuel cs x hf => by
 obtain ⟨hlen, hfs⟩ := kZ Tryz.underlying32 hf
 have hc : Tryz.prog.cellsOf 32 = 21 := by kernel_rfl
 rw [hc] at hlen
 have c0 : Tryz.prog.cellsOf 24 = 3 := by kernel_rfl
 have c1 : Tryz.prog.cellsOf 26 = 3 := by kernel_rfl
 have c2 : Tryz.prog.cellsOf 27 = 1 := by kernel_rfl
 have c3 : Tryz.prog.cellsOf 30 = 13 := by kernel_rfl
 have c4 : Tryz.prog.cellsOf 2 = 1 := by kernel_rfl
 obtain ⟨n0, y0, g0⟩ := hfs 0 _ rfl
 have g0 : DataW.trod enc Tryz.prog W 0 (fun _ => true) true n0 24 ((cs.drop 0).take (Tryz.prog.cellsOf 24)) = some y0 := g0
 rw [c0] at g0
 obtain ⟨a0, k0⟩ := (W8 (enc := enc)).at g0
 obtain ⟨n1, y1, g1⟩ := hfs 1 _ rfl
 have g1 : DataW.trod enc Tryz.prog W 0 (fun _ => true) true n1 26 ((cs.drop 3).take (Tryz.prog.cellsOf 26)) = some y1 := g1
 rw [c1] at g1
 obtain ⟨a1, k1⟩ := (W9 (enc := enc)).at g1
 obtain ⟨n2, y2, g2⟩ := hfs 2 _ rfl
 have g2 : DataW.trod enc Tryz.prog W 0 (fun _ => true) true n2 27 ((cs.drop 6).take (Tryz.prog.cellsOf 27)) = some y2 := g2
 rw [c2] at g2
 obtain ⟨a2, k2⟩ := (qz unO je (by decide) (jL unO)).at g2
 obtain ⟨n3, y3, g3⟩ := hfs 3 _ rfl
 have g3 : DataW.trod enc Tryz.prog W 0 (fun _ => true) true n3 30 ((cs.drop 7).take (Tryz.prog.cellsOf 30)) = some y3 := g3
 rw [c3] at g3
 obtain ⟨a3, k3⟩ := (acC (enc := enc)).at g3
 obtain ⟨n4, y4, g4⟩ := hfs 4 _ rfl
 have g4 : DataW.trod enc Tryz.prog W 0 (fun _ => true) true n4 2 ((cs.drop 20).take (Tryz.prog.cellsOf 2)) = some y4 := g4
 rw [c4] at g4
 obtain ⟨a4, k4, w4⟩ := (jL unO).at g4
 refine ⟨hlen, ⟨a0, a1, a2, a3, a4⟩, ?_⟩
 match cs, hlen with
 | [x0, x1, x2, x3, x4, x5, x6, x7, x8, x9, x10, x11, x12, x13, x14, x15, x16, x17, x18, x19, x20], _ =>
   obtain rfl : x20 = _ := by simpa using k4
   obtain ⟨e0, hq⟩ := k0
   obtain ⟨e1, hz⟩ := k1
   obtain ⟨vz, e3, hcf⟩ := k3
   simp only [List.drop_zero, List.take_succ_cons, List.take_zero, List.drop_succ_cons, List.cons.injEq, and_true] at e0 e1 e3
   unfold jo at e3
   simp only [List.cons.injEq, and_true] at e3
   obtain ⟨rfl, rfl, rfl⟩ := e0
   obtain ⟨rfl, rfl, rfl⟩ := e1
   obtain ⟨rfl, rfl, rfl, rfl, rfl, rfl, rfl, rfl, rfl, rfl, rfl, rfl, rfl⟩ := e3
   exact ⟨_, _, rfl, ⟨rfl, hq⟩, ⟨rfl, hz⟩, by simpa using k2, ⟨_, rfl, hcf⟩, w4⟩
theorem Ya (hv : Value.okWide Tryz.prog W .any base 32 v) (h : DataW.Trod enc Tryz.prog W 0 (fun _ => true) true 32 v d p) : ∃ cs a, v = .agg cs.toArray ∧ Jr (kL W) cs a := by
 obtain ⟨cs, rfl, hsz⟩ := okWide_struct Tryz.underlying32 hv
 obtain ⟨fuel, hf⟩ := h
 obtain ⟨q, hq⟩ := opens_case.at hf
 exact ⟨cs.toList, q, by simp, by simpa [Value.cells] using hq⟩
end
end
end Go.Proofs.YtbjkkoacclfejaaGreat
