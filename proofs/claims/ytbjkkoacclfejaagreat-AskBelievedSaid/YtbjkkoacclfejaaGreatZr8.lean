/-
 Part 8: Ep Eq Ex Fa Fb Fh Fi Sq Maps Sm Er.
-/
import Derived.Test.YtbjkkoacclfejaaGreatZr7
import Derived.Test.YtbjkkoacclfejaaGreatZr1
import Derived.Test.YtbjkkoacclfejaaGreatZr2
import Derived.Test.YtbjkkoacclfejaaGreatZr3
import Derived.Maps.Own
import Derived.Maps.OwnSet
import Derived.Carry
import Derived.Test.YtbjkkoacclfejaaGreatZr4
set_option maxRecDepth 100000
set_option maxHeartbeats 8000000
set_option linter.unusedVariables false
set_option linter.unusedSimpArgs false
namespace Go.Proofs.YtbjkkoacclfejaaGreat
section
open Go.RowKit
open Hg (En Pl)
open Vd (RSet Vdt Vote Rec Quest Piece Ballot)
open Cn (Zo Cf)
section
variable {G : World} {P : Program} {n : Nat} {ρ : jB} {L : ja}
theorem qB {fn : Func} {Φ : Value → ja → Prop} (u a t s : Nat) {b k : Nat} {C : Array Value} {te : TypeId} {fr : Nat × Nat} {x y : Value} {L' : ja} (hr : fn.results = #[.tmp u, .cell a t, .tmp s]) (hv : ρ.lookup a = some (.pointer (some ⟨b, 0, none⟩))) (hx : ρ.lookup u = some x) (hy : ρ.lookup s = some y)
 (ht : jV P t k = true) (hm : (b, Obj.cells C te fr) ∈ L) (hk : C.size = k) (hl : ∀ w, Heap G w L → Heap G w L') (h : Φ (.tuple #[x, .agg C, y]) L') : TQ G n ρ L .ret (bodyPost P fn (kT G Φ)) :=
 ⟨fun ac w he hw => ⟨he.defers, .tuple #[x, .agg C, y], by
   obtain ⟨h1, h0⟩ := zY he hv ht (hw.get _ hm) hk
   have h2 : ac.tmps.getD u undef = x := he.reads (.tmp u) x hx
   have h3 : ac.tmps.getD s undef = y := he.reads (.tmp s) y hy
   rw [Array.getD_eq_getD_getElem?] at h1 h2 h3
   simp only [results, hr]
   simp
   simp [h1, asAddr, h0, h2, h3], _, L', rfl, h, hl w hw⟩⟩
end
variable {G : World} {L : ja}
theorem YP (k : Nat) (lies : Int) (hl : 0 ≤ lies ∧ lies ≤ 1000) (h : 1 ≤ k ∧ k ≤ 3) : Spec Tryz.prog G 38 #[.int .u8 (k : Nat), .int .i64 lies] L fun u M => u = .tuple #[.iface (YK k) (Ui k (lies + 1)), .int .i64 (if k = 3 then 1 else lies + 1), .bool true] ∧ M = L := by
 have := WZ (G := G) (L := L) k lies hl
 rw [if_pos h] at this
 exact this
theorem aai (k : Nat) (lies : Int) (hl : 0 ≤ lies ∧ lies ≤ 1000) (h : ¬ (1 ≤ k ∧ k ≤ 3)) : Spec Tryz.prog G 38 #[.int .u8 (k : Nat), .int .i64 lies] L fun u M => u = .tuple #[.nilIface, .int .i64 0, .bool false] ∧ M = L := by
 have := WZ (G := G) (L := L) k lies hl
 rw [if_neg h] at this
 exact this
theorem aaj (v0 v1 v2 : Value) (t : TypeId) (x : Value) (want ded now : Int) (bp bb : Option Addr) : Built Tryz.prog 102 [(0, .agg #[v0, v1, v2]), (1, .iface t x), (2, .int .i64 want), (3, .pointer bp), (4, .pointer bb), (5, .int .i64 ded), (6, .int .i64 now)] (.agg #[v0, v1, v2, .iface t x, .int .i64 want, .pointer bp, .pointer bb, .int .i64 ded, .int .i64 now, .bool false]) := ⟨fun w => by kernel_rfl⟩
def YQ (pol tru : Nat) (u : Int) : Bool := decide (pol ≠ 3) || tru.testBit u.toNat
def ab3 (L : ja) (e : Int) (r : As × Dd) (u : Value) (M : ja) : Prop :=
 (e = 0 ∧ ∃ ap cs X N, u = .tuple #[.pointer (some ⟨ap, 0, none⟩), .agg cs.toArray, .int .i64 0] ∧ zN N cs r.2 ∧ yp ap r.1 X ∧ M = X ++ (N ++ L)) ∨ (e ≠ 0 ∧ u = .tuple #[.pointer none, .agg (kG (.slice none 0 0) (.slice none 0 0)), .int .i64 e] ∧ M = L)
structure NewIn (q : Quest) (z : Zo) (l : List Int) (c : Cf) (now : Int) : Prop where
 may : Cn.mayP c = true
 name : Nm.may q.name = true
 pol : 1 ≤ z.pol ∧ z.pol ≤ 3
 now : 0 ≤ now ∧ now ≤ Hg.top
 dist : Aq.distinct c.ups l = true
theorem Zu {q : Quest} {z : Zo} {l : List Int} {c : Cf} {now : Int} (h : NewIn q z l c now) : Aq.newE q z l c now = if Aq.own z.pol z.tru l = [] then 6 else 0 := by
 have h1 := h.pol
 have h2 := h.now
 unfold Aq.newE
 rw [h.may, h.name, h.dist, decide_eq_false jd, decide_eq_false jd]
 rfl
theorem uv {q : Quest} {z : Zo} {l : List Int} {c : Cf} {now : Int} (h : ¬ NewIn q z l c now) : Aq.newE q z l c now = 1 := by
 unfold Aq.newE
 rw [if_pos]
 refine Decidable.byContradiction fun k => h ?_
 simp only [Bool.or_eq_true, Bool.not_eq_true', decide_eq_true_eq, not_or, Bool.not_eq_false] at k
 exact ⟨k.1.1.1.1, k.1.1.1.2, by omega, by omega, k.2⟩
theorem UO {q : Quest} {z : Zo} {l : List Int} {c : Cf} {now : Int} (h : Aq.newE q z l c now = 0) : NewIn q z l c now ∧ Aq.own z.pol z.tru l ≠ [] := by
 by_cases hi : NewIn q z l c now
 · rw [Zu hi] at h
   refine ⟨hi, fun k => ?_⟩
   rw [if_pos k] at h
   cases h
 · rw [uv hi] at h; cases h
theorem uw {c : Cf} (h : Cn.mayP c = true) : (1 ≤ c.ups ∧ c.ups ≤ 9) ∧ (1 ≤ c.hdg ∧ c.hdg ≤ 1000) ∧ (1 ≤ c.wai ∧ c.wai ≤ 1000) ∧ (1 ≤ c.tri ∧ c.tri ≤ 4) ∧ (0 ≤ c.ded ∧ c.ded ≤ 100000) ∧ Cn.liesP c = c.ups / 2 := by
 have h1 := of_decide_eq_true (Bool.and_eq_true_iff.1 h).1
 obtain ⟨⟨a1, a2, _⟩, a3, a4, a5, ⟨a6, a7⟩, _⟩ := h1
 have h2 : 0 ≤ c.ups / 2 * c.hdg := Int.mul_nonneg jd jd
 have h3 : 0 ≤ c.tri * c.wai := Int.mul_nonneg jd jd
 exact ⟨⟨a1, a2⟩, a3, a4, a5, ⟨by omega, a7⟩, by unfold Cn.liesP; rw [if_pos h]⟩
theorem UP {c : Cf} (h : Cn.mayP c = true) (pol : Nat) : 1 ≤ Aq.wantOf c pol ∧ Aq.wantOf c pol ≤ 9 := by
 obtain ⟨h1, _, _, _, _, h2⟩ := uw h
 unfold Aq.wantOf
 split <;> omega
theorem KI {ups : Int} {l : List Int} (h : Aq.distinct ups l = true) : (∀ x ∈ l, 0 ≤ x ∧ x < ups) ∧ l.Nodup := by
 unfold Aq.distinct at h
 rw [Bool.and_eq_true, List.all_eq_true] at h
 exact ⟨fun x hx => of_decide_eq_true (h.1 x hx), of_decide_eq_true h.2⟩
theorem JP {pol tru : Nat} {ups : Int} {l : List Int} (h : Aq.distinct ups l = true) (hu : ups ≤ 9) : (∀ x ∈ Aq.own pol tru l, 0 ≤ x ∧ x ≤ 8) ∧ (Aq.own pol tru l).Nodup ∧ (Aq.own pol tru l).length ≤ 9 := by
 obtain ⟨h1, h2⟩ := KI h
 have h3 : ∀ x ∈ Aq.own pol tru l, 0 ≤ x ∧ x ≤ 8 := fun x hx => by
  have := h1 x ((List.mem_filter.1 hx).1)
  omega
 have h4 : (Aq.own pol tru l).Nodup := h2.sublist List.filter_sublist
 exact ⟨h3, h4, yL 9 _ h4 fun x hx => by have := h3 x hx; omega⟩
theorem KJ : ∀ (k : Nat) (p : Pl), (Hg.nexts k p).1.made = p.made
 | 0, p => rfl
 | k + 1, p => KJ k (Hg.next p)
theorem qu {q : Quest} {z : Zo} {l : List Int} {c : Cf} {now : Int} (h : NewIn q z l c now) (hq : QOk q) : AWell (Aq.new0 q z l c now) := by
 obtain ⟨n1, n2, n3, n4, n5, n6⟩ := uw h.may
 obtain ⟨o1, o2, o3⟩ := JP (pol := z.pol) (tru := z.tru) h.dist n1.2
 have hw := UP h.may z.pol
 have hp := h.pol
 have hn := h.now
 have htop : Hg.top = 1099511627776 := rfl
 have hg := Zm (Aq.own z.pol z.tru l) (Aq.wantOf c z.pol) c.hdg c.wai c.tri now o3 hw n2 n3 n4 jd
 refine ⟨⟨hg.begin', (Fr.mk _ _ _ _ _ _).begin', VF _ rfl, ?_, hw, ?_, hn, ?_, h.name, BoxOk.nil⟩, hq, by simp [Aq.new0, Aq.votes, Vd.votesB]⟩
 · show (Hg.begin' _).1.made = true
   unfold Hg.begin'
   split
   · rfl
   · exact (KJ _ _).trans rfl
 · show (z.pol : Int) = 1 ∨ (z.pol : Int) = 2 ∨ ((z.pol : Int) = 3 ∧ Aq.wantOf c z.pol = 1)
   rcases (by omega : z.pol = 1 ∨ z.pol = 2 ∨ z.pol = 3) with e | e | e
   · exact Or.inl jd
   · exact Or.inr (Or.inl jd)
   · exact Or.inr (Or.inr ⟨by omega, by unfold Aq.wantOf; rw [if_pos e]⟩)
 · show 0 ≤ now + c.ded ∧ now + c.ded ≤ Hg.top + 100000
   omega
theorem JQ {q : Quest} {z : Zo} {l : List Int} {c : Cf} {now : Int} (h : NewIn q z l c now) (hq : QOk q) : AWell (Aq.new1 q z l c now).1 := (qu h hq).look
theorem ab4 (q : Quest) (z : Zo) (vl vz : Value) (l : List Int) (c : Cf) (now : Int) (hq1 : q.name.length ≤ 1000000) (hq2 : 0 ≤ q.kind ∧ q.kind ≤ 65535) (hq3 : 0 ≤ q.cls ∧ q.cls ≤ 65535) (hz : z.pol ≤ 255 ∧ z.tru ≤ 65535) (hl : IRow L vl l) (hl2 : l.length ≤ 1000) (hc : CfL L c vz) (hnow : -9223372036854775808 ≤ now ∧ now ≤ 9223372036854775807) :
 Spec Tryz.prog G 10 #[.agg (kt q), .agg #[.string (bs z.name), .int .u8 (z.pol : Nat), .int .u16 (z.tru : Nat)], vl, .agg (jo c vz).toArray, .int .i64 now] L (ab3 L (Aq.newE q z l c now) (Aq.new1 q z l c now)) := by
 obtain ⟨al, cl, rfl, hlr⟩ := id hl
 have htop : Hg.top = 1099511627776 := rfl
 have g0 : (jo (c) (vz)).toArray[0 + 0]? = some (.int .i64 (c).ups) := rfl
 have g1 : (jo (c) (vz)).toArray[0 + 1]? = some (.int .i64 (c).ded) := rfl
 have g2 : (jo (c) (vz)).toArray[0 + 2]? = some (.int .i64 (c).hdg) := rfl
 have g3 : (jo (c) (vz)).toArray[0 + 3]? = some (.int .i64 (c).wai) := rfl
 have g4 : (jo (c) (vz)).toArray[0 + 4]? = some (.int .i64 (c).tri) := rfl
 have g5 : (jo (c) (vz)).toArray[0 + 5]? = some (.int .i64 (c).res) := rfl
 have g6 : (jo (c) (vz)).toArray[0 + 6]? = some (.int .i64 (c).lim) := rfl
 have g7 : (jo (c) (vz)).toArray[0 + 7]? = some (.int .i64 (c).cac) := rfl
 have g8 : (jo (c) (vz)).toArray[0 + 8]? = some (.int .i64 (c).fli) := rfl
 have g9 : (jo (c) (vz)).toArray[0 + 9]? = some (.int .i64 (c).wtr) := rfl
 have g10 : (jo (c) (vz)).toArray[0 + 10]? = some (.int .i64 (c).ttl) := rfl
 have g11 : (jo (c) (vz)).toArray[0 + 11]? = some (.int .i64 (c).siz) := rfl
 have g12 : (jo (c) (vz)).toArray[0 + 12]? = some (vz) := rfl
 have k0 : (kt q)[0 + 0]? = some (.string (bs q.name)) := rfl
 refine jl (n := 132) Tryz.func10 rfl rfl rfl ?_
 repeat (first | refine goB ?_ | (refine jQ ?_; intro bNew) | (refine kD ?_; intro bBox))
 obtain ⟨b11, hb11⟩ : ∃ b, bNew = b := ⟨_, rfl⟩
 rw [hb11]
 clear hb11
 obtain ⟨bc, hbc⟩ : ∃ b, bBox = b := ⟨_, rfl⟩
 rw [hbc]
 clear hbc
 rename_i bq bz
 refine jN (jb je rfl (Zt c vz (hc.mono jn))) rfl ?_
 cases hmay : Cn.mayP c with
 | false =>
   have he : Aq.newE q z l c now = 1 := uv fun k => by have := k.may; rw [hmay] at this; cases this
   rw [he, WY hmay]
   repeat (first | refine goB ?_ | refine jy (jm rfl (yd )) rfl ?_)
   refine jG (L' := (b11, Obj.cells #[.slice none 0 0, .slice none 0 0, .bool false, .bool false, .int .u8 0, .slice none 0 0, .slice none 0 0, .int .u32 0, .slice none 0 0, .slice none 0 0] 43 (0, 0)) :: L) ?_ ji
   refine qB 10 11 43 12 rfl rfl rfl rfl stO (List.mem_cons_self ..) rfl (fun w h => h.tail) ?_
   exact Or.inr ⟨by decide, rfl, rfl⟩
 | true =>
 rw [UM hmay]
 obtain ⟨n1, n2, n3, n4, n5, n6⟩ := uw hmay
 cases hname : Nm.may q.name with
 | false =>
   have he : Aq.newE q z l c now = 1 := uv fun k => by have := k.name; rw [hname] at this; cases this
   rw [he]
   repeat (first | refine goB ?_ | (refine' jX (jb je rfl (J9 _ ?_)) rfl ?_; (· omega)) | refine jy (jm rfl (yd )) rfl ?_)
   refine jG (L' := (b11, Obj.cells #[.slice none 0 0, .slice none 0 0, .bool false, .bool false, .int .u8 0, .slice none 0 0, .slice none 0 0, .int .u32 0, .slice none 0 0, .slice none 0 0] 43 (0, 0)) :: L) ?_ ji
   refine qB 10 11 43 12 rfl rfl rfl rfl stO (List.mem_cons_self ..) rfl (fun w h => h.tail) ?_
   exact Or.inr ⟨by decide, rfl, rfl⟩
 | true =>
 have hK : ∀ y ∈ [(bc, Obj.cells (jo c vz).toArray 30 (0, 0)), (bz, Obj.cells #[.string (bs z.name), .int .u8 (z.pol : Nat), .int .u16 (z.tru : Nat)] 26 (0, 0))], y ∈ (b11, Obj.cells #[.slice none 0 0, .slice none 0 0, .bool false, .bool false, .int .u8 0, .slice none 0 0, .slice none 0 0, .int .u32 0, .slice none 0 0, .slice none 0 0] 43 (0, 0)) :: (bc, Obj.cells (jo c vz).toArray 30 (0, 0)) :: (bz, Obj.cells #[.string (bs z.name), .int .u8 (z.pol : Nat), .int .u16 (z.tru : Nat)] 26 (0, 0)) :: (bq, Obj.cells (kt q) 24 (0, 0)) :: L := fun y hz => by simp only [List.mem_cons, List.not_mem_nil, or_false] at hz; rcases hz with rfl | rfl <;> simp
 by_cases hpol : 1 ≤ z.pol ∧ z.pol ≤ 3
 rotate_left
 · have he : Aq.newE q z l c now = 1 := uv fun k => hpol k.pol
   rw [he]
   have hch := aai (G := G) (L := (b11, Obj.cells #[.slice none 0 0, .slice none 0 0, .bool false, .bool false, .int .u8 0, .slice none 0 0, .slice none 0 0, .int .u32 0, .slice none 0 0, .slice none 0 0] 43 (0, 0)) :: (bc, Obj.cells (jo c vz).toArray 30 (0, 0)) :: (bz, Obj.cells #[.string (bs z.name), .int .u8 (z.pol : Nat), .int .u16 (z.tru : Nat)] 26 (0, 0)) :: (bq, Obj.cells (kt q) 24 (0, 0)) :: L) z.pol (Cn.liesP c) jd hpol
   repeat (first | refine goB ?_ | (refine' jX (jb je rfl (J9 _ ?_)) rfl ?_; (· omega)))
   refine jw jc ([(bc, Obj.cells (jo c vz).toArray 30 (0, 0)), (bz, Obj.cells #[.string (bs z.name), .int .u8 (z.pol : Nat), .int .u16 (z.tru : Nat)] 26 (0, 0))]) [] ?_
   refine tkQ 0 ?_
   refine tkQ 1 ?_
   refine tkQ 2 ?_
   refine jD 3 je rfl rfl rfl rfl (jb je rfl (VI c vz (hc.mono jn))) ?_; rintro _ _ ⟨rfl, rfl⟩; refine ⟨Or.inr (fun z hz => by simp only [List.mem_cons, List.not_mem_nil, or_false] at hz; rcases hz with rfl | rfl <;> simp), ?_⟩
   refine jD 4 je rfl rfl rfl rfl (jb je rfl hch) ?_; rintro _ _ ⟨rfl, rfl⟩; refine ⟨Or.inr (fun z hz => by simp only [List.mem_cons, List.not_mem_nil, or_false] at hz; rcases hz with rfl | rfl <;> simp), ?_⟩
   refine tkQ 5 ?_
   refine tkQ 6 ?_
   refine tkQ 7 ?_
   refine tkQ 8 ?_
   refine tkQ 9 ?_
   refine tkQ 10 ?_
   refine tkQ 11 ?_
   refine tdQ ?_
   repeat (first | refine goB ?_ | refine jy (jm rfl (yd )) rfl ?_)
   refine jG (L' := (b11, Obj.cells #[.slice none 0 0, .slice none 0 0, .bool false, .bool false, .int .u8 0, .slice none 0 0, .slice none 0 0, .int .u32 0, .slice none 0 0, .slice none 0 0] 43 (0, 0)) :: L) ?_ ji
   refine qB 10 11 43 12 rfl rfl rfl rfl stO (List.mem_cons_self ..) rfl (fun w h => h.tail) ?_
   exact Or.inr ⟨by decide, rfl, rfl⟩
 have hch := YP (G := G) (L := (b11, Obj.cells #[.slice none 0 0, .slice none 0 0, .bool false, .bool false, .int .u8 0, .slice none 0 0, .slice none 0 0, .int .u32 0, .slice none 0 0, .slice none 0 0] 43 (0, 0)) :: (bc, Obj.cells (jo c vz).toArray 30 (0, 0)) :: (bz, Obj.cells #[.string (bs z.name), .int .u8 (z.pol : Nat), .int .u16 (z.tru : Nat)] 26 (0, 0)) :: (bq, Obj.cells (kt q) 24 (0, 0)) :: L) z.pol (Cn.liesP c) jd hpol
 have hwant : (if z.pol = 3 then 1 else Cn.liesP c + 1) = Aq.wantOf c z.pol := rfl
 have hw := UP hmay z.pol
 rw [hwant] at hch
 repeat (first | refine goB ?_ | (refine' jX (jb je rfl (J9 _ ?_)) rfl ?_; (· omega)))
 refine jw jc ([(bc, Obj.cells (jo c vz).toArray 30 (0, 0)), (bz, Obj.cells #[.string (bs z.name), .int .u8 (z.pol : Nat), .int .u16 (z.tru : Nat)] 26 (0, 0))]) [] ?_
 refine tkQ 0 ?_
 refine tkQ 1 ?_
 refine tkQ 2 ?_
 refine jD 3 je rfl rfl rfl rfl (jb je rfl (VI c vz (hc.mono jn))) ?_; rintro _ _ ⟨rfl, rfl⟩; refine ⟨Or.inr (fun z hz => by simp only [List.mem_cons, List.not_mem_nil, or_false] at hz; rcases hz with rfl | rfl <;> simp), ?_⟩
 refine jD 4 je rfl rfl rfl rfl (jb je rfl hch) ?_; rintro _ _ ⟨rfl, rfl⟩; refine ⟨Or.inr (fun z hz => by simp only [List.mem_cons, List.not_mem_nil, or_false] at hz; rcases hz with rfl | rfl <;> simp), ?_⟩
 refine tkQ 5 ?_
 refine tkQ 6 ?_
 refine tkQ 7 ?_
 refine tkQ 8 ?_
 refine tkQ 9 ?_
 refine tkQ 10 ?_
 refine tkQ 11 ?_
 refine tdQ ?_
 refine goB ?_
 refine jX (jb je rfl (YO _ l c.ups (hl.mono jn) hl2 n1)) rfl ?_
 cases hd : Aq.distinct c.ups l with
 | false =>
   have he : Aq.newE q z l c now = 1 := uv fun k => by have := k.dist; rw [hd] at this; cases this
   rw [he]
   repeat (first | refine goB ?_ | refine jy (jm rfl (yd )) rfl ?_)
   refine jG (L' := (b11, Obj.cells #[.slice none 0 0, .slice none 0 0, .bool false, .bool false, .int .u8 0, .slice none 0 0, .slice none 0 0, .int .u32 0, .slice none 0 0, .slice none 0 0] 43 (0, 0)) :: L) ?_ ji
   refine qB 10 11 43 12 rfl rfl rfl rfl stO (List.mem_cons_self ..) rfl (fun w h => h.tail) ?_
   exact Or.inr ⟨by decide, rfl, rfl⟩
 | true =>
 by_cases t0 : now < 0
 · have he : Aq.newE q z l c now = 1 := uv fun k => by have := k.now; omega
   rw [he]
   repeat (first | refine goB ?_ | refine jy (jm rfl (yd )) rfl ?_)
   refine jG (L' := (b11, Obj.cells #[.slice none 0 0, .slice none 0 0, .bool false, .bool false, .int .u8 0, .slice none 0 0, .slice none 0 0, .int .u32 0, .slice none 0 0, .slice none 0 0] 43 (0, 0)) :: L) ?_ ji
   refine qB 10 11 43 12 rfl rfl rfl rfl stO (List.mem_cons_self ..) rfl (fun w h => h.tail) ?_
   exact Or.inr ⟨by decide, rfl, rfl⟩
 by_cases t1 : 1099511627776 < now
 · have he : Aq.newE q z l c now = 1 := uv fun k => by have := k.now; omega
   rw [he]
   repeat (first | refine goB ?_ | refine jy (jm rfl (yd )) rfl ?_)
   refine jG (L' := (b11, Obj.cells #[.slice none 0 0, .slice none 0 0, .bool false, .bool false, .int .u8 0, .slice none 0 0, .slice none 0 0, .int .u32 0, .slice none 0 0, .slice none 0 0] 43 (0, 0)) :: L) ?_ ji
   refine qB 10 11 43 12 rfl rfl rfl rfl stO (List.mem_cons_self ..) rfl (fun w h => h.tail) ?_
   exact Or.inr ⟨by decide, rfl, rfl⟩
 have hin : NewIn q z l c now := ⟨hmay, hname, hpol, by omega, hd⟩
 rw [Zu hin]
 refine goB ?_
 refine jz (σ := Nat × Option Addr × Nat × ja) (fun x => x.1 ≤ l.length ∧ Row 3 1 (.slice x.2.1 (Aq.own z.pol z.tru (l.take x.1)).length x.2.2.1) (Aq.own z.pol z.tru (l.take x.1)).length (qM (Aq.own z.pol z.tru (l.take x.1))) x.2.2.2)
  (fun x => [(4, .int .i64 now), (5, .pointer (some ⟨bq, 0, none⟩)), (6, .pointer (some ⟨bz, 0, none⟩)), (8, .pointer (some ⟨bc, 0, none⟩)), (11, .pointer (some ⟨b11, 0, none⟩)), (13, .iface (YK z.pol) (Ui z.pol (Cn.liesP c + 1))), (14, .int .i64 (Aq.wantOf c z.pol)), (16, .slice x.2.1 (Aq.own z.pol z.tru (l.take x.1)).length x.2.2.1), (61, .slice al l.length cl), (62, .int .i64 (l.length : Nat)), (63, .int .i64 (x.1 : Nat))])
  (fun x => x.2.2.2 ++ ((b11, Obj.cells #[.slice none 0 0, .slice none 0 0, .bool false, .bool false, .int .u8 0, .slice none 0 0, .slice none 0 0, .int .u32 0, .slice none 0 0, .slice none 0 0] 43 (0, 0)) :: (bc, Obj.cells (jo c vz).toArray 30 (0, 0)) :: (bz, Obj.cells #[.string (bs z.name), .int .u8 (z.pol : Nat), .int .u16 (z.tru : Nat)] 26 (0, 0)) :: (bq, Obj.cells (kt q) 24 (0, 0)) :: L)) (fun x => l.length - x.1) (0, none, 0, []) ⟨Nat.zero_le _, Row.nil _ _⟩ ?_ (fun w h => h) ?_
 exact js
 rintro ⟨k, y, yc, B⟩ ⟨hk, hR⟩
 dsimp only at hk hR ⊢
 have hlen : (Aq.own z.pol z.tru (l.take k)).length ≤ k := Nat.le_trans (List.length_filter_le _ _) (by simp; omega)
 by_cases hlt : k < l.length
 · obtain ⟨x, hx⟩ : ∃ x, l[k]? = some x := ⟨_, List.getElem?_eq_getElem hlt⟩
   obtain ⟨xr, _⟩ := KI hd
   have hx1 := xr x (List.mem_of_getElem? hx)
   obtain ⟨n, rfl⟩ : ∃ n : Nat, x = n := ⟨x.toNat, by omega⟩
   rcases hlr with rfl | ⟨b1, o1, C1, t1', f1, rfl, m1, q1⟩
   · simp at hlt
   have c1 := q1 k _ hx
   have hto : Aq.own z.pol z.tru (l.take (k + 1)) = Aq.own z.pol z.tru (l.take k) ++ (if YQ z.pol z.tru n then [(n : Int)] else []) := by
    unfold Aq.own
    rw [List.take_add_one, hx, List.filter_append]
    congr 1
    simp only [Option.toList_some, List.filter_cons, List.filter_nil]
    rfl
   have hshr := UL (P := Tryz.prog) (t := 22) (k := .i64) (a := z.tru) (u := n) jd
   have hand := aag (P := Tryz.prog) (t := 22) (a := z.tru / 2 ^ n) (Nat.lt_of_le_of_lt (Nat.div_le_self _ _) jd)
   by_cases hp3 : z.pol = 3
   · refine goB ?_
     refine jI (uk rfl rfl hshr) rfl ?_
     repeat (refine kY rfl rfl ?_ ?_; (· exact nF (by omega)))
     refine jI (uk rfl rfl hand) rfl ?_
     by_cases hbit : z.tru / 2 ^ n % 2 = 1
     · have hob : YQ z.pol z.tru n = true := by unfold YQ; rw [Int.toNat_natCast, ab1, decide_eq_true hbit, Bool.or_true]
       rw [hob] at hto
       rw [if_pos rfl] at hto
       repeat (first | refine goB ?_ | (refine qh ?_; intro bLit))
       refine u7 etO rfl rfl hR rfl (by unfold maxLen; omega) jd rfl ?_
       intro v4 B4 hR4
       obtain ⟨a4, c4, rfl⟩ := hR4.slice
       have k4 : (Aq.own z.pol z.tru (l.take k)).length + 1 = (Aq.own z.pol z.tru (l.take (k + 1))).length := by rw [hto]; simp
       have k5 : qM (Aq.own z.pol z.tru (l.take k)) ++ [Value.int .i64 (n : Int)] = qM (Aq.own z.pol z.tru (l.take (k + 1))) := by rw [hto]; simp [qM]
       rw [k4, k5] at hR4
       rw [k4]
       refine goB ?_
       refine jg (k + 1, a4, c4, B4) ⟨hlt, hR4⟩ ?_ (fun w h => h) (by dsimp only; omega)
       exact js
     · have hob : YQ z.pol z.tru n = false := by unfold YQ; rw [Int.toNat_natCast, ab1, decide_eq_false hbit, decide_eq_false (by simpa using hp3)]; rfl
       rw [hob] at hto
       rw [if_neg (by decide), List.append_nil] at hto
       refine goB ?_
       refine jg (k + 1, y, yc, B) ⟨hlt, by dsimp only; rw [hto]; exact hR⟩ ?_ (fun w h => h) (by dsimp only; omega)
       rw [hto]
       exact js
   · have hob : YQ z.pol z.tru n = true := by unfold YQ; rw [decide_eq_true hp3]; rfl
     rw [hob] at hto
     rw [if_pos rfl] at hto
     repeat (first | refine goB ?_ | (refine qh ?_; intro bLit))
     refine u7 etO rfl rfl hR rfl (by unfold maxLen; omega) jd rfl ?_
     intro v4 B4 hR4
     obtain ⟨a4, c4, rfl⟩ := hR4.slice
     have k4 : (Aq.own z.pol z.tru (l.take k)).length + 1 = (Aq.own z.pol z.tru (l.take (k + 1))).length := by rw [hto]; simp
     have k5 : qM (Aq.own z.pol z.tru (l.take k)) ++ [Value.int .i64 (n : Int)] = qM (Aq.own z.pol z.tru (l.take (k + 1))) := by rw [hto]; simp [qM]
     rw [k4, k5] at hR4
     rw [k4]
     refine goB ?_
     refine jg (k + 1, a4, c4, B4) ⟨hlt, hR4⟩ ?_ (fun w h => h) (by dsimp only; omega)
     exact js
 · have htk : l.take k = l := List.take_of_length_le jd
   rw [htk] at hR hlen ⊢
   obtain ⟨o1, o2, o3⟩ := JP (pol := z.pol) (tru := z.tru) hd n1.2
   obtain ⟨ow, how⟩ : ∃ w, w = Aq.own z.pol z.tru l := ⟨_, rfl⟩
   rw [← how] at hR hlen o1 o2 o3 ⊢
   by_cases h0 : ow = []
   · subst h0
     rw [if_pos rfl]
     refine Y7 (L' := (b11, Obj.cells #[.slice none 0 0, .slice none 0 0, .bool false, .bool false, .int .u8 0, .slice none 0 0, .slice none 0 0, .int .u32 0, .slice none 0 0, .slice none 0 0] 43 (0, 0)) :: L) ?_ ji
     repeat (first | refine goB ?_ | refine jy (jm rfl (yd )) rfl ?_)
     refine jG (L' := (b11, Obj.cells #[.slice none 0 0, .slice none 0 0, .bool false, .bool false, .int .u8 0, .slice none 0 0, .slice none 0 0, .int .u32 0, .slice none 0 0, .slice none 0 0] 43 (0, 0)) :: L) ?_ ji
     refine qB 10 11 43 12 rfl rfl rfl rfl stO (List.mem_cons_self ..) rfl (fun w h => h.tail) ?_
     exact Or.inr ⟨by decide, rfl, rfl⟩
   · rw [if_neg h0]
     have h0l : 0 < ow.length := List.length_pos_iff.2 h0
     have hnew := ag5 (G := G) (L := B ++ ((b11, Obj.cells #[.slice none 0 0, .slice none 0 0, .bool false, .bool false, .int .u8 0, .slice none 0 0, .slice none 0 0, .int .u32 0, .slice none 0 0, .slice none 0 0] 43 (0, 0)) :: (bc, Obj.cells (jo c vz).toArray 30 (0, 0)) :: (bz, Obj.cells #[.string (bs z.name), .int .u8 (z.pol : Nat), .int .u16 (z.tru : Nat)] 26 (0, 0)) :: (bq, Obj.cells (kt q) 24 (0, 0)) :: L)) _ ow (Aq.wantOf c z.pol) c.hdg c.wai c.tri now (hR.irow jn) o3 o1 o2 hw n2 n3 n4 jd
     refine goB ?_
     refine jx (jb je rfl hnew) rfl ?_
     rintro _ _ ⟨bp, M1, rfl, hp1, rfl⟩
     refine goB ?_
     refine jx (jb je rfl (aeF (Aq.wantOf c z.pol))) rfl ?_
     intro u0 M0 hu0
     rcases hu0 with ⟨_, _, bb, X0, rfl, hX0, rfl⟩ | ⟨hbad, _⟩
     rotate_left
     · omega
     refine goB ?_
     have hpx : Ui z.pol (Cn.liesP c + 1) = Ui z.pol (Aq.wantOf c z.pol) := by
      unfold Ui Aq.wantOf
      by_cases e : z.pol = 3
      · rw [if_neg jd, if_neg jd]
      · rw [if_neg e]
     rw [hpx]
     obtain ⟨a0, ha0⟩ : ∃ w, w = Aq.new0 q z l c now := ⟨_, rfl⟩
     obtain ⟨pm, hpm⟩ : ∃ w, w = Hg.mk ow (Aq.wantOf c z.pol) c.hdg c.wai c.tri now := ⟨_, rfl⟩
     rw [← hpm] at hp1
     have hqok : QOk q := ⟨hq1, hq2, hq3, hname⟩
     have hw0 : AWell a0 := by rw [ha0]; exact qu hin hqok
     have hp0 : a0.p = (Hg.begin' pm).1 := by rw [ha0, hpm, how]; rfl
     have hn1 : Aq.new1 q z l c now = Aq.look a0 (dd (Hg.begin' pm).2 []) := by rw [ha0, hpm, how]; rfl
     have ho0 : a0.over = false := by rw [ha0]; rfl
     have hb0 : PBox bb a0.want a0.l X0 := by rw [ha0]; exact hX0
     refine jy (jm rfl (aaj _ _ _ _ _ _ _ _ _ _)) rfl ?_
     refine jP (kQ rfl) rfl ?_
     intro ap
     refine goB ?_
     refine qv (L' := (ap, Obj.cells (jk a0 bp bb) 102 (0, 0)) :: (X0 ++ (M1 ++ (B ++ ((b11, Obj.cells #[.slice none 0 0, .slice none 0 0, .bool false, .bool false, .int .u8 0, .slice none 0 0, .slice none 0 0, .int .u32 0, .slice none 0 0, .slice none 0 0] 43 (0, 0)) :: (bc, Obj.cells (jo c vz).toArray 30 (0, 0)) :: (bz, Obj.cells #[.string (bs z.name), .int .u8 (z.pol : Nat), .int .u16 (z.tru : Nat)] 26 (0, 0)) :: (bq, Obj.cells (kt q) 24 (0, 0)) :: L))))) (fun w h => by rw [ha0]; exact h) ?_
     refine jE (L' := M1 ++ ((ap, Obj.cells (jk a0 bp bb) 102 (0, 0)) :: (X0 ++ (B ++ ((b11, Obj.cells #[.slice none 0 0, .slice none 0 0, .bool false, .bool false, .int .u8 0, .slice none 0 0, .slice none 0 0, .int .u32 0, .slice none 0 0, .slice none 0 0] 43 (0, 0)) :: (bc, Obj.cells (jo c vz).toArray 30 (0, 0)) :: (bz, Obj.cells #[.string (bs z.name), .int .u8 (z.pol : Nat), .int .u16 (z.tru : Nat)] 26 (0, 0)) :: (bq, Obj.cells (kt q) 24 (0, 0)) :: L))))) ?_ ji
     refine jx (jb je rfl (adz hp1 (by rw [hpm]; rfl) (by rw [hpm]; rfl) (by rw [hpm]; rfl))) rfl ?_
     rintro _ _ ⟨sa, sc, SB, M2, rfl, hRs, hp2, rfl⟩
     rw [← hp0] at hp2
     have hsl : (Hg.begin' pm).2.length ≤ 100 := by
      unfold Hg.begin'
      split
      · simp
      · rw [(qU _ _).2.2.2]
        have : pm.list.length ≤ 9 := by rw [hpm]; simpa [Hg.mk] using o3
        exact Nat.le_trans (Nat.min_le_right _ _) (Nat.le_trans (Nat.sub_le _ _) (Nat.le_trans this (by decide)))
     repeat (first | refine goB ?_ | (refine jQ ?_; intro bNew) | refine jy (jm rfl (KS _ _ _)) rfl ?_)
     obtain ⟨b23, hb23⟩ : ∃ b, bNew = b := ⟨_, rfl⟩
     rw [hb23]
     clear hb23
     refine qv (L' := (b23, Obj.cells (kG (.slice sa (Hg.begin' pm).2.length sc) (.slice none 0 0)) 43 (0, 0)) :: (M2 ++ (SB ++ ((ap, Obj.cells (jk a0 bp bb) 102 (0, 0)) :: (X0 ++ (B ++ ((b11, Obj.cells #[.slice none 0 0, .slice none 0 0, .bool false, .bool false, .int .u8 0, .slice none 0 0, .slice none 0 0, .int .u32 0, .slice none 0 0, .slice none 0 0] 43 (0, 0)) :: (bc, Obj.cells (jo c vz).toArray 30 (0, 0)) :: (bz, Obj.cells #[.string (bs z.name), .int .u8 (z.pol : Nat), .int .u16 (z.tru : Nat)] 26 (0, 0)) :: (bq, Obj.cells (kt q) 24 (0, 0)) :: L))))))) (fun w h => h) ?_
     refine jE (L' := (ap, Obj.cells (jk a0 bp bb) 102 (0, 0)) :: (b23, Obj.cells (kG (.slice sa (Hg.begin' pm).2.length sc) (.slice none 0 0)) 43 (0, 0)) :: (M2 ++ (X0 ++ (SB ++ (B ++ ((b11, Obj.cells #[.slice none 0 0, .slice none 0 0, .bool false, .bool false, .int .u8 0, .slice none 0 0, .slice none 0 0, .int .u32 0, .slice none 0 0, .slice none 0 0] 43 (0, 0)) :: (bc, Obj.cells (jo c vz).toArray 30 (0, 0)) :: (bz, Obj.cells #[.string (bs z.name), .int .u8 (z.pol : Nat), .int .u16 (z.tru : Nat)] 26 (0, 0)) :: (bq, Obj.cells (kt q) 24 (0, 0)) :: L)))))) ?_ ji
     refine jx (jb je rfl (yo (Ng := []) (g := []) hp2 hb0 hw0 ho0 hsl hRs jK (by simp))) rfl ?_
     rintro _ _ ⟨cs, M4, N, hp4, hdd, rfl⟩
     rw [hn1]
     obtain ⟨r, hr⟩ : ∃ r, r = Aq.look a0 (dd (Hg.begin' pm).2 []) := ⟨_, rfl⟩
     have hkk := jW (d := dd (Hg.begin' pm).2 []) hw0.ok
     rw [← hr] at hp4 hdd hkk ⊢
     have hb5 : PBox bb r.1.want r.1.l X0 := by rw [hkk.2.2.1, hkk.2.2.2.2.1]; exact hb0
     have hd' := hdd
     obtain ⟨d1, d2, d3, d4, d5, d6, d7, d8, d9, d10, d11, d12, rfl, _⟩ := hd'
     have hKd : ∀ y ∈ [(b23, Obj.cells ([.slice d1 r.2.sends.length d2, .slice d3 r.2.gone.length d4, .bool r.2.over, .bool r.2.done, .int .u8 r.2.vd.code, .slice d5 r.2.vd.sets.length d6, .slice d7 r.2.vd.soa.length d8, .int .u32 r.2.time, .slice d9 r.2.agree.length d10, .slice d11 r.2.dissent.length d12] : List Value).toArray 43 (0, 0))], y ∈ (ap, Obj.cells (jk r.1 bp bb) 102 (0, 0)) :: (b23, Obj.cells ([.slice d1 r.2.sends.length d2, .slice d3 r.2.gone.length d4, .bool r.2.over, .bool r.2.done, .int .u8 r.2.vd.code, .slice d5 r.2.vd.sets.length d6, .slice d7 r.2.vd.soa.length d8, .int .u32 r.2.time, .slice d9 r.2.agree.length d10, .slice d11 r.2.dissent.length d12] : List Value).toArray 43 (0, 0)) :: (M4 ++ (X0 ++ (N ++ (B ++ ((b11, Obj.cells #[.slice none 0 0, .slice none 0 0, .bool false, .bool false, .int .u8 0, .slice none 0 0, .slice none 0 0, .int .u32 0, .slice none 0 0, .slice none 0 0] 43 (0, 0)) :: (bc, Obj.cells (jo c vz).toArray 30 (0, 0)) :: (bz, Obj.cells #[.string (bs z.name), .int .u8 (z.pol : Nat), .int .u16 (z.tru : Nat)] 26 (0, 0)) :: (bq, Obj.cells (kt q) 24 (0, 0)) :: L))))) := fun y hy => by rw [List.mem_singleton.1 hy]; simp
     refine goB ?_
     refine jw jc ([(b23, Obj.cells ([.slice d1 r.2.sends.length d2, .slice d3 r.2.gone.length d4, .bool r.2.over, .bool r.2.done, .int .u8 r.2.vd.code, .slice d5 r.2.vd.sets.length d6, .slice d7 r.2.vd.soa.length d8, .int .u32 r.2.time, .slice d9 r.2.agree.length d10, .slice d11 r.2.dissent.length d12] : List Value).toArray 43 (0, 0))]) [] ?_
     refine tkQ 0 ?_
     refine tkQ 1 ?_
     refine tkQ 2 ?_
     refine kk (L' := (b11, Obj.cells #[.slice none 0 0, .slice none 0 0, .bool false, .bool false, .int .u8 0, .slice none 0 0, .slice none 0 0, .int .u32 0, .slice none 0 0, .slice none 0 0] 43 (0, 0)) :: (b23, Obj.cells ([.slice d1 r.2.sends.length d2, .slice d3 r.2.gone.length d4, .bool r.2.over, .bool r.2.done, .int .u8 r.2.vd.code, .slice d5 r.2.vd.sets.length d6, .slice d7 r.2.vd.soa.length d8, .int .u32 r.2.time, .slice d9 r.2.agree.length d10, .slice d11 r.2.dissent.length d12] : List Value).toArray 43 (0, 0)) :: (ap, Obj.cells (jk r.1 bp bb) 102 (0, 0)) :: (M4 ++ (X0 ++ (N ++ (B ++ ((bc, Obj.cells (jo c vz).toArray 30 (0, 0)) :: (bz, Obj.cells #[.string (bs z.name), .int .u8 (z.pol : Nat), .int .u16 (z.tru : Nat)] 26 (0, 0)) :: (bq, Obj.cells (kt q) 24 (0, 0)) :: L)))))) ?_ ji; refine jU 3 je rfl rfl rfl (uX rfl rfl stO rfl rfl rfl) ?_; rintro _ _ ⟨_, rfl⟩; refine ⟨Or.inr (fun y hy => by rw [List.mem_singleton.1 hy]; simp), ?_⟩
     refine tkQ 4 ?_
     refine tdQ ?_
     refine goB ?_
     refine qB 10 11 43 12 rfl rfl rfl rfl stO (List.mem_cons_self ..) rfl (L' := ((ap, Obj.cells (jk r.1 bp bb) 102 (0, 0)) :: (M4 ++ X0)) ++ (N ++ L)) (fun w h => h.cnt ji) ?_
     exact Or.inl ⟨rfl, ap, _, _, N, rfl, by simpa using hdd, ⟨bp, bb, M4, X0, hp4, hb5, rfl⟩, rfl⟩
end
section
open Go.RowKit
open Hg (En Pl)
open Vd (RSet Vdt Vote Rec Quest Piece Ballot)
variable {G : World} {L : ja}
theorem uY (ca cb : List Value) (a b : Vdt) (ha : vdR L ca a) (hb : vdR L cb b) : Spec Tryz.prog G 55 #[.agg ca.toArray, .agg cb.toArray] L fun u M => u = .bool (decide (a = b)) ∧ M = L := by
 obtain ⟨a1, a2, rfl, ha1, ha2, _⟩ := ha
 obtain ⟨b1, b2, rfl, hb1, hb2, _⟩ := hb
 refine jl (n := 24) Tryz.func55 rfl rfl rfl ?_
 by_cases n1 : a.code = b.code
 rotate_left
 · rw [decide_eq_false (fun e => n1 (by rw [e]))]
   repeat (first | refine goA ?_ | (refine kD ?_; intro bBox))
   refine jG (L' := L) ?_ ji
   refine jf 4 _ rfl rfl ?_
   exact ⟨rfl, rfl⟩
 repeat (first | refine goA ?_ | (refine kD ?_; intro bBox))
 refine jX (jb je rfl (Ut _ _ a.sets b.sets (jq jv _ _ _ _ jn ha1) (jq jv _ _ _ _ jn hb1))) rfl ?_
 by_cases n2 : a.sets = b.sets
 rotate_left
 · rw [decide_eq_false n2, decide_eq_false (fun e => n2 (by rw [e]))]
   refine goA ?_
   refine jG (L' := L) ?_ ji
   refine jf 4 _ rfl rfl ?_
   exact ⟨rfl, rfl⟩
 rw [decide_eq_true n2]
 refine goA ?_
 refine jX (jb je rfl (Ut _ _ a.soa b.soa (jq jv _ _ _ _ jn ha2) (jq jv _ _ _ _ jn hb2))) rfl ?_
 have e : decide (a = b) = decide (a.soa = b.soa) := by congr 1; rw [aeb]; simp [n1, n2]
 rw [e]
 refine goA ?_
 refine jG (L' := L) ?_ ji
 refine jf 4 _ rfl rfl ?_
 exact ⟨rfl, rfl⟩
structure DFew (d : Dd) : Prop where
 sends : d.sends.length ≤ 1000000
 gone : d.gone.length ≤ 1000000
 agree : d.agree.length ≤ 1000000
 dissent : d.dissent.length ≤ 1000000
theorem ab5 (ca cb : List Value) (a b : Dd) (ha : zN L ca a) (hb : zN L cb b) (hf : DFew a) : Spec Tryz.prog G 44 #[.agg ca.toArray, .agg cb.toArray] L fun u M => u = .bool (decide (a = b)) ∧ M = L := by
 obtain ⟨y1, k1, y2, k2, y3, k3, y4, k4, y5, k5, y6, k6, rfl, ha1, ha2, ha3, ha4, ha5⟩ := ha
 obtain ⟨z1, w1, z2, w2, z3, w3, z4, w4, z5, w5, z6, w6, rfl, hb1, hb2, hb3, hb4, hb5⟩ := hb
 have q4 : ∀ j v, ([.int .u8 a.vd.code, .slice y3 a.vd.sets.length k3, .slice y4 a.vd.soa.length k4] : List Value)[j]? = some v → ([.slice y1 a.sends.length k1, .slice y2 a.gone.length k2, .bool a.over, .bool a.done, .int .u8 a.vd.code, .slice y3 a.vd.sets.length k3, .slice y4 a.vd.soa.length k4, .int .u32 a.time, .slice y5 a.agree.length k5, .slice y6 a.dissent.length k6] : List Value).toArray[0 + 4 + j]? = some v := fun j v hj => by
  match j, hj with
  | 0, hj => exact hj
  | 1, hj => exact hj
  | 2, hj => exact hj
 have r4 : ∀ j v, ([.int .u8 b.vd.code, .slice z3 b.vd.sets.length w3, .slice z4 b.vd.soa.length w4] : List Value)[j]? = some v → ([.slice z1 b.sends.length w1, .slice z2 b.gone.length w2, .bool b.over, .bool b.done, .int .u8 b.vd.code, .slice z3 b.vd.sets.length w3, .slice z4 b.vd.soa.length w4, .int .u32 b.time, .slice z5 b.agree.length w5, .slice z6 b.dissent.length w6] : List Value).toArray[0 + 4 + j]? = some v := fun j v hj => by
  match j, hj with
  | 0, hj => exact hj
  | 1, hj => exact hj
  | 2, hj => exact hj
 refine jl (n := 59) Tryz.func44 rfl rfl rfl ?_
 by_cases n1 : a.over = b.over
 rotate_left
 · have en1 : (a.over == b.over) = false := beq_false_of_ne n1
   rw [decide_eq_false (fun e => n1 (by rw [e]))]
   repeat (first | refine goA ?_ | (refine kD ?_; intro bBox))
   refine jG (L' := L) ?_ ji
   refine jf 4 _ rfl rfl ?_
   exact ⟨rfl, rfl⟩
 have en1 : (a.over == b.over) = true := beq_iff_eq.2 n1
 by_cases n2 : a.done = b.done
 rotate_left
 · have en2 : (a.done == b.done) = false := beq_false_of_ne n2
   rw [decide_eq_false (fun e => n2 (by rw [e]))]
   repeat (first | refine goA ?_ | (refine kD ?_; intro bBox))
   refine jG (L' := L) ?_ ji
   refine jf 4 _ rfl rfl ?_
   exact ⟨rfl, rfl⟩
 have en2 : (a.done == b.done) = true := beq_iff_eq.2 n2
 by_cases n3 : a.time = b.time
 rotate_left
 · rw [decide_eq_false (fun e => n3 (by rw [e]))]
   repeat (first | refine goA ?_ | (refine kD ?_; intro bBox))
   refine jG (L' := L) ?_ ji
   refine jf 4 _ rfl rfl ?_
   exact ⟨rfl, rfl⟩
 repeat (first | refine goA ?_ | (refine kD ?_; intro bBox))
 refine jX (jb je rfl (JL _ _ a.sends b.sends (ha1.mono jn) (hb1.mono jn) hf.sends)) rfl ?_
 by_cases n4 : a.sends = b.sends
 rotate_left
 · rw [beq_false_of_ne n4, decide_eq_false (fun e => n4 (by rw [e]))]
   refine goA ?_
   refine jG (L' := L) ?_ ji
   refine jf 4 _ rfl rfl ?_
   exact ⟨rfl, rfl⟩
 rw [beq_iff_eq.2 n4]
 refine goA ?_
 refine jX (jb je rfl (JL _ _ a.gone b.gone (ha2.mono jn) (hb2.mono jn) hf.gone)) rfl ?_
 by_cases n5 : a.gone = b.gone
 rotate_left
 · rw [beq_false_of_ne n5, decide_eq_false (fun e => n5 (by rw [e]))]
   refine goA ?_
   refine jG (L' := L) ?_ ji
   refine jf 4 _ rfl rfl ?_
   exact ⟨rfl, rfl⟩
 rw [beq_iff_eq.2 n5]
 refine goA ?_
 refine jX (jb je rfl (JL _ _ a.agree b.agree (ha4.mono jn) (hb4.mono jn) hf.agree)) rfl ?_
 by_cases n6 : a.agree = b.agree
 rotate_left
 · rw [beq_false_of_ne n6, decide_eq_false (fun e => n6 (by rw [e]))]
   refine goA ?_
   refine jG (L' := L) ?_ ji
   refine jf 4 _ rfl rfl ?_
   exact ⟨rfl, rfl⟩
 rw [beq_iff_eq.2 n6]
 refine goA ?_
 refine jX (jb je rfl (JL _ _ a.dissent b.dissent (ha5.mono jn) (hb5.mono jn) hf.dissent)) rfl ?_
 by_cases n7 : a.dissent = b.dissent
 rotate_left
 · rw [beq_false_of_ne n7, decide_eq_false (fun e => n7 (by rw [e]))]
   refine goA ?_
   refine jG (L' := L) ?_ ji
   refine jf 4 _ rfl rfl ?_
   exact ⟨rfl, rfl⟩
 rw [beq_iff_eq.2 n7]
 refine goA ?_
 refine jI (jA [.int .u8 a.vd.code, .slice y3 a.vd.sets.length k3, .slice y4 a.vd.soa.length k4] rfl stL (List.mem_cons_of_mem _ (List.mem_cons_self ..)) q4) rfl ?_
 refine goA ?_
 refine jI (jA [.int .u8 b.vd.code, .slice z3 b.vd.sets.length w3, .slice z4 b.vd.soa.length w4] rfl stL (List.mem_cons_self ..) r4) rfl ?_
 repeat (refine kY rfl rfl ?_ ?_; (· with_reducible rfl))
 refine jX (jb je rfl (uY _ _ a.vd b.vd (jY _ _ _ _ jn ha3) (jY _ _ _ _ jn hb3))) rfl ?_
 have e : decide (a = b) = decide (a.vd = b.vd) := by
  congr 1
  obtain ⟨s1, s2, s3, s4, s5, s6, s7, s8⟩ := a
  obtain ⟨t1, t2, t3, t4, t5, t6, t7, t8⟩ := b
  dsimp only at n1 n2 n3 n4 n5 n6 n7
  subst n1 n2 n3 n4 n5 n6 n7
  simp
 rw [e]
 refine goA ?_
 refine jG (L' := L) ?_ ji
 refine jf 4 _ rfl rfl ?_
 exact ⟨rfl, rfl⟩
theorem zr (ca cb : List Value) (a b : Dd) (ha : zN L ca a) (hb : zN L cb b) (hf : DFew a) : Spec Tryz.prog G 12 #[.agg ca.toArray, .agg cb.toArray] L fun u M => u = .bool (decide (a = b)) ∧ M = L := by
 have h1 := (ue ha)
 have h2 := (ue hb)
 refine jl (n := 8) Tryz.func12 rfl rfl rfl ?_
 repeat (first | refine goA ?_ | (refine kD ?_; intro bBox))
 refine jy (zW rfl stO (List.mem_cons_of_mem _ (List.mem_cons_self ..)) h1.2) rfl ?_
 refine jy (zW rfl stO (List.mem_cons_self ..) h2.2) rfl ?_
 skip
 refine jN (jb je rfl (ab5 ca cb a b (kV _ _ _ _ jn ha) (kV _ _ _ _ jn hb) hf)) rfl ?_
 refine goA ?_
 refine jG (L' := L) ?_ ji
 refine jf 4 _ rfl rfl ?_
 exact ⟨rfl, rfl⟩
end
section
open Hg (En Pl)
open Vd (RSet Vdt Vote Rec Quest Piece Ballot)
theorem KK (l : List Int) : (kx l).length ≤ 9 * l.length := by
 have h : ∀ (ns : List Nat), (ns.flatMap fun (n : Nat) => l.filter fun x => x == (n : Int)).length ≤ ns.length * l.length := fun ns => by
  induction ns with
  | nil => simp
  | cons n ns ih =>
    rw [List.flatMap_cons, List.length_append, List.length_cons, Nat.succ_mul]
    have := List.length_filter_le (fun x => x == (n : Int)) l
    omega
 have := h (List.range 9)
 rw [List.length_range] at this
 exact this
theorem ab6 (want : Int) (vs : List Vote) : (qt want vs).2.2.1.length ≤ 9 * vs.length := by
 unfold qt
 split
 · simp
 · split
   · refine Nat.le_trans (KK _) (Nat.mul_le_mul_left _ ?_)
     rw [List.length_map]
     unfold jH
     exact Nat.le_trans (List.length_filter_le _ _) (by rw [List.length_take]; omega)
   · simp
theorem W0 (want : Int) (vs : List Vote) : (kE want vs).length ≤ 9 * vs.length := by
 unfold kE
 split
 · refine Nat.le_trans (KK _) (Nat.mul_le_mul_left _ ?_)
   rw [List.length_map]
   exact List.length_filter_le _ _
 · simp
theorem aak {a : As} (h : AOk a) : (Aq.votes a).length ≤ 9 := Nat.le_trans (kn a.l) h.box.len
structure DSh (d : Dd) : Prop where
 sends : d.sends.length ≤ 1000
 gone : d.gone.length ≤ 1000
 agree : d.agree.length ≤ 1000
 dissent : d.dissent.length ≤ 1000
theorem DSh.few {d : Dd} (h : DSh d) : DFew d := ⟨Nat.le_trans h.sends (by decide), Nat.le_trans h.gone (by decide), Nat.le_trans h.agree (by decide), Nat.le_trans h.dissent (by decide)⟩
theorem UQ : ∀ (n : Nat) (a : As) (d : Dd), (Aq.lookL n a d).2.sends.length ≤ d.sends.length + n ∧ (Aq.lookL n a d).2.gone = d.gone ∧ (Aq.lookL n a d).2.agree = d.agree ∧ (Aq.lookL n a d).2.dissent = d.dissent
 | 0, a, d => ⟨Nat.le_refl _, rfl, rfl, rfl⟩
 | n + 1, a, d => by
   unfold Aq.lookL
   split
   · exact ⟨by dsimp only; omega, rfl, rfl, rfl⟩
   · split
     · obtain ⟨h1, h2, h3, h4⟩ := UQ n { a with p := (Hg.more a.p a.now).1 } { d with sends := d.sends ++ [(Hg.more a.p a.now).2.1] }
       refine ⟨?_, h2, h3, h4⟩
       rw [List.length_append, List.length_singleton] at h1
       omega
     · exact ⟨by dsimp only; omega, rfl, rfl, rfl⟩
theorem Jp {a : As} {d : Dd} (h : AOk a) (h1 : d.sends.length ≤ 500) (h2 : d.gone.length ≤ 500) (h3 : d.agree = []) (h4 : d.dissent = []) : DSh (Aq.look a d).2 := by
 have hv := aak h
 have hl := h.good.len
 unfold Aq.look
 split
 · rename_i v t ag di hd
   have hb : ag.length ≤ 81 ∧ di.length ≤ 81 := by
    unfold Aq.decided at hd
    split at hd
    · split at hd
      · have w1 := ab6 a.want (Aq.votes a)
        have w2 := W0 a.want (Aq.votes a)
        simp only [Option.some.injEq, Prod.mk.injEq] at hd
        obtain ⟨_, _, rfl, rfl⟩ := hd
        omega
      · cases hd
    · split at hd
      · cases hd
      · split at hd
        · simp only [Option.some.injEq, Prod.mk.injEq] at hd
          obtain ⟨_, _, rfl, rfl⟩ := hd
          simp
        · split at hd
          · simp only [Option.some.injEq, Prod.mk.injEq] at hd
            obtain ⟨_, _, rfl, rfl⟩ := hd
            simp
          · cases hd
   exact ⟨by dsimp only; omega, by dsimp only; omega, by dsimp only; omega, by dsimp only; omega⟩
 · obtain ⟨k1, k2, k3, k4⟩ := UQ (a.p.list.length + 1) a d
   exact ⟨by omega, by rw [k2]; omega, by rw [k3, h3]; simp, by rw [k4, h4]; simp⟩
theorem Jq : DSh Dd.none := ⟨Nat.zero_le _, Nat.zero_le _, Nat.zero_le _, Nat.zero_le _⟩
theorem adR {a : As} (h : AOk a) (u : Int) (v : Vdt) (t now : Int) : DSh (Aq.vote a u v t now).2 := by
 unfold Aq.vote
 split
 · exact Jq
 · split
   · exact Jp (AOk.put (a := Aq.upto { a with p := (Hg.close a.p u).1 } now) ((h.close u).upto now) ⟨⟨u, v, t⟩, false⟩) (Nat.zero_le _) (Nat.zero_le _) rfl rfl
   · exact Jq
theorem adS {a : As} (h : AOk a) (u now : Int) : DSh (Aq.pass a u now).2 := by
 unfold Aq.pass
 split
 · exact Jq
 · split
   · exact Jp (AOk.put (a := Aq.upto { a with p := (Hg.close a.p u).1 } now) ((h.close u).upto now) ⟨⟨u, Vdt.none, 0⟩, true⟩) (Nat.zero_le _) (Nat.zero_le _) rfl rfl
   · exact Jq
theorem ab7 {p : Pl} (h : Good p) (t : Int) : (Hg.tick p t).2.1.length ≤ 100 := by
 have h9 := h.len
 unfold Hg.tick
 split
 · simp
 · have f2 := zn (Hg.goneE (Hg.advance p t).now (Hg.advance p t).wait (Hg.advance p t).tries) (Hg.advance p t).list (fun x => by unfold Hg.goneE; split <;> simp) p.list.length
   rw [List.take_of_length_le (by simp [Hg.advance])] at f2
   dsimp only
   omega
theorem adT {a : As} (h : AOk a) (now : Int) : DSh (Aq.tick a now).2 := by
 unfold Aq.tick
 split
 · exact Jq
 · split
   · exact ⟨Nat.zero_le _, Nat.zero_le _, Nat.zero_le _, Nat.zero_le _⟩
   · exact Jp (a := { (Aq.upto a now) with p := (Hg.tick a.p (Aq.upto a now).now).1 }) ((h.upto now).tick _) (Nat.le_trans (WX h.good _) (by decide)) (Nat.le_trans (ab7 h.good _) (by decide)) rfl rfl
theorem aal (p : Pl) : (Hg.begin' p).2.length ≤ p.list.length := by
 unfold Hg.begin'
 split
 · simp
 · rw [(qU _ _).2.2.2]
   exact Nat.le_trans (Nat.min_le_right _ _) (Nat.sub_le _ _)
theorem aeS {q : Quest} {z : Cn.Zo} {l : List Int} {c : Cn.Cf} {now : Int} (h : NewIn q z l c now) (hq : QOk q) : DSh (Aq.new1 q z l c now).2 := by
 obtain ⟨n1, _⟩ := uw h.may
 obtain ⟨_, _, o3⟩ := JP (pol := z.pol) (tru := z.tru) h.dist n1.2
 refine Jp (qu h hq).ok (Nat.le_trans (aal _) ?_) (Nat.zero_le _) rfl rfl
 simp only [Hg.mk, List.length_map]
 omega
end
section
open Hg (En Pl)
open Vd (RSet Vdt Vote Rec Quest Piece Ballot)
def kH (x : En) : Bool := decide (1 ≤ x.asked) && !x.op
def jT (p : Pl) : List Int := p.list.map (·.up)
structure Stp (p q : Pl) (s g : List Int) : Prop where
 ups : jT q = jT p
 tries : q.tries = p.tries
 row : ∀ (i : Nat) (x y : En), p.list[i]? = some x → q.list[i]? = some y → y.asked = x.asked + (s.count x.up : Nat) ∧ kH y = (kH x || g.contains x.up) ∧ (x.up ∈ s → kH x = false) ∧ (x.up ∈ g → kH x = false ∧ 1 ≤ y.asked)
 inS : ∀ u ∈ s, u ∈ jT p
 inG : ∀ u ∈ g, u ∈ jT p
 nod : g.Nodup
theorem Stp.same {p q : Pl} (hl : q.list = p.list) (ht : q.tries = p.tries) : Stp p q [] [] :=
 ⟨by unfold jT; rw [hl], ht, fun i x y hx hy => by
   rw [hl, hx] at hy
   cases hy
   exact ⟨by simp, by simp, fun h => absurd h (by simp), fun h => absurd h (by simp)⟩, fun u h => absurd h (by simp), fun u h => absurd h (by simp), List.nodup_nil⟩
theorem Stp.len {p q : Pl} {s g : List Int} (h : Stp p q s g) : q.list.length = p.list.length := by
 have := congrArg List.length h.ups
 simpa [jT] using this
theorem Stp.upAt {p q : Pl} {s g : List Int} (h : Stp p q s g) {i : Nat} {x y : En} (hx : p.list[i]? = some x) (hy : q.list[i]? = some y) : y.up = x.up := by
 have h1 : (jT q)[i]? = some y.up := by unfold jT; rw [List.getElem?_map, hy]; rfl
 have h2 : (jT p)[i]? = some x.up := by unfold jT; rw [List.getElem?_map, hx]; rfl
 rw [h.ups, h2] at h1
 exact (Option.some.inj h1).symm
theorem Stp.trans {p q r : Pl} {s g t : List Int} (h : Stp p q s g) (k : Stp q r t []) : Stp p r (s ++ t) g := by
 refine ⟨k.ups.trans h.ups, k.tries.trans h.tries, fun i x z hx hz => ?_, fun u hu => ?_, h.inG, h.nod⟩
 · obtain ⟨y, hy⟩ : ∃ y, q.list[i]? = some y := ⟨_, List.getElem?_eq_getElem (by rw [h.len]; exact (List.getElem?_eq_some_iff.1 hx).1)⟩
   obtain ⟨a1, a2, a3, a4⟩ := h.row i x y hx hy
   obtain ⟨b1, b2, b3, b4⟩ := k.row i y z hy hz
   have hu := h.upAt hx hy
   rw [hu] at b1 b2 b3
   refine ⟨by rw [b1, a1, List.count_append]; omega, by rw [b2, a2]; simp, fun hm => ?_, fun hm => ⟨(a4 hm).1, by rw [b1]; have := (a4 hm).2; omega⟩⟩
   rcases List.mem_append.1 hm with hm | hm
   · exact a3 hm
   · have := b3 hm
     rw [a2] at this
     exact (Bool.or_eq_false_iff.1 this).1
 · rcases List.mem_append.1 hu with hu | hu
   · exact h.inS u hu
   · rw [← h.ups]; exact k.inS u hu
theorem QZ {f : En → List Int} (hf : ∀ x, f x = [] ∨ f x = [x.up]) : ∀ (l : List En), (l.map (·.up)).Nodup → (l.flatMap f).Nodup ∧ (∀ u ∈ l.flatMap f, u ∈ l.map (·.up)) ∧ ∀ x ∈ l, (l.flatMap f).count x.up = (f x).length
 | [], _ => ⟨List.nodup_nil, fun u h => absurd h (by simp), fun x h => absurd h (by simp)⟩
 | y :: l, hn => by
   rw [List.map_cons, List.nodup_cons] at hn
   obtain ⟨h1, h2, h3⟩ := QZ hf l hn.2
   have hy : y.up ∉ l.flatMap f := fun h => hn.1 (h2 _ h)
   rw [List.flatMap_cons]
   refine ⟨?_, fun u hu => ?_, fun x hx => ?_⟩
   · rcases hf y with e | e
     · rw [e]; exact h1
     · rw [e]; exact List.nodup_cons.2 ⟨hy, h1⟩
   · rw [List.map_cons]
     rcases List.mem_append.1 hu with hu | hu
     · rcases hf y with e | e
       · rw [e] at hu; cases hu
       · rw [e, List.mem_singleton] at hu; rw [hu]; exact List.mem_cons_self ..
     · exact List.mem_cons_of_mem _ (h2 u hu)
   · rw [List.count_append]
     rcases List.mem_cons.1 hx with rfl | hx
     · rw [List.count_eq_zero.2 hy]
       rcases hf x with e | e
       · rw [e]; rfl
       · rw [e]; simp
     · have hne : y.up ≠ x.up := fun e => hn.1 (by rw [e]; exact List.mem_map_of_mem hx)
       rw [h3 x hx]
       rcases hf y with e | e
       · rw [e]; simp
       · rw [e]; simp [hne]
theorem aam (now wait tries : Int) (x : En) : Hg.sendE now wait tries x = [] ∨ Hg.sendE now wait tries x = [x.up] := by
 unfold Hg.sendE; split <;> simp
theorem aan (now wait tries : Int) (x : En) : Hg.goneE now wait tries x = [] ∨ Hg.goneE now wait tries x = [x.up] := by
 unfold Hg.goneE; split <;> simp
theorem Stp.examine {p : Pl} (h : Good p) (hn : (jT p).Nodup) : Stp p (Hg.examine p) (p.list.flatMap (Hg.sendE p.now p.wait p.tries)) (p.list.flatMap (Hg.goneE p.now p.wait p.tries)) := by
 obtain ⟨s1, s2, s3⟩ := QZ (aam p.now p.wait p.tries) p.list hn
 obtain ⟨g1, g2, g3⟩ := QZ (aan p.now p.wait p.tries) p.list hn
 have hup : ∀ x : En, (Hg.tickE p.now p.wait p.tries x).up = x.up := fun x => by
  unfold Hg.tickE
  split
  · split <;> rfl
  · rfl
 refine ⟨?_, rfl, fun i x y hx hy => ?_, s2, g2, g1⟩
 · unfold jT Hg.examine
   rw [List.map_map]
   exact List.map_congr_left fun x _ => hup x
 · have hm := List.mem_of_getElem? hx
   have hy' : y = Hg.tickE p.now p.wait p.tries x := by
    simp only [Hg.examine, List.getElem?_map, hx, Option.map_some] at hy
    exact (Option.some.inj hy).symm
   have c1 := s3 x hm
   have c2 := g3 x hm
   have ht := h.tries
   have hxe := h.each x hm
   have mS : x.up ∈ p.list.flatMap (Hg.sendE p.now p.wait p.tries) ↔ (Hg.sendE p.now p.wait p.tries x).length ≠ 0 := by rw [← c1, ← List.one_le_count_iff]; omega
   have mG : x.up ∈ p.list.flatMap (Hg.goneE p.now p.wait p.tries) ↔ (Hg.goneE p.now p.wait p.tries x).length ≠ 0 := by rw [← c2, ← List.one_le_count_iff]; omega
   have cG : (p.list.flatMap (Hg.goneE p.now p.wait p.tries)).contains x.up = decide ((Hg.goneE p.now p.wait p.tries x).length ≠ 0) := by
    rw [Bool.eq_iff_iff, List.contains_iff_mem, decide_eq_true_iff]; exact mG
   rw [c1, cG, mS, mG, hy']
   unfold Hg.sendE Hg.goneE Hg.tickE
   cases hl : Hg.late p.now p.wait x with
   | false => simp
   | true =>
     have ho : x.op = true := by unfold Hg.late at hl; exact (Bool.and_eq_true_iff.1 hl).1
     by_cases hk : p.tries ≤ x.asked
     · simp [hk, kH, ho]; omega
     · simp [hk, kH, ho]
theorem Stp.next {p : Pl} (hf : Fr p) (ha : p.asked < p.list.length) (hn : (jT p).Nodup) : Stp p (Hg.next p) [Hg.upAt p p.asked] [] := by
 obtain ⟨z, hz⟩ : ∃ z, p.list[p.asked]? = some z := ⟨_, List.getElem?_eq_getElem ha⟩
 have hu : Hg.upAt p p.asked = z.up := by unfold Hg.upAt; rw [hz]; rfl
 have hfr := (hf _ _ hz).2 (Nat.le_refl _)
 rw [hu]
 refine ⟨?_, rfl, fun i x y hx hy => ?_, fun u h => ?_, fun u h => absurd h (by simp), List.nodup_nil⟩
 · unfold jT Hg.next
   apply List.ext_getElem?
   intro i
   simp only [List.getElem?_map, List.getElem?_modify]
   cases p.list[i]? with
   | none => rfl
   | some x => by_cases e : p.asked = i <;> simp [e, Hg.askAt]
 · simp only [Hg.next, List.getElem?_modify, hx, Option.map_eq_map, Option.map_some] at hy
   have hy := Option.some.inj hy
   by_cases e : p.asked = i
   · subst e
     rw [hz] at hx
     cases hx
     rw [if_pos rfl] at hy
     rw [← hy]
     have h0 : z.asked = 0 := by rw [hfr]; rfl
     refine ⟨by simp [Hg.askAt, h0], by simp [kH, Hg.askAt, h0], fun _ => by simp [kH, h0], fun h => absurd h (by simp)⟩
   · rw [if_neg e] at hy
     have hy : x = y := hy
     subst hy
     have hne : z.up ≠ x.up := fun he => by
      have h1 : (jT p)[p.asked]? = some x.up := by unfold jT; rw [List.getElem?_map, hz]; simp [he]
      have h2 : (jT p)[i]? = some x.up := by unfold jT; rw [List.getElem?_map, hx]; rfl
      exact e ((List.getElem?_inj (by unfold jT; simpa using ha) hn).1 (h1.trans h2.symm))
     refine ⟨by simp [hne], by simp, fun h => ?_, fun h => absurd h (by simp)⟩
     exact absurd (List.mem_singleton.1 h).symm hne
 · rw [List.mem_singleton.1 h]
   exact List.mem_map_of_mem (List.mem_of_getElem? hz)
theorem Stp.hedged {p : Pl} (hf : Fr p) (hn : (jT p).Nodup) : Stp p (Hg.hedged p).1 (Hg.hedged p).2 [] := by
 unfold Hg.hedged
 dsimp only
 split
 · split
   · rename_i k ha
     have h1 := Stp.next (p := { p with reached := (p.now - p.start) / p.every }) (hf.list rfl rfl) ha hn
     exact ⟨h1.ups, h1.tries, fun i x y hx hy => h1.row i x y hx hy, h1.inS, h1.inG, h1.nod⟩
   · exact Stp.same rfl rfl
 · exact Stp.same rfl rfl
theorem Stp.advance (p : Pl) (t : Int) : Stp p (Hg.advance p t) [] [] := Stp.same rfl rfl
theorem Stp.tick {p : Pl} (h : Good p) (hf : Fr p) (hn : (jT p).Nodup) (t : Int) : Stp p (Hg.tick p t).1 (Hg.tick p t).2.2 (Hg.tick p t).2.1 := by
 unfold Hg.tick
 split
 · exact Stp.same rfl rfl
 · have h1 := Stp.examine (h.advance t) (by exact hn)
   have h2 := Stp.hedged (p := Hg.examine (Hg.advance p t)) (hf.advance t).examine (by rw [h1.ups]; exact hn)
   have h3 := h1.trans h2
   exact ⟨h3.ups, h3.tries, fun i x y hx hy => h3.row i x y hx hy, h3.inS, h3.inG, h3.nod⟩
theorem Stp.more {p : Pl} (hf : Fr p) (hn : (jT p).Nodup) (t : Int) : Stp p (Hg.more p t).1 (if (Hg.more p t).2.2 then [(Hg.more p t).2.1] else []) [] := by
 unfold Hg.more
 split
 · exact Stp.same rfl rfl
 · dsimp only
   split
   · exact Stp.same rfl rfl
   · rename_i ha
     have h1 := Stp.next (p := Hg.advance p t) (hf.advance t) jd hn
     exact ⟨h1.ups, h1.tries, fun i x y hx hy => h1.row i x y hx hy, h1.inS, h1.inG, h1.nod⟩
theorem Stp.nexts : ∀ (k : Nat) {p : Pl}, Fr p → k ≤ p.list.length - p.asked → (jT p).Nodup → Stp p (Hg.nexts k p).1 (Hg.nexts k p).2 []
 | 0, p, _, _, _ => Stp.same rfl rfl
 | k + 1, p, hf, hk, hn => by
   have h1 := Stp.next hf jd hn
   have h2 := Stp.nexts k hf.next (by rw [h1.len]; simp only [Hg.next]; omega) (by rw [h1.ups]; exact hn)
   exact h1.trans h2
theorem Stp.begin' {p : Pl} (hf : Fr p) (hn : (jT p).Nodup) : Stp p (Hg.begin' p).1 (Hg.begin' p).2 [] := by
 unfold Hg.begin'
 split
 · exact Stp.same rfl rfl
 · have h1 := Stp.nexts (min p.want.toNat (p.list.length - p.asked)) (p := { p with begins := true }) (hf.list rfl rfl) (Nat.min_le_right _ _) hn
   exact ⟨h1.ups, h1.tries, fun i x y hx hy => h1.row i x y hx hy, h1.inS, h1.inG, h1.nod⟩
theorem zt : ∀ (n : Nat) (a : As) (d : Dd), Fr a.p → (jT a.p).Nodup → ∃ r, (Aq.lookL n a d).2.sends = d.sends ++ r ∧ Stp a.p (Aq.lookL n a d).1.p r [] ∧ (Aq.lookL n a d).2.gone = d.gone ∧ (Aq.lookL n a d).2.done = d.done ∧ ((Aq.lookL n a d).1.over = a.over ∧ (Aq.lookL n a d).2.over = d.over ∨ (Aq.lookL n a d).1.over = true ∧ (Aq.lookL n a d).2.over = true)
 | 0, a, d, _, _ => ⟨[], by simp [Aq.lookL], Stp.same rfl rfl, rfl, rfl, Or.inl ⟨rfl, rfl⟩⟩
 | n + 1, a, d, hf, hn => by
   have hm := Stp.more hf hn a.now
   unfold Aq.lookL
   split
   · exact ⟨[], by simp, Stp.same rfl rfl, rfl, rfl, Or.inl ⟨rfl, rfl⟩⟩
   · split
     · rename_i hb
       rw [if_pos hb] at hm
       obtain ⟨r, h1, h2, h3, h4, h5⟩ := zt n { a with p := (Hg.more a.p a.now).1 } { d with sends := d.sends ++ [(Hg.more a.p a.now).2.1] } (hf.more a.now) (by rw [hm.ups]; exact hn)
       exact ⟨(Hg.more a.p a.now).2.1 :: r, by rw [h1]; simp, hm.trans h2, h3, h4, h5⟩
     · rename_i hb
       rw [if_neg hb] at hm
       exact ⟨[], by simp, hm, rfl, rfl, Or.inr ⟨rfl, rfl⟩⟩
theorem zb (a : As) (d : Dd) (hf : Fr a.p) (hn : (jT a.p).Nodup) (ha : a.over = false) (hd : d.over = false) (hdn : d.done = false) :
 ∃ r, (Aq.look a d).2.sends = d.sends ++ r ∧ Stp a.p (Aq.look a d).1.p r [] ∧ (Aq.look a d).2.gone = d.gone ∧ (Aq.look a d).1.over = (Aq.look a d).2.over ∧ ((Aq.look a d).2.over || !(Aq.look a d).2.done) = true := by
 unfold Aq.look
 split
 · exact ⟨[], by simp, Stp.same rfl rfl, rfl, rfl, rfl⟩
 · obtain ⟨r, h1, h2, h3, h4, h5⟩ := zt (a.p.list.length + 1) a d hf hn
   refine ⟨r, h1, h2, h3, ?_, by rw [h4, hdn]; simp⟩
   rcases h5 with ⟨e1, e2⟩ | ⟨e1, e2⟩
   · rw [e1, e2, ha, hd]
   · rw [e1, e2]
end
section
open Hg (En Pl)
open Vd (RSet Vdt Vote Rec Quest Piece Ballot)
structure Bk where
 times : Int → Int
 shut : Int → Bool
 overs : Int
namespace Bk
def zero : Bk := ⟨fun _ => 0, fun _ => false, 0⟩
def told (b : Bk) (d : Dd) : Bk := if 0 < b.overs then b else ⟨fun u => b.times u + (d.sends.count u : Nat), fun u => b.shut u || d.gone.contains u, b.overs + if d.over then 1 else 0⟩
def put (b : Bk) (u : Int) : Bk := { b with shut := fun v => b.shut v || v == u }
end Bk
structure TOk (us : List Int) (tries : Int) (b : Bk) (d : Dd) : Prop where
 past : 0 < b.overs → d = Dd.none
 zero : 0 ≤ b.overs ∧ b.overs ≤ 1
 sends : b.overs = 0 → ∀ u ∈ d.sends, (0 ≤ u ∧ u < 9) ∧ b.shut u = false ∧ u ∈ us ∧ b.times u + (d.sends.count u : Nat) ≤ tries
 gone : b.overs = 0 → ∀ u ∈ d.gone, (0 ≤ u ∧ u < 9) ∧ b.shut u = false ∧ 1 ≤ b.times u + (d.sends.count u : Nat)
 nod : b.overs = 0 → d.gone.Nodup
 ends : b.overs = 0 → (d.over || !d.done) = true
 num : ∀ u, 0 ≤ b.times u ∧ b.times u ≤ 4
structure Rb (b : Bk) (p : Pl) : Prop where
 row : ∀ x ∈ p.list, b.times x.up = x.asked ∧ b.shut x.up = kH x
 out : ∀ u, u ∉ jT p → b.times u = 0 ∧ b.shut u = false
structure KR (us : List Int) (tries : Int) (b : Bk) (a : As) : Prop where
 over : a.over = true → b.overs = 1
 not : a.over = false → b.overs = 0 ∧ Rb b a.p
 ups : jT a.p = us
 tries : a.p.tries = tries
 num : ∀ u, 0 ≤ b.times u ∧ b.times u ≤ 4
theorem Rb.num {b : Bk} {p : Pl} (h : Rb b p) (hg : Good p) (u : Int) : 0 ≤ b.times u ∧ b.times u ≤ 4 := by
 have ht := hg.tries
 by_cases hu : u ∈ jT p
 · obtain ⟨x, hx, rfl⟩ := List.mem_map.1 hu
   have h1 := (h.row x hx).1
   have h2 := hg.each x hx
   omega
 · have := (h.out u hu).1
   omega
theorem Rb.stp {b : Bk} {p q : Pl} {d : Dd} (h : Rb b p) (hs : Stp p q d.sends d.gone) (h0 : b.overs = 0) : Rb (b.told d) q := by
 have e : b.told d = ⟨fun u => b.times u + (d.sends.count u : Nat), fun u => b.shut u || d.gone.contains u, b.overs + if d.over then 1 else 0⟩ := by unfold Bk.told; rw [if_neg jd]
 rw [e]
 refine ⟨fun y hy => ?_, fun u hu => ?_⟩
 · obtain ⟨i, hi⟩ := List.mem_iff_getElem?.1 hy
   obtain ⟨x, hx⟩ : ∃ x, p.list[i]? = some x := ⟨_, List.getElem?_eq_getElem (by rw [← hs.len]; exact (List.getElem?_eq_some_iff.1 hi).1)⟩
   obtain ⟨r1, r2, _, _⟩ := hs.row i x y hx hi
   obtain ⟨q1, q2⟩ := h.row x (List.mem_of_getElem? hx)
   dsimp only
   rw [hs.upAt hx hi, q1, q2]
   exact ⟨r1.symm, r2.symm⟩
 · rw [hs.ups] at hu
   obtain ⟨q1, q2⟩ := h.out u hu
   dsimp only
   rw [q1, q2, List.count_eq_zero.2 (fun hm => hu (hs.inS u hm))]
   refine ⟨rfl, ?_⟩
   rw [Bool.false_or, Bool.eq_false_iff]
   exact fun hc => hu (hs.inG u (List.contains_iff_mem.1 hc))
theorem KR.step {us : List Int} {tries : Int} {b : Bk} {a a' : As} {d : Dd} (h : KR us tries b a) (hr : ∀ u ∈ us, 0 ≤ u ∧ u < 9) (ho : a.over = false) (hs : Stp a.p a'.p d.sends d.gone) (hov : a'.over = d.over) (hdn : (d.over || !d.done) = true) (hg : Good a'.p) :
 TOk us tries b d ∧ KR us tries (b.told d) a' := by
 obtain ⟨h0, hb⟩ := h.not ho
 have hb' := hb.stp hs h0
 have e : b.told d = ⟨fun u => b.times u + (d.sends.count u : Nat), fun u => b.shut u || d.gone.contains u, b.overs + if d.over then 1 else 0⟩ := by unfold Bk.told; rw [if_neg jd]
 have hin : ∀ u, u ∈ jT a.p → ∃ x y, x.up = u ∧ y ∈ a'.p.list ∧ b.times u = x.asked ∧ b.shut u = kH x ∧ y.asked = x.asked + (d.sends.count u : Nat) ∧ (u ∈ d.sends → kH x = false) ∧ (u ∈ d.gone → kH x = false ∧ 1 ≤ y.asked) := fun u hu => by
  obtain ⟨x, hx, rfl⟩ := List.mem_map.1 hu
  obtain ⟨i, hi⟩ := List.mem_iff_getElem?.1 hx
  obtain ⟨y, hy⟩ : ∃ y, a'.p.list[i]? = some y := ⟨_, List.getElem?_eq_getElem (by rw [hs.len]; exact (List.getElem?_eq_some_iff.1 hi).1)⟩
  obtain ⟨r1, _, r3, r4⟩ := hs.row i x y hi hy
  exact ⟨x, y, rfl, List.mem_of_getElem? hy, (hb.row x hx).1, (hb.row x hx).2, r1, r3, r4⟩
 refine ⟨⟨fun hp => by omega, by omega, fun _ u hu => ?_, fun _ u hu => ?_, fun _ => hs.nod, fun _ => hdn, h.num⟩, ?_, fun ho' => ?_, hs.ups.trans h.ups, hs.tries.trans h.tries, hb'.num hg⟩
 · have hm := hs.inS u hu
   obtain ⟨x, y, e1, hy, e2, e3, e4, e5, _⟩ := hin u hm
   rw [h.ups] at hm
   refine ⟨hr u hm, by rw [e3]; exact e5 hu, hm, ?_⟩
   have := (hg.each y hy).2.2.2
   rw [hs.tries, h.tries] at this
   omega
 · have hm := hs.inG u hu
   obtain ⟨x, y, e1, hy, e2, e3, e4, _, e6⟩ := hin u hm
   rw [h.ups] at hm
   exact ⟨hr u hm, by rw [e3]; exact (e6 hu).1, by have := (e6 hu).2; omega⟩
 · intro ho'
   rw [e]
   dsimp only
   rw [← hov, ho', if_pos rfl]
   omega
 · refine ⟨?_, hb'⟩
   rw [e]
   dsimp only
   rw [← hov, ho', h0]
   rfl
theorem KR.past {us : List Int} {tries : Int} {b : Bk} {a : As} (h : KR us tries b a) (ho : a.over = true) : TOk us tries b Dd.none ∧ b.told Dd.none = b := by
 have h1 := h.over ho
 exact ⟨⟨fun _ => rfl, by omega, fun k => by omega, fun k => by omega, fun k => by omega, fun k => by omega, h.num⟩, by unfold Bk.told; rw [if_pos jd]⟩
theorem AOk.tickA {a : As} (h : AOk a) (t : Int) : AOk (Aq.tick a t).1 := by
 unfold Aq.tick
 split
 · exact h
 · split
   · exact (h.upto t).over true
   · exact (jW (a := { (Aq.upto a t) with p := (Hg.tick a.p (Aq.upto a t).now).1 }) ((h.upto t).tick _)).1
theorem AOk.passA {a : As} (h : AOk a) (u t : Int) : AOk (Aq.pass a u t).1 := by
 unfold Aq.pass
 split
 · exact h
 · split
   · exact (jW (AOk.put (a := Aq.upto { a with p := (Hg.close a.p u).1 } t) ((h.close u).upto t) ⟨⟨u, Vdt.none, 0⟩, true⟩)).1
   · exact h.close u
theorem KR.tick {us : List Int} {tries : Int} {b : Bk} {a : As} (h : KR us tries b a) (hr : ∀ u ∈ us, 0 ≤ u ∧ u < 9) (hn : us.Nodup) (ha : AOk a) (t : Int) : TOk us tries b (Aq.tick a t).2 ∧ KR us tries (b.told (Aq.tick a t).2) (Aq.tick a t).1 := by
 cases ho : a.over with
 | true =>
   have e : Aq.tick a t = (a, Dd.none) := by unfold Aq.tick; rw [if_pos ho]
   obtain ⟨h1, h2⟩ := h.past ho
   rw [e]
   exact ⟨h1, by dsimp only; rw [h2]; exact h⟩
 | false =>
   have hok := ha.tickA t
   unfold Aq.tick at hok ⊢
   rw [if_neg (by rw [ho]; decide)] at hok ⊢
   split
   · exact h.step hr ho (Stp.same rfl rfl) rfl rfl (ha.upto t).good
   · rename_i he
     rw [if_neg he] at hok
     have hnp : (jT a.p).Nodup := by rw [h.ups]; exact hn
     have s1 := Stp.tick ha.good ha.fr hnp (Aq.upto a t).now
     obtain ⟨r, k1, k2, k3, k4, k5⟩ := zb { (Aq.upto a t) with p := (Hg.tick a.p (Aq.upto a t).now).1 } { Dd.none with sends := (Hg.tick a.p (Aq.upto a t).now).2.2, gone := (Hg.tick a.p (Aq.upto a t).now).2.1 } (ha.fr.tick _) (by show (jT (Hg.tick a.p _).1).Nodup; rw [s1.ups]; exact hnp) ho rfl rfl
     refine h.step hr ho ?_ k4 k5 hok.good
     rw [k1, k3]
     exact s1.trans k2
theorem ux (u : Int) : ∀ (l : List En), (l.map (·.up)).Nodup → Hg.closeL u l = l.map fun x => if Hg.isIt u x then { x with op := false } else x
 | [], _ => rfl
 | x :: r, hn => by
   rw [List.map_cons, List.nodup_cons] at hn
   unfold Hg.closeL
   rw [List.map_cons]
   split
   · rename_i hx
     congr 1
     refine ((List.map_congr_left fun y hy => ?_).trans (List.map_id r)).symm
     have hxu : x.up = u := by unfold Hg.isIt at hx; simp at hx; exact hx.1
     have : Hg.isIt u y = false := by
      unfold Hg.isIt
      have : y.up ≠ u := fun e => hn.1 (by rw [hxu, ← e]; exact List.mem_map_of_mem hy)
      simp [this]
     rw [this]
     rfl
   · rename_i hx
     rw [ux u r hn.2]
def Bk.was (b : Bk) (u : Int) : Bool := decide (b.overs = 0) && (decide (0 ≤ u ∧ u < 9) && (decide (0 < b.times u) && !b.shut u))
theorem Zv {p : Pl} (hf : Fr p) {x : En} (hx : x ∈ p.list) (ho : x.op = true) : 1 ≤ x.asked := by
 obtain ⟨i, hi⟩ := List.mem_iff_getElem?.1 hx
 obtain ⟨h1, h2⟩ := hf i x hi
 rcases Nat.lt_or_ge i p.asked with h | h
 · exact h1 h
 · have := h2 h
   rw [this] at ho
   cases ho
theorem Rb.was {b : Bk} {p : Pl} (h : Rb b p) (hf : Fr p) (hr : ∀ u ∈ jT p, 0 ≤ u ∧ u < 9) (h0 : b.overs = 0) (u : Int) : (Hg.close p u).2 = b.was u := by
 unfold Hg.close Bk.was
 dsimp only
 rw [Bool.eq_iff_iff, List.any_eq_true]
 simp only [Bool.and_eq_true, decide_eq_true_eq, Bool.not_eq_true']
 refine ⟨fun ⟨x, hx, hi⟩ => ?_, fun ⟨_, hru, ht, hs⟩ => ?_⟩
 · unfold Hg.isIt at hi
   simp only [Bool.and_eq_true, beq_iff_eq] at hi
   obtain ⟨rfl, ho⟩ := hi
   have ha := Zv hf hx ho
   obtain ⟨r1, r2⟩ := h.row x hx
   exact ⟨h0, hr _ (List.mem_map_of_mem hx), by omega, by rw [r2]; unfold kH; rw [ho]; simp⟩
 · by_cases hu : u ∈ jT p
   · obtain ⟨x, hx, rfl⟩ := List.mem_map.1 hu
     obtain ⟨r1, r2⟩ := h.row x hx
     refine ⟨x, hx, ?_⟩
     rw [hs] at r2
     unfold kH at r2
     have : decide (1 ≤ x.asked) = true := decide_eq_true jd
     rw [this] at r2
     unfold Hg.isIt
     simp at r2 ⊢
     exact r2.symm ▸ rfl
   · have := (h.out u hu).1
     omega
theorem zO {p : Pl} {u : Int} (h : (Hg.close p u).2 = false) : (Hg.close p u).1.list = p.list := by
 unfold Hg.close at h ⊢
 dsimp only at h ⊢
 rw [List.any_eq_false] at h
 have : ∀ l : List En, (∀ x ∈ l, ¬ Hg.isIt u x = true) → Hg.closeL u l = l := fun l => by
  induction l with
  | nil => exact fun _ => rfl
  | cons x r ih =>
    intro hl
    unfold Hg.closeL
    rw [if_neg (hl x (List.mem_cons_self ..)), ih fun y hy => hl y (List.mem_cons_of_mem _ hy)]
 exact this _ h
theorem ui {p : Pl} (hn : (jT p).Nodup) (u : Int) : jT (Hg.close p u).1 = jT p := by
 unfold jT Hg.close
 dsimp only
 rw [ux u p.list hn, List.map_map]
 exact List.map_congr_left fun x _ => by dsimp only [Function.comp]; split <;> rfl
theorem Rb.close {b : Bk} {p : Pl} (h : Rb b p) (hf : Fr p) (hn : (jT p).Nodup) (hr : ∀ u ∈ jT p, 0 ≤ u ∧ u < 9) (h0 : b.overs = 0) {u : Int} (hw : b.was u = true) : Rb (b.put u) (Hg.close p u).1 := by
 have hwu := hw
 unfold Bk.was at hwu
 simp only [Bool.and_eq_true, decide_eq_true_eq, Bool.not_eq_true'] at hwu
 obtain ⟨_, hru, ht, hs⟩ := hwu
 refine ⟨fun y hy => ?_, fun v hv => ?_⟩
 · have hy' : y ∈ p.list.map fun x => if Hg.isIt u x then { x with op := false } else x := by rw [← ux u p.list hn]; exact hy
   obtain ⟨x, hx, rfl⟩ := List.mem_map.1 hy'
   obtain ⟨r1, r2⟩ := h.row x hx
   cases hi : Hg.isIt u x with
   | true =>
     rw [if_pos rfl]
     have hi' := hi
     unfold Hg.isIt at hi'
     simp only [Bool.and_eq_true, beq_iff_eq] at hi'
     obtain ⟨rfl, ho⟩ := hi'
     have ha := Zv hf hx ho
     refine ⟨r1, ?_⟩
     simp [Bk.put, kH, ha]
   | false =>
     rw [if_neg (by decide)]
     refine ⟨r1, ?_⟩
     have hne : x.up ≠ u := fun e => by
      subst e
      rw [hs] at r2
      unfold kH at r2
      unfold Hg.isIt at hi
      have : decide (1 ≤ x.asked) = true := decide_eq_true jd
      rw [this] at r2
      simp at hi r2
      rw [hi] at r2
      cases r2
     simp [Bk.put, r2, hne]
 · rw [ui hn] at hv
   obtain ⟨q1, q2⟩ := h.out v hv
   refine ⟨q1, ?_⟩
   have : v ≠ u := fun e => by subst e; omega
   simp [Bk.put, q2, this]
theorem KR.pass {us : List Int} {tries : Int} {b : Bk} {a : As} (h : KR us tries b a) (hr : ∀ u ∈ us, 0 ≤ u ∧ u < 9) (hn : us.Nodup) (ha : AOk a) (u t : Int) :
 (b.was u = false → (Aq.pass a u t).2 = Dd.none) ∧ TOk us tries (if b.was u then b.put u else b) (Aq.pass a u t).2 ∧ KR us tries ((if b.was u then b.put u else b).told (Aq.pass a u t).2) (Aq.pass a u t).1 ∧ ((Aq.pass a u t).1.over = false → (Hg.close (Aq.pass a u t).1.p u).2 = false) := by
 cases ho : a.over with
 | true =>
   have e : Aq.pass a u t = (a, Dd.none) := by unfold Aq.pass; rw [if_pos ho]
   obtain ⟨h1, h2⟩ := h.past ho
   have hw : b.was u = false := by unfold Bk.was; rw [decide_eq_false (by have := h.over ho; omega)]; rfl
   rw [e, hw]
   exact ⟨fun _ => rfl, h1, by rw [if_neg (by decide), h2]; exact h, fun k => (by rw [ho] at k; cases k)⟩
 | false =>
   obtain ⟨h0, hb⟩ := h.not ho
   have hnp : (jT a.p).Nodup := by rw [h.ups]; exact hn
   have hrp : ∀ u ∈ jT a.p, 0 ≤ u ∧ u < 9 := by rw [h.ups]; exact hr
   have hw := hb.was ha.fr hrp h0 u
   have hcu := ui hnp u
   cases hwv : b.was u with
   | false =>
     rw [hwv] at hw
     have e : Aq.pass a u t = ({ a with p := (Hg.close a.p u).1 }, Dd.none) := by unfold Aq.pass; rw [if_neg (by rw [ho]; decide), if_neg (by rw [hw]; decide)]
     have hl := zO hw
     rw [e, if_neg (by decide)]
     have := h.step (a' := { a with p := (Hg.close a.p u).1 }) (d := Dd.none) hr ho (Stp.same hl rfl) ho rfl (ha.close u).good
     refine ⟨fun _ => rfl, this.1, this.2, fun _ => ?_⟩
     show ((Hg.close a.p u).1.list.any (Hg.isIt u)) = false
     rw [hl]
     exact hw
   | true =>
     rw [hwv] at hw
     have hk : KR us tries (b.put u) { a with p := (Hg.close a.p u).1 } := ⟨fun k => (by rw [ho] at k; cases k), fun _ => ⟨h0, hb.close ha.fr hnp hrp h0 hwv⟩, hcu.trans h.ups, h.tries, h.num⟩
     have hok := ha.passA u t
     unfold Aq.pass at hok ⊢
     rw [if_neg (by rw [ho]; decide), if_pos hw] at hok ⊢
     rw [if_pos rfl]
     obtain ⟨r, k1, k2, k3, k4, k5⟩ := zb { (Aq.upto { a with p := (Hg.close a.p u).1 } t) with l := (Vd.putB a.l ⟨⟨u, Vdt.none, 0⟩, true⟩).1 } Dd.none (ha.fr.close u) (by show (jT (Hg.close a.p u).1).Nodup; rw [hcu]; exact hnp) ho rfl rfl
     have k2' : Stp (Hg.close a.p u).1 (Aq.look { (Aq.upto { a with p := (Hg.close a.p u).1 } t) with l := (Vd.putB a.l ⟨⟨u, Vdt.none, 0⟩, true⟩).1 } Dd.none).1.p r [] := k2
     have hst : Stp (Hg.close a.p u).1 (Aq.look { (Aq.upto { a with p := (Hg.close a.p u).1 } t) with l := (Vd.putB a.l ⟨⟨u, Vdt.none, 0⟩, true⟩).1 } Dd.none).1.p (Aq.look { (Aq.upto { a with p := (Hg.close a.p u).1 } t) with l := (Vd.putB a.l ⟨⟨u, Vdt.none, 0⟩, true⟩).1 } Dd.none).2.sends (Aq.look { (Aq.upto { a with p := (Hg.close a.p u).1 } t) with l := (Vd.putB a.l ⟨⟨u, Vdt.none, 0⟩, true⟩).1 } Dd.none).2.gone := by
      rw [k1, k3]; exact k2'
     have hs := hk.step hr ho hst k4 k5 hok.good
     refine ⟨fun k => (by cases k), hs.1, hs.2, fun hov => ?_⟩
     have hnot := (hs.2.not hov)
     have hfr := hok.fr
     rw [hnot.2.was hfr (by rw [hs.2.ups]; exact hr) hnot.1 u]
     unfold Bk.was
     have : ((b.put u).told (Aq.look { (Aq.upto { a with p := (Hg.close a.p u).1 } t) with l := (Vd.putB a.l ⟨⟨u, Vdt.none, 0⟩, true⟩).1 } Dd.none).2).shut u = true := by
      unfold Bk.told
      rw [if_neg (by show ¬ 0 < b.overs; omega)]
      simp [Bk.put]
     rw [this]
     simp
end
section
open Hg (En Pl)
open Vd (RSet Vdt Vote Rec Quest Piece Ballot)
def kW (p : Pl) (u : Int) : Bool := p.list.any (Hg.isIt u)
def qp (f : Int → Int) (d : Dd) : Int → Int := fun u => if d.gone.contains u then 0 else if d.sends.contains u then 1 else f u
structure BI (us : List Int) (f : Int → Int) (vs : List Vote) (a : As) : Prop where
 ups : jT a.p = us
 opens : ∀ u, f u = if kW a.p u then 1 else 0
 votes : Aq.votes a = vs
 shut : ∀ b ∈ a.l, ∃ x ∈ a.p.list, x.up = b.v.up ∧ kH x = true
 nodec : a.over = false → Aq.decided a = none
theorem aao {p : Pl} (hf : Fr p) {x : En} (hx : x ∈ p.list) : 0 ≤ x.asked := by
 obtain ⟨i, hi⟩ := List.mem_iff_getElem?.1 hx
 obtain ⟨h1, h2⟩ := hf i x hi
 rcases Nat.lt_or_ge i p.asked with h | h
 · have := h1 h; omega
 · rw [h2 h]; exact Int.le_refl 0
theorem Q0 {p : Pl} (hf : Fr p) {x : En} (hx : x ∈ p.list) : x.op = true ↔ 1 ≤ x.asked ∧ kH x = false := by
 constructor
 · intro h
   exact ⟨Zv hf hx h, by unfold kH; rw [h]; simp⟩
 · rintro ⟨h1, h2⟩
   unfold kH at h2
   rw [decide_eq_true h1] at h2
   simpa using h2
theorem zu {p : Pl} (hn : (jT p).Nodup) {x : En} (hx : x ∈ p.list) : kW p x.up = x.op := by
 unfold kW
 rw [Bool.eq_iff_iff, List.any_eq_true]
 constructor
 · rintro ⟨y, hy, h⟩
   unfold Hg.isIt at h
   simp only [Bool.and_eq_true, beq_iff_eq] at h
   obtain ⟨i, hi⟩ := List.mem_iff_getElem?.1 hx
   obtain ⟨j, hj⟩ := List.mem_iff_getElem?.1 hy
   have h1 : (jT p)[i]? = some x.up := by unfold jT; rw [List.getElem?_map, hi]; rfl
   have h2 : (jT p)[j]? = some x.up := by unfold jT; rw [List.getElem?_map, hj, ← h.1]; rfl
   have e := (List.getElem?_inj (List.getElem?_eq_some_iff.1 h1).1 hn).1 (h1.trans h2.symm)
   subst e
   rw [hi] at hj
   cases hj
   exact h.2
 · intro h
   exact ⟨x, hx, by unfold Hg.isIt; simp [h]⟩
theorem JR {p : Pl} {u : Int} (h : u ∉ jT p) : kW p u = false := by
 unfold kW
 rw [List.any_eq_false]
 intro x hx k
 unfold Hg.isIt at k
 simp only [Bool.and_eq_true, beq_iff_eq] at k
 exact h (by rw [← k.1]; exact List.mem_map_of_mem hx)
theorem ab8 {p q : Pl} {f : Int → Int} {d : Dd} (hn : (jT p).Nodup) (hf : Fr p) (hfq : Fr q) (hs : Stp p q d.sends d.gone) (h : ∀ u, f u = if kW p u then 1 else 0) : ∀ u, qp f d u = if kW q u then 1 else 0 := by
 intro u
 by_cases hu : u ∈ jT p
 · obtain ⟨x, hx, rfl⟩ := List.mem_map.1 hu
   obtain ⟨i, hi⟩ := List.mem_iff_getElem?.1 hx
   obtain ⟨y, hy⟩ : ∃ y, q.list[i]? = some y := ⟨_, List.getElem?_eq_getElem (by rw [hs.len]; exact (List.getElem?_eq_some_iff.1 hi).1)⟩
   obtain ⟨r1, r2, r3, r4⟩ := hs.row i x y hi hy
   have hyu := hs.upAt hi hy
   have ho := zu (p := q) (by rw [hs.ups]; exact hn) (List.mem_of_getElem? hy)
   rw [hyu] at ho
   have hox := zu hn hx
   have i1 := Q0 hf hx
   have i2 := Q0 hfq (List.mem_of_getElem? hy)
   unfold qp
   rw [ho, h, hox]
   cases hg : d.gone.contains x.up with
   | true =>
     rw [hg, Bool.or_true] at r2
     rw [if_pos rfl]
     have : y.op = false := by
      rw [Bool.eq_false_iff]
      intro k
      rw [(i2.1 k).2] at r2
      cases r2
     rw [this]; rfl
   | false =>
     rw [hg, Bool.or_false] at r2
     rw [if_neg (by decide)]
     cases hsd : d.sends.contains x.up with
     | true =>
       have hm := List.contains_iff_mem.1 hsd
       have hcn := List.one_le_count_iff.2 hm
       have h0 := aao hf hx
       have : y.op = true := i2.2 ⟨by omega, by rw [r2]; exact r3 hm⟩
       rw [this]; rfl
     | false =>
       have hc : d.sends.count x.up = 0 := List.count_eq_zero.2 fun hm => by rw [List.contains_iff_mem.2 hm] at hsd; cases hsd
       rw [hc] at r1
       have : y.op = x.op := by
        rw [Bool.eq_iff_iff, i1, i2, r1, r2]
        simp
       rw [this]
       rfl
 · have h1 : d.gone.contains u = false := Bool.eq_false_iff.2 fun k => hu (hs.inG u (List.contains_iff_mem.1 k))
   have h2 : d.sends.contains u = false := Bool.eq_false_iff.2 fun k => hu (hs.inS u (List.contains_iff_mem.1 k))
   unfold qp
   rw [h1, h2, JR (p := q) (by rw [hs.ups]; exact hu), h, JR hu]
   rfl
theorem ab9 {p q : Pl} {s g : List Int} (hs : Stp p q s g) {u : Int} (h : ∃ x ∈ p.list, x.up = u ∧ kH x = true) : ∃ x ∈ q.list, x.up = u ∧ kH x = true := by
 obtain ⟨x, hx, rfl, hx2⟩ := h
 obtain ⟨i, hi⟩ := List.mem_iff_getElem?.1 hx
 obtain ⟨y, hy⟩ : ∃ y, q.list[i]? = some y := ⟨_, List.getElem?_eq_getElem (by rw [hs.len]; exact (List.getElem?_eq_some_iff.1 hi).1)⟩
 obtain ⟨r1, r2, r3, r4⟩ := hs.row i x y hi hy
 exact ⟨y, List.mem_of_getElem? hy, hs.upAt hi hy, by rw [r2, hx2]; rfl⟩
theorem UR : ∀ (n : Nat) (a : As) (d : Dd), Aq.decided (Aq.lookL n a d).1 = Aq.decided a ∧ (Aq.lookL n a d).1.l = a.l
 | 0, a, d => ⟨rfl, rfl⟩
 | n + 1, a, d => by
   unfold Aq.lookL
   split
   · exact ⟨rfl, rfl⟩
   · split
     · exact UR n { a with p := (Hg.more a.p a.now).1 } { d with sends := d.sends ++ [(Hg.more a.p a.now).2.1] }
     · exact ⟨rfl, rfl⟩
theorem JS {a : As} {d : Dd} (h : Aq.decided a = none) : Aq.look a d = Aq.lookL (a.p.list.length + 1) a d := by
 unfold Aq.look
 rw [h]
theorem BI.look {us : List Int} {f : Int → Int} {vs : List Vote} {p0 : Pl} {a : As} {d : Dd} (hf : Fr a.p) (hf0 : Fr p0) (hn : us.Nodup) (hu0 : jT p0 = us) (hs0 : Stp p0 a.p d.sends d.gone) (ho : ∀ u, f u = if kW p0 u then 1 else 0) (hv : Aq.votes a = vs) (hsh : ∀ b ∈ a.l, ∃ x ∈ p0.list, x.up = b.v.up ∧ kH x = true)
 (hov : a.over = false) (hd : d.over = false) (hdn : d.done = false) (hk : AOk a) : BI us (qp f (Aq.look a d).2) vs (Aq.look a d).1 := by
 have hnp : (jT a.p).Nodup := by rw [hs0.ups, hu0]; exact hn
 obtain ⟨r, h1, h2, h3, h4, h5⟩ := zb a d hf hnp hov hd hdn
 obtain ⟨k0, k1, k2, k3, k4, k5, k6⟩ := jW (d := d) hk
 have hst : Stp p0 (Aq.look a d).1.p (Aq.look a d).2.sends (Aq.look a d).2.gone := by rw [h1, h3]; exact hs0.trans h2
 refine ⟨hst.ups.trans hu0, ab8 (by rw [hu0]; exact hn) hf0 k0.fr hst ho, ?_, fun b hb => ?_, fun hov' => ?_⟩
 · unfold Aq.votes at hv ⊢; rw [k2]; exact hv
 · rw [k2] at hb; exact ab9 hst (hsh b hb)
 · cases hdec : Aq.decided a with
   | none =>
     rw [JS hdec] at hov' ⊢
     rw [(UR _ _ _).1, hdec]
   | some y =>
     unfold Aq.look at hov'
     rw [hdec] at hov'
     cases hov'
theorem BI.tick {us : List Int} {f : Int → Int} {vs : List Vote} {a : As} (h : BI us f vs a) (hn : us.Nodup) (ha : AOk a) (ho : a.over = false) (t : Int) : (Aq.tick a t).2.done = false ∧ ((Aq.tick a t).1.over = false → BI us (qp f (Aq.tick a t).2) vs (Aq.tick a t).1) := by
 have hdec := h.nodec ho
 unfold Aq.tick
 rw [if_neg (by rw [ho]; decide)]
 split
 · exact ⟨rfl, fun k => by cases k⟩
 · have hst := Stp.tick ha.good ha.fr (by rw [h.ups]; exact hn) (Aq.upto a t).now
   have hdec' : Aq.decided { (Aq.upto a t) with p := (Hg.tick a.p (Aq.upto a t).now).1 } = none := hdec
   refine ⟨?_, fun _ => BI.look (p0 := a.p) (ha.fr.tick _) ha.fr hn h.ups hst h.opens h.votes h.shut ho rfl rfl ((ha.upto t).tick _)⟩
   rw [JS hdec']
   obtain ⟨r, _, _, _, e4, _⟩ := zt (({ (Aq.upto a t) with p := (Hg.tick a.p (Aq.upto a t).now).1 } : As).p.list.length + 1) { (Aq.upto a t) with p := (Hg.tick a.p (Aq.upto a t).now).1 } { Dd.none with sends := (Hg.tick a.p (Aq.upto a t).now).2.2, gone := (Hg.tick a.p (Aq.upto a t).now).2.1 } (ha.fr.tick _) (by show (jT (Hg.tick a.p _).1).Nodup; rw [hst.ups, h.ups]; exact hn)
   exact e4
def zz (f : Int → Int) (u y : Int) : Int → Int := fun x => if x = u then y else f x
theorem Q1 {p : Pl} {f : Int → Int} (hn : (jT p).Nodup) (h : ∀ v, f v = if kW p v then 1 else 0) (u : Int) : ∀ v, zz f u 0 v = if kW (Hg.close p u).1 v then 1 else 0 := by
 intro v
 have hl : (Hg.close p u).1.list = p.list.map fun x => if Hg.isIt u x then { x with op := false } else x := ux u p.list hn
 have e : kW (Hg.close p u).1 v = (kW p v && !decide (v = u)) := by
  unfold kW
  rw [hl, List.any_map, Bool.eq_iff_iff, List.any_eq_true, Bool.and_eq_true, List.any_eq_true]
  constructor
  · rintro ⟨x, hx, k⟩
    dsimp only [Function.comp] at k
    cases hi : Hg.isIt u x with
    | true => rw [hi, if_pos rfl] at k; unfold Hg.isIt at k; simp at k
    | false =>
      rw [hi, if_neg (by decide)] at k
      refine ⟨⟨x, hx, k⟩, ?_⟩
      rw [Bool.not_eq_true', decide_eq_false_iff_not]
      intro e; subst e; rw [hi] at k; cases k
  · rintro ⟨⟨x, hx, k⟩, hne⟩
    refine ⟨x, hx, ?_⟩
    dsimp only [Function.comp]
    have : Hg.isIt u x = false := by
     rw [Bool.eq_false_iff]
     intro k2
     unfold Hg.isIt at k k2
     simp only [Bool.and_eq_true, beq_iff_eq] at k k2
     simp only [Bool.not_eq_true', decide_eq_false_iff_not] at hne
     exact hne (k.1.symm.trans k2.1)
    rw [this, if_neg (by decide)]
    exact k
 rw [e]
 unfold zz
 by_cases k : v = u
 · rw [if_pos k, decide_eq_true k]; simp
 · rw [if_neg k, decide_eq_false k, h]; simp
end
section
open Hg (En Pl)
open Vd (RSet Vdt Vote Rec Quest Piece Ballot)
def zd (pol want : Int) (q : Quest) (vs : List Vote) : Option (Vdt × Int × List Int × List Int) :=
 if pol = 1 then (if (qt want vs).2.2.2 then some ((qt want vs).1, (qt want vs).2.1, (qt want vs).2.2.1, kE want vs) else none)
 else if (vs.length : Int) < want then none
 else if pol = 2 then some ((Vd.union q vs).1, (Vd.union q vs).2.1, [], [])
 else match vs[0]? with
  | some x => some (x.vd, x.time, [], [])
  | none => none
theorem zv (a : As) : Aq.decided a = zd a.pol a.want a.q (Aq.votes a) := rfl
def adU (r : Option (Vdt × Int × List Int × List Int)) (d : Dd) : Prop := match r with
 | some (v, t, ag, di) => d.over = true ∧ d.done = true ∧ d.vd = v ∧ d.time = t ∧ d.agree = ag ∧ d.dissent = di
 | none => d.done = false
theorem Q2 (n : Nat) (a : As) (d : Dd) : (Aq.lookL n a d).2.done = d.done := by
 induction n generalizing a d with
 | zero => rfl
 | succ n ih =>
   unfold Aq.lookL
   split
   · rfl
   · split
     · exact ih _ _
     · rfl
theorem aap (a : As) (d : Dd) (hd : d.done = false) : adU (Aq.decided a) (Aq.look a d).2 := by
 unfold adU Aq.look
 cases h : Aq.decided a with
 | none => exact (Q2 _ _ _).trans hd
 | some y => exact ⟨rfl, rfl, rfl, rfl, rfl, rfl⟩
theorem Q3 {p : Pl} (hf : Fr p) (hn : (jT p).Nodup) (u : Int) {v : Int} (h : (∃ x ∈ p.list, x.up = v ∧ kH x = true) ∨ (v = u ∧ kW p u = true)) : ∃ x ∈ (Hg.close p u).1.list, x.up = v ∧ kH x = true := by
 have hl : (Hg.close p u).1.list = p.list.map fun x => if Hg.isIt u x then { x with op := false } else x := ux u p.list hn
 rw [hl]
 rcases h with ⟨x, hx, rfl, h2⟩ | ⟨rfl, h2⟩
 · refine ⟨_, List.mem_map_of_mem hx, ?_⟩
   have : Hg.isIt u x = false := by
    rw [Bool.eq_false_iff]
    intro k
    unfold Hg.isIt at k
    simp only [Bool.and_eq_true] at k
    have := (Q0 hf hx).1 k.2
    rw [h2] at this
    cases this.2
   rw [this, if_neg (by decide)]
   exact ⟨rfl, h2⟩
 · unfold kW at h2
   rw [List.any_eq_true] at h2
   obtain ⟨x, hx, k⟩ := h2
   refine ⟨_, List.mem_map_of_mem hx, ?_⟩
   rw [if_pos k]
   unfold Hg.isIt at k
   simp only [Bool.and_eq_true, beq_iff_eq] at k
   refine ⟨k.1, ?_⟩
   have := Zv hf hx k.2
   unfold kH
   simp [this]
theorem YR (f : Int → Int) : qp f Dd.none = f := rfl
theorem aca {f : Int → Int} {p q : Pl} {d : Dd} {u : Int} (hs : Stp p q d.sends d.gone) (hn : (jT p).Nodup) (h : ∃ x ∈ p.list, x.up = u ∧ kH x = true) : zz (qp f d) u 0 = qp (zz f u 0) d := by
 have hns : d.sends.contains u = false := by
  rw [Bool.eq_false_iff]
  intro k
  obtain ⟨x, hx, rfl, h2⟩ := h
  obtain ⟨i, hi⟩ := List.mem_iff_getElem?.1 hx
  obtain ⟨y, hy⟩ : ∃ y, q.list[i]? = some y := ⟨_, List.getElem?_eq_getElem (by rw [hs.len]; exact (List.getElem?_eq_some_iff.1 hi).1)⟩
  have := (hs.row i x y hi hy).2.2.1 (List.contains_iff_mem.1 k)
  rw [h2] at this
  cases this
 funext v
 unfold zz qp
 by_cases e : v = u
 · subst e; rw [if_pos rfl, hns]; simp
 · rw [if_neg e]; dsimp only; rw [if_neg e]
theorem BI.pass {us : List Int} {f : Int → Int} {vs : List Vote} {a : As} (h : BI us f vs a) (hn : us.Nodup) (ha : AOk a) (ho : a.over = false) (u t : Int) : (Aq.pass a u t).2.done = false ∧ ((Aq.pass a u t).1.over = false → BI us (zz (qp f (Aq.pass a u t).2) u 0) vs (Aq.pass a u t).1) := by
 have hnp : (jT a.p).Nodup := by rw [h.ups]; exact hn
 have hfu := h.opens u
 have hcl : (Hg.close a.p u).2 = kW a.p u := rfl
 unfold Aq.pass
 rw [if_neg (by rw [ho]; decide)]
 cases hc : (Hg.close a.p u).2 with
 | false =>
   rw [if_neg (by decide)]
   refine ⟨rfl, fun _ => ?_⟩
   have hl := zO hc
   have e : zz (qp f Dd.none) u 0 = f := by
    rw [YR]
    funext v
    unfold zz
    by_cases k : v = u
    · rw [if_pos k, k, hfu, ← hcl, hc]; rfl
    · rw [if_neg k]
   rw [e]
   exact ⟨(congrArg (List.map _) hl).trans h.ups, fun v => by rw [h.opens]; unfold kW; rw [hl], h.votes, fun b hb => by rw [hl]; exact h.shut b hb, h.nodec⟩
 | true =>
   rw [if_pos rfl]
   have hop : kW a.p u = true := hcl.symm.trans hc
   have hput : ∀ b ∈ (Vd.putB a.l ⟨⟨u, Vdt.none, 0⟩, true⟩).1, b ∈ a.l ∨ b.v.up = u := fun b hb => by
    unfold Vd.putB at hb
    split at hb
    · exact Or.inl hb
    split at hb
    · exact Or.inl hb
    · rcases List.mem_append.1 hb with hb | hb
      · exact Or.inl hb
      · exact Or.inr (by rw [List.mem_singleton.1 hb])
   have hvo : Vd.votesB (Vd.putB a.l ⟨⟨u, Vdt.none, 0⟩, true⟩).1 = Vd.votesB a.l := by
    unfold Vd.putB
    split
    · rfl
    split
    · rfl
    · rw [qo]; rfl
   have hdec : Aq.decided { (Aq.upto { a with p := (Hg.close a.p u).1 } t) with l := (Vd.putB a.l ⟨⟨u, Vdt.none, 0⟩, true⟩).1 } = none := by
    rw [zv]
    show zd a.pol a.want a.q (Vd.votesB (Vd.putB a.l ⟨⟨u, Vdt.none, 0⟩, true⟩).1) = none
    rw [hvo]
    exact (zv a).symm.trans (h.nodec ho)
   have hcu := ui hnp u
   have hok := AOk.put (a := Aq.upto { a with p := (Hg.close a.p u).1 } t) ((ha.close u).upto t) ⟨⟨u, Vdt.none, 0⟩, true⟩
   have hsh : ∀ v, (∃ x ∈ a.p.list, x.up = v ∧ kH x = true) ∨ (v = u ∧ kW a.p u = true) → ∃ x ∈ (Hg.close a.p u).1.list, x.up = v ∧ kH x = true := fun v => Q3 ha.fr hnp u
   refine ⟨?_, fun _ => ?_⟩
   · rw [JS hdec, Q2]; rfl
   · have hb := BI.look (us := us) (f := zz f u 0) (vs := vs) (p0 := (Hg.close a.p u).1) (a := { (Aq.upto { a with p := (Hg.close a.p u).1 } t) with l := (Vd.putB a.l ⟨⟨u, Vdt.none, 0⟩, true⟩).1 }) (d := Dd.none) (ha.fr.close u) (ha.fr.close u) hn (hcu.trans h.ups) (Stp.same rfl rfl) (Q1 hnp h.opens u) (by show Vd.votesB _ = vs; rw [hvo]; exact h.votes) (fun b hb => by
      rcases hput b hb with hb | hb
      · exact hsh _ (Or.inl (h.shut b hb))
      · exact hsh _ (Or.inr ⟨hb, hop⟩)) ho rfl rfl hok
     obtain ⟨r, e1, e2, e3, _⟩ := zb { (Aq.upto { a with p := (Hg.close a.p u).1 } t) with l := (Vd.putB a.l ⟨⟨u, Vdt.none, 0⟩, true⟩).1 } Dd.none (ha.fr.close u) (by show (jT (Hg.close a.p u).1).Nodup; rw [hcu]; exact hnp) ho rfl rfl
     have hst : Stp (Hg.close a.p u).1 (Aq.look { (Aq.upto { a with p := (Hg.close a.p u).1 } t) with l := (Vd.putB a.l ⟨⟨u, Vdt.none, 0⟩, true⟩).1 } Dd.none).1.p (Aq.look { (Aq.upto { a with p := (Hg.close a.p u).1 } t) with l := (Vd.putB a.l ⟨⟨u, Vdt.none, 0⟩, true⟩).1 } Dd.none).2.sends (Aq.look { (Aq.upto { a with p := (Hg.close a.p u).1 } t) with l := (Vd.putB a.l ⟨⟨u, Vdt.none, 0⟩, true⟩).1 } Dd.none).2.gone := by rw [e1, e3]; exact e2
     rw [aca hst (by rw [hcu]; exact hnp) (hsh _ (Or.inr ⟨rfl, hop⟩))]
     exact hb
theorem BI.vote {us : List Int} {f : Int → Int} {vs : List Vote} {a : As} (h : BI us f vs a) (hn : us.Nodup) (hr : ∀ u ∈ us, 0 ≤ u ∧ u < 9) (ha : AOk a) (ho : a.over = false) (u : Int) (v : Vdt) (t now : Int) :
 (f u = 0 → (Aq.vote a u v t now).2 = Dd.none ∧ BI us f vs (Aq.vote a u v t now).1 ∧ (Aq.vote a u v t now).1.over = false) ∧
 (f u ≠ 0 → adU (zd a.pol a.want a.q (vs ++ [⟨u, v, t⟩])) (Aq.vote a u v t now).2 ∧ (0 ≤ u ∧ u < 9) ∧ ((Aq.vote a u v t now).1.over = false → BI us (qp (zz f u 0) (Aq.vote a u v t now).2) (vs ++ [⟨u, v, t⟩]) (Aq.vote a u v t now).1)) := by
 have hnp : (jT a.p).Nodup := by rw [h.ups]; exact hn
 have hfu := h.opens u
 have hcl : (Hg.close a.p u).2 = kW a.p u := rfl
 unfold Aq.vote
 rw [if_neg (by rw [ho]; decide)]
 cases hc : (Hg.close a.p u).2 with
 | false =>
   rw [if_neg (by decide)]
   have hl := zO hc
   refine ⟨fun _ => ⟨rfl, ⟨(congrArg (List.map _) hl).trans h.ups, fun v => by rw [h.opens]; unfold kW; rw [hl], h.votes, fun b hb => by rw [hl]; exact h.shut b hb, h.nodec⟩, ho⟩, fun k => ?_⟩
   rw [← hcl, hc] at hfu
   exact absurd hfu k
 | true =>
   rw [if_pos rfl]
   have hop : kW a.p u = true := hcl.symm.trans hc
   rw [hop] at hfu
   refine ⟨fun k => (by rw [hfu] at k; cases k), fun _ => ?_⟩
   have hui : u ∈ jT a.p := Decidable.byContradiction fun k => by rw [JR k] at hop; cases hop
   have hur := hr u (by rw [← h.ups]; exact hui)
   have hnb : Vd.hasB a.l u = false := by
    rw [Bool.eq_false_iff]
    intro k
    unfold Vd.hasB at k
    rw [List.any_eq_true] at k
    obtain ⟨b, hb, hbu⟩ := k
    obtain ⟨x, hx, e1, e2⟩ := h.shut b hb
    have : x.up = u := by rw [e1]; simpa using hbu
    subst this
    rw [zu hnp hx] at hop
    have := ((Q0 ha.fr hx).1 hop).2
    rw [e2] at this
    cases this
   have hpb : (Vd.putB a.l ⟨⟨u, v, t⟩, false⟩).1 = a.l ++ [⟨⟨u, v, t⟩, false⟩] := by
    unfold Vd.putB
    rw [if_neg (by show ¬ (u < 0 ∨ 9 ≤ u); omega), if_neg (by rw [hnb]; decide)]
   have hvo : Vd.votesB (Vd.putB a.l ⟨⟨u, v, t⟩, false⟩).1 = vs ++ [⟨u, v, t⟩] := by
    rw [hpb, qo]
    show Vd.votesB a.l ++ [_] = _
    rw [show Vd.votesB a.l = vs from h.votes]
   have hcu := ui hnp u
   have hok := AOk.put (a := Aq.upto { a with p := (Hg.close a.p u).1 } now) ((ha.close u).upto now) ⟨⟨u, v, t⟩, false⟩
   have hsh : ∀ v, (∃ x ∈ a.p.list, x.up = v ∧ kH x = true) ∨ (v = u ∧ kW a.p u = true) → ∃ x ∈ (Hg.close a.p u).1.list, x.up = v ∧ kH x = true := fun v => Q3 ha.fr hnp u
   refine ⟨?_, hur, fun _ => ?_⟩
   · have := aap { (Aq.upto { a with p := (Hg.close a.p u).1 } now) with l := (Vd.putB a.l ⟨⟨u, v, t⟩, false⟩).1 } Dd.none rfl
     rw [zv] at this
     have e : Aq.votes { (Aq.upto { a with p := (Hg.close a.p u).1 } now) with l := (Vd.putB a.l ⟨⟨u, v, t⟩, false⟩).1 } = vs ++ [⟨u, v, t⟩] := hvo
     rw [e] at this
     exact this
   · exact BI.look (us := us) (f := zz f u 0) (vs := vs ++ [⟨u, v, t⟩]) (p0 := (Hg.close a.p u).1) (a := { (Aq.upto { a with p := (Hg.close a.p u).1 } now) with l := (Vd.putB a.l ⟨⟨u, v, t⟩, false⟩).1 }) (d := Dd.none) (ha.fr.close u) (ha.fr.close u) hn (hcu.trans h.ups) (Stp.same rfl rfl) (Q1 hnp h.opens u) (by show Vd.votesB _ = _; exact hvo) (fun b hb => by
      rw [show ({ (Aq.upto { a with p := (Hg.close a.p u).1 } now) with l := (Vd.putB a.l ⟨⟨u, v, t⟩, false⟩).1 } : As).l = a.l ++ [⟨⟨u, v, t⟩, false⟩] from hpb] at hb
      rcases List.mem_append.1 hb with hb | hb
      · exact hsh _ (Or.inl (h.shut b hb))
      · rw [List.mem_singleton.1 hb]; exact hsh _ (Or.inr ⟨rfl, hop⟩)) ho rfl rfl hok
end
section
open Go.RowKit
structure RemO (q : Nat × Obj) (L R : ja) : Prop where out : ∀ p, cnt p L = hit p q + cnt p R
structure RemA (A L R : ja) : Prop where out : ∀ p, cnt p L = cnt p A + cnt p R
structure Fits (M L : ja) : Prop where out : ∀ p, cnt p M ≤ cnt p L
section
variable {q r : Nat × Obj} {A B L M R R1 : ja}
theorem US : RemO q (q :: R) R := ⟨fun p => by rw [ku]⟩
theorem aaq {b : Nat} {o o' : Obj} (e : o' = o) : RemO (b, o) ((b, o') :: R) R := e ▸ US
theorem aar (h : RemO q R R1) : RemO q (r :: R) (r :: R1) := ⟨fun p => by rw [ku, ku, h.out p]; omega⟩
theorem acb (h : RemO q R R1) : RemO q (B ++ R) (B ++ R1) := ⟨fun p => by rw [qc, qc, h.out p]; omega⟩
theorem aas : RemA A (A ++ R) R := ⟨fun p => by rw [qc]⟩
theorem acd : RemA A A [] := ⟨fun p => by rw [KU]; omega⟩
theorem aat (h : RemA A R R1) : RemA A (r :: R) (r :: R1) := ⟨fun p => by rw [ku, ku, h.out p]; omega⟩
theorem ace (h : RemA A R R1) : RemA A (B ++ R) (B ++ R1) := ⟨fun p => by rw [qc, qc, h.out p]; omega⟩
theorem aau : Fits L L := ⟨fun p => Nat.le_refl _⟩
theorem acf : Fits [] L := ⟨fun p => by rw [KU]; omega⟩
theorem aav (h : RemO q L R) (k : Fits M R) : Fits (q :: M) L := ⟨fun p => by rw [ku, h.out p]; have := k.out p; omega⟩
theorem acg (h : RemA A L R) (k : Fits M R) : Fits (A ++ M) L := ⟨fun p => by rw [qc, h.out p]; have := k.out p; omega⟩
theorem ach (h : RemA A L R) : Fits A L := ⟨fun p => by rw [h.out p]; omega⟩
theorem aci {N : ja} (h : Fits (A ++ (M ++ N)) L) : Fits ((A ++ M) ++ N) L := by rw [List.append_assoc]; exact h
theorem acj (h : Fits (q :: (A ++ M)) L) : Fits ((q :: A) ++ M) L := h
theorem ack (h : Fits M L) : Fits ([] ++ M) L := h
theorem aaw {L' : ja} (e : L = L') (h : Fits M L') : Fits M L := e ▸ h
end
theorem ahd {q : Nat × Obj} {L R : ja} (h : RemO q L R := by repeat (first | with_reducible exact US | ((with_reducible apply aaq); exact rfl) | with_reducible apply aar | with_reducible apply acb)) : RemO q L R := h
theorem aef {A L R : ja} (h : RemA A L R := by repeat (first | with_reducible exact aas | with_reducible exact acd | with_reducible apply aat | with_reducible apply ace)) : RemA A L R := h
theorem j8 {M L : ja} (h : Fits M L := by
 apply aaw
 · (try simp only [List.append_assoc, List.cons_append, List.nil_append]); exact rfl
 repeat (first | with_reducible exact aau | with_reducible exact acf | with_reducible apply aci | with_reducible apply acj | with_reducible apply ack | ((with_reducible apply aav); · exact ahd) | ((with_reducible apply acg); · exact aef) | ((with_reducible apply ach); exact aef))) : Fits M L := h
section
variable {P : Program} {G : World} {n : Nat} {ρ : jB} {L M : ja} {op : Op} {ty : TypeId} {v : Value} {Q : Exit → Act → World → Prop} {ops : Array Oper}
theorem Fits.heap (h : Fits M L) : ∀ w, Heap G w L → Heap G w M := fun w hw => hw.cnt h.out
theorem OpT.fits {Φ : Value → ja → Prop} (h : OpT P G ρ M op ty Φ) (k : Fits M L) : OpT P G ρ L op ty Φ := OpT.heap (fun w hw => hw.cnt k.out) h
theorem W1 {d : Nat} {f : FuncId} {xs : List Operand} {ats : Array TypeId} {pos : String} {after : Array Edge} {rest : List Oper} {vs : List Value} {Φ : Value → ja → Prop}
 (hspec : Spec P G f vs.toArray M Φ) (hr : ∀ v L', Φ v L' → TL P G ops n ((d, v) :: ρ) L' rest Q) (hv : kK ρ xs = some vs := by exact rfl) (hf : Fits M L := by exact j8) (hb : qk P f = true := by kernel_rfl) (hd : Nat.blt d n = true := by exact rfl) :
 TL P G ops n ρ L (⟨some d, .call ⟨.value (.func f), xs.toArray, ats⟩, ty, pos, after, none⟩ :: rest) Q :=
 jx ((jb hb hv hspec).fits hf) hd hr
theorem aeg {d : Nat} {f : FuncId} {xs : List Operand} {ats : Array TypeId} {rest : List Oper} {vs : List Value} {Φ : Value → ja → Prop}
 (hspec : Spec P G f vs.toArray M Φ) (hr : ∀ v L', Φ v L' → TL P G ops n ((d, v) :: ρ) L' rest Q) (hv : kK ρ xs = some vs := by exact rfl) (hf : Fits M L := by exact j8) (hb : qk P f = true := by kernel_rfl) (hd : Nat.blt d n = true := by exact rfl) :
 TG P G ops n ρ L d (.call ⟨.value (.func f), xs.toArray, ats⟩) ty rest Q :=
 uo ((jb hb hv hspec).fits hf) hd hr
theorem Q4 {d : Nat} {f : FuncId} {xs : List Operand} {ats : Array TypeId} {pos : String} {after : Array Edge} {rest : List Oper} {vs : List Value}
 (hspec : Spec P G f vs.toArray L fun u N => u = v ∧ N = L) (hr : TL P G ops n ((d, v) :: ρ) L rest Q) (hv : kK ρ xs = some vs := by exact rfl) (hb : qk P f = true := by kernel_rfl) (hd : Nat.blt d n = true := by exact rfl) :
 TL P G ops n ρ L (⟨some d, .call ⟨.value (.func f), xs.toArray, ats⟩, ty, pos, after, none⟩ :: rest) Q :=
 jN (jb hb hv hspec) hd hr
theorem zC {d : Nat} {f : FuncId} {xs : List Operand} {ats : Array TypeId} {rest : List Oper} {vs : List Value}
 (hspec : Spec P G f vs.toArray L fun u N => u = v ∧ N = L) (hr : TL P G ops n ((d, v) :: ρ) L rest Q) (hv : kK ρ xs = some vs := by exact rfl) (hb : qk P f = true := by kernel_rfl) (hd : Nat.blt d n = true := by exact rfl) :
 TG P G ops n ρ L d (.call ⟨.value (.func f), xs.toArray, ats⟩) ty rest Q :=
 jX (jb hb hv hspec) hd hr
theorem Zw {d : Nat} {f : FuncId} {x : Operand} {xs : List Operand} {ats : Array TypeId} {pos : String} {after : Array Edge} {rest : List Oper} {vs cap : List Value} {args : Array Value} {Φ : Value → ja → Prop}
 (hspec : Spec P G f args M Φ) (hr : ∀ v L', Φ v L' → TL P G ops n ((d, v) :: ρ) L' rest Q) (hx : ev ρ x = some (.func (.func f) #[] cap.toArray) := by exact rfl) (hv : kK ρ xs = some vs := by exact rfl) (he : args = (vs ++ cap).toArray := by exact rfl) (hf : Fits M L := by exact j8) (hb : qk P f = true := by kernel_rfl) (hd : Nat.blt d n = true := by exact rfl) :
 TL P G ops n ρ L (⟨some d, .call ⟨.value x, xs.toArray, ats⟩, ty, pos, after, none⟩ :: rest) Q :=
 jx ((Wo hb hx hv (he ▸ hspec)).fits hf) hd hr
theorem aeT {f : FuncId} {xs : List Operand} {vs : List Value} (ha : kK ρ xs = some vs) : OpQ P ρ L (.makeFunc (.func f) #[] xs.toArray) ty (.func (.func f) #[] vs.toArray) :=
 ⟨fun r hr w hw o ho _ => by
   have hm := um hr xs vs ha
   simp [execOp, ho, Instr.makeFunc, hm]⟩
end
inductive Upd (b : Nat) (o o' : Obj) : ja → ja → Prop
 | here {R : ja} : Upd b o o' ((b, o) :: R) ((b, o') :: R)
 | cons {r : Nat × Obj} {R R' : ja} : Upd b o o' R R' → Upd b o o' (r :: R) (r :: R')
 | app {B R R' : ja} : Upd b o o' R R' → Upd b o o' (B ++ R) (B ++ R')
theorem Upd.perm {b : Nat} {o o' : Obj} : ∀ {L L' : ja}, Upd b o o' L L' → ∃ R, L.Perm ((b, o) :: R) ∧ ((b, o') :: R).Perm L'
 | _, _, .here => ⟨_, List.Perm.refl _, List.Perm.refl _⟩
 | _, _, .cons (r := r) h => by
   obtain ⟨R, h1, h2⟩ := h.perm
   exact ⟨r :: R, (h1.cons r).trans (List.Perm.swap _ _ _), (List.Perm.swap _ _ _).trans (h2.cons r)⟩
 | _, _, .app (B := B) h => by
   obtain ⟨R, h1, h2⟩ := h.perm
   exact ⟨B ++ R, (h1.append_left B).trans List.perm_middle, List.perm_middle.symm.trans (h2.append_left B)⟩
theorem aax {b : Nat} {o o' : Obj} {L L' : ja} (h : Upd b o o' L L' := by repeat (first | with_reducible exact Upd.here | with_reducible apply Upd.cons | with_reducible apply Upd.app)) : Upd b o o' L L' := h
section
variable {P : Program} {G : World} {n : Nat} {ρ : jB} {L L' : ja} {op : Op} {ty : TypeId} {v : Value} {Q : Exit → Act → World → Prop} {ops : Array Oper}
theorem stU {x y : Operand} {pos : String} {after : Array Edge} {rest : List Oper} {b off : Nat} {t : TypeId} {C C' : Array Value} {te : TypeId} {v u : Value} (hx : ev ρ x = some (.pointer (some ⟨b, off, none⟩))) (hy : ev ρ y = some v)
 (h1 : Qa P t = true) (hu : Upd b (.cells C te (0, 0)) (.cells C' te (0, 0)) L L') (hone : v.oneCell' = true) (hv : C[off]? = some u) (hC : C.setIfInBounds off v = C') (h : TL P G ops n ρ L' rest Q) :
 TL P G ops n ρ L (⟨none, .store t x y, ty, pos, after, none⟩ :: rest) Q := by
 obtain ⟨R, p1, p2⟩ := hu.perm
 exact qq p1 (qx hx hy h1 hone hv hC (qq p2 h))
theorem Q5 {x y : Operand} {pos : String} {after : Array Edge} {rest : List Oper} {b k : Nat} {t : TypeId} {C D : Array Value} {te : TypeId} (hx : ev ρ x = some (.pointer (some ⟨b, 0, none⟩))) (hy : ev ρ y = some (.agg D))
 (ht : jV P t k = true) (hu : Upd b (.cells C te (0, 0)) (.cells D te (0, 0)) L L') (hC : C.size = k) (hD : D.size = k) (hone : Jx D = true) (h : TL P G ops n ρ L' rest Q) : TL P G ops n ρ L (⟨none, .store t x y, ty, pos, after, none⟩ :: rest) Q := by
 obtain ⟨R, p1, p2⟩ := hu.perm
 exact qq p1 (qQ hx hy ht hC hD hone (qq p2 h))
theorem qV {fn : Func} {Φ : Value → ja → Prop} (t : Nat) {v : Value} {M : ja} (hr : fn.results = #[.tmp t]) (hv : ρ.lookup t = some v) (h : Φ v M) (hf : Fits M L) : TQ G n ρ L .ret (bodyPost P fn (kT G Φ)) := jr (fun w hw => hw.cnt hf.out) (jf t v hr hv h)
theorem ahe {fn : Func} {Φ : Value → ja → Prop} {M : ja} (hr : fn.results = #[]) (h : Φ (.tuple #[]) M) (hf : Fits M L) : TQ G n ρ L .ret (bodyPost P fn (kT G Φ)) := jr (fun w hw => hw.cnt hf.out) (zj hr h)
end
section
variable {P : Program} {G : World} {n : Nat} {ρ : jB} {L : ja} {ty : TypeId} {Q : Exit → Act → World → Prop} {ops : Array Oper}
theorem acl {α : Type} {r : Rp α} (y : α) {d : Nat} {s x : Operand} {pos : String} {after : Array Edge} {rest : List Oper} {t e te : TypeId} {sz bytes bl : Nat} {z : Value} {a : Option Addr} {c : Nat} {cs : List Value} {l : List α} {B F L0 : ja}
 (hrow : ORow r e sz L0 a c l B) (hy : r L0 cs y) (hr : ∀ a' c' B', ORow r e sz L0 a' c' (l ++ [y]) B' → TL P G ops n ((d, .slice a' (l ++ [y]).length c') :: ρ) (B' ++ F) rest Q)
 (E : ElemTy P t e sz bytes z := by exact etO) (hs : ev ρ s = some (.slice a l.length c) := by exact rfl) (hx : ev ρ x = some (.slice (some ⟨bl, 0, none⟩) 1 1) := by exact rfl) (hf : Fits ((bl, .cells cs.toArray te (0, 0)) :: (B ++ F)) L := by exact j8)
 (hn : cs.length = sz := by exact rfl) (hone : cs.all (·.oneCell') = true := by exact rfl) (h63 : l.length + 1 ≤ maxLen := by unfold maxLen; omega) (hby : (l.length + 1) * bytes ≤ 140737488355328 := by omega) (hd : Nat.blt d n = true := by exact rfl) :
 TL P G ops n ρ L (⟨some d, .call ⟨.builtin .append, #[s, x], #[t, t]⟩, ty, pos, after, none⟩ :: rest) Q :=
 jx ((qO E hs hx hrow hn (fun v hv => List.all_eq_true.1 hone v hv) hy h63 hby).fits hf) hd fun v M ⟨a', c', B', h1, h2, h3⟩ => by subst h1 h3; exact hr a' c' B' h2
end
def uZ (n k : Nat) : Array Bool := ((List.range n).map fun i => decide (i < k)).toArray
theorem aay (n : Nat) : uZ n 0 = Array.replicate n false := by
 unfold uZ
 apply Array.ext <;> simp
theorem W2 (n k : Nat) : (uZ n k).setIfInBounds k true = uZ n (k + 1) := by
 unfold uZ
 rw [List.setIfInBounds_toArray]
 congr 1
 apply List.ext_getElem
 · simp
 · intro i h1 h2
   rw [List.getElem_set]
   simp only [List.getElem_map, List.getElem_range]
   split
   · rename_i e; subst e; simp
   · rename_i e; rw [decide_eq_decide]; omega
section
variable {P : Program} {G : World} {n : Nat} {ρ : jB} {L : ja} {v : Value} {Q : Exit → Act → World → Prop} {ops : Array Oper}
theorem Zx {id : Nat} (hm : P.follows .mixedOrders = true) (K : ja) (W : List Nat) (h : TA P G ops n K W Q ops.size (uZ ops.size 0) ρ L) : T P G n ρ L (.region id ops true) Q := jw hm K W (by rw [← aay]; exact h)
theorem K5 {id : Nat} (hm : P.follows .mixedOrders = true) (h : TA P G ops n L [] Q ops.size (uZ ops.size 0) ρ L) : T P G n ρ L (.region id ops true) Q := Zx hm L [] h
theorem Zy {id : Nat} (W : List Nat) (hm : P.follows .mixedOrders = true) (h : TA P G ops n L W Q ops.size (uZ ops.size 0) ρ L) : T P G n ρ L (.region id ops true) Q := Zx hm L W h
theorem tkS {K : ja} {W : List Nat} {fuel N k : Nat} {d : Nat} {oi : Oper} (h : TA P G ops n K W Q fuel (uZ N (k + 1)) ((d, v) :: ρ) L) (hi : ops[k]? = some oi := by exact rfl) (hd : oi.dst = some d := by exact rfl) (ht : VS ops W n (uZ N k) k d = true := by kernel_rfl)
 (hq : Quiet P G ops K ρ oi v := by exact qqQ) (hK : ∀ p ∈ K, p ∈ L := by first | exact fun p h => h | assumption | (intro p hp; grind)) : TA P G ops n K W Q (fuel + 1) (uZ N k) ρ L := ju k hi hd ht hq hK (by rw [W2]; exact h)
theorem tkL {K : ja} {W : List Nat} {fuel N k : Nat} {d : Nat} {oi : Oper} (hi : ops[k]? = some oi) (hd : oi.dst = some d) (ht : VS ops W n (uZ N k) k d = true) (hq : Quiet P G ops K ρ oi v) (hK : ∀ p ∈ K, p ∈ L) (h : TA P G ops n K W Q fuel (uZ N (k + 1)) ((d, v) :: ρ) L) : TA P G ops n K W Q (fuel + 1) (uZ N k) ρ L := tkS h hi hd ht hq hK
theorem ahf {K : ja} {W : List Nat} {fuel N k : Nat} {oi : Oper} {Φ : Value → ja → Prop} (hO : OpT P G ρ L oi.op oi.type Φ) (h : ∀ v L', Φ v L' → (k ∈ W ∨ ∀ p ∈ K, p ∈ L') ∧ TA P G ops n K W Q fuel (uZ N (k + 1)) ρ L') (hi : ops[k]? = some oi := by exact rfl) (hd : oi.dst = none := by exact rfl) (hg : oi.guard = none := by exact rfl) (hr : Region.ready .any ops (uZ N k) = [k] := by decide +kernel) :
 TA P G ops n K W Q (fuel + 1) (uZ N k) ρ L := jU k hr hi hd hg hO (by intro v L' hv; rw [W2]; exact h v L' hv)
theorem aeh {K : ja} {W : List Nat} {fuel : Nat} {listed : Array Bool} {M : ja} (i : Nat) {d : Nat} {f : FuncId} {xs : List Operand} {ats : Array TypeId} {ty : TypeId} {pos : String} {after : Array Edge} {vs : List Value} {args : Array Value} {Φ : Value → ja → Prop}
 (hspec : Spec P G f args M Φ) (h : ∀ v L', Φ v L' → (∀ p ∈ K, p ∈ L') ∧ TA P G ops n K W Q fuel (listed.setIfInBounds i true) ((d, v) :: ρ) L') (hi : ops[i]? = some ⟨some d, .call ⟨.value (.func f), xs.toArray, ats⟩, ty, pos, after, none⟩ := by exact rfl) (ha : kK ρ xs = some vs := by exact rfl) (he : args = vs.toArray := by exact rfl) (hf : Fits M L := by exact j8)
 (hb : qk P f = true := by kernel_rfl) (hdn : Nat.blt d n = true := by exact rfl) (hr : Region.ready .any ops listed = [i] := by decide +kernel) : TA P G ops n K W Q (fuel + 1) listed ρ L :=
 jD i hr hi rfl hdn rfl ((jb hb ha (he ▸ hspec)).fits hf) fun v L' hv => ⟨Or.inr (h v L' hv).1, (h v L' hv).2⟩
theorem acm {K : ja} {W : List Nat} {fuel : Nat} {listed : Array Bool} (h : TQ G n ρ L .normal Q) (hr : Region.ready .any ops listed = [] := by decide +kernel) : TA P G ops n K W Q fuel listed ρ L := KO hr h
end
theorem drR {P Q : Prop} (k : Q) (run : Hd Q → P := by intro k; (repeat1' (apply tkL; (· exact rfl); (· exact rfl); (· kernel_rfl); (· exact qqQ); (· first | exact fun p h => h | assumption | (intro p hp; grind)))); exact k.out) : P := run ⟨k⟩
theorem goU {P Q : Prop} (k : Q) (run : Hd Q → P := by intro k; (repeat1' (first | with_reducible apply qj | with_reducible apply uj | (apply jy; (· exact yz); (· exact rfl)) | with_reducible apply jO | with_reducible apply j7 | with_reducible apply uA | with_reducible apply qC | with_reducible apply uK | with_reducible apply qY | with_reducible apply yA | with_reducible apply JX | with_reducible apply kM | with_reducible apply kX | with_reducible apply j0 | with_reducible apply kA | with_reducible apply kN | with_reducible apply kz | with_reducible apply uB | (apply kB; (· decide)) | (apply jy; (· apply ki; (· exact rfl); (· exact kj); (· exact rfl)); (· exact rfl)) | (apply jy; (· apply ke; (· exact rfl); (· exact kj); (· exact rfl)); (· exact rfl)) | (apply kY; (· exact rfl); (· exact rfl); (· exact kj)) | (apply jI; (· exact yz); (· exact rfl)) | (apply jI; (· apply ki; (· exact rfl); (· exact kj); (· exact rfl)); (· exact rfl)) | (apply jI; (· apply ke; (· exact rfl); (· exact kj); (· exact rfl)); (· exact rfl)) | (apply yD; (· exact rfl); (· exact rfl); (· exact kj); (· exact rfl)) | (apply qy; (· exact rfl); (· exact rfl); (· exact rfl)) | (apply jy; (· exact aa5); (· exact rfl)) | (apply jI; (· exact aa5); (· exact rfl)) | (apply Q5; (· exact rfl); (· exact rfl); (· exact stO); (· exact aax); (· exact rfl); (· exact rfl); (· exact rfl)) | (apply stU; (· exact rfl); (· exact rfl); (· exact onO); (· exact aax); (· exact rfl); (· exact Qk); (· exact rfl)) | (refine K5 jc ?_; (repeat1' (apply tkL; (· exact rfl); (· exact rfl); (· kernel_rfl); (· exact qqQ); (· exact fun p h => h))); (apply KO; (· decide +kernel))) | (apply J0; (· exact rfl); (· exact kj)) | (apply Vh; (· exact rfl); (· exact kj)))); exact k.out) : P := run ⟨k⟩
theorem goV {P Q : Prop} (k : Q) (run : Hd Q → P := by intro k; (repeat1' (first | with_reducible apply qj | with_reducible apply uj | (apply jy; (· exact yz); (· exact rfl)) | with_reducible apply jO | with_reducible apply j7 | with_reducible apply uA | with_reducible apply qC | with_reducible apply uK | with_reducible apply qY | with_reducible apply yA | with_reducible apply JX | with_reducible apply kM | with_reducible apply kX | with_reducible apply j0 | with_reducible apply kA | with_reducible apply kN | with_reducible apply kz | with_reducible apply uB | (apply kB; (· decide)) | (apply jy; (· apply ki; (· exact rfl); (· exact kj); (· exact rfl)); (· exact rfl)) | (apply jy; (· apply ke; (· exact rfl); (· exact kj); (· exact rfl)); (· exact rfl)) | (apply kY; (· exact rfl); (· exact rfl); (· exact kj)) | (apply jI; (· exact yz); (· exact rfl)) | (apply jI; (· apply ki; (· exact rfl); (· exact kj); (· exact rfl)); (· exact rfl)) | (apply jI; (· apply ke; (· exact rfl); (· exact kj); (· exact rfl)); (· exact rfl)) | (apply yD; (· exact rfl); (· exact rfl); (· exact kj); (· exact rfl)) | (apply qy; (· exact rfl); (· exact rfl); (· exact rfl)) | (apply jy; (· exact aa5); (· exact rfl)) | (apply jI; (· exact aa5); (· exact rfl)) | (refine K5 jc ?_; (repeat1' (apply tkL; (· exact rfl); (· exact rfl); (· kernel_rfl); (· exact qqQ); (· exact fun p h => h))); (apply KO; (· decide +kernel))) | (apply J0; (· exact rfl); (· exact kj)) | (apply Vh; (· exact rfl); (· exact kj)))); exact k.out) : P := run ⟨k⟩
end
section
open Go.RowKit Go.Maps Go.ChangeMaps Go.MapKept
def acn (v : Value) : Option (DataW Value × List MemPlace) := some (.held v, [])
def MapIs (P : Program) (k : TypeId) (w : World) (b n : Nat) (f : Lit → Option Value) : Prop :=
 ∃ D, w.ownsMap P k acn b n D ∧ ∀ kl z, D.atKey kl z = match f kl with | some v => .held v | none => z
variable {P : Program} {k e t : TypeId} {w : World} {b n : Nat} {f : Lit → Option Value}
theorem MapIs.mono (h : MapIs P k w b n f) {n' : Nat} (hn : n ≤ n') : MapIs P k w b n' f := by
 obtain ⟨D, h, h2⟩ := h
 exact ⟨D, h.mono hn, h2⟩
theorem MapIs.isMap (h : MapIs P k w b n f) : ∃ es c, w.heap[b]? = some (.map es c) := by
 obtain ⟨D, ⟨es, clock, hb, _⟩, _⟩ := h
 exact ⟨es, clock, hb⟩
theorem MapIs.made (w : World) (P : Program) (k : TypeId) : MapIs P k (w.alloc (.map #[] 0)) w.heap.size 0 (fun _ => none) :=
 ⟨_, World.ownsMap_made w P k acn, fun _ _ => rfl⟩
theorem MapIs.lt (h : MapIs P k w b n f) : b < w.heap.size := by
 obtain ⟨D, h, _⟩ := h
 exact h.lt
theorem MapIs.of_block {w' : World} (h : MapIs P k w b n f) (hb : w'.heap[b]? = w.heap[b]?) : MapIs P k w' b n f := by
 obtain ⟨D, ⟨es, clock, h1, h2⟩, h3⟩ := h
 exact ⟨D, ⟨es, clock, hb.trans h1, h2⟩, h3⟩
theorem MapIs.below {w' : World} {B : Nat} (h : MapIs P k w b n f) (hb : Below B w w') (hB : b < B) : MapIs P k w' b n f :=
 h.of_block (hb.block b hB)
theorem MapIs.alloc (h : MapIs P k w b n f) (o : Obj) : MapIs P k (w.alloc o) b n f :=
 h.of_block (Below.heap_alloc w o b h.lt)
theorem MapIs.drew (h : MapIs P k w b n f) : MapIs P k w.drew b n f := h
theorem MapIs.setCell (h : MapIs P k w b n f) {a : Addr} (ha : b ≠ a.block) (u : Value) : MapIs P k (w.setCell a u) b n f :=
 h.of_block (Below.heap_setCell w a u b ha)
theorem MapIs.grown {w' : World} {b' : Nat} (h : MapIs P k w b n f) (hg : w.grownBy w' (some b')) (hne : b ≠ b') : MapIs P k w' b n f :=
 h.of_block (hg.block b h.lt (by simpa using hne))
theorem MapIs.look (c : Bool) (h : MapIs P k w b n f) (K : Keyed P k) (ht : P.underlying t = some (.map k e)) {z : Value} (hz : (zeroValue e).run P w = .ok z w)
 {key : Value} {kl : Lit} (hkey : keyOf P k key = some kl) :
 (Instr.lookup t (.map (some b)) key c).run P w = .ok (if c then .tuple #[(f kl).getD z, .bool (f kl).isSome] else (f kl).getD z) w := by
 obtain ⟨D, ⟨es, clock, hb, F, _, rfl⟩, hD⟩ := h
 rcases Maps.fit_look c K ht hz hb F hkey with ⟨hrun, _, hat⟩ | ⟨e0, y, _, _, hrun, hRv, hat, _⟩
 · have hf : f kl = none := by
    cases hf : f kl with
    | none => rfl
    | some v =>
      exfalso
      have h1 := (hD kl .nil).symm.trans (hat .nil)
      rw [hf] at h1
      cases h1
   rw [hrun, hf]
   rfl
 · have hy : y.1 = .held e0.val := by
    unfold acn at hRv
    cases hRv
    rfl
   have hf : f kl = some e0.val := by
    cases hf : f kl with
    | none =>
      exfalso
      have h1 := (hD kl .nil).symm.trans (hat .nil)
      rw [hf, hy] at h1
      cases h1
    | some v =>
      have h1 := (hD kl .nil).symm.trans (hat .nil)
      rw [hf, hy] at h1
      cases h1
      rfl
   rw [hrun, hf]
   rfl
open Classical in
noncomputable def put (f : Lit → Option Value) (kl : Lit) (v : Value) : Lit → Option Value := fun x => if x = kl then some v else f x
theorem MapIs.store (h : MapIs P k w b n f) (K : Keyed P k) (ht : P.underlying t = some (.map k e)) (hn : n < maxLen) {key val : Value} {kl : Lit}
 (hkey : keyOf P k key = some kl) :
 ∃ w', (Instr.mapUpdate t (.map (some b)) key val).run P w = .ok () w' ∧ MapIs P k w' b (n + 1) (put f kl val) ∧ w.grownBy w' (some b) := by
 obtain ⟨D, ho, hD⟩ := h
 have hM := ho.isMap
 obtain ⟨w', hrun, ho', hg⟩ := ho.update K ht hn (val := val) hkey (d := .held val) (ps := []) rfl
 refine ⟨w', hrun, ⟨_, ho', fun x z => ?_⟩, hg⟩
 unfold put
 by_cases hx : x = kl
 · subst hx
   rw [Maps.atKey_put_same hM (K.key hkey), if_pos rfl]
 · rw [Maps.atKey_put_other hx, if_neg hx, hD x z]
end
section
open Go.RowKit Go.Maps Go.ChangeMaps Go.MapKept
def MapO (P : Program) (k : TypeId) (n : Nat) (f : Int → Int) (o : Obj) : Prop := ∀ (w : World) (b : Nat), w.heap[b]? = some o → ∃ g, MapIs P k w b n g ∧ ∀ x, (g (.int .i64 x)).getD (.int .i64 0) = .int .i64 (f x)
section
variable {P : Program} {G : World} {n : Nat} {ρ : jB} {L : ja} {op : Op} {ty : TypeId} {v : Value} {Q : Exit → Act → World → Prop} {ops : Array Oper}
theorem MapO.nil {k : TypeId} : MapO P k 0 (fun _ => 0) (.map #[] 0) := fun w b hb => by
 obtain ⟨g, h1, h2⟩ : ∃ g : Lit → Option Value, MapIs P k (w.alloc (.map #[] 0)) w.heap.size 0 g ∧ g = fun _ => none := ⟨_, MapIs.made w P k, rfl⟩
 refine ⟨fun _ => none, ?_, fun x => rfl⟩
 obtain ⟨D, ⟨es, clock, q1, q2⟩, q3⟩ := MapIs.made w P k
 have e1 : (w.alloc (.map #[] 0)).heap[w.heap.size]? = some (.map #[] 0) := heap_alloc_new w _
 rw [e1] at q1
 cases q1
 exact ⟨D, ⟨_, _, hb, q2⟩, q3⟩
theorem MapO.mono {k : TypeId} {m m' : Nat} {f : Int → Int} {o : Obj} (h : MapO P k m f o) (hm : m ≤ m') : MapO P k m' f o := fun w b hb => by
 obtain ⟨g, h1, h2⟩ := h w b hb
 exact ⟨g, h1.mono hm, h2⟩
theorem aco {t : TypeId} : OpNew P G ρ L (.makeMap t none) ty (fun b => .map (some b)) (.map #[] 0) :=
 .run fun r hr w o ho _ => by
  have h : (Instr.makeMap t none).run P w = .ok (.map (some w.heap.size)) (w.alloc (.map #[] 0)) := run_makeMap t w
  simp [execOp, ho, h]
theorem W3 {x : Int} (h : -9223372036854775808 ≤ x ∧ x ≤ 9223372036854775807) : (Lit.int .i64 x).wf = true := by
 simp [Lit.wf, IntKind.min, IntKind.max, IntKind.bits, IntKind.signed]
 omega
def W4 (f : Int → Int) (u y : Int) : Int → Int := fun x => if x = u then y else f x
theorem W5 {t k e : TypeId} {m x v : Operand} {bm c : Nat} {f : Int → Int} {ob : Obj} {u y : Int} (ht : P.underlying t = some (.map k e)) (hk : P.underlying k = some (.int .i64)) (hm : ev ρ m = some (.map (some bm))) (hx : ev ρ x = some (.int .i64 u)) (hv : ev ρ v = some (.int .i64 y))
 (ho : MapO P k c f ob) (hc : c < maxLen) (hu : -9223372036854775808 ≤ u ∧ u ≤ 9223372036854775807) : OpT P G ρ ((bm, ob) :: L) (.mapUpdate t m x v) ty fun _ M => ∃ ob', MapO P k (c + 1) (W4 f u y) ob' ∧ M = (bm, ob') :: L :=
 ⟨fun r hr w hw o hop _ => by
   have hb := hw.get _ (List.mem_cons_self ..)
   obtain ⟨g, h1, h2⟩ := ho w bm hb
   obtain ⟨w', hrun, h3, h4⟩ := h1.store (val := .int .i64 y) (int_keyed hk) ht hc (keyOf_int_mk hk (W3 hu))
   have hrun' : (execOp r o).run P w = .ok .skip w' := by
    simp [execOp, hop, hr _ _ hm, hr _ _ hx, hr _ _ hv, hrun]
   rw [hrun']
   obtain ⟨es, cl, hes⟩ := h3.isMap
   refine ⟨_, ⟨_, fun w2 b2 hb2 => ?_, rfl⟩, hw.update ⟨h4.os, h4.tape, h4.output, h4.size⟩ hes fun j hj hne => h4.block j hj (by simpa using hne)⟩
   obtain ⟨D, ⟨es', clock', q1, q2⟩, q3⟩ := h3
   rw [hes] at q1
   cases q1
   refine ⟨_, ⟨D, ⟨_, _, hb2, q2⟩, q3⟩, fun z => ?_⟩
   unfold put W4
   by_cases e : z = u
   · subst e; simp
   · rw [if_neg (fun k => e (by injection k)), if_neg e]; exact h2 z⟩
theorem acp {t k e : TypeId} {m x : Operand} {bm c : Nat} {f : Int → Int} {ob : Obj} {u : Int} (ht : P.underlying t = some (.map k e)) (hk : P.underlying k = some (.int .i64)) (he : zD P e = some (.int .i64 0)) (hm : ev ρ m = some (.map (some bm))) (hx : ev ρ x = some (.int .i64 u))
 (ho : MapO P k c f ob) (hu : -9223372036854775808 ≤ u ∧ u ≤ 9223372036854775807) (hL : (bm, ob) ∈ L) : OpQ P ρ L (.lookup t m x false) ty (.int .i64 (f u)) :=
 ⟨fun r hr w hw o hop _ => by
   have hb := hw.get _ hL
   obtain ⟨g, h1, h2⟩ := ho w bm hb
   have := h1.look false (int_keyed hk) ht (K7 he w) (keyOf_int_mk hk (W3 hu))
   simp [execOp, hop, hr _ _ hm, hr _ _ hx, this, h2]⟩
theorem Zz {K : ja} {W : List Nat} {fuel N i : Nat} {t k e : TypeId} {m x v : Operand} {bm c : Nat} {f : Int → Int} {ob : Obj} {pos : String} {after : Array Edge} {R : ja} (u y : Int) (ht : P.underlying t = some (.map k e)) (hk : P.underlying k = some (.int .i64)) (ho : MapO P k c f ob) (hc : c < maxLen) (hu : -9223372036854775808 ≤ u ∧ u ≤ 9223372036854775807)
 (h : ∀ ob', MapO P k (c + 1) (W4 f u y) ob' → TA P G ops n K W Q fuel (uZ N (i + 1)) ρ ((bm, ob') :: R)) (hi : ops[i]? = some ⟨none, .mapUpdate t m x v, ty, pos, after, none⟩ := by exact rfl) (hm : ev ρ m = some (.map (some bm)) := by exact rfl) (hx : ev ρ x = some (.int .i64 u) := by exact rfl) (hv : ev ρ v = some (.int .i64 y) := by exact rfl)
 (hf : Fits ((bm, ob) :: R) L := by exact j8) (hW : i ∈ W := by simp) (hr : Region.ready .any ops (uZ N i) = [i] := by decide +kernel) : TA P G ops n K W Q (fuel + 1) (uZ N i) ρ L :=
 ahf ((W5 ht hk hm hx hv ho hc hu).fits hf) (fun v' M ⟨ob', h1, h2⟩ => ⟨Or.inl hW, h2 ▸ h ob' h1⟩) hi rfl rfl hr
theorem aei {t k e : TypeId} {m x v : Operand} {bm c : Nat} {f : Int → Int} {ob : Obj} {pos : String} {after : Array Edge} {rest : List Oper} {R : ja} (u y : Int) (ht : P.underlying t = some (.map k e)) (hk : P.underlying k = some (.int .i64)) (ho : MapO P k c f ob) (hc : c < maxLen) (hu : -9223372036854775808 ≤ u ∧ u ≤ 9223372036854775807)
 (h : ∀ ob', MapO P k (c + 1) (W4 f u y) ob' → TL P G ops n ρ ((bm, ob') :: R) rest Q) (hm : ev ρ m = some (.map (some bm)) := by exact rfl) (hx : ev ρ x = some (.int .i64 u) := by exact rfl) (hv : ev ρ v = some (.int .i64 y) := by exact rfl) (hf : Fits ((bm, ob) :: R) L := by exact j8) :
 TL P G ops n ρ L (⟨none, .mapUpdate t m x v, ty, pos, after, none⟩ :: rest) Q :=
 YW ((W5 ht hk hm hx hv ho hc hu).fits hf) fun v' M ⟨ob', h1, h2⟩ => h2 ▸ h ob' h1
end
end
section
open Go.RowKit
open Vd (RSet Vdt Vote Rec Quest Piece Ballot)
variable {G : World} {L : ja}
def qX (d : Vd.Bytes) : Nat := 10 + min 6000 d.length
def uI (s : RSet) : Nat := 30 + min 6000 s.name.length + (s.data.map qX).sum
def u3 (l : List RSet) : Nat := (l.map uI).sum
theorem ze (l : List Nat) (k : Nat) : (l.take k).sum ≤ l.sum := by
 conv => rhs; rw [← List.take_append_drop k l, List.sum_append]
 omega
theorem uN {l : List Nat} {k : Nat} {x : Nat} (h : l[k]? = some x) : (l.take (k + 1)).sum = (l.take k).sum + x := by
 rw [List.take_add_one, h]; simp
theorem VJ {α β : Type} (f : α → β) {l : List α} {i : Nat} {x : α} (h : l[i]? = some x) : (l.map f)[i]? = some (f x) := by rw [List.getElem?_map, h]; rfl
theorem VK {l : List Nat} {x : Nat} (h : x ∈ l) : x ≤ l.sum := by
 induction l with
 | nil => cases h
 | cons a l ih =>
   rw [List.sum_cons]
   rcases List.mem_cons.1 h with rfl | h
   · omega
   · have := ih h; omega
theorem YS {l : List Nat} {c : Nat} (h : ∀ x ∈ l, c ≤ x) : c * l.length ≤ l.sum := by
 induction l with
 | nil => simp
 | cons a l ih =>
   rw [List.sum_cons, List.length_cons, Nat.mul_succ]
   have h1 := h a (List.mem_cons_self ..)
   have h2 := ih fun x hx => h x (List.mem_cons_of_mem _ hx)
   omega
structure LSm (l : List RSet) : Prop where
 tot : u3 l < 6000
theorem LSm.few {l : List RSet} (h : LSm l) : l.length ≤ 200 := by
 have h1 := h.tot
 have h2 := YS (l := l.map uI) (c := 30) (fun x hx => by obtain ⟨s, _, rfl⟩ := List.mem_map.1 hx; unfold uI; omega)
 rw [List.length_map] at h2
 unfold u3 at h1
 omega
theorem LSm.set {l : List RSet} (h : LSm l) {s : RSet} (hs : s ∈ l) : s.name.length < 6000 ∧ s.data.length ≤ 600 ∧ ∀ d ∈ s.data, d.length < 6000 := by
 have h1 := h.tot
 have h2 : uI s ≤ u3 l := VK (List.mem_map_of_mem hs)
 have h3 := YS (l := s.data.map qX) (c := 10) (fun x hx => by obtain ⟨d, _, rfl⟩ := List.mem_map.1 hx; unfold qX; omega)
 rw [List.length_map] at h3
 unfold uI at h2
 refine ⟨by omega, by omega, fun d hd => ?_⟩
 have h4 : qX d ≤ (s.data.map qX).sum := VK (List.mem_map_of_mem hd)
 have h5 : qX d = 10 + min 6000 d.length := rfl
 omega
theorem Q6 (v : Value) (l : List RSet) (hl : sliceR 5 rsR L [v] l) : Spec Tryz.prog G 31 #[v] L fun u M => u = .bool (decide (6000 ≤ u3 l)) ∧ M = L := by
 obtain ⟨a, c, e1, hl⟩ := hl.val
 obtain rfl := (List.cons.inj e1).1
 have hcap := (sliceR.cut hl).2
 unfold maxLen at hcap
 obtain ⟨hcap1, hcap2, _⟩ := hcap
 refine jl (n := 55) Tryz.func31 rfl rfl rfl ?_
 refine goA ?_
 refine jz (σ := Nat × Nat) (fun x => x.1 ≤ l.length ∧ x.2 ≤ 20000 ∧ (x.2 < 6000 → x.2 = ((l.map uI).take x.1).sum) ∧ (6000 ≤ x.2 → 6000 ≤ u3 l)) (fun x => [(0, .slice a l.length c), (3, .int .i64 (x.2 : Nat)), (4, .int .i64 (x.1 : Nat))]) (fun _ => L) (fun x => l.length - x.1) (0, 0) ⟨Nat.zero_le _, by decide, fun _ => rfl, fun h => absurd h (by decide)⟩ ?_ (fun w h => h) ?_
 exact js
 rintro ⟨i, n⟩ ⟨hi, hn, hn1, hn2⟩
 dsimp only at hi hn hn1 hn2 ⊢
 by_cases hgo : i < l.length ∧ n < 6000
 · obtain ⟨hlt, hn6⟩ := hgo
   obtain ⟨s, hs⟩ : ∃ s, l[i]? = some s := ⟨_, List.getElem?_eq_getElem hlt⟩
   obtain ⟨b1, o1, C1, t1, f1, rfl, m1, cs, _, hcs0, hcs⟩ := sliceR.at hl hs
   obtain ⟨da, dc, rfl, hd, hsn, _⟩ := hcs0.vals
   have c0 : C1[o1 + i * 5 + 0]? = some (.string (bs s.name)) := hcs 0 _ rfl
   have c4 : C1[o1 + i * 5 + 4]? = some (.slice da s.data.length dc) := hcs 4 _ rfl
   have hdcap := (sliceR.cut hd).2
   unfold maxLen at hdcap hsn
   obtain ⟨hd1, hd2, _⟩ := hdcap
   have hnn := hn1 hn6
   have htot : ((l.map uI).take i).sum + uI s ≤ u3 l := by
    have := uN (VJ uI hs)
    have h2 := ze (l.map uI) (i + 1)
    unfold u3
    omega
   have hsucc := uN (VJ uI hs)
   obtain ⟨n1, hn1e⟩ : ∃ m, m = n + 30 + min 6000 s.name.length := ⟨_, rfl⟩
   have hcost : uI s = 30 + min 6000 s.name.length + (s.data.map qX).sum := rfl
   skip
   refine j7 ?_
   skip
   refine j7 ?_
   refine goF ?_
   refine Y8 (σ := Nat) (fun m => m ≤ 20000 ∧ (m < 6000 → m = n1 + (s.data.map qX).sum) ∧ (6000 ≤ m → 6000 ≤ u3 l)) (fun m => [(0, .slice (some ⟨b1, o1, none⟩) l.length c), (3, .int .i64 (m : Nat)), (4, .int .i64 (i : Nat))]) (fun _ => L) ?_ ?_
   · skip
     refine goA ?_
     refine jz (σ := Nat × Nat) (fun x => x.1 ≤ s.data.length ∧ x.2 ≤ 19000 ∧ (x.2 < 6000 → x.2 = n1 + ((s.data.map qX).take x.1).sum) ∧ (6000 ≤ x.2 → 6000 ≤ u3 l)) (fun x => [(0, .slice (some ⟨b1, o1, none⟩) l.length c), (3, .int .i64 (x.2 : Nat)), (4, .int .i64 (i : Nat)), (5, .int .i64 (x.1 : Nat))]) (fun _ => L) (fun x => s.data.length - x.1) (0, n1) ⟨Nat.zero_le _, by dsimp only; omega, fun _ => by simp, fun h => by dsimp only at h; omega⟩ ?_ (fun w h => h) ?_
     · have : ((n1 : Nat) : Int) = (n : Int) + 30 + min 6000 (s.name.length : Int) := by omega
       rw [this]
       exact js
     rintro ⟨k, m⟩ ⟨hk, hm, hm1, hm2⟩
     dsimp only at hk hm hm1 hm2 ⊢
     by_cases hgo : k < s.data.length ∧ m < 6000
     · obtain ⟨hkl, hm6⟩ := hgo
       obtain ⟨d, hdk⟩ : ∃ d, s.data[k]? = some d := ⟨_, List.getElem?_eq_getElem hkl⟩
       obtain ⟨b2, o2, C2, t2, f2, rfl, m2, cs2, _, ⟨rfl, hdl⟩, hcs2⟩ := sliceR.at hd hdk
       unfold maxLen at hdl
       have d0 : C2[o2 + k * 1]? = some (.string (bs d)) := hcs2 0 _ rfl
       have hsk := uN (VJ qX hdk)
       have hsl := ze (s.data.map qX) (k + 1)
       have hcd : qX d = 10 + min 6000 d.length := rfl
       have hmm := hm1 hm6
       refine goA ?_
       refine jg (k + 1, m + 10 + min 6000 d.length) ⟨hkl, by dsimp only; omega, fun _ => by dsimp only; omega, fun h => by dsimp only at h; omega⟩ ?_ (fun w h => h) (by dsimp only; omega)
       have : ((m + 10 + min 6000 d.length : Nat) : Int) = (m : Int) + 10 + min 6000 (d.length : Int) := by omega
       rw [this]
       exact js
     · have hend : m < 6000 → m = n1 + (s.data.map qX).sum := fun h => by
        have := hm1 h
        rw [List.take_of_length_le (by rw [List.length_map]; omega)] at this
        exact this
       by_cases hkl : k < s.data.length
       · refine goA ?_
         refine kS m ⟨by omega, hend, hm2⟩ ?_ (fun w h => h)
         exact js
       · refine goA ?_
         refine kS m ⟨by omega, hend, hm2⟩ ?_ (fun w h => h)
         exact js
   rintro m ⟨hm, hm1, hm2⟩
   refine goA ?_
   refine jg (i + 1, m) ⟨hlt, hm, fun h => ?_, hm2⟩ ?_ (fun w h => h) (by dsimp only; omega)
   · have := hm1 h
     dsimp only
     omega
   exact js
 · by_cases hlt : i < l.length
   · have h6 : 6000 ≤ n := by omega
     rw [decide_eq_true (hn2 h6)]
     refine goA ?_
     refine jf 2 _ rfl rfl ?_
     exact ⟨by rw [decide_eq_true (show (6000 : Int) ≤ (n : Int) by omega)], rfl⟩
   · have e : decide (6000 ≤ u3 l) = decide ((6000 : Int) ≤ (n : Int)) := by
      by_cases h6 : 6000 ≤ n
      · rw [decide_eq_true (hn2 h6), decide_eq_true jd]
      · have := hn1 jd
        rw [List.take_of_length_le (by rw [List.length_map]; omega)] at this
        rw [decide_eq_false (by unfold u3; omega), decide_eq_false jd]
     rw [e]
     refine goA ?_
     refine jf 2 _ rfl rfl ?_
     exact ⟨rfl, rfl⟩
end
end Go.Proofs.YtbjkkoacclfejaaGreat
