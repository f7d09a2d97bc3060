/-
 Part 9: Ez EA OpE.
-/
import Derived.Test.YtbjkkoacclfejaaGreatZp8
import Derived.Test.YtbjkkoacclfejaaGreatZp1
import Derived.Test.YtbjkkoacclfejaaGreatZp2
set_option maxRecDepth 100000
set_option maxHeartbeats 16000000
set_option linter.unusedVariables false
set_option linter.unusedSimpArgs false
namespace Go.Proofs.YtbjkkoacclfejaaGreat
section
open Go.RowKit
open Vd (RSet Vdt Vote Rec Quest Piece Ballot)
open Cn (Zo Cf)
variable {G : World} {L : ja}
def yD (a : As) (l : List ActT) : As := l.foldl (fun a m => (qt a m).1) a
theorem aaV {L : ja} {x : Int} {u t n : Int} {c : Int} {va vb : Value} {d : Vdt} (h : vdR L [.int .u8 c, va, vb] d) : zJ ([.int .u8 x, .int .i64 u, .int .u8 c, va, vb, .int .u32 t, .int .i64 n] : List Value).toArray = true := by
 obtain ⟨y1, z1, y2, z2, e, _⟩ := h.vals
 simp only [List.cons.injEq, and_true] at e
 obtain ⟨_, rfl, rfl⟩ := e
 rfl
theorem Jc (a : As) (l : List ActT) {i : Nat} {m : ActT} (h : l[i]? = some m) : yD a (l.take (i + 1)) = (qt (yD a (l.take i)) m).1 := by
 unfold yD
 rw [List.take_add_one, h, List.foldl_append]
 rfl
theorem yy {a : As} (h : AWell a) : ∀ (l : List ActT), (∀ m ∈ l, yG a.q m) → AWell (yD a l) ∧ (yD a l).q = a.q := by
 intro l
 induction l generalizing a with
 | nil => exact fun _ => ⟨h, rfl⟩
 | cons m l ih =>
   intro hl
   have hq := acj h.ok m
   obtain ⟨h1, h2⟩ := ih (yQ h (hl m (List.mem_cons_self ..))) (fun y hy => by rw [hq]; exact hl y (List.mem_cons_of_mem _ hy))
   exact ⟨h1, h2.trans hq⟩
theorem WR (cx : List Value) (x : CaseT) (v w : Value) (l more : List ActT) (hx : QT L cx x) (hl : sliceR 7 K4 L [v] l) (hm : sliceR 7 K4 L [w] more) : Spec Tryz.prog G 5 #[.agg cx.toArray, v, w] L fun u M => u = .bool true ∧ M = L := by
 have hx0 := hx
 obtain ⟨vl, vz, rfl, hq, hz, hli, hcf, hnow⟩ := hx
 obtain ⟨_, hqn, hqk, hqc⟩ := hq
 obtain ⟨_, hzn, hzp, hzt⟩ := hz
 obtain ⟨vz', e1, hzs, hci⟩ := hcf
 obtain rfl : vz' = vz := by simpa [jn] using e1.symm
 obtain ⟨la, lc, e2, hli⟩ := hli.val
 obtain rfl := (List.cons.inj e2).1
 obtain ⟨aa, ac, e4, hl⟩ := hl.val
 obtain rfl := (List.cons.inj e4).1
 obtain ⟨ma, mc, e5, hm⟩ := hm.val
 obtain rfl := (List.cons.inj e5).1
 clear e1 e2 e4 e5
 have hnw := K5 hnow
 have k3 := (sliceR.cut hl).2
 have k4 := (sliceR.cut hm).2
 unfold maxLen at k3 k4
 obtain ⟨k31, k32, _⟩ := k3
 obtain ⟨k41, k42, _⟩ := k4
 refine jl (n := 206) Tryz.func5 rfl rfl rfl ?_
 refine jY ?_
 refine jS (jP (kx rfl) rfl ?_)
 intro bC
 obtain ⟨C0, hC0⟩ : ∃ C : Array Value, C = (Ja x (.slice la x.l.length lc) vz').toArray := ⟨_, rfl⟩
 rw [← hC0]
 have hC0s : C0.size = 21 := by rw [hC0]; rfl
 have hlong1 := aaR (G := G) (L := (bC, Obj.cells C0 32 (0, 0)) :: L) _ x _ l (QU _ _ _ _ jr hx0) (jp qX _ _ _ _ jr hl)
 have hlong2 := aaR (G := G) (L := (bC, Obj.cells C0 32 (0, 0)) :: L) _ x _ more (QU _ _ _ _ jr hx0) (jp qX _ _ _ _ jr hm)
 rw [← hC0] at hlong1 hlong2
 have f6 : C0[0 + 6]? = some (.slice la x.l.length lc) := by rw [hC0]; rfl
 have f20 : C0[0 + 20]? = some (.int .i64 x.now) := by rw [hC0]; rfl
 have fq : ∀ j u, ([.string (bs x.q.name), .int .u16 x.q.kind, .int .u16 x.q.cls] : List Value)[j]? = some u → C0[0 + 0 + j]? = some u := fun j u hj => by
  rw [hC0]
  match j, hj with
  | 0, hj => exact hj
  | 1, hj => exact hj
  | 2, hj => exact hj
 have fz : ∀ j u, ([.string (bs x.z.name), .int .u8 (x.z.pol : Nat), .int .u16 (x.z.tru : Nat)] : List Value)[j]? = some u → C0[0 + 3 + j]? = some u := fun j u hj => by
  rw [hC0]
  match j, hj with
  | 0, hj => exact hj
  | 1, hj => exact hj
  | 2, hj => exact hj
 have fc : ∀ j u, (jn x.c vz')[j]? = some u → C0[0 + 7 + j]? = some u := fun j u hj => by
  rw [hC0]
  have hlt := (List.getElem?_eq_some_iff.1 hj).1
  have : j < 13 := hlt
  match j, hj with
  | 0, hj => exact hj
  | 1, hj => exact hj
  | 2, hj => exact hj
  | 3, hj => exact hj
  | 4, hj => exact hj
  | 5, hj => exact hj
  | 6, hj => exact hj
  | 7, hj => exact hj
  | 8, hj => exact hj
  | 9, hj => exact hj
  | 10, hj => exact hj
  | 11, hj => exact hj
  | 12, hj => exact hj
  | (j + 13), hj => exact absurd this je
 have hmemC : ((bC, Obj.cells C0 32 (0, 0)) : Nat × Obj) ∈ (bC, Obj.cells C0 32 (0, 0)) :: L := List.mem_cons_self ..
 clear hC0
 refine goA ?_
 refine jv (jb jd rfl hlong1) rfl ?_
 rintro _ _ ⟨b, rfl, rfl, hsm1⟩
 have haw : ∀ M : ja, Spec Tryz.prog G 9 #[] M fun u N => u = .bool true ∧ N = M := fun M => Zg
 cases b with
 | true =>
   refine goA ?_
   refine jJ (jb jd rfl (haw _)) rfl ?_
   refine goA ?_
   refine jB (L' := L) ?_ ji
   refine jf 6 _ rfl rfl ?_
   exact ⟨rfl, rfl⟩
 | false =>
 obtain ⟨hcsm, hasm1⟩ := hsm1 rfl
 refine goA ?_
 refine qA (jb jd rfl hlong2) rfl ?_
 rintro _ _ ⟨b, rfl, rfl, hsm2⟩
 cases b with
 | true =>
   refine goA ?_
   refine jJ (jb jd rfl (haw _)) rfl ?_
   refine goA ?_
   refine jB (L' := L) ?_ ji
   refine jf 6 _ rfl rfl ?_
   exact ⟨rfl, rfl⟩
 | false =>
 obtain ⟨_, hasm2⟩ := hsm2 rfl
 refine goA ?_
 refine jQ (jb jd rfl (haw _)) rfl ?_
 refine goA ?_
 have hnew : ∀ M : ja, (∀ p ∈ L, p ∈ M) → Spec Tryz.prog G 10 #[.agg (kf x.q), .agg #[.string (bs x.z.name), .int .u8 (x.z.pol : Nat), .int .u16 (x.z.tru : Nat)], .slice la x.l.length lc, .agg (jn x.c vz').toArray, .int .i64 x.now] M (aaJ M (Aq.newE x.q x.z x.l x.c x.now) (Aq.new1 x.q x.z x.l x.c x.now)) := fun M hM =>
  aaK x.q x.z _ vz' x.l x.c x.now (by have := hcsm.name; omega) hqk hqc ⟨hzp, hzt⟩ ((UB hli).mono hM) (by have := hcsm.list; omega) ⟨jp JX _ _ _ _ hM hzs, fun z hz => by have := hcsm.names z hz; omega⟩ hnw
 refine jz (jy [.string (bs x.q.name), .int .u16 x.q.kind, .int .u16 x.q.cls] rfl stL (List.mem_cons_self ..) fq) rfl ?_
 repeat (refine jz (qf rfl yY) rfl ?_)
 refine jz (jy [.string (bs x.z.name), .int .u8 (x.z.pol : Nat), .int .u16 (x.z.tru : Nat)] rfl stL (List.mem_cons_self ..) fz) rfl ?_
 refine goA ?_
 refine jz (jy (jn x.c vz') rfl stL (List.mem_cons_self ..) fc) rfl ?_
 refine goA ?_
 refine jv (jb jd rfl (hnew _ jr)) rfl ?_
 by_cases he : Aq.newE x.q x.z x.l x.c x.now = 0
 rotate_left
 · rintro _ _ (⟨h0, _⟩ | ⟨_, rfl, rfl⟩)
   · exact absurd h0 he
   repeat (first | refine goA ?_ | (refine jO ?_; intro bNew))
   obtain ⟨b8, hb8⟩ : ∃ b, bNew = b := ⟨_, rfl⟩
   rw [hb8]
   clear hb8
   refine jz (jy [.string (bs x.q.name), .int .u16 x.q.kind, .int .u16 x.q.cls] rfl stL (List.mem_cons_of_mem _ (List.mem_cons_self ..)) fq) rfl ?_
   repeat (refine jz (qf rfl yY) rfl ?_)
   refine jz (jy [.string (bs x.z.name), .int .u8 (x.z.pol : Nat), .int .u16 (x.z.tru : Nat)] rfl stL (List.mem_cons_of_mem _ (List.mem_cons_self ..)) fz) rfl ?_
   refine goA ?_
   refine jz (jy (jn x.c vz') rfl stL (List.mem_cons_of_mem _ (List.mem_cons_self ..)) fc) rfl ?_
   refine goA ?_
   refine jv (jb jd rfl (hnew _ jr)) rfl ?_
   rintro _ _ (⟨h0, _⟩ | ⟨_, rfl, rfl⟩)
   · exact absurd h0 he
   repeat (first | refine goA ?_ | (refine jO ?_; intro bNew))
   refine jQ (jb jd rfl (qv [.slice none 0 0, .slice none 0 0, .bool false, .bool false, .int .u8 0, .slice none 0 0, .slice none 0 0, .int .u32 0, .slice none 0 0, .slice none 0 0] [.slice none 0 0, .slice none 0 0, .bool false, .bool false, .int .u8 0, .slice none 0 0, .slice none 0 0, .int .u32 0, .slice none 0 0, .slice none 0 0] Dd.none Dd.none qn qn none_sh.few)) rfl ?_
   rw [decide_eq_true rfl]
   refine goA ?_
   refine jB (L' := L) ?_ ji
   refine jf 6 _ rfl rfl ?_
   exact ⟨by rw [show (Aq.newE x.q x.z x.l x.c x.now != 0) = true from bne_iff_ne.2 he], rfl⟩
 have hin := (QN he).1
 have hqok : QOk x.q := ⟨by have := hcsm.name; omega, hqk, hqc, hin.name⟩
 obtain ⟨a0, ha0⟩ : ∃ a, a = (Aq.new1 x.q x.z x.l x.c x.now).1 := ⟨_, rfl⟩
 have hw0 : AWell a0 := by rw [ha0]; exact QP hin hqok
 have hsh0 := ac1 hin hqok
 have hq0 : a0.q = x.q := by rw [ha0]; exact (kp (yx hin hqok).ok).2.1
 rintro _ _ (⟨_, ap, cs0, X0, N0, rfl, hd0, hX0, rfl⟩ | ⟨h0, _⟩)
 rotate_left
 · exact absurd he h0
 rw [← ha0] at hX0
 have hone0 := ue hd0
 repeat (first | refine goA ?_ | (refine jO ?_; intro bNew))
 refine ku rfl rfl stO rfl hone0.2 hone0.1 ?_
 refine goA ?_
 obtain ⟨b8, hb8⟩ : ∃ b, bNew = b := ⟨_, rfl⟩
 rw [hb8]
 clear hb8
 refine jC (L' := (b8, Obj.cells cs0.toArray 43 (0, 0)) :: (bC, Obj.cells C0 32 (0, 0)) :: (N0 ++ (X0 ++ L))) ?_ ji
 refine jz (jy [.string (bs x.q.name), .int .u16 x.q.kind, .int .u16 x.q.cls] rfl stL (List.mem_cons_of_mem _ (List.mem_cons_self ..)) fq) rfl ?_
 repeat (refine jz (qf rfl yY) rfl ?_)
 refine jz (jy [.string (bs x.z.name), .int .u8 (x.z.pol : Nat), .int .u16 (x.z.tru : Nat)] rfl stL (List.mem_cons_of_mem _ (List.mem_cons_self ..)) fz) rfl ?_
 refine goA ?_
 refine jz (jy (jn x.c vz') rfl stL (List.mem_cons_of_mem _ (List.mem_cons_self ..)) fc) rfl ?_
 refine goA ?_
 refine jv (jb jd rfl (hnew _ jr)) rfl ?_
 rintro _ _ (⟨_, ap2, cs1, Y0, N1, rfl, hd1, hY0, rfl⟩ | ⟨h0, _⟩)
 rotate_left
 · exact absurd he h0
 rw [← ha0] at hY0
 have hone1 := ue hd1
 repeat (first | refine goA ?_ | (refine jO ?_; intro bNew))
 refine ku rfl rfl stO rfl hone1.2 hone1.1 ?_
 refine goA ?_
 obtain ⟨b11, hb11⟩ : ∃ b, bNew = b := ⟨_, rfl⟩
 rw [hb11]
 clear hb11
 refine jM (ui rfl stO (List.mem_cons_of_mem _ (List.mem_append_right _ (List.mem_append_right _ (List.mem_cons_self ..)))) hone0.2) rfl ?_
 repeat (refine kr rfl rfl ?_ ?_; (· exact Bool.not_true))
 refine jM (ui rfl stO (List.mem_cons_self ..) hone1.2) rfl ?_
 repeat (refine kr rfl rfl ?_ ?_; (· exact Bool.not_true))
 refine jQ (jb jd rfl (qv cs0 cs1 _ _ (kz _ _ _ _ jr hd0) (kz _ _ _ _ jr hd1) hsh0.few)) rfl ?_
 rw [decide_eq_true rfl]
 have hf1 := hasm1.few
 have hf2 := hasm2.few
 refine goA ?_
 refine jA (σ := Nat) (fun k => k ≤ l.length + more.length ∧ ∀ m ∈ (l ++ more).take k, yG x.q m) (fun k => [(1, .slice aa l.length ac), (2, .slice ma more.length mc), (3, .pointer (some ⟨bC, 0, none⟩)), (7, .pointer (some ⟨ap, 0, none⟩)), (10, .pointer (some ⟨ap2, 0, none⟩)), (13, .int .i64 (k : Nat))]) (fun _ => (bC, Obj.cells C0 32 (0, 0)) :: (X0 ++ (Y0 ++ L))) (fun k => l.length + more.length - k) 0 ⟨Nat.zero_le _, by simp⟩ ?_ (fun w h => h.cnt ji) ?_
 exact ju
 rintro k ⟨hk, hall⟩
 by_cases hkl : k < l.length + more.length
 · obtain ⟨m, hmk⟩ : ∃ m, (l ++ more)[k]? = some m := ⟨_, List.getElem?_eq_getElem (by simp; omega)⟩
   have htk : (l ++ more).take (k + 1) = (l ++ more).take k ++ [m] := by rw [List.take_add_one, hmk]; rfl
   have hrow : ∃ b1 o1 C1 t1 f1, (b1, Obj.cells C1 t1 f1) ∈ L ∧ ((k < l.length ∧ aa = some ⟨b1, o1, none⟩ ∧ ∃ cs, K4 L cs m ∧ ∀ j u, cs[j]? = some u → C1[o1 + k * 7 + j]? = some u) ∨ (¬ k < l.length ∧ ma = some ⟨b1, o1, none⟩ ∧ ∃ cs, K4 L cs m ∧ ∀ j u, cs[j]? = some u → C1[o1 + (k - l.length) * 7 + j]? = some u)) := by
    by_cases hkk : k < l.length
    · rw [List.getElem?_append_left hkk] at hmk
      obtain ⟨b1, o1, C1, t1, f1, rfl, m1, cs, _, h1, h2⟩ := sliceR.at hl hmk
      exact ⟨b1, o1, C1, t1, f1, m1, Or.inl ⟨hkk, rfl, cs, h1, h2⟩⟩
    · rw [List.getElem?_append_right je] at hmk
      obtain ⟨b1, o1, C1, t1, f1, rfl, m1, cs, _, h1, h2⟩ := sliceR.at hm hmk
      exact ⟨b1, o1, C1, t1, f1, m1, Or.inr ⟨hkk, rfl, cs, h1, h2⟩⟩
   have hasm : LSm m.v.sets ∧ LSm m.v.soa := by
    rcases List.mem_append.1 (List.mem_of_getElem? hmk) with h | h
    · exact hasm1.sets m h
    · exact hasm2.sets m h
   repeat (first | refine goA ?_ | (refine jO ?_; intro bNew) | refine jz (jm rfl (acz )) rfl ?_)
   obtain ⟨b14, hb14⟩ : ∃ b, bNew = b := ⟨_, rfl⟩
   rw [hb14]
   clear hb14
   obtain ⟨b1, o1, C1, t1, f1, m1, ⟨hkk, rfl, cs, ha, hc⟩ | ⟨hkk, rfl, cs, ha, hc⟩⟩ := hrow
   · skip
     obtain ⟨va, vb, rfl, hvd, _⟩ := ha
     have hver : ∀ j u, ([.int .u8 m.v.code, va, vb] : List Value)[j]? = some u → ([.int .u8 m.what, .int .i64 m.up, .int .u8 m.v.code, va, vb, .int .u32 m.t, .int .i64 m.now] : List Value).toArray[0 + 2 + j]? = some u := fun j u hj => by
      match j, hj with
      | 0, hj => exact hj
      | 1, hj => exact hj
      | 2, hj => exact hj
     refine goA ?_
     refine jz (jy [.int .u8 m.what, .int .i64 m.up, .int .u8 m.v.code, va, vb, .int .u32 m.t, .int .i64 m.now] rfl stL (List.mem_cons_of_mem _ (List.mem_cons_of_mem _ (List.mem_append_right _ (List.mem_append_right _ m1)))) hc) rfl ?_
     refine ku rfl rfl stO rfl rfl (aaV hvd) ?_
     by_cases hw : m.what = 1
     · refine goA ?_
       refine jM (jy [.string (bs x.q.name), .int .u16 x.q.kind, .int .u16 x.q.cls] rfl stL (List.mem_cons_of_mem _ (List.mem_cons_self ..)) fq) rfl ?_
       refine goA ?_
       refine jM (jy [.int .u8 m.v.code, va, vb] rfl stL (List.mem_cons_self ..) hver) rfl ?_
       repeat (refine kr rfl rfl ?_ ?_; (· exact dT (by assumption)))
       refine jQ (jb jd rfl (aaM x.q m.v _ (ki _ _ _ _ jr hvd) hqok.name hqk hqc hasm.1 hasm.2)) rfl ?_
       cases hreal : K3 x.q m.v with
       | false =>
         refine goA ?_
         refine jB (L' := L) ?_ ji
         refine jf 6 _ rfl rfl ?_
         exact ⟨rfl, rfl⟩
       | true =>
         refine goA ?_
         refine jh (k + 1) ⟨by omega, fun y hy => ?_⟩ ?_ (fun w h => h.cnt ji) je
         · rw [htk] at hy
           rcases List.mem_append.1 hy with hy | hy
           · exact hall y hy
           · rw [List.mem_singleton.1 hy]; exact fun _ => Ys hreal hasm.1 hasm.2
         exact ju
     · refine goA ?_
       refine jh (k + 1) ⟨by omega, fun y hy => ?_⟩ ?_ (fun w h => h.cnt ji) je
       · rw [htk] at hy
         rcases List.mem_append.1 hy with hy | hy
         · exact hall y hy
         · rw [List.mem_singleton.1 hy]; exact fun h => absurd h hw
       exact ju
   · rw [show k - l.length = ((k : Int) - (l.length : Int)).toNat by omega] at hc
     obtain ⟨va, vb, rfl, hvd, _⟩ := ha
     have hver : ∀ j u, ([.int .u8 m.v.code, va, vb] : List Value)[j]? = some u → ([.int .u8 m.what, .int .i64 m.up, .int .u8 m.v.code, va, vb, .int .u32 m.t, .int .i64 m.now] : List Value).toArray[0 + 2 + j]? = some u := fun j u hj => by
      match j, hj with
      | 0, hj => exact hj
      | 1, hj => exact hj
      | 2, hj => exact hj
     refine goA ?_
     refine jz (jy [.int .u8 m.what, .int .i64 m.up, .int .u8 m.v.code, va, vb, .int .u32 m.t, .int .i64 m.now] rfl stL (List.mem_cons_of_mem _ (List.mem_cons_of_mem _ (List.mem_append_right _ (List.mem_append_right _ m1)))) hc) rfl ?_
     refine ku rfl rfl stO rfl rfl (aaV hvd) ?_
     by_cases hw : m.what = 1
     · refine goA ?_
       refine jM (jy [.string (bs x.q.name), .int .u16 x.q.kind, .int .u16 x.q.cls] rfl stL (List.mem_cons_of_mem _ (List.mem_cons_self ..)) fq) rfl ?_
       refine goA ?_
       refine jM (jy [.int .u8 m.v.code, va, vb] rfl stL (List.mem_cons_self ..) hver) rfl ?_
       repeat (refine kr rfl rfl ?_ ?_; (· exact dT (by assumption)))
       refine jQ (jb jd rfl (aaM x.q m.v _ (ki _ _ _ _ jr hvd) hqok.name hqk hqc hasm.1 hasm.2)) rfl ?_
       cases hreal : K3 x.q m.v with
       | false =>
         refine goA ?_
         refine jB (L' := L) ?_ ji
         refine jf 6 _ rfl rfl ?_
         exact ⟨rfl, rfl⟩
       | true =>
         refine goA ?_
         refine jh (k + 1) ⟨by omega, fun y hy => ?_⟩ ?_ (fun w h => h.cnt ji) je
         · rw [htk] at hy
           rcases List.mem_append.1 hy with hy | hy
           · exact hall y hy
           · rw [List.mem_singleton.1 hy]; exact fun _ => Ys hreal hasm.1 hasm.2
         exact ju
     · refine goA ?_
       refine jh (k + 1) ⟨by omega, fun y hy => ?_⟩ ?_ (fun w h => h.cnt ji) je
       · rw [htk] at hy
         rcases List.mem_append.1 hy with hy | hy
         · exact hall y hy
         · rw [List.mem_singleton.1 hy]; exact fun h => absurd h hw
       exact ju
 · rw [List.take_of_length_le (by simp; omega)] at hall
   have hall1 : ∀ m ∈ l, yG x.q m := fun m h => hall m (List.mem_append_left _ h)
   have hall2 : ∀ m ∈ more, yG x.q m := fun m h => hall m (List.mem_append_right _ h)
   refine goA ?_
   refine jA (σ := Nat × ja × ja) (fun y => y.1 ≤ l.length ∧ qU ap (yD a0 (l.take y.1)) y.2.1 ∧ qU ap2 (yD a0 (l.take y.1)) y.2.2) (fun y => [(1, .slice aa l.length ac), (2, .slice ma more.length mc), (7, .pointer (some ⟨ap, 0, none⟩)), (10, .pointer (some ⟨ap2, 0, none⟩)), (15, .func (.func 23) #[] #[]), (16, .int .i64 (y.1 : Nat))]) (fun y => y.2.1 ++ (y.2.2 ++ L)) (fun y => l.length - y.1) (0, X0, Y0) ⟨Nat.zero_le _, hX0, hY0⟩ ?_ (fun w h => h.cnt ji) ?_
   exact ju
   rintro ⟨i, X, Y⟩ ⟨hi, hX, hY⟩
   dsimp only at hi hX hY ⊢
   by_cases hil : i < l.length
   · obtain ⟨m, hmi⟩ : ∃ m, l[i]? = some m := ⟨_, List.getElem?_eq_getElem hil⟩
     obtain ⟨b1, o1, C1, t1, f1, rfl, m1, cs, _, ha, hc⟩ := sliceR.at hl hmi
     have ha0' := ha
     obtain ⟨va, vb, rfl, hvd, _⟩ := ha
     obtain ⟨hwA, hqA⟩ := yy hw0 (l.take i) (fun y hy => by rw [hq0]; exact hall1 y (List.mem_of_mem_take hy))
     have hok : yG (yD a0 (l.take i)).q m := by rw [hqA, hq0]; exact hall1 m (List.mem_of_getElem? hmi)
     have hsn := Jc a0 l hmi
     obtain ⟨a, hae⟩ : ∃ a, a = yD a0 (l.take i) := ⟨_, rfl⟩
     rw [← hae] at hX hY hwA hok hsn
     have hwA2 := yQ hwA hok
     have hsh := VS hwA.ok m
     have hK : ∀ z ∈ [(b1, Obj.cells C1 t1 f1)], z ∈ X ++ (Y ++ L) := fun z hz => by rw [List.mem_singleton.1 hz]; simp [m1]
     refine goA ?_
     refine jw jc ([(b1, Obj.cells C1 t1 f1)]) [] ?_
     refine tkQ 0 ?_
     refine tkQ 1 ?_
     refine tkQ 2 ?_
     refine tkQ 3 ?_
     refine tkQ 4 ?_
     (refine' jt 5 rfl rfl jd (jG (jy [.int .u8 m.what, .int .i64 m.up, .int .u8 m.v.code, va, vb, .int .u32 m.t, .int .i64 m.now] rfl stL (List.mem_singleton.2 rfl) hc)) ?_ ?_; (· assumption))
     refine tkQ 7 ?_
     refine tkQ 8 ?_
     refine tkQ 9 ?_
     refine tkQ 10 ?_
     refine tkQ 11 ?_
     (refine' jt 12 rfl rfl jd (jG (jy [.int .u8 m.what, .int .i64 m.up, .int .u8 m.v.code, va, vb, .int .u32 m.t, .int .i64 m.now] rfl stL (List.mem_singleton.2 rfl) hc)) ?_ ?_; (· assumption))
     refine jF 6 jd rfl rfl rfl rfl (um (cap := []) (xs := [_, _]) jd rfl rfl (K6 hX hwA [.int .u8 m.what, .int .i64 m.up, .int .u8 m.v.code, va, vb, .int .u32 m.t, .int .i64 m.now] m (qX _ _ _ _ jr ha0') hok)) ?_; rintro _ _ ⟨cd1, X1, N1, rfl, hd1, hX1, rfl⟩; refine ⟨Or.inr (fun z hz => by rw [List.mem_singleton.1 hz]; simp [m1]), ?_⟩
     refine jZ (L' := Y ++ (X1 ++ (N1 ++ L))) ?_ ji; refine jF 13 jd rfl rfl rfl rfl (um (cap := []) (xs := [_, _]) jd rfl rfl (K6 hY hwA [.int .u8 m.what, .int .i64 m.up, .int .u8 m.v.code, va, vb, .int .u32 m.t, .int .i64 m.now] m (qX _ _ _ _ jr ha0') hok)) ?_; rintro _ _ ⟨cd2, Y1, N2, rfl, hd2, hY1, rfl⟩; refine ⟨Or.inr (fun z hz => by rw [List.mem_singleton.1 hz]; simp [m1]), ?_⟩
     refine jF 14 jd rfl rfl rfl rfl (jb jd rfl (qv cd1 cd2 _ _ (kz _ _ _ _ jr hd1) (kz _ _ _ _ jr hd2) hsh.few)) ?_; rintro _ _ ⟨rfl, rfl⟩; refine ⟨Or.inr (fun z hz => by rw [List.mem_singleton.1 hz]; simp [m1]), ?_⟩
     refine tkQ 15 ?_
     refine tdQ ?_
     rw [decide_eq_true rfl]
     refine jB (L' := X1 ++ (Y1 ++ L)) ?_ ji
     refine goA ?_
     refine jJ (jb jd rfl (acZ hX1 hwA2)) rfl ?_
     cases hdu : (Aq.dueA (qt a m).1).2 with
     | false =>
       refine goA ?_
       refine jh (i + 1, X1, Y1) ⟨hil, by dsimp only; rw [hsn]; exact hX1, by dsimp only; rw [hsn]; exact hY1⟩ ?_ (fun w h => h) (by dsimp only; omega)
       exact ju
     | true =>
       obtain ⟨hd1', hd2'⟩ := aaU hwA2.ok hdu
       refine goA ?_
       refine jv (jb jd rfl (UD hX1)) rfl ?_
       rintro _ _ ⟨ap3, X3, rfl, hX3, rfl⟩
       refine goA ?_
       refine qA (jb jd rfl (Yo hX3 hwA2 (Aq.dueA (qt a m).1).1)) rfl ?_
       rintro _ _ ⟨cd3, X4, N3, rfl, hd3, hX4, rfl⟩
       repeat (first | refine goA ?_ | refine jM (jm rfl (uD )) rfl ?_)
       refine jQ (jb jd rfl (qv cd3 [.slice none 0 0, .slice none 0 0, .bool false, .bool false, .int .u8 0, .slice none 0 0, .slice none 0 0, .int .u32 0, .slice none 0 0, .slice none 0 0] _ Dd.none (kz _ _ _ _ jr hd3) qn (Yt hwA2.ok _).few)) rfl ?_
       rw [decide_eq_false hd2']
       refine goA ?_
       refine jh (i + 1, X1, Y1) ⟨hil, by dsimp only; rw [hsn]; exact hX1, by dsimp only; rw [hsn]; exact hY1⟩ ?_ (fun w h => h.cnt ji) (by dsimp only; omega)
       exact ju
   · have hie : i = l.length := by omega
     subst hie
     rw [List.take_length] at hX hY
     obtain ⟨hwE, hqE⟩ := yy hw0 l (fun y hy => by rw [hq0]; exact hall1 y hy)
     obtain ⟨a, hae⟩ : ∃ a, a = yD a0 l := ⟨_, rfl⟩
     rw [← hae] at hX hY hwE hqE
     have hall3 : ∀ y ∈ more, yG a.q y := fun y hy => by rw [hqE, hq0]; exact hall2 y hy
     clear hae
     refine goA ?_
     refine jv (jb jd rfl (UD hX)) rfl ?_
     rintro _ _ ⟨ap3, X3, rfl, hX3, rfl⟩
     refine goA ?_
     refine jA (σ := Nat × ja) (fun y => y.1 ≤ more.length ∧ qU ap3 (yD a (more.take y.1)) y.2) (fun y => [(2, .slice ma more.length mc), (7, .pointer (some ⟨ap, 0, none⟩)), (10, .pointer (some ⟨ap2, 0, none⟩)), (15, .func (.func 23) #[] #[]), (20, .pointer (some ⟨ap3, 0, none⟩)), (21, .int .i64 (y.1 : Nat))]) (fun y => y.2 ++ (X ++ (Y ++ L))) (fun y => more.length - y.1) (0, X3) ⟨Nat.zero_le _, hX3⟩ ?_ (fun w h => h) ?_
     exact ju
     rintro ⟨k, Xc⟩ ⟨hk, hXc⟩
     dsimp only at hk hXc ⊢
     by_cases hkl : k < more.length
     · obtain ⟨m, hmi⟩ : ∃ m, more[k]? = some m := ⟨_, List.getElem?_eq_getElem hkl⟩
       obtain ⟨b1, o1, C1, t1, f1, rfl, m1, cs, _, ha, hc⟩ := sliceR.at hm hmi
       have ha0' := ha
       obtain ⟨va, vb, rfl, hvd, _⟩ := ha
       obtain ⟨hwA, hqA⟩ := yy hwE (more.take k) (fun y hy => hall3 y (List.mem_of_mem_take hy))
       have hok : yG (yD a (more.take k)).q m := by rw [hqA]; exact hall3 m (List.mem_of_getElem? hmi)
       have hsn := Jc a more hmi
       refine goA ?_
       refine jz (jy [.int .u8 m.what, .int .i64 m.up, .int .u8 m.v.code, va, vb, .int .u32 m.t, .int .i64 m.now] rfl stL (List.mem_append_right _ (List.mem_append_right _ (List.mem_append_right _ m1))) hc) rfl ?_
       refine jv (um (cap := []) (xs := [_, _]) jd rfl rfl (K6 hXc hwA [.int .u8 m.what, .int .i64 m.up, .int .u8 m.v.code, va, vb, .int .u32 m.t, .int .i64 m.now] m (qX _ _ _ _ jr ha0') hok)) rfl ?_
       rintro _ _ ⟨cd1, X5, N1, rfl, hd1, hX5, rfl⟩
       refine goA ?_
       refine jh (k + 1, X5) ⟨hkl, by dsimp only; rw [hsn]; exact hX5⟩ ?_ (fun w h => h.cnt ji) (by dsimp only; omega)
       exact ju
     clear hXc
     refine goA ?_
     refine jA (σ := Nat × ja × ja) (fun y => y.1 ≤ more.length ∧ qU ap (yD a (more.take y.1)) y.2.1 ∧ qU ap2 (yD a (more.take y.1)) y.2.2) (fun y => [(2, .slice ma more.length mc), (7, .pointer (some ⟨ap, 0, none⟩)), (10, .pointer (some ⟨ap2, 0, none⟩)), (15, .func (.func 23) #[] #[]), (22, .int .i64 (y.1 : Nat))]) (fun y => y.2.1 ++ (y.2.2 ++ L)) (fun y => more.length - y.1) (0, X, Y) ⟨Nat.zero_le _, hX, hY⟩ ?_ (fun w h => h.cnt ji) ?_
     exact ju
     rintro ⟨i, X1, Y1⟩ ⟨hi1, hX1, hY1⟩
     dsimp only at hi1 hX1 hY1 ⊢
     by_cases hil : i < more.length
     · obtain ⟨m, hmi⟩ : ∃ m, more[i]? = some m := ⟨_, List.getElem?_eq_getElem hil⟩
       obtain ⟨b1, o1, C1, t1, f1, rfl, m1, cs, _, ha, hc⟩ := sliceR.at hm hmi
       have ha0' := ha
       obtain ⟨va, vb, rfl, hvd, _⟩ := ha
       obtain ⟨hwA, hqA⟩ := yy hwE (more.take i) (fun y hy => hall3 y (List.mem_of_mem_take hy))
       have hok : yG (yD a (more.take i)).q m := by rw [hqA]; exact hall3 m (List.mem_of_getElem? hmi)
       have hsn := Jc a more hmi
       obtain ⟨r, hre⟩ : ∃ r, r = yD a (more.take i) := ⟨_, rfl⟩
       rw [← hre] at hX1 hY1 hwA hok hsn
       have hwA2 := yQ hwA hok
       have hsh := VS hwA.ok m
       have hK : ∀ z ∈ [(b1, Obj.cells C1 t1 f1)], z ∈ X1 ++ (Y1 ++ L) := fun z hz => by rw [List.mem_singleton.1 hz]; simp [m1]
       refine goA ?_
       refine jw jc ([(b1, Obj.cells C1 t1 f1)]) [] ?_
       refine tkQ 0 ?_
       refine tkQ 1 ?_
       refine tkQ 2 ?_
       refine tkQ 3 ?_
       refine tkQ 4 ?_
       (refine' jt 5 rfl rfl jd (jG (jy [.int .u8 m.what, .int .i64 m.up, .int .u8 m.v.code, va, vb, .int .u32 m.t, .int .i64 m.now] rfl stL (List.mem_singleton.2 rfl) hc)) ?_ ?_; (· assumption))
       refine tkQ 7 ?_
       refine tkQ 8 ?_
       refine tkQ 9 ?_
       refine tkQ 10 ?_
       refine tkQ 11 ?_
       (refine' jt 12 rfl rfl jd (jG (jy [.int .u8 m.what, .int .i64 m.up, .int .u8 m.v.code, va, vb, .int .u32 m.t, .int .i64 m.now] rfl stL (List.mem_singleton.2 rfl) hc)) ?_ ?_; (· assumption))
       refine jF 6 jd rfl rfl rfl rfl (um (cap := []) (xs := [_, _]) jd rfl rfl (K6 hX1 hwA [.int .u8 m.what, .int .i64 m.up, .int .u8 m.v.code, va, vb, .int .u32 m.t, .int .i64 m.now] m (qX _ _ _ _ jr ha0') hok)) ?_; rintro _ _ ⟨cd1, X2, N1, rfl, hd1, hX2, rfl⟩; refine ⟨Or.inr (fun z hz => by rw [List.mem_singleton.1 hz]; simp [m1]), ?_⟩
       refine jZ (L' := Y1 ++ (X2 ++ (N1 ++ L))) ?_ ji; refine jF 13 jd rfl rfl rfl rfl (um (cap := []) (xs := [_, _]) jd rfl rfl (K6 hY1 hwA [.int .u8 m.what, .int .i64 m.up, .int .u8 m.v.code, va, vb, .int .u32 m.t, .int .i64 m.now] m (qX _ _ _ _ jr ha0') hok)) ?_; rintro _ _ ⟨cd2, Y2, N2, rfl, hd2, hY2, rfl⟩; refine ⟨Or.inr (fun z hz => by rw [List.mem_singleton.1 hz]; simp [m1]), ?_⟩
       refine jF 14 jd rfl rfl rfl rfl (jb jd rfl (qv cd1 cd2 _ _ (kz _ _ _ _ jr hd1) (kz _ _ _ _ jr hd2) hsh.few)) ?_; rintro _ _ ⟨rfl, rfl⟩; refine ⟨Or.inr (fun z hz => by rw [List.mem_singleton.1 hz]; simp [m1]), ?_⟩
       refine tkQ 15 ?_
       refine tkQ 16 ?_
       refine tkQ 17 ?_
       refine tkQ 19 ?_
       refine zq 18 jd rfl rfl rfl rfl (by exact xF (by exact dT (by with_reducible rfl))) (jb jd rfl (JY hX2 jr)) ?_; rintro _ _ ⟨rfl, rfl⟩; refine ⟨Or.inr (fun z hz => by rw [List.mem_singleton.1 hz]; simp [m1]), ?_⟩
       refine zq 20 jd rfl rfl rfl rfl (by exact xF (by exact dT (by with_reducible rfl))) (jb jd rfl (JY hY2 jr)) ?_; rintro _ _ ⟨rfl, rfl⟩; refine ⟨Or.inr (fun z hz => by rw [List.mem_singleton.1 hz]; simp [m1]), ?_⟩
       refine tkQ 21 ?_
       refine tkQ 22 ?_
       refine tdQ ?_
       refine jB (L' := X2 ++ (Y2 ++ L)) ?_ ji
       refine goA ?_
       refine jh (i + 1, X2, Y2) ⟨hil, by dsimp only; rw [hsn]; exact hX2, by dsimp only; rw [hsn]; exact hY2⟩ ?_ (fun w h => h) (by dsimp only; omega)
       exact ju
     refine goA ?_
     refine jB (L' := L) ?_ ji
     refine jf 6 _ rfl rfl ?_
     exact ⟨rfl, rfl⟩
end
section
open Go.RowKit
theorem Qm (cx : List Value) (x : CaseT) (v : Value) (l : List ActT) (w : Value) (more : List ActT) (W : World) (hx : QT (kj W) cx x) (hl : sliceR 7 K4 (kj W) [v] l) (hm : sliceR 7 K4 (kj W) [w] more) :
 Calls Tryz.prog 5 #[.agg cx.toArray, v, w] W fun e w' => e = .returned (.bool true) ∧ Below W.heap.size W w' :=
 Spec.below (WR cx x v w l more hx hl hm)
end
section
open Go.ChangeShapes Go.WideShapes Go.ChangeAt Go.RowKit
open Vd (RSet Vdt Vote Rec Quest Piece Ballot)
open Cn (Zo Cf)
theorem own : ownKnob Tryz.prog.godebug = none := by kernel_rfl
theorem UF : laidOutB Tryz.prog = true := by kernel_rfl
section
variable {H : Type} {enc : TypeId × Value → H} {W : World} {v : Value} {d : DataW H} {p : List MemPlace} {base : Nat}
theorem aaW {n : Int} (h : kJ .u16 n) : 0 ≤ n ∧ n ≤ 65535 := by unfold kJ Lit.wf at h; simp [IntKind.min, IntKind.max, IntKind.bits, IntKind.signed] at h; omega
theorem agC {n : Int} (h : kJ .u32 n) : 0 ≤ n ∧ n ≤ 4294967295 := by unfold kJ Lit.wf at h; simp [IntKind.min, IntKind.max, IntKind.bits, IntKind.signed] at h; omega
theorem bd8 {n : Int} (h : kJ .u8 n) : 0 ≤ n ∧ n ≤ 255 := by unfold kJ Lit.wf at h; simp [IntKind.min, IntKind.max, IntKind.bits, IntKind.signed] at h; omega
theorem JK {n : Int} (h : kJ .i64 n) : -9223372036854775808 ≤ n ∧ n ≤ 9223372036854775807 := by unfold kJ Lit.wf at h; simp [IntKind.min, IntKind.max, IntKind.bits, IntKind.signed] at h; omega
theorem VT : Opens enc Tryz.prog W 24 3 Ul := fun fuel cs x hf => by
 obtain ⟨hlen, hfs⟩ := kD Tryz.underlying24 hf
 have hc : Tryz.prog.cellsOf 24 = 3 := by kernel_rfl
 rw [hc] at hlen
 have c0 : Tryz.prog.cellsOf 9 = 1 := by kernel_rfl
 have c1 : Tryz.prog.cellsOf 22 = 1 := by kernel_rfl
 obtain ⟨n0, y0, g0⟩ := hfs 0 _ rfl
 have g0 : DataW.trod enc Tryz.prog W 0 (fun _ => true) true n0 9 ((cs.drop 0).take (Tryz.prog.cellsOf 9)) = some y0 := g0
 rw [c0] at g0
 obtain ⟨a0, k0, w0⟩ := (qG unO).at g0
 obtain ⟨n1, y1, g1⟩ := hfs 1 _ rfl
 have g1 : DataW.trod enc Tryz.prog W 0 (fun _ => true) true n1 22 ((cs.drop 1).take (Tryz.prog.cellsOf 22)) = some y1 := g1
 rw [c1] at g1
 obtain ⟨a1, k1, w1⟩ := (jI unO).at g1
 obtain ⟨n2, y2, g2⟩ := hfs 2 _ rfl
 have g2 : DataW.trod enc Tryz.prog W 0 (fun _ => true) true n2 22 ((cs.drop 2).take (Tryz.prog.cellsOf 22)) = some y2 := g2
 rw [c1] at g2
 obtain ⟨a2, k2, w2⟩ := (jI unO).at g2
 refine ⟨hlen, ⟨a0, a1, a2⟩, ?_⟩
 match cs, hlen with
 | [x0, x1, x2], _ =>
   obtain rfl : x0 = _ := by simpa using k0
   obtain rfl : x1 = _ := by simpa using k1
   obtain rfl : x2 = _ := by simpa using k2
   exact ⟨rfl, w0, aaW w1, aaW w2⟩
theorem VU : Opens enc Tryz.prog W 26 3 zoR := fun fuel cs x hf => by
 obtain ⟨hlen, hfs⟩ := kD Tryz.underlying26 hf
 have hc : Tryz.prog.cellsOf 26 = 3 := by kernel_rfl
 rw [hc] at hlen
 have c0 : Tryz.prog.cellsOf 9 = 1 := by kernel_rfl
 have c1 : Tryz.prog.cellsOf 5 = 1 := by kernel_rfl
 have c2 : Tryz.prog.cellsOf 22 = 1 := by kernel_rfl
 obtain ⟨n0, y0, g0⟩ := hfs 0 _ rfl
 have g0 : DataW.trod enc Tryz.prog W 0 (fun _ => true) true n0 9 ((cs.drop 0).take (Tryz.prog.cellsOf 9)) = some y0 := g0
 rw [c0] at g0
 obtain ⟨a0, k0, w0⟩ := (qG unO).at g0
 obtain ⟨n1, y1, g1⟩ := hfs 1 _ rfl
 have g1 : DataW.trod enc Tryz.prog W 0 (fun _ => true) true n1 5 ((cs.drop 1).take (Tryz.prog.cellsOf 5)) = some y1 := g1
 rw [c1] at g1
 obtain ⟨a1, k1, w1⟩ := (jI unO).at g1
 obtain ⟨n2, y2, g2⟩ := hfs 2 _ rfl
 have g2 : DataW.trod enc Tryz.prog W 0 (fun _ => true) true n2 22 ((cs.drop 2).take (Tryz.prog.cellsOf 22)) = some y2 := g2
 rw [c2] at g2
 obtain ⟨a2, k2, w2⟩ := (jI unO).at g2
 refine ⟨hlen, ⟨a0, a1.toNat, a2.toNat⟩, ?_⟩
 match cs, hlen with
 | [x0, x1, x2], _ =>
   obtain rfl : x0 = _ := by simpa using k0
   obtain rfl : x1 = _ := by simpa using k1
   obtain rfl : x2 = _ := by simpa using k2
   have q1 := bd8 w1
   have q2 := aaW w2
   refine ⟨?_, w0, by show a1.toNat ≤ 255; omega, by show a2.toNat ≤ 65535; omega⟩
   show _ = [_, Value.int .u8 ((a1.toNat : Nat) : Int), Value.int .u16 ((a2.toNat : Nat) : Int)]
   rw [Int.toNat_of_nonneg q1.1, Int.toNat_of_nonneg q2.1]
theorem aaX : Opens enc Tryz.prog W 30 13 cfR := fun fuel cs x hf => by
 obtain ⟨hlen, hfs⟩ := kD Tryz.underlying30 hf
 have hc : Tryz.prog.cellsOf 30 = 13 := by kernel_rfl
 rw [hc] at hlen
 have c0 : Tryz.prog.cellsOf 3 = 1 := by kernel_rfl
 have c1 : Tryz.prog.cellsOf 28 = 1 := by kernel_rfl
 obtain ⟨n0, y0, g0⟩ := hfs 0 _ rfl
 have g0 : DataW.trod enc Tryz.prog W 0 (fun _ => true) true n0 3 ((cs.drop 0).take (Tryz.prog.cellsOf 3)) = some y0 := g0
 rw [c0] at g0
 obtain ⟨a0, k0, w0⟩ := (jI unO).at g0
 obtain ⟨n1, y1, g1⟩ := hfs 1 _ rfl
 have g1 : DataW.trod enc Tryz.prog W 0 (fun _ => true) true n1 3 ((cs.drop 1).take (Tryz.prog.cellsOf 3)) = some y1 := g1
 rw [c0] at g1
 obtain ⟨a1, k1, w1⟩ := (jI unO).at g1
 obtain ⟨n2, y2, g2⟩ := hfs 2 _ rfl
 have g2 : DataW.trod enc Tryz.prog W 0 (fun _ => true) true n2 3 ((cs.drop 2).take (Tryz.prog.cellsOf 3)) = some y2 := g2
 rw [c0] at g2
 obtain ⟨a2, k2, w2⟩ := (jI unO).at g2
 obtain ⟨n3, y3, g3⟩ := hfs 3 _ rfl
 have g3 : DataW.trod enc Tryz.prog W 0 (fun _ => true) true n3 3 ((cs.drop 3).take (Tryz.prog.cellsOf 3)) = some y3 := g3
 rw [c0] at g3
 obtain ⟨a3, k3, w3⟩ := (jI unO).at g3
 obtain ⟨n4, y4, g4⟩ := hfs 4 _ rfl
 have g4 : DataW.trod enc Tryz.prog W 0 (fun _ => true) true n4 3 ((cs.drop 4).take (Tryz.prog.cellsOf 3)) = some y4 := g4
 rw [c0] at g4
 obtain ⟨a4, k4, w4⟩ := (jI unO).at g4
 obtain ⟨n5, y5, g5⟩ := hfs 5 _ rfl
 have g5 : DataW.trod enc Tryz.prog W 0 (fun _ => true) true n5 3 ((cs.drop 5).take (Tryz.prog.cellsOf 3)) = some y5 := g5
 rw [c0] at g5
 obtain ⟨a5, k5, w5⟩ := (jI unO).at g5
 obtain ⟨n6, y6, g6⟩ := hfs 6 _ rfl
 have g6 : DataW.trod enc Tryz.prog W 0 (fun _ => true) true n6 3 ((cs.drop 6).take (Tryz.prog.cellsOf 3)) = some y6 := g6
 rw [c0] at g6
 obtain ⟨a6, k6, w6⟩ := (jI unO).at g6
 obtain ⟨n7, y7, g7⟩ := hfs 7 _ rfl
 have g7 : DataW.trod enc Tryz.prog W 0 (fun _ => true) true n7 3 ((cs.drop 7).take (Tryz.prog.cellsOf 3)) = some y7 := g7
 rw [c0] at g7
 obtain ⟨a7, k7, w7⟩ := (jI unO).at g7
 obtain ⟨n8, y8, g8⟩ := hfs 8 _ rfl
 have g8 : DataW.trod enc Tryz.prog W 0 (fun _ => true) true n8 3 ((cs.drop 8).take (Tryz.prog.cellsOf 3)) = some y8 := g8
 rw [c0] at g8
 obtain ⟨a8, k8, w8⟩ := (jI unO).at g8
 obtain ⟨n9, y9, g9⟩ := hfs 9 _ rfl
 have g9 : DataW.trod enc Tryz.prog W 0 (fun _ => true) true n9 3 ((cs.drop 9).take (Tryz.prog.cellsOf 3)) = some y9 := g9
 rw [c0] at g9
 obtain ⟨a9, k9, w9⟩ := (jI unO).at g9
 obtain ⟨n10, y10, g10⟩ := hfs 10 _ rfl
 have g10 : DataW.trod enc Tryz.prog W 0 (fun _ => true) true n10 3 ((cs.drop 10).take (Tryz.prog.cellsOf 3)) = some y10 := g10
 rw [c0] at g10
 obtain ⟨a10, k10, w10⟩ := (jI unO).at g10
 obtain ⟨n11, y11, g11⟩ := hfs 11 _ rfl
 have g11 : DataW.trod enc Tryz.prog W 0 (fun _ => true) true n11 3 ((cs.drop 11).take (Tryz.prog.cellsOf 3)) = some y11 := g11
 rw [c0] at g11
 obtain ⟨a11, k11, w11⟩ := (jI unO).at g11
 obtain ⟨n12, y12, g12⟩ := hfs 12 _ rfl
 have g12 : DataW.trod enc Tryz.prog W 0 (fun _ => true) true n12 28 ((cs.drop 12).take (Tryz.prog.cellsOf 28)) = some y12 := g12
 rw [c1] at g12
 obtain ⟨a12, k12⟩ := (qc unO jd (by decide) (VU (enc := enc))).at g12
 refine ⟨hlen, ⟨a0, a1, a2, a3, a4, a5, a6, a7, a8, a9, a10, a11, a12⟩, ?_⟩
 match cs, hlen with
 | [x0, x1, x2, x3, x4, x5, x6, x7, x8, x9, x10, x11, x12], _ =>
   obtain rfl : x0 = _ := by simpa using k0
   obtain rfl : x1 = _ := by simpa using k1
   obtain rfl : x2 = _ := by simpa using k2
   obtain rfl : x3 = _ := by simpa using k3
   obtain rfl : x4 = _ := by simpa using k4
   obtain rfl : x5 = _ := by simpa using k5
   obtain rfl : x6 = _ := by simpa using k6
   obtain rfl : x7 = _ := by simpa using k7
   obtain rfl : x8 = _ := by simpa using k8
   obtain rfl : x9 = _ := by simpa using k9
   obtain rfl : x10 = _ := by simpa using k10
   obtain rfl : x11 = _ := by simpa using k11
   exact ⟨x12, rfl, by simpa using k12, ⟨JK w0, JK w1, JK w2, JK w3, JK w4, JK w5, JK w6, JK w7, JK w8, JK w9, JK w10, JK w11⟩⟩
instance : Inhabited RSet := ⟨RSet.none⟩
theorem QW : Opens enc Tryz.prog W 122 5 rsR := fun fuel cs x hf => by
 obtain ⟨hlen, hfs⟩ := kD Tryz.underlying122 hf
 have hc : Tryz.prog.cellsOf 122 = 5 := by kernel_rfl
 rw [hc] at hlen
 have c0 : Tryz.prog.cellsOf 9 = 1 := by kernel_rfl
 have c1 : Tryz.prog.cellsOf 22 = 1 := by kernel_rfl
 have c2 : Tryz.prog.cellsOf 41 = 1 := by kernel_rfl
 have c3 : Tryz.prog.cellsOf 120 = 1 := by kernel_rfl
 obtain ⟨n0, y0, g0⟩ := hfs 0 _ rfl
 have g0 : DataW.trod enc Tryz.prog W 0 (fun _ => true) true n0 9 ((cs.drop 0).take (Tryz.prog.cellsOf 9)) = some y0 := g0
 rw [c0] at g0
 obtain ⟨a0, k0, w0⟩ := (qG unO).at g0
 obtain ⟨n1, y1, g1⟩ := hfs 1 _ rfl
 have g1 : DataW.trod enc Tryz.prog W 0 (fun _ => true) true n1 22 ((cs.drop 1).take (Tryz.prog.cellsOf 22)) = some y1 := g1
 rw [c1] at g1
 obtain ⟨a1, k1, w1⟩ := (jI unO).at g1
 obtain ⟨n2, y2, g2⟩ := hfs 2 _ rfl
 have g2 : DataW.trod enc Tryz.prog W 0 (fun _ => true) true n2 22 ((cs.drop 2).take (Tryz.prog.cellsOf 22)) = some y2 := g2
 rw [c1] at g2
 obtain ⟨a2, k2, w2⟩ := (jI unO).at g2
 obtain ⟨n3, y3, g3⟩ := hfs 3 _ rfl
 have g3 : DataW.trod enc Tryz.prog W 0 (fun _ => true) true n3 41 ((cs.drop 3).take (Tryz.prog.cellsOf 41)) = some y3 := g3
 rw [c2] at g3
 obtain ⟨a3, k3, w3⟩ := (jI unO).at g3
 obtain ⟨n4, y4, g4⟩ := hfs 4 _ rfl
 have g4 : DataW.trod enc Tryz.prog W 0 (fun _ => true) true n4 120 ((cs.drop 4).take (Tryz.prog.cellsOf 120)) = some y4 := g4
 rw [c3] at g4
 obtain ⟨a4, k4⟩ := (qc unO jd (by decide) (qG unO)).at g4
 refine ⟨hlen, ⟨a0, a1, a2, a3, a4⟩, ?_⟩
 match cs, hlen with
 | [x0, x1, x2, x3, x4], _ =>
   obtain rfl : x0 = _ := by simpa using k0
   obtain rfl : x1 = _ := by simpa using k1
   obtain rfl : x2 = _ := by simpa using k2
   obtain rfl : x3 = _ := by simpa using k3
   exact ⟨x4, rfl, by simpa using k4, w0, aaW w1, aaW w2, agC w3⟩
theorem aaY : Opens enc Tryz.prog W 40 3 vdR := fun fuel cs x hf => by
 obtain ⟨hlen, hfs⟩ := kD Tryz.underlying40 hf
 have hc : Tryz.prog.cellsOf 40 = 3 := by kernel_rfl
 rw [hc] at hlen
 have c0 : Tryz.prog.cellsOf 5 = 1 := by kernel_rfl
 have c1 : Tryz.prog.cellsOf 38 = 1 := by kernel_rfl
 obtain ⟨n0, y0, g0⟩ := hfs 0 _ rfl
 have g0 : DataW.trod enc Tryz.prog W 0 (fun _ => true) true n0 5 ((cs.drop 0).take (Tryz.prog.cellsOf 5)) = some y0 := g0
 rw [c0] at g0
 obtain ⟨a0, k0, w0⟩ := (jI unO).at g0
 obtain ⟨n1, y1, g1⟩ := hfs 1 _ rfl
 have g1 : DataW.trod enc Tryz.prog W 0 (fun _ => true) true n1 38 ((cs.drop 1).take (Tryz.prog.cellsOf 38)) = some y1 := g1
 rw [c1] at g1
 obtain ⟨a1, k1⟩ := (qc unO jd (by decide) (QW (enc := enc))).at g1
 obtain ⟨n2, y2, g2⟩ := hfs 2 _ rfl
 have g2 : DataW.trod enc Tryz.prog W 0 (fun _ => true) true n2 38 ((cs.drop 2).take (Tryz.prog.cellsOf 38)) = some y2 := g2
 rw [c1] at g2
 obtain ⟨a2, k2⟩ := (qc unO jd (by decide) (QW (enc := enc))).at g2
 refine ⟨hlen, ⟨a0, a1, a2⟩, ?_⟩
 match cs, hlen with
 | [x0, x1, x2], _ =>
   obtain rfl : x0 = _ := by simpa using k0
   exact ⟨x1, x2, rfl, by simpa using k1, by simpa using k2, bd8 w0⟩
theorem opens_case : Opens enc Tryz.prog W 32 21 QT := fun fuel cs x hf => by
 obtain ⟨hlen, hfs⟩ := kD Tryz.underlying32 hf
 have hc : Tryz.prog.cellsOf 32 = 21 := by kernel_rfl
 rw [hc] at hlen
 have c0 : Tryz.prog.cellsOf 24 = 3 := by kernel_rfl
 have c1 : Tryz.prog.cellsOf 26 = 3 := by kernel_rfl
 have c2 : Tryz.prog.cellsOf 27 = 1 := by kernel_rfl
 have c3 : Tryz.prog.cellsOf 30 = 13 := by kernel_rfl
 have c4 : Tryz.prog.cellsOf 2 = 1 := by kernel_rfl
 obtain ⟨n0, y0, g0⟩ := hfs 0 _ rfl
 have g0 : DataW.trod enc Tryz.prog W 0 (fun _ => true) true n0 24 ((cs.drop 0).take (Tryz.prog.cellsOf 24)) = some y0 := g0
 rw [c0] at g0
 obtain ⟨a0, k0⟩ := (VT (enc := enc)).at g0
 obtain ⟨n1, y1, g1⟩ := hfs 1 _ rfl
 have g1 : DataW.trod enc Tryz.prog W 0 (fun _ => true) true n1 26 ((cs.drop 3).take (Tryz.prog.cellsOf 26)) = some y1 := g1
 rw [c1] at g1
 obtain ⟨a1, k1⟩ := (VU (enc := enc)).at g1
 obtain ⟨n2, y2, g2⟩ := hfs 2 _ rfl
 have g2 : DataW.trod enc Tryz.prog W 0 (fun _ => true) true n2 27 ((cs.drop 6).take (Tryz.prog.cellsOf 27)) = some y2 := g2
 rw [c2] at g2
 obtain ⟨a2, k2⟩ := (qc unO jd (by decide) (jI unO)).at g2
 obtain ⟨n3, y3, g3⟩ := hfs 3 _ rfl
 have g3 : DataW.trod enc Tryz.prog W 0 (fun _ => true) true n3 30 ((cs.drop 7).take (Tryz.prog.cellsOf 30)) = some y3 := g3
 rw [c3] at g3
 obtain ⟨a3, k3⟩ := (aaX (enc := enc)).at g3
 obtain ⟨n4, y4, g4⟩ := hfs 4 _ rfl
 have g4 : DataW.trod enc Tryz.prog W 0 (fun _ => true) true n4 2 ((cs.drop 20).take (Tryz.prog.cellsOf 2)) = some y4 := g4
 rw [c4] at g4
 obtain ⟨a4, k4, w4⟩ := (jI unO).at g4
 refine ⟨hlen, ⟨a0, a1, a2, a3, a4⟩, ?_⟩
 match cs, hlen with
 | [x0, x1, x2, x3, x4, x5, x6, x7, x8, x9, x10, x11, x12, x13, x14, x15, x16, x17, x18, x19, x20], _ =>
   obtain rfl : x20 = _ := by simpa using k4
   obtain ⟨e0, hq⟩ := k0
   obtain ⟨e1, hz⟩ := k1
   obtain ⟨vz, e3, hcf⟩ := k3
   simp only [List.drop_zero, List.take_succ_cons, List.take_zero, List.drop_succ_cons, List.cons.injEq, and_true] at e0 e1 e3
   unfold jn at e3
   simp only [List.cons.injEq, and_true] at e3
   obtain ⟨rfl, rfl, rfl⟩ := e0
   obtain ⟨rfl, rfl, rfl⟩ := e1
   obtain ⟨rfl, rfl, rfl, rfl, rfl, rfl, rfl, rfl, rfl, rfl, rfl, rfl, rfl⟩ := e3
   exact ⟨_, _, rfl, ⟨rfl, hq⟩, ⟨rfl, hz⟩, by simpa using k2, ⟨_, rfl, hcf⟩, w4⟩
theorem Zl : Opens enc Tryz.prog W 69 7 K4 := fun fuel cs x hf => by
 obtain ⟨hlen, hfs⟩ := kD Tryz.underlying69 hf
 have hc : Tryz.prog.cellsOf 69 = 7 := by kernel_rfl
 rw [hc] at hlen
 have c0 : Tryz.prog.cellsOf 5 = 1 := by kernel_rfl
 have c1 : Tryz.prog.cellsOf 3 = 1 := by kernel_rfl
 have c2 : Tryz.prog.cellsOf 40 = 3 := by kernel_rfl
 have c3 : Tryz.prog.cellsOf 41 = 1 := by kernel_rfl
 have c4 : Tryz.prog.cellsOf 2 = 1 := by kernel_rfl
 obtain ⟨n0, y0, g0⟩ := hfs 0 _ rfl
 have g0 : DataW.trod enc Tryz.prog W 0 (fun _ => true) true n0 5 ((cs.drop 0).take (Tryz.prog.cellsOf 5)) = some y0 := g0
 rw [c0] at g0
 obtain ⟨a0, k0, w0⟩ := (jI unO).at g0
 obtain ⟨n1, y1, g1⟩ := hfs 1 _ rfl
 have g1 : DataW.trod enc Tryz.prog W 0 (fun _ => true) true n1 3 ((cs.drop 1).take (Tryz.prog.cellsOf 3)) = some y1 := g1
 rw [c1] at g1
 obtain ⟨a1, k1, w1⟩ := (jI unO).at g1
 obtain ⟨n2, y2, g2⟩ := hfs 2 _ rfl
 have g2 : DataW.trod enc Tryz.prog W 0 (fun _ => true) true n2 40 ((cs.drop 2).take (Tryz.prog.cellsOf 40)) = some y2 := g2
 rw [c2] at g2
 obtain ⟨a2, k2⟩ := (aaY (enc := enc)).at g2
 obtain ⟨n3, y3, g3⟩ := hfs 3 _ rfl
 have g3 : DataW.trod enc Tryz.prog W 0 (fun _ => true) true n3 41 ((cs.drop 5).take (Tryz.prog.cellsOf 41)) = some y3 := g3
 rw [c3] at g3
 obtain ⟨a3, k3, w3⟩ := (jI unO).at g3
 obtain ⟨n4, y4, g4⟩ := hfs 4 _ rfl
 have g4 : DataW.trod enc Tryz.prog W 0 (fun _ => true) true n4 2 ((cs.drop 6).take (Tryz.prog.cellsOf 2)) = some y4 := g4
 rw [c4] at g4
 obtain ⟨a4, k4, w4⟩ := (jI unO).at g4
 refine ⟨hlen, ⟨a0, a1, a2, a3, a4⟩, ?_⟩
 match cs, hlen with
 | [x0, x1, x2, x3, x4, x5, x6], _ =>
   obtain rfl : x0 = _ := by simpa using k0
   obtain rfl : x1 = _ := by simpa using k1
   obtain rfl : x5 = _ := by simpa using k3
   obtain rfl : x6 = _ := by simpa using k4
   obtain ⟨va, vb, ev, hs1, hs2, hcd⟩ := k2
   simp only [List.drop_zero, List.take_succ_cons, List.take_zero, List.drop_succ_cons, List.cons.injEq, and_true] at ev
   obtain ⟨rfl, rfl, rfl⟩ := ev
   exact ⟨_, _, rfl, ⟨_, _, rfl, hs1, hs2, hcd⟩, w0, w1, w3, w4⟩
theorem yH (hv : Value.okWide Tryz.prog W .any base 67 v) (h : DataW.Trod enc Tryz.prog W 0 (fun _ => true) true 67 v d p) : ∃ l, sliceR 7 K4 (kj W) [v] l := by
 obtain ⟨a, len, cap, rfl⟩ := okWide_slice unO hv
 obtain ⟨fuel, hf⟩ := h
 obtain ⟨l, k0⟩ := (qc unO jd (by decide) (Zl (enc := enc))).at hf
 exact ⟨l, k0⟩
theorem VV (hv : Value.okWide Tryz.prog W .any base 32 v) (h : DataW.Trod enc Tryz.prog W 0 (fun _ => true) true 32 v d p) : ∃ cs a, v = .agg cs.toArray ∧ QT (kj W) cs a := by
 obtain ⟨cs, rfl, hsz⟩ := okWide_struct Tryz.underlying32 hv
 obtain ⟨fuel, hf⟩ := h
 obtain ⟨q, hq⟩ := opens_case.at hf
 exact ⟨cs.toList, q, by simp, by simpa [Value.cells] using hq⟩
end
end
end Go.Proofs.YtbjkkoacclfejaaGreat
