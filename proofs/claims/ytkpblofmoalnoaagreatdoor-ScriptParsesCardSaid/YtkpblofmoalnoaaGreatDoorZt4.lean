/-
 Part 4: JS JN JV JW JT JO J4 Yb Yc J3 Nm Ca Cb Cc Cd Da Dc Jn Sc SlRange Pa Sb Base WMay WLower WLabels WName SRow Cmp App WRef1.
-/
import Derived.Test.YtkpblofmoalnoaaGreatDoorZt3
import Derived.Test.YtkpblofmoalnoaaGreatDoorZt1
import Derived.Maps.RangeRun
import Derived.Test.YtkpblofmoalnoaaGreatDoorZt2
import Derived.Lib.Builder
import Derived.Lib.UnsafeStr
import Derived.Laws.Externs
import Derived.Below
import Derived.Lib.ItoaNum
import Derived.Lib.ParseIntB
import Derived.Lib.Bytealg
import Derived.Laws.RangeString
import Derived.Laws.RangeAny
import Derived.Test.YtkpblofmoalnoaaGreatDoorProg
import Derived.WalkKit
import Derived.WalkSpells
import Derived.WalkLawsBesides
import Derived.Lib.Hide
import Derived.Lib.ConvBytes
import Derived.Lib.QuietBelow
import Derived.BigQuiet
import Derived.StillTailTactics
import Derived.Deep.DeepCutAuto
import Derived.Lib.Strings
import Derived.Lib.IndexBytes
import Derived.Deep.RegionLaw
import Derived.Laws.OwnMore
import Derived.OwnWalk
set_option maxRecDepth 100000
set_option maxHeartbeats 1000000
set_option linter.unusedVariables false
set_option linter.unusedSimpArgs false
namespace Go.Proofs.YtkpblofmoalnoaaGreatDoor.Ev
open Go
set_option maxRecDepth 100000
structure TLI (P : Program) (G : World) (ops : Array Oper) (n : Nat) (ρ : jn) (L : jc) (l : List Oper) (Q : Exit → Act → World → Prop) : Prop where
 out : ∀ a w, Env n ρ a → Heap G w L → wpListIn Fence.wide 0 P ops Q l a w
section
variable {P : Program} {G : World} {n : Nat} {ρ : jn} {L : jc} {ops : Array Oper} {Q : Exit → Act → World → Prop}
theorem K6 {id : Nat} {l : List Oper} (h : TLI P G l.toArray n ρ L l Q) : T P G n ρ L (.region id l.toArray false) Q := ⟨fun a w he hw => wpIn_wide.1 (wpIn_region_lit (h.out a w he hw))⟩
theorem WY (h : TQ G n ρ L .normal Q) : TLI P G ops n ρ L [] Q := ⟨fun a w he hw => wpListIn_nil (h.out a w he hw)⟩
theorem yA {d : Nat} {op : Op} {ty : TypeId} {pos : String} {after : Array Edge} {rest : List Oper} {v : Value} (h : OpQ P ρ L op ty v) (hp : ∀ c, op ≠ .defer c) (hd : Nat.blt d n = true) (hr : TLI P G ops n ((d, v) :: ρ) L rest Q) : TLI P G ops n ρ L (⟨some d, op, ty, pos, after, none⟩ :: rest) Q :=
 ⟨fun a w he hw => wpListIn_plain rfl fun K hK => wide_wide.oper (by
   unfold qz
   cases op <;> first | rfl | exact absurd rfl (hp _)) (OpT.wp (o := ⟨some d, op, ty, pos, after, none⟩) (Φ := fun u M => u = v ∧ M = L) h.v he hw fun u L' w' h1 h2 => by
    obtain ⟨rfl, rfl⟩ := h1
    exact hK _ _ (hr.out _ _ (he.put d (by simpa using hd) u) h2))⟩
theorem K7 {d t l : Nat} {x : Operand} {ats : Array TypeId} {ty : TypeId} {pos : String} {after : Array Edge} {rest : List Oper} {V : Value} {rc : Loop} {Φ : Value → jc → Prop} (ht : ρ.lookup t = some (.func (.yield l) #[] #[])) (hx : ev ρ x = some V) (hl : (l, Obj.loop rc) ∈ L) (hs : rc.params.size = 1) (hd : Nat.blt d n = true)
 (h : ∀ w, Heap G w L → RoundIn Fence.wide 0 P l rc.fn ((rc.params.zip #[V]).foldl (fun tmps (t, a) => tmps.setIfInBounds t a) rc.tmps) rc.assign rc.body w (jU G Φ))
 (hr : ∀ v L', Φ v L' → TLI P G ops n ((d, v) :: ρ) L' rest Q) : TLI P G ops n ρ L (⟨some d, .call ⟨.value (.tmp t), #[x], ats⟩, ty, pos, after, none⟩ :: rest) Q :=
 ⟨fun a w he hw => wpListIn_plain rfl fun K hK => by
   refine ⟨fun _ _ => trivial, ?_⟩
   have hft : a.eval (.tmp t) = .func (.yield l) #[] #[] := he.reads _ _ ht
   have hfx := he.reads _ _ hx
   have hrun : ((⟨some d, .call ⟨.value (.tmp t), #[x], ats⟩, ty, pos, after, none⟩ : Oper).semAt Fence.wide.round a.eval).run P w = .ok (.round l rc.fn ((rc.params.zip #[V]).foldl (fun tmps (t, a) => tmps.setIfInBounds t a) rc.tmps) rc.assign rc.body) w := by
    rw [← run_yield (P := P) (args := #[V]) (hw.get _ hl) (by rw [hs]; rfl)]
    show (execOp a.eval (⟨some d, .call ⟨.value (.tmp t), #[x], ats⟩, ty, pos, after, none⟩ : Oper)).run P w = _
    simp [execOp, resolve, hft, hfx, Deferred.ofValue, invoke]
   rw [hrun, Oper.uponIn_round]
   refine ⟨fun h => (by cases h), (h w hw).mono fun e w' hh => ?_⟩
   obtain ⟨v, L', rfl, h1, h2⟩ := hh
   exact hK _ _ ((hr v L' h1).out _ _ (he.put d (by simpa using hd) v) h2)⟩
end
noncomputable def strK {β : Type} (v : AV) (f : List Nat → Option β) : Option β := match v with
 | .str l => f l
 | _ => none
theorem ac6 {β : Type} {v : AV} {f : List Nat → Option β} {r : β} (h : strK v f = some r) : ∃ l, v = .str l ∧ f l = some r := by
 unfold strK at h
 split at h
 · exact ⟨_, rfl, h⟩
 · cases h
noncomputable def cutK {β : Type} (v : AV) (f : List Nat → Bool → Option β) : Option β := match v with
 | .tup [.str t, .str _, .bool b] => f t b
 | _ => none
theorem ac7 {β : Type} {v : AV} {f : List Nat → Bool → Option β} {r : β} (h : cutK v f = some r) : ∃ t u b, v = .tup [.str t, .str u, .bool b] ∧ f t b = some r := by
 unfold cutK at h
 split at h
 · exact ⟨_, _, _, rfl, h⟩
 · cases h
noncomputable def linesE (P : Program) (E : kg) (cut ts i o : Nat) (R : Rnd) (k : Nat) : Nat → Mem → Option (Option Exit × Mem) := Nat.rec (fun _ _ => none) (fun _ ih at_ m => ob (ldA P m ts i o) fun v => strK v fun l => bo (Nat.ble (lenN l) 1000000)
 (Bool.rec (some (none, m)) (ob (E cut [.str (drop l at_), .str [10]] m) fun r => cutK r.1 fun text b => ob (R (.agg [.int .i64 (Int.ofNat at_), .str text, .bool b]) r.2) fun q => Option.rec (bo (Nat.ble (lenN text) 1000000) (ih (at_ + (lenN text + 1)) q.2)) (fun x => some (some x, q.2)) q.1) (Nat.blt at_ (lenN l)))) k
noncomputable def linesZ (P : Program) (E : kg) (fl cut ts k : Nat) : WX := fun R v m => match v with
 | .fn f [.ptr i o] => bo (Nat.beq f fl) (linesE P E cut ts i o R k 0 m)
 | _ => none
section
variable {P : Program} {G : World} {n : Nat} {Q : Exit → Act → World → Prop} {F : Fm} {E : kg}
theorem Kw {i1 i2 i3 i4 b0 b1 ts ti tr cut : Nat} (hu : P.underlying ts = some .string) (hcut : ke P cut = true)
 (hbuild : ∀ (x : Int) (s : ByteArray) (b : Bool), Built P tr [(0, .int .i64 x), (1, .string s), (2, .bool b)] (.agg #[.int .i64 x, .string s, .bool b]))
 {p1 p2 p3 p4 p5 p6 p7 p8 p9 p10 p11 p12 p13 p14 p15 p16 p17 p18 p19 p20 p21 p22 p23 p24 p25 p26 p27 p28 : String} {a1 a2 a3 a4 a5 a6 a7 a8 a9 a10 a11 a12 a13 a14 a15 a16 a17 a18 a19 a20 a21 a22 a23 a24 a25 a26 a27 a28 : Array Edge} {y1 y2 y3 y4 y5 y6 y7 y8 y9 y10 y11 y12 y13 y14 y15 y16 y17 y18 y19 y20 y21 y22 y23 y24 y25 y26 y27 y28 u1 u2 u3 u4 u5 : Nat} {ats1 ats2 : Array TypeId}
 (hE : ki P E) {σ0 : Sg} {l : Nat} {rc : Loop} {R : Rnd} (hrd : Ku P G σ0 F l rc R) (hps : rc.params.size = 1) {i o : Nat} {y : Nat × Nat} {j : Option Exit} {m' : Mem}
 (hQ : ∀ (x : Exit) (ρ : jn) (M : jc), x = .exit b0 ∨ x = .ret → (∃ σ2, σ0.le σ2 ∧ MemR σ2 m' ⟨(l, .loop (kN rc j)) :: F.b, F.z, F.d⟩ M) → TQ G 31 ρ M x Q) :
 ∀ (k at_ : Nat) {m : Mem} {σ : Sg} {ρ : jn} {L : jc}, linesE P E cut ts i o R k at_ m = some (j, m') → σ0.le σ → σ i = some y → MemR σ m ⟨(l, .loop rc) :: F.b, F.z, F.d⟩ L →
  ρ.lookup 0 = some (.func (.yield l) #[] #[]) → ρ.lookup 1 = some (.pointer (some ⟨y.1, o, none⟩)) → ρ.lookup 3 = some (.int .i64 (Int.ofNat at_)) → ∀ a w, Env 31 ρ a → Heap G w L →
  Code.rounds P (.seq (.seq (.region i1 #[⟨some 7, .move (.tmp 3), y1, p1, a1, none⟩, ⟨some 8, .load ts (.tmp 1), y2, p2, a2, none⟩, ⟨some 9, .call ⟨.builtin .len, #[.tmp 8], #[ts]⟩, y3, p3, a3, none⟩, ⟨some 10, .binOp .lss u1 (.tmp 7) (.tmp 9) u2, y4, p4, a4, none⟩] false) (.cond (.tmp 10) .skip (.exit b0)))
   (.block b1 (.seq (.region i2 #[⟨some 12, .load ts (.tmp 1), y5, p5, a5, none⟩, ⟨some 13, .move (.tmp 3), y6, p6, a6, none⟩, ⟨some 14, .slice ts (.tmp 12) (some (.tmp 13)) none none, y7, p7, a7, none⟩, ⟨some 15, .call ⟨.value (.func cut), #[.tmp 14, .const (.string (bsN [10]))], ats1⟩, y8, p8, a8, none⟩, ⟨some 11, .move (.tmp 15), y9, p9, a9, none⟩, ⟨some 16, .extract (.tmp 11) 0, y10, p10, a10, none⟩, ⟨some 17, .extract (.tmp 11) 1, y11, p11, a11, none⟩, ⟨some 18, .extract (.tmp 11) 2, y12, p12, a12, none⟩, ⟨some 4, .assign (.tmp 16), y13, p13, a13, none⟩, ⟨some 5, .assign (.tmp 17), y14, p14, a14, none⟩, ⟨some 6, .assign (.tmp 18), y15, p15, a15, none⟩] false)
     (.seq (.seq (.region i3 #[⟨some 19, .move (.tmp 0), y16, p16, a16, none⟩, ⟨some 20, .move (.tmp 3), y17, p17, a17, none⟩, ⟨some 21, .move (.tmp 4), y18, p18, a18, none⟩, ⟨some 22, .move (.tmp 6), y19, p19, a19, none⟩, ⟨some 23, .build tr #[(0, .tmp 20), (1, .tmp 21), (2, .tmp 22)], y20, p20, a20, none⟩, ⟨some 24, .call ⟨.value (.tmp 19), #[.tmp 23], ats2⟩, y21, p21, a21, none⟩, ⟨some 25, .unOp .not u3 (.tmp 24), y22, p22, a22, none⟩] false) (.cond (.tmp 25) .ret .skip))
       (.region i4 #[⟨some 26, .move (.tmp 3), y23, p23, a23, none⟩, ⟨some 27, .move (.tmp 4), y24, p24, a24, none⟩, ⟨some 28, .call ⟨.builtin .len, #[.tmp 27], #[ts]⟩, y25, p25, a25, none⟩, ⟨some 29, .binOp .add ti (.tmp 28) (.const (.int .i64 1)) u4, y26, p26, a26, none⟩, ⟨some 30, .binOp .add ti (.tmp 26) (.tmp 29) u5, y27, p27, a27, none⟩, ⟨some 3, .assign (.tmp 30), y28, p28, a28, none⟩] false))))) Q k a w
 | 0, at_, m, σ, ρ, L, e, _, _, _, _, _, _ => by cases e
 | k + 1, at_, m, σ, ρ, L, e, hle, hi, hm, r0, r1, r3 => by
   intro a w he hw
   rw [rounds_succ]
   refine (show T P G 31 ρ L _ _ from ?_).out a w he hw
   clear he hw a w
   obtain ⟨v, e1, e⟩ := jd (show ob (ldA P m ts i o) (fun v => strK v fun l => bo (Nat.ble (lenN l) 1000000)
    (Bool.rec (some (none, m)) (ob (E cut [.str (drop l at_), .str [10]] m) fun r => cutK r.1 fun text b => ob (R (.agg [.int .i64 (Int.ofNat at_), .str text, .bool b]) r.2) fun q => Option.rec (bo (Nat.ble (lenN text) 1000000) (linesE P E cut ts i o R k (at_ + (lenN text + 1)) q.2)) (fun x => some (some x, q.2)) q.1) (Nat.blt at_ (lenN l)) : Option (Option Exit × Mem))) = some (j, m') from e)
   obtain ⟨S, rfl, e⟩ := ac6 e
   obtain ⟨hsz, e⟩ := jh e
   have hsz : S.length ≤ 1000000 := by rw [← kf]; exact Nat.le_of_ble_eq_true hsz
   obtain ⟨V1, o1, d1⟩ := Q5 (P := P) (ρ := (7, Value.int .i64 (Int.ofNat at_)) :: ρ) (ty := y2) (x := .tmp 1) hm.get r1 hi e1
   simp only [Den] at d1
   obtain ⟨hS, rfl⟩ := d1
   refine jT (jT (jY (jl (qk r3) rfl (jl o1 rfl (jl (yI (s := S.map UInt8.ofNat) rfl hu) rfl (jl (kF (a := .int .i64 (Int.ofNat at_)) (b := .int .i64 (S.map UInt8.ofNat).length) rfl rfl QZ) rfl (uU (qd ?_))))))))
   rw [List.length_map]
   cases hlt : Nat.blt at_ (lenN S) with
   | false =>
     rw [hlt] at e
     have e : some (none, m) = some (j, m') := e
     cases e
     have hd : decide (Int.ofNat at_ < (S.length : Int)) = false := by
      have : ¬ at_ < S.length := fun h => by
       rw [← kf] at h
       rw [Eq.mpr Nat.blt_eq h] at hlt
       cases hlt
      simpa using this
     rw [hd]
     exact QV rfl (ze (kQ (kQ (hQ _ _ _ (Or.inl rfl) ⟨σ, hle, hm⟩))))
   | true =>
     rw [hlt] at e
     obtain ⟨⟨cv, m1⟩, e2, e⟩ := jd (show ob (E cut [.str (drop S at_), .str [10]] m) (fun r => cutK r.1 fun text b => ob (R (.agg [.int .i64 (Int.ofNat at_), .str text, .bool b]) r.2) fun q => Option.rec (bo (Nat.ble (lenN text) 1000000) (linesE P E cut ts i o R k (at_ + (lenN text + 1)) q.2)) (fun x => some (some x, q.2)) q.1) = some (j, m') from e)
     obtain ⟨text, tail, b, rfl, e⟩ := ac7 e
     obtain ⟨⟨q, m2⟩, e3, e⟩ := jd e
     have hat : at_ < S.length := by rw [← kf]; exact Eq.mp Nat.blt_eq hlt
     have hd : decide (Int.ofNat at_ < (S.length : Int)) = true := by simpa using hat
     rw [hd]
     refine Wp rfl (yG (qd (um ?_)))
     have hslice : bs ((S.map UInt8.ofNat).drop (Int.ofNat at_).toNat) = bsN (drop S at_) := by
      rw [uq]
      unfold bsN
      rw [List.map_drop]
      rfl
     have hA : DenL σ [.str (drop S at_), .str [10]] [.string (bsN (drop S at_)), .string (bsN [10])] := by
      refine .cons ?_ (.cons ?_ .nil)
      · simp only [Den]
        exact ⟨fun b hb => hS b (by rw [uq] at hb; exact List.mem_of_mem_drop hb), trivial⟩
      · simp [Den]
     have hsp := hE (G := G) e2 hA hm
     have hlen : (S.map UInt8.ofNat).length = S.length := List.length_map ..
     obtain ⟨V2, o2, d2⟩ := Q5 (P := P) (ρ := (10, Value.bool true) :: (9, Value.int .i64 S.length) :: (8, Value.string (bsN S)) :: (7, Value.int .i64 (Int.ofNat at_)) :: ρ) (ty := y5) (x := .tmp 1) hm.get r1 hi e1
     simp only [Den] at d2
     obtain ⟨_, rfl⟩ := d2
     refine jT (jY (jl o2 rfl (jl (qk r3) rfl (jl (z5 (s := S.map UInt8.ofNat) (k := .i64) (i := Int.ofNat at_) rfl rfl hu (by simp) (by rw [hlen]; exact Int.ofNat_le.2 (Nat.le_of_lt hat))) rfl (jX (jb hcut (vs := [.string (bsN (drop S at_)), .string (bsN [10])]) (by rw [hslice]; rfl) hsp) rfl ?_)))))
     rintro V M1 ⟨σ1, k1, k2, k3⟩
     simp only [Den] at k2
     obtain ⟨Vs, hVs, rfl⟩ := k2
     obtain ⟨A, _, rfl, c1, hVs⟩ := hVs.inv
     obtain ⟨B, _, rfl, c2, hVs⟩ := hVs.inv
     obtain ⟨C, _, rfl, c3, hVs⟩ := hVs.inv
     obtain rfl := hVs.inv0
     simp only [Den] at c1 c2 c3
     obtain ⟨hT, rfl⟩ := c1
     obtain ⟨_, rfl⟩ := c2
     subst c3
     refine jl (qk rfl) rfl (jl (uV (i := 0) (v := .string (bsN text)) rfl rfl) rfl (jl (uV (i := 1) (v := .string (bsN tail)) rfl rfl) rfl (jl (uV (i := 2) (v := .bool b) rfl rfl) rfl (jl (uh rfl) rfl (jl (uh rfl) rfl (jl (uh rfl) rfl (uU (qd ?_))))))))
     have hv : Den σ1 (.agg [.int .i64 (Int.ofNat at_), .str text, .bool b]) (.agg #[.int .i64 (Int.ofNat at_), .string (bsN text), .bool b]) := by
      simp only [Den]
      refine ⟨[.int .i64 (Int.ofNat at_), .string (bsN text), .bool b], .cons (by simp [Den]) (.cons ?_ (.cons (by simp [Den]) .nil)), rfl⟩
      simp only [Den]
      exact ⟨hT, trivial⟩
     have hle1 := Sg.le_trans hle k1
     refine jT (jT (K6 (yA (qk (v := .func (.yield l) #[] #[]) r0) (by simp) rfl (yA (qk (v := .int .i64 (Int.ofNat at_)) r3) (by simp) rfl (yA (qk (v := .string (bsN text)) rfl) (by simp) rfl (yA (qk (v := .bool b) rfl) (by simp) rfl (yA (ja (ps := [(0, .tmp 20), (1, .tmp 21), (2, .tmp 22)]) rfl (hbuild _ _ _)) (by simp) rfl (K7 (l := l) (rc := rc) rfl rfl (k3.frame _ (List.mem_cons_self ..)) hps rfl (hrd e3 hle1 hv k3) ?_))))))))
     rintro u M2 ⟨rfl, σ2, g1, g2⟩
     have hle2 := Sg.le_trans hle1 g1
     refine yA (Ws (b := q.isNone) rfl) (by simp) rfl (WY (qd ?_))
     cases q with
     | some x =>
       have e : some (some x, m2) = some (j, m') := e
       cases e
       exact Wp rfl (Qr (kC (kb (kC (hQ _ _ _ (Or.inr rfl) ⟨σ2, hle2, g2⟩)))))
     | none =>
       obtain ⟨hts, e⟩ := jh (show bo (Nat.ble (lenN text) 1000000) (linesE P E cut ts i o R k (at_ + (lenN text + 1)) m2) = some (j, m') from e)
       have hts : text.length ≤ 1000000 := by rw [← kf]; exact Nat.le_of_ble_eq_true hts
       refine QV rfl (yG (qd ?_))
       refine jY (jl (qk (v := .int .i64 (Int.ofNat at_)) r3) rfl (jl (qk (v := .string (bsN text)) rfl) rfl (jl (yI (s := text.map UInt8.ofNat) rfl hu) rfl (jl (kF (a := .int .i64 (text.map UInt8.ofNat).length) (b := .int .i64 1) rfl rfl (Wt ?_)) rfl (jl (kF (a := .int .i64 (Int.ofNat at_)) (b := .int .i64 ((text.map UInt8.ofNat).length + 1)) rfl rfl (Wt ?_)) rfl (jl (uh rfl) rfl (uU ?_)))))))
       · rw [List.length_map]
         constructor <;> omega
       · rw [List.length_map]
         have : Int.ofNat at_ = (at_ : Int) := rfl
         rw [this]
         constructor <;> omega
       · refine uu ⟨fun a w he hw => Kw hu hcut hbuild hE hrd hps hQ k (at_ + (lenN text + 1)) e hle2 (g1 _ _ (k1 _ _ hi)) g2 (by exact r0) (by exact r1) ?_ a w he hw⟩
         show some (Value.int .i64 (Int.ofNat at_ + (((text.map UInt8.ofNat).length : Int) + 1))) = _
         rw [kf, List.length_map]
         rfl
theorem ac8 (hE : ki P E) {fl cut ts k i0 b0 y0 : Nat} {p0 : String} {a0 : Array Edge} {fn : Func} {body : Code} (hf : P.funcs[fl]? = some fn) (hbf : ke P fl = true) (hb : fn.body = some (.seq (.region i0 #[⟨some 3, .assign (.const (.int .i64 0)), y0, p0, a0, none⟩] false) (.block b0 (.loop body)))) (hn : fn.ntmps = 31) (hres : fn.results = #[])
 (hround : ∀ {G : World} {F : Fm} {Q : Exit → Act → World → Prop} {σ0 : Sg} {l : Nat} {rc : Loop} {R : Rnd} {i o : Nat} {y : Nat × Nat} {j : Option Exit} {m' : Mem}, Ku P G σ0 F l rc R → rc.params.size = 1 →
   (∀ (x : Exit) (ρ : jn) (M : jc), x = .exit b0 ∨ x = .ret → (∃ σ2, σ0.le σ2 ∧ MemR σ2 m' ⟨(l, .loop (kN rc j)) :: F.b, F.z, F.d⟩ M) → TQ G 31 ρ M x Q) →
   ∀ (k at_ : Nat) {m : Mem} {σ : Sg} {ρ : jn} {L : jc}, linesE P E cut ts i o R k at_ m = some (j, m') → σ0.le σ → σ i = some y → MemR σ m ⟨(l, .loop rc) :: F.b, F.z, F.d⟩ L →
    ρ.lookup 0 = some (.func (.yield l) #[] #[]) → ρ.lookup 1 = some (.pointer (some ⟨y.1, o, none⟩)) → ρ.lookup 3 = some (.int .i64 (Int.ofNat at_)) → ∀ a w, Env 31 ρ a → Heap G w L → Code.rounds P body Q k a w) :
 K5 P (linesZ P E fl cut ts k) := by
 intro G σ F l rc R v V j m m' L e hps hrd hv hm
 unfold linesZ at e
 split at e
 · rename_i f i o
   obtain ⟨hfl, e9⟩ := jh e
   obtain rfl : f = fl := Nat.eq_of_beq_eq_true hfl
   simp only [Den] at hv
   obtain ⟨Cap, hC, rfl⟩ := hv
   obtain ⟨A, _, rfl, c1, hC⟩ := hC.inv
   obtain rfl := hC.inv0
   simp only [Den] at c1
   obtain ⟨y, hy, rfl⟩ := c1
   refine ⟨f, _, rfl, hbf, ?_⟩
   refine ju (n := 31) hf hb hn (by simp) ?_
   refine aam [(0, .func (.yield l) #[] #[]), (1, .pointer (some ⟨y.1, o, none⟩))] (fun t v h => by simpa [qC] using h) (fun w hw => hw) ?_
   refine jT (jY (jl (uh rfl) rfl (uU (qd (um (abV k fun a w he hw => ?_))))))
   refine hround hrd hps (fun x ρ M hx hM => ?_) k 0 e9 σ.le_refl hy hm rfl rfl rfl a w he hw
   obtain ⟨σ2, g1, g2⟩ := hM
   have fin : TQ G 31 ρ M .ret (bodyPost P fn (jU G fun u M => ∃ σ2, σ.le σ2 ∧ MemR σ2 m' ⟨(l, .loop (kN rc j)) :: F.b, F.z, F.d⟩ M)) := ⟨fun a w he hw => ⟨he.defers, .tuple #[], by simp [results, hres], _, M, rfl, ⟨σ2, g1, g2⟩, hw⟩⟩
   rcases hx with rfl | rfl
   · exact kn (yk fin)
   · exact kb fin
 · cases e
end
end Go.Proofs.YtkpblofmoalnoaaGreatDoor.Ev
namespace Go.Proofs.YtkpblofmoalnoaaGreatDoor.Ev
open Go
def isK (k : Int) (e : MapEntry) : Bool := match e.val with
 | .int _ n => decide (n = k)
 | _ => false
structure KI (l : List MapEntry) : Prop where
 key : ∀ e ∈ l, ∃ n, e.key = .int .u16 n
 val : ∀ e ∈ l, ∃ n, e.val = .int .i64 n
 dist : l.Pairwise fun x y => x.key ≠ y.key
theorem KI.sub {l m : List MapEntry} (h : KI l) (s : m.Sublist l) : KI m := ⟨fun e he => h.key e (s.subset he), fun e he => h.val e (s.subset he), h.dist.sublist s⟩
def alY (k : Int) (es : Array MapEntry) (seen : Array Nat) : Array MapEntry := es.filter fun e => !(seen.contains e.born && isK k e)
section
variable {P : Program} {G : World} {ρ : jn} {L : jc} {F : Fm} {ty : TypeId} {σ : Sg}
end
noncomputable def notK (k : AV) (l : List (AV × AV)) : Bool := List.rec true (fun p _ ih => Bool.rec ih false (flatE k p.1)) l
noncomputable def intsE (p : AV × AV) : Bool := match p.1, p.2 with
 | .int .u16 _, .int .i64 _ => true
 | _, _ => false
noncomputable def intsL (l : List (AV × AV)) : Bool := List.rec true (fun p r ih => Bool.rec false (Bool.rec false ih (notK p.1 r)) (intsE p)) l
noncomputable def hasV (k : Int) (v : AV) : Bool := match v with
 | .int _ n => decide (n = k)
 | _ => false
noncomputable def freeL (k : Int) (l : List (AV × AV)) : List (AV × AV) := List.rec [] (fun p _ ih => Bool.rec (p :: ih) ih (hasV k p.2)) l
section
variable {σ : Sg}
end
noncomputable def isNorm (x : Exit) : Bool := Exit.rec true (fun _ => false) (fun _ => false) false (fun _ => false) false x
noncomputable def freeA (P : Program) (H k i : Nat) (E : kg) (args : List AV) (m : Mem) : Option (AV × Mem) :=
 ob P.funcs[i]? fun fn => ob fn.body fun c => bo (Nat.ble (lenN args) fn.ntmps) (match c with
  | .seq r0 (.seq r1 (.seq r2 _)) =>
    ob (codeE P E fn.ntmps k r0 (argF args 0 (.base H .leaf)) m) fun a => bo (isNorm a.x) (ob (codeE P E fn.ntmps k r1 a.s a.m) fun b => bo (isNorm b.x) (ob (codeE P E fn.ntmps k r2 b.s b.m) fun r => bo (isNorm r.x) (ob (r.s.get 1) fun v => ob (r.s.get 7) fun w => ob (r.s.get 8) fun z => match v, w, z with
     | .int .i64 slot, .mp i, .int .i64 0 => ob (r.m.h.get i) fun o => (match o with
       | .map l => bo (intsL l) (bo (Nat.ble (lenN l) 1000000) (putK r.m i (.map (freeL slot l)) fun m' => some (.int .i64 (Int.ofNat (Nat.sub (lenN l) (lenN (freeL slot l)))), m')))
       | _ => none)
     | _, _, _ => none)))
  | _ => none)
section
variable {P : Program} {G : World} {E : kg} {F : Fm} {σ : Sg} {L : jc}
end
end Go.Proofs.YtkpblofmoalnoaaGreatDoor.Ev
namespace Go.Proofs.YtkpblofmoalnoaaGreatDoor.Ev
open Go
noncomputable def beqM : List (AV × AV) → List (AV × AV) → Bool
 | [], [] => true
 | p :: l, q :: m => beqV p.1 q.1 && beqV p.2 q.2 && beqM l m
 | _, _ => false
theorem ab0 : ∀ (a b : List (AV × AV)), beqM a b = true → a = b
 | [], b, h => by cases b <;> simp [beqM] at h; rfl
 | p :: l, b, h => by
   cases b with
   | nil => simp [beqM] at h
   | cons q m =>
     simp [beqM] at h
     rw [ab0 l m h.2, show p = q from Prod.ext (yM _ _ h.1.1) (yM _ _ h.1.2)]
noncomputable def beqO : AO → AO → Bool
 | .cells l e, .cells m e' => Nat.beq e e' && beqVs l m
 | .row l n e sz lo, .row m n' e' sz' lo' => Nat.beq n n' && Nat.beq e e' && Nat.beq sz sz' && Nat.beq lo lo' && beqVs l m
 | .rowF l n e, .rowF m n' e' => Nat.beq n n' && Nat.beq e e' && beqVs l m
 | .map l, .map m => beqM l m
 | .it i, .it j => Nat.beq i j
 | _, _ => false
theorem agL (a b : AO) (h : beqO a b = true) : a = b := by
 cases a <;> cases b <;> simp [beqO] at h
 · rw [h.1, ux _ _ h.2]
 · rw [h.1.1.1.1, h.1.1.1.2, h.1.1.2, h.1.2, ux _ _ h.2]
 · rw [h.1.1, h.1.2, ux _ _ h.2]
 · rw [ab0 _ _ h]
 · rw [h]
noncomputable def look (l : List (Nat × AO)) (i : Nat) : Option AO := List.rec none (fun p _ ih => Bool.rec ih (some p.2) (Nat.beq p.1 i)) l
noncomputable def toTrK {β : Type} (l : List (Nat × AO)) (t : Tr AO) : (Tr AO → β) → β := List.rec (motive := fun _ => (Tr AO → β) → β) (fun k => k t) (fun p _ ih k => ih fun t => Tr.setK 20 t p.1 p.2 k) l
noncomputable def delTrK {β : Type} (l : List (Nat × AO)) (t : Tr AO) : (Tr AO → β) → β := List.rec (motive := fun _ => (Tr AO → β) → β) (fun k => k t) (fun p _ ih k => ih fun t => Tr.setOK 20 t p.1 none k) l
def yd : List (Nat × AO) → Tr AO → Tr AO
 | [], t => t
 | p :: l, t => Tr.set 20 (yd l t) p.1 p.2
def QD : List (Nat × AO) → Tr AO → Tr AO
 | [], t => t
 | p :: l, t => Tr.setO 20 (QD l t) p.1 none
theorem zu {β : Type} : ∀ (l : List (Nat × AO)) (t : Tr AO) (k : Tr AO → β), toTrK l t k = k (yd l t)
 | [], t, k => rfl
 | p :: l, t, k => by
   have h : toTrK (p :: l) t k = toTrK l t fun t => Tr.setK 20 t p.1 p.2 k := rfl
   rw [h, zu l, Tr.setK_eq]
   rfl
theorem VS {β : Type} : ∀ (l : List (Nat × AO)) (t : Tr AO) (k : Tr AO → β), delTrK l t k = k (QD l t)
 | [], t, k => rfl
 | p :: l, t, k => by
   have h : delTrK (p :: l) t k = delTrK l t fun t => Tr.setOK 20 t p.1 none k := rfl
   rw [h, VS l, Tr.setOK_eq]
   rfl
theorem uR (p : Nat × AO) (l : List (Nat × AO)) (i : Nat) : look (p :: l) i = if i = p.1 then some p.2 else look l i := by
 have h : look (p :: l) i = Bool.rec (look l i) (some p.2) (Nat.beq p.1 i) := rfl
 rw [h]
 by_cases c : i = p.1
 · rw [if_pos c, bqT c.symm]
 · rw [if_neg c, bqF (Ne.symm c)]
noncomputable def smallL (l : List (Nat × AO)) : Bool := allB (fun p => Nat.ble p.1 999998) l
theorem zv : ∀ {l : List (Nat × AO)} {t : Tr AO}, smallL l = true → ∀ i, (yd l t).get i = (look l i).or (t.get i)
 | [], t, h, i => rfl
 | p :: l, t, h, i => by
   have hp := kK h p (List.mem_cons_self ..)
   have hl : smallL l = true := by
    have h : Bool.rec false (smallL l) (Nat.ble p.1 999998) = true := h
    rw [hp] at h
    exact h
   have := Nat.le_of_ble_eq_true hp
   show (Tr.set 20 (yd l t) p.1 p.2).get i = _
   rw [Tr.get_set 20 _ _ _ (by omega), zv hl, uR]
   split <;> rfl
theorem VT : ∀ {l : List (Nat × AO)} {t : Tr AO}, smallL l = true → ∀ i, (QD l t).get i = if (look l i).isSome then none else t.get i
 | [], t, h, i => rfl
 | p :: l, t, h, i => by
   have hp := kK h p (List.mem_cons_self ..)
   have hl : smallL l = true := by
    have h : Bool.rec false (smallL l) (Nat.ble p.1 999998) = true := h
    rw [hp] at h
    exact h
   have := Nat.le_of_ble_eq_true hp
   show (Tr.setO 20 (QD l t) p.1 none).get i = _
   rw [Tr.get_setO 20 _ _ _ (by omega), VT hl, uR]
   by_cases c : i = p.1
   · simp [c]
   · simp [c]
noncomputable def hasO (l : List (Nat × AO)) (m : Mem) : Bool := allB (fun p => Option.rec false (fun o => beqO p.2 o) (m.h.get p.1)) l
theorem qY {m : Mem} : ∀ {l : List (Nat × AO)}, hasO l m = true → ∀ i o, look l i = some o → m.h.get i = some o
 | [], h, i, o, e => by cases e
 | p :: l, h, i, o, e => by
   have hp := kK h p (List.mem_cons_self ..)
   have hl : hasO l m = true := by
    have h : Bool.rec false (hasO l m) (Option.rec false (fun o => beqO p.2 o) (m.h.get p.1) : Bool) = true := h
    rw [hp] at h
    exact h
   rw [uR] at e
   by_cases c : i = p.1
   · rw [if_pos c] at e
     cases e
     subst c
     cases hg : m.h.get p.1 with
     | none => rw [hg] at hp; cases hp
     | some q => rw [hg] at hp; rw [agL _ _ hp]
   · rw [if_neg c] at e
     exact qY hl i o e
structure Row where
 i : Nat
 args : List AV
 nx : Nat
 hr : List (Nat × AO)
 hw : List (Nat × AO)
 v : AV
 nx' : Nat
 h' : List (Nat × AO)
noncomputable def Row.fits (r : Row) (i : Nat) (args : List AV) (m : Mem) : Bool := Bool.rec false (Bool.rec false (Bool.rec false (Bool.rec false (hasO r.hw m) (hasO r.hr m)) (beqVs r.args args)) (Nat.beq r.nx m.nx)) (Nat.beq r.i i)
noncomputable def Row.out (r : Row) (m : Mem) : Option (AV × Mem) := delTrK r.hw m.h fun t => toTrK r.h' t fun t => some (r.v, ⟨t, r.nx'⟩)
noncomputable def Row.okB (E : kg) (r : Row) : Bool := Bool.rec false (Bool.rec false (Bool.rec false (Bool.rec false (Bool.rec false
 (toTrK r.hr .leaf fun t => toTrK r.hw t fun t => Option.rec false (fun q => Bool.rec false (Bool.rec false (Bool.rec false (Bool.rec false
   (allB (fun p => Bool.rec (Option.rec true (fun _ => false) (q.2.h.get p.1)) true (Option.rec false (fun _ => true) (look r.h' p.1) : Bool)) r.hw)
   (hasO r.h' q.2)) (hasO r.hr q.2)) (Nat.beq q.2.nx r.nx')) (beqV r.v q.1)) (E r.i r.args ⟨t, r.nx⟩))
 (allB (fun p => Bool.rec (Option.rec false (fun _ => true) (look r.hw p.1)) true (Nat.ble r.nx p.1)) r.h')) (Nat.ble r.nx r.nx')) (smallL r.h')) (smallL r.hw)) (smallL r.hr)
theorem qA {a b : Bool} (h : (Bool.rec false b a : Bool) = true) : a = true ∧ b = true := by
 cases a with
 | false => cases h
 | true => exact ⟨rfl, h⟩
section
variable {P : Program}
theorem Row.ok {E : kg} (hE : ki P E) {r : Row} (hr : r.okB E = true) {G : World} {i : Nat} {args : List AV} {m m' : Mem} {v : AV} {σ : Sg} {As : List Value} {F : Fm} {L : jc} (hf : r.fits i args m = true) (e : r.out m = some (v, m')) (hA : DenL σ args As) (hm : MemR σ m F L) : Spec P G i As.toArray L (qr σ v m' F) := by
 classical
 obtain ⟨f1, hf⟩ := qA hf
 obtain ⟨f2, hf⟩ := qA hf
 obtain ⟨f3, hf⟩ := qA hf
 obtain ⟨f4, f5⟩ := qA hf
 obtain rfl := Nat.eq_of_beq_eq_true f1
 have hnx := Nat.eq_of_beq_eq_true f2
 have hargs := ux _ _ f3
 obtain ⟨s1, hr⟩ := qA hr
 obtain ⟨s2, hr⟩ := qA hr
 obtain ⟨s3, hr⟩ := qA hr
 obtain ⟨hle, hr⟩ := qA hr
 obtain ⟨hnew, hr⟩ := qA hr
 have hle := Nat.le_of_ble_eq_true hle
 rw [zu, zu] at hr
 unfold Row.out at e
 rw [VS, zu] at e
 cases e
 cases hq : E r.i r.args ⟨yd r.hw (yd r.hr .leaf), r.nx⟩ with
 | none => rw [hq] at hr; cases hr
 | some q =>
   rw [hq] at hr
   obtain ⟨u, m1⟩ := q
   dsimp only at hr
   obtain ⟨t1, hr⟩ := qA hr
   obtain ⟨t2, hr⟩ := qA hr
   obtain ⟨t3, hr⟩ := qA hr
   obtain ⟨t4, t5⟩ := qA hr
   have hv := yM _ _ t1
   have hn1 := Nat.eq_of_beq_eq_true t2
   let dom : Nat → Prop := fun i => (look r.hw i).isSome = true ∨ (look r.hr i).isSome = true
   have hk : ∀ i, (yd r.hw (yd r.hr .leaf)).get i = (look r.hw i).or (look r.hr i) := fun i => by
    rw [zv s2, zv s1]
    cases look r.hr i <;> rfl
   have hkm : ∀ i o, (yd r.hw (yd r.hr .leaf)).get i = some o → m.h.get i = some o := fun i o h => by
    rw [hk] at h
    cases h1 : look r.hw i with
    | some o' => rw [h1] at h; cases h; exact qY f5 i _ h1
    | none => rw [h1] at h; exact qY f4 i o h
   have hkd : ∀ i, dom i → ∃ o, (yd r.hw (yd r.hr .leaf)).get i = some o := fun i h => by
    rw [hk]
    rcases h with h | h
    · obtain ⟨o, h⟩ := Option.isSome_iff_exists.1 h
      exact ⟨o, by rw [h]; rfl⟩
    · obtain ⟨o, h⟩ := Option.isSome_iff_exists.1 h
      cases h1 : look r.hw i with
      | some o' => exact ⟨o', rfl⟩
      | none => exact ⟨o, h⟩
   have hdk : ∀ i o, (yd r.hw (yd r.hr .leaf)).get i = some o → dom i := fun i o h => by
    rw [hk] at h
    cases h1 : look r.hw i with
    | some o' => exact Or.inl (by rw [h1]; rfl)
    | none => rw [h1] at h; exact Or.inr (by rw [show look r.hr i = some o from h]; rfl)
   let B : jc := L.filter fun p => decide (∀ j o x, dom j → m.h.get j = some o → σ j = some x → p.1 ≠ x.1)
   have hB : ∀ p, p ∈ B ↔ p ∈ L ∧ ∀ j o x, dom j → m.h.get j = some o → σ j = some x → p.1 ≠ x.1 := fun p => by
    show p ∈ L.filter _ ↔ _
    rw [List.mem_filter]
    simp
   have hFB : ∀ p ∈ F.b, p ∈ B := fun p hp => (hB p).2 ⟨hm.frame p hp, fun j o x _ h1 h2 => hm.apart j o x h1 h2 p hp⟩
   let z1 : Nat → Option AO := fun i => if dom i then F.z i else none
   let F1 : Fm := ⟨B, z1, fun i => i < m.nx ∧ σ i = none ∧ z1 i = none⟩
   have hm1 : MemR σ ⟨yd r.hw (yd r.hr .leaf), r.nx⟩ F1 L := by
    refine ⟨fun i o x h h2 => hm.get i o x (hkm i o h) h2, fun i j o o' x y h h' h2 h3 h4 => hm.inj i j o o' x y (hkm i o h) (hkm j o' h') h2 h3 h4, fun p hp => ((hB p).1 hp).1, fun i o x h h2 p hp => ((hB p).1 hp).2 i o x (hdk i o h) (hkm i o h) h2, fun i o h => ?_, fun i hi => hm.fresh i (by rw [← hnx]; exact hi), fun i o h => by rw [hnx]; exact hm.below i o (hkm i o h), hm.glb, fun i h => ⟨h.2.1, h.2.2, by rw [hnx]; exact h.1⟩⟩
    have h : (if dom i then F.z i else none) = some o := h
    by_cases c : dom i
    · rw [if_pos c] at h
      obtain ⟨g1, g2, g3⟩ := hm.ghost i o h
      obtain ⟨o', ho'⟩ := hkd i c
      have := hkm i o' ho'
      rw [g2] at this
      cases this
      exact ⟨g1, ho', by rw [hnx]; exact g3⟩
    · rw [if_neg c] at h; cases h
   have hsp := hE (G := G) hq (hargs ▸ hA) hm1
   refine hsp.mono fun V M ⟨σ', k1, k2, k3⟩ => ?_
   rw [← hv] at k2
   refine ⟨σ', k1, k2, ?_⟩
   have hget : ∀ i, (yd r.h' (QD r.hw m.h)).get i = (look r.h' i).or (if (look r.hw i).isSome then none else m.h.get i) := fun i => by rw [zv s3, VT s2]
   have hz1 : ∀ i, ¬ dom i → z1 i = none := fun i c => if_neg c
   have dead : ∀ i, i < m.nx → σ i = none → z1 i = none → σ' i = none := fun i h1 h2 h3 => (k3.dead i ⟨h1, h2, h3⟩).1
   have cases2 : ∀ i o, (yd r.h' (QD r.hw m.h)).get i = some o → m1.h.get i = some o ∨ (¬ dom i ∧ m.h.get i = some o) := fun i o h => by
    rw [hget] at h
    cases h1 : look r.h' i with
    | some o' => rw [h1] at h; cases h; exact Or.inl (qY t4 i _ h1)
    | none =>
      rw [h1] at h
      have h : (if (look r.hw i).isSome then none else m.h.get i) = some o := h
      cases h2 : look r.hw i with
      | some o' => rw [h2] at h; cases h
      | none =>
        rw [h2] at h
        have h : m.h.get i = some o := h
        cases h3 : look r.hr i with
        | some o' =>
          have := qY f4 i _ h3
          rw [h] at this
          cases this
          exact Or.inl (qY t3 i _ h3)
        | none =>
          refine Or.inr ⟨fun c => ?_, h⟩
          rcases c with c | c
          · rw [h2] at c; cases c
          · rw [h3] at c; cases c
   have beside : ∀ i o x, ¬ dom i → m.h.get i = some o → σ' i = some x → σ i = some x ∧ ∃ O, DenO σ' x.2 o O ∧ (x.1, O) ∈ B := fun i o x c h h2 => by
    have h3 : σ i = some x := by
     cases hs : σ i with
     | none => rw [dead i (hm.below i o h) hs (hz1 i c)] at h2; cases h2
     | some y => rw [k1 i y hs] at h2; exact h2
    obtain ⟨O, g1, g2⟩ := hm.get i o x h h3
    refine ⟨h3, O, g1.mono k1, (hB _).2 ⟨g2, fun j o' y hj h4 h5 e => ?_⟩⟩
    have := hm.inj i j o o' x y h h4 h3 h5 e
    subst this
    exact c hj
   refine ⟨fun i o x h h2 => ?_, fun i j o o' x y h h' h2 h3 h4 => ?_, fun p hp => k3.frame p (hFB p hp), fun i o x h h2 p hp => ?_, fun i o h => ?_, fun i hi => k3.fresh i (by rw [hn1]; exact hi), fun i o h => ?_, k3.glb, fun i h => ?_⟩
   · rcases cases2 i o h with h | ⟨c, h⟩
     · exact k3.get i o x h h2
     · obtain ⟨_, O, g1, g2⟩ := beside i o x c h h2
       exact ⟨O, g1, k3.frame _ g2⟩
   · rcases cases2 i o h with h | ⟨c, h⟩
     · rcases cases2 j o' h' with h' | ⟨c', h'⟩
       · exact k3.inj i j o o' x y h h' h2 h3 h4
       · obtain ⟨_, O, g1, g2⟩ := beside j o' y c' h' h3
         exact absurd h4.symm (k3.apart i o x h h2 _ g2)
     · obtain ⟨q1, O, g1, g2⟩ := beside i o x c h h2
       rcases cases2 j o' h' with h' | ⟨c', h'⟩
       · exact absurd h4 (k3.apart j o' y h' h3 _ g2)
       · obtain ⟨q2, _⟩ := beside j o' y c' h' h3
         exact hm.inj i j o o' x y h h' q1 q2 h4
   · rcases cases2 i o h with h | ⟨c, h⟩
     · exact k3.apart i o x h h2 p (hFB p hp)
     · exact hm.apart i o x h (beside i o x c h h2).1 p hp
   · obtain ⟨g1, g2, g3⟩ := hm.ghost i o h
     have hnh : i < r.nx := by rw [hnx]; exact g3
     by_cases c : dom i
     · have hz : F1.z i = some o := by show (if dom i then F.z i else none) = _; rw [if_pos c]; exact h
       obtain ⟨q1, q2, q3⟩ := k3.ghost i o hz
       refine ⟨q1, ?_, by dsimp only; omega⟩
       show (yd r.h' (QD r.hw m.h)).get i = some o
       rw [hget]
       cases h1 : look r.h' i with
       | some o' =>
         have := qY t4 i _ h1
         rw [q2] at this
         rw [this]; rfl
       | none =>
         show (if (look r.hw i).isSome then none else m.h.get i) = some o
         cases h2 : look r.hw i with
         | none => exact g2
         | some o' =>
           exfalso
           have : ∃ p ∈ r.hw, p.1 = i := by
            clear f5 s2 t5 hr hk hkm hkd hdk hnew hget cases2
            revert h2
            generalize r.hw = l
            intro h2
            induction l with
            | nil => cases h2
            | cons p l ih =>
              rw [uR] at h2
              by_cases c : i = p.1
              · exact ⟨p, List.mem_cons_self .., c.symm⟩
              · rw [if_neg c] at h2
                obtain ⟨p', hp', e'⟩ := ih h2
                exact ⟨p', List.mem_cons_of_mem _ hp', e'⟩
           obtain ⟨p, hp, rfl⟩ := this
           have := kK t5 p hp
           rw [h1, q2] at this
           cases this
     · refine ⟨dead i g3 g1 (hz1 i c), ?_, by dsimp only; omega⟩
       show (yd r.h' (QD r.hw m.h)).get i = some o
       rw [hget]
       have h2 : look r.hw i = none := by
        cases h2 : look r.hw i with
        | none => rfl
        | some o' => exact absurd (Or.inl (by rw [h2]; rfl)) c
       have h1 : look r.h' i = none := by
        cases h1 : look r.h' i with
        | none => rfl
        | some o' =>
          exfalso
          have : ∃ p ∈ r.h', p.1 = i := by
           clear s3 t4 hr hnew hget cases2
           revert h1
           generalize r.h' = l
           intro h1
           induction l with
           | nil => cases h1
           | cons p l ih =>
             rw [uR] at h1
             by_cases c : i = p.1
             · exact ⟨p, List.mem_cons_self .., c.symm⟩
             · rw [if_neg c] at h1
               obtain ⟨p', hp', e'⟩ := ih h1
               exact ⟨p', List.mem_cons_of_mem _ hp', e'⟩
          obtain ⟨p, hp, rfl⟩ := this
          have := kK hnew p hp
          rw [h2] at this
          cases hb : Nat.ble r.nx p.1 with
          | false => rw [hb] at this; cases this
          | true => have := Nat.le_of_ble_eq_true hb; omega
       rw [h1, h2]
       exact g2
   · rcases cases2 i o h with h | ⟨c, h⟩
     · have := k3.below i o h; rw [hn1] at this; exact this
     · have := hm.below i o h; dsimp only; omega
   · obtain ⟨g1, g2, g3⟩ := hm.dead i h
     have hz : z1 i = none := by
      show (if dom i then F.z i else none) = none
      split
      · exact g2
      · rfl
     exact ⟨dead i g3 g1 hz, g2, by dsimp only; omega⟩
end
noncomputable def memoE (rows : List Row) (E : kg) : kg := fun i args m => List.rec (E i args m) (fun r _ ih => Bool.rec ih (r.out m) (r.fits i args m)) rows
theorem Zl {P : Program} {E : kg} (hE : ki P E) : ∀ {rows : List Row}, (∀ r ∈ rows, ∃ E0, ki P E0 ∧ r.okB E0 = true) → ki P (memoE rows E)
 | [], h => hE
 | r :: rows, h => by
   rename_i G i args m v m' σ As F L
   intro e hA hm
   have e : (Bool.rec (memoE rows E i args m) (r.out m) (r.fits i args m) : Option (AV × Mem)) = some (v, m') := e
   cases hf : r.fits i args m with
   | false =>
     rw [hf] at e
     exact Zl hE (fun r hr => h r (List.mem_cons_of_mem _ hr)) e hA hm
   | true =>
     rw [hf] at e
     obtain ⟨E0, h1, h2⟩ := h r (List.mem_cons_self ..)
     exact Row.ok h1 h2 hf e hA hm
noncomputable def funY (P : Program) (H : Nat → Nat) (k : Nat) (X : Own) (g : List Nat) (rows : List Row) (d : Nat) : kg := Nat.rec (fun _ _ _ => none) (fun _ ih i args m => Bool.rec (Option.rec (stepC P H (fun n c => codeE P ih n k c) i args m) (fun f => f ih args m) (X i)) (memoE rows (stepC P H (fun n c => codeE P ih n k c)) i args m) (hasN g i)) d
theorem ab1 (P : Program) (kL : P.follows .mixedOrders = true) (H : Nat → Nat) (k : Nat) {X : Own} (hX : yz P X) {g : List Nat} {rows : List Row} (hrows : ∀ r ∈ rows, ∃ E0, ki P E0 ∧ r.okB E0 = true) : ∀ d : Nat, ki P (funY P H k X g rows d)
 | 0 => fun e => by cases e
 | d + 1 => by
   rename_i G i args m v m' σ As F L
   intro e hA hm
   have ih : ki P (funY P H k X g rows d) := ab1 P kL H k hX hrows d
   have hstep : ki P (stepC P H fun n c => codeE P (funY P H k X g rows d) n k c) := fun e hA hm => UE (fun n c => u9 kL ih c) e hA hm
   have e : (Bool.rec (Option.rec (stepC P H (fun n c => codeE P (funY P H k X g rows d) n k c) i args m) (fun f => f (funY P H k X g rows d) args m) (X i)) (memoE rows (stepC P H (fun n c => codeE P (funY P H k X g rows d) n k c)) i args m) (hasN g i) : Option (AV × Mem)) = some (v, m') := e
   cases hb : hasN g i with
   | true => rw [hb] at e; exact Zl hstep hrows e hA hm
   | false =>
     rw [hb] at e
     cases hx : X i with
     | none => rw [hx] at e; exact hstep e hA hm
     | some f => rw [hx] at e; exact hX i f hx _ ih e hA hm
end Go.Proofs.YtkpblofmoalnoaaGreatDoor.Ev
namespace Go.Proofs.YtkpblofmoalnoaaGreatDoor.Ev
open Go
def hdN : List Nat → Nat
 | [] => 0
 | x :: _ => x
def tlN : List Nat → List Nat
 | [] => []
 | _ :: l => l
def ahz (n : Nat) : IntKind := Nat.rec .i8 (fun n _ => Nat.rec .i16 (fun n _ => Nat.rec .i32 (fun n _ => Nat.rec .i64 (fun n _ => Nat.rec .u8 (fun n _ => Nat.rec .u16 (fun n _ => Nat.rec .u32 (fun _ _ => .u64) n) n) n) n) n) n) n
noncomputable def repN {α : Type} (n : Nat) (x : α) (l : List α) : List α := Nat.rec l (fun _ ih => x :: ih) n
noncomputable def decL (d : List Nat → AV × List Nat) (n : Nat) : List Nat → List AV × List Nat := Nat.rec (motive := fun _ => List Nat → List AV × List Nat) (fun l => ([], l))
 (fun _ ih l => Bool.rec
   ((fun q => (fun r => (q.1 :: r.1, r.2)) (ih q.2)) (d l))
   ((fun q => (fun r => (repN (hdN (tlN l)) q.1 r.1, r.2)) (ih q.2)) (d (tlN (tlN l)))) (Nat.beq (hdN l) 30)) n
noncomputable def pickN {α : Type} (n : Nat) (x : α) (l : List α) : α := Option.rec x (fun y => y) (nth l n)
noncomputable def decV (f : Nat) : List Nat → AV × List Nat := Nat.rec (motive := fun _ => List Nat → AV × List Nat) (fun l => (.und, l))
 (fun _ ih l => (fun t r => pickN t (AV.und, r) [(.bool false, r), (.bool true, r), (.int (ahz (hdN r)) (.ofNat (hdN (tlN r))), tlN (tlN r)), (.int (ahz (hdN r)) (.negSucc (hdN (tlN r))), tlN (tlN r)),
   (.str (List.take (hdN r) (tlN r)), List.drop (hdN r) (tlN r)), (.ptr0, r), (.ptr (hdN r) (hdN (tlN r)), tlN (tlN r)), (.slc0 (hdN r), tlN r),
   (.slc (hdN r) (hdN (tlN r)) (hdN (tlN (tlN r))) (.num (hdN (tlN (tlN (tlN r))))), tlN (tlN (tlN (tlN r)))), (.slc (hdN r) (hdN (tlN r)) (hdN (tlN (tlN r))) (.rest (hdN (tlN (tlN (tlN r))))), tlN (tlN (tlN (tlN r)))),
   (.slcE, r), (.mp0, r), (.mp (hdN r), tlN r), ((fun q => (.fn (hdN r) q.1, q.2)) (decL ih (hdN (tlN r)) (tlN (tlN r)))), (.nilFn, r), ((fun q => (.ifc (hdN r) q.1, q.2)) (ih (tlN r))), (.nilI, r),
   ((fun q => (.agg q.1, q.2)) (decL ih (hdN r) (tlN r))), ((fun q => (.tup q.1, q.2)) (decL ih (hdN r) (tlN r))), (.und, r),
   (.int .i64 (.ofNat (hdN r)), tlN r), (.int .u16 (.ofNat (hdN r)), tlN r), (.int .u8 (.ofNat (hdN r)), tlN r), (.ptrK (hdN r), tlN r)]) (hdN l) (tlN l)) f
noncomputable def decP (n : Nat) : List Nat → List (AV × AV) × List Nat := Nat.rec (motive := fun _ => List Nat → List (AV × AV) × List Nat) (fun l => ([], l))
 (fun _ ih l => (fun a => (fun b => (fun r => ((a.1, b.1) :: r.1, r.2)) (ih b.2)) (decV 20 a.2)) (decV 20 l)) n
noncomputable def decO (l : List Nat) : AO × List Nat := (fun t r => pickN t (AO.it 0, r) [
 ((fun q => (.cells q.1 (hdN q.2), tlN q.2)) (decL (decV 20) (hdN r) (tlN r))),
 ((fun q => (.row q.1 (hdN q.2) (hdN (tlN q.2)) (hdN (tlN (tlN q.2))) (hdN (tlN (tlN (tlN q.2)))), tlN (tlN (tlN (tlN q.2))))) (decL (decV 20) (hdN r) (tlN r))),
 ((fun q => (.rowF q.1 (hdN q.2) (hdN (tlN q.2)), tlN (tlN q.2))) (decL (decV 20) (hdN r) (tlN r))),
 ((fun q => (.map q.1, q.2)) (decP (hdN r) (tlN r))),
 (.it (hdN r), tlN r)]) (hdN l) (tlN l)
noncomputable def decH (n : Nat) : List Nat → List (Nat × AO) × List Nat := Nat.rec (motive := fun _ => List Nat → List (Nat × AO) × List Nat) (fun l => ([], l))
 (fun _ ih l => (fun o => (fun r => ((hdN l, o.1) :: r.1, r.2)) (ih o.2)) (decO (tlN l))) n
noncomputable def rowN (l : List Nat) : Row := (fun a => (fun r => (fun w => (fun v => (fun h => ⟨hdN l, a.1, hdN a.2, r.1, w.1, v.1, hdN v.2, h.1⟩) (decH (hdN (tlN v.2)) (tlN (tlN v.2)))) (decV 20 w.2)) (decH (hdN r.2) (tlN r.2))) (decH (hdN (tlN a.2)) (tlN (tlN a.2)))) (decL (decV 20) (hdN (tlN l)) (tlN (tlN l)))
end Go.Proofs.YtkpblofmoalnoaaGreatDoor.Ev
namespace Go.Proofs.YtkpblofmoalnoaaGreatDoor.Ev
open Go
noncomputable def ownM (P : Program) (H : Nat → Nat) (Z : kg → WX) (l : List Nat) (X : Own) : Own := fun i => Bool.rec (X i) (some (markF P H Z i)) (hasN l i)
theorem agM {P : Program} (kL : P.follows .mixedOrders = true) (H : Nat → Nat) {Z : kg → WX} (hZ : ∀ E, ki P E → K5 P (Z E)) (l : List Nat) {X : Own} (hX : yz P X) : yz P (ownM P H Z l X) := by
 intro i f hx E hE G args m v m' σ As F L e hA hm
 unfold ownM at hx
 cases hb : hasN l i with
 | false => rw [hb] at hx; exact hX i f hx E hE e hA hm
 | true =>
   rw [hb] at hx
   cases hx
   exact aeI kL hE (hZ E hE) e hA hm
end Go.Proofs.YtkpblofmoalnoaaGreatDoor.Ev
namespace Go.Proofs.YtkpblofmoalnoaaGreatDoor.Ev
open Go
def ab2 (p : AV) (i : Nat) : Bool := match p with
 | .ptr0 => true
 | .ptr j 0 => Nat.beq j i
 | _ => false
theorem Zm {p : AV} {i : Nat} {σ : Sg} {V : Value} {y : Nat × Nat} (h : ab2 p i = true) (hy : σ i = some y) (hv : Den σ p V) : V = .pointer none ∨ V = .pointer (some ⟨y.1, 0, none⟩) := by
 unfold ab2 at h
 split at h
 · left
   simpa [Den] using hv
 · rename_i j
   obtain rfl := Nat.eq_of_beq_eq_true h
   simp only [Den] at hv
   obtain ⟨z, hz, rfl⟩ := hv
   rw [hy] at hz
   cases hz
   exact Or.inr rfl
 · cases h
noncomputable def chkA (tb : Nat) (args : List AV) (m : Mem) : Option (AV × Mem) := match args with
 | [.ptr i 0] => ob (m.h.get i) fun o => match o with
   | .cells [p, v] e => bo (Nat.beq e tb) (bo (ab2 p i) (bo (Nat.blt (Nat.succ i) 1000000) (Tr.setK 20 m.h i (.cells [.ptr i 0, v] e) fun h => some (.und, ⟨h, m.nx⟩))))
   | _ => none
 | _ => none
noncomputable def u8K {β : Type} (v : AV) (f : Nat → Option β) : Option β := match v with
 | .int .u8 (.ofNat b) => f b
 | _ => none
theorem aeJ {β : Type} {v : AV} {f : Nat → Option β} {r : β} (h : u8K v f = some r) : ∃ b, v = .int .u8 (.ofNat b) ∧ f b = some r := by
 unfold u8K at h
 split at h
 · exact ⟨_, rfl, h⟩
 · cases h
noncomputable def u8s (l : List AV) : Option (List Nat) := List.rec (some []) (fun v _ ih => u8K v fun b => bo (Nat.blt b 256) (ob ih fun r => some (b :: r))) l
theorem aaU {σ : Sg} : ∀ {l : List AV} {r : List Nat} {Ls : List Value}, u8s l = some r → DenL σ l Ls → (∀ b ∈ r, b < 256) ∧ Ls = (r.map UInt8.ofNat).map fun c => Value.int .u8 (c.toNat : Int)
 | [], r, Ls, e, h => by
   cases e
   obtain rfl := h.inv0
   exact ⟨by simp, rfl⟩
 | v :: l, r, Ls, e, h => by
   obtain ⟨b, rfl, e1⟩ := aeJ (show u8K v (fun b => bo (Nat.blt b 256) (ob (u8s l) fun r => some (b :: r))) = some r from e)
   obtain ⟨hb, e2⟩ := jh e1
   obtain ⟨r', hr, e3⟩ := jd e2
   cases e3
   have hb : b < 256 := by simpa using hb
   obtain ⟨V, M, rfl, h1, h2⟩ := h.inv
   obtain ⟨k1, rfl⟩ := aaU hr h2
   obtain rfl : V = .int .u8 (Int.ofNat b) := by simpa [Den] using h1
   refine ⟨fun x hx => ?_, ?_⟩
   · rcases List.mem_cons.1 hx with rfl | hx
     · exact hb
     · exact k1 x hx
   · rw [List.map_cons, List.map_cons]
     congr 2
     show (b : Int) = ((UInt8.ofNat b).toNat : Int)
     congr 1
     simp
     omega
noncomputable def rowB (o : AO) (te n : Nat) : Option (List Nat) := match o with
 | .row l k e sz _ => bo (Nat.beq e te) (bo (Nat.beq k n) (bo (Nat.beq sz 1) (u8s l)))
 | .rowF l k e => bo (Nat.beq e te) (bo (Nat.beq k n) (u8s l))
 | _ => none
noncomputable def strA (tb te : Nat) (args : List AV) (m : Mem) : Option (AV × Mem) := match args with
 | [.ptr i 0] => ob (m.h.get i) fun o => match o with
   | .cells [p, .slc j 0 n (.rest 0)] e => bo (Nat.beq e tb) (bo (ab2 p i) (bo (Nat.blt 0 n) (bo (notB (Nat.beq i j)) (ob (m.h.get j) fun q => ob (rowB q te n) fun l => delK m i fun m => delK m j fun m => some (.str l, m)))))
   | _ => none
 | _ => none
section
variable {P : Program} {G : World} {F : Fm} {σ : Sg} {L : jc}
theorem agN {f tb : Nat} (hspec : ∀ {G : World} {L : jc} (b : Nat) (p v : Value), p = .pointer none ∨ p = .pointer (some ⟨b, 0, none⟩) → Spec P G f #[.pointer (some ⟨b, 0, none⟩)] ((b, .cells #[p, v] tb (0, 0)) :: L) fun u M => M = (b, .cells #[.pointer (some ⟨b, 0, none⟩), v] tb (0, 0)) :: L)
 {args : List AV} {m m' : Mem} {r : AV} {As : List Value} (e : chkA tb args m = some (r, m')) (hA : DenL σ args As) (hm : MemR σ m F L) : Spec P G f As.toArray L (qr σ r m' F) := by
 unfold chkA at e
 split at e
 · rename_i i
   obtain ⟨o, ho, e⟩ := jd e
   split at e
   · rename_i p v te
     obtain ⟨h1, e⟩ := jh e
     obtain ⟨h2, e⟩ := jh e
     obtain ⟨h3, e⟩ := jh e
     rw [Tr.setK_eq] at e
     cases e
     obtain rfl := Nat.eq_of_beq_eq_true h1
     have h3 : i + 1 < 1000000 := Eq.mp Nat.blt_eq h3
     obtain ⟨A, _, rfl, a1, a2⟩ := hA.inv
     obtain rfl := a2.inv0
     simp only [Den] at a1
     obtain ⟨y, hy, rfl⟩ := a1
     obtain ⟨O, ⟨Ls, hL, rfl⟩, h4⟩ := hm.get i _ y ho hy
     obtain ⟨B, _, rfl, b1, b2⟩ := hL.inv
     obtain ⟨C, _, rfl, c1, c2⟩ := b2.inv
     obtain rfl := c2.inv0
     obtain ⟨s, t, rfl⟩ := List.append_of_mem h4
     have hp : (s ++ (y.1, Obj.cells [B, C].toArray te (0, 0)) :: t).Perm ((y.1, Obj.cells [B, C].toArray te (0, 0)) :: (s ++ t)) := List.perm_middle
     refine ⟨fun w hw => Calls.mono ((hspec y.1 B C (Zm h2 hy b1)).out w (hw.perm hp)) fun e w' hh => ?_⟩
     obtain ⟨u, M, rfl, rfl, k3⟩ := hh
     refine ⟨u, _, rfl, ⟨σ, σ.le_refl, by simp [Den], hm.write ho hy hp (by omega) ⟨[.pointer (some ⟨y.1, 0, none⟩), C], .cons ?_ (.cons c1 .nil), rfl⟩⟩, k3⟩
     simp only [Den]
     exact ⟨y, hy, rfl⟩
   · cases e
 · cases e
theorem agO {o : AO} {te n κ : Nat} {l : List Nat} {O : Obj} (e : rowB o te n = some l) (h : DenO σ κ o O) : (∀ b ∈ l, b < 256) ∧ l.length = n ∧ ∃ cur fr, O = .cells cur te fr ∧ n ≤ κ ∧ κ ≤ maxLen ∧ cur.size = κ ∧ cur.toList.take n = (l.map UInt8.ofNat).map fun c => Value.int .u8 (c.toNat : Int) := by
 unfold rowB at e
 split at e
 · obtain ⟨h1, e1⟩ := jh e
   obtain ⟨h2, e2⟩ := jh e1
   obtain ⟨h3, e3⟩ := jh e2
   obtain rfl := Nat.eq_of_beq_eq_true h1
   obtain rfl := Nat.eq_of_beq_eq_true h2
   obtain rfl := Nat.eq_of_beq_eq_true h3
   obtain ⟨Ls, cur, q1, rfl, q2, q3, q4, q5, q6, q7⟩ := h
   have hl := q1.length
   obtain ⟨k1, rfl⟩ := aaU e3 q1
   simp only [List.length_map] at hl
   exact ⟨k1, by omega, cur, _, rfl, q3, q5, by omega, by rw [Nat.mul_one] at q7; exact q7⟩
 · obtain ⟨h1, e1⟩ := jh e
   obtain ⟨h2, e2⟩ := jh e1
   obtain rfl := Nat.eq_of_beq_eq_true h1
   obtain rfl := Nat.eq_of_beq_eq_true h2
   obtain ⟨Ls, cur, fr, q1, rfl, q2, q3, q4, q5, q6, q7⟩ := h
   have hl := q1.length
   obtain ⟨k1, rfl⟩ := aaU e2 q1
   simp only [List.length_map] at hl
   exact ⟨k1, by omega, cur, fr, rfl, q3, q4, q5, q6⟩
 · cases e
theorem agP {f tb te : Nat} (hspec : ∀ {G : World} {L : jc} (b g cap : Nat) (p : Value) (l : List UInt8) (cur : Array Value) (fr : Nat × Nat), p = .pointer none ∨ p = .pointer (some ⟨b, 0, none⟩) → l ≠ [] → l.length ≤ cap → cap ≤ maxLen → cur.size = cap → cur.toList.take l.length = (l.map fun c => Value.int .u8 (c.toNat : Int)) →
 Spec P G f #[.pointer (some ⟨b, 0, none⟩)] ((b, .cells #[p, .slice (some ⟨g, 0, none⟩) l.length cap] tb (0, 0)) :: (g, .cells cur te fr) :: L) fun u M => u = .string (bs l) ∧ M = L)
 {args : List AV} {m m' : Mem} {r : AV} {As : List Value} (e : strA tb te args m = some (r, m')) (hA : DenL σ args As) (hm : MemR σ m F L) : Spec P G f As.toArray L (qr σ r m' F) := by
 unfold strA at e
 split at e
 · rename_i i
   obtain ⟨o, ho, e⟩ := jd e
   split at e
   · rename_i p j n tb'
     obtain ⟨h1, e⟩ := jh e
     obtain ⟨h2, e⟩ := jh e
     obtain ⟨h3, e⟩ := jh e
     obtain ⟨hij, e⟩ := jh e
     obtain ⟨q, hq, e⟩ := jd e
     obtain ⟨l, hl, e⟩ := jd e
     obtain ⟨hi, e⟩ := zM e
     obtain ⟨hj, e⟩ := zM e
     cases e
     obtain rfl := Nat.eq_of_beq_eq_true h1
     have hne : j ≠ i := fun h => by
      rw [ym, h, Nat.beq_refl] at hij
      cases hij
     have h3 : 0 < n := Eq.mp Nat.blt_eq h3
     obtain ⟨A, _, rfl, a1, a2⟩ := hA.inv
     obtain rfl := a2.inv0
     simp only [Den] at a1
     obtain ⟨y, hy, rfl⟩ := a1
     obtain ⟨O, ⟨Ls, hL, rfl⟩, h4⟩ := hm.get i _ y ho hy
     obtain ⟨B, _, rfl, b1, b2⟩ := hL.inv
     obtain ⟨C, _, rfl, c1, c2⟩ := b2.inv
     obtain rfl := c2.inv0
     simp only [Den] at c1
     obtain ⟨z, hz, rfl⟩ := c1
     obtain ⟨s, t, hst⟩ := List.append_of_mem h4
     have hp : L.Perm ((y.1, Obj.cells [B, .slice (some ⟨z.1, 0, none⟩) n (Cp.of z.2 (.rest 0))].toArray tb' (0, 0)) :: (s ++ t)) := by rw [hst]; exact List.perm_middle
     have hm1 := hm.drop ho hy hp (by omega)
     have hq1 : (Tr.del 20 m.h i).get j = some q := by rw [Tr.get_del _ _ _ (by omega), if_neg hne]; exact hq
     obtain ⟨O2, d1, d2⟩ := hm1.get j _ z hq1 hz
     obtain ⟨r1, r2, cur, fr, rfl, r3, r4, r5, r6⟩ := agO hl d1
     obtain ⟨s2, t2, hst2⟩ := List.append_of_mem d2
     have hp2 : (s ++ t).Perm ((z.1, Obj.cells cur te fr) :: (s2 ++ t2)) := by rw [hst2]; exact List.perm_middle
     have hm2 := hm1.drop hq1 hz hp2 (by omega)
     have hlen : (l.map UInt8.ofNat).length = n := by rw [List.length_map, r2]
     refine ⟨fun w hw => ?_⟩
     have hw2 := hw.perm (hp.trans (hp2.cons _))
     have hsp := hspec (G := G) (L := s2 ++ t2) y.1 z.1 z.2 B (l.map UInt8.ofNat) cur fr (Zm h2 hy b1) (fun h0 => by rw [h0] at hlen; simp at hlen; omega) (by omega) r4 r5 (by rw [hlen]; exact r6)
     rw [hlen] at hsp
     refine Calls.mono (hsp.out w hw2) fun e w' hh => ?_
     obtain ⟨u, M, rfl, ⟨rfl, rfl⟩, k3⟩ := hh
     refine ⟨_, _, rfl, ⟨σ, σ.le_refl, ?_, hm2⟩, k3⟩
     simp only [Den]
     exact ⟨r1, rfl⟩
   · cases e
 · cases e
noncomputable def ownB (tb te fc fs : Nat) (X : Own) : Own := fun i => Bool.rec (Bool.rec (X i) (some fun _ => strA tb te) (Nat.beq i fs)) (some fun _ => chkA tb) (Nat.beq i fc)
theorem agQ {tb te fc fs : Nat} {X : Own} (hX : yz P X)
 (h1 : ∀ {G : World} {L : jc} (b : Nat) (p v : Value), p = .pointer none ∨ p = .pointer (some ⟨b, 0, none⟩) → Spec P G fc #[.pointer (some ⟨b, 0, none⟩)] ((b, .cells #[p, v] tb (0, 0)) :: L) fun u M => M = (b, .cells #[.pointer (some ⟨b, 0, none⟩), v] tb (0, 0)) :: L)
 (h2 : ∀ {G : World} {L : jc} (b g cap : Nat) (p : Value) (l : List UInt8) (cur : Array Value) (fr : Nat × Nat), p = .pointer none ∨ p = .pointer (some ⟨b, 0, none⟩) → l ≠ [] → l.length ≤ cap → cap ≤ maxLen → cur.size = cap → cur.toList.take l.length = (l.map fun c => Value.int .u8 (c.toNat : Int)) →
   Spec P G fs #[.pointer (some ⟨b, 0, none⟩)] ((b, .cells #[p, .slice (some ⟨g, 0, none⟩) l.length cap] tb (0, 0)) :: (g, .cells cur te fr) :: L) fun u M => u = .string (bs l) ∧ M = L) : yz P (ownB tb te fc fs X) := by
 intro i f hx E hE G args m v m' σ As F L e hA hm
 unfold ownB at hx
 cases hb : Nat.beq i fc with
 | true =>
   rw [hb] at hx
   cases hx
   obtain rfl := Nat.eq_of_beq_eq_true hb
   exact agN h1 e hA hm
 | false =>
   rw [hb] at hx
   cases hb2 : Nat.beq i fs with
   | true =>
     rw [hb2] at hx
     cases hx
     obtain rfl := Nat.eq_of_beq_eq_true hb2
     exact agP h2 e hA hm
   | false =>
     rw [hb2] at hx
     exact hX i f hx E hE e hA hm
end
end Go.Proofs.YtkpblofmoalnoaaGreatDoor.Ev
namespace Go.Proofs.YtkpblofmoalnoaaGreatDoor.Ev
open Go
noncomputable def cloneS (args : List AV) (m : Mem) : Option (AV × Mem) := match args with
 | [.str l] => Bool.rec (bo (Nat.ble (lenN l) 1000) (some (.str l, ⟨m.h, Nat.succ m.nx⟩))) (some (.str l, m)) (Nat.beq (lenN l) 0)
 | _ => none
noncomputable def ownS (fc : Nat) (X : Own) : Own := fun i => Bool.rec (X i) (some fun _ => cloneS) (Nat.beq i fc)
theorem MemR.next {σ : Sg} {m : Mem} {F : Fm} {L : jc} (h : MemR σ m F L) : MemR σ ⟨m.h, Nat.succ m.nx⟩ F L :=
 ⟨h.get, h.inj, h.frame, h.apart, fun i o e => ⟨(h.ghost i o e).1, (h.ghost i o e).2.1, Nat.lt_succ_of_lt (h.ghost i o e).2.2⟩, fun i hi => h.fresh i (Nat.le_of_succ_le hi), fun i o e => Nat.lt_succ_of_lt (h.below i o e), h.glb, fun i hi => ⟨(h.dead i hi).1, (h.dead i hi).2.1, Nat.lt_succ_of_lt (h.dead i hi).2.2⟩⟩
theorem agR {P : Program} {fc : Nat} {X : Own} (hX : yz P X)
 (hC : ∀ {G : World} {L : jc} (l : List UInt8), l ≠ [] → l.length ≤ 1000 → Spec P G fc #[.string (bs l)] L fun u M => u = .string (bs l) ∧ M = L)
 (hC0 : ∀ {G : World} {L : jc}, Spec P G fc #[.string (bs [])] L fun u M => u = .string (bs []) ∧ M = L) : yz P (ownS fc X) := by
 intro i f hx E hE G args m v m' σ As F L e hA hm
 unfold ownS at hx
 cases hb : Nat.beq i fc with
 | false => rw [hb] at hx; exact hX i f hx E hE e hA hm
 | true =>
   rw [hb] at hx
   cases hx
   obtain rfl := Nat.eq_of_beq_eq_true hb
   have e : cloneS args m = some (v, m') := e
   unfold cloneS at e
   split at e
   · rename_i l _
     cases hz : Nat.beq (lenN l) 0 with
     | true =>
       rw [hz] at e
       cases e
       have hz := Nat.eq_of_beq_eq_true hz
       rw [kf] at hz
       obtain rfl := List.eq_nil_of_length_eq_zero hz
       obtain ⟨V, _, rfl, k1, k2⟩ := hA.inv
       obtain rfl := k2.inv0
       have k1' := k1
       simp only [Den] at k1
       obtain ⟨hl, rfl⟩ := k1
       refine ⟨fun w hw => ((hC0 (G := G) (L := L)).out w hw).mono fun e w' hh => ?_⟩
       obtain ⟨u, M, he, ⟨rfl, rfl⟩, hM⟩ := hh
       exact ⟨_, _, he, ⟨σ, σ.le_refl, k1', hm⟩, hM⟩
     | false =>
     rw [hz] at e
     obtain ⟨h2, e⟩ := jh e
     cases e
     have h1 : lenN l ≠ 0 := fun h => by rw [h] at hz; cases hz
     have h2 := Nat.le_of_ble_eq_true h2
     rw [kf] at h1 h2
     obtain ⟨V, _, rfl, k1, k2⟩ := hA.inv
     obtain rfl := k2.inv0
     have k1' := k1
     simp only [Den] at k1
     obtain ⟨hl, rfl⟩ := k1
     refine ⟨fun w hw => ((hC (G := G) (L := L) (l.map UInt8.ofNat) (fun h => ?_) (by simpa using h2)).out w hw).mono fun e w' hh => ?_⟩
     · rw [List.map_eq_nil_iff] at h
       subst h
       exact h1 rfl
     · obtain ⟨u, M, he, ⟨rfl, rfl⟩, hM⟩ := hh
       exact ⟨_, _, he, ⟨σ, σ.le_refl, k1', hm.next⟩, hM⟩
   · cases e
end Go.Proofs.YtkpblofmoalnoaaGreatDoor.Ev
namespace Go.Proofs.YtkpblofmoalnoaaGreatDoor
open Go.RowKit
section
variable {G : World} {P : Program} {n : Nat} {ρ : jn} {L : jc} {ty : TypeId} {Q : Exit → Act → World → Prop}
theorem aaV {t e : TypeId} {j : TypeInfo} {a : Addr} (hp : P.underlying t = some (.pointer e)) (he : P.info? e = some j) : Bin P .neq t (.pointer (some a)) (.pointer (some a)) (.bool false) := ⟨fun x y w => by
 simp only [eqGuard]
 simpa using Lib.run_neq_ptr_same w a hp he⟩
theorem Has.shapeY {w : World} {b : Nat} {C : Array Value} {e : TypeId} {fr : Nat × Nat} (h : Has w L) (hm : (b, Obj.cells C e fr) ∈ L) : w.shape? b = some (e, C.size) := by
 unfold World.shape?; rw [h.get _ hm]
theorem Vr {s d t : TypeId} {x : Operand} {j : TypeInfo} {b off : Nat} {C : Array Value} {te : TypeId} {fr : Nat × Nat} (hx : ev ρ x = some (.pointer (some ⟨b, off, none⟩))) (hs : P.underlying s = some (.pointer t)) (hd : P.underlying d = some .unsafePointer)
 (ht : P.info? t = some j) (hj : Nat.beq j.size 0 = false) (hm : (b, Obj.cells C te fr) ∈ L) (ho : off < C.size) : OpQ P ρ L (.convert s d x) ty (.pointer (some ⟨b, off, none⟩)) :=
 ⟨fun r hr w hw o ho' _ => by
   simp only [execOp, ho', hr _ _ hx]
   rw [Sem.run_bind, Lib.run_to_unsafe w ⟨b, off, none⟩ hs hd ht (Nat.ne_of_beq_eq_false hj) (hw.shapeY hm) ho]
   rfl⟩
theorem QP {s d u : TypeId} {x : Operand} {j : TypeInfo} {b off : Nat} {C : Array Value} {te : TypeId} {fr : Nat × Nat} (hx : ev ρ x = some (.pointer (some ⟨b, off, none⟩))) (hs : P.underlying s = some .unsafePointer) (hd : P.underlying d = some (.pointer u))
 (hu : P.info? u = some j) (hm : (b, Obj.cells C te fr) ∈ L) (hl : liesAt P P.depth te (C.size / P.cellsOf te) off u 1 = true) : OpQ P ρ L (.convert s d x) ty (.pointer (some ⟨b, off, none⟩)) :=
 ⟨fun r hr w hw o ho' _ => by
   simp only [execOp, ho', hr _ _ hx]
   rw [Sem.run_bind, Lib.run_from_unsafe w ⟨b, off, none⟩ hs hd hu (hw.shapeY hm) hl]
   rfl⟩
theorem WZ {f : FuncId} {fn : Func} {x : Operand} {ats : Array TypeId} {v : Value} (hx : ev ρ x = some v) (hf : P.funcs[f]? = some fn) (hname : (fn.name == "runtime.NumGoroutine") = false) (hb : fn.body.isNone = true) (hn : Extern.findNext fn = none) (he : Extern.find fn = some Extern.AbiNoEscape.same) :
 OpQ P ρ L (.call ⟨.value (.func f), #[x], ats⟩) ty v :=
 ⟨fun r hr w hw o ho _ => by
   have hrf : r (.func f) = .func (.func f) #[] #[] := hr _ _ rfl
   have : execOp r o = callFunc f #[v] := by
    simp only [execOp, ho, resolve, hrf, Deferred.ofValue]
    show invoke (.fn (.func f) #[]) _ = _
    simp [invoke, hr _ _ hx]
   rw [this, run_callFunc_extern hf hname hb hn he, Lib.run_noEscape]
   rfl⟩
theorem Vt {x : Operand} {t : TypeId} {g m c : Nat} (hx : ev ρ x = some (.slice (some ⟨g, 0, none⟩) m c)) (hc : c ≠ 0) : OpQ P ρ L (.call ⟨.builtin .unsafeSliceData, #[x], #[t]⟩) ty (.pointer (some ⟨g, 0, none⟩)) :=
 ⟨fun r hr w hw o ho _ => by simp [execOp, ho, hr _ _ hx, resolve, invoke, builtin, Lib.run_unsafeSliceData_row w _ _ _ _ _ hc]⟩
theorem yB {x y : Operand} {pt it e : TypeId} {g cap : Nat} {cur : Array Value} {fr : Nat × Nat} {l : List UInt8} (hx : ev ρ x = some (.pointer (some ⟨g, 0, none⟩))) (hy : ev ρ y = some (.int .i64 (l.length : Nat))) (hp : P.underlying pt = some (.pointer e)) (hc : P.cellsOf e = 1)
 (h0 : l ≠ []) (hn : l.length ≤ cap) (hcap : cap ≤ maxLen) (hsz : cur.size = cap) (hcells : ∀ (j : Nat) (c : UInt8), l[j]? = some c → cur[j]? = some (Value.int .u8 (c.toNat : Int))) :
 OpV P G ρ ((g, .cells cur e fr) :: L) (.call ⟨.builtin .unsafeString, #[x, y], #[pt, it]⟩) ty (.string (bs l)) L :=
 .run fun r hr w hw o ho _ => by
  have hm := List.mem_cons_self (a := (g, Obj.cells cur e fr)) (l := L)
  have hrun := Lib.run_unsafeString_row (P := P) w pt it o.type e hp hc g cur.size (hw.has.shapeY hm) l h0 jj (by unfold maxLen at hcap; omega) (fun j c hj => by rw [kT, Nat.zero_add]; exact hw.cell hm (hcells j c hj))
  refine ⟨w.freeze ⟨g, 0, none⟩ l.length, ?_, ?_⟩
  · simp [execOp, ho, hr _ _ hx, hr _ _ hy, resolve, invoke, builtin, hrun]
    rfl
  · refine ⟨hw.still.trans ?_, hw.tail.nodup, fun p hp => ?_⟩
    · unfold World.freeze
      split
      · exact Still.refl _
      · exact ⟨rfl, rfl, rfl, by simp⟩
    · have hne : p.1 ≠ g := hw.ne hp
      unfold World.freeze
      split
      · exact hw.tail.get p hp
      · show (w.heap.modify g _)[p.1]? = _
        rw [Array.getElem?_modify, if_neg (Ne.symm hne)]
        exact hw.tail.get p hp
end
theorem Vu : liesAt Tryz.prog Tryz.prog.depth 78 (2 / Tryz.prog.cellsOf 78) 0 78 1 = true := by kernel_rfl
theorem QE : Tryz.prog.cellsOf 5 = 1 := by kernel_rfl
theorem Vv : (Tryz.prog.info? 78).map (fun i => Nat.beq i.size 0) = some false := by kernel_rfl
theorem QQ {G : World} {L : jc} (b : Nat) (p v : Value) (hp : p = .pointer none ∨ p = .pointer (some ⟨b, 0, none⟩)) :
 Spec Tryz.prog G 55 #[.pointer (some ⟨b, 0, none⟩)] ((b, .cells #[p, v] 78 (0, 0)) :: L) fun u M => M = (b, .cells #[.pointer (some ⟨b, 0, none⟩), v] 78 (0, 0)) :: L := by
 obtain ⟨j, hj, hj0⟩ : ∃ j, Tryz.prog.info? 78 = some j ∧ Nat.beq j.size 0 = false := by
  have := Vv
  cases h : Tryz.prog.info? 78 with
  | none => rw [h] at this; cases this
  | some j => rw [h] at this; exact ⟨j, rfl, Option.some.inj this⟩
 rcases hp with rfl | rfl
 · refine ju (n := 20) Tryz.func55 rfl rfl rfl ?_
   refine goC ?_
   refine jl (Vr rfl unO Tryz.underlying143 hj hj0 (List.mem_cons_self ..) (by simp)) rfl ?_
   refine jl (WZ rfl Tryz.func86 rfl rfl rfl rfl) rfl ?_
   refine jl (QP rfl Tryz.underlying143 unO hj (List.mem_cons_self ..) Vu) rfl ?_
   refine goC ?_
   refine uo rfl ?_
   rfl
 · refine ju (n := 20) Tryz.func55 rfl rfl rfl ?_
   refine goC ?_
   refine jl (kF rfl rfl (aaV unO hj)) rfl ?_
   refine goC ?_
   refine uo rfl ?_
   rfl
theorem W0 {G : World} {L : jc} (b g cap : Nat) (p : Value) (l : List UInt8) (cur : Array Value) (fr : Nat × Nat) (hp : p = .pointer none ∨ p = .pointer (some ⟨b, 0, none⟩)) (h0 : l ≠ []) (h3 : l.length ≤ cap) (h4 : cap ≤ maxLen) (h5 : cur.size = cap) (h6 : cur.toList.take l.length = (l.map fun c => Value.int .u8 (c.toNat : Int))) :
 Spec Tryz.prog G 31 #[.pointer (some ⟨b, 0, none⟩)] ((b, .cells #[p, .slice (some ⟨g, 0, none⟩) l.length cap] 78 (0, 0)) :: (g, .cells cur 5 fr) :: L) fun u M => u = .string (bs l) ∧ M = L := by
 have hl0 : l.length ≠ 0 := by simpa using h0
 refine ju (n := 14) Tryz.func31 rfl rfl rfl ?_
 refine goC ?_
 refine jR jo ([(b, .cells #[p, .slice (some ⟨g, 0, none⟩) l.length cap] 78 (0, 0))]) [] ?_
 refine tkQ 0 ?_
 refine tkQ 1 ?_
 refine tkQ 2 ?_
 refine tkQ 3 ?_
 first | (refine' jG 4 rfl rfl je (kz (Vt rfl jj)) ?_ ?_; (· first | assumption | (intro p hp; grind)))
 refine tkQ 5 ?_
 refine tkQ 6 ?_
 refine tkQ 7 ?_
 refine tkQ 8 ?_
 refine tkQ 9 ?_
 refine un (List.Perm.swap _ _ _) (qS 10 je rfl rfl rfl rfl (yB rfl rfl unO QE h0 h3 h4 h5 ?_) ?_); (· intro j c hj; have hjl := (List.getElem?_eq_some_iff.1 hj).1; have : (cur.toList.take l.length)[j]? = some (Value.int .u8 (c.toNat : Int)) := (by rw [h6, List.getElem?_map, hj]; rfl); rw [List.getElem?_take_of_lt jj] at this; simpa using this); rintro _ _ ⟨rfl, rfl⟩; refine ⟨Or.inr (by first | assumption | (intro p hp; grind)), ?_⟩
 refine tkQ 11 ?_
 refine tdQ ?_
 refine goC ?_
 refine jr (fun w h => h.tail) ?_
 refine js 2 _ rfl rfl ?_
 exact ⟨rfl, rfl⟩
end Go.Proofs.YtkpblofmoalnoaaGreatDoor
namespace Go.Proofs.YtkpblofmoalnoaaGreatDoor
open Go.RowKit
theorem ac9 {C : Array Value} {l : List Value} (h : C.size = l.length) : jQ C 0 l = l.toArray := by
 unfold jQ
 rw [List.take_zero, Nat.zero_add, List.drop_eq_nil_of_le (by simp [h])]
 simp
theorem Zn {G : World} {L : jc} (l : List UInt8) (h0 : l ≠ []) (h3 : l.length ≤ 1000) :
 Spec Tryz.prog G 255 #[.string (bs l)] L fun u M => u = .string (bs l) ∧ M = L := by
 have hl0 : l.length ≠ 0 := by simpa using h0
 have hb0 : ((l.length : Int) == 0) = false := by
  rw [beq_eq_false_iff_ne]
  omega
 refine ju (n := 18) Tryz.func255 rfl rfl rfl ?_
 refine goC ?_
 refine kM (Q1 etO rfl rfl jj jj jj jj rfl) rfl ?_
 intro g
 refine goC ?_
 have hsz : (madeCells (Value.int .u8 0).cells ((l.length : Int).toNat * 1)).size = l.length := by
  have := size_madeCells (z := (Value.int .u8 0).cells) (n := (l.length : Int).toNat * 1)
  simpa using this
 refine ji (Ev.op_copyS (k := l.length) (news := l.map fun b => Value.int .u8 b.toNat) etO rfl rfl ?_ (by simp) (by rw [hsz]; omega) (Or.inl rfl)) rfl ?_
 · refine ⟨by simp, fun v hv => ?_, Or.inr ⟨unO, rfl, l, rfl, by simp, rfl⟩⟩
   obtain ⟨b, _, rfl⟩ := List.mem_map.1 hv
   rfl
 rw [ac9 (by rw [hsz]; simp)]
 refine goC ?_
 refine ji (yB (l := l) rfl rfl unO QE h0 (Nat.le_refl _) (by unfold maxLen; omega) (by simp) (fun j c hj => by simp [hj])) rfl ?_
 refine goC ?_
 refine js 2 _ rfl rfl ?_
 exact ⟨rfl, rfl⟩
theorem Zp {G : World} {L : jc} :
 Spec Tryz.prog G 255 #[.string (bs [])] L fun u M => u = .string (bs []) ∧ M = L := by
 refine ju (n := 18) Tryz.func255 rfl rfl rfl ?_
 refine goC ?_
 refine js 2 _ rfl rfl ?_
 exact ⟨rfl, rfl⟩
end Go.Proofs.YtkpblofmoalnoaaGreatDoor
namespace Go.Proofs.YtkpblofmoalnoaaGreatDoor.Ev
open Go
mutual
def aeK : AV → Bool
 | .bool _ => true
 | .int _ _ => true
 | .str _ => true
 | .ptrK _ => true
 | .ifc _ v => aeK v
 | _ => false
def aeL : List AV → Bool
 | [] => true
 | v :: l => aeK v && aeL l
end
theorem ab3 {σ : Sg} : ∀ {v : AV} {V W : Value}, aeK v = true → Den σ v V → Den σ v W → V = W
 | .bool b, V, W, _, h, k => by simp only [Den] at h k; rw [h, k]
 | .int kd n, V, W, _, h, k => by simp only [Den] at h k; rw [h, k]
 | .str l, V, W, _, h, k => by simp only [Den] at h k; rw [h.2, k.2]
 | .ptrK i, V, W, _, h, k => by
   simp only [Den] at h k
   obtain ⟨x, hx, rfl⟩ := h
   obtain ⟨y, hy, rfl⟩ := k
   rw [hx] at hy
   cases hy
   rfl
 | .ifc t v, V, W, hd, h, k => by
   simp only [Den] at h k
   obtain ⟨U, hU, rfl⟩ := h
   obtain ⟨U', hU', rfl⟩ := k
   rw [ab3 (v := v) (by simpa [aeK] using hd) hU hU']
theorem ab4 {σ : Sg} : ∀ {l : List AV} {V W : List Value}, aeL l = true → DenL σ l V → DenL σ l W → V = W
 | [], V, W, _, h, k => by rw [h.inv0, k.inv0]
 | v :: l, V, W, hd, h, k => by
   have hd : aeK v = true ∧ aeL l = true := by simpa [aeL] using hd
   obtain ⟨A, M, rfl, h1, h2⟩ := h.inv
   obtain ⟨B, N, rfl, k1, k2⟩ := k.inv
   rw [ab3 hd.1 h1 k1, ab4 hd.2 h2 k2]
def aeM : AO → Bool
 | .cells l _ => aeL l
 | _ => false
theorem agS {σ : Sg} {κ κ' : Nat} {o : AO} {O O' : Obj} (hd : aeM o = true) (h : DenO σ κ o O) (k : DenO σ κ' o O') : O = O' := by
 cases o with
 | cells l e =>
   obtain ⟨M, h1, rfl⟩ := h
   obtain ⟨N, k1, rfl⟩ := k
   rw [ab4 hd h1 k1]
 | _ => cases hd
noncomputable def laidB (l : List (Nat × AO)) : Bool := allB (fun p => Bool.rec false (aeM p.2) (Nat.blt p.1 100)) l
noncomputable def endB (E : kg) (f : Nat) (laid : List (Nat × AO)) (nx : Nat) : Bool := toTrK laid .leaf fun t => Option.rec false (fun q => Bool.rec false (hasO laid q.2) (beqV (.bool true) q.1)) (E f [] ⟨t, nx⟩)
theorem look_mem {l : List (Nat × AO)} {i : Nat} {o : AO} (h : look l i = some o) : (i, o) ∈ l := by
 induction l with
 | nil => cases h
 | cons p l ih =>
   rw [uR] at h
   split at h
   · rename_i e
     cases h
     rw [e]
     exact List.mem_cons_self ..
   · exact List.mem_cons_of_mem _ (ih h)
theorem aeN {P : Program} {E : kg} {f nx : Nat} {laid : List (Nat × AO)} {σ : Sg} (hE : ki P E) (hend : endB E f laid nx = true) (hlaid : laidB laid = true) (hn : 100 ≤ nx) (hlow : ∀ i, i < 100 → σ i = some (i, 0)) (hfresh : ∀ i, nx ≤ i → σ i = none)
 {G : World} {L : jc} (hL : ∀ i o, look laid i = some o → ∃ O, DenO σ 0 o O ∧ (i, O) ∈ L) : Spec P G f #[] L fun u M => u = .bool true ∧ ∀ p ∈ L, p ∈ M := by
 refine ⟨fun w hw => ?_⟩
 have hnd := hw.nodup
 have hfact : ∀ i o, look laid i = some o → i < 100 ∧ aeM o = true := fun i o h => by
  have h1 : Bool.rec false (aeM o) (Nat.blt i 100) = true := kK hlaid _ (look_mem h)
  cases hb : Nat.blt i 100 with
  | false => rw [hb] at h1; cases h1
  | true =>
    rw [hb] at h1
    exact ⟨by simpa using hb, h1⟩
 let F : Fm := ⟨L.filter fun p => (look laid p.1).isNone, fun _ => none, fun _ => False⟩
 have hF : ∀ p, p ∈ F.b ↔ p ∈ L ∧ look laid p.1 = none := fun p => by
  show p ∈ L.filter _ ↔ _
  rw [List.mem_filter]
  simp
 have hsm : smallL laid = true := by
  have : ∀ l : List (Nat × AO), (∀ p ∈ l, p.1 < 100) → smallL l = true := fun l => by
   induction l with
   | nil => intro _; rfl
   | cons p l ih =>
     intro h
     show Bool.rec false (smallL l) (Nat.ble p.1 999998) = true
     have := h p (List.mem_cons_self ..)
     rw [show Nat.ble p.1 999998 = true from Nat.ble_eq_true_of_le (by omega)]
     exact ih fun q hq => h q (List.mem_cons_of_mem _ hq)
  refine this _ fun p hp => ?_
  have h1 : Bool.rec false (aeM p.2) (Nat.blt p.1 100) = true := kK hlaid _ hp
  cases hb : Nat.blt p.1 100 with
  | false => rw [hb] at h1; cases h1
  | true => simpa using hb
 have hget : ∀ i, (yd laid .leaf).get i = look laid i := fun i => by
  rw [zv hsm]
  cases look laid i <;> rfl
 have hm : MemR σ ⟨yd laid .leaf, nx⟩ F L := by
  refine ⟨fun i o x e ex => ?_, fun i j o o' x y e e' ex ey exy => ?_, fun p hp => ((hF p).1 hp).1, fun i o x e ex p hp => ?_, fun i o e => (by cases e), fun i hi => hfresh i hi, fun i o e => ?_, fun g hg => hlow g hg, fun i e => e.elim⟩
  · rw [hget] at e
    rw [hlow i (hfact i o e).1] at ex
    cases ex
    exact hL i o e
  · rw [hget] at e e'
    rw [hlow i (hfact i o e).1] at ex
    rw [hlow j (hfact j o' e').1] at ey
    cases ex
    cases ey
    exact exy
  · rw [hget] at e
    rw [hlow i (hfact i o e).1] at ex
    cases ex
    intro hpi
    have := ((hF p).1 hp).2
    rw [hpi, e] at this
    cases this
  · rw [hget] at e
    have := (hfact i o e).1
    dsimp only
    omega
 unfold endB at hend
 rw [zu] at hend
 cases hq : E f [] ⟨yd laid .leaf, nx⟩ with
 | none => rw [hq] at hend; cases hend
 | some q =>
   rw [hq] at hend
   obtain ⟨v, m'⟩ := q
   obtain ⟨hv, hh⟩ := qA hend
   obtain rfl : AV.bool true = v := yM _ _ hv
   have hsp := hE (G := G) hq (.nil (σ := σ)) hm
   refine (hsp.out w hw).mono fun e w' ⟨u, M, he, ⟨σ', k1, k2, k3⟩, hM⟩ => ⟨u, M, he, ⟨by simpa [Den] using k2, fun p hp => ?_⟩, hM⟩
   cases hl : look laid p.1 with
   | none => exact k3.frame p ((hF p).2 ⟨hp, hl⟩)
   | some o =>
     obtain ⟨h100, hdet⟩ := hfact _ _ hl
     obtain ⟨O, hO, hOL⟩ := hL _ _ hl
     obtain ⟨O', g1, g2⟩ := k3.get p.1 o (p.1, 0) (qY hh _ _ hl) (k1 _ _ (hlow _ h100))
     have hOO : O = O' := agS hdet (hO.mono k1) g1
     subst hOO
     have : p = (p.1, O) := by
      obtain ⟨A, B, rfl⟩ := List.append_of_mem hp
      rw [List.map_append, List.map_cons, List.nodup_append, List.nodup_cons] at hnd
      rcases List.mem_append.1 hOL with h | h
      · exact absurd rfl (hnd.2.2 p.1 (List.mem_map.2 ⟨_, h, rfl⟩) p.1 (List.mem_cons_self ..))
      · rcases List.mem_cons.1 h with h | h
        · exact h.symm
        · exact absurd (List.mem_map.2 ⟨_, h, rfl⟩) hnd.2.1.1
     rw [this]
     exact g2
end Go.Proofs.YtkpblofmoalnoaaGreatDoor.Ev
namespace Go.Proofs.YtkpblofmoalnoaaGreatDoor.Nm
abbrev Bytes := List UInt8
def Zq : Nat → Bytes → Option (List Bytes)
 | 0, _ => none
 | _ + 1, [] => none
 | f + 1, c :: t =>
   if c = 0 then (if t = [] then some [] else none)
   else if 63 < c.toNat then none
   else if t.length < c.toNat then none
   else (Zq f (t.drop c.toNat)).map (t.take c.toNat :: ·)
theorem VU : ∀ (f g : Nat) (l : Bytes), l.length ≤ f → l.length ≤ g → Zq f l = Zq g l
 | 0, 0, _, _, _ => rfl
 | 0, g + 1, l, h, _ => by
   cases l with
   | nil => rfl
   | cons c t => simp at h
 | f + 1, 0, l, _, h => by
   cases l with
   | nil => rfl
   | cons c t => simp at h
 | f + 1, g + 1, [], _, _ => rfl
 | f + 1, g + 1, c :: t, h1, h2 => by
   have e1 : (t.drop c.toNat).length ≤ f := by simp at h1 ⊢; omega
   have e2 : (t.drop c.toNat).length ≤ g := by simp at h2 ⊢; omega
   simp only [Zq]
   rw [VU f g _ e1 e2]
theorem ada (f : Nat) (l : Bytes) (h : l.length ≤ f) : Zq f l = Zq l.length l := VU f _ l h (Nat.le_refl _)
def lbl (l : Bytes) : Option (List Bytes) := Zq l.length l
theorem agT : lbl [] = none := rfl
theorem lbl_cons (c : UInt8) (t : Bytes) : lbl (c :: t) =
 if c = 0 then (if t = [] then some [] else none)
 else if 63 < c.toNat then none
 else if t.length < c.toNat then none
 else (lbl (t.drop c.toNat)).map (t.take c.toNat :: ·) := by
 unfold lbl
 simp only [Zq, List.length_cons]
 rw [ada t.length (t.drop c.toNat) (by simp)]
def nm (l : Bytes) : Option (List Bytes) := if l.length ≤ 255 then lbl l else none
def may (l : Bytes) : Bool := (nm l).isSome
def lowB (c : UInt8) : UInt8 := if 65 ≤ c ∧ c ≤ 90 then c + 32 else c
def low (l : Bytes) : Bytes := l.map lowB
def enc : List Bytes → Bytes
 | [] => [0]
 | l :: ls => UInt8.ofNat l.length :: (l ++ enc ls)
def Ok (ls : List Bytes) : Prop := ∀ l ∈ ls, 1 ≤ l.length ∧ l.length ≤ 63
theorem ah0 : Ok [] := by intro l h; cases h
theorem ok_cons {l : Bytes} {ls : List Bytes} : Ok (l :: ls) ↔ (1 ≤ l.length ∧ l.length ≤ 63) ∧ Ok ls := by
 unfold Ok; simp
theorem enc_length (ls : List Bytes) : (enc ls).length = (ls.map fun l => l.length + 1).sum + 1 := by
 induction ls with
 | nil => rfl
 | cons l ls ih => simp [enc, ih]; omega
theorem length_lt_enc (ls : List Bytes) : ls.length < (enc ls).length := by
 induction ls with
 | nil => simp [enc]
 | cons l ls ih => simp [enc]; omega
theorem Q6 : ∀ ls : List Bytes, Ok ls → lbl (enc ls) = some ls
 | [], _ => by simp [enc, lbl_cons]
 | l :: ls, h => by
   obtain ⟨⟨h1, h2⟩, h3⟩ := ok_cons.1 h
   have e : (UInt8.ofNat l.length).toNat = l.length := by simp; omega
   have n0 : ¬ UInt8.ofNat l.length = 0 := by
    intro k
    have := congrArg UInt8.toNat k
    rw [e] at this
    simp at this
    subst this
    simp at h1
   simp only [enc]
   rw [lbl_cons, if_neg n0, e, if_neg jj, if_neg (by simp)]
   simp [Q6 ls h3]
theorem Zr : ∀ (n : Nat) (l : Bytes) (ls : List Bytes), l.length ≤ n → lbl l = some ls → l = enc ls ∧ Ok ls
 | _, [], _, _, h => by simp [agT] at h
 | 0, _ :: _, _, h, _ => by simp at h
 | n + 1, c :: t, ls, hl, h => by
   rw [lbl_cons] at h
   split at h
   · rename_i hc
     split at h
     · rename_i ht
       cases h
       subst hc ht
       exact ⟨rfl, ah0⟩
     · cases h
   · rename_i hc
     split at h
     · cases h
     · rename_i h63
       split at h
       · cases h
       · rename_i hlen
         have hd : (t.drop c.toNat).length ≤ n := by simp at hl ⊢; omega
         cases hr : lbl (t.drop c.toNat) with
         | none => simp [hr] at h
         | some ls' =>
           simp [hr] at h
           subst h
           obtain ⟨h1, h2⟩ := Zr n _ _ hd hr
           have hc1 : 1 ≤ c.toNat := by
            rcases Nat.eq_zero_or_pos c.toNat with h0 | h0
            · exact absurd (UInt8.toNat_inj.1 (by simpa using h0)) hc
            · exact h0
           have ht : (t.take c.toNat).length = c.toNat := by simp; omega
           refine ⟨?_, ok_cons.2 ⟨by omega, h2⟩⟩
           simp only [enc, ht, ← h1, List.take_append_drop]
           congr 1
           exact UInt8.toNat_inj.1 (by simp)
theorem agU {l : Bytes} {ls : List Bytes} : lbl l = some ls ↔ l = enc ls ∧ Ok ls :=
 ⟨fun h => Zr l.length l ls (Nat.le_refl _) h, fun h => by rw [h.1]; exact Q6 ls h.2⟩
theorem nm_iff {l : Bytes} {ls : List Bytes} : nm l = some ls ↔ l = enc ls ∧ Ok ls ∧ l.length ≤ 255 := by
 unfold nm
 split
 · rename_i h; rw [agU]; simp [h]
 · rename_i h; simp [h]
theorem agV {a b : List Bytes} (ha : Ok a) (hb : Ok b) (h : enc a = enc b) : a = b := by
 have h1 := Q6 a ha
 rw [h, Q6 b hb] at h1
 exact (Option.some.inj h1).symm
theorem low_length (l : Bytes) : (low l).length = l.length := by simp [low]
theorem low_append (a b : Bytes) : low (a ++ b) = low a ++ low b := by simp [low]
theorem UH (c : UInt8) (h : c.toNat < 65) : lowB c = c := by
 unfold lowB
 rw [if_neg]
 rintro ⟨h1, _⟩
 have := UInt8.le_iff_toNat_le.1 h1
 simp at this
 omega
def lowL (ls : List Bytes) : List Bytes := ls.map low
theorem lowL_ok {ls : List Bytes} (h : Ok ls) : Ok (lowL ls) := by
 intro l hl
 obtain ⟨x, hx, rfl⟩ := List.mem_map.1 hl
 rw [low_length]
 exact h x hx
theorem low_enc : ∀ ls : List Bytes, Ok ls → low (enc ls) = enc (lowL ls)
 | [], _ => by simp [enc, low, lowL, UH]
 | l :: ls, h => by
   obtain ⟨⟨h1, h2⟩, h3⟩ := ok_cons.1 h
   have ih := low_enc ls h3
   have e : (UInt8.ofNat l.length).toNat = l.length := by simp; omega
   have e1 : lowB (UInt8.ofNat l.length) = UInt8.ofNat l.length := UH _ (by rw [e]; omega)
   have : low (enc (l :: ls)) = lowB (UInt8.ofNat l.length) :: (low l ++ low (enc ls)) := by
    simp [enc, low]
   rw [this, e1, ih]
   simp [enc, lowL, low_length]
def fold (n : Bytes) : Bytes := if may n then low n else []
def labels (n : Bytes) : List Bytes := (nm n).getD []
def akv (n : Bytes) : Bytes := match nm n with | some (_ :: ls) => enc ls | _ => []
def akw (n : Bytes) : Bool := match nm n with | some (_ :: _) => true | _ => false
def same (a b : Bytes) : Bool := may a && may b && (low a == low b)
def ak4 (n z : Bytes) : Bool :=
 match nm n, nm z with
 | some a, some b => (lowL b).isSuffixOf (lowL a)
 | _, _ => false
theorem may_some {n : Bytes} {ls : List Bytes} (h : nm n = some ls) : may n = true := by simp [may, h]
theorem may_none {n : Bytes} (h : nm n = none) : may n = false := by simp [may, h]
theorem nm_of_may {n : Bytes} (h : may n = true) : ∃ ls, nm n = some ls := Option.isSome_iff_exists.1 h
theorem nm_of_not {n : Bytes} (h : may n = false) : nm n = none := by simpa [may] using h
theorem Kx (a b : List Bytes) : (enc (a ++ b)).length = (a.map fun l => l.length + 1).sum + (enc b).length := by
 rw [enc_length, enc_length]; simp; omega
theorem yZ (a : List Bytes) : (enc (lowL a)).length = (enc a).length := by
 rw [enc_length, enc_length]
 simp only [lowL, List.map_map]
 congr 2
 exact List.map_congr_left fun l _ => by simp [low]
def Upto (a a2 : List Bytes) (zl : Nat) : Prop := (∃ a1, a = a1 ++ a2) ∧ ∀ x y, a = x ++ y → a2.length < y.length → zl < (enc y).length
theorem Upto.start (a : List Bytes) (zl : Nat) : Upto a a zl := by
 refine ⟨⟨[], rfl⟩, fun x y h hl => ?_⟩
 rw [h] at hl
 simp at hl
 omega
theorem Upto.step {a a2 : List Bytes} {l : Bytes} {zl : Nat} (h : Upto a (l :: a2) zl) (hz : zl < (enc (l :: a2)).length) : Upto a a2 zl := by
 obtain ⟨⟨a1, h1⟩, h2⟩ := h
 refine ⟨⟨a1 ++ [l], by simp [h1]⟩, fun x y hxy hl => ?_⟩
 by_cases hq : (l :: a2).length < y.length
 · exact h2 x y hxy hq
 · have hlen : y.length = (l :: a2).length := by simp at hq ⊢; omega
   have : y = l :: a2 := by
    have e := hxy.symm.trans h1
    exact (List.append_inj' e hlen).2
   rw [this]
   exact hz
theorem Upto.fin {a a2 b : List Bytes} (ha : Ok a) (hb : Ok b) (h : Upto a a2 (enc b).length) (hle : (enc a2).length ≤ (enc b).length) :
 (lowL b).isSuffixOf (lowL a) = (low (enc a2) == low (enc b)) := by
 obtain ⟨⟨a1, h1⟩, h2⟩ := h
 have ha2 : Ok a2 := fun l hl => ha l (by rw [h1]; exact List.mem_append_right _ hl)
 rw [Bool.eq_iff_iff, List.isSuffixOf_iff_suffix, beq_iff_eq, low_enc _ ha2, low_enc _ hb]
 constructor
 · rintro ⟨x', hx⟩
   have hal : (lowL a).length = a.length := by simp [lowL]
   have hbl : (lowL b).length = b.length := by simp [lowL]
   have hn : x'.length + b.length = a.length := by
    have := congrArg List.length hx
    simp [hbl, hal] at this
    exact this
   have hy : lowL (a.drop x'.length) = lowL b := by
    have e : lowL a = lowL (a.take x'.length) ++ lowL (a.drop x'.length) := by
     simp only [lowL, ← List.map_append, List.take_append_drop]
    rw [e] at hx
    refine ((List.append_inj' hx ?_).2).symm
    simp [lowL]
    omega
   have hyl : (enc (a.drop x'.length)).length = (enc b).length := by
    rw [← yZ, hy, yZ]
   have hcases : (a.drop x'.length).length = a2.length := by
    rcases Nat.lt_trichotomy (a.drop x'.length).length a2.length with hlt | heq | hgt
    · exfalso
      have e : a1 ++ a2 = a.take x'.length ++ a.drop x'.length := by rw [← h1, List.take_append_drop]
      have hs : (a2.drop (a2.length - (a.drop x'.length).length)) = a.drop x'.length := by
       have e2 : a1 ++ a2.take (a2.length - (a.drop x'.length).length) ++ a2.drop (a2.length - (a.drop x'.length).length) = a.take x'.length ++ a.drop x'.length := by
        rw [List.append_assoc, List.take_append_drop]
        exact e
       exact (List.append_inj' e2 (by simp at hlt ⊢; omega)).2
      have e3 : (enc a2).length = ((a2.take (a2.length - (a.drop x'.length).length)).map fun l => l.length + 1).sum + (enc (a.drop x'.length)).length := by
       conv => lhs; rw [← List.take_append_drop (a2.length - (a.drop x'.length).length) a2]
       rw [Kx, hs]
      have hpos : 0 < ((a2.take (a2.length - (a.drop x'.length).length)).map fun l => l.length + 1).sum := by
       cases hc : a2.take (a2.length - (a.drop x'.length).length) with
       | nil =>
         have := congrArg List.length hc
         simp at this hlt
         omega
       | cons u v => simp; omega
      omega
    · exact heq
    · exfalso
      have := h2 (a.take x'.length) (a.drop x'.length) (by rw [List.take_append_drop]) hgt
      omega
   have : a.drop x'.length = a2 := by
    have e : a1 ++ a2 = a.take x'.length ++ a.drop x'.length := by rw [← h1, List.take_append_drop]
    exact (List.append_inj' e hcases.symm).2.symm
   rw [← this, hy]
 · intro h
   have := agV (lowL_ok ha2) (lowL_ok hb) h
   rw [h1, ← this]
   exact ⟨lowL a1, by simp [lowL]⟩
end Go.Proofs.YtkpblofmoalnoaaGreatDoor.Nm
namespace Go.Proofs.YtkpblofmoalnoaaGreatDoor.Cn
open Go.Lib (decDigits)
abbrev Bytes := List UInt8
def isDig (c : UInt8) : Bool := 48 ≤ c.toNat && c.toNat ≤ 57
def valD (l : Bytes) : Nat := l.foldl (fun n c => n * 10 + (c.toNat - 48)) 0
def okD (w : Bytes) : Bool := !(w == []) && decide (w.length ≤ 10) && !((w.head? == some 48) && decide (1 < w.length)) && w.all isDig
def numP (w : Bytes) (most : Nat) : Option Nat := if okD w && decide (valD w ≤ most) then some (valD w) else none
theorem valD_nil : valD [] = 0 := rfl
theorem valD_snoc (l : Bytes) (c : UInt8) : valD (l ++ [c]) = valD l * 10 + (c.toNat - 48) := by simp [valD]
theorem ab5 {p : Bytes → Prop} (h0 : p []) (h1 : ∀ l c, p l → p (l ++ [c])) (l : Bytes) : p l := by
 have : ∀ m : Bytes, p m.reverse := by
  intro m
  induction m with
  | nil => exact h0
  | cons a t ih => rw [List.reverse_cons]; exact h1 _ _ ih
 have := this l.reverse
 rwa [List.reverse_reverse] at this
theorem valD_lt : ∀ (l : Bytes), l.all isDig = true → valD l < 10 ^ l.length := by
 intro l
 refine ab5 (p := fun l => l.all isDig = true → valD l < 10 ^ l.length) (fun _ => by simp [valD]) (fun l c ih => ?_) l
 · intro h
   rw [List.all_append] at h
   obtain ⟨h1, h2⟩ := Bool.and_eq_true_iff.1 h
   have := ih h1
   have hc : isDig c = true := by simpa using h2
   unfold isDig at hc
   simp at hc
   rw [valD_snoc, List.length_append, List.length_singleton, Nat.pow_succ]
   omega
theorem aeO : ∀ (w : Bytes), w ≠ [] → w.all isDig = true → (w.head? = some 48 → w.length ≤ 1) → decDigits (valD w) = w := by
 intro w
 refine ab5 (p := fun w => w ≠ [] → w.all isDig = true → (w.head? = some 48 → w.length ≤ 1) → decDigits (valD w) = w) (fun h => absurd rfl h) (fun l c ih => ?_) w
 · intro _ h hd
   rw [List.all_append] at h
   obtain ⟨h1, h2⟩ := Bool.and_eq_true_iff.1 h
   have hc : isDig c = true := by simpa using h2
   unfold isDig at hc
   simp at hc
   rw [valD_snoc]
   have hcc : UInt8.ofNat (48 + (c.toNat - 48)) = c := by
    rw [show 48 + (c.toNat - 48) = c.toNat by omega]; simp
   by_cases hl : l = []
   · subst hl
     rw [valD_nil, decDigits, dif_pos jj]
     simp only [Nat.zero_mul, Nat.zero_add, List.nil_append]
     rw [hcc]
   · have hd' : l.head? = some 48 → l.length ≤ 1 := by
      intro k
      have : (l ++ [c]).head? = some 48 := by cases l with | nil => exact absurd rfl hl | cons a t => simpa using k
      have h5 := hd this
      rw [List.length_append, List.length_singleton] at h5
      omega
     have i1 := ih hl h1 hd'
     have hpos : 0 < valD l := by
      rcases Nat.eq_zero_or_pos (valD l) with z | z
      · exfalso
        rw [z, decDigits, dif_pos (by decide)] at i1
        have : (l ++ [c]).head? = some 48 := by rw [← i1]; rfl
        have := hd this
        rw [← i1] at this
        simp at this
      · exact z
     rw [decDigits, dif_neg jj, show (valD l * 10 + (c.toNat - 48)) / 10 = valD l by omega, show (valD l * 10 + (c.toNat - 48)) % 10 = c.toNat - 48 by omega, i1, hcc]
theorem numP_some {w : Bytes} {most n : Nat} (h : numP w most = some n) : w = decDigits n ∧ n ≤ most := by
 unfold numP at h
 split at h
 · rename_i hk
   obtain ⟨k1, k2⟩ := Bool.and_eq_true_iff.1 hk
   unfold okD at k1
   simp at k1 k2
   obtain ⟨⟨⟨a1, a2⟩, a3⟩, a4⟩ := k1
   cases h
   refine ⟨(aeO w a1 ?_ ?_).symm, k2⟩
   · rw [List.all_eq_true]; exact a4
   · intro z
     rcases Nat.lt_or_ge 1 w.length with q | q
     · rcases a3 with a | a
       · exact absurd z a
       · exact a
     · exact q
 · cases h
def spl (c : UInt8) : Bytes → List Bytes
 | [] => [[]]
 | a :: t => if a = c then [] :: spl c t else match spl c t with
   | [] => [[a]]
   | w :: ws => (a :: w) :: ws
def Ky (c : UInt8) : List Bytes → Bytes
 | [] => []
 | [w] => w
 | w :: ws => w ++ c :: Ky c ws
theorem spl_ne (c : UInt8) (l : Bytes) : spl c l ≠ [] := by
 cases l with
 | nil => simp [spl]
 | cons a t => unfold spl; split; · simp
               split <;> simp
theorem ye (c : UInt8) (w : Bytes) {ws : List Bytes} (h : ws ≠ []) : Ky c (w :: ws) = w ++ c :: Ky c ws := by
 cases ws with
 | nil => exact absurd rfl h
 | cons a t => rfl
theorem Zs (c : UInt8) (l : Bytes) : Ky c (spl c l) = l := by
 induction l with
 | nil => rfl
 | cons a t ih =>
   unfold spl
   have hn := spl_ne c t
   split
   · rename_i h; subst h
     rw [ye _ _ hn, ih]; rfl
   · cases hs : spl c t with
     | nil => exact absurd hs hn
     | cons w ws =>
       rw [hs] at ih
       cases ws with
       | nil => simpa [Ky] using ih
       | cons b bs => rw [ye _ _ (by simp)] at ih ⊢; simp [ih]
theorem spl_none {c : UInt8} {l : Bytes} (h : c ∉ l) : spl c l = [l] := by
 induction l with
 | nil => rfl
 | cons a t ih =>
   simp at h
   unfold spl
   rw [if_neg (fun k => h.1 k.symm), ih h.2]
theorem spl_at {c : UInt8} {l r : Bytes} (h : c ∉ l) : spl c (l ++ c :: r) = l :: spl c r := by
 induction l with
 | nil => simp [spl]
 | cons a t ih =>
   simp at h
   rw [List.cons_append]
   show spl c (a :: (t ++ c :: r)) = _
   rw [spl, if_neg (fun k => h.1 k.symm), ih h.2]
def linesP (s : Bytes) : List Bytes × Bytes := ((spl 10 s).dropLast, (spl 10 s).getLastD [])
theorem linesP_end (s : Bytes) (h : (10 : UInt8) ∉ s) : linesP s = ([], s) := by unfold linesP; rw [spl_none h]; rfl
theorem linesP_line (l r : Bytes) (h : (10 : UInt8) ∉ l) : linesP (l ++ 10 :: r) = (l :: (linesP r).1, (linesP r).2) := by
 unfold linesP
 rw [spl_at h]
 have hn := spl_ne 10 r
 cases hs : spl 10 r with
 | nil => exact absurd hs hn
 | cons a t => rfl
def unlines (ls : List Bytes) (r : Bytes) : Bytes := (ls.flatMap fun l => l ++ [10]) ++ r
theorem unlines_cons (l : Bytes) (ls : List Bytes) (r : Bytes) : unlines (l :: ls) r = l ++ 10 :: unlines ls r := by simp [unlines]
theorem Zt (ls : List Bytes) (r : Bytes) (h : ∀ l ∈ ls, (10 : UInt8) ∉ l) (hr : (10 : UInt8) ∉ r) : linesP (unlines ls r) = (ls, r) := by
 induction ls with
 | nil => exact linesP_end r hr
 | cons l ls ih => rw [unlines_cons, linesP_line _ _ (h l (by simp)), ih (fun x hx => h x (by simp [hx]))]
theorem aeP (s : Bytes) : (10 : UInt8) ∉ s ∨ ∃ l r, s = l ++ 10 :: r ∧ (10 : UInt8) ∉ l := by
 induction s with
 | nil => left; simp
 | cons a t ih =>
   by_cases ha : a = 10
   · subst ha; exact Or.inr ⟨[], t, rfl, by simp⟩
   · rcases ih with h | ⟨l, r, rfl, h⟩
     · left; simp only [List.mem_cons, not_or]; exact ⟨fun k => ha k.symm, h⟩
     · right; exact ⟨a :: l, r, rfl, by simp only [List.mem_cons, not_or]; exact ⟨fun k => ha k.symm, h⟩⟩
theorem un_lines (s : Bytes) : unlines (linesP s).1 (linesP s).2 = s ∧ (∀ l ∈ (linesP s).1, (10 : UInt8) ∉ l) ∧ (10 : UInt8) ∉ (linesP s).2 := by
 generalize hn : s.length = n
 induction n using Nat.strongRecOn generalizing s with
 | _ n ih =>
   rcases aeP s with h | ⟨l, r, rfl, h⟩
   · rw [linesP_end s h]; exact ⟨rfl, by simp, h⟩
   · rw [linesP_line l r h]
     obtain ⟨h1, h2, h3⟩ := ih r.length (by subst hn; simp; omega) r rfl
     refine ⟨by rw [unlines_cons, h1], ?_, h3⟩
     intro x hx
     rcases List.mem_cons.1 hx with rfl | k
     · exact h
     · exact h2 x k
end Go.Proofs.YtkpblofmoalnoaaGreatDoor.Cn
namespace Go.Proofs.YtkpblofmoalnoaaGreatDoor.Cn
open Go.Lib (decDigits)
structure Zo where
 name : Bytes
 pol : Nat
 tru : Nat
deriving DecidableEq
structure Cf where
 ups : Int
 ded : Int
 hdg : Int
 wai : Int
 tri : Int
 res : Int
 lim : Int
 cac : Int
 fli : Int
 wtr : Int
 ttl : Int
 siz : Int
 zs : List Zo
deriving DecidableEq
def Cf.nums (c : Cf) : List Int := [c.ups, c.ded, c.hdg, c.wai, c.tri, c.res, c.lim, c.cac, c.fli, c.wtr, c.ttl, c.siz]
def zeroC : Cf := ⟨0, 0, 0, 0, 0, 0, 0, 0, 0, 0, 0, 0, []⟩
def ofN (v : List Int) (zs : List Zo) : Cf := ⟨v.getD 0 0, v.getD 1 0, v.getD 2 0, v.getD 3 0, v.getD 4 0, v.getD 5 0, v.getD 6 0, v.getD 7 0, v.getD 8 0, v.getD 9 0, v.getD 10 0, v.getD 11 0, zs⟩
def mayNum (c : Cf) : Bool := decide ((1 ≤ c.ups ∧ c.ups ≤ 9 ∧ c.ups % 2 = 1) ∧ (1 ≤ c.hdg ∧ c.hdg ≤ 1000) ∧ (1 ≤ c.wai ∧ c.wai ≤ 1000) ∧ (1 ≤ c.tri ∧ c.tri ≤ 4) ∧
 (c.ups / 2 * c.hdg + c.tri * c.wai ≤ c.ded ∧ c.ded ≤ 100000) ∧ (1 ≤ c.res ∧ c.res ≤ 100000) ∧ (1 ≤ c.lim ∧ c.lim ≤ 100) ∧ (0 ≤ c.cac ∧ c.cac ≤ 256) ∧ (1 ≤ c.fli ∧ c.fli ≤ 32) ∧
 (1 ≤ c.wtr ∧ c.wtr ≤ 16) ∧ (0 ≤ c.ttl ∧ c.ttl ≤ 2147483647) ∧ (512 ≤ c.siz ∧ c.siz ≤ 4096))
def okPol (ups : Int) (z : Zo) : Bool := decide (((z.pol = 1 ∨ z.pol = 2 ∨ z.pol = 4) ∧ z.tru = 0) ∨ (z.pol = 3 ∧ z.tru ≠ 0 ∧ z.tru / 2 ^ ups.toNat = 0))
def okName (z : Zo) : Bool := Nm.may z.name && (Nm.fold z.name == z.name)
def okZo (ups : Int) (z : Zo) : Bool := okName z && okPol ups z
def goodAt (ups : Int) (zs : List Zo) (i : Nat) : Bool := match zs[i]? with
 | some z => okZo ups z && !(zs.take i).any (fun y => y.name == z.name)
 | none => true
def mayZs (ups : Int) (zs : List Zo) : Bool := decide (zs.length ≤ 16) && (List.range zs.length).all (goodAt ups zs)
def mayP (c : Cf) : Bool := mayNum c && mayZs c.ups c.zs
def alZ (c : Cf) : Int := if mayP c then c.ups / 2 else 0
structure Names where
 text : Bytes → Bytes
 par : Bytes → Bytes × Int
structure Names.Ok (T : Names) : Prop where
 back : ∀ n, Nm.may n = true → T.par (T.text n) = (n, 0)
 may : ∀ t n, T.par t = (n, 0) → Nm.may n = true
 clean : ∀ n, Nm.may n = true → ∀ c ∈ T.text n, 33 ≤ c.toNat
 len : ∀ n, Nm.may n = true → (T.text n).length ≤ 2000
def words12 : List Bytes := [[117, 112, 115], [100, 101, 97, 100, 108, 105, 110, 101], [104, 101, 100, 103, 101], [119, 97, 105, 116], [116, 114, 105, 101, 115], [114, 101, 115, 116], [108, 105, 109, 105, 116], [99, 97, 99, 104, 101], [102, 108, 105, 103, 104, 116, 115], [119, 97, 105, 116, 101, 114, 115], [116, 116, 108], [115, 105, 122, 101]]
def strictW : Bytes := [115, 116, 114, 105, 99, 116]
def unionW : Bytes := [117, 110, 105, 111, 110]
def trustedW : Bytes := [116, 114, 117, 115, 116, 101, 100]
def refuseW : Bytes := [114, 101, 102, 117, 115, 101]
def zoneW : Bytes := [122, 111, 110, 101]
def ah1 (p : Nat) : Bytes := if p = 1 then strictW else if p = 2 then unionW else if p = 3 then trustedW else refuseW
def polP (w : Bytes) : Option Nat := if w = strictW then some 1 else if w = unionW then some 2 else if w = refuseW then some 4 else if w = trustedW then some 3 else none
def UI (t : Nat) : List Nat := (List.range 16).filter fun u => t.testBit u
def W1 (w : Bytes) (v : Int) : Bytes := w ++ 32 :: decDigits v.toNat
def aaW (t : Nat) : Bytes := (UI t).flatMap fun u => 32 :: decDigits u
section
variable (T : Names)
def UJ (z : Zo) : Bytes := zoneW ++ 32 :: (T.text z.name ++ 32 :: (ah1 z.pol ++ aaW z.tru))
def ajP (c : Cf) : List Bytes := List.zipWith W1 words12 c.nums ++ c.zs.map (UJ T)
def ajQ (c : Cf) : Bytes := unlines (ajP T c) []
def showP (c : Cf) : Bytes × Int := if mayP c then (ajQ T c, 0) else ([], 1)
def readNum (k : Nat) (l : Bytes) : Option Int := match spl 32 l with
 | [w, n] => if some w = words12[k]? then (numP n 2147483647).map Int.ofNat else none
 | _ => none
def bitsGo : Int → Nat → List Bytes → Option Nat
 | _, t, [] => some t
 | last, t, w :: ws => match numP w 15 with
   | some u => if (u : Int) ≤ last then none else bitsGo u (t ||| 2 ^ u) ws
   | none => none
def readName (w : Bytes) : Option Bytes := if (T.par w).2 = 0 ∧ T.text (T.par w).1 = w then some (T.par w).1 else none
def readZone (l : Bytes) : Option Zo := match spl 32 l with
 | z :: w :: p :: ws => if z = zoneW then match readName T w, polP p, bitsGo (-1) 0 ws with
   | some n, some p, some t => if (decide (p = 3)) = (decide (t ≠ 0)) then some ⟨n, p, t⟩ else none
   | _, _, _ => none
   else none
 | _ => none
def goP : Nat → List Bytes → List Int → List Zo → Nat ⊕ (List Int × List Zo)
 | _, [], vs, zs => .inr (vs, zs)
 | k, l :: ls, vs, zs => if k < 12 then match readNum k l with
    | some n => goP (k + 1) ls (vs ++ [n]) zs
    | none => .inl k
   else match readZone T l with
    | some z => goP (k + 1) ls vs (zs ++ [z])
    | none => .inl k
def parseP (s : Bytes) : Cf × Int × Int := if 131072 < s.length then (zeroC, 0, 5) else
 match goP T 0 (linesP s).1 [] [] with
 | .inl k => (zeroC, (k : Int) + 1, 3)
 | .inr (vs, zs) => if (linesP s).2 ≠ [] ∨ (linesP s).1.length < 12 then (zeroC, ((linesP s).1.length : Int) + 1, 3) else
   if mayP (ofN vs zs) then (ofN vs zs, 0, 0) else (zeroC, 0, 1)
end
theorem readNum_some {k : Nat} {l : Bytes} {v : Int} (h : readNum k l = some v) : ∃ w, words12[k]? = some w ∧ l = W1 w v ∧ 0 ≤ v ∧ v ≤ 2147483647 := by
 unfold readNum at h
 split at h
 · rename_i w n he
   split at h
   · rename_i hw
     rw [Option.map_eq_some_iff] at h
     obtain ⟨u, hu, rfl⟩ := h
     obtain ⟨rfl, hle⟩ := numP_some hu
     refine ⟨w, hw.symm, ?_, by simp, by simp; omega⟩
     have := Zs 32 l
     rw [he] at this
     simpa [Ky, W1] using this.symm
   · cases h
 · cases h
theorem UK (t u k : Nat) : (t ||| 2 ^ u).testBit k = (t.testBit k || decide (u = k)) := by
 rw [Nat.testBit_or, Nat.testBit_two_pow]
theorem Zu (us : List Nat) : ∀ s k, (us.foldl (fun a u => a ||| 2 ^ u) s).testBit k = (s.testBit k || decide (k ∈ us)) := by
 induction us with
 | nil => intro s k; simp
 | cons u us ih =>
   intro s k
   rw [List.foldl_cons, ih, UK, Bool.or_assoc]
   congr 1
   by_cases h : u = k
   · subst h; simp
   · simp [h, show ¬ k = u from fun e => h e.symm]
theorem Vw {us : List Nat} (hp : us.Pairwise (· < ·)) : ∀ (n : Nat), (∀ u ∈ us, u < n) → (List.range n).filter (fun k => decide (k ∈ us)) = us := by
 intro n
 induction n generalizing us with
 | zero =>
   intro h
   cases us with
   | nil => rfl
   | cons u us => have := h u (by simp); omega
 | succ n ih =>
   intro h
   rw [List.range_succ, List.filter_append]
   by_cases hm : n ∈ us
   · obtain ⟨a, b, rfl⟩ := List.append_of_mem hm
     rw [List.pairwise_append] at hp
     obtain ⟨p1, p2, p3⟩ := hp
     have hb : b = [] := by
      cases b with
      | nil => rfl
      | cons x b =>
        rw [List.pairwise_cons] at p2
        have := p2.1 x (by simp)
        have := h x (by simp)
        omega
     subst hb
     have ha : ∀ u ∈ a, u < n := fun u hu => p3 u hu n (by simp)
     have e := ih p1 ha
     have : (List.range n).filter (fun k => decide (k ∈ a ++ [n])) = (List.range n).filter (fun k => decide (k ∈ a)) := by
      refine List.filter_congr fun k hk => ?_
      have := List.mem_range.1 hk
      simp [show ¬ k = n by omega]
     rw [this, e]
     simp
   · have ha : ∀ u ∈ us, u < n := fun u hu => by
      have h1 := h u hu
      have : u ≠ n := fun k => hm (k ▸ hu)
      omega
     rw [ih hp ha]
     simp [hm]
theorem VV : ∀ (ws : List Bytes) (last : Int) (s t : Nat), bitsGo last s ws = some t → ∃ us : List Nat, ws = us.map (fun u => decDigits u) ∧ (∀ u ∈ us, last < u ∧ u ≤ 15) ∧ us.Pairwise (· < ·) ∧ t = us.foldl (fun a u => a ||| 2 ^ u) s
 | [], _, s, t, h => ⟨[], rfl, by simp, by simp, by simpa [bitsGo] using h.symm⟩
 | w :: ws, last, s, t, h => by
   rw [bitsGo] at h
   split at h
   · rename_i u hu
     obtain ⟨rfl, hle⟩ := numP_some hu
     split at h
     · cases h
     · rename_i hl
       obtain ⟨us, rfl, h1, h2, h3⟩ := VV ws _ _ _ h
       refine ⟨u :: us, rfl, ?_, ?_, h3⟩
       · intro x hx
         rcases List.mem_cons.1 hx with rfl | hx
         · exact ⟨by omega, hle⟩
         · have := h1 x hx
           exact ⟨by omega, this.2⟩
       · rw [List.pairwise_cons]
         exact ⟨fun x hx => by have := h1 x hx; omega, h2⟩
   · cases h
theorem bits_back {ws : List Bytes} {t : Nat} (h : bitsGo (-1) 0 ws = some t) : ws = (UI t).map (fun u => decDigits u) ∧ t < 65536 := by
 obtain ⟨us, rfl, h1, h2, h3⟩ := VV _ _ _ _ h
 have hlt : t < 65536 := by
  rw [show 65536 = 2 ^ 16 by decide]
  refine Nat.lt_pow_two_of_testBit t fun k hk => ?_
  rw [h3, Zu]
  have : k ∉ us := fun hm => by have := h1 k hm; omega
  simp [this]
 refine ⟨?_, hlt⟩
 congr 1
 unfold UI
 rw [← Vw h2 16 (fun u hu => by have := h1 u hu; omega)]
 refine List.filter_congr fun k _ => ?_
 rw [h3, Zu]
 simp
end Go.Proofs.YtkpblofmoalnoaaGreatDoor.Cn
namespace Go.Proofs.YtkpblofmoalnoaaGreatDoor.Cn
open Go.Lib (decDigits)
variable {T : Names}
theorem polP_some {w : Bytes} {p : Nat} (h : polP w = some p) : w = ah1 p ∧ 1 ≤ p ∧ p ≤ 4 := by
 unfold polP at h
 split at h
 · rename_i e; cases h; exact ⟨e, by decide⟩
 split at h
 · rename_i e; cases h; exact ⟨e, by decide⟩
 split at h
 · rename_i e; cases h; exact ⟨e, by decide⟩
 split at h
 · rename_i e; cases h; exact ⟨e, by decide⟩
 · cases h
theorem Zv (a : Bytes) : ∀ ws : List Bytes, Ky 32 (a :: ws) = a ++ ws.flatMap fun w => 32 :: w
 | [] => by simp [Ky]
 | w :: ws => by rw [ye _ _ (by simp), Zv w ws]; simp
theorem W2 (t : Nat) : aaW t = ((UI t).map fun u => decDigits u).flatMap fun w => 32 :: w := by unfold aaW; rw [List.flatMap_map]
theorem Vx (z : Zo) : UJ T z = Ky 32 (zoneW :: T.text z.name :: ah1 z.pol :: (UI z.tru).map fun u => decDigits u) := by
 rw [ye _ _ (by simp), ye _ _ (by simp), Zv, ← W2]; rfl
theorem Vy (hT : T.Ok) {w n : Bytes} (h : readName T w = some n) : w = T.text n ∧ Nm.may n = true := by
 unfold readName at h
 split at h
 · rename_i k
   cases h
   refine ⟨k.2.symm, hT.may w _ ?_⟩
   rw [← k.1]
 · cases h
theorem readZone_some (hT : T.Ok) {l : Bytes} {z : Zo} (h : readZone T l = some z) : l = UJ T z ∧ Nm.may z.name = true ∧ z.tru < 65536 := by
 unfold readZone at h
 split at h
 · rename_i a w p ws he
   split at h
   · rename_i ha
     split at h
     · rename_i n p' t h1 h2 h3
       split at h
       · cases h
         obtain ⟨rfl, hm⟩ := Vy hT h1
         obtain ⟨rfl, _⟩ := polP_some h2
         obtain ⟨rfl, ht⟩ := bits_back h3
         refine ⟨?_, hm, ht⟩
         rw [Vx, ← Zs 32 l, he, ha]
       · cases h
     · cases h
   · cases h
 · cases h
end Go.Proofs.YtkpblofmoalnoaaGreatDoor.Cn
namespace Go.Proofs.YtkpblofmoalnoaaGreatDoor.Cn
variable {T : Names}
def ak5 : Bytes → Int → Bytes
 | [], _ => []
 | a :: t, k => if k = 0 then [] else a :: ak5 t (if a = 10 then k - 1 else k)
theorem goP_inl : ∀ (ls : List Bytes) (k j : Nat) (vs : List Int) (zs : List Zo), goP T k ls vs zs = .inl j → k ≤ j ∧ j < k + ls.length ∧ (∃ p, goP T k (ls.take (j - k)) vs zs = .inr p) ∧ goP T k (ls.take (j - k + 1)) vs zs = .inl j
 | [], k, j, vs, zs, h => by rw [goP] at h; cases h
 | l :: ls, k, j, vs, zs, h => by
   have h' := h
   rw [goP] at h
   have stop : k = j → (goP T k [l] vs zs = .inl j) → k ≤ j ∧ j < k + (l :: ls).length ∧ (∃ p, goP T k ((l :: ls).take (j - k)) vs zs = .inr p) ∧ goP T k ((l :: ls).take (j - k + 1)) vs zs = .inl j := by
    intro e h1
    subst e
    rw [Nat.sub_self]
    exact ⟨Nat.le_refl _, by simp, ⟨(vs, zs), rfl⟩, h1⟩
   have more : ∀ (vs' : List Int) (zs' : List Zo), (∀ a, goP T k (l :: a) vs zs = goP T (k + 1) a vs' zs') → goP T (k + 1) ls vs' zs' = .inl j → k ≤ j ∧ j < k + (l :: ls).length ∧ (∃ p, goP T k ((l :: ls).take (j - k)) vs zs = .inr p) ∧ goP T k ((l :: ls).take (j - k + 1)) vs zs = .inl j := by
    intro vs' zs' ha hg
    obtain ⟨g1, g2, ⟨p, g3⟩, g4⟩ := goP_inl ls (k + 1) j _ _ hg
    obtain ⟨i, rfl⟩ : ∃ i, j = k + 1 + i := ⟨j - (k + 1), by omega⟩
    rw [show k + 1 + i - (k + 1) = i by omega] at g3 g4
    rw [show k + 1 + i - k = i + 1 by omega, List.take_succ_cons, List.take_succ_cons]
    exact ⟨by omega, by rw [List.length_cons]; omega, ⟨p, by rw [ha]; exact g3⟩, by rw [ha]; exact g4⟩
   split at h
   · rename_i hk
     cases hn : readNum k l with
     | none =>
       rw [hn] at h
       refine stop (by cases h; rfl) ?_
       rw [goP, if_pos hk, hn]
       exact h
     | some n =>
       rw [hn] at h
       exact more _ _ (fun a => by rw [goP, if_pos hk, hn]) h
   · rename_i hk
     cases hn : readZone T l with
     | none =>
       rw [hn] at h
       refine stop (by cases h; rfl) ?_
       rw [goP, if_neg hk, hn]
       exact h
     | some n =>
       rw [hn] at h
       exact more _ _ (fun a => by rw [goP, if_neg hk, hn]) h
theorem unlines_len (ls : List Bytes) (r : Bytes) : (unlines ls r).length = (unlines ls []).length + r.length := by simp [unlines]
theorem unlines_take (ls : List Bytes) (k : Nat) : (unlines (ls.take k) []).length ≤ (unlines ls []).length := by
 induction ls generalizing k with
 | nil => simp
 | cons l ls ih =>
   cases k with
   | zero => simp [unlines]
   | succ k => rw [List.take_succ_cons, unlines_cons, unlines_cons]; have := ih k; simp; omega
theorem parse_inl {s : Bytes} {ls : List Bytes} {r : Bytes} {j : Nat} (h : linesP s = (ls, r)) (hs : s.length ≤ 131072) (hg : goP T 0 ls [] [] = .inl j) : parseP T s = (zeroC, (j : Int) + 1, 3) := by
 unfold parseP
 rw [if_neg jj, h]
 dsimp only
 rw [hg]
theorem parse_inr {s : Bytes} {ls : List Bytes} {r : Bytes} {p : List Int × List Zo} (h : linesP s = (ls, r)) (hs : s.length ≤ 131072) (hg : goP T 0 ls [] [] = .inr p) :
 parseP T s = if r ≠ [] ∨ ls.length < 12 then (zeroC, (ls.length : Int) + 1, 3) else if mayP (ofN p.1 p.2) then (ofN p.1 p.2, 0, 0) else (zeroC, 0, 1) := by
 unfold parseP
 rw [if_neg jj, h]
 dsimp only
 rw [hg]
end Go.Proofs.YtkpblofmoalnoaaGreatDoor.Cn
namespace Go.Proofs.YtkpblofmoalnoaaGreatDoor.Cn
open Go.Lib (decDigits)
structure Evn where
 kind : Nat
 frm : Int
 num : Int
 data : Bytes
deriving DecidableEq
structure Scr where
 cf : Cf
 seed : Nat
 first : List Nat
 evs : List Evn
deriving DecidableEq
def zeroS : Scr := ⟨zeroC, 0, [], []⟩
def seedW : Bytes := [115, 101, 101, 100]
def tapeW : Bytes := [116, 97, 112, 101]
def clientW : Bytes := [99, 108, 105, 101, 110, 116]
def replyW : Bytes := [114, 101, 112, 108, 121]
def tickW : Bytes := [116, 105, 99, 107]
abbrev Rows := List (Bytes × Bool)
def tailR (r : Bytes) : Rows := if r = [] then [] else [(r, false)]
def rowsOf (ls : List Bytes) (r : Bytes) : Rows := ls.map (fun l => (l, true)) ++ tailR r
def rowsP (s : Bytes) : Rows := rowsOf (linesP s).1 (linesP s).2
def unR (rs : Rows) : Bytes := rs.flatMap fun p => if p.2 then p.1 ++ [10] else p.1
theorem unR_append (a b : Rows) : unR (a ++ b) = unR a ++ unR b := by simp [unR]
theorem unR_lines (ls : List Bytes) : unR (ls.map fun l => (l, true)) = unlines ls [] := by
 induction ls with
 | nil => rfl
 | cons l ls ih =>
   rw [unlines_cons, ← ih]
   simp [unR]
theorem aeQ (r : Bytes) : unR (tailR r) = r := by
 unfold tailR
 split
 · rename_i h; rw [h]; rfl
 · simp [unR]
theorem UL (ls : List Bytes) (r : Bytes) : unR (rowsOf ls r) = unlines ls r := by
 unfold rowsOf
 rw [unR_append, unR_lines, aeQ]
 simp [unlines]
theorem unR_P (s : Bytes) : unR (rowsP s) = s := by
 unfold rowsP
 rw [UL, (un_lines s).1]
theorem rowsP_nil : rowsP [] = [] := rfl
theorem rowsP_end (s : Bytes) (h : (10 : UInt8) ∉ s) (hs : s ≠ []) : rowsP s = [(s, false)] := by
 unfold rowsP
 rw [linesP_end s h]
 unfold rowsOf tailR
 rw [if_neg hs]
 rfl
theorem rowsP_line (l r : Bytes) (h : (10 : UInt8) ∉ l) : rowsP (l ++ 10 :: r) = (l, true) :: rowsP r := by
 unfold rowsP
 rw [linesP_line l r h]
 rfl
theorem rowsP_drop (s : Bytes) (k : Nat) : rowsP (unR ((rowsP s).drop k)) = (rowsP s).drop k := by
 obtain ⟨hu, hc, hr⟩ := un_lines s
 unfold rowsP at *
 generalize (linesP s).1 = ls at *
 generalize (linesP s).2 = r at *
 by_cases hk : k ≤ ls.length
 · have e : (rowsOf ls r).drop k = rowsOf (ls.drop k) r := by
    unfold rowsOf
    rw [List.drop_append_of_le_length (by simpa using hk), List.map_drop]
   rw [e, UL, Zt _ _ (fun l hl => hc l (List.mem_of_mem_drop hl)) hr]
 · have e : (rowsOf ls r).drop k = [] := by
    rw [List.drop_eq_nil_iff]
    unfold rowsOf tailR
    split
    · simp; omega
    · simp; omega
   rw [e]
   rfl
def num64 (w : Bytes) : Option Nat := if !(w == []) && w.all isDig && !((w.head? == some 48) && decide (1 < w.length)) && decide (valD w < 18446744073709551616) then some (valD w) else none
def nib (c : UInt8) : Option Nat := if 48 ≤ c.toNat ∧ c.toNat ≤ 57 then some (c.toNat - 48) else if 97 ≤ c.toNat ∧ c.toNat ≤ 102 then some (c.toNat - 87) else none
def octs : Bytes → Option Bytes
 | [] => some []
 | [_] => none
 | a :: b :: t => match nib a, nib b, octs t with
   | some x, some y, some r => some (UInt8.ofNat (16 * x + y) :: r)
   | _, _, _ => none
def octets (w : Bytes) : Option Bytes := if w = [45] then some [] else if w = [] then none else octs w
def seedP : List Bytes → Option Nat
 | [a, b] => if a = seedW then num64 b else none
 | _ => none
def nums : List Bytes → Option (List Nat)
 | [] => some []
 | w :: ws => match num64 w, nums ws with
   | some n, some l => some (n :: l)
   | _, _ => none
def tapeP : List Bytes → Option (List Nat)
 | a :: ws => if a = tapeW ∧ ws.length ≤ 256 then nums ws else none
 | [] => none
def eventP : List Bytes → Option Evn
 | [a, b] => match num64 b with
   | some n => if a = tickW ∧ n ≤ 1099511627776 then some ⟨3, 0, n, []⟩ else none
   | none => none
 | [a, b, c] => match num64 b, octets c with
   | some n, some d => if (a = clientW ∨ a = replyW) ∧ n ≤ 2147483647 then some ⟨if a = clientW then 1 else 2, n, 0, d⟩ else none
   | _, _ => none
 | _ => none
def isSeed (t : Bytes) : Bool := t == seedW || (seedW ++ [32]).isPrefixOf t
def kS : Rows → Nat
 | [] => 0
 | p :: rs => if isSeed p.1 then 0 else kS rs + 1
def takeP (n : Nat) (ws : List Bytes) (x : Scr) : Option Scr :=
 if n = 1 then (seedP ws).map fun v => { x with seed := v } else if n = 2 then (tapeP ws).map fun v => { x with first := v } else (eventP ws).map fun v => { x with evs := x.evs ++ [v] }
def goS : Nat → Rows → Scr → Nat ⊕ Nat × Scr
 | n, [], x => .inr (n, x)
 | n, p :: rs, x => if p.2 then match takeP (n + 1) (spl 32 p.1) x with
    | some y => goS (n + 1) rs y
    | none => .inl (n + 1)
   else .inl (n + 1)
section
variable (T : Names)
def restS (c : Cf × Int × Int) (k : Nat) (rs : Rows) : Scr × Int × Int := if c.2.2 = 3 then (zeroS, c.2.1, 3) else
 match goS 0 rs { zeroS with cf := c.1 } with
 | .inl j => (zeroS, (k + j : Nat), 3)
 | .inr (n, x) => if n < 2 then (zeroS, ((k + n : Nat) : Int) + 1, 3) else if c.2.2 ≠ 0 then (zeroS, 0, c.2.2) else (x, 0, 0)
def parseR (rs : Rows) : Scr × Int × Int := restS (parseP T (unR (rs.take (kS rs)))) (kS rs) (rs.drop (kS rs))
def parseS (s : Bytes) : Scr × Int × Int := if 131072 < s.length then (zeroS, 0, 5) else parseR T (rowsP s)
end
variable {T : Names}
theorem kS_le (rs : Rows) : kS rs ≤ rs.length := by
 induction rs with
 | nil => exact Nat.le_refl _
 | cons p rs ih =>
   unfold kS
   split
   · exact Nat.zero_le _
   · simpa using ih
theorem adb (a b : Rows) : kS (a ++ b) = if kS a < a.length then kS a else a.length + kS b := by
 induction a with
 | nil => simp [kS]
 | cons p a ih =>
   rw [List.cons_append, kS, kS]
   split
   · rw [if_pos (by simp)]
   · rw [ih, List.length_cons]
     by_cases h : kS a < a.length
     · rw [if_pos h, if_pos (by omega)]
     · rw [if_neg h, if_neg (by omega)]; omega
theorem yO : ∀ (a b : Rows) (n : Nat) (x : Scr), goS n (a ++ b) x = match goS n a x with
  | .inl j => .inl j
  | .inr (m, y) => goS m b y
 | [], b, n, x => by simp [goS]
 | p :: a, b, n, x => by
   rw [List.cons_append, goS, goS]
   split
   · cases takeP (n + 1) (spl 32 p.1) x with
     | none => rfl
     | some y => exact yO a b (n + 1) y
   · rfl
theorem goS_inr : ∀ (a : Rows) (n : Nat) (x : Scr) {m : Nat} {y : Scr}, goS n a x = .inr (m, y) → m = n + a.length
 | [], n, x, m, y, h => by cases h; rfl
 | p :: a, n, x, m, y, h => by
   rw [goS] at h
   split at h
   · split at h
     · have := goS_inr a (n + 1) _ h
       rw [List.length_cons]
       omega
     · cases h
   · cases h
theorem parseP_line {s : Bytes} (h : (parseP T s).2.2 ≠ 3) : (parseP T s).2.1 = 0 := by
 unfold parseP at *
 split
 · rfl
 · rename_i h1
   rw [if_neg h1] at h
   split
   · rename_i k hk
     rw [hk] at h
     exact absurd rfl h
   · rename_i vs zs hk
     rw [hk] at h
     dsimp only at h ⊢
     split
     · rename_i h2
       rw [if_pos h2] at h
       exact absurd rfl h
     · split <;> rfl
end Go.Proofs.YtkpblofmoalnoaaGreatDoor.Cn
namespace Go.Proofs.YtkpblofmoalnoaaGreatDoor
open Go.RowKit
namespace Cn
def JP (acc : Nat) (l : Bytes) : Nat := l.foldl (fun n c => n * 10 + (c.toNat - 48)) acc
theorem adc (l : Bytes) : JP 0 l = valD l := rfl
theorem ab6 (l : Bytes) : ∀ acc, acc ≤ JP acc l := by
 induction l with
 | nil => intro acc; exact Nat.le_refl _
 | cons c l ih =>
   intro acc
   have := ih (acc * 10 + (c.toNat - 48))
   show acc ≤ JP (acc * 10 + (c.toNat - 48)) l
   omega
theorem ah2 (l : Bytes) : ∀ acc, l.all isDig = true → acc ≤ 18446744073709551615 → Lib.parseUintM 18446744073709551615 acc l = if JP acc l ≤ 18446744073709551615 then .ok (JP acc l) else .range := by
 induction l with
 | nil =>
   intro acc _ ha
   show Lib.NumEnd.ok acc = if acc ≤ 18446744073709551615 then .ok acc else .range
   rw [if_pos ha]
 | cons c l ih =>
   intro acc hd ha
   rw [List.all_cons, Bool.and_eq_true] at hd
   have hc := hd.1
   unfold isDig at hc
   simp only [Bool.and_eq_true, decide_eq_true_eq] at hc
   have hge := ab6 l (acc * 10 + (c.toNat - 48))
   have e : JP acc (c :: l) = JP (acc * 10 + (c.toNat - 48)) l := rfl
   rw [Lib.parseUintM, if_pos hc, e]
   by_cases h1 : 1844674407370955162 ≤ acc
   · rw [if_pos h1, if_neg (by omega)]
   · rw [if_neg h1]
     by_cases h2 : 18446744073709551615 < acc * 10 + (c.toNat - 48)
     · rw [if_pos h2, if_neg (by omega)]
     · rw [if_neg h2]
       exact ih _ hd.2 (by omega)
theorem parse64 {w : Bytes} (hd : w.all isDig = true) (h0 : w ≠ []) : Lib.parseUintB 64 w = if valD w < 18446744073709551616 then .ok (valD w) else .range := by
 unfold Lib.parseUintB
 rw [if_neg h0]
 show Lib.parseUintM 18446744073709551615 0 w = _
 rw [ah2 w 0 hd (by omega), adc]
 by_cases h : valD w < 18446744073709551616
 · rw [if_pos h, if_pos (by omega)]
 · rw [if_neg h, if_neg (by omega)]
def hexD : Bytes := [48, 49, 50, 51, 52, 53, 54, 55, 56, 57, 97, 98, 99, 100, 101, 102]
def nibI (c : UInt8) : Int := match nib c with
 | some x => (x : Int)
 | none => -1
theorem index_nib (c : UInt8) : Lib.indexByte hexD c = nibI c := by
 have h : ∀ n : Fin 256, Lib.indexByte hexD (UInt8.ofNat n.val) = nibI (UInt8.ofNat n.val) := by decide +kernel
 have := h ⟨c.toNat, c.toNat_lt⟩
 simpa using this
theorem nib_le {c : UInt8} {x : Nat} (h : nib c = some x) : x ≤ 15 := by
 unfold nib at h
 split at h
 · cases h; omega
 · split at h
   · cases h; omega
   · cases h
theorem num64_some {w : Bytes} {n : Nat} (h : num64 w = some n) : n < 18446744073709551616 := by
 unfold num64 at h
 split at h
 · rename_i k
   simp only [Bool.and_eq_true, decide_eq_true_eq] at k
   cases h
   exact k.2
 · cases h
theorem num64_all {w : Bytes} (h : w.all isDig = false) : num64 w = none := by unfold num64; rw [h]; simp
theorem num64_zero {w : Bytes} (h : w[0]? = some 48) (h1 : 1 < w.length) : num64 w = none := by
 unfold num64
 have : w.head? = some 48 := by rw [← h]; cases w <;> rfl
 rw [this]
 simp [h1]
theorem num64_nil : num64 [] = none := rfl
theorem num64_ok {w : Bytes} (h : w.all isDig = true) (h0 : w ≠ []) (h1 : ¬ (w[0]? = some 48 ∧ 1 < w.length)) : num64 w = if valD w < 18446744073709551616 then some (valD w) else none := by
 unfold num64
 have e : w.head? = w[0]? := by cases w <;> rfl
 rw [h, e]
 have h2 : (w == []) = false := by simpa using h0
 rw [h2]
 have h3 : ((w[0]? == some 48) && decide (1 < w.length)) = false := by
  rw [Bool.and_eq_false_iff]
  by_cases k : w[0]? = some 48
  · right; simp only [decide_eq_false_iff_not]; exact fun q => h1 ⟨k, q⟩
  · left; simpa using k
 rw [h3]
 simp
theorem octs_take : ∀ (w : Bytes) (i : Nat), 2 * i + 1 < w.length → ∀ a b, w[2 * i]? = some a → w[2 * i + 1]? = some b → (nib a = none ∨ nib b = none) → octs w = none
 | [], i, h, a, b, _, _, _ => by simp at h
 | [_], i, h, a, b, _, _, _ => by simp at h
 | x :: y :: t, 0, h, a, b, ha, hb, hn => by
   have e1 : x = a := by simpa using ha
   have e2 : y = b := by simpa using hb
   subst e1 e2
   rw [octs]
   rcases hn with k | k
   · rw [k]
   · rw [k]; cases nib x <;> rfl
 | x :: y :: t, i + 1, h, a, b, ha, hb, hn => by
   have := octs_take t i (by simp at h; omega) a b (by simpa [show 2 * (i + 1) = 2 * i + 1 + 1 by omega] using ha) (by simpa [show 2 * (i + 1) + 1 = 2 * i + 1 + 1 + 1 by omega] using hb) hn
   rw [octs, this]
   cases nib x <;> cases nib y <;> rfl
theorem octs_snoc : ∀ (w : Bytes) (r : Bytes) (a b : UInt8) (x y : Nat), octs w = some r → nib a = some x → nib b = some y → octs (w ++ [a, b]) = some (r ++ [UInt8.ofNat (16 * x + y)])
 | [], r, a, b, x, y, h, ha, hb => by
   cases h
   simp [octs, ha, hb]
 | [_], r, a, b, x, y, h, ha, hb => by cases h
 | c :: d :: t, r, a, b, x, y, h, ha, hb => by
   rw [octs] at h
   cases hc : nib c with
   | none => rw [hc] at h; cases h
   | some u =>
     cases hd : nib d with
     | none => rw [hc, hd] at h; cases h
     | some v =>
       cases ht : octs t with
       | none => rw [hc, hd, ht] at h; cases h
       | some q =>
         rw [hc, hd, ht] at h
         cases h
         have := octs_snoc t q a b x y ht ha hb
         rw [List.cons_append, List.cons_append, octs, hc, hd, this]
         rfl
theorem octs_odd : ∀ (w : Bytes), w.length % 2 ≠ 0 → octs w = none
 | [], h => by simp at h
 | [_], _ => rfl
 | c :: d :: t, h => by
   rw [octs, octs_odd t (by simp at h ⊢; omega)]
   cases nib c <;> cases nib d <;> rfl
theorem octs_len : ∀ (w r : Bytes), octs w = some r → w.length = 2 * r.length
 | [], r, h => by cases h; rfl
 | [_], r, h => by cases h
 | c :: d :: t, r, h => by
   rw [octs] at h
   cases hc : nib c with
   | none => rw [hc] at h; cases h
   | some u =>
     cases hd : nib d with
     | none => rw [hc, hd] at h; cases h
     | some v =>
       cases ht : octs t with
       | none => rw [hc, hd, ht] at h; cases h
       | some q =>
         rw [hc, hd, ht] at h
         cases h
         have := octs_len t q ht
         simp
         omega
theorem nums_snoc : ∀ (ws : List Bytes) (l : List Nat) (w : Bytes) (n : Nat), nums ws = some l → num64 w = some n → nums (ws ++ [w]) = some (l ++ [n])
 | [], l, w, n, h, hn => by cases h; simp [nums, hn]
 | v :: ws, l, w, n, h, hn => by
   rw [nums] at h
   cases hv : num64 v with
   | none => rw [hv] at h; cases h
   | some m =>
     cases hq : nums ws with
     | none => rw [hv, hq] at h; cases h
     | some q =>
       rw [hv, hq] at h
       cases h
       rw [List.cons_append, nums, hv, nums_snoc ws q w n hq hn]
       rfl
theorem nums_no {ws : List Bytes} {i : Nat} {w : Bytes} (hi : ws[i]? = some w) (h : num64 w = none) : nums ws = none := by
 induction ws generalizing i with
 | nil => simp at hi
 | cons v ws ih =>
   cases i with
   | zero =>
     have e : v = w := by simpa using hi
     rw [nums, e, h]
   | succ i =>
     rw [nums, ih (by simpa using hi)]
     cases num64 v <;> rfl
end Cn
section
variable {P : Program} {t : TypeId} {k : IntKind}
theorem aeR {x : Nat} (h : x ≤ 15) : Bin P .shl t (.int .i64 (x : Nat)) (.int k 4) (.int .i64 ((16 * x : Nat) : Int)) := ⟨fun a b w => by
 have hv : ∀ u : Fin 16, IntKind.wrap .i64 ((u.val : Int) * 2 ^ (min 4 (IntKind.bits .i64))) = ((16 * u.val : Nat) : Int) := by decide +kernel
 have := hv ⟨x, by omega⟩
 dsimp only at this
 have hneg : ¬ (4 : Int) < 0 := by omega
 have h4 : (4 : Int).toNat = 4 := rfl
 simp only [eqGuard, binOp, Op.shift, if_neg hneg, h4, this]
 rfl⟩
theorem agW {x y : Nat} (hx : x ≤ 15) (hy : y ≤ 15) : Bin P .or t (.int .i64 ((16 * x : Nat) : Int)) (.int .i64 (y : Nat)) (.int .i64 ((16 * x + y : Nat) : Int)) := ⟨fun a b w => by
 have hv : ∀ u v : Fin 16, IntKind.wrap .i64 (((BitVec.ofInt (IntKind.bits .i64) ((16 * u.val : Nat) : Int) ||| BitVec.ofInt (IntKind.bits .i64) (v.val : Int)).toNat : Nat) : Int) = ((16 * u.val + v.val : Nat) : Int) := by decide +kernel
 have := hv ⟨x, by omega⟩ ⟨y, by omega⟩
 dsimp only at this
 simp only [eqGuard, binOp, Op.intBits, this]
 rfl⟩
end
end Go.Proofs.YtkpblofmoalnoaaGreatDoor
namespace Go.Proofs.YtkpblofmoalnoaaGreatDoor
open Go.RowKit
def StrRow (L : jc) (v : Value) (ls : List Nm.Bytes) : Prop :=
 ∃ a cap, v = .slice a ls.length cap ∧ (ls = [] ∨ ∃ b off C te fr, a = some ⟨b, off, none⟩ ∧ (b, Obj.cells C te fr) ∈ L ∧ ∀ i l, ls[i]? = some l → C[off + i * 1]? = some (.string (bs l)))
theorem StrRow.mono {L L' : jc} {v : Value} {ls : List Nm.Bytes} (h : StrRow L v ls) (hs : ∀ p ∈ L, p ∈ L') : StrRow L' v ls := by
 obtain ⟨a, cap, h1, h2⟩ := h
 refine ⟨a, cap, h1, h2.imp id ?_⟩
 rintro ⟨b, off, C, te, fr, h3, h4, h5⟩
 exact ⟨b, off, C, te, fr, h3, hs _ h4, h5⟩
def qR (l : Nm.Bytes) : Bool := decide (1 ≤ l.length) && decide (l.length ≤ 63)
def jP (ls : List Nm.Bytes) : Nat := (ls.map fun l => l.length + 1).sum
def kp (ls : List Nm.Bytes) : Int := if ls.all qR then (if 255 < 1 + jP ls then 5 else 0) else 1
def yC (ls : List Nm.Bytes) : Nm.Bytes := if kp ls = 0 then Nm.enc ls else []
def QR (ls : List Nm.Bytes) : Nm.Bytes := ls.flatMap fun l => UInt8.ofNat l.length :: l
theorem Zw : ∀ ls : List Nm.Bytes, Nm.enc ls = QR ls ++ [0]
 | [] => rfl
 | l :: ls => by simp [Nm.enc, QR, Zw ls]
theorem VW (l : Nm.Bytes) (ls : List Nm.Bytes) : QR (l :: ls) = UInt8.ofNat l.length :: (l ++ QR ls) := by simp [QR]
theorem kW (l : Nm.Bytes) (ls : List Nm.Bytes) : jP (l :: ls) = l.length + 1 + jP ls := by simp [jP]
theorem qc (a b : List Nm.Bytes) : jP (a ++ b) = jP a + jP b := by simp [jP]
theorem Zx (a b : List Nm.Bytes) : QR (a ++ b) = QR a ++ QR b := by simp [QR]
theorem Zy (ls : List Nm.Bytes) : (QR ls).length = jP ls := by
 induction ls with
 | nil => rfl
 | cons l ls ih => rw [VW, kW, ← ih]; simp; omega
theorem qE (ls : List Nm.Bytes) (k : Nat) : jP (ls.take k) ≤ jP ls := by
 have : jP ls = jP (ls.take k) + jP (ls.drop k) := by rw [← qc, List.take_append_drop]
 omega
theorem VX (ls : List Nm.Bytes) (h : ls.all qR = true) : jP ls ≤ 64 * ls.length := by
 induction ls with
 | nil => simp [jP]
 | cons l ls ih =>
   simp only [List.all_cons, Bool.and_eq_true] at h
   have := ih h.2
   simp [qR] at h
   rw [kW]
   simp
   omega
theorem yD {ls : List Nm.Bytes} {l : Nm.Bytes} (hm : l ∈ ls) (h : qR l = false) : kp ls = 1 := by
 unfold kp
 rw [if_neg]
 intro hall
 have := List.all_eq_true.1 hall l hm
 rw [h] at this
 cases this
theorem qI {ls : List Nm.Bytes} (h : kp ls ≠ 0) : yC ls = [] := by unfold yC; rw [if_neg h]
theorem ade {G : World} {L : jc} (v : Value) (ls : List Nm.Bytes) (hr : StrRow L v ls) (hn : ls.length ≤ 1000000) (hl : ∀ l ∈ ls, l.length ≤ 1000000000000) :
 Spec Tryz.prog G 114 #[v] L fun u M => u = .tuple #[.string (bs (yC ls)), .int .i64 (kp ls)] ∧ M = L := by
 obtain ⟨a, cap, rfl, hrow⟩ := hr
 refine ju (n := 54) Tryz.func114 rfl rfl rfl ?_
 repeat (first | refine goC ?_ | (refine jD ?_; intro bLit))
 refine jK (σ := Nat) (fun k => k ≤ ls.length ∧ (ls.take k).all qR = true) (fun k => [(0, .slice a ls.length cap), (4, .int .i64 ((1 + jP (ls.take k) : Nat) : Int)), (10, .slice a ls.length cap), (11, .int .i64 (ls.length : Nat)), (12, .int .i64 (k : Nat))]) (fun _ => L) (fun k => ls.length - k) 0 ⟨by omega, by simp⟩ ?_ (fun _ h => h) ?_
 exact jL
 rintro k ⟨hk, hall⟩
 have hsum := VX _ hall
 have hlk : (ls.take k).length ≤ k := List.length_take_le _ _
 by_cases hlt : k < ls.length
 · obtain rfl | ⟨b, off, C, te, fr, rfl, hm, hc⟩ := hrow
   · simp at hlt
   obtain ⟨l, hlk⟩ : ∃ l, ls[k]? = some l := ⟨_, List.getElem?_eq_getElem hlt⟩
   have hcell := hc k l hlk
   have hll := hl l (List.mem_of_getElem? hlk)
   have htk : ls.take (k + 1) = ls.take k ++ [l] := by rw [List.take_add_one, hlk]; rfl
   have d1 : decide ((k : Int) < (ls.length : Int)) = true := by simpa using hlt
   by_cases h0 : l.length = 0
   · have e1 : ((l.length : Int) == 0) = true := by simp [h0]
     have hE : kp ls = 1 := yD (List.mem_of_getElem? hlk) (by simp [qR, h0])
     repeat (first | refine goC ?_ | (refine jD ?_; intro bLit))
     refine jF 2 3 _ _ rfl rfl rfl ?_
     exact ⟨by rw [qI (by rw [hE]; decide), hE]; rfl, rfl⟩
   · have e1 : ((l.length : Int) == 0) = false := by simp [h0]
     by_cases h63 : 63 < l.length
     · have e2 : decide ((63 : Int) < (l.length : Int)) = true := decide_eq_true jj
       have hE : kp ls = 1 := yD (List.mem_of_getElem? hlk) (by simp [qR]; omega)
       repeat (first | refine goC ?_ | (refine jD ?_; intro bLit))
       refine jF 2 3 _ _ rfl rfl rfl ?_
       exact ⟨by rw [qI (by rw [hE]; decide), hE]; rfl, rfl⟩
     · have e2 : decide ((63 : Int) < (l.length : Int)) = false := decide_eq_false jj
       repeat (first | refine goC ?_ | (refine jD ?_; intro bLit))
       refine jz (k + 1) ⟨by omega, ?_⟩ ?_ (fun _ h => h) jj
       · rw [htk, List.all_append, hall]; simp [qR]; omega
       · rw [htk, qc]
         refine ⟨rfl, ?_, rfl, rfl, rfl, trivial⟩
         exact congrArg (fun i : Int => some (Value.int .i64 i)) (by rw [kW]; simp [jP]; omega)
 · have hkl : k = ls.length := by omega
   subst hkl
   have d1 : decide ((ls.length : Int) < (ls.length : Int)) = false := by simp
   rw [List.take_length] at hall hsum
   by_cases h255 : 255 < 1 + jP ls
   · have e2 : decide ((255 : Int) < ((1 + jP (ls.take ls.length) : Nat) : Int)) = true := by rw [List.take_length]; simp; omega
     have hE : kp ls = 5 := by unfold kp; rw [if_pos hall, if_pos h255]
     repeat (first | refine goC ?_ | (refine jD ?_; intro bLit))
     refine jF 2 3 _ _ rfl rfl rfl ?_
     exact ⟨by rw [qI (by rw [hE]; decide), hE]; rfl, rfl⟩
   · have e2 : decide ((255 : Int) < ((1 + jP (ls.take ls.length) : Nat) : Int)) = false := by rw [List.take_length]; simp; omega
     have hE : kp ls = 0 := by unfold kp; rw [if_pos hall, if_neg h255]
     have hs0 : jP (ls.take ls.length) = jP ls := by rw [List.take_length]
     repeat (first | refine goC ?_ | (refine jD ?_; intro bLit))
     refine kM (Q1 etO rfl rfl jj jj jj jj rfl) rfl ?_
     intro b7
     repeat (first | refine goC ?_ | (refine jD ?_; intro bLit))
     refine jK (σ := Nat × Value × jc) (fun x => x.1 ≤ ls.length ∧ Row 5 1 x.2.1 (jP (ls.take x.1)) ((QR (ls.take x.1)).map fun c => Value.int .u8 (c.toNat : Int)) x.2.2)
      (fun x => [(7, x.2.1), (34, .slice a ls.length cap), (35, .int .i64 (ls.length : Nat)), (36, .int .i64 (x.1 : Nat))]) (fun x => x.2.2 ++ L) (fun x => ls.length - x.1) (0, _, [(b7, _)]) ⟨by omega, Row.made (size_madeCells _ _) (by unfold maxLen; omega)⟩ ?_ (fun _ h => h) ?_
     exact jL
     rintro ⟨k, v7, B⟩ ⟨hk, hR⟩
     dsimp only at hk hR
     have hst := qE ls k
     by_cases hlt : k < ls.length
     · obtain rfl | ⟨b, off, C, te, fr, rfl, hm, hc⟩ := hrow
       · simp at hlt
       obtain ⟨l, hlk⟩ : ∃ l, ls[k]? = some l := ⟨_, List.getElem?_eq_getElem hlt⟩
       have hcell := hc k l hlk
       have hll : l.length ≤ 63 := by
        have := List.all_eq_true.1 hall l (List.mem_of_getElem? hlk)
        simp [qR] at this
        omega
       have htk : ls.take (k + 1) = ls.take k ++ [l] := by rw [List.take_add_one, hlk]; rfl
       have hsum1 : jP (ls.take k) + (l.length + 1) ≤ jP ls := by
        have := qE ls (k + 1)
        rw [htk, qc, kW] at this
        simp [jP] at this ⊢
        omega
       have d3 : decide ((k : Int) < (ls.length : Int)) = true := decide_eq_true jj
       have hm' : (b, Obj.cells C te fr) ∈ B ++ L := List.mem_append_right _ hm
       repeat (first | refine goC ?_ | (refine jD ?_; intro bLit))
       refine yj etO rfl rfl hR rfl (by unfold maxLen; omega) jj rfl ?_
       intro v8 B8 hR8
       repeat (first | refine goC ?_ | (refine jD ?_; intro bLit))
       refine agb etO unO rfl rfl hR8 jj rfl ?_
       intro v9 B9 hR9
       repeat (first | refine goC ?_ | (refine jD ?_; intro bLit))
       refine jz (k + 1, v9, B9) ⟨by omega, ?_⟩ ?_ (fun _ h => h) jj
       · rw [htk, qc, Zx, kW, VW]
         have e3 : (UInt8.ofNat l.length).toNat = l.length := by simp; omega
         have e4 : jP (ls.take k) + (l.length + 1 + jP []) = jP (ls.take k) + 1 + l.length := by simp [jP]; omega
         show Row _ 1 v9 (jP (ls.take k) + (l.length + 1 + jP [])) _ B9
         rw [e4]
         simpa [QR, e3] using hR9
       exact jL
     · have hkl : k = ls.length := by omega
       subst hkl
       rw [List.take_length] at hR
       have d3 : decide ((ls.length : Int) < (ls.length : Int)) = false := by simp
       repeat (first | refine goC ?_ | (refine jD ?_; intro bLit))
       refine yj etO rfl rfl hR rfl (by unfold maxLen; omega) jj rfl ?_
       intro v8 B8 hR8
       have hR9 : Row 5 1 v8 (Nm.enc ls).length ((Nm.enc ls).map fun c => Value.int .u8 (c.toNat : Int)) B8 := by
        rw [Zw]
        simpa [Zy] using hR8
       refine jl (zh rfl unO unO unO hR9 (fun p hp => List.mem_append_left _ hp)) rfl ?_
       repeat (first | refine goC ?_ | (refine jD ?_; intro bLit))
       refine jr (fun w h => h.sub (List.sublist_append_right _ _)) ?_
       refine jF 2 3 _ _ rfl rfl rfl ?_
       exact ⟨by rw [yC, if_pos hE, hE], rfl⟩
end Go.Proofs.YtkpblofmoalnoaaGreatDoor
namespace Go.Proofs.YtkpblofmoalnoaaGreatDoor
open Go.RowKit
structure Scan where
 labels : List Nm.Bytes
 label : Nm.Bytes
 esc : Nat
 val : Nat
def isDig (r : Nat) : Bool := decide (48 ≤ r) && decide (r ≤ 57)
def kX (s : Scan) (r : Nat) : Bool × Scan :=
 if isDig r then
  if s.esc < 3 then (true, { s with val := s.val * 10 + (r - 48), esc := s.esc + 1 })
  else if 255 < s.val * 10 + (r - 48) then (false, { s with val := s.val * 10 + (r - 48) })
  else (true, { s with label := s.label ++ [UInt8.ofNat (s.val * 10 + (r - 48))], val := s.val * 10 + (r - 48), esc := 0 })
 else if 1 < s.esc then (false, s)
 else (true, { s with label := s.label ++ [UInt8.ofNat r], esc := 0 })
def j6 (s : Scan) (r : Nat) : Bool × Scan :=
 if r < 33 ∨ 126 < r then (false, s)
 else if 0 < s.esc then kX s r
 else if r = 92 then (true, { s with esc := 1, val := 0 })
 else if r = 46 then (if s.label = [] then (false, s) else (true, { s with labels := s.labels ++ [s.label], label := [] }))
 else (true, { s with label := s.label ++ [UInt8.ofNat r] })
def yq (s : Scan) : Bool × Scan :=
 if 0 < s.esc then (false, s)
 else if s.label = [] then (!s.labels.isEmpty, s)
 else (true, { s with labels := s.labels ++ [s.label], label := [] })
def ab7 (c : UInt8) : Value := .int .u8 (c.toNat : Int)
def ka (l : Nm.Bytes) : Value := .string (bs l)
structure ScanRep (b : Nat) (s : Scan) (B : jc) : Prop where
 is : ∃ v1 v2 B1 B2, Row 9 1 v1 s.labels.length (s.labels.map ka) B1 ∧ Row 5 1 v2 s.label.length (s.label.map ab7) B2 ∧
  B = (b, .cells #[v1, v2, .int .i64 (s.esc : Nat), .int .i64 (s.val : Nat)] 189 (0, 0)) :: (B1 ++ B2)
theorem Kz (p : Nat × Obj) (B1 B2 L : jc) : (p :: ((B1 ++ B2) ++ L)).Perm (B2 ++ (p :: (B1 ++ L))) := by
 have h1 : ((B1 ++ B2) ++ L).Perm (B2 ++ (B1 ++ L)) := by
  rw [← List.append_assoc]
  exact List.perm_append_comm.append_right L
 exact (h1.cons p).trans List.perm_middle.symm
theorem Zz (p : Nat × Obj) (B1 B2 L : jc) : (p :: ((B1 ++ B2) ++ L)).Perm (B1 ++ (p :: (B2 ++ L))) := by
 rw [List.append_assoc]
 exact List.perm_middle.symm
theorem aaX (p : Nat × Obj) (B1 B2 L : jc) : (p :: (B1 ++ (B2 ++ L))).Perm ((p :: (B1 ++ B2)) ++ L) := by
 rw [List.cons_append, List.append_assoc]
theorem yP (p : Nat × Obj) (B1 B2 L : jc) : (p :: (B2 ++ (B1 ++ L))).Perm ((p :: (B1 ++ B2)) ++ L) := by
 have h1 : (B2 ++ (B1 ++ L)).Perm ((B1 ++ B2) ++ L) := by
  rw [← List.append_assoc]
  exact List.perm_append_comm.append_right L
 exact h1.cons p
theorem Row.snoc1 {v : Value} {l : Nm.Bytes} {c : UInt8} {n : Int} {B : jc} (hn : (c.toNat : Int) = n) (h : Row 5 1 v (l.length + 1) (l.map ab7 ++ [.int .u8 n]) B) : Row 5 1 v (l ++ [c]).length ((l ++ [c]).map ab7) B := by
 subst hn
 simpa [ab7] using h
theorem Row.snocS {v : Value} {ls : List Nm.Bytes} {l : Nm.Bytes} {B : jc} (h : Row 9 1 v (ls.length + 1) (ls.map ka ++ [.string (bs l)]) B) : Row 9 1 v (ls ++ [l]).length ((ls ++ [l]).map ka) B := by
 simpa [ka] using h
theorem aeS {G : World} {L : jc} (b : Nat) (s : Scan) (B : jc) (r : Nat) (hs : ScanRep b s B) (h1 : 33 ≤ r) (h2 : r ≤ 126) (hv : s.val ≤ 1000) (he : s.esc ≤ 3) (hl : s.label.length ≤ 1000000) :
 Spec Tryz.prog G 155 #[.pointer (some ⟨b, 0, none⟩), .int .i32 (r : Nat)] (B ++ L) fun u M => u = .bool (kX s r).1 ∧ ∃ B', ScanRep b (kX s r).2 B' ∧ M = B' ++ L := by
 obtain ⟨v1, v2, B1, B2, hR1, hR2, rfl⟩ := hs.is
 obtain ⟨a2, c2, rfl⟩ := hR2.slice
 by_cases hd : 48 ≤ r ∧ r ≤ 57
 · have hdig : isDig r = true := by simp [isDig]; omega
   have e1 : decide ((48 : Int) ≤ ((r : Nat) : Int)) = true := decide_eq_true jj
   have e3 : (!(decide (((r : Nat) : Int) ≤ 57))) = false := by rw [decide_eq_true jj]; rfl
   by_cases h3 : s.esc < 3
   · have e4 : decide (((s.esc : Nat) : Int) < 3) = true := decide_eq_true jj
     refine ju (n := 79) Tryz.func155 rfl rfl rfl ?_
     repeat (first | refine goC ?_ | (refine jD ?_; intro bLit))
     refine js 4 _ rfl rfl ?_
     refine ⟨by simp [kX, hdig, h3], _, ⟨_, _, B1, B2, by simpa [kX, hdig, h3] using hR1, by simpa [kX, hdig, h3] using hR2, rfl⟩, ?_⟩
     rw [kX, if_pos hdig, if_pos h3]
     have e5 : ((s.val : Nat) : Int) * 10 + (((r : Nat) : Int) - 48) = ((s.val * 10 + (r - 48) : Nat) : Int) := by omega
     show (b, Obj.cells #[v1, _, _, Value.int .i64 (((s.val : Nat) : Int) * 10 + (((r : Nat) : Int) - 48))] _ _) :: _ = _
     rw [e5]
     rfl
   · have e4 : decide (((s.esc : Nat) : Int) < 3) = false := decide_eq_false jj
     have e5 : ((s.val : Nat) : Int) * 10 + (((r : Nat) : Int) - 48) = ((s.val * 10 + (r - 48) : Nat) : Int) := by omega
     by_cases h4 : 255 < s.val * 10 + (r - 48)
     · have e6 : decide ((255 : Int) < ((s.val : Nat) : Int) * 10 + (((r : Nat) : Int) - 48)) = true := decide_eq_true jj
       refine ju (n := 79) Tryz.func155 rfl rfl rfl ?_
       repeat (first | refine goC ?_ | (refine jD ?_; intro bLit))
       refine js 4 _ rfl rfl ?_
       refine ⟨by simp [kX, hdig, h3, h4], _, ⟨_, _, B1, B2, by simpa [kX, hdig, h3, h4] using hR1, by simpa [kX, hdig, h3, h4] using hR2, rfl⟩, ?_⟩
       rw [kX, if_pos hdig, if_neg h3, if_pos h4]
       show (b, Obj.cells #[v1, _, _, Value.int .i64 (((s.val : Nat) : Int) * 10 + (((r : Nat) : Int) - 48))] _ _) :: _ = _
       rw [e5]
       rfl
     · have e6 : decide ((255 : Int) < ((s.val : Nat) : Int) * 10 + (((r : Nat) : Int) - 48)) = false := decide_eq_false jj
       refine ju (n := 79) Tryz.func155 rfl rfl rfl ?_
       repeat (first | refine goC ?_ | (refine jD ?_; intro bLit))
       refine jR jo ([(b, .cells #[v1, .slice a2 s.label.length c2, .int .i64 (s.esc : Nat), .int .i64 (((s.val : Nat) : Int) * 10 + (((r : Nat) : Int) - 48))] 189 (0, 0))]) [14] ?_
       refine tkQ 0 ?_
       refine tkQ 1 ?_
       refine tkQ 2 ?_
       refine tkQ 3 ?_
       refine tkQ 4 ?_
       refine tkQ 5 ?_
       refine tkQ 6 ?_
       refine tkQ 7 ?_
       refine tkQ 8 ?_
       refine tkQ 9 ?_
       refine qS 10 je rfl rfl rfl rfl (Q0 etO rfl rfl) ?_; rintro _ _ ⟨bLit, rfl, rfl⟩; refine ⟨Or.inr (by first | assumption | (intro p hp; grind)), un ((Kz _ B1 B2 L).cons _) ?_⟩
       refine qS 11 je rfl rfl rfl rfl (WE etO rfl rfl hR2 rfl (by unfold maxLen; omega) jj) ?_; rintro v8 _ ⟨B8, hR8, rfl⟩; obtain ⟨a8, c8, rfl⟩ := hR8.slice; refine ⟨Or.inr (by first | assumption | (intro p hp; grind)), ?_⟩
       refine tkQ 12 ?_
       refine tkQ 13 ?_
       refine un List.perm_middle (uI 14 je rfl rfl rfl (VD rfl rfl onO rfl rfl rfl) ?_); rintro _ _ ⟨rfl, rfl⟩; refine ⟨Or.inl (by simp), ?_⟩
       refine tdQ ?_
       repeat (first | refine goC ?_ | (refine jD ?_; intro bLit))
       refine jr (fun w h => h.perm (yP _ B1 B8 L)) ?_
       refine js 4 _ rfl rfl ?_
       have hR9 := Row.snoc1 (c := UInt8.ofNat (s.val * 10 + (r - 48))) (by simp; omega) hR8
       refine ⟨by simp [kX, hdig, h3, h4], _, ⟨_, _, B1, B8, by simpa [kX, hdig, h3, h4] using hR1, by simpa [kX, hdig, h3, h4] using hR9, rfl⟩, ?_⟩
       rw [kX, if_pos hdig, if_neg h3, if_neg h4]
       show ((b, Obj.cells #[v1, _, _, Value.int .i64 (((s.val : Nat) : Int) * 10 + (((r : Nat) : Int) - 48))] _ _) :: _) ++ L = _
       rw [e5]
       rfl
 · have hdig : isDig r = false := by simp [isDig]; omega
   have hcase : (r < 48) ∨ (57 < r) := by omega
   by_cases h3 : 1 < s.esc
   · have e4 : decide ((1 : Int) < ((s.esc : Nat) : Int)) = true := decide_eq_true jj
     rcases hcase with hc | hc
     · have e1 : decide ((48 : Int) ≤ ((r : Nat) : Int)) = false := decide_eq_false jj
       refine ju (n := 79) Tryz.func155 rfl rfl rfl ?_
       repeat (first | refine goC ?_ | (refine jD ?_; intro bLit))
       refine js 4 _ rfl rfl ?_
       exact ⟨by simp [kX, hdig, h3], _, by rw [kX, hdig]; simp only [h3, if_true]; exact hs, rfl⟩
     · have e1 : decide ((48 : Int) ≤ ((r : Nat) : Int)) = true := decide_eq_true jj
       have e2 : (!(decide (((r : Nat) : Int) ≤ 57))) = true := by rw [decide_eq_false jj]; rfl
       refine ju (n := 79) Tryz.func155 rfl rfl rfl ?_
       repeat (first | refine goC ?_ | (refine jD ?_; intro bLit))
       refine js 4 _ rfl rfl ?_
       exact ⟨by simp [kX, hdig, h3], _, by rw [kX, hdig]; simp only [h3, if_true]; exact hs, rfl⟩
   · have e4 : decide ((1 : Int) < ((s.esc : Nat) : Int)) = false := decide_eq_false jj
     rcases hcase with hc | hc
     · have e1 : decide ((48 : Int) ≤ ((r : Nat) : Int)) = false := decide_eq_false jj
       refine ju (n := 79) Tryz.func155 rfl rfl rfl ?_
       repeat (first | refine goC ?_ | (refine jD ?_; intro bLit))
       refine ku ((Kz _ B1 B2 L).cons _) ?_
       refine yj etO rfl rfl hR2 rfl (by unfold maxLen; omega) jj rfl ?_
       intro v8 B8 hR8
       obtain ⟨a8, c8, rfl⟩ := hR8.slice
       refine ku List.perm_middle ?_
       repeat (first | refine goC ?_ | (refine jD ?_; intro bLit))
       refine jr (fun w h => h.perm (yP _ B1 B8 L)) ?_
       refine js 4 _ rfl rfl ?_
       have hR9 := Row.snoc1 (c := UInt8.ofNat r) (by simp; omega) hR8
       exact ⟨by simp [kX, hdig, h3], _, ⟨_, _, B1, B8, by simpa [kX, hdig, h3] using hR1, by simpa [kX, hdig, h3] using hR9, rfl⟩, by rw [kX, hdig]; simp only [h3, if_false]; rfl⟩
     · have e1 : decide ((48 : Int) ≤ ((r : Nat) : Int)) = true := decide_eq_true jj
       have e2 : (!(decide (((r : Nat) : Int) ≤ 57))) = true := by rw [decide_eq_false jj]; rfl
       refine ju (n := 79) Tryz.func155 rfl rfl rfl ?_
       repeat (first | refine goC ?_ | (refine jD ?_; intro bLit))
       refine ku ((Kz _ B1 B2 L).cons _) ?_
       refine yj etO rfl rfl hR2 rfl (by unfold maxLen; omega) jj rfl ?_
       intro v8 B8 hR8
       obtain ⟨a8, c8, rfl⟩ := hR8.slice
       refine ku List.perm_middle ?_
       repeat (first | refine goC ?_ | (refine jD ?_; intro bLit))
       refine jr (fun w h => h.perm (yP _ B1 B8 L)) ?_
       refine js 4 _ rfl rfl ?_
       have hR9 := Row.snoc1 (c := UInt8.ofNat r) (by simp; omega) hR8
       exact ⟨by simp [kX, hdig, h3], _, ⟨_, _, B1, B8, by simpa [kX, hdig, h3] using hR1, by simpa [kX, hdig, h3] using hR9, rfl⟩, by rw [kX, hdig]; simp only [h3, if_false]; rfl⟩
theorem VY {G : World} {L : jc} (b : Nat) (s : Scan) (B : jc) (r : Nat) (hs : ScanRep b s B) (hr : r ≤ 2147483647) (hv : s.val ≤ 1000) (he : s.esc ≤ 3) (hl : s.label.length ≤ 1000000) (hls : s.labels.length ≤ 1000000) :
 Spec Tryz.prog G 112 #[.pointer (some ⟨b, 0, none⟩), .int .i32 (r : Nat)] (B ++ L) fun u M => u = .bool (j6 s r).1 ∧ ∃ B', ScanRep b (j6 s r).2 B' ∧ M = B' ++ L := by
 obtain ⟨v1, v2, B1, B2, hR1, hR2, rfl⟩ := hs.is
 obtain ⟨a1, c1, rfl⟩ := hR1.slice
 obtain ⟨a2, c2, rfl⟩ := hR2.slice
 by_cases h33 : r < 33
 · have e1 : decide (((r : Nat) : Int) < 33) = true := decide_eq_true jj
   have hT : j6 s r = (false, s) := by unfold j6; rw [if_pos (Or.inl h33)]
   refine ju (n := 69) Tryz.func112 rfl rfl rfl ?_
   repeat (first | refine goC ?_ | (refine jD ?_; intro bLit))
   refine js 4 _ rfl rfl ?_
   exact ⟨by rw [hT], _, by rw [hT]; exact hs, rfl⟩
 have e1 : decide (((r : Nat) : Int) < 33) = false := decide_eq_false jj
 by_cases h126 : 126 < r
 · have e2 : decide ((126 : Int) < ((r : Nat) : Int)) = true := decide_eq_true jj
   have hT : j6 s r = (false, s) := by unfold j6; rw [if_pos (Or.inr h126)]
   refine ju (n := 69) Tryz.func112 rfl rfl rfl ?_
   repeat (first | refine goC ?_ | (refine jD ?_; intro bLit))
   refine js 4 _ rfl rfl ?_
   exact ⟨by rw [hT], _, by rw [hT]; exact hs, rfl⟩
 have e2 : decide ((126 : Int) < ((r : Nat) : Int)) = false := decide_eq_false jj
 have hin : ¬ (r < 33 ∨ 126 < r) := by omega
 by_cases h0 : 0 < s.esc
 · have e3 : decide ((0 : Int) < ((s.esc : Nat) : Int)) = true := decide_eq_true jj
   have hT : j6 s r = kX s r := by unfold j6; rw [if_neg hin, if_pos h0]
   refine ju (n := 69) Tryz.func112 rfl rfl rfl ?_
   repeat (first | refine goC ?_ | (refine jD ?_; intro bLit))
   refine jX (jb je rfl (aeS b s _ r hs jj jj hv he hl)) rfl ?_
   rintro _ _ ⟨rfl, B', hB', rfl⟩
   repeat (first | refine goC ?_ | (refine jD ?_; intro bLit))
   refine js 4 _ rfl rfl ?_
   exact ⟨by rw [hT], _, by rw [hT]; exact hB', rfl⟩
 have e3 : decide ((0 : Int) < ((s.esc : Nat) : Int)) = false := decide_eq_false jj
 by_cases h92 : r = 92
 · have e4 : (((r : Nat) : Int) == 92) = true := by simp [h92]
   have hT : j6 s r = (true, { s with esc := 1, val := 0 }) := by unfold j6; rw [if_neg hin, if_neg h0, if_pos h92]
   refine ju (n := 69) Tryz.func112 rfl rfl rfl ?_
   repeat (first | refine goC ?_ | (refine jD ?_; intro bLit))
   refine js 4 _ rfl rfl ?_
   exact ⟨by rw [hT], _, by rw [hT]; exact ⟨_, _, B1, B2, hR1, hR2, rfl⟩, rfl⟩
 have e4 : (((r : Nat) : Int) == 92) = false := by simp; omega
 by_cases h46 : r = 46
 · have e5 : (((r : Nat) : Int) == 46) = true := by simp [h46]
   by_cases hlab : s.label = []
   · have e6 : (((s.label.length : Nat) : Int) == 0) = true := by simp [hlab]
     have hT : j6 s r = (false, s) := by unfold j6; rw [if_neg hin, if_neg h0, if_neg h92, if_pos h46, if_pos hlab]
     refine ju (n := 69) Tryz.func112 rfl rfl rfl ?_
     repeat (first | refine goC ?_ | (refine jD ?_; intro bLit))
     refine js 4 _ rfl rfl ?_
     exact ⟨by rw [hT], _, by rw [hT]; exact hs, rfl⟩
   · have e6 : (((s.label.length : Nat) : Int) == 0) = false := by simp [hlab]
     have hT : j6 s r = (true, { s with labels := s.labels ++ [s.label], label := [] }) := by unfold j6; rw [if_neg hin, if_neg h0, if_neg h92, if_pos h46, if_neg hlab]
     refine ju (n := 69) Tryz.func112 rfl rfl rfl ?_
     repeat (first | refine goC ?_ | (refine jD ?_; intro bLit))
     refine jR jo ((b, .cells #[.slice a1 s.labels.length c1, .slice a2 s.label.length c2, .int .i64 (s.esc : Nat), .int .i64 (s.val : Nat)] 189 (0, 0)) :: B2) [14] ?_
     refine tkQ 0 ?_
     refine tkQ 1 ?_
     refine tkQ 2 ?_
     refine tkQ 3 ?_
     refine tkQ 4 ?_
     refine tkQ 5 ?_
     refine tkQ 6 ?_
     refine tkQ 7 ?_
     refine tkQ 8 ?_
     first | (refine' jG 9 rfl rfl je (kz (zh rfl unO unO unO hR2 (fun p hp => List.mem_cons_of_mem _ hp))) ?_ ?_; (· first | assumption | (intro p hp; grind)))
     refine qS 10 je rfl rfl rfl rfl (Q0 etO rfl rfl) ?_; rintro _ _ ⟨bLit, rfl, rfl⟩; refine ⟨Or.inr (by first | assumption | (intro p hp; grind)), un ((Zz _ B1 B2 L).cons _) ?_⟩
     refine qS 11 je rfl rfl rfl rfl (WE etO rfl rfl hR1 rfl (by unfold maxLen; omega) jj) ?_; rintro v8 _ ⟨B8, hR8, rfl⟩; obtain ⟨a8, c8, rfl⟩ := hR8.slice; refine ⟨Or.inr (by first | assumption | (intro p hp; grind)), ?_⟩
     refine tkQ 12 ?_
     refine tkQ 13 ?_
     refine un List.perm_middle (uI 14 je rfl rfl rfl (VD rfl rfl onO rfl rfl rfl) ?_); rintro _ _ ⟨rfl, rfl⟩; refine ⟨Or.inl (by simp), ?_⟩
     refine tdQ ?_
     repeat (first | refine goC ?_ | (refine jD ?_; intro bLit))
     first | refine jl (Qv etO rfl rfl jj jj) rfl ?_ | skip
     repeat (first | refine goC ?_ | (refine jD ?_; intro bLit))
     refine jr (fun w h => h.perm (aaX _ B8 B2 L)) ?_
     refine js 4 _ rfl rfl ?_
     exact ⟨by rw [hT], _, by rw [hT]; exact ⟨_, _, B8, B2, Row.snocS hR8, hR2.cut0, rfl⟩, by congr 4 <;> simp⟩
 have e5 : (((r : Nat) : Int) == 46) = false := by simp; omega
 have hT : j6 s r = (true, { s with label := s.label ++ [UInt8.ofNat r] }) := by unfold j6; rw [if_neg hin, if_neg h0, if_neg h92, if_neg h46]
 refine ju (n := 69) Tryz.func112 rfl rfl rfl ?_
 repeat (first | refine goC ?_ | (refine jD ?_; intro bLit))
 refine ku ((Kz _ B1 B2 L).cons _) ?_
 refine yj etO rfl rfl hR2 rfl (by unfold maxLen; omega) jj rfl ?_
 intro v8 B8 hR8
 obtain ⟨a8, c8, rfl⟩ := hR8.slice
 refine ku List.perm_middle ?_
 repeat (first | refine goC ?_ | (refine jD ?_; intro bLit))
 refine jr (fun w h => h.perm (yP _ B1 B8 L)) ?_
 refine js 4 _ rfl rfl ?_
 exact ⟨by rw [hT], _, by rw [hT]; exact ⟨_, _, B1, B8, hR1, Row.snoc1 (by simp; omega) hR8, rfl⟩, rfl⟩
theorem aeT {G : World} {L : jc} (b : Nat) (s : Scan) (B : jc) (hs : ScanRep b s B) (he : s.esc ≤ 3) (hl : s.label.length ≤ 1000000) (hls : s.labels.length ≤ 1000000) :
 Spec Tryz.prog G 113 #[.pointer (some ⟨b, 0, none⟩)] (B ++ L) fun u M => u = .bool (yq s).1 ∧ ∃ B', ScanRep b (yq s).2 B' ∧ M = B' ++ L := by
 obtain ⟨v1, v2, B1, B2, hR1, hR2, rfl⟩ := hs.is
 obtain ⟨a1, c1, rfl⟩ := hR1.slice
 obtain ⟨a2, c2, rfl⟩ := hR2.slice
 by_cases h0 : 0 < s.esc
 · have e3 : decide ((0 : Int) < ((s.esc : Nat) : Int)) = true := decide_eq_true jj
   have hT : yq s = (false, s) := by unfold yq; rw [if_pos h0]
   refine ju (n := 37) Tryz.func113 rfl rfl rfl ?_
   repeat (first | refine goC ?_ | (refine jD ?_; intro bLit))
   refine js 2 _ rfl rfl ?_
   exact ⟨by rw [hT], _, by rw [hT]; exact hs, rfl⟩
 have e3 : decide ((0 : Int) < ((s.esc : Nat) : Int)) = false := decide_eq_false jj
 by_cases hlab : s.label = []
 · have e6 : decide ((0 : Int) < ((s.label.length : Nat) : Int)) = false := by simp [hlab]
   have hT : yq s = (!s.labels.isEmpty, s) := by unfold yq; rw [if_neg h0, if_pos hlab]
   refine ju (n := 37) Tryz.func113 rfl rfl rfl ?_
   repeat (first | refine goC ?_ | (refine jD ?_; intro bLit))
   refine js 2 _ rfl rfl ?_
   refine ⟨?_, _, by rw [hT]; exact hs, rfl⟩
   rw [hT]
   cases s.labels <;> simp <;> omega
 · have e6 : decide ((0 : Int) < ((s.label.length : Nat) : Int)) = true := by simp; exact List.length_pos_iff.2 hlab
   have hT : yq s = (true, { s with labels := s.labels ++ [s.label], label := [] }) := by unfold yq; rw [if_neg h0, if_neg hlab]
   refine ju (n := 37) Tryz.func113 rfl rfl rfl ?_
   repeat (first | refine goC ?_ | (refine jD ?_; intro bLit))
   refine jR jo ((b, .cells #[.slice a1 s.labels.length c1, .slice a2 s.label.length c2, .int .i64 (s.esc : Nat), .int .i64 (s.val : Nat)] 189 (0, 0)) :: B2) [14] ?_
   refine tkQ 0 ?_
   refine tkQ 1 ?_
   refine tkQ 2 ?_
   refine tkQ 3 ?_
   refine tkQ 4 ?_
   refine tkQ 5 ?_
   refine tkQ 6 ?_
   refine tkQ 7 ?_
   refine tkQ 8 ?_
   first | (refine' jG 9 rfl rfl je (kz (zh rfl unO unO unO hR2 (fun p hp => List.mem_cons_of_mem _ hp))) ?_ ?_; (· first | assumption | (intro p hp; grind)))
   refine qS 10 je rfl rfl rfl rfl (Q0 etO rfl rfl) ?_; rintro _ _ ⟨bLit, rfl, rfl⟩; refine ⟨Or.inr (by first | assumption | (intro p hp; grind)), un ((Zz _ B1 B2 L).cons _) ?_⟩
   refine qS 11 je rfl rfl rfl rfl (WE etO rfl rfl hR1 rfl (by unfold maxLen; omega) jj) ?_; rintro v8 _ ⟨B8, hR8, rfl⟩; obtain ⟨a8, c8, rfl⟩ := hR8.slice; refine ⟨Or.inr (by first | assumption | (intro p hp; grind)), ?_⟩
   refine tkQ 12 ?_
   refine tkQ 13 ?_
   refine un List.perm_middle (uI 14 je rfl rfl rfl (VD rfl rfl onO rfl rfl rfl) ?_); rintro _ _ ⟨rfl, rfl⟩; refine ⟨Or.inl (by simp), ?_⟩
   refine tdQ ?_
   repeat (first | refine goC ?_ | (refine jD ?_; intro bLit))
   refine jr (L' := ((b, .cells #[.slice a8 (s.labels.length + 1) c8, .slice none 0 0, .int .i64 (s.esc : Nat), .int .i64 (s.val : Nat)] 189 (0, 0)) :: (B8 ++ [])) ++ L) (fun w h => h.sub ?_) ?_
   · rw [List.append_nil]
     exact ((List.Sublist.refl B8).append (List.sublist_append_right B2 L)).cons_cons _
   refine js 2 _ rfl rfl ?_
   exact ⟨by rw [hT]; simp, _, by rw [hT]; exact ⟨_, _, B8, [], Row.snocS hR8, Row.nil _ _, rfl⟩, by simp⟩
end Go.Proofs.YtkpblofmoalnoaaGreatDoor
namespace Go.Proofs.YtkpblofmoalnoaaGreatDoor
open Go.RowKit
variable {G : World} {P : Program} {n : Nat} {ρ : jn} {L : jc} {ty : TypeId} {Q : Exit → Act → World → Prop}
theorem W3 {x : Operand} {t : TypeId} {s : List UInt8} (hx : ev ρ x = some (.string (bs s))) (ht : P.underlying t = some .string) : OpNew P G ρ L (.range t x) ty (fun b => .pointer (some ⟨b, 0, none⟩)) (.stringIter (bs s) 0) :=
 .run fun r hr w o ho _ => by
  simp [execOp, ho, hr _ _ hx, Instr.range, run_underlying ht]
theorem Heap.setObj {w : World} {b : Nat} {o o' : Obj} (h : Heap G w ((b, o) :: L)) : Heap G { w with heap := w.heap.setIfInBounds b o' } ((b, o') :: L) := by
 have hlt := h.lt (List.mem_cons_self (a := (b, o)))
 refine h.update ⟨rfl, rfl, rfl, by simp⟩ ?_ (fun j hj hne => ?_)
 · show (w.heap.setIfInBounds b o')[b]? = _
   rw [Array.getElem?_setIfInBounds_self_of_lt hlt]
 · show (w.heap.setIfInBounds b o')[j]? = _
   rw [Array.getElem?_setIfInBounds_ne (Ne.symm hne)]
theorem QF {x : Operand} {b k : Nat} {s : List UInt8} (hx : ev ρ x = some (.pointer (some ⟨b, 0, none⟩))) (hk : k < s.length) :
 OpV P G ρ ((b, .stringIter (bs s) k) :: L) (.next x true) ty (.tuple #[.bool true, .int .i64 (k : Nat), .int .i32 ((Utf8.decode (bs s) k).1 : Nat)]) ((b, .stringIter (bs s) (k + (Utf8.decode (bs s) k).2)) :: L) :=
 .run fun r hr w hw o ho _ => by
  have h0 := hw.get _ (List.mem_cons_self ..)
  refine ⟨{ w with heap := w.heap.setIfInBounds b (.stringIter (bs s) (k + (Utf8.decode (bs s) k).2)) }, ?_, hw.setObj⟩
  have hs : k < (bs s).size := by rw [ks]; exact hk
  simp only [execOp, ho, hr _ _ hx, Instr.next, getObj, setObj, Sem.run_bind, Sem.run, h0, Result.andThen, hs, if_true]
  simp [goInt]
theorem ZA {x : Operand} {b k : Nat} {s : List UInt8} (hx : ev ρ x = some (.pointer (some ⟨b, 0, none⟩))) (hk : s.length ≤ k) (hm : (b, Obj.stringIter (bs s) k) ∈ L) :
 OpQ P ρ L (.next x true) ty (.tuple #[.bool false]) :=
 ⟨fun r hr w hw o ho _ => by
   have h0 := hw.get _ hm
   have hs : ¬ k < (bs s).size := by rw [ks]; omega
   simp only [execOp, ho, hr _ _ hx, Instr.next, getObj, Sem.run_bind, Sem.run, h0, Result.andThen, hs, if_false]
   simp⟩
theorem aeU {s : List UInt8} {k : Nat} (h : k < (bs s).size) {c : UInt8} (hc : s[k]? = some c) : (bs s)[k]'h = c := by
 obtain ⟨h1, h2⟩ := List.getElem?_eq_some_iff.1 hc
 rw [← h2]
 rfl
theorem aaY {s : List UInt8} {k : Nat} {c : UInt8} (hc : s[k]? = some c) (h : c.toNat < 128) : Utf8.decode (bs s) k = (c.toNat, 1) := by
 have hk : k < (bs s).size := by rw [ks]; exact (List.getElem?_eq_some_iff.1 hc).1
 rw [decode_ascii (bs s) k hk (by rw [aeU hk hc]; exact h), aeU hk hc]
theorem adf {s : List UInt8} {k : Nat} {c : UInt8} (hc : s[k]? = some c) (h : 128 ≤ c.toNat) : 128 ≤ (Utf8.decode (bs s) k).1 ∧ (Utf8.decode (bs s) k).1 ≤ 2147483647 := by
 have hk : k < (bs s).size := by rw [ks]; exact (List.getElem?_eq_some_iff.1 hc).1
 exact ⟨(decode_high (bs s) k hk (by rw [aeU hk hc]; exact h)).1, decode_le _ _⟩
end Go.Proofs.YtkpblofmoalnoaaGreatDoor
namespace Go.Proofs.YtkpblofmoalnoaaGreatDoor
open Go.RowKit
def z8 : Scan := ⟨[], [], 0, 0⟩
def kr : Scan → Nm.Bytes → Option Scan
 | s, [] => some s
 | s, c :: t => if (j6 s c.toNat).1 then kr (j6 s c.toNat).2 t else none
def kY (t : Nm.Bytes) : Option (List Nm.Bytes) := match kr z8 t with
 | some s => if (yq s).1 then some (yq s).2.labels else none
 | none => none
def qF (t : Nm.Bytes) : Int := if t = [46] then 0 else match kY t with
 | none => 3
 | some ls => if ls.any (fun l => decide (63 < l.length)) then 5 else kp ls
def j5 (t : Nm.Bytes) : Nm.Bytes := if t = [46] then [0] else match kY t with
 | none => []
 | some ls => if ls.any (fun l => decide (63 < l.length)) then [] else yC ls
theorem kZ (a b : Nm.Bytes) : ∀ s, kr s (a ++ b) = (kr s a).bind fun s' => kr s' b := by
 induction a with
 | nil => intro s; rfl
 | cons c t ih =>
   intro s
   simp only [List.cons_append, kr]
   split
   · exact ih _
   · rfl
theorem UM (s : Scan) (r : Nat) (h : 126 < r) : j6 s r = (false, s) := by unfold j6; rw [if_pos (Or.inr h)]
def UN (s : Scan) (k : Nat) : Prop := ((s.esc = 0 ∧ s.val ≤ 999) ∨ (s.esc = 1 ∧ s.val = 0) ∨ (s.esc = 2 ∧ s.val ≤ 9) ∨ (s.esc = 3 ∧ s.val ≤ 99)) ∧ s.label.length ≤ k ∧ s.labels.length ≤ k
theorem aeV {s : Scan} {k r : Nat} (h : UN s k) (ht : (j6 s r).1 = true) : UN (j6 s r).2 (k + 1) := by
 obtain ⟨h1, h2, h3⟩ := h
 unfold j6 at ht ⊢
 split
 · rename_i hh; rw [if_pos hh] at ht; simp at ht
 · rename_i hh
   rw [if_neg hh] at ht
   split
   · rename_i h4
     rw [if_pos h4] at ht
     unfold kX at ht ⊢
     split
     · rename_i h5
       simp only [isDig, Bool.and_eq_true, decide_eq_true_eq] at h5
       split
       · refine ⟨?_, by simp; omega, by simp; omega⟩
         simp only
         omega
       · rename_i h6
         split
         · rename_i h7
           rw [if_pos (by simp [isDig, h5]), if_neg h6, if_pos h7] at ht
           simp at ht
         · exact ⟨Or.inl ⟨rfl, by show s.val * 10 + (r - 48) ≤ 999; omega⟩, by simp; omega, by simp; omega⟩
     · split
       · rename_i h5 h6; rw [if_neg h5, if_pos h6] at ht; simp at ht
       · exact ⟨Or.inl ⟨rfl, by show s.val ≤ 999; omega⟩, by simp; omega, by simp; omega⟩
   · split
     · exact ⟨by simp, by simp; omega, by simp; omega⟩
     · split
       · split
         · exact ⟨h1, by show s.label.length ≤ k + 1; omega, by show s.labels.length ≤ k + 1; omega⟩
         · exact ⟨h1, by simp, by simp; omega⟩
       · exact ⟨h1, by simp; omega, by simp; omega⟩
theorem W4 : ∀ (t : Nm.Bytes) (s s' : Scan) (k : Nat), UN s k → kr s t = some s' → UN s' (k + t.length)
 | [], s, s', k, h, hr => by simp [kr] at hr; subst hr; exact h
 | c :: t, s, s', k, h, hr => by
   simp only [kr] at hr
   split at hr
   · rename_i ht
     have := W4 t _ s' (k + 1) (aeV h ht) hr
     rw [show k + (c :: t).length = k + 1 + t.length by simp; omega]
     exact this
   · cases hr
theorem ZB : UN z8 0 := ⟨Or.inl ⟨rfl, by decide⟩, by decide, by decide⟩
theorem Row.strRow {L B : jc} {v : Value} {ls : List Nm.Bytes} (h : Row 9 1 v ls.length (ls.map ka) B) (hB : ∀ p ∈ B, p ∈ L) : StrRow L v ls := by
 rcases h.is with ⟨h1, h2, _⟩ | ⟨b, cap, cur, h1, h2, h3, h4, h5, h6⟩
 · exact ⟨none, 0, by rw [h1, h2], Or.inl (List.eq_nil_of_length_eq_zero h2)⟩
 · refine ⟨_, cap, h1, Or.inr ⟨b, 0, cur, 9, (0, 0), rfl, hB _ (by rw [h2]; exact List.mem_cons_self ..), fun i l hi => ?_⟩⟩
   have hil := (List.getElem?_eq_some_iff.1 hi).1
   have : (cur.toList.take (ls.length * 1))[i]? = some (ka l) := by rw [h6, List.getElem?_map, hi]; rfl
   rw [List.getElem?_take_of_lt jj] at this
   simpa [ka] using this
theorem J1 {t : Nm.Bytes} (h : kr z8 t = none) : kY t = none := by unfold kY; rw [h]
def qe (t : Nm.Bytes) : Value := .tuple #[.string (bs (j5 t)), .int .i64 (qF t)]
theorem aaZ {G : World} {L : jc} (t : Nm.Bytes) (ht : t.length ≤ 100000) :
 Spec Tryz.prog G 74 #[.string (bs t)] L fun u M => u = qe t ∧ M = L := by
 by_cases hdot : t = [46]
 · subst hdot
   have e1 : (([46] : List UInt8) == [46]) = true := by decide
   refine ju (n := 37) Tryz.func74 rfl rfl rfl ?_
   repeat (first | refine goC ?_ | (refine jx ?_; intro bNew))
   refine jF 2 3 _ _ rfl rfl rfl ?_
   exact ⟨rfl, rfl⟩
 have hP : qF t = (match kY t with | none => 3 | some ls => if ls.any (fun l => decide (63 < l.length)) then 5 else kp ls) ∧ j5 t = (match kY t with | none => [] | some ls => if ls.any (fun l => decide (63 < l.length)) then [] else yC ls) := by
  unfold qF j5; rw [if_neg hdot, if_neg hdot]; exact ⟨rfl, rfl⟩
 have e1 : (t == [46]) = false := by simpa using hdot
 refine ju (n := 37) Tryz.func74 rfl rfl rfl ?_
 repeat (first | refine goC ?_ | (refine jx ?_; intro bNew))
 refine kM (W3 rfl unO) rfl ?_
 intro bi
 repeat (first | refine goC ?_ | (refine jx ?_; intro bNew))
 refine jK (σ := Nat × Scan × jc) (fun x => x.1 ≤ t.length ∧ kr z8 (t.take x.1) = some x.2.1 ∧ ScanRep bNew x.2.1 x.2.2)
  (fun x => [(4, .pointer (some ⟨bNew, 0, none⟩)), (12, .pointer (some ⟨bi, 0, none⟩))]) (fun x => (bi, .stringIter (bs t) x.1) :: (x.2.2 ++ L)) (fun x => t.length - x.1) (0, z8, [(bNew, .cells #[.slice none 0 0, .slice none 0 0, .int .i64 0, .int .i64 0] 189 (0, 0))]) ⟨by omega, rfl, ⟨_, _, [], [], Row.nil _ _, Row.nil _ _, rfl⟩⟩ ?_ (fun _ h => h) ?_
 exact jL
 rintro ⟨k, st, B⟩ ⟨hk, hrun, hrep⟩
 dsimp only at hk hrun hrep
 have hok := W4 _ _ _ 0 ZB hrun
 have hlk : (t.take k).length ≤ k := List.length_take_le _ _
 obtain ⟨ho1, ho2, ho3⟩ := hok
 by_cases hlt : k < t.length
 · obtain ⟨c, hc⟩ : ∃ c, t[k]? = some c := ⟨_, List.getElem?_eq_getElem hlt⟩
   have htk : t.take (k + 1) = t.take k ++ [c] := by rw [List.take_add_one, hc]; rfl
   have hsplit : t = t.take k ++ c :: t.drop (k + 1) := by
    conv => lhs; rw [← List.take_append_drop k t]
    rw [List.drop_eq_getElem_cons hlt]
    congr 2
    rw [List.getElem?_eq_getElem hlt] at hc
    exact Option.some.inj hc
   by_cases hc128 : c.toNat < 128
   · have hdec := aaY hc hc128
     repeat (first | refine goC ?_ | (refine jx ?_; intro bNew))
     refine ji (QF rfl hlt) rfl ?_
     rw [hdec]
     repeat (first | refine goC ?_ | (refine jx ?_; intro bNew))
     refine ku List.perm_middle.symm ?_
     refine jX (jb je rfl (VY bNew st B c.toNat hrep jj jj jj jj jj)) rfl ?_
     rintro _ _ ⟨rfl, B', hB', rfl⟩
     cases htake : (j6 st c.toNat).1 with
     | true =>
       repeat (first | refine goC ?_ | (refine jx ?_; intro bNew))
       refine jz (k + 1, (j6 st c.toNat).2, B') ⟨by omega, ?_, hB'⟩ ?_ (fun _ h => h.perm List.perm_middle) jj
       · rw [htk, kZ, hrun]
         simp [kr, htake]
       exact jL
     | false =>
       have hT : kY t = none := J1 (by rw [hsplit, kZ, hrun]; simp [kr, htake])
       repeat (first | refine goC ?_ | (refine jx ?_; intro bNew))
       refine jr (fun w h => h.sub ((List.sublist_cons_self _ _).trans (List.sublist_append_right _ _))) ?_
       refine jF 2 3 _ _ rfl rfl rfl ?_
       exact ⟨by unfold qe; rw [hP.1, hP.2, hT]; rfl, rfl⟩
   · have hdec := adf hc jj
     have hT : kY t = none := J1 (by rw [hsplit, kZ, hrun]; simp [kr, UM st c.toNat jj])
     repeat (first | refine goC ?_ | (refine jx ?_; intro bNew))
     refine ji (QF rfl hlt) rfl ?_
     repeat (first | refine goC ?_ | (refine jx ?_; intro bNew))
     refine ku List.perm_middle.symm ?_
     refine jX (jb je rfl (VY bNew st B (Utf8.decode (bs t) k).1 hrep jj jj jj jj jj)) rfl ?_
     rintro _ _ ⟨rfl, B', hB', rfl⟩
     rw [UM st _ jj]
     repeat (first | refine goC ?_ | (refine jx ?_; intro bNew))
     refine jr (fun w h => h.sub ((List.sublist_cons_self _ _).trans (List.sublist_append_right _ _))) ?_
     refine jF 2 3 _ _ rfl rfl rfl ?_
     exact ⟨by unfold qe; rw [hP.1, hP.2, hT]; rfl, rfl⟩
 · have hkl : k = t.length := by omega
   subst hkl
   rw [List.take_length] at hrun
   repeat (first | refine goC ?_ | (refine jx ?_; intro bNew))
   refine jl (ZA rfl (Nat.le_refl _) (List.mem_cons_self ..)) rfl ?_
   repeat (first | refine goC ?_ | (refine jx ?_; intro bNew))
   refine ku List.perm_middle.symm ?_
   refine jX (jb je rfl (aeT bNew st B hrep jj jj jj)) rfl ?_
   rintro _ _ ⟨rfl, B', hB', rfl⟩
   cases hend : (yq st).1 with
   | false =>
     have hT : kY t = none := by unfold kY; rw [hrun]; simp [hend]
     repeat (first | refine goC ?_ | (refine jx ?_; intro bNew))
     refine jr (fun w h => h.sub ((List.sublist_cons_self _ _).trans (List.sublist_append_right _ _))) ?_
     refine jF 2 3 _ _ rfl rfl rfl ?_
     exact ⟨by unfold qe; rw [hP.1, hP.2, hT]; rfl, rfl⟩
   | true =>
     have hT : kY t = some (yq st).2.labels := by unfold kY; rw [hrun]; simp [hend]
     obtain ⟨ls, hls⟩ : ∃ ls, ls = (yq st).2.labels := ⟨_, rfl⟩
     have hll : ls.length ≤ 100001 := by
      rw [hls]; unfold yq
      split
      · show st.labels.length ≤ _; omega
      · split
        · show st.labels.length ≤ _; omega
        · simp; omega
     obtain ⟨v1, v2, B1, B2, hR1, hR2, rfl⟩ := hB'.is
     rw [← hls] at hT hR1
     obtain ⟨a1, c1, rfl⟩ := hR1.slice
     repeat (first | refine goC ?_ | (refine jx ?_; intro bNew))
     have hrow := hR1.strRow (L := ((bNew, .cells #[.slice a1 ls.length c1, v2, .int .i64 ((yq st).2.esc : Nat), .int .i64 ((yq st).2.val : Nat)] 189 (0, 0)) :: (B1 ++ B2)) ++ ((bi, .stringIter (bs t) t.length) :: L)) (fun p hp => by grind)
     obtain ⟨a, cap, hveq, hcells⟩ := id hrow
     cases hveq
     refine jK (σ := Nat) (fun k => k ≤ ls.length ∧ (ls.take k).any (fun l => decide (63 < l.length)) = false) (fun k => [(4, .pointer (some ⟨bNew, 0, none⟩)), (22, .slice a1 ls.length c1), (23, .int .i64 (ls.length : Nat)), (24, .int .i64 (k : Nat))]) (fun _ => _) (fun k => ls.length - k) 0 ⟨by omega, rfl⟩ ?_ (fun _ h => h) ?_
     exact jL
     rintro k ⟨hk, hany⟩
     by_cases hlt : k < ls.length
     · obtain rfl | ⟨b, off, C, te, fr, rfl, hm, hc⟩ := hcells
       · simp at hlt
       obtain ⟨l, hlk⟩ : ∃ l, ls[k]? = some l := ⟨_, List.getElem?_eq_getElem hlt⟩
       have hcell := hc k l hlk
       have d1 : decide ((k : Int) < (ls.length : Int)) = true := decide_eq_true jj
       have htk : ls.take (k + 1) = ls.take k ++ [l] := by rw [List.take_add_one, hlk]; rfl
       by_cases h63 : 63 < l.length
       · have d2 : decide ((63 : Int) < ((l.length : Nat) : Int)) = true := decide_eq_true jj
         have hA : ls.any (fun l => decide (63 < l.length)) = true := List.any_eq_true.2 ⟨l, List.mem_of_getElem? hlk, by simpa using h63⟩
         repeat (first | refine goC ?_ | (refine jx ?_; intro bNew))
         refine jr (fun w h => h.sub ((List.sublist_cons_self _ _).trans (List.sublist_append_right _ _))) ?_
         refine jF 2 3 _ _ rfl rfl rfl ?_
         exact ⟨by unfold qe; rw [hP.1, hP.2, hT]; simp only [hA, if_true]; rfl, rfl⟩
       · have d2 : decide ((63 : Int) < ((l.length : Nat) : Int)) = false := decide_eq_false jj
         repeat (first | refine goC ?_ | (refine jx ?_; intro bNew))
         refine jz (k + 1) ⟨by omega, ?_⟩ ?_ (fun _ h => h) jj
         · rw [htk, List.any_append, hany]; simp; omega
         exact jL
     · have hkl : k = ls.length := by omega
       subst hkl
       rw [List.take_length] at hany
       have d1 : decide ((ls.length : Int) < (ls.length : Int)) = false := by simp
       have hle : ∀ l ∈ ls, l.length ≤ 1000000000000 := fun l hl => by
        have := List.any_eq_false.1 hany l hl
        simp at this
        omega
       repeat (first | refine goC ?_ | (refine jx ?_; intro bNew))
       refine jX (jb je rfl (ade _ ls hrow jj hle)) rfl ?_
       rintro _ _ ⟨rfl, rfl⟩
       repeat (first | refine goC ?_ | (refine jx ?_; intro bNew))
       refine jr (fun w h => h.sub ((List.sublist_cons_self _ _).trans (List.sublist_append_right _ _))) ?_
       refine jF 2 3 _ _ rfl rfl rfl ?_
       refine ⟨?_, rfl⟩
       unfold qe
       rw [hP.1, hP.2, hT]
       simp only [hany]
       rfl
end Go.Proofs.YtkpblofmoalnoaaGreatDoor
namespace Go.Proofs.YtkpblofmoalnoaaGreatDoor
open Go.RowKit
section
variable {G : World} {P : Program} {n : Nat} {ρ : jn} {L : jc} {ty : TypeId} {Q : Exit → Act → World → Prop}
theorem adg {t e : TypeId} {j : TypeInfo} {a : Addr} (hp : P.underlying t = some (.pointer e)) (he : P.info? e = some j) : Bin P .neq t (.pointer (some a)) (.pointer (some a)) (.bool false) := ⟨fun x y w => by
 simp only [eqGuard]
 simpa using Lib.run_neq_ptr_same w a hp he⟩
theorem Has.shape {w : World} {b : Nat} {C : Array Value} {e : TypeId} {fr : Nat × Nat} (h : Has w L) (hm : (b, Obj.cells C e fr) ∈ L) : w.shape? b = some (e, C.size) := by
 unfold World.shape?; rw [h.get _ hm]
theorem W5 {s d t : TypeId} {x : Operand} {j : TypeInfo} {b off : Nat} {C : Array Value} {te : TypeId} {fr : Nat × Nat} (hx : ev ρ x = some (.pointer (some ⟨b, off, none⟩))) (hs : P.underlying s = some (.pointer t)) (hd : P.underlying d = some .unsafePointer)
 (ht : P.info? t = some j) (hj : Nat.beq j.size 0 = false) (hm : (b, Obj.cells C te fr) ∈ L) (ho : off < C.size) : OpQ P ρ L (.convert s d x) ty (.pointer (some ⟨b, off, none⟩)) :=
 ⟨fun r hr w hw o ho' _ => by
   simp only [execOp, ho', hr _ _ hx]
   rw [Sem.run_bind, Lib.run_to_unsafe w ⟨b, off, none⟩ hs hd ht (Nat.ne_of_beq_eq_false hj) (hw.shape hm) ho]
   rfl⟩
theorem UO {s d u : TypeId} {x : Operand} {j : TypeInfo} {b off : Nat} {C : Array Value} {te : TypeId} {fr : Nat × Nat} (hx : ev ρ x = some (.pointer (some ⟨b, off, none⟩))) (hs : P.underlying s = some .unsafePointer) (hd : P.underlying d = some (.pointer u))
 (hu : P.info? u = some j) (hm : (b, Obj.cells C te fr) ∈ L) (hl : liesAt P P.depth te (C.size / P.cellsOf te) off u 1 = true) : OpQ P ρ L (.convert s d x) ty (.pointer (some ⟨b, off, none⟩)) :=
 ⟨fun r hr w hw o ho' _ => by
   simp only [execOp, ho', hr _ _ hx]
   rw [Sem.run_bind, Lib.run_from_unsafe w ⟨b, off, none⟩ hs hd hu (hw.shape hm) hl]
   rfl⟩
theorem ZC {f : FuncId} {fn : Func} {x : Operand} {ats : Array TypeId} {v : Value} (hx : ev ρ x = some v) (hf : P.funcs[f]? = some fn) (hname : (fn.name == "runtime.NumGoroutine") = false) (hb : fn.body.isNone = true) (hn : Extern.findNext fn = none) (he : Extern.find fn = some Extern.AbiNoEscape.same) :
 OpQ P ρ L (.call ⟨.value (.func f), #[x], ats⟩) ty v :=
 ⟨fun r hr w hw o ho _ => by
   have hrf : r (.func f) = .func (.func f) #[] #[] := hr _ _ rfl
   have : execOp r o = callFunc f #[v] := by
    simp only [execOp, ho, resolve, hrf, Deferred.ofValue]
    show invoke (.fn (.func f) #[]) _ = _
    simp [invoke, hr _ _ hx]
   rw [this, run_callFunc_extern hf hname hb hn he, Lib.run_noEscape]
   rfl⟩
theorem W6 {x : Operand} {t : TypeId} {g m c : Nat} (hx : ev ρ x = some (.slice (some ⟨g, 0, none⟩) m c)) (hc : c ≠ 0) : OpQ P ρ L (.call ⟨.builtin .unsafeSliceData, #[x], #[t]⟩) ty (.pointer (some ⟨g, 0, none⟩)) :=
 ⟨fun r hr w hw o ho _ => by simp [execOp, ho, hr _ _ hx, resolve, invoke, builtin, Lib.run_unsafeSliceData_row w _ _ _ _ _ hc]⟩
theorem QS {x y : Operand} {pt it e : TypeId} {g cap : Nat} {cur : Array Value} {l : List UInt8} (hx : ev ρ x = some (.pointer (some ⟨g, 0, none⟩))) (hy : ev ρ y = some (.int .i64 (l.length : Nat))) (hp : P.underlying pt = some (.pointer e)) (hc : P.cellsOf e = 1)
 (h0 : l ≠ []) (hn : l.length ≤ cap) (hcap : cap ≤ maxLen) (hsz : cur.size = cap) (hcells : ∀ (j : Nat) (c : UInt8), l[j]? = some c → cur[j]? = some (Value.int .u8 (c.toNat : Int))) :
 OpV P G ρ ((g, .cells cur e (0, 0)) :: L) (.call ⟨.builtin .unsafeString, #[x, y], #[pt, it]⟩) ty (.string (bs l)) L :=
 .run fun r hr w hw o ho _ => by
  have hm := List.mem_cons_self (a := (g, Obj.cells cur e (0, 0))) (l := L)
  have hrun := Lib.run_unsafeString_row (P := P) w pt it o.type e hp hc g cur.size (hw.has.shape hm) l h0 jj (by unfold maxLen at hcap; omega) (fun j c hj => by rw [kT, Nat.zero_add]; exact hw.cell hm (hcells j c hj))
  refine ⟨w.freeze ⟨g, 0, none⟩ l.length, ?_, ?_⟩
  · simp [execOp, ho, hr _ _ hx, hr _ _ hy, resolve, invoke, builtin, hrun]
    rfl
  · refine ⟨hw.still.trans ?_, hw.tail.nodup, fun p hp => ?_⟩
    · unfold World.freeze
      split
      · exact Still.refl _
      · exact ⟨rfl, rfl, rfl, by simp⟩
    · have hne : p.1 ≠ g := hw.ne hp
      unfold World.freeze
      split
      · exact hw.tail.get p hp
      · show (w.heap.modify g _)[p.1]? = _
        rw [Array.getElem?_modify, if_neg (Ne.symm hne)]
        exact hw.tail.get p hp
end
theorem W7 : liesAt Tryz.prog Tryz.prog.depth 78 (2 / Tryz.prog.cellsOf 78) 0 78 1 = true := by kernel_rfl
theorem aa0 : Tryz.prog.cellsOf 5 = 1 := by kernel_rfl
theorem W8 : (Tryz.prog.info? 78).map (fun i => Nat.beq i.size 0) = some false := by kernel_rfl
structure BuildRep (b : Nat) (l : Nm.Bytes) (B : jc) : Prop where
 is : ∃ p v B1, (p = .pointer none ∨ p = .pointer (some ⟨b, 0, none⟩)) ∧ Row 5 1 v l.length (l.map fun c => Value.int .u8 (c.toNat : Int)) B1 ∧ B = (b, .cells #[p, v] 78 (0, 0)) :: B1
theorem UP {G : World} {L : jc} (b : Nat) (p v : Value) (hp : p = .pointer none ∨ p = .pointer (some ⟨b, 0, none⟩)) :
 Spec Tryz.prog G 55 #[.pointer (some ⟨b, 0, none⟩)] ((b, .cells #[p, v] 78 (0, 0)) :: L) fun u M => M = (b, .cells #[.pointer (some ⟨b, 0, none⟩), v] 78 (0, 0)) :: L := by
 obtain ⟨j, hj, hj0⟩ : ∃ j, Tryz.prog.info? 78 = some j ∧ Nat.beq j.size 0 = false := by
  have := W8
  cases h : Tryz.prog.info? 78 with
  | none => rw [h] at this; cases this
  | some j => rw [h] at this; exact ⟨j, rfl, Option.some.inj this⟩
 rcases hp with rfl | rfl
 · refine ju (n := 20) Tryz.func55 rfl rfl rfl ?_
   refine goC ?_
   refine jl (W5 rfl unO Tryz.underlying143 hj hj0 (List.mem_cons_self ..) (by simp)) rfl ?_
   refine jl (ZC rfl Tryz.func86 rfl rfl rfl rfl) rfl ?_
   refine jl (UO rfl Tryz.underlying143 unO hj (List.mem_cons_self ..) W7) rfl ?_
   refine goC ?_
   refine uo rfl ?_
   rfl
 · refine ju (n := 20) Tryz.func55 rfl rfl rfl ?_
   refine goC ?_
   refine jl (kF rfl rfl (adg unO hj)) rfl ?_
   refine goC ?_
   refine uo rfl ?_
   rfl
theorem jS {G : World} {L : jc} (b : Nat) (l : Nm.Bytes) (B : jc) (c : UInt8) (h : BuildRep b l B) (hl : l.length ≤ 10000000) :
 Spec Tryz.prog G 27 #[.pointer (some ⟨b, 0, none⟩), .int .u8 (c.toNat : Int)] (B ++ L) fun u M => u = .nilIface ∧ ∃ B', BuildRep b (l ++ [c]) B' ∧ M = B' ++ L := by
 obtain ⟨p, v, B1, hp, hR, rfl⟩ := h.is
 obtain ⟨a1, c1, rfl⟩ := hR.slice
 refine ju (n := 17) Tryz.func27 rfl rfl rfl ?_
 repeat (first | refine goC ?_ | (refine jD ?_; intro bLit))
 refine jX (jb je rfl (UP b p _ hp)) rfl ?_
 rintro u8 _ rfl
 repeat (first | refine goC ?_ | (refine jD ?_; intro bLit))
 refine ku (List.perm_middle.symm.cons _) ?_
 refine yj etO rfl rfl hR rfl (by unfold maxLen; omega) jj rfl ?_
 intro v8 B8 hR8
 obtain ⟨a8, c8, rfl⟩ := hR8.slice
 refine ku List.perm_middle ?_
 repeat (first | refine goC ?_ | (refine jD ?_; intro bLit))
 refine js 4 _ rfl rfl ?_
 exact ⟨rfl, _, ⟨_, _, B8, Or.inr rfl, by simpa using hR8, rfl⟩, rfl⟩
theorem ZD {G : World} {L : jc} (b : Nat) (l : Nm.Bytes) (B : jc) (h : BuildRep b l B) (h0 : l ≠ []) :
 Spec Tryz.prog G 31 #[.pointer (some ⟨b, 0, none⟩)] (B ++ L) fun u M => u = .string (bs l) ∧ M = L := by
 obtain ⟨p, v, B1, hp, hR, rfl⟩ := h.is
 have hl0 : l.length ≠ 0 := by simpa using h0
 rcases hR.is with ⟨_, h2, _⟩ | ⟨g, cap, cur, rfl, rfl, h3, h4, h5, h6⟩
 · exact absurd h2 hl0
 refine ju (n := 14) Tryz.func31 rfl rfl rfl ?_
 refine goC ?_
 refine jR jo ([(b, .cells #[p, .slice (some ⟨g, 0, none⟩) l.length cap] 78 (0, 0))]) [] ?_
 refine tkQ 0 ?_
 refine tkQ 1 ?_
 refine tkQ 2 ?_
 refine tkQ 3 ?_
 first | (refine' jG 4 rfl rfl je (kz (W6 rfl jj)) ?_ ?_; (· first | assumption | (intro p hp; grind)))
 refine tkQ 5 ?_
 refine tkQ 6 ?_
 refine tkQ 7 ?_
 refine tkQ 8 ?_
 refine tkQ 9 ?_
 refine un (List.Perm.swap _ _ _) (qS 10 je rfl rfl rfl rfl (QS rfl rfl unO aa0 h0 h3 h4 (by rw [h5]; omega) ?_) ?_); (· intro j c hj; have hjl := (List.getElem?_eq_some_iff.1 hj).1; have : (cur.toList.take (l.length * 1))[j]? = some (Value.int .u8 (c.toNat : Int)) := (by rw [h6, List.getElem?_map, hj]; rfl); rw [List.getElem?_take_of_lt jj] at this; simpa using this); rintro _ _ ⟨rfl, rfl⟩; refine ⟨Or.inr (by first | assumption | (intro p hp; grind)), ?_⟩
 refine tkQ 11 ?_
 refine tdQ ?_
 refine goC ?_
 refine jr (fun w h => h.tail) ?_
 refine js 2 _ rfl rfl ?_
 exact ⟨rfl, rfl⟩
def wr (c : UInt8) : Nm.Bytes :=
 if c.toNat = 46 ∨ c.toNat = 92 then [92, c]
 else if c.toNat < 33 ∨ 126 < c.toNat then [92, UInt8.ofNat (48 + c.toNat / 100), UInt8.ofNat (48 + c.toNat / 10 % 10), UInt8.ofNat (48 + c.toNat % 10)]
 else [c]
theorem aa1 {G : World} {L : jc} (b : Nat) (l : Nm.Bytes) (B : jc) (c : UInt8) (h : BuildRep b l B) (hl : l.length ≤ 1000000) :
 Spec Tryz.prog G 85 #[.pointer (some ⟨b, 0, none⟩), .int .u8 (c.toNat : Int)] (B ++ L) fun u M => ∃ B', BuildRep b (l ++ wr c) B' ∧ M = B' ++ L := by
 have hc := c.toNat_lt
 by_cases h46 : c.toNat = 46 ∨ c.toNat = 92
 · have hw : wr c = [92, c] := by unfold wr; rw [if_pos h46]
   by_cases h1 : c.toNat = 46
   · have e1 : (((c.toNat : Nat) : Int) == 46) = true := by simp [h1]
     refine ju (n := 44) Tryz.func85 rfl rfl rfl ?_
     refine goC ?_
     refine jX (jb je rfl (jS b l B 92 h jj)) rfl ?_
     rintro _ _ ⟨rfl, B', hB', rfl⟩
     refine goC ?_
     refine jX (jb je rfl (jS b _ B' c hB' (by simp; omega))) rfl ?_
     rintro _ _ ⟨rfl, B2, hB2, rfl⟩
     refine goC ?_
     refine uo rfl ⟨B2, by rw [hw]; simpa using hB2, rfl⟩
   · have e1 : (((c.toNat : Nat) : Int) == 46) = false := by simp; omega
     have e2 : (((c.toNat : Nat) : Int) == 92) = true := by simp; omega
     refine ju (n := 44) Tryz.func85 rfl rfl rfl ?_
     refine goC ?_
     refine jX (jb je rfl (jS b l B 92 h jj)) rfl ?_
     rintro _ _ ⟨rfl, B', hB', rfl⟩
     refine goC ?_
     refine jX (jb je rfl (jS b _ B' c hB' (by simp; omega))) rfl ?_
     rintro _ _ ⟨rfl, B2, hB2, rfl⟩
     refine goC ?_
     refine uo rfl ⟨B2, by rw [hw]; simpa using hB2, rfl⟩
 · have e1 : (((c.toNat : Nat) : Int) == 46) = false := by simp; omega
   have e2 : (((c.toNat : Nat) : Int) == 92) = false := by simp; omega
   by_cases h33 : c.toNat < 33 ∨ 126 < c.toNat
   · have hw : wr c = [92, UInt8.ofNat (48 + c.toNat / 100), UInt8.ofNat (48 + c.toNat / 10 % 10), UInt8.ofNat (48 + c.toNat % 10)] := by unfold wr; rw [if_neg h46, if_pos h33]
     have b1 : Value.int .u8 ((48 : Int) + (c.toNat : Int) / 100) = .int .u8 ((UInt8.ofNat (48 + c.toNat / 100)).toNat : Int) := congrArg _ (by simp; omega)
     have b2 : Value.int .u8 ((48 : Int) + (c.toNat : Int) / 10 % 10) = .int .u8 ((UInt8.ofNat (48 + c.toNat / 10 % 10)).toNat : Int) := congrArg _ (by simp; omega)
     have b3 : Value.int .u8 ((48 : Int) + (c.toNat : Int) % 10) = .int .u8 ((UInt8.ofNat (48 + c.toNat % 10)).toNat : Int) := congrArg _ (by simp; omega)
     have fin : ∀ (K : Prop), (decide (((c.toNat : Nat) : Int) < 33) = true → K) → (decide (((c.toNat : Nat) : Int) < 33) = false → decide ((126 : Int) < ((c.toNat : Nat) : Int)) = true → K) → K := fun K k1 k2 => by
      by_cases hh : c.toNat < 33
      · exact k1 (decide_eq_true jj)
      · exact k2 (decide_eq_false jj) (decide_eq_true jj)
     refine fin _ (fun e3 => ?_) (fun e3 e4 => ?_)
     · refine ju (n := 44) Tryz.func85 rfl rfl rfl ?_
       refine goC ?_
       refine jX (jb je rfl (jS b l B 92 h jj)) rfl ?_
       rintro _ _ ⟨rfl, B', hB', rfl⟩
       refine goC ?_
       rw [b1]
       refine jX (jb je rfl (jS b _ B' _ hB' (by simp; omega))) rfl ?_
       rintro _ _ ⟨rfl, B2, hB2, rfl⟩
       refine goC ?_
       rw [b2]
       refine jX (jb je rfl (jS b _ B2 _ hB2 (by simp; omega))) rfl ?_
       rintro _ _ ⟨rfl, B3, hB3, rfl⟩
       refine goC ?_
       rw [b3]
       refine jX (jb je rfl (jS b _ B3 _ hB3 (by simp; omega))) rfl ?_
       rintro _ _ ⟨rfl, B4, hB4, rfl⟩
       refine goC ?_
       refine uo rfl ⟨B4, by rw [hw]; simpa using hB4, rfl⟩
     · refine ju (n := 44) Tryz.func85 rfl rfl rfl ?_
       refine goC ?_
       refine jX (jb je rfl (jS b l B 92 h jj)) rfl ?_
       rintro _ _ ⟨rfl, B', hB', rfl⟩
       refine goC ?_
       rw [b1]
       refine jX (jb je rfl (jS b _ B' _ hB' (by simp; omega))) rfl ?_
       rintro _ _ ⟨rfl, B2, hB2, rfl⟩
       refine goC ?_
       rw [b2]
       refine jX (jb je rfl (jS b _ B2 _ hB2 (by simp; omega))) rfl ?_
       rintro _ _ ⟨rfl, B3, hB3, rfl⟩
       refine goC ?_
       rw [b3]
       refine jX (jb je rfl (jS b _ B3 _ hB3 (by simp; omega))) rfl ?_
       rintro _ _ ⟨rfl, B4, hB4, rfl⟩
       refine goC ?_
       refine uo rfl ⟨B4, by rw [hw]; simpa using hB4, rfl⟩
   · have hw : wr c = [c] := by unfold wr; rw [if_neg h46, if_neg h33]
     have e3 : decide (((c.toNat : Nat) : Int) < 33) = false := decide_eq_false jj
     have e4 : decide ((126 : Int) < ((c.toNat : Nat) : Int)) = false := decide_eq_false jj
     refine ju (n := 44) Tryz.func85 rfl rfl rfl ?_
     refine goC ?_
     refine jX (jb je rfl (jS b l B c h jj)) rfl ?_
     rintro _ _ ⟨rfl, B', hB', rfl⟩
     refine goC ?_
     refine uo rfl ⟨B', by rw [hw]; exact hB', rfl⟩
end Go.Proofs.YtkpblofmoalnoaaGreatDoor
namespace Go.Proofs.YtkpblofmoalnoaaGreatDoor
open Go.RowKit
def yQ (l : List UInt8) : Value := .string ⟨l.toArray⟩
theorem KA {a b : Bool} (h : a = b) : Ending.returned (.bool a) = .returned (.bool b) := by rw [h]
theorem W9 {a b : ByteArray} (h : a = b) : Ending.returned (.string a) = .returned (.string b) := by rw [h]
theorem Ya (s : ByteArray) (k : Nat) (h : k < s.size) : s.data.toList.drop k = s[k] :: s.data.toList.drop (k + 1) := by
 rw [List.drop_eq_getElem_cons (by simpa using h)]; rfl
theorem adh {l : Nm.Bytes} (h : ¬ 255 < l.length) : Nm.may l = (Nm.lbl l).isSome := by
 unfold Nm.may Nm.nm; rw [if_pos jj]
theorem aeW {l : Nm.Bytes} (h : 255 < l.length) : Nm.may l = false := by
 unfold Nm.may Nm.nm; rw [if_neg jj]; rfl
theorem ah3 (b o j : Nat) : (⟨b, o, none⟩ : Addr).add j = ⟨b, o + j, none⟩ := by
 unfold Addr.add; split
 · rename_i h; subst h; rfl
 · rfl
theorem ZE (w : World) (C : Array Value) (t : TypeId) (fr : Nat × Nat) (k : Nat) (v : Value) :
 (w.alloc (.cells C t fr)).setCell ⟨w.heap.size, k, none⟩ v = w.alloc (.cells (C.setIfInBounds k v) t fr) := by
 show ({ w with heap := (w.heap.push (.cells C t fr)).modify w.heap.size _ } : World) = { w with heap := w.heap.push _ }
 congr 1
 apply Array.ext_getElem?
 intro i
 rw [Array.getElem?_modify]
 by_cases h : w.heap.size = i
 · subst h; simp
 · simp [h, Array.getElem?_push, Ne.symm h]
theorem UQ {P : Program} (W : World) (src dst e : TypeId) (b n cap : Nat) (l : List UInt8) (hn : n = l.length) (hs : P.underlying src = some (.slice e)) (he : P.underlying e = some (.int .u8)) (hd : P.underlying dst = some .string)
 (hc : ∀ j (hj : j < l.length), W.cell? ⟨b, j, none⟩ = some (.int .u8 (l[j].toNat : Int))) :
 (convert src dst (.slice (some ⟨b, 0, none⟩) n cap)).run P W = .ok (.string ⟨l.toArray⟩) W := by
 subst hn
 exact run_convert_bytes_back W src dst e ⟨b, 0, none⟩ cap l hs he hd (fun j hj => by rw [ah3, Nat.zero_add]; exact hc j hj)
theorem ZF (s : ByteArray) (cap : Nat) : s.size ≤ (bytesRow s cap).size := by
 unfold bytesRow; simp
end Go.Proofs.YtkpblofmoalnoaaGreatDoor
namespace Go.Proofs.YtkpblofmoalnoaaGreatDoor
open Go.RowKit
theorem Yd (s : ByteArray) (w : World) (hs : s.size ≤ maxLen) :
 Calls Tryz.prog 83 #[.string s] w fun e w' => e = .returned (.bool (Nm.may s.data.toList)) ∧ w = w' := by
 unfold maxLen at hs
 by_cases h0 : s.size = 0
 · have : s = ByteArray.empty := by simpa using h0
   subst this
   go_enter Tryz.func83, Tryz.ntmps83
   go_wp2
   go_ret
   exact ⟨rfl, rfl⟩
 · have h0' : ((s.size : Int) == 0) = false := beq_eq_false_iff_ne.2 jj
   by_cases hlong : 255 < s.size
   · have hm : Hid (Nm.may s.data.toList = false) := aeW (by simpa using hlong)
     go_enter Tryz.func83, Tryz.ntmps83
     go_wp2
     go_ret
     exact ⟨KA hm.out.symm, rfl⟩
   · have hl' : decide (255 < s.size) = false := by simpa using hlong
     have hm : Hid (Nm.may s.data.toList = (Nm.lbl s.data.toList).isSome) := adh (by simpa using hlong)
     go_enter Tryz.func83, Tryz.ntmps83
     go_wp2
     go_loop [3, 4] (fun i _ => ∃ k : Nat, k ≤ 319 ∧ i = .int .i64 k ∧ (Nm.lbl (s.data.toList.drop k)).isSome = Nm.may s.data.toList) (fun i _ => s.size - (intOf i).toNat)
     case atStart => exact ⟨0, by omega, rfl, by rw [hm.out]; rfl⟩
     case round =>
      obtain ⟨k, hk, rfl, hr⟩ := hrel
      have HR := Lib.hid hr
      clear hr
      by_cases hlt : k < s.size
      · have hd := Lib.hid (Ya s k hlt)
        obtain ⟨c, hc⟩ : ∃ c, s[k] = c := ⟨_, rfl⟩
        have hd2 : Hid (s.data.toList.drop k = c :: s.data.toList.drop (k + 1)) := by have := hd.out; rwa [hc] at this
        clear hd
        have hlen : (s.data.toList.drop (k + 1)).length = s.size - (k + 1) := by simp
        have HL := Lib.hid hlen
        clear hlen
        have hb := c.toNat_lt
        by_cases hz : c = 0
        · subst hz
          go_wp2
          go_ret
          refine ⟨KA ?_, rfl⟩
          rw [← HR.out, hd2.out, Nm.lbl_cons, if_pos rfl]
          by_cases hq : k + 1 = s.size
          · rw [if_pos (List.eq_nil_of_length_eq_zero (by rw [HL.out]; omega))]
            exact beq_iff_eq.2 jj
          · rw [if_neg (fun hn => by rw [hn] at HL; have := HL.out; simp at this; omega)]
            exact beq_eq_false_iff_ne.2 jj
        · have hz1 : 1 ≤ c.toNat := by
           rcases Nat.eq_zero_or_pos c.toNat with h | h
           · exact absurd (UInt8.toNat_inj.1 (by simpa using h)) hz
           · exact h
          have hz2 : ((c.toNat : Int) == 0) = false := beq_eq_false_iff_ne.2 jj
          have HZ := Lib.hid hz
          clear hz
          by_cases h63 : 63 < c.toNat
          · go_wp2
            go_ret
            refine ⟨KA ?_, rfl⟩
            rw [← HR.out, hd2.out, Nm.lbl_cons, if_neg HZ.out, if_pos h63]
            rfl
          · go_wp2
            go_round
            case rel =>
             refine ⟨k + (1 + c.toNat), by omega, by go_num, ?_⟩
             rw [← HR.out, hd2.out, Nm.lbl_cons, if_neg HZ.out, if_neg h63]
             by_cases hq : s.size - (k + 1) < c.toNat
             · rw [if_pos (by rw [HL.out]; exact hq), List.drop_of_length_le (by simp; omega)]
               rfl
             · rw [if_neg (by rw [HL.out]; exact hq), List.drop_drop, Option.isSome_map]
               congr 3
               omega
            case measure => simp [intOf]; omega
      · go_wp2
        go_ret
        refine ⟨KA ?_, rfl⟩
        rw [← HR.out, List.drop_of_length_le (by simp; omega)]
        rfl
end Go.Proofs.YtkpblofmoalnoaaGreatDoor
namespace Go.Proofs.YtkpblofmoalnoaaGreatDoor
open Go.RowKit
theorem ZG (c : UInt8) (h1 : 65 ≤ c.toNat) (h2 : c.toNat ≤ 90) : ((Nm.lowB c).toNat : Int) = (c.toNat : Int) + 32 := by
 unfold Nm.lowB
 rw [if_pos ⟨UInt8.le_iff_toNat_le.2 (by simpa using h1), UInt8.le_iff_toNat_le.2 (by simpa using h2)⟩]
 rw [UInt8.toNat_add]
 have : (32 : UInt8).toNat = 32 := rfl
 rw [this]
 omega
theorem ab8 (c : UInt8) (h : ¬ (65 ≤ c.toNat ∧ c.toNat ≤ 90)) : Nm.lowB c = c := by
 unfold Nm.lowB
 rw [if_neg]
 rintro ⟨h1, h2⟩
 exact h ⟨by simpa using UInt8.le_iff_toNat_le.1 h1, by simpa using UInt8.le_iff_toNat_le.1 h2⟩
def LowTo (l : List UInt8) (k : Nat) (C : Array Value) : Prop :=
 ∀ j (hj : j < l.length), C[j]? = some (.int .u8 ((if j < k then Nm.lowB l[j] else l[j]).toNat : Int))
theorem LowTo.start (s : ByteArray) (cap : Nat) : LowTo s.data.toList 0 (bytesRow s cap) := by
 intro j hj
 rw [bytesRow_at s cap j (by simpa using hj)]
 simp
theorem LowTo.same {l : List UInt8} {k : Nat} {C : Array Value} (h : LowTo l k C) (hk : k < l.length) (he : Nm.lowB l[k] = l[k]) : LowTo l (k + 1) C := by
 intro j hj
 rw [h j hj]
 by_cases h1 : j < k
 · rw [if_pos h1, if_pos jj]
 · by_cases h2 : j = k
   · subst h2; rw [if_neg h1, if_pos jj, he]
   · rw [if_neg h1, if_neg jj]
theorem LowTo.put {l : List UInt8} {k : Nat} {C : Array Value} (h : LowTo l k C) (hk : k < l.length) (hC : l.length ≤ C.size) : LowTo l (k + 1) (C.setIfInBounds k (.int .u8 ((Nm.lowB l[k]).toNat : Int))) := by
 intro j hj
 by_cases h2 : k = j
 · subst h2; rw [Array.getElem?_setIfInBounds_self_of_lt jj, if_pos jj]
 · rw [Array.getElem?_setIfInBounds_ne h2, h j hj]
   by_cases h1 : j < k
   · rw [if_pos h1, if_pos jj]
   · rw [if_neg h1, if_neg jj]
theorem LowTo.fin {l : List UInt8} {C : Array Value} (h : LowTo l l.length C) (j : Nat) (hj : j < (Nm.low l).length) : C[j]? = some (.int .u8 ((Nm.low l)[j].toNat : Int)) := by
 have hj' : j < l.length := by simpa [Nm.low] using hj
 rw [h j hj', if_pos hj']
 simp [Nm.low]
theorem adi (s : ByteArray) (w : World) (hs : s.size ≤ maxLen) :
 Calls Tryz.prog 156 #[.string s] w fun e w' => e = .returned (.string ⟨(Nm.low s.data.toList).toArray⟩) ∧ Below w.heap.size w w' := by
 unfold maxLen at hs
 have kc := fun (w : World) (s : ByteArray) => run_bytes_of_string (P := Tryz.prog) w 9 76 5 s unO unO unO
 go_enter Tryz.func156, Tryz.ntmps156
 go_wp2
 generalize hcap : grownCap w s.size 0 5 = cap
 clear hcap kc
 have hM := ZF s cap
 have hC0 := LowTo.start s cap
 obtain ⟨C0, hC0e⟩ : ∃ C, C = bytesRow s cap := ⟨_, rfl⟩
 rw [← hC0e] at hM hC0 ⊢
 clear hC0e
 go_loopw [4, 5, 10] (fun _ _ i wr => ∃ (k : Nat) (C : Array Value), k ≤ s.size ∧ i = .int .i64 k ∧ C.size = C0.size ∧ LowTo s.data.toList k C ∧ wr = (w.alloc (.cells C 5 (C0.size, C0.size + 1))).drew) (fun _ _ i _ => s.size - (intOf i).toNat)
 case atStart => exact ⟨0, C0, by omega, rfl, rfl, hC0, rfl⟩
 case round =>
  obtain ⟨k, C, hk, rfl, hCs, hC, rfl⟩ := hrel
  have HC := Lib.hid hC
  have HCs := Lib.hid hCs
  clear hC hCs hC0
  by_cases hlt : k < s.size
  · have hcell : (w.alloc (.cells C 5 (C0.size, C0.size + 1))).cell? ⟨w.heap.size, k, none⟩ = some (.int .u8 (s[k].toNat : Int)) := by
     rw [World.cell?_alloc_mark]
     have := HC.out k (by simpa using hlt)
     rw [this, if_neg jj]
     rfl
    have hfr : (w.alloc (.cells C 5 (C0.size, C0.size + 1))).frozen? ⟨w.heap.size, k, none⟩ = false := by
     rw [World.frozen?_alloc_mark]
     simp
     omega
    have hnx := Lib.hid (HC.out.put (k := k) (by simpa using hlt) (by rw [HCs.out]; simpa using hM))
    have hnx2 := Lib.hid (HC.out.same (k := k) (by simpa using hlt))
    obtain ⟨c, hc⟩ : ∃ c, s[k] = c := ⟨_, rfl⟩
    have hc2 : Hid (s.data.toList[k]'(by simpa using hlt) = c) := hc
    have hb := c.toNat_lt
    by_cases h65 : 65 ≤ c.toNat ∧ c.toNat ≤ 90
    · obtain ⟨ha, hz⟩ := h65
      go_wp2
      have hc3 := Lib.hid (ZG c ha hz)
      go_wp2
      refine ⟨⟨k + 1, _, by omega, by go_num, ?_, hnx.out, ?_⟩, by simp [intOf]; omega⟩
      · simpa using HCs.out
      · rw [hc2.out, hc3.out, ZE]
    · have hsm := Lib.hid (hnx2.out (by rw [hc2.out]; exact ab8 c h65))
      go_wp2
      all_goals exact ⟨⟨k + 1, C, by omega, by go_num, HCs.out, hsm.out, rfl⟩, by simp [intOf]; omega⟩
  · obtain rfl : k = s.size := by omega
    have hfin := HC.out
    have hbk := fun W hc => UQ (P := Tryz.prog) W 76 9 5 w.heap.size s.size cap (Nm.low s.data.toList) (by simp [Nm.low]) unO unO unO hc
    have hbk2 := hbk (w.alloc (.cells C 5 (C0.size, C0.size + 1))).drew (fun j hj => by
     show (w.alloc (.cells C 5 (C0.size, C0.size + 1))).cell? _ = _
     rw [World.cell?_alloc_mark]
     exact LowTo.fin (by simpa using hfin) j hj)
    clear hbk hfin
    go_wp2
    go_ret
    exact ⟨rfl, ((Below.refl _ _).alloc (Nat.le_refl _) _).drew⟩
end Go.Proofs.YtkpblofmoalnoaaGreatDoor
namespace Go.Proofs.YtkpblofmoalnoaaGreatDoor
open Go.RowKit
theorem zw : (Tryz.prog.info? 9).map (fun i => (i.zero, i.size, i.bytes)) = some (some (.string ByteArray.empty), 1, 16) := by kernel_rfl
theorem aeX {l : Nm.Bytes} {ls : List Nm.Bytes} (h : Nm.Ok (l :: ls)) : (UInt8.ofNat l.length).toNat = l.length := by
 have := (Nm.ok_cons.1 h).1
 simp
 omega
theorem aa2 (s : ByteArray) (ls : List Nm.Bytes) (w : World) (hs : s.data.toList = Nm.enc ls) (hok : Nm.Ok ls) (hl : s.size ≤ 255) :
 Calls Tryz.prog 84 #[.string s] w fun e w' => ∃ v, e = .returned v ∧ w'.ownsRow w.heap.size 9 1 v ls.length (ls.map yQ) ∧ Below w.heap.size w w' := by
 have HS := Lib.hid hs
 have HOK := Lib.hid hok
 clear hs hok
 obtain ⟨i0, hi, hz0, hz1, hz2⟩ := info_parts zw
 go_enter Tryz.func84, Tryz.ntmps84
 go_wp2
 go_loopw [3, 4, 5] (fun v i _ wr => ∃ (k : Nat) (a b : List Nm.Bytes), ls = a ++ b ∧ i = .int .i64 k ∧ s.data.toList.drop k = Nm.enc b ∧ wr.ownsRow w.heap.size 9 1 v a.length (a.map yQ) ∧ Below w.heap.size w wr) (fun _ i _ _ => s.size - (intOf i).toNat)
 case atStart => exact ⟨0, [], ls, rfl, rfl, HS.out, World.ownsRow_nil _ _ _ _, Below.refl _ _⟩
 case round =>
  obtain ⟨k, a, b, hab, rfl, hd, hown, hbel⟩ := hrel
  have HAB := Lib.hid hab
  have HD := Lib.hid hd
  clear hab hd
  have hlt : k < s.size := by
   have := congrArg List.length HD.out
   rw [Nm.enc_length] at this
   simp at this
   omega
  obtain ⟨c, hc⟩ : ∃ c, s[k] = c := ⟨_, rfl⟩
  have hd2 : Hid (s.data.toList.drop k = c :: s.data.toList.drop (k + 1)) := by have := Ya s k hlt; rwa [hc] at this
  have hb := c.toNat_lt
  cases b with
  | nil =>
    have hc0 : c = 0 := by have := HD.out; rw [hd2.out] at this; simp [Nm.enc] at this; exact this.1
    subst hc0
    go_wp2
    go_ret
    have := HAB.out
    rw [List.append_nil] at this
    subst this
    exact ⟨_, rfl, hown, hbel⟩
  | cons l b =>
    have hokb : Nm.Ok (l :: b) := by
     have := HOK.out
     rw [HAB.out] at this
     exact fun x hx => this x (List.mem_append_right _ hx)
    have HOKB := Lib.hid hokb
    clear hokb
    have hh : c = UInt8.ofNat l.length ∧ s.data.toList.drop (k + 1) = l ++ Nm.enc b := by
     have := HD.out
     rw [hd2.out] at this
     simpa [Nm.enc] using this
    have hcn : c.toNat = l.length := by rw [hh.1]; exact aeX HOKB.out
    have hl1 := (Nm.ok_cons.1 HOKB.out).1
    have HH := Lib.hid hh.2
    clear hh
    have hle : k + 1 + c.toNat ≤ s.size := by
     have := congrArg List.length HH.out
     simp at this
     omega
    have hle2 : a.length ≤ 300 := by
     have h1 := Nm.length_lt_enc ls
     rw [← HS.out, HAB.out] at h1
     simp at h1
     omega
    have hex : Hid (Value.string (s.extract (k + 1) (k + 1 + c.toNat)) = yQ l) := by
     unfold yQ
     congr 1
     apply ByteArray.ext
     apply Array.toList_inj.1
     rw [Lib.extract_data, HH.out]
     simp [hcn]
    have hc0 : ((c.toNat : Int) != 0) = true := by rw [bne_iff_ne]; omega
    have HCN := Lib.hid hcn
    clear hcn
    go_wp2_with (at_builtin; refine wpList_append_own _ rfl _ _ 50 rfl w.heap.size 9 i0 (.string ByteArray.empty) 1 16 unO hi hz0 hz1 hz2 rfl (by decide) _ _ _ rfl (hown.alloc _) ⟨wr.heap.size, 0, none⟩ 1 1 [.string (s.extract (k + 1) (k + 1 + c.toNat))] rfl rfl (cell_one_new _ _ _) ?c2 ?c3 ?c4 ?c5 ?_)
    case c2 => simp [Value.oneCell']
    case c3 => unfold maxLen; omega
    case c4 => omega
    case c5 => have := hbel.size; simp; omega
    intro v' w1 hown' hgrow _
    have hbel1 := hbel.trans (((Below.refl w.heap.size wr).alloc hbel.size _).grown hgrow (by have := hbel.size; simp; omega) (fun q hq => (hown.lt q hq).1))
    have hfin0 : w1.ownsRow w.heap.size 9 1 v' (a ++ [l]).length ((a ++ [l]).map yQ) := by
     have := hown'
     rw [hex.out] at this
     simpa using this
    have hfin := Lib.hid hfin0
    clear hown' hgrow hown hbel hfin0
    go_wp2
    go_roundw
    case rel =>
     refine ⟨k + 1 + c.toNat, a ++ [l], b, ?_, by go_num, ?_, hfin.out, hbel1⟩
     · rw [HAB.out]; simp
     · rw [← List.drop_drop, HH.out, HCN.out]; simp
    case measure => simp [intOf]; omega
end Go.Proofs.YtkpblofmoalnoaaGreatDoor
namespace Go.Proofs.YtkpblofmoalnoaaGreatDoor
open Go.RowKit
theorem aeY (s : ByteArray) (w : World) (hs : s.size ≤ maxLen) :
 Calls Tryz.prog 116 #[.string s] w fun e w' => e = .returned (yQ (Nm.fold s.data.toList)) ∧ Below w.heap.size w w' := by
 cases hm : Nm.may s.data.toList with
 | false =>
   have hv : Nm.fold s.data.toList = [] := by simp [Nm.fold, hm]
   have HV := Lib.hid hv
   have HM := Lib.hid hm
   clear hv hm
   go_enter Tryz.func116, Tryz.ntmps116
   go_wp2_with fail
   refine (Yd _ _ hs).mono ?_
   rintro e w' ⟨rfl, rfl⟩
   rw [HM.out]
   go_wp2_with fail
   go_ret
   rw [HV.out]
   exact ⟨rfl, Below.refl _ _⟩
 | true =>
   have hv : Nm.fold s.data.toList = Nm.low s.data.toList := by simp [Nm.fold, hm]
   have HV := Lib.hid hv
   have HM := Lib.hid hm
   clear hv hm
   go_enter Tryz.func116, Tryz.ntmps116
   go_wp2_with fail
   refine (Yd _ _ hs).mono ?_
   rintro e w' ⟨rfl, rfl⟩
   rw [HM.out]
   go_wp2_with fail
   refine (adi _ _ hs).mono ?_
   rintro e w' ⟨rfl, hb⟩
   go_wp2_with fail
   go_ret
   rw [HV.out]
   exact ⟨rfl, hb⟩
end Go.Proofs.YtkpblofmoalnoaaGreatDoor
namespace Go.Proofs.YtkpblofmoalnoaaGreatDoor
open Go.RowKit
def SRow (w : World) (v : Value) (ns : List Nm.Bytes) : Prop :=
 ∃ a cap, v = .slice a ns.length cap ∧ (ns = [] ∨ ∃ b off, a = some ⟨b, off, none⟩ ∧ b < w.heap.size ∧ ∀ i n, ns[i]? = some n → w.cell? ⟨b, off + i, none⟩ = some (yQ n))
theorem SRow.below {w w' : World} {v : Value} {ns : List Nm.Bytes} (h : SRow w v ns) {B : Nat} (hb : Below B w w') (hB : w.heap.size ≤ B) : SRow w' v ns := by
 obtain ⟨a, cap, hv, h⟩ := h
 refine ⟨a, cap, hv, h.imp id ?_⟩
 rintro ⟨b, off, ha, hlt, hc⟩
 refine ⟨b, off, ha, Nat.lt_of_lt_of_le hlt hb.size, fun i n hi => ?_⟩
 rw [hb.cell (Nat.lt_of_lt_of_le hlt hB)]
 exact hc i n hi
theorem SRow.own {w : World} {base : Nat} {v : Value} {ns : List Nm.Bytes} {e : TypeId} (h : w.ownsRow base e 1 v ns.length (ns.map yQ)) : SRow w v ns := by
 obtain ⟨_, ⟨rfl, h0⟩ | ⟨g, cap, cur, rfl, _, hg, _, _, _, htk⟩⟩ := h
 · have : ns = [] := List.eq_nil_of_length_eq_zero h0
   subst this
   exact ⟨none, 0, rfl, Or.inl rfl⟩
 · refine ⟨_, cap, rfl, Or.inr ⟨g, 0, rfl, (Array.getElem?_eq_some_iff.1 hg).1, fun i n hi => ?_⟩⟩
   have hil : i < ns.length := (List.getElem?_eq_some_iff.1 hi).1
   unfold World.cell?
   rw [hg]
   have : (cur.toList.take (ns.length * 1))[i]? = some (yQ n) := by rw [htk, List.getElem?_map, hi]; rfl
   rw [List.getElem?_take_of_lt jj] at this
   simpa using this
end Go.Proofs.YtkpblofmoalnoaaGreatDoor
namespace Go.Proofs.YtkpblofmoalnoaaGreatDoor
open Go.RowKit
def ajR : List Nm.Bytes → List Nm.Bytes → Int
 | [], [] => 0
 | [], _ :: _ => -1
 | _ :: _, [] => 1
 | x :: xs, y :: ys => if Lib.compareBytes x y = 0 then ajR xs ys else Lib.compareBytes x y
def ak6 (a b : List Nm.Bytes) : Int := ajR (Nm.lowL a).reverse (Nm.lowL b).reverse
def ame (n m : Nm.Bytes) : Int := match Nm.nm n, Nm.nm m with | some a, some b => ak6 a b | _, _ => 0
end Go.Proofs.YtkpblofmoalnoaaGreatDoor
namespace Go.Proofs.YtkpblofmoalnoaaGreatDoor
open Go.RowKit
def RowOf (w : World) (v : Value) (m size : Nat) (news : List Value) : Prop :=
 news.length = m * size ∧ (∀ u ∈ news, u.oneCell' = true) ∧ ((∃ c, v = .slice none 0 c ∧ m = 0) ∨ ∃ ad c, v = .slice (some ad) m c ∧ ∀ j u, news[j]? = some u → w.cell? (ad.add j) = some u)
variable {P : Program}
theorem Ye (w : World) (base : Nat) (t ty e : TypeId) (i : TypeInfo) (size c : Nat) (ht : P.underlying t = some (.slice e)) (hi : P.info? e = some i)
 (v : Value) (n : Nat) (xs : List Value) (hown : w.ownsRow base e size v n xs) :
 (Builtin.append_ #[t, t] ty #[v, .slice none 0 c]).run P w = .ok v w := by
 rcases hown.2 with ⟨rfl, rfl⟩ | ⟨g, cap, cur, rfl, _, _, hnc, _⟩
 · simp [Builtin.append_, run_underlying ht, sizeOf, typeInfo, hi, Builtin.lenOf, Builtin.firstCells]
 · simp [Builtin.append_, run_underlying ht, sizeOf, typeInfo, hi, Builtin.lenOf, Builtin.firstCells, hnc, storeCells]
theorem agX (w : World) (base : Nat) (t ty e : TypeId) (i : TypeInfo) (z : Value) (size bytes : Nat) (ht : P.underlying t = some (.slice e)) (hi : P.info? e = some i) (hz : i.zero = some z)
 (hsize : i.size = size) (hby : i.bytes = bytes) (hzs : z.cells.size = size) (hsz : 0 < size)
 (v : Value) (n : Nat) (xs : List Value) (hown : w.ownsRow base e size v n xs) (x : Value) (m : Nat) (news : List Value) (hx : RowOf w x m size news)
 (h63 : n + m ≤ maxLen) (hbytes : (n + m) * bytes ≤ 140737488355328) (hbase : base ≤ w.heap.size) :
 ∃ v' w', (Builtin.append_ #[t, t] ty #[v, x]).run P w = .ok v' w' ∧ w'.ownsRow base e size v' (n + m) (xs ++ news) ∧ w.grownBy w' v.ownBlock := by
 obtain ⟨h1, h2, ⟨c, rfl, rfl⟩ | ⟨ad, c, rfl, h3⟩⟩ := hx
 · have : news = [] := List.eq_nil_of_length_eq_zero jj
   subst this
   exact ⟨v, w, Ye w base t ty e i size c ht hi v n xs hown, by simpa using hown, ⟨rfl, rfl, rfl, Nat.le_refl _, fun _ _ _ => rfl⟩⟩
 · obtain ⟨v', w', r1, r2, r3, _⟩ := run_append_own w base t ty e i z size bytes ht hi hz hsize hby hzs hsz v n xs hown ad m c news h1 h3 h2 h63 hbytes hbase
   exact ⟨v', w', r1, r2, r3⟩
theorem ah4 {o : Oper} {a : Act} {w : World} {K : Act → World → Prop} {Q : Exit → Act → World → Prop} (s x : Operand) (t : TypeId)
 (ho : o.op = .call { callee := .builtin .append, args := #[s, x], argTypes := #[t, t] })
 (base : Nat) (e : TypeId) (i : TypeInfo) (z : Value) (size bytes : Nat) (ht : P.underlying t = some (.slice e)) (hi : P.info? e = some i) (hz : i.zero = some z)
 (hsize : i.size = size) (hby : i.bytes = bytes) (hzs : z.cells.size = size) (hsz : 0 < size)
 (v : Value) (n : Nat) (xs : List Value) (hs : a.eval s = v) (hown : w.ownsRow base e size v n xs) (xv : Value) (m : Nat) (news : List Value) (hx : a.eval x = xv) (hr : RowOf w xv m size news)
 (h63 : n + m ≤ maxLen) (hbytes : (n + m) * bytes ≤ 140737488355328) (hbase : base ≤ w.heap.size)
 (h : ∀ v' w', w'.ownsRow base e size v' (n + m) (xs ++ news) → w.grownBy w' v.ownBlock → K (a.put o.dst v') w') : o.wp P a w K Q := by
 obtain ⟨v', w', hrun, r1, r2⟩ := agX (P := P) w base t o.type e i z size bytes ht hi hz hsize hby hzs hsz v n xs hown xv m news hr h63 hbytes hbase
 unfold Oper.wp
 simp [execOp, ho, resolve, invoke, builtin, hs, hx, hrun, Result.andThen]
 exact h v' w' r1 r2
theorem wpList_app {ops : Array Oper} {rest : List Oper} {o : Oper} {a : Act} {w : World} {Q : Exit → Act → World → Prop} (hgd : o.guard = none) (s x : Operand) (t : TypeId)
 (ho : o.op = .call { callee := .builtin .append, args := #[s, x], argTypes := #[t, t] })
 (base : Nat) (e : TypeId) (i : TypeInfo) (z : Value) (size bytes : Nat) (ht : P.underlying t = some (.slice e)) (hi : P.info? e = some i) (hz : i.zero = some z)
 (hsize : i.size = size) (hby : i.bytes = bytes) (hzs : z.cells.size = size) (hsz : 0 < size)
 (v : Value) (n : Nat) (xs : List Value) (hs : a.eval s = v) (hown : w.ownsRow base e size v n xs) (xv : Value) (m : Nat) (news : List Value) (hx : a.eval x = xv) (hr : RowOf w xv m size news)
 (h63 : n + m ≤ maxLen) (hbytes : (n + m) * bytes ≤ 140737488355328) (hbase : base ≤ w.heap.size)
 (h : ∀ v' w', w'.ownsRow base e size v' (n + m) (xs ++ news) → w.grownBy w' v.ownBlock → wpList P ops Q rest (a.put o.dst v') w') : wpList P ops Q (o :: rest) a w :=
 wpList_plain hgd fun _ hK => ah4 s x t ho base e i z size bytes ht hi hz hsize hby hzs hsz v n xs hs hown xv m news hx hr h63 hbytes hbase fun v' w' h1 h2 => hK _ _ (h v' w' h1 h2)
theorem RowOf.below {w w' : World} {v : Value} {m size : Nat} {news : List Value} (h : RowOf w v m size news) (hb : ∀ a, w'.cell? a = w.cell? a ∨ w.cell? a = none) : RowOf w' v m size news := by
 obtain ⟨h1, h2, h3 | ⟨ad, c, h3, h4⟩⟩ := h
 · exact ⟨h1, h2, Or.inl h3⟩
 · refine ⟨h1, h2, Or.inr ⟨ad, c, h3, fun j u hj => ?_⟩⟩
   have := h4 j u hj
   rcases hb (ad.add j) with h | h
   · rw [h]; exact this
   · rw [h] at this; cases this
end Go.Proofs.YtkpblofmoalnoaaGreatDoor
namespace Go.Proofs.YtkpblofmoalnoaaGreatDoor
open Go.RowKit
theorem aeZ (s : Nm.Bytes) : (⟨s.toArray⟩ : ByteArray).size = s.length := by show s.toArray.size = s.length; simp
theorem ah5 (a b : Nm.Bytes) : (({ data := a.toArray } : ByteArray) ++ { data := b.toArray }) = ⟨(a ++ b).toArray⟩ := by
 apply ByteArray.ext
 apply Array.toList_inj.1
 simp [ByteArray.data_append]
theorem QG (W : World) (c : UInt8) (n : Int) (hn : n = (c.toNat : Int)) : (convert 76 9 (.slice (some ⟨W.heap.size, 0, none⟩) 1 1)).run Tryz.prog (W.alloc (.cells #[.int .u8 n] 5)) = .ok (.string ⟨[c].toArray⟩) (W.alloc (.cells #[.int .u8 n] 5)) := by
 subst hn
 exact UQ _ 76 9 5 W.heap.size 1 1 [c] rfl unO unO unO (fun j hj => by
  rw [World.cell?_alloc_mark]
  match j, hj with
  | 0, _ => rfl)
theorem K8 {c : UInt8} {t : Nm.Bytes} (hz : ¬ c = 0) (h : 63 < c.toNat ∨ t.length < c.toNat) : Nm.lbl (c :: t) = none := by
 rw [Nm.lbl_cons, if_neg hz]
 by_cases h63 : 63 < c.toNat
 · rw [if_pos h63]
 · rw [if_neg h63, if_pos jj]
def aa3 (n : Nm.Bytes) (w : World) (e : Ending) (w' : World) : Prop :=
 ∃ v, e = .returned (.tuple #[v, .bool (Nm.may n)]) ∧ w'.ownsRow w.heap.size 9 1 v (Nm.labels n).length ((Nm.labels n).map yQ) ∧ Below w.heap.size w w'
theorem yr (s : ByteArray) (w : World) (hs : s.size ≤ 1000000) :
 Calls Tryz.prog 107 #[.string s] w (aa3 s.data.toList w) := by
 obtain ⟨i0, hi, hz0, hz1, hz2⟩ := info_parts zw
 go_enter Tryz.func107, Tryz.ntmps107
 go_wp2_with fail
 go_loopw [4, 5, 6] (fun v i _ wr => ∃ (k : Nat) (a : List Nm.Bytes), k ≤ s.size ∧ a.length ≤ k ∧ i = .int .i64 k ∧ Nm.lbl s.data.toList = (Nm.lbl (s.data.toList.drop k)).map (a ++ ·) ∧ wr.ownsRow w.heap.size 9 1 v a.length (a.map yQ) ∧ Below w.heap.size w wr) (fun _ i _ _ => s.size - (intOf i).toNat)
 case atStart => exact ⟨0, [], by omega, by simp, rfl, by simp, World.ownsRow_nil _ _ _ _, Below.refl _ _⟩
 case round =>
  obtain ⟨k, a, hk, hal, rfl, hl, hown, hbel⟩ := hrel
  have HL := Lib.hid hl
  have HOWN := Lib.hid hown
  have HBEL := Lib.hid hbel
  have hwsz := hbel.size
  clear hl hown hbel
  by_cases hlt : k < s.size
  · obtain ⟨c, hc⟩ : ∃ c, s[k] = c := ⟨_, rfl⟩
    have hd2 : Hid (s.data.toList.drop k = c :: s.data.toList.drop (k + 1)) := by have := Ya s k hlt; rwa [hc] at this
    have hb := c.toNat_lt
    have HTL := Lib.hid (show (s.data.toList.drop (k + 1)).length = s.size - (k + 1) by simp)
    by_cases hz : c = 0
    · subst hz
      have HLB := Lib.hid (show Nm.lbl s.data.toList = (if s.size = k + 1 then some a else none) by
       rw [HL.out, hd2.out, Nm.lbl_cons, if_pos rfl]
       by_cases hq : s.size = k + 1
       · rw [if_pos (List.eq_nil_of_length_eq_zero (by rw [HTL.out]; omega)), if_pos hq]; simp
       · rw [if_neg (fun hn => by have := HTL.out; rw [hn] at this; simp at this; omega), if_neg hq]; rfl)
      by_cases hq : s.size = k + 1
      · by_cases h255 : 255 < s.size
        · have HN := Lib.hid (show Nm.nm s.data.toList = none by unfold Nm.nm; rw [if_neg (by simp; omega)])
          have HQ := Lib.hid hq
          have hq1 : ((k : Int) != (s.size : Int) - 1) = false := by simp; omega
          clear hq
          go_wp2_with fail
          go_ret2
          refine ⟨_, by rw [Nm.may_none HN.out]; rfl, ?_, HBEL.out⟩
          unfold Nm.labels; rw [HN.out]
          exact World.ownsRow_nil _ _ _ _
        · have HN := Lib.hid (show Nm.nm s.data.toList = some a by unfold Nm.nm; rw [if_pos (by simp; omega), HLB.out, if_pos hq])
          have HQ := Lib.hid hq
          have hq1 : ((k : Int) != (s.size : Int) - 1) = false := by simp; omega
          clear hq
          go_wp2_with fail
          go_ret2
          refine ⟨_, by rw [Nm.may_some HN.out]; rfl, ?_, HBEL.out⟩
          unfold Nm.labels; rw [HN.out]
          exact HOWN.out
      · have HN := Lib.hid (show Nm.nm s.data.toList = none by unfold Nm.nm; split; rw [HLB.out, if_neg hq]; rfl)
        have hq1 : ((k : Int) != (s.size : Int) - 1) = true := by rw [bne_iff_ne]; omega
        clear hq
        go_wp2_with fail
        go_ret2
        refine ⟨_, by rw [Nm.may_none HN.out]; rfl, ?_, HBEL.out⟩
        unfold Nm.labels; rw [HN.out]
        exact World.ownsRow_nil _ _ _ _
    · have hz1' : 1 ≤ c.toNat := by
       rcases Nat.eq_zero_or_pos c.toNat with h | h
       · exact absurd (UInt8.toNat_inj.1 (by simpa using h)) hz
       · exact h
      have hz2' : ((c.toNat : Int) == 0) = false := beq_eq_false_iff_ne.2 jj
      have hz3' : ((c.toNat : Int) != 0) = true := by rw [bne_iff_ne]; omega
      have HZ := Lib.hid hz
      clear hz
      by_cases hbad : 63 < c.toNat ∨ s.size < k + 1 + c.toNat
      · have HN := Lib.hid (show Nm.nm s.data.toList = none by
         unfold Nm.nm; split
         · rw [HL.out, hd2.out, K8 HZ.out (by rw [HTL.out]; omega)]; rfl
         · rfl)
        rcases hbad with h1 | h1
        · go_wp2_with fail
          go_ret2
          refine ⟨_, by rw [Nm.may_none HN.out]; rfl, ?_, HBEL.out⟩
          unfold Nm.labels; rw [HN.out]
          exact World.ownsRow_nil _ _ _ _
        · by_cases h63 : 63 < c.toNat
          · go_wp2_with fail
            go_ret2
            refine ⟨_, by rw [Nm.may_none HN.out]; rfl, ?_, HBEL.out⟩
            unfold Nm.labels; rw [HN.out]
            exact World.ownsRow_nil _ _ _ _
          · go_wp2_with fail
            go_ret2
            refine ⟨_, by rw [Nm.may_none HN.out]; rfl, ?_, HBEL.out⟩
            unfold Nm.labels; rw [HN.out]
            exact World.ownsRow_nil _ _ _ _
      · have h63 : ¬ 63 < c.toNat := fun h => hbad (Or.inl h)
        have hle : k + 1 + c.toNat ≤ s.size := by omega
        clear hbad
        obtain ⟨l, hld⟩ : ∃ l, l = (s.data.toList.drop (k + 1)).take c.toNat := ⟨_, rfl⟩
        have HEX := Lib.hid (show Value.string (s.extract (k + 1) (k + 1 + c.toNat)) = yQ l by
         unfold yQ
         congr 1
         apply ByteArray.ext
         apply Array.toList_inj.1
         rw [Lib.extract_data, hld]
         simp)
        have HN := Lib.hid (show Nm.lbl s.data.toList = (Nm.lbl (s.data.toList.drop (k + 1 + c.toNat))).map ((a ++ [l]) ++ ·) by
         rw [HL.out, hd2.out, Nm.lbl_cons, if_neg HZ.out, if_neg h63, if_neg (by rw [HTL.out]; omega), Option.map_map, List.drop_drop, hld]
         congr 1
         funext x
         simp)
        clear hld
        go_wp2_with (at_builtin; refine wpList_append_own _ rfl _ _ 50 rfl w.heap.size 9 i0 (.string ByteArray.empty) 1 16 unO hi hz0 hz1 hz2 rfl (by decide) _ a.length _ rfl (HOWN.out.alloc _) ⟨wr.heap.size, 0, none⟩ 1 1 [.string (s.extract (k + 1) (k + 1 + c.toNat))] rfl rfl (cell_one_new _ _ _) ?c2 ?c3 ?c4 ?c5 ?_)
        case c2 => simp [Value.oneCell']
        case c3 => unfold maxLen; omega
        case c4 => omega
        case c5 => simp; omega
        intro v' w1 hown' hgrow _
        have HB1 := Lib.hid ((HBEL.out.alloc hwsz _).grown hgrow (by simp; omega) (fun q hq => (HOWN.out.lt q hq).1))
        have hfin0 : w1.ownsRow w.heap.size 9 1 v' (a ++ [l]).length ((a ++ [l]).map yQ) := by
         have := hown'
         rw [HEX.out] at this
         simpa using this
        have HFIN := Lib.hid hfin0
        clear hown' hgrow hfin0
        go_wp2_with fail
        exact ⟨⟨k + 1 + c.toNat, a ++ [l], by omega, by simp; omega, by go_num, HN.out, HFIN.out, HB1.out⟩, by simp [intOf]; omega⟩
  · have HN := Lib.hid (show Nm.nm s.data.toList = none by
     unfold Nm.nm; split
     · rw [HL.out, List.drop_of_length_le (by simp; omega)]; rfl
     · rfl)
    have hq1 : ((k : Int) != (s.size : Int) - 1) = true := by rw [bne_iff_ne]; omega
    go_wp2_with fail
    go_ret2
    refine ⟨_, by rw [Nm.may_none HN.out]; rfl, ?_, HBEL.out⟩
    unfold Nm.labels; rw [HN.out]
    exact World.ownsRow_nil _ _ _ _
theorem aa4 (s : ByteArray) (w : World) (hs : s.size ≤ 1000000) :
 Calls Tryz.prog 68 #[.string s] w fun e w' => e = .returned (.bool (Nm.may s.data.toList)) ∧ Below w.heap.size w w' := by
 go_enter Tryz.func68, Tryz.ntmps68
 go_wp2_with fail
 refine (yr s _ hs).mono ?_
 rintro e w1 ⟨v, rfl, ho, hb⟩
 go_wp2_with fail
 go_ret
 exact ⟨rfl, hb⟩
theorem aa5 (s : ByteArray) (w : World) (hs : s.size ≤ 1000000) :
 Calls Tryz.prog 109 #[.string s] w fun e w' => e = .returned (.string ⟨(Nm.low s.data.toList).toArray⟩) ∧ Below w.heap.size w w' := by
 go_enter Tryz.func109, Tryz.ntmps109
 go_wp2_with fail
 go_loopw [3, 4, 5] (fun o i _ wr => ∃ k : Nat, k ≤ s.size ∧ i = .int .i64 k ∧ o = .string ⟨(Nm.low (s.data.toList.take k)).toArray⟩ ∧ Below w.heap.size w wr) (fun _ i _ _ => s.size - (intOf i).toNat)
 case atStart => exact ⟨0, by omega, rfl, rfl, Below.refl _ _⟩
 case round =>
  obtain ⟨k, hk, rfl, rfl, hbel⟩ := hrel
  by_cases hlt : k < s.size
  · obtain ⟨c, hc⟩ : ∃ c, s[k] = c := ⟨_, rfl⟩
    have hb := c.toNat_lt
    have HT := Lib.hid (show Nm.low (s.data.toList.take (k + 1)) = Nm.low (s.data.toList.take k) ++ [Nm.lowB c] by
     rw [List.take_succ_eq_append_getElem (by simpa using hlt), Nm.low_append]
     congr 1
     show [Nm.lowB _] = _
     rw [← hc]
     rfl)
    obtain ⟨acc, hacc⟩ : ∃ acc, acc = Nm.low (s.data.toList.take k) := ⟨_, rfl⟩
    have hal : acc.length ≤ 1000000 := by rw [hacc, Nm.low_length]; simp; omega
    rw [← hacc]
    rw [← hacc] at HT
    clear hacc
    have HBEL := Lib.hid hbel
    have hwsz := hbel.size
    clear hbel
    by_cases h65 : 65 ≤ c.toNat ∧ c.toNat ≤ 90
    · obtain ⟨ha, hz⟩ := h65
      have hone := fun W : World => QG W (Nm.lowB c) ((c.toNat : Int) + 32) (ZG c ha hz).symm
      go_wp2_with fail
      refine ⟨⟨k + 1, by omega, by go_num, ?_, HBEL.out.alloc hwsz _⟩, by simp [intOf]; omega⟩
      rw [HT.out]
      exact congrArg Value.string (ah5 acc [Nm.lowB c])
    · have hone := fun W : World => QG W (Nm.lowB c) (c.toNat : Int) (by rw [ab8 c h65])
      go_wp2_with fail
      all_goals
       refine ⟨⟨k + 1, by omega, by go_num, ?_, HBEL.out.alloc hwsz _⟩, by simp [intOf]; omega⟩
       rw [HT.out]
       exact congrArg Value.string (ah5 acc [Nm.lowB c])
  · obtain rfl : k = s.size := by omega
    have he : s.data.toList.take s.size = s.data.toList := List.take_of_length_le (by simp)
    rw [he]
    go_wp2_with fail
    go_ret
    exact ⟨rfl, hbel⟩
end Go.Proofs.YtkpblofmoalnoaaGreatDoor
