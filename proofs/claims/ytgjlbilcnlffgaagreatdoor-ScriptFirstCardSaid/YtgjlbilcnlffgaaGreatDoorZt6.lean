/-
 Part 6: Dd Rf Rg Su Db De Df Dh Ch Ck Cl Cn Co Cp.
-/
import Derived.Test.YtgjlbilcnlffgaaGreatDoorZt5
import Derived.Test.YtgjlbilcnlffgaaGreatDoorZt1
import Derived.Test.YtgjlbilcnlffgaaGreatDoorZt4
set_option maxRecDepth 100000
set_option maxHeartbeats 16000000
set_option linter.unusedVariables false
set_option linter.unusedSimpArgs false
namespace Go.Proofs.YtgjlbilcnlffgaaGreatDoor
open Go.RowKit
open Cn (Zo Cf)
variable {G : World} {L : ja}
def ErrAt (L : ja) (g : Nat) : Prop := ∃ v t fr, (g, Obj.cells #[v] t fr) ∈ L ∧ (v = .nilIface ∨ ∃ te pe, v = .iface te pe)
structure GlobS (L : ja) : Prop where
 base : Glob L
 syn : ErrAt L 9
 rng : ErrAt L 10
theorem ErrAt.mono {L' : ja} {g : Nat} (h : ErrAt L g) (hs : ∀ p ∈ L, p ∈ L') : ErrAt L' g := by
 obtain ⟨v, t, fr, h1, h2⟩ := h
 exact ⟨v, t, fr, hs _ h1, h2⟩
theorem GlobS.mono {L' : ja} (h : GlobS L) (hs : ∀ p ∈ L, p ∈ L') : GlobS L' := ⟨h.base.mono hs, h.syn.mono hs, h.rng.mono hs⟩
theorem ErrAt.cell {w : World} {g : Nat} (h : ErrAt L g) (hw : Heap G w L) : ∃ v, w.cell? ⟨g, 0, none⟩ = some v ∧ (v = .nilIface ∨ ∃ te pe, v = .iface te pe) := by
 obtain ⟨v, t, fr, h1, h2⟩ := h
 have h3 := hw.get _ h1
 exact ⟨v, by simp [World.cell?, h3], h2⟩
section
variable {P : Program} {ρ : jh} {ty : TypeId}
theorem op_binG {op : BinOp} {t yt : TypeId} {x y : Operand} {a b v : Value} (hx : ev ρ x = some a) (hy : ev ρ y = some b) (h : ∀ w, (do eqGuard op t x y a b; binOp op t a b : Sem Value).run P w = .ok v w) : OpQ P ρ L (.binOp op t x y yt) ty v :=
 ⟨fun r hr w hw o ho _ => by
   have h1 := h w
   simp only [execOp, ho, hr _ _ hx, hr _ _ hy]
   rw [Sem.run_bind, h1]
   rfl⟩
def aaM (P : Program) (t : TypeId) : Bool := match P.underlying t with
 | some (.interface _) => true
 | _ => false
theorem aaN {t : TypeId} (h : aaM P t = true) : ∃ e, P.underlying t = some (.interface e) := by unfold aaM at h; split at h <;> first | exact ⟨_, by assumption⟩ | cases h
theorem YB {t te : TypeId} {pe : Value} {k : _} (d : Nat) (w : World) (hu : P.underlying t = some (.interface k)) : (Op.equalIn (d + 1) t (.iface te pe) .nilIface).run P w = .ok false w := by simp [Op.equalIn, run_underlying hu]
theorem VY {t : TypeId} {k : _} (d : Nat) (w : World) (hu : P.underlying t = some (.interface k)) : (Op.equalIn (d + 1) t .nilIface .nilIface).run P w = .ok true w := by simp [Op.equalIn, run_underlying hu]
theorem U1 {t yt : TypeId} {x : Operand} {te : TypeId} {pe : Value} (hx : ev ρ x = some (.iface te pe)) (h : aaM P t = true) : OpQ P ρ L (.binOp .neq t x (.const .nilIface) yt) ty (.bool true) := by
 obtain ⟨k, hu⟩ := aaN h
 refine op_binG hx rfl fun w => ?_
 simp only [eqGuard, binOp, qq]
 simp [YB 9999 w hu]
theorem adW {t yt : TypeId} {x : Operand} (hx : ev ρ x = some .nilIface) (h : aaM P t = true) : OpQ P ρ L (.binOp .neq t x (.const .nilIface) yt) ty (.bool false) := by
 obtain ⟨k, hu⟩ := aaN h
 refine op_binG hx rfl fun w => ?_
 have hg : (eqGuard .neq t x (.const .nilIface) .nilIface .nilIface).run P w = .ok () w := by
  unfold eqGuard
  cases x <;> simp
 rw [Sem.run_bind, hg]
 simp only [binOp, qq]
 simp [VY 9999 w hu]
end
def puV (w : Nm.Bytes) (u : Value) : Prop := match Lib.parseUintB 64 w with
 | .ok n => u = .tuple #[.int .u64 (n : Nat), .nilIface]
 | _ => ∃ n te pe, u = .tuple #[.int .u64 n, .iface te pe]
theorem YC (s : Nm.Bytes) (hs : s.length ≤ 1000000) (hg : GlobS L) : Spec Tryz.prog G 119 #[.string (bs s), .int .i64 10, .int .i64 64] L fun u M => puV s u ∧ M = L := by
 refine ⟨fun w hw => ?_⟩
 have hsz : (bs s).size ≤ 281474976710656 := by rw [kh]; omega
 have keep : ∀ w', Below w.heap.size w w' → Heap G w' L := fun w' h2 => ⟨hw.still.trans ⟨h2.os, h2.tape, h2.output, h2.size⟩, hw.nodup, fun p hp => (h2.block p.1 (hw.lt hp)).trans (hw.get p hp)⟩
 have hbw : ∀ w', (w' = w ∨ w' = Lib.bytesWorld w 5 (bs s)) → Below w.heap.size w w' := fun w' h => by
  rcases h with rfl | rfl
  · exact Below.refl _ _
  · exact Lib.bytesWorld_below w _ _
 unfold puV
 cases hp : Lib.parseUintB 64 s
 · rename_i n; exact (Tryz.strconv_ParseUint_10_at64_ok (bs s) (by omega) n hp w).mono fun e w' ⟨he, hw'⟩ => ⟨_, L, he, ⟨rfl, rfl⟩, keep w' (hbw w' hw')⟩
 · obtain ⟨v, hv, hev⟩ := hg.syn.cell hw
   exact (Tryz.strconv_ParseUint_10_at64_none (bs s) hsz ⟨fun u q => (by have := hp.symm.trans q; cases this), fun q => (by have := hp.symm.trans q; cases this)⟩ v w hv hev).mono fun e w' ⟨N, he, _, _, hw'⟩ => ⟨_, L, he, ⟨⟨_, _, _, rfl⟩, rfl⟩, keep w' hw'⟩
 · obtain ⟨v, hv, hev⟩ := hg.rng.cell hw
   exact (Tryz.strconv_ParseUint_10_at64_range (bs s) hsz hp v w hv hev).mono fun e w' ⟨N, he, _, _, hw'⟩ => ⟨_, L, he, ⟨⟨_, _, _, rfl⟩, rfl⟩, keep w' hw'⟩
theorem KO (s : Nm.Bytes) (c : UInt8) : Spec Tryz.prog G 120 #[.string (bs s), .int .u8 (c.toNat : Nat)] L fun u M => u = .int .i64 (Lib.indexByte s c) ∧ M = L := Spec.ofSame fun w => by
 refine (Tryz.strings_IndexByte (bs s) (c.toNat : Nat) w).mono fun e w' ⟨he, hw'⟩ => ⟨?_, hw'.symm⟩
 rw [he]
 simp
def ZP (w : Nm.Bytes) : Value := match Cn.num64 w with
 | some n => .tuple #[.int .u64 (n : Nat), .bool true]
 | none => .tuple #[.int .u64 0, .bool false]
theorem z7 {w : Nm.Bytes} (h : Cn.num64 w = none) : ZP w = .tuple #[.int .u64 0, .bool false] := by unfold ZP; rw [h]
theorem Ko (w : Nm.Bytes) (hw : w.length ≤ 1000000) (hg : GlobS L) : Spec Tryz.prog G 80 #[.string (bs w)] L fun u M => u = ZP w ∧ M = L := by
 refine jw (n := 39) Tryz.func80 rfl rfl rfl ?_
 by_cases hz : 1 < w.length ∧ w[0]? = some 48
 · obtain ⟨hz1, hz2⟩ := hz
   rw [z7 (Cn.num64_zero hz2 hz1)]
   have hz3 : (48 : UInt8).toNat = 48 := rfl
   refine goA ?_
   exact yk 2 3 rfl rfl rfl ⟨rfl, rfl⟩ j5
 have hz' : ¬ (w[0]? = some 48 ∧ 1 < w.length) := fun h => hz ⟨h.2, h.1⟩
 have hc : (1 < w.length ∧ ∃ c0, w[0]? = some c0 ∧ ¬ c0.toNat = 48) ∨ ¬ 1 < w.length := by
  by_cases h1 : 1 < w.length
  · obtain ⟨c0, hc0⟩ : ∃ c, w[0]? = some c := ⟨_, List.getElem?_eq_getElem (by omega)⟩
    exact Or.inl ⟨h1, c0, hc0, fun q => hz' ⟨by rw [hc0]; congr 1; exact UInt8.toNat_inj.1 q, h1⟩⟩
  · exact Or.inr h1
 rcases hc with ⟨h1, c0, hc0, hc48⟩ | h1
 all_goals
  refine goU ?_
  refine kv (σ := Nat) (fun k => k ≤ w.length ∧ (w.take k).all Cn.isDig = true) (fun k => [(0, .string (bs w)), (16, .int .i64 (w.length : Nat)), (17, .int .i64 (k : Nat))]) (fun _ => L) (fun k => w.length - k) 0 ⟨by omega, by simp⟩ ?_ (fun _ h => h) ?_
  · exact qd
  rintro k ⟨hk, hall⟩
  by_cases hlt : k < w.length
  · obtain ⟨c, hc⟩ : ∃ c, w[k]? = some c := ⟨_, List.getElem?_eq_getElem hlt⟩
    have hcb := c.toNat_lt
    have hbad : ¬ (48 ≤ c.toNat ∧ c.toNat ≤ 57) → Cn.num64 w = none := fun q => Cn.num64_all (by
     rw [List.all_eq_false]
     exact ⟨c, List.mem_of_getElem? hc, fun h => q (dig_iff.1 h)⟩)
    by_cases h48 : c.toNat < 48
    · rw [z7 (hbad (by omega))]
      refine goU ?_
      exact yk 2 3 rfl rfl rfl ⟨rfl, rfl⟩ j5
    by_cases h57 : 57 < c.toNat
    · rw [z7 (hbad (by omega))]
      refine goU ?_
      exact yk 2 3 rfl rfl rfl ⟨rfl, rfl⟩ j5
    refine goU ?_
    refine jG (k + 1) ⟨by omega, ?_⟩ ?_ (fun _ h => h) (by omega)
    · rw [List.take_add_one, hc, List.all_append, hall]
      simp only [Option.toList, List.all_cons, List.all_nil, Bool.and_true, Bool.true_and]
      exact dig_iff.2 ⟨by omega, by omega⟩
    exact qd
  · have hkl : k = w.length := by omega
    subst hkl
    rw [List.take_length] at hall
    refine goU ?_
    refine z6 (YC w hw hg) ?_
    rintro u M ⟨hu, rfl⟩
    by_cases h0 : w = []
    · subst h0
      rw [z7 Cn.num64_nil]
      unfold puV at hu
      have hu : ∃ n te pe, u = .tuple #[.int .u64 n, .iface te pe] := hu
      obtain ⟨n, te, pe, rfl⟩ := hu
      refine goU ?_
      refine jm (U1 rfl (by kernel_rfl)) rfl ?_
      refine goU ?_
      exact yk 2 3 rfl rfl rfl ⟨rfl, rfl⟩ j5
    · have hn := Cn.num64_ok hall h0 hz'
      unfold puV at hu
      rw [Cn.parse64 hall h0] at hu
      by_cases hv : Cn.valD w < 18446744073709551616
      · rw [if_pos hv] at hu hn
        have hu : u = .tuple #[.int .u64 (Cn.valD w : Nat), .nilIface] := hu
        subst hu
        unfold ZP
        rw [hn]
        refine goU ?_
        refine jm (adW rfl (by kernel_rfl)) rfl ?_
        refine goU ?_
        exact yk 2 3 rfl rfl rfl ⟨rfl, rfl⟩ j5
      · rw [if_neg hv] at hu hn
        rw [z7 hn]
        obtain ⟨n, te, pe, rfl⟩ := hu
        refine goU ?_
        refine jm (U1 rfl (by kernel_rfl)) rfl ?_
        refine goU ?_
        exact yk 2 3 rfl rfl rfl ⟨rfl, rfl⟩ j5
def ZQ (w : Nm.Bytes) : Value := match Cn.octets w with
 | some d => .tuple #[.string (bs d), .bool true]
 | none => .tuple #[.string (bs []), .bool false]
theorem VZ {w : Nm.Bytes} (h : Cn.octets w = none) : ZQ w = .tuple #[.string (bs []), .bool false] := by unfold ZQ; rw [h]
def byR : Rp UInt8 := fun _ cs c => cs = [.int .u8 (c.toNat : Nat)]
theorem V0 {w : Nm.Bytes} (h1 : w ≠ [45]) (h2 : w ≠ []) : Cn.octets w = Cn.octs w := by unfold Cn.octets; rw [if_neg h1, if_neg h2]
theorem adX (w : Nm.Bytes) (hw : w.length ≤ 1000000) : Spec Tryz.prog G 81 #[.string (bs w)] L fun u M => u = ZQ w ∧ M = L := by
 refine jw (n := 53) Tryz.func81 rfl rfl rfl ?_
 by_cases h1 : w = [45]
 · subst h1
   refine goU ?_
   exact yk 2 3 rfl rfl rfl ⟨rfl, rfl⟩ j5
 by_cases h2 : w = []
 · subst h2
   refine goU ?_
   exact yk 2 3 rfl rfl rfl ⟨rfl, rfl⟩ j5
 have hpos : 0 < w.length := List.length_pos_iff.2 h2
 have ho := V0 h1 h2
 by_cases h3 : (w.length : Int) % 2 = 0
 rotate_left
 · rw [VZ (by rw [ho]; exact Cn.octs_odd w (by omega))]
   refine goU ?_
   exact yk 2 3 rfl rfl rfl ⟨rfl, rfl⟩ j5
 have hd : ((w.length : Int) / 2).toNat = w.length / 2 := by omega
 refine jH ?_
 refine goW ?_
 refine jH (jH ?_)
 refine goW ?_
 refine jH (jH ?_)
 refine goW ?_
 refine jH ?_
 refine goW ?_
 refine qX (K6 etO (l := 0) (c := (w.length : Int) / 2) rfl rfl (by omega) (by omega) (by omega) (by omega) rfl) rfl ?_
 intro b4
 have hc0 : ORow byR 5 1 [] (some ⟨b4, 0, none⟩) ((w.length : Int) / 2).toNat [] [(b4, Obj.cells (madeCells (Value.int .u8 0).cells (((w.length : Int) / 2).toNat * 1)) 5 (0, 0))] := ⟨[], Row.made (by simp [madeCells]) (by unfold maxLen; omega), rfl, by simp⟩
 refine goU ?_
 refine kv (σ := Nat × Nm.Bytes × Option Addr × Nat × ja) (fun x => 2 * x.1 ≤ w.length ∧ x.2.1.length = x.1 ∧ Cn.octs (w.take (2 * x.1)) = some x.2.1 ∧ ORow byR 5 1 [] x.2.2.1 x.2.2.2.1 x.2.1 x.2.2.2.2) (fun x => [(0, .string (bs w)), (4, .slice x.2.2.1 x.2.1.length x.2.2.2.1), (5, .int .i64 ((2 * x.1 : Nat) : Int))]) (fun x => x.2.2.2.2 ++ L) (fun x => w.length - x.1) (0, [], _, _, _) ⟨by dsimp only; omega, rfl, rfl, hc0⟩ ?_ (fun w h => h) ?_
 · exact qd
 rintro ⟨i, r, a, c, B⟩ ⟨hi, hrl, hoc, hB⟩
 dsimp only at hi hrl hoc hB ⊢
 by_cases hlt : 2 * i < w.length
 · have hlt2 : 2 * i + 1 < w.length := by omega
   obtain ⟨c1, hc1⟩ : ∃ c, w[2 * i]? = some c := ⟨_, List.getElem?_eq_getElem hlt⟩
   obtain ⟨c2, hc2⟩ : ∃ c, w[2 * i + 1]? = some c := ⟨_, List.getElem?_eq_getElem hlt2⟩
   have g1 : w[((2 * i : Nat) : Int).toNat]? = some c1 := by rw [Int.toNat_natCast]; exact hc1
   have g2 : w[(((2 * i : Nat) : Int) + 1).toNat]? = some c2 := by rw [show (((2 * i : Nat) : Int) + 1).toNat = 2 * i + 1 by omega]; exact hc2
   have htk : w.take (2 * (i + 1)) = w.take (2 * i) ++ [c1, c2] := by
    rw [show 2 * (i + 1) = 2 * i + 1 + 1 by omega, List.take_add_one, List.take_add_one, hc1, hc2]
    simp
   have hin := Cn.index_nib c1
   have hin2 := Cn.index_nib c2
   unfold Cn.hexD at hin hin2
   have hbad : Cn.nib c1 = none ∨ Cn.nib c2 = none → Cn.octets w = none := fun k => by rw [ho]; exact Cn.octs_take w i hlt2 c1 c2 hc1 hc2 k
   refine goU ?_
   refine yj (KO [48, 49, 50, 51, 52, 53, 54, 55, 56, 57, 97, 98, 99, 100, 101, 102] c1) ?_
   rw [hin]
   refine goU ?_
   refine yj (KO [48, 49, 50, 51, 52, 53, 54, 55, 56, 57, 97, 98, 99, 100, 101, 102] c2) ?_
   rw [hin2]
   unfold Cn.nibI
   cases hn1 : Cn.nib c1 with
   | none =>
     rw [VZ (hbad (Or.inl hn1))]
     dsimp only
     refine goU ?_
     exact yk 2 3 rfl rfl rfl ⟨rfl, rfl⟩ j5
   | some x =>
     have hx := Cn.nib_le hn1
     cases hn2 : Cn.nib c2 with
     | none =>
       rw [VZ (hbad (Or.inr hn2))]
       dsimp only
       refine goU ?_
       exact yk 2 3 rfl rfl rfl ⟨rfl, rfl⟩ j5
     | some y =>
       have hy := Cn.nib_le hn2
       dsimp only
       refine goU ?_
       refine jm (qp rfl rfl (adr hx)) rfl ?_
       refine goU ?_
       refine jm (qp rfl rfl (afn hx hy)) rfl ?_
       refine goU ?_
       refine jK ?_
       intro bL
       have hcv : ((16 * x + y : Nat) : Int) = ((UInt8.ofNat (16 * x + y)).toNat : Nat) := by simp; omega
       refine afR (UInt8.ofNat (16 * x + y)) hB (cs := [.int .u8 ((16 * x + y : Nat) : Int)]) (congrArg (fun z => [Value.int .u8 z]) hcv) ?_
       intro a' c' B' hB'
       refine goU ?_
       refine jG (i + 1, r ++ [UInt8.ofNat (16 * x + y)], a', c', B') ⟨by dsimp only; omega, by simp [hrl], ?_, hB'⟩ ?_ (fun w h => h) (by dsimp only; omega)
       · dsimp only
         rw [htk]
         exact Cn.octs_snoc _ _ _ _ _ _ hoc hn1 hn2
       dsimp only
       rw [show ((2 * (i + 1) : Nat) : Int) = ((2 * i : Nat) : Int) + 2 by omega]
       exact qd
 · have hil : 2 * i = w.length := by omega
   rw [hil, List.take_length] at hoc
   have hov : ZQ w = .tuple #[.string (bs r), .bool true] := by unfold ZQ; rw [ho, hoc]
   rw [hov]
   have hpos2 : 0 < r.length := by omega
   rcases hB.one with ⟨_, _, rfl, _⟩ | ⟨b, cur, rfl, rfl, _⟩
   · simp at hpos2
   have hsl := ORow.sliceR (L' := [(b, Obj.cells cur 5 (0, 0))]) (fun _ _ _ _ _ h => h : Y4 byR) hB (by simp) (fun p hp => hp)
   have hcell : ∀ j (hj : j < r.length), cur[0 + j]? = some (.int .u8 (r[j].toNat : Int)) := fun j hj => by
    obtain ⟨b1, o1, C1, t1, f1, e, m1, cs1, hn1, hcs1, hcl⟩ := sliceR.at hsl (List.getElem?_eq_getElem hj)
    cases e
    rw [List.mem_singleton] at m1
    cases m1
    obtain rfl : cs1 = [.int .u8 (r[j].toNat : Nat)] := hcs1
    have := hcl 0 _ rfl
    simpa using this
   refine goU ?_
   refine jm (uV r rfl rfl Tryz.underlying78 Tryz.underlying5 Tryz.underlying9 (List.mem_cons_self ..) hcell) rfl ?_
   refine goU ?_
   exact yk 2 3 rfl rfl rfl ⟨rfl, rfl⟩ j5
end Go.Proofs.YtgjlbilcnlffgaaGreatDoor
namespace Go.Proofs.YtgjlbilcnlffgaaGreatDoor.Ev
open Go
def kE {α : Type} (step : α → Value → Option Exit × α) : α → List Value → Option Exit × α
 | a, [] => (none, a)
 | a, v :: vs => match step a v with
   | (none, b) => kE step b vs
   | (some x, b) => (some x, b)
section
variable {P : Program} {G : World} {n : Nat} {ρ : jh} {L M : ja} {ops : Array Oper} {Q : Exit → Act → World → Prop}
structure RoundS {α : Type} (P : Program) (G : World) (l : Nat) (rc : Loop) (step : α → Value → Option Exit × α) (Inv : α → ja → Prop) (Nx : α → Value → Prop) : Prop where
 out : ∀ {a : α} {v : Value} {M : ja}, Nx a v → Inv a M → ∀ w, Heap G w ((l, .loop rc) :: M) →
  RoundIn Fence.wide 0 P l rc.fn ((rc.params.zip #[v]).foldl (fun tmps (t, a) => tmps.setIfInBounds t a) rc.tmps) rc.assign rc.body w
   (jN G fun u M' => u = .bool (step a v).1.isNone ∧ ∃ M2, Inv (step a v).2 M2 ∧ M' = (l, .loop (kr rc (step a v).1)) :: M2)
def ye {α : Type} (step : α → Value → Option Exit × α) (Nx : α → Value → Prop) : α → List Value → Prop
 | _, [] => True
 | a, v :: vs => Nx a v ∧ ∀ b, step a v = (none, b) → ye step Nx b vs
def YD (P : Program) (f : FuncId) (Cap : Array Value) (vs : List Value) (K : ja) : Prop := ∀ {α : Type} {G : World} {l : Nat} {rc : Loop} {step : α → Value → Option Exit × α} {Inv : α → ja → Prop} {Nx : α → Value → Prop} {a : α} {M : ja},
 rc.params.size = 1 → RoundS P G l rc step Inv Nx → ye step Nx a vs → (∀ b N, Inv b N → ∀ p ∈ K, p ∈ N) → Inv a M →
 Spec P G f (#[.func (.yield l) #[] #[]] ++ Cap) ((l, .loop rc) :: M) fun u M' => ∃ M2, Inv (kE step a vs).2 M2 ∧ M' = (l, .loop (kr rc (kE step a vs).1)) :: M2
def YE (b : Nat) (a : Act) : Act := qh [qU b] a
structure TB (P : Program) (G : World) (n : Nat) (ρ : jh) (b : Nat) (L : ja) (c : Code) (Q : Exit → Act → World → Prop) : Prop where
 out : ∀ a w, Env n ρ a → Heap G w L → c.wp P Q (YE b a) w
structure TBQ (G : World) (n : Nat) (ρ : jh) (b : Nat) (L : ja) (x : Exit) (Q : Exit → Act → World → Prop) : Prop where
 out : ∀ a w, Env n ρ a → Heap G w L → Q x (YE b a) w
variable {b : Nat}
theorem TB_seq {x y : Code} (h : TB P G n ρ b L x (Exit.then (y.wp P Q) Q)) : TB P G n ρ b L (.seq x y) Q := ⟨fun a w he hw => wp_seq (h.out a w he hw)⟩
theorem TB_skip (h : TBQ G n ρ b L .normal Q) : TB P G n ρ b L .skip Q := ⟨fun a w he hw => wp_skip (h.out a w he hw)⟩
theorem TB_ret (h : TBQ G n ρ b L .ret Q) : TB P G n ρ b L .ret Q := ⟨fun a w he hw => wp_ret (h.out a w he hw)⟩
theorem TB_true {c : Operand} {x y : Code} (hc : ev ρ c = some (.bool true)) (ht : TB P G n ρ b L x Q) : TB P G n ρ b L (.cond c x y) Q := ⟨fun a w he hw => wp_cond_true (a := YE b a) (he.reads c _ hc) (ht.out a w he hw)⟩
theorem TB_false {c : Operand} {x y : Code} (hc : ev ρ c = some (.bool false)) (ht : TB P G n ρ b L y Q) : TB P G n ρ b L (.cond c x y) Q := ⟨fun a w he hw => wp_cond_false (a := YE b a) (he.reads c _ hc) (ht.out a w he hw)⟩
theorem TB_region {id : Nat} {l : List Oper} (h : TL P G l.toArray n ρ L l fun e a w => Q e (YE b a) w) : TB P G n ρ b L (.region id l.toArray false) Q :=
 ⟨fun a w he hw => wp_region_lit (qT (fun e a w h => h) l a w (h.out a w he hw))⟩
theorem TQ_TB {x : Exit} (h : TBQ G n ρ b L x Q) : TQ G n ρ L x fun e a w => Q e (YE b a) w := ⟨fun a w he hw => h.out a w he hw⟩
theorem TBQ_then {y : Code} {Q' : Exit → Act → World → Prop} (h : TB P G n ρ b L y Q) : TBQ G n ρ b L .normal (Exit.then (y.wp P Q) Q') := ⟨fun a w he hw => h.out a w he hw⟩
theorem TBQ_thenX {K : Act → World → Prop} {x : Exit} (hx : x ≠ .normal) (h : TBQ G n ρ b L x Q) : TBQ G n ρ b L x (Exit.then K Q) := by
 cases x with
 | normal => exact absurd rfl hx
 | _ => exact ⟨fun a w he hw => h.out a w he hw⟩
theorem TBQ_block {id : Nat} (h : TBQ G n ρ b L .normal Q) : TBQ G n ρ b L .normal (Exit.inBlock id Q) := ⟨fun a w he hw => h.out a w he hw⟩
theorem TBQ_block_ret {id : Nat} (h : TBQ G n ρ b L .ret Q) : TBQ G n ρ b L .ret (Exit.inBlock id Q) := ⟨fun a w he hw => h.out a w he hw⟩
variable {R : Fence} {k : Nat}
theorem uL {x y : Code} (h : TI R k P G n ρ L x (Exit.then (y.wpIn R k P Q) Q)) : TI R k P G n ρ L (.seq x y) Q := ⟨fun a w he hw => wpIn_seq (h.out a w he hw)⟩
theorem z8 {id : Nat} {c : Code} (h : TI R k P G n ρ L c (Exit.inBlock id Q)) : TI R k P G n ρ L (.block id c) Q := ⟨fun a w he hw => wpIn_block (h.out a w he hw)⟩
theorem Qc (h : TQ G n ρ L .normal Q) : TI R k P G n ρ L .skip Q := ⟨fun a w he hw => wpIn_skip (h.out a w he hw)⟩
theorem Kp (h : TQ G n ρ L .ret Q) : TI R k P G n ρ L .ret Q := ⟨fun a w he hw => wpIn_ret (h.out a w he hw)⟩
theorem yX {c : Operand} {x y : Code} (hc : ev ρ c = some (.bool true)) (ht : TI R k P G n ρ L x Q) : TI R k P G n ρ L (.cond c x y) Q := ⟨fun a w he hw => wpIn_cond_true (he.reads c _ hc) (ht.out a w he hw)⟩
theorem z9 {c : Operand} {x y : Code} (hc : ev ρ c = some (.bool false)) (ht : TI R k P G n ρ L y Q) : TI R k P G n ρ L (.cond c x y) Q := ⟨fun a w he hw => wpIn_cond_false (he.reads c _ hc) (ht.out a w he hw)⟩
theorem ZR (hR : Wide R) (hlo : ¬ LetsOut Q) {id : Nat} {l : List Oper} (hp : allB kU l = true) (h : TL P G l.toArray n ρ L l Q) : TI R k P G n ρ L (.region id l.toArray false) Q :=
 ⟨fun a w he hw => wpIn_region_lit (hR.list hlo l (fun o ho => kp hp o ho) (h.out a w he hw))⟩
theorem kW {y : Code} {Q' : Exit → Act → World → Prop} (h : TI R k P G n ρ L y Q) : TQ G n ρ L .normal (Exit.then (y.wpIn R k P Q) Q') := ⟨fun a w he hw => h.out a w he hw⟩
def BodyPost (G : World) (l b : Nat) (rc : Loop) (x : Option Exit) (Φ : ja → Prop) : Exit → Act → World → Prop
 | .normal, _, w => x = none ∧ ∃ M, Φ M ∧ Heap G w ((l, .loop { rc with state := .busy }) :: (b, shutO) :: M)
 | .ret, _, w => x = some .ret ∧ ∃ M, Φ M ∧ Heap G w ((l, .loop { rc with state := .busy }) :: (b, shutO) :: M)
 | .exit id, _, w => x = some (.exit id) ∧ ∃ M, Φ M ∧ Heap G w ((l, .loop { rc with state := .busy }) :: (b, shutO) :: M)
 | _, _, _ => False
theorem bodyPost_lo {l b : Nat} {rc : Loop} {x : Option Exit} {Φ : ja → Prop} : ¬ LetsOut (BodyPost G l b rc x Φ) := by
 rintro ⟨_, _, h⟩
 exact h
def yf (P : Program) (G : World) (n l b : Nat) (rc : Loop) (body : Code) (Q : Exit → Act → World → Prop) : Exit → Act → World → Prop
 | .normal, a, w => ∃ ρ M, Env n ρ a ∧ Heap G w ((l, .loop rc) :: (b, shutO) :: M) ∧ TI (Fence.wide.inRound l) 0 P G n ρ ((l, .loop { rc with state := .busy }) :: (b, shutO) :: M) body Q
 | _, _, _ => False
theorem assignPost_lo {l b : Nat} {rc : Loop} {body : Code} : ¬ LetsOut (yf P G n l b rc body Q) := by
 rintro ⟨_, _, h⟩
 exact h
theorem yY {l b : Nat} {rc : Loop} {body : Code} (h : TI (Fence.wide.inRound l) 0 P G n ρ ((l, .loop { rc with state := .busy }) :: (b, shutO) :: M) body Q) : TQ G n ρ ((l, .loop rc) :: (b, shutO) :: M) .normal (yf P G n l b rc body Q) :=
 ⟨fun a w he hw => ⟨ρ, M, he, hw, h⟩⟩
theorem yg {l b : Nat} {rc : Loop} {x : Exit} {j : Option Exit} {Φ : ja → Prop} (hx : x = .normal ∧ j = none ∨ x = .ret ∧ j = some .ret ∨ ∃ id, x = .exit id ∧ j = some (.exit id)) (h : Φ M) :
 TQ G n ρ ((l, .loop { rc with state := .busy }) :: (b, shutO) :: M) x (BodyPost G l b rc j Φ) :=
 ⟨fun a w he hw => by
   rcases hx with ⟨rfl, rfl⟩ | ⟨rfl, rfl⟩ | ⟨id, rfl, rfl⟩ <;> exact ⟨rfl, M, h, hw⟩⟩
theorem Heap.put {w : World} {l : Nat} {O O' : Obj} (h : Heap G w ((l, O) :: L)) : Heap G (w.putObj l O') ((l, O') :: L) := by
 have hlt := h.lt (List.mem_cons_self ..)
 refine h.update ⟨rfl, rfl, rfl, ?_⟩ (World.putObj_heap_same hlt) fun j _ hj => World.putObj_heap_other hj
 simp
theorem ab4 {α : Type} {step : α → Value → Option Exit × α} {Inv : α → ja → Prop} {Nx : α → Value → Prop} {l b p : Nat} {rc : Loop} {assign body : Code} {a0 : Act} (he0 : Env n ρ a0) (hp : p < n)
 (hrc : rc = { rc with state := .ready, pending := none }) (h1 : rc.tmps = a0.tmps) (h2 : rc.params = #[p]) (h3 : rc.assign = assign) (h4 : rc.body = body)
 (hround : ∀ (a : α) (v : Value) (M : ja), Nx a v → Inv a M → TI (Fence.wide.inRound l) 0 P G n ((p, v) :: ρ) ((l, .loop rc) :: (b, shutO) :: M) assign (yf P G n l b rc body (BodyPost G l b rc (step a v).1 (Inv (step a v).2)))) :
 RoundS P G l rc step (fun a M => ∃ M1, Inv a M1 ∧ M = (b, shutO) :: M1) Nx := by
 refine ⟨fun {a v M} hv hI w hw => ?_⟩
 obtain ⟨M1, hI, rfl⟩ := hI
 rw [h1, h2, h3, h4]
 refine roundIn_of_wpIn trivial ?_
 have hz : ((#[p] : Array Tmp).zip #[v]).foldl (fun tmps (t, a) => tmps.setIfInBounds t a) a0.tmps = a0.tmps.setIfInBounds p v := by simp
 rw [hz]
 have hput : ({ tmps := a0.tmps.setIfInBounds p v, defers := [] } : Act) = a0.put (some p) v := by
  show _ = ({ a0 with tmps := a0.tmps.setIfInBounds p v } : Act)
  rw [← he0.defers]
 rw [hput]
 refine wpIn_mono ((hround a v M1 hv hI).out _ _ (he0.put p hp v) hw) fun x a1 w1 hx => ?_
 cases x with
 | normal =>
   obtain ⟨ρ1, M2, he1, hw1, hbody⟩ := hx
   refine ⟨_, run_beginRound (hw1.get _ (List.mem_cons_self ..)) (by rw [hrc]), ?_⟩
   refine wpIn_mono (hbody.out _ _ he1 (Heap.put hw1)) fun x a2 w2 hx => ?_
   have fin : ∀ j : Option Exit, (step a v).1 = j → (∃ M, Inv (step a v).2 M ∧ Heap G w2 ((l, .loop { rc with state := .busy }) :: (b, shutO) :: M)) → ∃ v' w', (Instr.endRound l (j.map aas)).run P w2 = .ok v' w' ∧ jN G (fun u M' => u = .bool (step a v).1.isNone ∧ ∃ M2, (∃ M1, Inv (step a v).2 M1 ∧ M2 = (b, shutO) :: M1) ∧ M' = (l, .loop (kr rc (step a v).1)) :: M2) (.returned v') w' := fun j hj ⟨M3, h5, h6⟩ => by
    refine ⟨_, _, W5 hrc (h6.get _ (List.mem_cons_self ..)), _, _, rfl, ⟨by rw [hj], _, ⟨M3, h5, rfl⟩, by rw [hj]⟩, Heap.put h6⟩
   cases x with
   | normal => exact fin none hx.1 hx.2
   | ret => exact fin (some .ret) hx.1 hx.2
   | exit id => exact fin (some (.exit id)) hx.1 hx.2
   | _ => exact hx.elim
 | _ => exact hx.elim
def aaO : Option Exit → Exit
 | none => .normal
 | some x => x
theorem Ja {α : Type} {step : α → Value → Option Exit × α} {Inv : α → ja → Prop} {Nx : α → Value → Prop} {vs : List Value} {f : FuncId} {Cap : Array Value} {K M0 : ja} {g : Operand} {p : Tmp} {assign body : Code} {a0 : α}
 (hp : p < n) (hg : ev ρ g = some (.func (.func f) #[] Cap)) (hbody : jX P f = true) (hit : YD P f Cap vs K) (hK : ∀ a N, Inv a N → ∀ q ∈ K, q ∈ N) (h0 : Inv a0 M0) (hch : ye step Nx a0 vs)
 (hround : ∀ (l b : Nat) (rc : Loop) (a : α) (v : Value) (M : ja), Nx a v → Inv a M → TI (Fence.wide.inRound l) 0 P G n ((p, v) :: ρ) ((l, .loop rc) :: (b, shutO) :: M) assign (yf P G n l b rc body (BodyPost G l b rc (step a v).1 (Inv (step a v).2))))
 (hx : ∀ x, (kE step a0 vs).1 = some x → x = .ret ∨ ∃ id, x = .exit id)
 (hQ : ∀ (b : Nat) (M : ja), Inv (kE step a0 vs).2 M → TBQ G n ρ b ((b, shutO) :: M) (aaO (kE step a0 vs).1) Q) :
 T P G n ρ M0 (.rangeFunc g #[p] assign body) Q := by
 refine ⟨fun a w he hw => ?_⟩
 have hev : a.eval g = .func (.func f) #[] Cap := he.reads _ _ hg
 refine wpIn_wide.1 (wpIn_rangeFunc (n := 0) fun fn _ => ?_)
 let rc : Loop := { state := .ready, pending := none, fn, tmps := a.tmps, params := #[p], assign, body, defers := w.heap.size }
 have hw2 : Heap G ((w.alloc shutO).alloc (.loop rc)) ((w.heap.size + 1, .loop rc) :: (w.heap.size, shutO) :: M0) := by
  have := (hw.alloc shutO).alloc (.loop rc)
  rw [World.size_alloc] at this
  exact this
 have hrd := ab4 (P := P) (G := G) (step := step) (Inv := Inv) (Nx := Nx) (l := w.heap.size + 1) (b := w.heap.size) (p := p) (rc := rc) (assign := assign) (body := body) he hp rfl rfl rfl rfl rfl (fun a v M hv hI => hround _ _ rc a v M hv hI)
 have hsp := hit (G := G) (a := a0) (M := (w.heap.size, shutO) :: M0) rfl hrd hch (fun b N hN q hq => by
  obtain ⟨M1, h1, rfl⟩ := hN
  exact List.mem_cons_of_mem _ (hK b M1 h1 q hq)) ⟨M0, h0, rfl⟩
 have hres : (resolve a.eval (rangeCall g (w.heap.size + 1)) 0).run P ((w.alloc shutO).alloc (.loop rc)) = .ok ⟨.fn (.func f) Cap, #[.func (.yield (w.heap.size + 1)) #[] #[]]⟩ ((w.alloc shutO).alloc (.loop rc)) := by
  have hc : ∀ v, a.eval (.const v) = v := fun _ => rfl
  simp [resolve, hev, hc, Deferred.ofValue]
 have hinv : (invoke (.fn (.func f) Cap) #[.func (.yield (w.heap.size + 1)) #[] #[]]).run P ((w.alloc shutO).alloc (.loop rc)) = .ok (.enter f (#[.func (.yield (w.heap.size + 1)) #[] #[]] ++ Cap)) ((w.alloc shutO).alloc (.loop rc)) := by
  rw [show invoke (.fn (.func f) Cap) #[.func (.yield (w.heap.size + 1)) #[] #[]] = callFunc f (#[.func (.yield (w.heap.size + 1)) #[] #[]] ++ Cap) from by simp [invoke]]
  exact kH hbody ..
 refine ⟨w.heap.size + 1, [qU w.heap.size], _, _, _, f, _, _, run_enterLoop_outer fn a.tmps #[p] assign body, hres, fun _ _ => trivial, hinv, (fun h => by cases h), ?_⟩
 refine callsIn_wide.2 (Calls.mono (hsp.out _ hw2) fun e' w' hh => ?_)
 obtain ⟨u, M, rfl, ⟨M2, ⟨M1, hI, rfl⟩, rfl⟩, k3⟩ := hh
 have hnb : (kr rc (kE step a0 vs).1).state ≠ .busy := by
  cases (kE step a0 vs).1 <;> simp [kr, rc]
 refine ⟨_, _, run_endLoop (k3.get _ (List.mem_cons_self ..)) hnb, ?_⟩
 have hfin : ∀ x, aaO (kE step a0 vs).1 = x → Q x { a with defers := [qU w.heap.size] ++ a.defers } (w'.putObj (w.heap.size + 1) (.loop { kr rc (kE step a0 vs).1 with state := .exhausted })) := fun x hxx => by
  subst hxx
  have := (hQ w.heap.size M1 hI).out a _ he (Heap.put (O' := .loop { kr rc (kE step a0 vs).1 with state := .exhausted }) k3).tail
  unfold YE qh at this
  rw [he.defers] at this ⊢
  exact this
 cases hr : (kE step a0 vs).1 with
 | none => rw [hr] at hfin; exact hfin .normal rfl
 | some x =>
   rw [hr] at hfin
   rcases hx x hr with rfl | ⟨id, rfl⟩
   · exact wpIn_ret (hfin .ret rfl)
   · exact wpIn_exit (hfin (.exit id) rfl)
theorem Jb {f : FuncId} {fn : Func} {c : Code} {args : Array Value} {Φ : Value → ja → Prop} (hf : P.funcs[f]? = some fn) (hb : fn.body = some c) (hn : fn.ntmps = n) (hs : Nat.ble args.size n = true)
 (h : T P G n (kY 0 args.toList) L c (bodyPostM Fence.wide 0 P fn (jN G Φ))) : Spec P G f args L Φ := by
 refine ⟨fun w hw => (callsIn_wide (n := 0)).1 (callsIn_of_wp_marks hf hb trivial (wpIn_wide.2 (h.out _ _ ⟨?_, rfl, fun t v hv => ?_⟩ hw)))⟩
 · have : args.size ≤ n := by simpa using hs
   simp [hn]
   omega
 · obtain ⟨_, h2⟩ := qx args.toList 0 t v hv
   have h3 : args[t]? = some v := by simpa using h2
   have h4 := (Array.getElem?_eq_some_iff.1 h3).1
   show (args ++ _)[t]? = some v
   rw [Array.getElem?_append_left h4]
   exact h3
theorem V3 {fn : Func} {Φ : Value → ja → Prop} (h : TQ G n ρ L .ret (bodyPost P fn (jN G Φ))) : TQ G n ρ L .ret (bodyPostM Fence.wide 0 P fn (jN G Φ)) :=
 ⟨fun a w he hw => by
   obtain ⟨h1, v, h2, h3⟩ := h.out a w he hw
   show LeavesInM Fence.wide 0 P fn a.tmps _ a.defers .returning w
   rw [h1]
   exact ⟨v, h2, h3⟩⟩
theorem uF {fn : Func} {Φ : Value → ja → Prop} (h : TQ G n ρ M .ret (bodyPost P fn (jN G Φ))) : TBQ G n ρ b ((b, shutO) :: M) .ret (bodyPostM Fence.wide 0 P fn (jN G Φ)) :=
 ⟨fun a w he hw => by
   show LeavesInM Fence.wide 0 P fn a.tmps _ (a.defers ++ [qU b]) .returning w
   rw [he.defers]
   refine ⟨by simp, Or.inl ⟨b, _, rfl, run_takeDeferred (hw.get _ (List.mem_cons_self ..)), ?_⟩⟩
   obtain ⟨h1, v, h2, h3⟩ := h.out a _ he (Heap.put (O' := .deferred none) hw).tail
   exact ⟨v, h2, h3⟩⟩
theorem TBQ_heap {L' : ja} {x : Exit} (hh : ∀ w, Heap G w L → Heap G w L') (h : TBQ G n ρ b L' x Q) : TBQ G n ρ b L x Q := ⟨fun a w he hw => h.out a w he (hh w hw)⟩
end
end Go.Proofs.YtgjlbilcnlffgaaGreatDoor.Ev
namespace Go.Proofs.YtgjlbilcnlffgaaGreatDoor.Ev
open Go
section
variable {P : Program} {G : World} {n : Nat} {ρ : jh} {L M : ja} {ops : Array Oper} {Q : Exit → Act → World → Prop} {R : Fence} {k : Nat}
theorem then_lo {Q : Exit → Act → World → Prop} {K : Act → World → Prop} (h : ¬ LetsOut Q) : ¬ LetsOut (Exit.then K Q) := fun h' => h h'
theorem inBlock_lo {Q : Exit → Act → World → Prop} {id : Nat} (h : ¬ LetsOut Q) : ¬ LetsOut (Exit.inBlock id Q) := fun h' => h h'
theorem V4 (hR : Wide R) (hlo : ¬ LetsOut Q) {id : Nat} (hm : P.follows .mixedOrders = true) (hp : allB kU ops.toList = true) (K : ja) (W : List Nat) (h : TA P G ops n K W Q ops.size (Array.replicate ops.size false) ρ L) : TI R k P G n ρ L (.region id ops true) Q :=
 ⟨fun a w he hw => wpIn_region_any hm (hR.any hlo (fun i o ho => kp hp o (by rw [Array.mem_toList_iff]; exact Array.mem_of_getElem? ho)) _ (h.sound _ _ _ _ a _ he (hw.same ⟨rfl, rfl, rfl, Nat.le_refl _⟩ rfl)))⟩
theorem TB_draw {b : Nat} {id : Nat} (hm : P.follows .mixedOrders = true) (K : ja) (W : List Nat) (h : TA P G ops n K W (fun e a w => Q e (YE b a) w) ops.size (Array.replicate ops.size false) ρ L) : TB P G n ρ b L (.region id ops true) Q :=
 ⟨fun a w he hw => wp_region_any hm (uv (D := [qU b]) (fun e a w h => h) _ (h.sound _ _ _ _ a _ he (hw.same ⟨rfl, rfl, rfl, Nat.le_refl _⟩ rfl)))⟩
theorem regI {l : Nat} {id : Nat} {os : List Oper} (h : TL P G os.toArray n ρ L os Q) (hlo : ¬ LetsOut Q := by repeat (first | with_reducible exact Go.Proofs.YtgjlbilcnlffgaaGreatDoor.Ev.bodyPost_lo | with_reducible exact Go.Proofs.YtgjlbilcnlffgaaGreatDoor.Ev.assignPost_lo | with_reducible apply Go.Proofs.YtgjlbilcnlffgaaGreatDoor.Ev.then_lo | with_reducible apply Go.Proofs.YtgjlbilcnlffgaaGreatDoor.Ev.inBlock_lo)) (hp : allB kU os = true := by exact rfl) : TI (Fence.wide.inRound l) k P G n ρ L (.region id os.toArray false) Q := ZR (yb l) hlo hp h
theorem drawI {l : Nat} {id : Nat} (K : ja) (W : List Nat) (hm : P.follows .mixedOrders = true) (h : TA P G ops n K W Q ops.size (Array.replicate ops.size false) ρ L) (hlo : ¬ LetsOut Q := by repeat (first | with_reducible exact Go.Proofs.YtgjlbilcnlffgaaGreatDoor.Ev.bodyPost_lo | with_reducible exact Go.Proofs.YtgjlbilcnlffgaaGreatDoor.Ev.assignPost_lo | with_reducible apply Go.Proofs.YtgjlbilcnlffgaaGreatDoor.Ev.then_lo | with_reducible apply Go.Proofs.YtgjlbilcnlffgaaGreatDoor.Ev.inBlock_lo)) (hp : allB kU ops.toList = true := by exact rfl) : TI (Fence.wide.inRound l) k P G n ρ L (.region id ops true) Q := V4 (yb l) hlo hm hp K W h
theorem TI_heap {c : Code} {L' : ja} (hh : ∀ w, Heap G w L → Heap G w L') (h : TI R k P G n ρ L' c Q) : TI R k P G n ρ L c Q := ⟨fun a w he hw => h.out a w he (hh w hw)⟩
end
end Go.Proofs.YtgjlbilcnlffgaaGreatDoor.Ev
namespace Go.Proofs.YtgjlbilcnlffgaaGreatDoor
open Go.RowKit
section
variable {G : World} {P : Program} {n : Nat} {ρ : jh} {L : ja}
theorem Qd {a b : Nat} {t : TypeId} {C : Array Value} {te : TypeId} {fr : Nat × Nat} {v : Value} {ac : Act} {w : World} (he : Env n ρ ac) (hv : ρ.lookup a = some (.pointer (some ⟨b, 0, none⟩))) (ht : qn P t = true) (hg : w.heap[b]? = some (.cells C te fr)) (hk : C[0]? = some v) :
 ac.tmps.getD a undef = .pointer (some ⟨b, 0, none⟩) ∧ (loadVar t ⟨b, 0, none⟩).run P w = .ok v w := by
 have h1 : ac.tmps.getD a undef = .pointer (some ⟨b, 0, none⟩) := he.reads (.tmp a) _ hv
 refine ⟨h1, ?_⟩
 unfold qn at ht
 cases hu : P.underlying t with
 | none => simp [hu] at ht
 | some d =>
   simp only [hu] at ht
   have hc : w.cell? ⟨b, 0, none⟩ = some v := by
    unfold World.cell?
    rw [hg]
    simpa using hk
   have ha : (isAgg t).run P w = .ok false w := by
    unfold isAgg
    cases d <;> simp_all [run_underlying hu, J7]
   simp [loadVar, ha, load, Sem.run, hc]
theorem afS {fn : Func} {Φ : Value → ja → Prop} (a t c u : Nat) {b d : Nat} {C D : Array Value} {te ue : TypeId} {fr gr : Nat × Nat} {x y : Value} {M : ja} (hr : fn.results = #[.cell a t, .cell c u]) (hv : ρ.lookup a = some (.pointer (some ⟨b, 0, none⟩))) (hx : ρ.lookup c = some (.pointer (some ⟨d, 0, none⟩)))
 (ht : qn P t = true) (hu : qn P u = true) (hm : (b, Obj.cells C te fr) ∈ L) (hn : (d, Obj.cells D ue gr) ∈ L) (hC : C[0]? = some x) (hD : D[0]? = some y) (h : Φ (.tuple #[x, y]) M) (hf : ∀ p, cnt p M ≤ cnt p L) : TQ G n ρ L .ret (bodyPost P fn (jN G Φ)) :=
 ⟨fun ac w he hw => ⟨he.defers, .tuple #[x, y], by
   obtain ⟨h1, h0⟩ := Qd he hv ht (hw.get _ hm) hC
   obtain ⟨h2, h3⟩ := Qd he hx hu (hw.get _ hn) hD
   rw [Array.getD_eq_getD_getElem?] at h1 h2
   simp only [results, hr]
   simp
   simp [h1, asAddr, h0, h2, h3], _, M, rfl, h, hw.cnt hf⟩⟩
theorem Q2 {fn : Func} {Φ : Value → ja → Prop} (a t c u e s : Nat) {b d f k : Nat} {C D F : Array Value} {te ue se : TypeId} {fr gr sr : Nat × Nat} {y z : Value} {M : ja} (hr : fn.results = #[.cell a t, .cell c u, .cell e s]) (hv : ρ.lookup a = some (.pointer (some ⟨b, 0, none⟩))) (hx : ρ.lookup c = some (.pointer (some ⟨d, 0, none⟩))) (hz : ρ.lookup e = some (.pointer (some ⟨f, 0, none⟩)))
 (ht : j8 P t k = true) (hu : qn P u = true) (hs : qn P s = true) (hm : (b, Obj.cells C te fr) ∈ L) (hn : (d, Obj.cells D ue gr) ∈ L) (ho : (f, Obj.cells F se sr) ∈ L) (hC : C.size = k) (hD : D[0]? = some y) (hF : F[0]? = some z) (h : Φ (.tuple #[.agg C, y, z]) M) (hf : ∀ p, cnt p M ≤ cnt p L) : TQ G n ρ L .ret (bodyPost P fn (jN G Φ)) :=
 ⟨fun ac w he hw => ⟨he.defers, .tuple #[.agg C, y, z], by
   obtain ⟨h1, h0⟩ := Wv he hv ht (hw.get _ hm) hC
   obtain ⟨h2, h3⟩ := Qd he hx hu (hw.get _ hn) hD
   obtain ⟨h4, h5⟩ := Qd he hz hs (hw.get _ ho) hF
   rw [Array.getD_eq_getD_getElem?] at h1 h2 h4
   simp only [results, hr]
   simp
   simp [h1, asAddr, h0, h2, h3, h4, h5], _, M, rfl, h, hw.cnt hf⟩⟩
end
end Go.Proofs.YtgjlbilcnlffgaaGreatDoor
namespace Go.Proofs.YtgjlbilcnlffgaaGreatDoor
open Go.RowKit
section
variable {P : Program} {G : World} {n : Nat} {ρ : jh} {L : ja} {ty : TypeId} {Q : Exit → Act → World → Prop} {ops : Array Oper}
theorem aaP {K : ja} {W : List Nat} {fuel : Nat} {listed : Array Bool} {M : ja} (i : Nat) {d : Nat} {op : Op} {pos : String} {after : Array Edge} {Φ : Value → ja → Prop}
 (hO : OpT P G ρ M op ty Φ) (h : ∀ v L', Φ v L' → (∀ p ∈ K, p ∈ L') ∧ TA P G ops n K W Q fuel (listed.setIfInBounds i true) ((d, v) :: ρ) L') (hi : ops[i]? = some ⟨some d, op, ty, pos, after, none⟩ := by exact rfl) (hf : Fits M L := by exact j5)
 (hdn : Nat.blt d n = true := by exact rfl) (hr : Region.ready .any ops listed = [i] := by decide +kernel) : TA P G ops n K W Q (fuel + 1) listed ρ L :=
 uc i hr hi rfl hdn rfl (hO.fits hf) fun v L' hv => ⟨Or.inr (h v L' hv).1, (h v L' hv).2⟩
theorem adY {K : ja} {W : List Nat} {fuel : Nat} {listed : Array Bool} {L' : ja} (i : Nat) {x y : Operand} {pos : String} {after : Array Edge} {b off : Nat} {t : TypeId} {C C' : Array Value} {te : TypeId} {v u : Value}
 (h : TA P G ops n K W Q fuel (listed.setIfInBounds i true) ρ L') (hW : i ∈ W := by decide) (hi : ops[i]? = some ⟨none, .store t x y, ty, pos, after, none⟩ := by exact rfl) (hx : ev ρ x = some (.pointer (some ⟨b, off, none⟩)) := by exact rfl) (hy : ev ρ y = some v := by exact rfl)
 (h1 : zG P t = true := by exact onO) (hu : Upd b (.cells C te (0, 0)) (.cells C' te (0, 0)) L L' := by exact ab2) (hone : v.oneCell' = true := by exact rfl) (hv : C[off]? = some u := by exact Vr) (hC : C.setIfInBounds off v = C' := by exact rfl) (hr : Region.ready .any ops listed = [i] := by decide +kernel) :
 TA P G ops n K W Q (fuel + 1) listed ρ L := by
 obtain ⟨R, p1, p2⟩ := hu.perm
 refine uA i hr hi rfl rfl (OpT.heap (fun w hw => hw.perm p1) (Uu hx hy h1 hone hv hC)) ?_
 rintro _ _ ⟨_, rfl⟩
 exact ⟨Or.inl hW, qM p2 h⟩
theorem V5 {K : ja} {W : List Nat} {fuel : Nat} {listed : Array Bool} {L' : ja} (i : Nat) {x y : Operand} {pos : String} {after : Array Edge} {b off : Nat} {t : TypeId} {C C' : Array Value} {te : TypeId} {v u : Value}
 (h : TA P G ops n K W Q fuel (listed.setIfInBounds i true) ρ L') (hi : ops[i]? = some ⟨none, .store t x y, ty, pos, after, none⟩ := by exact rfl) (hx : ev ρ x = some (.pointer (some ⟨b, off, none⟩)) := by exact rfl) (hy : ev ρ y = some v := by exact rfl)
 (h1 : zG P t = true := by exact onO) (hu : Upd b (.cells C te (0, 0)) (.cells C' te (0, 0)) L L' := by exact ab2) (hone : v.oneCell' = true := by exact rfl) (hv : C[off]? = some u := by exact Vr) (hC : C.setIfInBounds off v = C' := by exact rfl) (hr : Region.ready .any ops listed = [i] := by decide +kernel) (hK : ∀ p ∈ K, p ∈ L' := by exact j3) :
 TA P G ops n K W Q (fuel + 1) listed ρ L := by
 obtain ⟨R, p1, p2⟩ := hu.perm
 refine uA i hr hi rfl rfl (OpT.heap (fun w hw => hw.perm p1) (Uu hx hy h1 hone hv hC)) ?_
 rintro _ _ ⟨_, rfl⟩
 exact ⟨Or.inr fun p hp => p2.mem_iff.2 (hK p hp), qM p2 h⟩
end
end Go.Proofs.YtgjlbilcnlffgaaGreatDoor
namespace Go.Proofs.YtgjlbilcnlffgaaGreatDoor
open Go.RowKit
open Cn (Zo Cf)
open Ev (YD RoundS ye kE TLI Kh VH uQ Ki kr)
variable {G : World} {L : ja}
def zf (at_ : Nat) (p : Nm.Bytes × Bool) : Value := .agg #[.int .i64 (at_ : Nat), .string (bs p.1), .bool p.2]
def qE : Nat → Cn.Rows → List Value
 | _, [] => []
 | at_, p :: rs => zf at_ p :: qE (at_ + (p.1.length + 1)) rs
theorem row_built (x : Int) (s : ByteArray) (b : Bool) : Built Tryz.prog 71 [(0, .int .i64 x), (1, .string s), (2, .bool b)] (.agg #[.int .i64 x, .string s, .bool b]) := ⟨fun w => by kernel_rfl⟩
theorem Q3 (t : Nm.Bytes) : t = [] ∨ ((10 : UInt8) ∉ t ∧ t ≠ [] ∧ Lib.cut t [10] = (t, [], false) ∧ Cn.rowsP t = [(t, false)]) ∨
 ∃ l r, t = l ++ 10 :: r ∧ (10 : UInt8) ∉ l ∧ Lib.cut t [10] = (l, r, true) ∧ Cn.rowsP t = (l, true) :: Cn.rowsP r := by
 rcases ZO 10 t with h | ⟨l, r, rfl, h⟩
 · by_cases h0 : t = []
   · exact Or.inl h0
   · exact Or.inr (Or.inl ⟨h, h0, adG h, Cn.rowsP_end t h h0⟩)
 · exact Or.inr (Or.inr ⟨l, r, rfl, h, aaI h, Cn.rowsP_line l r h⟩)
theorem adZ (t : Nm.Bytes) (h : t ≠ []) : ∃ a b e, Lib.cut t [10] = (a, b, e) ∧ Cn.rowsP t = (a, e) :: Cn.rowsP (t.drop (a.length + 1)) ∧ a.length ≤ t.length := by
 rcases Q3 t with h0 | ⟨h10, hne, hct, hrw⟩ | ⟨l, r, rfl, h10, hct, hrw⟩
 · exact absurd h0 h
 · refine ⟨_, _, _, hct, ?_, Nat.le_refl _⟩
   rw [hrw, List.drop_eq_nil_iff.2 (by omega), Cn.rowsP_nil]
 · refine ⟨_, _, _, hct, ?_, by simp⟩
   rw [hrw, show (l ++ 10 :: r).drop (l.length + 1) = r by rw [List.drop_append, List.drop_eq_nil_iff.2 (by omega)]; simp]
structure LInv {α : Type} (step : α → Value → Option Exit × α) (Inv : α → ja → Prop) (Nx : α → Value → Prop) (vs : List Value) (s : Nm.Bytes) (a0 : α) (x : Nat × α × ja) : Prop where
 inv : Inv x.2.1 x.2.2
 run : kE step a0 vs = kE step x.2.1 (qE x.1 (Cn.rowsP (s.drop x.1)))
 ch : ye step Nx x.2.1 (qE x.1 (Cn.rowsP (s.drop x.1)))
 le : x.1 ≤ s.length + 1
theorem YF (s : Nm.Bytes) : Spec Tryz.prog G 21 #[.string (bs s)] L fun u M => ∃ b, u = .func (.func 48) #[] #[.pointer (some ⟨b, 0, none⟩)] ∧ M = (b, Obj.cells #[.string (bs s)] 9 (0, 0)) :: L := by
 refine jw (n := 4) Tryz.func21 rfl rfl rfl ?_
 repeat (first | refine goU ?_ | (refine kq ?_; intro bBox))
 refine jm (agq (vs := [.pointer (some ⟨bBox, 0, none⟩)]) rfl) rfl ?_
 refine goU ?_
 exact kw 2 rfl rfl ⟨bBox, rfl, rfl⟩ kA
theorem aaQ (s : Nm.Bytes) (hs : s.length ≤ 1000000) (b : Nat) (K : ja) {tS : TypeId} {frS : Nat × Nat} (hK : (b, Obj.cells #[.string (bs s)] tS frS) ∈ K) (hg : Glob K) : YD Tryz.prog 48 #[.pointer (some ⟨b, 0, none⟩)] (qE 0 (Cn.rowsP s)) K := by
 intro α G l rc step Inv Nx a M hps hrd hch hKI hI
 show Spec Tryz.prog G 48 #[.func (.yield l) #[] #[], .pointer (some ⟨b, 0, none⟩)] ((l, .loop rc) :: M) _
 refine jw (n := 31) Tryz.func48 rfl rfl rfl ?_
 refine goU ?_
 refine kv (σ := Nat × α × ja) (LInv step Inv Nx (qE 0 (Cn.rowsP s)) s a) (fun x => [(0, .func (.yield l) #[] #[]), (1, .pointer (some ⟨b, 0, none⟩)), (3, .int .i64 (x.1 : Nat))]) (fun x => (l, .loop rc) :: x.2.2) (fun x => s.length + 1 - x.1) (0, a, M) ⟨hI, rfl, hch, by dsimp only; omega⟩ ?_ (fun w h => h) ?_
 · exact qd
 rintro ⟨k, a', M'⟩ ⟨hI', hrun, hch', hk⟩
 dsimp only at hI' hrun hch' hk ⊢
 have hKM : ∀ p ∈ K, p ∈ M' := hKI _ _ hI'
 have hcell := hKM _ hK
 have hlen : (s.drop k).length = s.length - k := List.length_drop ..
 have fin : ∀ j M2, Inv (kE step a (qE 0 (Cn.rowsP s))).2 M2 → (kE step a (qE 0 (Cn.rowsP s))).1 = j → ∃ M2', Inv (kE step a (qE 0 (Cn.rowsP s))).2 M2' ∧ (l, Obj.loop (kr rc j)) :: M2 = (l, Obj.loop (kr rc (kE step a (qE 0 (Cn.rowsP s))).1)) :: M2' := fun j M2 h1 h2 => ⟨M2, h1, by rw [h2]⟩
 by_cases h0 : s.drop k = []
 · rw [h0] at hrun hlen
   have hk2 : ¬ (k : Int) < s.length := by simp at hlen; omega
   refine goU ?_
   refine afQ rfl ?_ (M := (l, .loop rc) :: M') kA
   exact fin none M' (by rw [hrun]; exact hI') (by rw [hrun]; rfl)
 have hk2 : (k : Int) < s.length := by have := List.length_pos_iff.2 h0; omega
 obtain ⟨t, b1, e, hct, hrw, htl⟩ := adZ _ h0
 rw [hrw, List.drop_drop] at hrun hch'
 obtain ⟨hv, hch2⟩ := hch'
 refine jH (jH ?_)
 refine goW ?_
 refine jH ?_
 refine goW ?_
 refine yj (aaH (s.drop k) (by omega) (hg.mono fun p hp => List.mem_cons_of_mem _ (hKM p hp))) ?_
 rw [hct]
 dsimp only
 refine goW ?_
 refine jH (jH ?_)
 refine Kh ?_
 refine uQ (j0 (v := .func (.yield l) #[] #[]) rfl) (by simp) rfl ?_
 refine uQ (j0 (v := .int .i64 (k : Nat)) rfl) (by simp) rfl ?_
 refine uQ (j0 (v := .string (bs t)) rfl) (by simp) rfl ?_
 refine uQ (j0 (v := .bool e) rfl) (by simp) rfl ?_
 refine uQ (jb rfl (row_built _ _ _)) (by simp) rfl ?_
 refine Ki (V := zf k (t, e)) (l := l) (rc := rc) rfl rfl (List.mem_cons_self ..) hps rfl (hrd.out hv hI') ?_
 rintro u M2 ⟨rfl, M3, hI3, rfl⟩
 refine uQ (Vf rfl) (by simp) rfl (VH (jR ?_))
 rw [qE, kE] at hrun
 cases hst : (step a' (zf k (t, e))).1 with
 | some x =>
   have hst2 : step a' (zf k (t, e)) = (some x, (step a' (zf k (t, e))).2) := by rw [← hst]
   rw [hst2] at hrun
   refine goU ?_
   refine afQ rfl ?_ (M := (l, .loop (kr rc (some x))) :: M3) kA
   exact fin (some x) M3 (by rw [hrun]; exact hI3) (by rw [hrun])
 | none =>
   have hst2 : step a' (zf k (t, e)) = (none, (step a' (zf k (t, e))).2) := by rw [← hst]
   rw [hst2] at hrun
   refine goU ?_
   refine jG (k + (t.length + 1), (step a' (zf k (t, e))).2, M3) ⟨hI3, hrun, hch2 _ hst2, by dsimp only; omega⟩ ?_ (fun w h => h) (by dsimp only; omega)
   dsimp only
   rw [show ((k + (t.length + 1) : Nat) : Int) = (k : Int) + ((t.length : Int) + 1) by omega]
   exact qd
end Go.Proofs.YtgjlbilcnlffgaaGreatDoor
namespace Go.Proofs.YtgjlbilcnlffgaaGreatDoor
open Go.RowKit
open Cn (Zo Cf)
open Ev (YD RoundS ye kE ZR uL z8 Qc Kp yX z9 kW V4 yY yg Ja Jb V3 uF aaO)
variable {G : World} {L : ja}
def ZS : Cn.Rows → Nat → Nat
 | _, 0 => 0
 | [], _ + 1 => 0
 | p :: rs, k + 1 => p.1.length + 1 + ZS rs k
theorem U2 (rs : Cn.Rows) : ZS rs 0 = 0 := by cases rs <;> rfl
theorem ZT (ls : List Nm.Bytes) (rest : Cn.Rows) : ∀ k, k ≤ ls.length → ZS (ls.map (fun l => (l, true)) ++ rest) k = (Cn.unlines (ls.take k) []).length := by
 induction ls with
 | nil => intro k hk; simp at hk; subst hk; rw [U2]; rfl
 | cons l ls ih =>
   intro k hk
   cases k with
   | zero => rw [U2]; rfl
   | succ k =>
     rw [List.take_succ_cons, Cn.unlines_cons, List.map_cons, List.cons_append, ZS, ih k (by simpa using hk)]
     simp
     omega
theorem ab5 (s : Nm.Bytes) (k : Nat) (hk : k < (Cn.rowsP s).length) : ZS (Cn.rowsP s) k = (Cn.unR ((Cn.rowsP s).take k)).length := by
 unfold Cn.rowsP Cn.rowsOf at *
 generalize (Cn.linesP s).1 = ls at *
 generalize (Cn.linesP s).2 = r at *
 have h1 : k ≤ ls.length := by
  unfold Cn.tailR at hk
  split at hk
  · simp at hk; omega
  · simp at hk; omega
 rw [ZT _ _ _ h1, List.take_append_of_le_length (by simpa using h1), ← List.map_take, Cn.unR_lines]
theorem afr (rs : Cn.Rows) : ∀ k, (Cn.unR (rs.take k)).length ≤ (Cn.unR rs).length := fun k => by
 have e := Cn.unR_append (rs.take k) (rs.drop k)
 rw [List.take_append_drop] at e
 rw [e, List.length_append]
 omega
theorem zw (s : Nm.Bytes) : (Cn.rowsP s).length ≤ s.length := by
 have h : ∀ (n : Nat) (s : Nm.Bytes), s.length = n → (Cn.rowsP s).length ≤ s.length := by
  intro n
  induction n using Nat.strongRecOn with
  | _ n ih =>
    intro s hn
    rcases Q3 s with rfl | ⟨_, hne, _, hr⟩ | ⟨l, r, rfl, _, _, hr⟩
    · exact Nat.le_refl _
    · rw [hr]
      exact List.length_pos_iff.2 hne
    · rw [hr]
      have := ih r.length (by subst hn; simp; omega) r rfl
      simp
      omega
 exact h _ s rfl
theorem U3 {s : Nm.Bytes} {p : Nm.Bytes × Bool} (h : p ∈ Cn.rowsP s) : p.1.length ≤ s.length := by
 have h2 : ∀ rs : Cn.Rows, p ∈ rs → p.1.length ≤ (Cn.unR rs).length := fun rs => by
  induction rs with
  | nil => intro h; cases h
  | cons q rs ih =>
    intro h
    have e : Cn.unR (q :: rs) = (if q.2 then q.1 ++ [10] else q.1) ++ Cn.unR rs := by simp [Cn.unR]
    rw [e, List.length_append]
    rcases List.mem_cons.1 h with rfl | h
    · split <;> simp <;> omega
    · have := ih h; omega
 have := h2 _ h
 rwa [Cn.unR_P] at this
def YG : Value → Nm.Bytes
 | .agg a => match a[1]? with
   | some (Value.string t) => t.data.toList
   | _ => []
 | _ => []
def atV : Value → Value
 | .agg a => a[0]?.getD .nilFunc
 | _ => .nilFunc
theorem yZ (at_ : Nat) (p : Nm.Bytes × Bool) : YG (zf at_ p) = p.1 := by simp [YG, zf, bs]
def Q4 (x : Nat × Value) (v : Value) : Option Exit × (Nat × Value) := if Cn.isSeed (YG v) then (some .ret, (x.1, atV v)) else (none, (x.1 + 1, x.2))
def NxH (x : Nat × Value) (v : Value) : Prop := x.1 ≤ 1000000 ∧ ∃ at_ p, v = zf at_ p ∧ p.1.length ≤ 1000000
theorem Kq : ∀ (rs : Cn.Rows) (at_ c : Nat) (r : Value), kE Q4 (c, r) (qE at_ rs) = if Cn.kS rs < rs.length then (some .ret, (c + Cn.kS rs, .int .i64 ((at_ + ZS rs (Cn.kS rs) : Nat) : Int))) else (none, (c + rs.length, r))
 | [], at_, c, r => rfl
 | p :: rs, at_, c, r => by
   rw [qE, kE, Cn.kS, Q4, yZ]
   by_cases h : Cn.isSeed p.1 = true
   · rw [if_pos h, if_pos h, if_pos (by simp)]
     rfl
   · rw [if_neg h, if_neg h]
     dsimp only
     rw [Kq rs]
     by_cases h2 : Cn.kS rs < rs.length
     · rw [if_pos h2, if_pos (by simpa using h2), ZS]
       congr 2
       · omega
       · congr 2; omega
     · rw [if_neg h2, if_neg (by simpa using h2), List.length_cons]
       congr 2
       omega
theorem Q5 : ∀ (rs : Cn.Rows) (at_ c : Nat) (r : Value), c + rs.length ≤ 1000000 → (∀ p ∈ rs, p.1.length ≤ 1000000) → ye Q4 NxH (c, r) (qE at_ rs)
 | [], at_, c, r, _, _ => trivial
 | p :: rs, at_, c, r, h, hp => by
   refine ⟨⟨by rw [List.length_cons] at h; dsimp only; omega, at_, p, rfl, hp p (List.mem_cons_self ..)⟩, fun b hb => ?_⟩
   rw [Q4] at hb
   split at hb
   · cases hb
   · cases hb
     exact Q5 rs _ _ _ (by rw [List.length_cons] at h; omega) fun q hq => hp q (List.mem_cons_of_mem _ hq)
def ahQ (b2 b3 : Nat) (K : ja) (x : Nat × Value) (M : ja) : Prop := x.2.oneCell' = true ∧ M = (b2, Obj.cells #[x.2] 3 (0, 0)) :: (b3, Obj.cells #[.int .i64 (x.1 : Nat)] 3 (0, 0)) :: K
theorem aaR {t : Nm.Bytes} : Cn.isSeed t = (t == Cn.seedW || (Cn.seedW ++ [32]).isPrefixOf t) := rfl
theorem KP (s p : Nm.Bytes) (hs : s.length ≤ 1000000) (hp : p.length ≤ 1000000) : Spec Tryz.prog G 43 #[.string (bs s), .string (bs p)] L fun u M => u = .bool (p.isPrefixOf s) ∧ M = L := by
 refine Spec.ofSame fun w => (Tryz.strings_HasPrefix (bs s) (bs p) w).mono fun e w' ⟨he, hw'⟩ => ⟨?_, hw'.symm⟩
 rw [he]
 rfl
theorem agr (s : Nm.Bytes) (hs : s.length ≤ 1000000) (hg : Glob L) : Spec Tryz.prog G 19 #[.string (bs s)] L fun u M => u = .tuple #[.int .i64 ((Cn.unR ((Cn.rowsP s).take (Cn.kS (Cn.rowsP s)))).length : Nat), .int .i64 (Cn.kS (Cn.rowsP s) : Nat)] ∧ M = L := by
 have hrl := zw s
 have htx : ∀ p ∈ Cn.rowsP s, p.1.length ≤ 1000000 := fun p hp => by have := U3 hp; omega
 refine Jb (n := 24) Tryz.func19 rfl rfl rfl ?_
 refine jH (jL ?_)
 refine jz ?_; intro b2
 refine jz ?_; intro b3
 refine goW ?_
 refine jH (jH (jL ?_))
 refine goW ?_
 refine z6 (YF s) ?_
 rintro _ _ ⟨b6, rfl, rfl⟩
 refine goW ?_
 refine Qj (L' := (b2, Obj.cells #[.int .i64 0] 3 (0, 0)) :: (b3, Obj.cells #[.int .i64 0] 3 (0, 0)) :: (b6, Obj.cells #[.string (bs s)] 9 (0, 0)) :: L) (fun w h => by
  have h' : Heap G w ((b6, Obj.cells #[.string (bs s)] 9 (0, 0)) :: (b3, Obj.cells #[.int .i64 0] 3 (0, 0)) :: (b2, Obj.cells #[.int .i64 0] 3 (0, 0)) :: L) := h
  exact Heap.cnt h' (by intro p; (try simp only [jt, jy, jE]) <;> omega)) ?_
 refine Ja (α := Nat × Value) (step := Q4) (Inv := ahQ b2 b3 ((b6, Obj.cells #[.string (bs s)] 9 (0, 0)) :: L)) (Nx := NxH) (vs := qE 0 (Cn.rowsP s)) (K := (b6, Obj.cells #[.string (bs s)] 9 (0, 0)) :: L) (a0 := (0, .int .i64 0)) (by decide) rfl (by kernel_rfl) (aaQ s hs b6 _ (List.mem_cons_self ..) (hg.mono fun p hp => List.mem_cons_of_mem _ hp)) ?_ ⟨rfl, rfl⟩ (Q5 _ _ _ _ (by omega) htx) ?_ ?_ ?_
 · intro a N hN q hq
   obtain ⟨_, rfl⟩ := hN
   exact List.mem_cons_of_mem _ (List.mem_cons_of_mem _ hq)
 · rintro l b rc ⟨c, r⟩ v M ⟨hc, at_, p, rfl, hp⟩ ⟨ho, rfl⟩
   dsimp only at hc ho ⊢
   unfold zf
   refine Ev.regI ?_
   refine jz ?_; intro b4
   refine goU ?_
   refine af3 (L' := (l, .loop rc) :: (b, Ev.shutO) :: ((b4, Obj.cells #[.int .i64 (at_ : Nat), .string (bs p.1), .bool p.2] 71 (0, 0)) :: (b2, Obj.cells #[r] 3 (0, 0)) :: (b3, Obj.cells #[.int .i64 (c : Nat)] 3 (0, 0)) :: (b6, Obj.cells #[.string (bs s)] 9 (0, 0)) :: L)) ?_ (by intro p; (try simp only [jt, jy, jE]) <;> omega)
   refine yY ?_
   refine z8 (uL (uL ?_))
   refine Ev.regI ?_
   have hKK : ∀ q ∈ (b6, Obj.cells #[.string (bs s)] 9 (0, 0)) :: L, q ∈ (b6, Obj.cells #[.string (bs s)] 9 (0, 0)) :: L := fun q hq => hq
   by_cases hse : Cn.isSeed p.1 = true
   · have hst : Q4 (c, r) (.agg #[.int .i64 (at_ : Nat), .string (bs p.1), .bool p.2]) = (some .ret, (c, .int .i64 (at_ : Nat))) := if_pos hse
     rw [hst]
     have hcs : p.1 = Cn.seedW ∨ (¬ p.1 = Cn.seedW ∧ (Cn.seedW ++ [32]).isPrefixOf p.1 = true) := by
      rw [aaR, Bool.or_eq_true] at hse
      by_cases hq : p.1 = Cn.seedW
      · exact Or.inl hq
      · refine Or.inr ⟨hq, hse.resolve_left fun k => hq (by simpa using k)⟩
     unfold Cn.seedW at hcs
     have fin : ∀ (K : Act → World → Prop) (ρ : jh) (M : ja), (∀ p', cnt p' ((l, Obj.loop { rc with state := .busy }) :: (b, Ev.shutO) :: (b2, Obj.cells #[.int .i64 (at_ : Nat)] 3 (0, 0)) :: (b3, Obj.cells #[.int .i64 (c : Nat)] 3 (0, 0)) :: (b6, Obj.cells #[.string (bs s)] 9 (0, 0)) :: L) ≤ cnt p' M) →
      TQ G 24 ρ M .ret (Ev.BodyPost G l b rc (some .ret) (ahQ b2 b3 ((b6, Obj.cells #[.string (bs s)] 9 (0, 0)) :: L) (c, .int .i64 (at_ : Nat)))) := fun K ρ M h => jr (fun w hw => hw.cnt h) (yg (Or.inr (Or.inl ⟨rfl, rfl⟩)) ⟨rfl, rfl⟩)
     rcases hcs with hq | ⟨hq, hpre⟩
     · refine goU ?_
       refine kW (yX rfl (uL ?_))
       refine Ev.drawI [(b4, Obj.cells #[.int .i64 (at_ : Nat), .string (bs p.1), .bool p.2] 71 (0, 0)), (b3, Obj.cells #[.int .i64 (c : Nat)] 3 (0, 0))] [4] jx ?_
       refine tkQ 0 (hK := j3) ?_
       refine tkQ 1 (hK := j3) ?_
       refine tkQ 2 (hK := j3) ?_
       refine V5 3 ?_
       refine adY 4 ?_
       refine tdQ ?_
       refine kW (Kp (ks (jW ?_)))
       exact fin (fun _ _ => True) _ ((l, Obj.loop { rc with state := .busy }) :: (b, Ev.shutO) :: (b4, Obj.cells #[.int .i64 (at_ : Nat), .string (bs p.1), .bool p.2] 71 (0, 0)) :: (b2, Obj.cells #[.int .i64 (at_ : Nat)] 3 (0, 0)) :: (b3, Obj.cells #[.int .i64 (c : Nat)] 3 (0, 0)) :: (b6, Obj.cells #[.string (bs s)] 9 (0, 0)) :: L) (by intro p; (try simp only [jt, jy, jE]) <;> omega)
     · refine goU ?_
       refine adS (KP p.1 [115, 101, 101, 100, 32] (by omega) (by simp)) ?_
       rw [show List.isPrefixOf [115, 101, 101, 100, 32] p.1 = true from hpre]
       refine goU ?_
       refine kW (yX rfl (uL ?_))
       refine Ev.drawI [(b4, Obj.cells #[.int .i64 (at_ : Nat), .string (bs p.1), .bool p.2] 71 (0, 0)), (b3, Obj.cells #[.int .i64 (c : Nat)] 3 (0, 0))] [4] jx ?_
       refine tkQ 0 (hK := j3) ?_
       refine tkQ 1 (hK := j3) ?_
       refine tkQ 2 (hK := j3) ?_
       refine V5 3 ?_
       refine adY 4 ?_
       refine tdQ ?_
       refine kW (Kp (ks (jW ?_)))
       exact fin (fun _ _ => True) _ ((l, Obj.loop { rc with state := .busy }) :: (b, Ev.shutO) :: (b4, Obj.cells #[.int .i64 (at_ : Nat), .string (bs p.1), .bool p.2] 71 (0, 0)) :: (b2, Obj.cells #[.int .i64 (at_ : Nat)] 3 (0, 0)) :: (b3, Obj.cells #[.int .i64 (c : Nat)] 3 (0, 0)) :: (b6, Obj.cells #[.string (bs s)] 9 (0, 0)) :: L) (by intro p; (try simp only [jt, jy, jE]) <;> omega)
   · have hst : Q4 (c, r) (.agg #[.int .i64 (at_ : Nat), .string (bs p.1), .bool p.2]) = (none, (c + 1, r)) := if_neg hse
     rw [hst]
     rw [aaR, Bool.or_eq_true, not_or] at hse
     obtain ⟨hq, hpre⟩ := hse
     have hq : ¬ p.1 = [115, 101, 101, 100] := fun k => hq (by rw [k]; rfl)
     refine goU ?_
     refine adS (KP p.1 [115, 101, 101, 100, 32] (by omega) (by simp)) ?_
     rw [show List.isPrefixOf [115, 101, 101, 100, 32] p.1 = false from Bool.not_eq_true _ ▸ hpre]
     refine goU ?_
     refine kW (z9 rfl (Qc (kW ?_)))
     refine Ev.regI ?_
     refine goU ?_
     refine jr (L' := (l, Obj.loop { rc with state := .busy }) :: (b, Ev.shutO) :: ((b2, Obj.cells #[r] 3 (0, 0)) :: (b3, Obj.cells #[.int .i64 ((c + 1 : Nat) : Int)] 3 (0, 0)) :: (b6, Obj.cells #[.string (bs s)] 9 (0, 0)) :: L)) (fun w h => by
      have h' : Heap G w ((l, Obj.loop { rc with state := .busy }) :: (b, Ev.shutO) :: (b4, Obj.cells #[.int .i64 (at_ : Nat), .string (bs p.1), .bool p.2] 71 (0, 0)) :: (b2, Obj.cells #[r] 3 (0, 0)) :: (b3, Obj.cells #[.int .i64 ((c + 1 : Nat) : Int)] 3 (0, 0)) :: (b6, Obj.cells #[.string (bs s)] 9 (0, 0)) :: L) := h
      exact Heap.cnt h' (by intro p; (try simp only [jt, jy, jE]) <;> omega)) ?_
     exact yg (Or.inl ⟨rfl, rfl⟩) ⟨ho, rfl⟩
 · intro x hx
   rw [Kq] at hx
   split at hx
   · cases hx; exact Or.inl rfl
   · cases hx
 · intro b M hM
   rw [Kq] at hM ⊢
   have e0 : Cn.unR (Cn.rowsP s) = s := Cn.unR_P s
   by_cases hk : Cn.kS (Cn.rowsP s) < (Cn.rowsP s).length
   · rw [if_pos hk] at hM ⊢
     obtain ⟨_, rfl⟩ := hM
     have ho := ab5 s _ hk
     refine Ev.TBQ_block_ret (Ev.TBQ_thenX (by simp) (uF ?_))
     refine afS 2 3 3 3 rfl rfl rfl (by kernel_rfl) (by kernel_rfl) (List.mem_cons_self ..) (List.mem_cons_of_mem _ (List.mem_cons_self ..)) rfl rfl ⟨?_, rfl⟩ (by intro p; (try simp only [jt, jy, jE]) <;> omega)
     rw [ho]
     simp
   · rw [if_neg hk] at hM ⊢
     obtain ⟨_, rfl⟩ := hM
     have hkl : Cn.kS (Cn.rowsP s) = (Cn.rowsP s).length := by have := Cn.kS_le (Cn.rowsP s); omega
     refine Ev.TBQ_block (Ev.TBQ_then (Ev.TB_seq ?_))
     refine Ev.TB_draw jx [(b3, Obj.cells #[.int .i64 ((0 + (Cn.rowsP s).length : Nat) : Int)] 3 (0, 0))] [4] ?_
     refine tkQ 0 (hK := j3) ?_
     refine tkQ 1 (hK := j3) ?_
     refine tkQ 2 (hK := j3) ?_
     refine V5 3 ?_
     refine adY 4 ?_
     refine tdQ ?_
     refine Ev.TQ_TB (Ev.TBQ_then (Ev.TB_ret ?_))
     refine Ev.TBQ_heap (L' := (b, Ev.shutO) :: ((b2, Obj.cells #[.int .i64 (s.length : Nat)] 3 (0, 0)) :: (b3, Obj.cells #[.int .i64 ((0 + (Cn.rowsP s).length : Nat) : Int)] 3 (0, 0)) :: (b6, Obj.cells #[.string (bs s)] 9 (0, 0)) :: L)) (fun w h => h) ?_
     refine uF ?_
     refine afS 2 3 3 3 rfl rfl rfl (by kernel_rfl) (by kernel_rfl) (List.mem_cons_self ..) (List.mem_cons_of_mem _ (List.mem_cons_self ..)) rfl rfl ⟨?_, rfl⟩ (by intro p; (try simp only [jt, jy, jE]) <;> omega)
     rw [hkl, List.take_length, e0]
     simp
end Go.Proofs.YtgjlbilcnlffgaaGreatDoor
namespace Go.Proofs.YtgjlbilcnlffgaaGreatDoor
open Go.RowKit
open Cn (Zo Cf Scr Evn)
variable {G : World} {L : ja}
def evR : Rp Evn := fun _ cs e => cs = [.int .u8 (e.kind : Nat), .int .i64 e.frm, .int .i64 e.num, .string (bs e.data)] ∧ e.kind ≤ 255 ∧ I64 e.frm ∧ I64 e.num ∧ e.data.length ≤ maxLen
def ahR : Rp Nat := fun _ cs n => cs = [.int .u64 (n : Nat)] ∧ n < 18446744073709551616
instance : Inhabited Evn := ⟨⟨0, 0, 0, []⟩⟩
def scC (x : Scr) (cv a b : Value) : List Value := jA x.cf cv ++ [.int .u64 (x.seed : Nat), a, b]
structure ScIn (x : Scr) (cv : Value) (C : List Value) (B : ja) : Prop where
 ex : ∃ a1 c1 B1 a2 c2 B2, C = scC x cv (.slice a1 x.first.length c1) (.slice a2 x.evs.length c2) ∧ ORow ahR 26 1 [] a1 c1 x.first B1 ∧ ORow evR 42 4 [] a2 c2 x.evs B2 ∧ B = B1 ++ B2
def Qe (bx : Nat) (cv : Value) (L : ja) (o : Option Scr) (u : Value) (M : ja) : Prop := ∃ C B, C.length = 16 ∧ M = (bx, Obj.cells C.toArray 36 (0, 0)) :: (B ++ L) ∧ match o with
 | some y => u = .bool true ∧ ScIn y cv C B
 | none => u = .bool false
theorem ScIn.len {x : Scr} {cv : Value} {C : List Value} {B : ja} (h : ScIn x cv C B) : C.length = 16 := by
 obtain ⟨_, _, _, _, _, _, rfl, _⟩ := h.ex
 rfl
abbrev ScM (bx : Nat) (C : List Value) (B L : ja) : ja := (bx, Obj.cells C.toArray 36 (0, 0)) :: (B ++ L)
theorem afs (bx : Nat) (x : Scr) (cv : Value) (C : List Value) (B : ja) (h : ScIn x cv C B) (bw : Nat) (ws : List Nm.Bytes) {tw : TypeId} {fw : Nat × Nat} (hw : (bw, Obj.cells (ws.map jZ).toArray tw fw) ∈ L) (hn : ws.length ≤ 1000000) (hl : ∀ w ∈ ws, w.length ≤ 1000000) (hg : GlobS L) :
 Spec Tryz.prog G 49 #[.pointer (some ⟨bx, 0, none⟩), .slice (some ⟨bw, 0, none⟩) ws.length ws.length] (ScM bx C B L) (Qe bx cv L ((Cn.seedP ws).map fun v => { x with seed := v })) := by
 obtain ⟨a1, c1, B1, a2, c2, B2, rfl, r1, r2, rfl⟩ := h.ex
 have hgM : GlobS (ScM bx (scC x cv (.slice a1 x.first.length c1) (.slice a2 x.evs.length c2)) (B1 ++ B2) L) := hg.mono (fun p hp => List.mem_cons_of_mem _ (List.mem_append_right _ hp))
 have hwM : (bw, Obj.cells (ws.map jZ).toArray tw fw) ∈ ScM bx (scC x cv (.slice a1 x.first.length c1) (.slice a2 x.evs.length c2)) (B1 ++ B2) L := List.mem_cons_of_mem _ (List.mem_append_right _ hw)
 refine jw (n := 28) Tryz.func49 rfl rfl rfl ?_
 by_cases h2 : ws.length = 2
 rotate_left
 · have e : Cn.seedP ws = none := by
    match ws, h2 with
    | [], _ => rfl
    | [_], _ => rfl
    | [_, _], h2 => exact absurd rfl h2
    | _ :: _ :: _ :: _, _ => rfl
   rw [e]
   refine goU ?_
   exact kw 4 rfl rfl ⟨_, _, rfl, rfl, rfl⟩ j5
 obtain ⟨x1, x2, rfl⟩ : ∃ x1 x2, ws = [x1, x2] := by
  match ws, h2 with
  | [x1, x2], _ => exact ⟨x1, x2, rfl⟩
 have hl2 := hl x2 (by simp)
 have d0 : (([x1, x2] : List Nm.Bytes).map jZ).toArray[0 + 0 * 1]? = some (.string (bs x1)) := rfl
 have d1 : (([x1, x2] : List Nm.Bytes).map jZ).toArray[0 + 1 * 1]? = some (.string (bs x2)) := rfl
 rw [show ([x1, x2] : List Nm.Bytes).length = 2 from rfl]
 by_cases hs : x1 = Cn.seedW
 rotate_left
 · have e : Cn.seedP [x1, x2] = none := if_neg hs
   rw [e]
   unfold Cn.seedW at hs
   refine goU ?_
   exact kw 4 rfl rfl ⟨_, _, rfl, rfl, rfl⟩ j5
 have e : Cn.seedP [x1, x2] = Cn.num64 x2 := if_pos hs
 rw [e]
 unfold Cn.seedW at hs
 refine goU ?_
 refine yj (Ko x2 hl2 hgM) ?_
 unfold ZP
 cases hn : Cn.num64 x2 with
 | none =>
   refine goU ?_
   exact kw 4 rfl rfl ⟨_, _, rfl, rfl, rfl⟩ j5
 | some n =>
   refine goU ?_
   exact kw 4 rfl rfl ⟨scC { x with seed := n } cv (.slice a1 x.first.length c1) (.slice a2 x.evs.length c2), B1 ++ B2, rfl, rfl, rfl, ⟨a1, c1, B1, a2, c2, B2, rfl, r1, r2, rfl⟩⟩ j5
theorem U4 {ws : List Nm.Bytes} {a : Nm.Bytes} (h1 : a = Cn.tapeW) (h2 : ws.length ≤ 256) : Cn.tapeP (a :: ws) = Cn.nums ws := if_pos ⟨h1, h2⟩
theorem V6 {ws : List Nm.Bytes} {a : Nm.Bytes} (h : ¬ (a = Cn.tapeW ∧ ws.length ≤ 256)) : Cn.tapeP (a :: ws) = none := if_neg h
theorem aft (bx : Nat) (x : Scr) (cv : Value) (C : List Value) (B : ja) (h : ScIn x cv C B) (h0 : x.first = []) (bw : Nat) (w0 : Nm.Bytes) (ws : List Nm.Bytes) {tw : TypeId} {fw : Nat × Nat} (hw : (bw, Obj.cells ((w0 :: ws).map jZ).toArray tw fw) ∈ L) (hn : ws.length ≤ 1000000) (hl : ∀ w ∈ ws, w.length ≤ 1000000) (hg : GlobS L) :
 Spec Tryz.prog G 50 #[.pointer (some ⟨bx, 0, none⟩), .slice (some ⟨bw, 0, none⟩) (w0 :: ws).length (w0 :: ws).length] (ScM bx C B L) (Qe bx cv L ((Cn.tapeP (w0 :: ws)).map fun v => { x with first := v })) := by
 obtain ⟨a1, c1, B1, a2, c2, B2, rfl, r1, r2, rfl⟩ := h.ex
 have hwM : ∀ (C : List Value) (B : ja), (bw, Obj.cells ((w0 :: ws).map jZ).toArray tw fw) ∈ ScM bx C B L := fun C B => List.mem_cons_of_mem _ (List.mem_append_right _ hw)
 have hgM : ∀ (C : List Value) (B : ja), GlobS (ScM bx C B L) := fun C B => hg.mono (fun p hp => List.mem_cons_of_mem _ (List.mem_append_right _ hp))
 rw [h0] at r1 ⊢
 have d0 : ((w0 :: ws).map jZ).toArray[0 + 0 * 1]? = some (.string (bs w0)) := rfl
 rw [List.length_cons]
 refine jw (n := 44) Tryz.func50 rfl rfl rfl ?_
 by_cases hs : w0 = Cn.tapeW
 rotate_left
 · rw [V6 (fun q => hs q.1)]
   unfold Cn.tapeW at hs
   have q := hwM (scC x cv (.slice a1 0 c1) (.slice a2 x.evs.length c2)) (B1 ++ B2)
   refine goU ?_
   exact kw 4 rfl rfl ⟨_, _, rfl, rfl, rfl⟩ j5
 by_cases hn2 : ws.length ≤ 256
 rotate_left
 · rw [V6 (fun q => hn2 q.2)]
   unfold Cn.tapeW at hs
   have q := hwM (scC x cv (.slice a1 0 c1) (.slice a2 x.evs.length c2)) (B1 ++ B2)
   refine goU ?_
   exact kw 4 rfl rfl ⟨_, _, rfl, rfl, rfl⟩ j5
 rw [U4 hs hn2]
 unfold Cn.tapeW at hs
 have q := hwM (scC x cv (.slice a1 0 c1) (.slice a2 x.evs.length c2)) (B1 ++ B2)
 have hct : ws ≠ [] → uM (some ⟨bw, 0, none⟩) (ws.length + 1) 1 1 = some ⟨bw, 1, none⟩ := fun k => by
  have := List.length_pos_iff.2 k
  unfold uM
  first
  | (rw [if_neg (by omega)]; rfl)
  | (simp; omega)
 obtain ⟨sa, hsa⟩ : ∃ sa, uM (some ⟨bw, 0, none⟩) (ws.length + 1) 1 1 = sa := ⟨_, rfl⟩
 rw [hsa] at hct
 refine goU ?_
 refine kv (σ := Nat × List Nat × Option Addr × Nat × ja) (fun y => y.1 ≤ ws.length ∧ y.2.1.length = y.1 ∧ Cn.nums (ws.take y.1) = some y.2.1 ∧ ORow ahR 26 1 [] y.2.2.1 y.2.2.2.1 y.2.1 y.2.2.2.2) (fun y => [(0, .pointer (some ⟨bx, 0, none⟩)), (20, .slice sa ws.length ws.length), (21, .int .i64 (ws.length : Nat)), (22, .int .i64 (y.1 : Nat))])
  (fun y => (bx, Obj.cells (scC x cv (.slice y.2.2.1 y.2.1.length y.2.2.2.1) (.slice a2 x.evs.length c2)).toArray 36 (0, 0)) :: (y.2.2.2.2 ++ (B2 ++ L))) (fun y => ws.length - y.1) (0, [], a1, c1, B1) ⟨by omega, rfl, rfl, r1⟩ ?_ (fun w h => by
    have h' : Heap G w ((bx, Obj.cells (scC x cv (.slice a1 ([] : List Nat).length c1) (.slice a2 x.evs.length c2)).toArray 36 (0, 0)) :: ((B1 ++ B2) ++ L)) := h
    exact Heap.cnt h' (by intro p; (try simp only [jt, jy, jE]) <;> omega)) ?_
 · rw [← hsa]
   exact qd
 rintro ⟨k, l, a, c, B⟩ ⟨hk, hll, hnm, hB⟩
 dsimp only at hk hll hnm hB ⊢
 have hw2 : (bw, Obj.cells ((w0 :: ws).map jZ).toArray tw fw) ∈ (bx, Obj.cells (scC x cv (.slice a l.length c) (.slice a2 x.evs.length c2)).toArray 36 (0, 0)) :: (B ++ (B2 ++ L)) := List.mem_cons_of_mem _ (List.mem_append_right _ (List.mem_append_right _ hw))
 have hg2 : GlobS ((bx, Obj.cells (scC x cv (.slice a l.length c) (.slice a2 x.evs.length c2)).toArray 36 (0, 0)) :: (B ++ (B2 ++ L))) := hg.mono fun p hp => List.mem_cons_of_mem _ (List.mem_append_right _ (List.mem_append_right _ hp))
 by_cases hlt : k < ws.length
 · obtain ⟨w, hwk⟩ : ∃ w, ws[k]? = some w := ⟨_, List.getElem?_eq_getElem hlt⟩
   have hwl := hl w (List.mem_of_getElem? hwk)
   obtain rfl : sa = some ⟨bw, 1, none⟩ := hct (fun e => by rw [e] at hlt; simp at hlt)
   have htk : ws.take (k + 1) = ws.take k ++ [w] := by rw [List.take_add_one, hwk]; rfl
   have dk : ((w0 :: ws).map jZ).toArray[1 + (k : Int).toNat * 1]? = some (.string (bs w)) := by
    rw [Int.toNat_natCast, Nat.mul_one, List.getElem?_toArray, Nat.add_comm, List.map_cons, List.getElem?_cons_succ, List.getElem?_map, hwk]
    rfl
   refine goU ?_
   refine yj (Ko w hwl hg2) ?_
   unfold ZP
   cases hnw : Cn.num64 w with
   | none =>
     rw [Cn.nums_no hwk hnw]
     refine goU ?_
     exact kw 4 rfl rfl (M := (bx, Obj.cells (scC x cv (.slice a l.length c) (.slice a2 x.evs.length c2)).toArray 36 (0, 0)) :: ([] ++ L)) ⟨_, [], rfl, rfl, rfl⟩ j5
   | some n =>
     have hnb := Cn.num64_some hnw
     refine goU ?_
     refine jK ?_
     intro bL
     refine afR n hB (cs := [.int .u64 (n : Nat)]) ⟨rfl, hnb⟩ ?_
     intro a' c' B' hB'
     refine goU ?_
     refine jG (k + 1, l ++ [n], a', c', B') ⟨by dsimp only; omega, by simp [hll], ?_, hB'⟩ ?_ (fun w h => by
      have h' : Heap G w (B' ++ ((bx, Obj.cells (scC x cv (.slice a' (l ++ [n]).length c') (.slice a2 x.evs.length c2)).toArray 36 (0, 0)) :: (B2 ++ L))) := h
      exact Heap.cnt h' (by intro p; (try simp only [jt, jy, jE]) <;> omega)) (by dsimp only; omega)
     · dsimp only
       rw [htk]
       exact Cn.nums_snoc _ _ _ _ hnm hnw
     exact qd
 · have hkl : k = ws.length := by omega
   subst hkl
   rw [List.take_length] at hnm
   rw [hnm]
   refine goU ?_
   refine kw 4 rfl rfl (M := (bx, Obj.cells (scC { x with first := l } cv (.slice a l.length c) (.slice a2 x.evs.length c2)).toArray 36 (0, 0)) :: ((B ++ B2) ++ L)) ⟨_, B ++ B2, ?_, rfl, rfl, ⟨a, c, B, a2, c2, B2, rfl, hB, r2, rfl⟩⟩ j5
   rfl
end Go.Proofs.YtgjlbilcnlffgaaGreatDoor
namespace Go.Proofs.YtgjlbilcnlffgaaGreatDoor
open Go.RowKit
open Cn (Zo Cf Scr Evn)
variable {G : World} {L : ja}
theorem za {a b : Nm.Bytes} : Cn.eventP [a, b] = match Cn.num64 b with
  | some n => if a = Cn.tickW ∧ n ≤ 1099511627776 then some ⟨3, 0, n, []⟩ else none
  | none => none := rfl
theorem uG {a b c : Nm.Bytes} : Cn.eventP [a, b, c] = match Cn.num64 b, Cn.octets c with
  | some n, some d => if (a = Cn.clientW ∨ a = Cn.replyW) ∧ n ≤ 2147483647 then some ⟨if a = Cn.clientW then 1 else 2, n, 0, d⟩ else none
  | _, _ => none := rfl
theorem ab6 {a b : Nm.Bytes} {t : List Nm.Bytes} (h : Cn.num64 b = none) : Cn.eventP (a :: b :: t) = none := by
 match t with
 | [] => rw [za, h]
 | [c] => rw [uG, h]
 | _ :: _ :: _ => rfl
theorem ZU {a b : Nm.Bytes} {t : List Nm.Bytes} (h1 : a ≠ Cn.clientW) (h2 : a ≠ Cn.replyW) (h3 : a ≠ Cn.tickW) : Cn.eventP (a :: b :: t) = none := by
 match t with
 | [] =>
   rw [za]
   split
   · rw [if_neg (fun q => h3 q.1)]
   · rfl
 | [c] =>
   rw [uG]
   split
   · rw [if_neg (fun q => q.1.elim h1 h2)]
   · rfl
 | _ :: _ :: _ => rfl
theorem ZV {b : Nm.Bytes} {t : List Nm.Bytes} (h : t ≠ []) : Cn.eventP (Cn.tickW :: b :: t) = none := by
 match t, h with
 | [], h => exact absurd rfl h
 | [c], _ =>
   rw [uG]
   split
   · rw [if_neg (by rintro ⟨q | q, _⟩ <;> exact absurd q (by decide))]
   · rfl
 | _ :: _ :: _, _ => rfl
theorem ab7 {a b : Nm.Bytes} {t : List Nm.Bytes} (ha : a = Cn.clientW ∨ a = Cn.replyW) (h : t.length ≠ 1) : Cn.eventP (a :: b :: t) = none := by
 match t, h with
 | [], _ =>
   rw [za]
   split
   · rw [if_neg (by rintro ⟨q, _⟩; rcases ha with rfl | rfl <;> exact absurd q (by decide))]
   · rfl
 | [_], h => exact absurd rfl h
 | _ :: _ :: _, _ => rfl
theorem afu {w d : Nm.Bytes} (h : Cn.octets w = some d) : d.length ≤ w.length := by
 unfold Cn.octets at h
 split at h
 · cases h; simp
 · split at h
   · cases h
   · have := Cn.octs_len _ _ h
     omega
theorem ad0 (bx : Nat) (x : Scr) (cv : Value) (C : List Value) (B : ja) (h : ScIn x cv C B) (hsm : x.evs.length ≤ 1000000) (bw : Nat) (ws : List Nm.Bytes) {tw : TypeId} {fw : Nat × Nat} (hw : (bw, Obj.cells (ws.map jZ).toArray tw fw) ∈ L) (hn : ws.length ≤ 1000000) (hl : ∀ w ∈ ws, w.length ≤ 1000000) (hg : GlobS L) :
 Spec Tryz.prog G 51 #[.pointer (some ⟨bx, 0, none⟩), .slice (some ⟨bw, 0, none⟩) ws.length ws.length] (ScM bx C B L) (Qe bx cv L ((Cn.eventP ws).map fun v => { x with evs := x.evs ++ [v] })) := by
 obtain ⟨a1, c1, B1, a2, c2, B2, rfl, r1, r2, rfl⟩ := h.ex
 have hwM : ∀ (K C : List Value) (B : ja) (b : Nat) (t : TypeId), (bw, Obj.cells (ws.map jZ).toArray tw fw) ∈ (b, Obj.cells K.toArray t (0, 0)) :: ScM bx C B L := fun K C B b t => List.mem_cons_of_mem _ (List.mem_cons_of_mem _ (List.mem_append_right _ hw))
 have hwM0 : ∀ (C : List Value) (B : ja), (bw, Obj.cells (ws.map jZ).toArray tw fw) ∈ ScM bx C B L := fun C B => List.mem_cons_of_mem _ (List.mem_append_right _ hw)
 have hgM : ∀ (C : List Value) (B : ja), GlobS (ScM bx C B L) := fun C B => hg.mono (fun p hp => List.mem_cons_of_mem _ (List.mem_append_right _ hp))
 refine jw (n := 81) Tryz.func51 rfl rfl rfl ?_
 by_cases h2 : ws.length < 2
 · have e : Cn.eventP ws = none := by
    match ws, h2 with
    | [], _ => rfl
    | [_], _ => rfl
    | _ :: _ :: _, h2 => simp at h2; omega
   rw [e]
   refine goU ?_
   exact kw 4 rfl rfl ⟨_, _, rfl, rfl, rfl⟩ j5
 obtain ⟨w0, w1, t, rfl⟩ : ∃ w0 w1 t, ws = w0 :: w1 :: t := by
  match ws, h2 with
  | w0 :: w1 :: t, _ => exact ⟨w0, w1, t, rfl⟩
  | [], h2 => simp at h2
  | [_], h2 => simp at h2
 have hl1 := hl w1 (by simp)
 have hlen : (w0 :: w1 :: t : List Nm.Bytes).length = t.length + 2 := rfl
 rw [hlen] at hn ⊢
 have d0 : ((w0 :: w1 :: t : List Nm.Bytes).map jZ).toArray[0 + 0 * 1]? = some (.string (bs w0)) := rfl
 have d1 : ((w0 :: w1 :: t : List Nm.Bytes).map jZ).toArray[0 + 1 * 1]? = some (.string (bs w1)) := rfl
 have q0 := hwM0 (scC x cv (.slice a1 x.first.length c1) (.slice a2 x.evs.length c2)) (B1 ++ B2)
 refine goU ?_
 refine yj (Ko w1 hl1 (hgM _ _)) ?_
 unfold ZP
 cases hnum : Cn.num64 w1 with
 | none =>
   rw [ab6 hnum]
   refine goU ?_
   exact kw 4 rfl rfl ⟨_, _, rfl, rfl, rfl⟩ j5
 | some n =>
   have hnb := Cn.num64_some hnum
   refine goU ?_
   refine jz ?_
   intro b7
   have hz : ∀ z : Value, (bw, Obj.cells ((w0 :: w1 :: t).map jZ).toArray tw fw) ∈ (b7, Obj.cells #[z, .int .i64 0, .int .i64 0, .string (bs [])] 42 (0, 0)) :: ScM bx (scC x cv (.slice a1 x.first.length c1) (.slice a2 x.evs.length c2)) (B1 ++ B2) L := fun z => List.mem_cons_of_mem _ q0
   have hcr : ((w0 = Cn.clientW ∧ ∃ κ : Nat, κ = 1 ∧ (if w0 = Cn.clientW then 1 else 2) = κ) ∨ (w0 ≠ Cn.clientW ∧ w0 = Cn.replyW ∧ ∃ κ : Nat, κ = 2 ∧ (if w0 = Cn.clientW then 1 else 2) = κ)) ∨ (w0 ≠ Cn.clientW ∧ w0 ≠ Cn.replyW) := by
    by_cases hc : w0 = Cn.clientW
    · exact Or.inl (Or.inl ⟨hc, 1, rfl, if_pos hc⟩)
    · by_cases hr : w0 = Cn.replyW
      · exact Or.inl (Or.inr ⟨hc, hr, 2, rfl, if_neg hc⟩)
      · exact Or.inr ⟨hc, hr⟩
   have hword : w0 = Cn.clientW ∨ w0 = Cn.replyW → t.length ≠ 1 → Cn.eventP (w0 :: w1 :: t) = none := fun k1 k2 => ab7 k1 k2
   rcases hcr with hcr | ⟨hc, hr⟩
   · have hcr : (w0 = Cn.clientW ∧ ∃ κ : Nat, κ = 1 ∧ (if w0 = Cn.clientW then 1 else 2) = κ) ∨ (w0 ≠ Cn.clientW ∧ w0 = Cn.replyW ∧ ∃ κ : Nat, κ = 2 ∧ (if w0 = Cn.clientW then 1 else 2) = κ) := hcr
     rcases hcr with ⟨hc, κ, hκ, hif⟩ | ⟨hc, hr, κ, hκ, hif⟩
     all_goals
      have hwd : w0 = Cn.clientW ∨ w0 = Cn.replyW := by first | exact Or.inl hc | exact Or.inr hr
      have hkb : κ ≤ 255 := by omega
      unfold Cn.clientW at hc
      try unfold Cn.replyW at hr
      by_cases ht1 : t.length = 1
      rotate_left
      · rw [hword hwd ht1]
        refine goU ?_
        exact kw 4 rfl rfl (M := (bx, Obj.cells (scC x cv (.slice a1 x.first.length c1) (.slice a2 x.evs.length c2)).toArray 36 (0, 0)) :: ([] ++ L)) ⟨_, [], rfl, rfl, rfl⟩ j5
      obtain ⟨w2, rfl⟩ : ∃ w2, t = [w2] := by
       match t, ht1 with
       | [w2], _ => exact ⟨w2, rfl⟩
      have hl2 := hl w2 (by simp)
      have d2 : ((w0 :: w1 :: [w2] : List Nm.Bytes).map jZ).toArray[0 + 2 * 1]? = some (.string (bs w2)) := rfl
      rw [uG, hnum, hif]
      by_cases hn31 : n ≤ 2147483647
      rotate_left
      · have e : (match some n, Cn.octets w2 with
         | some n, some d => if (w0 = Cn.clientW ∨ w0 = Cn.replyW) ∧ n ≤ 2147483647 then some (⟨κ, n, 0, d⟩ : Evn) else none
         | _, _ => none) = none := by
         cases Cn.octets w2 with
         | none => rfl
         | some d => exact if_neg (fun q => hn31 q.2)
        rw [e]
        refine goU ?_
        exact kw 4 rfl rfl (M := (bx, Obj.cells (scC x cv (.slice a1 x.first.length c1) (.slice a2 x.evs.length c2)).toArray 36 (0, 0)) :: ([] ++ L)) ⟨_, [], rfl, rfl, rfl⟩ j5
      refine goU ?_
      obtain ⟨dd, ok, hov, hdl, hcase⟩ : ∃ dd ok, ZQ w2 = .tuple #[.string (bs dd), .bool ok] ∧ dd.length ≤ 1000000 ∧ ((match some n, Cn.octets w2 with
        | some n, some d => if (w0 = Cn.clientW ∨ w0 = Cn.replyW) ∧ n ≤ 2147483647 then some (⟨κ, n, 0, d⟩ : Evn) else none
        | _, _ => none) = if ok = true then some ⟨κ, n, 0, dd⟩ else none) := by
       unfold ZQ
       cases ho : Cn.octets w2 with
       | none => exact ⟨[], false, rfl, by simp, rfl⟩
       | some d => exact ⟨d, true, rfl, by have := afu ho; omega, if_pos ⟨hwd, hn31⟩⟩
      rw [hcase]
      refine yj (adX w2 hl2) ?_
      rw [hov]
      refine goU ?_
      refine Qj (L' := (b7, Obj.cells #[.int .u8 (κ : Nat), .int .i64 (n : Nat), .int .i64 0, .string (bs dd)] 42 (0, 0)) :: (bx, Obj.cells (scC x cv (.slice a1 x.first.length c1) (.slice a2 x.evs.length c2)).toArray 36 (0, 0)) :: (B1 ++ (B2 ++ L))) (fun w h => by
       subst hκ
       have h' : Heap G w ((b7, Obj.cells #[.int .u8 _, .int .i64 (n : Nat), .int .i64 0, .string (bs dd)] 42 (0, 0)) :: (bx, Obj.cells (scC x cv (.slice a1 x.first.length c1) (.slice a2 x.evs.length c2)).toArray 36 (0, 0)) :: ((B1 ++ B2) ++ L)) := h
       rw [List.append_assoc] at h'
       exact h') ?_
      refine kQ jx [(bx, Obj.cells (scC x cv (.slice a1 x.first.length c1) (.slice a2 x.evs.length c2)).toArray 36 (0, 0)), (b7, Obj.cells #[.int .u8 (κ : Nat), .int .i64 (n : Nat), .int .i64 0, .string (bs dd)] 42 (0, 0))] [10] ?_
      refine tkQ 0 (hK := j3) ?_
      refine tkQ 1 (hK := j3) ?_
      refine tkQ 2 (hK := j3) ?_
      refine tkQ 3 (hK := j3) ?_
      refine tkQ 4 (hK := j3) ?_
      refine tkQ 5 (hK := j3) ?_
      refine aaP 6 (Vq (cs := [.int .u8 (κ : Nat), .int .i64 (n : Nat), .int .i64 0, .string (bs dd)]) etO rfl rfl (by simp)) ?_
      rintro _ _ ⟨bL, rfl, rfl⟩
      refine ⟨j3, ?_⟩
      have hev : evR [] [.int .u8 (κ : Nat), .int .i64 (n : Nat), .int .i64 0, .string (bs dd)] ⟨κ, n, 0, dd⟩ := ⟨rfl, hkb, by unfold I64; dsimp only; omega, by unfold I64; dsimp only; omega, by unfold maxLen; dsimp only; omega⟩
      have hone : ([.int .u8 (κ : Nat), .int .i64 (n : Nat), .int .i64 0, .string (bs dd)] : List Value).all (·.oneCell') = true := rfl
      refine aaP 7 (K7 (bytes := 40) (y := ⟨κ, n, 0, dd⟩) etO rfl rfl r2 rfl (fun v hv => List.all_eq_true.1 hone v hv) hev (by unfold maxLen; omega) (by omega)) ?_
      rintro _ _ ⟨a', c', B', rfl, hB', rfl⟩
      refine ⟨j3, ?_⟩
      refine tkQ 8 (hK := j3) ?_
      refine tkQ 9 (hK := j3) ?_
      refine adY 10 ?_
      refine tdQ ?_
      refine goU ?_
      cases ok with
      | true => exact kw 4 rfl rfl (M := (bx, Obj.cells (scC { x with evs := x.evs ++ [⟨κ, n, 0, dd⟩] } cv (.slice a1 x.first.length c1) (.slice a' (x.evs ++ [(⟨κ, n, 0, dd⟩ : Evn)]).length c')).toArray 36 (0, 0)) :: ((B1 ++ B') ++ L)) ⟨_, B1 ++ B', rfl, rfl, rfl, ⟨a1, c1, B1, a', c', B', rfl, r1, hB', rfl⟩⟩ j5
      | false => exact kw 4 rfl rfl (M := (bx, Obj.cells (scC { x with evs := x.evs ++ [⟨κ, n, 0, dd⟩] } cv (.slice a1 x.first.length c1) (.slice a' (x.evs ++ [(⟨κ, n, 0, dd⟩ : Evn)]).length c')).toArray 36 (0, 0)) :: ([] ++ L)) ⟨_, [], rfl, rfl, rfl⟩ j5
   by_cases ht : w0 = Cn.tickW
   rotate_left
   · rw [ZU hc hr ht]
     unfold Cn.clientW at hc
     unfold Cn.replyW at hr
     unfold Cn.tickW at ht
     have q1 := hz (.int .u8 0)
     refine goU ?_
     exact kw 4 rfl rfl (M := (bx, Obj.cells (scC x cv (.slice a1 x.first.length c1) (.slice a2 x.evs.length c2)).toArray 36 (0, 0)) :: ([] ++ L)) ⟨_, [], rfl, rfl, rfl⟩ j5
   have q1 := hz (.int .u8 0)
   have ht2 := ht
   unfold Cn.clientW at hc
   unfold Cn.replyW at hr
   unfold Cn.tickW at ht
   by_cases ht0 : t = []
   rotate_left
   · rw [ht2, ZV ht0]
     have := List.length_pos_iff.2 ht0
     refine goU ?_
     exact kw 4 rfl rfl (M := (bx, Obj.cells (scC x cv (.slice a1 x.first.length c1) (.slice a2 x.evs.length c2)).toArray 36 (0, 0)) :: ([] ++ L)) ⟨_, [], rfl, rfl, rfl⟩ j5
   subst ht0
   rw [za, hnum]
   dsimp only
   by_cases hn40 : n ≤ 1099511627776
   rotate_left
   · rw [if_neg (fun q => hn40 q.2)]
     refine goU ?_
     exact kw 4 rfl rfl (M := (bx, Obj.cells (scC x cv (.slice a1 x.first.length c1) (.slice a2 x.evs.length c2)).toArray 36 (0, 0)) :: ([] ++ L)) ⟨_, [], rfl, rfl, rfl⟩ j5
   rw [if_pos ⟨ht2, hn40⟩]
   refine goU ?_
   refine Qj (L' := (b7, Obj.cells #[.int .u8 3, .int .i64 0, .int .i64 (n : Nat), .string (bs [])] 42 (0, 0)) :: (bx, Obj.cells (scC x cv (.slice a1 x.first.length c1) (.slice a2 x.evs.length c2)).toArray 36 (0, 0)) :: (B1 ++ (B2 ++ L))) (fun w h => by
    have h' : Heap G w ((b7, Obj.cells #[.int .u8 3, .int .i64 0, .int .i64 (n : Nat), .string (bs [])] 42 (0, 0)) :: (bx, Obj.cells (scC x cv (.slice a1 x.first.length c1) (.slice a2 x.evs.length c2)).toArray 36 (0, 0)) :: ((B1 ++ B2) ++ L)) := h
    rwa [List.append_assoc] at h') ?_
   refine kQ jx [(bx, Obj.cells (scC x cv (.slice a1 x.first.length c1) (.slice a2 x.evs.length c2)).toArray 36 (0, 0)), (b7, Obj.cells #[.int .u8 3, .int .i64 0, .int .i64 (n : Nat), .string (bs [])] 42 (0, 0))] [10] ?_
   refine tkQ 0 (hK := j3) ?_
   refine tkQ 1 (hK := j3) ?_
   refine tkQ 2 (hK := j3) ?_
   refine tkQ 3 (hK := j3) ?_
   refine tkQ 4 (hK := j3) ?_
   refine tkQ 5 (hK := j3) ?_
   refine aaP 6 (Vq (cs := [.int .u8 3, .int .i64 0, .int .i64 (n : Nat), .string (bs [])]) etO rfl rfl (by simp)) ?_
   rintro _ _ ⟨bL, rfl, rfl⟩
   refine ⟨j3, ?_⟩
   have hev : evR [] [.int .u8 3, .int .i64 0, .int .i64 (n : Nat), .string (bs [])] ⟨3, 0, n, []⟩ := ⟨rfl, by show 3 ≤ 255; decide, by unfold I64; dsimp only; omega, by unfold I64; dsimp only; omega, by unfold maxLen; simp⟩
   have hone : ([.int .u8 3, .int .i64 0, .int .i64 (n : Nat), .string (bs [])] : List Value).all (·.oneCell') = true := rfl
   refine aaP 7 (K7 (bytes := 40) (y := ⟨3, 0, n, []⟩) etO rfl rfl r2 rfl (fun v hv => List.all_eq_true.1 hone v hv) hev (by unfold maxLen; omega) (by omega)) ?_
   rintro _ _ ⟨a', c', B', rfl, hB', rfl⟩
   refine ⟨j3, ?_⟩
   refine tkQ 8 (hK := j3) ?_
   refine tkQ 9 (hK := j3) ?_
   refine adY 10 ?_
   refine tdQ ?_
   refine goU ?_
   exact kw 4 rfl rfl (M := (bx, Obj.cells (scC { x with evs := x.evs ++ [⟨3, 0, n, []⟩] } cv (.slice a1 x.first.length c1) (.slice a' (x.evs ++ [(⟨3, 0, n, []⟩ : Evn)]).length c')).toArray 36 (0, 0)) :: ((B1 ++ B') ++ L)) ⟨_, B1 ++ B', rfl, rfl, rfl, ⟨a1, c1, B1, a', c', B', rfl, r1, hB', rfl⟩⟩ j5
theorem ad1 {ws : List Nm.Bytes} {x : Scr} : Cn.takeP 1 ws x = (Cn.seedP ws).map fun v => { x with seed := v } := if_pos rfl
theorem ad2 {ws : List Nm.Bytes} {x : Scr} : Cn.takeP 2 ws x = (Cn.tapeP ws).map fun v => { x with first := v } := by unfold Cn.takeP; rw [if_neg (by decide), if_pos rfl]
theorem ab8 {n : Nat} {ws : List Nm.Bytes} {x : Scr} (h1 : n ≠ 1) (h2 : n ≠ 2) : Cn.takeP n ws x = (Cn.eventP ws).map fun v => { x with evs := x.evs ++ [v] } := by unfold Cn.takeP; rw [if_neg h1, if_neg h2]
theorem afv (bx : Nat) (x : Scr) (cv : Value) (C : List Value) (B : ja) (h : ScIn x cv C B) (n : Nat) (hnb : n ≤ 1000000) (h0 : n = 2 → x.first = []) (hsm : x.evs.length ≤ 1000000) (bw : Nat) (ws : List Nm.Bytes) (hne : ws ≠ []) {tw : TypeId} {fw : Nat × Nat} (hw : (bw, Obj.cells (ws.map jZ).toArray tw fw) ∈ L) (hn : ws.length ≤ 1000000) (hl : ∀ w ∈ ws, w.length ≤ 1000000) (hg : GlobS L) :
 Spec Tryz.prog G 22 #[.pointer (some ⟨bx, 0, none⟩), .int .i64 (n : Nat), .slice (some ⟨bw, 0, none⟩) ws.length ws.length] (ScM bx C B L) (Qe bx cv L (Cn.takeP n ws x)) := by
 refine jw (n := 21) Tryz.func22 rfl rfl rfl ?_
 by_cases h1 : n = 1
 · subst h1
   rw [ad1]
   refine goU ?_
   refine z6 (afs bx x cv C B h bw ws hw hn hl hg) ?_
   rintro u M hM
   refine goU ?_
   exact kw 6 rfl rfl hM kA
 by_cases h2 : n = 2
 · subst h2
   rw [ad2]
   obtain ⟨w0, t, rfl⟩ : ∃ w0 t, ws = w0 :: t := by
    cases ws with
    | nil => exact absurd rfl hne
    | cons w0 t => exact ⟨w0, t, rfl⟩
   refine goU ?_
   refine z6 (aft bx x cv C B h (h0 rfl) bw w0 t hw (by simp at hn; omega) (fun w hw => hl w (List.mem_cons_of_mem _ hw)) hg) ?_
   rintro u M hM
   refine goU ?_
   exact kw 6 rfl rfl hM kA
 rw [ab8 h1 h2]
 have e1 : ¬ (n : Int) = 1 := by omega
 have e2 : ¬ (n : Int) = 2 := by omega
 refine goU ?_
 refine z6 (ad0 bx x cv C B h hsm bw ws hw hn hl hg) ?_
 rintro u M hM
 refine goU ?_
 exact kw 6 rfl rfl hM kA
end Go.Proofs.YtgjlbilcnlffgaaGreatDoor
namespace Go.Proofs.YtgjlbilcnlffgaaGreatDoor
open Go.RowKit
open Cn (Zo Cf)
variable {G : World} {L : ja}
def yD (c : Cf) : Prop := (1 ≤ c.ups ∧ c.ups ≤ 9 ∧ c.ups % 2 = 1) ∧ (1 ≤ c.hdg ∧ c.hdg ≤ 1000) ∧ (1 ≤ c.wai ∧ c.wai ≤ 1000) ∧ (1 ≤ c.tri ∧ c.tri ≤ 4) ∧
 (c.ups / 2 * c.hdg + c.tri * c.wai ≤ c.ded ∧ c.ded ≤ 100000) ∧ (1 ≤ c.res ∧ c.res ≤ 100000) ∧ (1 ≤ c.lim ∧ c.lim ≤ 100) ∧ (0 ≤ c.cac ∧ c.cac ≤ 256) ∧ (1 ≤ c.fli ∧ c.fli ≤ 32) ∧
 (1 ≤ c.wtr ∧ c.wtr ≤ 16) ∧ (0 ≤ c.ttl ∧ c.ttl ≤ 2147483647) ∧ (512 ≤ c.siz ∧ c.siz ≤ 4096)
instance (c : Cf) : Decidable (yD c) := by unfold yD; infer_instance
theorem ad3 (c : Cf) (v : Value) : Spec Tryz.prog G 78 #[.agg (jA c v).toArray] L fun u M => u = .bool (Cn.mayNum c) ∧ M = L := by
 refine jw (n := 81) Tryz.func78 rfl rfl rfl ?_
 refine jH (jL (qX (zI rfl) rfl ?_))
 intro b1
 have g0 : (jA (c) (v)).toArray[0 + 0]? = some (.int .i64 (c).ups) := rfl
 have g1 : (jA (c) (v)).toArray[0 + 1]? = some (.int .i64 (c).ded) := rfl
 have g2 : (jA (c) (v)).toArray[0 + 2]? = some (.int .i64 (c).hdg) := rfl
 have g3 : (jA (c) (v)).toArray[0 + 3]? = some (.int .i64 (c).wai) := rfl
 have g4 : (jA (c) (v)).toArray[0 + 4]? = some (.int .i64 (c).tri) := rfl
 have g5 : (jA (c) (v)).toArray[0 + 5]? = some (.int .i64 (c).res) := rfl
 have g6 : (jA (c) (v)).toArray[0 + 6]? = some (.int .i64 (c).lim) := rfl
 have g7 : (jA (c) (v)).toArray[0 + 7]? = some (.int .i64 (c).cac) := rfl
 have g8 : (jA (c) (v)).toArray[0 + 8]? = some (.int .i64 (c).fli) := rfl
 have g9 : (jA (c) (v)).toArray[0 + 9]? = some (.int .i64 (c).wtr) := rfl
 have g10 : (jA (c) (v)).toArray[0 + 10]? = some (.int .i64 (c).ttl) := rfl
 have g11 : (jA (c) (v)).toArray[0 + 11]? = some (.int .i64 (c).siz) := rfl
 have g12 : (jA (c) (v)).toArray[0 + 12]? = some (v) := rfl
 have no : ¬ yD c → false = Cn.mayNum c := fun k => (decide_eq_false k).symm
 by_cases h1 : 1 ≤ c.ups ∧ c.ups ≤ 9
 rotate_left
 · repeat (first | refine goA ?_ | (refine' jl (jc jf rfl (jD _ _ _ )) rfl ?_) | (refine' jn (jc jf rfl (jD _ _ _ )) rfl ?_) | (refine kq ?_; intro bBox))
   refine jr (fun w h => h.tail) ?_
   refine jq 2 _ rfl rfl ?_
   exact ⟨congrArg Value.bool (no fun k => h1 (by unfold yD at k; omega)), rfl⟩
 by_cases he : c.ups % 2 = 1
 rotate_left
 · repeat (first | refine goA ?_ | (refine' jl (jc jf rfl (jD _ _ _ )) rfl ?_) | (refine' jn (jc jf rfl (jD _ _ _ )) rfl ?_) | (refine kq ?_; intro bBox))
   refine jr (fun w h => h.tail) ?_
   refine jq 2 _ rfl rfl ?_
   exact ⟨congrArg Value.bool (no fun k => he (by unfold yD at k; omega)), rfl⟩
 by_cases h2 : 1 ≤ c.hdg ∧ c.hdg ≤ 1000
 rotate_left
 · repeat (first | refine goA ?_ | (refine' jl (jc jf rfl (jD _ _ _ )) rfl ?_) | (refine' jn (jc jf rfl (jD _ _ _ )) rfl ?_) | (refine kq ?_; intro bBox))
   refine jr (fun w h => h.tail) ?_
   refine jq 2 _ rfl rfl ?_
   exact ⟨congrArg Value.bool (no fun k => h2 (by unfold yD at k; omega)), rfl⟩
 by_cases h3 : 1 ≤ c.wai ∧ c.wai ≤ 1000
 rotate_left
 · repeat (first | refine goA ?_ | (refine' jl (jc jf rfl (jD _ _ _ )) rfl ?_) | (refine' jn (jc jf rfl (jD _ _ _ )) rfl ?_) | (refine kq ?_; intro bBox))
   refine jr (fun w h => h.tail) ?_
   refine jq 2 _ rfl rfl ?_
   exact ⟨congrArg Value.bool (no fun k => h3 (by unfold yD at k; omega)), rfl⟩
 by_cases h4 : 1 ≤ c.tri ∧ c.tri ≤ 4
 rotate_left
 · repeat (first | refine goA ?_ | (refine' jl (jc jf rfl (jD _ _ _ )) rfl ?_) | (refine' jn (jc jf rfl (jD _ _ _ )) rfl ?_) | (refine kq ?_; intro bBox))
   refine jr (fun w h => h.tail) ?_
   refine jq 2 _ rfl rfl ?_
   exact ⟨congrArg Value.bool (no fun k => h4 (by unfold yD at k; omega)), rfl⟩
 have m1 : 0 ≤ c.ups / 2 * c.hdg ∧ c.ups / 2 * c.hdg ≤ 4000 := ⟨Int.mul_nonneg jp jp, Int.le_trans (Int.mul_le_mul (show c.ups / 2 ≤ 4 by omega) h2.2 jp jp) (by decide)⟩
 have m2 : 0 ≤ c.tri * c.wai ∧ c.tri * c.wai ≤ 4000 := ⟨Int.mul_nonneg jp jp, Int.le_trans (Int.mul_le_mul h4.2 h3.2 jp jp) (by decide)⟩
 by_cases h5 : c.ups / 2 * c.hdg + c.tri * c.wai ≤ c.ded ∧ c.ded ≤ 100000
 rotate_left
 · repeat (first | refine goA ?_ | (refine' jl (jc jf rfl (jD _ _ _ )) rfl ?_) | (refine' jn (jc jf rfl (jD _ _ _ )) rfl ?_) | (refine kq ?_; intro bBox))
   refine jr (fun w h => h.tail) ?_
   refine jq 2 _ rfl rfl ?_
   exact ⟨congrArg Value.bool (no fun k => h5 (by unfold yD at k; omega)), rfl⟩
 by_cases h6 : 1 ≤ c.res ∧ c.res ≤ 100000
 rotate_left
 · repeat (first | refine goA ?_ | (refine' jl (jc jf rfl (jD _ _ _ )) rfl ?_) | (refine' jn (jc jf rfl (jD _ _ _ )) rfl ?_) | (refine kq ?_; intro bBox))
   refine jr (fun w h => h.tail) ?_
   refine jq 2 _ rfl rfl ?_
   exact ⟨congrArg Value.bool (no fun k => h6 (by unfold yD at k; omega)), rfl⟩
 by_cases h7 : 1 ≤ c.lim ∧ c.lim ≤ 100
 rotate_left
 · repeat (first | refine goA ?_ | (refine' jl (jc jf rfl (jD _ _ _ )) rfl ?_) | (refine' jn (jc jf rfl (jD _ _ _ )) rfl ?_) | (refine kq ?_; intro bBox))
   refine jr (fun w h => h.tail) ?_
   refine jq 2 _ rfl rfl ?_
   exact ⟨congrArg Value.bool (no fun k => h7 (by unfold yD at k; omega)), rfl⟩
 by_cases h8 : 0 ≤ c.cac ∧ c.cac ≤ 256
 rotate_left
 · repeat (first | refine goA ?_ | (refine' jl (jc jf rfl (jD _ _ _ )) rfl ?_) | (refine' jn (jc jf rfl (jD _ _ _ )) rfl ?_) | (refine kq ?_; intro bBox))
   refine jr (fun w h => h.tail) ?_
   refine jq 2 _ rfl rfl ?_
   exact ⟨congrArg Value.bool (no fun k => h8 (by unfold yD at k; omega)), rfl⟩
 by_cases h9 : 1 ≤ c.fli ∧ c.fli ≤ 32
 rotate_left
 · repeat (first | refine goA ?_ | (refine' jl (jc jf rfl (jD _ _ _ )) rfl ?_) | (refine' jn (jc jf rfl (jD _ _ _ )) rfl ?_) | (refine kq ?_; intro bBox))
   refine jr (fun w h => h.tail) ?_
   refine jq 2 _ rfl rfl ?_
   exact ⟨congrArg Value.bool (no fun k => h9 (by unfold yD at k; omega)), rfl⟩
 by_cases h10 : 1 ≤ c.wtr ∧ c.wtr ≤ 16
 rotate_left
 · repeat (first | refine goA ?_ | (refine' jl (jc jf rfl (jD _ _ _ )) rfl ?_) | (refine' jn (jc jf rfl (jD _ _ _ )) rfl ?_) | (refine kq ?_; intro bBox))
   refine jr (fun w h => h.tail) ?_
   refine jq 2 _ rfl rfl ?_
   exact ⟨congrArg Value.bool (no fun k => h10 (by unfold yD at k; omega)), rfl⟩
 by_cases h11 : 0 ≤ c.ttl ∧ c.ttl ≤ 2147483647
 rotate_left
 · repeat (first | refine goA ?_ | (refine' jl (jc jf rfl (jD _ _ _ )) rfl ?_) | (refine' jn (jc jf rfl (jD _ _ _ )) rfl ?_) | (refine kq ?_; intro bBox))
   refine jr (fun w h => h.tail) ?_
   refine jq 2 _ rfl rfl ?_
   exact ⟨congrArg Value.bool (no fun k => h11 (by unfold yD at k; omega)), rfl⟩
 by_cases h12 : 512 ≤ c.siz ∧ c.siz ≤ 4096
 rotate_left
 · repeat (first | refine goA ?_ | (refine' jl (jc jf rfl (jD _ _ _ )) rfl ?_) | (refine' jn (jc jf rfl (jD _ _ _ )) rfl ?_) | (refine kq ?_; intro bBox))
   refine jr (fun w h => h.tail) ?_
   refine jq 2 _ rfl rfl ?_
   exact ⟨congrArg Value.bool ((decide_eq_false h12).trans <| no fun k => h12 (by unfold yD at k; omega)), rfl⟩
 have yes : true = Cn.mayNum c := (decide_eq_true (show yD c from ⟨⟨h1.1, h1.2, he⟩, h2, h3, h4, h5, h6, h7, h8, h9, h10, h11, h12⟩)).symm
 repeat (first | refine goA ?_ | (refine' jl (jc jf rfl (jD _ _ _ )) rfl ?_) | (refine' jn (jc jf rfl (jD _ _ _ )) rfl ?_) | (refine kq ?_; intro bBox))
 refine jr (fun w h => h.tail) ?_
 refine jq 2 _ rfl rfl ?_
 exact ⟨congrArg Value.bool ((decide_eq_true h12).trans yes), rfl⟩
end Go.Proofs.YtgjlbilcnlffgaaGreatDoor
namespace Go.Proofs.YtgjlbilcnlffgaaGreatDoor
open Go.RowKit
open Cn (Zo Cf)
variable {G : World} {L : ja}
theorem qC {ups : Int} {zs : List Zo} {i : Nat} (hi : i < zs.length) (h : Cn.goodAt ups zs i = false) : Cn.mayZs ups zs = false := by
 unfold Cn.mayZs
 rw [Bool.and_eq_false_iff]
 right
 rw [List.all_eq_false]
 exact ⟨i, List.mem_range.2 hi, by rw [h]; decide⟩
theorem ab9 {ups : Int} {zs : List Zo} (h16 : zs.length ≤ 16) (h : ∀ j < zs.length, Cn.goodAt ups zs j = true) : Cn.mayZs ups zs = true := by
 unfold Cn.mayZs
 rw [decide_eq_true h16, Bool.true_and, List.all_eq_true]
 exact fun i hi => h i (List.mem_range.1 hi)
theorem ZW {ups : Int} {zs : List Zo} (h : 16 < zs.length) : Cn.mayZs ups zs = false := by
 unfold Cn.mayZs
 rw [decide_eq_false jp]
 rfl
theorem afw {ups : Int} {zs : List Zo} {i : Nat} {z : Zo} (h : zs[i]? = some z) : Cn.goodAt ups zs i = (Cn.okZo ups z && !(zs.take i).any (fun y => y.name == z.name)) := by unfold Cn.goodAt; rw [h]
theorem ZX (c : Cf) (v : Value) (hz : sliceR 3 zoR L [v] c.zs) (hu : 1 ≤ c.ups ∧ c.ups ≤ 9) (hs : ∀ z ∈ c.zs, z.name.length ≤ 1000000) :
 Spec Tryz.prog G 79 #[.agg (jA c v).toArray] L fun u M => u = .bool (Cn.mayZs c.ups c.zs) ∧ M = L := by
 obtain ⟨a, cap, e, hz⟩ := hz.val
 obtain rfl := (List.cons.inj e).1
 clear e
 have hcap := (sliceR.cut hz).2.1
 have hmax := (sliceR.cut hz).2.2.1
 unfold maxLen at hmax
 refine jw (n := 69) Tryz.func79 rfl rfl rfl ?_
 refine jH (jL (qX (zI rfl) rfl ?_))
 intro b1
 have g0 : (jA (c) (.slice a c.zs.length cap)).toArray[0 + 0]? = some (.int .i64 (c).ups) := rfl
 have g1 : (jA (c) (.slice a c.zs.length cap)).toArray[0 + 1]? = some (.int .i64 (c).ded) := rfl
 have g2 : (jA (c) (.slice a c.zs.length cap)).toArray[0 + 2]? = some (.int .i64 (c).hdg) := rfl
 have g3 : (jA (c) (.slice a c.zs.length cap)).toArray[0 + 3]? = some (.int .i64 (c).wai) := rfl
 have g4 : (jA (c) (.slice a c.zs.length cap)).toArray[0 + 4]? = some (.int .i64 (c).tri) := rfl
 have g5 : (jA (c) (.slice a c.zs.length cap)).toArray[0 + 5]? = some (.int .i64 (c).res) := rfl
 have g6 : (jA (c) (.slice a c.zs.length cap)).toArray[0 + 6]? = some (.int .i64 (c).lim) := rfl
 have g7 : (jA (c) (.slice a c.zs.length cap)).toArray[0 + 7]? = some (.int .i64 (c).cac) := rfl
 have g8 : (jA (c) (.slice a c.zs.length cap)).toArray[0 + 8]? = some (.int .i64 (c).fli) := rfl
 have g9 : (jA (c) (.slice a c.zs.length cap)).toArray[0 + 9]? = some (.int .i64 (c).wtr) := rfl
 have g10 : (jA (c) (.slice a c.zs.length cap)).toArray[0 + 10]? = some (.int .i64 (c).ttl) := rfl
 have g11 : (jA (c) (.slice a c.zs.length cap)).toArray[0 + 11]? = some (.int .i64 (c).siz) := rfl
 have g12 : (jA (c) (.slice a c.zs.length cap)).toArray[0 + 12]? = some (.slice a c.zs.length cap) := rfl
 by_cases h16 : 16 < c.zs.length
 · rw [ZW h16]
   repeat (first | refine goA ?_ | (refine' jl (jc jf rfl (jI _ ?_)) rfl ?_; (· first | omega | decide)) | (refine' jn (jc jf rfl (jI _ ?_)) rfl ?_; (· first | omega | decide)) | (refine' jl (jc jf rfl (jC _ ?_)) rfl ?_; (· first | omega | decide)) | (refine' jn (jc jf rfl (jC _ ?_)) rfl ?_; (· first | omega | decide)) | (refine jz ?_; intro bNew) | (refine kq ?_; intro bBox))
   refine jr (fun w h => h.tail) ?_
   refine jq 2 _ rfl rfl ?_
   exact ⟨rfl, rfl⟩
 repeat (first | refine goA ?_ | (refine' jl (jc jf rfl (jI _ ?_)) rfl ?_; (· first | omega | decide)) | (refine' jn (jc jf rfl (jI _ ?_)) rfl ?_; (· first | omega | decide)) | (refine' jl (jc jf rfl (jC _ ?_)) rfl ?_; (· first | omega | decide)) | (refine' jn (jc jf rfl (jC _ ?_)) rfl ?_; (· first | omega | decide)) | (refine jz ?_; intro bNew) | (refine kq ?_; intro bBox))
 refine kv (σ := Nat) (fun i => i ≤ c.zs.length ∧ ∀ j < i, Cn.goodAt c.ups c.zs j = true) (fun i => [(1, .pointer (some ⟨b1, 0, none⟩)), (12, .slice a c.zs.length cap), (13, .int .i64 (c.zs.length : Nat)), (14, .int .i64 (i : Nat))]) (fun _ => (b1, Obj.cells (jA c (.slice a c.zs.length cap)).toArray 25 (0, 0)) :: L) (fun i => c.zs.length - i) 0 ⟨by omega, fun j hj => by omega⟩ ?_ (fun _ h => h) ?_
 exact qd
 rintro i ⟨hi, hall⟩
 by_cases hlt : i < c.zs.length
 · obtain ⟨z, hzi⟩ : ∃ z, c.zs[i]? = some z := ⟨_, List.getElem?_eq_getElem hlt⟩
   obtain ⟨b2, o2, C2, t2, f2, rfl, m2, cs, _, ⟨rfl, hzn, hzp, hzt⟩, hcs⟩ := sliceR.at hz hzi
   have hzs := hs z (List.mem_of_getElem? hzi)
   have e0 : C2[o2 + i * 3 + 0]? = some (.string (bs z.name)) := hcs 0 _ rfl
   have hgood := afw (ups := c.ups) hzi
   repeat (first | refine goA ?_ | (refine' jl (jc jf rfl (jI _ ?_)) rfl ?_; (· first | omega | decide)) | (refine' jn (jc jf rfl (jI _ ?_)) rfl ?_; (· first | omega | decide)) | (refine' jl (jc jf rfl (jC _ ?_)) rfl ?_; (· first | omega | decide)) | (refine' jn (jc jf rfl (jC _ ?_)) rfl ?_; (· first | omega | decide)) | (refine jz ?_; intro bNew) | (refine kq ?_; intro bBox))
   refine jm (Y1 [.string (bs z.name), .int .u8 (z.pol : Nat), .int .u16 (z.tru : Nat)] rfl stL (List.mem_cons_of_mem _ m2) hcs) rfl ?_
   repeat (first | refine goA ?_ | (refine' jl (jc jf rfl (jI _ ?_)) rfl ?_; (· first | omega | decide)) | (refine' jn (jc jf rfl (jI _ ?_)) rfl ?_; (· first | omega | decide)) | (refine' jl (jc jf rfl (jC _ ?_)) rfl ?_; (· first | omega | decide)) | (refine' jn (jc jf rfl (jC _ ?_)) rfl ?_; (· first | omega | decide)) | (refine jz ?_; intro bNew) | (refine kq ?_; intro bBox))
   obtain ⟨b4, hb4⟩ : ∃ b, bNew = b := ⟨_, rfl⟩
   rw [hb4]
   clear hb4 bNew
   have k0 : ([.string (bs z.name), .int .u8 (z.pol : Nat), .int .u16 (z.tru : Nat)] : List Value).toArray[0 + 0]? = some (.string (bs z.name)) := rfl
   have k1 : ([.string (bs z.name), .int .u8 (z.pol : Nat), .int .u16 (z.tru : Nat)] : List Value).toArray[0 + 1]? = some (.int .u8 (z.pol : Nat)) := rfl
   have k2 : ([.string (bs z.name), .int .u8 (z.pol : Nat), .int .u16 (z.tru : Nat)] : List Value).toArray[0 + 2]? = some (.int .u16 (z.tru : Nat)) := rfl
   have hKm : ∀ p ∈ [(b4, Obj.cells ([.string (bs z.name), .int .u8 (z.pol : Nat), .int .u16 (z.tru : Nat)] : List Value).toArray 45 (0, 0))], p ∈ (b4, Obj.cells ([.string (bs z.name), .int .u8 (z.pol : Nat), .int .u16 (z.tru : Nat)] : List Value).toArray 45 (0, 0)) :: (b1, Obj.cells (jA c (.slice (some ⟨b2, o2, none⟩) c.zs.length cap)).toArray 25 (0, 0)) :: L := by
    intro p hp
    simp only [List.mem_cons, List.not_mem_nil, or_false] at hp
    subst hp
    exact List.mem_cons_self ..
   cases hmay : Nm.may z.name with
   | false =>
     have hno : Cn.okZo c.ups z = false := by unfold Cn.okZo Cn.okName; rw [hmay]; rfl
     rw [qC hlt (by rw [hgood, hno]; rfl)]
     refine kQ jx ([(b4, Obj.cells ([.string (bs z.name), .int .u8 (z.pol : Nat), .int .u16 (z.tru : Nat)] : List Value).toArray 45 (0, 0))]) [] ?_
     refine tkQ 0 ?_
     refine tkQ 1 ?_
     refine' jS 2 rfl rfl jf (zp jf rfl (fun _ _ => jI _ ?_)) ?_ ?_; (· first | omega | decide); (· first | assumption | (intro p hp; grind))
     refine tkQ 3 ?_
     refine tkQ 4 ?_
     refine tkQ 5 ?_
     refine tkQ 6 ?_
     first | (refine' jS 7 rfl rfl jf (qc rfl rfl (by first | with_reducible rfl | assumption | exact Bool.not_false | exact Bool.not_true | exact dT (by first | assumption | with_reducible rfl | omega) | exact dF (by first | assumption | with_reducible rfl | omega) | exact eT (by first | assumption | with_reducible rfl | omega) | exact eF (by first | assumption | with_reducible rfl | omega) | exact nT (by first | assumption | with_reducible rfl | omega) | exact nF (by first | assumption | with_reducible rfl | omega) | exact xT (by first | assumption | exact dT (by first | assumption | with_reducible rfl | omega) | exact dF (by first | assumption | with_reducible rfl | omega) | exact eT (by first | assumption | with_reducible rfl | omega) | exact eF (by first | assumption | with_reducible rfl | omega) | exact nT (by first | assumption | with_reducible rfl | omega) | exact nF (by first | assumption | with_reducible rfl | omega)) | exact xF (by first | assumption | exact dT (by first | assumption | with_reducible rfl | omega) | exact dF (by first | assumption | with_reducible rfl | omega) | exact eT (by first | assumption | with_reducible rfl | omega) | exact eF (by first | assumption | with_reducible rfl | omega) | exact nT (by first | assumption | with_reducible rfl | omega) | exact nF (by first | assumption | with_reducible rfl | omega))) jf rfl (fun _ _ => jC _ ?_)) ?_ ?_; (· first | omega | decide); (· first | assumption | (intro p hp; grind))) | (refine jS 7 rfl rfl jf (qG rfl rfl ?_) ?_ ?_; (· first | with_reducible rfl | assumption | exact Bool.not_false | exact Bool.not_true | exact dT (by first | assumption | with_reducible rfl | omega) | exact dF (by first | assumption | with_reducible rfl | omega) | exact eT (by first | assumption | with_reducible rfl | omega) | exact eF (by first | assumption | with_reducible rfl | omega) | exact nT (by first | assumption | with_reducible rfl | omega) | exact nF (by first | assumption | with_reducible rfl | omega) | exact xT (by first | assumption | exact dT (by first | assumption | with_reducible rfl | omega) | exact dF (by first | assumption | with_reducible rfl | omega) | exact eT (by first | assumption | with_reducible rfl | omega) | exact eF (by first | assumption | with_reducible rfl | omega) | exact nT (by first | assumption | with_reducible rfl | omega) | exact nF (by first | assumption | with_reducible rfl | omega)) | exact xF (by first | assumption | exact dT (by first | assumption | with_reducible rfl | omega) | exact dF (by first | assumption | with_reducible rfl | omega) | exact eT (by first | assumption | with_reducible rfl | omega) | exact eF (by first | assumption | with_reducible rfl | omega) | exact nT (by first | assumption | with_reducible rfl | omega) | exact nF (by first | assumption | with_reducible rfl | omega))); (· first | assumption | (intro p hp; grind))) | (refine jS 7 rfl rfl jf (kZ rfl rfl) ?_ ?_; (· first | assumption | (intro p hp; grind)))
     refine tkQ 8 ?_
     refine tkQ 9 ?_
     refine tkQ 10 ?_
     refine tkQ 11 ?_
     refine tdQ ?_
     repeat (first | refine goA ?_ | (refine' jl (jc jf rfl (jI _ ?_)) rfl ?_; (· first | omega | decide)) | (refine' jn (jc jf rfl (jI _ ?_)) rfl ?_; (· first | omega | decide)) | (refine' jl (jc jf rfl (jC _ ?_)) rfl ?_; (· first | omega | decide)) | (refine' jn (jc jf rfl (jC _ ?_)) rfl ?_; (· first | omega | decide)) | (refine jz ?_; intro bNew) | (refine kq ?_; intro bBox))
     refine jr (fun w h => h.tail.tail) ?_
     refine jq 2 _ rfl rfl ?_
     exact ⟨rfl, rfl⟩
   | true =>
     by_cases hf : Nm.fold z.name = z.name
     rotate_left
     · have hno : Cn.okZo c.ups z = false := by unfold Cn.okZo Cn.okName; rw [beq_false_of_ne hf, Bool.and_false, Bool.false_and]
       rw [qC hlt (by rw [hgood, hno]; rfl)]
       refine kQ jx ([(b4, Obj.cells ([.string (bs z.name), .int .u8 (z.pol : Nat), .int .u16 (z.tru : Nat)] : List Value).toArray 45 (0, 0))]) [] ?_
       refine tkQ 0 ?_
       refine tkQ 1 ?_
       refine' jS 2 rfl rfl jf (zp jf rfl (fun _ _ => jI _ ?_)) ?_ ?_; (· first | omega | decide); (· first | assumption | (intro p hp; grind))
       refine tkQ 3 ?_
       refine tkQ 4 ?_
       refine tkQ 5 ?_
       refine tkQ 6 ?_
       first | (refine' jS 7 rfl rfl jf (qc rfl rfl (by first | with_reducible rfl | assumption | exact Bool.not_false | exact Bool.not_true | exact dT (by first | assumption | with_reducible rfl | omega) | exact dF (by first | assumption | with_reducible rfl | omega) | exact eT (by first | assumption | with_reducible rfl | omega) | exact eF (by first | assumption | with_reducible rfl | omega) | exact nT (by first | assumption | with_reducible rfl | omega) | exact nF (by first | assumption | with_reducible rfl | omega) | exact xT (by first | assumption | exact dT (by first | assumption | with_reducible rfl | omega) | exact dF (by first | assumption | with_reducible rfl | omega) | exact eT (by first | assumption | with_reducible rfl | omega) | exact eF (by first | assumption | with_reducible rfl | omega) | exact nT (by first | assumption | with_reducible rfl | omega) | exact nF (by first | assumption | with_reducible rfl | omega)) | exact xF (by first | assumption | exact dT (by first | assumption | with_reducible rfl | omega) | exact dF (by first | assumption | with_reducible rfl | omega) | exact eT (by first | assumption | with_reducible rfl | omega) | exact eF (by first | assumption | with_reducible rfl | omega) | exact nT (by first | assumption | with_reducible rfl | omega) | exact nF (by first | assumption | with_reducible rfl | omega))) jf rfl (fun _ _ => jC _ ?_)) ?_ ?_; (· first | omega | decide); (· first | assumption | (intro p hp; grind))) | (refine jS 7 rfl rfl jf (qG rfl rfl ?_) ?_ ?_; (· first | with_reducible rfl | assumption | exact Bool.not_false | exact Bool.not_true | exact dT (by first | assumption | with_reducible rfl | omega) | exact dF (by first | assumption | with_reducible rfl | omega) | exact eT (by first | assumption | with_reducible rfl | omega) | exact eF (by first | assumption | with_reducible rfl | omega) | exact nT (by first | assumption | with_reducible rfl | omega) | exact nF (by first | assumption | with_reducible rfl | omega) | exact xT (by first | assumption | exact dT (by first | assumption | with_reducible rfl | omega) | exact dF (by first | assumption | with_reducible rfl | omega) | exact eT (by first | assumption | with_reducible rfl | omega) | exact eF (by first | assumption | with_reducible rfl | omega) | exact nT (by first | assumption | with_reducible rfl | omega) | exact nF (by first | assumption | with_reducible rfl | omega)) | exact xF (by first | assumption | exact dT (by first | assumption | with_reducible rfl | omega) | exact dF (by first | assumption | with_reducible rfl | omega) | exact eT (by first | assumption | with_reducible rfl | omega) | exact eF (by first | assumption | with_reducible rfl | omega) | exact nT (by first | assumption | with_reducible rfl | omega) | exact nF (by first | assumption | with_reducible rfl | omega))); (· first | assumption | (intro p hp; grind))) | (refine jS 7 rfl rfl jf (kZ rfl rfl) ?_ ?_; (· first | assumption | (intro p hp; grind)))
       refine tkQ 8 ?_
       refine tkQ 9 ?_
       refine tkQ 10 ?_
       refine tkQ 11 ?_
       refine tdQ ?_
       repeat (first | refine goA ?_ | (refine' jl (jc jf rfl (jI _ ?_)) rfl ?_; (· first | omega | decide)) | (refine' jn (jc jf rfl (jI _ ?_)) rfl ?_; (· first | omega | decide)) | (refine' jl (jc jf rfl (jC _ ?_)) rfl ?_; (· first | omega | decide)) | (refine' jn (jc jf rfl (jC _ ?_)) rfl ?_; (· first | omega | decide)) | (refine jz ?_; intro bNew) | (refine kq ?_; intro bBox))
       refine jr (fun w h => h.tail.tail) ?_
       refine jq 2 _ rfl rfl ?_
       exact ⟨rfl, rfl⟩
     have hokn : Cn.okName z = true := by unfold Cn.okName; rw [hmay, beq_iff_eq.2 hf]; rfl
     refine kQ jx ([(b4, Obj.cells ([.string (bs z.name), .int .u8 (z.pol : Nat), .int .u16 (z.tru : Nat)] : List Value).toArray 45 (0, 0))]) [] ?_
     refine tkQ 0 ?_
     refine tkQ 1 ?_
     refine' jS 2 rfl rfl jf (zp jf rfl (fun _ _ => jI _ ?_)) ?_ ?_; (· first | omega | decide); (· first | assumption | (intro p hp; grind))
     refine tkQ 3 ?_
     refine tkQ 4 ?_
     refine tkQ 5 ?_
     refine tkQ 6 ?_
     first | (refine' jS 7 rfl rfl jf (qc rfl rfl (by first | with_reducible rfl | assumption | exact Bool.not_false | exact Bool.not_true | exact dT (by first | assumption | with_reducible rfl | omega) | exact dF (by first | assumption | with_reducible rfl | omega) | exact eT (by first | assumption | with_reducible rfl | omega) | exact eF (by first | assumption | with_reducible rfl | omega) | exact nT (by first | assumption | with_reducible rfl | omega) | exact nF (by first | assumption | with_reducible rfl | omega) | exact xT (by first | assumption | exact dT (by first | assumption | with_reducible rfl | omega) | exact dF (by first | assumption | with_reducible rfl | omega) | exact eT (by first | assumption | with_reducible rfl | omega) | exact eF (by first | assumption | with_reducible rfl | omega) | exact nT (by first | assumption | with_reducible rfl | omega) | exact nF (by first | assumption | with_reducible rfl | omega)) | exact xF (by first | assumption | exact dT (by first | assumption | with_reducible rfl | omega) | exact dF (by first | assumption | with_reducible rfl | omega) | exact eT (by first | assumption | with_reducible rfl | omega) | exact eF (by first | assumption | with_reducible rfl | omega) | exact nT (by first | assumption | with_reducible rfl | omega) | exact nF (by first | assumption | with_reducible rfl | omega))) jf rfl (fun _ _ => jC _ ?_)) ?_ ?_; (· first | omega | decide); (· first | assumption | (intro p hp; grind))) | (refine jS 7 rfl rfl jf (qG rfl rfl ?_) ?_ ?_; (· first | with_reducible rfl | assumption | exact Bool.not_false | exact Bool.not_true | exact dT (by first | assumption | with_reducible rfl | omega) | exact dF (by first | assumption | with_reducible rfl | omega) | exact eT (by first | assumption | with_reducible rfl | omega) | exact eF (by first | assumption | with_reducible rfl | omega) | exact nT (by first | assumption | with_reducible rfl | omega) | exact nF (by first | assumption | with_reducible rfl | omega) | exact xT (by first | assumption | exact dT (by first | assumption | with_reducible rfl | omega) | exact dF (by first | assumption | with_reducible rfl | omega) | exact eT (by first | assumption | with_reducible rfl | omega) | exact eF (by first | assumption | with_reducible rfl | omega) | exact nT (by first | assumption | with_reducible rfl | omega) | exact nF (by first | assumption | with_reducible rfl | omega)) | exact xF (by first | assumption | exact dT (by first | assumption | with_reducible rfl | omega) | exact dF (by first | assumption | with_reducible rfl | omega) | exact eT (by first | assumption | with_reducible rfl | omega) | exact eF (by first | assumption | with_reducible rfl | omega) | exact nT (by first | assumption | with_reducible rfl | omega) | exact nF (by first | assumption | with_reducible rfl | omega))); (· first | assumption | (intro p hp; grind))) | (refine jS 7 rfl rfl jf (kZ rfl rfl) ?_ ?_; (· first | assumption | (intro p hp; grind)))
     refine tkQ 8 ?_
     refine tkQ 9 ?_
     refine tkQ 10 ?_
     refine tkQ 11 ?_
     refine tdQ ?_
     repeat (first | refine goA ?_ | (refine' jl (jc jf rfl (jI _ ?_)) rfl ?_; (· first | omega | decide)) | (refine' jn (jc jf rfl (jI _ ?_)) rfl ?_; (· first | omega | decide)) | (refine' jl (jc jf rfl (jC _ ?_)) rfl ?_; (· first | omega | decide)) | (refine' jn (jc jf rfl (jC _ ?_)) rfl ?_; (· first | omega | decide)) | (refine jz ?_; intro bNew) | (refine kq ?_; intro bBox))
     refine kv (σ := Nat) (fun k => k ≤ i ∧ (c.zs.take k).any (fun y => y.name == z.name) = false) (fun k => [(1, .pointer (some ⟨b1, 0, none⟩)), (3, .int .i64 (i : Nat)), (4, .pointer (some ⟨b4, 0, none⟩)), (12, .slice (some ⟨b2, o2, none⟩) c.zs.length cap), (13, .int .i64 (c.zs.length : Nat)), (14, .int .i64 (i : Nat)), (34, .slice (some ⟨b2, o2, none⟩) i cap), (35, .int .i64 (i : Nat)), (36, .int .i64 (k : Nat))]) (fun _ => (b4, Obj.cells ([.string (bs z.name), .int .u8 (z.pol : Nat), .int .u16 (z.tru : Nat)] : List Value).toArray 45 (0, 0)) :: (b1, Obj.cells (jA c (.slice (some ⟨b2, o2, none⟩) c.zs.length cap)).toArray 25 (0, 0)) :: L) (fun k => i - k) 0 ⟨by omega, by simp⟩ ?_ (fun _ h => h) ?_
     exact qd
     rintro k ⟨hk, hany⟩
     by_cases hki : k < i
     · obtain ⟨y, hyk⟩ : ∃ y, c.zs[k]? = some y := ⟨_, List.getElem?_eq_getElem jp⟩
       obtain ⟨b5, o5, C5, t5, f5, e5, m5, cs5, _, ⟨rfl, hyn, hyp, hyt⟩, hcs5⟩ := sliceR.at hz hyk
       cases e5
       repeat (first | refine goA ?_ | (refine' jl (jc jf rfl (jI _ ?_)) rfl ?_; (· first | omega | decide)) | (refine' jn (jc jf rfl (jI _ ?_)) rfl ?_; (· first | omega | decide)) | (refine' jl (jc jf rfl (jC _ ?_)) rfl ?_; (· first | omega | decide)) | (refine' jn (jc jf rfl (jC _ ?_)) rfl ?_; (· first | omega | decide)) | (refine jz ?_; intro bNew) | (refine kq ?_; intro bBox))
       refine jm (Y1 [.string (bs y.name), .int .u8 (y.pol : Nat), .int .u16 (y.tru : Nat)] rfl stL (List.mem_cons_of_mem _ (List.mem_cons_of_mem _ m5)) hcs5) rfl ?_
       repeat (first | refine goA ?_ | (refine' jl (jc jf rfl (jI _ ?_)) rfl ?_; (· first | omega | decide)) | (refine' jn (jc jf rfl (jI _ ?_)) rfl ?_; (· first | omega | decide)) | (refine' jl (jc jf rfl (jC _ ?_)) rfl ?_; (· first | omega | decide)) | (refine' jn (jc jf rfl (jC _ ?_)) rfl ?_; (· first | omega | decide)) | (refine jz ?_; intro bNew) | (refine kq ?_; intro bBox))
       obtain ⟨b6, hb6⟩ : ∃ b, bNew = b := ⟨_, rfl⟩
       rw [hb6]
       clear hb6 bNew
       have l0 : ([.string (bs y.name), .int .u8 (y.pol : Nat), .int .u16 (y.tru : Nat)] : List Value).toArray[0 + 0]? = some (.string (bs y.name)) := rfl
       by_cases hyz : y.name = z.name
       · have hbad : Cn.goodAt c.ups c.zs i = false := by
          rw [hgood, Bool.and_eq_false_iff]
          right
          rw [Bool.not_eq_false', List.any_eq_true]
          exact ⟨y, List.mem_take_iff_getElem.2 ⟨k, by omega, (List.getElem?_eq_some_iff.1 hyk).2⟩, beq_iff_eq.2 hyz⟩
         rw [qC hlt hbad]
         repeat (first | refine goA ?_ | (refine' jl (jc jf rfl (jI _ ?_)) rfl ?_; (· first | omega | decide)) | (refine' jn (jc jf rfl (jI _ ?_)) rfl ?_; (· first | omega | decide)) | (refine' jl (jc jf rfl (jC _ ?_)) rfl ?_; (· first | omega | decide)) | (refine' jn (jc jf rfl (jC _ ?_)) rfl ?_; (· first | omega | decide)) | (refine jz ?_; intro bNew) | (refine kq ?_; intro bBox))
         refine jr (fun w h => h.tail.tail.tail) ?_
         refine jq 2 _ rfl rfl ?_
         exact ⟨rfl, rfl⟩
       · repeat (first | refine goA ?_ | (refine' jl (jc jf rfl (jI _ ?_)) rfl ?_; (· first | omega | decide)) | (refine' jn (jc jf rfl (jI _ ?_)) rfl ?_; (· first | omega | decide)) | (refine' jl (jc jf rfl (jC _ ?_)) rfl ?_; (· first | omega | decide)) | (refine' jn (jc jf rfl (jC _ ?_)) rfl ?_; (· first | omega | decide)) | (refine jz ?_; intro bNew) | (refine kq ?_; intro bBox))
         refine jG (k + 1) ⟨by omega, ?_⟩ ?_ (fun _ h => h.tail) jp
         · rw [List.take_add_one, hyk, List.any_append, hany]
           simp [hyz]
         exact qd
     · have hkie : k = i := by omega
       subst hkie
       rw [hany, Bool.not_false, Bool.and_true] at hgood
       unfold Cn.okZo at hgood
       rw [hokn, Bool.true_and] at hgood
       obtain ⟨n, hn⟩ : ∃ n : Nat, c.ups = (n : Nat) := ⟨c.ups.toNat, by omega⟩
       have hn2 : c.ups.toNat = n := by omega
       have fin : ∀ b, Cn.okPol c.ups z = b → Cn.goodAt c.ups c.zs k = b := fun b h => hgood.trans h
       have nxt : Cn.okPol c.ups z = true → ∀ j < k + 1, Cn.goodAt c.ups c.zs j = true := fun h j hj => by
        rcases Nat.lt_or_ge j k with q | q
        · exact hall j q
        · have : j = k := by omega
          subst this
          exact fin true h
       have pol : Cn.okPol c.ups z = decide (((z.pol = 1 ∨ z.pol = 2 ∨ z.pol = 4) ∧ z.tru = 0) ∨ (z.pol = 3 ∧ z.tru ≠ 0 ∧ z.tru / 2 ^ n = 0)) := by unfold Cn.okPol; rw [hn2]
       rw [hn] at g0
       obtain ⟨q, hq⟩ : ∃ q, z.tru / 2 ^ n = q := ⟨_, rfl⟩
       have hsh := abU (P := Tryz.prog) (t := 43) (k := .i64) (a := z.tru) (u := n) jp
       rw [hq] at pol hsh
       by_cases p1 : z.pol = 1
       · by_cases t0 : z.tru = 0
         · skip
           have hy : Cn.okPol c.ups z = true := by rw [pol]; exact decide_eq_true jp
           repeat (first | refine goA ?_ | (refine' jl (jc jf rfl (jI _ ?_)) rfl ?_; (· first | omega | decide)) | (refine' jn (jc jf rfl (jI _ ?_)) rfl ?_; (· first | omega | decide)) | (refine' jl (jc jf rfl (jC _ ?_)) rfl ?_; (· first | omega | decide)) | (refine' jn (jc jf rfl (jC _ ?_)) rfl ?_; (· first | omega | decide)) | (refine jz ?_; intro bNew) | (refine kq ?_; intro bBox))
           refine jG (k + 1) ⟨by omega, nxt hy⟩ ?_ (fun _ h => h.tail) jp
           exact qd
         · skip
           rw [qC hlt (fin false (by rw [pol]; exact decide_eq_false jp))]
           repeat (first | refine goA ?_ | (refine' jl (jc jf rfl (jI _ ?_)) rfl ?_; (· first | omega | decide)) | (refine' jn (jc jf rfl (jI _ ?_)) rfl ?_; (· first | omega | decide)) | (refine' jl (jc jf rfl (jC _ ?_)) rfl ?_; (· first | omega | decide)) | (refine' jn (jc jf rfl (jC _ ?_)) rfl ?_; (· first | omega | decide)) | (refine jz ?_; intro bNew) | (refine kq ?_; intro bBox))
           refine jr (fun w h => h.tail.tail) ?_
           refine jq 2 _ rfl rfl ?_
           exact ⟨rfl, rfl⟩
       by_cases p2 : z.pol = 2
       · by_cases t0 : z.tru = 0
         · skip
           have hy : Cn.okPol c.ups z = true := by rw [pol]; exact decide_eq_true jp
           repeat (first | refine goA ?_ | (refine' jl (jc jf rfl (jI _ ?_)) rfl ?_; (· first | omega | decide)) | (refine' jn (jc jf rfl (jI _ ?_)) rfl ?_; (· first | omega | decide)) | (refine' jl (jc jf rfl (jC _ ?_)) rfl ?_; (· first | omega | decide)) | (refine' jn (jc jf rfl (jC _ ?_)) rfl ?_; (· first | omega | decide)) | (refine jz ?_; intro bNew) | (refine kq ?_; intro bBox))
           refine jG (k + 1) ⟨by omega, nxt hy⟩ ?_ (fun _ h => h.tail) jp
           exact qd
         · skip
           rw [qC hlt (fin false (by rw [pol]; exact decide_eq_false jp))]
           repeat (first | refine goA ?_ | (refine' jl (jc jf rfl (jI _ ?_)) rfl ?_; (· first | omega | decide)) | (refine' jn (jc jf rfl (jI _ ?_)) rfl ?_; (· first | omega | decide)) | (refine' jl (jc jf rfl (jC _ ?_)) rfl ?_; (· first | omega | decide)) | (refine' jn (jc jf rfl (jC _ ?_)) rfl ?_; (· first | omega | decide)) | (refine jz ?_; intro bNew) | (refine kq ?_; intro bBox))
           refine jr (fun w h => h.tail.tail) ?_
           refine jq 2 _ rfl rfl ?_
           exact ⟨rfl, rfl⟩
       by_cases p4 : z.pol = 4
       · by_cases t0 : z.tru = 0
         · skip
           have hy : Cn.okPol c.ups z = true := by rw [pol]; exact decide_eq_true jp
           repeat (first | refine goA ?_ | (refine' jl (jc jf rfl (jI _ ?_)) rfl ?_; (· first | omega | decide)) | (refine' jn (jc jf rfl (jI _ ?_)) rfl ?_; (· first | omega | decide)) | (refine' jl (jc jf rfl (jC _ ?_)) rfl ?_; (· first | omega | decide)) | (refine' jn (jc jf rfl (jC _ ?_)) rfl ?_; (· first | omega | decide)) | (refine jz ?_; intro bNew) | (refine kq ?_; intro bBox))
           refine jG (k + 1) ⟨by omega, nxt hy⟩ ?_ (fun _ h => h.tail) jp
           exact qd
         · skip
           rw [qC hlt (fin false (by rw [pol]; exact decide_eq_false jp))]
           repeat (first | refine goA ?_ | (refine' jl (jc jf rfl (jI _ ?_)) rfl ?_; (· first | omega | decide)) | (refine' jn (jc jf rfl (jI _ ?_)) rfl ?_; (· first | omega | decide)) | (refine' jl (jc jf rfl (jC _ ?_)) rfl ?_; (· first | omega | decide)) | (refine' jn (jc jf rfl (jC _ ?_)) rfl ?_; (· first | omega | decide)) | (refine jz ?_; intro bNew) | (refine kq ?_; intro bBox))
           refine jr (fun w h => h.tail.tail) ?_
           refine jq 2 _ rfl rfl ?_
           exact ⟨rfl, rfl⟩
       by_cases p3 : z.pol = 3
       · by_cases t0 : z.tru = 0
         · skip
           rw [qC hlt (fin false (by rw [pol]; exact decide_eq_false jp))]
           repeat (first | refine goA ?_ | (refine' jl (jc jf rfl (jI _ ?_)) rfl ?_; (· first | omega | decide)) | (refine' jn (jc jf rfl (jI _ ?_)) rfl ?_; (· first | omega | decide)) | (refine' jl (jc jf rfl (jC _ ?_)) rfl ?_; (· first | omega | decide)) | (refine' jn (jc jf rfl (jC _ ?_)) rfl ?_; (· first | omega | decide)) | (refine jz ?_; intro bNew) | (refine kq ?_; intro bBox))
           refine jr (fun w h => h.tail.tail) ?_
           refine jq 2 _ rfl rfl ?_
           exact ⟨rfl, rfl⟩
         · by_cases q0 : q = 0
           · skip
             repeat (first | refine goA ?_ | (refine' jl (jc jf rfl (jI _ ?_)) rfl ?_; (· first | omega | decide)) | (refine' jn (jc jf rfl (jI _ ?_)) rfl ?_; (· first | omega | decide)) | (refine' jl (jc jf rfl (jC _ ?_)) rfl ?_; (· first | omega | decide)) | (refine' jn (jc jf rfl (jC _ ?_)) rfl ?_; (· first | omega | decide)) | (refine jz ?_; intro bNew) | (refine kq ?_; intro bBox))
             refine jg (qp rfl rfl hsh) rfl ?_
             have hy : Cn.okPol c.ups z = true := by rw [pol]; exact decide_eq_true jp
             repeat (first | refine goA ?_ | (refine' jl (jc jf rfl (jI _ ?_)) rfl ?_; (· first | omega | decide)) | (refine' jn (jc jf rfl (jI _ ?_)) rfl ?_; (· first | omega | decide)) | (refine' jl (jc jf rfl (jC _ ?_)) rfl ?_; (· first | omega | decide)) | (refine' jn (jc jf rfl (jC _ ?_)) rfl ?_; (· first | omega | decide)) | (refine jz ?_; intro bNew) | (refine kq ?_; intro bBox))
             refine jG (k + 1) ⟨by omega, nxt hy⟩ ?_ (fun _ h => h.tail) jp
             exact qd
           · skip
             rw [qC hlt (fin false (by rw [pol]; exact decide_eq_false jp))]
             repeat (first | refine goA ?_ | (refine' jl (jc jf rfl (jI _ ?_)) rfl ?_; (· first | omega | decide)) | (refine' jn (jc jf rfl (jI _ ?_)) rfl ?_; (· first | omega | decide)) | (refine' jl (jc jf rfl (jC _ ?_)) rfl ?_; (· first | omega | decide)) | (refine' jn (jc jf rfl (jC _ ?_)) rfl ?_; (· first | omega | decide)) | (refine jz ?_; intro bNew) | (refine kq ?_; intro bBox))
             refine jg (qp rfl rfl hsh) rfl ?_
             repeat (first | refine goA ?_ | (refine' jl (jc jf rfl (jI _ ?_)) rfl ?_; (· first | omega | decide)) | (refine' jn (jc jf rfl (jI _ ?_)) rfl ?_; (· first | omega | decide)) | (refine' jl (jc jf rfl (jC _ ?_)) rfl ?_; (· first | omega | decide)) | (refine' jn (jc jf rfl (jC _ ?_)) rfl ?_; (· first | omega | decide)) | (refine jz ?_; intro bNew) | (refine kq ?_; intro bBox))
             refine jr (fun w h => h.tail.tail) ?_
             refine jq 2 _ rfl rfl ?_
             exact ⟨rfl, rfl⟩
       rw [qC hlt (fin false (by rw [pol]; exact decide_eq_false jp))]
       repeat (first | refine goA ?_ | (refine' jl (jc jf rfl (jI _ ?_)) rfl ?_; (· first | omega | decide)) | (refine' jn (jc jf rfl (jI _ ?_)) rfl ?_; (· first | omega | decide)) | (refine' jl (jc jf rfl (jC _ ?_)) rfl ?_; (· first | omega | decide)) | (refine' jn (jc jf rfl (jC _ ?_)) rfl ?_; (· first | omega | decide)) | (refine jz ?_; intro bNew) | (refine kq ?_; intro bBox))
       refine jr (fun w h => h.tail.tail) ?_
       refine jq 2 _ rfl rfl ?_
       exact ⟨rfl, rfl⟩
 · have hil : i = c.zs.length := by omega
   subst hil
   rw [ab9 jp hall]
   repeat (first | refine goA ?_ | (refine' jl (jc jf rfl (jI _ ?_)) rfl ?_; (· first | omega | decide)) | (refine' jn (jc jf rfl (jI _ ?_)) rfl ?_; (· first | omega | decide)) | (refine' jl (jc jf rfl (jC _ ?_)) rfl ?_; (· first | omega | decide)) | (refine' jn (jc jf rfl (jC _ ?_)) rfl ?_; (· first | omega | decide)) | (refine jz ?_; intro bNew) | (refine kq ?_; intro bBox))
   refine jr (fun w h => h.tail) ?_
   refine jq 2 _ rfl rfl ?_
   exact ⟨rfl, rfl⟩
end Go.Proofs.YtgjlbilcnlffgaaGreatDoor
namespace Go.Proofs.YtgjlbilcnlffgaaGreatDoor
open Go.RowKit
open Cn (Zo Cf)
variable {G : World} {L : ja}
structure CfL (L : ja) (c : Cf) (v : Value) : Prop where
 row : sliceR 3 zoR L [v] c.zs
 small : ∀ z ∈ c.zs, z.name.length ≤ 1000000
theorem CfL.mono {L' : ja} {c : Cf} {v : Value} (h : CfL L c v) (hs : ∀ p ∈ L, p ∈ L') : CfL L' c v := ⟨Qo VW _ _ _ _ hs h.row, h.small⟩
theorem ZY {c : Cf} (h : Cn.mayNum c = true) : 1 ≤ c.ups ∧ c.ups ≤ 9 := by
 have := of_decide_eq_true h
 omega
def Jt (c : Cf) : Int := if Cn.mayP c then 0 else 1
theorem afx (c : Cf) (v : Value) (h : CfL L c v) : Spec Tryz.prog G 47 #[.agg (jA c v).toArray] L fun u M => u = .int .i64 (Jt c) ∧ M = L := by
 refine jw (n := 11) Tryz.func47 rfl rfl rfl ?_
 refine jH (jL (qX (zI rfl) rfl ?_))
 intro b1
 repeat (first | refine goA ?_ | (refine kq ?_; intro bBox))
 refine jl (jc jf rfl (ad3 c v)) rfl ?_
 cases hn : Cn.mayNum c with
 | false =>
   have hm : Jt c = 1 := by unfold Jt Cn.mayP; rw [hn]; rfl
   rw [hm]
   repeat (first | refine goA ?_ | (refine kq ?_; intro bBox))
   refine jr (fun w h => h.tail) ?_
   refine jq 2 _ rfl rfl ?_
   exact ⟨rfl, rfl⟩
 | true =>
   repeat (first | refine goA ?_ | (refine kq ?_; intro bBox))
   refine jn (jc jf rfl (ZX c v (Qo VW _ _ _ _ j3 h.row) (ZY hn) h.small)) rfl ?_
   cases hz : Cn.mayZs c.ups c.zs with
   | false =>
     have hm : Jt c = 1 := by unfold Jt Cn.mayP; rw [hn, hz]; rfl
     rw [hm]
     repeat (first | refine goA ?_ | (refine kq ?_; intro bBox))
     refine jr (fun w h => h.tail) ?_
     refine jq 2 _ rfl rfl ?_
     exact ⟨rfl, rfl⟩
   | true =>
     have hm : Jt c = 0 := by unfold Jt Cn.mayP; rw [hn, hz]; rfl
     rw [hm]
     repeat (first | refine goA ?_ | (refine kq ?_; intro bBox))
     refine jr (fun w h => h.tail) ?_
     refine jq 2 _ rfl rfl ?_
     exact ⟨rfl, rfl⟩
theorem aca {c : Cf} (h : Cn.mayP c = true) : Jt c = 0 := if_pos h
theorem ad4 {c : Cf} (h : Cn.mayP c = false) : Jt c = 1 := if_neg (by rw [h]; decide)
end Go.Proofs.YtgjlbilcnlffgaaGreatDoor
namespace Go.Proofs.YtgjlbilcnlffgaaGreatDoor
open Go.RowKit
open Cn (Zo Cf)
theorem ad5 (c : UInt8) : ∀ x ∈ wr c, 33 ≤ x.toNat := by
 intro x hx
 unfold wr at hx
 have dg : ∀ k : Nat, k ≤ 9 → (UInt8.ofNat (48 + k)).toNat = 48 + k := fun k hk => by simp; omega
 have hb := c.toNat_lt
 split at hx
 · rename_i h
   simp only [List.mem_cons, List.not_mem_nil, or_false] at hx
   rcases hx with rfl | rfl
   · decide
   · omega
 · split at hx
   · simp only [List.mem_cons, List.not_mem_nil, or_false] at hx
     rcases hx with rfl | rfl | rfl | rfl
     · decide
     · rw [dg _ jp]; omega
     · rw [dg _ jp]; omega
     · rw [dg _ jp]; omega
   · simp only [List.mem_cons, List.not_mem_nil, or_false] at hx
     subst hx
     omega
theorem YH (ls : List Nm.Bytes) : ∀ x ∈ kD ls, 33 ≤ x.toNat := by
 intro x hx
 obtain ⟨l, _, hl⟩ := List.mem_flatMap.1 hx
 rcases List.mem_append.1 hl with hl | hl
 · obtain ⟨c, _, hc⟩ := List.mem_flatMap.1 hl
   exact ad5 c x hc
 · simp only [List.mem_cons, List.not_mem_nil, or_false] at hl
   subst hl
   decide
def theT : Cn.Names := ⟨qB, fun t => (jY t, q8 t)⟩
theorem afy : theT.Ok where
 back n h := by
  obtain ⟨h1, h2, _⟩ := QZ h
  show (jY (qB n), q8 (qB n)) = (n, 0)
  rw [h1, h2]
 may t n h := by
  have h1 : jY t = n := congrArg Prod.fst h
  have h2 : q8 t = 0 := congrArg Prod.snd h
  rw [← h1]
  exact UX h2
 clean n h := by
  show ∀ c ∈ qB n, 33 ≤ c.toNat
  cases hn : Nm.nm n with
  | none => unfold Nm.may at h; rw [hn] at h; cases h
  | some ls =>
    cases ls with
    | nil =>
      intro c hc
      unfold qB at hc
      rw [hn] at hc
      simp only [List.mem_cons, List.not_mem_nil, or_false] at hc
      subst hc
      decide
    | cons l ls => rw [UW hn]; exact YH _
 len n h := (QZ h).2.2.1
def pre (ls : List Nm.Bytes) (k : Nat) : Nm.Bytes := Cn.unlines (ls.take k) []
def tb (t u : Nat) : Nm.Bytes := ((List.range u).filter fun u => t.testBit u).flatMap fun u => 32 :: Lib.decDigits u
end Go.Proofs.YtgjlbilcnlffgaaGreatDoor
namespace Go.Proofs.YtgjlbilcnlffgaaGreatDoor
open Go.RowKit
open Cn (Zo Cf)
variable {G : World} {L : ja}
theorem ad6 : jX Tryz.prog 44 = true := by kernel_rfl
theorem aiT : jX Tryz.prog 23 = true := by kernel_rfl
def ajE (c : Cf) : Value := .tuple #[.string (bs (Cn.showP theT c).1), .int .i64 (Cn.showP theT c).2]
end Go.Proofs.YtgjlbilcnlffgaaGreatDoor
namespace Go.Proofs.YtgjlbilcnlffgaaGreatDoor
open Go.RowKit
open Cn (Zo Cf)
variable {G : World} {L : ja}
section
variable {P : Program} {ρ : jh} {ty : TypeId}
theorem yE {x : Operand} {t : TypeId} {fs : Array Field} {v : Value} (hx : ev ρ x = some v) (hu : P.underlying t = some (.struct fs)) : OpQ P ρ L (.makeInterface t x) ty (.iface t v) :=
 ⟨fun r hr w hw o ho _ => by simp [execOp, ho, hr _ _ hx, Instr.makeInterface, run_underlying hu]⟩
theorem YI {x : Operand} {t xt : TypeId} {fs : Array Field} {v : Value} (hx : ev ρ x = some (.iface t v)) (hu : P.underlying t = some (.struct fs)) : OpQ P ρ L (.typeAssert x xt t true) ty (.tuple #[v, .bool true]) :=
 ⟨fun r hr w hw o ho _ => by simp [execOp, ho, hr _ _ hx, Instr.typeAssert, run_underlying hu]⟩
theorem aaS {x : Operand} {t t2 xt : TypeId} {fs : Array Field} {v z : Value} (hx : ev ρ x = some (.iface t2 v)) (hu : P.underlying t = some (.struct fs)) (hne : t2 ≠ t) (hz : ∀ w, (zeroValue t).run P w = .ok z w) : OpQ P ρ L (.typeAssert x xt t true) ty (.tuple #[z, .bool false]) :=
 ⟨fun r hr w hw o ho _ => by simp [execOp, ho, hr _ _ hx, Instr.typeAssert, run_underlying hu, hne, hz]⟩
theorem YJ {x : Operand} {t xt : TypeId} {fs : Array Field} {z : Value} (hx : ev ρ x = some .nilIface) (hu : P.underlying t = some (.struct fs)) (hz : ∀ w, (zeroValue t).run P w = .ok z w) : OpQ P ρ L (.typeAssert x xt t true) ty (.tuple #[z, .bool false]) :=
 ⟨fun r hr w hw o ho _ => by simp [execOp, ho, hr _ _ hx, Instr.typeAssert, run_underlying hu, hz]⟩
end
theorem V9 (c : UInt8) : ∀ (l : List UInt8), ∀ w ∈ Cn.spl c l, w.length ≤ l.length
 | [], w, h => by simp [Cn.spl] at h; simp [h]
 | a :: t, w, h => by
   have ih := V9 c t
   unfold Cn.spl at h
   split at h
   · rcases List.mem_cons.1 h with rfl | h
     · simp
     · have := ih w h; simp; omega
   · cases hs : Cn.spl c t with
     | nil => exact absurd hs (Cn.spl_ne c t)
     | cons v vs =>
       rw [hs] at h ih
       rcases List.mem_cons.1 h with rfl | h
       · have := ih v (by simp); simp; omega
       · have := ih w (by simp [h]); simp; omega
theorem zb (c : UInt8) : ∀ (l : List UInt8), (Cn.spl c l).length ≤ l.length + 1
 | [] => by simp [Cn.spl]
 | a :: t => by
   have ih := zb c t
   unfold Cn.spl
   split
   · simp; omega
   · cases hs : Cn.spl c t with
     | nil => simp
     | cons v vs => rw [hs] at ih; simp at ih ⊢; omega
theorem aaT {n : Nm.Bytes} (h : Nm.may n = true) : n.length ≤ 255 := by
 unfold Nm.may at h
 cases hn : Nm.nm n with
 | none => rw [hn] at h; cases h
 | some ls => exact (Nm.nm_iff.1 hn).2.2
def zoV (z : Zo) : Value := .agg #[.string (bs z.name), .int .u8 (z.pol : Nat), .int .u16 (z.tru : Nat)]
def uT (l : Nm.Bytes) : Value := match Cn.spl 32 l with
 | [w, n] => match Cn.numP n 2147483647 with
   | some k => .iface 108 (.agg #[.string (bs w), .int .i64 (k : Nat)])
   | none => .nilIface
 | _ => match Cn.readZone theT l with
   | some z => .iface 112 (zoV z)
   | none => .nilIface
section
variable {l x1 x2 x3 : Nm.Bytes} {t : List Nm.Bytes} {n : Nm.Bytes} {p tr : Nat}
theorem afz (h : Cn.spl 32 l = x1 :: x2 :: x3 :: t) (h1 : x1 ≠ Cn.zoneW) : Cn.readZone theT l = none := by
 unfold Cn.readZone; rw [h]; dsimp only; rw [if_neg h1]
theorem aaU (h : Cn.spl 32 l = Cn.zoneW :: x2 :: x3 :: t) (h1 : Cn.readName theT x2 = none) : Cn.readZone theT l = none := by
 unfold Cn.readZone; rw [h]; dsimp only; rw [if_pos rfl, h1]
theorem ags (h : Cn.spl 32 l = Cn.zoneW :: x2 :: x3 :: t) (h1 : Cn.polP x3 = none) : Cn.readZone theT l = none := by
 unfold Cn.readZone; rw [h]; dsimp only; rw [if_pos rfl, h1]
 cases Cn.readName theT x2 <;> rfl
theorem Qf (h : Cn.spl 32 l = Cn.zoneW :: x2 :: x3 :: t) (h1 : Cn.bitsGo (-1) 0 t = none) : Cn.readZone theT l = none := by
 unfold Cn.readZone; rw [h]; dsimp only; rw [if_pos rfl, h1]
 cases Cn.readName theT x2 <;> cases Cn.polP x3 <;> rfl
theorem Wa (h : Cn.spl 32 l = Cn.zoneW :: x2 :: x3 :: t) (h1 : Cn.polP x3 = some p) (h2 : Cn.bitsGo (-1) 0 t = some tr) (h3 : ¬ (decide (p = 3)) = (decide (tr ≠ 0))) : Cn.readZone theT l = none := by
 unfold Cn.readZone; rw [h]; dsimp only; rw [if_pos rfl, h1, h2]
 cases Cn.readName theT x2 with
 | none => rfl
 | some n => dsimp only; rw [if_neg h3]
theorem aaV (h : Cn.spl 32 l = Cn.zoneW :: x2 :: x3 :: t) (h0 : Cn.readName theT x2 = some n) (h1 : Cn.polP x3 = some p) (h2 : Cn.bitsGo (-1) 0 t = some tr) (h3 : (decide (p = 3)) = (decide (tr ≠ 0))) : Cn.readZone theT l = some ⟨n, p, tr⟩ := by
 unfold Cn.readZone; rw [h]; dsimp only; rw [if_pos rfl, h0, h1, h2]; dsimp only; rw [if_pos h3]
theorem ad7 (h : Cn.spl 32 l = [x1]) : Cn.readZone theT l = none := by unfold Cn.readZone; rw [h]
theorem YK (h : Cn.spl 32 l = [x1]) : uT l = .nilIface := by unfold uT; rw [h, ad7 h]
theorem ul (h : Cn.spl 32 l = x1 :: x2 :: x3 :: t) : uT l = match Cn.readZone theT l with
  | some z => .iface 112 (zoV z)
  | none => .nilIface := by unfold uT; rw [h]
theorem qo (h : Cn.spl 32 l = x1 :: x2 :: x3 :: t) (hz : Cn.readZone theT l = none) : uT l = .nilIface := by rw [ul h, hz]
end
theorem StrRow.tail3 {L : ja} {b : Nat} {x1 x2 x3 : Nm.Bytes} {t : List Nm.Bytes} (hm : (b, Obj.cells ((x1 :: x2 :: x3 :: t : List Nm.Bytes).map jZ).toArray 9 (0, 0)) ∈ L) :
 StrRow L (.slice (uM (some ⟨b, 0, none⟩) (t.length + 3) 3 1) t.length t.length) t := by
 refine ⟨_, _, rfl, ?_⟩
 cases t with
 | nil => exact Or.inl rfl
 | cons y ys =>
   right
   refine ⟨b, 3, _, _, _, ?_, hm, fun i l hi => ?_⟩
   · unfold uM
     rw [if_neg (by simp)]
     rfl
   · rw [List.getElem?_toArray, List.getElem?_map, show 3 + i * 1 = i + 1 + 1 + 1 by omega, List.getElem?_cons_succ, List.getElem?_cons_succ, List.getElem?_cons_succ, hi]
     rfl
theorem ad8 (l : Nm.Bytes) (hl : l.length ≤ 100000) (hg : Glob L) : Spec Tryz.prog G 45 #[.string (bs l)] L fun u M => u = uT l ∧ M = L := by
 have hlen := V9 32 l
 refine jw (n := 95) Tryz.func45 rfl rfl rfl ?_
 repeat (first | refine goA ?_ | (refine' jl (jc jf rfl (jj _ _ ?_ ?_)) rfl ?_; (· first | omega | decide); (· first | omega | decide)) | (refine' jn (jc jf rfl (jj _ _ ?_ ?_)) rfl ?_; (· first | omega | decide); (· first | omega | decide)) | (refine' jl (jc jf rfl (jk _ ?_)) rfl ?_; (· first | omega | decide)) | (refine' jn (jc jf rfl (jk _ ?_)) rfl ?_; (· first | omega | decide)) | (refine jz ?_; intro bNew) | refine jm (jb rfl (js _)) rfl ?_ | refine jg (jb rfl (js _)) rfl ?_ | refine jm (jb rfl (ji _ _)) rfl ?_ | refine jg (jb rfl (ji _ _)) rfl ?_ | refine jm (jb rfl (jo _ _ _)) rfl ?_ | refine jg (jb rfl (jo _ _ _)) rfl ?_)
 refine jT (jc aiT rfl (aaG l jp hg)) rfl ?_
 rintro _ _ ⟨b, rfl, rfl⟩
 obtain ⟨ws, hws⟩ : ∃ ws, Cn.spl 32 l = ws := ⟨_, rfl⟩
 have hne := Cn.spl_ne 32 l
 rw [hws] at hne hlen ⊢
 match ws, hne with
 | [], hne => exact absurd rfl hne
 | [x1], _ =>
   rw [YK hws]
   repeat (first | refine goA ?_ | (refine' jl (jc jf rfl (jj _ _ ?_ ?_)) rfl ?_; (· first | omega | decide); (· first | omega | decide)) | (refine' jn (jc jf rfl (jj _ _ ?_ ?_)) rfl ?_; (· first | omega | decide); (· first | omega | decide)) | (refine' jl (jc jf rfl (jk _ ?_)) rfl ?_; (· first | omega | decide)) | (refine' jn (jc jf rfl (jk _ ?_)) rfl ?_; (· first | omega | decide)) | (refine jz ?_; intro bNew) | refine jm (jb rfl (js _)) rfl ?_ | refine jg (jb rfl (js _)) rfl ?_ | refine jm (jb rfl (ji _ _)) rfl ?_ | refine jg (jb rfl (ji _ _)) rfl ?_ | refine jm (jb rfl (jo _ _ _)) rfl ?_ | refine jg (jb rfl (jo _ _ _)) rfl ?_)
   refine jr (fun w h => h.tail) ?_
   refine jq 2 _ rfl rfl ?_
   exact ⟨rfl, rfl⟩
 | [x1, x2], _ =>
   have h1 := hlen x1 (by simp)
   have h2 := hlen x2 (by simp)
   have c0 : (([x1, x2] : List Nm.Bytes).map jZ).toArray[0 + 0 * 1]? = some (.string (bs x1)) := rfl
   have c1 : (([x1, x2] : List Nm.Bytes).map jZ).toArray[0 + 1 * 1]? = some (.string (bs x2)) := rfl
   have hit : uT l = match Cn.numP x2 2147483647 with
     | some k => .iface 108 (.agg #[.string (bs x1), .int .i64 (k : Nat)])
     | none => .nilIface := by unfold uT; rw [hws]
   rw [hit]
   rw [show ([x1, x2] : List Nm.Bytes).length = 2 from rfl]
   cases hnp : Cn.numP x2 2147483647 with
   | none =>
     have hnv : Km x2 2147483647 = .tuple #[.int .i64 0, .bool false] := by unfold Km; rw [hnp]
     repeat (first | refine goA ?_ | (refine' jl (jc jf rfl (jj _ _ ?_ ?_)) rfl ?_; (· first | omega | decide); (· first | omega | decide)) | (refine' jn (jc jf rfl (jj _ _ ?_ ?_)) rfl ?_; (· first | omega | decide); (· first | omega | decide)) | (refine' jl (jc jf rfl (jk _ ?_)) rfl ?_; (· first | omega | decide)) | (refine' jn (jc jf rfl (jk _ ?_)) rfl ?_; (· first | omega | decide)) | (refine jz ?_; intro bNew) | refine jm (jb rfl (js _)) rfl ?_ | refine jg (jb rfl (js _)) rfl ?_ | refine jm (jb rfl (ji _ _)) rfl ?_ | refine jg (jb rfl (ji _ _)) rfl ?_ | refine jm (jb rfl (jo _ _ _)) rfl ?_ | refine jg (jb rfl (jo _ _ _)) rfl ?_)
     rw [hnv]
     repeat (first | refine goA ?_ | (refine' jl (jc jf rfl (jj _ _ ?_ ?_)) rfl ?_; (· first | omega | decide); (· first | omega | decide)) | (refine' jn (jc jf rfl (jj _ _ ?_ ?_)) rfl ?_; (· first | omega | decide); (· first | omega | decide)) | (refine' jl (jc jf rfl (jk _ ?_)) rfl ?_; (· first | omega | decide)) | (refine' jn (jc jf rfl (jk _ ?_)) rfl ?_; (· first | omega | decide)) | (refine jz ?_; intro bNew) | refine jm (jb rfl (js _)) rfl ?_ | refine jg (jb rfl (js _)) rfl ?_ | refine jm (jb rfl (ji _ _)) rfl ?_ | refine jg (jb rfl (ji _ _)) rfl ?_ | refine jm (jb rfl (jo _ _ _)) rfl ?_ | refine jg (jb rfl (jo _ _ _)) rfl ?_)
     refine jr (fun w h => h.tail) ?_
     refine jq 2 _ rfl rfl ?_
     exact ⟨rfl, rfl⟩
   | some k =>
     have hnv : Km x2 2147483647 = .tuple #[.int .i64 (k : Nat), .bool true] := by unfold Km; rw [hnp]
     repeat (first | refine goA ?_ | (refine' jl (jc jf rfl (jj _ _ ?_ ?_)) rfl ?_; (· first | omega | decide); (· first | omega | decide)) | (refine' jn (jc jf rfl (jj _ _ ?_ ?_)) rfl ?_; (· first | omega | decide); (· first | omega | decide)) | (refine' jl (jc jf rfl (jk _ ?_)) rfl ?_; (· first | omega | decide)) | (refine' jn (jc jf rfl (jk _ ?_)) rfl ?_; (· first | omega | decide)) | (refine jz ?_; intro bNew) | refine jm (jb rfl (js _)) rfl ?_ | refine jg (jb rfl (js _)) rfl ?_ | refine jm (jb rfl (ji _ _)) rfl ?_ | refine jg (jb rfl (ji _ _)) rfl ?_ | refine jm (jb rfl (jo _ _ _)) rfl ?_ | refine jg (jb rfl (jo _ _ _)) rfl ?_)
     rw [hnv]
     repeat (first | refine goA ?_ | (refine' jl (jc jf rfl (jj _ _ ?_ ?_)) rfl ?_; (· first | omega | decide); (· first | omega | decide)) | (refine' jn (jc jf rfl (jj _ _ ?_ ?_)) rfl ?_; (· first | omega | decide); (· first | omega | decide)) | (refine' jl (jc jf rfl (jk _ ?_)) rfl ?_; (· first | omega | decide)) | (refine' jn (jc jf rfl (jk _ ?_)) rfl ?_; (· first | omega | decide)) | (refine jz ?_; intro bNew) | refine jm (jb rfl (js _)) rfl ?_ | refine jg (jb rfl (js _)) rfl ?_ | refine jm (jb rfl (ji _ _)) rfl ?_ | refine jg (jb rfl (ji _ _)) rfl ?_ | refine jm (jb rfl (jo _ _ _)) rfl ?_ | refine jg (jb rfl (jo _ _ _)) rfl ?_)
     refine jm (yE rfl Tryz.underlying108) rfl ?_
     repeat (first | refine goA ?_ | (refine' jl (jc jf rfl (jj _ _ ?_ ?_)) rfl ?_; (· first | omega | decide); (· first | omega | decide)) | (refine' jn (jc jf rfl (jj _ _ ?_ ?_)) rfl ?_; (· first | omega | decide); (· first | omega | decide)) | (refine' jl (jc jf rfl (jk _ ?_)) rfl ?_; (· first | omega | decide)) | (refine' jn (jc jf rfl (jk _ ?_)) rfl ?_; (· first | omega | decide)) | (refine jz ?_; intro bNew) | refine jm (jb rfl (js _)) rfl ?_ | refine jg (jb rfl (js _)) rfl ?_ | refine jm (jb rfl (ji _ _)) rfl ?_ | refine jg (jb rfl (ji _ _)) rfl ?_ | refine jm (jb rfl (jo _ _ _)) rfl ?_ | refine jg (jb rfl (jo _ _ _)) rfl ?_)
     refine jr (fun w h => h.tail) ?_
     refine jq 2 _ rfl rfl ?_
     exact ⟨rfl, rfl⟩
 | x1 :: x2 :: x3 :: t, _ =>
   rw [show (x1 :: x2 :: x3 :: t : List Nm.Bytes).length = t.length + 3 from rfl]
   have h1 := hlen x1 (by simp)
   have h2 := hlen x2 (by simp)
   have h3 := hlen x3 (by simp)
   have hct := zb 32 l
   rw [hws, show (x1 :: x2 :: x3 :: t : List Nm.Bytes).length = t.length + 3 from rfl] at hct
   have c0 : ((x1 :: x2 :: x3 :: t : List Nm.Bytes).map jZ).toArray[0 + 0 * 1]? = some (.string (bs x1)) := rfl
   have c1 : ((x1 :: x2 :: x3 :: t : List Nm.Bytes).map jZ).toArray[0 + 1 * 1]? = some (.string (bs x2)) := rfl
   have c2 : ((x1 :: x2 :: x3 :: t : List Nm.Bytes).map jZ).toArray[0 + 2 * 1]? = some (.string (bs x3)) := rfl
   by_cases hz : x1 = Cn.zoneW
   rotate_left
   · rw [qo hws (afz hws hz)]
     unfold Cn.zoneW at hz
     repeat (first | refine goA ?_ | (refine' jl (jc jf rfl (jj _ _ ?_ ?_)) rfl ?_; (· first | omega | decide); (· first | omega | decide)) | (refine' jn (jc jf rfl (jj _ _ ?_ ?_)) rfl ?_; (· first | omega | decide); (· first | omega | decide)) | (refine' jl (jc jf rfl (jk _ ?_)) rfl ?_; (· first | omega | decide)) | (refine' jn (jc jf rfl (jk _ ?_)) rfl ?_; (· first | omega | decide)) | (refine jz ?_; intro bNew) | refine jm (jb rfl (js _)) rfl ?_ | refine jg (jb rfl (js _)) rfl ?_ | refine jm (jb rfl (ji _ _)) rfl ?_ | refine jg (jb rfl (ji _ _)) rfl ?_ | refine jm (jb rfl (jo _ _ _)) rfl ?_ | refine jg (jb rfl (jo _ _ _)) rfl ?_)
     refine jr (fun w h => h.tail) ?_
     refine jq 2 _ rfl rfl ?_
     exact ⟨rfl, rfl⟩
   subst hz
   have c0' : ((Cn.zoneW :: x2 :: x3 :: t : List Nm.Bytes).map jZ).toArray[0 + 0 * 1]? = some (.string (bs [122, 111, 110, 101])) := rfl
   clear c0
   repeat (first | refine goA ?_ | (refine' jl (jc jf rfl (jj _ _ ?_ ?_)) rfl ?_; (· first | omega | decide); (· first | omega | decide)) | (refine' jn (jc jf rfl (jj _ _ ?_ ?_)) rfl ?_; (· first | omega | decide); (· first | omega | decide)) | (refine' jl (jc jf rfl (jk _ ?_)) rfl ?_; (· first | omega | decide)) | (refine' jn (jc jf rfl (jk _ ?_)) rfl ?_; (· first | omega | decide)) | (refine jz ?_; intro bNew) | refine jm (jb rfl (js _)) rfl ?_ | refine jg (jb rfl (js _)) rfl ?_ | refine jm (jb rfl (ji _ _)) rfl ?_ | refine jg (jb rfl (ji _ _)) rfl ?_ | refine jm (jb rfl (jo _ _ _)) rfl ?_ | refine jg (jb rfl (jo _ _ _)) rfl ?_)
   refine jl (jc jf rfl (ZH x2 jp)) rfl ?_
   unfold uy
   repeat (first | refine goA ?_ | (refine' jl (jc jf rfl (jj _ _ ?_ ?_)) rfl ?_; (· first | omega | decide); (· first | omega | decide)) | (refine' jn (jc jf rfl (jj _ _ ?_ ?_)) rfl ?_; (· first | omega | decide); (· first | omega | decide)) | (refine' jl (jc jf rfl (jk _ ?_)) rfl ?_; (· first | omega | decide)) | (refine' jn (jc jf rfl (jk _ ?_)) rfl ?_; (· first | omega | decide)) | (refine jz ?_; intro bNew) | refine jm (jb rfl (js _)) rfl ?_ | refine jg (jb rfl (js _)) rfl ?_ | refine jm (jb rfl (ji _ _)) rfl ?_ | refine jg (jb rfl (ji _ _)) rfl ?_ | refine jm (jb rfl (jo _ _ _)) rfl ?_ | refine jg (jb rfl (jo _ _ _)) rfl ?_)
   have hKm : ∀ p ∈ [(b, Obj.cells ((Cn.zoneW :: x2 :: x3 :: t : List Nm.Bytes).map jZ).toArray 9 (0, 0))], p ∈ (b, Obj.cells ((Cn.zoneW :: x2 :: x3 :: t : List Nm.Bytes).map jZ).toArray 9 (0, 0)) :: L := by
    intro p hp
    simp only [List.mem_cons, List.not_mem_nil, or_false] at hp
    subst hp
    exact List.mem_cons_self ..
   refine ag9 [(3, .slice (some ⟨b, 0, none⟩) (t.length + 3) (t.length + 3)), (6, .string (bs (jY x2))), (7, .int .i64 (q8 x2))] ((b, Obj.cells ((Cn.zoneW :: x2 :: x3 :: t : List Nm.Bytes).map jZ).toArray 9 (0, 0)) :: L) ?_ (fun w h => h) ?_
   exact qd
   by_cases he : q8 x2 = 0
   rotate_left
   · have hrn : Cn.readName theT x2 = none := if_neg fun k => he k.1
     rw [qo hws (aaU hws hrn)]
     refine kQ jx ([(b, Obj.cells ((Cn.zoneW :: x2 :: x3 :: t : List Nm.Bytes).map jZ).toArray 9 (0, 0))]) [] ?_
     refine tkQ 0 ?_
     refine tkQ 1 ?_
     refine tkQ 2 ?_
     refine tkQ 3 ?_
     first | (refine' jS 4 rfl rfl jf (qc rfl rfl (by first | with_reducible rfl | assumption | exact Bool.not_false | exact Bool.not_true | exact dT (by first | assumption | with_reducible rfl | omega) | exact dF (by first | assumption | with_reducible rfl | omega) | exact eT (by first | assumption | with_reducible rfl | omega) | exact eF (by first | assumption | with_reducible rfl | omega) | exact nT (by first | assumption | with_reducible rfl | omega) | exact nF (by first | assumption | with_reducible rfl | omega) | exact xT (by first | assumption | exact dT (by first | assumption | with_reducible rfl | omega) | exact dF (by first | assumption | with_reducible rfl | omega) | exact eT (by first | assumption | with_reducible rfl | omega) | exact eF (by first | assumption | with_reducible rfl | omega) | exact nT (by first | assumption | with_reducible rfl | omega) | exact nF (by first | assumption | with_reducible rfl | omega)) | exact xF (by first | assumption | exact dT (by first | assumption | with_reducible rfl | omega) | exact dF (by first | assumption | with_reducible rfl | omega) | exact eT (by first | assumption | with_reducible rfl | omega) | exact eF (by first | assumption | with_reducible rfl | omega) | exact nT (by first | assumption | with_reducible rfl | omega) | exact nF (by first | assumption | with_reducible rfl | omega))) jf rfl (fun _ _ => jk _ ?_)) ?_ ?_; (· first | omega | decide); (· first | assumption | (intro p hp; grind))) | (refine jS 4 rfl rfl jf (qG rfl rfl ?_) ?_ ?_; (· first | with_reducible rfl | assumption | exact Bool.not_false | exact Bool.not_true | exact dT (by first | assumption | with_reducible rfl | omega) | exact dF (by first | assumption | with_reducible rfl | omega) | exact eT (by first | assumption | with_reducible rfl | omega) | exact eF (by first | assumption | with_reducible rfl | omega) | exact nT (by first | assumption | with_reducible rfl | omega) | exact nF (by first | assumption | with_reducible rfl | omega) | exact xT (by first | assumption | exact dT (by first | assumption | with_reducible rfl | omega) | exact dF (by first | assumption | with_reducible rfl | omega) | exact eT (by first | assumption | with_reducible rfl | omega) | exact eF (by first | assumption | with_reducible rfl | omega) | exact nT (by first | assumption | with_reducible rfl | omega) | exact nF (by first | assumption | with_reducible rfl | omega)) | exact xF (by first | assumption | exact dT (by first | assumption | with_reducible rfl | omega) | exact dF (by first | assumption | with_reducible rfl | omega) | exact eT (by first | assumption | with_reducible rfl | omega) | exact eF (by first | assumption | with_reducible rfl | omega) | exact nT (by first | assumption | with_reducible rfl | omega) | exact nF (by first | assumption | with_reducible rfl | omega))); (· first | assumption | (intro p hp; grind))) | (refine jS 4 rfl rfl jf (kZ rfl rfl) ?_ ?_; (· first | assumption | (intro p hp; grind)))
     refine tkQ 5 ?_
     refine tkQ 6 ?_
     refine tkQ 7 ?_
     refine tkQ 8 ?_
     refine tkQ 9 ?_
     refine tdQ ?_
     repeat (first | refine goA ?_ | (refine' jl (jc jf rfl (jj _ _ ?_ ?_)) rfl ?_; (· first | omega | decide); (· first | omega | decide)) | (refine' jn (jc jf rfl (jj _ _ ?_ ?_)) rfl ?_; (· first | omega | decide); (· first | omega | decide)) | (refine' jl (jc jf rfl (jk _ ?_)) rfl ?_; (· first | omega | decide)) | (refine' jn (jc jf rfl (jk _ ?_)) rfl ?_; (· first | omega | decide)) | (refine jz ?_; intro bNew) | refine jm (jb rfl (js _)) rfl ?_ | refine jg (jb rfl (js _)) rfl ?_ | refine jm (jb rfl (ji _ _)) rfl ?_ | refine jg (jb rfl (ji _ _)) rfl ?_ | refine jm (jb rfl (jo _ _ _)) rfl ?_ | refine jg (jb rfl (jo _ _ _)) rfl ?_)
     refine jr (fun w h => h.tail) ?_
     refine jq 2 _ rfl rfl ?_
     exact ⟨rfl, rfl⟩
   have hmay := UX he
   have hpv := aaT hmay
   by_cases ht : qB (jY x2) = x2
   rotate_left
   · have hrn : Cn.readName theT x2 = none := if_neg fun k => ht k.2
     rw [qo hws (aaU hws hrn)]
     refine kQ jx ([(b, Obj.cells ((Cn.zoneW :: x2 :: x3 :: t : List Nm.Bytes).map jZ).toArray 9 (0, 0))]) [] ?_
     refine tkQ 0 ?_
     refine tkQ 1 ?_
     refine tkQ 2 ?_
     refine tkQ 3 ?_
     first | (refine' jS 4 rfl rfl jf (qc rfl rfl (by first | with_reducible rfl | assumption | exact Bool.not_false | exact Bool.not_true | exact dT (by first | assumption | with_reducible rfl | omega) | exact dF (by first | assumption | with_reducible rfl | omega) | exact eT (by first | assumption | with_reducible rfl | omega) | exact eF (by first | assumption | with_reducible rfl | omega) | exact nT (by first | assumption | with_reducible rfl | omega) | exact nF (by first | assumption | with_reducible rfl | omega) | exact xT (by first | assumption | exact dT (by first | assumption | with_reducible rfl | omega) | exact dF (by first | assumption | with_reducible rfl | omega) | exact eT (by first | assumption | with_reducible rfl | omega) | exact eF (by first | assumption | with_reducible rfl | omega) | exact nT (by first | assumption | with_reducible rfl | omega) | exact nF (by first | assumption | with_reducible rfl | omega)) | exact xF (by first | assumption | exact dT (by first | assumption | with_reducible rfl | omega) | exact dF (by first | assumption | with_reducible rfl | omega) | exact eT (by first | assumption | with_reducible rfl | omega) | exact eF (by first | assumption | with_reducible rfl | omega) | exact nT (by first | assumption | with_reducible rfl | omega) | exact nF (by first | assumption | with_reducible rfl | omega))) jf rfl (fun _ _ => jk _ ?_)) ?_ ?_; (· first | omega | decide); (· first | assumption | (intro p hp; grind))) | (refine jS 4 rfl rfl jf (qG rfl rfl ?_) ?_ ?_; (· first | with_reducible rfl | assumption | exact Bool.not_false | exact Bool.not_true | exact dT (by first | assumption | with_reducible rfl | omega) | exact dF (by first | assumption | with_reducible rfl | omega) | exact eT (by first | assumption | with_reducible rfl | omega) | exact eF (by first | assumption | with_reducible rfl | omega) | exact nT (by first | assumption | with_reducible rfl | omega) | exact nF (by first | assumption | with_reducible rfl | omega) | exact xT (by first | assumption | exact dT (by first | assumption | with_reducible rfl | omega) | exact dF (by first | assumption | with_reducible rfl | omega) | exact eT (by first | assumption | with_reducible rfl | omega) | exact eF (by first | assumption | with_reducible rfl | omega) | exact nT (by first | assumption | with_reducible rfl | omega) | exact nF (by first | assumption | with_reducible rfl | omega)) | exact xF (by first | assumption | exact dT (by first | assumption | with_reducible rfl | omega) | exact dF (by first | assumption | with_reducible rfl | omega) | exact eT (by first | assumption | with_reducible rfl | omega) | exact eF (by first | assumption | with_reducible rfl | omega) | exact nT (by first | assumption | with_reducible rfl | omega) | exact nF (by first | assumption | with_reducible rfl | omega))); (· first | assumption | (intro p hp; grind))) | (refine jS 4 rfl rfl jf (kZ rfl rfl) ?_ ?_; (· first | assumption | (intro p hp; grind)))
     refine tkQ 5 ?_
     refine tkQ 6 ?_
     refine tkQ 7 ?_
     refine tkQ 8 ?_
     refine tkQ 9 ?_
     refine tdQ ?_
     repeat (first | refine goA ?_ | (refine' jl (jc jf rfl (jj _ _ ?_ ?_)) rfl ?_; (· first | omega | decide); (· first | omega | decide)) | (refine' jn (jc jf rfl (jj _ _ ?_ ?_)) rfl ?_; (· first | omega | decide); (· first | omega | decide)) | (refine' jl (jc jf rfl (jk _ ?_)) rfl ?_; (· first | omega | decide)) | (refine' jn (jc jf rfl (jk _ ?_)) rfl ?_; (· first | omega | decide)) | (refine jz ?_; intro bNew) | refine jm (jb rfl (js _)) rfl ?_ | refine jg (jb rfl (js _)) rfl ?_ | refine jm (jb rfl (ji _ _)) rfl ?_ | refine jg (jb rfl (ji _ _)) rfl ?_ | refine jm (jb rfl (jo _ _ _)) rfl ?_ | refine jg (jb rfl (jo _ _ _)) rfl ?_)
     refine jr (fun w h => h.tail) ?_
     refine jq 2 _ rfl rfl ?_
     exact ⟨rfl, rfl⟩
   have hrn : Cn.readName theT x2 = some (jY x2) := if_pos ⟨he, ht⟩
   refine kQ jx ([(b, Obj.cells ((Cn.zoneW :: x2 :: x3 :: t : List Nm.Bytes).map jZ).toArray 9 (0, 0))]) [] ?_
   refine tkQ 0 ?_
   refine tkQ 1 ?_
   refine tkQ 2 ?_
   refine tkQ 3 ?_
   first | (refine' jS 4 rfl rfl jf (qc rfl rfl (by first | with_reducible rfl | assumption | exact Bool.not_false | exact Bool.not_true | exact dT (by first | assumption | with_reducible rfl | omega) | exact dF (by first | assumption | with_reducible rfl | omega) | exact eT (by first | assumption | with_reducible rfl | omega) | exact eF (by first | assumption | with_reducible rfl | omega) | exact nT (by first | assumption | with_reducible rfl | omega) | exact nF (by first | assumption | with_reducible rfl | omega) | exact xT (by first | assumption | exact dT (by first | assumption | with_reducible rfl | omega) | exact dF (by first | assumption | with_reducible rfl | omega) | exact eT (by first | assumption | with_reducible rfl | omega) | exact eF (by first | assumption | with_reducible rfl | omega) | exact nT (by first | assumption | with_reducible rfl | omega) | exact nF (by first | assumption | with_reducible rfl | omega)) | exact xF (by first | assumption | exact dT (by first | assumption | with_reducible rfl | omega) | exact dF (by first | assumption | with_reducible rfl | omega) | exact eT (by first | assumption | with_reducible rfl | omega) | exact eF (by first | assumption | with_reducible rfl | omega) | exact nT (by first | assumption | with_reducible rfl | omega) | exact nF (by first | assumption | with_reducible rfl | omega))) jf rfl (fun _ _ => jk _ ?_)) ?_ ?_; (· first | omega | decide); (· first | assumption | (intro p hp; grind))) | (refine jS 4 rfl rfl jf (qG rfl rfl ?_) ?_ ?_; (· first | with_reducible rfl | assumption | exact Bool.not_false | exact Bool.not_true | exact dT (by first | assumption | with_reducible rfl | omega) | exact dF (by first | assumption | with_reducible rfl | omega) | exact eT (by first | assumption | with_reducible rfl | omega) | exact eF (by first | assumption | with_reducible rfl | omega) | exact nT (by first | assumption | with_reducible rfl | omega) | exact nF (by first | assumption | with_reducible rfl | omega) | exact xT (by first | assumption | exact dT (by first | assumption | with_reducible rfl | omega) | exact dF (by first | assumption | with_reducible rfl | omega) | exact eT (by first | assumption | with_reducible rfl | omega) | exact eF (by first | assumption | with_reducible rfl | omega) | exact nT (by first | assumption | with_reducible rfl | omega) | exact nF (by first | assumption | with_reducible rfl | omega)) | exact xF (by first | assumption | exact dT (by first | assumption | with_reducible rfl | omega) | exact dF (by first | assumption | with_reducible rfl | omega) | exact eT (by first | assumption | with_reducible rfl | omega) | exact eF (by first | assumption | with_reducible rfl | omega) | exact nT (by first | assumption | with_reducible rfl | omega) | exact nF (by first | assumption | with_reducible rfl | omega))); (· first | assumption | (intro p hp; grind))) | (refine jS 4 rfl rfl jf (kZ rfl rfl) ?_ ?_; (· first | assumption | (intro p hp; grind)))
   refine tkQ 5 ?_
   refine tkQ 6 ?_
   refine tkQ 7 ?_
   refine tkQ 8 ?_
   refine tkQ 9 ?_
   refine tdQ ?_
   cases hpp : Cn.polP x3 with
   | none =>
     have hpp' := hpp
     unfold Cn.polP Cn.strictW Cn.unionW Cn.refuseW Cn.trustedW at hpp'
     have q1 : x3 ≠ [115, 116, 114, 105, 99, 116] := fun k => by rw [if_pos k] at hpp'; cases hpp'
     rw [if_neg q1] at hpp'
     have q2 : x3 ≠ [117, 110, 105, 111, 110] := fun k => by rw [if_pos k] at hpp'; cases hpp'
     rw [if_neg q2] at hpp'
     have q4 : x3 ≠ [114, 101, 102, 117, 115, 101] := fun k => by rw [if_pos k] at hpp'; cases hpp'
     rw [if_neg q4] at hpp'
     have q3 : x3 ≠ [116, 114, 117, 115, 116, 101, 100] := fun k => by rw [if_pos k] at hpp'; cases hpp'
     rw [qo hws (ags hws hpp)]
     repeat (first | refine goA ?_ | (refine' jl (jc jf rfl (jj _ _ ?_ ?_)) rfl ?_; (· first | omega | decide); (· first | omega | decide)) | (refine' jn (jc jf rfl (jj _ _ ?_ ?_)) rfl ?_; (· first | omega | decide); (· first | omega | decide)) | (refine' jl (jc jf rfl (jk _ ?_)) rfl ?_; (· first | omega | decide)) | (refine' jn (jc jf rfl (jk _ ?_)) rfl ?_; (· first | omega | decide)) | (refine jz ?_; intro bNew) | refine jm (jb rfl (js _)) rfl ?_ | refine jg (jb rfl (js _)) rfl ?_ | refine jm (jb rfl (ji _ _)) rfl ?_ | refine jg (jb rfl (ji _ _)) rfl ?_ | refine jm (jb rfl (jo _ _ _)) rfl ?_ | refine jg (jb rfl (jo _ _ _)) rfl ?_)
     refine jr (fun w h => h.tail.tail) ?_
     refine jq 2 _ rfl rfl ?_
     exact ⟨rfl, rfl⟩
   | some p =>
     obtain ⟨hx3, hp1, hp4⟩ := Cn.polP_some hpp
     rcases (by omega : p = 1 ∨ p = 2 ∨ p = 3 ∨ p = 4) with rfl | rfl | rfl | rfl
     · obtain rfl : x3 = [115, 116, 114, 105, 99, 116] := hx3
       repeat (first | refine goA ?_ | (refine' jl (jc jf rfl (jj _ _ ?_ ?_)) rfl ?_; (· first | omega | decide); (· first | omega | decide)) | (refine' jn (jc jf rfl (jj _ _ ?_ ?_)) rfl ?_; (· first | omega | decide); (· first | omega | decide)) | (refine' jl (jc jf rfl (jk _ ?_)) rfl ?_; (· first | omega | decide)) | (refine' jn (jc jf rfl (jk _ ?_)) rfl ?_; (· first | omega | decide)) | (refine jz ?_; intro bNew) | refine jm (jb rfl (js _)) rfl ?_ | refine jg (jb rfl (js _)) rfl ?_ | refine jm (jb rfl (ji _ _)) rfl ?_ | refine jg (jb rfl (ji _ _)) rfl ?_ | refine jm (jb rfl (jo _ _ _)) rfl ?_ | refine jg (jb rfl (jo _ _ _)) rfl ?_)
       obtain ⟨b8, hb8⟩ : ∃ b, bNew = b := ⟨_, rfl⟩
       rw [hb8]
       clear hb8 bNew
       have hst : ∀ Y : ja, (b8, Obj.cells ((#[.string (bs (jY x2)), .int .u8 0, .int .u16 0] : Array Value).setIfInBounds (0 + 1) (.int .u8 1)) 45 (0, 0)) :: Y = (b8, Obj.cells #[.string (bs (jY x2)), .int .u8 1, .int .u16 0] 45 (0, 0)) :: Y := fun Y => rfl
       rw [hst]
       have hrow : StrRow ((b8, Obj.cells #[.string (bs (jY x2)), .int .u8 1, .int .u16 0] 45 (0, 0)) :: (b, Obj.cells ((Cn.zoneW :: x2 :: [115, 116, 114, 105, 99, 116] :: t : List Nm.Bytes).map jZ).toArray 9 (0, 0)) :: L) (.slice (uM (some ⟨b, 0, none⟩) (t.length + 3) (Int.toNat 3) 1) (t.length + 3 - Int.toNat 3) (t.length + 3 - Int.toNat 3)) t := by
        show StrRow _ (.slice (uM _ _ 3 1) (t.length + 3 - 3) (t.length + 3 - 3)) t
        rw [Nat.add_sub_cancel]
        exact StrRow.tail3 (List.mem_cons_of_mem _ (List.mem_cons_self ..))
       refine jl (jc jf rfl (VX _ t hrow jp (fun w hw => by have := hlen w (by simp [hw]); omega))) rfl ?_
       have z0 : (#[.string (bs (jY x2)), .int .u8 1, .int .u16 0] : Array Value)[0 + 1]? = some (.int .u8 1) := rfl
       cases hbt : Cn.bitsGo (-1) 0 t with
       | none =>
         have hbv : qu t = .tuple #[.int .u16 0, .bool false] := by unfold qu; rw [hbt]
         rw [hbv, qo hws (Qf hws hbt)]
         repeat (first | refine goA ?_ | (refine' jl (jc jf rfl (jj _ _ ?_ ?_)) rfl ?_; (· first | omega | decide); (· first | omega | decide)) | (refine' jn (jc jf rfl (jj _ _ ?_ ?_)) rfl ?_; (· first | omega | decide); (· first | omega | decide)) | (refine' jl (jc jf rfl (jk _ ?_)) rfl ?_; (· first | omega | decide)) | (refine' jn (jc jf rfl (jk _ ?_)) rfl ?_; (· first | omega | decide)) | (refine jz ?_; intro bNew) | refine jm (jb rfl (js _)) rfl ?_ | refine jg (jb rfl (js _)) rfl ?_ | refine jm (jb rfl (ji _ _)) rfl ?_ | refine jg (jb rfl (ji _ _)) rfl ?_ | refine jm (jb rfl (jo _ _ _)) rfl ?_ | refine jg (jb rfl (jo _ _ _)) rfl ?_)
         refine jr (fun w h => h.tail.tail) ?_
         refine jq 2 _ rfl rfl ?_
         exact ⟨rfl, rfl⟩
       | some tr =>
         have hbv : qu t = .tuple #[.int .u16 (tr : Nat), .bool true] := by unfold qu; rw [hbt]
         have htr := (Cn.bits_back hbt).2
         rw [hbv]
         by_cases h0 : tr = 0
         · skip
           have hd : (!(((1 : Int) == 3) == (((tr : Nat) : Int) != 0))) = false := by simp [h0]
           rw [ul hws, aaV hws hrn hpp hbt (by simp [h0])]
           dsimp only
           repeat (first | refine goA ?_ | (refine' jl (jc jf rfl (jj _ _ ?_ ?_)) rfl ?_; (· first | omega | decide); (· first | omega | decide)) | (refine' jn (jc jf rfl (jj _ _ ?_ ?_)) rfl ?_; (· first | omega | decide); (· first | omega | decide)) | (refine' jl (jc jf rfl (jk _ ?_)) rfl ?_; (· first | omega | decide)) | (refine' jn (jc jf rfl (jk _ ?_)) rfl ?_; (· first | omega | decide)) | (refine jz ?_; intro bNew) | refine jm (jb rfl (js _)) rfl ?_ | refine jg (jb rfl (js _)) rfl ?_ | refine jm (jb rfl (ji _ _)) rfl ?_ | refine jg (jb rfl (ji _ _)) rfl ?_ | refine jm (jb rfl (jo _ _ _)) rfl ?_ | refine jg (jb rfl (jo _ _ _)) rfl ?_)
           refine jm (yE rfl Tryz.underlying112) rfl ?_
           repeat (first | refine goA ?_ | (refine' jl (jc jf rfl (jj _ _ ?_ ?_)) rfl ?_; (· first | omega | decide); (· first | omega | decide)) | (refine' jn (jc jf rfl (jj _ _ ?_ ?_)) rfl ?_; (· first | omega | decide); (· first | omega | decide)) | (refine' jl (jc jf rfl (jk _ ?_)) rfl ?_; (· first | omega | decide)) | (refine' jn (jc jf rfl (jk _ ?_)) rfl ?_; (· first | omega | decide)) | (refine jz ?_; intro bNew) | refine jm (jb rfl (js _)) rfl ?_ | refine jg (jb rfl (js _)) rfl ?_ | refine jm (jb rfl (ji _ _)) rfl ?_ | refine jg (jb rfl (ji _ _)) rfl ?_ | refine jm (jb rfl (jo _ _ _)) rfl ?_ | refine jg (jb rfl (jo _ _ _)) rfl ?_)
           refine jr (fun w h => h.tail.tail) ?_
           refine jq 2 _ rfl rfl ?_
           exact ⟨rfl, rfl⟩
         · skip
           have hd : (!(((1 : Int) == 3) == (((tr : Nat) : Int) != 0))) = true := by simp [h0]
           rw [qo hws (Wa hws hpp hbt (by simp [h0]))]
           repeat (first | refine goA ?_ | (refine' jl (jc jf rfl (jj _ _ ?_ ?_)) rfl ?_; (· first | omega | decide); (· first | omega | decide)) | (refine' jn (jc jf rfl (jj _ _ ?_ ?_)) rfl ?_; (· first | omega | decide); (· first | omega | decide)) | (refine' jl (jc jf rfl (jk _ ?_)) rfl ?_; (· first | omega | decide)) | (refine' jn (jc jf rfl (jk _ ?_)) rfl ?_; (· first | omega | decide)) | (refine jz ?_; intro bNew) | refine jm (jb rfl (js _)) rfl ?_ | refine jg (jb rfl (js _)) rfl ?_ | refine jm (jb rfl (ji _ _)) rfl ?_ | refine jg (jb rfl (ji _ _)) rfl ?_ | refine jm (jb rfl (jo _ _ _)) rfl ?_ | refine jg (jb rfl (jo _ _ _)) rfl ?_)
           refine jr (fun w h => h.tail.tail) ?_
           refine jq 2 _ rfl rfl ?_
           exact ⟨rfl, rfl⟩
     · obtain rfl : x3 = [117, 110, 105, 111, 110] := hx3
       repeat (first | refine goA ?_ | (refine' jl (jc jf rfl (jj _ _ ?_ ?_)) rfl ?_; (· first | omega | decide); (· first | omega | decide)) | (refine' jn (jc jf rfl (jj _ _ ?_ ?_)) rfl ?_; (· first | omega | decide); (· first | omega | decide)) | (refine' jl (jc jf rfl (jk _ ?_)) rfl ?_; (· first | omega | decide)) | (refine' jn (jc jf rfl (jk _ ?_)) rfl ?_; (· first | omega | decide)) | (refine jz ?_; intro bNew) | refine jm (jb rfl (js _)) rfl ?_ | refine jg (jb rfl (js _)) rfl ?_ | refine jm (jb rfl (ji _ _)) rfl ?_ | refine jg (jb rfl (ji _ _)) rfl ?_ | refine jm (jb rfl (jo _ _ _)) rfl ?_ | refine jg (jb rfl (jo _ _ _)) rfl ?_)
       obtain ⟨b8, hb8⟩ : ∃ b, bNew = b := ⟨_, rfl⟩
       rw [hb8]
       clear hb8 bNew
       have hst : ∀ Y : ja, (b8, Obj.cells ((#[.string (bs (jY x2)), .int .u8 0, .int .u16 0] : Array Value).setIfInBounds (0 + 1) (.int .u8 2)) 45 (0, 0)) :: Y = (b8, Obj.cells #[.string (bs (jY x2)), .int .u8 2, .int .u16 0] 45 (0, 0)) :: Y := fun Y => rfl
       rw [hst]
       have hrow : StrRow ((b8, Obj.cells #[.string (bs (jY x2)), .int .u8 2, .int .u16 0] 45 (0, 0)) :: (b, Obj.cells ((Cn.zoneW :: x2 :: [117, 110, 105, 111, 110] :: t : List Nm.Bytes).map jZ).toArray 9 (0, 0)) :: L) (.slice (uM (some ⟨b, 0, none⟩) (t.length + 3) (Int.toNat 3) 1) (t.length + 3 - Int.toNat 3) (t.length + 3 - Int.toNat 3)) t := by
        show StrRow _ (.slice (uM _ _ 3 1) (t.length + 3 - 3) (t.length + 3 - 3)) t
        rw [Nat.add_sub_cancel]
        exact StrRow.tail3 (List.mem_cons_of_mem _ (List.mem_cons_self ..))
       refine jl (jc jf rfl (VX _ t hrow jp (fun w hw => by have := hlen w (by simp [hw]); omega))) rfl ?_
       have z0 : (#[.string (bs (jY x2)), .int .u8 2, .int .u16 0] : Array Value)[0 + 1]? = some (.int .u8 2) := rfl
       cases hbt : Cn.bitsGo (-1) 0 t with
       | none =>
         have hbv : qu t = .tuple #[.int .u16 0, .bool false] := by unfold qu; rw [hbt]
         rw [hbv, qo hws (Qf hws hbt)]
         repeat (first | refine goA ?_ | (refine' jl (jc jf rfl (jj _ _ ?_ ?_)) rfl ?_; (· first | omega | decide); (· first | omega | decide)) | (refine' jn (jc jf rfl (jj _ _ ?_ ?_)) rfl ?_; (· first | omega | decide); (· first | omega | decide)) | (refine' jl (jc jf rfl (jk _ ?_)) rfl ?_; (· first | omega | decide)) | (refine' jn (jc jf rfl (jk _ ?_)) rfl ?_; (· first | omega | decide)) | (refine jz ?_; intro bNew) | refine jm (jb rfl (js _)) rfl ?_ | refine jg (jb rfl (js _)) rfl ?_ | refine jm (jb rfl (ji _ _)) rfl ?_ | refine jg (jb rfl (ji _ _)) rfl ?_ | refine jm (jb rfl (jo _ _ _)) rfl ?_ | refine jg (jb rfl (jo _ _ _)) rfl ?_)
         refine jr (fun w h => h.tail.tail) ?_
         refine jq 2 _ rfl rfl ?_
         exact ⟨rfl, rfl⟩
       | some tr =>
         have hbv : qu t = .tuple #[.int .u16 (tr : Nat), .bool true] := by unfold qu; rw [hbt]
         have htr := (Cn.bits_back hbt).2
         rw [hbv]
         by_cases h0 : tr = 0
         · skip
           have hd : (!(((2 : Int) == 3) == (((tr : Nat) : Int) != 0))) = false := by simp [h0]
           rw [ul hws, aaV hws hrn hpp hbt (by simp [h0])]
           dsimp only
           repeat (first | refine goA ?_ | (refine' jl (jc jf rfl (jj _ _ ?_ ?_)) rfl ?_; (· first | omega | decide); (· first | omega | decide)) | (refine' jn (jc jf rfl (jj _ _ ?_ ?_)) rfl ?_; (· first | omega | decide); (· first | omega | decide)) | (refine' jl (jc jf rfl (jk _ ?_)) rfl ?_; (· first | omega | decide)) | (refine' jn (jc jf rfl (jk _ ?_)) rfl ?_; (· first | omega | decide)) | (refine jz ?_; intro bNew) | refine jm (jb rfl (js _)) rfl ?_ | refine jg (jb rfl (js _)) rfl ?_ | refine jm (jb rfl (ji _ _)) rfl ?_ | refine jg (jb rfl (ji _ _)) rfl ?_ | refine jm (jb rfl (jo _ _ _)) rfl ?_ | refine jg (jb rfl (jo _ _ _)) rfl ?_)
           refine jm (yE rfl Tryz.underlying112) rfl ?_
           repeat (first | refine goA ?_ | (refine' jl (jc jf rfl (jj _ _ ?_ ?_)) rfl ?_; (· first | omega | decide); (· first | omega | decide)) | (refine' jn (jc jf rfl (jj _ _ ?_ ?_)) rfl ?_; (· first | omega | decide); (· first | omega | decide)) | (refine' jl (jc jf rfl (jk _ ?_)) rfl ?_; (· first | omega | decide)) | (refine' jn (jc jf rfl (jk _ ?_)) rfl ?_; (· first | omega | decide)) | (refine jz ?_; intro bNew) | refine jm (jb rfl (js _)) rfl ?_ | refine jg (jb rfl (js _)) rfl ?_ | refine jm (jb rfl (ji _ _)) rfl ?_ | refine jg (jb rfl (ji _ _)) rfl ?_ | refine jm (jb rfl (jo _ _ _)) rfl ?_ | refine jg (jb rfl (jo _ _ _)) rfl ?_)
           refine jr (fun w h => h.tail.tail) ?_
           refine jq 2 _ rfl rfl ?_
           exact ⟨rfl, rfl⟩
         · skip
           have hd : (!(((2 : Int) == 3) == (((tr : Nat) : Int) != 0))) = true := by simp [h0]
           rw [qo hws (Wa hws hpp hbt (by simp [h0]))]
           repeat (first | refine goA ?_ | (refine' jl (jc jf rfl (jj _ _ ?_ ?_)) rfl ?_; (· first | omega | decide); (· first | omega | decide)) | (refine' jn (jc jf rfl (jj _ _ ?_ ?_)) rfl ?_; (· first | omega | decide); (· first | omega | decide)) | (refine' jl (jc jf rfl (jk _ ?_)) rfl ?_; (· first | omega | decide)) | (refine' jn (jc jf rfl (jk _ ?_)) rfl ?_; (· first | omega | decide)) | (refine jz ?_; intro bNew) | refine jm (jb rfl (js _)) rfl ?_ | refine jg (jb rfl (js _)) rfl ?_ | refine jm (jb rfl (ji _ _)) rfl ?_ | refine jg (jb rfl (ji _ _)) rfl ?_ | refine jm (jb rfl (jo _ _ _)) rfl ?_ | refine jg (jb rfl (jo _ _ _)) rfl ?_)
           refine jr (fun w h => h.tail.tail) ?_
           refine jq 2 _ rfl rfl ?_
           exact ⟨rfl, rfl⟩
     · obtain rfl : x3 = [116, 114, 117, 115, 116, 101, 100] := hx3
       repeat (first | refine goA ?_ | (refine' jl (jc jf rfl (jj _ _ ?_ ?_)) rfl ?_; (· first | omega | decide); (· first | omega | decide)) | (refine' jn (jc jf rfl (jj _ _ ?_ ?_)) rfl ?_; (· first | omega | decide); (· first | omega | decide)) | (refine' jl (jc jf rfl (jk _ ?_)) rfl ?_; (· first | omega | decide)) | (refine' jn (jc jf rfl (jk _ ?_)) rfl ?_; (· first | omega | decide)) | (refine jz ?_; intro bNew) | refine jm (jb rfl (js _)) rfl ?_ | refine jg (jb rfl (js _)) rfl ?_ | refine jm (jb rfl (ji _ _)) rfl ?_ | refine jg (jb rfl (ji _ _)) rfl ?_ | refine jm (jb rfl (jo _ _ _)) rfl ?_ | refine jg (jb rfl (jo _ _ _)) rfl ?_)
       obtain ⟨b8, hb8⟩ : ∃ b, bNew = b := ⟨_, rfl⟩
       rw [hb8]
       clear hb8 bNew
       have hst : ∀ Y : ja, (b8, Obj.cells ((#[.string (bs (jY x2)), .int .u8 0, .int .u16 0] : Array Value).setIfInBounds (0 + 1) (.int .u8 3)) 45 (0, 0)) :: Y = (b8, Obj.cells #[.string (bs (jY x2)), .int .u8 3, .int .u16 0] 45 (0, 0)) :: Y := fun Y => rfl
       rw [hst]
       have hrow : StrRow ((b8, Obj.cells #[.string (bs (jY x2)), .int .u8 3, .int .u16 0] 45 (0, 0)) :: (b, Obj.cells ((Cn.zoneW :: x2 :: [116, 114, 117, 115, 116, 101, 100] :: t : List Nm.Bytes).map jZ).toArray 9 (0, 0)) :: L) (.slice (uM (some ⟨b, 0, none⟩) (t.length + 3) (Int.toNat 3) 1) (t.length + 3 - Int.toNat 3) (t.length + 3 - Int.toNat 3)) t := by
        show StrRow _ (.slice (uM _ _ 3 1) (t.length + 3 - 3) (t.length + 3 - 3)) t
        rw [Nat.add_sub_cancel]
        exact StrRow.tail3 (List.mem_cons_of_mem _ (List.mem_cons_self ..))
       refine jl (jc jf rfl (VX _ t hrow jp (fun w hw => by have := hlen w (by simp [hw]); omega))) rfl ?_
       have z0 : (#[.string (bs (jY x2)), .int .u8 3, .int .u16 0] : Array Value)[0 + 1]? = some (.int .u8 3) := rfl
       cases hbt : Cn.bitsGo (-1) 0 t with
       | none =>
         have hbv : qu t = .tuple #[.int .u16 0, .bool false] := by unfold qu; rw [hbt]
         rw [hbv, qo hws (Qf hws hbt)]
         repeat (first | refine goA ?_ | (refine' jl (jc jf rfl (jj _ _ ?_ ?_)) rfl ?_; (· first | omega | decide); (· first | omega | decide)) | (refine' jn (jc jf rfl (jj _ _ ?_ ?_)) rfl ?_; (· first | omega | decide); (· first | omega | decide)) | (refine' jl (jc jf rfl (jk _ ?_)) rfl ?_; (· first | omega | decide)) | (refine' jn (jc jf rfl (jk _ ?_)) rfl ?_; (· first | omega | decide)) | (refine jz ?_; intro bNew) | refine jm (jb rfl (js _)) rfl ?_ | refine jg (jb rfl (js _)) rfl ?_ | refine jm (jb rfl (ji _ _)) rfl ?_ | refine jg (jb rfl (ji _ _)) rfl ?_ | refine jm (jb rfl (jo _ _ _)) rfl ?_ | refine jg (jb rfl (jo _ _ _)) rfl ?_)
         refine jr (fun w h => h.tail.tail) ?_
         refine jq 2 _ rfl rfl ?_
         exact ⟨rfl, rfl⟩
       | some tr =>
         have hbv : qu t = .tuple #[.int .u16 (tr : Nat), .bool true] := by unfold qu; rw [hbt]
         have htr := (Cn.bits_back hbt).2
         rw [hbv]
         by_cases h0 : tr = 0
         · skip
           have hd : (!(((3 : Int) == 3) == (((tr : Nat) : Int) != 0))) = true := by simp [h0]
           rw [qo hws (Wa hws hpp hbt (by simp [h0]))]
           repeat (first | refine goA ?_ | (refine' jl (jc jf rfl (jj _ _ ?_ ?_)) rfl ?_; (· first | omega | decide); (· first | omega | decide)) | (refine' jn (jc jf rfl (jj _ _ ?_ ?_)) rfl ?_; (· first | omega | decide); (· first | omega | decide)) | (refine' jl (jc jf rfl (jk _ ?_)) rfl ?_; (· first | omega | decide)) | (refine' jn (jc jf rfl (jk _ ?_)) rfl ?_; (· first | omega | decide)) | (refine jz ?_; intro bNew) | refine jm (jb rfl (js _)) rfl ?_ | refine jg (jb rfl (js _)) rfl ?_ | refine jm (jb rfl (ji _ _)) rfl ?_ | refine jg (jb rfl (ji _ _)) rfl ?_ | refine jm (jb rfl (jo _ _ _)) rfl ?_ | refine jg (jb rfl (jo _ _ _)) rfl ?_)
           refine jr (fun w h => h.tail.tail) ?_
           refine jq 2 _ rfl rfl ?_
           exact ⟨rfl, rfl⟩
         · skip
           have hd : (!(((3 : Int) == 3) == (((tr : Nat) : Int) != 0))) = false := by simp [h0]
           rw [ul hws, aaV hws hrn hpp hbt (by simp [h0])]
           dsimp only
           repeat (first | refine goA ?_ | (refine' jl (jc jf rfl (jj _ _ ?_ ?_)) rfl ?_; (· first | omega | decide); (· first | omega | decide)) | (refine' jn (jc jf rfl (jj _ _ ?_ ?_)) rfl ?_; (· first | omega | decide); (· first | omega | decide)) | (refine' jl (jc jf rfl (jk _ ?_)) rfl ?_; (· first | omega | decide)) | (refine' jn (jc jf rfl (jk _ ?_)) rfl ?_; (· first | omega | decide)) | (refine jz ?_; intro bNew) | refine jm (jb rfl (js _)) rfl ?_ | refine jg (jb rfl (js _)) rfl ?_ | refine jm (jb rfl (ji _ _)) rfl ?_ | refine jg (jb rfl (ji _ _)) rfl ?_ | refine jm (jb rfl (jo _ _ _)) rfl ?_ | refine jg (jb rfl (jo _ _ _)) rfl ?_)
           refine jm (yE rfl Tryz.underlying112) rfl ?_
           repeat (first | refine goA ?_ | (refine' jl (jc jf rfl (jj _ _ ?_ ?_)) rfl ?_; (· first | omega | decide); (· first | omega | decide)) | (refine' jn (jc jf rfl (jj _ _ ?_ ?_)) rfl ?_; (· first | omega | decide); (· first | omega | decide)) | (refine' jl (jc jf rfl (jk _ ?_)) rfl ?_; (· first | omega | decide)) | (refine' jn (jc jf rfl (jk _ ?_)) rfl ?_; (· first | omega | decide)) | (refine jz ?_; intro bNew) | refine jm (jb rfl (js _)) rfl ?_ | refine jg (jb rfl (js _)) rfl ?_ | refine jm (jb rfl (ji _ _)) rfl ?_ | refine jg (jb rfl (ji _ _)) rfl ?_ | refine jm (jb rfl (jo _ _ _)) rfl ?_ | refine jg (jb rfl (jo _ _ _)) rfl ?_)
           refine jr (fun w h => h.tail.tail) ?_
           refine jq 2 _ rfl rfl ?_
           exact ⟨rfl, rfl⟩
     · obtain rfl : x3 = [114, 101, 102, 117, 115, 101] := hx3
       repeat (first | refine goA ?_ | (refine' jl (jc jf rfl (jj _ _ ?_ ?_)) rfl ?_; (· first | omega | decide); (· first | omega | decide)) | (refine' jn (jc jf rfl (jj _ _ ?_ ?_)) rfl ?_; (· first | omega | decide); (· first | omega | decide)) | (refine' jl (jc jf rfl (jk _ ?_)) rfl ?_; (· first | omega | decide)) | (refine' jn (jc jf rfl (jk _ ?_)) rfl ?_; (· first | omega | decide)) | (refine jz ?_; intro bNew) | refine jm (jb rfl (js _)) rfl ?_ | refine jg (jb rfl (js _)) rfl ?_ | refine jm (jb rfl (ji _ _)) rfl ?_ | refine jg (jb rfl (ji _ _)) rfl ?_ | refine jm (jb rfl (jo _ _ _)) rfl ?_ | refine jg (jb rfl (jo _ _ _)) rfl ?_)
       obtain ⟨b8, hb8⟩ : ∃ b, bNew = b := ⟨_, rfl⟩
       rw [hb8]
       clear hb8 bNew
       have hst : ∀ Y : ja, (b8, Obj.cells ((#[.string (bs (jY x2)), .int .u8 0, .int .u16 0] : Array Value).setIfInBounds (0 + 1) (.int .u8 4)) 45 (0, 0)) :: Y = (b8, Obj.cells #[.string (bs (jY x2)), .int .u8 4, .int .u16 0] 45 (0, 0)) :: Y := fun Y => rfl
       rw [hst]
       have hrow : StrRow ((b8, Obj.cells #[.string (bs (jY x2)), .int .u8 4, .int .u16 0] 45 (0, 0)) :: (b, Obj.cells ((Cn.zoneW :: x2 :: [114, 101, 102, 117, 115, 101] :: t : List Nm.Bytes).map jZ).toArray 9 (0, 0)) :: L) (.slice (uM (some ⟨b, 0, none⟩) (t.length + 3) (Int.toNat 3) 1) (t.length + 3 - Int.toNat 3) (t.length + 3 - Int.toNat 3)) t := by
        show StrRow _ (.slice (uM _ _ 3 1) (t.length + 3 - 3) (t.length + 3 - 3)) t
        rw [Nat.add_sub_cancel]
        exact StrRow.tail3 (List.mem_cons_of_mem _ (List.mem_cons_self ..))
       refine jl (jc jf rfl (VX _ t hrow jp (fun w hw => by have := hlen w (by simp [hw]); omega))) rfl ?_
       have z0 : (#[.string (bs (jY x2)), .int .u8 4, .int .u16 0] : Array Value)[0 + 1]? = some (.int .u8 4) := rfl
       cases hbt : Cn.bitsGo (-1) 0 t with
       | none =>
         have hbv : qu t = .tuple #[.int .u16 0, .bool false] := by unfold qu; rw [hbt]
         rw [hbv, qo hws (Qf hws hbt)]
         repeat (first | refine goA ?_ | (refine' jl (jc jf rfl (jj _ _ ?_ ?_)) rfl ?_; (· first | omega | decide); (· first | omega | decide)) | (refine' jn (jc jf rfl (jj _ _ ?_ ?_)) rfl ?_; (· first | omega | decide); (· first | omega | decide)) | (refine' jl (jc jf rfl (jk _ ?_)) rfl ?_; (· first | omega | decide)) | (refine' jn (jc jf rfl (jk _ ?_)) rfl ?_; (· first | omega | decide)) | (refine jz ?_; intro bNew) | refine jm (jb rfl (js _)) rfl ?_ | refine jg (jb rfl (js _)) rfl ?_ | refine jm (jb rfl (ji _ _)) rfl ?_ | refine jg (jb rfl (ji _ _)) rfl ?_ | refine jm (jb rfl (jo _ _ _)) rfl ?_ | refine jg (jb rfl (jo _ _ _)) rfl ?_)
         refine jr (fun w h => h.tail.tail) ?_
         refine jq 2 _ rfl rfl ?_
         exact ⟨rfl, rfl⟩
       | some tr =>
         have hbv : qu t = .tuple #[.int .u16 (tr : Nat), .bool true] := by unfold qu; rw [hbt]
         have htr := (Cn.bits_back hbt).2
         rw [hbv]
         by_cases h0 : tr = 0
         · skip
           have hd : (!(((4 : Int) == 3) == (((tr : Nat) : Int) != 0))) = false := by simp [h0]
           rw [ul hws, aaV hws hrn hpp hbt (by simp [h0])]
           dsimp only
           repeat (first | refine goA ?_ | (refine' jl (jc jf rfl (jj _ _ ?_ ?_)) rfl ?_; (· first | omega | decide); (· first | omega | decide)) | (refine' jn (jc jf rfl (jj _ _ ?_ ?_)) rfl ?_; (· first | omega | decide); (· first | omega | decide)) | (refine' jl (jc jf rfl (jk _ ?_)) rfl ?_; (· first | omega | decide)) | (refine' jn (jc jf rfl (jk _ ?_)) rfl ?_; (· first | omega | decide)) | (refine jz ?_; intro bNew) | refine jm (jb rfl (js _)) rfl ?_ | refine jg (jb rfl (js _)) rfl ?_ | refine jm (jb rfl (ji _ _)) rfl ?_ | refine jg (jb rfl (ji _ _)) rfl ?_ | refine jm (jb rfl (jo _ _ _)) rfl ?_ | refine jg (jb rfl (jo _ _ _)) rfl ?_)
           refine jm (yE rfl Tryz.underlying112) rfl ?_
           repeat (first | refine goA ?_ | (refine' jl (jc jf rfl (jj _ _ ?_ ?_)) rfl ?_; (· first | omega | decide); (· first | omega | decide)) | (refine' jn (jc jf rfl (jj _ _ ?_ ?_)) rfl ?_; (· first | omega | decide); (· first | omega | decide)) | (refine' jl (jc jf rfl (jk _ ?_)) rfl ?_; (· first | omega | decide)) | (refine' jn (jc jf rfl (jk _ ?_)) rfl ?_; (· first | omega | decide)) | (refine jz ?_; intro bNew) | refine jm (jb rfl (js _)) rfl ?_ | refine jg (jb rfl (js _)) rfl ?_ | refine jm (jb rfl (ji _ _)) rfl ?_ | refine jg (jb rfl (ji _ _)) rfl ?_ | refine jm (jb rfl (jo _ _ _)) rfl ?_ | refine jg (jb rfl (jo _ _ _)) rfl ?_)
           refine jr (fun w h => h.tail.tail) ?_
           refine jq 2 _ rfl rfl ?_
           exact ⟨rfl, rfl⟩
         · skip
           have hd : (!(((4 : Int) == 3) == (((tr : Nat) : Int) != 0))) = true := by simp [h0]
           rw [qo hws (Wa hws hpp hbt (by simp [h0]))]
           repeat (first | refine goA ?_ | (refine' jl (jc jf rfl (jj _ _ ?_ ?_)) rfl ?_; (· first | omega | decide); (· first | omega | decide)) | (refine' jn (jc jf rfl (jj _ _ ?_ ?_)) rfl ?_; (· first | omega | decide); (· first | omega | decide)) | (refine' jl (jc jf rfl (jk _ ?_)) rfl ?_; (· first | omega | decide)) | (refine' jn (jc jf rfl (jk _ ?_)) rfl ?_; (· first | omega | decide)) | (refine jz ?_; intro bNew) | refine jm (jb rfl (js _)) rfl ?_ | refine jg (jb rfl (js _)) rfl ?_ | refine jm (jb rfl (ji _ _)) rfl ?_ | refine jg (jb rfl (ji _ _)) rfl ?_ | refine jm (jb rfl (jo _ _ _)) rfl ?_ | refine jg (jb rfl (jo _ _ _)) rfl ?_)
           refine jr (fun w h => h.tail.tail) ?_
           refine jq 2 _ rfl rfl ?_
           exact ⟨rfl, rfl⟩
end Go.Proofs.YtgjlbilcnlffgaaGreatDoor
