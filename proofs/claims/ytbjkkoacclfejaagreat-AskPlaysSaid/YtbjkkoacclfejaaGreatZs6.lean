/-
 Part 6: Km Kn Ko Kp Kq Kr.
-/
import Derived.Test.YtbjkkoacclfejaaGreatZs5
import Derived.Test.YtbjkkoacclfejaaGreatZs1
import Derived.Test.YtbjkkoacclfejaaGreatZs2
set_option maxRecDepth 100000
set_option maxHeartbeats 4000000
set_option linter.unusedVariables false
set_option linter.unusedSimpArgs false
namespace Go.Proofs.YtbjkkoacclfejaaGreat
section
open Go.RowKit
open Vd (RSet Vdt Vote Rec Quest Piece Ballot)
section
variable {G : World} {P : Program} {n : Nat} {ρ : jG} {L : ja} {ty : TypeId} {Q : Exit → Act → World → Prop}
theorem JA {fn : Func} {Φ : Value → ja → Prop} (a t u s r : Nat) {b k : Nat} {C : Array Value} {te : TypeId} {fr : Nat × Nat} {x y z : Value} {L' : ja} (hr : fn.results = #[.cell a t, .tmp u, .tmp s, .tmp r]) (hv : ρ.lookup a = some (.pointer (some ⟨b, 0, none⟩))) (hx : ρ.lookup u = some x) (hy : ρ.lookup s = some y) (hz : ρ.lookup r = some z)
 (ht : j5 P t k = true) (hm : (b, Obj.cells C te fr) ∈ L) (hk : C.size = k) (hl : ∀ w, Heap G w L → Heap G w L') (h : Φ (.tuple #[.agg C, x, y, z]) L') : TQ G n ρ L .ret (bodyPost P fn (kE G Φ)) :=
 ⟨fun ac w he hw => ⟨he.defers, .tuple #[.agg C, x, y, z], by
   obtain ⟨h1, h0⟩ := Jn he hv ht (hw.get _ hm) hk
   have h2 : ac.tmps.getD u undef = x := he.reads (.tmp u) x hx
   have h3 : ac.tmps.getD s undef = y := he.reads (.tmp s) y hy
   have h4 : ac.tmps.getD r undef = z := he.reads (.tmp r) z hz
   rw [Array.getD_eq_getD_getElem?] at h1 h2 h3 h4
   simp only [results, hr]
   simp
   simp [h1, asAddr, h0, h2, h3, h4], _, L', rfl, h, hl w hw⟩⟩
theorem zq {s x : Operand} {t e te : TypeId} {bytes bl : Nat} {z : Value} {a : Option Addr} {c : Nat} {y : Int} {l : List Int} {B L0 : ja} (E : ElemTy P t e 1 bytes z) (hs : ev ρ s = some (.slice a l.length c)) (hx : ev ρ x = some (.slice (some ⟨bl, 0, none⟩) 1 1))
 (hrow : ORow (uj .i64) e 1 L0 a c l B) (hy : qd .i64 y) (h63 : l.length ≤ 1000000) (hb : bytes ≤ 1000) :
 OpT P G ρ ((bl, .cells #[.int .i64 y] te (0, 0)) :: (B ++ L)) (.call ⟨.builtin .append, #[s, x], #[t, t]⟩) ty fun v' L' => ∃ a' c' B', v' = .slice a' (l ++ [y]).length c' ∧ ORow (uj .i64) e 1 L0 a' c' (l ++ [y]) B' ∧ L' = B' ++ L :=
 uv (cs := [.int .i64 y]) E hs hx hrow rfl (by intro v hv; rw [List.mem_singleton.1 hv]; rfl) ⟨rfl, hy⟩ (by unfold maxLen; omega) (Nat.le_trans (Nat.mul_le_mul (show l.length + 1 ≤ 1000001 by omega) hb) (by decide))
end
theorem ab7 (p q r s : Int) (w : World) : (binOp .neq 162 (.agg #[.int .u8 p, .int .i64 r]) (.agg #[.int .u8 q, .int .i64 s])).run Tryz.prog w = .ok (.bool (!decide ((p, r) = (q, s)))) w := by
 by_cases h2 : p = q <;> by_cases h3 : r = s <;> (go_simp; try simp [h2, h3])
theorem ab8 (p q r s : Int) (w : World) : (binOp .eql 162 (.agg #[.int .u8 p, .int .i64 r]) (.agg #[.int .u8 q, .int .i64 s])).run Tryz.prog w = .ok (.bool (decide ((p, r) = (q, s)))) w := by
 by_cases h2 : p = q <;> by_cases h3 : r = s <;> (go_simp; try simp [h2, h3])
theorem J6 {p q r s : Int} : Bin Tryz.prog .neq 162 (.agg #[.int .u8 p, .int .i64 r]) (.agg #[.int .u8 q, .int .i64 s]) (.bool (!decide ((p, r) = (q, s)))) := ⟨fun a b w => by
 have h := ab7 p q r s w
 simp [eqGuard, h]⟩
theorem U2 {p q r s : Int} : Bin Tryz.prog .eql 162 (.agg #[.int .u8 p, .int .i64 r]) (.agg #[.int .u8 q, .int .i64 s]) (.bool (decide ((p, r) = (q, s)))) := ⟨fun a b w => by
 have h := ab8 p q r s w
 simp [eqGuard, h]⟩
variable {G : World} {L : ja}
def ab9 (L : ja) (r : Vdt × Int × List Int × Bool) (u : Value) (M : ja) : Prop := ∃ a c B a2 c2 B2 a3 c3 B3 N, u = .tuple #[.agg #[.int .u8 r.1.code, .slice a r.1.sets.length c, .slice a2 r.1.soa.length c2], .int .u32 r.2.1, .slice a3 r.2.2.1.length c3, .bool r.2.2.2] ∧
 ORow rsR 122 5 N a c r.1.sets B ∧ ORow rsR 122 5 N a2 c2 r.1.soa B2 ∧ ORow (uj .i64) 3 1 [] a3 c3 r.2.2.1 B3 ∧ Wr N ∧ M = B3 ++ (B2 ++ (B ++ (N ++ L)))
def aaH (want : Int) (vs : List Vote) : Vdt × Int × List Int × Bool := if want < 1 then (Vdt.none, 0, [], false) else qr want vs
theorem aca {x : Int} (h : 0 ≤ x ∧ x < 9) : qd .i64 x := by
 unfold qd Lit.wf
 simp [IntKind.min, IntKind.max, IntKind.bits, IntKind.signed]
 omega
theorem ae3 {K : ja} (bb : Nat) (want : Int) (l : List Ballot) (a : Option Addr) (c : Nat) (hm : (bb, Obj.cells (kz want (jz l) (.slice a (Vd.votesB l).length c)).toArray 165 (0, 0)) ∈ L) (hv : sliceR 5 (fun _ => voteR K) L [.slice a (Vd.votesB l).length c] (Vd.votesB l)) (hK : ∀ p ∈ K, p ∈ L) (hl : BoxOk l) (hn : l.length ≤ 9) (hs : ∀ x ∈ Vd.votesB l, SmV x.vd) :
 Spec Tryz.prog G 189 #[.pointer (some ⟨bb, 0, none⟩)] L (ab9 L (aaH want (Vd.votesB l))) := by
 have hvl := j7 l
 have hup := hl.vup
 have hcap := (sliceR.cut hv).2
 unfold maxLen at hcap
 obtain ⟨hcap1, hcap2, _⟩ := hcap
 refine jm (n := 73) Tryz.func189 rfl rfl rfl ?_
 refine kh (jY (j0 (kk (C := #[.int .u8 0, .slice none 0 0, .slice none 0 0]) zeO rfl) rfl ?_))
 intro b2
 refine goA ?_
 refine jU (jc je rfl (U0 bb want l a c (List.mem_cons_of_mem _ hm) (jx j3 _ _ _ _ jf hv) hl hn)) rfl ?_
 obtain ⟨vs, hvs⟩ : ∃ vs, Vd.votesB l = vs := ⟨_, rfl⟩
 rw [hvs] at hm hv hs hvl hup hcap1 ⊢
 by_cases hno : want < 1 ∨ ky want vs vs.length = none
 · have hW : zM want vs = ((0, 0), false) := by
    unfold zM
    by_cases hw : want < 1
    · rw [if_pos hw]
    · rw [if_neg hw, hno.resolve_left hw]
   have hR : aaH want vs = (Vdt.none, 0, [], false) := by
    unfold aaH
    by_cases hw : want < 1
    · rw [if_pos hw]
    · rw [if_neg hw]
      unfold qr
      rw [hno.resolve_left hw]
   rw [hW, hR]
   repeat (first | refine goA ?_ | (refine jO ?_; intro bNew) | refine jB (jl rfl (j8 )) rfl ?_)
   refine jH (L' := (b2, Obj.cells #[.int .u8 0, .slice none 0 0, .slice none 0 0] 40 (0, 0)) :: L) ?_ jn
   refine goA ?_
   clear hm
   refine JA 2 40 3 4 5 rfl rfl rfl rfl rfl stO (by repeat (exact List.mem_cons_self)) rfl (fun w h => Heap.cnt (L' := L) h jn) ?_
   exact ⟨none, 0, [], none, 0, [], none, 0, [], [], rfl, ORow.nil _, ORow.nil _, ORow.nil _, Wr.nil, rfl⟩
 · have hw : ¬ want < 1 := fun h => hno (Or.inl h)
   have hw1 : 1 ≤ want := by omega
   have hyes : ky want vs vs.length ≠ none := fun h => hno (Or.inr h)
   obtain ⟨j, x, hk⟩ : ∃ j x, WonBy want vs j x := by
    rcases ab2 hw1 vs with ⟨h, _⟩ | h
    · exact absurd h hyes
    · exact h
   have hxm := List.mem_of_getElem? hk.at_
   have hjl := (List.getElem?_eq_some_iff.1 hk.at_).1
   have hfs := qW hxm
   obtain ⟨hfl, z, hz, hzx⟩ := hfs
   have hW : zM want vs = ((2, (jK vs x.vd : Int)), true) := by
    unfold zM
    rw [if_neg hw, hk.yes]
    dsimp only
    rw [hk.at_]
   have hR : aaH want vs = qr want vs := if_neg hw
   rw [hW, hR, hk.is]
   have hfi : ∀ y ∈ vs, jK vs y.vd = jK vs x.vd ↔ y.vd = x.vd := fun y hy => uU hy hxm
   obtain ⟨fx, hfx⟩ : ∃ f, jK vs x.vd = f := ⟨_, rfl⟩
   rw [hfx] at hfl hz hfi ⊢
   obtain ⟨_, kv1, kv2, hvc⟩ := sliceR.cut hv
   rcases hvc with h1 | ⟨bc, oc, cur, tc, fc, rfl, mc, hcur⟩
   · rw [h1] at hjl; simp at hjl
   have g0 : (kz want (jz l) (.slice (some ⟨bc, oc, none⟩) vs.length c)).toArray[0 + 0]? = some (.int .i64 want) := rfl
   have g19 : (kz want (jz l) (.slice (some ⟨bc, oc, none⟩) vs.length c)).toArray[0 + 19]? = some (.slice (some ⟨bc, oc, none⟩) vs.length c) := rfl
   repeat (first | refine goA ?_ | (refine jO ?_; intro bNew))
   obtain ⟨b6, hb6⟩ : ∃ b, bNew = b := ⟨_, rfl⟩
   rw [hb6]
   clear hb6 bNew
   have hlenW : ∀ i, ((jR (vs.take i) x.vd).map (·.up)).length = (jR (vs.take i) x.vd).length := fun i => List.length_map _
   have hW9 : ∀ i, (jR (vs.take i) x.vd).length ≤ 9 := fun i => by
    have := ((hup.take i).filter fun y => decide (y.vd = x.vd)).len
    exact this
   refine jy (σ := Nat × Option Addr × Nat × ja) (fun y => y.1 ≤ j ∧ ORow (uj .i64) 3 1 [] y.2.1 y.2.2.1 ((jR (vs.take y.1) x.vd).map (·.up)) y.2.2.2) (fun y => [(0, .pointer (some ⟨bb, 0, none⟩)), (2, .pointer (some ⟨b2, 0, none⟩)), (3, .int .u32 (uV (jR (vs.take y.1) x.vd))), (4, .slice y.2.1 ((jR (vs.take y.1) x.vd).map (·.up)).length y.2.2.1), (5, .bool true), (6, .pointer (some ⟨b6, 0, none⟩)), (20, .slice (some ⟨bc, oc, none⟩) vs.length c), (21, .int .i64 (vs.length : Nat)), (22, .int .i64 (y.1 : Nat))]) (fun y => y.2.2.2 ++ ((b6, Obj.cells #[.int .u8 2, .int .i64 (fx : Nat)] 162 (0, 0)) :: ((b2, Obj.cells #[.int .u8 0, .slice none 0 0, .slice none 0 0] 40 (0, 0)) :: L))) (fun y => vs.length - y.1) (0, none, 0, []) ⟨Nat.zero_le _, ORow.nil _⟩ ?_ (fun w h => h) ?_
   exact jr
   rintro ⟨i, a4, c4, B4⟩ ⟨hi, hB4⟩
   dsimp only at hi hB4 ⊢
   have hil : i < vs.length := by omega
   obtain ⟨y, hy⟩ : ∃ y, vs[i]? = some y := ⟨_, List.getElem?_eq_getElem hil⟩
   have hym := List.mem_of_getElem? hy
   obtain ⟨csy, _, hyv, hcy⟩ := hcur i y hy
   obtain ⟨y1, yc1, y2, yc2, rfl, hy1, hy2, hy3, hy4, hy5⟩ := hyv.vals
   obtain ⟨hu0, hu9⟩ := hup.up y hym
   have hsl : jz l y.up = (2, (jK vs y.vd : Int)) := by rw [← hvs]; exact qP hl (by rw [hvs]; exact hym)
   have hWs := yC (vs := vs) hy x.vd
   have hWi := hlenW i
   have hWi9 := hW9 i
   have mc' : (bc, Obj.cells cur tc fc) ∈ B4 ++ ((b6, Obj.cells #[.int .u8 2, .int .i64 (fx : Nat)] 162 (0, 0)) :: ((b2, Obj.cells #[.int .u8 0, .slice none 0 0, .slice none 0 0] 40 (0, 0)) :: L)) := List.mem_append_right _ (List.mem_cons_of_mem _ (List.mem_cons_of_mem _ mc))
   refine goA ?_
   refine jB (jA [.int .i64 y.up, .int .u8 y.vd.code, .slice y1 y.vd.sets.length yc1, .slice y2 y.vd.soa.length yc2, .int .u32 y.time] rfl stL mc' hcy) rfl ?_
   repeat (first | refine goA ?_ | (refine jO ?_; intro bNew))
   obtain ⟨b8, hb8⟩ : ∃ b, bNew = b := ⟨_, rfl⟩
   rw [hb8]
   clear hb8 bNew
   have hslip : ∀ k v, ([.int .u8 2, .int .i64 (jK vs y.vd : Nat)] : List Value)[k]? = some v → (kz want (jz l) (.slice (some ⟨bc, oc, none⟩) vs.length c)).toArray[0 + 1 + y.up.toNat * 2 + k]? = some v := fun k v hj => by
    rw [Nat.zero_add]
    match k, hj with
    | 0, hj => obtain rfl := Option.some.inj hj; rw [J5 ⟨hu0, hu9⟩, hsl]
    | 1, hj => obtain rfl := Option.some.inj hj; rw [Q1 ⟨hu0, hu9⟩, hsl]
   have hKm : ∀ q ∈ [(b8, Obj.cells #[.int .i64 y.up, .int .u8 y.vd.code, .slice y1 y.vd.sets.length yc1, .slice y2 y.vd.soa.length yc2, .int .u32 y.time] 65 (0, 0)), (bb, Obj.cells (kz want (jz l) (.slice (some ⟨bc, oc, none⟩) vs.length c)).toArray 165 (0, 0)), (b6, Obj.cells #[.int .u8 2, .int .i64 (fx : Nat)] 162 (0, 0))], q ∈ (b8, Obj.cells #[.int .i64 y.up, .int .u8 y.vd.code, .slice y1 y.vd.sets.length yc1, .slice y2 y.vd.soa.length yc2, .int .u32 y.time] 65 (0, 0)) :: (B4 ++ ((b6, Obj.cells #[.int .u8 2, .int .i64 (fx : Nat)] 162 (0, 0)) :: ((b2, Obj.cells #[.int .u8 0, .slice none 0 0, .slice none 0 0] 40 (0, 0)) :: L))) := by
    intro q hq
    simp only [List.mem_cons, List.not_mem_nil, or_false] at hq
    rcases hq with rfl | rfl | rfl
    · simp
    · simp [hm]
    · simp
   refine jq jb ([(b8, Obj.cells #[.int .i64 y.up, .int .u8 y.vd.code, .slice y1 y.vd.sets.length yc1, .slice y2 y.vd.soa.length yc2, .int .u32 y.time] 65 (0, 0)), (bb, Obj.cells (kz want (jz l) (.slice (some ⟨bc, oc, none⟩) vs.length c)).toArray 165 (0, 0)), (b6, Obj.cells #[.int .u8 2, .int .i64 (fx : Nat)] 162 (0, 0))]) [] ?_
   refine tkQ 0 ?_
   refine tkQ 1 ?_
   refine tkQ 2 ?_
   refine tkQ 3 ?_
   refine tkQ 4 ?_
   refine tkQ 5 ?_
   (refine' jp 6 rfl rfl je (jL (jA [.int .u8 2, .int .i64 (jK vs y.vd : Nat)] rfl stL (List.mem_cons_of_mem _ (List.mem_cons_self ..)) hslip)) ?_ ?_; (· assumption))
   refine tkQ 7 ?_
   (refine' jp 8 rfl rfl je (jL (qJ rfl rfl J6)) ?_ ?_; (· assumption))
   refine tdQ ?_
   clear hKm hslip
   by_cases hyx : y.vd = x.vd
   · have hne : (!decide (((2 : Int), ((jK vs y.vd : Nat) : Int)) = (2, ((fx : Nat) : Int)))) = false := by rw [(hfi y hym).2 hyx]; simp
     rw [if_pos hyx] at hWs
     obtain ⟨ws, hws⟩ : ∃ ws, jR (vs.take i) x.vd = ws := ⟨_, rfl⟩
     rw [hws] at hWs hWi hWi9 hB4 ⊢
     have htp := Y6 ws y
     have htb : 0 ≤ uV ws ∧ uV ws ≤ 4294967295 := ab1 fun v hv => by
      rw [← hws] at hv
      have hvm := List.mem_of_mem_take (withV_mem.1 hv).1
      obtain ⟨k, hk1⟩ := List.getElem?_of_mem hvm
      obtain ⟨_, _, hvv, _⟩ := hcur k v hk1
      obtain ⟨_, _, _, _, _, _, _, _, ht, _⟩ := hvv.vals
      exact ht
     obtain ⟨ht0, ht1⟩ := htb
     refine goF ?_
     refine KJ (σ := Unit) (fun _ => True) (fun _ => [(0, .pointer (some ⟨bb, 0, none⟩)), (2, .pointer (some ⟨b2, 0, none⟩)), (3, .int .u32 (uV (ws ++ [y]))), (4, .slice a4 (ws.map (·.up)).length c4), (5, .bool true), (6, .pointer (some ⟨b6, 0, none⟩)), (8, .pointer (some ⟨b8, 0, none⟩)), (20, .slice (some ⟨bc, oc, none⟩) vs.length c), (21, .int .i64 (vs.length : Nat)), (22, .int .i64 (i : Nat))]) (fun _ => (b8, Obj.cells #[.int .i64 y.up, .int .u8 y.vd.code, .slice y1 y.vd.sets.length yc1, .slice y2 y.vd.soa.length yc2, .int .u32 y.time] 65 (0, 0)) :: (B4 ++ ((b6, Obj.cells #[.int .u8 2, .int .i64 (fx : Nat)] 162 (0, 0)) :: ((b2, Obj.cells #[.int .u8 0, .slice none 0 0, .slice none 0 0] 40 (0, 0)) :: L)))) ?_ ?_
     · by_cases h0 : ws.length = 0
       · rw [if_pos (Or.inl h0)] at htp
         rw [htp]
         have h0' : (((ws.map (·.up)).length : Nat) : Int) = 0 := by omega
         refine goA ?_
         refine j9 () trivial ?_ (fun w h => h)
         exact jr
       · have h0' : ¬ (((ws.map (·.up)).length : Nat) : Int) = 0 := by omega
         by_cases hlt : y.time < uV ws
         · rw [if_pos (Or.inr hlt)] at htp
           rw [htp]
           refine goA ?_
           refine j9 () trivial ?_ (fun w h => h)
           exact jr
         · rw [if_neg (fun h => h.elim h0 hlt)] at htp
           rw [htp]
           refine goA ?_
           refine j9 () trivial ?_ (fun w h => h)
           exact jr
     · rintro _ _
       have hnx : ((ws ++ [y]).map (·.up)) = ws.map (·.up) ++ [y.up] := by simp
       have g8 : (#[.int .i64 y.up, .int .u8 y.vd.code, .slice y1 y.vd.sets.length yc1, .slice y2 y.vd.soa.length yc2, .int .u32 y.time] : Array Value)[0 + 0]? = some (.int .i64 y.up) := rfl
       repeat (first | refine goA ?_ | (refine jS ?_; intro bLit))
       refine jH (L' := (bLit, Obj.cells #[.int .i64 y.up] 3 (0, 0)) :: (B4 ++ ((b6, Obj.cells #[.int .u8 2, .int .i64 (fx : Nat)] 162 (0, 0)) :: ((b2, Obj.cells #[.int .u8 0, .slice none 0 0, .slice none 0 0] 40 (0, 0)) :: L)))) ?_ jn
       refine jw (zq etO rfl rfl hB4 (aca ⟨hu0, hu9⟩) jd (by decide)) rfl ?_
       rintro _ _ ⟨a5, c5, B5, rfl, hB5, rfl⟩
       rw [← hnx, ← hWs] at hB5 ⊢
       have hl5 := hlenW (i + 1)
       have hc5 := hB5.cap
       unfold maxLen at hc5
       have hnx2 := hW9 (i + 1)
       by_cases hij : i = j
       · subst hij
         have hw5 : ((((jR (vs.take (i + 1)) x.vd).map (·.up)).length : Nat) : Int) = want := by rw [hl5]; exact hk.len
         refine goA ?_
         refine jw (jc je rfl (adN a5 c5 _ B5 hB5 jd)) rfl ?_
         rintro _ _ ⟨rfl, B6, hB6, rfl⟩
         have hVW : Vup (jR (vs.take (i + 1)) x.vd) := (hup.take _).filter _
         rw [W6 hVW.nd hVW.ups] at hB6
         have hrl := zX hVW.nd hVW.ups
         rw [← hrl]
         obtain ⟨csz, _, hzv, hcz⟩ := hcur fx z hz
         obtain ⟨z1, zc1, z2, zc2, rfl, hz1, hz2, hz3, hz4, hz5⟩ := hzv.vals
         have hczv : ∀ k v, ([.int .u8 z.vd.code, .slice z1 z.vd.sets.length zc1, .slice z2 z.vd.soa.length zc2] : List Value)[k]? = some v → cur[oc + fx * 5 + 1 + k]? = some v := fun k v hj => by
          rw [Nat.add_assoc]
          match k, hj with
          | 0, hj => exact hcz 1 v hj
          | 1, hj => exact hcz 2 v hj
          | 2, hj => exact hcz 3 v hj
         have hzvd : vdR K [.int .u8 z.vd.code, .slice z1 z.vd.sets.length zc1, .slice z2 z.vd.soa.length zc2] z.vd := ⟨_, _, rfl, hz1, hz2, hz3⟩
         have hzs := hs z (List.mem_of_getElem? hz)
         refine goA ?_
         refine UP (L' := (b2, Obj.cells #[.int .u8 0, .slice none 0 0, .slice none 0 0] 40 (0, 0)) :: ((b6, Obj.cells #[.int .u8 2, .int .i64 (fx : Nat)] 162 (0, 0)) :: (B6 ++ L))) ?_ jn
         have hKm : ∀ q ∈ [(b6, Obj.cells #[.int .u8 2, .int .i64 (fx : Nat)] 162 (0, 0)), (bb, Obj.cells (kz want (jz l) (.slice (some ⟨bc, oc, none⟩) vs.length c)).toArray 165 (0, 0)), (bc, Obj.cells cur tc fc)], q ∈ (b2, Obj.cells #[.int .u8 0, .slice none 0 0, .slice none 0 0] 40 (0, 0)) :: ((b6, Obj.cells #[.int .u8 2, .int .i64 (fx : Nat)] 162 (0, 0)) :: (B6 ++ L)) := by
          intro q hq
          simp only [List.mem_cons, List.not_mem_nil, or_false] at hq
          rcases hq with rfl | rfl | rfl
          · simp
          · simp [hm]
          · simp [mc]
         have hKm2 : ∀ q ∈ [(b6, Obj.cells #[.int .u8 2, .int .i64 (fx : Nat)] 162 (0, 0)), (bb, Obj.cells (kz want (jz l) (.slice (some ⟨bc, oc, none⟩) vs.length c)).toArray 165 (0, 0)), (bc, Obj.cells cur tc fc)], q ∈ (b6, Obj.cells #[.int .u8 2, .int .i64 (fx : Nat)] 162 (0, 0)) :: (B6 ++ L) := by
          intro q hq
          simp only [List.mem_cons, List.not_mem_nil, or_false] at hq
          rcases hq with rfl | rfl | rfl
          · simp
          · simp [hm]
          · simp [mc]
         refine jq jb ([(b6, Obj.cells #[.int .u8 2, .int .i64 (fx : Nat)] 162 (0, 0)), (bb, Obj.cells (kz want (jz l) (.slice (some ⟨bc, oc, none⟩) vs.length c)).toArray 165 (0, 0)), (bc, Obj.cells cur tc fc)]) [] ?_
         refine tkQ 0 ?_
         refine tkQ 1 ?_
         refine tkQ 2 ?_
         refine tkQ 3 ?_
         refine tkQ 4 ?_
         refine tkQ 5 ?_
         refine tkQ 6 ?_
         refine tkQ 7 ?_
         (refine' jp 8 rfl rfl je (jL (jA [.int .u8 z.vd.code, .slice z1 z.vd.sets.length zc1, .slice z2 z.vd.soa.length zc2] rfl stL (List.mem_cons_of_mem _ (List.mem_cons_of_mem _ (List.mem_cons_self ..))) hczv)) ?_ ?_; (· assumption))
         refine tkQ 10 ?_
         refine tkQ 11 ?_
         refine jF 9 je rfl rfl rfl rfl (jc je rfl (zk _ z.vd (jQ _ _ _ _ (fun p hp => (jf) p (hK p hp)) hzvd) hzs)) ?_; rintro _ _ ⟨aR, cR, BR, aS, cS, BS, NR, rfl, hR2, hS2, hNR, rfl⟩; refine ⟨Or.inr (fun q hq => (jf) q (hKm q hq)), ?_⟩
         refine j6 (L' := (b2, Obj.cells #[.int .u8 0, .slice none 0 0, .slice none 0 0] 40 (0, 0)) :: (BS ++ (BR ++ (NR ++ ((b6, Obj.cells #[.int .u8 2, .int .i64 (fx : Nat)] 162 (0, 0)) :: (B6 ++ L)))))) ?_ jn; refine jZ 12 je rfl rfl rfl (qg rfl rfl stO rfl rfl rfl) ?_; rintro _ _ ⟨_, rfl⟩; refine ⟨Or.inr (fun q hq => (jf) q (hKm2 q hq)), ?_⟩
         refine tkQ 13 ?_
         refine tkQ 14 ?_
         refine tkQ 15 ?_
         refine tdQ ?_
         refine goA ?_
         rw [hzx] at hR2 hS2 ⊢
         refine JA 2 40 3 4 5 rfl rfl rfl rfl rfl stO (by repeat (exact List.mem_cons_self)) rfl (fun w h => Heap.cnt (L' := B6 ++ (BS ++ (BR ++ (NR ++ L)))) h jn) ?_
         exact ⟨_, _, _, _, _, _, _, _, _, _, rfl, hR2, hS2, hB6, hNR, rfl⟩
       · have hlt : i + 1 ≤ j := by omega
         have hno1 : ky want vs (i + 1) = none := by
          cases h : ky want vs (i + 1) with
          | none => rfl
          | some k =>
            have h5 := zT (i + 1) j hlt h
            rw [hk.no] at h5
            cases h5
         have hw5 : ¬ ((((jR (vs.take (i + 1)) x.vd).map (·.up)).length : Nat) : Int) = want := by
          rw [hl5]
          have := QN hw1 (i + 1) jd hno1 x.vd
          omega
         refine goA ?_
         refine jh (i + 1, a5, c5, B5) ⟨hlt, hB5⟩ ?_ (fun w h => h.cnt jn) (by dsimp only; omega)
         exact jr
   · have hne : (!decide (((2 : Int), ((jK vs y.vd : Nat) : Int)) = (2, ((fx : Nat) : Int)))) = true := by
      have : ¬ jK vs y.vd = fx := fun h => hyx ((hfi y hym).1 h)
      simp
      omega
     rw [if_neg hyx] at hWs
     have hij : i ≠ j := by
      intro e
      rw [e, hk.at_] at hy
      exact hyx (by rw [Option.some.inj hy])
     have hlt : i + 1 ≤ j := by omega
     refine goA ?_
     refine jh (i + 1, a4, c4, B4) ⟨hlt, by dsimp only; rw [hWs]; exact hB4⟩ ?_ (fun w h => h.cnt jn) (by dsimp only; omega)
     rw [hWs]
     exact jr
end
section
open Go.RowKit
open Vd (RSet Vdt Vote Rec Quest Piece Ballot)
variable {G : World} {L : ja}
theorem acb {l : List Ballot} {w : Int} (h : (jz l w).1 = 2) : ∃ y ∈ Vd.votesB l, y.up = w := by
 unfold jz at h
 cases hf : l.find? (fun b => b.v.up == w) with
 | none => rw [hf] at h; cases h
 | some b =>
   rw [hf] at h
   have h1 := List.find?_some hf
   have h2 := List.mem_of_find?_eq_some hf
   dsimp only at h
   cases hp : b.pass with
   | true => rw [hp] at h; cases h
   | false => exact ⟨b.v, votesB_mem.2 ⟨b, h2, hp, rfl⟩, by simpa using h1⟩
def agB (l : List Ballot) (f : Int) (w : Int) : Bool := decide ((jz l w).1 = 2) && !decide (((jz l w).1, (jz l w).2) = (2, f))
theorem UG {l : List Ballot} (hl : BoxOk l) {want : Int} {j : Nat} {x : Vote} (hk : WonBy want (Vd.votesB l) j x) : kw want (Vd.votesB l) = nine.filter (agB l (jK (Vd.votesB l) x.vd : Nat)) := by
 have hup := hl.vup
 have hxm := List.mem_of_getElem? hk.at_
 unfold kw
 rw [hk.is]
 rw [if_pos rfl, uB (hup.filter _).nd]
 refine List.filter_congr fun w hw => ?_
 dsimp only
 rw [Bool.eq_iff_iff, decide_eq_true_eq, List.mem_map]
 unfold agB
 rw [Bool.and_eq_true, decide_eq_true_eq, Bool.not_eq_true', decide_eq_false_iff_not]
 constructor
 · rintro ⟨y, hy, rfl⟩
   obtain ⟨h1, h2⟩ := List.mem_filter.1 hy
   rw [qP hl h1]
   refine ⟨rfl, fun e => ?_⟩
   have h3 : ¬ y.vd = x.vd := by simpa using h2
   refine h3 ((uU h1 hxm).1 ?_)
   have := (Prod.mk.inj e).2
   omega
 · rintro ⟨h1, h2⟩
   obtain ⟨y, hy, rfl⟩ := acb h1
   refine ⟨y, List.mem_filter.2 ⟨hy, ?_⟩, rfl⟩
   rw [qP hl hy] at h2
   have : ¬ y.vd = x.vd := fun e => h2 (by rw [e])
   simpa using this
def Q8 (l : List Ballot) (w : Int) (n : Nat) : Nat := (nine.take n).countP fun t => decide (((jz l t).1, (jz l t).2) = ((jz l w).1, (jz l w).2))
theorem U3 {l : List Ballot} (hl : BoxOk l) {y : Vote} (hy : y ∈ Vd.votesB l) : Q8 l y.up 9 = (jR (Vd.votesB l) y.vd).length := by
 have hup := hl.vup
 have h1 := zX (hup.filter fun x => decide (x.vd = y.vd)).nd (hup.filter _).ups
 rw [List.length_map] at h1
 unfold jR
 rw [← h1, uB (hup.filter _).nd, ← List.countP_eq_length_filter]
 unfold Q8
 have : nine.take 9 = nine := rfl
 rw [this]
 refine List.countP_congr fun w hw => ?_
 rw [decide_eq_true_eq, decide_eq_true_eq, List.mem_map, qP hl hy]
 constructor
 · intro e
   obtain ⟨z, hz, rfl⟩ := acb (l := l) (w := w) (Prod.mk.inj e).1
   rw [qP hl hz] at e
   refine ⟨z, List.mem_filter.2 ⟨hz, ?_⟩, rfl⟩
   have := (Prod.mk.inj e).2
   simpa using (uU hz hy).1 jd
 · rintro ⟨z, hz, rfl⟩
   obtain ⟨h2, h3⟩ := List.mem_filter.1 hz
   rw [qP hl h2]
   rw [of_decide_eq_true h3]
def yh (l : List Ballot) (n : Nat) : Int := (nine.take n).foldl (fun m w => if (jz l w).1 = 2 then max m ((Q8 l w 9 : Nat) : Int) else m) 0
theorem JB {l : List Ballot} {m : Int} : ∀ {ws : List Int} {k : Int}, ws.foldl (fun m w => if (jz l w).1 = 2 then max m ((Q8 l w 9 : Nat) : Int) else m) k ≤ m ↔ k ≤ m ∧ ∀ w ∈ ws, (jz l w).1 = 2 → ((Q8 l w 9 : Nat) : Int) ≤ m := by
 intro ws
 induction ws with
 | nil => intro k; simp
 | cons w r ih =>
   intro k
   rw [List.foldl_cons, ih]
   simp only [List.mem_cons, forall_eq_or_imp]
   split
   · rename_i h
     constructor
     · rintro ⟨h1, h2⟩; exact ⟨by omega, fun _ => by omega, h2⟩
     · rintro ⟨h1, h2, h3⟩; have := h2 h; exact ⟨by omega, h3⟩
   · rename_i h
     constructor
     · rintro ⟨h1, h2⟩; exact ⟨h1, fun k => absurd k h, h2⟩
     · rintro ⟨h1, h2, h3⟩; exact ⟨h1, h3⟩
theorem acd {l : List Ballot} (hl : BoxOk l) : yh l 9 = qO (Vd.votesB l) := by
 have hup := hl.vup
 have h0 : yh l 9 ≤ yh l 9 := Int.le_refl _
 have h1 := (JB (l := l) (ws := nine.take 9)).1 h0
 have h2 : qO (Vd.votesB l) ≤ yh l 9 := mostR_le.2 ⟨h1.1, fun x hx => by
  rw [← U3 hl hx]
  refine h1.2 x.up (mem_nine.2 (hup.up x hx)) ?_
  rw [qP hl hx]⟩
 have h3 : yh l 9 ≤ qO (Vd.votesB l) := (JB (l := l) (ws := nine.take 9)).2 ⟨zD _, fun w hw h => by
  obtain ⟨y, hy, rfl⟩ := acb h
  rw [U3 hl hy]
  exact ab3 hy⟩
 omega
theorem VV {u : Nat} (h : u < 9) : nine[u]? = some (u : Int) := by
 match u, h with
 | 0, _ | 1, _ | 2, _ | 3, _ | 4, _ | 5, _ | 6, _ | 7, _ | 8, _ => rfl
theorem J7 {f : Int → Int × Int} {u : Nat} (h : u < 9) : (kQ f).toArray.extract ((u : Int).toNat * 2) ((u : Int).toNat * 2 + 2) = #[.int .u8 (f u).1, .int .i64 (f u).2] := by
 match u, h with
 | 0, _ | 1, _ | 2, _ | 3, _ | 4, _ | 5, _ | 6, _ | 7, _ | 8, _ => rfl
theorem JC {want : Int} {f : Int → Int × Int} {v : Value} : ∀ j x, (kQ f)[j]? = some x → (kz want f v).toArray[0 + 1 + j]? = some x := fun j x hj => by
 have hl : (kQ f).length = 18 := rfl
 have hj2 := (List.getElem?_eq_some_iff.1 hj).1
 unfold kz
 rw [Nat.zero_add, Nat.add_comm, List.getElem?_toArray, List.getElem?_cons_succ, List.getElem?_append_left hj2]
 exact hj
theorem ace : nine.length = 9 := rfl
theorem Y7 {K : ja} (bb : Nat) (want : Int) (l : List Ballot) (a : Option Addr) (c : Nat) (hm : (bb, Obj.cells (kz want (jz l) (.slice a (Vd.votesB l).length c)).toArray 165 (0, 0)) ∈ L) (hv : sliceR 5 (fun _ => voteR K) L [.slice a (Vd.votesB l).length c] (Vd.votesB l)) (hl : BoxOk l) (hn : l.length ≤ 9) :
 Spec Tryz.prog G 190 #[.pointer (some ⟨bb, 0, none⟩)] L fun u M => ∃ a3 c3 B3, u = .slice a3 (if want < 1 then [] else kw want (Vd.votesB l)).length c3 ∧ ORow (uj .i64) 3 1 [] a3 c3 (if want < 1 then [] else kw want (Vd.votesB l)) B3 ∧ M = B3 ++ L := by
 have hvl := j7 l
 have hup := hl.vup
 refine jm (n := 37) Tryz.func190 rfl rfl rfl ?_
 refine goA ?_
 refine jU (jc je rfl (U0 bb want l a c hm hv hl hn)) rfl ?_
 by_cases hno : want < 1 ∨ ky want (Vd.votesB l) (Vd.votesB l).length = none
 · have hW : zM want (Vd.votesB l) = ((0, 0), false) := by
    unfold zM
    by_cases hw : want < 1
    · rw [if_pos hw]
    · rw [if_neg hw, hno.resolve_left hw]
   have hR : (if want < 1 then [] else kw want (Vd.votesB l)) = [] := by
    by_cases hw : want < 1
    · rw [if_pos hw]
    · rw [if_neg hw]
      unfold kw qr
      rw [hno.resolve_left hw]
      rfl
   rw [hW, hR]
   repeat (first | refine goA ?_ | (refine jO ?_; intro bNew))
   refine jJ (L' := L) ?_ jn
   refine ji 2 _ rfl rfl ?_
   exact ⟨none, 0, [], rfl, ORow.nil _, rfl⟩
 · have hw : ¬ want < 1 := fun h => hno (Or.inl h)
   have hw1 : 1 ≤ want := by omega
   obtain ⟨j, x, hk⟩ : ∃ j x, WonBy want (Vd.votesB l) j x := by
    rcases ab2 hw1 (Vd.votesB l) with ⟨h, _⟩ | h
    · exact absurd (Or.inr h) hno
    · exact h
   have hW : zM want (Vd.votesB l) = ((2, (jK (Vd.votesB l) x.vd : Int)), true) := by
    unfold zM
    rw [if_neg hw, hk.yes]
    dsimp only
    rw [hk.at_]
   rw [hW, if_neg hw, UG hl hk]
   obtain ⟨fx, hfx⟩ : ∃ f, jK (Vd.votesB l) x.vd = f := ⟨_, rfl⟩
   rw [hfx]
   obtain ⟨vv, hvv⟩ : ∃ v, Value.slice a (Vd.votesB l).length c = v := ⟨_, rfl⟩
   rw [hvv] at hm
   repeat (first | refine goA ?_ | (refine jO ?_; intro bNew))
   obtain ⟨b3, hb3⟩ : ∃ b, bNew = b := ⟨_, rfl⟩
   rw [hb3]
   clear hb3 bNew
   refine jB (Jz (kQ (jz l)) rfl unO je (List.mem_cons_of_mem _ hm) JC) rfl ?_
   refine goA ?_
   refine jy (σ := Nat × Option Addr × Nat × ja) (fun y => y.1 ≤ 9 ∧ ORow (uj .i64) 3 1 [] y.2.1 y.2.2.1 ((nine.take y.1).filter (agB l (fx : Nat))) y.2.2.2) (fun y => [(3, .pointer (some ⟨b3, 0, none⟩)), (5, .slice y.2.1 ((nine.take y.1).filter (agB l (fx : Nat))).length y.2.2.1), (18, .agg (kQ (jz l)).toArray), (19, .int .i64 (y.1 : Nat))]) (fun y => y.2.2.2 ++ ((b3, Obj.cells #[.int .u8 2, .int .i64 (fx : Nat)] 162 (0, 0)) :: L)) (fun y => 9 - y.1) (0, none, 0, []) ⟨Nat.zero_le _, ORow.nil _⟩ ?_ (fun w h => h) ?_
   exact jr
   rintro ⟨i, a4, c4, B4⟩ ⟨hi, hB4⟩
   dsimp only at hi hB4 ⊢
   have hl4 := List.length_filter_le (agB l (fx : Nat)) (nine.take i)
   rw [List.length_take, ace] at hl4
   by_cases hil : i < 9
   · have hext := J7 (f := jz l) hil
     have htk : nine.take (i + 1) = nine.take i ++ [(i : Int)] := by rw [List.take_add_one, VV hil]; rfl
     refine goA ?_
     refine jB (VU rfl rfl unO stO jd jd) rfl ?_
     rw [hext]
     repeat (first | refine goA ?_ | (refine jO ?_; intro bNew))
     obtain ⟨b7, hb7⟩ : ∃ b, bNew = b := ⟨_, rfl⟩
     rw [hb7]
     clear hb7 bNew
     by_cases hk2 : (jz l (i : Int)).1 = 2
     · by_cases hne : ((jz l (i : Int)).1, (jz l (i : Int)).2) = (2, ((fx : Nat) : Int))
       · have hq : (!decide (((jz l (i : Int)).1, (jz l (i : Int)).2) = (2, ((fx : Nat) : Int)))) = false := by simp [hne]
         have hp : (nine.take (i + 1)).filter (agB l (fx : Nat)) = (nine.take i).filter (agB l (fx : Nat)) := by
          have : agB l (fx : Nat) (i : Int) = false := by unfold agB; rw [hq, Bool.and_false]
          rw [htk, List.filter_append]
          simp [this]
         repeat (first | refine goA ?_ | refine jN (qJ rfl rfl J6) rfl ?_)
         refine jh (i + 1, a4, c4, B4) ⟨hil, by dsimp only; rw [hp]; exact hB4⟩ ?_ (fun w h => h.cnt jn) (by dsimp only; omega)
         dsimp only
         rw [hp]
         exact jr
       · have hq : (!decide (((jz l (i : Int)).1, (jz l (i : Int)).2) = (2, ((fx : Nat) : Int)))) = true := by simp [hne]
         have hp : (nine.take (i + 1)).filter (agB l (fx : Nat)) = (nine.take i).filter (agB l (fx : Nat)) ++ [(i : Int)] := by
          have : agB l (fx : Nat) (i : Int) = true := by unfold agB; rw [hq, hk2]; rfl
          rw [htk, List.filter_append]
          simp [this]
         repeat (first | refine goA ?_ | refine jN (qJ rfl rfl J6) rfl ?_ | (refine jS ?_; intro bLit))
         refine jH (L' := (bLit, Obj.cells #[.int .i64 (i : Nat)] 3 (0, 0)) :: (B4 ++ ((b3, Obj.cells #[.int .u8 2, .int .i64 (fx : Nat)] 162 (0, 0)) :: L))) ?_ jn
         refine jw (zq etO rfl rfl hB4 (aca ⟨by omega, by omega⟩) jd (by decide)) rfl ?_
         rintro _ _ ⟨a5, c5, B5, rfl, hB5, rfl⟩
         rw [← hp] at hB5 ⊢
         refine goA ?_
         refine jh (i + 1, a5, c5, B5) ⟨hil, hB5⟩ ?_ (fun w h => h.cnt jn) (by dsimp only; omega)
         exact jr
     · have hp : (nine.take (i + 1)).filter (agB l (fx : Nat)) = (nine.take i).filter (agB l (fx : Nat)) := by
        have : agB l (fx : Nat) (i : Int) = false := by unfold agB; rw [decide_eq_false hk2, Bool.false_and]
        rw [htk, List.filter_append]
        simp [this]
       refine goA ?_
       refine jh (i + 1, a4, c4, B4) ⟨hil, by dsimp only; rw [hp]; exact hB4⟩ ?_ (fun w h => h.cnt jn) (by dsimp only; omega)
       dsimp only
       rw [hp]
       exact jr
   · have hie : i = 9 := by omega
     subst hie
     have h9 : nine.take 9 = nine := rfl
     rw [h9] at hB4 ⊢
     refine goA ?_
     refine jJ (L' := B4 ++ L) ?_ jn
     refine ji 2 _ rfl rfl ?_
     exact ⟨a4, c4, B4, rfl, hB4, rfl⟩
theorem adO (bb : Nat) (want : Int) (l : List Ballot) (vv : Value) (hm : (bb, Obj.cells (kz want (jz l) vv).toArray 165 (0, 0)) ∈ L) (hl : BoxOk l) :
 Spec Tryz.prog G 186 #[.pointer (some ⟨bb, 0, none⟩)] L fun u M => u = .int .i64 (qO (Vd.votesB l)) ∧ M = L := by
 have hcs : ∀ w n, Q8 l w n ≤ n := fun w n => Nat.le_trans List.countP_le_length (by rw [List.length_take]; omega)
 have hms : ∀ n, 0 ≤ yh l n ∧ yh l n ≤ 9 := fun n => by
  have h1 := (JB (l := l) (ws := nine.take n) (k := 0)).1 (Int.le_refl _)
  refine ⟨h1.1, (JB (l := l) (ws := nine.take n) (k := 0)).2 ⟨by omega, fun w _ _ => ?_⟩⟩
  have := hcs w 9
  omega
 refine jm (n := 39) Tryz.func186 rfl rfl rfl ?_
 refine goA ?_
 refine jB (Jz (kQ (jz l)) rfl unO je hm JC) rfl ?_
 refine goA ?_
 refine jy (σ := Nat) (fun y => y ≤ 9) (fun y => [(0, .pointer (some ⟨bb, 0, none⟩)), (3, .int .i64 (yh l y)), (14, .agg (kQ (jz l)).toArray), (15, .int .i64 (y : Nat))]) (fun y => L) (fun y => 9 - y) 0 (Nat.zero_le _) ?_ (fun w h => h) ?_
 exact jr
 rintro i hi
 by_cases hil : i < 9
 · have hext := J7 (f := jz l) hil
   have htk : nine.take (i + 1) = nine.take i ++ [(i : Int)] := by rw [List.take_add_one, VV hil]; rfl
   have hmn : yh l (i + 1) = if (jz l (i : Int)).1 = 2 then max (yh l i) ((Q8 l (i : Int) 9 : Nat) : Int) else yh l i := by
    unfold yh
    rw [htk, List.foldl_append]
    rfl
   refine goA ?_
   refine jB (VU rfl rfl unO stO jd jd) rfl ?_
   rw [hext]
   repeat (first | refine goA ?_ | (refine jO ?_; intro bNew))
   obtain ⟨b5, hb5⟩ : ∃ b, bNew = b := ⟨_, rfl⟩
   rw [hb5]
   clear hb5 bNew
   by_cases hk2 : (jz l (i : Int)).1 = 2
   · rw [if_pos hk2] at hmn
     refine goA ?_
     refine jB (Jz (kQ (jz l)) rfl unO je (List.mem_cons_of_mem _ hm) JC) rfl ?_
     refine goA ?_
     refine jy (σ := Nat) (fun y => y ≤ 9) (fun y => [(0, .pointer (some ⟨bb, 0, none⟩)), (3, .int .i64 (yh l i)), (5, .pointer (some ⟨b5, 0, none⟩)), (6, .int .i64 (Q8 l (i : Int) y : Nat)), (14, .agg (kQ (jz l)).toArray), (15, .int .i64 (i : Nat)), (24, .agg (kQ (jz l)).toArray), (25, .int .i64 (y : Nat))]) (fun y => (b5, Obj.cells #[.int .u8 (jz l (i : Int)).1, .int .i64 (jz l (i : Int)).2] 162 (0, 0)) :: L) (fun y => 9 - y) 0 (Nat.zero_le _) ?_ (fun w h => h) ?_
     exact jr
     rintro k hk
     by_cases hkl : k < 9
     · have hextk := J7 (f := jz l) hkl
       have htkk : nine.take (k + 1) = nine.take k ++ [(k : Int)] := by rw [List.take_add_one, VV hkl]; rfl
       have hcn : Q8 l (i : Int) (k + 1) = Q8 l (i : Int) k + if decide (((jz l (k : Int)).1, (jz l (k : Int)).2) = ((jz l (i : Int)).1, (jz l (i : Int)).2)) = true then 1 else 0 := by
        unfold Q8
        rw [htkk, List.countP_append, List.countP_cons, List.countP_nil, Nat.zero_add]
       have hck := hcs (i : Int) k
       refine goA ?_
       refine jB (VU rfl rfl unO stO jd jd) rfl ?_
       rw [hextk]
       cases hd : decide (((jz l (k : Int)).1, (jz l (k : Int)).2) = ((jz l (i : Int)).1, (jz l (i : Int)).2)) with
       | true =>
         rw [hd, if_pos rfl] at hcn
         repeat (first | refine goA ?_ | refine jB (qJ rfl rfl U2) rfl ?_ | (refine jO ?_; intro bNew))
         refine jh (k + 1) hkl ?_ (fun w h => h.cnt jn) jd
         rw [hcn]
         exact jr
       | false =>
         rw [hd, if_neg (by simp)] at hcn
         repeat (first | refine goA ?_ | refine jB (qJ rfl rfl U2) rfl ?_ | (refine jO ?_; intro bNew))
         refine jh (k + 1) hkl ?_ (fun w h => h.cnt jn) jd
         rw [hcn]
         exact jr
     · have hke : k = 9 := by omega
       subst hke
       have hms1 := hms i
       have hck := hcs (i : Int) 9
       refine goA ?_
       refine jh (i + 1) hil ?_ (fun w h => h.cnt jn) jd
       rw [hmn]
       exact jr
   · rw [if_neg hk2] at hmn
     refine goA ?_
     refine jh (i + 1) hil ?_ (fun w h => h.cnt jn) jd
     rw [hmn]
     exact jr
 · have hie : i = 9 := by omega
   subst hie
   rw [acd hl]
   refine goA ?_
   refine ji 2 _ rfl rfl ?_
   exact ⟨rfl, rfl⟩
end
section
open Go.RowKit
open Vd (RSet Vdt Vote Rec Quest Piece Ballot)
variable {G : World} {L : ja}
theorem VW {x : Int} (h : -9223372036854775808 ≤ x ∧ x ≤ 9223372036854775807) : qd .i64 x := by
 unfold qd Lit.wf
 simp [IntKind.min, IntKind.max, IntKind.bits, IntKind.signed]
 omega
def Q9 (l : List Int) (n : Nat) : List Int := (List.range n).flatMap fun (n : Nat) => l.filter fun x => x == (n : Int)
theorem U4 (l : List Int) (n : Nat) : Q9 l (n + 1) = Q9 l n ++ l.filter fun x => x == (n : Int) := by
 unfold Q9
 rw [List.range_succ, List.flatMap_append]
 simp
theorem Ya (l : List Int) : ∀ n, (Q9 l n).length ≤ n * l.length
 | 0 => by simp [Q9]
 | n + 1 => by
   have h1 := Ya l n
   have h2 := List.length_filter_le (fun x => x == (n : Int)) l
   rw [U4, List.length_append, Nat.succ_mul]
   omega
theorem Ua (v : Value) (l : List Int) (hl : sliceR 1 (uj .i64) L [v] l) (hn : l.length ≤ 1000) :
 Spec Tryz.prog G 156 #[v] L fun u M => ∃ a3 c3 B3, u = .slice a3 (kI l).length c3 ∧ ORow (uj .i64) 3 1 [] a3 c3 (kI l) B3 ∧ M = B3 ++ L := by
 obtain ⟨a, c, e1, hl⟩ := hl.val
 simp only [List.cons.injEq, and_true] at e1
 subst e1
 refine jm (n := 27) Tryz.func156 rfl rfl rfl ?_
 repeat (first | refine goA ?_ | (refine jS ?_; intro bLit))
 refine jy (σ := Nat × Option Addr × Nat × ja) (fun y => y.1 ≤ 9 ∧ ORow (uj .i64) 3 1 [] y.2.1 y.2.2.1 (Q9 l y.1) y.2.2.2) (fun y => [(0, .slice a l.length c), (3, .slice y.2.1 (Q9 l y.1).length y.2.2.1), (4, .int .i64 (y.1 : Nat))]) (fun y => y.2.2.2 ++ L) (fun y => 9 - y.1) (0, none, 0, []) ⟨Nat.zero_le _, ORow.nil _⟩ ?_ (fun w h => h) ?_
 exact jr
 rintro ⟨i, a4, c4, B4⟩ ⟨hi, hB4⟩
 dsimp only at hi hB4 ⊢
 have hrl := Ya l i
 by_cases hil : i < 9
 · have hi9 : i * l.length ≤ 9 * 1000 := Nat.mul_le_mul hi hn
   have hi9' : (i + 1) * l.length ≤ 9 * 1000 := Nat.mul_le_mul hil hn
   have hrs := U4 l i
   repeat (first | refine goA ?_ | (refine jS ?_; intro bLit))
   refine jy (σ := Nat × Option Addr × Nat × ja) (fun y => y.1 ≤ l.length ∧ ORow (uj .i64) 3 1 [] y.2.1 y.2.2.1 (Q9 l i ++ (l.take y.1).filter fun x => x == (i : Int)) y.2.2.2) (fun y => [(0, .slice a l.length c), (3, .slice y.2.1 (Q9 l i ++ (l.take y.1).filter fun x => x == (i : Int)).length y.2.2.1), (4, .int .i64 (i : Nat)), (5, .int .i64 (y.1 : Nat))]) (fun y => y.2.2.2 ++ L) (fun y => l.length - y.1) (0, a4, c4, B4) ⟨Nat.zero_le _, by simpa using hB4⟩ ?_ (fun w h => h) ?_
   · rw [List.take_zero, List.filter_nil, List.append_nil]
     exact jr
   rintro ⟨k, a5, c5, B5⟩ ⟨hk, hB5⟩
   dsimp only at hk hB5 ⊢
   by_cases hkl : k < l.length
   · obtain ⟨x, hx⟩ : ∃ x, l[k]? = some x := ⟨_, List.getElem?_eq_getElem hkl⟩
     obtain ⟨b1, o1, C1, t1, f1, rfl, m1, q1⟩ := adJ hl hx
     have htk : l.take (k + 1) = l.take k ++ [x] := by rw [List.take_add_one, hx]; rfl
     have hlen2 := List.length_filter_le (fun x => x == (i : Int)) (l.take k)
     rw [List.length_take] at hlen2
     have m1' : (b1, Obj.cells C1 t1 f1) ∈ B5 ++ L := List.mem_append_right _ m1
     have hsum : (Q9 l i ++ (l.take k).filter fun x => x == (i : Int)).length ≤ 100000 := by rw [List.length_append]; omega
     by_cases hxi : x = (i : Int)
     · have hf : (l.take (k + 1)).filter (fun x => x == (i : Int)) = (l.take k).filter (fun x => x == (i : Int)) ++ [(i : Int)] := by
        rw [htk, List.filter_append, hxi]; simp
       repeat (first | refine goA ?_ | (refine jS ?_; intro bLit))
       refine jw (zq etO rfl rfl hB5 (VW ⟨by omega, by omega⟩) jd (by decide)) rfl ?_
       rintro _ _ ⟨a6, c6, B6, rfl, hB6, rfl⟩
       rw [List.append_assoc, ← hf] at hB6 ⊢
       repeat (first | refine goA ?_ | (refine jS ?_; intro bLit))
       refine jh (k + 1, a6, c6, B6) ⟨hkl, hB6⟩ ?_ (fun w h => h) (by dsimp only; omega)
       exact jr
     · have hf : (l.take (k + 1)).filter (fun x => x == (i : Int)) = (l.take k).filter (fun x => x == (i : Int)) := by
        rw [htk, List.filter_append]; simp [hxi]
       repeat (first | refine goA ?_ | (refine jS ?_; intro bLit))
       refine jh (k + 1, a5, c5, B5) ⟨hkl, by dsimp only; rw [hf]; exact hB5⟩ ?_ (fun w h => h) (by dsimp only; omega)
       dsimp only
       rw [hf]
       exact jr
   · have hke : k = l.length := by omega
     subst hke
     rw [List.take_length, ← hrs] at hB5 ⊢
     repeat (first | refine goA ?_ | (refine jS ?_; intro bLit))
     refine jh (i + 1, a5, c5, B5) ⟨hil, hB5⟩ ?_ (fun w h => h) (by dsimp only; omega)
     exact jr
 · have hie : i = 9 := by omega
   subst hie
   have h9 : Q9 l 9 = kI l := rfl
   rw [h9] at hB4 ⊢
   repeat (first | refine goA ?_ | (refine jS ?_; intro bLit))
   refine ji 2 _ rfl rfl ?_
   exact ⟨a4, c4, B4, rfl, hB4, rfl⟩
theorem Y8 (l m : List Ballot) : Vd.votesB (l ++ m) = Vd.votesB l ++ Vd.votesB m := by
 unfold Vd.votesB
 rw [List.filter_append, List.map_append]
theorem qD {l : List Ballot} {i : Nat} {y : Ballot} (hy : l[i]? = some y) : Vd.votesB (l.take (i + 1)) = if y.pass then Vd.votesB (l.take i) else Vd.votesB (l.take i) ++ [y.v] := by
 rw [List.take_add_one, hy]
 exact qz _ _
theorem Y9 (l : List Ballot) (i : Nat) : Vd.votesB l = Vd.votesB (l.take i) ++ Vd.votesB (l.drop i) := by
 rw [← Y8, List.take_append_drop]
theorem aaI {l : List Ballot} {i : Nat} {y : Ballot} (hy : l[i]? = some y) (hp : y.pass = false) : (Vd.votesB l)[(Vd.votesB (l.take i)).length]? = some y.v ∧ (Vd.votesB l).take ((Vd.votesB (l.take i)).length + 1) = Vd.votesB (l.take (i + 1)) ∧ (Vd.votesB (l.take i)).length < (Vd.votesB l).length := by
 have h1 := qD hy
 rw [hp, if_neg (by simp)] at h1
 have h2 := Y9 l (i + 1)
 rw [h1] at h2
 refine ⟨?_, ?_, ?_⟩
 · rw [h2, List.append_assoc, List.getElem?_append_right (Nat.le_refl _), Nat.sub_self]
   rfl
 · rw [h2, h1, List.take_left' (by simp)]
 · rw [h2]; simp
theorem aaJ (l : List Vote) (x : Vote) (t : Int) : (l ++ [x]).foldl (fun t v => min t v.time) t = min (l.foldl (fun t v => min t v.time) t) x.time := by
 rw [List.foldl_append]; rfl
def ZW (K L : ja) (r : Vdt × Int × List Int × Bool) (u : Value) (M : ja) : Prop := ∃ cs a3 c3 B3, u = .tuple #[.agg cs.toArray, .int .u32 r.2.1, .slice a3 r.2.2.1.length c3, .bool r.2.2.2] ∧ vdR K cs r.1 ∧ ORow (uj .i64) 3 1 [] a3 c3 r.2.2.1 B3 ∧ M = B3 ++ L
theorem acf {K : ja} (bb : Nat) (want : Int) (a : Option Addr) (c : Nat) (l : List Ballot) (hm : (bb, Obj.cells #[.int .i64 want, .slice a l.length c] 200 (0, 0)) ∈ L) (hl : sliceR 6 (fun _ => ballotR K) L [.slice a l.length c] l) (hK : ∀ p ∈ K, p ∈ L) (hn : l.length ≤ 1000) :
 Spec Tryz.prog G 135 #[.pointer (some ⟨bb, 0, none⟩)] L (ZW K L (qr want (Vd.votesB l))) := by
 have hcap := (sliceR.cut hl).2
 unfold maxLen at hcap
 obtain ⟨hcap1, hcap2, _⟩ := hcap
 obtain ⟨vs, hvs⟩ : ∃ vs, Vd.votesB l = vs := ⟨_, rfl⟩
 rw [hvs]
 refine jm (n := 114) Tryz.func135 rfl rfl rfl ?_
 refine kh (jY (j0 (kk (C := #[.int .u8 0, .slice none 0 0, .slice none 0 0]) zeO rfl) rfl ?_))
 intro b2
 repeat (first | refine goA ?_ | (refine jO ?_; intro bNew) | refine jB (jl rfl (j8 )) rfl ?_ | refine jN (jl rfl (j8 )) rfl ?_ | (refine jS ?_; intro bLit))
 refine jy (σ := Nat) (fun i => i ≤ l.length ∧ ky want vs (Vd.votesB (l.take i)).length = none) (fun i => [(0, .pointer (some ⟨bb, 0, none⟩)), (2, .pointer (some ⟨b2, 0, none⟩)), (6, .int .i64 (i : Nat))]) (fun _ => (b2, Obj.cells #[.int .u8 0, .slice none 0 0, .slice none 0 0] 40 (0, 0)) :: L) (fun i => l.length - i) 0 ⟨Nat.zero_le _, rfl⟩ ?_ (fun w h => h) ?_
 exact jr
 rintro i ⟨hi, hno⟩
 by_cases hil : i < l.length
 · obtain ⟨y, hy⟩ : ∃ y, l[i]? = some y := ⟨_, List.getElem?_eq_getElem hil⟩
   obtain ⟨b1, o1, C1, t1, f1, rfl, m1, csy, _, ⟨y1, yc1, y2, yc2, rfl, hyv⟩, hcy⟩ := sliceR.at hl hy
   have gy5 : C1[o1 + i * 6 + 5]? = some (.bool y.pass) := hcy 5 _ rfl
   have gy4 : C1[o1 + i * 6 + 0 + 4]? = some (.int .u32 y.v.time) := by rw [Nat.add_zero]; exact hcy 4 _ rfl
   have hya : ∀ j v, ([.int .u8 y.v.vd.code, .slice y1 y.v.vd.sets.length yc1, .slice y2 y.v.vd.soa.length yc2] : List Value)[j]? = some v → C1[o1 + i * 6 + 0 + 1 + j]? = some v := fun j v hj => by
    rw [Nat.add_zero, Nat.add_assoc]
    match j, hj with
    | 0, hj => exact hcy 1 v hj
    | 1, hj => exact hcy 2 v hj
    | 2, hj => exact hcy 3 v hj
   have hyvd : vdR K [.int .u8 y.v.vd.code, .slice y1 y.v.vd.sets.length yc1, .slice y2 y.v.vd.soa.length yc2] y.v.vd := by
    obtain ⟨_, _, _, _, e, p1, p2, p3, _⟩ := hyv.vals
    simp only [List.cons.injEq, Value.slice.injEq, and_true, true_and] at e
    obtain ⟨⟨rfl, rfl⟩, rfl, rfl⟩ := e
    exact ⟨_, _, rfl, p1, p2, p3⟩
   have ht1 := qD hy
   cases hp : y.pass with
   | true =>
     rw [hp] at gy5
     rw [hp, if_pos rfl] at ht1
     repeat (first | refine goA ?_ | (refine jO ?_; intro bNew) | refine jB (jl rfl (j8 )) rfl ?_ | refine jN (jl rfl (j8 )) rfl ?_ | (refine jS ?_; intro bLit))
     refine jh (i + 1) ⟨hil, by rw [ht1]; exact hno⟩ ?_ (fun w h => h) jd
     exact jr
   | false =>
     rw [hp] at gy5
     obtain ⟨hat, htake, hmlt⟩ := aaI hy hp
     rw [hvs] at hat htake hmlt
     repeat (first | refine goA ?_ | (refine jO ?_; intro bNew) | refine jB (jl rfl (j8 )) rfl ?_ | refine jN (jl rfl (j8 )) rfl ?_ | (refine jS ?_; intro bLit))
     have hlenW : ∀ k, ((jR (Vd.votesB (l.take k)) y.v.vd).map (·.up)).length ≤ k := fun k => by
      rw [List.length_map]
      refine Nat.le_trans (List.length_filter_le _ _) (Nat.le_trans (j7 _) ?_)
      rw [List.length_take]
      omega
     refine jy (σ := Nat × Option Addr × Nat × ja) (fun s => s.1 ≤ i + 1 ∧ ORow (uj .i64) 3 1 [] s.2.1 s.2.2.1 ((jR (Vd.votesB (l.take s.1)) y.v.vd).map (·.up)) s.2.2.2) (fun s => [(0, .pointer (some ⟨bb, 0, none⟩)), (2, .pointer (some ⟨b2, 0, none⟩)), (6, .int .i64 (i : Nat)), (7, .slice s.2.1 ((jR (Vd.votesB (l.take s.1)) y.v.vd).map (·.up)).length s.2.2.1), (8, .int .u32 ((jR (Vd.votesB (l.take s.1)) y.v.vd).foldl (fun t v => min t v.time) y.v.time)), (9, .int .i64 (s.1 : Nat))]) (fun s => s.2.2.2 ++ ((b2, Obj.cells #[.int .u8 0, .slice none 0 0, .slice none 0 0] 40 (0, 0)) :: L)) (fun s => i + 1 - s.1) (0, none, 0, []) ⟨Nat.zero_le _, ORow.nil _⟩ ?_ (fun w h => h) ?_
     exact jr
     rintro ⟨k, a7, c7, B7⟩ ⟨hk, hB7⟩
     dsimp only at hk hB7 ⊢
     have hl7 := hlenW k
     by_cases hkl : k ≤ i
     · obtain ⟨z, hz⟩ : ∃ z, l[k]? = some z := ⟨_, List.getElem?_eq_getElem jd⟩
       obtain ⟨b1', o1', C1', t1', f1', ea, _, csz, _, ⟨z1, zc1, z2, zc2, rfl, hzv⟩, hcz0⟩ := sliceR.at hl hz
       obtain ⟨bX, oX, CX, tX, fX, eX, mX, qX⟩ : ∃ b off C te fr, some (⟨b1, o1, none⟩ : Addr) = some ⟨b, off, none⟩ ∧ (b, Obj.cells C te fr) ∈ L ∧ (∀ i x, l[i]? = some x → ∃ cs', cs'.length = 6 ∧ ballotR K cs' x ∧ ∀ j v, cs'[j]? = some v → C[off + i * 6 + j]? = some v) := by
        obtain ⟨_, _, _, h4⟩ := sliceR.cut hl
        rcases h4 with h4 | h4
        · rw [h4] at hil; simp at hil
        · exact h4
       simp only [Option.some.injEq, Addr.mk.injEq, and_true] at eX
       obtain ⟨rfl, rfl⟩ := eX
       obtain ⟨csz2, _, ⟨w1, wc1, w2, wc2, rfl, hwv⟩, hcz⟩ := qX k z hz
       obtain ⟨csy2, _, ⟨u1, uc1, u2, uc2, rfl, huv⟩, hcu⟩ := qX i y hy
       have gz5 : CX[o1 + k * 6 + 5]? = some (.bool z.pass) := hcz 5 _ rfl
       have gz0 : CX[o1 + k * 6 + 0 + 0]? = some (.int .i64 z.v.up) := by rw [Nat.add_zero]; exact hcz 0 _ rfl
       have gz4 : CX[o1 + k * 6 + 0 + 4]? = some (.int .u32 z.v.time) := by rw [Nat.add_zero]; exact hcz 4 _ rfl
       have hza : ∀ j v, ([.int .u8 z.v.vd.code, .slice w1 z.v.vd.sets.length wc1, .slice w2 z.v.vd.soa.length wc2] : List Value)[j]? = some v → CX[o1 + k * 6 + 0 + 1 + j]? = some v := fun j v hj => by
        rw [Nat.add_zero, Nat.add_assoc]
        match j, hj with
        | 0, hj => exact hcz 1 v hj
        | 1, hj => exact hcz 2 v hj
        | 2, hj => exact hcz 3 v hj
       have hua : ∀ j v, ([.int .u8 y.v.vd.code, .slice u1 y.v.vd.sets.length uc1, .slice u2 y.v.vd.soa.length uc2] : List Value)[j]? = some v → CX[o1 + i * 6 + 0 + 1 + j]? = some v := fun j v hj => by
        rw [Nat.add_zero, Nat.add_assoc]
        match j, hj with
        | 0, hj => exact hcu 1 v hj
        | 1, hj => exact hcu 2 v hj
        | 2, hj => exact hcu 3 v hj
       have hzvd : vdR K [.int .u8 z.v.vd.code, .slice w1 z.v.vd.sets.length wc1, .slice w2 z.v.vd.soa.length wc2] z.v.vd := by
        obtain ⟨_, _, _, _, e, p1, p2, p3, _⟩ := hwv.vals
        simp only [List.cons.injEq, Value.slice.injEq, and_true, true_and] at e
        obtain ⟨⟨rfl, rfl⟩, rfl, rfl⟩ := e
        exact ⟨_, _, rfl, p1, p2, p3⟩
       have huvd : vdR K [.int .u8 y.v.vd.code, .slice u1 y.v.vd.sets.length uc1, .slice u2 y.v.vd.soa.length uc2] y.v.vd := by
        obtain ⟨_, _, _, _, e, p1, p2, p3, _⟩ := huv.vals
        simp only [List.cons.injEq, Value.slice.injEq, and_true, true_and] at e
        obtain ⟨⟨rfl, rfl⟩, rfl, rfl⟩ := e
        exact ⟨_, _, rfl, p1, p2, p3⟩
       have hzup : -9223372036854775808 ≤ z.v.up ∧ z.v.up ≤ 9223372036854775807 := by
        obtain ⟨_, _, _, _, _, _, _, _, _, h⟩ := hwv.vals
        exact h
       have htz := qD hz
       have hKm : ∀ q ∈ [(bb, Obj.cells #[.int .i64 want, .slice (some ⟨b1, o1, none⟩) l.length c] 200 (0, 0)), (b1, Obj.cells CX tX fX)], q ∈ B7 ++ ((b2, Obj.cells #[.int .u8 0, .slice none 0 0, .slice none 0 0] 40 (0, 0)) :: L) := by
        intro q hq
        simp only [List.mem_cons, List.not_mem_nil, or_false] at hq
        rcases hq with rfl | rfl
        · simp [hm]
        · simp [mX]
       have hKr : ∀ q ∈ K, q ∈ B7 ++ ((b2, Obj.cells #[.int .u8 0, .slice none 0 0, .slice none 0 0] 40 (0, 0)) :: L) := fun q hq => (jf) q (hK q hq)
       clear m1 hcy gy5 gy4 hya hcz0 hyv
       cases hzp : z.pass with
       | true =>
         rw [hzp] at gz5
         rw [hzp, if_pos rfl] at htz
         repeat (first | refine goA ?_ | (refine jO ?_; intro bNew) | refine jB (jl rfl (j8 )) rfl ?_ | refine jN (jl rfl (j8 )) rfl ?_ | (refine jS ?_; intro bLit))
         refine jq jb ([(bb, Obj.cells #[.int .i64 want, .slice (some ⟨b1, o1, none⟩) l.length c] 200 (0, 0)), (b1, Obj.cells CX tX fX)]) [] ?_
         refine tkQ 0 ?_
         refine tkQ 1 ?_
         refine tkQ 2 ?_
         refine tkQ 3 ?_
         refine tkQ 4 ?_
         refine tkQ 5 ?_
         refine tkQ 6 ?_
         refine tkQ 7 ?_
         refine tkQ 8 ?_
         refine tkQ 9 ?_
         refine tkQ 10 ?_
         refine tkQ 11 ?_
         refine tkQ 12 ?_
         refine tkQ 13 ?_
         refine tkQ 14 ?_
         refine tkQ 15 ?_
         refine tkQ 16 ?_
         refine tkQ 17 ?_
         refine tkQ 19 ?_
         refine tkQ 20 ?_
         refine tkQ 21 ?_
         refine tkQ 22 ?_
         refine tkQ 23 ?_
         refine tkQ 24 ?_
         refine tkQ 25 ?_
         refine tkQ 26 ?_
         first | (refine jp 18 rfl rfl je (kx rfl rfl ?_) ?_ ?_; (· first | with_reducible rfl | assumption | exact Bool.not_false | exact Bool.not_true | exact dT (by first | assumption | with_reducible rfl | omega) | exact dF (by first | assumption | with_reducible rfl | omega) | exact eT (by first | assumption | with_reducible rfl | omega) | exact eF (by first | assumption | with_reducible rfl | omega) | exact nT (by first | assumption | with_reducible rfl | omega) | exact nF (by first | assumption | with_reducible rfl | omega) | exact xT (by first | assumption | exact dT (by first | assumption | with_reducible rfl | omega) | exact dF (by first | assumption | with_reducible rfl | omega) | exact eT (by first | assumption | with_reducible rfl | omega) | exact eF (by first | assumption | with_reducible rfl | omega) | exact nT (by first | assumption | with_reducible rfl | omega) | exact nF (by first | assumption | with_reducible rfl | omega)) | exact xF (by first | assumption | exact dT (by first | assumption | with_reducible rfl | omega) | exact dF (by first | assumption | with_reducible rfl | omega) | exact eT (by first | assumption | with_reducible rfl | omega) | exact eF (by first | assumption | with_reducible rfl | omega) | exact nT (by first | assumption | with_reducible rfl | omega) | exact nF (by first | assumption | with_reducible rfl | omega))); (· exact hKm)) | (refine jp 18 rfl rfl je (kd rfl rfl (by first | with_reducible rfl | assumption | exact Bool.not_false | exact Bool.not_true | exact dT (by first | assumption | with_reducible rfl | omega) | exact dF (by first | assumption | with_reducible rfl | omega) | exact eT (by first | assumption | with_reducible rfl | omega) | exact eF (by first | assumption | with_reducible rfl | omega) | exact nT (by first | assumption | with_reducible rfl | omega) | exact nF (by first | assumption | with_reducible rfl | omega) | exact xT (by first | assumption | exact dT (by first | assumption | with_reducible rfl | omega) | exact dF (by first | assumption | with_reducible rfl | omega) | exact eT (by first | assumption | with_reducible rfl | omega) | exact eF (by first | assumption | with_reducible rfl | omega) | exact nT (by first | assumption | with_reducible rfl | omega) | exact nF (by first | assumption | with_reducible rfl | omega)) | exact xF (by first | assumption | exact dT (by first | assumption | with_reducible rfl | omega) | exact dF (by first | assumption | with_reducible rfl | omega) | exact eT (by first | assumption | with_reducible rfl | omega) | exact eF (by first | assumption | with_reducible rfl | omega) | exact nT (by first | assumption | with_reducible rfl | omega) | exact nF (by first | assumption | with_reducible rfl | omega))) (jA [.int .u8 z.v.vd.code, .slice w1 z.v.vd.sets.length wc1, .slice w2 z.v.vd.soa.length wc2] rfl stL (List.mem_cons_of_mem _ (List.mem_cons_self ..)) hza)) ?_ ?_; (· exact hKm))
         first | (refine jp 27 rfl rfl je (kx rfl rfl ?_) ?_ ?_; (· first | with_reducible rfl | assumption | exact Bool.not_false | exact Bool.not_true | exact dT (by first | assumption | with_reducible rfl | omega) | exact dF (by first | assumption | with_reducible rfl | omega) | exact eT (by first | assumption | with_reducible rfl | omega) | exact eF (by first | assumption | with_reducible rfl | omega) | exact nT (by first | assumption | with_reducible rfl | omega) | exact nF (by first | assumption | with_reducible rfl | omega) | exact xT (by first | assumption | exact dT (by first | assumption | with_reducible rfl | omega) | exact dF (by first | assumption | with_reducible rfl | omega) | exact eT (by first | assumption | with_reducible rfl | omega) | exact eF (by first | assumption | with_reducible rfl | omega) | exact nT (by first | assumption | with_reducible rfl | omega) | exact nF (by first | assumption | with_reducible rfl | omega)) | exact xF (by first | assumption | exact dT (by first | assumption | with_reducible rfl | omega) | exact dF (by first | assumption | with_reducible rfl | omega) | exact eT (by first | assumption | with_reducible rfl | omega) | exact eF (by first | assumption | with_reducible rfl | omega) | exact nT (by first | assumption | with_reducible rfl | omega) | exact nF (by first | assumption | with_reducible rfl | omega))); (· exact hKm)) | (refine jp 27 rfl rfl je (kd rfl rfl (by first | with_reducible rfl | assumption | exact Bool.not_false | exact Bool.not_true | exact dT (by first | assumption | with_reducible rfl | omega) | exact dF (by first | assumption | with_reducible rfl | omega) | exact eT (by first | assumption | with_reducible rfl | omega) | exact eF (by first | assumption | with_reducible rfl | omega) | exact nT (by first | assumption | with_reducible rfl | omega) | exact nF (by first | assumption | with_reducible rfl | omega) | exact xT (by first | assumption | exact dT (by first | assumption | with_reducible rfl | omega) | exact dF (by first | assumption | with_reducible rfl | omega) | exact eT (by first | assumption | with_reducible rfl | omega) | exact eF (by first | assumption | with_reducible rfl | omega) | exact nT (by first | assumption | with_reducible rfl | omega) | exact nF (by first | assumption | with_reducible rfl | omega)) | exact xF (by first | assumption | exact dT (by first | assumption | with_reducible rfl | omega) | exact dF (by first | assumption | with_reducible rfl | omega) | exact eT (by first | assumption | with_reducible rfl | omega) | exact eF (by first | assumption | with_reducible rfl | omega) | exact nT (by first | assumption | with_reducible rfl | omega) | exact nF (by first | assumption | with_reducible rfl | omega))) (jA [.int .u8 y.v.vd.code, .slice u1 y.v.vd.sets.length uc1, .slice u2 y.v.vd.soa.length uc2] rfl stL (List.mem_cons_of_mem _ (List.mem_cons_self ..)) hua)) ?_ ?_; (· exact hKm))
         first | (refine jp 28 rfl rfl je (kx rfl rfl ?_) ?_ ?_; (· first | with_reducible rfl | assumption | exact Bool.not_false | exact Bool.not_true | exact dT (by first | assumption | with_reducible rfl | omega) | exact dF (by first | assumption | with_reducible rfl | omega) | exact eT (by first | assumption | with_reducible rfl | omega) | exact eF (by first | assumption | with_reducible rfl | omega) | exact nT (by first | assumption | with_reducible rfl | omega) | exact nF (by first | assumption | with_reducible rfl | omega) | exact xT (by first | assumption | exact dT (by first | assumption | with_reducible rfl | omega) | exact dF (by first | assumption | with_reducible rfl | omega) | exact eT (by first | assumption | with_reducible rfl | omega) | exact eF (by first | assumption | with_reducible rfl | omega) | exact nT (by first | assumption | with_reducible rfl | omega) | exact nF (by first | assumption | with_reducible rfl | omega)) | exact xF (by first | assumption | exact dT (by first | assumption | with_reducible rfl | omega) | exact dF (by first | assumption | with_reducible rfl | omega) | exact eT (by first | assumption | with_reducible rfl | omega) | exact eF (by first | assumption | with_reducible rfl | omega) | exact nT (by first | assumption | with_reducible rfl | omega) | exact nF (by first | assumption | with_reducible rfl | omega))); (· exact hKm)) | (refine qA 28 je rfl rfl rfl rfl (by first | with_reducible rfl | assumption | exact Bool.not_false | exact Bool.not_true | exact dT (by first | assumption | with_reducible rfl | omega) | exact dF (by first | assumption | with_reducible rfl | omega) | exact eT (by first | assumption | with_reducible rfl | omega) | exact eF (by first | assumption | with_reducible rfl | omega) | exact nT (by first | assumption | with_reducible rfl | omega) | exact nF (by first | assumption | with_reducible rfl | omega) | exact xT (by first | assumption | exact dT (by first | assumption | with_reducible rfl | omega) | exact dF (by first | assumption | with_reducible rfl | omega) | exact eT (by first | assumption | with_reducible rfl | omega) | exact eF (by first | assumption | with_reducible rfl | omega) | exact nT (by first | assumption | with_reducible rfl | omega) | exact nF (by first | assumption | with_reducible rfl | omega)) | exact xF (by first | assumption | exact dT (by first | assumption | with_reducible rfl | omega) | exact dF (by first | assumption | with_reducible rfl | omega) | exact eT (by first | assumption | with_reducible rfl | omega) | exact eF (by first | assumption | with_reducible rfl | omega) | exact nT (by first | assumption | with_reducible rfl | omega) | exact nF (by first | assumption | with_reducible rfl | omega))) (jc je rfl (uw [.int .u8 z.v.vd.code, .slice w1 z.v.vd.sets.length wc1, .slice w2 z.v.vd.soa.length wc2] [.int .u8 y.v.vd.code, .slice u1 y.v.vd.sets.length uc1, .slice u2 y.v.vd.soa.length uc2] z.v.vd y.v.vd (jQ _ _ _ _ hKr hzvd) (jQ _ _ _ _ hKr huvd))) ?_; rintro _ _ ⟨rfl, rfl⟩; refine ⟨Or.inr hKm, ?_⟩)
         refine tkQ 29 ?_
         refine tdQ ?_
         repeat (first | refine goA ?_ | (refine jO ?_; intro bNew) | refine jB (jl rfl (j8 )) rfl ?_ | refine jN (jl rfl (j8 )) rfl ?_ | (refine jS ?_; intro bLit))
         refine jh (k + 1, a7, c7, B7) ⟨by dsimp only; omega, by dsimp only; rw [htz]; exact hB7⟩ ?_ (fun w h => h) (by dsimp only; omega)
         dsimp only
         rw [htz]
         exact jr
       | false =>
         rw [hzp] at gz5
         rw [hzp, if_neg (by simp)] at htz
         have hws := zS (Vd.votesB (l.take k)) z.v y.v.vd
         rw [← htz] at hws
         by_cases hzy : z.v.vd = y.v.vd
         · rw [if_pos hzy] at hws
           have hf := aaJ (jR (Vd.votesB (l.take k)) y.v.vd) z.v y.v.time
           rw [← hws] at hf
           have hmp : (jR (Vd.votesB (l.take (k + 1))) y.v.vd).map (·.up) = (jR (Vd.votesB (l.take k)) y.v.vd).map (·.up) ++ [z.v.up] := by rw [hws]; simp
           repeat (first | refine goA ?_ | (refine jO ?_; intro bNew) | refine jB (jl rfl (j8 )) rfl ?_ | refine jN (jl rfl (j8 )) rfl ?_ | (refine jS ?_; intro bLit))
           refine jq jb ([(bb, Obj.cells #[.int .i64 want, .slice (some ⟨b1, o1, none⟩) l.length c] 200 (0, 0)), (b1, Obj.cells CX tX fX)]) [] ?_
           refine tkQ 0 ?_
           refine tkQ 1 ?_
           refine tkQ 2 ?_
           refine tkQ 3 ?_
           refine tkQ 4 ?_
           refine tkQ 5 ?_
           refine tkQ 6 ?_
           refine tkQ 7 ?_
           refine tkQ 8 ?_
           refine tkQ 9 ?_
           refine tkQ 10 ?_
           refine tkQ 11 ?_
           refine tkQ 12 ?_
           refine tkQ 13 ?_
           refine tkQ 14 ?_
           refine tkQ 15 ?_
           refine tkQ 16 ?_
           refine tkQ 17 ?_
           refine tkQ 19 ?_
           refine tkQ 20 ?_
           refine tkQ 21 ?_
           refine tkQ 22 ?_
           refine tkQ 23 ?_
           refine tkQ 24 ?_
           refine tkQ 25 ?_
           refine tkQ 26 ?_
           first | (refine jp 18 rfl rfl je (kx rfl rfl ?_) ?_ ?_; (· first | with_reducible rfl | assumption | exact Bool.not_false | exact Bool.not_true | exact dT (by first | assumption | with_reducible rfl | omega) | exact dF (by first | assumption | with_reducible rfl | omega) | exact eT (by first | assumption | with_reducible rfl | omega) | exact eF (by first | assumption | with_reducible rfl | omega) | exact nT (by first | assumption | with_reducible rfl | omega) | exact nF (by first | assumption | with_reducible rfl | omega) | exact xT (by first | assumption | exact dT (by first | assumption | with_reducible rfl | omega) | exact dF (by first | assumption | with_reducible rfl | omega) | exact eT (by first | assumption | with_reducible rfl | omega) | exact eF (by first | assumption | with_reducible rfl | omega) | exact nT (by first | assumption | with_reducible rfl | omega) | exact nF (by first | assumption | with_reducible rfl | omega)) | exact xF (by first | assumption | exact dT (by first | assumption | with_reducible rfl | omega) | exact dF (by first | assumption | with_reducible rfl | omega) | exact eT (by first | assumption | with_reducible rfl | omega) | exact eF (by first | assumption | with_reducible rfl | omega) | exact nT (by first | assumption | with_reducible rfl | omega) | exact nF (by first | assumption | with_reducible rfl | omega))); (· exact hKm)) | (refine jp 18 rfl rfl je (kd rfl rfl (by first | with_reducible rfl | assumption | exact Bool.not_false | exact Bool.not_true | exact dT (by first | assumption | with_reducible rfl | omega) | exact dF (by first | assumption | with_reducible rfl | omega) | exact eT (by first | assumption | with_reducible rfl | omega) | exact eF (by first | assumption | with_reducible rfl | omega) | exact nT (by first | assumption | with_reducible rfl | omega) | exact nF (by first | assumption | with_reducible rfl | omega) | exact xT (by first | assumption | exact dT (by first | assumption | with_reducible rfl | omega) | exact dF (by first | assumption | with_reducible rfl | omega) | exact eT (by first | assumption | with_reducible rfl | omega) | exact eF (by first | assumption | with_reducible rfl | omega) | exact nT (by first | assumption | with_reducible rfl | omega) | exact nF (by first | assumption | with_reducible rfl | omega)) | exact xF (by first | assumption | exact dT (by first | assumption | with_reducible rfl | omega) | exact dF (by first | assumption | with_reducible rfl | omega) | exact eT (by first | assumption | with_reducible rfl | omega) | exact eF (by first | assumption | with_reducible rfl | omega) | exact nT (by first | assumption | with_reducible rfl | omega) | exact nF (by first | assumption | with_reducible rfl | omega))) (jA [.int .u8 z.v.vd.code, .slice w1 z.v.vd.sets.length wc1, .slice w2 z.v.vd.soa.length wc2] rfl stL (List.mem_cons_of_mem _ (List.mem_cons_self ..)) hza)) ?_ ?_; (· exact hKm))
           first | (refine jp 27 rfl rfl je (kx rfl rfl ?_) ?_ ?_; (· first | with_reducible rfl | assumption | exact Bool.not_false | exact Bool.not_true | exact dT (by first | assumption | with_reducible rfl | omega) | exact dF (by first | assumption | with_reducible rfl | omega) | exact eT (by first | assumption | with_reducible rfl | omega) | exact eF (by first | assumption | with_reducible rfl | omega) | exact nT (by first | assumption | with_reducible rfl | omega) | exact nF (by first | assumption | with_reducible rfl | omega) | exact xT (by first | assumption | exact dT (by first | assumption | with_reducible rfl | omega) | exact dF (by first | assumption | with_reducible rfl | omega) | exact eT (by first | assumption | with_reducible rfl | omega) | exact eF (by first | assumption | with_reducible rfl | omega) | exact nT (by first | assumption | with_reducible rfl | omega) | exact nF (by first | assumption | with_reducible rfl | omega)) | exact xF (by first | assumption | exact dT (by first | assumption | with_reducible rfl | omega) | exact dF (by first | assumption | with_reducible rfl | omega) | exact eT (by first | assumption | with_reducible rfl | omega) | exact eF (by first | assumption | with_reducible rfl | omega) | exact nT (by first | assumption | with_reducible rfl | omega) | exact nF (by first | assumption | with_reducible rfl | omega))); (· exact hKm)) | (refine jp 27 rfl rfl je (kd rfl rfl (by first | with_reducible rfl | assumption | exact Bool.not_false | exact Bool.not_true | exact dT (by first | assumption | with_reducible rfl | omega) | exact dF (by first | assumption | with_reducible rfl | omega) | exact eT (by first | assumption | with_reducible rfl | omega) | exact eF (by first | assumption | with_reducible rfl | omega) | exact nT (by first | assumption | with_reducible rfl | omega) | exact nF (by first | assumption | with_reducible rfl | omega) | exact xT (by first | assumption | exact dT (by first | assumption | with_reducible rfl | omega) | exact dF (by first | assumption | with_reducible rfl | omega) | exact eT (by first | assumption | with_reducible rfl | omega) | exact eF (by first | assumption | with_reducible rfl | omega) | exact nT (by first | assumption | with_reducible rfl | omega) | exact nF (by first | assumption | with_reducible rfl | omega)) | exact xF (by first | assumption | exact dT (by first | assumption | with_reducible rfl | omega) | exact dF (by first | assumption | with_reducible rfl | omega) | exact eT (by first | assumption | with_reducible rfl | omega) | exact eF (by first | assumption | with_reducible rfl | omega) | exact nT (by first | assumption | with_reducible rfl | omega) | exact nF (by first | assumption | with_reducible rfl | omega))) (jA [.int .u8 y.v.vd.code, .slice u1 y.v.vd.sets.length uc1, .slice u2 y.v.vd.soa.length uc2] rfl stL (List.mem_cons_of_mem _ (List.mem_cons_self ..)) hua)) ?_ ?_; (· exact hKm))
           first | (refine jp 28 rfl rfl je (kx rfl rfl ?_) ?_ ?_; (· first | with_reducible rfl | assumption | exact Bool.not_false | exact Bool.not_true | exact dT (by first | assumption | with_reducible rfl | omega) | exact dF (by first | assumption | with_reducible rfl | omega) | exact eT (by first | assumption | with_reducible rfl | omega) | exact eF (by first | assumption | with_reducible rfl | omega) | exact nT (by first | assumption | with_reducible rfl | omega) | exact nF (by first | assumption | with_reducible rfl | omega) | exact xT (by first | assumption | exact dT (by first | assumption | with_reducible rfl | omega) | exact dF (by first | assumption | with_reducible rfl | omega) | exact eT (by first | assumption | with_reducible rfl | omega) | exact eF (by first | assumption | with_reducible rfl | omega) | exact nT (by first | assumption | with_reducible rfl | omega) | exact nF (by first | assumption | with_reducible rfl | omega)) | exact xF (by first | assumption | exact dT (by first | assumption | with_reducible rfl | omega) | exact dF (by first | assumption | with_reducible rfl | omega) | exact eT (by first | assumption | with_reducible rfl | omega) | exact eF (by first | assumption | with_reducible rfl | omega) | exact nT (by first | assumption | with_reducible rfl | omega) | exact nF (by first | assumption | with_reducible rfl | omega))); (· exact hKm)) | (refine qA 28 je rfl rfl rfl rfl (by first | with_reducible rfl | assumption | exact Bool.not_false | exact Bool.not_true | exact dT (by first | assumption | with_reducible rfl | omega) | exact dF (by first | assumption | with_reducible rfl | omega) | exact eT (by first | assumption | with_reducible rfl | omega) | exact eF (by first | assumption | with_reducible rfl | omega) | exact nT (by first | assumption | with_reducible rfl | omega) | exact nF (by first | assumption | with_reducible rfl | omega) | exact xT (by first | assumption | exact dT (by first | assumption | with_reducible rfl | omega) | exact dF (by first | assumption | with_reducible rfl | omega) | exact eT (by first | assumption | with_reducible rfl | omega) | exact eF (by first | assumption | with_reducible rfl | omega) | exact nT (by first | assumption | with_reducible rfl | omega) | exact nF (by first | assumption | with_reducible rfl | omega)) | exact xF (by first | assumption | exact dT (by first | assumption | with_reducible rfl | omega) | exact dF (by first | assumption | with_reducible rfl | omega) | exact eT (by first | assumption | with_reducible rfl | omega) | exact eF (by first | assumption | with_reducible rfl | omega) | exact nT (by first | assumption | with_reducible rfl | omega) | exact nF (by first | assumption | with_reducible rfl | omega))) (jc je rfl (uw [.int .u8 z.v.vd.code, .slice w1 z.v.vd.sets.length wc1, .slice w2 z.v.vd.soa.length wc2] [.int .u8 y.v.vd.code, .slice u1 y.v.vd.sets.length uc1, .slice u2 y.v.vd.soa.length uc2] z.v.vd y.v.vd (jQ _ _ _ _ hKr hzvd) (jQ _ _ _ _ hKr huvd))) ?_; rintro _ _ ⟨rfl, rfl⟩; refine ⟨Or.inr hKm, ?_⟩)
           refine tkQ 29 ?_
           refine tdQ ?_
           repeat (first | refine goA ?_ | (refine jO ?_; intro bNew) | refine jB (jl rfl (j8 )) rfl ?_ | refine jN (jl rfl (j8 )) rfl ?_ | (refine jS ?_; intro bLit))
           refine jH (L' := (bLit, Obj.cells #[.int .i64 z.v.up] 3 (0, 0)) :: (B7 ++ ((b2, Obj.cells #[.int .u8 0, .slice none 0 0, .slice none 0 0] 40 (0, 0)) :: L))) ?_ jn
           refine jw (zq etO rfl rfl hB7 (VW hzup) jd (by decide)) rfl ?_
           rintro _ _ ⟨a8, c8, B8, rfl, hB8, rfl⟩
           rw [← hmp] at hB8 ⊢
           repeat (first | refine goA ?_ | (refine jO ?_; intro bNew) | refine jB (jl rfl (j8 )) rfl ?_ | refine jN (jl rfl (j8 )) rfl ?_ | (refine jS ?_; intro bLit))
           refine jh (k + 1, a8, c8, B8) ⟨by dsimp only; omega, hB8⟩ ?_ (fun w h => h) (by dsimp only; omega)
           rw [hf]
           exact jr
         · rw [if_neg hzy] at hws
           repeat (first | refine goA ?_ | (refine jO ?_; intro bNew) | refine jB (jl rfl (j8 )) rfl ?_ | refine jN (jl rfl (j8 )) rfl ?_ | (refine jS ?_; intro bLit))
           refine jq jb ([(bb, Obj.cells #[.int .i64 want, .slice (some ⟨b1, o1, none⟩) l.length c] 200 (0, 0)), (b1, Obj.cells CX tX fX)]) [] ?_
           refine tkQ 0 ?_
           refine tkQ 1 ?_
           refine tkQ 2 ?_
           refine tkQ 3 ?_
           refine tkQ 4 ?_
           refine tkQ 5 ?_
           refine tkQ 6 ?_
           refine tkQ 7 ?_
           refine tkQ 8 ?_
           refine tkQ 9 ?_
           refine tkQ 10 ?_
           refine tkQ 11 ?_
           refine tkQ 12 ?_
           refine tkQ 13 ?_
           refine tkQ 14 ?_
           refine tkQ 15 ?_
           refine tkQ 16 ?_
           refine tkQ 17 ?_
           refine tkQ 19 ?_
           refine tkQ 20 ?_
           refine tkQ 21 ?_
           refine tkQ 22 ?_
           refine tkQ 23 ?_
           refine tkQ 24 ?_
           refine tkQ 25 ?_
           refine tkQ 26 ?_
           first | (refine jp 18 rfl rfl je (kx rfl rfl ?_) ?_ ?_; (· first | with_reducible rfl | assumption | exact Bool.not_false | exact Bool.not_true | exact dT (by first | assumption | with_reducible rfl | omega) | exact dF (by first | assumption | with_reducible rfl | omega) | exact eT (by first | assumption | with_reducible rfl | omega) | exact eF (by first | assumption | with_reducible rfl | omega) | exact nT (by first | assumption | with_reducible rfl | omega) | exact nF (by first | assumption | with_reducible rfl | omega) | exact xT (by first | assumption | exact dT (by first | assumption | with_reducible rfl | omega) | exact dF (by first | assumption | with_reducible rfl | omega) | exact eT (by first | assumption | with_reducible rfl | omega) | exact eF (by first | assumption | with_reducible rfl | omega) | exact nT (by first | assumption | with_reducible rfl | omega) | exact nF (by first | assumption | with_reducible rfl | omega)) | exact xF (by first | assumption | exact dT (by first | assumption | with_reducible rfl | omega) | exact dF (by first | assumption | with_reducible rfl | omega) | exact eT (by first | assumption | with_reducible rfl | omega) | exact eF (by first | assumption | with_reducible rfl | omega) | exact nT (by first | assumption | with_reducible rfl | omega) | exact nF (by first | assumption | with_reducible rfl | omega))); (· exact hKm)) | (refine jp 18 rfl rfl je (kd rfl rfl (by first | with_reducible rfl | assumption | exact Bool.not_false | exact Bool.not_true | exact dT (by first | assumption | with_reducible rfl | omega) | exact dF (by first | assumption | with_reducible rfl | omega) | exact eT (by first | assumption | with_reducible rfl | omega) | exact eF (by first | assumption | with_reducible rfl | omega) | exact nT (by first | assumption | with_reducible rfl | omega) | exact nF (by first | assumption | with_reducible rfl | omega) | exact xT (by first | assumption | exact dT (by first | assumption | with_reducible rfl | omega) | exact dF (by first | assumption | with_reducible rfl | omega) | exact eT (by first | assumption | with_reducible rfl | omega) | exact eF (by first | assumption | with_reducible rfl | omega) | exact nT (by first | assumption | with_reducible rfl | omega) | exact nF (by first | assumption | with_reducible rfl | omega)) | exact xF (by first | assumption | exact dT (by first | assumption | with_reducible rfl | omega) | exact dF (by first | assumption | with_reducible rfl | omega) | exact eT (by first | assumption | with_reducible rfl | omega) | exact eF (by first | assumption | with_reducible rfl | omega) | exact nT (by first | assumption | with_reducible rfl | omega) | exact nF (by first | assumption | with_reducible rfl | omega))) (jA [.int .u8 z.v.vd.code, .slice w1 z.v.vd.sets.length wc1, .slice w2 z.v.vd.soa.length wc2] rfl stL (List.mem_cons_of_mem _ (List.mem_cons_self ..)) hza)) ?_ ?_; (· exact hKm))
           first | (refine jp 27 rfl rfl je (kx rfl rfl ?_) ?_ ?_; (· first | with_reducible rfl | assumption | exact Bool.not_false | exact Bool.not_true | exact dT (by first | assumption | with_reducible rfl | omega) | exact dF (by first | assumption | with_reducible rfl | omega) | exact eT (by first | assumption | with_reducible rfl | omega) | exact eF (by first | assumption | with_reducible rfl | omega) | exact nT (by first | assumption | with_reducible rfl | omega) | exact nF (by first | assumption | with_reducible rfl | omega) | exact xT (by first | assumption | exact dT (by first | assumption | with_reducible rfl | omega) | exact dF (by first | assumption | with_reducible rfl | omega) | exact eT (by first | assumption | with_reducible rfl | omega) | exact eF (by first | assumption | with_reducible rfl | omega) | exact nT (by first | assumption | with_reducible rfl | omega) | exact nF (by first | assumption | with_reducible rfl | omega)) | exact xF (by first | assumption | exact dT (by first | assumption | with_reducible rfl | omega) | exact dF (by first | assumption | with_reducible rfl | omega) | exact eT (by first | assumption | with_reducible rfl | omega) | exact eF (by first | assumption | with_reducible rfl | omega) | exact nT (by first | assumption | with_reducible rfl | omega) | exact nF (by first | assumption | with_reducible rfl | omega))); (· exact hKm)) | (refine jp 27 rfl rfl je (kd rfl rfl (by first | with_reducible rfl | assumption | exact Bool.not_false | exact Bool.not_true | exact dT (by first | assumption | with_reducible rfl | omega) | exact dF (by first | assumption | with_reducible rfl | omega) | exact eT (by first | assumption | with_reducible rfl | omega) | exact eF (by first | assumption | with_reducible rfl | omega) | exact nT (by first | assumption | with_reducible rfl | omega) | exact nF (by first | assumption | with_reducible rfl | omega) | exact xT (by first | assumption | exact dT (by first | assumption | with_reducible rfl | omega) | exact dF (by first | assumption | with_reducible rfl | omega) | exact eT (by first | assumption | with_reducible rfl | omega) | exact eF (by first | assumption | with_reducible rfl | omega) | exact nT (by first | assumption | with_reducible rfl | omega) | exact nF (by first | assumption | with_reducible rfl | omega)) | exact xF (by first | assumption | exact dT (by first | assumption | with_reducible rfl | omega) | exact dF (by first | assumption | with_reducible rfl | omega) | exact eT (by first | assumption | with_reducible rfl | omega) | exact eF (by first | assumption | with_reducible rfl | omega) | exact nT (by first | assumption | with_reducible rfl | omega) | exact nF (by first | assumption | with_reducible rfl | omega))) (jA [.int .u8 y.v.vd.code, .slice u1 y.v.vd.sets.length uc1, .slice u2 y.v.vd.soa.length uc2] rfl stL (List.mem_cons_of_mem _ (List.mem_cons_self ..)) hua)) ?_ ?_; (· exact hKm))
           first | (refine jp 28 rfl rfl je (kx rfl rfl ?_) ?_ ?_; (· first | with_reducible rfl | assumption | exact Bool.not_false | exact Bool.not_true | exact dT (by first | assumption | with_reducible rfl | omega) | exact dF (by first | assumption | with_reducible rfl | omega) | exact eT (by first | assumption | with_reducible rfl | omega) | exact eF (by first | assumption | with_reducible rfl | omega) | exact nT (by first | assumption | with_reducible rfl | omega) | exact nF (by first | assumption | with_reducible rfl | omega) | exact xT (by first | assumption | exact dT (by first | assumption | with_reducible rfl | omega) | exact dF (by first | assumption | with_reducible rfl | omega) | exact eT (by first | assumption | with_reducible rfl | omega) | exact eF (by first | assumption | with_reducible rfl | omega) | exact nT (by first | assumption | with_reducible rfl | omega) | exact nF (by first | assumption | with_reducible rfl | omega)) | exact xF (by first | assumption | exact dT (by first | assumption | with_reducible rfl | omega) | exact dF (by first | assumption | with_reducible rfl | omega) | exact eT (by first | assumption | with_reducible rfl | omega) | exact eF (by first | assumption | with_reducible rfl | omega) | exact nT (by first | assumption | with_reducible rfl | omega) | exact nF (by first | assumption | with_reducible rfl | omega))); (· exact hKm)) | (refine qA 28 je rfl rfl rfl rfl (by first | with_reducible rfl | assumption | exact Bool.not_false | exact Bool.not_true | exact dT (by first | assumption | with_reducible rfl | omega) | exact dF (by first | assumption | with_reducible rfl | omega) | exact eT (by first | assumption | with_reducible rfl | omega) | exact eF (by first | assumption | with_reducible rfl | omega) | exact nT (by first | assumption | with_reducible rfl | omega) | exact nF (by first | assumption | with_reducible rfl | omega) | exact xT (by first | assumption | exact dT (by first | assumption | with_reducible rfl | omega) | exact dF (by first | assumption | with_reducible rfl | omega) | exact eT (by first | assumption | with_reducible rfl | omega) | exact eF (by first | assumption | with_reducible rfl | omega) | exact nT (by first | assumption | with_reducible rfl | omega) | exact nF (by first | assumption | with_reducible rfl | omega)) | exact xF (by first | assumption | exact dT (by first | assumption | with_reducible rfl | omega) | exact dF (by first | assumption | with_reducible rfl | omega) | exact eT (by first | assumption | with_reducible rfl | omega) | exact eF (by first | assumption | with_reducible rfl | omega) | exact nT (by first | assumption | with_reducible rfl | omega) | exact nF (by first | assumption | with_reducible rfl | omega))) (jc je rfl (uw [.int .u8 z.v.vd.code, .slice w1 z.v.vd.sets.length wc1, .slice w2 z.v.vd.soa.length wc2] [.int .u8 y.v.vd.code, .slice u1 y.v.vd.sets.length uc1, .slice u2 y.v.vd.soa.length uc2] z.v.vd y.v.vd (jQ _ _ _ _ hKr hzvd) (jQ _ _ _ _ hKr huvd))) ?_; rintro _ _ ⟨rfl, rfl⟩; refine ⟨Or.inr hKm, ?_⟩)
           refine tkQ 29 ?_
           refine tdQ ?_
           repeat (first | refine goA ?_ | (refine jO ?_; intro bNew) | refine jB (jl rfl (j8 )) rfl ?_ | refine jN (jl rfl (j8 )) rfl ?_ | (refine jS ?_; intro bLit))
           refine jh (k + 1, a7, c7, B7) ⟨by dsimp only; omega, by dsimp only; rw [hws]; exact hB7⟩ ?_ (fun w h => h) (by dsimp only; omega)
           dsimp only
           rw [hws]
           exact jr
     · have hke : k = i + 1 := by omega
       subst hke
       rw [← htake] at hB7 hl7 ⊢
       have hws := yD hat hno
       have hlm : ((jR (vs.take ((Vd.votesB (l.take i)).length + 1)) y.v.vd).map (·.up)).length = (jR (vs.take ((Vd.votesB (l.take i)).length + 1)) y.v.vd).length := List.length_map _
       by_cases hwin : want ≤ ((((jR (vs.take ((Vd.votesB (l.take i)).length + 1)) y.v.vd).map (·.up)).length : Nat) : Int)
       · have hyes : ky want vs vs.length = some (Vd.votesB (l.take i)).length := zT _ _ hmlt (by rw [hws, if_pos (by rw [← hlm]; exact hwin)])
         have hR : qr want vs = (y.v.vd, (jR (vs.take ((Vd.votesB (l.take i)).length + 1)) y.v.vd).foldl (fun t v => min t v.time) y.v.time, kI ((jR (vs.take ((Vd.votesB (l.take i)).length + 1)) y.v.vd).map (·.up)), true) := by
          unfold qr
          rw [hyes]
          dsimp only
          rw [hat]
         rw [hR]
         have hKm : ∀ q ∈ [(bb, Obj.cells #[.int .i64 want, .slice (some ⟨b1, o1, none⟩) l.length c] 200 (0, 0)), (b1, Obj.cells C1 t1 f1)], q ∈ B7 ++ ((b2, Obj.cells #[.int .u8 0, .slice none 0 0, .slice none 0 0] 40 (0, 0)) :: L) := by
          intro q hq
          simp only [List.mem_cons, List.not_mem_nil, or_false] at hq
          rcases hq with rfl | rfl
          · simp [hm]
          · simp [m1]
         repeat (first | refine goA ?_ | (refine jO ?_; intro bNew) | refine jB (jl rfl (j8 )) rfl ?_ | refine jN (jl rfl (j8 )) rfl ?_ | (refine jS ?_; intro bLit))
         refine jq jb ([(bb, Obj.cells #[.int .i64 want, .slice (some ⟨b1, o1, none⟩) l.length c] 200 (0, 0)), (b1, Obj.cells C1 t1 f1)]) [] ?_
         refine tkQ 0 ?_
         refine tkQ 1 ?_
         refine tkQ 2 ?_
         refine tkQ 3 ?_
         refine tkQ 4 ?_
         refine tkQ 5 ?_
         refine tkQ 6 ?_
         refine tkQ 7 ?_
         first | (refine' jp 8 rfl rfl je (jL (jA [.int .u8 y.v.vd.code, .slice y1 y.v.vd.sets.length yc1, .slice y2 y.v.vd.soa.length yc2] rfl stL (List.mem_cons_of_mem _ (List.mem_cons_self ..)) hya)) ?_ ?_; (· first | assumption | (intro p hp; grind)))
         refine tkQ 9 ?_
         refine tkQ 10 ?_
         refine jF 11 je rfl rfl rfl rfl (jc je rfl (Ua _ _ (hB7.sliceR (uf _) (by simp) jf) jd)) ?_; rintro _ _ ⟨aR, cR, BR, rfl, hBR, rfl⟩; refine ⟨Or.inr (fun q hq => (jf) q (hKm q hq)), ?_⟩
         refine j6 (L' := (b2, Obj.cells #[.int .u8 0, .slice none 0 0, .slice none 0 0] 40 (0, 0)) :: (BR ++ (B7 ++ L))) ?_ jn; refine jZ 12 je rfl rfl rfl (qg rfl rfl stO rfl rfl rfl) ?_; rintro _ _ ⟨_, rfl⟩; refine ⟨Or.inr ?_, ?_⟩; (· intro q hq; simp only [List.mem_cons, List.not_mem_nil, or_false] at hq; rcases hq with rfl | rfl; (· simp [hm]); (· simp [m1]))
         refine tkQ 13 ?_
         refine tkQ 14 ?_
         refine tkQ 15 ?_
         refine tdQ ?_
         repeat (first | refine goA ?_ | (refine jO ?_; intro bNew) | refine jB (jl rfl (j8 )) rfl ?_ | refine jN (jl rfl (j8 )) rfl ?_ | (refine jS ?_; intro bLit))
         clear hm m1
         refine JA 2 40 3 4 5 rfl rfl rfl rfl rfl stO (by repeat (first | assumption | exact List.mem_cons_self | apply List.mem_cons_of_mem)) rfl (fun w h => Heap.cnt (L' := BR ++ L) h jn) ?_
         exact ⟨_, _, _, _, rfl, hyvd, hBR, rfl⟩
       · have hno1 : ky want vs (Vd.votesB (l.take (i + 1))).length = none := by
          have e1 : (Vd.votesB (l.take (i + 1))).length = (Vd.votesB (l.take i)).length + 1 := by rw [ht1, hp]; simp
          rw [e1, hws, if_neg (by rw [← hlm]; exact hwin)]
         repeat (first | refine goA ?_ | (refine jO ?_; intro bNew) | refine jB (jl rfl (j8 )) rfl ?_ | refine jN (jl rfl (j8 )) rfl ?_ | (refine jS ?_; intro bLit))
         refine jh (i + 1) ⟨hil, hno1⟩ ?_ (fun w h => h.cnt jn) jd
         exact jr
 · have hie : i = l.length := by omega
   subst hie
   rw [List.take_length, hvs] at hno
   have hR : qr want vs = (Vdt.none, 0, [], false) := by unfold qr; rw [hno]
   rw [hR]
   repeat (first | refine goA ?_ | (refine jO ?_; intro bNew) | refine jB (jl rfl (j8 )) rfl ?_ | refine jN (jl rfl (j8 )) rfl ?_ | (refine jS ?_; intro bLit))
   clear hm
   refine JA 2 40 3 4 5 rfl rfl rfl rfl rfl stO (by repeat (first | assumption | exact List.mem_cons_self | apply List.mem_cons_of_mem)) rfl (fun w h => Heap.cnt (L' := L) h jn) ?_
   exact ⟨_, none, 0, [], rfl, ⟨_, _, rfl, sliceR.nil, sliceR.nil, by decide⟩, ORow.nil _, rfl⟩
end
section
open Go.RowKit
open Vd (RSet Vdt Vote Rec Quest Piece Ballot)
variable {G : World} {L : ja}
structure BallC (K : ja) (C : Array Value) (o : Nat) (x : Ballot) (a1 : Option Addr) (c1 : Nat) (a2 : Option Addr) (c2 : Nat) : Prop where
 up : C[o + 0 + 0]? = some (.int .i64 x.v.up)
 pass : C[o + 5]? = some (.bool x.pass)
 vd : ∀ j v, ([.int .u8 x.v.vd.code, .slice a1 x.v.vd.sets.length c1, .slice a2 x.v.vd.soa.length c2] : List Value)[j]? = some v → C[o + 0 + 1 + j]? = some v
 is : vdR K [.int .u8 x.v.vd.code, .slice a1 x.v.vd.sets.length c1, .slice a2 x.v.vd.soa.length c2] x.v.vd
 bd : -9223372036854775808 ≤ x.v.up ∧ x.v.up ≤ 9223372036854775807
theorem Yb {K : ja} {a : Option Addr} {c : Nat} {l : List Ballot} (h : sliceR 6 (fun _ => ballotR K) L [.slice a l.length c] l) (hl : l ≠ []) : ∃ b o C te fr, a = some ⟨b, o, none⟩ ∧ (b, Obj.cells C te fr) ∈ L ∧ ∀ i x, l[i]? = some x → ∃ a1 c1 a2 c2, BallC K C (o + i * 6) x a1 c1 a2 c2 := by
 obtain ⟨_, _, _, h4⟩ := sliceR.cut h
 rcases h4 with h4 | ⟨b, o, C, te, fr, h1, h2, h3⟩
 · exact absurd h4 hl
 · refine ⟨b, o, C, te, fr, h1, h2, fun i x hx => ?_⟩
   obtain ⟨cs, _, ⟨a1, c1, a2, c2, rfl, hv⟩, hc⟩ := h3 i x hx
   obtain ⟨_, _, _, _, e, p1, p2, p3, _, p5⟩ := hv.vals
   simp only [List.cons.injEq, Value.slice.injEq, and_true, true_and] at e
   obtain ⟨⟨rfl, rfl⟩, rfl, rfl⟩ := e
   refine ⟨a1, c1, a2, c2, by rw [Nat.add_zero]; exact hc 0 _ rfl, hc 5 _ rfl, fun j v hj => ?_, ⟨_, _, rfl, p1, p2, p3⟩, p5⟩
   rw [Nat.add_zero, Nat.add_assoc]
   match j, hj with
   | 0, hj => exact hc 1 v hj
   | 1, hj => exact hc 2 v hj
   | 2, hj => exact hc 3 v hj
theorem Za {K : ja} (bb : Nat) (want : Int) (a : Option Addr) (c : Nat) (l : List Ballot) (hm : (bb, Obj.cells #[.int .i64 want, .slice a l.length c] 200 (0, 0)) ∈ L) (hl : sliceR 6 (fun _ => ballotR K) L [.slice a l.length c] l) (hK : ∀ p ∈ K, p ∈ L) (hn : l.length ≤ 1000) :
 Spec Tryz.prog G 136 #[.pointer (some ⟨bb, 0, none⟩)] L fun u M => ∃ a3 c3 B3, u = .slice a3 (kw want (Vd.votesB l)).length c3 ∧ ORow (uj .i64) 3 1 [] a3 c3 (kw want (Vd.votesB l)) B3 ∧ M = B3 ++ L := by
 have hcap := (sliceR.cut hl).2
 unfold maxLen at hcap
 obtain ⟨hcap1, hcap2, _⟩ := hcap
 obtain ⟨vs, hvs⟩ : ∃ vs, Vd.votesB l = vs := ⟨_, rfl⟩
 refine jm (n := 65) Tryz.func136 rfl rfl rfl ?_
 repeat (first | refine goA ?_ | (refine jO ?_; intro bNew) | (refine jS ?_; intro bLit))
 refine jw (jc je rfl (acf bb want a c l hm hl hK hn)) rfl ?_
 rw [hvs]
 unfold kw
 obtain ⟨r, hr⟩ : ∃ r, qr want vs = r := ⟨_, rfl⟩
 rw [hr]
 rintro _ _ ⟨cs, aW, cW, BW, rfl, hvd, hBW, rfl⟩
 obtain ⟨x1, xc1, x2, xc2, rfl, hx1, hx2, hx3⟩ := hvd.vals
 repeat (first | refine goA ?_ | (refine jO ?_; intro bNew) | (refine jS ?_; intro bLit))
 obtain ⟨b3, hb3⟩ : ∃ b, bNew = b := ⟨_, rfl⟩
 rw [hb3]
 clear hb3 bNew
 refine UP (L' := (b3, Obj.cells #[.int .u8 r.1.code, .slice x1 r.1.sets.length xc1, .slice x2 r.1.soa.length xc2] 40 (0, 0)) :: L) ?_ jn
 refine jy (σ := Nat × Option Addr × Nat × ja) (fun y => y.1 ≤ l.length ∧ (r.2.2.2 = false → y.1 = 0) ∧ ORow (uj .i64) 3 1 [] y.2.1 y.2.2.1 (((Vd.votesB (l.take y.1)).filter fun x => !decide (x.vd = r.1)).map (·.up)) y.2.2.2) (fun y => [(0, .pointer (some ⟨bb, 0, none⟩)), (3, .pointer (some ⟨b3, 0, none⟩)), (6, .bool r.2.2.2), (7, .slice y.2.1 (((Vd.votesB (l.take y.1)).filter fun x => !decide (x.vd = r.1)).map (·.up)).length y.2.2.1), (8, .int .i64 (y.1 : Nat))]) (fun y => y.2.2.2 ++ ((b3, Obj.cells #[.int .u8 r.1.code, .slice x1 r.1.sets.length xc1, .slice x2 r.1.soa.length xc2] 40 (0, 0)) :: L)) (fun y => l.length - y.1) (0, none, 0, []) ⟨Nat.zero_le _, fun _ => rfl, ORow.nil _⟩ ?_ (fun w h => h) ?_
 exact jr
 rintro ⟨i, a4, c4, B4⟩ ⟨hi, hz0, hB4⟩
 dsimp only at hi hz0 hB4 ⊢
 have hl4 : (((Vd.votesB (l.take i)).filter fun x => !decide (x.vd = r.1)).map (·.up)).length ≤ i := by
  rw [List.length_map]
  refine Nat.le_trans (List.length_filter_le _ _) (Nat.le_trans (j7 _) ?_)
  rw [List.length_take]
  omega
 by_cases hgo : i < l.length ∧ r.2.2.2 = true
 · obtain ⟨hil, hr4⟩ := hgo
   obtain ⟨y, hy⟩ : ∃ y, l[i]? = some y := ⟨_, List.getElem?_eq_getElem hil⟩
   obtain ⟨b1, o1, C1, t1, f1, rfl, m1, q1⟩ := Yb hl (by intro e; rw [e] at hil; simp at hil)
   obtain ⟨y1, yc1, y2, yc2, hyB⟩ := q1 i y hy
   have g0 := hyB.up
   have g5 := hyB.pass
   have hbd := hyB.bd
   have ht1 := qD hy
   rw [hr4]
   have hKm : ∀ q ∈ [(bb, Obj.cells #[.int .i64 want, .slice (some ⟨b1, o1, none⟩) l.length c] 200 (0, 0)), (b1, Obj.cells C1 t1 f1), (b3, Obj.cells #[.int .u8 r.1.code, .slice x1 r.1.sets.length xc1, .slice x2 r.1.soa.length xc2] 40 (0, 0))], q ∈ B4 ++ ((b3, Obj.cells #[.int .u8 r.1.code, .slice x1 r.1.sets.length xc1, .slice x2 r.1.soa.length xc2] 40 (0, 0)) :: L) := by
    intro q hq
    simp only [List.mem_cons, List.not_mem_nil, or_false] at hq
    rcases hq with rfl | rfl | rfl
    · simp [hm]
    · simp [m1]
    · simp
   have hKr : ∀ q ∈ K, q ∈ B4 ++ ((b3, Obj.cells #[.int .u8 r.1.code, .slice x1 r.1.sets.length xc1, .slice x2 r.1.soa.length xc2] 40 (0, 0)) :: L) := fun q hq => (jf) q (hK q hq)
   cases hp : y.pass with
   | true =>
     rw [hp] at g5
     rw [hp, if_pos rfl] at ht1
     repeat (first | refine goA ?_ | (refine jO ?_; intro bNew) | (refine jS ?_; intro bLit))
     refine jq jb ([(bb, Obj.cells #[.int .i64 want, .slice (some ⟨b1, o1, none⟩) l.length c] 200 (0, 0)), (b1, Obj.cells C1 t1 f1), (b3, Obj.cells #[.int .u8 r.1.code, .slice x1 r.1.sets.length xc1, .slice x2 r.1.soa.length xc2] 40 (0, 0))]) [] ?_
     refine tkQ 0 ?_
     refine tkQ 1 ?_
     refine tkQ 2 ?_
     refine tkQ 3 ?_
     refine tkQ 4 ?_
     refine tkQ 5 ?_
     refine tkQ 6 ?_
     refine tkQ 7 ?_
     refine tkQ 8 ?_
     refine tkQ 9 ?_
     refine tkQ 10 ?_
     refine tkQ 11 ?_
     refine tkQ 12 ?_
     refine tkQ 13 ?_
     refine tkQ 14 ?_
     refine tkQ 15 ?_
     refine tkQ 16 ?_
     refine tkQ 17 ?_
     first | (refine jp 18 rfl rfl je (kx rfl rfl ?_) ?_ ?_; (· first | with_reducible rfl | assumption | exact Bool.not_false | exact Bool.not_true | exact dT (by first | assumption | with_reducible rfl | omega) | exact dF (by first | assumption | with_reducible rfl | omega) | exact eT (by first | assumption | with_reducible rfl | omega) | exact eF (by first | assumption | with_reducible rfl | omega) | exact nT (by first | assumption | with_reducible rfl | omega) | exact nF (by first | assumption | with_reducible rfl | omega) | exact xT (by first | assumption | exact dT (by first | assumption | with_reducible rfl | omega) | exact dF (by first | assumption | with_reducible rfl | omega) | exact eT (by first | assumption | with_reducible rfl | omega) | exact eF (by first | assumption | with_reducible rfl | omega) | exact nT (by first | assumption | with_reducible rfl | omega) | exact nF (by first | assumption | with_reducible rfl | omega)) | exact xF (by first | assumption | exact dT (by first | assumption | with_reducible rfl | omega) | exact dF (by first | assumption | with_reducible rfl | omega) | exact eT (by first | assumption | with_reducible rfl | omega) | exact eF (by first | assumption | with_reducible rfl | omega) | exact nT (by first | assumption | with_reducible rfl | omega) | exact nF (by first | assumption | with_reducible rfl | omega))); (· exact hKm)) | (refine jp 18 rfl rfl je (kd rfl rfl (by first | with_reducible rfl | assumption | exact Bool.not_false | exact Bool.not_true | exact dT (by first | assumption | with_reducible rfl | omega) | exact dF (by first | assumption | with_reducible rfl | omega) | exact eT (by first | assumption | with_reducible rfl | omega) | exact eF (by first | assumption | with_reducible rfl | omega) | exact nT (by first | assumption | with_reducible rfl | omega) | exact nF (by first | assumption | with_reducible rfl | omega) | exact xT (by first | assumption | exact dT (by first | assumption | with_reducible rfl | omega) | exact dF (by first | assumption | with_reducible rfl | omega) | exact eT (by first | assumption | with_reducible rfl | omega) | exact eF (by first | assumption | with_reducible rfl | omega) | exact nT (by first | assumption | with_reducible rfl | omega) | exact nF (by first | assumption | with_reducible rfl | omega)) | exact xF (by first | assumption | exact dT (by first | assumption | with_reducible rfl | omega) | exact dF (by first | assumption | with_reducible rfl | omega) | exact eT (by first | assumption | with_reducible rfl | omega) | exact eF (by first | assumption | with_reducible rfl | omega) | exact nT (by first | assumption | with_reducible rfl | omega) | exact nF (by first | assumption | with_reducible rfl | omega))) (jA [.int .u8 y.v.vd.code, .slice y1 y.v.vd.sets.length yc1, .slice y2 y.v.vd.soa.length yc2] rfl stL (List.mem_cons_of_mem _ (List.mem_cons_self ..)) hyB.vd)) ?_ ?_; (· exact hKm))
     refine tkQ 19 ?_
     first | (refine jp 20 rfl rfl je (kx rfl rfl ?_) ?_ ?_; (· first | with_reducible rfl | assumption | exact Bool.not_false | exact Bool.not_true | exact dT (by first | assumption | with_reducible rfl | omega) | exact dF (by first | assumption | with_reducible rfl | omega) | exact eT (by first | assumption | with_reducible rfl | omega) | exact eF (by first | assumption | with_reducible rfl | omega) | exact nT (by first | assumption | with_reducible rfl | omega) | exact nF (by first | assumption | with_reducible rfl | omega) | exact xT (by first | assumption | exact dT (by first | assumption | with_reducible rfl | omega) | exact dF (by first | assumption | with_reducible rfl | omega) | exact eT (by first | assumption | with_reducible rfl | omega) | exact eF (by first | assumption | with_reducible rfl | omega) | exact nT (by first | assumption | with_reducible rfl | omega) | exact nF (by first | assumption | with_reducible rfl | omega)) | exact xF (by first | assumption | exact dT (by first | assumption | with_reducible rfl | omega) | exact dF (by first | assumption | with_reducible rfl | omega) | exact eT (by first | assumption | with_reducible rfl | omega) | exact eF (by first | assumption | with_reducible rfl | omega) | exact nT (by first | assumption | with_reducible rfl | omega) | exact nF (by first | assumption | with_reducible rfl | omega))); (· exact hKm)) | (refine qA 20 je rfl rfl rfl rfl (by first | with_reducible rfl | assumption | exact Bool.not_false | exact Bool.not_true | exact dT (by first | assumption | with_reducible rfl | omega) | exact dF (by first | assumption | with_reducible rfl | omega) | exact eT (by first | assumption | with_reducible rfl | omega) | exact eF (by first | assumption | with_reducible rfl | omega) | exact nT (by first | assumption | with_reducible rfl | omega) | exact nF (by first | assumption | with_reducible rfl | omega) | exact xT (by first | assumption | exact dT (by first | assumption | with_reducible rfl | omega) | exact dF (by first | assumption | with_reducible rfl | omega) | exact eT (by first | assumption | with_reducible rfl | omega) | exact eF (by first | assumption | with_reducible rfl | omega) | exact nT (by first | assumption | with_reducible rfl | omega) | exact nF (by first | assumption | with_reducible rfl | omega)) | exact xF (by first | assumption | exact dT (by first | assumption | with_reducible rfl | omega) | exact dF (by first | assumption | with_reducible rfl | omega) | exact eT (by first | assumption | with_reducible rfl | omega) | exact eF (by first | assumption | with_reducible rfl | omega) | exact nT (by first | assumption | with_reducible rfl | omega) | exact nF (by first | assumption | with_reducible rfl | omega))) (jc je rfl (uw [.int .u8 y.v.vd.code, .slice y1 y.v.vd.sets.length yc1, .slice y2 y.v.vd.soa.length yc2] [.int .u8 r.1.code, .slice x1 r.1.sets.length xc1, .slice x2 r.1.soa.length xc2] y.v.vd r.1 (jQ _ _ _ _ hKr hyB.is) (jQ _ _ _ _ hKr hvd))) ?_; rintro _ _ ⟨rfl, rfl⟩; refine ⟨Or.inr hKm, ?_⟩)
     refine tkQ 21 ?_
     refine tkQ 22 ?_
     refine tdQ ?_
     repeat (first | refine goA ?_ | (refine jO ?_; intro bNew) | (refine jS ?_; intro bLit))
     refine jh (i + 1, a4, c4, B4) ⟨hil, fun h => absurd h (by simp [hr4]), by dsimp only; rw [ht1]; exact hB4⟩ ?_ (fun w h => h) (by dsimp only; omega)
     dsimp only
     rw [ht1]
     exact jr
   | false =>
     rw [hp] at g5
     rw [hp, if_neg (by simp)] at ht1
     by_cases hyr : y.v.vd = r.1
     · have hf : ((Vd.votesB (l.take (i + 1))).filter fun x => !decide (x.vd = r.1)).map (·.up) = ((Vd.votesB (l.take i)).filter fun x => !decide (x.vd = r.1)).map (·.up) := by
        rw [ht1, List.filter_append]; simp [hyr]
       have hd0 : decide (y.v.vd = r.1) = true := decide_eq_true hyr
       have hd1 : (!decide (y.v.vd = r.1)) = false := by rw [hd0]; rfl
       repeat (first | refine goA ?_ | (refine jO ?_; intro bNew) | (refine jS ?_; intro bLit))
       refine jq jb ([(bb, Obj.cells #[.int .i64 want, .slice (some ⟨b1, o1, none⟩) l.length c] 200 (0, 0)), (b1, Obj.cells C1 t1 f1), (b3, Obj.cells #[.int .u8 r.1.code, .slice x1 r.1.sets.length xc1, .slice x2 r.1.soa.length xc2] 40 (0, 0))]) [] ?_
       refine tkQ 0 ?_
       refine tkQ 1 ?_
       refine tkQ 2 ?_
       refine tkQ 3 ?_
       refine tkQ 4 ?_
       refine tkQ 5 ?_
       refine tkQ 6 ?_
       refine tkQ 7 ?_
       refine tkQ 8 ?_
       refine tkQ 9 ?_
       refine tkQ 10 ?_
       refine tkQ 11 ?_
       refine tkQ 12 ?_
       refine tkQ 13 ?_
       refine tkQ 14 ?_
       refine tkQ 15 ?_
       refine tkQ 16 ?_
       refine tkQ 17 ?_
       first | (refine jp 18 rfl rfl je (kx rfl rfl ?_) ?_ ?_; (· first | with_reducible rfl | assumption | exact Bool.not_false | exact Bool.not_true | exact dT (by first | assumption | with_reducible rfl | omega) | exact dF (by first | assumption | with_reducible rfl | omega) | exact eT (by first | assumption | with_reducible rfl | omega) | exact eF (by first | assumption | with_reducible rfl | omega) | exact nT (by first | assumption | with_reducible rfl | omega) | exact nF (by first | assumption | with_reducible rfl | omega) | exact xT (by first | assumption | exact dT (by first | assumption | with_reducible rfl | omega) | exact dF (by first | assumption | with_reducible rfl | omega) | exact eT (by first | assumption | with_reducible rfl | omega) | exact eF (by first | assumption | with_reducible rfl | omega) | exact nT (by first | assumption | with_reducible rfl | omega) | exact nF (by first | assumption | with_reducible rfl | omega)) | exact xF (by first | assumption | exact dT (by first | assumption | with_reducible rfl | omega) | exact dF (by first | assumption | with_reducible rfl | omega) | exact eT (by first | assumption | with_reducible rfl | omega) | exact eF (by first | assumption | with_reducible rfl | omega) | exact nT (by first | assumption | with_reducible rfl | omega) | exact nF (by first | assumption | with_reducible rfl | omega))); (· exact hKm)) | (refine jp 18 rfl rfl je (kd rfl rfl (by first | with_reducible rfl | assumption | exact Bool.not_false | exact Bool.not_true | exact dT (by first | assumption | with_reducible rfl | omega) | exact dF (by first | assumption | with_reducible rfl | omega) | exact eT (by first | assumption | with_reducible rfl | omega) | exact eF (by first | assumption | with_reducible rfl | omega) | exact nT (by first | assumption | with_reducible rfl | omega) | exact nF (by first | assumption | with_reducible rfl | omega) | exact xT (by first | assumption | exact dT (by first | assumption | with_reducible rfl | omega) | exact dF (by first | assumption | with_reducible rfl | omega) | exact eT (by first | assumption | with_reducible rfl | omega) | exact eF (by first | assumption | with_reducible rfl | omega) | exact nT (by first | assumption | with_reducible rfl | omega) | exact nF (by first | assumption | with_reducible rfl | omega)) | exact xF (by first | assumption | exact dT (by first | assumption | with_reducible rfl | omega) | exact dF (by first | assumption | with_reducible rfl | omega) | exact eT (by first | assumption | with_reducible rfl | omega) | exact eF (by first | assumption | with_reducible rfl | omega) | exact nT (by first | assumption | with_reducible rfl | omega) | exact nF (by first | assumption | with_reducible rfl | omega))) (jA [.int .u8 y.v.vd.code, .slice y1 y.v.vd.sets.length yc1, .slice y2 y.v.vd.soa.length yc2] rfl stL (List.mem_cons_of_mem _ (List.mem_cons_self ..)) hyB.vd)) ?_ ?_; (· exact hKm))
       refine tkQ 19 ?_
       first | (refine jp 20 rfl rfl je (kx rfl rfl ?_) ?_ ?_; (· first | with_reducible rfl | assumption | exact Bool.not_false | exact Bool.not_true | exact dT (by first | assumption | with_reducible rfl | omega) | exact dF (by first | assumption | with_reducible rfl | omega) | exact eT (by first | assumption | with_reducible rfl | omega) | exact eF (by first | assumption | with_reducible rfl | omega) | exact nT (by first | assumption | with_reducible rfl | omega) | exact nF (by first | assumption | with_reducible rfl | omega) | exact xT (by first | assumption | exact dT (by first | assumption | with_reducible rfl | omega) | exact dF (by first | assumption | with_reducible rfl | omega) | exact eT (by first | assumption | with_reducible rfl | omega) | exact eF (by first | assumption | with_reducible rfl | omega) | exact nT (by first | assumption | with_reducible rfl | omega) | exact nF (by first | assumption | with_reducible rfl | omega)) | exact xF (by first | assumption | exact dT (by first | assumption | with_reducible rfl | omega) | exact dF (by first | assumption | with_reducible rfl | omega) | exact eT (by first | assumption | with_reducible rfl | omega) | exact eF (by first | assumption | with_reducible rfl | omega) | exact nT (by first | assumption | with_reducible rfl | omega) | exact nF (by first | assumption | with_reducible rfl | omega))); (· exact hKm)) | (refine qA 20 je rfl rfl rfl rfl (by first | with_reducible rfl | assumption | exact Bool.not_false | exact Bool.not_true | exact dT (by first | assumption | with_reducible rfl | omega) | exact dF (by first | assumption | with_reducible rfl | omega) | exact eT (by first | assumption | with_reducible rfl | omega) | exact eF (by first | assumption | with_reducible rfl | omega) | exact nT (by first | assumption | with_reducible rfl | omega) | exact nF (by first | assumption | with_reducible rfl | omega) | exact xT (by first | assumption | exact dT (by first | assumption | with_reducible rfl | omega) | exact dF (by first | assumption | with_reducible rfl | omega) | exact eT (by first | assumption | with_reducible rfl | omega) | exact eF (by first | assumption | with_reducible rfl | omega) | exact nT (by first | assumption | with_reducible rfl | omega) | exact nF (by first | assumption | with_reducible rfl | omega)) | exact xF (by first | assumption | exact dT (by first | assumption | with_reducible rfl | omega) | exact dF (by first | assumption | with_reducible rfl | omega) | exact eT (by first | assumption | with_reducible rfl | omega) | exact eF (by first | assumption | with_reducible rfl | omega) | exact nT (by first | assumption | with_reducible rfl | omega) | exact nF (by first | assumption | with_reducible rfl | omega))) (jc je rfl (uw [.int .u8 y.v.vd.code, .slice y1 y.v.vd.sets.length yc1, .slice y2 y.v.vd.soa.length yc2] [.int .u8 r.1.code, .slice x1 r.1.sets.length xc1, .slice x2 r.1.soa.length xc2] y.v.vd r.1 (jQ _ _ _ _ hKr hyB.is) (jQ _ _ _ _ hKr hvd))) ?_; rintro _ _ ⟨rfl, rfl⟩; refine ⟨Or.inr hKm, ?_⟩)
       refine tkQ 21 ?_
       refine tkQ 22 ?_
       refine tdQ ?_
       repeat (first | refine goA ?_ | (refine jO ?_; intro bNew) | (refine jS ?_; intro bLit))
       refine jh (i + 1, a4, c4, B4) ⟨hil, fun h => absurd h (by simp [hr4]), by dsimp only; rw [hf]; exact hB4⟩ ?_ (fun w h => h) (by dsimp only; omega)
       dsimp only
       rw [hf]
       exact jr
     · have hf : ((Vd.votesB (l.take (i + 1))).filter fun x => !decide (x.vd = r.1)).map (·.up) = ((Vd.votesB (l.take i)).filter fun x => !decide (x.vd = r.1)).map (·.up) ++ [y.v.up] := by
        rw [ht1, List.filter_append]; simp [hyr]
       have hd0 : decide (y.v.vd = r.1) = false := decide_eq_false hyr
       have hd1 : (!decide (y.v.vd = r.1)) = true := by rw [hd0]; rfl
       repeat (first | refine goA ?_ | (refine jO ?_; intro bNew) | (refine jS ?_; intro bLit))
       refine jq jb ([(bb, Obj.cells #[.int .i64 want, .slice (some ⟨b1, o1, none⟩) l.length c] 200 (0, 0)), (b1, Obj.cells C1 t1 f1), (b3, Obj.cells #[.int .u8 r.1.code, .slice x1 r.1.sets.length xc1, .slice x2 r.1.soa.length xc2] 40 (0, 0))]) [] ?_
       refine tkQ 0 ?_
       refine tkQ 1 ?_
       refine tkQ 2 ?_
       refine tkQ 3 ?_
       refine tkQ 4 ?_
       refine tkQ 5 ?_
       refine tkQ 6 ?_
       refine tkQ 7 ?_
       refine tkQ 8 ?_
       refine tkQ 9 ?_
       refine tkQ 10 ?_
       refine tkQ 11 ?_
       refine tkQ 12 ?_
       refine tkQ 13 ?_
       refine tkQ 14 ?_
       refine tkQ 15 ?_
       refine tkQ 16 ?_
       refine tkQ 17 ?_
       first | (refine jp 18 rfl rfl je (kx rfl rfl ?_) ?_ ?_; (· first | with_reducible rfl | assumption | exact Bool.not_false | exact Bool.not_true | exact dT (by first | assumption | with_reducible rfl | omega) | exact dF (by first | assumption | with_reducible rfl | omega) | exact eT (by first | assumption | with_reducible rfl | omega) | exact eF (by first | assumption | with_reducible rfl | omega) | exact nT (by first | assumption | with_reducible rfl | omega) | exact nF (by first | assumption | with_reducible rfl | omega) | exact xT (by first | assumption | exact dT (by first | assumption | with_reducible rfl | omega) | exact dF (by first | assumption | with_reducible rfl | omega) | exact eT (by first | assumption | with_reducible rfl | omega) | exact eF (by first | assumption | with_reducible rfl | omega) | exact nT (by first | assumption | with_reducible rfl | omega) | exact nF (by first | assumption | with_reducible rfl | omega)) | exact xF (by first | assumption | exact dT (by first | assumption | with_reducible rfl | omega) | exact dF (by first | assumption | with_reducible rfl | omega) | exact eT (by first | assumption | with_reducible rfl | omega) | exact eF (by first | assumption | with_reducible rfl | omega) | exact nT (by first | assumption | with_reducible rfl | omega) | exact nF (by first | assumption | with_reducible rfl | omega))); (· exact hKm)) | (refine jp 18 rfl rfl je (kd rfl rfl (by first | with_reducible rfl | assumption | exact Bool.not_false | exact Bool.not_true | exact dT (by first | assumption | with_reducible rfl | omega) | exact dF (by first | assumption | with_reducible rfl | omega) | exact eT (by first | assumption | with_reducible rfl | omega) | exact eF (by first | assumption | with_reducible rfl | omega) | exact nT (by first | assumption | with_reducible rfl | omega) | exact nF (by first | assumption | with_reducible rfl | omega) | exact xT (by first | assumption | exact dT (by first | assumption | with_reducible rfl | omega) | exact dF (by first | assumption | with_reducible rfl | omega) | exact eT (by first | assumption | with_reducible rfl | omega) | exact eF (by first | assumption | with_reducible rfl | omega) | exact nT (by first | assumption | with_reducible rfl | omega) | exact nF (by first | assumption | with_reducible rfl | omega)) | exact xF (by first | assumption | exact dT (by first | assumption | with_reducible rfl | omega) | exact dF (by first | assumption | with_reducible rfl | omega) | exact eT (by first | assumption | with_reducible rfl | omega) | exact eF (by first | assumption | with_reducible rfl | omega) | exact nT (by first | assumption | with_reducible rfl | omega) | exact nF (by first | assumption | with_reducible rfl | omega))) (jA [.int .u8 y.v.vd.code, .slice y1 y.v.vd.sets.length yc1, .slice y2 y.v.vd.soa.length yc2] rfl stL (List.mem_cons_of_mem _ (List.mem_cons_self ..)) hyB.vd)) ?_ ?_; (· exact hKm))
       refine tkQ 19 ?_
       first | (refine jp 20 rfl rfl je (kx rfl rfl ?_) ?_ ?_; (· first | with_reducible rfl | assumption | exact Bool.not_false | exact Bool.not_true | exact dT (by first | assumption | with_reducible rfl | omega) | exact dF (by first | assumption | with_reducible rfl | omega) | exact eT (by first | assumption | with_reducible rfl | omega) | exact eF (by first | assumption | with_reducible rfl | omega) | exact nT (by first | assumption | with_reducible rfl | omega) | exact nF (by first | assumption | with_reducible rfl | omega) | exact xT (by first | assumption | exact dT (by first | assumption | with_reducible rfl | omega) | exact dF (by first | assumption | with_reducible rfl | omega) | exact eT (by first | assumption | with_reducible rfl | omega) | exact eF (by first | assumption | with_reducible rfl | omega) | exact nT (by first | assumption | with_reducible rfl | omega) | exact nF (by first | assumption | with_reducible rfl | omega)) | exact xF (by first | assumption | exact dT (by first | assumption | with_reducible rfl | omega) | exact dF (by first | assumption | with_reducible rfl | omega) | exact eT (by first | assumption | with_reducible rfl | omega) | exact eF (by first | assumption | with_reducible rfl | omega) | exact nT (by first | assumption | with_reducible rfl | omega) | exact nF (by first | assumption | with_reducible rfl | omega))); (· exact hKm)) | (refine qA 20 je rfl rfl rfl rfl (by first | with_reducible rfl | assumption | exact Bool.not_false | exact Bool.not_true | exact dT (by first | assumption | with_reducible rfl | omega) | exact dF (by first | assumption | with_reducible rfl | omega) | exact eT (by first | assumption | with_reducible rfl | omega) | exact eF (by first | assumption | with_reducible rfl | omega) | exact nT (by first | assumption | with_reducible rfl | omega) | exact nF (by first | assumption | with_reducible rfl | omega) | exact xT (by first | assumption | exact dT (by first | assumption | with_reducible rfl | omega) | exact dF (by first | assumption | with_reducible rfl | omega) | exact eT (by first | assumption | with_reducible rfl | omega) | exact eF (by first | assumption | with_reducible rfl | omega) | exact nT (by first | assumption | with_reducible rfl | omega) | exact nF (by first | assumption | with_reducible rfl | omega)) | exact xF (by first | assumption | exact dT (by first | assumption | with_reducible rfl | omega) | exact dF (by first | assumption | with_reducible rfl | omega) | exact eT (by first | assumption | with_reducible rfl | omega) | exact eF (by first | assumption | with_reducible rfl | omega) | exact nT (by first | assumption | with_reducible rfl | omega) | exact nF (by first | assumption | with_reducible rfl | omega))) (jc je rfl (uw [.int .u8 y.v.vd.code, .slice y1 y.v.vd.sets.length yc1, .slice y2 y.v.vd.soa.length yc2] [.int .u8 r.1.code, .slice x1 r.1.sets.length xc1, .slice x2 r.1.soa.length xc2] y.v.vd r.1 (jQ _ _ _ _ hKr hyB.is) (jQ _ _ _ _ hKr hvd))) ?_; rintro _ _ ⟨rfl, rfl⟩; refine ⟨Or.inr hKm, ?_⟩)
       refine tkQ 21 ?_
       refine tkQ 22 ?_
       refine tdQ ?_
       repeat (first | refine goA ?_ | (refine jO ?_; intro bNew) | (refine jS ?_; intro bLit))
       refine jw (zq etO rfl rfl hB4 (VW hbd) jd (by decide)) rfl ?_
       rintro _ _ ⟨a8, c8, B8, rfl, hB8, rfl⟩
       rw [← hf] at hB8 ⊢
       repeat (first | refine goA ?_ | (refine jO ?_; intro bNew) | (refine jS ?_; intro bLit))
       refine jh (i + 1, a8, c8, B8) ⟨hil, fun h => absurd h (by simp [hr4]), hB8⟩ ?_ (fun w h => h) (by dsimp only; omega)
       exact jr
 · have hres : (if r.2.2.2 = true then kI ((vs.filter fun x => !decide (x.vd = r.1)).map (·.up)) else []) = kI (((Vd.votesB (l.take i)).filter fun x => !decide (x.vd = r.1)).map (·.up)) := by
    cases hr4 : r.2.2.2 with
    | true =>
      have hie : i = l.length := by
       by_cases h : i < l.length
       · exact absurd ⟨h, hr4⟩ hgo
       · omega
      rw [if_pos rfl, hie, List.take_length, hvs]
    | false =>
      rw [hz0 hr4]
      rfl
   rw [hres]
   by_cases hil : i < l.length
   · have hr4 : r.2.2.2 = false := by
      cases h : r.2.2.2 with
      | true => exact absurd ⟨hil, h⟩ hgo
      | false => rfl
     repeat (first | refine goA ?_ | (refine jO ?_; intro bNew) | (refine jS ?_; intro bLit))
     refine jw (jc je rfl (Ua _ _ (hB4.sliceR (uf _) (by simp) jf) jd)) rfl ?_
     rintro _ _ ⟨aR, cR, BR, rfl, hBR, rfl⟩
     repeat (first | refine goA ?_ | (refine jO ?_; intro bNew) | (refine jS ?_; intro bLit))
     refine jJ (L' := BR ++ L) ?_ jn
     refine ji 2 _ rfl rfl ?_
     exact ⟨aR, cR, BR, rfl, hBR, rfl⟩
   · repeat (first | refine goA ?_ | (refine jO ?_; intro bNew) | (refine jS ?_; intro bLit))
     refine jw (jc je rfl (Ua _ _ (hB4.sliceR (uf _) (by simp) jf) jd)) rfl ?_
     rintro _ _ ⟨aR, cR, BR, rfl, hBR, rfl⟩
     repeat (first | refine goA ?_ | (refine jO ?_; intro bNew) | (refine jS ?_; intro bLit))
     refine jJ (L' := BR ++ L) ?_ jn
     refine ji 2 _ rfl rfl ?_
     exact ⟨aR, cR, BR, rfl, hBR, rfl⟩
end
section
open Go.RowKit
open Vd (RSet Vdt Vote Rec Quest Piece Ballot)
variable {G : World} {L : ja}
theorem Zb {l : List Ballot} {i : Nat} {y : Ballot} (hy : l[i]? = some y) (vs : List Vote) : (Vd.votesB (l.take (i + 1))).foldl (fun m x => max m ((jR vs x.vd).length : Int)) 0 = if y.pass then (Vd.votesB (l.take i)).foldl (fun m x => max m ((jR vs x.vd).length : Int)) 0 else max ((Vd.votesB (l.take i)).foldl (fun m x => max m ((jR vs x.vd).length : Int)) 0) ((jR vs y.v.vd).length : Int) := by
 rw [qD hy]
 split
 · rfl
 · rw [List.foldl_append]; rfl
theorem adP {K : ja} (bb : Nat) (want : Int) (a : Option Addr) (c : Nat) (l : List Ballot) (hm : (bb, Obj.cells #[.int .i64 want, .slice a l.length c] 200 (0, 0)) ∈ L) (hl : sliceR 6 (fun _ => ballotR K) L [.slice a l.length c] l) (hK : ∀ p ∈ K, p ∈ L) (hn : l.length ≤ 1000) :
 Spec Tryz.prog G 139 #[.pointer (some ⟨bb, 0, none⟩)] L fun u M => u = .int .i64 (qO (Vd.votesB l)) ∧ M = L := by
 have hcap := (sliceR.cut hl).2
 unfold maxLen at hcap
 obtain ⟨hcap1, hcap2, _⟩ := hcap
 obtain ⟨vs, hvs⟩ : ∃ vs, Vd.votesB l = vs := ⟨_, rfl⟩
 have hvl := j7 l
 rw [hvs] at hvl ⊢
 obtain ⟨F, hF⟩ : ∃ F : Nat → Int, ∀ i, (Vd.votesB (l.take i)).foldl (fun m x => max m ((jR vs x.vd).length : Int)) 0 = F i := ⟨_, fun _ => rfl⟩
 have hFb : ∀ i, 0 ≤ F i ∧ F i ≤ 1000 := fun i => by
  rw [← hF i]
  have h1 := (most_le (vs := vs) (ws := Vd.votesB (l.take i)) (n := 0)).1 (Int.le_refl _)
  refine ⟨h1.1, most_le.2 ⟨by omega, fun x _ => ?_⟩⟩
  have := List.length_filter_le (fun y => decide (y.vd = x.vd)) vs
  have h2 : (jR vs x.vd).length ≤ vs.length := this
  omega
 refine jm (n := 72) Tryz.func139 rfl rfl rfl ?_
 refine goA ?_
 refine jy (σ := Nat) (fun i => i ≤ l.length) (fun i => [(0, .pointer (some ⟨bb, 0, none⟩)), (3, .int .i64 (F i)), (4, .int .i64 (i : Nat))]) (fun _ => L) (fun i => l.length - i) 0 (Nat.zero_le _) ?_ (fun w h => h) ?_
 · rw [← hF 0]
   exact jr
 rintro i hi
 by_cases hil : i < l.length
 · obtain ⟨y, hy⟩ : ∃ y, l[i]? = some y := ⟨_, List.getElem?_eq_getElem hil⟩
   obtain ⟨b1, o1, C1, t1, f1, rfl, m1, q1⟩ := Yb hl (by intro e; rw [e] at hil; simp at hil)
   obtain ⟨y1, yc1, y2, yc2, hyB⟩ := q1 i y hy
   have g5 := hyB.pass
   have hmf := Zb hy vs
   rw [hF, hF] at hmf
   obtain ⟨hF0, hF1⟩ := hFb i
   obtain ⟨hF2, hF3⟩ := hFb (i + 1)
   obtain ⟨N, hN⟩ : ∃ N : Nat → Nat, ∀ k, (if y.pass then 0 else (jR (Vd.votesB (l.take k)) y.v.vd).length) = N k := ⟨_, fun _ => rfl⟩
   have hNk : ∀ k, N k ≤ k := fun k => by
    rw [← hN k]
    split
    · omega
    · refine Nat.le_trans (List.length_filter_le _ _) (Nat.le_trans (j7 _) ?_)
      rw [List.length_take]
      omega
   refine goA ?_
   refine jy (σ := Nat) (fun k => k ≤ l.length) (fun k => [(0, .pointer (some ⟨bb, 0, none⟩)), (3, .int .i64 (F i)), (4, .int .i64 (i : Nat)), (5, .int .i64 (N k : Nat)), (6, .int .i64 (k : Nat))]) (fun _ => L) (fun k => l.length - k) 0 (Nat.zero_le _) ?_ (fun w h => h) ?_
   · have h0 : N 0 = 0 := by have := hNk 0; omega
     rw [h0]
     exact jr
   rintro k hk
   have hNk1 := hNk k
   by_cases hkl : k < l.length
   · obtain ⟨z, hz⟩ : ∃ z, l[k]? = some z := ⟨_, List.getElem?_eq_getElem hkl⟩
     obtain ⟨z1, zc1, z2, zc2, hzB⟩ := q1 k z hz
     have gz5 := hzB.pass
     have htz := qD hz
     have hKm : ∀ q ∈ [(bb, Obj.cells #[.int .i64 want, .slice (some ⟨b1, o1, none⟩) l.length c] 200 (0, 0)), (b1, Obj.cells C1 t1 f1)], q ∈ L := by
      intro q hq
      simp only [List.mem_cons, List.not_mem_nil, or_false] at hq
      rcases hq with rfl | rfl
      · exact hm
      · exact m1
     cases hp : y.pass with
     | true =>
       rw [hp] at g5
       have hNe : N (k + 1) = N k := by rw [← hN, ← hN, hp]; rfl
       refine goA ?_
       refine jq jb ([(bb, Obj.cells #[.int .i64 want, .slice (some ⟨b1, o1, none⟩) l.length c] 200 (0, 0)), (b1, Obj.cells C1 t1 f1)]) [] ?_
       refine tkQ 0 ?_
       refine tkQ 1 ?_
       refine tkQ 2 ?_
       refine tkQ 3 ?_
       refine tkQ 4 ?_
       refine tkQ 5 ?_
       refine tkQ 6 ?_
       refine tkQ 7 ?_
       refine tkQ 8 ?_
       refine tkQ 9 ?_
       refine tkQ 10 ?_
       refine tkQ 11 ?_
       refine tkQ 12 ?_
       refine tkQ 13 ?_
       refine tkQ 14 ?_
       refine tkQ 15 ?_
       refine tkQ 16 ?_
       refine tkQ 17 ?_
       refine tkQ 18 ?_
       refine tkQ 19 ?_
       refine tkQ 20 ?_
       refine tkQ 21 ?_
       refine tkQ 22 ?_
       refine tkQ 23 ?_
       refine tkQ 24 ?_
       refine tkQ 25 ?_
       refine tkQ 26 ?_
       refine tkQ 27 ?_
       refine tkQ 28 ?_
       refine tkQ 30 ?_
       refine tkQ 31 ?_
       refine tkQ 32 ?_
       refine tkQ 33 ?_
       refine tkQ 34 ?_
       refine tkQ 35 ?_
       refine tkQ 36 ?_
       refine tkQ 37 ?_
       refine tkQ 29 ?_
       refine tkQ 38 ?_
       refine tkQ 39 ?_
       refine tkQ 40 ?_
       refine tdQ ?_
       refine goA ?_
       refine jh (k + 1) hkl ?_ (fun w h => h) jd
       rw [hNe]
       exact jr
     | false =>
       rw [hp] at g5
       cases hzp : z.pass with
       | true =>
         rw [hzp] at gz5
         rw [hzp, if_pos rfl] at htz
         have hNe : N (k + 1) = N k := by rw [← hN, ← hN, htz]
         refine goA ?_
         refine jq jb ([(bb, Obj.cells #[.int .i64 want, .slice (some ⟨b1, o1, none⟩) l.length c] 200 (0, 0)), (b1, Obj.cells C1 t1 f1)]) [] ?_
         refine tkQ 0 ?_
         refine tkQ 1 ?_
         refine tkQ 2 ?_
         refine tkQ 3 ?_
         refine tkQ 4 ?_
         refine tkQ 5 ?_
         refine tkQ 6 ?_
         refine tkQ 7 ?_
         refine tkQ 8 ?_
         refine tkQ 9 ?_
         refine tkQ 10 ?_
         refine tkQ 11 ?_
         refine tkQ 12 ?_
         refine tkQ 13 ?_
         refine tkQ 14 ?_
         refine tkQ 15 ?_
         refine tkQ 16 ?_
         refine tkQ 17 ?_
         refine tkQ 18 ?_
         refine tkQ 19 ?_
         refine tkQ 20 ?_
         refine tkQ 21 ?_
         refine tkQ 22 ?_
         refine tkQ 23 ?_
         refine tkQ 24 ?_
         refine tkQ 25 ?_
         refine tkQ 26 ?_
         refine tkQ 27 ?_
         refine tkQ 28 ?_
         refine tkQ 30 ?_
         refine tkQ 31 ?_
         refine tkQ 32 ?_
         refine tkQ 33 ?_
         refine tkQ 34 ?_
         refine tkQ 35 ?_
         refine tkQ 36 ?_
         refine tkQ 37 ?_
         refine tkQ 29 ?_
         refine tkQ 38 ?_
         refine tkQ 39 ?_
         refine tkQ 40 ?_
         refine tdQ ?_
         refine goA ?_
         refine jh (k + 1) hkl ?_ (fun w h => h) jd
         rw [hNe]
         exact jr
       | false =>
         rw [hzp] at gz5
         rw [hzp, if_neg (by simp)] at htz
         have hws := zS (Vd.votesB (l.take k)) z.v y.v.vd
         rw [← htz] at hws
         by_cases hyz : y.v.vd = z.v.vd
         · rw [if_pos hyz.symm] at hws
           have hNe : ((N (k + 1) : Nat) : Int) = (N k : Nat) + 1 := by rw [← hN, ← hN, hp, hws]; simp
           have hd0 : decide (y.v.vd = z.v.vd) = true := decide_eq_true hyz
           refine goA ?_
           refine jq jb ([(bb, Obj.cells #[.int .i64 want, .slice (some ⟨b1, o1, none⟩) l.length c] 200 (0, 0)), (b1, Obj.cells C1 t1 f1)]) [] ?_
           refine tkQ 0 ?_
           refine tkQ 1 ?_
           refine tkQ 2 ?_
           refine tkQ 3 ?_
           refine tkQ 4 ?_
           refine tkQ 5 ?_
           refine tkQ 6 ?_
           refine tkQ 7 ?_
           refine tkQ 8 ?_
           refine tkQ 9 ?_
           refine tkQ 10 ?_
           refine tkQ 11 ?_
           refine tkQ 12 ?_
           refine tkQ 13 ?_
           refine tkQ 14 ?_
           refine tkQ 15 ?_
           refine tkQ 16 ?_
           refine tkQ 17 ?_
           refine tkQ 18 ?_
           refine tkQ 19 ?_
           refine tkQ 20 ?_
           refine tkQ 21 ?_
           refine tkQ 22 ?_
           refine tkQ 23 ?_
           refine tkQ 24 ?_
           refine tkQ 25 ?_
           refine tkQ 26 ?_
           refine tkQ 27 ?_
           refine tkQ 28 ?_
           refine tkQ 30 ?_
           refine tkQ 31 ?_
           refine tkQ 32 ?_
           refine tkQ 33 ?_
           refine tkQ 34 ?_
           refine tkQ 35 ?_
           refine tkQ 36 ?_
           refine tkQ 37 ?_
           (refine jp 29 rfl rfl je (kd rfl rfl (by exact Bool.not_false) (jA [.int .u8 y.v.vd.code, .slice y1 y.v.vd.sets.length yc1, .slice y2 y.v.vd.soa.length yc2] rfl stL (List.mem_cons_of_mem _ (List.mem_cons_self ..)) hyB.vd)) ?_ ?_; (· exact hKm))
           (refine jp 38 rfl rfl je (kd rfl rfl (by exact Bool.not_false) (jA [.int .u8 z.v.vd.code, .slice z1 z.v.vd.sets.length zc1, .slice z2 z.v.vd.soa.length zc2] rfl stL (List.mem_cons_of_mem _ (List.mem_cons_self ..)) hzB.vd)) ?_ ?_; (· exact hKm))
           (refine qA 39 je rfl rfl rfl rfl (by exact Bool.not_false) (jc je rfl (uw [.int .u8 y.v.vd.code, .slice y1 y.v.vd.sets.length yc1, .slice y2 y.v.vd.soa.length yc2] [.int .u8 z.v.vd.code, .slice z1 z.v.vd.sets.length zc1, .slice z2 z.v.vd.soa.length zc2] y.v.vd z.v.vd (jQ _ _ _ _ hK hyB.is) (jQ _ _ _ _ hK hzB.is))) ?_; rintro _ _ ⟨rfl, rfl⟩; refine ⟨Or.inr hKm, ?_⟩)
           refine tkQ 40 ?_
           refine tdQ ?_
           refine goA ?_
           refine jh (k + 1) hkl ?_ (fun w h => h) jd
           rw [hNe]
           exact jr
         · rw [if_neg (fun e => hyz e.symm)] at hws
           have hNe : N (k + 1) = N k := by rw [← hN, ← hN, hws]
           have hd0 : decide (y.v.vd = z.v.vd) = false := decide_eq_false hyz
           refine goA ?_
           refine jq jb ([(bb, Obj.cells #[.int .i64 want, .slice (some ⟨b1, o1, none⟩) l.length c] 200 (0, 0)), (b1, Obj.cells C1 t1 f1)]) [] ?_
           refine tkQ 0 ?_
           refine tkQ 1 ?_
           refine tkQ 2 ?_
           refine tkQ 3 ?_
           refine tkQ 4 ?_
           refine tkQ 5 ?_
           refine tkQ 6 ?_
           refine tkQ 7 ?_
           refine tkQ 8 ?_
           refine tkQ 9 ?_
           refine tkQ 10 ?_
           refine tkQ 11 ?_
           refine tkQ 12 ?_
           refine tkQ 13 ?_
           refine tkQ 14 ?_
           refine tkQ 15 ?_
           refine tkQ 16 ?_
           refine tkQ 17 ?_
           refine tkQ 18 ?_
           refine tkQ 19 ?_
           refine tkQ 20 ?_
           refine tkQ 21 ?_
           refine tkQ 22 ?_
           refine tkQ 23 ?_
           refine tkQ 24 ?_
           refine tkQ 25 ?_
           refine tkQ 26 ?_
           refine tkQ 27 ?_
           refine tkQ 28 ?_
           refine tkQ 30 ?_
           refine tkQ 31 ?_
           refine tkQ 32 ?_
           refine tkQ 33 ?_
           refine tkQ 34 ?_
           refine tkQ 35 ?_
           refine tkQ 36 ?_
           refine tkQ 37 ?_
           (refine jp 29 rfl rfl je (kd rfl rfl (by exact Bool.not_false) (jA [.int .u8 y.v.vd.code, .slice y1 y.v.vd.sets.length yc1, .slice y2 y.v.vd.soa.length yc2] rfl stL (List.mem_cons_of_mem _ (List.mem_cons_self ..)) hyB.vd)) ?_ ?_; (· exact hKm))
           (refine jp 38 rfl rfl je (kd rfl rfl (by exact Bool.not_false) (jA [.int .u8 z.v.vd.code, .slice z1 z.v.vd.sets.length zc1, .slice z2 z.v.vd.soa.length zc2] rfl stL (List.mem_cons_of_mem _ (List.mem_cons_self ..)) hzB.vd)) ?_ ?_; (· exact hKm))
           (refine qA 39 je rfl rfl rfl rfl (by exact Bool.not_false) (jc je rfl (uw [.int .u8 y.v.vd.code, .slice y1 y.v.vd.sets.length yc1, .slice y2 y.v.vd.soa.length yc2] [.int .u8 z.v.vd.code, .slice z1 z.v.vd.sets.length zc1, .slice z2 z.v.vd.soa.length zc2] y.v.vd z.v.vd (jQ _ _ _ _ hK hyB.is) (jQ _ _ _ _ hK hzB.is))) ?_; rintro _ _ ⟨rfl, rfl⟩; refine ⟨Or.inr hKm, ?_⟩)
           refine tkQ 40 ?_
           refine tdQ ?_
           refine goA ?_
           refine jh (k + 1) hkl ?_ (fun w h => h) jd
           rw [hNe]
           exact jr
   · have hke : k = l.length := by omega
     subst hke
     have hFe : F (i + 1) = max (F i) (N l.length : Nat) := by
      rw [hmf, ← hN, List.take_length, hvs]
      split
      · simp; omega
      · rfl
     refine goA ?_
     refine jh (i + 1) hil ?_ (fun w h => h) jd
     rw [hFe]
     exact jr
 · have hie : i = l.length := by omega
   subst hie
   have hR : F l.length = qO vs := by rw [← hF, List.take_length, hvs]; rfl
   rw [hR]
   refine goA ?_
   refine ji 2 _ rfl rfl ?_
   exact ⟨rfl, rfl⟩
theorem adQ {K : ja} (bb : Nat) (want : Int) (a : Option Addr) (c : Nat) (l : List Ballot) (B : ja) (u : Int) (hB : ORow ballotR 225 6 K a c l B) (hu : -9223372036854775808 ≤ u ∧ u ≤ 9223372036854775807) (hn : l.length ≤ 100000) :
 Spec Tryz.prog G 93 #[.pointer (some ⟨bb, 0, none⟩), .int .i64 u] ((bb, Obj.cells #[.int .i64 want, .slice a l.length c] 200 (0, 0)) :: (B ++ L)) fun w M => w = .int .i64 (Vd.putB l ⟨⟨u, Vdt.none, 0⟩, true⟩).2 ∧ ∃ a' c' B', ORow ballotR 225 6 K a' c' (Vd.putB l ⟨⟨u, Vdt.none, 0⟩, true⟩).1 B' ∧ M = (bb, Obj.cells #[.int .i64 want, .slice a' (Vd.putB l ⟨⟨u, Vdt.none, 0⟩, true⟩).1.length c'] 200 (0, 0)) :: (B' ++ L) := by
 refine jm (n := 10) Tryz.func93 rfl rfl rfl ?_
 repeat (first | refine goA ?_ | refine jB (jl rfl (WA _)) rfl ?_ | refine jB (jl rfl (QJ _ _ _ _ _ _)) rfl ?_)
 refine jw (jc je rfl (abT bb want a c l B [.int .i64 u, .int .u8 0, .slice none 0 0, .slice none 0 0, .int .u32 0, .bool true] ⟨⟨u, Vdt.none, 0⟩, true⟩ hB ⟨none, 0, none, 0, rfl, ⟨_, _, rfl, sliceR.nil, sliceR.nil, ⟨Int.le_refl _, by show (0 : Int) ≤ 255; decide⟩, ⟨Int.le_refl _, by show (0 : Int) ≤ 4294967295; decide⟩, hu⟩⟩ hn)) rfl ?_
 rintro _ _ ⟨rfl, a', c', B', hB', rfl⟩
 refine goA ?_
 refine ji 4 _ rfl rfl ?_
 exact ⟨rfl, a', c', B', hB', rfl⟩
theorem ae4 (want : Int) : Spec Tryz.prog G 87 #[.int .i64 want] L fun u M => (1 ≤ want ∧ want ≤ 9 ∧ ∃ bb, u = .tuple #[.pointer (some ⟨bb, 0, none⟩), .int .i64 0] ∧ M = (bb, Obj.cells #[.int .i64 want, .slice none ([] : List Ballot).length 0] 200 (0, 0)) :: L) ∨ ((want < 1 ∨ 9 < want) ∧ u = .tuple #[.pointer none, .int .i64 1] ∧ M = L) := by
 refine jm (n := 13) Tryz.func87 rfl rfl rfl ?_
 by_cases h1 : want < 1
 · refine goA ?_
   refine jM 2 3 _ _ rfl rfl rfl ?_
   exact Or.inr ⟨Or.inl h1, rfl, rfl⟩
 · by_cases h9 : 9 < want
   · refine goA ?_
     refine jM 2 3 _ _ rfl rfl rfl ?_
     exact Or.inr ⟨Or.inr h9, rfl, rfl⟩
   · repeat (first | refine goA ?_ | (refine kl ?_; intro bBox) | refine jB (jl rfl (Wz _)) rfl ?_)
     refine jM 2 3 _ _ rfl rfl rfl ?_
     exact Or.inl ⟨by omega, by omega, _, rfl, rfl⟩
theorem ae5 (want : Int) : Spec Tryz.prog G 41 #[.int .i64 want] L fun u M => (1 ≤ want ∧ want ≤ 9 ∧ ∃ bb, u = .tuple #[.pointer (some ⟨bb, 0, none⟩), .int .i64 0] ∧ M = (bb, Obj.cells (kz want (jz []) (.slice none (Vd.votesB []).length 0)).toArray 165 (0, 0)) :: L) ∨ ((want < 1 ∨ 9 < want) ∧ u = .tuple #[.pointer none, .int .i64 1] ∧ M = L) := by
 refine jm (n := 13) Tryz.func41 rfl rfl rfl ?_
 by_cases h1 : want < 1
 · refine goA ?_
   refine jM 2 3 _ _ rfl rfl rfl ?_
   exact Or.inr ⟨Or.inl h1, rfl, rfl⟩
 · by_cases h9 : 9 < want
   · refine goA ?_
     refine jM 2 3 _ _ rfl rfl rfl ?_
     exact Or.inr ⟨Or.inr h9, rfl, rfl⟩
   · repeat (first | refine goA ?_ | (refine kl ?_; intro bBox) | refine jB (jl rfl (Wx _)) rfl ?_)
     refine jM 2 3 _ _ rfl rfl rfl ?_
     exact Or.inl ⟨by omega, by omega, _, rfl, rfl⟩
end
section
open Go.RowKit
open Vd (RSet Vdt Vote Rec Quest Piece Ballot)
variable {G : World} {L : ja}
theorem adR {K : ja} (bb : Nat) (want : Int) (a : Option Addr) (c : Nat) (l : List Ballot) (hm : (bb, Obj.cells #[.int .i64 want, .slice a l.length c] 200 (0, 0)) ∈ L) (hl : sliceR 6 (fun _ => ballotR K) L [.slice a l.length c] l) (hn : l.length ≤ 1000) :
 Spec Tryz.prog G 61 #[.pointer (some ⟨bb, 0, none⟩)] L fun u M => ∃ b2 a' c' B', u = .pointer (some ⟨b2, 0, none⟩) ∧ ORow ballotR 225 6 K a' c' l B' ∧ M = (b2, Obj.cells #[.int .i64 want, .slice a' l.length c'] 200 (0, 0)) :: (B' ++ L) := by
 have hKm : ∀ q ∈ [(bb, Obj.cells #[.int .i64 want, .slice a l.length c] 200 (0, 0))], q ∈ L := by
  intro q hq
  rw [List.mem_singleton.1 hq]
  exact hm
 refine jm (n := 15) Tryz.func61 rfl rfl rfl ?_
 repeat (first | refine goA ?_ | (refine kl ?_; intro bBox) | refine jB (jl rfl (yz _ _ _ _)) rfl ?_ | (refine jS ?_; intro bLit))
 refine jq jb ([(bb, Obj.cells #[.int .i64 want, .slice a l.length c] 200 (0, 0))]) [] ?_
 refine tkQ 0 ?_
 refine tkQ 1 ?_
 refine tkQ 2 ?_
 refine tkQ 3 ?_
 refine tkQ 5 ?_
 refine tkQ 6 ?_
 refine tkQ 7 ?_
 refine tkQ 8 ?_
 refine jF 4 je rfl rfl rfl rfl (yw etO) ?_; rintro _ _ ⟨b0, rfl, rfl⟩; refine ⟨Or.inr (fun q hq => List.mem_cons_of_mem _ (hKm q hq)), ?_⟩
 refine j6 (L' := [(b0, Obj.cells #[] 225 (0, 0))] ++ L) ?_ jn; refine jF 9 je rfl rfl rfl rfl (kP (r := fun _ => ballotR K) (L0 := L) (l := []) (m := l) etO rfl rfl rfl rfl ORow.made hl (fun q hq => hq) j3 (fun cs y h => ballotR.one h) (by simp; omega) (by decide)) ?_; rintro _ _ ⟨a3, c3, B3, rfl, hB3, rfl⟩; refine ⟨Or.inr (fun q hq => List.mem_append_right _ (hKm q hq)), ?_⟩
 first | (refine' jp 10 rfl rfl je (jL (jl rfl (yz _ _ _ _))) ?_ ?_; (· first | assumption | (intro p hp; grind)))
 refine jF 11 je rfl rfl rfl rfl (kF rfl) ?_; rintro _ _ ⟨b2, rfl, rfl⟩; refine ⟨Or.inr (fun q hq => List.mem_cons_of_mem _ (List.mem_append_right _ (hKm q hq))), ?_⟩
 refine tkQ 12 ?_
 refine tdQ ?_
 repeat (first | refine goA ?_ | (refine kl ?_; intro bBox) | refine jB (jl rfl (yz _ _ _ _)) rfl ?_ | (refine jS ?_; intro bLit))
 rw [List.nil_append] at hB3 ⊢
 refine ji 2 _ rfl rfl ?_
 exact ⟨b2, a3, c3, B3, rfl, hB3.imp (fun cs x _ h => h), rfl⟩
theorem aaK {w : Int} {m c : Nat} {ad : Option Addr} {v0 v1 v2 v3 v4 v5 v6 v7 v8 v9 v10 v11 v12 v13 v14 v15 v16 v17 : Value} : Built Tryz.prog 165 [(0, .int .i64 w), (1, .agg #[v0, v1, v2, v3, v4, v5, v6, v7, v8, v9, v10, v11, v12, v13, v14, v15, v16, v17]), (2, .slice ad m c)] (.agg #[.int .i64 w, v0, v1, v2, v3, v4, v5, v6, v7, v8, v9, v10, v11, v12, v13, v14, v15, v16, v17, .slice ad m c]) := ⟨fun w => by kernel_rfl⟩
theorem adS {K : ja} (bb : Nat) (want : Int) (l : List Ballot) (M0 : ja) (hb : TBox K bb want l M0) (hK : ∀ p ∈ K, p ∈ L) (hn : l.length ≤ 9) (hs : ∀ x ∈ Vd.votesB l, SmV x.vd) :
 Spec Tryz.prog G 51 #[.pointer (some ⟨bb, 0, none⟩)] (M0 ++ L) fun u M => ∃ b2 M2 N, u = .pointer (some ⟨b2, 0, none⟩) ∧ TBox N b2 want l M2 ∧ Wr N ∧ M = M2 ++ (N ++ (M0 ++ L)) := by
 obtain ⟨a, c, B, hB, rfl⟩ := hb
 have hvl := j7 l
 have g0 : (kz want (jz l) (.slice a (Vd.votesB l).length c)).toArray[0 + 0]? = some (.int .i64 want) := rfl
 have g19 : (kz want (jz l) (.slice a (Vd.votesB l).length c)).toArray[0 + 19]? = some (.slice a (Vd.votesB l).length c) := rfl
 have hv : sliceR 5 voteR ((bb, Obj.cells (kz want (jz l) (.slice a (Vd.votesB l).length c)).toArray 165 (0, 0)) :: (B ++ L)) [.slice a (Vd.votesB l).length c] (Vd.votesB l) := (hB.mono qf (fun p hp => List.mem_cons_of_mem _ (List.mem_append_right _ (hK p hp)))).sliceR qf (fun p h => h) jf
 have hKm : ∀ q ∈ [(bb, Obj.cells (kz want (jz l) (.slice a (Vd.votesB l).length c)).toArray 165 (0, 0))], q ∈ ((bb, Obj.cells (kz want (jz l) (.slice a (Vd.votesB l).length c)).toArray 165 (0, 0)) :: B) ++ L := by
  intro q hq
  rw [List.mem_singleton.1 hq]
  simp
 refine jm (n := 20) Tryz.func51 rfl rfl rfl ?_
 repeat (first | refine goA ?_ | (refine kl ?_; intro bBox) | refine jB (jl rfl (bl_165_0_1_2 )) rfl ?_)
 refine jq jb ([(bb, Obj.cells (kz want (jz l) (.slice a (Vd.votesB l).length c)).toArray 165 (0, 0))]) [] ?_
 refine tkQ 0 ?_
 refine tkQ 1 ?_
 refine tkQ 2 ?_
 refine tkQ 3 ?_
 refine tkQ 4 ?_
 refine tkQ 5 ?_
 refine tkQ 6 ?_
 first | (refine' jp 7 rfl rfl je (jL (Jz (kQ (jz l)) rfl unO je (List.mem_cons_self ..) JC)) ?_ ?_; (· first | assumption | (intro p hp; grind)))
 refine tkQ 8 ?_
 refine tkQ 9 ?_
 refine tkQ 10 ?_
 refine tkQ 11 ?_
 refine jF 12 je rfl rfl rfl rfl (jc je rfl (Jv _ (Vd.votesB l) hv jd hs)) ?_; rintro _ _ ⟨a2, c2, B2, N, rfl, hB2, hN, rfl⟩; refine ⟨Or.inr (fun q hq => List.mem_append_right _ (List.mem_append_right _ (hKm q hq))), ?_⟩
 first | (refine' jp 13 rfl rfl je (jL (jl rfl aaK)) ?_ ?_; (· first | assumption | (intro p hp; grind)))
 refine jF 14 je rfl rfl rfl rfl (kF rfl) ?_; rintro _ _ ⟨b2, rfl, rfl⟩; refine ⟨Or.inr (fun q hq => List.mem_cons_of_mem _ (List.mem_append_right _ (List.mem_append_right _ (hKm q hq)))), ?_⟩
 refine tkQ 15 ?_
 refine tdQ ?_
 repeat (first | refine goA ?_ | (refine kl ?_; intro bBox) | refine jB (jl rfl (bl_165_0_1_2 )) rfl ?_)
 refine ji 2 _ rfl rfl ?_
 exact ⟨b2, _, N, rfl, ⟨a2, c2, B2, hB2, rfl⟩, hN, rfl⟩
end
end Go.Proofs.YtbjkkoacclfejaaGreat
