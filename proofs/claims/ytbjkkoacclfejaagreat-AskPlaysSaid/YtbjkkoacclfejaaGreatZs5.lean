/-
 Part 5: Go Gp Kb Kc Kd Ke Kf Kg Kh Ki Gq Gr Gs Gu Kj Kl.
-/
import Derived.Test.YtbjkkoacclfejaaGreatZs4
import Derived.Test.YtbjkkoacclfejaaGreatZs2
import Derived.Test.YtbjkkoacclfejaaGreatZs1
import Derived.Test.YtbjkkoacclfejaaGreatZs3
import Derived.Test.YtbjkkoacclfejaaGreatShelf
import Derived.Sort.OwnSorted
import Derived.Sort.OwnSortedInts
set_option maxRecDepth 100000
set_option maxHeartbeats 4000000
set_option linter.unusedVariables false
set_option linter.unusedSimpArgs false
namespace Go.Proofs.YtbjkkoacclfejaaGreat
section
open Go.RowKit
open Vd (RSet Vdt Vote Rec Quest Piece Ballot)
def ballotR : Rp Ballot := fun L cs x => ∃ a1 c1 a2 c2, cs = [.int .i64 x.v.up, .int .u8 x.v.vd.code, .slice a1 x.v.vd.sets.length c1, .slice a2 x.v.vd.soa.length c2, .int .u32 x.v.time, .bool x.pass] ∧ voteR L [.int .i64 x.v.up, .int .u8 x.v.vd.code, .slice a1 x.v.vd.sets.length c1, .slice a2 x.v.vd.soa.length c2, .int .u32 x.v.time] x.v
theorem W1 : uZ ballotR := fun L L' cs x hL ⟨a1, c1, a2, c2, h1, h2⟩ => ⟨a1, c1, a2, c2, h1, qf L L' _ _ hL h2⟩
theorem voteR.vals {L : ja} {cs : List Value} {v : Vote} (h : voteR L cs v) : ∃ a1 c1 a2 c2, cs = [.int .i64 v.up, .int .u8 v.vd.code, .slice a1 v.vd.sets.length c1, .slice a2 v.vd.soa.length c2, .int .u32 v.time] ∧ sliceR 5 rsR L [.slice a1 v.vd.sets.length c1] v.vd.sets ∧ sliceR 5 rsR L [.slice a2 v.vd.soa.length c2] v.vd.soa ∧ (0 ≤ v.vd.code ∧ v.vd.code ≤ 255) ∧ (0 ≤ v.time ∧ v.time ≤ 4294967295) ∧ (-9223372036854775808 ≤ v.up ∧ v.up ≤ 9223372036854775807) := by
 obtain ⟨a, b, rfl, h1, h2, h3⟩ := h
 obtain ⟨a1, c1, e1, h1⟩ := h1.val
 obtain ⟨a2, c2, e2, h2⟩ := h2.val
 simp only [List.cons.injEq, and_true] at e1 e2
 subst e1 e2
 exact ⟨a1, c1, a2, c2, rfl, h1, h2, h3⟩
theorem voteR.one {L : ja} {cs : List Value} {v : Vote} (h : voteR L cs v) : ∀ x ∈ cs, x.oneCell' = true := by
 obtain ⟨a1, c1, a2, c2, rfl, _⟩ := h.vals
 intro x hx
 simp only [List.mem_cons, List.not_mem_nil, or_false] at hx
 rcases hx with rfl | rfl | rfl | rfl | rfl <;> rfl
theorem voteR.len {L : ja} {cs : List Value} {v : Vote} (h : voteR L cs v) : cs.length = 5 := by
 obtain ⟨a1, c1, a2, c2, rfl, _⟩ := h.vals
 rfl
theorem ballotR.one {L : ja} {cs : List Value} {x : Ballot} (h : ballotR L cs x) : ∀ v ∈ cs, v.oneCell' = true := by
 obtain ⟨a1, c1, a2, c2, rfl, _⟩ := h
 intro v hv
 simp only [List.mem_cons, List.not_mem_nil, or_false] at hv
 rcases hv with rfl | rfl | rfl | rfl | rfl | rfl <;> rfl
theorem ballotR.len {L : ja} {cs : List Value} {x : Ballot} (h : ballotR L cs x) : cs.length = 6 := by
 obtain ⟨a1, c1, a2, c2, rfl, _⟩ := h
 rfl
section
variable {G : World} {P : Program} {n : Nat} {ρ : jG} {L : ja} {Q : Exit → Act → World → Prop} {ops : Array Oper} {K : ja} {W : List Nat} {fuel : Nat} {listed : Array Bool}
theorem aeZ {i : Nat} {L' : ja} (h : Up P G ops n K W Q fuel listed ρ L' i) (hc : ∀ p, cnt p L' = cnt p L) : Up P G ops n K W Q fuel listed ρ L i := by
 obtain ⟨o, h1, h2, b, h3, h4⟩ := h
 refine ⟨o, h1, h2, b, h3, ?_⟩
 rcases h4 with ⟨hb, Φ, hO, hn⟩ | ⟨hb, hk, hn⟩
 · exact Or.inl ⟨hb, Φ, hO.heap (fun w hw => hw.cnt fun p => Nat.le_of_eq (hc p)), hn⟩
 · refine Or.inr ⟨hb, hk.imp id (fun h p hp => jW (fun q => Nat.le_of_eq (hc q)) p (h p hp)), ?_⟩
   exact j6 hn hc
end
section
variable {G : World} {P : Program} {ρ : jG} {L : ja} {ty : TypeId}
theorem zm {α : Type} {r : List Value → α → Prop} {s x : Operand} {t e te : TypeId} {sz bytes bl : Nat} {z : Value} {a : Option Addr} {c : Nat} {cs : List Value} {y : α} {l : List α} {B L0 : ja} (E : ElemTy P t e sz bytes z) (hs : ev ρ s = some (.slice a l.length c)) (hx : ev ρ x = some (.slice (some ⟨bl, 0, none⟩) 1 1))
 (hrow : ORow (fun _ => r) e sz L0 a c l B) (hn : cs.length = sz) (hone : ∀ v ∈ cs, v.oneCell' = true) (hy : r cs y) (h63 : l.length ≤ 1000000) (hb : bytes ≤ 1000) :
 OpT P G ρ ((bl, .cells cs.toArray te (0, 0)) :: (B ++ L)) (.call ⟨.builtin .append, #[s, x], #[t, t]⟩) ty fun v' L' => ∃ a' c' B', v' = .slice a' (l ++ [y]).length c' ∧ ORow (fun _ => r) e sz L0 a' c' (l ++ [y]) B' ∧ L' = B' ++ L :=
 uv (r := fun _ => r) E hs hx hrow hn hone hy (by unfold maxLen; omega) (Nat.le_trans (Nat.mul_le_mul (show l.length + 1 ≤ 1000001 by omega) hb) (by decide))
end
variable {G : World} {L : ja}
theorem ae0 {K : ja} (bb : Nat) (want : Int) (a : Option Addr) (c : Nat) (l : List Ballot) (B : ja) (u : Int) (hB : ORow ballotR 225 6 K a c l B) :
 Spec Tryz.prog G 140 #[.pointer (some ⟨bb, 0, none⟩), .int .i64 u] ((bb, Obj.cells #[.int .i64 want, .slice a l.length c] 200 (0, 0)) :: (B ++ L)) fun w M => w = .bool (Vd.hasB l u) ∧ M = (bb, Obj.cells #[.int .i64 want, .slice a l.length c] 200 (0, 0)) :: (B ++ L) := by
 have hcap := hB.cap
 unfold maxLen at hcap
 refine jm (n := 26) Tryz.func140 rfl rfl rfl ?_
 refine goA ?_
 refine jy (σ := Nat) (fun k => k ≤ l.length ∧ Vd.hasB l u = Vd.hasB (l.drop k) u) (fun k => [(0, .pointer (some ⟨bb, 0, none⟩)), (1, .int .i64 u), (5, .int .i64 (k : Nat))]) (fun k => (bb, Obj.cells #[.int .i64 want, .slice a l.length c] 200 (0, 0)) :: (B ++ L)) (fun k => l.length - k) 0 ⟨Nat.zero_le _, rfl⟩ ?_ (fun w h => h) ?_
 exact jr
 rintro k ⟨hk, heq⟩
 by_cases hlt : k < l.length
 · obtain ⟨b2, cur, rfl, hBe, _, _, _, hcur⟩ := hB.block (fun e => by rw [e] at hlt; simp at hlt)
   obtain ⟨y, hy⟩ : ∃ y, l[k]? = some y := ⟨_, List.getElem?_eq_getElem hlt⟩
   obtain ⟨cs, _, ⟨a1, c1, a2, c2, rfl, _⟩, _, hcs⟩ := hcur k y hy
   have g0 : cur[0 + k * 6 + 0 + 0]? = some (.int .i64 y.v.up) := by rw [Nat.zero_add]; exact hcs 0 _ rfl
   have hmem : (b2, Obj.cells cur 225 (0, 0)) ∈ (bb, Obj.cells #[.int .i64 want, .slice (some ⟨b2, 0, none⟩) l.length c] 200 (0, 0)) :: (B ++ L) := by rw [hBe]; simp
   have hd : l.drop k = y :: l.drop (k + 1) := by rw [List.drop_eq_getElem_cons hlt]; congr 1; rw [List.getElem?_eq_getElem hlt] at hy; exact Option.some.inj hy
   rw [hd] at heq
   have heq2 : Vd.hasB (y :: l.drop (k + 1)) u = (y.v.up == u || Vd.hasB (l.drop (k + 1)) u) := rfl
   rw [heq2] at heq
   by_cases hyu : y.v.up = u
   · rw [eT hyu, Bool.true_or] at heq
     rw [heq]
     refine goA ?_
     refine ji 4 _ rfl rfl ?_
     exact ⟨rfl, rfl⟩
   · rw [eF hyu, Bool.false_or] at heq
     refine goA ?_
     refine jh (k + 1) ⟨hlt, heq⟩ ?_ (fun w h => h) jd
     exact jr
 · have hkn : k = l.length := by omega
   subst hkn
   rw [List.drop_length] at heq
   have h0 : Vd.hasB [] u = false := rfl
   rw [h0] at heq
   rw [heq]
   refine goA ?_
   refine ji 4 _ rfl rfl ?_
   exact ⟨rfl, rfl⟩
theorem abT {K : ja} (bb : Nat) (want : Int) (a : Option Addr) (c : Nat) (l : List Ballot) (B : ja) (cx : List Value) (x : Ballot) (hB : ORow ballotR 225 6 K a c l B) (hx : ballotR K cx x) (hn : l.length ≤ 100000) :
 Spec Tryz.prog G 122 #[.pointer (some ⟨bb, 0, none⟩), .agg cx.toArray] ((bb, Obj.cells #[.int .i64 want, .slice a l.length c] 200 (0, 0)) :: (B ++ L)) fun w M => w = .int .i64 (Vd.putB l x).2 ∧ ∃ a' c' B', ORow ballotR 225 6 K a' c' (Vd.putB l x).1 B' ∧ M = (bb, Obj.cells #[.int .i64 want, .slice a' (Vd.putB l x).1.length c'] 200 (0, 0)) :: (B' ++ L) := by
 have hx0 := hx
 obtain ⟨a1, c1, a2, c2, rfl, _, _, _, _, _, _, _, hup⟩ := hx0
 refine jm (n := 32) Tryz.func122 rfl rfl rfl ?_
 by_cases h0 : x.v.up < 0 ∨ 9 ≤ x.v.up
 · have hp : Vd.putB l x = (l, 1) := if_pos h0
   rw [hp]
   rcases h0 with h0 | h0
   · repeat (first | refine goA ?_ | (refine kl ?_; intro bBox) | (refine jS ?_; intro bLit))
     refine ju (fun w h => h.tail) ?_
     refine ji 4 _ rfl rfl ?_
     exact ⟨rfl, a, c, B, hB, rfl⟩
   · repeat (first | refine goA ?_ | (refine kl ?_; intro bBox) | (refine jS ?_; intro bLit))
     refine ju (fun w h => h.tail) ?_
     refine ji 4 _ rfl rfl ?_
     exact ⟨rfl, a, c, B, hB, rfl⟩
 · have hp : Vd.putB l x = if Vd.hasB l x.v.up then (l, 7) else (l ++ [x], 0) := if_neg h0
   rw [hp]
   repeat (first | refine goA ?_ | (refine kl ?_; intro bBox) | (refine jS ?_; intro bLit))
   refine jw (OpT.heap (L' := (bb, Obj.cells #[.int .i64 want, .slice a l.length c] 200 (0, 0)) :: (B ++ ((bBox, Obj.cells #[.int .i64 x.v.up, .int .u8 x.v.vd.code, .slice a1 x.v.vd.sets.length c1, .slice a2 x.v.vd.soa.length c2, .int .u32 x.v.time, .bool x.pass] 225 (0, 0)) :: L))) (fun w h => h.cnt jn) (jc je rfl (ae0 bb want a c l B x.v.up hB))) rfl ?_
   rintro _ _ ⟨rfl, rfl⟩
   cases hh : Vd.hasB l x.v.up with
   | true =>
     rw [if_pos rfl]
     repeat (first | refine goA ?_ | (refine kl ?_; intro bBox) | (refine jS ?_; intro bLit))
     refine ju (fun w h => h.cnt (L' := (bb, Obj.cells #[.int .i64 want, .slice a l.length c] 200 (0, 0)) :: (B ++ L)) jn) ?_
     refine ji 4 _ rfl rfl ?_
     exact ⟨rfl, a, c, B, hB, rfl⟩
   | false =>
     rw [if_neg (by simp)]
     repeat (first | refine goA ?_ | (refine kl ?_; intro bBox) | (refine jS ?_; intro bLit))
     refine UP (L' := ((bBox, Obj.cells #[.int .i64 x.v.up, .int .u8 x.v.vd.code, .slice a1 x.v.vd.sets.length c1, .slice a2 x.v.vd.soa.length c2, .int .u32 x.v.time, .bool x.pass] 225 (0, 0)) :: ((bb, Obj.cells #[.int .i64 want, .slice a l.length c] 200 (0, 0)) :: (B ++ L)))) ?_ jn
     have hKm : ∀ z ∈ [(bb, Obj.cells #[.int .i64 want, .slice a l.length c] 200 (0, 0)), (bBox, Obj.cells #[.int .i64 x.v.up, .int .u8 x.v.vd.code, .slice a1 x.v.vd.sets.length c1, .slice a2 x.v.vd.soa.length c2, .int .u32 x.v.time, .bool x.pass] 225 (0, 0))], z ∈ ((bBox, Obj.cells #[.int .i64 x.v.up, .int .u8 x.v.vd.code, .slice a1 x.v.vd.sets.length c1, .slice a2 x.v.vd.soa.length c2, .int .u32 x.v.time, .bool x.pass] 225 (0, 0)) :: ((bb, Obj.cells #[.int .i64 want, .slice a l.length c] 200 (0, 0)) :: (B ++ L))) := jf
     refine uK (σ := Option Addr × Nat × ja) (fun y => ORow ballotR 225 6 K y.1 y.2.1 ([] ++ l ++ [x]) y.2.2) (fun y => [(0, .pointer (some ⟨bb, 0, none⟩))]) (fun y => (bb, Obj.cells #[.int .i64 want, .slice y.1 ([] ++ l ++ [x]).length y.2.1] 200 (0, 0)) :: (y.2.2 ++ L)) ?_ ?_
     · clear hh
       refine jq jb ([(bb, Obj.cells #[.int .i64 want, .slice a l.length c] 200 (0, 0)), (bBox, Obj.cells #[.int .i64 x.v.up, .int .u8 x.v.vd.code, .slice a1 x.v.vd.sets.length c1, .slice a2 x.v.vd.soa.length c2, .int .u32 x.v.time, .bool x.pass] 225 (0, 0))]) [12] ?_
       refine tkQ 0 ?_
       refine tkQ 2 ?_
       refine tkQ 3 ?_
       refine tkQ 4 ?_
       refine tkQ 5 ?_
       refine tkQ 7 ?_
       refine JU 1 8 je ?_ ?_
       · refine uk rfl rfl rfl rfl (yw etO) ?_; rintro _ _ ⟨b0, rfl, rfl⟩; refine ⟨Or.inr jf, ?_⟩
         refine JU 6 8 je ?_ ?_
         · refine aeZ (L' := [(b0, Obj.cells #[] 225 (0, 0))] ++ ((bBox, Obj.cells #[.int .i64 x.v.up, .int .u8 x.v.vd.code, .slice a1 x.v.vd.sets.length c1, .slice a2 x.v.vd.soa.length c2, .int .u32 x.v.time, .bool x.pass] 225 (0, 0)) :: ((bb, Obj.cells #[.int .i64 want, .slice a l.length c] 200 (0, 0)) :: (B ++ L)))) ?_ jn; refine uk rfl rfl rfl rfl (kP (r := fun _ => ballotR K) (L0 := B) (l := []) (m := l) etO rfl rfl rfl rfl ORow.made ((hB.imp (r' := fun _ => ballotR K) (L' := []) (fun cs x _ h => h)).sliceR j3 jf jf) jf j3 (fun cs y h => ballotR.one h) (by simp; omega) (by decide)) ?_; rintro _ _ ⟨a3, c3, B3, rfl, hB3, rfl⟩; refine ⟨Or.inr jf, ?_⟩
           refine jF 8 je rfl rfl rfl rfl (qC etO rfl rfl (by decide)) ?_; rintro _ _ ⟨bL, rfl, rfl⟩; refine ⟨Or.inr jf, ?_⟩
           refine j6 (L' := (bL, Obj.cells #[.int .i64 x.v.up, .int .u8 x.v.vd.code, .slice a1 x.v.vd.sets.length c1, .slice a2 x.v.vd.soa.length c2, .int .u32 x.v.time, .bool x.pass] 225 (0, 0)) :: (B3 ++ ((bBox, Obj.cells #[.int .i64 x.v.up, .int .u8 x.v.vd.code, .slice a1 x.v.vd.sets.length c1, .slice a2 x.v.vd.soa.length c2, .int .u32 x.v.time, .bool x.pass] 225 (0, 0)) :: ((bb, Obj.cells #[.int .i64 want, .slice a l.length c] 200 (0, 0)) :: (B ++ L))))) ?_ jn; refine jF 9 je rfl rfl rfl rfl (zm (L0 := []) (r := ballotR K) (y := x) (l := [] ++ l) etO rfl rfl (hB3.imp (L' := []) (fun cs x _ h => h)) (by rfl) (fun v hv => ballotR.one hx v hv) hx (by simp; omega) (by decide)) ?_; rintro _ _ ⟨a4, c4, B4, rfl, hB4, rfl⟩; refine ⟨Or.inr jf, ?_⟩
           refine tkQ 10 ?_
           refine tkQ 11 ?_
           refine j6 (L' := (bb, Obj.cells #[.int .i64 want, .slice a l.length c] 200 (0, 0)) :: (B4 ++ ((bBox, Obj.cells #[.int .i64 x.v.up, .int .u8 x.v.vd.code, .slice a1 x.v.vd.sets.length c1, .slice a2 x.v.vd.soa.length c2, .int .u32 x.v.time, .bool x.pass] 225 (0, 0)) :: (B ++ L)))) ?_ jn; refine jZ 12 je rfl rfl rfl (ul (C' := #[.int .i64 want, .slice a4 ([] ++ l ++ [x]).length c4]) rfl rfl onO rfl rfl rfl) ?_; rintro _ _ ⟨_, rfl⟩; refine ⟨Or.inl (by simp), ?_⟩
           refine tdQ ?_
           refine j9 (a4, c4, B4) (hB4.imp (r' := ballotR) (L' := K) (fun cs x _ h => h)) ?_ (fun w h => h.cnt jn)
           exact jr
         · refine uk rfl rfl rfl rfl (qC etO rfl rfl (by decide)) ?_; rintro _ _ ⟨bL, rfl, rfl⟩; refine ⟨Or.inr jf, ?_⟩
           refine j6 (L' := [(b0, Obj.cells #[] 225 (0, 0))] ++ ((bL, Obj.cells #[.int .i64 x.v.up, .int .u8 x.v.vd.code, .slice a1 x.v.vd.sets.length c1, .slice a2 x.v.vd.soa.length c2, .int .u32 x.v.time, .bool x.pass] 225 (0, 0)) :: ((bBox, Obj.cells #[.int .i64 x.v.up, .int .u8 x.v.vd.code, .slice a1 x.v.vd.sets.length c1, .slice a2 x.v.vd.soa.length c2, .int .u32 x.v.time, .bool x.pass] 225 (0, 0)) :: ((bb, Obj.cells #[.int .i64 want, .slice a l.length c] 200 (0, 0)) :: (B ++ L))))) ?_ jn; refine jF 6 je rfl rfl rfl rfl (kP (r := fun _ => ballotR K) (L0 := B) (l := []) (m := l) etO rfl rfl rfl rfl ORow.made ((hB.imp (r' := fun _ => ballotR K) (L' := []) (fun cs x _ h => h)).sliceR j3 jf jf) jf j3 (fun cs y h => ballotR.one h) (by simp; omega) (by decide)) ?_; rintro _ _ ⟨a3, c3, B3, rfl, hB3, rfl⟩; refine ⟨Or.inr jf, ?_⟩
           refine j6 (L' := (bL, Obj.cells #[.int .i64 x.v.up, .int .u8 x.v.vd.code, .slice a1 x.v.vd.sets.length c1, .slice a2 x.v.vd.soa.length c2, .int .u32 x.v.time, .bool x.pass] 225 (0, 0)) :: (B3 ++ ((bBox, Obj.cells #[.int .i64 x.v.up, .int .u8 x.v.vd.code, .slice a1 x.v.vd.sets.length c1, .slice a2 x.v.vd.soa.length c2, .int .u32 x.v.time, .bool x.pass] 225 (0, 0)) :: ((bb, Obj.cells #[.int .i64 want, .slice a l.length c] 200 (0, 0)) :: (B ++ L))))) ?_ jn; refine jF 9 je rfl rfl rfl rfl (zm (L0 := []) (r := ballotR K) (y := x) (l := [] ++ l) etO rfl rfl (hB3.imp (L' := []) (fun cs x _ h => h)) (by rfl) (fun v hv => ballotR.one hx v hv) hx (by simp; omega) (by decide)) ?_; rintro _ _ ⟨a4, c4, B4, rfl, hB4, rfl⟩; refine ⟨Or.inr jf, ?_⟩
           refine tkQ 10 ?_
           refine tkQ 11 ?_
           refine j6 (L' := (bb, Obj.cells #[.int .i64 want, .slice a l.length c] 200 (0, 0)) :: (B4 ++ ((bBox, Obj.cells #[.int .i64 x.v.up, .int .u8 x.v.vd.code, .slice a1 x.v.vd.sets.length c1, .slice a2 x.v.vd.soa.length c2, .int .u32 x.v.time, .bool x.pass] 225 (0, 0)) :: (B ++ L)))) ?_ jn; refine jZ 12 je rfl rfl rfl (ul (C' := #[.int .i64 want, .slice a4 ([] ++ l ++ [x]).length c4]) rfl rfl onO rfl rfl rfl) ?_; rintro _ _ ⟨_, rfl⟩; refine ⟨Or.inl (by simp), ?_⟩
           refine tdQ ?_
           refine j9 (a4, c4, B4) (hB4.imp (r' := ballotR) (L' := K) (fun cs x _ h => h)) ?_ (fun w h => h.cnt jn)
           exact jr
       · refine uk rfl rfl rfl rfl (qC etO rfl rfl (by decide)) ?_; rintro _ _ ⟨bL, rfl, rfl⟩; refine ⟨Or.inr jf, ?_⟩
         refine jF 1 je rfl rfl rfl rfl (yw etO) ?_; rintro _ _ ⟨b0, rfl, rfl⟩; refine ⟨Or.inr jf, ?_⟩
         refine j6 (L' := [(b0, Obj.cells #[] 225 (0, 0))] ++ ((bL, Obj.cells #[.int .i64 x.v.up, .int .u8 x.v.vd.code, .slice a1 x.v.vd.sets.length c1, .slice a2 x.v.vd.soa.length c2, .int .u32 x.v.time, .bool x.pass] 225 (0, 0)) :: ((bBox, Obj.cells #[.int .i64 x.v.up, .int .u8 x.v.vd.code, .slice a1 x.v.vd.sets.length c1, .slice a2 x.v.vd.soa.length c2, .int .u32 x.v.time, .bool x.pass] 225 (0, 0)) :: ((bb, Obj.cells #[.int .i64 want, .slice a l.length c] 200 (0, 0)) :: (B ++ L))))) ?_ jn; refine jF 6 je rfl rfl rfl rfl (kP (r := fun _ => ballotR K) (L0 := B) (l := []) (m := l) etO rfl rfl rfl rfl ORow.made ((hB.imp (r' := fun _ => ballotR K) (L' := []) (fun cs x _ h => h)).sliceR j3 jf jf) jf j3 (fun cs y h => ballotR.one h) (by simp; omega) (by decide)) ?_; rintro _ _ ⟨a3, c3, B3, rfl, hB3, rfl⟩; refine ⟨Or.inr jf, ?_⟩
         refine j6 (L' := (bL, Obj.cells #[.int .i64 x.v.up, .int .u8 x.v.vd.code, .slice a1 x.v.vd.sets.length c1, .slice a2 x.v.vd.soa.length c2, .int .u32 x.v.time, .bool x.pass] 225 (0, 0)) :: (B3 ++ ((bBox, Obj.cells #[.int .i64 x.v.up, .int .u8 x.v.vd.code, .slice a1 x.v.vd.sets.length c1, .slice a2 x.v.vd.soa.length c2, .int .u32 x.v.time, .bool x.pass] 225 (0, 0)) :: ((bb, Obj.cells #[.int .i64 want, .slice a l.length c] 200 (0, 0)) :: (B ++ L))))) ?_ jn; refine jF 9 je rfl rfl rfl rfl (zm (L0 := []) (r := ballotR K) (y := x) (l := [] ++ l) etO rfl rfl (hB3.imp (L' := []) (fun cs x _ h => h)) (by rfl) (fun v hv => ballotR.one hx v hv) hx (by simp; omega) (by decide)) ?_; rintro _ _ ⟨a4, c4, B4, rfl, hB4, rfl⟩; refine ⟨Or.inr jf, ?_⟩
         refine tkQ 10 ?_
         refine tkQ 11 ?_
         refine j6 (L' := (bb, Obj.cells #[.int .i64 want, .slice a l.length c] 200 (0, 0)) :: (B4 ++ ((bBox, Obj.cells #[.int .i64 x.v.up, .int .u8 x.v.vd.code, .slice a1 x.v.vd.sets.length c1, .slice a2 x.v.vd.soa.length c2, .int .u32 x.v.time, .bool x.pass] 225 (0, 0)) :: (B ++ L)))) ?_ jn; refine jZ 12 je rfl rfl rfl (ul (C' := #[.int .i64 want, .slice a4 ([] ++ l ++ [x]).length c4]) rfl rfl onO rfl rfl rfl) ?_; rintro _ _ ⟨_, rfl⟩; refine ⟨Or.inl (by simp), ?_⟩
         refine tdQ ?_
         refine j9 (a4, c4, B4) (hB4.imp (r' := ballotR) (L' := K) (fun cs x _ h => h)) ?_ (fun w h => h.cnt jn)
         exact jr
     · rintro ⟨a4, c4, B4⟩ hB4
       dsimp only at hB4 ⊢
       rw [List.nil_append] at hB4 ⊢
       repeat (first | refine goA ?_ | (refine kl ?_; intro bBox) | (refine jS ?_; intro bLit))
       refine ji 4 _ rfl rfl ?_
       exact ⟨rfl, a4, c4, B4, hB4, rfl⟩
end
section
open Go.RowKit
open Vd (RSet Vdt Vote Rec Quest Piece Ballot)
variable {G : World} {L : ja}
theorem adF {K : ja} (bb : Nat) (want : Int) (a : Option Addr) (c : Nat) (l : List Ballot) (B : ja) (cv : List Value) (v : Vote) (hB : ORow ballotR 225 6 K a c l B) (hv : voteR K cv v) (hn : l.length ≤ 100000) :
 Spec Tryz.prog G 92 #[.pointer (some ⟨bb, 0, none⟩), .agg cv.toArray] ((bb, Obj.cells #[.int .i64 want, .slice a l.length c] 200 (0, 0)) :: (B ++ L)) fun w M => w = .int .i64 (Vd.putB l ⟨v, false⟩).2 ∧ ∃ a' c' B', ORow ballotR 225 6 K a' c' (Vd.putB l ⟨v, false⟩).1 B' ∧ M = (bb, Obj.cells #[.int .i64 want, .slice a' (Vd.putB l ⟨v, false⟩).1.length c'] 200 (0, 0)) :: (B' ++ L) := by
 have hv0 := hv
 obtain ⟨a1, c1, a2, c2, rfl, _⟩ := hv0.vals
 refine jm (n := 9) Tryz.func92 rfl rfl rfl ?_
 repeat (first | refine goA ?_ | (refine kl ?_; intro bBox) | refine jB (jl rfl (QI _ _ _ _ _)) rfl ?_)
 refine jw (OpT.heap (L' := (bb, Obj.cells #[.int .i64 want, .slice a l.length c] 200 (0, 0)) :: (B ++ ((bBox, Obj.cells #[.int .i64 v.up, .int .u8 v.vd.code, .slice a1 v.vd.sets.length c1, .slice a2 v.vd.soa.length c2, .int .u32 v.time] 202 (0, 0)) :: L))) (fun w h => h.cnt jn) (jc je rfl (abT bb want a c l B _ ⟨v, false⟩ hB ⟨a1, c1, a2, c2, rfl, hv⟩ hn))) rfl ?_
 rintro _ _ ⟨rfl, a', c', B', hB', rfl⟩
 repeat (first | refine goA ?_ | (refine kl ?_; intro bBox) | refine jB (jl rfl (QI _ _ _ _ _)) rfl ?_)
 refine ju (fun w h => h.cnt (L' := (bb, Obj.cells #[.int .i64 want, .slice a' (Vd.putB l ⟨v, false⟩).1.length c'] 200 (0, 0)) :: (B' ++ L)) jn) ?_
 refine ji 4 _ rfl rfl ?_
 exact ⟨rfl, a', c', B', hB', rfl⟩
theorem qz (l : List Ballot) (y : Ballot) : Vd.votesB (l ++ [y]) = if y.pass then Vd.votesB l else Vd.votesB l ++ [y.v] := by
 unfold Vd.votesB
 rw [List.filter_append, List.map_append]
 cases hy : y.pass <;> simp [hy]
theorem j7 (l : List Ballot) : (Vd.votesB l).length ≤ l.length := by
 unfold Vd.votesB
 rw [List.length_map]
 exact List.length_filter_le _ _
theorem abU {K : ja} (bb : Nat) (want : Int) (a : Option Addr) (c : Nat) (l : List Ballot) (B : ja) (hB : ORow ballotR 225 6 K a c l B) (hn : l.length ≤ 100000) :
 Spec Tryz.prog G 137 #[.pointer (some ⟨bb, 0, none⟩)] ((bb, Obj.cells #[.int .i64 want, .slice a l.length c] 200 (0, 0)) :: (B ++ L)) fun w M => ∃ av cv Bv, w = .slice av (Vd.votesB l).length cv ∧ ORow voteR 202 5 K av cv (Vd.votesB l) Bv ∧ M = Bv ++ ((bb, Obj.cells #[.int .i64 want, .slice a l.length c] 200 (0, 0)) :: (B ++ L)) := by
 have hcap := hB.cap
 unfold maxLen at hcap
 refine jm (n := 35) Tryz.func137 rfl rfl rfl ?_
 repeat (first | refine goA ?_ | (refine jS ?_; intro bLit))
 refine jy (σ := Nat × Option Addr × Nat × ja) (fun x => x.1 ≤ l.length ∧ ORow voteR 202 5 K x.2.1 x.2.2.1 (Vd.votesB (l.take x.1)) x.2.2.2) (fun x => [(0, .pointer (some ⟨bb, 0, none⟩)), (3, .slice x.2.1 (Vd.votesB (l.take x.1)).length x.2.2.1), (4, .int .i64 (x.1 : Nat))]) (fun x => x.2.2.2 ++ ((bb, Obj.cells #[.int .i64 want, .slice a l.length c] 200 (0, 0)) :: (B ++ L))) (fun x => l.length - x.1) (0, none, 0, []) ⟨Nat.zero_le _, ORow.nil _⟩ ?_ (fun w h => h) ?_
 exact jr
 rintro ⟨k, av, cv, Bv⟩ ⟨hk, hV⟩
 dsimp only at hk hV ⊢
 have hvl := j7 (l.take k)
 rw [List.length_take] at hvl
 have hmb : (bb, Obj.cells #[.int .i64 want, .slice a l.length c] 200 (0, 0)) ∈ Bv ++ ((bb, Obj.cells #[.int .i64 want, .slice a l.length c] 200 (0, 0)) :: (B ++ L)) := by simp
 by_cases hlt : k < l.length
 · obtain ⟨b2, cur, rfl, hBe, _, _, _, hcur⟩ := hB.block (fun e => by rw [e] at hlt; simp at hlt)
   obtain ⟨y, hy⟩ : ∃ y, l[k]? = some y := ⟨_, List.getElem?_eq_getElem hlt⟩
   have htk : Vd.votesB (l.take (k + 1)) = if y.pass then Vd.votesB (l.take k) else Vd.votesB (l.take k) ++ [y.v] := by rw [List.take_add_one, hy]; exact qz _ _
   obtain ⟨cs, _, ⟨a1, c1, a2, c2, rfl, hyv⟩, _, hcs⟩ := hcur k y hy
   have g5 : cur[0 + k * 6 + 5]? = some (.bool y.pass) := by rw [Nat.zero_add]; exact hcs 5 _ rfl
   have hmem : (b2, Obj.cells cur 225 (0, 0)) ∈ Bv ++ ((bb, Obj.cells #[.int .i64 want, .slice (some ⟨b2, 0, none⟩) l.length c] 200 (0, 0)) :: (B ++ L)) := by rw [hBe]; simp
   cases hp : y.pass with
   | true =>
     rw [hp] at g5
     rw [hp, if_pos rfl] at htk
     repeat (first | refine goA ?_ | (refine jS ?_; intro bLit))
     refine jh (k + 1, av, cv, Bv) ⟨hlt, by dsimp only; rw [htk]; exact hV⟩ ?_ (fun w h => h) (by dsimp only; omega)
     dsimp only
     rw [htk]
     exact jr
   | false =>
     rw [hp] at g5
     rw [hp, if_neg (by simp)] at htk
     have hcs5 : ∀ j u, ([.int .i64 y.v.up, .int .u8 y.v.vd.code, .slice a1 y.v.vd.sets.length c1, .slice a2 y.v.vd.soa.length c2, .int .u32 y.v.time] : List Value)[j]? = some u → cur[0 + k * 6 + 0 + j]? = some u := fun j u hj => by
      rw [Nat.zero_add]
      refine hcs j u ?_
      have hj5 := (List.getElem?_eq_some_iff.1 hj).1
      match j, hj with
      | 0, hj => exact hj
      | 1, hj => exact hj
      | 2, hj => exact hj
      | 3, hj => exact hj
      | 4, hj => exact hj
     repeat (first | refine goA ?_ | (refine jS ?_; intro bLit))
     refine jB (jA [.int .i64 y.v.up, .int .u8 y.v.vd.code, .slice a1 y.v.vd.sets.length c1, .slice a2 y.v.vd.soa.length c2, .int .u32 y.v.time] rfl stL hmem hcs5) rfl ?_
     repeat (first | refine goA ?_ | (refine jS ?_; intro bLit))
     refine jw (zm (L0 := []) (r := voteR K) (cs := [.int .i64 y.v.up, .int .u8 y.v.vd.code, .slice a1 y.v.vd.sets.length c1, .slice a2 y.v.vd.soa.length c2, .int .u32 y.v.time]) (y := y.v) etO rfl rfl (hV.imp (L' := []) (fun cs x _ h => h)) rfl (fun v hv => voteR.one hyv v hv) hyv jd (by decide)) rfl ?_
     rintro _ _ ⟨a', c', B', rfl, hB', rfl⟩
     repeat (first | refine goA ?_ | (refine jS ?_; intro bLit))
     refine jh (k + 1, a', c', B') ⟨hlt, by dsimp only; rw [htk]; exact hB'.imp (r' := voteR) (L' := K) (fun cs x _ h => h)⟩ ?_ (fun w h => h) (by dsimp only; omega)
     dsimp only
     rw [htk]
     exact jr
 · have hkn : k = l.length := by omega
   subst hkn
   rw [List.take_length] at hV ⊢
   repeat (first | refine goA ?_ | (refine jS ?_; intro bLit))
   refine ji 2 _ rfl rfl ?_
   exact ⟨av, cv, Bv, rfl, hV, rfl⟩
end
section
open Go.RowKit
open Vd (RSet Vdt Vote Rec Quest Piece Ballot)
def kQ (f : Int → Int × Int) : List Value := [.int .u8 (f 0).1, .int .i64 (f 0).2, .int .u8 (f 1).1, .int .i64 (f 1).2, .int .u8 (f 2).1, .int .i64 (f 2).2, .int .u8 (f 3).1, .int .i64 (f 3).2, .int .u8 (f 4).1, .int .i64 (f 4).2, .int .u8 (f 5).1, .int .i64 (f 5).2, .int .u8 (f 6).1, .int .i64 (f 6).2, .int .u8 (f 7).1, .int .i64 (f 7).2, .int .u8 (f 8).1, .int .i64 (f 8).2]
def kz (want : Int) (f : Int → Int × Int) (v : Value) : List Value := .int .i64 want :: (kQ f ++ [v])
theorem W2 {want : Int} {f : Int → Int × Int} {v : Value} : (kz want f v).toArray.size = 20 := rfl
theorem J5 {want : Int} {f : Int → Int × Int} {v : Value} {u : Int} (h : 0 ≤ u ∧ u < 9) : (kz want f v).toArray[1 + u.toNat * 2 + 0]? = some (.int .u8 (f u).1) := by
 obtain ⟨n, rfl⟩ : ∃ n : Nat, u = n := ⟨u.toNat, by omega⟩
 have hn : n < 9 := by omega
 match n, hn with
 | 0, _ | 1, _ | 2, _ | 3, _ | 4, _ | 5, _ | 6, _ | 7, _ | 8, _ => rfl
theorem Q1 {want : Int} {f : Int → Int × Int} {v : Value} {u : Int} (h : 0 ≤ u ∧ u < 9) : (kz want f v).toArray[1 + u.toNat * 2 + 1]? = some (.int .i64 (f u).2) := by
 obtain ⟨n, rfl⟩ : ∃ n : Nat, u = n := ⟨u.toNat, by omega⟩
 have hn : n < 9 := by omega
 match n, hn with
 | 0, _ | 1, _ | 2, _ | 3, _ | 4, _ | 5, _ | 6, _ | 7, _ | 8, _ => rfl
def upd (f : Int → Int × Int) (u : Int) (x : Int × Int) : Int → Int × Int := fun w => if w = u then x else f w
theorem W3 {want : Int} {f : Int → Int × Int} {v : Value} {u : Int} (h : 0 ≤ u ∧ u < 9) (x : Int × Int) : qM (kz want f v).toArray (1 + u.toNat * 2) [.int .u8 x.1, .int .i64 x.2] = (kz want (upd f u x) v).toArray := by
 obtain ⟨n, rfl⟩ : ∃ n : Nat, u = n := ⟨u.toNat, by omega⟩
 have hn : n < 9 := by omega
 match n, hn with
 | 0, _ | 1, _ | 2, _ | 3, _ | 4, _ | 5, _ | 6, _ | 7, _ | 8, _ => simp [qM, kz, kQ, upd]
theorem W4 {l : List Ballot} (h : BoxOk l) {x : Ballot} (hx : Vd.hasB l x.v.up = false) (hb : 0 ≤ x.v.up ∧ x.v.up < 9) : jz (l ++ [x]) = upd (jz l) x.v.up (if x.pass then ((1, 0) : Int × Int) else (2, (jK (Vd.votesB l) x.v.vd : Int))) := by
 funext u
 rw [aap h hx hb _ rfl (qz l x) u]
 rfl
def TBox (K : ja) (bb : Nat) (want : Int) (l : List Ballot) (M : ja) : Prop := ∃ a c B, ORow voteR 65 5 K a c (Vd.votesB l) B ∧ M = (bb, Obj.cells (kz want (jz l) (.slice a (Vd.votesB l).length c)).toArray 165 (0, 0)) :: B
def RBox (K : ja) (bb : Nat) (want : Int) (l : List Ballot) (M : ja) : Prop := ∃ a c B, ORow ballotR 225 6 K a c l B ∧ M = (bb, Obj.cells #[.int .i64 want, .slice a l.length c] 200 (0, 0)) :: B
theorem TBox.mono {K K' : ja} (hK : ∀ p ∈ K, p ∈ K') {bb : Nat} {want : Int} {l : List Ballot} {M : ja} (h : TBox K bb want l M) : TBox K' bb want l M := by
 obtain ⟨a, c, B, h1, h2⟩ := h
 exact ⟨a, c, B, h1.mono qf hK, h2⟩
theorem RBox.mono {K K' : ja} (hK : ∀ p ∈ K, p ∈ K') {bb : Nat} {want : Int} {l : List Ballot} {M : ja} (h : RBox K bb want l M) : RBox K' bb want l M := by
 obtain ⟨a, c, B, h1, h2⟩ := h
 exact ⟨a, c, B, h1.mono W1 hK, h2⟩
end
section
open Go.RowKit
open Vd (RSet Vdt Vote Rec Quest Piece Ballot)
variable {G : World} {L : ja}
theorem abV {l : List Ballot} (h : BoxOk l) {u : Int} (hu : ¬ (0 ≤ u ∧ u < 9)) : Vd.hasB l u = false := by
 cases hb : Vd.hasB l u with
 | false => rfl
 | true =>
   obtain ⟨b, hb1, hb2⟩ := List.mem_map.1 ((WK l u).1 hb)
   have := h.up b hb1
   omega
theorem aaE (l : List Ballot) (u : Int) : ((jz l u).1 != 0) = Vd.hasB l u := by
 have := abC l u
 cases hb : Vd.hasB l u with
 | true =>
   rw [hb] at this
   have h : ¬ (jz l u).1 = 0 := fun e => by have := this.1 e; cases this
   simpa using h
 | false => rw [this.2 hb]; rfl
theorem abW (bb : Nat) (want u : Int) (l : List Ballot) (vv : Value) (hm : (bb, Obj.cells (kz want (jz l) vv).toArray 165 (0, 0)) ∈ L) (hl : BoxOk l) :
 Spec Tryz.prog G 98 #[.pointer (some ⟨bb, 0, none⟩), .int .i64 u] L fun w M => w = .bool (Vd.hasB l u) ∧ M = L := by
 refine jm (n := 25) Tryz.func98 rfl rfl rfl ?_
 by_cases hu : 0 ≤ u ∧ u < 9
 · obtain ⟨h0, h9⟩ := hu
   have hg : (kz want (jz l) vv).toArray[0 + 1 + u.toNat * 2 + 0]? = some (.int .u8 (jz l u).1) := J5 ⟨h0, h9⟩
   refine goA ?_
   refine ji 4 _ rfl rfl ?_
   exact ⟨by rw [← aaE], rfl⟩
 · rw [abV hl hu]
   by_cases h0 : 0 ≤ u
   · have h9 : ¬ u < 9 := fun h => hu ⟨h0, h⟩
     refine goA ?_
     refine ji 4 _ rfl rfl ?_
     exact ⟨rfl, rfl⟩
   · refine goA ?_
     refine ji 4 _ rfl rfl ?_
     exact ⟨rfl, rfl⟩
def Q2 (l : List Ballot) (u : Int) : Int := if u < 0 ∨ 9 ≤ u then 1 else if Vd.hasB l u then 7 else 0
theorem abX (l : List Ballot) (x : Ballot) : (Vd.putB l x).2 = Q2 l x.v.up := by
 unfold Vd.putB Q2
 split
 · rfl
 · split <;> rfl
theorem VR {l : List Ballot} {x : Ballot} (h : Q2 l x.v.up ≠ 0) : (Vd.putB l x).1 = l := by
 unfold Vd.putB
 unfold Q2 at h
 split
 · rfl
 · rename_i h1
   rw [if_neg h1] at h
   split
   · rfl
   · rename_i h2
     rw [if_neg h2] at h
     exact absurd rfl h
theorem Q3 {l : List Ballot} {x : Ballot} (h : Q2 l x.v.up = 0) : (Vd.putB l x).1 = l ++ [x] ∧ (0 ≤ x.v.up ∧ x.v.up < 9) ∧ Vd.hasB l x.v.up = false := by
 unfold Vd.putB
 unfold Q2 at h
 by_cases h1 : x.v.up < 0 ∨ 9 ≤ x.v.up
 · rw [if_pos h1] at h; cases h
 · rw [if_neg h1] at h ⊢
   by_cases h2 : Vd.hasB l x.v.up = true
   · rw [if_pos h2] at h; cases h
   · rw [if_neg h2]
     exact ⟨rfl, by omega, by simpa using h2⟩
theorem abY (bb : Nat) (want u : Int) (l : List Ballot) (vv : Value) (hm : (bb, Obj.cells (kz want (jz l) vv).toArray 165 (0, 0)) ∈ L) (hl : BoxOk l) :
 Spec Tryz.prog G 72 #[.pointer (some ⟨bb, 0, none⟩), .int .i64 u] L fun w M => w = .int .i64 (Q2 l u) ∧ M = L := by
 refine jm (n := 16) Tryz.func72 rfl rfl rfl ?_
 unfold Q2
 by_cases h0 : u < 0
 · rw [if_pos (Or.inl h0)]
   refine goA ?_
   refine ji 4 _ rfl rfl ?_
   exact ⟨rfl, rfl⟩
 · by_cases h9 : 9 ≤ u
   · rw [if_pos (Or.inr h9)]
     refine goA ?_
     refine ji 4 _ rfl rfl ?_
     exact ⟨rfl, rfl⟩
   · rw [if_neg jd]
     cases hb : Vd.hasB l u with
     | true =>
       repeat (first | refine goA ?_ | (refine' jU (jc je rfl ((abW bb want u l vv hm hl) )) rfl ?_))
       refine ji 4 _ rfl rfl ?_
       exact ⟨rfl, rfl⟩
     | false =>
       repeat (first | refine goA ?_ | (refine' jU (jc je rfl ((abW bb want u l vv hm hl) )) rfl ?_))
       refine ji 4 _ rfl rfl ?_
       exact ⟨rfl, rfl⟩
theorem adG {K : ja} (bb : Nat) (want u : Int) (l : List Ballot) (M0 : ja) (hb : TBox K bb want l M0) (hl : BoxOk l) :
 Spec Tryz.prog G 49 #[.pointer (some ⟨bb, 0, none⟩), .int .i64 u] (M0 ++ L) fun w M => w = .int .i64 (Vd.putB l ⟨⟨u, Vdt.none, 0⟩, true⟩).2 ∧ ∃ M', TBox K bb want (Vd.putB l ⟨⟨u, Vdt.none, 0⟩, true⟩).1 M' ∧ M = M' ++ L := by
 obtain ⟨a, c, B, hB, rfl⟩ := hb
 refine jm (n := 18) Tryz.func49 rfl rfl rfl ?_
 refine goA ?_
 refine jU (jc je rfl (abY bb want u l _ (List.mem_cons_self ..) hl)) rfl ?_
 have he := abX l ⟨⟨u, Vdt.none, 0⟩, true⟩
 rw [he]
 by_cases h0 : Q2 l u = 0
 · obtain ⟨h1, h2, h3⟩ := Q3 (x := ⟨⟨u, Vdt.none, 0⟩, true⟩) h0
   obtain ⟨h20, h29⟩ := h2
   dsimp only at h20 h29 h3
   repeat (first | refine goA ?_ | refine jB (jl rfl (Ww _)) rfl ?_)
   refine QE (yx (cs := [.int .u8 1, .int .i64 0]) rfl rfl stL (by intro v hv; simp only [List.mem_cons, List.not_mem_nil, or_false] at hv; rcases hv with rfl | rfl <;> rfl) (by rw [W2]; simp; omega)) ?_
   have hput : qM (kz want (jz l) (.slice a (Vd.votesB l).length c)).toArray (0 + 1 + u.toNat * 2) [.int .u8 1, .int .i64 0] = (kz want (jz (l ++ [⟨⟨u, Vdt.none, 0⟩, true⟩])) (.slice a (Vd.votesB l).length c)).toArray := by
    rw [W4 hl (x := ⟨⟨u, Vdt.none, 0⟩, true⟩) h3 ⟨h20, h29⟩, Nat.zero_add]
    exact W3 ⟨h20, h29⟩ (1, 0)
   rw [hput]
   refine goA ?_
   refine ji 4 _ rfl rfl ?_
   have hv : Vd.votesB (l ++ [⟨⟨u, Vdt.none, 0⟩, true⟩]) = Vd.votesB l := by rw [qz]; rfl
   refine ⟨by dsimp only; rw [h0], _, ⟨a, c, B, ?_, rfl⟩, ?_⟩
   · rw [h1, hv]; exact hB
   · rw [h1, hv]; rfl
 · have h1 := VR (x := ⟨⟨u, Vdt.none, 0⟩, true⟩) h0
   rw [h1]
   refine goA ?_
   refine ji 4 _ rfl rfl ?_
   exact ⟨rfl, _, ⟨a, c, B, hB, rfl⟩, rfl⟩
end
section
open Go.RowKit
open Vd (RSet Vdt Vote Rec Quest Piece Ballot)
variable {G : World} {L : ja}
def adH (L : ja) (x : Vote) (u : Value) (M : ja) : Prop := ∃ a c B a2 c2 B2 N, u = .agg #[.int .i64 x.up, .int .u8 x.vd.code, .slice a x.vd.sets.length c, .slice a2 x.vd.soa.length c2, .int .u32 x.time] ∧
 ORow rsR 122 5 N a c x.vd.sets B ∧ ORow rsR 122 5 N a2 c2 x.vd.soa B2 ∧ Wr N ∧ M = B2 ++ (B ++ (N ++ L))
theorem KY (cs : List Value) (x : Vote) (hx : voteR L cs x) (hs : SmV x.vd) : Spec Tryz.prog G 75 #[.agg cs.toArray] L (adH L x) := by
 obtain ⟨x1, xc1, x2, xc2, rfl, h1, h2, h3, h4, h5⟩ := hx.vals
 refine jm (n := 11) Tryz.func75 rfl rfl rfl ?_
 refine kh (jY (j0 (kF rfl) rfl ?_))
 intro bX
 refine j0 (kk (C := #[.int .i64 0, .int .u8 0, .slice none 0 0, .slice none 0 0, .int .u32 0]) zeO rfl) rfl ?_
 intro bO
 have hKm : ∀ z ∈ [(bX, Obj.cells #[.int .i64 x.up, .int .u8 x.vd.code, .slice x1 x.vd.sets.length xc1, .slice x2 x.vd.soa.length xc2, .int .u32 x.time] 65 (0, 0))], z ∈ (bX, Obj.cells #[.int .i64 x.up, .int .u8 x.vd.code, .slice x1 x.vd.sets.length xc1, .slice x2 x.vd.soa.length xc2, .int .u32 x.time] 65 (0, 0)) :: L := by
  intro z hz
  rw [List.mem_singleton.1 hz]
  exact List.mem_cons_self ..
 have gx : ∀ j v, ([.int .u8 x.vd.code, .slice x1 x.vd.sets.length xc1, .slice x2 x.vd.soa.length xc2] : List Value)[j]? = some v → (#[.int .i64 x.up, .int .u8 x.vd.code, .slice x1 x.vd.sets.length xc1, .slice x2 x.vd.soa.length xc2, .int .u32 x.time] : Array Value)[0 + 1 + j]? = some v := fun j v hj => by
  match j, hj with
  | 0, hj => exact hj
  | 1, hj => exact hj
  | 2, hj => exact hj
 repeat (first | refine goA ?_ | (refine jO ?_; intro bNew) | (refine kl ?_; intro bBox) | refine jB (jl rfl (ue _ _ _ _ _)) rfl ?_)
 refine jq jb ([(bX, Obj.cells #[.int .i64 x.up, .int .u8 x.vd.code, .slice x1 x.vd.sets.length xc1, .slice x2 x.vd.soa.length xc2, .int .u32 x.time] 65 (0, 0))]) [] ?_
 refine tkQ 0 ?_
 refine tkQ 1 ?_
 refine tkQ 2 ?_
 (refine' jp 3 rfl rfl je (jL (jA [.int .u8 x.vd.code, .slice x1 x.vd.sets.length xc1, .slice x2 x.vd.soa.length xc2] rfl stL (List.mem_cons_self ..) gx)) ?_ ?_; (· first | assumption | (intro p hp; grind)))
 refine tkQ 5 ?_
 refine tkQ 6 ?_
 refine jF 4 je rfl rfl rfl rfl (jc je rfl (zk [.int .u8 x.vd.code, .slice x1 x.vd.sets.length xc1, .slice x2 x.vd.soa.length xc2] x.vd ⟨_, _, rfl, jx jC _ _ _ _ jf h1, jx jC _ _ _ _ jf h2, h3⟩ hs)) ?_
 rintro _ _ ⟨a, c, B, a2, c2, B2, N, rfl, hB, hB2, hN, rfl⟩
 refine ⟨Or.inr (by first | exact (fun z hz => jW jn z (hKm z hz)) | simp), ?_⟩
 first | (refine' jp 7 rfl rfl je (jL (jl rfl (ue _ _ _ _ _))) ?_ ?_; (· first | assumption | (intro p hp; grind)))
 refine j6 (L' := (bO, Obj.cells #[.int .i64 0, .int .u8 0, .slice none 0 0, .slice none 0 0, .int .u32 0] 65 (0, 0)) :: (B2 ++ (B ++ (N ++ ((bX, Obj.cells #[.int .i64 x.up, .int .u8 x.vd.code, .slice x1 x.vd.sets.length xc1, .slice x2 x.vd.soa.length xc2, .int .u32 x.time] 65 (0, 0)) :: L))))) ?_ jn
 refine jZ 8 je rfl rfl rfl (qg rfl rfl stO rfl rfl rfl) ?_
 rintro _ _ ⟨_, rfl⟩
 refine ⟨Or.inr (by first | exact (fun z hz => jW jn z (hKm z hz)) | simp), ?_⟩
 refine tdQ ?_
 repeat (first | refine goA ?_ | (refine jO ?_; intro bNew) | (refine kl ?_; intro bBox) | refine jB (jl rfl (ue _ _ _ _ _)) rfl ?_)
 refine kT 2 65  rfl rfl  stO (by repeat (first | assumption | exact List.mem_cons_self | apply List.mem_cons_of_mem)) rfl (fun w h => Heap.cnt (L' := B2 ++ (B ++ (N ++ L))) h jn) ?_
 exact ⟨_, _, _, _, _, _, _, rfl, hB, hB2, hN, rfl⟩
end
section
open Go.RowKit
open Vd (RSet Vdt Vote Rec Quest Piece Ballot)
variable {G : World} {L : ja}
theorem Y3 {vs : List Vote} {v : Vdt} {i : Nat} {y : Vote} (hy : vs[i]? = some y) (he : y.vd = v) (hno : ∀ z ∈ vs.take i, z.vd ≠ v) : jK vs v = i := by
 obtain ⟨hi, rfl⟩ := List.getElem?_eq_some_iff.1 hy
 unfold jK
 rw [List.findIdx_eq hi]
 refine ⟨by simpa using he, fun j hj => ?_⟩
 have := hno vs[j] (by rw [List.mem_take_iff_getElem]; exact ⟨j, by omega, rfl⟩)
 simpa using this
theorem VS {vs : List Vote} {v : Vdt} (hno : ∀ z ∈ vs, z.vd ≠ v) : jK vs v = vs.length := by
 unfold jK
 rw [List.findIdx_eq_length]
 intro z hz
 simpa using hno z hz
theorem adI {K : ja} (bb : Nat) (want : Int) (l : List Ballot) (M0 : ja) (cs : List Value) (x : Vote) (hb : TBox K bb want l M0) (hl : BoxOk l) (hK : ∀ p ∈ K, p ∈ L) (hx : voteR L cs x) (hs : SmV x.vd) (hn : l.length ≤ 9) :
 Spec Tryz.prog G 52 #[.pointer (some ⟨bb, 0, none⟩), .agg cs.toArray] (M0 ++ L) fun w M => w = .int .i64 (Vd.putB l ⟨x, false⟩).2 ∧ ∃ M' N, TBox (N ++ K) bb want (Vd.putB l ⟨x, false⟩).1 M' ∧ Wr N ∧ M = M' ++ (N ++ L) := by
 obtain ⟨a, c, B, hB, rfl⟩ := hb
 obtain ⟨x1, xc1, x2, xc2, rfl, h1, h2, h3, h4, h5⟩ := hx.vals
 have hvl := j7 l
 have hcap := hB.cap
 unfold maxLen at hcap
 refine jm (n := 57) Tryz.func52 rfl rfl rfl ?_
 refine kh (jY (j0 (kF rfl) rfl ?_))
 intro bV
 refine goA ?_
 refine jU (jc je rfl (abY bb want x.up l _ (List.mem_cons_of_mem _ (List.mem_cons_self ..)) hl)) rfl ?_
 have he := abX l ⟨x, false⟩
 rw [he]
 by_cases h0 : Q2 l x.up = 0
 · obtain ⟨hp1, hp2, hp3⟩ := Q3 (x := ⟨x, false⟩) h0
   obtain ⟨h20, h29⟩ := hp2
   dsimp only at h20 h29 hp3
   obtain ⟨vs, hvs⟩ : ∃ vs, Vd.votesB l = vs := ⟨_, rfl⟩
   rw [hvs] at hB hvl hcap ⊢
   have gx : ∀ j v, ([.int .u8 x.vd.code, .slice x1 x.vd.sets.length xc1, .slice x2 x.vd.soa.length xc2] : List Value)[j]? = some v → (#[.int .i64 x.up, .int .u8 x.vd.code, .slice x1 x.vd.sets.length xc1, .slice x2 x.vd.soa.length xc2, .int .u32 x.time] : Array Value)[0 + 1 + j]? = some v := fun j v hj => by
    match j, hj with
    | 0, hj => exact hj
    | 1, hj => exact hj
    | 2, hj => exact hj
   refine goF ?_
   refine kh ?_
   refine goF ?_
   refine kh ?_
   refine goF ?_
   refine kh ?_
   skip
   refine uK (σ := Unit) (fun _ => True) (fun _ => [(0, .pointer (some ⟨bb, 0, none⟩)), (3, .pointer (some ⟨bV, 0, none⟩)), (6, .int .i64 (jK vs x.vd : Nat))]) (fun _ => (bV, Obj.cells #[.int .i64 x.up, .int .u8 x.vd.code, .slice x1 x.vd.sets.length xc1, .slice x2 x.vd.soa.length xc2, .int .u32 x.time] 65 (0, 0)) :: ((bb, Obj.cells (kz want (jz l) (.slice a vs.length c)).toArray 165 (0, 0)) :: (B ++ L))) ?_ ?_
   · skip
     refine goA ?_
     refine jy (σ := Nat) (fun i => i ≤ vs.length ∧ ∀ z ∈ vs.take i, z.vd ≠ x.vd) (fun i => [(0, .pointer (some ⟨bb, 0, none⟩)), (3, .pointer (some ⟨bV, 0, none⟩)), (6, .int .i64 (vs.length : Nat)), (24, .slice a vs.length c), (25, .int .i64 (vs.length : Nat)), (26, .int .i64 (i : Nat))]) (fun _ => (bV, Obj.cells #[.int .i64 x.up, .int .u8 x.vd.code, .slice x1 x.vd.sets.length xc1, .slice x2 x.vd.soa.length xc2, .int .u32 x.time] 65 (0, 0)) :: ((bb, Obj.cells (kz want (jz l) (.slice a vs.length c)).toArray 165 (0, 0)) :: (B ++ L))) (fun i => vs.length - i) 0 ⟨Nat.zero_le _, by simp⟩ ?_ (fun w h => h) ?_
     exact jr
     rintro i ⟨hi, hno⟩
     by_cases hil : i < vs.length
     · obtain ⟨y, hy⟩ : ∃ y, vs[i]? = some y := ⟨_, List.getElem?_eq_getElem hil⟩
       obtain ⟨bc, cur, rfl, rfl, _, _, _, hcur⟩ := hB.block (fun e => by rw [e] at hil; simp at hil)
       obtain ⟨csy, _, hyv, _, hcy⟩ := hcur i y hy
       obtain ⟨y1, yc1, y2, yc2, rfl, hy1, hy2, hy3, hy4, hy5⟩ := hyv.vals
       have hcy' : ∀ j v, ([.int .i64 y.up, .int .u8 y.vd.code, .slice y1 y.vd.sets.length yc1, .slice y2 y.vd.soa.length yc2, .int .u32 y.time] : List Value)[j]? = some v → cur[0 + i * 5 + j]? = some v := fun j v hj => by rw [Nat.zero_add]; exact hcy j v hj
       have gy : ∀ j v, ([.int .u8 y.vd.code, .slice y1 y.vd.sets.length yc1, .slice y2 y.vd.soa.length yc2] : List Value)[j]? = some v → (#[.int .i64 y.up, .int .u8 y.vd.code, .slice y1 y.vd.sets.length yc1, .slice y2 y.vd.soa.length yc2, .int .u32 y.time] : Array Value)[0 + 1 + j]? = some v := fun j v hj => by
        match j, hj with
        | 0, hj => exact hj
        | 1, hj => exact hj
        | 2, hj => exact hj
       have mc : (bc, Obj.cells cur 65 (0, 0)) ∈ (bV, Obj.cells #[.int .i64 x.up, .int .u8 x.vd.code, .slice x1 x.vd.sets.length xc1, .slice x2 x.vd.soa.length xc2, .int .u32 x.time] 65 (0, 0)) :: ((bb, Obj.cells (kz want (jz l) (.slice (some ⟨bc, 0, none⟩) vs.length c)).toArray 165 (0, 0)) :: ([(bc, Obj.cells cur 65 (0, 0))] ++ L)) := by simp
       refine goA ?_
       refine jB (jA [.int .i64 y.up, .int .u8 y.vd.code, .slice y1 y.vd.sets.length yc1, .slice y2 y.vd.soa.length yc2, .int .u32 y.time] rfl stL mc hcy') rfl ?_
       repeat (first | refine goA ?_ | (refine jO ?_; intro bNew))
       refine jB (jA [.int .u8 y.vd.code, .slice y1 y.vd.sets.length yc1, .slice y2 y.vd.soa.length yc2] rfl stL (by repeat (exact List.mem_cons_self)) gy) rfl ?_
       repeat (refine jB (ui rfl Qj) rfl ?_)
       refine jB (jA [.int .u8 x.vd.code, .slice x1 x.vd.sets.length xc1, .slice x2 x.vd.soa.length xc2] rfl stL (by repeat (first | exact List.mem_cons_self | apply List.mem_cons_of_mem)) gx) rfl ?_
       refine jU (jc je rfl (VJ [.int .u8 y.vd.code, .slice y1 y.vd.sets.length yc1, .slice y2 y.vd.soa.length yc2] [.int .u8 x.vd.code, .slice x1 x.vd.sets.length xc1, .slice x2 x.vd.soa.length xc2] y.vd x.vd ⟨_, _, rfl, jx jC _ _ _ _ (fun p hp => (jf) p (hK p hp)) hy1, jx jC _ _ _ _ (fun p hp => (jf) p (hK p hp)) hy2, hy3⟩ ⟨_, _, rfl, jx jC _ _ _ _ jf h1, jx jC _ _ _ _ jf h2, h3⟩)) rfl ?_
       by_cases hyx : y.vd = x.vd
       · have hf := Y3 hy hyx hno
         refine goA ?_
         refine j9 () trivial ?_ (fun w h => h.cnt jn)
         rw [hf]
         exact jr
       · refine goA ?_
         refine jh (i + 1) ⟨hil, fun z hz => ?_⟩ ?_ (fun w h => h.cnt jn) jd
         · rw [List.take_add_one, hy] at hz
           rcases List.mem_append.1 hz with hz | hz
           · exact hno z hz
           · rw [show z = y by simpa using hz]; exact hyx
         exact jr
     · have hie : i = vs.length := by omega
       subst hie
       rw [List.take_length] at hno
       have hf := VS hno
       refine goA ?_
       refine j9 () trivial ?_ (fun w h => h)
       rw [hf]
       exact jr
   · rintro _ _
     dsimp only
     obtain ⟨f', hf'⟩ : ∃ f, upd (jz l) x.up (2, (jK vs x.vd : Int)) = f := ⟨_, rfl⟩
     have hput : qM (kz want (jz l) (.slice a vs.length c)).toArray (0 + 1 + x.up.toNat * 2) [.int .u8 2, .int .i64 (jK vs x.vd : Nat)] = (kz want f' (.slice a vs.length c)).toArray := by
      rw [← hf', Nat.zero_add]
      exact W3 ⟨h20, h29⟩ (2, (jK vs x.vd : Int))
     have hsl : jz (l ++ [⟨x, false⟩]) = f' := by
      rw [W4 hl (x := ⟨x, false⟩) hp3 ⟨h20, h29⟩, ← hf', ← hvs]
      rfl
     have hvn : Vd.votesB (l ++ [⟨x, false⟩]) = vs ++ [x] := by rw [qz, hvs]; rfl
     have hKm : ∀ z ∈ [(bb, Obj.cells (kz want (jz l) (.slice a vs.length c)).toArray 165 (0, 0)), (bV, Obj.cells #[.int .i64 x.up, .int .u8 x.vd.code, .slice x1 x.vd.sets.length xc1, .slice x2 x.vd.soa.length xc2, .int .u32 x.time] 65 (0, 0))], z ∈ (bV, Obj.cells #[.int .i64 x.up, .int .u8 x.vd.code, .slice x1 x.vd.sets.length xc1, .slice x2 x.vd.soa.length xc2, .int .u32 x.time] 65 (0, 0)) :: ((bb, Obj.cells (kz want (jz l) (.slice a vs.length c)).toArray 165 (0, 0)) :: (B ++ L)) := by
      intro z hz
      simp only [List.mem_cons, List.not_mem_nil, or_false] at hz
      rcases hz with rfl | rfl <;> simp
     repeat (with_reducible refine kh ?_)
     refine jq jb ([(bb, Obj.cells (kz want (jz l) (.slice a vs.length c)).toArray 165 (0, 0)), (bV, Obj.cells #[.int .i64 x.up, .int .u8 x.vd.code, .slice x1 x.vd.sets.length xc1, .slice x2 x.vd.soa.length xc2, .int .u32 x.time] 65 (0, 0))]) [8] ?_
     refine tkQ 0 ?_
     refine tkQ 1 ?_
     refine tkQ 2 ?_
     refine tkQ 3 ?_
     (refine' jp 4 rfl rfl je (jL (jl rfl (QH _ _))) ?_ ?_; (· assumption))
     refine tkQ 5 ?_
     refine tkQ 6 ?_
     refine tkQ 7 ?_
     refine j6 (L' := (bb, Obj.cells (kz want (jz l) (.slice a vs.length c)).toArray 165 (0, 0)) :: ((bV, Obj.cells #[.int .i64 x.up, .int .u8 x.vd.code, .slice x1 x.vd.sets.length xc1, .slice x2 x.vd.soa.length xc2, .int .u32 x.time] 65 (0, 0)) :: (B ++ L))) ?_ jn
     refine jZ 8 je rfl rfl rfl (yx (cs := [.int .u8 2, .int .i64 (jK vs x.vd : Nat)]) rfl rfl stL (by intro v hv; simp only [List.mem_cons, List.not_mem_nil, or_false] at hv; rcases hv with rfl | rfl <;> rfl) (by rw [W2]; simp; omega)) ?_
     rintro _ _ ⟨_, rfl⟩
     refine ⟨Or.inl (by simp), ?_⟩
     refine tdQ ?_
     rw [hput]
     clear hKm
     have hKm : ∀ z ∈ [(bb, Obj.cells (kz want f' (.slice a vs.length c)).toArray 165 (0, 0)), (bV, Obj.cells #[.int .i64 x.up, .int .u8 x.vd.code, .slice x1 x.vd.sets.length xc1, .slice x2 x.vd.soa.length xc2, .int .u32 x.time] 65 (0, 0))], z ∈ (bb, Obj.cells (kz want f' (.slice a vs.length c)).toArray 165 (0, 0)) :: ((bV, Obj.cells #[.int .i64 x.up, .int .u8 x.vd.code, .slice x1 x.vd.sets.length xc1, .slice x2 x.vd.soa.length xc2, .int .u32 x.time] 65 (0, 0)) :: L) := by
      intro z hz
      simp only [List.mem_cons, List.not_mem_nil, or_false] at hz
      rcases hz with rfl | rfl <;> simp
     refine goA ?_
     refine jq jb ([(bb, Obj.cells (kz want f' (.slice a vs.length c)).toArray 165 (0, 0)), (bV, Obj.cells #[.int .i64 x.up, .int .u8 x.vd.code, .slice x1 x.vd.sets.length xc1, .slice x2 x.vd.soa.length xc2, .int .u32 x.time] 65 (0, 0))]) [11] ?_
     refine tkQ 0 ?_
     refine tkQ 1 ?_
     refine tkQ 2 ?_
     refine tkQ 3 ?_
     refine tkQ 4 ?_
     refine tkQ 5 ?_
     refine jF 6 je rfl rfl rfl rfl (jc je rfl (KY [.int .i64 x.up, .int .u8 x.vd.code, .slice x1 x.vd.sets.length xc1, .slice x2 x.vd.soa.length xc2, .int .u32 x.time] x (qf _ _ _ _ jf hx) hs)) ?_
     rintro _ _ ⟨a6, c6, B6, a7, c7, B7, N, rfl, h6, h7, hN, rfl⟩
     refine ⟨Or.inr (by exact (fun z hz => jW jn z (hKm z hz))), ?_⟩
     refine jF 7 je rfl rfl rfl rfl (qC etO rfl rfl (by decide)) ?_
     rintro _ _ ⟨bL, rfl, rfl⟩
     refine ⟨Or.inr (by exact (fun z hz => jW jn z (hKm z hz))), ?_⟩
     refine j6 (L' := (bL, Obj.cells #[.int .i64 x.up, .int .u8 x.vd.code, .slice a6 x.vd.sets.length c6, .slice a7 x.vd.soa.length c7, .int .u32 x.time] 65 (0, 0)) :: (B ++ ((bb, Obj.cells (kz want f' (.slice a vs.length c)).toArray 165 (0, 0)) :: ((bV, Obj.cells #[.int .i64 x.up, .int .u8 x.vd.code, .slice x1 x.vd.sets.length xc1, .slice x2 x.vd.soa.length xc2, .int .u32 x.time] 65 (0, 0)) :: ((B7 ++ (B6 ++ N)) ++ L))))) ?_ jn
     refine jF 8 je rfl rfl rfl rfl (uv (L0 := (B7 ++ (B6 ++ N)) ++ K) (cs := [.int .i64 x.up, .int .u8 x.vd.code, .slice a6 x.vd.sets.length c6, .slice a7 x.vd.soa.length c7, .int .u32 x.time]) (y := x) etO rfl rfl (hB.mono qf jf) rfl (fun v hv => by simp only [List.mem_cons, List.not_mem_nil, or_false] at hv; rcases hv with rfl | rfl | rfl | rfl | rfl <;> rfl) ⟨_, _, rfl, h6.sliceR jC jf jf, h7.sliceR jC jf jf, h3, h4, h5⟩ (by unfold maxLen; omega) jd) ?_
     rintro _ _ ⟨a8, c8, B8, rfl, hB8, rfl⟩
     refine ⟨Or.inr (by exact (fun z hz => jW jn z (hKm z hz))), ?_⟩
     refine tkQ 9 ?_
     refine tkQ 10 ?_
     refine j6 (L' := (bb, Obj.cells (kz want f' (.slice a vs.length c)).toArray 165 (0, 0)) :: (B8 ++ ((bV, Obj.cells #[.int .i64 x.up, .int .u8 x.vd.code, .slice x1 x.vd.sets.length xc1, .slice x2 x.vd.soa.length xc2, .int .u32 x.time] 65 (0, 0)) :: ((B7 ++ (B6 ++ N)) ++ L)))) ?_ jn
     refine jZ 11 je rfl rfl rfl (ul (C' := (kz want f' (.slice a8 (vs ++ [x]).length c8)).toArray) rfl rfl onO rfl rfl rfl) ?_
     rintro _ _ ⟨_, rfl⟩
     refine ⟨Or.inl (by simp), ?_⟩
     refine tdQ ?_
     refine goA ?_
     refine jJ (L' := (bb, Obj.cells (kz want f' (.slice a8 (vs ++ [x]).length c8)).toArray 165 (0, 0)) :: (B8 ++ ((B7 ++ (B6 ++ N)) ++ L))) ?_ (by exact jn)
     refine ji 4 _ rfl rfl ?_
     refine ⟨by rw [h0], _, B7 ++ (B6 ++ N), ⟨a8, c8, B8, ?_, rfl⟩, h7.wr.append (h6.wr.append hN), ?_⟩
     · rw [hp1, hvn]; exact hB8
     · rw [hp1, hvn, hsl]; rfl
 · have hp1 := VR (x := ⟨x, false⟩) h0
   rw [hp1]
   refine goA ?_
   refine jJ (L' := (bb, Obj.cells (kz want (jz l) (.slice a (Vd.votesB l).length c)).toArray 165 (0, 0)) :: (B ++ ([] ++ L))) ?_ jn
   refine ji 4 _ rfl rfl ?_
   exact ⟨rfl, _, [], ⟨a, c, B, hB, rfl⟩, Wr.nil, rfl⟩
end
section
open Go.RowKit
open Vd (RSet Vdt Vote Rec Quest Piece Ballot)
variable {G : World} {L : ja}
def Q4 (f : Nat → Nat) : List Value := [.int .i64 (f 0 : Nat), .int .i64 (f 1 : Nat), .int .i64 (f 2 : Nat), .int .i64 (f 3 : Nat), .int .i64 (f 4 : Nat), .int .i64 (f 5 : Nat), .int .i64 (f 6 : Nat), .int .i64 (f 7 : Nat), .int .i64 (f 8 : Nat)]
theorem W5 {f : Nat → Nat} {k : Nat} (h : k < 9) : (Q4 f).toArray[0 + (k : Int).toNat * 1]? = some (.int .i64 (f k : Nat)) := by
 match k, h with
 | 0, _ | 1, _ | 2, _ | 3, _ | 4, _ | 5, _ | 6, _ | 7, _ | 8, _ => rfl
theorem abZ {f g : Nat → Nat} {k : Nat} (h : k < 9) (hg : ∀ j, g j = f j + (if k = j then 1 else 0)) : (Q4 f).toArray.setIfInBounds (0 + (k : Int).toNat * 1) (.int .i64 ((f k : Nat) + 1 : Int)) = (Q4 g).toArray := by
 match k, h with
 | 0, _ | 1, _ | 2, _ | 3, _ | 4, _ | 5, _ | 6, _ | 7, _ | 8, _ => simp [Q4, hg]
def zM (want : Int) (vs : List Vote) : (Int × Int) × Bool := if want < 1 then ((0, 0), false) else match ky want vs vs.length with
 | none => ((0, 0), false)
 | some j => match vs[j]? with
   | some x => ((2, (jK vs x.vd : Int)), true)
   | none => ((0, 0), false)
theorem U0 {K : ja} (bb : Nat) (want : Int) (l : List Ballot) (a : Option Addr) (c : Nat) (hm : (bb, Obj.cells (kz want (jz l) (.slice a (Vd.votesB l).length c)).toArray 165 (0, 0)) ∈ L) (hv : sliceR 5 (fun _ => voteR K) L [.slice a (Vd.votesB l).length c] (Vd.votesB l)) (hl : BoxOk l) (hn : l.length ≤ 9) :
 Spec Tryz.prog G 191 #[.pointer (some ⟨bb, 0, none⟩)] L fun w M => w = .tuple #[.agg #[.int .u8 (zM want (Vd.votesB l)).1.1, .int .i64 (zM want (Vd.votesB l)).1.2], .bool (zM want (Vd.votesB l)).2] ∧ M = L := by
 obtain ⟨vs, hvs⟩ : ∃ vs, Vd.votesB l = vs := ⟨_, rfl⟩
 have hvl := j7 l
 rw [hvs] at hm hv hvl ⊢
 have g0 : (kz want (jz l) (.slice a vs.length c)).toArray[0 + 0]? = some (.int .i64 want) := rfl
 have g19 : (kz want (jz l) (.slice a vs.length c)).toArray[0 + 19]? = some (.slice a vs.length c) := rfl
 refine jm (n := 52) Tryz.func191 rfl rfl rfl ?_
 refine kh (jY (j0 (kk (C := #[.int .u8 0, .int .i64 0]) zeO rfl) rfl ?_))
 intro b2
 by_cases hw : want < 1
 · have hW : zM want vs = ((0, 0), false) := if_pos hw
   rw [hW]
   repeat (first | refine goA ?_ | refine jB (jl rfl (VE )) rfl ?_)
   refine kB 2 162 3 rfl rfl rfl stO (by repeat (exact List.mem_cons_self)) rfl (fun w h => Heap.cnt (L' := L) h jn) ?_
   exact ⟨rfl, rfl⟩
 · have hw1 : 1 ≤ want := by omega
   repeat (first | refine goA ?_ | (refine jO ?_; intro bNew))
   obtain ⟨b4, hb4⟩ : ∃ b, bNew = b := ⟨_, rfl⟩
   rw [hb4]
   clear hb4 bNew
   refine jy (σ := Nat) (fun i => i ≤ vs.length ∧ ky want vs i = none) (fun i => [(0, .pointer (some ⟨bb, 0, none⟩)), (2, .pointer (some ⟨b2, 0, none⟩)), (3, .bool false), (4, .pointer (some ⟨b4, 0, none⟩)), (21, .slice a vs.length c), (22, .int .i64 (vs.length : Nat)), (23, .int .i64 (i : Nat))]) (fun i => (b4, Obj.cells (Q4 (yE vs i)).toArray 47 (0, 0)) :: ((b2, Obj.cells #[.int .u8 0, .int .i64 0] 162 (0, 0)) :: L)) (fun i => vs.length - i) 0 ⟨Nat.zero_le _, rfl⟩ ?_ (fun w h => h) ?_
   exact jr
   rintro i ⟨hi, hno⟩
   by_cases hil : i < vs.length
   · obtain ⟨y, hy⟩ : ∃ y, vs[i]? = some y := ⟨_, List.getElem?_eq_getElem hil⟩
     have hym := List.mem_of_getElem? hy
     obtain ⟨_, kv1, kv2, hvc⟩ := sliceR.cut hv
     rcases hvc with h1 | ⟨bc, oc, cur, tc, fc, rfl, mc, hcur⟩
     · rw [h1] at hil; simp at hil
     obtain ⟨csy, _, hyv, hcy⟩ := hcur i y hy
     obtain ⟨y1, yc1, y2, yc2, rfl, hy1, hy2, hy3, hy4, hy5⟩ := hyv.vals
     obtain ⟨b, hb1, hb2, hb3⟩ := votesB_mem.1 (by rw [hvs]; exact hym)
     have hup : 0 ≤ y.up ∧ y.up < 9 := by rw [← hb3]; exact hl.up b hb1
     obtain ⟨hu0, hu9⟩ := hup
     have hsl : jz l y.up = (2, (jK vs y.vd : Int)) := by rw [← hvs]; exact qP hl (by rw [hvs]; exact hym)
     have hfl := (qW hym).1
     refine goA ?_
     refine jB (jA [.int .i64 y.up, .int .u8 y.vd.code, .slice y1 y.vd.sets.length yc1, .slice y2 y.vd.soa.length yc2, .int .u32 y.time] rfl stL (List.mem_cons_of_mem _ (List.mem_cons_of_mem _ mc)) hcy) rfl ?_
     repeat (first | refine goA ?_ | (refine jO ?_; intro bNew))
     obtain ⟨b6, hb6⟩ : ∃ b, bNew = b := ⟨_, rfl⟩
     rw [hb6]
     clear hb6 bNew
     have hslip : ∀ j v, ([.int .u8 2, .int .i64 (jK vs y.vd : Nat)] : List Value)[j]? = some v → (kz want (jz l) (.slice (some ⟨bc, oc, none⟩) vs.length c)).toArray[0 + 1 + y.up.toNat * 2 + j]? = some v := fun j v hj => by
      rw [Nat.zero_add]
      match j, hj with
      | 0, hj => obtain rfl := Option.some.inj hj; rw [J5 ⟨hu0, hu9⟩, hsl]
      | 1, hj => obtain rfl := Option.some.inj hj; rw [Q1 ⟨hu0, hu9⟩, hsl]
     have hKm : ∀ z ∈ [(b6, Obj.cells #[.int .i64 y.up, .int .u8 y.vd.code, .slice y1 y.vd.sets.length yc1, .slice y2 y.vd.soa.length yc2, .int .u32 y.time] 65 (0, 0)), (bb, Obj.cells (kz want (jz l) (.slice (some ⟨bc, oc, none⟩) vs.length c)).toArray 165 (0, 0))], z ∈ (b6, Obj.cells #[.int .i64 y.up, .int .u8 y.vd.code, .slice y1 y.vd.sets.length yc1, .slice y2 y.vd.soa.length yc2, .int .u32 y.time] 65 (0, 0)) :: ((b4, Obj.cells (Q4 (yE vs i)).toArray 47 (0, 0)) :: ((b2, Obj.cells #[.int .u8 0, .int .i64 0] 162 (0, 0)) :: L)) := by
      intro z hz
      simp only [List.mem_cons, List.not_mem_nil, or_false] at hz
      rcases hz with rfl | rfl
      · simp
      · exact List.mem_cons_of_mem _ (List.mem_cons_of_mem _ (List.mem_cons_of_mem _ hm))
     refine uK (σ := Nat) (fun _ => True) (fun b7 => [(0, .pointer (some ⟨bb, 0, none⟩)), (2, .pointer (some ⟨b2, 0, none⟩)), (3, .bool false), (4, .pointer (some ⟨b4, 0, none⟩)), (7, .pointer (some ⟨b7, 0, none⟩)), (21, .slice (some ⟨bc, oc, none⟩) vs.length c), (22, .int .i64 (vs.length : Nat)), (23, .int .i64 (i : Nat))]) (fun b7 => (b4, Obj.cells (Q4 (yE vs i)).toArray 47 (0, 0)) :: ((b7, Obj.cells #[.int .u8 2, .int .i64 (jK vs y.vd : Nat)] 162 (0, 0)) :: ((b2, Obj.cells #[.int .u8 0, .int .i64 0] 162 (0, 0)) :: L))) ?_ ?_
     · skip
       refine jq jb ([(b6, Obj.cells #[.int .i64 y.up, .int .u8 y.vd.code, .slice y1 y.vd.sets.length yc1, .slice y2 y.vd.soa.length yc2, .int .u32 y.time] 65 (0, 0)), (bb, Obj.cells (kz want (jz l) (.slice (some ⟨bc, oc, none⟩) vs.length c)).toArray 165 (0, 0))]) [] ?_
       refine tkQ 0 ?_
       refine tkQ 1 ?_
       refine tkQ 2 ?_
       refine tkQ 3 ?_
       refine tkQ 4 ?_
       refine tkQ 5 ?_
       (refine' jp 6 rfl rfl je (jL (jA [.int .u8 2, .int .i64 (jK vs y.vd : Nat)] rfl stL (List.mem_cons_of_mem _ (List.mem_cons_self ..)) hslip)) ?_ ?_; (· assumption))
       refine jF 7 je rfl rfl rfl rfl (kk (C := #[.int .u8 0, .int .i64 0]) zeO rfl) ?_
       rintro _ _ ⟨b7, rfl, rfl⟩
       refine ⟨Or.inr (by exact (fun z hz => jW jn z (hKm z hz))), ?_⟩
       refine jZ 8 je rfl rfl rfl (qg rfl rfl stO rfl rfl rfl) ?_
       rintro _ _ ⟨_, rfl⟩
       refine ⟨Or.inr (by exact (fun z hz => jW jn z (hKm z hz))), ?_⟩
       refine tdQ ?_
       refine j9 b7 trivial ?_ (fun w h => h.cnt jn)
       exact jr
     · rintro b7 _
       clear hKm
       have hf9 : jK vs y.vd < 9 := by omega
       have hcb : yE vs i (jK vs y.vd) ≤ 9 := Nat.le_trans List.countP_le_length (by rw [List.length_take]; omega)
       have gc := W5 (f := yE vs i) hf9
       have gc2 := W5 (f := yE vs (i + 1)) hf9
       have gs := abZ (f := yE vs i) (g := yE vs (i + 1)) hf9 (fun j => aar hy j)
       have hcw := aaq (i + 1) hym
       have hex := UR hw1 hy hno
       have hws := yD hy hno
       refine goE ?_
       refine qG (C' := (Q4 (yE vs (i + 1))).toArray) rfl rfl onO rfl gc gs ?_
       have hK : ∀ z ∈ (b4, Obj.cells (Q4 (yE vs (i + 1))).toArray 47 (0, 0)) :: ((b7, Obj.cells #[.int .u8 2, .int .i64 (jK vs y.vd : Nat)] 162 (0, 0)) :: ((b2, Obj.cells #[.int .u8 0, .int .i64 0] 162 (0, 0)) :: L)), z ∈ (b4, Obj.cells (Q4 (yE vs (i + 1))).toArray 47 (0, 0)) :: ((b7, Obj.cells #[.int .u8 2, .int .i64 (jK vs y.vd : Nat)] 162 (0, 0)) :: ((b2, Obj.cells #[.int .u8 0, .int .i64 0] 162 (0, 0)) :: L)) := fun z h => h
       refine goA ?_
       refine jq jb ((b4, Obj.cells (Q4 (yE vs (i + 1))).toArray 47 (0, 0)) :: ((b7, Obj.cells #[.int .u8 2, .int .i64 (jK vs y.vd : Nat)] 162 (0, 0)) :: ((b2, Obj.cells #[.int .u8 0, .int .i64 0] 162 (0, 0)) :: L))) [] ?_
       refine tkQ 0 ?_
       refine tkQ 1 ?_
       refine tkQ 2 ?_
       refine tkQ 3 ?_
       refine tkQ 4 ?_
       refine tkQ 5 ?_
       refine tkQ 6 ?_
       refine tkQ 7 ?_
       refine tkQ 8 ?_
       refine tdQ ?_
       by_cases hwin : ((jR (vs.take (i + 1)) y.vd).length : Int) = want
       · have hwon : ky want vs (i + 1) = some i := by rw [hws, if_pos (hex.2 hwin)]
         have hW : zM want vs = ((2, (jK vs y.vd : Int)), true) := by
          unfold zM
          rw [if_neg hw, zT (i + 1) vs.length jd hwon]
          dsimp only
          rw [hy]
         rw [hW]
         have hwin' : ((yE vs (i + 1) (jK vs y.vd) : Nat) : Int) = want := by rw [hcw]; exact hwin
         refine goA ?_
         refine jH (L' := (b2, Obj.cells #[.int .u8 0, .int .i64 0] 162 (0, 0)) :: L) ?_ jn
         refine goA ?_
         refine kB 2 162 3 rfl rfl rfl stO (by repeat (exact List.mem_cons_self)) rfl (fun w h => Heap.cnt (L' := L) h jn) ?_
         exact ⟨rfl, rfl⟩
       · have hwin' : ¬ ((yE vs (i + 1) (jK vs y.vd) : Nat) : Int) = want := by rw [hcw]; exact hwin
         have hno' : ky want vs (i + 1) = none := by rw [hws, if_neg (fun h => hwin (hex.1 h))]
         refine goA ?_
         refine jh (i + 1) ⟨hil, hno'⟩ ?_ (fun w h => h.cnt jn) jd
         exact jr
   · have hie : i = vs.length := by omega
     subst hie
     have hW : zM want vs = ((0, 0), false) := by unfold zM; rw [if_neg hw, hno]
     rw [hW]
     repeat (first | refine goA ?_ | refine jB (jl rfl (VE )) rfl ?_)
     refine jH (L' := (b2, Obj.cells #[.int .u8 0, .int .i64 0] 162 (0, 0)) :: L) ?_ jn
     refine goA ?_
     refine kB 2 162 3 rfl rfl rfl stO (by repeat (exact List.mem_cons_self)) rfl (fun w h => Heap.cnt (L' := L) h jn) ?_
     exact ⟨rfl, rfl⟩
end
section
open Go.RowKit
open Vd (RSet Vdt Vote Rec Quest Piece Ballot)
variable {G : World} {L : ja}
def Q5 (L : ja) (vs : List Vote) (u : Value) (M : ja) : Prop := ∃ a c B N, u = .slice a vs.length c ∧ ORow voteR 65 5 N a c vs B ∧ Wr N ∧ M = B ++ (N ++ L)
theorem Jv (v : Value) (vs : List Vote) (hv : sliceR 5 voteR L [v] vs) (hn : vs.length ≤ 100) (hs : ∀ x ∈ vs, SmV x.vd) : Spec Tryz.prog G 73 #[v] L (Q5 L vs) := by
 obtain ⟨a0, c0, e1, hv⟩ := hv.val
 simp only [List.cons.injEq, and_true] at e1
 subst e1
 obtain ⟨_, ka1, ka2, hv⟩ := sliceR.cut hv
 refine jm (n := 19) Tryz.func73 rfl rfl rfl ?_
 refine goA ?_
 refine jy (σ := Nat × Option Addr × Nat × ja × ja) (fun x => x.1 ≤ vs.length ∧ ORow voteR 65 5 x.2.2.2.2 x.2.1 x.2.2.1 (vs.take x.1) x.2.2.2.1 ∧ Wr x.2.2.2.2) (fun x => [(3, .slice x.2.1 (vs.take x.1).length x.2.2.1), (6, .slice a0 vs.length c0), (7, .int .i64 (vs.length : Nat)), (8, .int .i64 (x.1 : Nat))]) (fun x => x.2.2.2.1 ++ (x.2.2.2.2 ++ L)) (fun x => vs.length - x.1) (0, none, 0, [], []) ⟨Nat.zero_le _, ORow.nil _, Wr.nil⟩ ?_ (fun w h => h) ?_
 exact jr
 rintro ⟨k, a, c, B, N⟩ ⟨hk, hB, hN⟩
 dsimp only at hk hB hN ⊢
 by_cases hlt : k < vs.length
 · obtain ⟨x, hx⟩ : ∃ x, vs[k]? = some x := ⟨_, List.getElem?_eq_getElem hlt⟩
   have htk : vs.take (k + 1) = vs.take k ++ [x] := by rw [List.take_add_one, hx]; rfl
   have htl : (vs.take k).length ≤ 100 := by rw [List.length_take]; omega
   rcases hv with rfl | ⟨b1, o1, C1, t1, f1, rfl, m1, q1⟩
   · simp at hlt
   obtain ⟨cx, _, hx2, hcx⟩ := q1 k x hx
   have hx0 := hx2
   obtain ⟨x1, xc1, x2, xc2, rfl, hx3, hx4, hcode, htm, hup⟩ := hx0.vals
   have m1' : (b1, Obj.cells C1 t1 f1) ∈ B ++ (N ++ L) := List.mem_append_right _ (List.mem_append_right _ m1)
   refine goA ?_
   refine jB (jA [.int .i64 x.up, .int .u8 x.vd.code, .slice x1 x.vd.sets.length xc1, .slice x2 x.vd.soa.length xc2, .int .u32 x.time] rfl stL m1' hcx) rfl ?_
   repeat (first | refine goA ?_ | (refine jO ?_; intro bNew))
   refine jw (jc je rfl (KY _ x (qf _ _ _ _ jf hx2) (hs x (List.mem_of_getElem? hx)))) rfl ?_
   rintro _ _ ⟨a6, c6, B6, a7, c7, B7, N6, rfl, h6, h7, hN6, rfl⟩
   repeat (refine j0 (qC etO rfl rfl (by decide)) rfl ?_; intro bLit)
   refine jH (L' := (bLit, Obj.cells #[.int .i64 x.up, .int .u8 x.vd.code, .slice a6 x.vd.sets.length c6, .slice a7 x.vd.soa.length c7, .int .u32 x.time] 65 (0, 0)) :: (B ++ (((B7 ++ (B6 ++ N6)) ++ N) ++ L))) ?_ jn
   refine jw (uv (L0 := (B7 ++ (B6 ++ N6)) ++ N) (cs := [.int .i64 x.up, .int .u8 x.vd.code, .slice a6 x.vd.sets.length c6, .slice a7 x.vd.soa.length c7, .int .u32 x.time]) (y := x) etO rfl rfl (hB.mono qf jf) rfl (fun v hv => by simp only [List.mem_cons, List.not_mem_nil, or_false] at hv; rcases hv with rfl | rfl | rfl | rfl | rfl <;> rfl) ⟨_, _, rfl, h6.sliceR jC jf jf, h7.sliceR jC jf jf, hcode, htm, hup⟩ (by unfold maxLen; omega) jd) rfl ?_
   rintro _ _ ⟨a', c', B', rfl, hB', rfl⟩
   refine goA ?_
   refine jh (k + 1, a', c', B', (B7 ++ (B6 ++ N6)) ++ N) ⟨hlt, by dsimp only; rw [htk]; exact hB', (h7.wr.append (h6.wr.append hN6)).append hN⟩ ?_ (fun w h => h.cnt jn) (by dsimp only; omega)
   dsimp only
   rw [htk]
   exact jr
 · have hkn : k = vs.length := by omega
   subst hkn
   rw [List.take_length] at hB ⊢
   refine goA ?_
   refine ji 2 _ rfl rfl ?_
   exact ⟨a, c, B, N, rfl, hB, hN, rfl⟩
theorem ab0 (bb : Nat) (want : Int) (f : Int → Int × Int) (vs : List Vote) (a : Option Addr) (c : Nat) (hm : (bb, Obj.cells (kz want f (.slice a vs.length c)).toArray 165 (0, 0)) ∈ L) (hv : sliceR 5 voteR L [.slice a vs.length c] vs) (hn : vs.length ≤ 100) (hs : ∀ x ∈ vs, SmV x.vd) :
 Spec Tryz.prog G 210 #[.pointer (some ⟨bb, 0, none⟩)] L (Q5 L vs) := by
 have g19 : (kz want f (.slice a vs.length c)).toArray[0 + 19]? = some (.slice a vs.length c) := rfl
 refine jm (n := 10) Tryz.func210 rfl rfl rfl ?_
 refine goA ?_
 refine jw (jc je rfl (Jv _ vs hv hn hs)) rfl ?_
 rintro _ _ ⟨a1, c1, B, N, rfl, hB, hN, rfl⟩
 refine goA ?_
 refine ji 2 _ rfl rfl ?_
 exact ⟨a1, c1, B, N, rfl, hB, hN, rfl⟩
end
section
open Go.RowKit
open Vd (RSet Vdt Vote Rec Quest Piece Ballot)
variable {G : World} {L : ja}
theorem adJ {l : List Int} {a : Option Addr} {c : Nat} (h : sliceR 1 (uj .i64) L [.slice a l.length c] l) {i : Nat} {x : Int} (hx : l[i]? = some x) : ∃ b off C te fr, a = some ⟨b, off, none⟩ ∧ (b, Obj.cells C te fr) ∈ L ∧ C[off + i * 1]? = some (.int .i64 x) := by
 obtain ⟨_, _, _, h4⟩ := sliceR.cut h
 rcases h4 with rfl | ⟨b, off, C, te, fr, q1, q2, q3⟩
 · simp at hx
 · obtain ⟨cs', _, ⟨k2, _⟩, k3⟩ := q3 i x hx
   subst k2
   exact ⟨b, off, C, te, fr, q1, q2, k3 0 _ rfl⟩
end
section
open Vd (RSet Vdt Vote Rec Quest Piece Ballot)
def nine : List Int := [0, 1, 2, 3, 4, 5, 6, 7, 8]
theorem mem_nine {x : Int} : x ∈ nine ↔ 0 ≤ x ∧ x < 9 := by
 unfold nine
 simp only [List.mem_cons, List.not_mem_nil, or_false]
 omega
theorem nine_nodup : nine.Nodup := by unfold nine; decide
theorem nine_lt : nine.Pairwise (· < ·) := by unfold nine; decide
theorem Q6 : ∀ {l : List Int}, l.Nodup → ∀ a, l.filter (fun x => x == a) = if a ∈ l then [a] else []
 | [], _, a => by simp
 | x :: l, h, a => by
   have hx : x ∉ l := (List.nodup_cons.1 h).1
   have ih := Q6 (List.nodup_cons.1 h).2 a
   by_cases e : x = a
   · subst e
     rw [List.filter_cons_of_pos (by simp), ih, if_neg hx, if_pos (List.mem_cons_self ..)]
   · rw [List.filter_cons_of_neg (by simpa using e), ih]
     have : a ∈ x :: l ↔ a ∈ l := by simp [Ne.symm e]
     simp only [this]
theorem KZ (p : Int → Bool) : ∀ l : List Int, l.flatMap (fun n => if p n then [n] else []) = l.filter p
 | [] => rfl
 | x :: l => by
   rw [List.flatMap_cons, KZ p l]
   cases h : p x <;> simp [h]
theorem uB {l : List Int} (h : l.Nodup) : kI l = nine.filter fun x => decide (x ∈ l) := by
 have h1 : kI l = nine.flatMap fun x => if decide (x ∈ l) = true then [x] else [] := by
  unfold kI nine
  simp only [Q6 h, decide_eq_true_eq]
  rfl
 rw [h1]
 exact KZ _ _
theorem Y4 {l : List Int} (h : l.Nodup) (h9 : ∀ x ∈ l, 0 ≤ x ∧ x < 9) (x : Int) : x ∈ kI l ↔ x ∈ l := by
 rw [uB h, List.mem_filter, mem_nine]
 simp only [decide_eq_true_eq]
 exact ⟨fun k => k.2, fun k => ⟨h9 x k, k⟩⟩
theorem VT {l : List Int} (h : l.Nodup) : (kI l).Nodup := by
 rw [uB h]
 exact nine_nodup.filter _
theorem K0 {l : List Int} (h : l.Nodup) (h9 : ∀ x ∈ l, 0 ≤ x ∧ x < 9) : (kI l).Perm l :=
 (List.perm_ext_iff_of_nodup (VT h) h).2 fun x => Y4 h h9 x
theorem zX {l : List Int} (h : l.Nodup) (h9 : ∀ x ∈ l, 0 ≤ x ∧ x < 9) : (kI l).length = l.length := (K0 h h9).length_eq
theorem aaF {l : List Int} (h : l.Nodup) : (kI l).Pairwise (· < ·) := by
 rw [uB h]
 exact nine_lt.filter _
structure Vup (vs : List Vote) : Prop where
 nd : (vs.map (·.up)).Nodup
 up : ∀ x ∈ vs, 0 ≤ x.up ∧ x.up < 9
theorem BoxOk.vup {l : List Ballot} (h : BoxOk l) : Vup (Vd.votesB l) := by
 refine ⟨?_, fun x hx => ?_⟩
 · have : (Vd.votesB l).map (·.up) = (l.filter fun b => !b.pass).map (fun b => b.v.up) := by
    unfold Vd.votesB
    rw [List.map_map]
    rfl
   rw [this]
   exact h.nd.sublist (List.Sublist.map _ (List.filter_sublist))
 · obtain ⟨b, hb, _, rfl⟩ := votesB_mem.1 hx
   exact h.up b hb
theorem Vup.sub {vs ws : List Vote} (h : Vup vs) (s : ws.Sublist vs) : Vup ws := ⟨h.nd.sublist (s.map _), fun x hx => h.up x (s.subset hx)⟩
theorem Vup.filter {vs : List Vote} (h : Vup vs) (p : Vote → Bool) : Vup (vs.filter p) := h.sub List.filter_sublist
theorem Vup.take {vs : List Vote} (h : Vup vs) (n : Nat) : Vup (vs.take n) := h.sub (List.take_sublist ..)
theorem Vup.perm {vs ws : List Vote} (h : Vup vs) (p : vs.Perm ws) : Vup ws := ⟨(p.map _).nodup h.nd, fun x hx => h.up x (p.mem_iff.2 hx)⟩
theorem Vup.ups {vs : List Vote} (h : Vup vs) : ∀ x ∈ vs.map (·.up), 0 ≤ x ∧ x < 9 := by
 intro x hx
 obtain ⟨y, hy, rfl⟩ := List.mem_map.1 hx
 exact h.up y hy
theorem Vup.inj {vs : List Vote} (h : Vup vs) {x y : Vote} (hx : x ∈ vs) (hy : y ∈ vs) (e : x.up = y.up) : x = y := by
 obtain ⟨i, hi, rfl⟩ := List.getElem_of_mem hx
 obtain ⟨j, hj, rfl⟩ := List.getElem_of_mem hy
 have hp := List.nodup_iff_pairwise_ne.1 h.nd
 rcases Nat.lt_trichotomy i j with h1 | h1 | h1
 · have := List.pairwise_iff_getElem.1 hp i j (by simpa using hi) (by simpa using hj) h1
   simp only [List.getElem_map] at this
   exact absurd e this
 · subst h1; rfl
 · have := List.pairwise_iff_getElem.1 hp j i (by simpa using hj) (by simpa using hi) h1
   simp only [List.getElem_map] at this
   exact absurd e.symm this
theorem Vup.len {vs : List Vote} (h : Vup vs) : vs.length ≤ 9 := by
 have h1 := zX h.nd h.ups
 rw [List.length_map] at h1
 have h2 : (kI (vs.map (·.up))).length ≤ nine.length := by
  rw [uB h.nd]
  exact List.length_filter_le _ _
 have : nine.length = 9 := rfl
 omega
theorem withV_mem {vs : List Vote} {v : Vdt} {x : Vote} : x ∈ jR vs v ↔ x ∈ vs ∧ x.vd = v := by
 unfold jR
 rw [List.mem_filter, decide_eq_true_eq]
def uV : List Vote → Int
 | [] => 0
 | w :: r => r.foldl (fun t v => min t v.time) w.time
theorem yJ (w : Vote) (r : List Vote) : uV (w :: r) = r.foldl (fun t v => min t v.time) w.time := rfl
theorem Qy : ∀ (l : List Vote) (s : Int), l.foldl (fun t v => min t v.time) s ≤ s ∧ ∀ x ∈ l, l.foldl (fun t v => min t v.time) s ≤ x.time
 | [], s => ⟨Int.le_refl _, by simp⟩
 | x :: l, s => by
   obtain ⟨h1, h2⟩ := Qy l (min s x.time)
   rw [List.foldl_cons]
   refine ⟨by omega, fun y hy => ?_⟩
   rcases List.mem_cons.1 hy with rfl | hy
   · omega
   · exact h2 y hy
theorem Qz : ∀ (l : List Vote) (s : Int), l.foldl (fun t v => min t v.time) s = s ∨ ∃ x ∈ l, l.foldl (fun t v => min t v.time) s = x.time
 | [], s => Or.inl rfl
 | x :: l, s => by
   rw [List.foldl_cons]
   rcases Qz l (min s x.time) with h | ⟨y, hy, h⟩
   · by_cases hx : x.time ≤ s
     · exact Or.inr ⟨x, List.mem_cons_self .., by omega⟩
     · exact Or.inl jd
   · exact Or.inr ⟨y, List.mem_cons_of_mem _ hy, h⟩
theorem Y5 {l : List Vote} {x : Vote} (h : x ∈ l) : l.foldl (fun t v => min t v.time) x.time = uV l := by
 cases l with
 | nil => simp at h
 | cons w r =>
   have h1 := Qy (w :: r) x.time
   have h2 := Qz (w :: r) x.time
   have h3 := Qy r w.time
   have h4 := Qz r w.time
   rw [yJ]
   obtain ⟨a, ha⟩ : ∃ a, (w :: r).foldl (fun t v => min t v.time) x.time = a := ⟨_, rfl⟩
   obtain ⟨b, hb⟩ : ∃ b, r.foldl (fun t v => min t v.time) w.time = b := ⟨_, rfl⟩
   rw [ha] at h1 h2 ⊢
   rw [hb] at h3 h4 ⊢
   have hax : ∀ y ∈ w :: r, a ≤ y.time := h1.2
   have hbx : ∀ y ∈ w :: r, b ≤ y.time := fun y hy => by
    rcases List.mem_cons.1 hy with rfl | hy
    · exact h3.1
    · exact h3.2 y hy
   have hab : b ≤ a := by
    rcases h2 with h2 | ⟨y, hy, h2⟩
    · rw [h2]; exact hbx x h
    · rw [h2]; exact hbx y hy
   have hba : a ≤ b := by
    rcases h4 with h4 | ⟨y, hy, h4⟩
    · rw [h4]; exact hax w (List.mem_cons_self ..)
    · rw [h4]; exact hax y (List.mem_cons_of_mem _ hy)
   omega
theorem Y6 (l : List Vote) (x : Vote) : uV (l ++ [x]) = if l.length = 0 ∨ x.time < uV l then x.time else uV l := by
 cases l with
 | nil => rfl
 | cons w r =>
   have h0 : ¬ (w :: r).length = 0 := by simp
   rw [List.cons_append, yJ, yJ, List.foldl_append]
   simp only [List.foldl_cons, List.foldl_nil, h0, false_or]
   split <;> omega
theorem ab1 {l : List Vote} (h : ∀ x ∈ l, 0 ≤ x.time ∧ x.time ≤ 4294967295) : 0 ≤ uV l ∧ uV l ≤ 4294967295 := by
 cases l with
 | nil => simp [uV]
 | cons w r =>
   have h1 := Qy r w.time
   have h2 := Qz r w.time
   have hw := h w (List.mem_cons_self ..)
   rw [yJ]
   rcases h2 with h2 | ⟨y, hy, h2⟩
   · rw [h2]; exact hw
   · rw [h2]; exact h y (List.mem_cons_of_mem _ hy)
theorem Jw {want : Int} {vs : List Vote} {k : Nat} : ∀ i, ky want vs i = some k → k < i ∧ ky want vs k = none ∧ ∃ x, vs[k]? = some x ∧ want ≤ ((jR (vs.take (k + 1)) x.vd).length : Int)
 | 0, h => by simp [ky] at h
 | i + 1, h => by
   cases h1 : ky want vs i with
   | some j =>
     rw [ky, h1] at h
     obtain rfl := Option.some.inj h
     obtain ⟨a, b⟩ := Jw i h1
     exact ⟨by omega, b⟩
   | none =>
     cases h2 : vs[i]? with
     | none => rw [ky, h1, h2] at h; cases h
     | some x =>
       rw [yD h2 h1] at h
       split at h
       · rename_i hw
         obtain rfl := Option.some.inj h
         exact ⟨by omega, h1, x, h2, hw⟩
       · cases h
structure WonBy (want : Int) (vs : List Vote) (j : Nat) (x : Vote) : Prop where
 at_ : vs[j]? = some x
 no : ky want vs j = none
 yes : ky want vs vs.length = some j
 len : ((jR (vs.take (j + 1)) x.vd).length : Int) = want
 is : qr want vs = (x.vd, uV (jR (vs.take (j + 1)) x.vd), kI ((jR (vs.take (j + 1)) x.vd).map (·.up)), true)
theorem ab2 {want : Int} (hw : 1 ≤ want) (vs : List Vote) : (ky want vs vs.length = none ∧ qr want vs = (Vdt.none, 0, [], false)) ∨ ∃ j x, WonBy want vs j x := by
 cases h : ky want vs vs.length with
 | none => exact Or.inl ⟨rfl, by unfold qr; rw [h]⟩
 | some j =>
   obtain ⟨h1, h2, x, hx, h3⟩ := Jw _ h
   refine Or.inr ⟨j, x, hx, h2, h, (UR hw hx h2).1 h3, ?_⟩
   unfold qr
   rw [h]
   dsimp only
   rw [hx]
   dsimp only
   rw [Y5]
   refine withV_mem.2 ⟨?_, rfl⟩
   rw [List.mem_take_iff_getElem]
   obtain ⟨hj, hjx⟩ := List.getElem?_eq_some_iff.1 hx
   exact ⟨j, by omega, hjx⟩
theorem most_le {vs ws : List Vote} {m : Int} : ∀ {n : Int}, ws.foldl (fun m x => max m ((jR vs x.vd).length : Int)) n ≤ m ↔ n ≤ m ∧ ∀ x ∈ ws, ((jR vs x.vd).length : Int) ≤ m := by
 induction ws with
 | nil => intro n; simp
 | cons w r ih =>
   intro n
   rw [List.foldl_cons, ih]
   simp only [List.mem_cons, forall_eq_or_imp]
   constructor
   · rintro ⟨h1, h2⟩; exact ⟨by omega, by omega, h2⟩
   · rintro ⟨h1, h2, h3⟩; exact ⟨by omega, h3⟩
theorem mostR_le {vs : List Vote} {m : Int} : qO vs ≤ m ↔ 0 ≤ m ∧ ∀ x ∈ vs, ((jR vs x.vd).length : Int) ≤ m := most_le
theorem ab3 {vs : List Vote} {x : Vote} (h : x ∈ vs) : ((jR vs x.vd).length : Int) ≤ qO vs := (mostR_le.1 (Int.le_refl _)).2 x h
theorem zD (vs : List Vote) : 0 ≤ qO vs := (mostR_le.1 (Int.le_refl _)).1
theorem W6 {l : List Int} (h : l.Nodup) (h9 : ∀ x ∈ l, 0 ≤ x ∧ x < 9) : (l.mergeSort fun x y => decide (x ≤ y)) = kI l := by
 refine List.Perm.eq_of_pairwise (le := fun x y => x ≤ y) (fun a b _ _ h1 h2 => Int.le_antisymm h1 h2) ?_ ((aaF h).imp fun h => Int.le_of_lt h) ((List.mergeSort_perm _ _).trans (K0 h h9).symm)
 have := List.pairwise_mergeSort (le := fun x y : Int => decide (x ≤ y)) (fun a b c h1 h2 => by simp only [decide_eq_true_eq] at *; omega) (fun a b => by simp only [Bool.or_eq_true, decide_eq_true_eq]; omega) l
 exact this.imp fun h => of_decide_eq_true h
end
section
open Go.RowKit
open Vd (RSet Vdt Vote Rec Quest Piece Ballot Said)
variable {G : World} {L : ja}
def akH : Rp Said := fun L cs s => ∃ cm, cs = .int .i64 s.up :: (cm ++ [.int .u32 s.time]) ∧ msgR L cm s.m ∧ (0 ≤ s.time ∧ s.time ≤ 4294967295) ∧ (-9223372036854775808 ≤ s.up ∧ s.up ≤ 9223372036854775807)
theorem msgR.len {L : ja} {cs : List Value} {m : Vd.Msg} (h : msgR L cs m) : cs.length = 21 := by
 obtain ⟨h0, h1, h2, h3, h4, h5, h6, h7, h8, h9, q, a, b, x, k, e0, e1, e2, e3, e4, rfl, _⟩ := h
 rfl
def adK (m : Vd.Msg) : Prop := m.answers.length ≤ 10000 ∧ (∀ x ∈ m.answers, x.name.length ≤ 1000000 ∧ x.data.length ≤ 1000000) ∧ m.auth.length ≤ 10000 ∧ (∀ x ∈ m.auth, x.name.length ≤ 1000000 ∧ x.data.length ≤ 1000000)
theorem ab4 (q : Quest) (m : Vd.Msg) (h : 0 ≤ m.code ∧ m.code ≤ 255) : 0 ≤ (Vd.ofM q m).1.code ∧ (Vd.ofM q m).1.code ≤ 255 := by
 unfold Vd.ofM
 split
 · simp [Vdt.none]
 split
 rename_i l pos last e _
 split
 · simp [Vdt.none]
 split
 · simp [Vdt.none]
 split
 · exact h
 split
 rename_i s is e _
 split
 · simp [Vdt.none]
 split
 · exact h
 · exact h
end
section
open Go.RowKit
open Vd (RSet Vdt Vote Rec Quest Piece Ballot Said)
variable {G : World} {L : ja}
theorem adL (v : Value) (l : List Vd.Bytes) (s : Vd.Bytes) (hl : sliceR 1 qB L [v] l) (hn : l.length ≤ 100000) (hs : s.length ≤ maxLen) : Spec Tryz.prog G 158 #[v, .string (bs s)] L fun u M =>
 (u = v ∧ Vd.put l s = l ∧ M = L) ∨ ∃ a c B, u = .slice a (Vd.put l s).length c ∧ ORow qB 9 1 L a c (Vd.put l s) B ∧ M = B ++ L := by
 obtain ⟨a, c, e1, hl⟩ := hl.val
 simp only [List.cons.injEq, and_true] at e1
 subst e1
 have hle := J0 hl
 obtain ⟨_, k1, k2, hl⟩ := qH hl
 unfold maxLen at k2
 refine jm (n := 49) Tryz.func158 rfl rfl rfl ?_
 refine goA ?_
 refine jy (σ := Nat × List Vd.Bytes × Bool × Option Addr × Nat × ja) (fun x => x.1 ≤ l.length ∧ x.2.1.length ≤ x.1 + (if x.2.2.1 then 1 else 0) ∧ Vd.putGo s (l.drop x.1) x.2.1 x.2.2.1 = Vd.putGo s l [] false ∧ ORow qB 9 1 L x.2.2.2.1 x.2.2.2.2.1 x.2.1 x.2.2.2.2.2)
  (fun x => [(0, .slice a l.length c), (1, .string (bs s)), (5, .slice x.2.2.2.1 x.2.1.length x.2.2.2.2.1), (6, .bool x.2.2.1), (7, .int .i64 (x.1 : Nat))]) (fun x => x.2.2.2.2.2 ++ L) (fun x => l.length - x.1) (0, [], false, none, 0, []) ⟨Nat.zero_le _, by simp, rfl, ORow.nil _⟩ ?_ (fun w h => h) ?_
 exact jr
 rintro ⟨k, out, done, ao, co, B⟩ ⟨h1, h2, h3, h4⟩
 dsimp only at h1 h2 h3 h4 ⊢
 by_cases hlt : k < l.length
 · rcases hl with rfl | ⟨b1, o1, C1, t1, f1, rfl, m1, q1⟩
   · simp at hlt
   have m2 : (b1, Obj.cells C1 t1 f1) ∈ B ++ L := List.mem_append_right _ m1
   have hd := List.drop_eq_getElem_cons hlt
   obtain ⟨x, hx⟩ : ∃ x, l[k]? = some x := ⟨_, List.getElem?_eq_getElem hlt⟩
   have hx' : l[k] = x := by rw [List.getElem?_eq_getElem hlt] at hx; exact Option.some.inj hx
   rw [hx'] at hd
   have r1 := q1 k x hx
   have hxl := hle x (List.mem_of_getElem? hx)
   rw [hd] at h3
   simp only [Vd.putGo] at h3
   by_cases hxs : x = s
   · rw [if_pos hxs] at h3
     subst hxs
     refine goA ?_
     refine ju (fun w h => h.sub (List.sublist_append_right _ _)) ?_
     refine ji 4 _ rfl rfl ?_
     refine Or.inl ⟨rfl, ?_, rfl⟩
     unfold Vd.put
     rw [← h3]
   · rw [if_neg hxs] at h3
     have hgo : ∀ (out' : List Vd.Bytes) (done' : Bool), (out' = out ∧ done' = done ∧ (done = true ∨ Vd.gtB x s = false)) ∨ (out' = out ++ [s] ∧ done' = true ∧ done = false ∧ Vd.gtB x s = true) → True := fun _ _ _ => trivial
     have hbl : (if done then 1 else 0 : Nat) ≤ 1 := by split <;> omega
     by_cases hg : done = false ∧ Vd.gtB x s = true
     · obtain ⟨rfl, hg⟩ := hg
       rw [if_pos (by simp [hg])] at h3
       have hg' : (!(Op.bytesLess x s || x == s)) = true := hg
       simp only [Bool.false_eq_true, if_false] at h2
       repeat (first | refine goA ?_ | (refine jS ?_; intro bLit))
       refine jw (qy (y := s) etO rfl rfl h4 hs jd (by decide)) rfl ?_
       rintro _ _ ⟨a', c', B', rfl, hB', rfl⟩
       have m3 : (b1, Obj.cells C1 t1 f1) ∈ B' ++ L := List.mem_append_right _ m1
       repeat (first | refine goA ?_ | (refine jS ?_; intro bLit))
       refine jw (qy (y := x) etO rfl rfl hB' hxl (by simp; omega) (by decide)) rfl ?_
       rintro _ _ ⟨a2, c2, B2, rfl, hB2, rfl⟩
       refine goA ?_
       refine jh (k + 1, (out ++ [s]) ++ [x], true, a2, c2, B2) ⟨hlt, by simp; omega, h3, hB2⟩ ?_ (fun w h => h) (by dsimp only; omega)
       exact jr
     · rw [if_neg (by simpa using hg)] at h3
       have hg3 : done = true ∨ (done = false ∧ (!(Op.bytesLess x s || x == s)) = false) := by
        cases done with
        | true => exact Or.inl rfl
        | false => exact Or.inr ⟨rfl, by have : Vd.gtB x s = false := by simpa using hg
                                         exact this⟩
       rcases hg3 with rfl | ⟨rfl, hg4⟩
       · simp only [if_true] at h2
         repeat (first | refine goA ?_ | (refine jS ?_; intro bLit))
         refine jw (qy (y := x) etO rfl rfl h4 hxl jd (by decide)) rfl ?_
         rintro _ _ ⟨a2, c2, B2, rfl, hB2, rfl⟩
         refine goA ?_
         refine jh (k + 1, out ++ [x], true, a2, c2, B2) ⟨hlt, by simp; omega, h3, hB2⟩ ?_ (fun w h => h) (by dsimp only; omega)
         exact jr
       · simp only [Bool.false_eq_true, if_false] at h2
         repeat (first | refine goA ?_ | (refine jS ?_; intro bLit))
         refine jw (qy (y := x) etO rfl rfl h4 hxl jd (by decide)) rfl ?_
         rintro _ _ ⟨a2, c2, B2, rfl, hB2, rfl⟩
         refine goA ?_
         refine jh (k + 1, out ++ [x], false, a2, c2, B2) ⟨hlt, by simp; omega, h3, hB2⟩ ?_ (fun w h => h) (by dsimp only; omega)
         exact jr
 · have hkn : k = l.length := by omega
   subst hkn
   rw [List.drop_length] at h3
   simp only [Vd.putGo] at h3
   have hp : Vd.put l s = if done then out else out ++ [s] := by unfold Vd.put; rw [← h3]
   cases done with
   | true =>
     repeat' (first | refine goA ?_ | refine ji 4 _ rfl rfl ?_)
     rw [hp]
     exact Or.inr ⟨_, _, _, rfl, h4, rfl⟩
   | false =>
     simp only [Bool.false_eq_true, if_false] at h2
     repeat (first | refine goA ?_ | (refine jS ?_; intro bLit))
     refine jw (qy (y := s) etO rfl rfl h4 hs jd (by decide)) rfl ?_
     rintro _ _ ⟨a2, c2, B2, rfl, hB2, rfl⟩
     repeat' (first | refine goA ?_ | refine ji 4 _ rfl rfl ?_)
     rw [hp]
     exact Or.inr ⟨_, _, _, rfl, hB2, rfl⟩
theorem W7 {q : Quest} {v : Vdt} (h : v.sets = []) : Vd.endV q v = (RSet.none, false) := by unfold Vd.endV; rw [h]; rfl
theorem U1 {q : Quest} {v : Vdt} {s : RSet} (h : v.sets[v.sets.length - 1]? = some s) : Vd.endV q v = if s.kind = q.kind then (s, true) else (RSet.none, false) := by
 unfold Vd.endV
 rw [List.getLast?_eq_getElem?, h]
theorem ab5 {K N : ja} (v : Vdt) (q : Quest) (a1 a2 : Option Addr) (c1 c2 : Nat) (hK : ∀ p ∈ K, p ∈ L) (hv : sliceR 5 (fun _ => rsR N) K [.slice a1 v.sets.length c1] v.sets) :
 Spec Tryz.prog G 157 #[.agg #[.string (bs q.name), .int .u16 q.kind, .int .u16 q.cls], .agg #[.int .u8 v.code, .slice a1 v.sets.length c1, .slice a2 v.soa.length c2]] L fun u M => ∃ cs, u = .tuple #[.agg cs.toArray, .bool (Vd.endV q v).2] ∧ rsR N cs (Vd.endV q v).1 ∧ M = L := by
 obtain ⟨_, k1, k2, hv⟩ := sliceR.cut hv
 unfold maxLen at k2
 refine jm (n := 31) Tryz.func157 rfl rfl rfl ?_
 refine kh (jY (j0 (kF rfl) rfl ?_))
 intro bQ
 refine j0 (kF rfl) rfl ?_
 intro bV
 refine j0 (kk (C := #[.string (bs []), .int .u16 0, .int .u16 0, .int .u32 0, .slice none 0 0]) zeO rfl) rfl ?_
 intro bS
 by_cases h0 : v.sets.length = 0
 · have hE := W7 (q := q) (List.eq_nil_of_length_eq_zero h0)
   rw [hE]
   have h0' : ((v.sets.length : Nat) : Int) = 0 := by omega
   have hKm : ∀ z ∈ [(bQ, Obj.cells #[.string (bs q.name), .int .u16 q.kind, .int .u16 q.cls] 24 (0, 0))], z ∈ (bS, Obj.cells #[.string (bs []), .int .u16 0, .int .u16 0, .int .u32 0, .slice none 0 0] 122 (0, 0)) :: ((bV, Obj.cells #[.int .u8 v.code, .slice a1 v.sets.length c1, .slice a2 v.soa.length c2] 40 (0, 0)) :: ((bQ, Obj.cells #[.string (bs q.name), .int .u16 q.kind, .int .u16 q.cls] 24 (0, 0)) :: L)) := jf
   refine goA ?_
   refine jq jb ([(bQ, Obj.cells #[.string (bs q.name), .int .u16 q.kind, .int .u16 q.cls] 24 (0, 0))]) [] ?_
   refine tkQ 0 ?_
   refine tkQ 1 ?_
   refine tkQ 2 ?_
   refine tkQ 3 ?_
   refine tkQ 4 ?_
   refine tkQ 5 ?_
   refine tkQ 6 ?_
   refine tkQ 7 ?_
   refine tkQ 8 ?_
   refine tkQ 9 ?_
   refine tkQ 10 ?_
   refine tkQ 11 ?_
   refine tkQ 12 ?_
   refine tkQ 13 ?_
   refine tdQ ?_
   repeat (first | refine goA ?_ | refine jB (jl rfl (ub )) rfl ?_)
   refine kB 4 122 5 rfl rfl rfl stO (by repeat (exact List.mem_cons_self)) rfl (fun w h => Heap.cnt (L' := L) h jn) ?_
   exact ⟨[.string (bs []), .int .u16 0, .int .u16 0, .int .u32 0, .slice none 0 0], rfl, zC, rfl⟩
 · have h0' : ¬ ((v.sets.length : Nat) : Int) = 0 := by omega
   rcases hv with h1 | ⟨b1, o1, C1, t1, f1, rfl, m1, q1⟩
   · rw [h1] at h0; simp at h0
   have m1 := hK _ m1
   obtain ⟨s, hs⟩ : ∃ s, v.sets[v.sets.length - 1]? = some s := ⟨_, List.getElem?_eq_getElem jd⟩
   have hE := U1 (q := q) hs
   obtain ⟨cs, _, hs2, hcs⟩ := q1 _ s hs
   obtain ⟨sa, sc, rfl, _⟩ := hs2.vals
   have hi : (((v.sets.length : Nat) : Int) - 1).toNat = v.sets.length - 1 := by omega
   rw [← hi] at hcs
   have g1 : C1[o1 + (((v.sets.length : Nat) : Int) - 1).toNat * 5 + 1]? = some (.int .u16 s.kind) := hcs 1 _ rfl
   rw [hE]
   have hKm : ∀ z ∈ [(bQ, Obj.cells #[.string (bs q.name), .int .u16 q.kind, .int .u16 q.cls] 24 (0, 0)), (bV, Obj.cells #[.int .u8 v.code, .slice (some ⟨b1, o1, none⟩) v.sets.length c1, .slice a2 v.soa.length c2] 40 (0, 0)), (b1, Obj.cells C1 t1 f1)], z ∈ (bS, Obj.cells #[.string (bs []), .int .u16 0, .int .u16 0, .int .u32 0, .slice none 0 0] 122 (0, 0)) :: ((bV, Obj.cells #[.int .u8 v.code, .slice (some ⟨b1, o1, none⟩) v.sets.length c1, .slice a2 v.soa.length c2] 40 (0, 0)) :: ((bQ, Obj.cells #[.string (bs q.name), .int .u16 q.kind, .int .u16 q.cls] 24 (0, 0)) :: L)) := by
    intro z hz
    simp only [List.mem_cons, List.not_mem_nil, or_false] at hz
    rcases hz with rfl | rfl | rfl <;> simp [m1]
   by_cases hk : s.kind = q.kind
   · rw [if_pos hk]
     refine goA ?_
     refine jq jb ([(bQ, Obj.cells #[.string (bs q.name), .int .u16 q.kind, .int .u16 q.cls] 24 (0, 0)), (bV, Obj.cells #[.int .u8 v.code, .slice (some ⟨b1, o1, none⟩) v.sets.length c1, .slice a2 v.soa.length c2] 40 (0, 0)), (b1, Obj.cells C1 t1 f1)]) [] ?_
     refine tkQ 0 ?_
     refine tkQ 1 ?_
     refine tkQ 2 ?_
     refine tkQ 3 ?_
     refine tkQ 4 ?_
     refine tkQ 5 ?_
     refine tkQ 6 ?_
     refine tkQ 7 ?_
     refine tkQ 8 ?_
     refine tkQ 9 ?_
     refine tkQ 10 ?_
     refine tkQ 11 ?_
     refine tkQ 12 ?_
     refine tkQ 13 ?_
     refine tdQ ?_
     refine goA ?_
     refine jB (jA [.string (bs s.name), .int .u16 s.kind, .int .u16 s.cls, .int .u32 s.ttl, .slice sa s.data.length sc] rfl stL (List.mem_cons_of_mem _ (List.mem_cons_of_mem _ (List.mem_cons_of_mem _ m1))) hcs) rfl ?_
     refine goA ?_
     refine kB 4 122 5 rfl rfl rfl stO (by repeat (exact List.mem_cons_self)) rfl (fun w h => Heap.cnt (L' := L) h jn) ?_
     exact ⟨_, rfl, hs2, rfl⟩
   · rw [if_neg hk]
     refine goA ?_
     refine jq jb ([(bQ, Obj.cells #[.string (bs q.name), .int .u16 q.kind, .int .u16 q.cls] 24 (0, 0)), (bV, Obj.cells #[.int .u8 v.code, .slice (some ⟨b1, o1, none⟩) v.sets.length c1, .slice a2 v.soa.length c2] 40 (0, 0)), (b1, Obj.cells C1 t1 f1)]) [] ?_
     refine tkQ 0 ?_
     refine tkQ 1 ?_
     refine tkQ 2 ?_
     refine tkQ 3 ?_
     refine tkQ 4 ?_
     refine tkQ 5 ?_
     refine tkQ 6 ?_
     refine tkQ 7 ?_
     refine tkQ 8 ?_
     refine tkQ 9 ?_
     refine tkQ 10 ?_
     refine tkQ 11 ?_
     refine tkQ 12 ?_
     refine tkQ 13 ?_
     refine tdQ ?_
     repeat (first | refine goA ?_ | refine jB (jl rfl (ub )) rfl ?_)
     refine kB 4 122 5 rfl rfl rfl stO (by repeat (exact List.mem_cons_self)) rfl (fun w h => Heap.cnt (L' := L) h jn) ?_
     exact ⟨[.string (bs []), .int .u16 0, .int .u16 0, .int .u32 0, .slice none 0 0], rfl, zC, rfl⟩
def SetOut (L : ja) (r : RSet × Bool) (u : Value) (M : ja) : Prop := ∃ a c B, u = .tuple #[.agg #[.string (bs r.1.name), .int .u16 r.1.kind, .int .u16 r.1.cls, .int .u32 r.1.ttl, .slice a r.1.data.length c], .bool r.2] ∧ ORow qB 9 1 [] a c r.1.data B ∧ M = B ++ L ∧ rsR B [.string (bs r.1.name), .int .u16 r.1.kind, .int .u16 r.1.cls, .int .u32 r.1.ttl, .slice a r.1.data.length c] r.1
theorem SetOut.none : SetOut L (RSet.none, false) (.tuple #[.agg #[.string (bs []), .int .u16 0, .int .u16 0, .int .u32 0, .slice none 0 0], .bool false]) L := ⟨Option.none, 0, [], rfl, ORow.nil _, rfl, zC⟩
theorem ae1 (v : Vdt) (q : Quest) (a1 a2 : Option Addr) (c1 c2 : Nat) (hv : sliceR 5 rsR L [.slice a1 v.sets.length c1] v.sets) (hd : ∀ s ∈ v.sets, s.data.length ≤ 100000) :
 Spec Tryz.prog G 82 #[.agg #[.string (bs q.name), .int .u16 q.kind, .int .u16 q.cls], .agg #[.int .u8 v.code, .slice a1 v.sets.length c1, .slice a2 v.soa.length c2]] L (SetOut L (Vd.endV q v)) := by
 obtain ⟨_, k1, k2, hv⟩ := sliceR.cut hv
 unfold maxLen at k2
 refine jm (n := 31) Tryz.func82 rfl rfl rfl ?_
 refine kh (jY (j0 (kF rfl) rfl ?_))
 intro bQ
 refine j0 (kF rfl) rfl ?_
 intro bV
 refine j0 (kk (C := #[.string (bs []), .int .u16 0, .int .u16 0, .int .u32 0, .slice none 0 0]) zeO rfl) rfl ?_
 intro bS
 by_cases h0 : v.sets.length = 0
 · have hE := W7 (q := q) (List.eq_nil_of_length_eq_zero h0)
   rw [hE]
   have h0' : ((v.sets.length : Nat) : Int) = 0 := by omega
   repeat (first | refine goA ?_ | refine jB (jl rfl (ub )) rfl ?_)
   refine kB 4 122 5 rfl rfl rfl stO (by repeat (exact List.mem_cons_self)) rfl (fun w h => Heap.cnt (L' := L) h jn) ?_
   exact SetOut.none
 · have h0' : ¬ ((v.sets.length : Nat) : Int) = 0 := by omega
   rcases hv with h1 | ⟨b1, o1, C1, t1, f1, rfl, m1, q1⟩
   · rw [h1] at h0; simp at h0
   obtain ⟨s, hs⟩ : ∃ s, v.sets[v.sets.length - 1]? = some s := ⟨_, List.getElem?_eq_getElem jd⟩
   have hE := U1 (q := q) hs
   obtain ⟨cs, _, hs2, hcs⟩ := q1 _ s hs
   obtain ⟨sa, sc, rfl, hsd, hs4⟩ := hs2.vals
   have hi : (((v.sets.length : Nat) : Int) - 1).toNat = v.sets.length - 1 := by omega
   rw [← hi] at hcs
   rw [hE]
   by_cases hk : s.kind = q.kind
   · rw [if_pos hk]
     refine goA ?_
     refine jB (jA [.string (bs s.name), .int .u16 s.kind, .int .u16 s.cls, .int .u32 s.ttl, .slice sa s.data.length sc] rfl stL (List.mem_cons_of_mem _ (List.mem_cons_of_mem _ (List.mem_cons_of_mem _ m1))) hcs) rfl ?_
     repeat (first | refine goA ?_ | (refine jO ?_; intro bNew))
     refine jw (jc je rfl (VO _ s.data (jx kK _ _ _ _ jf hsd) (Nat.le_trans (hd s (List.mem_of_getElem? hs)) jd))) rfl ?_
     rintro _ _ ⟨ad, cd, Bd, rfl, hBd, rfl⟩
     have hBd' := hBd.imp (r' := qB) (L' := []) (fun cs y _ h => h)
     refine jH (L' := (bNew, Obj.cells #[.string (bs s.name), .int .u16 s.kind, .int .u16 s.cls, .int .u32 s.ttl, .slice sa s.data.length sc] 122 (0, 0)) :: ((bS, Obj.cells #[.string (bs []), .int .u16 0, .int .u16 0, .int .u32 0, .slice none 0 0] 122 (0, 0)) :: (Bd ++ L))) ?_ jn
     repeat (refine jB (ui rfl Qj) rfl ?_)
     refine qG (C' := #[.string (bs s.name), .int .u16 s.kind, .int .u16 s.cls, .int .u32 s.ttl, .slice ad s.data.length cd]) rfl rfl onO rfl rfl rfl ?_
     refine goA ?_
     refine jH (L' := (bS, Obj.cells #[.string (bs []), .int .u16 0, .int .u16 0, .int .u32 0, .slice none 0 0] 122 (0, 0)) :: (Bd ++ L)) ?_ jn
     refine goA ?_
     refine kB 4 122 5 rfl rfl rfl stO (by repeat (exact List.mem_cons_self)) rfl (fun w h => Heap.cnt (L' := Bd ++ L) h jn) ?_
     exact ⟨ad, cd, Bd, rfl, hBd', rfl, _, rfl, hBd'.sliceR kK (by simp) (fun p h => h), hs4⟩
   · rw [if_neg hk]
     refine goA ?_
     refine jB (jA [.string (bs s.name), .int .u16 s.kind, .int .u16 s.cls, .int .u32 s.ttl, .slice sa s.data.length sc] rfl stL (List.mem_cons_of_mem _ (List.mem_cons_of_mem _ (List.mem_cons_of_mem _ m1))) hcs) rfl ?_
     repeat (first | refine goA ?_ | (refine jO ?_; intro bNew) | refine jB (jl rfl (ub )) rfl ?_)
     refine jH (L' := (bS, Obj.cells #[.string (bs []), .int .u16 0, .int .u16 0, .int .u32 0, .slice none 0 0] 122 (0, 0)) :: L) ?_ jn
     refine goA ?_
     refine kB 4 122 5 rfl rfl rfl stO (by repeat (exact List.mem_cons_self)) rfl (fun w h => Heap.cnt (L' := L) h jn) ?_
     exact SetOut.none
end
section
open Go.RowKit
open Vd (RSet Vdt Vote Rec Quest Piece Ballot Said)
section
variable {G : World} {P : Program} {n : Nat} {ρ : jG} {L : ja} {ty : TypeId} {Q : Exit → Act → World → Prop} {ops : Array Oper} {K : ja} {W : List Nat} {fuel : Nat} {listed : Array Bool}
theorem qA (i : Nat) {d j dj : Nat} {want b : Bool} {op : Op} {pos : String} {after : Array Edge} {Φ : Value → ja → Prop} (hr : Region.ready .any ops listed = [i]) (hi : ops[i]? = some ⟨some d, op, ty, pos, after, some (j, want)⟩) (hdn : Nat.blt d n = true)
 (hs : jT ops j = some dj) (hv : ρ.lookup dj = some (.bool b)) (hb : b = want)
 (hO : OpT P G ρ L op ty Φ) (h : ∀ v L', Φ v L' → (i ∈ W ∨ ∀ p ∈ K, p ∈ L') ∧ TA P G ops n K W Q fuel (listed.setIfInBounds i true) ((d, v) :: ρ) L') : TA P G ops n K W Q (fuel + 1) listed ρ L := by
 refine ⟨fun h0 => (by rw [hr] at h0; cases h0), fun k hk => ?_⟩
 rw [hr] at hk
 obtain rfl : k = i := by simpa using hk
 exact ⟨_, hi, fun d' e => by cases e; simpa using hdn, true, ⟨dj, _, hs, hv, by simp [YH, hb]⟩, Or.inl ⟨rfl, Φ, hO, h⟩⟩
end
variable {G : World} {L : ja}
theorem vdR.vals {L : ja} {cs : List Value} {v : Vdt} (h : vdR L cs v) : ∃ a1 c1 a2 c2, cs = [.int .u8 v.code, .slice a1 v.sets.length c1, .slice a2 v.soa.length c2] ∧ sliceR 5 rsR L [.slice a1 v.sets.length c1] v.sets ∧ sliceR 5 rsR L [.slice a2 v.soa.length c2] v.soa ∧ (0 ≤ v.code ∧ v.code ≤ 255) := by
 obtain ⟨a, b, rfl, h1, h2, h3⟩ := h
 obtain ⟨a1, c1, e1, h1⟩ := h1.val
 obtain ⟨a2, c2, e2, h2⟩ := h2.val
 simp only [List.cons.injEq, and_true] at e1 e2
 subst e1 e2
 exact ⟨a1, c1, a2, c2, rfl, h1, h2, h3⟩
theorem Q7 (l : List Vote) : ∀ j, j ≤ l.length → 0 < l.length → Vd.firstAt l j < l.length
 | 0, _, h => h
 | j + 1, hj, h => by
   have ih := Q7 l j jd h
   rw [Vd.firstAt, List.getElem?_eq_getElem jd, List.getElem?_eq_getElem ih]
   dsimp only
   split <;> omega
theorem Jx (l : List Vote) (x : Vote) (t : Int) : Vd.minTime (l ++ [x]) t = min (Vd.minTime l t) x.time := by simp [Vd.minTime]
theorem zY : ∀ (l : List Vote) (t : Int), (∀ x ∈ l, 0 ≤ x.time ∧ x.time ≤ 4294967295) → 0 ≤ t ∧ t ≤ 4294967295 → 0 ≤ Vd.minTime l t ∧ Vd.minTime l t ≤ 4294967295
 | [], t, _, h => h
 | s :: l, t, hl, h => by
   have := hl s (List.mem_cons_self ..)
   exact zY l (min t s.time) (fun x hx => hl x (List.mem_cons_of_mem _ hx)) jd
theorem zZ {L K : ja} {cs : List Value} {l : List Vote} (h : sliceR 5 (fun _ => voteR K) L cs l) : ∀ y ∈ l, 0 ≤ y.time ∧ y.time ≤ 4294967295 := fun y hy => by
 obtain ⟨a, cap, _, _, _, h4⟩ := h
 rcases h4 with rfl | ⟨b, off, C, te, fr, _, _, q3⟩
 · simp at hy
 · obtain ⟨i, hi⟩ := List.getElem?_of_mem hy
   obtain ⟨cs', _, h5, _⟩ := q3 i y hi
   obtain ⟨_, _, _, _, _, _, _, _, k, _⟩ := h5.vals
   exact k
theorem K1 (l : List Vote) (x : Vote) (w : Vdt) : Vd.alikeV (l ++ [x]) w = (Vd.alikeV l w && decide (x.vd = w)) := by simp [Vd.alikeV]
theorem Jy (q : Quest) (l : List Vote) (x : Vote) (d : List Vd.Bytes) : Vd.endsPut q (l ++ [x]) d = if (Vd.endV q x.vd).2 then (Vd.endV q x.vd).1.data.foldl Vd.put (Vd.endsPut q l d) else Vd.endsPut q l d := by simp [Vd.endsPut]
theorem zn : ∀ (l d : List Vd.Bytes), (l.foldl Vd.put d).length ≤ d.length + l.length
 | [], d => Nat.le_refl _
 | x :: l, d => by
   have h1 := zn l (Vd.put d x)
   have h2 := ZS d x
   rw [List.foldl_cons, List.length_cons]
   omega
theorem K2 (q : Quest) (n : Nat) (l : List Vote) (hl : ∀ v ∈ l, (Vd.endV q v.vd).1.data.length ≤ n) : ∀ i, i ≤ l.length → (Vd.endsPut q (l.take i) []).length ≤ i * n
 | 0, _ => by simp [Vd.endsPut]
 | i + 1, h => by
   have ih := K2 q n l hl i jd
   have hx : l[i]? = some l[i] := List.getElem?_eq_getElem jd
   rw [List.take_add_one, hx]
   simp only [Option.toList_some]
   rw [Jy, Nat.succ_mul]
   have := hl l[i] (List.getElem_mem _)
   split
   · have := zn (Vd.endV q l[i].vd).1.data (Vd.endsPut q (l.take i) [])
     omega
   · omega
theorem ab6 {K : ja} (v : Value) (q : Quest) (l : List Vote) (hKL : ∀ p ∈ K, p ∈ L) (hq1 : q.name.length ≤ 1000000) (hq2 : 0 ≤ q.kind ∧ q.kind ≤ 65535) (hq3 : 0 ≤ q.cls ∧ q.cls ≤ 65535) (hl : sliceR 5 (fun _ => voteR K) L [v] l) (hn : l.length ≤ 100) (hd : ∀ x ∈ l, (Vd.endV q x.vd).1.data.length ≤ 600 ∧ ∀ d ∈ (Vd.endV q x.vd).1.data, d.length ≤ 1000000) :
 Spec Tryz.prog G 138 #[.agg #[.string (bs q.name), .int .u16 q.kind, .int .u16 q.cls], v] L fun u M => ∃ cs X, u = .tuple #[.agg cs.toArray, .int .u32 (Vd.union q l).2.1, .bool (Vd.union q l).2.2] ∧ vdR (X ++ K) cs (Vd.union q l).1 ∧ M = X ++ L := by
 obtain ⟨av, cv, e1, hl⟩ := hl.val
 simp only [List.cons.injEq, and_true] at e1
 subst e1
 have hl0 := hl
 obtain ⟨_, ka1, ka2, hl⟩ := sliceR.cut hl
 refine jm (n := 118) Tryz.func138 rfl rfl rfl ?_
 refine kh (jY (j0 (kF rfl) rfl ?_))
 intro bQ
 refine j0 (kk (C := #[.int .u8 0, .slice none 0 0, .slice none 0 0]) zeO rfl) rfl ?_
 intro b4
 cases l with
 | nil =>
   have hU : Vd.union q [] = (Vdt.none, 0, false) := rfl
   rw [hU]
   have h0 : ((([] : List Vote).length : Nat) : Int) = 0 := rfl
   cases hm : Nm.may q.name with
   | false =>
     repeat (first | refine goA ?_ | (refine' jU (jc je rfl (kG _ ?_)) rfl ?_; (· omega)) | refine jB (jl rfl (j8 )) rfl ?_)
     refine km 4 40 5 6 rfl rfl rfl rfl stO (by repeat (exact List.mem_cons_self)) rfl (fun w h => Heap.cnt (L' := [] ++ L) h jn) ?_
     exact ⟨[.int .u8 0, .slice none 0 0, .slice none 0 0], [], rfl, ⟨_, _, rfl, sliceR.nil, sliceR.nil, by simp [Vdt.none]⟩, rfl⟩
   | true =>
     repeat (first | refine goA ?_ | (refine' jU (jc je rfl (kG _ ?_)) rfl ?_; (· omega)) | refine jB (jl rfl (j8 )) rfl ?_)
     refine km 4 40 5 6 rfl rfl rfl rfl stO (by repeat (exact List.mem_cons_self)) rfl (fun w h => Heap.cnt (L' := [] ++ L) h jn) ?_
     exact ⟨[.int .u8 0, .slice none 0 0, .slice none 0 0], [], rfl, ⟨_, _, rfl, sliceR.nil, sliceR.nil, by simp [Vdt.none]⟩, rfl⟩
 | cons w r =>
 obtain ⟨l, hll⟩ : ∃ l, w :: r = l := ⟨_, rfl⟩
 have hlpos : 0 < l.length := by rw [← hll]; simp
 have hw0 : l[0]? = some w := by rw [← hll]; rfl
 have hlne : ¬ ((l.length : Nat) : Int) = 0 := by omega
 have hU : Vd.union q l = if !Nm.may q.name then ((Vdt.none, 0, false) : Vdt × Int × Bool) else if Vd.alikeV l w.vd || decide (Vd.endsPut q l [] = []) then (match l[Vd.firstAt l l.length]? with | some x => x.vd | none => Vdt.none, Vd.minTime l w.time, true) else (⟨0, [⟨Nm.fold q.name, q.kind, q.cls, 0, Vd.endsPut q l []⟩], []⟩, Vd.minTime l w.time, true) := by rw [← hll]; rfl
 rw [hll] at hl hl0 hn hd ka1 ⊢
 cases hm : Nm.may q.name with
 | false =>
   rw [hm] at hU
   simp only [Bool.not_false, if_true] at hU
   rw [hU]
   repeat (first | refine goA ?_ | (refine' jU (jc je rfl (kG _ ?_)) rfl ?_; (· omega)) | refine jB (jl rfl (j8 )) rfl ?_)
   refine km 4 40 5 6 rfl rfl rfl rfl stO (by repeat (exact List.mem_cons_self)) rfl (fun w h => Heap.cnt (L' := [] ++ L) h jn) ?_
   exact ⟨[.int .u8 0, .slice none 0 0, .slice none 0 0], [], rfl, ⟨_, _, rfl, sliceR.nil, sliceR.nil, by simp [Vdt.none]⟩, rfl⟩
 | true =>
 rw [hm] at hU
 simp only [Bool.not_true, Bool.false_eq_true, if_false] at hU
 obtain ⟨bw, ow, Cw, tw, fw, rfl, mw, qw⟩ : ∃ b off C te fr, av = some ⟨b, off, none⟩ ∧ (b, Obj.cells C te fr) ∈ L ∧ ∀ i x, l[i]? = some x → ∃ cs', cs'.length = 5 ∧ voteR K cs' x ∧ ∀ j v, cs'[j]? = some v → C[off + i * 5 + j]? = some v := by
  rcases hl with h | h
  · rw [h] at hlpos; simp at hlpos
  · exact h
 obtain ⟨csw, _, hwv0, hcw⟩ := qw 0 w hw0
 obtain ⟨w1, wc1, w2, wc2, rfl, hw1, hw2, hw3, hw4, hw5⟩ := hwv0.vals
 rw [show ow + 0 * 5 = ow + (0 : Int).toNat * 5 by rfl] at hcw
 have gw4 : Cw[ow + (0 : Int).toNat * 5 + 4]? = some (.int .u32 w.time) := hcw 4 _ rfl
 have hwr : vdR K [.int .u8 w.vd.code, .slice w1 w.vd.sets.length wc1, .slice w2 w.vd.soa.length wc2] w.vd := ⟨_, _, rfl, hw1, hw2, hw3⟩
 have hwv : ∀ j v, ([.int .u8 w.vd.code, .slice w1 w.vd.sets.length wc1, .slice w2 w.vd.soa.length wc2] : List Value)[j]? = some v → Cw[ow + (0 : Int).toNat * 5 + 1 + j]? = some v := fun j v hj => by
  rw [Nat.add_assoc]
  match j, hj with
  | 0, hj => exact hcw 1 v hj
  | 1, hj => exact hcw 2 v hj
  | 2, hj => exact hcw 3 v hj
 have ht0 : ∀ i, i ≤ l.length → 0 ≤ Vd.minTime (l.take i) w.time ∧ Vd.minTime (l.take i) w.time ≤ 4294967295 := fun i hi => zY _ _ (fun x hx => zZ hl0 x (List.mem_of_mem_take hx)) hw4
 have hln := K2 q 600 l (fun x hx => (hd x hx).1)
 repeat (first | refine goA ?_ | (refine' jU (jc je rfl (kG _ ?_)) rfl ?_; (· omega)))
 refine jy (σ := Nat × Option Addr × Nat × ja) (fun y => y.1 ≤ l.length ∧ sliceR 1 qB y.2.2.2 [.slice y.2.1 (Vd.endsPut q (l.take y.1) []).length y.2.2.1] (Vd.endsPut q (l.take y.1) [])) (fun y => [(1, .slice (some ⟨bw, ow, none⟩) l.length cv), (2, .pointer (some ⟨bQ, 0, none⟩)), (4, .pointer (some ⟨b4, 0, none⟩)), (7, .int .u32 (Vd.minTime (l.take y.1) w.time)), (8, .bool (Vd.alikeV (l.take y.1) w.vd)), (9, .int .i64 (Vd.firstAt l y.1 : Nat)), (10, .slice y.2.1 (Vd.endsPut q (l.take y.1) []).length y.2.2.1), (11, .int .i64 (y.1 : Nat))])
  (fun y => (bQ, Obj.cells #[.string (bs q.name), .int .u16 q.kind, .int .u16 q.cls] 24 (0, 0)) :: ((b4, Obj.cells #[.int .u8 0, .slice none 0 0, .slice none 0 0] 40 (0, 0)) :: (y.2.2.2 ++ L))) (fun y => l.length - y.1) (0, none, 0, []) ⟨Nat.zero_le _, sliceR.nil⟩ ?_ (fun w h => h.cnt jn) ?_
 exact jr
 rintro ⟨i, ad, cd, Nd⟩ ⟨hi, hdat⟩
 dsimp only at hi hdat ⊢
 have hti := ht0 i hi
 have hlni := hln i hi
 have hfl := Q7 l i hi hlpos
 by_cases hil : i < l.length
 · obtain ⟨x, hx⟩ : ∃ x, l[i]? = some x := ⟨_, List.getElem?_eq_getElem hil⟩
   obtain ⟨f, hf⟩ : ∃ f, l[Vd.firstAt l i]? = some f := ⟨_, List.getElem?_eq_getElem hfl⟩
   have hxm := List.mem_of_getElem? hx
   have htk : l.take (i + 1) = l.take i ++ [x] := by rw [List.take_add_one, hx]; rfl
   have hmt : Vd.minTime (l.take (i + 1)) w.time = min (Vd.minTime (l.take i) w.time) x.time := by rw [htk]; exact Jx _ _ _
   have hal : Vd.alikeV (l.take (i + 1)) w.vd = (Vd.alikeV (l.take i) w.vd && decide (x.vd = w.vd)) := by rw [htk]; exact K1 _ _ _
   have hep : Vd.endsPut q (l.take (i + 1)) [] = if (Vd.endV q x.vd).2 then (Vd.endV q x.vd).1.data.foldl Vd.put (Vd.endsPut q (l.take i) []) else Vd.endsPut q (l.take i) [] := by rw [htk]; exact Jy _ _ _ _
   have hfs : Vd.firstAt l (i + 1) = if x.up < f.up then i else Vd.firstAt l i := by rw [Vd.firstAt, hx, hf]
   obtain ⟨csx, _, hxv0, hcx⟩ := qw i x hx
   obtain ⟨csf, _, hfv0, hcf⟩ := qw _ f hf
   obtain ⟨x1, xc1, x2, xc2, rfl, hx1, hx2, hx3, hx4, hx5⟩ := hxv0.vals
   obtain ⟨f1, fc1, f2, fc2, rfl, _⟩ := hfv0.vals
   have gx4 : Cw[ow + i * 5 + 4]? = some (.int .u32 x.time) := hcx 4 _ rfl
   have gx0 : Cw[ow + i * 5 + 0]? = some (.int .i64 x.up) := hcx 0 _ rfl
   have gf0 : Cw[ow + Vd.firstAt l i * 5 + 0]? = some (.int .i64 f.up) := hcf 0 _ rfl
   have hxr : vdR K [.int .u8 x.vd.code, .slice x1 x.vd.sets.length xc1, .slice x2 x.vd.soa.length xc2] x.vd := ⟨_, _, rfl, hx1, hx2, hx3⟩
   have hxv : ∀ j v, ([.int .u8 x.vd.code, .slice x1 x.vd.sets.length xc1, .slice x2 x.vd.soa.length xc2] : List Value)[j]? = some v → Cw[ow + i * 5 + 1 + j]? = some v := fun j v hj => by
    rw [Nat.add_assoc]
    match j, hj with
    | 0, hj => exact hcx 1 v hj
    | 1, hj => exact hcx 2 v hj
    | 2, hj => exact hcx 3 v hj
   have hKc : ∀ p ∈ K, p ∈ (bQ, Obj.cells #[.string (bs q.name), .int .u16 q.kind, .int .u16 q.cls] 24 (0, 0)) :: ((b4, Obj.cells #[.int .u8 0, .slice none 0 0, .slice none 0 0] 40 (0, 0)) :: (Nd ++ L)) := fun p hp => List.mem_cons_of_mem _ (List.mem_cons_of_mem _ (List.mem_append_right _ (hKL p hp)))
   have mwc : (bw, Obj.cells Cw tw fw) ∈ Nd ++ L := List.mem_append_right _ mw
   have hKm : ∀ z ∈ [(bw, Obj.cells Cw tw fw), (bQ, Obj.cells #[.string (bs q.name), .int .u16 q.kind, .int .u16 q.cls] 24 (0, 0))], z ∈ (bQ, Obj.cells #[.string (bs q.name), .int .u16 q.kind, .int .u16 q.cls] 24 (0, 0)) :: ((b4, Obj.cells #[.int .u8 0, .slice none 0 0, .slice none 0 0] 40 (0, 0)) :: (Nd ++ L)) := by
    intro z hz
    simp only [List.mem_cons, List.not_mem_nil, or_false] at hz
    rcases hz with rfl | rfl <;> simp [mw]
   refine goA ?_
   refine uK (σ := Unit) (fun _ => True) (fun _ => [(1, .slice (some ⟨bw, ow, none⟩) l.length cv), (2, .pointer (some ⟨bQ, 0, none⟩)), (4, .pointer (some ⟨b4, 0, none⟩)), (7, .int .u32 (Vd.minTime (l.take (i + 1)) w.time)), (8, .bool (Vd.alikeV (l.take (i + 1)) w.vd)), (9, .int .i64 (Vd.firstAt l i : Nat)), (10, .slice ad (Vd.endsPut q (l.take i) []).length cd), (11, .int .i64 (i : Nat))]) (fun _ => ((bQ, Obj.cells #[.string (bs q.name), .int .u16 q.kind, .int .u16 q.cls] 24 (0, 0)) :: ((b4, Obj.cells #[.int .u8 0, .slice none 0 0, .slice none 0 0] 40 (0, 0)) :: (Nd ++ L)))) ?_ ?_
   · rw [hmt, hal]
     cases hav : Vd.alikeV (l.take i) w.vd with
     | false =>
       refine jq jb ([(bw, Obj.cells Cw tw fw), (bQ, Obj.cells #[.string (bs q.name), .int .u16 q.kind, .int .u16 q.cls] 24 (0, 0))]) [] ?_
       refine tkQ 0 ?_
       refine tkQ 1 ?_
       refine tkQ 2 ?_
       refine tkQ 3 ?_
       refine tkQ 4 ?_
       refine tkQ 5 ?_
       refine tkQ 6 ?_
       refine tkQ 7 ?_
       refine tkQ 8 ?_
       refine tkQ 9 ?_
       refine tkQ 10 ?_
       refine tkQ 11 ?_
       refine tkQ 12 ?_
       refine tkQ 13 ?_
       refine tdQ ?_
       skip
       refine j9 () trivial ?_ (fun w h => h)
       rw [Bool.false_and]
       exact jr
     | true =>
       refine jq jb ([(bw, Obj.cells Cw tw fw), (bQ, Obj.cells #[.string (bs q.name), .int .u16 q.kind, .int .u16 q.cls] 24 (0, 0))]) [] ?_
       refine tkQ 0 ?_
       refine tkQ 1 ?_
       refine tkQ 2 ?_
       refine tkQ 3 ?_
       refine tkQ 4 ?_
       refine tkQ 5 ?_
       (refine' jp 6 rfl rfl je (kd rfl rfl (by with_reducible rfl) (jA [.int .u8 x.vd.code, .slice x1 x.vd.sets.length xc1, .slice x2 x.vd.soa.length xc2] rfl stL (List.mem_cons_self ..) hxv)) ?_ ?_; (· assumption))
       refine tkQ 7 ?_
       refine tkQ 8 ?_
       refine tkQ 9 ?_
       (refine' jp 10 rfl rfl je (kd rfl rfl (by with_reducible rfl) (jA [.int .u8 w.vd.code, .slice w1 w.vd.sets.length wc1, .slice w2 w.vd.soa.length wc2] rfl stL (List.mem_cons_self ..) hwv)) ?_ ?_; (· assumption))
       (skip; (refine qA 11 je rfl rfl rfl rfl rfl (jc je rfl (uw [.int .u8 x.vd.code, .slice x1 x.vd.sets.length xc1, .slice x2 x.vd.soa.length xc2] [.int .u8 w.vd.code, .slice w1 w.vd.sets.length wc1, .slice w2 w.vd.soa.length wc2] x.vd w.vd (jQ _ _ _ _ hKc hxr) (jQ _ _ _ _ hKc hwr))) ?_; rintro _ _ ⟨rfl, rfl⟩; refine ⟨Or.inr hKm, ?_⟩))
       refine tkQ 12 ?_
       refine tkQ 13 ?_
       refine tdQ ?_
       skip
       refine j9 () trivial ?_ (fun w h => h)
       rw [Bool.true_and]
       exact jr
   intro _ _
   refine KJ (σ := Unit) (fun _ => True) (fun _ => [(1, .slice (some ⟨bw, ow, none⟩) l.length cv), (2, .pointer (some ⟨bQ, 0, none⟩)), (4, .pointer (some ⟨b4, 0, none⟩)), (7, .int .u32 (Vd.minTime (l.take (i + 1)) w.time)), (8, .bool (Vd.alikeV (l.take (i + 1)) w.vd)), (9, .int .i64 (Vd.firstAt l (i + 1) : Nat)), (10, .slice ad (Vd.endsPut q (l.take i) []).length cd), (11, .int .i64 (i : Nat))]) (fun _ => ((bQ, Obj.cells #[.string (bs q.name), .int .u16 q.kind, .int .u16 q.cls] 24 (0, 0)) :: ((b4, Obj.cells #[.int .u8 0, .slice none 0 0, .slice none 0 0] 40 (0, 0)) :: (Nd ++ L)))) ?_ ?_
   · rw [hfs]
     by_cases hup : x.up < f.up
     · rw [if_pos hup]
       repeat (with_reducible refine kh ?_)
       refine jq jb ([(bw, Obj.cells Cw tw fw), (bQ, Obj.cells #[.string (bs q.name), .int .u16 q.kind, .int .u16 q.cls] 24 (0, 0))]) [] ?_
       refine tkQ 0 ?_
       refine tkQ 1 ?_
       refine tkQ 2 ?_
       refine tkQ 3 ?_
       refine tkQ 4 ?_
       refine tkQ 5 ?_
       refine tkQ 6 ?_
       refine tkQ 7 ?_
       refine tkQ 8 ?_
       refine tkQ 9 ?_
       refine tkQ 10 ?_
       refine tdQ ?_
       refine goA ?_
       refine j9 () trivial ?_ (fun w h => h)
       exact jr
     · rw [if_neg hup]
       repeat (with_reducible refine kh ?_)
       refine jq jb ([(bw, Obj.cells Cw tw fw), (bQ, Obj.cells #[.string (bs q.name), .int .u16 q.kind, .int .u16 q.cls] 24 (0, 0))]) [] ?_
       refine tkQ 0 ?_
       refine tkQ 1 ?_
       refine tkQ 2 ?_
       refine tkQ 3 ?_
       refine tkQ 4 ?_
       refine tkQ 5 ?_
       refine tkQ 6 ?_
       refine tkQ 7 ?_
       refine tkQ 8 ?_
       refine tkQ 9 ?_
       refine tkQ 10 ?_
       refine tdQ ?_
       refine goA ?_
       refine j9 () trivial ?_ (fun w h => h)
       exact jr
   intro _ _
   repeat (with_reducible refine kh ?_)
   refine uK (σ := Option Addr × Nat × Nat) (fun y => rsR K [.string (bs (Vd.endV q x.vd).1.name), .int .u16 (Vd.endV q x.vd).1.kind, .int .u16 (Vd.endV q x.vd).1.cls, .int .u32 (Vd.endV q x.vd).1.ttl, .slice y.1 (Vd.endV q x.vd).1.data.length y.2.1] (Vd.endV q x.vd).1) (fun y => (12, .pointer (some ⟨y.2.2, 0, none⟩)) :: (13, .bool (Vd.endV q x.vd).2) :: [(1, .slice (some ⟨bw, ow, none⟩) l.length cv), (2, .pointer (some ⟨bQ, 0, none⟩)), (4, .pointer (some ⟨b4, 0, none⟩)), (7, .int .u32 (Vd.minTime (l.take (i + 1)) w.time)), (8, .bool (Vd.alikeV (l.take (i + 1)) w.vd)), (9, .int .i64 (Vd.firstAt l (i + 1) : Nat)), (10, .slice ad (Vd.endsPut q (l.take i) []).length cd), (11, .int .i64 (i : Nat))]) (fun y => (y.2.2, Obj.cells #[.string (bs (Vd.endV q x.vd).1.name), .int .u16 (Vd.endV q x.vd).1.kind, .int .u16 (Vd.endV q x.vd).1.cls, .int .u32 (Vd.endV q x.vd).1.ttl, .slice y.1 (Vd.endV q x.vd).1.data.length y.2.1] 122 (0, 0)) :: ((bQ, Obj.cells #[.string (bs q.name), .int .u16 q.kind, .int .u16 q.cls] 24 (0, 0)) :: ((b4, Obj.cells #[.int .u8 0, .slice none 0 0, .slice none 0 0] 40 (0, 0)) :: (Nd ++ L)))) ?_ ?_
   · clear hal hep
     refine jq jb ([(bw, Obj.cells Cw tw fw), (bQ, Obj.cells #[.string (bs q.name), .int .u16 q.kind, .int .u16 q.cls] 24 (0, 0))]) [] ?_
     refine tkQ 0 ?_
     refine tkQ 1 ?_
     refine tkQ 2 ?_
     refine tkQ 3 ?_
     refine tkQ 4 ?_
     (refine' jp 5 rfl rfl je (jL (jA [.int .u8 x.vd.code, .slice x1 x.vd.sets.length xc1, .slice x2 x.vd.soa.length xc2] rfl stL (List.mem_cons_self ..) hxv)) ?_ ?_; (· assumption))
     refine JU 6 10 je ?_ ?_
     · refine uk rfl rfl rfl rfl (jc je rfl (ab5 (K := L) (N := K) x.vd q x1 x2 xc1 xc2 jf (hx1.imp (r' := fun _ => rsR K) hKL (fun cs s _ h => h)))) ?_; rintro _ _ ⟨cse, rfl, hse, rfl⟩; obtain ⟨ea, ec, rfl, hsd, _⟩ := hse.vals; refine ⟨Or.inr (fun z hz => jW jn z (hKm z hz)), ?_⟩
       refine tkQ 7 ?_
       refine tkQ 8 ?_
       refine tkQ 9 ?_
       refine jF 10 je rfl rfl rfl rfl (kk (C := #[.string (bs []), .int .u16 0, .int .u16 0, .int .u32 0, .slice none 0 0]) zeO rfl) ?_; rintro _ _ ⟨b12, rfl, rfl⟩; refine ⟨Or.inr (fun z hz => jW jn z (hKm z hz)), ?_⟩
       refine j6 (L' := (b12, Obj.cells #[.string (bs []), .int .u16 0, .int .u16 0, .int .u32 0, .slice none 0 0] 122 (0, 0)) :: ((bQ, Obj.cells #[.string (bs q.name), .int .u16 q.kind, .int .u16 q.cls] 24 (0, 0)) :: ((b4, Obj.cells #[.int .u8 0, .slice none 0 0, .slice none 0 0] 40 (0, 0)) :: (Nd ++ L)))) ?_ jn; refine jZ 11 je rfl rfl rfl (qg rfl rfl stO rfl rfl rfl) ?_; rintro _ _ ⟨_, rfl⟩; refine ⟨Or.inr (fun z hz => jW jn z (hKm z hz)), ?_⟩
       refine tkQ 12 ?_
       refine tdQ ?_
       refine j9 (ea, ec, b12) hse ?_ (fun w h => h.cnt jn)
       exact jr
     · refine uk rfl rfl rfl rfl (kk (C := #[.string (bs []), .int .u16 0, .int .u16 0, .int .u32 0, .slice none 0 0]) zeO rfl) ?_; rintro _ _ ⟨b12, rfl, rfl⟩; refine ⟨Or.inr (fun z hz => jW jn z (hKm z hz)), ?_⟩
       refine jF 6 je rfl rfl rfl rfl (jc je rfl (ab5 (K := L) (N := K) x.vd q x1 x2 xc1 xc2 jf (hx1.imp (r' := fun _ => rsR K) hKL (fun cs s _ h => h)))) ?_; rintro _ _ ⟨cse, rfl, hse, rfl⟩; obtain ⟨ea, ec, rfl, hsd, _⟩ := hse.vals; refine ⟨Or.inr (fun z hz => jW jn z (hKm z hz)), ?_⟩
       refine tkQ 7 ?_
       refine tkQ 8 ?_
       refine tkQ 9 ?_
       refine j6 (L' := (b12, Obj.cells #[.string (bs []), .int .u16 0, .int .u16 0, .int .u32 0, .slice none 0 0] 122 (0, 0)) :: ((bQ, Obj.cells #[.string (bs q.name), .int .u16 q.kind, .int .u16 q.cls] 24 (0, 0)) :: ((b4, Obj.cells #[.int .u8 0, .slice none 0 0, .slice none 0 0] 40 (0, 0)) :: (Nd ++ L)))) ?_ jn; refine jZ 11 je rfl rfl rfl (qg rfl rfl stO rfl rfl rfl) ?_; rintro _ _ ⟨_, rfl⟩; refine ⟨Or.inr (fun z hz => jW jn z (hKm z hz)), ?_⟩
       refine tkQ 12 ?_
       refine tdQ ?_
       refine j9 (ea, ec, b12) hse ?_ (fun w h => h.cnt jn)
       exact jr
   rintro ⟨ea, ec, b12⟩ hse
   dsimp only at hse ⊢
   obtain ⟨ea', ec', hee, hsd, _⟩ := hse.vals
   simp only [List.cons.injEq, and_true, true_and, Value.slice.injEq] at hee
   obtain ⟨rfl, rfl⟩ := hee
   have hdx := hd x hxm
   obtain ⟨D, hD⟩ : ∃ D, (Vd.endV q x.vd).1.data = D := ⟨_, rfl⟩
   rw [hD] at hdx hsd hep ⊢
   obtain ⟨_, kd1, kd2, hsdc⟩ := qH hsd
   obtain ⟨d0, hd0⟩ : ∃ d, Vd.endsPut q (l.take i) [] = d := ⟨_, rfl⟩
   rw [hd0] at hdat hlni hep ⊢
   obtain ⟨is, his⟩ : ∃ b, (Vd.endV q x.vd).2 = b := ⟨_, rfl⟩
   rw [his] at hep ⊢
   have hd0l : d0.length ≤ 60000 := by have : i * 600 ≤ 100 * 600 := Nat.mul_le_mul_right _ jd; omega
   have hse12 : (b12, Obj.cells #[.string (bs (Vd.endV q x.vd).1.name), .int .u16 (Vd.endV q x.vd).1.kind, .int .u16 (Vd.endV q x.vd).1.cls, .int .u32 (Vd.endV q x.vd).1.ttl, .slice ea D.length ec] 122 (0, 0)) ∈ (b12, Obj.cells #[.string (bs (Vd.endV q x.vd).1.name), .int .u16 (Vd.endV q x.vd).1.kind, .int .u16 (Vd.endV q x.vd).1.cls, .int .u32 (Vd.endV q x.vd).1.ttl, .slice ea D.length ec] 122 (0, 0)) :: ((bQ, Obj.cells #[.string (bs q.name), .int .u16 q.kind, .int .u16 q.cls] 24 (0, 0)) :: ((b4, Obj.cells #[.int .u8 0, .slice none 0 0, .slice none 0 0] 40 (0, 0)) :: (Nd ++ L))) := List.mem_cons_self ..
   refine goA ?_
   refine jy (σ := Nat × Option Addr × Nat × ja) (fun y => y.1 ≤ D.length ∧ (is = false → y.1 = 0) ∧ sliceR 1 qB y.2.2.2 [.slice y.2.1 ((D.take y.1).foldl Vd.put d0).length y.2.2.1] ((D.take y.1).foldl Vd.put d0)) (fun y => [(1, .slice (some ⟨bw, ow, none⟩) l.length cv), (2, .pointer (some ⟨bQ, 0, none⟩)), (4, .pointer (some ⟨b4, 0, none⟩)), (7, .int .u32 (Vd.minTime (l.take (i + 1)) w.time)), (8, .bool (Vd.alikeV (l.take (i + 1)) w.vd)), (9, .int .i64 (Vd.firstAt l (i + 1) : Nat)), (10, .slice y.2.1 ((D.take y.1).foldl Vd.put d0).length y.2.2.1), (11, .int .i64 (i : Nat)), (12, .pointer (some ⟨b12, 0, none⟩)), (13, .bool is), (14, .int .i64 (y.1 : Nat))])
    (fun y => (b12, Obj.cells #[.string (bs (Vd.endV q x.vd).1.name), .int .u16 (Vd.endV q x.vd).1.kind, .int .u16 (Vd.endV q x.vd).1.cls, .int .u32 (Vd.endV q x.vd).1.ttl, .slice ea D.length ec] 122 (0, 0)) :: ((bQ, Obj.cells #[.string (bs q.name), .int .u16 q.kind, .int .u16 q.cls] 24 (0, 0)) :: ((b4, Obj.cells #[.int .u8 0, .slice none 0 0, .slice none 0 0] 40 (0, 0)) :: (y.2.2.2 ++ L)))) (fun y => D.length - y.1) (0, ad, cd, Nd) ⟨Nat.zero_le _, fun _ => rfl, hdat⟩ ?_ (fun w h => h) ?_
   exact jr
   clear hdat hKm hKc
   rintro ⟨k, ad, cd, Nd⟩ ⟨hk, hk0, hdat⟩
   dsimp only at hk hk0 hdat ⊢
   have hfp := zn (D.take k) d0
   rw [List.length_take] at hfp
   by_cases hgo : k < D.length ∧ is = true
   · obtain ⟨hkl, rfl⟩ := hgo
     obtain ⟨dk, hdk⟩ : ∃ dk, D[k]? = some dk := ⟨_, List.getElem?_eq_getElem hkl⟩
     have hst : (D.take (k + 1)).foldl Vd.put d0 = Vd.put ((D.take k).foldl Vd.put d0) dk := by rw [List.take_add_one, hdk]; simp
     rcases hsdc with h0 | ⟨be, oe, Ce, te, fe, rfl, me, qe⟩
     · rw [h0] at hkl; simp at hkl
     have ge := qe k dk hdk
     have me2 : (be, Obj.cells Ce te fe) ∈ Nd ++ L := List.mem_append_right _ (hKL _ me)
     refine goA ?_
     refine jw (jc je rfl (adL _ _ dk (jx kK _ _ _ _ jf hdat) jd (by have := hdx.2 dk (List.mem_of_getElem? hdk); unfold maxLen; omega))) rfl ?_
     rintro _ _ (⟨rfl, hpe, rfl⟩ | ⟨a', c', B', rfl, hB', rfl⟩)
     · refine goA ?_
       refine jh (k + 1, ad, cd, Nd) ⟨hkl, by simp, by dsimp only; rw [hst, hpe]; exact hdat⟩ ?_ (fun w h => h) (by dsimp only; omega)
       dsimp only
       rw [hst, hpe]
       exact jr
     · refine goA ?_
       refine jh (k + 1, a', c', B' ++ Nd) ⟨hkl, by simp, by dsimp only; rw [hst]; exact (hB'.imp (r' := qB) (L' := []) (fun cs y _ h => h)).sliceR kK (by simp) jf⟩ ?_ (fun w h => h.cnt jn) (by dsimp only; omega)
       dsimp only
       rw [hst]
       exact jr
   · have hfin : (D.take k).foldl Vd.put d0 = Vd.endsPut q (l.take (i + 1)) [] := by
      rw [hep]
      cases is with
      | false => rw [hk0 rfl, if_neg (by simp)]; rfl
      | true => rw [if_pos rfl, List.take_of_length_le (by simp at hgo; omega)]
     rw [hfin] at hdat ⊢
     by_cases hkl : k < D.length
     · have hisf : is = false := by cases is with
        | false => rfl
        | true => exact absurd ⟨hkl, rfl⟩ hgo
       subst hisf
       refine goA ?_
       refine jh (i + 1, ad, cd, Nd) ⟨hil, hdat⟩ ?_ (fun w h => h.tail) (by dsimp only; omega)
       exact jr
     · refine goA ?_
       refine jh (i + 1, ad, cd, Nd) ⟨hil, hdat⟩ ?_ (fun w h => h.tail) (by dsimp only; omega)
       exact jr
 · have hie : i = l.length := by omega
   subst hie
   rw [List.take_length] at hdat hti hlni ⊢
   obtain ⟨D, hD⟩ : ∃ D, Vd.endsPut q l [] = D := ⟨_, rfl⟩
   rw [hD] at hdat hU hlni ⊢
   have hcd := (sliceR.cut hdat).2.1
   obtain ⟨f, hf⟩ : ∃ f, l[Vd.firstAt l l.length]? = some f := ⟨_, List.getElem?_eq_getElem hfl⟩
   rw [hf] at hU
   dsimp only at hU
   obtain ⟨csf, _, hfv0, hcf⟩ := qw _ f hf
   obtain ⟨f1, fc1, f2, fc2, rfl, hf1, hf2, hf3, _⟩ := hfv0.vals
   have hfv : ∀ j v, ([.int .u8 f.vd.code, .slice f1 f.vd.sets.length fc1, .slice f2 f.vd.soa.length fc2] : List Value)[j]? = some v → Cw[ow + Vd.firstAt l l.length * 5 + 1 + j]? = some v := fun j v hj => by
    rw [Nat.add_assoc]
    match j, hj with
    | 0, hj => exact hcf 1 v hj
    | 1, hj => exact hcf 2 v hj
    | 2, hj => exact hcf 3 v hj
   have hfr : vdR K [.int .u8 f.vd.code, .slice f1 f.vd.sets.length fc1, .slice f2 f.vd.soa.length fc2] f.vd := ⟨_, _, rfl, hf1, hf2, hf3⟩
   have mwc : (bw, Obj.cells Cw tw fw) ∈ (bQ, Obj.cells #[.string (bs q.name), .int .u16 q.kind, .int .u16 q.cls] 24 (0, 0)) :: ((b4, Obj.cells #[.int .u8 0, .slice none 0 0, .slice none 0 0] 40 (0, 0)) :: (Nd ++ L)) := by simp [mw]
   by_cases hAD : Vd.alikeV l w.vd = true ∨ D.length = 0
   · have hU2 : Vd.union q l = (f.vd, Vd.minTime l w.time, true) := by
      rw [hU, if_pos]
      rcases hAD with h | h
      · rw [h]; rfl
      · rw [List.eq_nil_of_length_eq_zero h]; simp
     rw [hU2]
     by_cases hA : Vd.alikeV l w.vd = true
     · refine goA ?_
       refine jB (jA [.int .u8 f.vd.code, .slice f1 f.vd.sets.length fc1, .slice f2 f.vd.soa.length fc2] rfl stL mwc hfv) rfl ?_
       repeat (refine jB (uq rfl) rfl ?_)
       refine jH (L' := (b4, Obj.cells #[.int .u8 0, .slice none 0 0, .slice none 0 0] 40 (0, 0)) :: L) ?_ jn
       refine goA ?_
       refine km 4 40 5 6 rfl rfl rfl rfl stO (by repeat (exact List.mem_cons_self)) rfl (fun w h => Heap.cnt (L' := [] ++ L) h jn) ?_
       exact ⟨[.int .u8 f.vd.code, .slice f1 f.vd.sets.length fc1, .slice f2 f.vd.soa.length fc2], [], rfl, hfr, rfl⟩
     · have hA' : Vd.alikeV l w.vd = false := by simpa using hA
       have hD0 : D.length = 0 := by rcases hAD with h | h; exact absurd h hA; exact h
       refine goA ?_
       refine jB (jA [.int .u8 f.vd.code, .slice f1 f.vd.sets.length fc1, .slice f2 f.vd.soa.length fc2] rfl stL mwc hfv) rfl ?_
       repeat (refine jB (uq rfl) rfl ?_)
       refine jH (L' := (b4, Obj.cells #[.int .u8 0, .slice none 0 0, .slice none 0 0] 40 (0, 0)) :: L) ?_ jn
       refine goA ?_
       refine km 4 40 5 6 rfl rfl rfl rfl stO (by repeat (exact List.mem_cons_self)) rfl (fun w h => Heap.cnt (L' := [] ++ L) h jn) ?_
       exact ⟨[.int .u8 f.vd.code, .slice f1 f.vd.sets.length fc1, .slice f2 f.vd.soa.length fc2], [], rfl, hfr, rfl⟩
   · simp only [not_or] at hAD
     obtain ⟨hA, hD0⟩ := hAD
     have hA' : Vd.alikeV l w.vd = false := by simpa using hA
     have hU2 : Vd.union q l = (⟨0, [⟨Nm.fold q.name, q.kind, q.cls, 0, D⟩], []⟩, Vd.minTime l w.time, true) := by
      rw [hU, if_neg]
      rw [hA']
      simp only [Bool.false_or, decide_eq_true_eq]
      exact fun e => hD0 (by rw [e]; rfl)
     rw [hU2]
     have hKm : ∀ z ∈ [(bQ, Obj.cells #[.string (bs q.name), .int .u16 q.kind, .int .u16 q.cls] 24 (0, 0))], z ∈ (bQ, Obj.cells #[.string (bs q.name), .int .u16 q.kind, .int .u16 q.cls] 24 (0, 0)) :: ((b4, Obj.cells #[.int .u8 0, .slice none 0 0, .slice none 0 0] 40 (0, 0)) :: (Nd ++ L)) := jf
     have hD0' : ¬ ((D.length : Nat) : Int) = 0 := by omega
     refine goA ?_
     refine jq jb ([(bQ, Obj.cells #[.string (bs q.name), .int .u16 q.kind, .int .u16 q.cls] 24 (0, 0))]) [] ?_
     refine tkQ 0 ?_
     refine tkQ 1 ?_
     refine' jp 2 rfl rfl je (jV je rfl (fun _ _ => qQ _ ?_)) ?_ ?_; (· omega); (· assumption)
     refine tkQ 3 ?_
     refine tkQ 4 ?_
     refine tkQ 5 ?_
     refine tkQ 6 ?_
     refine tkQ 7 ?_
     (refine' jp 8 rfl rfl je (jL (jl rfl (uI _ _ _ _ _ _))) ?_ ?_; (· assumption))
     refine tkQ 11 ?_
     refine jF 9 je rfl rfl rfl rfl (qC etO rfl rfl (by decide)) ?_; rintro _ _ ⟨bL, rfl, rfl⟩; refine ⟨Or.inr (fun z hz => jW jn z (hKm z hz)), ?_⟩
     (refine' jp 10 rfl rfl je (jL (jl rfl (VD _ _ _))) ?_ ?_; (· intro p hp; grind))
     refine j6 (L' := (b4, Obj.cells #[.int .u8 0, .slice none 0 0, .slice none 0 0] 40 (0, 0)) :: ((bL, Obj.cells #[.string (bs (Nm.fold q.name)), .int .u16 q.kind, .int .u16 q.cls, .int .u32 0, .slice ad D.length cd] 122 (0, 0)) :: ((bQ, Obj.cells #[.string (bs q.name), .int .u16 q.kind, .int .u16 q.cls] 24 (0, 0)) :: (Nd ++ L)))) ?_ jn; refine jZ 12 je rfl rfl rfl (qg rfl rfl stO rfl rfl rfl) ?_; rintro _ _ ⟨_, rfl⟩; refine ⟨Or.inr jf, ?_⟩
     refine tkQ 13 ?_
     refine tkQ 14 ?_
     refine tdQ ?_
     refine goA ?_
     refine km 4 40 5 6 rfl rfl rfl rfl stO (by repeat (exact List.mem_cons_self)) rfl (fun w h => Heap.cnt (L' := ((bL, Obj.cells #[.string (bs (Nm.fold q.name)), .int .u16 q.kind, .int .u16 q.cls, .int .u32 0, .slice ad D.length cd] 122 (0, 0)) :: Nd) ++ L) h jn) ?_
     refine ⟨[.int .u8 0, .slice (some ⟨bL, 0, none⟩) 1 1, .slice none 0 0], _, rfl, ⟨_, _, rfl, ?_, sliceR.nil, by simp⟩, rfl⟩
     have hr : rsR Nd [.string (bs (Nm.fold q.name)), .int .u16 q.kind, .int .u16 q.cls, .int .u32 0, .slice ad D.length cd] ⟨Nm.fold q.name, q.kind, q.cls, 0, D⟩ := ⟨_, rfl, hdat, by have := ug q.name; unfold maxLen; dsimp only; omega, hq2, hq3, by simp⟩
     exact (QX (b := bL) (e := 122) hr).sliceR jC jf jf
end
section
open Go.RowKit
open Vd (RSet Vdt Vote Rec Quest Piece Ballot Said)
variable {G : World} {L : ja}
theorem zo : ∀ {l : List Vd.Bytes} {xs : List Value}, Laid qB 1 L xs l → xs = l.map Go.Proofs.encStr ∧ ∀ s ∈ l, s.length ≤ maxLen
 | [], xs, h => ⟨h, by simp⟩
 | s :: l, _, ⟨c, ys, h1, h2, h3, h4⟩ => by
   obtain ⟨k1, k2⟩ := zo h4
   obtain ⟨rfl, h3⟩ := h3
   refine ⟨by rw [h1, k1]; rfl, fun t ht => ?_⟩
   rcases List.mem_cons.1 ht with rfl | ht
   · exact h3
   · exact k2 t ht
theorem zp : ∀ (l : List Vd.Bytes), (∀ s ∈ l, s.length ≤ maxLen) → Laid qB 1 L (l.map Go.Proofs.encStr) l
 | [], _ => rfl
 | s :: l, h => ⟨[.string (bs s)], l.map Go.Proofs.encStr, rfl, rfl, ⟨rfl, h s (List.mem_cons_self ..)⟩, zp l fun t ht => h t (List.mem_cons_of_mem _ ht)⟩
theorem ZV (l : List Vd.Bytes) : ∀ v ∈ l.map Go.Proofs.encStr, v.oneCell' = true := by
 intro v hv
 obtain ⟨s, _, rfl⟩ := List.mem_map.1 hv
 rfl
theorem Row.pre {e : TypeId} {a : Option Addr} {n c k : Nat} {xs : List Value} {B : ja} (h : Row e 1 (.slice a n c) n xs B) (hk : k ≤ n) : Row e 1 (.slice a k c) k (xs.take k) B := by
 have hl := h.len
 refine ⟨by rw [List.length_take, hl]; omega, ?_⟩
 rcases h.is with ⟨q1, q2, q3⟩ | ⟨b, cap, cur, q1, q2, q3, q4, q5, q6⟩
 · obtain ⟨rfl, _, rfl⟩ := Value.slice.inj q1
   have : k = 0 := by omega
   subst this
   exact Or.inl ⟨rfl, rfl, q3⟩
 · obtain ⟨rfl, _, rfl⟩ := Value.slice.inj q1
   refine Or.inr ⟨b, c, cur, rfl, q2, by omega, q4, q5, ?_⟩
   rw [← q6, List.take_take]
   congr 1
   omega
theorem ae2 {K : ja} (a : Option Addr) (c : Nat) (l : List Vd.Bytes) (B : ja) (hB : ORow qB 9 1 K a c l B) (hn : l.length ≤ 1000000) : Spec Tryz.prog G 114 #[.slice a l.length c] (B ++ L) fun u M => u = .tuple #[] ∧ ∃ B', ORow qB 9 1 K a c (l.mergeSort fun x y => decide (x ≤ y)) B' ∧ M = B' ++ L := by
 refine ⟨fun w hw => ?_⟩
 obtain ⟨xs, h1, h2, h3⟩ := hB.ex
 obtain ⟨rfl, hle⟩ := zo h2
 rcases h1.is with ⟨q1, q2, q3⟩ | ⟨b, cap, cur, q1, q2, q3, q4, q5, q6⟩
 · have hl0 : l = [] := List.eq_nil_of_length_eq_zero q2
   subst hl0
   obtain ⟨rfl, _, rfl⟩ := Value.slice.inj q1
   refine (Tryz.slices_Sort_string_none none 0 w).mono fun e w' ⟨he, hww⟩ => ?_
   subst hww
   exact ⟨_, _, he, ⟨rfl, B, by simpa using hB, rfl⟩, hw⟩
 · obtain ⟨rfl, _, rfl⟩ := Value.slice.inj q1
   have hb : w.heap[b]? = some (.cells cur 9 (0, 0)) := hw.get (b, _) (by rw [q2]; simp)
   have hH := holds_of_block (ss := l) hb (by rw [Nat.mul_one] at q6; exact q6)
   have hlen : (l.mergeSort fun x y => decide (x ≤ y)).length = l.length := List.length_mergeSort l
   refine (Tryz.slices_Sort_string b 0 c l w hH (Array.getElem?_eq_some_iff.1 hb).1 jd).mono fun e w' ⟨he, n, os, hww⟩ => ?_
   have ho := ownsRow_sorted (w := w) (base := 0) (n := n) (os := os) (ss := l) (ts := l.mergeSort fun x y => decide (x ≤ y)) hlen (Nat.zero_le _) hb q3 q4 q5
   have hg := grownBy_sorted (w := w) (g := b) (n := n) (os := os) (l.mergeSort fun x y => decide (x ≤ y)).toArray
   rw [← hww] at ho hg
   obtain ⟨B', hB', hH'⟩ := h1.after hw ho hg (Or.inl rfl)
   refine ⟨_, _, he, ⟨rfl, B', ⟨_, by rw [hlen]; exact hB', zp _ fun s hs => hle s ((List.mem_mergeSort).1 hs), ZV _⟩, rfl⟩, hH'⟩
theorem W8 (l : List Vd.Bytes) : (Lib.compact l).length ≤ l.length := by
 unfold Lib.compact Lib.compactUpTo
 rw [List.length_map]
 have := List.length_filter_le (Lib.keeps l.toArray) (List.range l.length)
 simpa using this
theorem W9 (l : List Vd.Bytes) : ∀ s ∈ Lib.compact l, s ∈ l := by
 intro s hs
 unfold Lib.compact Lib.compactUpTo at hs
 obtain ⟨i, hi, rfl⟩ := List.mem_map.1 hs
 have hi' := (List.mem_filter.1 hi).1
 rw [List.mem_range] at hi'
 simp [hi']
theorem aaG {K : ja} (a : Option Addr) (c : Nat) (l : List Vd.Bytes) (B : ja) (hB : ORow qB 9 1 K a c l B) (hn : l.length ≤ 1000000) : Spec Tryz.prog G 115 #[.slice a l.length c] (B ++ L) fun u M => ∃ B', u = .slice a (Lib.compact l).length c ∧ ORow qB 9 1 K a c (Lib.compact l) B' ∧ M = B' ++ L := by
 refine ⟨fun w hw => ?_⟩
 obtain ⟨xs, h1, h2, h3⟩ := hB.ex
 obtain ⟨rfl, hle⟩ := zo h2
 rcases h1.is with ⟨q1, q2, q3⟩ | ⟨b, cap, cur, q1, q2, q3, q4, q5, q6⟩
 · have hl0 : l = [] := List.eq_nil_of_length_eq_zero q2
   subst hl0
   obtain ⟨rfl, _, rfl⟩ := Value.slice.inj q1
   refine (Tryz.slices_Compact_string_empty none 0 w).mono fun e w' ⟨he, hww⟩ => ?_
   subst hww
   exact ⟨_, _, he, ⟨B, rfl, hB, rfl⟩, hw⟩
 · obtain ⟨rfl, _, rfl⟩ := Value.slice.inj q1
   have hb : w.heap[b]? = some (.cells cur 9 (0, 0)) := hw.get (b, _) (by rw [q2]; simp)
   have hH := holds_of_block (ss := l) hb (by rw [Nat.mul_one] at q6; exact q6)
   have hcl := W8 l
   refine (Tryz.slices_Compact_string b 0 c l w hH jd q3).mono fun e w' ⟨he, n, hww⟩ => ?_
   have hlen : (Lib.compact l ++ List.replicate (l.length - (Lib.compact l).length) []).length = l.length := by simp; omega
   have ho := ownsRow_sorted (w := w) (base := 0) (n := n) (os := #[]) (ss := l) (ts := Lib.compact l ++ List.replicate (l.length - (Lib.compact l).length) []) hlen (Nat.zero_le _) hb q3 q4 q5
   have hg := grownBy_sorted (w := w) (g := b) (n := n) (os := #[]) (Lib.compact l ++ List.replicate (l.length - (Lib.compact l).length) []).toArray
   rw [Go.Sort.grow_empty, ← hww] at ho hg
   obtain ⟨B', hB', hH'⟩ := h1.after hw ho hg (Or.inl rfl)
   refine ⟨_, _, he, ⟨B', rfl, ⟨_, hB'.pre hcl, ?_, fun v hv => ZV _ v (List.mem_of_mem_take hv)⟩, rfl⟩, hH'⟩
   rw [List.map_append, List.take_left' (by simp)]
   exact zp _ fun s hs => hle s (W9 l s hs)
end
section
open Go.RowKit
variable {G : World} {L : ja}
theorem K3 : ∀ {l : List Int} {xs : List Value}, Laid (uj .i64) 1 L xs l → xs = l.map (Value.int .i64) ∧ ∀ s ∈ l, qd .i64 s
 | [], xs, h => ⟨h, by simp⟩
 | s :: l, _, ⟨c, ys, h1, h2, h3, h4⟩ => by
   obtain ⟨k1, k2⟩ := K3 h4
   obtain ⟨rfl, h3⟩ := h3
   refine ⟨by rw [h1, k1]; rfl, fun t ht => ?_⟩
   rcases List.mem_cons.1 ht with rfl | ht
   · exact h3
   · exact k2 t ht
theorem K4 : ∀ (l : List Int), (∀ s ∈ l, qd .i64 s) → Laid (uj .i64) 1 L (l.map (Value.int .i64)) l
 | [], _ => rfl
 | s :: l, h => ⟨[.int .i64 s], l.map (Value.int .i64), rfl, rfl, ⟨rfl, h s (List.mem_cons_self ..)⟩, K4 l fun t ht => h t (List.mem_cons_of_mem _ ht)⟩
theorem adM (l : List Int) : ∀ v ∈ l.map (Value.int .i64), v.oneCell' = true := by
 intro v hv
 obtain ⟨s, _, rfl⟩ := List.mem_map.1 hv
 rfl
theorem adN {K : ja} (a : Option Addr) (c : Nat) (l : List Int) (B : ja) (hB : ORow (uj .i64) 3 1 K a c l B) (hn : l.length ≤ 1000000) : Spec Tryz.prog G 192 #[.slice a l.length c] (B ++ L) fun u M => u = .tuple #[] ∧ ∃ B', ORow (uj .i64) 3 1 K a c (l.mergeSort fun x y => decide (x ≤ y)) B' ∧ M = B' ++ L := by
 refine ⟨fun w hw => ?_⟩
 obtain ⟨xs, h1, h2, h3⟩ := hB.ex
 obtain ⟨rfl, hle⟩ := K3 h2
 rcases h1.is with ⟨q1, q2, q3⟩ | ⟨b, cap, cur, q1, q2, q3, q4, q5, q6⟩
 · have hl0 : l = [] := List.eq_nil_of_length_eq_zero q2
   subst hl0
   obtain ⟨rfl, _, rfl⟩ := Value.slice.inj q1
   refine (Tryz.slices_Sort_int_none none 0 w).mono fun e w' ⟨he, hww⟩ => ?_
   subst hww
   exact ⟨_, _, he, ⟨rfl, B, by simpa using hB, rfl⟩, hw⟩
 · obtain ⟨rfl, _, rfl⟩ := Value.slice.inj q1
   have hb : w.heap[b]? = some (.cells cur 3 (0, 0)) := hw.get (b, _) (by rw [q2]; simp)
   have hH := holds_of_blockI (ss := l) hb (by rw [Nat.mul_one] at q6; exact q6)
   have hlen : (l.mergeSort fun x y => decide (x ≤ y)).length = l.length := List.length_mergeSort l
   refine (Tryz.slices_Sort_int b 0 c l w hH (Array.getElem?_eq_some_iff.1 hb).1 jd).mono fun e w' ⟨he, n, os, hww⟩ => ?_
   have ho := ownsRow_sortedI (w := w) (base := 0) (n := n) (os := os) (ss := l) (ts := l.mergeSort fun x y => decide (x ≤ y)) hlen (Nat.zero_le _) hb q3 q4 q5
   have hg := grownBy_sortedI (w := w) (g := b) (n := n) (os := os) (l.mergeSort fun x y => decide (x ≤ y)).toArray
   rw [← hww] at ho hg
   obtain ⟨B', hB', hH'⟩ := h1.after hw ho hg (Or.inl rfl)
   refine ⟨_, _, he, ⟨rfl, B', ⟨_, by rw [hlen]; exact hB', K4 _ fun s hs => hle s ((List.mem_mergeSort).1 hs), adM _⟩, rfl⟩, hH'⟩
end
section
open Go.RowKit
section
variable {G : World} {P : Program} {n : Nat} {ρ : jG} {L : ja} {ty : TypeId} {Q : Exit → Act → World → Prop}
theorem Jz {x : Operand} {b off len : Nat} {t e : TypeId} {C : Array Value} {te : TypeId} {fr : Nat × Nat} (cs : List Value) (hx : ev ρ x = some (.pointer (some ⟨b, off, none⟩)))
 (hu : P.underlying t = some (.array len e)) (ht : (P.info? t).map (·.size) = some cs.length) (hm : (b, Obj.cells C te fr) ∈ L) (hv : ∀ j v, cs[j]? = some v → C[off + j]? = some v) : OpQ P ρ L (.load t x) ty (.agg cs.toArray) :=
 ⟨fun r hr w hw o ho _ => by
   cases hi : P.info? t with
   | none => simp [hi] at ht
   | some i =>
     simp [hi] at ht
     have ha : (isAgg t).run P w = .ok true w := by
      unfold isAgg
      simp [run_underlying hu]
     have hc := run_loadCells_list (P := P) (w := w) ⟨b, off, none⟩ cs (fun j v hj => by rw [qq]; exact hw.cell hm (hv j v hj))
     simp [execOp, ho, hr _ _ hx, Instr.loadAt, Instr.sureAddr, loadVar, ha, sizeOf, typeInfo, hi, ht, hc]⟩
theorem VU {x y : Operand} {C : Array Value} {t e : TypeId} {len sz : Nat} {k : IntKind} {i : Int} (hx : ev ρ x = some (.agg C)) (hy : ev ρ y = some (.int k i)) (hu : P.underlying t = some (.array len e)) (he : j5 P e sz = true)
 (h0 : 0 ≤ i) (h1 : i < len) : OpQ P ρ L (.index t x y) ty (.agg (C.extract (i.toNat * sz) (i.toNat * sz + sz))) :=
 ⟨fun r hr w hw o ho _ => by
   unfold j5 at he
   cases hue : P.underlying e with
   | none => simp [hue] at he
   | some d =>
     cases hi : P.info? e with
     | none => simp [hi] at he
     | some ti =>
       cases d with
       | struct fs =>
         simp [hue, hi] at he
         have ha : (isAgg e).run P w = .ok true w := by
          unfold isAgg
          simp [run_underlying hue]
         simp [execOp, ho, hr _ _ hx, hr _ _ hy, Instr.index, asIntOf, run_underlying hu, h0, h1, part, ha, sizeOf, typeInfo, hi, he]
       | _ => simp [hue] at he⟩
end
end
end Go.Proofs.YtbjkkoacclfejaaGreat
