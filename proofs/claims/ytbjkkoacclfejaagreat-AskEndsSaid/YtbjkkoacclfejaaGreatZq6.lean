/-
 Part 6: El Em Cd Ce Cg Cj Ci Ch Ck Cl En Eo Ep Eq Ex Fa.
-/
import Derived.Test.YtbjkkoacclfejaaGreatZq5
import Derived.Test.YtbjkkoacclfejaaGreatZq1
import Derived.Test.YtbjkkoacclfejaaGreatZq2
set_option maxRecDepth 100000
set_option maxHeartbeats 8000000
set_option linter.unusedVariables false
set_option linter.unusedSimpArgs false
namespace Go.Proofs.YtbjkkoacclfejaaGreat
open Go.RowKit
open Hg (En Pl)
open Vd (RSet Vdt Vote Rec Quest Piece Ballot)
variable {G : World} {L : ja}
def ut (ap : Nat) (a : As) (X : ja) : Prop := ∃ bp bb Mp Mb, IsPlan bp a.p Mp ∧ PBox bb a.want a.l Mb ∧ X = (ap, .cells (jh a bp bb) 102 (0, 0)) :: (Mp ++ Mb)
theorem aaH {a : As} (h : 0 ≤ a.now ∧ a.now ≤ Hg.top) (t : Int) : 0 ≤ (Aq.upto a t).now ∧ (Aq.upto a t).now ≤ Hg.top := by
 unfold Aq.upto
 dsimp only
 omega
theorem Wt (p : Pl) (t : Int) : (Hg.tick p t).1.made = p.made := by
 unfold Hg.tick
 split
 · rfl
 · simp only [Hg.hedged]
   split
   · split <;> rfl
   · rfl
theorem AOk.close {a : As} (h : AOk a) (u : Int) : AOk { a with p := (Hg.close a.p u).1 } := ⟨h.good.close u, h.fr.close u, h.begins, h.made, h.want, h.pol, h.now, h.ded, h.name, h.box⟩
theorem AOk.upto {a : As} (h : AOk a) (t : Int) : AOk (Aq.upto a t) := ⟨h.good, h.fr, h.begins, h.made, h.want, h.pol, aaH h.now t, h.ded, h.name, h.box⟩
theorem AOk.tick {a : As} (h : AOk a) (t : Int) : AOk { a with p := (Hg.tick a.p t).1 } := ⟨h.good.tick t, h.fr.tick t, by rw [Um]; exact h.begins, by rw [Wt]; exact h.made, h.want, h.pol, h.now, h.ded, h.name, h.box⟩
theorem AOk.put {a : As} (h : AOk a) (x : Ballot) : AOk { a with l := (Vd.putB a.l x).1 } := ⟨h.good, h.fr, h.begins, h.made, h.want, h.pol, h.now, h.ded, h.name, h.box.put x⟩
theorem AOk.over {a : As} (h : AOk a) (b : Bool) : AOk { a with over := b } := ⟨h.good, h.fr, h.begins, h.made, h.want, h.pol, h.now, h.ded, h.name, h.box⟩
theorem Vf {l : List Ballot} {x : Ballot} {y : Vote} (h : y ∈ Vd.votesB (Vd.putB l x).1) : y ∈ Vd.votesB l ∨ (x.pass = false ∧ y = x.v) := by
 unfold Vd.putB at h
 split at h
 · exact Or.inl h
 split at h
 · exact Or.inl h
 · rw [qm] at h
   split at h
   · exact Or.inl h
   · rename_i hp
     rcases List.mem_append.1 h with h | h
     · exact Or.inl h
     · exact Or.inr ⟨by simpa using hp, List.mem_singleton.1 h⟩
theorem AWell.put {a : As} (h : AWell a) (x : Ballot) (hx : x.pass = false → EndOk a.q x.v.vd) : AWell { a with l := (Vd.putB a.l x).1 } :=
 ⟨h.ok.put x, h.q, fun y hy => by
   rcases Vf (show y ∈ Vd.votesB (Vd.putB a.l x).1 from hy) with hy | ⟨hp, rfl⟩
   · exact h.ends y hy
   · exact hx hp⟩
theorem AWell.of {a b : As} (h : AWell a) (hk : AOk b) (hq : b.q = a.q) (hl : b.l = a.l) : AWell b := ⟨hk, by rw [hq]; exact h.q, fun x hx => by unfold Aq.votes at hx; rw [hl] at hx; rw [hq]; exact h.ends x hx⟩
theorem zD : ∀ (n : Nat) (a : As) (d : Dd), AOk a → AOk (Aq.lookL n a d).1 ∧ (Aq.lookL n a d).1.q = a.q ∧ (Aq.lookL n a d).1.l = a.l ∧ (Aq.lookL n a d).1.pol = a.pol ∧ (Aq.lookL n a d).1.want = a.want ∧ (Aq.lookL n a d).1.ded = a.ded ∧ (Aq.lookL n a d).1.now = a.now
 | 0, a, d, h => ⟨h, rfl, rfl, rfl, rfl, rfl, rfl⟩
 | n + 1, a, d, h => by
   unfold Aq.lookL
   split
   · exact ⟨h, rfl, rfl, rfl, rfl, rfl, rfl⟩
   · split
     · exact zD n _ _ h.more
     · exact ⟨(h.more).over true, rfl, rfl, rfl, rfl, rfl, rfl⟩
theorem jT {a : As} {d : Dd} (h : AOk a) : AOk (Aq.look a d).1 ∧ (Aq.look a d).1.q = a.q ∧ (Aq.look a d).1.l = a.l ∧ (Aq.look a d).1.pol = a.pol ∧ (Aq.look a d).1.want = a.want ∧ (Aq.look a d).1.ded = a.ded ∧ (Aq.look a d).1.now = a.now := by
 unfold Aq.look
 split
 · exact ⟨h.over true, rfl, rfl, rfl, rfl, rfl, rfl⟩
 · exact zD _ _ _ h
theorem AWell.look {a : As} {d : Dd} (h : AWell a) : AWell (Aq.look a d).1 := h.of (jT h.ok).1 (jT h.ok).2.1 (jT h.ok).2.2.1
theorem AWell.vote {a : As} (h : AWell a) {u : Int} {v : Vdt} {t now : Int} (hv : a.over = false → (Hg.close a.p u).2 = true → EndOk a.q v) : AWell (Aq.vote a u v t now).1 := by
 unfold Aq.vote
 split
 · exact h
 · rename_i ho
   split
   · rename_i hc
     exact AWell.look (AWell.put (a := Aq.upto { a with p := (Hg.close a.p u).1 } now) (h.of ((h.ok.close u).upto now) rfl rfl) ⟨⟨u, v, t⟩, false⟩ (fun _ => hv (by simpa using ho) hc))
   · exact h.of (h.ok.close u) rfl rfl
theorem AWell.pass {a : As} (h : AWell a) {u now : Int} : AWell (Aq.pass a u now).1 := by
 unfold Aq.pass
 split
 · exact h
 · split
   · exact AWell.look (AWell.put (a := Aq.upto { a with p := (Hg.close a.p u).1 } now) (h.of ((h.ok.close u).upto now) rfl rfl) ⟨⟨u, Vdt.none, 0⟩, true⟩ (fun h => by cases h))
   · exact h.of (h.ok.close u) rfl rfl
theorem AWell.tick {a : As} (h : AWell a) {now : Int} : AWell (Aq.tick a now).1 := by
 unfold Aq.tick
 split
 · exact h
 · split
   · exact h.of ((h.ok.upto now).over true) rfl rfl
   · exact AWell.look (a := { (Aq.upto a now) with p := (Hg.tick a.p (Aq.upto a now).now).1 }) (h.of ((h.ok.upto now).tick _) rfl rfl)
theorem zY (ap bp bb : Nat) (a : As) (hm : (ap, Obj.cells (jh a bp bb) 102 (0, 0)) ∈ L) : Spec Tryz.prog G 45 #[.pointer (some ⟨ap, 0, none⟩)] L fun u M => u = .bool a.over ∧ M = L := by
 have e3 : (jh a bp bb)[0 + 5]? = some (.pointer (some ⟨bp, 0, none⟩)) := rfl
 have e7 : (jh a bp bb)[0 + 9]? = some (.bool a.over) := rfl
 have g1 : Option.isNone (some (⟨ap, 0, none⟩ : Addr)) = false := rfl
 have g2 : Option.isNone (some (⟨bp, 0, none⟩ : Addr)) = false := rfl
 refine jm (n := 18) Tryz.func45 rfl rfl rfl ?_
 refine goB ?_
 refine je 2 _ rfl rfl ?_
 exact ⟨rfl, rfl⟩
theorem zb (ap bp bb : Nat) (a : As) (now : Int) (hn : 0 ≤ a.now ∧ a.now ≤ Hg.top) : Spec Tryz.prog G 46 #[.pointer (some ⟨ap, 0, none⟩), .int .i64 now] ((ap, .cells (jh a bp bb) 102 (0, 0)) :: L) fun u M => M = (ap, .cells (jh (Aq.upto a now) bp bb) 102 (0, 0)) :: L := by
 unfold jh
 refine jm (n := 14) Tryz.func46 rfl rfl rfl ?_
 refine goB ?_
 refine yo rfl ?_
 rfl
theorem kT {K : ja} : yZ K [.slice none 0 0, .slice none 0 0, .bool false, .bool false, .int .u8 0, .slice none 0 0, .slice none 0 0, .int .u32 0, .slice none 0 0, .slice none 0 0] Dd.none :=
 ⟨none, 0, none, 0, none, 0, none, 0, none, 0, none, 0, rfl, jC, jC, ⟨_, _, rfl, sliceR.nil, sliceR.nil, by decide⟩, jC, jC⟩
theorem yI {K : ja} {cs : List Value} {d : Dd} (h : yZ K cs d) : yP cs.toArray = true ∧ cs.length = 10 := by
 obtain ⟨y1, k1, y2, k2, y3, k3, y4, k4, y5, k5, y6, k6, rfl, _⟩ := h
 exact ⟨rfl, rfl⟩
def Vg (X : ja → Prop) (L : ja) (d : Dd) (u : Value) (M : ja) : Prop := ∃ cs X' N, u = .agg cs.toArray ∧ yZ N cs d ∧ X X' ∧ M = X' ++ (N ++ L)
theorem zZ {ap : Nat} {a : As} {X : ja} (h : ut ap a X) (hA : AWell a) (u : Int) (v : Vdt) (t now : Int) (cv : List Value) (hv : vdR L cv v) (hsv : SmV v) (hev : a.over = false → (Hg.close a.p u).2 = true → EndOk a.q v) (ht : 0 ≤ t ∧ t ≤ 4294967295) (hu : -9223372036854775808 ≤ u ∧ u ≤ 9223372036854775807) :
 Spec Tryz.prog G 17 #[.pointer (some ⟨ap, 0, none⟩), .int .i64 u, .agg cv.toArray, .int .u32 t, .int .i64 now] (X ++ L) (Vg (ut ap (Aq.vote a u v t now).1) L (Aq.vote a u v t now).2) := by
 obtain ⟨bp, bb, Mp, Mb, hp, hb, rfl⟩ := h
 have hn := hA.ok.now
 obtain ⟨vv1, vv2, rfl, hvs1, hvs2, hvc⟩ := id hv
 rw [List.cons_append]
 refine jm (n := 39) Tryz.func17 rfl rfl rfl ?_
 repeat (first | refine goB ?_ | (refine j5 ?_; intro bNew) | (refine kK ?_; intro bBox))
 obtain ⟨b5, hb5⟩ : ∃ b, bNew = b := ⟨_, rfl⟩
 rw [hb5]
 clear hb5
 rename_i b10
 refine jX (jb jg rfl (zY ap bp bb a (by simp))) rfl ?_
 cases ho : a.over with
 | true =>
   have hm : Aq.vote a u v t now = (a, Dd.none) := by unfold Aq.vote; rw [if_pos ho]
   rw [hm]
   refine goB ?_
   refine jy (L' := (b10, Obj.cells #[.slice none 0 0, .slice none 0 0, .bool false, .bool false, .int .u8 0, .slice none 0 0, .slice none 0 0, .int .u32 0, .slice none 0 0, .slice none 0 0] 43 (0, 0)) :: (b5, Obj.cells #[.slice none 0 0, .slice none 0 0, .bool false, .bool false, .int .u8 0, .slice none 0 0, .slice none 0 0, .int .u32 0, .slice none 0 0, .slice none 0 0] 43 (0, 0)) :: (((ap, Obj.cells (jh a bp bb) 102 (0, 0)) :: (Mp ++ Mb)) ++ ([] ++ L))) ?_ jl
   refine goB ?_
   refine ku 10 43  rfl rfl  stO (by repeat (exact List.mem_cons_self)) rfl (L' := (((ap, Obj.cells (jh a bp bb) 102 (0, 0)) :: (Mp ++ Mb)) ++ ([] ++ L))) (fun w h => h.cnt jl) ?_
   exact ⟨_, _, [], rfl, kT, ⟨bp, bb, Mp, Mb, hp, hb, rfl⟩, rfl⟩
 | false =>
   have hcl := VO (G := G) (L := (b5, Obj.cells #[.slice none 0 0, .slice none 0 0, .bool false, .bool false, .int .u8 0, .slice none 0 0, .slice none 0 0, .int .u32 0, .slice none 0 0, .slice none 0 0] 43 (0, 0)) :: (b10, Obj.cells #[.slice none 0 0, .slice none 0 0, .bool false, .bool false, .int .u8 0, .slice none 0 0, .slice none 0 0, .int .u32 0, .slice none 0 0, .slice none 0 0] 43 (0, 0)) :: (bBox, Obj.cells #[.int .u8 v.code, vv1, vv2] 40 (0, 0)) :: (ap, Obj.cells (jh a bp bb) 102 (0, 0)) :: (Mb ++ L)) hp u
   refine goB ?_
   refine qq (OpT.heap (L' := Mp ++ ((b5, Obj.cells #[.slice none 0 0, .slice none 0 0, .bool false, .bool false, .int .u8 0, .slice none 0 0, .slice none 0 0, .int .u32 0, .slice none 0 0, .slice none 0 0] 43 (0, 0)) :: (b10, Obj.cells #[.slice none 0 0, .slice none 0 0, .bool false, .bool false, .int .u8 0, .slice none 0 0, .slice none 0 0, .int .u32 0, .slice none 0 0, .slice none 0 0] 43 (0, 0)) :: (bBox, Obj.cells #[.int .u8 v.code, vv1, vv2] 40 (0, 0)) :: (ap, Obj.cells (jh a bp bb) 102 (0, 0)) :: (Mb ++ L))) (fun w h => h.cnt jl) (jb jg rfl hcl)) rfl ?_
   rintro _ _ ⟨rfl, M2, hp2, rfl⟩
   cases hc : (Hg.close a.p u).2 with
   | false =>
     have hm : Aq.vote a u v t now = ({ a with p := (Hg.close a.p u).1 }, Dd.none) := by unfold Aq.vote; rw [if_neg (by rw [ho]; decide), hc]; rfl
     rw [hm]
     refine goB ?_
     refine jy (L' := (b10, Obj.cells #[.slice none 0 0, .slice none 0 0, .bool false, .bool false, .int .u8 0, .slice none 0 0, .slice none 0 0, .int .u32 0, .slice none 0 0, .slice none 0 0] 43 (0, 0)) :: (b5, Obj.cells #[.slice none 0 0, .slice none 0 0, .bool false, .bool false, .int .u8 0, .slice none 0 0, .slice none 0 0, .int .u32 0, .slice none 0 0, .slice none 0 0] 43 (0, 0)) :: (((ap, Obj.cells (jh a bp bb) 102 (0, 0)) :: (M2 ++ Mb)) ++ ([] ++ L))) ?_ jl
     refine goB ?_
     refine ku 10 43  rfl rfl  stO (by repeat (exact List.mem_cons_self)) rfl (L' := (((ap, Obj.cells (jh a bp bb) 102 (0, 0)) :: (M2 ++ Mb)) ++ ([] ++ L))) (fun w h => h.cnt jl) ?_
     exact ⟨_, _, [], rfl, kT, ⟨bp, bb, M2, Mb, hp2, hb, rfl⟩, rfl⟩
   | true =>
     obtain ⟨a2, ha2⟩ : ∃ z, z = { (Aq.upto { a with p := (Hg.close a.p u).1 } now) with l := (Vd.putB a.l ⟨⟨u, v, t⟩, false⟩).1 } := ⟨_, rfl⟩
     have hm : Aq.vote a u v t now = Aq.look a2 (dd [] []) := by unfold Aq.vote; rw [if_neg (by rw [ho]; decide), hc, if_pos rfl, ha2]; rfl
     have hw2 : AWell a2 := by rw [ha2]; exact AWell.put (a := Aq.upto { a with p := (Hg.close a.p u).1 } now) (hA.of ((hA.ok.close u).upto now) rfl rfl) ⟨⟨u, v, t⟩, false⟩ (fun _ => hev ho hc)
     rw [hm]
     refine goB ?_
     refine jy (L' := (ap, Obj.cells (jh a bp bb) 102 (0, 0)) :: (M2 ++ (Mb ++ ((b5, Obj.cells #[.slice none 0 0, .slice none 0 0, .bool false, .bool false, .int .u8 0, .slice none 0 0, .slice none 0 0, .int .u32 0, .slice none 0 0, .slice none 0 0] 43 (0, 0)) :: (b10, Obj.cells #[.slice none 0 0, .slice none 0 0, .bool false, .bool false, .int .u8 0, .slice none 0 0, .slice none 0 0, .int .u32 0, .slice none 0 0, .slice none 0 0] 43 (0, 0)) :: (bBox, Obj.cells #[.int .u8 v.code, vv1, vv2] 40 (0, 0)) :: L)))) ?_ jl
     refine jx (jb jg rfl (zb ap bp bb a now hn)) rfl ?_
     rintro _ _ rfl
     have he2 : jh (Aq.upto a now) bp bb = jh a2 bp bb := by rw [ha2]; rfl
     rw [he2]
     have hK : ∀ z ∈ [(ap, Obj.cells (jh a2 bp bb) 102 (0, 0)), (bBox, Obj.cells #[.int .u8 v.code, vv1, vv2] 40 (0, 0))], z ∈ (ap, Obj.cells (jh a2 bp bb) 102 (0, 0)) :: (M2 ++ (Mb ++ ((b5, Obj.cells #[.slice none 0 0, .slice none 0 0, .bool false, .bool false, .int .u8 0, .slice none 0 0, .slice none 0 0, .int .u32 0, .slice none 0 0, .slice none 0 0] 43 (0, 0)) :: (b10, Obj.cells #[.slice none 0 0, .slice none 0 0, .bool false, .bool false, .int .u8 0, .slice none 0 0, .slice none 0 0, .int .u32 0, .slice none 0 0, .slice none 0 0] 43 (0, 0)) :: (bBox, Obj.cells #[.int .u8 v.code, vv1, vv2] 40 (0, 0)) :: L))) := fun z hz => by simp only [List.mem_cons, List.not_mem_nil, or_false] at hz; rcases hz with rfl | rfl <;> simp
     have hvote : voteR ((ap, Obj.cells (jh a2 bp bb) 102 (0, 0)) :: (bBox, Obj.cells #[.int .u8 v.code, vv1, vv2] 40 (0, 0)) :: (M2 ++ ((b5, Obj.cells #[.slice none 0 0, .slice none 0 0, .bool false, .bool false, .int .u8 0, .slice none 0 0, .slice none 0 0, .int .u32 0, .slice none 0 0, .slice none 0 0] 43 (0, 0)) :: (b10, Obj.cells #[.slice none 0 0, .slice none 0 0, .bool false, .bool false, .int .u8 0, .slice none 0 0, .slice none 0 0, .int .u32 0, .slice none 0 0, .slice none 0 0] 43 (0, 0)) :: L))) [.int .i64 u, .int .u8 v.code, vv1, vv2, .int .u32 t] ⟨u, v, t⟩ := ⟨vv1, vv2, rfl, jn jq _ _ _ _ (by simp +contextual) hvs1, jn jq _ _ _ _ (by simp +contextual) hvs2, hvc, ht, hu⟩
     have e6 : (jh a2 bp bb)[0 + 6]? = some (.pointer (some ⟨bb, 0, none⟩)) := rfl
     refine goB ?_
     refine jw jc ([(ap, Obj.cells (jh a2 bp bb) 102 (0, 0)), (bBox, Obj.cells #[.int .u8 v.code, vv1, vv2] 40 (0, 0))]) [] ?_
     refine tkQ 0 ?_
     refine tkQ 1 ?_
     refine tkQ 2 ?_
     refine tkQ 3 ?_
     refine tkQ 4 ?_
     refine tkQ 5 ?_
     refine tkQ 6 ?_
     (refine' jz 7 rfl rfl jg (jJ (jo rfl (ql _ _ _ _ _))) ?_ ?_; (· assumption))
     refine kP (L' := Mb ++ ((ap, Obj.cells (jh a2 bp bb) 102 (0, 0)) :: (bBox, Obj.cells #[.int .u8 v.code, vv1, vv2] 40 (0, 0)) :: (M2 ++ ((b5, Obj.cells #[.slice none 0 0, .slice none 0 0, .bool false, .bool false, .int .u8 0, .slice none 0 0, .slice none 0 0, .int .u32 0, .slice none 0 0, .slice none 0 0] 43 (0, 0)) :: (b10, Obj.cells #[.slice none 0 0, .slice none 0 0, .bool false, .bool false, .int .u8 0, .slice none 0 0, .slice none 0 0, .int .u32 0, .slice none 0 0, .slice none 0 0] 43 (0, 0)) :: L)))) ?_ jl; refine jO 8 jg rfl rfl rfl rfl (jb jg rfl (aap hb hvote hsv)) ?_; rintro _ _ ⟨rfl, Mc, hb2, rfl⟩; refine ⟨Or.inr (fun z hz => by simp only [List.mem_cons, List.not_mem_nil, or_false] at hz; rcases hz with rfl | rfl <;> simp), ?_⟩
     refine tdQ ?_
     have hb3 : PBox bb a2.want a2.l Mc := by rw [ha2]; exact hb2
     have hp3 : IsPlan bp a2.p M2 := by rw [ha2]; exact hp2
     have ho2 : a2.over = false := by rw [ha2]; exact ho
     have hev2 := um (G := G) (L := (b10, Obj.cells #[.slice none 0 0, .slice none 0 0, .bool false, .bool false, .int .u8 0, .slice none 0 0, .slice none 0 0, .int .u32 0, .slice none 0 0, .slice none 0 0] 43 (0, 0)) :: (bBox, Obj.cells #[.int .u8 v.code, vv1, vv2] 40 (0, 0)) :: L) (ap := ap) (bd := b5) (g := []) (s := []) (Bs := []) (Ng := []) (ys := none) (yg := none) (ks := 0) (kg := 0) hp3 hb3 hw2 ho2 (by simp) (Row.nil _ _) jC (by simp)
     refine goB ?_
     refine jy (L' := (ap, Obj.cells (jh a2 bp bb) 102 (0, 0)) :: (b5, Obj.cells #[.slice none 0 0, .slice none 0 0, .bool false, .bool false, .int .u8 0, .slice none 0 0, .slice none 0 0, .int .u32 0, .slice none 0 0, .slice none 0 0] 43 (0, 0)) :: (M2 ++ (Mc ++ ([] ++ ((b10, Obj.cells #[.slice none 0 0, .slice none 0 0, .bool false, .bool false, .int .u8 0, .slice none 0 0, .slice none 0 0, .int .u32 0, .slice none 0 0, .slice none 0 0] 43 (0, 0)) :: (bBox, Obj.cells #[.int .u8 v.code, vv1, vv2] 40 (0, 0)) :: L))))) ?_ jl
     refine jx (jb jg rfl hev2) rfl ?_
     rintro _ _ ⟨cs, M4, N, hp4, hd, rfl⟩
     obtain ⟨r, hr⟩ : ∃ r, r = Aq.look a2 (dd [] []) := ⟨_, rfl⟩
     have hk := jT (d := dd [] []) hw2.ok
     rw [← hr] at hp4 hd hk ⊢
     have hb5 : PBox bb r.1.want r.1.l Mc := by rw [hk.2.2.1, hk.2.2.2.2.1]; exact hb3
     have hd' := hd
     obtain ⟨d1, d2, d3, d4, d5, d6, d7, d8, d9, d10, d11, d12, rfl, _⟩ := hd'
     refine jy (L' := (b10, Obj.cells #[.slice none 0 0, .slice none 0 0, .bool false, .bool false, .int .u8 0, .slice none 0 0, .slice none 0 0, .int .u32 0, .slice none 0 0, .slice none 0 0] 43 (0, 0)) :: (b5, Obj.cells ([.slice d1 r.2.sends.length d2, .slice d3 r.2.gone.length d4, .bool r.2.over, .bool r.2.done, .int .u8 r.2.vd.code, .slice d5 r.2.vd.sets.length d6, .slice d7 r.2.vd.soa.length d8, .int .u32 r.2.time, .slice d9 r.2.agree.length d10, .slice d11 r.2.dissent.length d12] : List Value).toArray 43 (0, 0)) :: (((ap, Obj.cells (jh r.1 bp bb) 102 (0, 0)) :: (M4 ++ Mc)) ++ (N ++ L))) ?_ jl
     refine goB ?_
     refine ku 10 43  rfl rfl  stO (by repeat (exact List.mem_cons_self)) rfl (L' := (((ap, Obj.cells (jh r.1 bp bb) 102 (0, 0)) :: (M4 ++ Mc)) ++ (N ++ L))) (fun w h => h.cnt jl) ?_
     exact ⟨_, _, N, rfl, by simpa using hd, ⟨bp, bb, M4, Mc, hp4, hb5, rfl⟩, rfl⟩
theorem VS {ap : Nat} {a : As} {X : ja} (h : ut ap a X) (hA : AWell a) (u now : Int) :
 Spec Tryz.prog G 15 #[.pointer (some ⟨ap, 0, none⟩), .int .i64 u, .int .i64 now] (X ++ L) (Vg (ut ap (Aq.pass a u now).1) L (Aq.pass a u now).2) := by
 obtain ⟨bp, bb, Mp, Mb, hp, hb, rfl⟩ := h
 have hn := hA.ok.now
 rw [List.cons_append]
 refine jm (n := 32) Tryz.func15 rfl rfl rfl ?_
 repeat (first | refine goB ?_ | (refine j5 ?_; intro bNew))
 obtain ⟨b5, hb5⟩ : ∃ b, bNew = b := ⟨_, rfl⟩
 rw [hb5]
 clear hb5
 rename_i b10
 refine jX (jb jg rfl (zY ap bp bb a (by simp))) rfl ?_
 cases ho : a.over with
 | true =>
   have hm : Aq.pass a u now = (a, Dd.none) := by unfold Aq.pass; rw [if_pos ho]
   rw [hm]
   refine goB ?_
   refine jy (L' := (b10, Obj.cells #[.slice none 0 0, .slice none 0 0, .bool false, .bool false, .int .u8 0, .slice none 0 0, .slice none 0 0, .int .u32 0, .slice none 0 0, .slice none 0 0] 43 (0, 0)) :: (b5, Obj.cells #[.slice none 0 0, .slice none 0 0, .bool false, .bool false, .int .u8 0, .slice none 0 0, .slice none 0 0, .int .u32 0, .slice none 0 0, .slice none 0 0] 43 (0, 0)) :: (((ap, Obj.cells (jh a bp bb) 102 (0, 0)) :: (Mp ++ Mb)) ++ ([] ++ L))) ?_ jl
   refine goB ?_
   refine ku 6 43  rfl rfl  stO (by repeat (exact List.mem_cons_self)) rfl (L' := (((ap, Obj.cells (jh a bp bb) 102 (0, 0)) :: (Mp ++ Mb)) ++ ([] ++ L))) (fun w h => h.cnt jl) ?_
   exact ⟨_, _, [], rfl, kT, ⟨bp, bb, Mp, Mb, hp, hb, rfl⟩, rfl⟩
 | false =>
   have hcl := VO (G := G) (L := (b5, Obj.cells #[.slice none 0 0, .slice none 0 0, .bool false, .bool false, .int .u8 0, .slice none 0 0, .slice none 0 0, .int .u32 0, .slice none 0 0, .slice none 0 0] 43 (0, 0)) :: (b10, Obj.cells #[.slice none 0 0, .slice none 0 0, .bool false, .bool false, .int .u8 0, .slice none 0 0, .slice none 0 0, .int .u32 0, .slice none 0 0, .slice none 0 0] 43 (0, 0)) :: (ap, Obj.cells (jh a bp bb) 102 (0, 0)) :: (Mb ++ L)) hp u
   refine goB ?_
   refine qq (OpT.heap (L' := Mp ++ ((b5, Obj.cells #[.slice none 0 0, .slice none 0 0, .bool false, .bool false, .int .u8 0, .slice none 0 0, .slice none 0 0, .int .u32 0, .slice none 0 0, .slice none 0 0] 43 (0, 0)) :: (b10, Obj.cells #[.slice none 0 0, .slice none 0 0, .bool false, .bool false, .int .u8 0, .slice none 0 0, .slice none 0 0, .int .u32 0, .slice none 0 0, .slice none 0 0] 43 (0, 0)) :: (ap, Obj.cells (jh a bp bb) 102 (0, 0)) :: (Mb ++ L))) (fun w h => h.cnt jl) (jb jg rfl hcl)) rfl ?_
   rintro _ _ ⟨rfl, M2, hp2, rfl⟩
   cases hc : (Hg.close a.p u).2 with
   | false =>
     have hm : Aq.pass a u now = ({ a with p := (Hg.close a.p u).1 }, Dd.none) := by unfold Aq.pass; rw [if_neg (by rw [ho]; decide), hc]; rfl
     rw [hm]
     refine goB ?_
     refine jy (L' := (b10, Obj.cells #[.slice none 0 0, .slice none 0 0, .bool false, .bool false, .int .u8 0, .slice none 0 0, .slice none 0 0, .int .u32 0, .slice none 0 0, .slice none 0 0] 43 (0, 0)) :: (b5, Obj.cells #[.slice none 0 0, .slice none 0 0, .bool false, .bool false, .int .u8 0, .slice none 0 0, .slice none 0 0, .int .u32 0, .slice none 0 0, .slice none 0 0] 43 (0, 0)) :: (((ap, Obj.cells (jh a bp bb) 102 (0, 0)) :: (M2 ++ Mb)) ++ ([] ++ L))) ?_ jl
     refine goB ?_
     refine ku 6 43  rfl rfl  stO (by repeat (exact List.mem_cons_self)) rfl (L' := (((ap, Obj.cells (jh a bp bb) 102 (0, 0)) :: (M2 ++ Mb)) ++ ([] ++ L))) (fun w h => h.cnt jl) ?_
     exact ⟨_, _, [], rfl, kT, ⟨bp, bb, M2, Mb, hp2, hb, rfl⟩, rfl⟩
   | true =>
     obtain ⟨a2, ha2⟩ : ∃ z, z = { (Aq.upto { a with p := (Hg.close a.p u).1 } now) with l := (Vd.putB a.l ⟨⟨u, Vdt.none, 0⟩, true⟩).1 } := ⟨_, rfl⟩
     have hm : Aq.pass a u now = Aq.look a2 (dd [] []) := by unfold Aq.pass; rw [if_neg (by rw [ho]; decide), hc, if_pos rfl, ha2]; rfl
     have hw2 : AWell a2 := by rw [ha2]; exact AWell.put (a := Aq.upto { a with p := (Hg.close a.p u).1 } now) (hA.of ((hA.ok.close u).upto now) rfl rfl) ⟨⟨u, Vdt.none, 0⟩, true⟩ (fun h => by cases h)
     rw [hm]
     refine goB ?_
     refine jy (L' := (ap, Obj.cells (jh a bp bb) 102 (0, 0)) :: (M2 ++ (Mb ++ ((b5, Obj.cells #[.slice none 0 0, .slice none 0 0, .bool false, .bool false, .int .u8 0, .slice none 0 0, .slice none 0 0, .int .u32 0, .slice none 0 0, .slice none 0 0] 43 (0, 0)) :: (b10, Obj.cells #[.slice none 0 0, .slice none 0 0, .bool false, .bool false, .int .u8 0, .slice none 0 0, .slice none 0 0, .int .u32 0, .slice none 0 0, .slice none 0 0] 43 (0, 0)) :: L)))) ?_ jl
     refine jx (jb jg rfl (zb ap bp bb a now hn)) rfl ?_
     rintro _ _ rfl
     have he2 : jh (Aq.upto a now) bp bb = jh a2 bp bb := by rw [ha2]; rfl
     rw [he2]
     have e6 : (jh a2 bp bb)[0 + 6]? = some (.pointer (some ⟨bb, 0, none⟩)) := rfl
     refine goB ?_
     refine jy (L' := Mb ++ ((ap, Obj.cells (jh a2 bp bb) 102 (0, 0)) :: (M2 ++ ((b5, Obj.cells #[.slice none 0 0, .slice none 0 0, .bool false, .bool false, .int .u8 0, .slice none 0 0, .slice none 0 0, .int .u32 0, .slice none 0 0, .slice none 0 0] 43 (0, 0)) :: (b10, Obj.cells #[.slice none 0 0, .slice none 0 0, .bool false, .bool false, .int .u8 0, .slice none 0 0, .slice none 0 0, .int .u32 0, .slice none 0 0, .slice none 0 0] 43 (0, 0)) :: L)))) ?_ jl
     refine jx (jb jg rfl (aaq u hb)) rfl ?_
     rintro _ _ ⟨rfl, Mc, hb2, rfl⟩
     have hb3 : PBox bb a2.want a2.l Mc := by rw [ha2]; exact hb2
     have hp3 : IsPlan bp a2.p M2 := by rw [ha2]; exact hp2
     have ho2 : a2.over = false := by rw [ha2]; exact ho
     have hev2 := um (G := G) (L := (b10, Obj.cells #[.slice none 0 0, .slice none 0 0, .bool false, .bool false, .int .u8 0, .slice none 0 0, .slice none 0 0, .int .u32 0, .slice none 0 0, .slice none 0 0] 43 (0, 0)) :: L) (ap := ap) (bd := b5) (g := []) (s := []) (Bs := []) (Ng := []) (ys := none) (yg := none) (ks := 0) (kg := 0) hp3 hb3 hw2 ho2 (by simp) (Row.nil _ _) jC (by simp)
     refine goB ?_
     refine jy (L' := (ap, Obj.cells (jh a2 bp bb) 102 (0, 0)) :: (b5, Obj.cells #[.slice none 0 0, .slice none 0 0, .bool false, .bool false, .int .u8 0, .slice none 0 0, .slice none 0 0, .int .u32 0, .slice none 0 0, .slice none 0 0] 43 (0, 0)) :: (M2 ++ (Mc ++ ([] ++ ((b10, Obj.cells #[.slice none 0 0, .slice none 0 0, .bool false, .bool false, .int .u8 0, .slice none 0 0, .slice none 0 0, .int .u32 0, .slice none 0 0, .slice none 0 0] 43 (0, 0)) :: L))))) ?_ jl
     refine jx (jb jg rfl hev2) rfl ?_
     rintro _ _ ⟨cs, M4, N, hp4, hd, rfl⟩
     obtain ⟨r, hr⟩ : ∃ r, r = Aq.look a2 (dd [] []) := ⟨_, rfl⟩
     have hk := jT (d := dd [] []) hw2.ok
     rw [← hr] at hp4 hd hk ⊢
     have hb5 : PBox bb r.1.want r.1.l Mc := by rw [hk.2.2.1, hk.2.2.2.2.1]; exact hb3
     have hd' := hd
     obtain ⟨d1, d2, d3, d4, d5, d6, d7, d8, d9, d10, d11, d12, rfl, _⟩ := hd'
     refine jy (L' := (b10, Obj.cells #[.slice none 0 0, .slice none 0 0, .bool false, .bool false, .int .u8 0, .slice none 0 0, .slice none 0 0, .int .u32 0, .slice none 0 0, .slice none 0 0] 43 (0, 0)) :: (b5, Obj.cells ([.slice d1 r.2.sends.length d2, .slice d3 r.2.gone.length d4, .bool r.2.over, .bool r.2.done, .int .u8 r.2.vd.code, .slice d5 r.2.vd.sets.length d6, .slice d7 r.2.vd.soa.length d8, .int .u32 r.2.time, .slice d9 r.2.agree.length d10, .slice d11 r.2.dissent.length d12] : List Value).toArray 43 (0, 0)) :: (((ap, Obj.cells (jh r.1 bp bb) 102 (0, 0)) :: (M4 ++ Mc)) ++ (N ++ L))) ?_ jl
     refine goB ?_
     refine ku 6 43  rfl rfl  stO (by repeat (exact List.mem_cons_self)) rfl (L' := (((ap, Obj.cells (jh r.1 bp bb) 102 (0, 0)) :: (M4 ++ Mc)) ++ (N ++ L))) (fun w h => h.cnt jl) ?_
     exact ⟨_, _, N, rfl, by simpa using hd, ⟨bp, bb, M4, Mc, hp4, hb5, rfl⟩, rfl⟩
end Go.Proofs.YtbjkkoacclfejaaGreat
namespace Go.Proofs.YtbjkkoacclfejaaGreat
open Go.RowKit
open Hg (En Pl)
open Vd (RSet Vdt Vote Rec Quest Piece Ballot)
variable {G : World} {L : ja}
theorem Uq {p : Pl} (h : Good p) (t : Int) : (Hg.tick p t).2.2.length ≤ 100 := by
 have h9 := h.len
 unfold Hg.tick
 split
 · simp
 · have f2 := uT (Hg.sendE (Hg.advance p t).now (Hg.advance p t).wait (Hg.advance p t).tries) (Hg.advance p t).list (fun x => by unfold Hg.sendE; split <;> simp) p.list.length
   rw [List.take_of_length_le (by simp [Hg.advance])] at f2
   have f3 : (Hg.hedged (Hg.examine (Hg.advance p t))).2.length ≤ 1 := by
    unfold Hg.hedged
    dsimp only
    split
    · split <;> simp
    · simp
   dsimp only
   rw [List.length_append]
   omega
theorem Qo {ap : Nat} {a : As} {X : ja} (h : ut ap a X) (hA : AWell a) (now : Int) :
 Spec Tryz.prog G 14 #[.pointer (some ⟨ap, 0, none⟩), .int .i64 now] (X ++ L) (Vg (ut ap (Aq.tick a now).1) L (Aq.tick a now).2) := by
 obtain ⟨bp, bb, Mp, Mb, hp, hb, rfl⟩ := h
 have hn := hA.ok.now
 have htop : Hg.top = 1099511627776 := rfl
 rw [List.cons_append]
 refine jm (n := 43) Tryz.func14 rfl rfl rfl ?_
 repeat (first | refine goB ?_ | (refine j5 ?_; intro bNew))
 obtain ⟨b5, hb5⟩ : ∃ b, bNew = b := ⟨_, rfl⟩
 rw [hb5]
 clear hb5
 rename_i b10
 refine jX (jb jg rfl (zY ap bp bb a (by simp))) rfl ?_
 cases ho : a.over with
 | true =>
   have hm : Aq.tick a now = (a, Dd.none) := by unfold Aq.tick; rw [if_pos ho]
   rw [hm]
   refine goB ?_
   refine jy (L' := (b10, Obj.cells #[.slice none 0 0, .slice none 0 0, .bool false, .bool false, .int .u8 0, .slice none 0 0, .slice none 0 0, .int .u32 0, .slice none 0 0, .slice none 0 0] 43 (0, 0)) :: (b5, Obj.cells #[.slice none 0 0, .slice none 0 0, .bool false, .bool false, .int .u8 0, .slice none 0 0, .slice none 0 0, .int .u32 0, .slice none 0 0, .slice none 0 0] 43 (0, 0)) :: (((ap, Obj.cells (jh a bp bb) 102 (0, 0)) :: (Mp ++ Mb)) ++ ([] ++ L))) ?_ jl
   refine goB ?_
   refine ku 4 43  rfl rfl  stO (by repeat (exact List.mem_cons_self)) rfl (L' := (((ap, Obj.cells (jh a bp bb) 102 (0, 0)) :: (Mp ++ Mb)) ++ ([] ++ L))) (fun w h => h.cnt jl) ?_
   exact ⟨_, _, [], rfl, kT, ⟨bp, bb, Mp, Mb, hp, hb, rfl⟩, rfl⟩
 | false =>
   obtain ⟨a1, ha1⟩ : ∃ z, z = Aq.upto a now := ⟨_, rfl⟩
   have hw1 : AWell a1 := by rw [ha1]; exact hA.of (hA.ok.upto now) rfl rfl
   have hp1 : IsPlan bp a1.p Mp := by rw [ha1]; exact hp
   have hb1 : PBox bb a1.want a1.l Mb := by rw [ha1]; exact hb
   have ho1 : a1.over = false := by rw [ha1]; exact ho
   have hn1 := hw1.ok.now
   have had : a1.ded = a.ded := by rw [ha1]; rfl
   have hap : a1.p = a.p := by rw [ha1]; rfl
   have e7 : (jh a1 bp bb)[0 + 7]? = some (.int .i64 a1.ded) := rfl
   have e8 : (jh a1 bp bb)[0 + 8]? = some (.int .i64 a1.now) := rfl
   have e5 : (jh a1 bp bb)[0 + 5]? = some (.pointer (some ⟨bp, 0, none⟩)) := rfl
   have hadv := zb (G := G) (L := (b5, Obj.cells #[.slice none 0 0, .slice none 0 0, .bool false, .bool false, .int .u8 0, .slice none 0 0, .slice none 0 0, .int .u32 0, .slice none 0 0, .slice none 0 0] 43 (0, 0)) :: (b10, Obj.cells #[.slice none 0 0, .slice none 0 0, .bool false, .bool false, .int .u8 0, .slice none 0 0, .slice none 0 0, .int .u32 0, .slice none 0 0, .slice none 0 0] 43 (0, 0)) :: (Mp ++ (Mb ++ L))) ap bp bb a now hn
   rw [← ha1] at hadv
   refine goB ?_
   refine jy (L' := (ap, Obj.cells (jh a bp bb) 102 (0, 0)) :: ((b5, Obj.cells #[.slice none 0 0, .slice none 0 0, .bool false, .bool false, .int .u8 0, .slice none 0 0, .slice none 0 0, .int .u32 0, .slice none 0 0, .slice none 0 0] 43 (0, 0)) :: (b10, Obj.cells #[.slice none 0 0, .slice none 0 0, .bool false, .bool false, .int .u8 0, .slice none 0 0, .slice none 0 0, .int .u32 0, .slice none 0 0, .slice none 0 0] 43 (0, 0)) :: (Mp ++ (Mb ++ L)))) ?_ jl
   refine jx (jb jg rfl hadv) rfl ?_
   rintro _ _ rfl
   have hK : ∀ z ∈ [(ap, Obj.cells (jh a1 bp bb) 102 (0, 0))], z ∈ (ap, Obj.cells (jh a1 bp bb) 102 (0, 0)) :: ((b5, Obj.cells #[.slice none 0 0, .slice none 0 0, .bool false, .bool false, .int .u8 0, .slice none 0 0, .slice none 0 0, .int .u32 0, .slice none 0 0, .slice none 0 0] 43 (0, 0)) :: (b10, Obj.cells #[.slice none 0 0, .slice none 0 0, .bool false, .bool false, .int .u8 0, .slice none 0 0, .slice none 0 0, .int .u32 0, .slice none 0 0, .slice none 0 0] 43 (0, 0)) :: (Mp ++ (Mb ++ L))) := fun z hz => by rw [List.mem_singleton.1 hz]; exact List.mem_cons_self ..
   by_cases hend : a1.ded ≤ a1.now
   · have hm : Aq.tick a now = ({ a1 with over := true }, { Dd.none with over := true }) := by unfold Aq.tick; rw [if_neg (by rw [ho]; decide), ← ha1, if_pos (had ▸ hend)]
     rw [hm]
     refine goB ?_
     refine jw jc ([(ap, Obj.cells (jh a1 bp bb) 102 (0, 0))]) [] ?_
     refine tkQ 0 ?_
     refine tkQ 1 ?_
     refine tkQ 2 ?_
     refine tkQ 3 ?_
     refine tkQ 4 ?_
     refine tkQ 5 ?_
     refine tkQ 6 ?_
     refine tkQ 7 ?_
     refine tkQ 8 ?_
     refine tdQ ?_
     refine goB ?_
     refine kU (L' := (ap, Obj.cells (jh { a1 with over := true } bp bb) 102 (0, 0)) :: (b5, Obj.cells #[.slice none 0 0, .slice none 0 0, .bool true, .bool false, .int .u8 0, .slice none 0 0, .slice none 0 0, .int .u32 0, .slice none 0 0, .slice none 0 0] 43 (0, 0)) :: (b10, Obj.cells #[.slice none 0 0, .slice none 0 0, .bool false, .bool false, .int .u8 0, .slice none 0 0, .slice none 0 0, .int .u32 0, .slice none 0 0, .slice none 0 0] 43 (0, 0)) :: (Mp ++ (Mb ++ L))) (fun w h => h) ?_
     refine jy (L' := (b10, Obj.cells #[.slice none 0 0, .slice none 0 0, .bool false, .bool false, .int .u8 0, .slice none 0 0, .slice none 0 0, .int .u32 0, .slice none 0 0, .slice none 0 0] 43 (0, 0)) :: (b5, Obj.cells #[.slice none 0 0, .slice none 0 0, .bool true, .bool false, .int .u8 0, .slice none 0 0, .slice none 0 0, .int .u32 0, .slice none 0 0, .slice none 0 0] 43 (0, 0)) :: (((ap, Obj.cells (jh { a1 with over := true } bp bb) 102 (0, 0)) :: (Mp ++ Mb)) ++ ([] ++ L))) ?_ jl
     refine goB ?_
     refine ku 4 43  rfl rfl  stO (by repeat (exact List.mem_cons_self)) rfl (L' := (((ap, Obj.cells (jh { a1 with over := true } bp bb) 102 (0, 0)) :: (Mp ++ Mb)) ++ ([] ++ L))) (fun w h => h.cnt jl) ?_
     exact ⟨_, _, [], rfl, ⟨none, 0, none, 0, none, 0, none, 0, none, 0, none, 0, rfl, jC, jC, ⟨_, _, rfl, sliceR.nil, sliceR.nil, Int.le_refl 0, show (0 : Int) ≤ 255 by decide⟩, jC, jC⟩, ⟨bp, bb, Mp, Mb, hp1, hb1, rfl⟩, rfl⟩
   · obtain ⟨k, hk⟩ : ∃ k, k = Hg.tick a1.p a1.now := ⟨_, rfl⟩
     obtain ⟨a2, ha2⟩ : ∃ z, z = { a1 with p := k.1 } := ⟨_, rfl⟩
     have hm : Aq.tick a now = Aq.look a2 (dd k.2.2 k.2.1) := by unfold Aq.tick; rw [if_neg (by rw [ho]; decide), ← ha1, if_neg (had ▸ hend), ha2, hk, hap]; rfl
     have hw2 : AWell a2 := by rw [ha2, hk]; exact hw1.of (hw1.ok.tick _) rfl rfl
     have htk := abv (G := G) (L := (ap, Obj.cells (jh a1 bp bb) 102 (0, 0)) :: ((b5, Obj.cells #[.slice none 0 0, .slice none 0 0, .bool false, .bool false, .int .u8 0, .slice none 0 0, .slice none 0 0, .int .u32 0, .slice none 0 0, .slice none 0 0] 43 (0, 0)) :: (b10, Obj.cells #[.slice none 0 0, .slice none 0 0, .bool false, .bool false, .int .u8 0, .slice none 0 0, .slice none 0 0, .int .u32 0, .slice none 0 0, .slice none 0 0] 43 (0, 0)) :: (Mb ++ L))) hp1 hw1.ok.begins a1.now
     have hfl := (Wn a1.p a1.now).resolve_right (by have := hw1.ok.good.len; omega)
     have hf2 : k.2.2.length ≤ 100 := by rw [hk]; exact Uq hw1.ok.good a1.now
     rw [← hk] at htk hfl
     rw [hm]
     refine goB ?_
     refine jw jc ([(ap, Obj.cells (jh a1 bp bb) 102 (0, 0))]) [] ?_
     refine tkQ 0 ?_
     refine tkQ 1 ?_
     refine tkQ 2 ?_
     refine tkQ 3 ?_
     refine tkQ 4 ?_
     refine tkQ 5 ?_
     refine tkQ 6 ?_
     refine tkQ 7 ?_
     refine tkQ 8 ?_
     refine tdQ ?_
     refine goB ?_
     refine jw jc ([(ap, Obj.cells (jh a1 bp bb) 102 (0, 0))]) [] ?_
     refine tkQ 0 ?_
     refine tkQ 1 ?_
     refine tkQ 2 ?_
     refine tkQ 3 ?_
     refine tkQ 4 ?_
     refine tkQ 5 ?_
     refine tkQ 6 ?_
     refine tkQ 7 ?_
     refine kP (L' := Mp ++ ((ap, Obj.cells (jh a1 bp bb) 102 (0, 0)) :: ((b5, Obj.cells #[.slice none 0 0, .slice none 0 0, .bool false, .bool false, .int .u8 0, .slice none 0 0, .slice none 0 0, .int .u32 0, .slice none 0 0, .slice none 0 0] 43 (0, 0)) :: (b10, Obj.cells #[.slice none 0 0, .slice none 0 0, .bool false, .bool false, .int .u8 0, .slice none 0 0, .slice none 0 0, .int .u32 0, .slice none 0 0, .slice none 0 0] 43 (0, 0)) :: (Mb ++ L)))) ?_ jl; refine jO 8 jg rfl rfl rfl rfl (jb jg rfl htk) ?_; rintro _ _ ⟨ag, cg, az, cz, Bg, Bs, M2, rfl, hRg, hRs, hp2, rfl⟩; refine ⟨Or.inr (fun z hz => by rw [List.mem_singleton.1 hz]; simp), ?_⟩
     refine tkQ 9 ?_
     refine tkQ 10 ?_
     refine tkQ 11 ?_
     refine tkQ 12 ?_
     refine kP (L' := (b5, Obj.cells #[.slice none 0 0, .slice none 0 0, .bool false, .bool false, .int .u8 0, .slice none 0 0, .slice none 0 0, .int .u32 0, .slice none 0 0, .slice none 0 0] 43 (0, 0)) :: ((ap, Obj.cells (jh a1 bp bb) 102 (0, 0)) :: (M2 ++ (Bg ++ (Bs ++ ((b10, Obj.cells #[.slice none 0 0, .slice none 0 0, .bool false, .bool false, .int .u8 0, .slice none 0 0, .slice none 0 0, .int .u32 0, .slice none 0 0, .slice none 0 0] 43 (0, 0)) :: (Mb ++ L))))))) ?_ jl; refine kf 13 jg rfl rfl rfl (Jc rfl rfl onO rfl rfl rfl) ?_; rintro _ _ ⟨_, rfl⟩; refine ⟨Or.inr (fun z hz => by rw [List.mem_singleton.1 hz]; simp), ?_⟩
     refine tkQ 14 ?_
     refine kf 15 jg rfl rfl rfl (Jc rfl rfl onO rfl rfl rfl) ?_; rintro _ _ ⟨_, rfl⟩; refine ⟨Or.inr (fun z hz => by rw [List.mem_singleton.1 hz]; simp), ?_⟩
     refine tdQ ?_
     have he2 : jh a1 bp bb = jh a2 bp bb := by rw [ha2]; rfl
     have hp3 : IsPlan bp a2.p M2 := by rw [ha2]; exact hp2
     have hb3 : PBox bb a2.want a2.l Mb := by rw [ha2]; exact hb1
     have ho2 : a2.over = false := by rw [ha2]; exact ho1
     refine js (L' := (b5, Obj.cells (kl (.slice az k.2.2.length cz) (.slice ag k.2.1.length cg)) 43 (0, 0)) :: ((ap, Obj.cells (jh a1 bp bb) 102 (0, 0)) :: (M2 ++ (Bg ++ (Bs ++ ((b10, Obj.cells #[.slice none 0 0, .slice none 0 0, .bool false, .bool false, .int .u8 0, .slice none 0 0, .slice none 0 0, .int .u32 0, .slice none 0 0, .slice none 0 0] 43 (0, 0)) :: (Mb ++ L))))))) (fun w h => h) ?_
     rw [he2]
     have hev2 := um (G := G) (L := Bg ++ ((b10, Obj.cells #[.slice none 0 0, .slice none 0 0, .bool false, .bool false, .int .u8 0, .slice none 0 0, .slice none 0 0, .int .u32 0, .slice none 0 0, .slice none 0 0] 43 (0, 0)) :: L)) (ap := ap) (bd := b5) (Ng := Bg) hp3 hb3 hw2 ho2 hf2 hRs (hRg.irow (fun q hq => hq)) (by simp +contextual)
     refine goB ?_
     refine jy (L' := (ap, Obj.cells (jh a2 bp bb) 102 (0, 0)) :: (b5, Obj.cells (kl (.slice az k.2.2.length cz) (.slice ag k.2.1.length cg)) 43 (0, 0)) :: (M2 ++ (Mb ++ (Bs ++ (Bg ++ ((b10, Obj.cells #[.slice none 0 0, .slice none 0 0, .bool false, .bool false, .int .u8 0, .slice none 0 0, .slice none 0 0, .int .u32 0, .slice none 0 0, .slice none 0 0] 43 (0, 0)) :: L)))))) ?_ jl
     refine jx (jb jg rfl hev2) rfl ?_
     rintro _ _ ⟨cs, M4, N, hp4, hd, rfl⟩
     obtain ⟨r, hr⟩ : ∃ r, r = Aq.look a2 (dd k.2.2 k.2.1) := ⟨_, rfl⟩
     have hkk := jT (d := dd k.2.2 k.2.1) hw2.ok
     rw [← hr] at hp4 hd hkk ⊢
     have hb5 : PBox bb r.1.want r.1.l Mb := by rw [hkk.2.2.1, hkk.2.2.2.2.1]; exact hb3
     have hd' := hd
     obtain ⟨d1, d2, d3, d4, d5, d6, d7, d8, d9, d10, d11, d12, rfl, _⟩ := hd'
     refine jy (L' := (b10, Obj.cells #[.slice none 0 0, .slice none 0 0, .bool false, .bool false, .int .u8 0, .slice none 0 0, .slice none 0 0, .int .u32 0, .slice none 0 0, .slice none 0 0] 43 (0, 0)) :: (b5, Obj.cells ([.slice d1 r.2.sends.length d2, .slice d3 r.2.gone.length d4, .bool r.2.over, .bool r.2.done, .int .u8 r.2.vd.code, .slice d5 r.2.vd.sets.length d6, .slice d7 r.2.vd.soa.length d8, .int .u32 r.2.time, .slice d9 r.2.agree.length d10, .slice d11 r.2.dissent.length d12] : List Value).toArray 43 (0, 0)) :: (((ap, Obj.cells (jh r.1 bp bb) 102 (0, 0)) :: (M4 ++ Mb)) ++ ((N ++ Bg) ++ L))) ?_ jl
     refine goB ?_
     refine ku 4 43  rfl rfl  stO (by repeat (exact List.mem_cons_self)) rfl (L' := (((ap, Obj.cells (jh r.1 bp bb) 102 (0, 0)) :: (M4 ++ Mb)) ++ ((N ++ Bg) ++ L))) (fun w h => h.cnt jl) ?_
     exact ⟨_, _, N ++ Bg, rfl, hd, ⟨bp, bb, M4, Mb, hp4, hb5, rfl⟩, rfl⟩
end Go.Proofs.YtbjkkoacclfejaaGreat
namespace Go.Proofs.YtbjkkoacclfejaaGreat.Cn
variable {T : Names}
def aeL : Bytes → Int → Bytes
 | [], _ => []
 | a :: t, k => if k = 0 then [] else a :: aeL t (if a = 10 then k - 1 else k)
end Go.Proofs.YtbjkkoacclfejaaGreat.Cn
namespace Go.Proofs.YtbjkkoacclfejaaGreat
open Go.RowKit
open Cn (Zo Cf)
def zoR : Rp Zo := fun _ cs z => cs = [.string (bs z.name), .int .u8 z.pol, .int .u16 z.tru] ∧ z.name.length ≤ maxLen ∧ z.pol ≤ 255 ∧ z.tru ≤ 65535
theorem z7 : ue zoR := fun _ _ _ _ _ h => h
theorem zoR.len {L : ja} {cs : List Value} {z : Zo} (h : zoR L cs z) : cs.length = 3 := by obtain ⟨rfl, _⟩ := h; rfl
theorem zoR.one {L : ja} {cs : List Value} {z : Zo} (h : zoR L cs z) : ∀ v ∈ cs, v.oneCell' = true := by
 obtain ⟨rfl, _⟩ := h
 intro v hv
 simp only [List.mem_cons, List.not_mem_nil, or_false] at hv
 rcases hv with rfl | rfl | rfl <;> rfl
instance : Inhabited Zo := ⟨⟨[], 0, 0⟩⟩
instance : Inhabited Cf := ⟨Cn.zeroC⟩
def ji (c : Cf) (v : Value) : List Value := [.int .i64 c.ups, .int .i64 c.ded, .int .i64 c.hdg, .int .i64 c.wai, .int .i64 c.tri, .int .i64 c.res, .int .i64 c.lim, .int .i64 c.cac, .int .i64 c.fli, .int .i64 c.wtr, .int .i64 c.ttl, .int .i64 c.siz, v]
def I64 (n : Int) : Prop := -9223372036854775808 ≤ n ∧ n ≤ 9223372036854775807
structure CfIn (c : Cf) : Prop where
 ups : I64 c.ups
 ded : I64 c.ded
 hdg : I64 c.hdg
 wai : I64 c.wai
 tri : I64 c.tri
 res : I64 c.res
 lim : I64 c.lim
 cac : I64 c.cac
 fli : I64 c.fli
 wtr : I64 c.wtr
 ttl : I64 c.ttl
 siz : I64 c.siz
def cfR : Rp Cf := fun L cs c => ∃ v, cs = ji c v ∧ sliceR 3 zoR L [v] c.zs ∧ CfIn c
theorem aaI : ue cfR := fun L L' cs a hL ⟨v, h1, h2, h3⟩ => ⟨v, h1, jn z7 L L' _ _ hL h2, h3⟩
theorem cfR.len {L : ja} {cs : List Value} {c : Cf} (h : cfR L cs c) : cs.length = 13 := by obtain ⟨v, rfl, _⟩ := h; rfl
end Go.Proofs.YtbjkkoacclfejaaGreat
namespace Go.Proofs.YtbjkkoacclfejaaGreat
open Go.RowKit
open Cn (Zo Cf)
variable {G : World} {L : ja}
theorem jG (n lo hi : Int) : Spec Tryz.prog G 96 #[.int .i64 n, .int .i64 lo, .int .i64 hi] L fun u M => u = .bool (decide (lo ≤ n ∧ n ≤ hi)) ∧ M = L := by
 refine jm (n := 15) Tryz.func96 rfl rfl rfl ?_
 by_cases h1 : lo ≤ n
 · by_cases h2 : n ≤ hi
   · rw [decide_eq_true ⟨h1, h2⟩]
     refine goA ?_
     refine je 6 _ rfl rfl ?_
     exact ⟨by rw [decide_eq_true h2], rfl⟩
   · rw [decide_eq_false (fun k => h2 k.2)]
     refine goA ?_
     refine je 6 _ rfl rfl ?_
     exact ⟨by rw [decide_eq_false h2], rfl⟩
 · rw [decide_eq_false (fun k => h1 k.1)]
   refine goA ?_
   refine je 6 _ rfl rfl ?_
   exact ⟨rfl, rfl⟩
section
variable {P : Program} {n : Nat} {ρ : jp} {ty : TypeId}
end
end Go.Proofs.YtbjkkoacclfejaaGreat
namespace Go.Proofs.YtbjkkoacclfejaaGreat
open Go.RowKit
theorem abC {n : Nat} (h : n < 65536) : IntKind.wrap .u16 (n : Int) = n := by
 unfold IntKind.wrap
 simp [IntKind.signed, IntKind.bits]
 omega
theorem aaJ {n : Nat} (h : n < 65536) : (BitVec.ofInt (IntKind.bits .u16) (n : Int)).toNat = n := by
 show (BitVec.ofInt 16 (n : Int)).toNat = n
 rw [BitVec.toNat_ofInt]
 omega
section
variable {P : Program}
theorem Wu {t : TypeId} {a : Nat} (ha : a < 65536) : Bin P .and t (.int .u16 (a : Nat)) (.int .u16 1) (.int .u16 ((a % 2 : Nat) : Int)) := ⟨fun x y w => by
 have e : (BitVec.ofInt (IntKind.bits .u16) (a : Int) &&& BitVec.ofInt (IntKind.bits .u16) (1 : Int)).toNat = a % 2 := by
  rw [BitVec.toNat_and, aaJ ha, show (BitVec.ofInt (IntKind.bits .u16) (1 : Int)).toNat = 1 from rfl, Nat.and_one_is_mod]
 have h2 : a % 2 < 65536 := by omega
 simp only [eqGuard, binOp, Op.intBits, e, abC h2]
 rfl⟩
theorem zd {t : TypeId} {k : IntKind} {a u : Nat} (ha : a < 65536) : Bin P .shr t (.int .u16 (a : Nat)) (.int k (u : Nat)) (.int .u16 ((a / 2 ^ u : Nat) : Int)) := ⟨fun x y w => by
 have hneg : ¬ ((u : Nat) : Int) < 0 := by omega
 have e : ((a : Nat) : Int).fdiv (2 ^ (min u (IntKind.bits .u16))) = ((a / 2 ^ u : Nat) : Int) := by
  rw [Int.fdiv_eq_ediv_of_nonneg _ (by exact_mod_cast Nat.zero_le _)]
  show ((a : Nat) : Int) / 2 ^ (min u 16) = _
  rcases Nat.le_or_ge u 16 with h | h
  · rw [Nat.min_eq_left h]; simp
  · rw [Nat.min_eq_right h]
    have h1 : a / 2 ^ u = 0 := by
     rw [Nat.div_eq_of_lt]
     exact Nat.lt_of_lt_of_le ha (by rw [show 65536 = 2 ^ 16 by decide]; exact Nat.pow_le_pow_right (by decide) h)
    rw [h1]
    omega
 simp only [eqGuard, binOp, Op.shift, if_neg hneg, Int.toNat_natCast, e]
 rfl⟩
end
theorem Vh (a u : Nat) : a.testBit u = decide (a / 2 ^ u % 2 = 1) := Nat.testBit_eq_decide_div_mod_eq
end Go.Proofs.YtbjkkoacclfejaaGreat
namespace Go.Proofs.YtbjkkoacclfejaaGreat
open Go.RowKit
open Cn (Zo Cf)
variable {G : World} {L : ja}
def afW (w : Nm.Bytes) (most : Nat) : Value := match Cn.numP w most with
 | some n => .tuple #[.int .i64 (n : Nat), .bool true]
 | none => .tuple #[.int .i64 0, .bool false]
end Go.Proofs.YtbjkkoacclfejaaGreat
namespace Go.Proofs.YtbjkkoacclfejaaGreat
open Go.RowKit
open Cn (Zo Cf)
variable {G : World} {L : ja}
def uJ (c : Cf) : Prop := (1 ≤ c.ups ∧ c.ups ≤ 9 ∧ c.ups % 2 = 1) ∧ (1 ≤ c.hdg ∧ c.hdg ≤ 1000) ∧ (1 ≤ c.wai ∧ c.wai ≤ 1000) ∧ (1 ≤ c.tri ∧ c.tri ≤ 4) ∧
 (c.ups / 2 * c.hdg + c.tri * c.wai ≤ c.ded ∧ c.ded ≤ 100000) ∧ (1 ≤ c.res ∧ c.res ≤ 100000) ∧ (1 ≤ c.lim ∧ c.lim ≤ 100) ∧ (0 ≤ c.cac ∧ c.cac ≤ 256) ∧ (1 ≤ c.fli ∧ c.fli ≤ 32) ∧
 (1 ≤ c.wtr ∧ c.wtr ≤ 16) ∧ (0 ≤ c.ttl ∧ c.ttl ≤ 2147483647) ∧ (512 ≤ c.siz ∧ c.siz ≤ 4096)
instance (c : Cf) : Decidable (uJ c) := by unfold uJ; infer_instance
theorem Y1 (c : Cf) (v : Value) : Spec Tryz.prog G 67 #[.agg (ji c v).toArray] L fun u M => u = .bool (Cn.mayNum c) ∧ M = L := by
 refine jm (n := 81) Tryz.func67 rfl rfl rfl ?_
 refine jU (jI (jP (kE rfl) rfl ?_))
 intro b1
 have g0 : (ji (c) (v)).toArray[0 + 0]? = some (.int .i64 (c).ups) := rfl
 have g1 : (ji (c) (v)).toArray[0 + 1]? = some (.int .i64 (c).ded) := rfl
 have g2 : (ji (c) (v)).toArray[0 + 2]? = some (.int .i64 (c).hdg) := rfl
 have g3 : (ji (c) (v)).toArray[0 + 3]? = some (.int .i64 (c).wai) := rfl
 have g4 : (ji (c) (v)).toArray[0 + 4]? = some (.int .i64 (c).tri) := rfl
 have g5 : (ji (c) (v)).toArray[0 + 5]? = some (.int .i64 (c).res) := rfl
 have g6 : (ji (c) (v)).toArray[0 + 6]? = some (.int .i64 (c).lim) := rfl
 have g7 : (ji (c) (v)).toArray[0 + 7]? = some (.int .i64 (c).cac) := rfl
 have g8 : (ji (c) (v)).toArray[0 + 8]? = some (.int .i64 (c).fli) := rfl
 have g9 : (ji (c) (v)).toArray[0 + 9]? = some (.int .i64 (c).wtr) := rfl
 have g10 : (ji (c) (v)).toArray[0 + 10]? = some (.int .i64 (c).ttl) := rfl
 have g11 : (ji (c) (v)).toArray[0 + 11]? = some (.int .i64 (c).siz) := rfl
 have g12 : (ji (c) (v)).toArray[0 + 12]? = some (v) := rfl
 have no : ¬ uJ c → false = Cn.mayNum c := fun k => (decide_eq_false k).symm
 by_cases h1 : 1 ≤ c.ups ∧ c.ups ≤ 9
 rotate_left
 · repeat (first | refine goA ?_ | (refine' jX (jb jg rfl (jG _ _ _ )) rfl ?_))
   refine js (fun w h => h.tail) ?_
   refine je 2 _ rfl rfl ?_
   exact ⟨congrArg Value.bool (no fun k => h1 (by unfold uJ at k; omega)), rfl⟩
 by_cases he : c.ups % 2 = 1
 rotate_left
 · repeat (first | refine goA ?_ | (refine' jX (jb jg rfl (jG _ _ _ )) rfl ?_))
   refine js (fun w h => h.tail) ?_
   refine je 2 _ rfl rfl ?_
   exact ⟨congrArg Value.bool (no fun k => he (by unfold uJ at k; omega)), rfl⟩
 by_cases h2 : 1 ≤ c.hdg ∧ c.hdg ≤ 1000
 rotate_left
 · repeat (first | refine goA ?_ | (refine' jX (jb jg rfl (jG _ _ _ )) rfl ?_))
   refine js (fun w h => h.tail) ?_
   refine je 2 _ rfl rfl ?_
   exact ⟨congrArg Value.bool (no fun k => h2 (by unfold uJ at k; omega)), rfl⟩
 by_cases h3 : 1 ≤ c.wai ∧ c.wai ≤ 1000
 rotate_left
 · repeat (first | refine goA ?_ | (refine' jX (jb jg rfl (jG _ _ _ )) rfl ?_) | (refine' jZ (jb jg rfl (jG _ _ _ )) rfl ?_))
   refine js (fun w h => h.tail) ?_
   refine je 2 _ rfl rfl ?_
   exact ⟨congrArg Value.bool (no fun k => h3 (by unfold uJ at k; omega)), rfl⟩
 by_cases h4 : 1 ≤ c.tri ∧ c.tri ≤ 4
 rotate_left
 · repeat (first | refine goA ?_ | (refine' jX (jb jg rfl (jG _ _ _ )) rfl ?_) | (refine' jZ (jb jg rfl (jG _ _ _ )) rfl ?_))
   refine js (fun w h => h.tail) ?_
   refine je 2 _ rfl rfl ?_
   exact ⟨congrArg Value.bool (no fun k => h4 (by unfold uJ at k; omega)), rfl⟩
 have m1 : 0 ≤ c.ups / 2 * c.hdg ∧ c.ups / 2 * c.hdg ≤ 4000 := ⟨Int.mul_nonneg jf jf, Int.le_trans (Int.mul_le_mul (show c.ups / 2 ≤ 4 by omega) h2.2 jf jf) (by decide)⟩
 have m2 : 0 ≤ c.tri * c.wai ∧ c.tri * c.wai ≤ 4000 := ⟨Int.mul_nonneg jf jf, Int.le_trans (Int.mul_le_mul h4.2 h3.2 jf jf) (by decide)⟩
 by_cases h5 : c.ups / 2 * c.hdg + c.tri * c.wai ≤ c.ded ∧ c.ded ≤ 100000
 rotate_left
 · repeat (first | refine goA ?_ | (refine' jX (jb jg rfl (jG _ _ _ )) rfl ?_) | (refine' jZ (jb jg rfl (jG _ _ _ )) rfl ?_))
   refine js (fun w h => h.tail) ?_
   refine je 2 _ rfl rfl ?_
   exact ⟨congrArg Value.bool (no fun k => h5 (by unfold uJ at k; omega)), rfl⟩
 by_cases h6 : 1 ≤ c.res ∧ c.res ≤ 100000
 rotate_left
 · repeat (first | refine goA ?_ | (refine' jX (jb jg rfl (jG _ _ _ )) rfl ?_) | (refine' jZ (jb jg rfl (jG _ _ _ )) rfl ?_))
   refine js (fun w h => h.tail) ?_
   refine je 2 _ rfl rfl ?_
   exact ⟨congrArg Value.bool (no fun k => h6 (by unfold uJ at k; omega)), rfl⟩
 by_cases h7 : 1 ≤ c.lim ∧ c.lim ≤ 100
 rotate_left
 · repeat (first | refine goA ?_ | (refine' jX (jb jg rfl (jG _ _ _ )) rfl ?_) | (refine' jZ (jb jg rfl (jG _ _ _ )) rfl ?_))
   refine js (fun w h => h.tail) ?_
   refine je 2 _ rfl rfl ?_
   exact ⟨congrArg Value.bool (no fun k => h7 (by unfold uJ at k; omega)), rfl⟩
 by_cases h8 : 0 ≤ c.cac ∧ c.cac ≤ 256
 rotate_left
 · repeat (first | refine goA ?_ | (refine' jX (jb jg rfl (jG _ _ _ )) rfl ?_) | (refine' jZ (jb jg rfl (jG _ _ _ )) rfl ?_))
   refine js (fun w h => h.tail) ?_
   refine je 2 _ rfl rfl ?_
   exact ⟨congrArg Value.bool (no fun k => h8 (by unfold uJ at k; omega)), rfl⟩
 by_cases h9 : 1 ≤ c.fli ∧ c.fli ≤ 32
 rotate_left
 · repeat (first | refine goA ?_ | (refine' jX (jb jg rfl (jG _ _ _ )) rfl ?_) | (refine' jZ (jb jg rfl (jG _ _ _ )) rfl ?_))
   refine js (fun w h => h.tail) ?_
   refine je 2 _ rfl rfl ?_
   exact ⟨congrArg Value.bool (no fun k => h9 (by unfold uJ at k; omega)), rfl⟩
 by_cases h10 : 1 ≤ c.wtr ∧ c.wtr ≤ 16
 rotate_left
 · repeat (first | refine goA ?_ | (refine' jX (jb jg rfl (jG _ _ _ )) rfl ?_) | (refine' jZ (jb jg rfl (jG _ _ _ )) rfl ?_))
   refine js (fun w h => h.tail) ?_
   refine je 2 _ rfl rfl ?_
   exact ⟨congrArg Value.bool (no fun k => h10 (by unfold uJ at k; omega)), rfl⟩
 by_cases h11 : 0 ≤ c.ttl ∧ c.ttl ≤ 2147483647
 rotate_left
 · repeat (first | refine goA ?_ | (refine' jX (jb jg rfl (jG _ _ _ )) rfl ?_) | (refine' jZ (jb jg rfl (jG _ _ _ )) rfl ?_))
   refine js (fun w h => h.tail) ?_
   refine je 2 _ rfl rfl ?_
   exact ⟨congrArg Value.bool (no fun k => h11 (by unfold uJ at k; omega)), rfl⟩
 by_cases h12 : 512 ≤ c.siz ∧ c.siz ≤ 4096
 rotate_left
 · repeat (first | refine goA ?_ | (refine' jX (jb jg rfl (jG _ _ _ )) rfl ?_) | (refine' jZ (jb jg rfl (jG _ _ _ )) rfl ?_))
   refine js (fun w h => h.tail) ?_
   refine je 2 _ rfl rfl ?_
   exact ⟨congrArg Value.bool ((decide_eq_false h12).trans <| no fun k => h12 (by unfold uJ at k; omega)), rfl⟩
 have yes : true = Cn.mayNum c := (decide_eq_true (show uJ c from ⟨⟨h1.1, h1.2, he⟩, h2, h3, h4, h5, h6, h7, h8, h9, h10, h11, h12⟩)).symm
 repeat (first | refine goA ?_ | (refine' jX (jb jg rfl (jG _ _ _ )) rfl ?_) | (refine' jZ (jb jg rfl (jG _ _ _ )) rfl ?_))
 refine js (fun w h => h.tail) ?_
 refine je 2 _ rfl rfl ?_
 exact ⟨congrArg Value.bool ((decide_eq_true h12).trans yes), rfl⟩
end Go.Proofs.YtbjkkoacclfejaaGreat
namespace Go.Proofs.YtbjkkoacclfejaaGreat
open Go.RowKit
open Cn (Zo Cf)
variable {G : World} {L : ja}
theorem qe {ups : Int} {zs : List Zo} {i : Nat} (hi : i < zs.length) (h : Cn.goodAt ups zs i = false) : Cn.mayZs ups zs = false := by
 unfold Cn.mayZs
 rw [Bool.and_eq_false_iff]
 right
 rw [List.all_eq_false]
 exact ⟨i, List.mem_range.2 hi, by rw [h]; decide⟩
theorem Wv {ups : Int} {zs : List Zo} (h16 : zs.length ≤ 16) (h : ∀ j < zs.length, Cn.goodAt ups zs j = true) : Cn.mayZs ups zs = true := by
 unfold Cn.mayZs
 rw [decide_eq_true h16, Bool.true_and, List.all_eq_true]
 exact fun i hi => h i (List.mem_range.1 hi)
theorem Vi {ups : Int} {zs : List Zo} (h : 16 < zs.length) : Cn.mayZs ups zs = false := by
 unfold Cn.mayZs
 rw [decide_eq_false jf]
 rfl
theorem aaK {ups : Int} {zs : List Zo} {i : Nat} {z : Zo} (h : zs[i]? = some z) : Cn.goodAt ups zs i = (Cn.okZo ups z && !(zs.take i).any (fun y => y.name == z.name)) := by unfold Cn.goodAt; rw [h]
theorem Vj (c : Cf) (v : Value) (hz : sliceR 3 zoR L [v] c.zs) (hu : 1 ≤ c.ups ∧ c.ups ≤ 9) (hs : ∀ z ∈ c.zs, z.name.length ≤ 1000000) :
 Spec Tryz.prog G 68 #[.agg (ji c v).toArray] L fun u M => u = .bool (Cn.mayZs c.ups c.zs) ∧ M = L := by
 obtain ⟨a, cap, e, hz⟩ := hz.val
 obtain rfl := (List.cons.inj e).1
 clear e
 have hcap := (sliceR.cut hz).2.1
 have hmax := (sliceR.cut hz).2.2.1
 unfold maxLen at hmax
 refine jm (n := 69) Tryz.func68 rfl rfl rfl ?_
 refine jU (jI (jP (kE rfl) rfl ?_))
 intro b1
 have g0 : (ji (c) (.slice a c.zs.length cap)).toArray[0 + 0]? = some (.int .i64 (c).ups) := rfl
 have g1 : (ji (c) (.slice a c.zs.length cap)).toArray[0 + 1]? = some (.int .i64 (c).ded) := rfl
 have g2 : (ji (c) (.slice a c.zs.length cap)).toArray[0 + 2]? = some (.int .i64 (c).hdg) := rfl
 have g3 : (ji (c) (.slice a c.zs.length cap)).toArray[0 + 3]? = some (.int .i64 (c).wai) := rfl
 have g4 : (ji (c) (.slice a c.zs.length cap)).toArray[0 + 4]? = some (.int .i64 (c).tri) := rfl
 have g5 : (ji (c) (.slice a c.zs.length cap)).toArray[0 + 5]? = some (.int .i64 (c).res) := rfl
 have g6 : (ji (c) (.slice a c.zs.length cap)).toArray[0 + 6]? = some (.int .i64 (c).lim) := rfl
 have g7 : (ji (c) (.slice a c.zs.length cap)).toArray[0 + 7]? = some (.int .i64 (c).cac) := rfl
 have g8 : (ji (c) (.slice a c.zs.length cap)).toArray[0 + 8]? = some (.int .i64 (c).fli) := rfl
 have g9 : (ji (c) (.slice a c.zs.length cap)).toArray[0 + 9]? = some (.int .i64 (c).wtr) := rfl
 have g10 : (ji (c) (.slice a c.zs.length cap)).toArray[0 + 10]? = some (.int .i64 (c).ttl) := rfl
 have g11 : (ji (c) (.slice a c.zs.length cap)).toArray[0 + 11]? = some (.int .i64 (c).siz) := rfl
 have g12 : (ji (c) (.slice a c.zs.length cap)).toArray[0 + 12]? = some (.slice a c.zs.length cap) := rfl
 by_cases h16 : 16 < c.zs.length
 · rw [Vi h16]
   refine goA ?_
   refine js (fun w h => h.tail) ?_
   refine je 2 _ rfl rfl ?_
   exact ⟨rfl, rfl⟩
 refine goA ?_
 refine jB (σ := Nat) (fun i => i ≤ c.zs.length ∧ ∀ j < i, Cn.goodAt c.ups c.zs j = true) (fun i => [(1, .pointer (some ⟨b1, 0, none⟩)), (12, .slice a c.zs.length cap), (13, .int .i64 (c.zs.length : Nat)), (14, .int .i64 (i : Nat))]) (fun _ => (b1, Obj.cells (ji c (.slice a c.zs.length cap)).toArray 30 (0, 0)) :: L) (fun i => c.zs.length - i) 0 ⟨by omega, fun j hj => by omega⟩ ?_ (fun _ h => h) ?_
 exact jv
 rintro i ⟨hi, hall⟩
 by_cases hlt : i < c.zs.length
 · obtain ⟨z, hzi⟩ : ∃ z, c.zs[i]? = some z := ⟨_, List.getElem?_eq_getElem hlt⟩
   obtain ⟨b2, o2, C2, t2, f2, rfl, m2, cs, _, ⟨rfl, hzn, hzp, hzt⟩, hcs⟩ := sliceR.at hz hzi
   have hzs := hs z (List.mem_of_getElem? hzi)
   have e0 : C2[o2 + i * 3 + 0]? = some (.string (bs z.name)) := hcs 0 _ rfl
   have hgood := aaK (ups := c.ups) hzi
   refine goA ?_
   refine ju (jD [.string (bs z.name), .int .u8 (z.pol : Nat), .int .u16 (z.tru : Nat)] rfl stL (List.mem_cons_of_mem _ m2) hcs) rfl ?_
   repeat (first | refine goA ?_ | (refine j5 ?_; intro bNew))
   obtain ⟨b4, hb4⟩ : ∃ b, bNew = b := ⟨_, rfl⟩
   rw [hb4]
   clear hb4 bNew
   have k0 : ([.string (bs z.name), .int .u8 (z.pol : Nat), .int .u16 (z.tru : Nat)] : List Value).toArray[0 + 0]? = some (.string (bs z.name)) := rfl
   have k1 : ([.string (bs z.name), .int .u8 (z.pol : Nat), .int .u16 (z.tru : Nat)] : List Value).toArray[0 + 1]? = some (.int .u8 (z.pol : Nat)) := rfl
   have k2 : ([.string (bs z.name), .int .u8 (z.pol : Nat), .int .u16 (z.tru : Nat)] : List Value).toArray[0 + 2]? = some (.int .u16 (z.tru : Nat)) := rfl
   have hKm : ∀ p ∈ [(b4, Obj.cells ([.string (bs z.name), .int .u8 (z.pol : Nat), .int .u16 (z.tru : Nat)] : List Value).toArray 26 (0, 0))], p ∈ (b4, Obj.cells ([.string (bs z.name), .int .u8 (z.pol : Nat), .int .u16 (z.tru : Nat)] : List Value).toArray 26 (0, 0)) :: (b1, Obj.cells (ji c (.slice (some ⟨b2, o2, none⟩) c.zs.length cap)).toArray 30 (0, 0)) :: L := by
    intro p hp
    simp only [List.mem_cons, List.not_mem_nil, or_false] at hp
    subst hp
    exact List.mem_cons_self ..
   cases hmay : Nm.may z.name with
   | false =>
     have hno : Cn.okZo c.ups z = false := by unfold Cn.okZo Cn.okName; rw [hmay]; rfl
     rw [qe hlt (by rw [hgood, hno]; rfl)]
     refine jw jc ([(b4, Obj.cells ([.string (bs z.name), .int .u8 (z.pol : Nat), .int .u16 (z.tru : Nat)] : List Value).toArray 26 (0, 0))]) [] ?_
     refine tkQ 0 ?_
     refine tkQ 1 ?_
     refine' jz 2 rfl rfl jg (q9 jg rfl (fun _ _ => zo _ ?_)) ?_ ?_; (· omega); (· assumption)
     refine tkQ 3 ?_
     refine tkQ 4 ?_
     refine tkQ 5 ?_
     refine tkQ 6 ?_
     refine tkQ 7 ?_
     refine tkQ 8 ?_
     refine tkQ 9 ?_
     refine tkQ 10 ?_
     refine tkQ 11 ?_
     refine tdQ ?_
     refine goA ?_
     refine js (fun w h => h.tail.tail) ?_
     refine je 2 _ rfl rfl ?_
     exact ⟨rfl, rfl⟩
   | true =>
     by_cases hf : Nm.fold z.name = z.name
     rotate_left
     · have hno : Cn.okZo c.ups z = false := by unfold Cn.okZo Cn.okName; rw [beq_false_of_ne hf, Bool.and_false, Bool.false_and]
       rw [qe hlt (by rw [hgood, hno]; rfl)]
       refine jw jc ([(b4, Obj.cells ([.string (bs z.name), .int .u8 (z.pol : Nat), .int .u16 (z.tru : Nat)] : List Value).toArray 26 (0, 0))]) [] ?_
       refine tkQ 0 ?_
       refine tkQ 1 ?_
       refine' jz 2 rfl rfl jg (q9 jg rfl (fun _ _ => zo _ ?_)) ?_ ?_; (· omega); (· assumption)
       refine tkQ 3 ?_
       refine tkQ 4 ?_
       refine tkQ 5 ?_
       refine tkQ 6 ?_
       (refine' jz 7 rfl rfl jg (yk rfl rfl (by exact xF (by assumption)) jg rfl (fun _ _ => UT _ ?_)) ?_ ?_; (· omega); (· assumption))
       refine tkQ 8 ?_
       refine tkQ 9 ?_
       refine tkQ 10 ?_
       refine tkQ 11 ?_
       refine tdQ ?_
       refine goA ?_
       refine js (fun w h => h.tail.tail) ?_
       refine je 2 _ rfl rfl ?_
       exact ⟨rfl, rfl⟩
     have hokn : Cn.okName z = true := by unfold Cn.okName; rw [hmay, beq_iff_eq.2 hf]; rfl
     refine jw jc ([(b4, Obj.cells ([.string (bs z.name), .int .u8 (z.pol : Nat), .int .u16 (z.tru : Nat)] : List Value).toArray 26 (0, 0))]) [] ?_
     refine tkQ 0 ?_
     refine tkQ 1 ?_
     refine' jz 2 rfl rfl jg (q9 jg rfl (fun _ _ => zo _ ?_)) ?_ ?_; (· omega); (· assumption)
     refine tkQ 3 ?_
     refine tkQ 4 ?_
     refine tkQ 5 ?_
     refine tkQ 6 ?_
     (refine' jz 7 rfl rfl jg (yk rfl rfl (by exact xF (by assumption)) jg rfl (fun _ _ => UT _ ?_)) ?_ ?_; (· omega); (· assumption))
     refine tkQ 8 ?_
     refine tkQ 9 ?_
     refine tkQ 10 ?_
     refine tkQ 11 ?_
     refine tdQ ?_
     refine goA ?_
     refine jB (σ := Nat) (fun k => k ≤ i ∧ (c.zs.take k).any (fun y => y.name == z.name) = false) (fun k => [(1, .pointer (some ⟨b1, 0, none⟩)), (3, .int .i64 (i : Nat)), (4, .pointer (some ⟨b4, 0, none⟩)), (12, .slice (some ⟨b2, o2, none⟩) c.zs.length cap), (13, .int .i64 (c.zs.length : Nat)), (14, .int .i64 (i : Nat)), (34, .slice (some ⟨b2, o2, none⟩) i cap), (35, .int .i64 (i : Nat)), (36, .int .i64 (k : Nat))]) (fun _ => (b4, Obj.cells ([.string (bs z.name), .int .u8 (z.pol : Nat), .int .u16 (z.tru : Nat)] : List Value).toArray 26 (0, 0)) :: (b1, Obj.cells (ji c (.slice (some ⟨b2, o2, none⟩) c.zs.length cap)).toArray 30 (0, 0)) :: L) (fun k => i - k) 0 ⟨by omega, by simp⟩ ?_ (fun _ h => h) ?_
     exact jv
     rintro k ⟨hk, hany⟩
     by_cases hki : k < i
     · obtain ⟨y, hyk⟩ : ∃ y, c.zs[k]? = some y := ⟨_, List.getElem?_eq_getElem jf⟩
       obtain ⟨b5, o5, C5, t5, f5, e5, m5, cs5, _, ⟨rfl, hyn, hyp, hyt⟩, hcs5⟩ := sliceR.at hz hyk
       cases e5
       refine goA ?_
       refine ju (jD [.string (bs y.name), .int .u8 (y.pol : Nat), .int .u16 (y.tru : Nat)] rfl stL (List.mem_cons_of_mem _ (List.mem_cons_of_mem _ m5)) hcs5) rfl ?_
       repeat (first | refine goA ?_ | (refine j5 ?_; intro bNew))
       obtain ⟨b6, hb6⟩ : ∃ b, bNew = b := ⟨_, rfl⟩
       rw [hb6]
       clear hb6 bNew
       have l0 : ([.string (bs y.name), .int .u8 (y.pol : Nat), .int .u16 (y.tru : Nat)] : List Value).toArray[0 + 0]? = some (.string (bs y.name)) := rfl
       by_cases hyz : y.name = z.name
       · have hbad : Cn.goodAt c.ups c.zs i = false := by
          rw [hgood, Bool.and_eq_false_iff]
          right
          rw [Bool.not_eq_false', List.any_eq_true]
          exact ⟨y, List.mem_take_iff_getElem.2 ⟨k, by omega, (List.getElem?_eq_some_iff.1 hyk).2⟩, beq_iff_eq.2 hyz⟩
         rw [qe hlt hbad]
         refine goA ?_
         refine js (fun w h => h.tail.tail.tail) ?_
         refine je 2 _ rfl rfl ?_
         exact ⟨rfl, rfl⟩
       · refine goA ?_
         refine jk (k + 1) ⟨by omega, ?_⟩ ?_ (fun _ h => h.tail) jf
         · rw [List.take_add_one, hyk, List.any_append, hany]
           simp [hyz]
         exact jv
     · have hkie : k = i := by omega
       subst hkie
       rw [hany, Bool.not_false, Bool.and_true] at hgood
       unfold Cn.okZo at hgood
       rw [hokn, Bool.true_and] at hgood
       obtain ⟨n, hn⟩ : ∃ n : Nat, c.ups = (n : Nat) := ⟨c.ups.toNat, by omega⟩
       have hn2 : c.ups.toNat = n := by omega
       have fin : ∀ b, Cn.okPol c.ups z = b → Cn.goodAt c.ups c.zs k = b := fun b h => hgood.trans h
       have nxt : Cn.okPol c.ups z = true → ∀ j < k + 1, Cn.goodAt c.ups c.zs j = true := fun h j hj => by
        rcases Nat.lt_or_ge j k with q | q
        · exact hall j q
        · have : j = k := by omega
          subst this
          exact fin true h
       have pol : Cn.okPol c.ups z = decide (((z.pol = 1 ∨ z.pol = 2 ∨ z.pol = 4) ∧ z.tru = 0) ∨ (z.pol = 3 ∧ z.tru ≠ 0 ∧ z.tru / 2 ^ n = 0)) := by unfold Cn.okPol; rw [hn2]
       rw [hn] at g0
       obtain ⟨q, hq⟩ : ∃ q, z.tru / 2 ^ n = q := ⟨_, rfl⟩
       have hsh := zd (P := Tryz.prog) (t := 22) (k := .i64) (a := z.tru) (u := n) jf
       rw [hq] at pol hsh
       by_cases p1 : z.pol = 1
       · by_cases t0 : z.tru = 0
         · skip
           have hy : Cn.okPol c.ups z = true := by rw [pol]; exact decide_eq_true jf
           refine goA ?_
           refine jk (k + 1) ⟨by omega, nxt hy⟩ ?_ (fun _ h => h.tail) jf
           exact jv
         · skip
           rw [qe hlt (fin false (by rw [pol]; exact decide_eq_false jf))]
           refine goA ?_
           refine js (fun w h => h.tail.tail) ?_
           refine je 2 _ rfl rfl ?_
           exact ⟨rfl, rfl⟩
       by_cases p2 : z.pol = 2
       · by_cases t0 : z.tru = 0
         · skip
           have hy : Cn.okPol c.ups z = true := by rw [pol]; exact decide_eq_true jf
           refine goA ?_
           refine jk (k + 1) ⟨by omega, nxt hy⟩ ?_ (fun _ h => h.tail) jf
           exact jv
         · skip
           rw [qe hlt (fin false (by rw [pol]; exact decide_eq_false jf))]
           refine goA ?_
           refine js (fun w h => h.tail.tail) ?_
           refine je 2 _ rfl rfl ?_
           exact ⟨rfl, rfl⟩
       by_cases p4 : z.pol = 4
       · by_cases t0 : z.tru = 0
         · skip
           have hy : Cn.okPol c.ups z = true := by rw [pol]; exact decide_eq_true jf
           refine goA ?_
           refine jk (k + 1) ⟨by omega, nxt hy⟩ ?_ (fun _ h => h.tail) jf
           exact jv
         · skip
           rw [qe hlt (fin false (by rw [pol]; exact decide_eq_false jf))]
           refine goA ?_
           refine js (fun w h => h.tail.tail) ?_
           refine je 2 _ rfl rfl ?_
           exact ⟨rfl, rfl⟩
       by_cases p3 : z.pol = 3
       · by_cases t0 : z.tru = 0
         · skip
           rw [qe hlt (fin false (by rw [pol]; exact decide_eq_false jf))]
           refine goA ?_
           refine js (fun w h => h.tail.tail) ?_
           refine je 2 _ rfl rfl ?_
           exact ⟨rfl, rfl⟩
         · by_cases q0 : q = 0
           · skip
             refine goA ?_
             refine jA (qp rfl rfl hsh) rfl ?_
             have hy : Cn.okPol c.ups z = true := by rw [pol]; exact decide_eq_true jf
             refine goA ?_
             refine jk (k + 1) ⟨by omega, nxt hy⟩ ?_ (fun _ h => h.tail) jf
             exact jv
           · skip
             rw [qe hlt (fin false (by rw [pol]; exact decide_eq_false jf))]
             refine goA ?_
             refine jA (qp rfl rfl hsh) rfl ?_
             refine goA ?_
             refine js (fun w h => h.tail.tail) ?_
             refine je 2 _ rfl rfl ?_
             exact ⟨rfl, rfl⟩
       rw [qe hlt (fin false (by rw [pol]; exact decide_eq_false jf))]
       refine goA ?_
       refine js (fun w h => h.tail.tail) ?_
       refine je 2 _ rfl rfl ?_
       exact ⟨rfl, rfl⟩
 · have hil : i = c.zs.length := by omega
   subst hil
   rw [Wv jf hall]
   refine goA ?_
   refine js (fun w h => h.tail) ?_
   refine je 2 _ rfl rfl ?_
   exact ⟨rfl, rfl⟩
end Go.Proofs.YtbjkkoacclfejaaGreat
namespace Go.Proofs.YtbjkkoacclfejaaGreat
open Go.RowKit
open Cn (Zo Cf)
variable {G : World} {L : ja}
structure CfL (L : ja) (c : Cf) (v : Value) : Prop where
 row : sliceR 3 zoR L [v] c.zs
 small : ∀ z ∈ c.zs, z.name.length ≤ 1000000
theorem CfL.mono {L' : ja} {c : Cf} {v : Value} (h : CfL L c v) (hs : ∀ p ∈ L, p ∈ L') : CfL L' c v := ⟨jn z7 _ _ _ _ hs h.row, h.small⟩
theorem JG {c : Cf} (h : Cn.mayNum c = true) : 1 ≤ c.ups ∧ c.ups ≤ 9 := by
 have := of_decide_eq_true h
 omega
def uK (c : Cf) : Int := if Cn.mayP c then 0 else 1
theorem VT (c : Cf) (v : Value) (h : CfL L c v) : Spec Tryz.prog G 36 #[.agg (ji c v).toArray] L fun u M => u = .int .i64 (uK c) ∧ M = L := by
 refine jm (n := 11) Tryz.func36 rfl rfl rfl ?_
 refine jU (jI (jP (kE rfl) rfl ?_))
 intro b1
 refine goA ?_
 refine jX (jb jg rfl (Y1 c v)) rfl ?_
 cases hn : Cn.mayNum c with
 | false =>
   have hm : uK c = 1 := by unfold uK Cn.mayP; rw [hn]; rfl
   rw [hm]
   refine goA ?_
   refine js (fun w h => h.tail) ?_
   refine je 2 _ rfl rfl ?_
   exact ⟨rfl, rfl⟩
 | true =>
   refine goA ?_
   refine jZ (jb jg rfl (Vj c v (jn z7 _ _ _ _ jt h.row) (JG hn) h.small)) rfl ?_
   cases hz : Cn.mayZs c.ups c.zs with
   | false =>
     have hm : uK c = 1 := by unfold uK Cn.mayP; rw [hn, hz]; rfl
     rw [hm]
     refine goA ?_
     refine js (fun w h => h.tail) ?_
     refine je 2 _ rfl rfl ?_
     exact ⟨rfl, rfl⟩
   | true =>
     have hm : uK c = 0 := by unfold uK Cn.mayP; rw [hn, hz]; rfl
     rw [hm]
     refine goA ?_
     refine js (fun w h => h.tail) ?_
     refine je 2 _ rfl rfl ?_
     exact ⟨rfl, rfl⟩
theorem Ky {c : Cf} (h : Cn.mayP c = true) : uK c = 0 := if_pos h
theorem Ur {c : Cf} (h : Cn.mayP c = false) : uK c = 1 := if_neg (by rw [h]; decide)
theorem VU (c : Cf) (v : Value) (h : CfL L c v) : Spec Tryz.prog G 19 #[.agg (ji c v).toArray] L fun u M => u = .int .i64 (Cn.liesP c) ∧ M = L := by
 refine jm (n := 9) Tryz.func19 rfl rfl rfl ?_
 refine jU (jI (jP (kE rfl) rfl ?_))
 intro b1
 have g0 : (ji (c) (v)).toArray[0 + 0]? = some (.int .i64 (c).ups) := rfl
 have g1 : (ji (c) (v)).toArray[0 + 1]? = some (.int .i64 (c).ded) := rfl
 have g2 : (ji (c) (v)).toArray[0 + 2]? = some (.int .i64 (c).hdg) := rfl
 have g3 : (ji (c) (v)).toArray[0 + 3]? = some (.int .i64 (c).wai) := rfl
 have g4 : (ji (c) (v)).toArray[0 + 4]? = some (.int .i64 (c).tri) := rfl
 have g5 : (ji (c) (v)).toArray[0 + 5]? = some (.int .i64 (c).res) := rfl
 have g6 : (ji (c) (v)).toArray[0 + 6]? = some (.int .i64 (c).lim) := rfl
 have g7 : (ji (c) (v)).toArray[0 + 7]? = some (.int .i64 (c).cac) := rfl
 have g8 : (ji (c) (v)).toArray[0 + 8]? = some (.int .i64 (c).fli) := rfl
 have g9 : (ji (c) (v)).toArray[0 + 9]? = some (.int .i64 (c).wtr) := rfl
 have g10 : (ji (c) (v)).toArray[0 + 10]? = some (.int .i64 (c).ttl) := rfl
 have g11 : (ji (c) (v)).toArray[0 + 11]? = some (.int .i64 (c).siz) := rfl
 have g12 : (ji (c) (v)).toArray[0 + 12]? = some (v) := rfl
 refine goA ?_
 refine jX (jb jg rfl (VT c v (h.mono jt))) rfl ?_
 cases hm : Cn.mayP c with
 | true =>
   have he : uK c = 0 := Ky hm
   have hu := JG (Bool.and_eq_true_iff.1 hm).1
   have hl : Cn.liesP c = c.ups / 2 := by unfold Cn.liesP; rw [if_pos hm]
   rw [he, hl]
   refine goA ?_
   refine js (fun w h => h.tail) ?_
   refine je 2 _ rfl rfl ?_
   exact ⟨rfl, rfl⟩
 | false =>
   have he : uK c = 1 := Ur hm
   have hl : Cn.liesP c = 0 := by unfold Cn.liesP; rw [hm]; rfl
   rw [he, hl]
   refine goA ?_
   refine js (fun w h => h.tail) ?_
   refine je 2 _ rfl rfl ?_
   exact ⟨rfl, rfl⟩
end Go.Proofs.YtbjkkoacclfejaaGreat
namespace Go.Proofs.YtbjkkoacclfejaaGreat
open Go.RowKit
open Hg (En Pl)
open Vd (RSet Vdt Vote Rec Quest Piece Ballot)
variable {G : World} {L : ja}
theorem Qp {ap : Nat} {a : As} {X : ja} (h : ut ap a X) (hX : ∀ p ∈ X, p ∈ L) : Spec Tryz.prog G 18 #[.pointer (some ⟨ap, 0, none⟩)] L fun u M => u = .bool a.over ∧ M = L := by
 obtain ⟨bp, bb, Mp, Mb, hp, hb, rfl⟩ := h
 refine jm (n := 5) Tryz.func18 rfl rfl rfl ?_
 refine goB ?_
 refine jX (jb jg rfl (zY ap bp bb a (hX _ (List.mem_cons_self ..)))) rfl ?_
 refine goB ?_
 refine je 2 _ rfl rfl ?_
 exact ⟨rfl, rfl⟩
theorem VV {ap : Nat} {a : As} {X : ja} (h : ut ap a X) : Spec Tryz.prog G 16 #[.pointer (some ⟨ap, 0, none⟩)] (X ++ L) fun u M => ∃ b2 X2, u = .pointer (some ⟨b2, 0, none⟩) ∧ ut b2 a X2 ∧ M = X2 ++ (X ++ L) := by
 obtain ⟨bp, bb, Mp, Mb, hp, hb, rfl⟩ := h
 have e5 : (jh a bp bb)[0 + 5]? = some (.pointer (some ⟨bp, 0, none⟩)) := rfl
 have e6 : (jh a bp bb)[0 + 6]? = some (.pointer (some ⟨bb, 0, none⟩)) := rfl
 have g1 : Option.isNone (some (⟨ap, 0, none⟩ : Addr)) = false := rfl
 rw [List.cons_append]
 refine jm (n := 21) Tryz.func16 rfl rfl rfl ?_
 repeat (first | refine goB ?_ | (refine j5 ?_; intro bNew))
 refine jy (L' := Mp ++ ((bNew, Obj.cells (jh a bp bb) 102 (0, 0)) :: (ap, Obj.cells (jh a bp bb) 102 (0, 0)) :: (Mb ++ L))) ?_ jl
 refine jx (jb jg rfl (aby hp)) rfl ?_
 rintro _ _ ⟨bq, M2, rfl, hp2, rfl⟩
 refine jy (L' := (bNew, Obj.cells (jh a bp bb) 102 (0, 0)) :: (ap, Obj.cells (jh a bp bb) 102 (0, 0)) :: (M2 ++ (Mp ++ (Mb ++ L)))) ?_ jl
 refine goB ?_
 refine kU (L' := (bNew, Obj.cells (jh a bq bb) 102 (0, 0)) :: (ap, Obj.cells (jh a bp bb) 102 (0, 0)) :: (M2 ++ (Mp ++ (Mb ++ L)))) (fun w h => h) ?_
 refine jy (L' := Mb ++ ((bNew, Obj.cells (jh a bq bb) 102 (0, 0)) :: (ap, Obj.cells (jh a bp bb) 102 (0, 0)) :: (M2 ++ (Mp ++ L)))) ?_ jl
 refine jx (jb jg rfl (aar hb)) rfl ?_
 rintro _ _ ⟨b3, M3, rfl, hb3, rfl⟩
 refine jy (L' := (bNew, Obj.cells (jh a bq bb) 102 (0, 0)) :: (ap, Obj.cells (jh a bp bb) 102 (0, 0)) :: (M3 ++ (Mb ++ (M2 ++ (Mp ++ L))))) ?_ jl
 refine goB ?_
 refine js (L' := (bNew, Obj.cells (jh a bq b3) 102 (0, 0)) :: (ap, Obj.cells (jh a bp bb) 102 (0, 0)) :: (M3 ++ (Mb ++ (M2 ++ (Mp ++ L))))) (fun w h => h) ?_
 refine jH (L' := ((bNew, Obj.cells (jh a bq b3) 102 (0, 0)) :: (M2 ++ M3)) ++ (((ap, Obj.cells (jh a bp bb) 102 (0, 0)) :: (Mp ++ Mb)) ++ L)) ?_ jl
 refine je 2 _ rfl rfl ?_
 exact ⟨bNew, _, rfl, ⟨bq, b3, M2, M3, hp2, hb3, rfl⟩, rfl⟩
end Go.Proofs.YtbjkkoacclfejaaGreat
namespace Go.Proofs.YtbjkkoacclfejaaGreat
open Go.RowKit
open Hg (En Pl)
open Vd (RSet Vdt Vote Rec Quest Piece Ballot)
variable {G : World} {L : ja}
section
variable {P : Program} {ρ : jp} {ty : TypeId}
theorem ze {x : Operand} {t : TypeId} {fs : Array Field} {v : Value} (hx : ev ρ x = some v) (hu : P.underlying t = some (.struct fs)) : OpQ P ρ L (.makeInterface t x) ty (.iface t v) :=
 ⟨fun r hr w hw o ho _ => by simp [execOp, ho, hr _ _ hx, Instr.makeInterface, run_underlying hu]⟩
end
theorem aeM : Built Tryz.prog 152 [] (.agg #[]) := ⟨fun w => by kernel_rfl⟩
theorem aeN : Built Tryz.prog 155 [] (.agg #[]) := ⟨fun w => by kernel_rfl⟩
theorem Us (k : Nat) (lies : Int) (hl : 0 ≤ lies ∧ lies ≤ 1000) : Spec Tryz.prog G 38 #[.int .u8 (k : Nat), .int .i64 lies] L fun u M => (u = if 1 ≤ k ∧ k ≤ 3 then .tuple #[.iface (U9 k) (JY k (lies + 1)), .int .i64 (if k = 3 then 1 else lies + 1), .bool true] else .tuple #[.nilIface, .int .i64 0, .bool false]) ∧ M = L := by
 refine jm (n := 26) Tryz.func38 rfl rfl rfl ?_
 by_cases h1 : k = 1
 · subst h1
   refine goB ?_
   refine ju (jo rfl aeM) rfl ?_
   refine ju (ze rfl Tryz.underlying152) rfl ?_
   refine goB ?_
   refine zS 4 5 6 _ _ _ rfl rfl rfl rfl ?_
   exact ⟨rfl, rfl⟩
 by_cases h2 : k = 2
 · subst h2
   repeat (first | refine goB ?_ | refine ju (jo rfl (QG _)) rfl ?_)
   refine ju (ze rfl Tryz.underlying154) rfl ?_
   refine goB ?_
   refine zS 4 5 6 _ _ _ rfl rfl rfl rfl ?_
   exact ⟨rfl, rfl⟩
 by_cases h3 : k = 3
 · subst h3
   refine goB ?_
   refine ju (jo rfl aeN) rfl ?_
   refine ju (ze rfl Tryz.underlying155) rfl ?_
   refine goB ?_
   refine zS 4 5 6 _ _ _ rfl rfl rfl rfl ?_
   exact ⟨rfl, rfl⟩
 rw [if_neg jf]
 refine goB ?_
 refine zS 4 5 6 _ _ _ rfl rfl rfl rfl ?_
 exact ⟨rfl, rfl⟩
theorem uL {ups : Int} {l : List Int} {i : Nat} {x : Int} (hx : l[i]? = some x) (h : x < 0 ∨ ups ≤ x ∨ x ∈ l.take i) : Aq.distinct ups l = false := by
 unfold Aq.distinct
 rw [Bool.and_eq_false_iff]
 rcases h with h | h | h
 · left; rw [List.all_eq_false]; exact ⟨x, List.mem_of_getElem? hx, by simp; omega⟩
 · left; rw [List.all_eq_false]; exact ⟨x, List.mem_of_getElem? hx, by simp; omega⟩
 · right
   rw [decide_eq_false_iff_not]
   intro hn
   obtain ⟨hi, rfl⟩ := List.getElem?_eq_some_iff.1 hx
   obtain ⟨j, hj, e⟩ := List.getElem_of_mem h
   have hj' : j < i := by simp at hj; omega
   rw [List.getElem_take] at e
   have := (List.getElem_inj hn).1 e
   omega
theorem Vk (vl : Value) (l : List Int) (ups : Int) (hl : IRow L vl l) (hn : l.length ≤ 1000) (hu : 1 ≤ ups ∧ ups ≤ 9) : Spec Tryz.prog G 39 #[vl, .int .i64 ups] L fun u M => u = .bool (Aq.distinct ups l) ∧ M = L := by
 obtain ⟨al, cl, rfl, hl⟩ := hl
 refine jm (n := 29) Tryz.func39 rfl rfl rfl ?_
 repeat (first | refine goB ?_ | (refine j5 ?_; intro bNew))
 refine jB (σ := Nat) (fun k => k ≤ l.length ∧ (∀ x ∈ l.take k, 0 ≤ x ∧ x < ups) ∧ (l.take k).Nodup) (fun k => [(1, .int .i64 ups), (5, .pointer (some ⟨bNew, 0, none⟩)), (8, .slice al l.length cl), (9, .int .i64 (l.length : Nat)), (10, .int .i64 (k : Nat))]) (fun k => (bNew, .cells (uV (l.take k)) 48 (0, 0)) :: L) (fun k => l.length - k) 0 ⟨Nat.zero_le _, by simp, by simp⟩ ?_ (fun w h => h) ?_
 exact jv
 rintro k ⟨hk, hall, hnd⟩
 by_cases hlt : k < l.length
 · obtain ⟨x, hx⟩ : ∃ x, l[k]? = some x := ⟨_, List.getElem?_eq_getElem hlt⟩
   rcases hl with rfl | ⟨b1, o1, C1, t1, f1, rfl, m1, q1⟩
   · simp at hlt
   have c1 := q1 k x hx
   have tk : l.take (k + 1) = l.take k ++ [x] := by rw [List.take_add_one, hx]; rfl
   by_cases x0 : x < 0
   · rw [uL hx (Or.inl x0)]
     refine goB ?_
     refine jH (L' := L) ?_ jl
     refine je 4 _ rfl rfl ?_
     exact ⟨rfl, rfl⟩
   by_cases x9 : ups ≤ x
   · rw [uL hx (Or.inr (Or.inl x9))]
     refine goB ?_
     refine jH (L' := L) ?_ jl
     refine je 4 _ rfl rfl ?_
     exact ⟨rfl, rfl⟩
   have g3 := VM (l.take k) x jf jf
   cases hc : (l.take k).contains x with
   | true =>
     rw [hc] at g3
     have hmem : x ∈ l.take k := by simpa using hc
     rw [uL hx (Or.inr (Or.inr hmem))]
     refine goB ?_
     refine jH (L' := L) ?_ jl
     refine je 4 _ rfl rfl ?_
     exact ⟨rfl, rfl⟩
   | false =>
     rw [hc] at g3
     have hmem : x ∉ l.take k := by simpa using hc
     refine goB ?_
     refine jk (k + 1) ⟨hlt, ?_, ?_⟩ ?_ (fun w h => ?_) jf
     · rw [tk]
       intro y hy
       rcases List.mem_append.1 hy with hy | hy
       · exact hall y hy
       · rw [List.mem_singleton.1 hy]; omega
     · rw [tk]
       refine List.nodup_append.2 ⟨hnd, by simp, fun a ha b hb => ?_⟩
       rw [List.mem_singleton.1 hb]
       rintro rfl
       exact hmem ha
     exact jv
     · rw [tk]
       rw [Uk _ _ jf jf] at h
       exact h
 · have hkn : k = l.length := by omega
   subst hkn
   rw [List.take_length] at hall hnd
   have hy : Aq.distinct ups l = true := by
    unfold Aq.distinct
    rw [Bool.and_eq_true]
    exact ⟨List.all_eq_true.2 fun x hx => decide_eq_true (hall x hx), decide_eq_true hnd⟩
   rw [hy]
   refine goB ?_
   refine jH (L' := L) ?_ jl
   refine je 4 _ rfl rfl ?_
   exact ⟨rfl, rfl⟩
end Go.Proofs.YtbjkkoacclfejaaGreat
namespace Go.Proofs.YtbjkkoacclfejaaGreat
open Go.RowKit
open Hg (En Pl)
open Vd (RSet Vdt Vote Rec Quest Piece Ballot)
open Cn (Zo Cf)
section
variable {G : World} {P : Program} {n : Nat} {ρ : jp} {L : ja}
theorem kX {fn : Func} {Φ : Value → ja → Prop} (u a t s : Nat) {b k : Nat} {C : Array Value} {te : TypeId} {fr : Nat × Nat} {x y : Value} {L' : ja} (hr : fn.results = #[.tmp u, .cell a t, .tmp s]) (hv : ρ.lookup a = some (.pointer (some ⟨b, 0, none⟩))) (hx : ρ.lookup u = some x) (hy : ρ.lookup s = some y)
 (ht : jL P t k = true) (hm : (b, Obj.cells C te fr) ∈ L) (hk : C.size = k) (hl : ∀ w, Heap G w L → Heap G w L') (h : Φ (.tuple #[x, .agg C, y]) L') : TQ G n ρ L .ret (bodyPost P fn (kM G Φ)) :=
 ⟨fun ac w he hw => ⟨he.defers, .tuple #[x, .agg C, y], by
   obtain ⟨h1, h0⟩ := yr he hv ht (hw.get _ hm) hk
   have h2 : ac.tmps.getD u undef = x := he.reads (.tmp u) x hx
   have h3 : ac.tmps.getD s undef = y := he.reads (.tmp s) y hy
   rw [Array.getD_eq_getD_getElem?] at h1 h2 h3
   simp only [results, hr]
   simp
   simp [h1, asAddr, h0, h2, h3], _, L', rfl, h, hl w hw⟩⟩
end
variable {G : World} {L : ja}
theorem Vl (k : Nat) (lies : Int) (hl : 0 ≤ lies ∧ lies ≤ 1000) (h : 1 ≤ k ∧ k ≤ 3) : Spec Tryz.prog G 38 #[.int .u8 (k : Nat), .int .i64 lies] L fun u M => u = .tuple #[.iface (U9 k) (JY k (lies + 1)), .int .i64 (if k = 3 then 1 else lies + 1), .bool true] ∧ M = L := by
 have := Us (G := G) (L := L) k lies hl
 rw [if_pos h] at this
 exact this
theorem Ww (k : Nat) (lies : Int) (hl : 0 ≤ lies ∧ lies ≤ 1000) (h : ¬ (1 ≤ k ∧ k ≤ 3)) : Spec Tryz.prog G 38 #[.int .u8 (k : Nat), .int .i64 lies] L fun u M => u = .tuple #[.nilIface, .int .i64 0, .bool false] ∧ M = L := by
 have := Us (G := G) (L := L) k lies hl
 rw [if_neg h] at this
 exact this
theorem Wx (v0 v1 v2 : Value) (t : TypeId) (x : Value) (want ded now : Int) (bp bb : Option Addr) : Built Tryz.prog 102 [(0, .agg #[v0, v1, v2]), (1, .iface t x), (2, .int .i64 want), (3, .pointer bp), (4, .pointer bb), (5, .int .i64 ded), (6, .int .i64 now)] (.agg #[v0, v1, v2, .iface t x, .int .i64 want, .pointer bp, .pointer bb, .int .i64 ded, .int .i64 now, .bool false]) := ⟨fun w => by kernel_rfl⟩
def Vm (pol tru : Nat) (u : Int) : Bool := decide (pol ≠ 3) || tru.testBit u.toNat
def Y2 (L : ja) (e : Int) (r : As × Dd) (u : Value) (M : ja) : Prop :=
 (e = 0 ∧ ∃ ap cs X N, u = .tuple #[.pointer (some ⟨ap, 0, none⟩), .agg cs.toArray, .int .i64 0] ∧ yZ N cs r.2 ∧ ut ap r.1 X ∧ M = X ++ (N ++ L)) ∨ (e ≠ 0 ∧ u = .tuple #[.pointer none, .agg (kl (.slice none 0 0) (.slice none 0 0)), .int .i64 e] ∧ M = L)
structure NewIn (q : Quest) (z : Zo) (l : List Int) (c : Cf) (now : Int) : Prop where
 may : Cn.mayP c = true
 name : Nm.may q.name = true
 pol : 1 ≤ z.pol ∧ z.pol ≤ 3
 now : 0 ≤ now ∧ now ≤ Hg.top
 dist : Aq.distinct c.ups l = true
theorem VW {q : Quest} {z : Zo} {l : List Int} {c : Cf} {now : Int} (h : NewIn q z l c now) : Aq.newE q z l c now = if Aq.own z.pol z.tru l = [] then 6 else 0 := by
 have h1 := h.pol
 have h2 := h.now
 unfold Aq.newE
 rw [h.may, h.name, h.dist, decide_eq_false jf, decide_eq_false jf]
 rfl
theorem qH {q : Quest} {z : Zo} {l : List Int} {c : Cf} {now : Int} (h : ¬ NewIn q z l c now) : Aq.newE q z l c now = 1 := by
 unfold Aq.newE
 rw [if_pos]
 refine Decidable.byContradiction fun k => h ?_
 simp only [Bool.or_eq_true, Bool.not_eq_true', decide_eq_true_eq, not_or, Bool.not_eq_false] at k
 exact ⟨k.1.1.1.1, k.1.1.1.2, by omega, by omega, k.2⟩
theorem Kz {q : Quest} {z : Zo} {l : List Int} {c : Cf} {now : Int} (h : Aq.newE q z l c now = 0) : NewIn q z l c now ∧ Aq.own z.pol z.tru l ≠ [] := by
 by_cases hi : NewIn q z l c now
 · rw [VW hi] at h
   refine ⟨hi, fun k => ?_⟩
   rw [if_pos k] at h
   cases h
 · rw [qH hi] at h; cases h
theorem qX {c : Cf} (h : Cn.mayP c = true) : (1 ≤ c.ups ∧ c.ups ≤ 9) ∧ (1 ≤ c.hdg ∧ c.hdg ≤ 1000) ∧ (1 ≤ c.wai ∧ c.wai ≤ 1000) ∧ (1 ≤ c.tri ∧ c.tri ≤ 4) ∧ (0 ≤ c.ded ∧ c.ded ≤ 100000) ∧ Cn.liesP c = c.ups / 2 := by
 have h1 := of_decide_eq_true (Bool.and_eq_true_iff.1 h).1
 obtain ⟨⟨a1, a2, _⟩, a3, a4, a5, ⟨a6, a7⟩, _⟩ := h1
 have h2 : 0 ≤ c.ups / 2 * c.hdg := Int.mul_nonneg jf jf
 have h3 : 0 ≤ c.tri * c.wai := Int.mul_nonneg jf jf
 exact ⟨⟨a1, a2⟩, a3, a4, a5, ⟨by omega, a7⟩, by unfold Cn.liesP; rw [if_pos h]⟩
theorem KA {c : Cf} (h : Cn.mayP c = true) (pol : Nat) : 1 ≤ Aq.wantOf c pol ∧ Aq.wantOf c pol ≤ 9 := by
 obtain ⟨h1, _, _, _, _, h2⟩ := qX h
 unfold Aq.wantOf
 split <;> omega
theorem zE {ups : Int} {l : List Int} (h : Aq.distinct ups l = true) : (∀ x ∈ l, 0 ≤ x ∧ x < ups) ∧ l.Nodup := by
 unfold Aq.distinct at h
 rw [Bool.and_eq_true, List.all_eq_true] at h
 exact ⟨fun x hx => of_decide_eq_true (h.1 x hx), of_decide_eq_true h.2⟩
theorem JH {pol tru : Nat} {ups : Int} {l : List Int} (h : Aq.distinct ups l = true) (hu : ups ≤ 9) : (∀ x ∈ Aq.own pol tru l, 0 ≤ x ∧ x ≤ 8) ∧ (Aq.own pol tru l).Nodup ∧ (Aq.own pol tru l).length ≤ 9 := by
 obtain ⟨h1, h2⟩ := zE h
 have h3 : ∀ x ∈ Aq.own pol tru l, 0 ≤ x ∧ x ≤ 8 := fun x hx => by
  have := h1 x ((List.mem_filter.1 hx).1)
  omega
 have h4 : (Aq.own pol tru l).Nodup := h2.sublist List.filter_sublist
 exact ⟨h3, h4, uB 9 _ h4 fun x hx => by have := h3 x hx; omega⟩
theorem zF : ∀ (k : Nat) (p : Pl), (Hg.nexts k p).1.made = p.made
 | 0, p => rfl
 | k + 1, p => zF k (Hg.next p)
theorem qC {q : Quest} {z : Zo} {l : List Int} {c : Cf} {now : Int} (h : NewIn q z l c now) (hq : QOk q) : AWell (Aq.new0 q z l c now) := by
 obtain ⟨n1, n2, n3, n4, n5, n6⟩ := qX h.may
 obtain ⟨o1, o2, o3⟩ := JH (pol := z.pol) (tru := z.tru) h.dist n1.2
 have hw := KA h.may z.pol
 have hp := h.pol
 have hn := h.now
 have htop : Hg.top = 1099511627776 := rfl
 have hg := VN (Aq.own z.pol z.tru l) (Aq.wantOf c z.pol) c.hdg c.wai c.tri now o3 hw n2 n3 n4 jf
 refine ⟨⟨hg.begin', (Fr.mk _ _ _ _ _ _).begin', Qm _ rfl, ?_, hw, ?_, hn, ?_, h.name, BoxOk.nil⟩, hq, by simp [Aq.new0, Aq.votes, Vd.votesB]⟩
 · show (Hg.begin' _).1.made = true
   unfold Hg.begin'
   split
   · rfl
   · exact (zF _ _).trans rfl
 · show (z.pol : Int) = 1 ∨ (z.pol : Int) = 2 ∨ ((z.pol : Int) = 3 ∧ Aq.wantOf c z.pol = 1)
   rcases (by omega : z.pol = 1 ∨ z.pol = 2 ∨ z.pol = 3) with e | e | e
   · exact Or.inl jf
   · exact Or.inr (Or.inl jf)
   · exact Or.inr (Or.inr ⟨by omega, by unfold Aq.wantOf; rw [if_pos e]⟩)
 · show 0 ≤ now + c.ded ∧ now + c.ded ≤ Hg.top + 100000
   omega
theorem zf {q : Quest} {z : Zo} {l : List Int} {c : Cf} {now : Int} (h : NewIn q z l c now) (hq : QOk q) : AWell (Aq.new1 q z l c now).1 := (qC h hq).look
theorem Y3 (q : Quest) (z : Zo) (vl vz : Value) (l : List Int) (c : Cf) (now : Int) (hq1 : q.name.length ≤ 1000000) (hq2 : 0 ≤ q.kind ∧ q.kind ≤ 65535) (hq3 : 0 ≤ q.cls ∧ q.cls ≤ 65535) (hz : z.pol ≤ 255 ∧ z.tru ≤ 65535) (hl : IRow L vl l) (hl2 : l.length ≤ 1000) (hc : CfL L c vz) (hnow : -9223372036854775808 ≤ now ∧ now ≤ 9223372036854775807) :
 Spec Tryz.prog G 10 #[.agg (kQ q), .agg #[.string (bs z.name), .int .u8 (z.pol : Nat), .int .u16 (z.tru : Nat)], vl, .agg (ji c vz).toArray, .int .i64 now] L (Y2 L (Aq.newE q z l c now) (Aq.new1 q z l c now)) := by
 obtain ⟨al, cl, rfl, hlr⟩ := id hl
 have htop : Hg.top = 1099511627776 := rfl
 have g0 : (ji (c) (vz)).toArray[0 + 0]? = some (.int .i64 (c).ups) := rfl
 have g1 : (ji (c) (vz)).toArray[0 + 1]? = some (.int .i64 (c).ded) := rfl
 have g2 : (ji (c) (vz)).toArray[0 + 2]? = some (.int .i64 (c).hdg) := rfl
 have g3 : (ji (c) (vz)).toArray[0 + 3]? = some (.int .i64 (c).wai) := rfl
 have g4 : (ji (c) (vz)).toArray[0 + 4]? = some (.int .i64 (c).tri) := rfl
 have g5 : (ji (c) (vz)).toArray[0 + 5]? = some (.int .i64 (c).res) := rfl
 have g6 : (ji (c) (vz)).toArray[0 + 6]? = some (.int .i64 (c).lim) := rfl
 have g7 : (ji (c) (vz)).toArray[0 + 7]? = some (.int .i64 (c).cac) := rfl
 have g8 : (ji (c) (vz)).toArray[0 + 8]? = some (.int .i64 (c).fli) := rfl
 have g9 : (ji (c) (vz)).toArray[0 + 9]? = some (.int .i64 (c).wtr) := rfl
 have g10 : (ji (c) (vz)).toArray[0 + 10]? = some (.int .i64 (c).ttl) := rfl
 have g11 : (ji (c) (vz)).toArray[0 + 11]? = some (.int .i64 (c).siz) := rfl
 have g12 : (ji (c) (vz)).toArray[0 + 12]? = some (vz) := rfl
 have k0 : (kQ q)[0 + 0]? = some (.string (bs q.name)) := rfl
 refine jm (n := 132) Tryz.func10 rfl rfl rfl ?_
 repeat (first | refine goB ?_ | (refine j5 ?_; intro bNew) | (refine kK ?_; intro bBox))
 obtain ⟨b11, hb11⟩ : ∃ b, bNew = b := ⟨_, rfl⟩
 rw [hb11]
 clear hb11
 obtain ⟨bc, hbc⟩ : ∃ b, bBox = b := ⟨_, rfl⟩
 rw [hbc]
 clear hbc
 rename_i bq bz
 refine jX (jb jg rfl (VT c vz (hc.mono jt))) rfl ?_
 cases hmay : Cn.mayP c with
 | false =>
   have he : Aq.newE q z l c now = 1 := qH fun k => by have := k.may; rw [hmay] at this; cases this
   rw [he, Ur hmay]
   repeat (first | refine goB ?_ | refine ju (jo rfl (ud )) rfl ?_)
   refine jH (L' := (b11, Obj.cells #[.slice none 0 0, .slice none 0 0, .bool false, .bool false, .int .u8 0, .slice none 0 0, .slice none 0 0, .int .u32 0, .slice none 0 0, .slice none 0 0] 43 (0, 0)) :: L) ?_ jl
   refine kX 10 11 43 12 rfl rfl rfl rfl stO (List.mem_cons_self ..) rfl (fun w h => h.tail) ?_
   exact Or.inr ⟨by decide, rfl, rfl⟩
 | true =>
 rw [Ky hmay]
 obtain ⟨n1, n2, n3, n4, n5, n6⟩ := qX hmay
 cases hname : Nm.may q.name with
 | false =>
   have he : Aq.newE q z l c now = 1 := qH fun k => by have := k.name; rw [hname] at this; cases this
   rw [he]
   repeat (first | refine goB ?_ | (refine' jZ (jb jg rfl (zo _ ?_)) rfl ?_; (· omega)) | refine ju (jo rfl (ud )) rfl ?_)
   refine jH (L' := (b11, Obj.cells #[.slice none 0 0, .slice none 0 0, .bool false, .bool false, .int .u8 0, .slice none 0 0, .slice none 0 0, .int .u32 0, .slice none 0 0, .slice none 0 0] 43 (0, 0)) :: L) ?_ jl
   refine kX 10 11 43 12 rfl rfl rfl rfl stO (List.mem_cons_self ..) rfl (fun w h => h.tail) ?_
   exact Or.inr ⟨by decide, rfl, rfl⟩
 | true =>
 have hK : ∀ y ∈ [(bc, Obj.cells (ji c vz).toArray 30 (0, 0)), (bz, Obj.cells #[.string (bs z.name), .int .u8 (z.pol : Nat), .int .u16 (z.tru : Nat)] 26 (0, 0))], y ∈ (b11, Obj.cells #[.slice none 0 0, .slice none 0 0, .bool false, .bool false, .int .u8 0, .slice none 0 0, .slice none 0 0, .int .u32 0, .slice none 0 0, .slice none 0 0] 43 (0, 0)) :: (bc, Obj.cells (ji c vz).toArray 30 (0, 0)) :: (bz, Obj.cells #[.string (bs z.name), .int .u8 (z.pol : Nat), .int .u16 (z.tru : Nat)] 26 (0, 0)) :: (bq, Obj.cells (kQ q) 24 (0, 0)) :: L := fun y hz => by simp only [List.mem_cons, List.not_mem_nil, or_false] at hz; rcases hz with rfl | rfl <;> simp
 by_cases hpol : 1 ≤ z.pol ∧ z.pol ≤ 3
 rotate_left
 · have he : Aq.newE q z l c now = 1 := qH fun k => hpol k.pol
   rw [he]
   have hch := Ww (G := G) (L := (b11, Obj.cells #[.slice none 0 0, .slice none 0 0, .bool false, .bool false, .int .u8 0, .slice none 0 0, .slice none 0 0, .int .u32 0, .slice none 0 0, .slice none 0 0] 43 (0, 0)) :: (bc, Obj.cells (ji c vz).toArray 30 (0, 0)) :: (bz, Obj.cells #[.string (bs z.name), .int .u8 (z.pol : Nat), .int .u16 (z.tru : Nat)] 26 (0, 0)) :: (bq, Obj.cells (kQ q) 24 (0, 0)) :: L) z.pol (Cn.liesP c) jf hpol
   repeat (first | refine goB ?_ | (refine' jZ (jb jg rfl (zo _ ?_)) rfl ?_; (· omega)))
   refine jw jc ([(bc, Obj.cells (ji c vz).toArray 30 (0, 0)), (bz, Obj.cells #[.string (bs z.name), .int .u8 (z.pol : Nat), .int .u16 (z.tru : Nat)] 26 (0, 0))]) [] ?_
   refine tkQ 0 ?_
   refine tkQ 1 ?_
   refine tkQ 2 ?_
   refine jO 3 jg rfl rfl rfl rfl (jb jg rfl (VU c vz (hc.mono jt))) ?_; rintro _ _ ⟨rfl, rfl⟩; refine ⟨Or.inr (fun z hz => by simp only [List.mem_cons, List.not_mem_nil, or_false] at hz; rcases hz with rfl | rfl <;> simp), ?_⟩
   refine jO 4 jg rfl rfl rfl rfl (jb jg rfl hch) ?_; rintro _ _ ⟨rfl, rfl⟩; refine ⟨Or.inr (fun z hz => by simp only [List.mem_cons, List.not_mem_nil, or_false] at hz; rcases hz with rfl | rfl <;> simp), ?_⟩
   refine tkQ 5 ?_
   refine tkQ 6 ?_
   refine tkQ 7 ?_
   refine tkQ 8 ?_
   refine tkQ 9 ?_
   refine tkQ 10 ?_
   refine tkQ 11 ?_
   refine tdQ ?_
   repeat (first | refine goB ?_ | refine ju (jo rfl (ud )) rfl ?_)
   refine jH (L' := (b11, Obj.cells #[.slice none 0 0, .slice none 0 0, .bool false, .bool false, .int .u8 0, .slice none 0 0, .slice none 0 0, .int .u32 0, .slice none 0 0, .slice none 0 0] 43 (0, 0)) :: L) ?_ jl
   refine kX 10 11 43 12 rfl rfl rfl rfl stO (List.mem_cons_self ..) rfl (fun w h => h.tail) ?_
   exact Or.inr ⟨by decide, rfl, rfl⟩
 have hch := Vl (G := G) (L := (b11, Obj.cells #[.slice none 0 0, .slice none 0 0, .bool false, .bool false, .int .u8 0, .slice none 0 0, .slice none 0 0, .int .u32 0, .slice none 0 0, .slice none 0 0] 43 (0, 0)) :: (bc, Obj.cells (ji c vz).toArray 30 (0, 0)) :: (bz, Obj.cells #[.string (bs z.name), .int .u8 (z.pol : Nat), .int .u16 (z.tru : Nat)] 26 (0, 0)) :: (bq, Obj.cells (kQ q) 24 (0, 0)) :: L) z.pol (Cn.liesP c) jf hpol
 have hwant : (if z.pol = 3 then 1 else Cn.liesP c + 1) = Aq.wantOf c z.pol := rfl
 have hw := KA hmay z.pol
 rw [hwant] at hch
 repeat (first | refine goB ?_ | (refine' jZ (jb jg rfl (zo _ ?_)) rfl ?_; (· omega)))
 refine jw jc ([(bc, Obj.cells (ji c vz).toArray 30 (0, 0)), (bz, Obj.cells #[.string (bs z.name), .int .u8 (z.pol : Nat), .int .u16 (z.tru : Nat)] 26 (0, 0))]) [] ?_
 refine tkQ 0 ?_
 refine tkQ 1 ?_
 refine tkQ 2 ?_
 refine jO 3 jg rfl rfl rfl rfl (jb jg rfl (VU c vz (hc.mono jt))) ?_; rintro _ _ ⟨rfl, rfl⟩; refine ⟨Or.inr (fun z hz => by simp only [List.mem_cons, List.not_mem_nil, or_false] at hz; rcases hz with rfl | rfl <;> simp), ?_⟩
 refine jO 4 jg rfl rfl rfl rfl (jb jg rfl hch) ?_; rintro _ _ ⟨rfl, rfl⟩; refine ⟨Or.inr (fun z hz => by simp only [List.mem_cons, List.not_mem_nil, or_false] at hz; rcases hz with rfl | rfl <;> simp), ?_⟩
 refine tkQ 5 ?_
 refine tkQ 6 ?_
 refine tkQ 7 ?_
 refine tkQ 8 ?_
 refine tkQ 9 ?_
 refine tkQ 10 ?_
 refine tkQ 11 ?_
 refine tdQ ?_
 refine goB ?_
 refine jZ (jb jg rfl (Vk _ l c.ups (hl.mono jt) hl2 n1)) rfl ?_
 cases hd : Aq.distinct c.ups l with
 | false =>
   have he : Aq.newE q z l c now = 1 := qH fun k => by have := k.dist; rw [hd] at this; cases this
   rw [he]
   repeat (first | refine goB ?_ | refine ju (jo rfl (ud )) rfl ?_)
   refine jH (L' := (b11, Obj.cells #[.slice none 0 0, .slice none 0 0, .bool false, .bool false, .int .u8 0, .slice none 0 0, .slice none 0 0, .int .u32 0, .slice none 0 0, .slice none 0 0] 43 (0, 0)) :: L) ?_ jl
   refine kX 10 11 43 12 rfl rfl rfl rfl stO (List.mem_cons_self ..) rfl (fun w h => h.tail) ?_
   exact Or.inr ⟨by decide, rfl, rfl⟩
 | true =>
 by_cases t0 : now < 0
 · have he : Aq.newE q z l c now = 1 := qH fun k => by have := k.now; omega
   rw [he]
   repeat (first | refine goB ?_ | refine ju (jo rfl (ud )) rfl ?_)
   refine jH (L' := (b11, Obj.cells #[.slice none 0 0, .slice none 0 0, .bool false, .bool false, .int .u8 0, .slice none 0 0, .slice none 0 0, .int .u32 0, .slice none 0 0, .slice none 0 0] 43 (0, 0)) :: L) ?_ jl
   refine kX 10 11 43 12 rfl rfl rfl rfl stO (List.mem_cons_self ..) rfl (fun w h => h.tail) ?_
   exact Or.inr ⟨by decide, rfl, rfl⟩
 by_cases t1 : 1099511627776 < now
 · have he : Aq.newE q z l c now = 1 := qH fun k => by have := k.now; omega
   rw [he]
   repeat (first | refine goB ?_ | refine ju (jo rfl (ud )) rfl ?_)
   refine jH (L' := (b11, Obj.cells #[.slice none 0 0, .slice none 0 0, .bool false, .bool false, .int .u8 0, .slice none 0 0, .slice none 0 0, .int .u32 0, .slice none 0 0, .slice none 0 0] 43 (0, 0)) :: L) ?_ jl
   refine kX 10 11 43 12 rfl rfl rfl rfl stO (List.mem_cons_self ..) rfl (fun w h => h.tail) ?_
   exact Or.inr ⟨by decide, rfl, rfl⟩
 have hin : NewIn q z l c now := ⟨hmay, hname, hpol, by omega, hd⟩
 rw [VW hin]
 refine goB ?_
 refine jB (σ := Nat × Option Addr × Nat × ja) (fun x => x.1 ≤ l.length ∧ Row 3 1 (.slice x.2.1 (Aq.own z.pol z.tru (l.take x.1)).length x.2.2.1) (Aq.own z.pol z.tru (l.take x.1)).length (qf (Aq.own z.pol z.tru (l.take x.1))) x.2.2.2)
  (fun x => [(4, .int .i64 now), (5, .pointer (some ⟨bq, 0, none⟩)), (6, .pointer (some ⟨bz, 0, none⟩)), (8, .pointer (some ⟨bc, 0, none⟩)), (11, .pointer (some ⟨b11, 0, none⟩)), (13, .iface (U9 z.pol) (JY z.pol (Cn.liesP c + 1))), (14, .int .i64 (Aq.wantOf c z.pol)), (16, .slice x.2.1 (Aq.own z.pol z.tru (l.take x.1)).length x.2.2.1), (61, .slice al l.length cl), (62, .int .i64 (l.length : Nat)), (63, .int .i64 (x.1 : Nat))])
  (fun x => x.2.2.2 ++ ((b11, Obj.cells #[.slice none 0 0, .slice none 0 0, .bool false, .bool false, .int .u8 0, .slice none 0 0, .slice none 0 0, .int .u32 0, .slice none 0 0, .slice none 0 0] 43 (0, 0)) :: (bc, Obj.cells (ji c vz).toArray 30 (0, 0)) :: (bz, Obj.cells #[.string (bs z.name), .int .u8 (z.pol : Nat), .int .u16 (z.tru : Nat)] 26 (0, 0)) :: (bq, Obj.cells (kQ q) 24 (0, 0)) :: L)) (fun x => l.length - x.1) (0, none, 0, []) ⟨Nat.zero_le _, Row.nil _ _⟩ ?_ (fun w h => h) ?_
 exact jv
 rintro ⟨k, y, yc, B⟩ ⟨hk, hR⟩
 dsimp only at hk hR ⊢
 have hlen : (Aq.own z.pol z.tru (l.take k)).length ≤ k := Nat.le_trans (List.length_filter_le _ _) (by simp; omega)
 by_cases hlt : k < l.length
 · obtain ⟨x, hx⟩ : ∃ x, l[k]? = some x := ⟨_, List.getElem?_eq_getElem hlt⟩
   obtain ⟨xr, _⟩ := zE hd
   have hx1 := xr x (List.mem_of_getElem? hx)
   obtain ⟨n, rfl⟩ : ∃ n : Nat, x = n := ⟨x.toNat, by omega⟩
   rcases hlr with rfl | ⟨b1, o1, C1, t1', f1, rfl, m1, q1⟩
   · simp at hlt
   have c1 := q1 k _ hx
   have hto : Aq.own z.pol z.tru (l.take (k + 1)) = Aq.own z.pol z.tru (l.take k) ++ (if Vm z.pol z.tru n then [(n : Int)] else []) := by
    unfold Aq.own
    rw [List.take_add_one, hx, List.filter_append]
    congr 1
    simp only [Option.toList_some, List.filter_cons, List.filter_nil]
    rfl
   have hshr := zd (P := Tryz.prog) (t := 22) (k := .i64) (a := z.tru) (u := n) jf
   have hand := Wu (P := Tryz.prog) (t := 22) (a := z.tru / 2 ^ n) (Nat.lt_of_le_of_lt (Nat.div_le_self _ _) jf)
   by_cases hp3 : z.pol = 3
   · refine goB ?_
     refine jA (qp rfl rfl hshr) rfl ?_
     repeat (refine ky rfl rfl ?_ ?_; (· exact nF (by omega)))
     refine jA (qp rfl rfl hand) rfl ?_
     by_cases hbit : z.tru / 2 ^ n % 2 = 1
     · have hob : Vm z.pol z.tru n = true := by unfold Vm; rw [Int.toNat_natCast, Vh, decide_eq_true hbit, Bool.or_true]
       rw [hob] at hto
       rw [if_pos rfl] at hto
       repeat (first | refine goB ?_ | (refine uf ?_; intro bLit))
       refine uc etO rfl rfl hR rfl (by unfold maxLen; omega) jf rfl ?_
       intro v4 B4 hR4
       obtain ⟨a4, c4, rfl⟩ := hR4.slice
       have k4 : (Aq.own z.pol z.tru (l.take k)).length + 1 = (Aq.own z.pol z.tru (l.take (k + 1))).length := by rw [hto]; simp
       have k5 : qf (Aq.own z.pol z.tru (l.take k)) ++ [Value.int .i64 (n : Int)] = qf (Aq.own z.pol z.tru (l.take (k + 1))) := by rw [hto]; simp [qf]
       rw [k4, k5] at hR4
       rw [k4]
       refine goB ?_
       refine jk (k + 1, a4, c4, B4) ⟨hlt, hR4⟩ ?_ (fun w h => h) (by dsimp only; omega)
       exact jv
     · have hob : Vm z.pol z.tru n = false := by unfold Vm; rw [Int.toNat_natCast, Vh, decide_eq_false hbit, decide_eq_false (by simpa using hp3)]; rfl
       rw [hob] at hto
       rw [if_neg (by decide), List.append_nil] at hto
       refine goB ?_
       refine jk (k + 1, y, yc, B) ⟨hlt, by dsimp only; rw [hto]; exact hR⟩ ?_ (fun w h => h) (by dsimp only; omega)
       rw [hto]
       exact jv
   · have hob : Vm z.pol z.tru n = true := by unfold Vm; rw [decide_eq_true hp3]; rfl
     rw [hob] at hto
     rw [if_pos rfl] at hto
     repeat (first | refine goB ?_ | (refine uf ?_; intro bLit))
     refine uc etO rfl rfl hR rfl (by unfold maxLen; omega) jf rfl ?_
     intro v4 B4 hR4
     obtain ⟨a4, c4, rfl⟩ := hR4.slice
     have k4 : (Aq.own z.pol z.tru (l.take k)).length + 1 = (Aq.own z.pol z.tru (l.take (k + 1))).length := by rw [hto]; simp
     have k5 : qf (Aq.own z.pol z.tru (l.take k)) ++ [Value.int .i64 (n : Int)] = qf (Aq.own z.pol z.tru (l.take (k + 1))) := by rw [hto]; simp [qf]
     rw [k4, k5] at hR4
     rw [k4]
     refine goB ?_
     refine jk (k + 1, a4, c4, B4) ⟨hlt, hR4⟩ ?_ (fun w h => h) (by dsimp only; omega)
     exact jv
 · have htk : l.take k = l := List.take_of_length_le jf
   rw [htk] at hR hlen ⊢
   obtain ⟨o1, o2, o3⟩ := JH (pol := z.pol) (tru := z.tru) hd n1.2
   obtain ⟨ow, how⟩ : ∃ w, w = Aq.own z.pol z.tru l := ⟨_, rfl⟩
   rw [← how] at hR hlen o1 o2 o3 ⊢
   by_cases h0 : ow = []
   · subst h0
     rw [if_pos rfl]
     refine VE (L' := (b11, Obj.cells #[.slice none 0 0, .slice none 0 0, .bool false, .bool false, .int .u8 0, .slice none 0 0, .slice none 0 0, .int .u32 0, .slice none 0 0, .slice none 0 0] 43 (0, 0)) :: L) ?_ jl
     repeat (first | refine goB ?_ | refine ju (jo rfl (ud )) rfl ?_)
     refine jH (L' := (b11, Obj.cells #[.slice none 0 0, .slice none 0 0, .bool false, .bool false, .int .u8 0, .slice none 0 0, .slice none 0 0, .int .u32 0, .slice none 0 0, .slice none 0 0] 43 (0, 0)) :: L) ?_ jl
     refine kX 10 11 43 12 rfl rfl rfl rfl stO (List.mem_cons_self ..) rfl (fun w h => h.tail) ?_
     exact Or.inr ⟨by decide, rfl, rfl⟩
   · rw [if_neg h0]
     have h0l : 0 < ow.length := List.length_pos_iff.2 h0
     have hnew := adx (G := G) (L := B ++ ((b11, Obj.cells #[.slice none 0 0, .slice none 0 0, .bool false, .bool false, .int .u8 0, .slice none 0 0, .slice none 0 0, .int .u32 0, .slice none 0 0, .slice none 0 0] 43 (0, 0)) :: (bc, Obj.cells (ji c vz).toArray 30 (0, 0)) :: (bz, Obj.cells #[.string (bs z.name), .int .u8 (z.pol : Nat), .int .u16 (z.tru : Nat)] 26 (0, 0)) :: (bq, Obj.cells (kQ q) 24 (0, 0)) :: L)) _ ow (Aq.wantOf c z.pol) c.hdg c.wai c.tri now (hR.irow jt) o3 o1 o2 hw n2 n3 n4 jf
     refine goB ?_
     refine jx (jb jg rfl hnew) rfl ?_
     rintro _ _ ⟨bp, M1, rfl, hp1, rfl⟩
     refine goB ?_
     refine jx (jb jg rfl (abq (Aq.wantOf c z.pol))) rfl ?_
     intro u0 M0 hu0
     rcases hu0 with ⟨_, _, bb, X0, rfl, hX0, rfl⟩ | ⟨hbad, _⟩
     rotate_left
     · omega
     refine goB ?_
     have hpx : JY z.pol (Cn.liesP c + 1) = JY z.pol (Aq.wantOf c z.pol) := by
      unfold JY Aq.wantOf
      by_cases e : z.pol = 3
      · rw [if_neg jf, if_neg jf]
      · rw [if_neg e]
     rw [hpx]
     obtain ⟨a0, ha0⟩ : ∃ w, w = Aq.new0 q z l c now := ⟨_, rfl⟩
     obtain ⟨pm, hpm⟩ : ∃ w, w = Hg.mk ow (Aq.wantOf c z.pol) c.hdg c.wai c.tri now := ⟨_, rfl⟩
     rw [← hpm] at hp1
     have hqok : QOk q := ⟨hq1, hq2, hq3, hname⟩
     have hw0 : AWell a0 := by rw [ha0]; exact qC hin hqok
     have hp0 : a0.p = (Hg.begin' pm).1 := by rw [ha0, hpm, how]; rfl
     have hn1 : Aq.new1 q z l c now = Aq.look a0 (dd (Hg.begin' pm).2 []) := by rw [ha0, hpm, how]; rfl
     have ho0 : a0.over = false := by rw [ha0]; rfl
     have hb0 : PBox bb a0.want a0.l X0 := by rw [ha0]; exact hX0
     refine ju (jo rfl (Wx _ _ _ _ _ _ _ _ _ _)) rfl ?_
     refine jP (kE rfl) rfl ?_
     intro ap
     refine goB ?_
     refine kU (L' := (ap, Obj.cells (jh a0 bp bb) 102 (0, 0)) :: (X0 ++ (M1 ++ (B ++ ((b11, Obj.cells #[.slice none 0 0, .slice none 0 0, .bool false, .bool false, .int .u8 0, .slice none 0 0, .slice none 0 0, .int .u32 0, .slice none 0 0, .slice none 0 0] 43 (0, 0)) :: (bc, Obj.cells (ji c vz).toArray 30 (0, 0)) :: (bz, Obj.cells #[.string (bs z.name), .int .u8 (z.pol : Nat), .int .u16 (z.tru : Nat)] 26 (0, 0)) :: (bq, Obj.cells (kQ q) 24 (0, 0)) :: L))))) (fun w h => by rw [ha0]; exact h) ?_
     refine jy (L' := M1 ++ ((ap, Obj.cells (jh a0 bp bb) 102 (0, 0)) :: (X0 ++ (B ++ ((b11, Obj.cells #[.slice none 0 0, .slice none 0 0, .bool false, .bool false, .int .u8 0, .slice none 0 0, .slice none 0 0, .int .u32 0, .slice none 0 0, .slice none 0 0] 43 (0, 0)) :: (bc, Obj.cells (ji c vz).toArray 30 (0, 0)) :: (bz, Obj.cells #[.string (bs z.name), .int .u8 (z.pol : Nat), .int .u16 (z.tru : Nat)] 26 (0, 0)) :: (bq, Obj.cells (kQ q) 24 (0, 0)) :: L))))) ?_ jl
     refine jx (jb jg rfl (aav hp1 (by rw [hpm]; rfl) (by rw [hpm]; rfl) (by rw [hpm]; rfl))) rfl ?_
     rintro _ _ ⟨sa, sc, SB, M2, rfl, hRs, hp2, rfl⟩
     rw [← hp0] at hp2
     have hsl : (Hg.begin' pm).2.length ≤ 100 := by
      unfold Hg.begin'
      split
      · simp
      · rw [(qn _ _).2.2.2]
        have : pm.list.length ≤ 9 := by rw [hpm]; simpa [Hg.mk] using o3
        exact Nat.le_trans (Nat.min_le_right _ _) (Nat.le_trans (Nat.sub_le _ _) (Nat.le_trans this (by decide)))
     repeat (first | refine goB ?_ | (refine j5 ?_; intro bNew) | refine ju (jo rfl (zP _ _ _)) rfl ?_)
     obtain ⟨b23, hb23⟩ : ∃ b, bNew = b := ⟨_, rfl⟩
     rw [hb23]
     clear hb23
     refine kU (L' := (b23, Obj.cells (kl (.slice sa (Hg.begin' pm).2.length sc) (.slice none 0 0)) 43 (0, 0)) :: (M2 ++ (SB ++ ((ap, Obj.cells (jh a0 bp bb) 102 (0, 0)) :: (X0 ++ (B ++ ((b11, Obj.cells #[.slice none 0 0, .slice none 0 0, .bool false, .bool false, .int .u8 0, .slice none 0 0, .slice none 0 0, .int .u32 0, .slice none 0 0, .slice none 0 0] 43 (0, 0)) :: (bc, Obj.cells (ji c vz).toArray 30 (0, 0)) :: (bz, Obj.cells #[.string (bs z.name), .int .u8 (z.pol : Nat), .int .u16 (z.tru : Nat)] 26 (0, 0)) :: (bq, Obj.cells (kQ q) 24 (0, 0)) :: L))))))) (fun w h => h) ?_
     refine jy (L' := (ap, Obj.cells (jh a0 bp bb) 102 (0, 0)) :: (b23, Obj.cells (kl (.slice sa (Hg.begin' pm).2.length sc) (.slice none 0 0)) 43 (0, 0)) :: (M2 ++ (X0 ++ (SB ++ (B ++ ((b11, Obj.cells #[.slice none 0 0, .slice none 0 0, .bool false, .bool false, .int .u8 0, .slice none 0 0, .slice none 0 0, .int .u32 0, .slice none 0 0, .slice none 0 0] 43 (0, 0)) :: (bc, Obj.cells (ji c vz).toArray 30 (0, 0)) :: (bz, Obj.cells #[.string (bs z.name), .int .u8 (z.pol : Nat), .int .u16 (z.tru : Nat)] 26 (0, 0)) :: (bq, Obj.cells (kQ q) 24 (0, 0)) :: L)))))) ?_ jl
     refine jx (jb jg rfl (um (Ng := []) (g := []) hp2 hb0 hw0 ho0 hsl hRs jC (by simp))) rfl ?_
     rintro _ _ ⟨cs, M4, N, hp4, hdd, rfl⟩
     rw [hn1]
     obtain ⟨r, hr⟩ : ∃ r, r = Aq.look a0 (dd (Hg.begin' pm).2 []) := ⟨_, rfl⟩
     have hkk := jT (d := dd (Hg.begin' pm).2 []) hw0.ok
     rw [← hr] at hp4 hdd hkk ⊢
     have hb5 : PBox bb r.1.want r.1.l X0 := by rw [hkk.2.2.1, hkk.2.2.2.2.1]; exact hb0
     have hd' := hdd
     obtain ⟨d1, d2, d3, d4, d5, d6, d7, d8, d9, d10, d11, d12, rfl, _⟩ := hd'
     have hKd : ∀ y ∈ [(b23, Obj.cells ([.slice d1 r.2.sends.length d2, .slice d3 r.2.gone.length d4, .bool r.2.over, .bool r.2.done, .int .u8 r.2.vd.code, .slice d5 r.2.vd.sets.length d6, .slice d7 r.2.vd.soa.length d8, .int .u32 r.2.time, .slice d9 r.2.agree.length d10, .slice d11 r.2.dissent.length d12] : List Value).toArray 43 (0, 0))], y ∈ (ap, Obj.cells (jh r.1 bp bb) 102 (0, 0)) :: (b23, Obj.cells ([.slice d1 r.2.sends.length d2, .slice d3 r.2.gone.length d4, .bool r.2.over, .bool r.2.done, .int .u8 r.2.vd.code, .slice d5 r.2.vd.sets.length d6, .slice d7 r.2.vd.soa.length d8, .int .u32 r.2.time, .slice d9 r.2.agree.length d10, .slice d11 r.2.dissent.length d12] : List Value).toArray 43 (0, 0)) :: (M4 ++ (X0 ++ (N ++ (B ++ ((b11, Obj.cells #[.slice none 0 0, .slice none 0 0, .bool false, .bool false, .int .u8 0, .slice none 0 0, .slice none 0 0, .int .u32 0, .slice none 0 0, .slice none 0 0] 43 (0, 0)) :: (bc, Obj.cells (ji c vz).toArray 30 (0, 0)) :: (bz, Obj.cells #[.string (bs z.name), .int .u8 (z.pol : Nat), .int .u16 (z.tru : Nat)] 26 (0, 0)) :: (bq, Obj.cells (kQ q) 24 (0, 0)) :: L))))) := fun y hy => by rw [List.mem_singleton.1 hy]; simp
     refine goB ?_
     refine jw jc ([(b23, Obj.cells ([.slice d1 r.2.sends.length d2, .slice d3 r.2.gone.length d4, .bool r.2.over, .bool r.2.done, .int .u8 r.2.vd.code, .slice d5 r.2.vd.sets.length d6, .slice d7 r.2.vd.soa.length d8, .int .u32 r.2.time, .slice d9 r.2.agree.length d10, .slice d11 r.2.dissent.length d12] : List Value).toArray 43 (0, 0))]) [] ?_
     refine tkQ 0 ?_
     refine tkQ 1 ?_
     refine tkQ 2 ?_
     refine kP (L' := (b11, Obj.cells #[.slice none 0 0, .slice none 0 0, .bool false, .bool false, .int .u8 0, .slice none 0 0, .slice none 0 0, .int .u32 0, .slice none 0 0, .slice none 0 0] 43 (0, 0)) :: (b23, Obj.cells ([.slice d1 r.2.sends.length d2, .slice d3 r.2.gone.length d4, .bool r.2.over, .bool r.2.done, .int .u8 r.2.vd.code, .slice d5 r.2.vd.sets.length d6, .slice d7 r.2.vd.soa.length d8, .int .u32 r.2.time, .slice d9 r.2.agree.length d10, .slice d11 r.2.dissent.length d12] : List Value).toArray 43 (0, 0)) :: (ap, Obj.cells (jh r.1 bp bb) 102 (0, 0)) :: (M4 ++ (X0 ++ (N ++ (B ++ ((bc, Obj.cells (ji c vz).toArray 30 (0, 0)) :: (bz, Obj.cells #[.string (bs z.name), .int .u8 (z.pol : Nat), .int .u16 (z.tru : Nat)] 26 (0, 0)) :: (bq, Obj.cells (kQ q) 24 (0, 0)) :: L)))))) ?_ jl; refine kf 3 jg rfl rfl rfl (qW rfl rfl stO rfl rfl rfl) ?_; rintro _ _ ⟨_, rfl⟩; refine ⟨Or.inr (fun y hy => by rw [List.mem_singleton.1 hy]; simp), ?_⟩
     refine tkQ 4 ?_
     refine tdQ ?_
     refine goB ?_
     refine kX 10 11 43 12 rfl rfl rfl rfl stO (List.mem_cons_self ..) rfl (L' := ((ap, Obj.cells (jh r.1 bp bb) 102 (0, 0)) :: (M4 ++ X0)) ++ (N ++ L)) (fun w h => h.cnt jl) ?_
     exact Or.inl ⟨rfl, ap, _, _, N, rfl, by simpa using hdd, ⟨bp, bb, M4, X0, hp4, hb5, rfl⟩, rfl⟩
end Go.Proofs.YtbjkkoacclfejaaGreat
namespace Go.Proofs.YtbjkkoacclfejaaGreat
open Go.RowKit
open Hg (En Pl)
open Vd (RSet Vdt Vote Rec Quest Piece Ballot)
variable {G : World} {L : ja}
theorem Y4 (ca cb : List Value) (a b : Vdt) (ha : vdR L ca a) (hb : vdR L cb b) : Spec Tryz.prog G 55 #[.agg ca.toArray, .agg cb.toArray] L fun u M => u = .bool (decide (a = b)) ∧ M = L := by
 obtain ⟨a1, a2, rfl, ha1, ha2, _⟩ := ha
 obtain ⟨b1, b2, rfl, hb1, hb2, _⟩ := hb
 refine jm (n := 24) Tryz.func55 rfl rfl rfl ?_
 by_cases n1 : a.code = b.code
 rotate_left
 · rw [decide_eq_false (fun e => n1 (by rw [e]))]
   repeat (first | refine goA ?_ | (refine kK ?_; intro bBox))
   refine jH (L' := L) ?_ jl
   refine je 4 _ rfl rfl ?_
   exact ⟨rfl, rfl⟩
 repeat (first | refine goA ?_ | (refine kK ?_; intro bBox))
 refine jZ (jb jg rfl (J7 _ _ a.sets b.sets (jn jq _ _ _ _ jt ha1) (jn jq _ _ _ _ jt hb1))) rfl ?_
 by_cases n2 : a.sets = b.sets
 rotate_left
 · rw [decide_eq_false n2, decide_eq_false (fun e => n2 (by rw [e]))]
   refine goA ?_
   refine jH (L' := L) ?_ jl
   refine je 4 _ rfl rfl ?_
   exact ⟨rfl, rfl⟩
 rw [decide_eq_true n2]
 refine goA ?_
 refine jZ (jb jg rfl (J7 _ _ a.soa b.soa (jn jq _ _ _ _ jt ha2) (jn jq _ _ _ _ jt hb2))) rfl ?_
 have e : decide (a = b) = decide (a.soa = b.soa) := by congr 1; rw [aaX]; simp [n1, n2]
 rw [e]
 refine goA ?_
 refine jH (L' := L) ?_ jl
 refine je 4 _ rfl rfl ?_
 exact ⟨rfl, rfl⟩
structure DFew (d : Dd) : Prop where
 sends : d.sends.length ≤ 1000000
 gone : d.gone.length ≤ 1000000
 agree : d.agree.length ≤ 1000000
 dissent : d.dissent.length ≤ 1000000
theorem Y5 (ca cb : List Value) (a b : Dd) (ha : yZ L ca a) (hb : yZ L cb b) (hf : DFew a) : Spec Tryz.prog G 44 #[.agg ca.toArray, .agg cb.toArray] L fun u M => u = .bool (decide (a = b)) ∧ M = L := by
 obtain ⟨y1, k1, y2, k2, y3, k3, y4, k4, y5, k5, y6, k6, rfl, ha1, ha2, ha3, ha4, ha5⟩ := ha
 obtain ⟨z1, w1, z2, w2, z3, w3, z4, w4, z5, w5, z6, w6, rfl, hb1, hb2, hb3, hb4, hb5⟩ := hb
 have q4 : ∀ j v, ([.int .u8 a.vd.code, .slice y3 a.vd.sets.length k3, .slice y4 a.vd.soa.length k4] : List Value)[j]? = some v → ([.slice y1 a.sends.length k1, .slice y2 a.gone.length k2, .bool a.over, .bool a.done, .int .u8 a.vd.code, .slice y3 a.vd.sets.length k3, .slice y4 a.vd.soa.length k4, .int .u32 a.time, .slice y5 a.agree.length k5, .slice y6 a.dissent.length k6] : List Value).toArray[0 + 4 + j]? = some v := fun j v hj => by
  match j, hj with
  | 0, hj => exact hj
  | 1, hj => exact hj
  | 2, hj => exact hj
 have r4 : ∀ j v, ([.int .u8 b.vd.code, .slice z3 b.vd.sets.length w3, .slice z4 b.vd.soa.length w4] : List Value)[j]? = some v → ([.slice z1 b.sends.length w1, .slice z2 b.gone.length w2, .bool b.over, .bool b.done, .int .u8 b.vd.code, .slice z3 b.vd.sets.length w3, .slice z4 b.vd.soa.length w4, .int .u32 b.time, .slice z5 b.agree.length w5, .slice z6 b.dissent.length w6] : List Value).toArray[0 + 4 + j]? = some v := fun j v hj => by
  match j, hj with
  | 0, hj => exact hj
  | 1, hj => exact hj
  | 2, hj => exact hj
 refine jm (n := 59) Tryz.func44 rfl rfl rfl ?_
 by_cases n1 : a.over = b.over
 rotate_left
 · have en1 : (a.over == b.over) = false := beq_false_of_ne n1
   rw [decide_eq_false (fun e => n1 (by rw [e]))]
   repeat (first | refine goA ?_ | (refine kK ?_; intro bBox))
   refine jH (L' := L) ?_ jl
   refine je 4 _ rfl rfl ?_
   exact ⟨rfl, rfl⟩
 have en1 : (a.over == b.over) = true := beq_iff_eq.2 n1
 by_cases n2 : a.done = b.done
 rotate_left
 · have en2 : (a.done == b.done) = false := beq_false_of_ne n2
   rw [decide_eq_false (fun e => n2 (by rw [e]))]
   repeat (first | refine goA ?_ | (refine kK ?_; intro bBox))
   refine jH (L' := L) ?_ jl
   refine je 4 _ rfl rfl ?_
   exact ⟨rfl, rfl⟩
 have en2 : (a.done == b.done) = true := beq_iff_eq.2 n2
 by_cases n3 : a.time = b.time
 rotate_left
 · rw [decide_eq_false (fun e => n3 (by rw [e]))]
   repeat (first | refine goA ?_ | (refine kK ?_; intro bBox))
   refine jH (L' := L) ?_ jl
   refine je 4 _ rfl rfl ?_
   exact ⟨rfl, rfl⟩
 repeat (first | refine goA ?_ | (refine kK ?_; intro bBox))
 refine jZ (jb jg rfl (Ql _ _ a.sends b.sends (ha1.mono jt) (hb1.mono jt) hf.sends)) rfl ?_
 by_cases n4 : a.sends = b.sends
 rotate_left
 · rw [beq_false_of_ne n4, decide_eq_false (fun e => n4 (by rw [e]))]
   refine goA ?_
   refine jH (L' := L) ?_ jl
   refine je 4 _ rfl rfl ?_
   exact ⟨rfl, rfl⟩
 rw [beq_iff_eq.2 n4]
 refine goA ?_
 refine jZ (jb jg rfl (Ql _ _ a.gone b.gone (ha2.mono jt) (hb2.mono jt) hf.gone)) rfl ?_
 by_cases n5 : a.gone = b.gone
 rotate_left
 · rw [beq_false_of_ne n5, decide_eq_false (fun e => n5 (by rw [e]))]
   refine goA ?_
   refine jH (L' := L) ?_ jl
   refine je 4 _ rfl rfl ?_
   exact ⟨rfl, rfl⟩
 rw [beq_iff_eq.2 n5]
 refine goA ?_
 refine jZ (jb jg rfl (Ql _ _ a.agree b.agree (ha4.mono jt) (hb4.mono jt) hf.agree)) rfl ?_
 by_cases n6 : a.agree = b.agree
 rotate_left
 · rw [beq_false_of_ne n6, decide_eq_false (fun e => n6 (by rw [e]))]
   refine goA ?_
   refine jH (L' := L) ?_ jl
   refine je 4 _ rfl rfl ?_
   exact ⟨rfl, rfl⟩
 rw [beq_iff_eq.2 n6]
 refine goA ?_
 refine jZ (jb jg rfl (Ql _ _ a.dissent b.dissent (ha5.mono jt) (hb5.mono jt) hf.dissent)) rfl ?_
 by_cases n7 : a.dissent = b.dissent
 rotate_left
 · rw [beq_false_of_ne n7, decide_eq_false (fun e => n7 (by rw [e]))]
   refine goA ?_
   refine jH (L' := L) ?_ jl
   refine je 4 _ rfl rfl ?_
   exact ⟨rfl, rfl⟩
 rw [beq_iff_eq.2 n7]
 refine goA ?_
 refine jA (jD [.int .u8 a.vd.code, .slice y3 a.vd.sets.length k3, .slice y4 a.vd.soa.length k4] rfl stL (List.mem_cons_of_mem _ (List.mem_cons_self ..)) q4) rfl ?_
 refine goA ?_
 refine jA (jD [.int .u8 b.vd.code, .slice z3 b.vd.sets.length w3, .slice z4 b.vd.soa.length w4] rfl stL (List.mem_cons_self ..) r4) rfl ?_
 repeat (refine ky rfl rfl ?_ ?_; (· with_reducible rfl))
 refine jZ (jb jg rfl (Y4 _ _ a.vd b.vd (ko _ _ _ _ jt ha3) (ko _ _ _ _ jt hb3))) rfl ?_
 have e : decide (a = b) = decide (a.vd = b.vd) := by
  congr 1
  obtain ⟨s1, s2, s3, s4, s5, s6, s7, s8⟩ := a
  obtain ⟨t1, t2, t3, t4, t5, t6, t7, t8⟩ := b
  dsimp only at n1 n2 n3 n4 n5 n6 n7
  subst n1 n2 n3 n4 n5 n6 n7
  simp
 rw [e]
 refine goA ?_
 refine jH (L' := L) ?_ jl
 refine je 4 _ rfl rfl ?_
 exact ⟨rfl, rfl⟩
theorem qy (ca cb : List Value) (a b : Dd) (ha : yZ L ca a) (hb : yZ L cb b) (hf : DFew a) : Spec Tryz.prog G 12 #[.agg ca.toArray, .agg cb.toArray] L fun u M => u = .bool (decide (a = b)) ∧ M = L := by
 have h1 := (yI ha)
 have h2 := (yI hb)
 refine jm (n := 8) Tryz.func12 rfl rfl rfl ?_
 repeat (first | refine goA ?_ | (refine kK ?_; intro bBox))
 refine ju (yp rfl stO (List.mem_cons_of_mem _ (List.mem_cons_self ..)) h1.2) rfl ?_
 refine ju (yp rfl stO (List.mem_cons_self ..) h2.2) rfl ?_
 skip
 refine jX (jb jg rfl (Y5 ca cb a b (j9 _ _ _ _ jt ha) (j9 _ _ _ _ jt hb) hf)) rfl ?_
 refine goA ?_
 refine jH (L' := L) ?_ jl
 refine je 4 _ rfl rfl ?_
 exact ⟨rfl, rfl⟩
theorem aeO (v : Value) (l : List Int) (x : Int) (hl : IRow L v l) (hn : l.length ≤ 1000000) : Spec Tryz.prog G 13 #[v, .int .i64 x] L fun u M => u = .bool (l.contains x) ∧ M = L := by
 obtain ⟨a, c, rfl, hl⟩ := hl
 refine jm (n := 18) Tryz.func13 rfl rfl rfl ?_
 refine goA ?_
 refine jB (σ := Nat) (fun k => k ≤ l.length ∧ (l.take k).contains x = false) (fun k => [(0, .slice a l.length c), (1, .int .i64 x), (5, .int .i64 (k : Nat))]) (fun _ => L) (fun k => l.length - k) 0 ⟨Nat.zero_le _, by simp⟩ ?_ (fun w h => h) ?_
 exact jv
 rintro k ⟨hk, hno⟩
 by_cases hlt : k < l.length
 · obtain ⟨y, hy⟩ : ∃ y, l[k]? = some y := ⟨_, List.getElem?_eq_getElem hlt⟩
   rcases hl with rfl | ⟨b1, o1, C1, t1, f1, rfl, m1, q1⟩
   · simp at hlt
   have c1 := q1 k y hy
   by_cases e : y = x
   · have hc : l.contains x = true := by rw [List.contains_iff_mem]; exact e ▸ List.mem_of_getElem? hy
     rw [hc]
     refine goA ?_
     refine je 4 _ rfl rfl ?_
     exact ⟨rfl, rfl⟩
   · refine goA ?_
     refine jk (k + 1) ⟨hlt, ?_⟩ ?_ (fun w h => h) jf
     · rw [List.take_add_one, hy]
       simp only [Option.toList_some, List.contains_append, hno, Bool.false_or]
       simpa using fun h => e h.symm
     exact jv
 · rw [List.take_of_length_le jf] at hno
   rw [hno]
   refine goA ?_
   refine je 4 _ rfl rfl ?_
   exact ⟨rfl, rfl⟩
end Go.Proofs.YtbjkkoacclfejaaGreat
namespace Go.Proofs.YtbjkkoacclfejaaGreat
open Hg (En Pl)
open Vd (RSet Vdt Vote Rec Quest Piece Ballot)
theorem zG (l : List Int) : (kN l).length ≤ 9 * l.length := by
 have h : ∀ (ns : List Nat), (ns.flatMap fun (n : Nat) => l.filter fun x => x == (n : Int)).length ≤ ns.length * l.length := fun ns => by
  induction ns with
  | nil => simp
  | cons n ns ih =>
    rw [List.flatMap_cons, List.length_append, List.length_cons, Nat.succ_mul]
    have := List.length_filter_le (fun x => x == (n : Int)) l
    omega
 have := h (List.range 9)
 rw [List.length_range] at this
 exact this
theorem Y6 (want : Int) (vs : List Vote) : (qr want vs).2.2.1.length ≤ 9 * vs.length := by
 unfold qr
 split
 · simp
 · split
   · refine Nat.le_trans (zG _) (Nat.mul_le_mul_left _ ?_)
     rw [List.length_map]
     unfold jM
     exact Nat.le_trans (List.length_filter_le _ _) (by rw [List.length_take]; omega)
   · simp
theorem Ut (want : Int) (vs : List Vote) : (kA want vs).length ≤ 9 * vs.length := by
 unfold kA
 split
 · refine Nat.le_trans (zG _) (Nat.mul_le_mul_left _ ?_)
   rw [List.length_map]
   exact List.length_filter_le _ _
 · simp
theorem Wy {a : As} (h : AOk a) : (Aq.votes a).length ≤ 9 := Nat.le_trans (jY a.l) h.box.len
structure DSh (d : Dd) : Prop where
 sends : d.sends.length ≤ 1000
 gone : d.gone.length ≤ 1000
 agree : d.agree.length ≤ 1000
 dissent : d.dissent.length ≤ 1000
theorem DSh.few {d : Dd} (h : DSh d) : DFew d := ⟨Nat.le_trans h.sends (by decide), Nat.le_trans h.gone (by decide), Nat.le_trans h.agree (by decide), Nat.le_trans h.dissent (by decide)⟩
theorem KB : ∀ (n : Nat) (a : As) (d : Dd), (Aq.lookL n a d).2.sends.length ≤ d.sends.length + n ∧ (Aq.lookL n a d).2.gone = d.gone ∧ (Aq.lookL n a d).2.agree = d.agree ∧ (Aq.lookL n a d).2.dissent = d.dissent
 | 0, a, d => ⟨Nat.le_refl _, rfl, rfl, rfl⟩
 | n + 1, a, d => by
   unfold Aq.lookL
   split
   · exact ⟨by dsimp only; omega, rfl, rfl, rfl⟩
   · split
     · obtain ⟨h1, h2, h3, h4⟩ := KB n { a with p := (Hg.more a.p a.now).1 } { d with sends := d.sends ++ [(Hg.more a.p a.now).2.1] }
       refine ⟨?_, h2, h3, h4⟩
       rw [List.length_append, List.length_singleton] at h1
       omega
     · exact ⟨by dsimp only; omega, rfl, rfl, rfl⟩
theorem JI {a : As} {d : Dd} (h : AOk a) (h1 : d.sends.length ≤ 500) (h2 : d.gone.length ≤ 500) (h3 : d.agree = []) (h4 : d.dissent = []) : DSh (Aq.look a d).2 := by
 have hv := Wy h
 have hl := h.good.len
 unfold Aq.look
 split
 · rename_i v t ag di hd
   have hb : ag.length ≤ 81 ∧ di.length ≤ 81 := by
    unfold Aq.decided at hd
    split at hd
    · split at hd
      · have w1 := Y6 a.want (Aq.votes a)
        have w2 := Ut a.want (Aq.votes a)
        simp only [Option.some.injEq, Prod.mk.injEq] at hd
        obtain ⟨_, _, rfl, rfl⟩ := hd
        omega
      · cases hd
    · split at hd
      · cases hd
      · split at hd
        · simp only [Option.some.injEq, Prod.mk.injEq] at hd
          obtain ⟨_, _, rfl, rfl⟩ := hd
          simp
        · split at hd
          · simp only [Option.some.injEq, Prod.mk.injEq] at hd
            obtain ⟨_, _, rfl, rfl⟩ := hd
            simp
          · cases hd
   exact ⟨by dsimp only; omega, by dsimp only; omega, by dsimp only; omega, by dsimp only; omega⟩
 · obtain ⟨k1, k2, k3, k4⟩ := KB (a.p.list.length + 1) a d
   exact ⟨by omega, by rw [k2]; omega, by rw [k3, h3]; simp, by rw [k4, h4]; simp⟩
theorem none_sh : DSh Dd.none := ⟨Nat.zero_le _, Nat.zero_le _, Nat.zero_le _, Nat.zero_le _⟩
theorem aaL {a : As} (h : AOk a) (u now : Int) : DSh (Aq.pass a u now).2 := by
 unfold Aq.pass
 split
 · exact none_sh
 · split
   · exact JI (AOk.put (a := Aq.upto { a with p := (Hg.close a.p u).1 } now) ((h.close u).upto now) ⟨⟨u, Vdt.none, 0⟩, true⟩) (Nat.zero_le _) (Nat.zero_le _) rfl rfl
   · exact none_sh
theorem Y7 {p : Pl} (h : Good p) (t : Int) : (Hg.tick p t).2.1.length ≤ 100 := by
 have h9 := h.len
 unfold Hg.tick
 split
 · simp
 · have f2 := uT (Hg.goneE (Hg.advance p t).now (Hg.advance p t).wait (Hg.advance p t).tries) (Hg.advance p t).list (fun x => by unfold Hg.goneE; split <;> simp) p.list.length
   rw [List.take_of_length_le (by simp [Hg.advance])] at f2
   dsimp only
   omega
theorem VX {a : As} (h : AOk a) (now : Int) : DSh (Aq.tick a now).2 := by
 unfold Aq.tick
 split
 · exact none_sh
 · split
   · exact ⟨Nat.zero_le _, Nat.zero_le _, Nat.zero_le _, Nat.zero_le _⟩
   · exact JI (a := { (Aq.upto a now) with p := (Hg.tick a.p (Aq.upto a now).now).1 }) ((h.upto now).tick _) (Nat.le_trans (Uq h.good _) (by decide)) (Nat.le_trans (Y7 h.good _) (by decide)) rfl rfl
theorem Wz (p : Pl) : (Hg.begin' p).2.length ≤ p.list.length := by
 unfold Hg.begin'
 split
 · simp
 · rw [(qn _ _).2.2.2]
   exact Nat.le_trans (Nat.min_le_right _ _) (Nat.sub_le _ _)
theorem abD {q : Quest} {z : Cn.Zo} {l : List Int} {c : Cn.Cf} {now : Int} (h : NewIn q z l c now) (hq : QOk q) : DSh (Aq.new1 q z l c now).2 := by
 obtain ⟨n1, _⟩ := qX h.may
 obtain ⟨_, _, o3⟩ := JH (pol := z.pol) (tru := z.tru) h.dist n1.2
 refine JI (qC h hq).ok (Nat.le_trans (Wz _) ?_) (Nat.zero_le _) rfl rfl
 simp only [Hg.mk, List.length_map]
 omega
end Go.Proofs.YtbjkkoacclfejaaGreat
namespace Go.Proofs.YtbjkkoacclfejaaGreat
open Hg (En Pl)
open Vd (RSet Vdt Vote Rec Quest Piece Ballot)
def qs (x : En) : Bool := decide (1 ≤ x.asked) && !x.op
def km (p : Pl) : List Int := p.list.map (·.up)
structure Stp (p q : Pl) (s g : List Int) : Prop where
 ups : km q = km p
 tries : q.tries = p.tries
 row : ∀ (i : Nat) (x y : En), p.list[i]? = some x → q.list[i]? = some y → y.asked = x.asked + (s.count x.up : Nat) ∧ qs y = (qs x || g.contains x.up) ∧ (x.up ∈ s → qs x = false) ∧ (x.up ∈ g → qs x = false ∧ 1 ≤ y.asked)
 inS : ∀ u ∈ s, u ∈ km p
 inG : ∀ u ∈ g, u ∈ km p
 nod : g.Nodup
theorem Stp.same {p q : Pl} (hl : q.list = p.list) (ht : q.tries = p.tries) : Stp p q [] [] :=
 ⟨by unfold km; rw [hl], ht, fun i x y hx hy => by
   rw [hl, hx] at hy
   cases hy
   exact ⟨by simp, by simp, fun h => absurd h (by simp), fun h => absurd h (by simp)⟩, fun u h => absurd h (by simp), fun u h => absurd h (by simp), List.nodup_nil⟩
theorem Stp.len {p q : Pl} {s g : List Int} (h : Stp p q s g) : q.list.length = p.list.length := by
 have := congrArg List.length h.ups
 simpa [km] using this
theorem Stp.upAt {p q : Pl} {s g : List Int} (h : Stp p q s g) {i : Nat} {x y : En} (hx : p.list[i]? = some x) (hy : q.list[i]? = some y) : y.up = x.up := by
 have h1 : (km q)[i]? = some y.up := by unfold km; rw [List.getElem?_map, hy]; rfl
 have h2 : (km p)[i]? = some x.up := by unfold km; rw [List.getElem?_map, hx]; rfl
 rw [h.ups, h2] at h1
 exact (Option.some.inj h1).symm
theorem Stp.trans {p q r : Pl} {s g t : List Int} (h : Stp p q s g) (k : Stp q r t []) : Stp p r (s ++ t) g := by
 refine ⟨k.ups.trans h.ups, k.tries.trans h.tries, fun i x z hx hz => ?_, fun u hu => ?_, h.inG, h.nod⟩
 · obtain ⟨y, hy⟩ : ∃ y, q.list[i]? = some y := ⟨_, List.getElem?_eq_getElem (by rw [h.len]; exact (List.getElem?_eq_some_iff.1 hx).1)⟩
   obtain ⟨a1, a2, a3, a4⟩ := h.row i x y hx hy
   obtain ⟨b1, b2, b3, b4⟩ := k.row i y z hy hz
   have hu := h.upAt hx hy
   rw [hu] at b1 b2 b3
   refine ⟨by rw [b1, a1, List.count_append]; omega, by rw [b2, a2]; simp, fun hm => ?_, fun hm => ⟨(a4 hm).1, by rw [b1]; have := (a4 hm).2; omega⟩⟩
   rcases List.mem_append.1 hm with hm | hm
   · exact a3 hm
   · have := b3 hm
     rw [a2] at this
     exact (Bool.or_eq_false_iff.1 this).1
 · rcases List.mem_append.1 hu with hu | hu
   · exact h.inS u hu
   · rw [← h.ups]; exact k.inS u hu
theorem JJ {f : En → List Int} (hf : ∀ x, f x = [] ∨ f x = [x.up]) : ∀ (l : List En), (l.map (·.up)).Nodup → (l.flatMap f).Nodup ∧ (∀ u ∈ l.flatMap f, u ∈ l.map (·.up)) ∧ ∀ x ∈ l, (l.flatMap f).count x.up = (f x).length
 | [], _ => ⟨List.nodup_nil, fun u h => absurd h (by simp), fun x h => absurd h (by simp)⟩
 | y :: l, hn => by
   rw [List.map_cons, List.nodup_cons] at hn
   obtain ⟨h1, h2, h3⟩ := JJ hf l hn.2
   have hy : y.up ∉ l.flatMap f := fun h => hn.1 (h2 _ h)
   rw [List.flatMap_cons]
   refine ⟨?_, fun u hu => ?_, fun x hx => ?_⟩
   · rcases hf y with e | e
     · rw [e]; exact h1
     · rw [e]; exact List.nodup_cons.2 ⟨hy, h1⟩
   · rw [List.map_cons]
     rcases List.mem_append.1 hu with hu | hu
     · rcases hf y with e | e
       · rw [e] at hu; cases hu
       · rw [e, List.mem_singleton] at hu; rw [hu]; exact List.mem_cons_self ..
     · exact List.mem_cons_of_mem _ (h2 u hu)
   · rw [List.count_append]
     rcases List.mem_cons.1 hx with rfl | hx
     · rw [List.count_eq_zero.2 hy]
       rcases hf x with e | e
       · rw [e]; rfl
       · rw [e]; simp
     · have hne : y.up ≠ x.up := fun e => hn.1 (by rw [e]; exact List.mem_map_of_mem hx)
       rw [h3 x hx]
       rcases hf y with e | e
       · rw [e]; simp
       · rw [e]; simp [hne]
theorem WA (now wait tries : Int) (x : En) : Hg.sendE now wait tries x = [] ∨ Hg.sendE now wait tries x = [x.up] := by
 unfold Hg.sendE; split <;> simp
theorem WB (now wait tries : Int) (x : En) : Hg.goneE now wait tries x = [] ∨ Hg.goneE now wait tries x = [x.up] := by
 unfold Hg.goneE; split <;> simp
theorem Stp.examine {p : Pl} (h : Good p) (hn : (km p).Nodup) : Stp p (Hg.examine p) (p.list.flatMap (Hg.sendE p.now p.wait p.tries)) (p.list.flatMap (Hg.goneE p.now p.wait p.tries)) := by
 obtain ⟨s1, s2, s3⟩ := JJ (WA p.now p.wait p.tries) p.list hn
 obtain ⟨g1, g2, g3⟩ := JJ (WB p.now p.wait p.tries) p.list hn
 have hup : ∀ x : En, (Hg.tickE p.now p.wait p.tries x).up = x.up := fun x => by
  unfold Hg.tickE
  split
  · split <;> rfl
  · rfl
 refine ⟨?_, rfl, fun i x y hx hy => ?_, s2, g2, g1⟩
 · unfold km Hg.examine
   rw [List.map_map]
   exact List.map_congr_left fun x _ => hup x
 · have hm := List.mem_of_getElem? hx
   have hy' : y = Hg.tickE p.now p.wait p.tries x := by
    simp only [Hg.examine, List.getElem?_map, hx, Option.map_some] at hy
    exact (Option.some.inj hy).symm
   have c1 := s3 x hm
   have c2 := g3 x hm
   have ht := h.tries
   have hxe := h.each x hm
   have mS : x.up ∈ p.list.flatMap (Hg.sendE p.now p.wait p.tries) ↔ (Hg.sendE p.now p.wait p.tries x).length ≠ 0 := by rw [← c1, ← List.one_le_count_iff]; omega
   have mG : x.up ∈ p.list.flatMap (Hg.goneE p.now p.wait p.tries) ↔ (Hg.goneE p.now p.wait p.tries x).length ≠ 0 := by rw [← c2, ← List.one_le_count_iff]; omega
   have cG : (p.list.flatMap (Hg.goneE p.now p.wait p.tries)).contains x.up = decide ((Hg.goneE p.now p.wait p.tries x).length ≠ 0) := by
    rw [Bool.eq_iff_iff, List.contains_iff_mem, decide_eq_true_iff]; exact mG
   rw [c1, cG, mS, mG, hy']
   unfold Hg.sendE Hg.goneE Hg.tickE
   cases hl : Hg.late p.now p.wait x with
   | false => simp
   | true =>
     have ho : x.op = true := by unfold Hg.late at hl; exact (Bool.and_eq_true_iff.1 hl).1
     by_cases hk : p.tries ≤ x.asked
     · simp [hk, qs, ho]; omega
     · simp [hk, qs, ho]
theorem Stp.next {p : Pl} (hf : Fr p) (ha : p.asked < p.list.length) (hn : (km p).Nodup) : Stp p (Hg.next p) [Hg.upAt p p.asked] [] := by
 obtain ⟨z, hz⟩ : ∃ z, p.list[p.asked]? = some z := ⟨_, List.getElem?_eq_getElem ha⟩
 have hu : Hg.upAt p p.asked = z.up := by unfold Hg.upAt; rw [hz]; rfl
 have hfr := (hf _ _ hz).2 (Nat.le_refl _)
 rw [hu]
 refine ⟨?_, rfl, fun i x y hx hy => ?_, fun u h => ?_, fun u h => absurd h (by simp), List.nodup_nil⟩
 · unfold km Hg.next
   apply List.ext_getElem?
   intro i
   simp only [List.getElem?_map, List.getElem?_modify]
   cases p.list[i]? with
   | none => rfl
   | some x => by_cases e : p.asked = i <;> simp [e, Hg.askAt]
 · simp only [Hg.next, List.getElem?_modify, hx, Option.map_eq_map, Option.map_some] at hy
   have hy := Option.some.inj hy
   by_cases e : p.asked = i
   · subst e
     rw [hz] at hx
     cases hx
     rw [if_pos rfl] at hy
     rw [← hy]
     have h0 : z.asked = 0 := by rw [hfr]; rfl
     refine ⟨by simp [Hg.askAt, h0], by simp [qs, Hg.askAt, h0], fun _ => by simp [qs, h0], fun h => absurd h (by simp)⟩
   · rw [if_neg e] at hy
     have hy : x = y := hy
     subst hy
     have hne : z.up ≠ x.up := fun he => by
      have h1 : (km p)[p.asked]? = some x.up := by unfold km; rw [List.getElem?_map, hz]; simp [he]
      have h2 : (km p)[i]? = some x.up := by unfold km; rw [List.getElem?_map, hx]; rfl
      exact e ((List.getElem?_inj (by unfold km; simpa using ha) hn).1 (h1.trans h2.symm))
     refine ⟨by simp [hne], by simp, fun h => ?_, fun h => absurd h (by simp)⟩
     exact absurd (List.mem_singleton.1 h).symm hne
 · rw [List.mem_singleton.1 h]
   exact List.mem_map_of_mem (List.mem_of_getElem? hz)
theorem Stp.hedged {p : Pl} (hf : Fr p) (hn : (km p).Nodup) : Stp p (Hg.hedged p).1 (Hg.hedged p).2 [] := by
 unfold Hg.hedged
 dsimp only
 split
 · split
   · rename_i k ha
     have h1 := Stp.next (p := { p with reached := (p.now - p.start) / p.every }) (hf.list rfl rfl) ha hn
     exact ⟨h1.ups, h1.tries, fun i x y hx hy => h1.row i x y hx hy, h1.inS, h1.inG, h1.nod⟩
   · exact Stp.same rfl rfl
 · exact Stp.same rfl rfl
theorem Stp.advance (p : Pl) (t : Int) : Stp p (Hg.advance p t) [] [] := Stp.same rfl rfl
theorem Stp.tick {p : Pl} (h : Good p) (hf : Fr p) (hn : (km p).Nodup) (t : Int) : Stp p (Hg.tick p t).1 (Hg.tick p t).2.2 (Hg.tick p t).2.1 := by
 unfold Hg.tick
 split
 · exact Stp.same rfl rfl
 · have h1 := Stp.examine (h.advance t) (by exact hn)
   have h2 := Stp.hedged (p := Hg.examine (Hg.advance p t)) (hf.advance t).examine (by rw [h1.ups]; exact hn)
   have h3 := h1.trans h2
   exact ⟨h3.ups, h3.tries, fun i x y hx hy => h3.row i x y hx hy, h3.inS, h3.inG, h3.nod⟩
theorem Stp.more {p : Pl} (hf : Fr p) (hn : (km p).Nodup) (t : Int) : Stp p (Hg.more p t).1 (if (Hg.more p t).2.2 then [(Hg.more p t).2.1] else []) [] := by
 unfold Hg.more
 split
 · exact Stp.same rfl rfl
 · dsimp only
   split
   · exact Stp.same rfl rfl
   · rename_i ha
     have h1 := Stp.next (p := Hg.advance p t) (hf.advance t) jf hn
     exact ⟨h1.ups, h1.tries, fun i x y hx hy => h1.row i x y hx hy, h1.inS, h1.inG, h1.nod⟩
theorem Stp.nexts : ∀ (k : Nat) {p : Pl}, Fr p → k ≤ p.list.length - p.asked → (km p).Nodup → Stp p (Hg.nexts k p).1 (Hg.nexts k p).2 []
 | 0, p, _, _, _ => Stp.same rfl rfl
 | k + 1, p, hf, hk, hn => by
   have h1 := Stp.next hf jf hn
   have h2 := Stp.nexts k hf.next (by rw [h1.len]; simp only [Hg.next]; omega) (by rw [h1.ups]; exact hn)
   exact h1.trans h2
theorem Stp.begin' {p : Pl} (hf : Fr p) (hn : (km p).Nodup) : Stp p (Hg.begin' p).1 (Hg.begin' p).2 [] := by
 unfold Hg.begin'
 split
 · exact Stp.same rfl rfl
 · have h1 := Stp.nexts (min p.want.toNat (p.list.length - p.asked)) (p := { p with begins := true }) (hf.list rfl rfl) (Nat.min_le_right _ _) hn
   exact ⟨h1.ups, h1.tries, fun i x y hx hy => h1.row i x y hx hy, h1.inS, h1.inG, h1.nod⟩
theorem KC : ∀ (n : Nat) (a : As) (d : Dd), Fr a.p → (km a.p).Nodup → ∃ r, (Aq.lookL n a d).2.sends = d.sends ++ r ∧ Stp a.p (Aq.lookL n a d).1.p r [] ∧ (Aq.lookL n a d).2.gone = d.gone ∧ (Aq.lookL n a d).2.done = d.done ∧ ((Aq.lookL n a d).1.over = a.over ∧ (Aq.lookL n a d).2.over = d.over ∨ (Aq.lookL n a d).1.over = true ∧ (Aq.lookL n a d).2.over = true)
 | 0, a, d, _, _ => ⟨[], by simp [Aq.lookL], Stp.same rfl rfl, rfl, rfl, Or.inl ⟨rfl, rfl⟩⟩
 | n + 1, a, d, hf, hn => by
   have hm := Stp.more hf hn a.now
   unfold Aq.lookL
   split
   · exact ⟨[], by simp, Stp.same rfl rfl, rfl, rfl, Or.inl ⟨rfl, rfl⟩⟩
   · split
     · rename_i hb
       rw [if_pos hb] at hm
       obtain ⟨r, h1, h2, h3, h4, h5⟩ := KC n { a with p := (Hg.more a.p a.now).1 } { d with sends := d.sends ++ [(Hg.more a.p a.now).2.1] } (hf.more a.now) (by rw [hm.ups]; exact hn)
       exact ⟨(Hg.more a.p a.now).2.1 :: r, by rw [h1]; simp, hm.trans h2, h3, h4, h5⟩
     · rename_i hb
       rw [if_neg hb] at hm
       exact ⟨[], by simp, hm, rfl, rfl, Or.inr ⟨rfl, rfl⟩⟩
theorem JK (a : As) (d : Dd) (hf : Fr a.p) (hn : (km a.p).Nodup) (ha : a.over = false) (hd : d.over = false) (hdn : d.done = false) :
 ∃ r, (Aq.look a d).2.sends = d.sends ++ r ∧ Stp a.p (Aq.look a d).1.p r [] ∧ (Aq.look a d).2.gone = d.gone ∧ (Aq.look a d).1.over = (Aq.look a d).2.over ∧ ((Aq.look a d).2.over || !(Aq.look a d).2.done) = true := by
 unfold Aq.look
 split
 · exact ⟨[], by simp, Stp.same rfl rfl, rfl, rfl, rfl⟩
 · obtain ⟨r, h1, h2, h3, h4, h5⟩ := KC (a.p.list.length + 1) a d hf hn
   refine ⟨r, h1, h2, h3, ?_, by rw [h4, hdn]; simp⟩
   rcases h5 with ⟨e1, e2⟩ | ⟨e1, e2⟩
   · rw [e1, e2, ha, hd]
   · rw [e1, e2]
end Go.Proofs.YtbjkkoacclfejaaGreat
