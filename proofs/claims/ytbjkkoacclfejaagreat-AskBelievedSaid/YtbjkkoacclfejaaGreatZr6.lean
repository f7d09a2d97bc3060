/-
 Part 6: Qf Qg Gx Qh Ks Eb Hm Hw Hx Hy Hz Hc Hd He Hf Hg Ea Ca Cb Ee.
-/
import Derived.Test.YtbjkkoacclfejaaGreatZr5
import Derived.Test.YtbjkkoacclfejaaGreatZr1
import Derived.Test.YtbjkkoacclfejaaGreatZr2
import Derived.Lib.ItoaNum
set_option maxRecDepth 100000
set_option maxHeartbeats 4000000
set_option linter.unusedVariables false
set_option linter.unusedSimpArgs false
namespace Go.Proofs.YtbjkkoacclfejaaGreat
open Go.RowKit
open Vd (RSet Vdt Vote Rec Quest Piece Ballot Said)
theorem yW (q : Quest) : ∀ (l : List Vote) (d : List Vd.Bytes), Vd.endsPut q l d = (jS q l).foldl Vd.put d
 | [], d => rfl
 | x :: l, d => by
   have ih := yW q l
   have h1 : Vd.endsPut q (x :: l) d = Vd.endsPut q l (if (Vd.endV q x.vd).2 then (Vd.endV q x.vd).1.data.foldl Vd.put d else d) := rfl
   have h2 : jS q (x :: l) = qH q x ++ jS q l := by simp [jS]
   rw [h1, h2, ih, List.foldl_append]
   unfold qH
   split <;> rfl
theorem Z9 (q : Quest) (l : List Vote) (h : ∀ x ∈ l, (Vd.endV q x.vd).2 = true → (Vd.endV q x.vd).1.data ≠ []) : Vd.endsPut q l [] = [] ↔ qe q l = false := by
 rw [yW]
 have hm := (Vd.foldPut_rising (jS q l) (l := []) List.Pairwise.nil).2
 constructor
 · intro he
   cases hs : qe q l with
   | false => rfl
   | true =>
     obtain ⟨x, hx, hx2⟩ := List.any_eq_true.1 hs
     obtain ⟨d, hd⟩ := List.exists_mem_of_ne_nil _ (h x hx hx2)
     have : d ∈ (jS q l).foldl Vd.put [] := (hm d).2 (Or.inr (List.mem_flatMap.2 ⟨x, hx, by unfold qH; rw [if_pos hx2]; exact hd⟩))
     rw [he] at this
     simp at this
 · intro hs
   have h0 : jS q l = [] := by
    refine List.flatMap_eq_nil_iff.2 fun x hx => ?_
    unfold qH
    rw [if_neg]
    intro hx2
    have : qe q l = true := List.any_eq_true.2 ⟨x, hx, hx2⟩
    rw [hs] at this
    cases this
   rw [h0]
   rfl
theorem QP (q : Quest) (l : List Vote) (h : ∀ x ∈ l, (Vd.endV q x.vd).2 = true → (Vd.endV q x.vd).1.data ≠ []) : zL q l = Vd.union q l := by
 cases l with
 | nil => rfl
 | cons w r =>
   have he := Z9 q (w :: r) h
   unfold zL Vd.union
   dsimp only
   split
   · rfl
   · rw [Vd.compact_put, ← yW]
     by_cases h0 : Vd.endsPut q (w :: r) [] = []
     · rw [he.1 h0, Bool.and_false, if_neg (by simp), if_pos (by simp [h0])]
       rfl
     · have hs : qe q (w :: r) = true := by
        cases hs : qe q (w :: r) with
        | true => rfl
        | false => exact absurd (he.2 hs) h0
       rw [hs, Bool.and_true]
       cases ha : Vd.alikeV (w :: r) w.vd with
       | true => rw [if_neg (by simp), if_pos (by simp)]; rfl
       | false => rw [if_pos (by simp), if_neg (by simp [h0])]
end Go.Proofs.YtbjkkoacclfejaaGreat
namespace Go.Proofs.YtbjkkoacclfejaaGreat
open Go.RowKit
open Vd (RSet Vdt Vote Rec Quest Piece Ballot Said)
def abH (p : RSet → Prop) (v : Vdt) : Prop := (∀ s ∈ v.sets, p s) ∧ ∀ s ∈ v.soa, p s
theorem WN (q : Quest) (m : Vd.Msg) (p : RSet → Prop) (hp : ∀ s, p s → p (Vd.bare s)) (h1 : ∀ s ∈ Vd.group m.answers, p s) (h2 : ∀ s ∈ Vd.group m.auth, p s) : abH p (Vd.ofM q m).1 := by
 have hnone : abH p Vdt.none := ⟨by simp [Vdt.none], by simp [Vdt.none]⟩
 obtain ⟨f1, f2, _, _, _⟩ := UA q (Vd.group m.answers)
 unfold Vd.ofM
 split
 · exact hnone
 · revert f1 f2
   generalize Vd.follow q (Vd.group m.answers) = t
   obtain ⟨l, pos, last, e⟩ := t
   intro f1 f2
   dsimp only at f1 f2 ⊢
   have hall : ∀ s ∈ (l ++ last).map Vd.bare, p s := fun s hs => by
    obtain ⟨t, ht, rfl⟩ := List.mem_map.1 hs
    rcases List.mem_append.1 ht with ht | ht
    · exact hp t (h1 t (f1 t ht))
    · exact hp t (h1 t (f2 t ht))
   split
   · exact hnone
   split
   · exact hnone
   split
   · exact ⟨hall, by simp⟩
   have hf := QA (l := Vd.group m.auth) (n := pos) (c := q.cls)
   revert hf
   generalize Vd.findSoa (Vd.group m.auth) pos q.cls = r
   obtain ⟨s, is, e2⟩ := r
   intro hf
   dsimp only at hf ⊢
   split
   · exact hnone
   split
   · exact ⟨hall, by simp⟩
   · rename_i hi
     refine ⟨hall, fun t ht => ?_⟩
     rw [List.mem_singleton.1 ht]
     exact hp s (h2 s (hf (by simpa using hi)))
end Go.Proofs.YtbjkkoacclfejaaGreat
namespace Go.Proofs.YtbjkkoacclfejaaGreat
open Go.RowKit
open Vd (RSet Vdt Vote Rec Quest Piece Ballot Said)
variable {G : World} {L : ja}
def MsgSmall (m : Vd.Msg) : Prop := (m.answers.length ≤ 420 ∧ ∀ x ∈ m.answers, x.name.length ≤ 5000 ∧ x.data.length ≤ 5000) ∧ (m.auth.length ≤ 420 ∧ ∀ x ∈ m.auth, x.name.length ≤ 5000 ∧ x.data.length ≤ 5000)
end Go.Proofs.YtbjkkoacclfejaaGreat
namespace Go.Proofs.YtbjkkoacclfejaaGreat
open Go.RowKit
open Vd (RSet Vdt Vote Rec Quest Piece Ballot Said)
structure BalOk (p : Vote → Prop) (l : List Ballot) : Prop where
 nd : (l.map fun b => b.v.up).Nodup
 ok : ∀ b ∈ l, b.pass = false ∧ (0 ≤ b.v.up ∧ b.v.up < 9) ∧ p b.v
theorem abI (l : List Ballot) (u : Int) : Vd.hasB l u = true ↔ u ∈ l.map fun b => b.v.up := by
 unfold Vd.hasB
 rw [List.any_eq_true, List.mem_map]
 simp only [beq_iff_eq]
theorem BalOk.put {p : Vote → Prop} {l : List Ballot} (h : BalOk p l) {x : Vote} (hx : p x) : BalOk p (Vd.putB l ⟨x, false⟩).1 := by
 unfold Vd.putB
 split
 · exact h
 split
 · exact h
 · rename_i h1 h2
   refine ⟨?_, fun b hb => ?_⟩
   · rw [List.map_append]
     refine List.nodup_append.2 ⟨h.nd, by simp, fun a ha b hb => ?_⟩
     rw [List.map_singleton, List.mem_singleton] at hb
     intro e
     refine h2 ((abI _ _).2 ?_)
     dsimp only at hb ⊢
     rw [← hb, ← e]
     exact ha
   · rcases List.mem_append.1 hb with hb | hb
     · exact h.ok b hb
     · rw [List.mem_singleton.1 hb]
       dsimp only at h1 ⊢
       exact ⟨rfl, by omega, hx⟩
theorem BalOk.cast {p : Vote → Prop} {q : Quest} {l : List Ballot} (h : BalOk p l) {s : Said} (hs : p ⟨s.up, (Vd.ofM q s.m).1, s.time⟩) : BalOk p (Vd.castSaid q l s) := by
 unfold Vd.castSaid
 split
 · exact h.put hs
 · exact h
theorem BalOk.all {p : Vote → Prop} {q : Quest} : ∀ (l : List Said) {b : List Ballot}, BalOk p b → (∀ s ∈ l, p ⟨s.up, (Vd.ofM q s.m).1, s.time⟩) → BalOk p (l.foldl (Vd.castSaid q) b)
 | [], b, h, _ => h
 | s :: l, b, h, hl => BalOk.all l (h.cast (hl s (List.mem_cons_self ..))) fun t ht => hl t (List.mem_cons_of_mem _ ht)
theorem BalOk.votes {p : Vote → Prop} {l : List Ballot} (h : BalOk p l) : Vd.votesB l = l.map (·.v) := by
 unfold Vd.votesB
 rw [List.filter_eq_self.2 fun b hb => by rw [(h.ok b hb).1]; rfl]
def abJ (s : RSet) : Prop := s.name.length ≤ 255 ∧ s.data.length ≤ 420 ∧ s.data ≠ [] ∧ ∀ d ∈ s.data, d.length ≤ 5000
theorem MsgSmall.sets {m : Vd.Msg} (h : MsgSmall m) (q : Quest) : abH abJ (Vd.ofM q m).1 := by
 obtain ⟨⟨a1, a2⟩, b1, b2⟩ := h
 have ga := (uU (D := 5000) m.answers fun x hx => (a2 x hx).2).2
 have gb := (uU (D := 5000) m.auth fun x hx => (b2 x hx).2).2
 refine WN q m abJ (fun s hs => hs) (fun s hs => ?_) (fun s hs => ?_)
 · obtain ⟨h1, h2, h3, h4⟩ := ga s hs
   exact ⟨h1, by omega, h3, h4⟩
 · obtain ⟨h1, h2, h3, h4⟩ := gb s hs
   exact ⟨h1, by omega, h3, h4⟩
theorem MsgSmall.fits {m : Vd.Msg} (h : MsgSmall m) : adn m := by
 obtain ⟨⟨a1, a2⟩, b1, b2⟩ := h
 exact ⟨by omega, fun x hx => ⟨by have := (a2 x hx).1; omega, by have := (a2 x hx).2; omega⟩, by omega, fun x hx => ⟨by have := (b2 x hx).1; omega, by have := (b2 x hx).2; omega⟩⟩
def VoteSm (v : Vote) : Prop := abH abJ v.vd ∧ v.vd.sets.length ≤ 10 ∧ v.vd.soa.length ≤ 1
theorem K2 {q : Quest} {v : Vdt} (h : (Vd.endV q v).2 = true) : (Vd.endV q v).1 ∈ v.sets ∧ (Vd.endV q v).1.kind = q.kind := by
 unfold Vd.endV at h ⊢
 cases hs : v.sets.getLast? with
 | none => rw [hs] at h; cases h
 | some s =>
   rw [hs] at h
   dsimp only at h ⊢
   by_cases hk : s.kind = q.kind
   · rw [if_pos hk]
     exact ⟨List.mem_of_getLast? hs, hk⟩
   · rw [if_neg hk] at h; cases h
theorem VD {q : Quest} {v : Vdt} (h : (Vd.endV q v).2 = false) : (Vd.endV q v).1 = RSet.none := by
 unfold Vd.endV at h ⊢
 cases hs : v.sets.getLast? with
 | none => rfl
 | some s =>
   rw [hs] at h
   dsimp only at h ⊢
   by_cases hk : s.kind = q.kind
   · rw [if_pos hk] at h; cases h
   · rw [if_neg hk]
theorem VoteSm.ends {v : Vote} (h : VoteSm v) (q : Quest) : (Vd.endV q v.vd).1.data.length ≤ 420 ∧ (∀ d ∈ (Vd.endV q v.vd).1.data, d.length ≤ 5000) ∧ ((Vd.endV q v.vd).2 = true → (Vd.endV q v.vd).1.data ≠ []) := by
 cases he : (Vd.endV q v.vd).2 with
 | true =>
   obtain ⟨_, h2, h3, h4⟩ := h.1.1 _ (K2 he).1
   exact ⟨h2, h4, fun _ => h3⟩
 | false =>
   rw [VD he]
   exact ⟨by simp [RSet.none], by simp [RSet.none], fun h => by cases h⟩
end Go.Proofs.YtbjkkoacclfejaaGreat
namespace Go.Proofs.YtbjkkoacclfejaaGreat
open Go.RowKit
open Vd (RSet Vdt Vote Rec Quest Piece Ballot)
variable {G : World} {L : ja}
theorem Spec.drop {P : Program} {f : FuncId} {args : Array Value} {Φ Ψ : Value → ja → Prop} (h : Spec P G f args L Φ) (hi : ∀ v M, Φ v M → ∃ M', Ψ v M' ∧ ∀ p, cnt p M' ≤ cnt p M) : Spec P G f args L Ψ :=
 ⟨fun w hw => (h.out w hw).mono fun e w' ⟨v, M, e1, h1, h2⟩ => by
   obtain ⟨M', k1, k2⟩ := hi v M h1
   exact ⟨v, M', e1, k1, h2.cnt k2⟩⟩
theorem BoxOk.len {l : List Ballot} (h : BoxOk l) : l.length ≤ 9 := by
 have h1 : (l.map fun b => b.v.up).length ≤ 9 := yL 9 _ h.nd fun u hu => by
  obtain ⟨b, hb, rfl⟩ := List.mem_map.1 hu
  have := h.up b hb
  omega
 rw [List.length_map] at h1
 exact h1
structure BoxSm (l : List Ballot) : Prop where
 ok : BoxOk l
 sm : ∀ x ∈ Vd.votesB l, SmV x.vd
theorem BoxSm.nil : BoxSm [] := ⟨BoxOk.nil, by simp [Vd.votesB]⟩
theorem BoxSm.put {l : List Ballot} (h : BoxSm l) {x : Ballot} (hx : SmV x.v.vd) : BoxSm (Vd.putB l x).1 := by
 refine ⟨h.ok.put x, fun y hy => ?_⟩
 by_cases h0 : QC l x.v.up = 0
 · rw [(QD h0).1, qo] at hy
   split at hy
   · exact h.sm y hy
   · rcases List.mem_append.1 hy with hy | hy
     · exact h.sm y hy
     · rw [List.mem_singleton.1 hy]; exact hx
 · rw [Vw h0] at hy
   exact h.sm y hy
theorem abK : SmV Vdt.none := ⟨⟨by decide, by simp [Vdt.none]⟩, ⟨by decide, by simp [Vdt.none]⟩⟩
def PBox (bb : Nat) (want : Int) (l : List Ballot) (X : ja) : Prop := BoxSm l ∧ ∃ M0 N, TBox N bb want l M0 ∧ Wr N ∧ X = M0 ++ N
def DBox (bb : Nat) (want : Int) (l : List Ballot) (X : ja) : Prop := BoxOk l ∧ ∃ M0 N, RBox N bb want l M0 ∧ X = M0 ++ N
theorem aeF (want : Int) : Spec Tryz.prog G 41 #[.int .i64 want] L fun u M => (1 ≤ want ∧ want ≤ 9 ∧ ∃ bb X, u = .tuple #[.pointer (some ⟨bb, 0, none⟩), .int .i64 0] ∧ PBox bb want [] X ∧ M = X ++ L) ∨ ((want < 1 ∨ 9 < want) ∧ u = .tuple #[.pointer none, .int .i64 1] ∧ M = L) := by
 refine (aeE want).mono fun u M h => ?_
 rcases h with ⟨h1, h2, bb, h3, h4⟩ | h
 · exact Or.inl ⟨h1, h2, bb, _, h3, ⟨BoxSm.nil, _, [], ⟨none, 0, [], ORow.nil _, rfl⟩, Wr.nil, rfl⟩, h4⟩
 · exact Or.inr h
theorem ads {bb : Nat} {want : Int} {l : List Ballot} {X : ja} (h : PBox bb want l X) (hX : ∀ p ∈ X, p ∈ L) : Spec Tryz.prog G 186 #[.pointer (some ⟨bb, 0, none⟩)] L fun w M => w = .int .i64 (uE (Vd.votesB l)) ∧ M = L := by
 obtain ⟨hs, _, N, ⟨a, c, B, hB, rfl⟩, hN, rfl⟩ := h
 exact adq bb want l _ (hX _ (List.mem_append_left _ (List.mem_cons_self ..))) hs.ok
theorem aeG {bb : Nat} {want : Int} {l : List Ballot} {X : ja} (h : PBox bb want l X) (hX : ∀ p ∈ X, p ∈ L) : Spec Tryz.prog G 189 #[.pointer (some ⟨bb, 0, none⟩)] L (abB L (Z6 want (Vd.votesB l))) := by
 obtain ⟨hs, _, N, ⟨a, c, B, hB, rfl⟩, hN, rfl⟩ := h
 exact aeD (K := N) bb want l a c (hX _ (List.mem_append_left _ (List.mem_cons_self ..))) ((hB.imp (r' := fun _ => voteR N) (L' := []) (fun cs x _ h => h)).sliceR km (by simp) (fun p hp => hX p (by simp [hp]))) (fun p hp => hX p (by simp [hp])) hs.ok hs.ok.len hs.sm
theorem YE {bb : Nat} {want : Int} {l : List Ballot} {X : ja} (h : PBox bb want l X) (hX : ∀ p ∈ X, p ∈ L) : Spec Tryz.prog G 190 #[.pointer (some ⟨bb, 0, none⟩)] L fun u M => ∃ a3 c3 B3, u = .slice a3 (if want < 1 then [] else kE want (Vd.votesB l)).length c3 ∧ ORow (uz .i64) 3 1 [] a3 c3 (if want < 1 then [] else kE want (Vd.votesB l)) B3 ∧ M = B3 ++ L := by
 obtain ⟨hs, _, N, ⟨a, c, B, hB, rfl⟩, hN, rfl⟩ := h
 exact YC (K := N) bb want l a c (hX _ (List.mem_append_left _ (List.mem_cons_self ..))) ((hB.imp (r' := fun _ => voteR N) (L' := []) (fun cs x _ h => h)).sliceR km (by simp) (fun p hp => hX p (by simp [hp]))) hs.ok hs.ok.len
theorem Jk {bb : Nat} {want : Int} {l : List Ballot} {X : ja} (h : PBox bb want l X) (hX : ∀ p ∈ X, p ∈ L) : Spec Tryz.prog G 210 #[.pointer (some ⟨bb, 0, none⟩)] L (QF L (Vd.votesB l)) := by
 obtain ⟨hs, _, N, ⟨a, c, B, hB, rfl⟩, hN, rfl⟩ := h
 have := kn l
 have := hs.ok.len
 exact abt bb want (jp l) (Vd.votesB l) a c (hX _ (List.mem_append_left _ (List.mem_cons_self ..))) ((hB.mono kU (fun p hp => hX p (by simp [hp]))).sliceR kU (fun p h => h) (fun p hp => hX p (by simp [hp]))) jd hs.sm
theorem adt {bb : Nat} {want : Int} {l : List Ballot} {X : ja} {cs : List Value} {x : Vote} (h : PBox bb want l X) (hx : voteR L cs x) (hsx : SmV x.vd) : Spec Tryz.prog G 52 #[.pointer (some ⟨bb, 0, none⟩), .agg cs.toArray] (X ++ L) fun w M => w = .int .i64 (Vd.putB l ⟨x, false⟩).2 ∧ ∃ X', PBox bb want (Vd.putB l ⟨x, false⟩).1 X' ∧ M = X' ++ L := by
 obtain ⟨hs, M0, N, hb, hN, rfl⟩ := h
 have h1 := adl (G := G) (L := N ++ L) (K := N) bb want l M0 cs x hb hs.ok (by simp +contextual) (kU _ _ _ _ (by simp +contextual) hx) hsx hs.ok.len
 rw [← List.append_assoc] at h1
 refine h1.mono fun w M ⟨e, M', N', hb', hN', hM⟩ => ⟨e, M' ++ (N' ++ N), ⟨hs.put hsx, M', N' ++ N, hb', hN'.append hN, rfl⟩, ?_⟩
 rw [hM]
 simp only [List.append_assoc]
theorem adu {bb : Nat} {want : Int} {l : List Ballot} {X : ja} (u : Int) (h : PBox bb want l X) : Spec Tryz.prog G 49 #[.pointer (some ⟨bb, 0, none⟩), .int .i64 u] (X ++ L) fun w M => w = .int .i64 (Vd.putB l ⟨⟨u, Vdt.none, 0⟩, true⟩).2 ∧ ∃ X', PBox bb want (Vd.putB l ⟨⟨u, Vdt.none, 0⟩, true⟩).1 X' ∧ M = X' ++ L := by
 obtain ⟨hs, M0, N, hb, hN, rfl⟩ := h
 have h1 := adj (G := G) (L := N ++ L) (K := N) bb want u l M0 hb hs.ok
 rw [← List.append_assoc] at h1
 refine h1.mono fun w M ⟨e, M', hb', hM⟩ => ⟨e, M' ++ N, ⟨hs.put abK, M', N, hb', hN, rfl⟩, ?_⟩
 rw [hM]
 simp only [List.append_assoc]
theorem adv {bb : Nat} {want : Int} {l : List Ballot} {X : ja} (h : PBox bb want l X) : Spec Tryz.prog G 51 #[.pointer (some ⟨bb, 0, none⟩)] (X ++ L) fun u M => ∃ b2 X2, u = .pointer (some ⟨b2, 0, none⟩) ∧ PBox b2 want l X2 ∧ M = X2 ++ (X ++ L) := by
 obtain ⟨hs, M0, N, hb, hN, rfl⟩ := h
 have h1 := adr (G := G) (L := N ++ L) (K := N) bb want l M0 hb (by simp +contextual) hs.ok.len hs.sm
 rw [← List.append_assoc] at h1
 refine h1.mono fun w M ⟨b2, M2, N2, e, hb2, hN2, hM⟩ => ⟨b2, M2 ++ N2, e, ⟨hs, M2, N2, hb2, hN2, rfl⟩, ?_⟩
 rw [hM]
 simp only [List.append_assoc]
theorem DBox.row {bb : Nat} {want : Int} {l : List Ballot} {X : ja} (h : DBox bb want l X) : ∃ a c B N, ORow ballotR 225 6 N a c l B ∧ X = (bb, Obj.cells #[.int .i64 want, .slice a l.length c] 200 (0, 0)) :: (B ++ N) := by
 obtain ⟨_, _, N, ⟨a, c, B, hB, rfl⟩, rfl⟩ := h
 exact ⟨a, c, B, N, hB, rfl⟩
end Go.Proofs.YtbjkkoacclfejaaGreat
namespace Go.Proofs.YtbjkkoacclfejaaGreat
open Go.RowKit
open Vd (RSet Vdt Vote Rec Quest Piece Ballot)
section
variable {G : World} {P : Program} {n : Nat} {ρ : jB} {L : ja} {ty : TypeId}
theorem ug {f : FuncId} {recv : Operand} {name : String} {xs : List Operand} {ats : Array TypeId} {vs : List Value} {t : TypeId} {rv : Value} {Φ : Value → ja → Prop} (hb : qk P f = true) (hx : ev ρ recv = some (.iface t rv)) (ha : kK ρ xs = some vs)
 (hm : ∀ w, (method (P.types.size + Made.depth) t rv name).run P w = .ok (f, rv) w) (h : Spec P G f (rv :: vs).toArray L Φ) : OpT P G ρ L (.call ⟨.invoke recv name, xs.toArray, ats⟩) ty Φ :=
 ⟨fun r hr w hw o ho _ => by
   have hq := um hr xs vs ha
   have hrf := hr _ _ hx
   have : (execOp r o).run P w = (callFunc f (rv :: vs).toArray).run P w := by
    simp only [execOp, ho, resolve, hrf]
    show (invoke (.fn (.method name) #[]) (#[Value.iface t rv] ++ (xs.toArray.map r))).run P w = _
    rw [List.map_toArray, hq]
    simp [invoke, callMethod, hm]
   rw [this, u6 hb]
   exact (h.out w hw).mono fun e w' ⟨v, L', h1, h2, h3⟩ => ⟨v, h1, L', h2, h3⟩⟩
end
end Go.Proofs.YtbjkkoacclfejaaGreat
namespace Go.Proofs.YtbjkkoacclfejaaGreat.Hg
structure En where
 up : Int
 asked : Int
 last : Int
 op : Bool
deriving DecidableEq
structure Pl where
 list : List En
 asked : Nat
 want : Int
 tries : Int
 every : Int
 wait : Int
 start : Int
 now : Int
 reached : Int
 made : Bool
 begins : Bool
deriving DecidableEq
def top : Int := 1099511627776
def Zk : List Int → List Int → Bool
 | _, [] => false
 | seen, u :: r => decide (u < 0) || decide (9 ≤ u) || seen.contains u || Zk (u :: seen) r
def ag3 (l : List Int) (want every wait tries now : Int) : Bool :=
 decide (l.length ≤ 9) && !Zk [] l && decide (1 ≤ want ∧ want ≤ 9 ∧ 1 ≤ every ∧ every ≤ 1000 ∧ 1 ≤ wait ∧ wait ≤ 1000 ∧ 1 ≤ tries ∧ tries ≤ 4 ∧ 0 ≤ now ∧ now ≤ top)
def fresh (u : Int) : En := ⟨u, 0, 0, false⟩
def mk (l : List Int) (want every wait tries now : Int) : Pl := ⟨l.map fresh, 0, want, tries, every, wait, now, now, 0, true, false⟩
def advance (p : Pl) (n : Int) : Pl := { p with now := max p.now (min n top) }
def askAt (now : Int) (x : En) : En := ⟨x.up, 1, now, true⟩
def next (p : Pl) : Pl := { p with asked := p.asked + 1, list := p.list.modify p.asked (askAt p.now) }
def upAt (p : Pl) (i : Nat) : Int := ((p.list[i]?).map (·.up)).getD 0
def nexts : Nat → Pl → Pl × List Int
 | 0, p => (p, [])
 | k + 1, p => let r := nexts k (next p); (r.1, upAt p p.asked :: r.2)
def begin' (p : Pl) : Pl × List Int :=
 if !p.made || p.begins then (p, []) else nexts (min p.want.toNat (p.list.length - p.asked)) { p with begins := true }
def late (now wait : Int) (x : En) : Bool := x.op && decide (wait ≤ now - x.last)
def tickE (now wait tries : Int) (x : En) : En :=
 if late now wait x then (if tries ≤ x.asked then { x with op := false } else { x with asked := x.asked + 1, last := now }) else x
def goneE (now wait tries : Int) (x : En) : List Int := if late now wait x && decide (tries ≤ x.asked) then [x.up] else []
def sendE (now wait tries : Int) (x : En) : List Int := if late now wait x && !decide (tries ≤ x.asked) then [x.up] else []
def examine (p : Pl) : Pl := { p with list := p.list.map (tickE p.now p.wait p.tries) }
def hedged (p : Pl) : Pl × List Int :=
 let k := (p.now - p.start) / p.every
 if p.reached < k then
  let q := { p with reached := k }
  if q.asked < q.list.length then (next q, [upAt q q.asked]) else (q, [])
 else (p, [])
def tick (p : Pl) (n : Int) : Pl × List Int × List Int :=
 if !p.begins then (p, [], []) else
 let q := advance p n
 let r := hedged (examine q)
 (r.1, q.list.flatMap (goneE q.now q.wait q.tries), q.list.flatMap (sendE q.now q.wait q.tries) ++ r.2)
def more (p : Pl) (n : Int) : Pl × Int × Bool :=
 if !p.begins then (p, 0, false) else
 let q := advance p n
 if q.list.length ≤ q.asked then (q, 0, false) else (next q, upAt q q.asked, true)
def isIt (u : Int) (x : En) : Bool := x.up == u && x.op
def closeL (u : Int) : List En → List En
 | [] => []
 | x :: r => if isIt u x then { x with op := false } :: r else x :: closeL u r
def close (p : Pl) (u : Int) : Pl × Bool := ({ p with list := closeL u p.list }, p.list.any (isIt u))
def opens (p : Pl) : Int := ((p.list.filter (·.op)).length : Nat)
def left (p : Pl) : Int := (p.list.length : Int) - (p.asked : Nat)
def ahM (p : Pl) (u : Int) : Int := ((p.list.find? fun x => x.up == u).map (·.asked)).getD 0
def exA : Pl := (begin' (mk [4, 2, 7] 2 10 15 2 100)).1
theorem ex1 : ag3 [4, 2, 7] 2 10 15 2 100 = true ∧ (begin' (mk [4, 2, 7] 2 10 15 2 100)).2 = [4, 2] := by decide
def exB : Pl := (tick exA 110).1
def exC : Pl := (tick exB 115).1
def exD : Pl := (close exC 2).1
def exE : Pl := (tick exD 125).1
def exF : Pl := (tick exE 130).1
def exG : Pl := (tick exF 140).1
theorem ex2 : (tick exA 110).2 = ([], [7]) ∧ (tick exB 115).2 = ([], [4, 2]) ∧ (close exC 2).2 = true ∧ (tick exD 125).2 = ([], [7]) ∧ (tick exE 130).2 = ([4], []) ∧ (tick exF 140).2 = ([7], []) ∧ opens exG = 0 := by decide
end Go.Proofs.YtbjkkoacclfejaaGreat.Hg
namespace Go.Proofs.YtbjkkoacclfejaaGreat
open Go.RowKit
open Hg (En Pl)
def ky (x : En) : List Value := [.int .i64 x.up, .int .i64 x.asked, .int .i64 x.last, .bool x.op]
def kq (l : List En) : List Value := l.flatMap ky
theorem qf (x : En) (l : List En) : kq (x :: l) = ky x ++ kq l := rfl
theorem ud (l : List En) : (kq l).length = l.length * 4 := by
 induction l with
 | nil => rfl
 | cons x r ih => rw [qf, List.length_append, ih]; simp [ky]; omega
theorem qI : ∀ (l : List En) (i j : Nat) (x : En), l[i]? = some x → j < 4 → (kq l)[i * 4 + j]? = (ky x)[j]?
 | [], i, j, x, h, _ => by simp at h
 | y :: r, 0, j, x, h, hj => by
   simp at h
   subst h
   rw [qf, List.getElem?_append_left (by simp [ky]; omega)]
   simp
 | y :: r, i + 1, j, x, h, hj => by
   rw [qf, List.getElem?_append_right (by simp [ky]; omega), ← qI r i j x (by simpa using h) hj]
   congr 1
   simp [ky]
   omega
theorem UG (now : Int) : ∀ (l : List En) (i : Nat) (x : En), l[i]? = some x → (((kq l).set (i * 4 + 1) (.int .i64 1)).set (i * 4 + 2) (.int .i64 now)).set (i * 4 + 3) (.bool true) = kq (l.modify i (Hg.askAt now))
 | [], i, x, h => by simp at h
 | y :: r, 0, x, h => by simp [qf, ky, Hg.askAt]
 | y :: r, i + 1, x, h => by
   rw [List.modify_succ_cons, qf, qf, ← UG now r i x (by simpa using h)]
   rw [show (i + 1) * 4 + 1 = (i * 4 + 1) + 4 by omega, show (i + 1) * 4 + 2 = (i * 4 + 2) + 4 by omega, show (i + 1) * 4 + 3 = (i * 4 + 3) + 4 by omega]
   simp [ky]
def jh (p : Pl) (v : Value) : Array Value := #[v, .int .i64 (p.asked : Nat), .int .i64 p.want, .int .i64 p.tries, .int .i64 p.every, .int .i64 p.wait, .int .i64 p.start, .int .i64 p.now, .int .i64 p.reached, .bool p.made, .bool p.begins]
theorem take_set (cur : Array Value) (k m : Nat) (v : Value) : (cur.setIfInBounds k v).toList.take m = (cur.toList.take m).set k v := by
 rw [Array.toList_setIfInBounds, List.take_set]
variable {G : World} {L : ja}
theorem UH (bp : Nat) (p : Pl) (v : Value) (now : Int) : Spec Tryz.prog G 71 #[.pointer (some ⟨bp, 0, none⟩), .int .i64 now] ((bp, .cells (jh p v) 158 (0, 0)) :: L) fun u M => M = (bp, .cells (jh (Hg.advance p now) v) 158 (0, 0)) :: L := by
 unfold jh Hg.advance Hg.top
 refine jl (n := 14) Tryz.func71 rfl rfl rfl ?_
 refine goD ?_
 refine zj rfl ?_
 rfl
theorem YF (bp : Nat) (p : Pl) (v : Value) (B : ja) (hR : Row 160 4 v p.list.length (kq p.list) B) (ha : p.asked < p.list.length) (hl : p.list.length ≤ 9) :
 Spec Tryz.prog G 69 #[.pointer (some ⟨bp, 0, none⟩)] ((bp, .cells (jh p v) 158 (0, 0)) :: (B ++ L)) fun u M => u = .int .i64 (Hg.upAt p p.asked) ∧ ∃ B', Row 160 4 v (Hg.next p).list.length (kq (Hg.next p).list) B' ∧ M = (bp, .cells (jh (Hg.next p) v) 158 (0, 0)) :: (B' ++ L) := by
 rcases hR.is with ⟨_, h, _⟩ | ⟨be, cap, cur, rfl, rfl, h3, h4, h5, h6⟩
 · omega
 obtain ⟨x, hx⟩ : ∃ x, p.list[p.asked]? = some x := ⟨_, List.getElem?_eq_getElem ha⟩
 have hat : ∀ j u, j < 4 → (ky x)[j]? = some u → cur[0 + p.asked * 4 + j]? = some u := fun j u hj hu => by
  have := qI p.list p.asked j x hx hj
  rw [← h6, List.getElem?_take_of_lt jd, hu] at this
  rw [Nat.zero_add]
  simpa using this
 have n0 : cur[0 + p.asked * 4 + 0]? = some (.int .i64 x.up) := hat 0 _ jd rfl
 have n1 : cur[0 + p.asked * 4 + 1]? = some (.int .i64 x.asked) := hat 1 _ jd rfl
 have n2 : cur[0 + p.asked * 4 + 2]? = some (.int .i64 x.last) := hat 2 _ jd rfl
 have n3 : cur[0 + p.asked * 4 + 3]? = some (.bool x.op) := hat 3 _ jd rfl
 have m2 : (cur.setIfInBounds (0 + p.asked * 4 + 1) (.int .i64 1))[0 + p.asked * 4 + 2]? = some (.int .i64 x.last) := by rw [Array.getElem?_setIfInBounds_ne jd]; exact n2
 have m3 : ((cur.setIfInBounds (0 + p.asked * 4 + 1) (.int .i64 1)).setIfInBounds (0 + p.asked * 4 + 2) (.int .i64 p.now))[0 + p.asked * 4 + 3]? = some (.bool x.op) := by rw [Array.getElem?_setIfInBounds_ne jd, Array.getElem?_setIfInBounds_ne jd]; exact n3
 have m0 : (((cur.setIfInBounds (0 + p.asked * 4 + 1) (.int .i64 1)).setIfInBounds (0 + p.asked * 4 + 2) (.int .i64 p.now)).setIfInBounds (0 + p.asked * 4 + 3) (.bool true))[0 + p.asked * 4 + 0]? = some (.int .i64 x.up) := by rw [Array.getElem?_setIfInBounds_ne jd, Array.getElem?_setIfInBounds_ne jd, Array.getElem?_setIfInBounds_ne jd]; exact n0
 unfold jh
 refine jl (n := 37) Tryz.func69 rfl rfl rfl ?_
 have hK : ∀ q ∈ [(bp, Obj.cells #[.slice (some ⟨be, 0, none⟩) p.list.length cap, .int .i64 (p.asked : Nat), .int .i64 p.want, .int .i64 p.tries, .int .i64 p.every, .int .i64 p.wait, .int .i64 p.start, .int .i64 p.now, .int .i64 p.reached, .bool p.made, .bool p.begins] 158 (0, 0))], q ∈ (bp, Obj.cells #[.slice (some ⟨be, 0, none⟩) p.list.length cap, .int .i64 (p.asked : Nat), .int .i64 p.want, .int .i64 p.tries, .int .i64 p.every, .int .i64 p.wait, .int .i64 p.start, .int .i64 p.now, .int .i64 p.reached, .bool p.made, .bool p.begins] 158 (0, 0)) :: ([(be, Obj.cells cur 160 (0, 0))] ++ L) := fun q hq => by
  rw [List.mem_singleton.1 hq]; exact List.mem_cons_self ..
 refine goD ?_
 refine jw jc ([(bp, Obj.cells #[.slice (some ⟨be, 0, none⟩) p.list.length cap, .int .i64 (p.asked : Nat), .int .i64 p.want, .int .i64 p.tries, .int .i64 p.every, .int .i64 p.wait, .int .i64 p.start, .int .i64 p.now, .int .i64 p.reached, .bool p.made, .bool p.begins] 158 (0, 0))]) [] ?_
 refine tkQ 0 ?_
 refine tkQ 1 ?_
 refine tkQ 2 ?_
 refine tkQ 3 ?_
 refine tkQ 4 ?_
 refine tkQ 5 ?_
 refine tkQ 6 ?_
 refine tkQ 7 ?_
 refine tkQ 8 ?_
 refine tkQ 9 ?_
 refine tdQ ?_
 refine goD ?_
 refine jf 2 _ rfl rfl ?_
 refine ⟨by simp [Hg.upAt, hx], [(be, Obj.cells (((cur.setIfInBounds (0 + p.asked * 4 + 1) (.int .i64 1)).setIfInBounds (0 + p.asked * 4 + 2) (.int .i64 p.now)).setIfInBounds (0 + p.asked * 4 + 3) (.bool true)) 160 (0, 0))], ⟨ud _, Or.inr ⟨be, cap, _, by simp [Hg.next], rfl, by simpa [Hg.next] using h3, h4, by simpa using h5, ?_⟩⟩, rfl⟩
 simp only [Hg.next, List.length_modify]
 rw [take_set, take_set, take_set, h6, Nat.zero_add]
 exact UG p.now p.list p.asked x hx
end Go.Proofs.YtbjkkoacclfejaaGreat
namespace Go.Proofs.YtbjkkoacclfejaaGreat
open Go.RowKit
open Hg (En Pl)
variable {G : World} {L : ja}
theorem aeH (bp : Nat) (p : Pl) (a : Option Addr) (c : Nat) (B : ja) (now : Int) (hR : Row 160 4 (.slice a p.list.length c) p.list.length (kq p.list) B) (hl : p.list.length ≤ 9) :
 Spec Tryz.prog G 70 #[.pointer (some ⟨bp, 0, none⟩), .int .i64 now] ((bp, .cells (jh p (.slice a p.list.length c)) 158 (0, 0)) :: (B ++ L)) fun u M => u = .tuple #[.int .i64 (Hg.more p now).2.1, .bool (Hg.more p now).2.2] ∧
  ∃ B', Row 160 4 (.slice a p.list.length c) (Hg.more p now).1.list.length (kq (Hg.more p now).1.list) B' ∧ M = (bp, .cells (jh (Hg.more p now).1 (.slice a p.list.length c)) 158 (0, 0)) :: (B' ++ L) := by
 have pc0 : (jh (p) (.slice a p.list.length c))[0 + 0]? = some (.slice a p.list.length c) := rfl
 have pc1 : (jh (p) (.slice a p.list.length c))[0 + 1]? = some (.int .i64 ((p).asked : Nat)) := rfl
 have pc2 : (jh (p) (.slice a p.list.length c))[0 + 2]? = some (.int .i64 (p).want) := rfl
 have pc3 : (jh (p) (.slice a p.list.length c))[0 + 3]? = some (.int .i64 (p).tries) := rfl
 have pc4 : (jh (p) (.slice a p.list.length c))[0 + 4]? = some (.int .i64 (p).every) := rfl
 have pc5 : (jh (p) (.slice a p.list.length c))[0 + 5]? = some (.int .i64 (p).wait) := rfl
 have pc6 : (jh (p) (.slice a p.list.length c))[0 + 6]? = some (.int .i64 (p).start) := rfl
 have pc7 : (jh (p) (.slice a p.list.length c))[0 + 7]? = some (.int .i64 (p).now) := rfl
 have pc8 : (jh (p) (.slice a p.list.length c))[0 + 8]? = some (.int .i64 (p).reached) := rfl
 have pc9 : (jh (p) (.slice a p.list.length c))[0 + 9]? = some (.bool (p).made) := rfl
 have pc10 : (jh (p) (.slice a p.list.length c))[0 + 10]? = some (.bool (p).begins) := rfl
 have g1 : Option.isNone (some (⟨bp, 0, none⟩ : Addr)) = false := rfl
 refine jl (n := 30) Tryz.func70 rfl rfl rfl ?_
 cases hb : p.begins with
 | false =>
   have g2 : (!p.begins) = true := by rw [hb]; rfl
   have hm : Hg.more p now = (p, 0, false) := by unfold Hg.more; rw [if_pos g2]
   rw [hm]
   refine goD ?_
   refine kd 4 5 _ _ rfl rfl rfl ?_
   exact ⟨rfl, B, hR, rfl⟩
 | true =>
 have g2 : (!p.begins) = false := by rw [hb]; rfl
 refine goD ?_
 refine jx (jb je rfl (UH bp p _ now)) rfl ?_
 rintro u0 M0 hM0
 rw [hM0]
 clear hM0 M0
 obtain ⟨q, hq⟩ : ∃ q, q = Hg.advance p now := ⟨_, rfl⟩
 have hql : q.list = p.list := by rw [hq]; rfl
 rw [← hql] at hR hl
 rw [← hq, ← hql]
 have qc0 : (jh (q) (.slice a q.list.length c))[0 + 0]? = some (.slice a q.list.length c) := rfl
 have qc1 : (jh (q) (.slice a q.list.length c))[0 + 1]? = some (.int .i64 ((q).asked : Nat)) := rfl
 have qc2 : (jh (q) (.slice a q.list.length c))[0 + 2]? = some (.int .i64 (q).want) := rfl
 have qc3 : (jh (q) (.slice a q.list.length c))[0 + 3]? = some (.int .i64 (q).tries) := rfl
 have qc4 : (jh (q) (.slice a q.list.length c))[0 + 4]? = some (.int .i64 (q).every) := rfl
 have qc5 : (jh (q) (.slice a q.list.length c))[0 + 5]? = some (.int .i64 (q).wait) := rfl
 have qc6 : (jh (q) (.slice a q.list.length c))[0 + 6]? = some (.int .i64 (q).start) := rfl
 have qc7 : (jh (q) (.slice a q.list.length c))[0 + 7]? = some (.int .i64 (q).now) := rfl
 have qc8 : (jh (q) (.slice a q.list.length c))[0 + 8]? = some (.int .i64 (q).reached) := rfl
 have qc9 : (jh (q) (.slice a q.list.length c))[0 + 9]? = some (.bool (q).made) := rfl
 have qc10 : (jh (q) (.slice a q.list.length c))[0 + 10]? = some (.bool (q).begins) := rfl
 have hK : ∀ x ∈ [(bp, Obj.cells (jh q (.slice a q.list.length c)) 158 (0, 0))], x ∈ (bp, Obj.cells (jh q (.slice a q.list.length c)) 158 (0, 0)) :: (B ++ L) := fun x hx => by
  rw [List.mem_singleton.1 hx]; exact List.mem_cons_self ..
 have hm : Hg.more p now = if q.list.length ≤ q.asked then (q, 0, false) else (Hg.next q, Hg.upAt q q.asked, true) := by unfold Hg.more; rw [if_neg (by rw [g2]; simp), hq]
 by_cases hlen : q.list.length ≤ q.asked
 · have g3 : decide (((q.list.length : Nat) : Int) ≤ ((q.asked : Nat) : Int)) = true := decide_eq_true jd
   rw [hm, if_pos hlen]
   refine goD ?_
   refine jw jc ([(bp, Obj.cells (jh q (.slice a q.list.length c)) 158 (0, 0))]) [] ?_
   refine tkQ 0 ?_
   refine tkQ 1 ?_
   refine tkQ 2 ?_
   refine tkQ 3 ?_
   refine tkQ 4 ?_
   refine tkQ 5 ?_
   refine tkQ 6 ?_
   refine tkQ 7 ?_
   refine tkQ 8 ?_
   refine tkQ 9 ?_
   refine tdQ ?_
   refine goD ?_
   refine kd 4 5 _ _ rfl rfl rfl ?_
   exact ⟨rfl, B, hR, rfl⟩
 · have g3 : decide (((q.list.length : Nat) : Int) ≤ ((q.asked : Nat) : Int)) = false := decide_eq_false jd
   rw [hm, if_neg hlen]
   refine goD ?_
   refine jw jc ([(bp, Obj.cells (jh q (.slice a q.list.length c)) 158 (0, 0))]) [] ?_
   refine tkQ 0 ?_
   refine tkQ 1 ?_
   refine tkQ 2 ?_
   refine tkQ 3 ?_
   refine tkQ 4 ?_
   refine tkQ 5 ?_
   refine tkQ 6 ?_
   refine tkQ 7 ?_
   refine tkQ 8 ?_
   refine tkQ 9 ?_
   refine tdQ ?_
   refine goD ?_
   refine jx (jb je rfl (YF bp q _ B hR jd hl)) rfl ?_
   rintro _ M1 ⟨rfl, B1, hR1, hM1⟩
   rw [hM1]
   clear hM1 M1
   refine goD ?_
   refine kd 4 5 _ _ rfl rfl rfl ?_
   exact ⟨rfl, B1, hR1, rfl⟩
end Go.Proofs.YtbjkkoacclfejaaGreat
namespace Go.Proofs.YtbjkkoacclfejaaGreat
open Go.RowKit
open Hg (En Pl)
variable {G : World} {L : ja}
def qM (l : List Int) : List Value := l.map fun x => .int .i64 x
theorem QQ : ∀ (k : Nat) (p : Pl), Hg.nexts (k + 1) p = (Hg.next (Hg.nexts k p).1, (Hg.nexts k p).2 ++ [Hg.upAt (Hg.nexts k p).1 (Hg.nexts k p).1.asked])
 | 0, p => rfl
 | k + 1, p => by
   have ih := QQ k (Hg.next p)
   show ((Hg.nexts (k + 1) (Hg.next p)).1, _ :: (Hg.nexts (k + 1) (Hg.next p)).2) = _
   rw [ih]
   rfl
theorem qU : ∀ (k : Nat) (p : Pl), (Hg.nexts k p).1.asked = p.asked + k ∧ (Hg.nexts k p).1.list.length = p.list.length ∧ (Hg.nexts k p).1.want = p.want ∧ (Hg.nexts k p).2.length = k
 | 0, p => ⟨rfl, rfl, rfl, rfl⟩
 | k + 1, p => by
   obtain ⟨h1, h2, h3, h4⟩ := qU k (Hg.next p)
   refine ⟨by show (Hg.nexts k (Hg.next p)).1.asked = _; rw [h1]; show p.asked + 1 + k = _; omega, by show (Hg.nexts k (Hg.next p)).1.list.length = _; rw [h2]; simp [Hg.next], h3, by show (_ :: (Hg.nexts k (Hg.next p)).2).length = _; simp [h4]⟩
theorem perm_out {A B C : ja} {p : Nat × Obj} : (p :: (A ++ (B ++ C))).Perm (B ++ (p :: (A ++ C))) := by
 have := List.perm_append_comm_assoc (p :: A) B C
 simpa using this
theorem adw (bp : Nat) (p : Pl) (a : Option Addr) (c : Nat) (B : ja) (hR : Row 160 4 (.slice a p.list.length c) p.list.length (kq p.list) B) (hl : p.list.length ≤ 9) (hw : 1 ≤ p.want ∧ p.want ≤ 9) (hm : p.made = true) (hg : p.begins = false) (hz : p.asked = 0) :
 Spec Tryz.prog G 42 #[.pointer (some ⟨bp, 0, none⟩)] ((bp, .cells (jh p (.slice a p.list.length c)) 158 (0, 0)) :: (B ++ L)) fun u M =>
  ∃ B1 B', Row 3 1 u (Hg.begin' p).2.length (qM (Hg.begin' p).2) B1 ∧ Row 160 4 (.slice a p.list.length c) (Hg.begin' p).1.list.length (kq (Hg.begin' p).1.list) B' ∧ M = (bp, .cells (jh (Hg.begin' p).1 (.slice a p.list.length c)) 158 (0, 0)) :: (B' ++ (B1 ++ L)) := by
 have pc0 : (jh (p) (.slice a p.list.length c))[0 + 0]? = some (.slice a p.list.length c) := rfl
 have pc1 : (jh (p) (.slice a p.list.length c))[0 + 1]? = some (.int .i64 ((p).asked : Nat)) := rfl
 have pc2 : (jh (p) (.slice a p.list.length c))[0 + 2]? = some (.int .i64 (p).want) := rfl
 have pc3 : (jh (p) (.slice a p.list.length c))[0 + 3]? = some (.int .i64 (p).tries) := rfl
 have pc4 : (jh (p) (.slice a p.list.length c))[0 + 4]? = some (.int .i64 (p).every) := rfl
 have pc5 : (jh (p) (.slice a p.list.length c))[0 + 5]? = some (.int .i64 (p).wait) := rfl
 have pc6 : (jh (p) (.slice a p.list.length c))[0 + 6]? = some (.int .i64 (p).start) := rfl
 have pc7 : (jh (p) (.slice a p.list.length c))[0 + 7]? = some (.int .i64 (p).now) := rfl
 have pc8 : (jh (p) (.slice a p.list.length c))[0 + 8]? = some (.int .i64 (p).reached) := rfl
 have pc9 : (jh (p) (.slice a p.list.length c))[0 + 9]? = some (.bool (p).made) := rfl
 have pc10 : (jh (p) (.slice a p.list.length c))[0 + 10]? = some (.bool (p).begins) := rfl
 have g1 : Option.isNone (some (⟨bp, 0, none⟩ : Addr)) = false := rfl
 have g2 : (!p.made) = false := by rw [hm]; rfl
 refine jl (n := 47) Tryz.func42 rfl rfl rfl ?_
 refine goD ?_
 obtain ⟨p0, hp0⟩ : ∃ p0 : Pl, p0 = { p with begins := true } := ⟨_, rfl⟩
 obtain ⟨N, hN⟩ : ∃ N, N = min p.want.toNat (p.list.length - p.asked) := ⟨_, rfl⟩
 have hbeg : Hg.begin' p = Hg.nexts N p0 := by unfold Hg.begin'; rw [if_neg (by rw [hm, hg]; simp), hp0, hN]
 rw [hbeg]
 have hp0l : p0.list = p.list := by rw [hp0]
 have hp0w : p0.want = p.want := by rw [hp0]
 have hp0a : p0.asked = 0 := by rw [hp0]; exact hz
 refine jz (σ := Nat × Value × ja × ja) (fun x => x.1 ≤ N ∧ Row 3 1 x.2.1 x.1 (qM (Hg.nexts x.1 p0).2) x.2.2.1 ∧ Row 160 4 (.slice a p.list.length c) p.list.length (kq (Hg.nexts x.1 p0).1.list) x.2.2.2) (fun x => [(0, .pointer (some ⟨bp, 0, none⟩)), (3, x.2.1)]) (fun x => (bp, .cells (jh (Hg.nexts x.1 p0).1 (.slice a p.list.length c)) 158 (0, 0)) :: (x.2.2.2 ++ (x.2.2.1 ++ L))) (fun x => N - x.1) (0, .slice none 0 0, [], B) ⟨Nat.zero_le _, Row.nil _ _, ?_⟩ ?_ ?_ ?_
 · show Row _ 4 _ _ (kq p0.list) B
   rw [hp0l]; exact hR
 exact js
 · intro w h
   rw [hp0]
   exact h
 rintro ⟨k, v3, B1, B2⟩ ⟨hk, hR1, hR2⟩
 dsimp only at hk hR1 hR2 ⊢
 obtain ⟨q1, q2, q3, q4⟩ := qU k p0
 obtain ⟨q, hq⟩ : ∃ q, q = (Hg.nexts k p0).1 := ⟨_, rfl⟩
 obtain ⟨a3, c3, rfl⟩ := hR1.slice
 have hS := QQ k p0
 rw [← hq] at q1 q2 q3 hR2 hS ⊢
 rw [hp0a] at q1
 rw [hp0l] at q2
 rw [hp0w] at q3
 have qc0 : (jh (q) (.slice a p.list.length c))[0 + 0]? = some (.slice a p.list.length c) := rfl
 have qc1 : (jh (q) (.slice a p.list.length c))[0 + 1]? = some (.int .i64 ((q).asked : Nat)) := rfl
 have qc2 : (jh (q) (.slice a p.list.length c))[0 + 2]? = some (.int .i64 (q).want) := rfl
 have qc3 : (jh (q) (.slice a p.list.length c))[0 + 3]? = some (.int .i64 (q).tries) := rfl
 have qc4 : (jh (q) (.slice a p.list.length c))[0 + 4]? = some (.int .i64 (q).every) := rfl
 have qc5 : (jh (q) (.slice a p.list.length c))[0 + 5]? = some (.int .i64 (q).wait) := rfl
 have qc6 : (jh (q) (.slice a p.list.length c))[0 + 6]? = some (.int .i64 (q).start) := rfl
 have qc7 : (jh (q) (.slice a p.list.length c))[0 + 7]? = some (.int .i64 (q).now) := rfl
 have qc8 : (jh (q) (.slice a p.list.length c))[0 + 8]? = some (.int .i64 (q).reached) := rfl
 have qc9 : (jh (q) (.slice a p.list.length c))[0 + 9]? = some (.bool (q).made) := rfl
 have qc10 : (jh (q) (.slice a p.list.length c))[0 + 10]? = some (.bool (q).begins) := rfl
 have hK : ∀ x ∈ [(bp, Obj.cells (jh q (.slice a p.list.length c)) 158 (0, 0))], x ∈ (bp, Obj.cells (jh q (.slice a p.list.length c)) 158 (0, 0)) :: (B2 ++ (B1 ++ L)) := fun x hx => by
  rw [List.mem_singleton.1 hx]; exact List.mem_cons_self ..
 by_cases hkN : k < N
 · have g3 : decide (((k : Nat) : Int) < q.want) = true := decide_eq_true jd
   have g4 : decide (((q.asked : Nat) : Int) < ((p.list.length : Nat) : Int)) = true := decide_eq_true jd
   repeat (with_reducible refine j7 ?_)
   refine jw jc ([(bp, Obj.cells (jh q (.slice a p.list.length c)) 158 (0, 0))]) [] ?_
   refine tkQ 0 ?_
   refine tkQ 1 ?_
   refine tkQ 2 ?_
   refine tkQ 3 ?_
   refine tkQ 4 ?_
   refine tkQ 5 ?_
   refine tkQ 6 ?_
   refine tkQ 7 ?_
   refine tkQ 8 ?_
   refine tkQ 9 ?_
   refine tkQ 10 ?_
   refine tkQ 11 ?_
   refine tkQ 12 ?_
   refine tkQ 13 ?_
   refine tkQ 14 ?_
   refine tkQ 15 ?_
   refine tkQ 16 ?_
   refine tkQ 17 ?_
   refine tkQ 18 ?_
   refine tdQ ?_
   refine goD ?_
   refine jx (jb je rfl (YF bp q _ B2 (q2.symm ▸ hR2) jd jd)) rfl ?_
   rintro _ M1 ⟨rfl, B3, hR3, hM1⟩
   rw [hM1]
   clear hM1 M1
   repeat (refine jP (KP etO rfl rfl) rfl ?_; intro bLit)
   refine qq (List.Perm.cons _ perm_out) ?_
   refine u7 etO rfl rfl hR1 rfl (by unfold maxLen; omega) jd rfl ?_
   intro v4 B4 hR4
   obtain ⟨a4, c4, rfl⟩ := hR4.slice
   refine goD ?_
   refine jg (k + 1, .slice a4 (k + 1) c4, B4, B3) ⟨hkN, ?_, ?_⟩ ?_ ?_ ?_
   · dsimp only
     rw [hS]
     simpa [qM] using hR4
   · dsimp only
     rw [hS]
     have : (Hg.next q).list.length = p.list.length := by simp [Hg.next, q2]
     rw [this] at hR3
     exact hR3
   exact js
   · intro w hw'
     dsimp only
     rw [hS]
     exact hw'.perm perm_out.symm
   · dsimp only; omega
 · have hkN' : k = N := by omega
   rw [hz] at hN
   by_cases hkw : ((k : Nat) : Int) < q.want
   · have g3 : decide (((k : Nat) : Int) < q.want) = true := decide_eq_true hkw
     have g4 : decide (((q.asked : Nat) : Int) < ((p.list.length : Nat) : Int)) = false := decide_eq_false jd
     repeat (with_reducible refine j7 ?_)
     refine jw jc ([(bp, Obj.cells (jh q (.slice a p.list.length c)) 158 (0, 0))]) [] ?_
     refine tkQ 0 ?_
     refine tkQ 1 ?_
     refine tkQ 2 ?_
     refine tkQ 3 ?_
     refine tkQ 4 ?_
     refine tkQ 5 ?_
     refine tkQ 6 ?_
     refine tkQ 7 ?_
     refine tkQ 8 ?_
     refine tkQ 9 ?_
     refine tkQ 10 ?_
     refine tkQ 11 ?_
     refine tkQ 12 ?_
     refine tkQ 13 ?_
     refine tkQ 14 ?_
     refine tkQ 15 ?_
     refine tkQ 16 ?_
     refine tkQ 17 ?_
     refine tkQ 18 ?_
     refine tdQ ?_
     refine goD ?_
     refine jf 2 _ rfl rfl ?_
     rw [← hkN', ← hq, q2, q4]
     exact ⟨B1, B2, hR1, hR2, rfl⟩
   · have g3 : decide (((k : Nat) : Int) < q.want) = false := decide_eq_false hkw
     repeat (with_reducible refine j7 ?_)
     refine jw jc ([(bp, Obj.cells (jh q (.slice a p.list.length c)) 158 (0, 0))]) [] ?_
     refine tkQ 0 ?_
     refine tkQ 1 ?_
     refine tkQ 2 ?_
     refine tkQ 3 ?_
     refine tkQ 4 ?_
     refine tkQ 5 ?_
     refine tkQ 6 ?_
     refine tkQ 7 ?_
     refine tkQ 8 ?_
     refine tkQ 9 ?_
     refine tkQ 10 ?_
     refine tkQ 11 ?_
     refine tkQ 12 ?_
     refine tkQ 13 ?_
     refine tkQ 14 ?_
     refine tkQ 15 ?_
     refine tkQ 16 ?_
     refine tkQ 17 ?_
     refine tkQ 18 ?_
     refine tdQ ?_
     refine goD ?_
     refine jf 2 _ rfl rfl ?_
     rw [← hkN', ← hq, q2, q4]
     exact ⟨B1, B2, hR1, hR2, rfl⟩
end Go.Proofs.YtbjkkoacclfejaaGreat
namespace Go.Proofs.YtbjkkoacclfejaaGreat
open Go.RowKit
open Hg (En Pl)
variable {G : World} {L : ja}
theorem abL {P : Program} {n : Nat} {ρ : jB} {Q : Exit → Act → World → Prop} {σ : Type} {c X : Code} (l : Nat) (hf : findLabel c l = some (.seq .skip X)) (I : σ → Prop) (ρI : σ → jB) (LI : σ → ja) (μ : σ → Nat)
 (first : (∀ x, I x → T P G n (ρI x) (LI x) X (Exit.jump l (fun a w => ∃ x, I x ∧ Env n (ρI x) a ∧ Heap G w (LI x)) Q)) → T P G n ρ L c (Exit.jump l (fun a w => ∃ x, I x ∧ Env n (ρI x) a ∧ Heap G w (LI x)) Q))
 (pass : ∀ x, I x → T P G n (ρI x) (LI x) X (Exit.jump l (u5 G n I ρI LI μ (μ x)) Q)) : T P G n ρ L (.scope c) Q :=
 acZ l hf I ρI LI μ (fun _ => first fun x hx => Vi (pass x hx) fun e a w h => by
  cases e <;> (first | exact h | exact ⟨h.1, by obtain ⟨y, h1, h2, h3, _⟩ := h.2; exact ⟨y, h1, h2, h3⟩⟩))
  (fun x hx => j7 (uK (qj (pass x hx))))
structure Good (p : Pl) : Prop where
 len : p.list.length ≤ 9
 asked : p.asked ≤ p.list.length
 want : 1 ≤ p.want ∧ p.want ≤ 9
 tries : 1 ≤ p.tries ∧ p.tries ≤ 4
 every : 1 ≤ p.every ∧ p.every ≤ 1000
 wait : 1 ≤ p.wait ∧ p.wait ≤ 1000
 now : 0 ≤ p.start ∧ p.start ≤ p.now ∧ p.now ≤ Hg.top
 reached : 0 ≤ p.reached ∧ p.reached ≤ Hg.top
 each : ∀ x ∈ p.list, 0 ≤ x.last ∧ x.last ≤ p.now ∧ 0 ≤ x.asked ∧ x.asked ≤ p.tries
theorem Good.advance {p : Pl} (h : Good p) (t : Int) : Good (Hg.advance p t) := by
 have h1 := h.now
 have h2 : p.now ≤ (Hg.advance p t).now := by simp only [Hg.advance]; omega
 exact ⟨h.len, h.asked, h.want, h.tries, h.every, h.wait, ⟨h1.1, Int.le_trans h1.2.1 h2, by simp only [Hg.advance, Hg.top] at *; omega⟩, h.reached, fun x hx => by
  have := h.each x hx
  exact ⟨this.1, by omega, this.2.2.1, this.2.2.2⟩⟩
def mid (q : Pl) (i : Nat) : List En := (q.list.take i).map (Hg.tickE q.now q.wait q.tries) ++ q.list.drop i
theorem abM (q : Pl) : mid q 0 = q.list := by simp [mid]
theorem adx (q : Pl) : mid q q.list.length = (Hg.examine q).list := by simp [mid, Hg.examine]
theorem QR (q : Pl) (i : Nat) (h : i ≤ q.list.length) : (mid q i).length = q.list.length := by simp [mid]; omega
theorem VE (q : Pl) (i : Nat) (x : En) (h : q.list[i]? = some x) : (mid q i)[i]? = some x := by
 have hi := (List.getElem?_eq_some_iff.1 h).1
 unfold mid
 rw [List.getElem?_append_right (by simp; omega)]
 simp [h, Nat.min_eq_left (Nat.le_of_lt hi)]
theorem QS (q : Pl) (i : Nat) (x : En) (h : q.list[i]? = some x) : mid q (i + 1) = (mid q i).set i (Hg.tickE q.now q.wait q.tries x) := by
 obtain ⟨hi, rfl⟩ := List.getElem?_eq_some_iff.1 h
 unfold mid
 rw [List.set_append_right _ _ (by simp; omega), List.take_succ_eq_append_getElem hi]
 simp only [List.map_append, List.map_cons, List.map_nil, List.append_assoc, List.length_map, List.length_take, Nat.min_eq_left (Nat.le_of_lt hi), Nat.sub_self]
 congr 1
 rw [List.drop_eq_getElem_cons hi]
 rfl
theorem uh {β : Type} (f : En → List β) (l : List En) (i : Nat) (x : En) (h : l[i]? = some x) : (l.take (i + 1)).flatMap f = (l.take i).flatMap f ++ f x := by
 obtain ⟨hi, rfl⟩ := List.getElem?_eq_some_iff.1 h
 rw [List.take_succ_eq_append_getElem hi, List.flatMap_append, List.flatMap_cons, List.flatMap_nil, List.append_nil]
theorem zn {β : Type} (f : En → List β) (l : List En) (hf : ∀ x, (f x).length ≤ 1) (i : Nat) : ((l.take i).flatMap f).length ≤ i := by
 rw [List.length_flatMap]
 have : ∀ l : List En, (l.map fun x => (f x).length).sum ≤ l.length := fun l => by
  induction l with
  | nil => simp
  | cons x r ih => have := hf x; simp; omega
 have := this (l.take i)
 rw [List.length_take] at this
 omega
theorem JK : ∀ (l : List En) (i : Nat) (x y : En), l[i]? = some x → kq (l.set i y) = ((((kq l).set (i * 4 + 0) (.int .i64 y.up)).set (i * 4 + 1) (.int .i64 y.asked)).set (i * 4 + 2) (.int .i64 y.last)).set (i * 4 + 3) (.bool y.op)
 | [], i, x, y, h => by simp at h
 | z :: r, 0, x, y, h => by simp [qf, ky]
 | z :: r, i + 1, x, y, h => by
   rw [List.set_cons_succ, qf, qf, JK r i x y (by simpa using h)]
   rw [show (i + 1) * 4 + 0 = (i * 4 + 0) + 4 by omega, show (i + 1) * 4 + 1 = (i * 4 + 1) + 4 by omega, show (i + 1) * 4 + 2 = (i * 4 + 2) + 4 by omega, show (i + 1) * 4 + 3 = (i * 4 + 3) + 4 by omega]
   simp [ky]
theorem uW {l : List Value} {i : Nat} {v : Value} (h : l[i]? = some v) : l.set i v = l := by
 obtain ⟨hi, rfl⟩ := List.getElem?_eq_some_iff.1 h
 exact List.set_getElem_self hi
theorem KF (l : List En) (i : Nat) (x : En) (h : l[i]? = some x) : kq (l.set i { x with op := false }) = (kq l).set (i * 4 + 3) (.bool false) := by
 rw [JK l i x _ h]
 have h0 := qI l i 0 x h jd
 have h1 := qI l i 1 x h jd
 have h2 := qI l i 2 x h jd
 rw [uW (l := kq l) h0, uW (l := kq l) h1, uW (l := kq l) h2]
theorem WO (l : List En) (i : Nat) (x : En) (k n : Int) (h : l[i]? = some x) : kq (l.set i { x with asked := k, last := n }) = ((kq l).set (i * 4 + 1) (.int .i64 k)).set (i * 4 + 2) (.int .i64 n) := by
 rw [JK l i x _ h]
 have h0 := qI l i 0 x h jd
 have h3 := qI l i 3 x h jd
 rw [uW (l := kq l) h0]
 refine uW ?_
 rw [List.getElem?_set_ne jd, List.getElem?_set_ne jd]
 exact h3
theorem WP (q : Pl) (i : Nat) (x : En) (hx : q.list[i]? = some x) (hl : Hg.late q.now q.wait x = false) : mid q (i + 1) = mid q i ∧ (q.list.take (i + 1)).flatMap (Hg.goneE q.now q.wait q.tries) = (q.list.take i).flatMap (Hg.goneE q.now q.wait q.tries) ∧
 (q.list.take (i + 1)).flatMap (Hg.sendE q.now q.wait q.tries) = (q.list.take i).flatMap (Hg.sendE q.now q.wait q.tries) := by
 refine ⟨?_, ?_, ?_⟩
 · rw [QS q i x hx]
   have : Hg.tickE q.now q.wait q.tries x = x := by simp [Hg.tickE, hl]
   rw [this]
   obtain ⟨h1, h2⟩ := List.getElem?_eq_some_iff.1 (VE q i x hx)
   rw [← h2]
   exact List.set_getElem_self h1
 · rw [uh _ _ i x hx]; simp [Hg.goneE, hl]
 · rw [uh _ _ i x hx]; simp [Hg.sendE, hl]
theorem abN (q : Pl) (i : Nat) (x : En) (hx : q.list[i]? = some x) (hl : Hg.late q.now q.wait x = true) (ht : q.tries ≤ x.asked) : mid q (i + 1) = (mid q i).set i { x with op := false } ∧ (q.list.take (i + 1)).flatMap (Hg.goneE q.now q.wait q.tries) = (q.list.take i).flatMap (Hg.goneE q.now q.wait q.tries) ++ [x.up] ∧
 (q.list.take (i + 1)).flatMap (Hg.sendE q.now q.wait q.tries) = (q.list.take i).flatMap (Hg.sendE q.now q.wait q.tries) := by
 refine ⟨?_, ?_, ?_⟩
 · rw [QS q i x hx]; simp [Hg.tickE, hl, ht]
 · rw [uh _ _ i x hx]; simp [Hg.goneE, hl, ht]
 · rw [uh _ _ i x hx]; simp [Hg.sendE, hl, ht]
theorem abO (q : Pl) (i : Nat) (x : En) (hx : q.list[i]? = some x) (hl : Hg.late q.now q.wait x = true) (ht : ¬ q.tries ≤ x.asked) : mid q (i + 1) = (mid q i).set i { x with asked := x.asked + 1, last := q.now } ∧ (q.list.take (i + 1)).flatMap (Hg.goneE q.now q.wait q.tries) = (q.list.take i).flatMap (Hg.goneE q.now q.wait q.tries) ∧
 (q.list.take (i + 1)).flatMap (Hg.sendE q.now q.wait q.tries) = (q.list.take i).flatMap (Hg.sendE q.now q.wait q.tries) ++ [x.up] := by
 refine ⟨?_, ?_, ?_⟩
 · rw [QS q i x hx]; simp [Hg.tickE, hl, ht]
 · rw [uh _ _ i x hx]; simp [Hg.goneE, hl, ht]
 · rw [uh _ _ i x hx]; simp [Hg.sendE, hl, ht]
theorem zo {A B C D : ja} {p : Nat × Obj} : (p :: (A ++ (B ++ (C ++ D)))).Perm (C ++ (p :: (A ++ (B ++ D)))) := by
 have := perm_out (A := A ++ B) (B := C) (C := D) (p := p)
 simpa using this
theorem aeI (bp : Nat) (p : Pl) (a : Option Addr) (c : Nat) (B : ja) (now : Int) (hR : Row 160 4 (.slice a p.list.length c) p.list.length (kq p.list) B) (hG : Good p) (hb : p.begins = true) :
 Spec Tryz.prog G 47 #[.pointer (some ⟨bp, 0, none⟩), .int .i64 now] ((bp, .cells (jh p (.slice a p.list.length c)) 158 (0, 0)) :: (B ++ L)) fun u M => ∃ vg vs Bg Bs B', u = .tuple #[vg, vs] ∧
  Row 3 1 vg (Hg.tick p now).2.1.length (qM (Hg.tick p now).2.1) Bg ∧ Row 3 1 vs (Hg.tick p now).2.2.length (qM (Hg.tick p now).2.2) Bs ∧ Row 160 4 (.slice a p.list.length c) p.list.length (kq (Hg.tick p now).1.list) B' ∧
  M = (bp, .cells (jh (Hg.tick p now).1 (.slice a p.list.length c)) 158 (0, 0)) :: (B' ++ (Bg ++ (Bs ++ L))) := by
 have pc0 : (jh (p) (.slice a p.list.length c))[0 + 0]? = some (.slice a p.list.length c) := rfl
 have pc1 : (jh (p) (.slice a p.list.length c))[0 + 1]? = some (.int .i64 ((p).asked : Nat)) := rfl
 have pc2 : (jh (p) (.slice a p.list.length c))[0 + 2]? = some (.int .i64 (p).want) := rfl
 have pc3 : (jh (p) (.slice a p.list.length c))[0 + 3]? = some (.int .i64 (p).tries) := rfl
 have pc4 : (jh (p) (.slice a p.list.length c))[0 + 4]? = some (.int .i64 (p).every) := rfl
 have pc5 : (jh (p) (.slice a p.list.length c))[0 + 5]? = some (.int .i64 (p).wait) := rfl
 have pc6 : (jh (p) (.slice a p.list.length c))[0 + 6]? = some (.int .i64 (p).start) := rfl
 have pc7 : (jh (p) (.slice a p.list.length c))[0 + 7]? = some (.int .i64 (p).now) := rfl
 have pc8 : (jh (p) (.slice a p.list.length c))[0 + 8]? = some (.int .i64 (p).reached) := rfl
 have pc9 : (jh (p) (.slice a p.list.length c))[0 + 9]? = some (.bool (p).made) := rfl
 have pc10 : (jh (p) (.slice a p.list.length c))[0 + 10]? = some (.bool (p).begins) := rfl
 have g1 : Option.isNone (some (⟨bp, 0, none⟩ : Addr)) = false := rfl
 have g2 : (!p.begins) = false := by rw [hb]; rfl
 refine jl (n := 138) Tryz.func47 rfl rfl rfl ?_
 obtain ⟨q, hq⟩ : ∃ q, q = Hg.advance p now := ⟨_, rfl⟩
 have hGq : Good q := by rw [hq]; exact hG.advance now
 have hql : q.list = p.list := by rw [hq]; rfl
 have hqn : q.list.length = p.list.length := by rw [hql]
 repeat (first | (with_reducible first | refine j7 ?_ | refine jO ?_ | refine uj ?_ | refine qj ?_) | refine jy (Jv rfl) rfl ?_)
 refine abL (σ := Nat × Value × Value × ja × ja × ja) 0 (by rfl)
  (fun x => x.1 ≤ q.list.length ∧ Row 3 1 x.2.1 ((q.list.take x.1).flatMap (Hg.goneE q.now q.wait q.tries)).length (qM ((q.list.take x.1).flatMap (Hg.goneE q.now q.wait q.tries))) x.2.2.2.1 ∧
    Row 3 1 x.2.2.1 ((q.list.take x.1).flatMap (Hg.sendE q.now q.wait q.tries)).length (qM ((q.list.take x.1).flatMap (Hg.sendE q.now q.wait q.tries))) x.2.2.2.2.1 ∧ Row 160 4 (.slice a p.list.length c) p.list.length (kq (mid q x.1)) x.2.2.2.2.2)
  (fun x => [(0, .pointer (some ⟨bp, 0, none⟩)), (4, x.2.1), (5, x.2.2.1), (6, .int .i64 (x.1 : Nat))])
  (fun x => (bp, .cells (jh q (.slice a p.list.length c)) 158 (0, 0)) :: (x.2.2.2.2.2 ++ (x.2.2.2.1 ++ (x.2.2.2.2.1 ++ L)))) (fun x => q.list.length - x.1) ?_ ?_
 · intro pass
   repeat (first | (with_reducible first | refine j7 ?_ | refine jO ?_ | refine uj ?_ | refine qj ?_ | refine uK ?_) | refine jy (zg rfl) rfl ?_ | (refine' jy (uk rfl rfl ?_) rfl ?_; rotate_left 1; (· exact VN unO)) | (refine' jy (ke rfl ?_ rfl) rfl ?_; (· assumption)) | (refine kY rfl rfl ?_ ?_; (· assumption)) | refine jI (zg rfl) rfl ?_ | refine jI (aaL rfl) rfl ?_ | refine jI (JY rfl) rfl ?_ | refine jI (uq rfl Qb) rfl ?_ | (refine' jI (Y1 rfl plO ?_ ?_) rfl ?_; rotate_left 4; (· repeat (exact List.mem_cons_self)); (· assumption)) | (refine Vh rfl ?_ ?_; (· assumption)))
   refine jx (jb je rfl (UH bp p _ now)) rfl ?_
   rintro u0 M0 hM0
   rw [hM0, ← hq]
   clear hM0 M0
   repeat (first | (with_reducible first | refine j7 ?_ | refine jO ?_ | refine uj ?_ | refine qj ?_) | refine jy (Jv rfl) rfl ?_)
   refine qY ?_
   refine qj ?_
   refine VV _ _ ?_ ?_ (pass (0, .slice none 0 0, .slice none 0 0, [], [], B) ⟨Nat.zero_le _, Row.nil _ _, Row.nil _ _, ?_⟩)
   exact js
   · exact fun w hw => hw
   · dsimp only; rw [abM, hql]; exact hR
 rintro ⟨i, vg, vs, Bg, Bs, Be⟩ ⟨hi, hRg, hRs, hRe⟩
 dsimp only at hi hRg hRs hRe ⊢
 have qc0 : (jh (q) (.slice a p.list.length c))[0 + 0]? = some (.slice a p.list.length c) := rfl
 have qc1 : (jh (q) (.slice a p.list.length c))[0 + 1]? = some (.int .i64 ((q).asked : Nat)) := rfl
 have qc2 : (jh (q) (.slice a p.list.length c))[0 + 2]? = some (.int .i64 (q).want) := rfl
 have qc3 : (jh (q) (.slice a p.list.length c))[0 + 3]? = some (.int .i64 (q).tries) := rfl
 have qc4 : (jh (q) (.slice a p.list.length c))[0 + 4]? = some (.int .i64 (q).every) := rfl
 have qc5 : (jh (q) (.slice a p.list.length c))[0 + 5]? = some (.int .i64 (q).wait) := rfl
 have qc6 : (jh (q) (.slice a p.list.length c))[0 + 6]? = some (.int .i64 (q).start) := rfl
 have qc7 : (jh (q) (.slice a p.list.length c))[0 + 7]? = some (.int .i64 (q).now) := rfl
 have qc8 : (jh (q) (.slice a p.list.length c))[0 + 8]? = some (.int .i64 (q).reached) := rfl
 have qc9 : (jh (q) (.slice a p.list.length c))[0 + 9]? = some (.bool (q).made) := rfl
 have qc10 : (jh (q) (.slice a p.list.length c))[0 + 10]? = some (.bool (q).begins) := rfl
 have hlen := hGq.len
 have hnow := hGq.now
 have htr := hGq.tries
 have htop : Hg.top = 1099511627776 := rfl
 obtain ⟨mg, hmg⟩ : ∃ mg, mg = ((q.list.take i).flatMap (Hg.goneE q.now q.wait q.tries)).length := ⟨_, rfl⟩
 obtain ⟨ms, hms⟩ : ∃ ms, ms = ((q.list.take i).flatMap (Hg.sendE q.now q.wait q.tries)).length := ⟨_, rfl⟩
 have hmg9 : mg ≤ i := by rw [hmg]; exact zn _ _ (fun x => by unfold Hg.goneE; split <;> simp) _
 have hms9 : ms ≤ i := by rw [hms]; exact zn _ _ (fun x => by unfold Hg.sendE; split <;> simp) _
 rw [← hmg] at hRg
 rw [← hms] at hRs
 obtain ⟨ag, cg, rfl⟩ := hRg.slice
 obtain ⟨as1, cs1, rfl⟩ := hRs.slice
 by_cases hlt : i < q.list.length
 · have g3 : decide (((i : Nat) : Int) < ((p.list.length : Nat) : Int)) = true := decide_eq_true jd
   obtain ⟨x, hx⟩ : ∃ x, q.list[i]? = some x := ⟨_, List.getElem?_eq_getElem hlt⟩
   obtain ⟨e1, e2, e3, e4⟩ := hGq.each x (List.mem_of_getElem? hx)
   rcases hRe.is with ⟨_, h, _⟩ | ⟨be, cap, cur, hsl, rfl, h3, h4, h5, h6⟩
   · omega
   cases hsl
   have hat : ∀ j u, j < 4 → (ky x)[j]? = some u → cur[0 + i * 4 + j]? = some u := fun j u hj hu => by
    have := qI (mid q i) i j x (VE q i x hx) hj
    rw [← h6, List.getElem?_take_of_lt jd, hu] at this
    rw [Nat.zero_add]
    simpa using this
   have n0 : cur[0 + i * 4 + 0]? = some (.int .i64 x.up) := hat 0 _ jd rfl
   have n1 : cur[0 + i * 4 + 1]? = some (.int .i64 x.asked) := hat 1 _ jd rfl
   have n2 : cur[0 + i * 4 + 2]? = some (.int .i64 x.last) := hat 2 _ jd rfl
   have n3 : cur[0 + i * 4 + 3]? = some (.bool x.op) := hat 3 _ jd rfl
   have hK : ∀ y ∈ [(bp, Obj.cells (jh q (.slice (some ⟨be, 0, none⟩) p.list.length c)) 158 (0, 0)), (be, Obj.cells cur 160 (0, 0))], y ∈ (bp, Obj.cells (jh q (.slice (some ⟨be, 0, none⟩) p.list.length c)) 158 (0, 0)) :: ([(be, Obj.cells cur 160 (0, 0))] ++ (Bg ++ (Bs ++ L))) := fun y hy => by
    simp only [List.mem_cons, List.not_mem_nil, or_false] at hy
    rcases hy with rfl | rfl
    · exact List.mem_cons_self ..
    · exact List.mem_cons_of_mem _ (List.mem_cons_self ..)
   cases hop : x.op with
   | false =>
     have g4 : (!x.op) = true := by rw [hop]; rfl
     have hlate : Hg.late q.now q.wait x = false := by simp [Hg.late, hop]
     refine goD ?_
     refine jw jc ([(bp, Obj.cells (jh q (.slice (some ⟨be, 0, none⟩) p.list.length c)) 158 (0, 0)), (be, Obj.cells cur 160 (0, 0))]) [] ?_
     refine tkQ 0 ?_
     refine tkQ 1 ?_
     refine tkQ 2 ?_
     refine tkQ 3 ?_
     refine tkQ 4 ?_
     refine tkQ 5 ?_
     refine tkQ 6 ?_
     refine tkQ 7 ?_
     refine tkQ 8 ?_
     refine tkQ 9 ?_
     refine tkQ 10 ?_
     refine tkQ 11 ?_
     refine tkQ 12 ?_
     refine tkQ 13 ?_
     refine tkQ 14 ?_
     refine tkQ 15 ?_
     refine tkQ 16 ?_
     refine tkQ 17 ?_
     refine tkQ 18 ?_
     refine tkQ 19 ?_
     refine tkQ 20 ?_
     refine tdQ ?_
     refine goD ?_
     obtain ⟨k1, k2, k3⟩ := WP q i x hx hlate
     refine U1 ?_
     repeat refine j0 ?_
     refine KQ (i + 1, .slice ag mg cg, .slice as1 ms cs1, Bg, Bs, [(be, Obj.cells cur 160 (0, 0))]) ⟨hlt, ?_, ?_, ?_⟩ ?_ ?_ ?_
     · dsimp only; rw [k2, ← hmg]; exact hRg
     · dsimp only; rw [k3, ← hms]; exact hRs
     · dsimp only; rw [k1]; exact hRe
     exact js
     · exact fun w hw => hw
     · dsimp only; omega
   | true =>
   have g4 : (!x.op) = false := by rw [hop]; rfl
   by_cases hw : q.now - x.last < q.wait
   · have g5 : decide (q.now - x.last < q.wait) = true := decide_eq_true hw
     have hlate : Hg.late q.now q.wait x = false := by simp [Hg.late, hop, hw]
     refine goD ?_
     refine jw jc ([(bp, Obj.cells (jh q (.slice (some ⟨be, 0, none⟩) p.list.length c)) 158 (0, 0)), (be, Obj.cells cur 160 (0, 0))]) [] ?_
     refine tkQ 0 ?_
     refine tkQ 1 ?_
     refine tkQ 2 ?_
     refine tkQ 3 ?_
     refine tkQ 4 ?_
     refine tkQ 5 ?_
     refine tkQ 6 ?_
     refine tkQ 7 ?_
     refine tkQ 8 ?_
     refine tkQ 9 ?_
     refine tkQ 10 ?_
     refine tkQ 11 ?_
     refine tkQ 12 ?_
     refine tkQ 13 ?_
     refine tkQ 14 ?_
     refine tkQ 15 ?_
     refine tkQ 16 ?_
     refine tkQ 17 ?_
     refine tkQ 18 ?_
     refine tkQ 19 ?_
     refine tkQ 20 ?_
     refine tdQ ?_
     refine goD ?_
     obtain ⟨k1, k2, k3⟩ := WP q i x hx hlate
     refine U1 ?_
     repeat refine j0 ?_
     refine KQ (i + 1, .slice ag mg cg, .slice as1 ms cs1, Bg, Bs, [(be, Obj.cells cur 160 (0, 0))]) ⟨hlt, ?_, ?_, ?_⟩ ?_ ?_ ?_
     · dsimp only; rw [k2, ← hmg]; exact hRg
     · dsimp only; rw [k3, ← hms]; exact hRs
     · dsimp only; rw [k1]; exact hRe
     exact js
     · exact fun w hw => hw
     · dsimp only; omega
   have g5 : decide (q.now - x.last < q.wait) = false := decide_eq_false hw
   have hlate : Hg.late q.now q.wait x = true := by simp [Hg.late, hop]; omega
   by_cases ht : q.tries ≤ x.asked
   · have g6 : decide (q.tries ≤ x.asked) = true := decide_eq_true ht
     obtain ⟨k1, k2, k3⟩ := abN q i x hx hlate ht
     have m0 : (cur.setIfInBounds (0 + i * 4 + 3) (.bool false))[0 + i * 4 + 0]? = some (.int .i64 x.up) := by rw [Array.getElem?_setIfInBounds_ne jd]; exact n0
     refine goD ?_
     refine jw jc ([(bp, Obj.cells (jh q (.slice (some ⟨be, 0, none⟩) p.list.length c)) 158 (0, 0)), (be, Obj.cells cur 160 (0, 0))]) [] ?_
     refine tkQ 0 ?_
     refine tkQ 1 ?_
     refine tkQ 2 ?_
     refine tkQ 3 ?_
     refine tkQ 4 ?_
     refine tkQ 5 ?_
     refine tkQ 6 ?_
     refine tkQ 7 ?_
     refine tkQ 8 ?_
     refine tkQ 9 ?_
     refine tkQ 10 ?_
     refine tkQ 11 ?_
     refine tkQ 12 ?_
     refine tkQ 13 ?_
     refine tkQ 14 ?_
     refine tkQ 15 ?_
     refine tkQ 16 ?_
     refine tkQ 17 ?_
     refine tkQ 18 ?_
     refine tkQ 19 ?_
     refine tkQ 20 ?_
     refine tdQ ?_
     refine goD ?_
     refine jw jc ([(bp, Obj.cells (jh q (.slice (some ⟨be, 0, none⟩) p.list.length c)) 158 (0, 0)), (be, Obj.cells cur 160 (0, 0))]) [] ?_
     refine tkQ 0 ?_
     refine tkQ 1 ?_
     refine tkQ 2 ?_
     refine tkQ 3 ?_
     refine tkQ 4 ?_
     refine tkQ 5 ?_
     refine tkQ 6 ?_
     refine tkQ 7 ?_
     refine tkQ 8 ?_
     refine tdQ ?_
     repeat (first | refine goD ?_ | (refine qh ?_; intro bLit))
     refine qq (List.Perm.cons _ (perm_out (A := [_]))) ?_
     refine u7 etO rfl rfl hRg rfl (by unfold maxLen; omega) jd rfl ?_
     intro v4 B4 hR4
     obtain ⟨a4, c4, rfl⟩ := hR4.slice
     refine goD ?_
     refine U1 ?_
     repeat refine j0 ?_
     refine KQ (i + 1, .slice a4 (mg + 1) c4, .slice as1 ms cs1, B4, Bs, [(be, Obj.cells (cur.setIfInBounds (0 + i * 4 + 3) (.bool false)) 160 (0, 0))]) ⟨hlt, ?_, ?_, ?_⟩ ?_ ?_ ?_
     · dsimp only; rw [k2, List.length_append, ← hmg]; simpa [qM] using hR4
     · dsimp only; rw [k3, ← hms]; exact hRs
     · dsimp only
       refine ⟨by rw [k1, ud, List.length_set, QR q i hi, hqn], Or.inr ⟨be, c, _, rfl, rfl, h3, h4, by simpa using h5, ?_⟩⟩
       rw [k1, take_set, h6, KF _ _ _ (VE q i x hx), Nat.zero_add]
     exact js
     · exact fun w hw => hw.perm (perm_out (A := [_])).symm
     · dsimp only; omega
   · have g6 : decide (q.tries ≤ x.asked) = false := decide_eq_false ht
     obtain ⟨k1, k2, k3⟩ := abO q i x hx hlate ht
     have m2 : (cur.setIfInBounds (0 + i * 4 + 1) (.int .i64 (x.asked + 1)))[0 + i * 4 + 2]? = some (.int .i64 x.last) := by rw [Array.getElem?_setIfInBounds_ne jd]; exact n2
     have m0 : ((cur.setIfInBounds (0 + i * 4 + 1) (.int .i64 (x.asked + 1))).setIfInBounds (0 + i * 4 + 2) (.int .i64 q.now))[0 + i * 4 + 0]? = some (.int .i64 x.up) := by rw [Array.getElem?_setIfInBounds_ne jd, Array.getElem?_setIfInBounds_ne jd]; exact n0
     refine goD ?_
     refine jw jc ([(bp, Obj.cells (jh q (.slice (some ⟨be, 0, none⟩) p.list.length c)) 158 (0, 0)), (be, Obj.cells cur 160 (0, 0))]) [] ?_
     refine tkQ 0 ?_
     refine tkQ 1 ?_
     refine tkQ 2 ?_
     refine tkQ 3 ?_
     refine tkQ 4 ?_
     refine tkQ 5 ?_
     refine tkQ 6 ?_
     refine tkQ 7 ?_
     refine tkQ 8 ?_
     refine tkQ 9 ?_
     refine tkQ 10 ?_
     refine tkQ 11 ?_
     refine tkQ 12 ?_
     refine tkQ 13 ?_
     refine tkQ 14 ?_
     refine tkQ 15 ?_
     refine tkQ 16 ?_
     refine tkQ 17 ?_
     refine tkQ 18 ?_
     refine tkQ 19 ?_
     refine tkQ 20 ?_
     refine tdQ ?_
     refine goD ?_
     refine jw jc ([(bp, Obj.cells (jh q (.slice (some ⟨be, 0, none⟩) p.list.length c)) 158 (0, 0)), (be, Obj.cells cur 160 (0, 0))]) [] ?_
     refine tkQ 0 ?_
     refine tkQ 1 ?_
     refine tkQ 2 ?_
     refine tkQ 3 ?_
     refine tkQ 4 ?_
     refine tkQ 5 ?_
     refine tkQ 6 ?_
     refine tkQ 7 ?_
     refine tkQ 8 ?_
     refine tdQ ?_
     repeat (first | refine goD ?_ | (refine qh ?_; intro bLit))
     refine qq (List.Perm.cons _ (zo (A := [_]))) ?_
     refine u7 etO rfl rfl hRs rfl (by unfold maxLen; omega) jd rfl ?_
     intro v4 B4 hR4
     obtain ⟨a4, c4, rfl⟩ := hR4.slice
     refine goD ?_
     refine U1 ?_
     repeat refine j0 ?_
     refine KQ (i + 1, .slice ag mg cg, .slice a4 (ms + 1) c4, Bg, B4, [(be, Obj.cells ((cur.setIfInBounds (0 + i * 4 + 1) (.int .i64 (x.asked + 1))).setIfInBounds (0 + i * 4 + 2) (.int .i64 q.now)) 160 (0, 0))]) ⟨hlt, ?_, ?_, ?_⟩ ?_ ?_ ?_
     · dsimp only; rw [k2, ← hmg]; exact hRg
     · dsimp only; rw [k3, List.length_append, ← hms]; simpa [qM] using hR4
     · dsimp only
       refine ⟨by rw [k1, ud, List.length_set, QR q i hi, hqn], Or.inr ⟨be, c, _, rfl, rfl, h3, h4, by simpa using h5, ?_⟩⟩
       rw [k1, take_set, take_set, h6, WO _ _ _ _ _ (VE q i x hx), Nat.zero_add]
     exact js
     · exact fun w hw => hw.perm (zo (A := [_])).symm
     · dsimp only; omega
 · have g3 : decide (((i : Nat) : Int) < ((p.list.length : Nat) : Int)) = false := decide_eq_false jd
   have hie : i = q.list.length := by omega
   subst hie
   rw [List.take_length] at hmg hms hRg hRs
   rw [adx] at hRe
   obtain ⟨k, hk⟩ : ∃ k, k = (q.now - q.start) / q.every := ⟨_, rfl⟩
   have hev := hGq.every
   have hk0 : 0 ≤ (q.now - q.start) / q.every := Int.ediv_nonneg jd jd
   have hk1 : (q.now - q.start) / q.every ≤ q.now - q.start := Int.ediv_le_self _ jd
   have htick : Hg.tick p now = ((Hg.hedged (Hg.examine q)).1, q.list.flatMap (Hg.goneE q.now q.wait q.tries), q.list.flatMap (Hg.sendE q.now q.wait q.tries) ++ (Hg.hedged (Hg.examine q)).2) := by
    unfold Hg.tick
    rw [if_neg (by rw [g2]; simp), hq]
   have hK : ∀ y ∈ [(bp, Obj.cells (jh q (.slice a p.list.length c)) 158 (0, 0))], y ∈ (bp, Obj.cells (jh q (.slice a p.list.length c)) 158 (0, 0)) :: (Be ++ (Bg ++ (Bs ++ L))) := fun y hy => by
    rw [List.mem_singleton.1 hy]; exact List.mem_cons_self ..
   have hxl : (Hg.examine q).list.length = p.list.length := by simp [Hg.examine, hqn]
   by_cases hkr : q.reached < (q.now - q.start) / q.every
   · have g7 : decide (q.reached < (q.now - q.start) / q.every) = true := decide_eq_true hkr
     refine goD ?_
     refine jw jc ([(bp, Obj.cells (jh q (.slice a p.list.length c)) 158 (0, 0))]) [] ?_
     refine tkQ 0 ?_
     refine tkQ 1 ?_
     refine tkQ 2 ?_
     refine tkQ 3 ?_
     refine tkQ 4 ?_
     refine tkQ 5 ?_
     refine tkQ 6 ?_
     refine tkQ 7 ?_
     refine tkQ 8 ?_
     refine tkQ 9 ?_
     refine tkQ 10 ?_
     refine tkQ 11 ?_
     refine tkQ 12 ?_
     refine tkQ 13 ?_
     refine tkQ 14 ?_
     refine tdQ ?_
     refine goD ?_
     obtain ⟨q1, hq1⟩ : ∃ q1 : Pl, q1 = { Hg.examine q with reached := (q.now - q.start) / q.every } := ⟨_, rfl⟩
     have hq1l : q1.list = (Hg.examine q).list := by rw [hq1]
     have hq1n : q1.list.length = p.list.length := by rw [hq1l, hxl]
     refine VV [(0, .pointer (some ⟨bp, 0, none⟩)), (4, .slice ag mg cg), (5, .slice as1 ms cs1)] ((bp, .cells (jh q1 (.slice a p.list.length c)) 158 (0, 0)) :: (Be ++ (Bg ++ (Bs ++ L)))) ?_ ?_ ?_
     exact js
     · intro w hw
       rw [hq1]
       exact hw
     have sc0 : (jh (q1) (.slice a p.list.length c))[0 + 0]? = some (.slice a p.list.length c) := rfl
     have sc1 : (jh (q1) (.slice a p.list.length c))[0 + 1]? = some (.int .i64 ((q1).asked : Nat)) := rfl
     have sc2 : (jh (q1) (.slice a p.list.length c))[0 + 2]? = some (.int .i64 (q1).want) := rfl
     have sc3 : (jh (q1) (.slice a p.list.length c))[0 + 3]? = some (.int .i64 (q1).tries) := rfl
     have sc4 : (jh (q1) (.slice a p.list.length c))[0 + 4]? = some (.int .i64 (q1).every) := rfl
     have sc5 : (jh (q1) (.slice a p.list.length c))[0 + 5]? = some (.int .i64 (q1).wait) := rfl
     have sc6 : (jh (q1) (.slice a p.list.length c))[0 + 6]? = some (.int .i64 (q1).start) := rfl
     have sc7 : (jh (q1) (.slice a p.list.length c))[0 + 7]? = some (.int .i64 (q1).now) := rfl
     have sc8 : (jh (q1) (.slice a p.list.length c))[0 + 8]? = some (.int .i64 (q1).reached) := rfl
     have sc9 : (jh (q1) (.slice a p.list.length c))[0 + 9]? = some (.bool (q1).made) := rfl
     have sc10 : (jh (q1) (.slice a p.list.length c))[0 + 10]? = some (.bool (q1).begins) := rfl
     have hK : ∀ y ∈ [(bp, Obj.cells (jh q1 (.slice a p.list.length c)) 158 (0, 0))], y ∈ (bp, Obj.cells (jh q1 (.slice a p.list.length c)) 158 (0, 0)) :: (Be ++ (Bg ++ (Bs ++ L))) := fun y hy => by
      rw [List.mem_singleton.1 hy]; exact List.mem_cons_self ..
     have hhed : Hg.hedged (Hg.examine q) = if q1.asked < q1.list.length then (Hg.next q1, [Hg.upAt q1 q1.asked]) else (q1, []) := by
      unfold Hg.hedged
      rw [if_pos (by exact hkr), hq1]
      rfl
     by_cases hal : q1.asked < q1.list.length
     · have g8 : decide (((q1.asked : Nat) : Int) < ((p.list.length : Nat) : Int)) = true := decide_eq_true jd
       rw [if_pos hal] at hhed
       rw [hhed] at htick
       skip
       refine jw jc ([(bp, Obj.cells (jh q1 (.slice a p.list.length c)) 158 (0, 0))]) [] ?_
       refine tkQ 0 ?_
       refine tkQ 1 ?_
       refine tkQ 2 ?_
       refine tkQ 3 ?_
       refine tkQ 4 ?_
       refine tkQ 5 ?_
       refine tkQ 6 ?_
       refine tkQ 7 ?_
       refine tkQ 8 ?_
       refine tkQ 9 ?_
       refine tdQ ?_
       refine goD ?_
       refine jx (jb je rfl (YF bp q1 _ Be (by rw [hq1n, hq1l]; exact hRe) jd jd)) rfl ?_
       rintro _ M1 ⟨rfl, B3, hR3, hM1⟩
       rw [hM1]
       clear hM1 M1
       repeat (refine jP (KP etO rfl rfl) rfl ?_; intro bLit)
       refine qq (List.Perm.cons _ (zo (A := B3))) ?_
       refine u7 etO rfl rfl hRs rfl (by unfold maxLen; omega) jd rfl ?_
       intro v4 B4 hR4
       obtain ⟨a4, c4, rfl⟩ := hR4.slice
       refine goD ?_
       refine yE ?_
       refine jr (fun w hw => hw.perm (zo (A := B3)).symm) ?_
       refine kd 4 5 _ _ rfl rfl rfl ?_
       rw [htick]
       refine ⟨_, _, Bg, B4, B3, rfl, ?_, ?_, ?_, rfl⟩
       · dsimp only; rw [← hmg]; exact hRg
       · dsimp only; rw [List.length_append, ← hms]; simpa [qM] using hR4
       · dsimp only
         have : (Hg.next q1).list.length = p.list.length := by simp [Hg.next, hq1n]
         rw [this] at hR3
         exact hR3
     · have g8 : decide (((q1.asked : Nat) : Int) < ((p.list.length : Nat) : Int)) = false := decide_eq_false jd
       rw [if_neg hal] at hhed
       rw [hhed, List.append_nil] at htick
       skip
       refine jw jc ([(bp, Obj.cells (jh q1 (.slice a p.list.length c)) 158 (0, 0))]) [] ?_
       refine tkQ 0 ?_
       refine tkQ 1 ?_
       refine tkQ 2 ?_
       refine tkQ 3 ?_
       refine tkQ 4 ?_
       refine tkQ 5 ?_
       refine tkQ 6 ?_
       refine tkQ 7 ?_
       refine tkQ 8 ?_
       refine tkQ 9 ?_
       refine tdQ ?_
       refine goD ?_
       refine yE ?_
       refine kd 4 5 _ _ rfl rfl rfl ?_
       rw [htick]
       refine ⟨_, _, Bg, Bs, Be, rfl, ?_, ?_, ?_, rfl⟩
       · dsimp only; rw [← hmg]; exact hRg
       · dsimp only; rw [← hms]; exact hRs
       · dsimp only; rw [hq1l]; exact hRe
   · have g7 : decide (q.reached < (q.now - q.start) / q.every) = false := decide_eq_false hkr
     have hhed : Hg.hedged (Hg.examine q) = (Hg.examine q, []) := by
      unfold Hg.hedged
      rw [if_neg (by exact hkr)]
     rw [hhed, List.append_nil] at htick
     refine goD ?_
     refine jw jc ([(bp, Obj.cells (jh q (.slice a p.list.length c)) 158 (0, 0))]) [] ?_
     refine tkQ 0 ?_
     refine tkQ 1 ?_
     refine tkQ 2 ?_
     refine tkQ 3 ?_
     refine tkQ 4 ?_
     refine tkQ 5 ?_
     refine tkQ 6 ?_
     refine tkQ 7 ?_
     refine tkQ 8 ?_
     refine tkQ 9 ?_
     refine tkQ 10 ?_
     refine tkQ 11 ?_
     refine tkQ 12 ?_
     refine tkQ 13 ?_
     refine tkQ 14 ?_
     refine tdQ ?_
     refine goD ?_
     refine yE ?_
     refine kd 4 5 _ _ rfl rfl rfl ?_
     rw [htick]
     refine ⟨_, _, Bg, Bs, Be, rfl, ?_, ?_, ?_, rfl⟩
     · dsimp only; rw [← hmg]; exact hRg
     · dsimp only; rw [← hms]; exact hRs
     · exact hRe
end Go.Proofs.YtbjkkoacclfejaaGreat
namespace Go.Proofs.YtbjkkoacclfejaaGreat
open Go.RowKit
open Hg (En Pl)
section
variable {G : World} {P : Program} {n : Nat} {ρ : jB} {L : ja} {ty : TypeId} {Q : Exit → Act → World → Prop}
def IRow (L : ja) (v : Value) (l : List Int) : Prop := ∃ a cap, v = .slice a l.length cap ∧ (l = [] ∨ ∃ b off C te fr, a = some ⟨b, off, none⟩ ∧ (b, Obj.cells C te fr) ∈ L ∧ ∀ i x, l[i]? = some x → C[off + i * 1]? = some (.int .i64 x))
theorem Row.irow {e : TypeId} {v : Value} {l : List Int} {B : ja} {m : Nat} (h : Row e 1 v m (qM l) B) (hB : ∀ p ∈ B, p ∈ L) : IRow L v l := by
 have hlen : l.length = m := by have := h.len; simpa [qM] using this
 subst hlen
 rcases h.is with ⟨h1, h2, _⟩ | ⟨b, cap, cur, h1, h2, h3, h4, h5, h6⟩
 · exact ⟨none, 0, by rw [h1, h2], Or.inl (List.eq_nil_of_length_eq_zero h2)⟩
 · refine ⟨_, cap, h1, Or.inr ⟨b, 0, cur, e, (0, 0), rfl, hB _ (by rw [h2]; exact List.mem_cons_self ..), fun i x hi => ?_⟩⟩
   have hil := (List.getElem?_eq_some_iff.1 hi).1
   have : (cur.toList.take (l.length * 1))[i]? = some (Value.int .i64 x) := by rw [h6]; simp [qM, hi]
   rw [List.getElem?_take_of_lt jd] at this
   simpa using this
theorem IRow.mono {L L' : ja} {v : Value} {l : List Int} (h : IRow L v l) (hs : ∀ p ∈ L, p ∈ L') : IRow L' v l := by
 obtain ⟨a, cap, h1, h2⟩ := h
 refine ⟨a, cap, h1, h2.imp id ?_⟩
 rintro ⟨b, off, C, te, fr, q1, q2, q3⟩
 exact ⟨b, off, C, te, fr, q1, hs _ q2, q3⟩
theorem IRow.nil (cap : Nat) (a : Option Addr) : IRow L (.slice a 0 cap) [] := ⟨a, cap, rfl, Or.inl rfl⟩
end
theorem UI (u : Int) : ∀ (l : List En) (k : Nat) (x : En), (∀ y ∈ l.take k, Hg.isIt u y = false) → l[k]? = some x → Hg.isIt u x = true → Hg.closeL u l = l.set k { x with op := false } ∧ l.any (Hg.isIt u) = true
 | [], k, x, _, h, _ => by simp at h
 | y :: r, 0, x, _, h, hf => by simp at h; subst h; simp [Hg.closeL, hf]
 | y :: r, k + 1, x, ha, h, hf => by
   have h1 := ha y (by simp)
   obtain ⟨h2, h3⟩ := UI u r k x (fun z hz => ha z (by simp [hz])) (by simpa using h) hf
   simp [Hg.closeL, h1, h2, h3]
theorem KG (u : Int) : ∀ (l : List En), (∀ y ∈ l, Hg.isIt u y = false) → Hg.closeL u l = l ∧ l.any (Hg.isIt u) = false
 | [], _ => ⟨rfl, rfl⟩
 | y :: r, ha => by
   have h1 := ha y (by simp)
   obtain ⟨h2, h3⟩ := KG u r fun z hz => ha z (by simp [hz])
   simp only [Hg.closeL, h1, List.any_cons, Bool.false_or]
   exact ⟨by simp [h2], h3⟩
theorem WQ {α : Type} {p : α → Prop} {l : List α} {k : Nat} {x : α} (h : ∀ y ∈ l.take k, p y) (hx : l[k]? = some x) (hp : p x) : ∀ y ∈ l.take (k + 1), p y := by
 obtain ⟨hk, rfl⟩ := List.getElem?_eq_some_iff.1 hx
 intro y hy
 rw [List.take_succ_eq_append_getElem hk] at hy
 rcases List.mem_append.1 hy with h1 | h1
 · exact h y h1
 · rw [List.mem_singleton.1 h1]; exact hp
variable {G : World} {L : ja}
theorem abP : jV Tryz.prog 160 4 = true := by kernel_rfl
theorem zM (x : En) : ∀ v ∈ ky x, v.oneCell' = true := by
 intro v hv
 simp only [ky, List.mem_cons, List.not_mem_nil, or_false] at hv
 rcases hv with rfl | rfl | rfl | rfl <;> rfl
theorem UJ {cur : Array Value} {l : List En} {m k : Nat} {x : En} (h6 : cur.toList.take (m * 4) = kq l) (hx : l[k]? = some x) (hk : k < m) : ∀ j v, (ky x)[j]? = some v → cur[0 + k * 4 + j]? = some v := by
 intro j v hj
 have hj4 : j < 4 := by have := (List.getElem?_eq_some_iff.1 hj).1; simpa [ky] using this
 have := qI l k j x hx hj4
 rw [← h6, List.getElem?_take_of_lt jd, hj] at this
 rw [Nat.zero_add]
 simpa using this
theorem aeJ (bp : Nat) (p : Pl) (a : Option Addr) (c : Nat) (B : ja) (hR : Row 160 4 (.slice a p.list.length c) p.list.length (kq p.list) B) (hl : p.list.length ≤ 9) :
 Spec Tryz.prog G 66 #[.pointer (some ⟨bp, 0, none⟩)] ((bp, .cells (jh p (.slice a p.list.length c)) 158 (0, 0)) :: (B ++ L)) fun u M => u = .int .i64 (Hg.opens p) ∧ M = (bp, .cells (jh p (.slice a p.list.length c)) 158 (0, 0)) :: (B ++ L) := by
 have pc0 : (jh (p) (.slice a p.list.length c))[0 + 0]? = some (.slice a p.list.length c) := rfl
 have pc1 : (jh (p) (.slice a p.list.length c))[0 + 1]? = some (.int .i64 ((p).asked : Nat)) := rfl
 have pc2 : (jh (p) (.slice a p.list.length c))[0 + 2]? = some (.int .i64 (p).want) := rfl
 have pc3 : (jh (p) (.slice a p.list.length c))[0 + 3]? = some (.int .i64 (p).tries) := rfl
 have pc4 : (jh (p) (.slice a p.list.length c))[0 + 4]? = some (.int .i64 (p).every) := rfl
 have pc5 : (jh (p) (.slice a p.list.length c))[0 + 5]? = some (.int .i64 (p).wait) := rfl
 have pc6 : (jh (p) (.slice a p.list.length c))[0 + 6]? = some (.int .i64 (p).start) := rfl
 have pc7 : (jh (p) (.slice a p.list.length c))[0 + 7]? = some (.int .i64 (p).now) := rfl
 have pc8 : (jh (p) (.slice a p.list.length c))[0 + 8]? = some (.int .i64 (p).reached) := rfl
 have pc9 : (jh (p) (.slice a p.list.length c))[0 + 9]? = some (.bool (p).made) := rfl
 have pc10 : (jh (p) (.slice a p.list.length c))[0 + 10]? = some (.bool (p).begins) := rfl
 have g1 : Option.isNone (some (⟨bp, 0, none⟩ : Addr)) = false := rfl
 refine jl (n := 23) Tryz.func66 rfl rfl rfl ?_
 refine goD ?_
 refine jz (σ := Nat) (fun k => k ≤ p.list.length) (fun k => [(3, .int .i64 (((p.list.take k).filter (·.op)).length : Nat)), (11, .slice a p.list.length c), (12, .int .i64 (p.list.length : Nat)), (13, .int .i64 (k : Nat))]) (fun k => (bp, .cells (jh p (.slice a p.list.length c)) 158 (0, 0)) :: (B ++ L)) (fun k => p.list.length - k) 0 (Nat.zero_le _) ?_ (fun w h => h) ?_
 exact js
 intro k hk
 by_cases hlt : k < p.list.length
 · have d1 : decide (((k : Nat) : Int) < ((p.list.length : Nat) : Int)) = true := decide_eq_true jd
   obtain ⟨x, hx⟩ : ∃ x, p.list[k]? = some x := ⟨_, List.getElem?_eq_getElem hlt⟩
   rcases hR.is with ⟨_, h, _⟩ | ⟨be, cap, cur, hsl, rfl, h3, h4, h5, h6⟩
   · omega
   cases hsl
   have hcx := UJ h6 hx hlt
   have hf : ((p.list.take (k + 1)).filter (·.op)).length = ((p.list.take k).filter (·.op)).length + (if x.op then 1 else 0) := by
    obtain ⟨hi, rfl⟩ := List.getElem?_eq_some_iff.1 hx
    rw [List.take_succ_eq_append_getElem hi, List.filter_append, List.length_append]
    cases hop : p.list[k].op <;> simp [hop]
   have hm : ((p.list.take k).filter (·.op)).length ≤ 9 := Nat.le_trans (List.length_filter_le _ _) (by simp; omega)
   refine goD ?_
   refine jy (jA (ky x) rfl abP (List.mem_cons_of_mem _ (List.mem_cons_self ..)) hcx) rfl ?_
   repeat (first | refine goD ?_ | (refine jQ ?_; intro bNew))
   cases hop : x.op with
   | false =>
     rw [hop] at hf
     refine goD ?_
     refine jg (k + 1) hlt ?_ (fun w h => h.tail) jd
     rw [hf]
     exact js
   | true =>
     rw [hop] at hf
     refine goD ?_
     refine jg (k + 1) hlt ?_ (fun w h => h.tail) jd
     rw [hf]
     exact js
 · have d1 : decide (((k : Nat) : Int) < ((p.list.length : Nat) : Int)) = false := decide_eq_false jd
   have hkn : k = p.list.length := by omega
   subst hkn
   rw [List.take_length]
   refine goD ?_
   refine jf 2 _ rfl rfl ?_
   exact ⟨rfl, rfl⟩
theorem ady (bp : Nat) (p : Pl) (a : Option Addr) (c : Nat) (B : ja) (u : Int) (hR : Row 160 4 (.slice a p.list.length c) p.list.length (kq p.list) B) (hl : p.list.length ≤ 9) :
 Spec Tryz.prog G 48 #[.pointer (some ⟨bp, 0, none⟩), .int .i64 u] ((bp, .cells (jh p (.slice a p.list.length c)) 158 (0, 0)) :: (B ++ L)) fun r M => r = .bool (Hg.close p u).2 ∧ ∃ B', Row 160 4 (.slice a p.list.length c) p.list.length (kq (Hg.close p u).1.list) B' ∧
  M = (bp, .cells (jh (Hg.close p u).1 (.slice a p.list.length c)) 158 (0, 0)) :: (B' ++ L) := by
 have pc0 : (jh (p) (.slice a p.list.length c))[0 + 0]? = some (.slice a p.list.length c) := rfl
 have pc1 : (jh (p) (.slice a p.list.length c))[0 + 1]? = some (.int .i64 ((p).asked : Nat)) := rfl
 have pc2 : (jh (p) (.slice a p.list.length c))[0 + 2]? = some (.int .i64 (p).want) := rfl
 have pc3 : (jh (p) (.slice a p.list.length c))[0 + 3]? = some (.int .i64 (p).tries) := rfl
 have pc4 : (jh (p) (.slice a p.list.length c))[0 + 4]? = some (.int .i64 (p).every) := rfl
 have pc5 : (jh (p) (.slice a p.list.length c))[0 + 5]? = some (.int .i64 (p).wait) := rfl
 have pc6 : (jh (p) (.slice a p.list.length c))[0 + 6]? = some (.int .i64 (p).start) := rfl
 have pc7 : (jh (p) (.slice a p.list.length c))[0 + 7]? = some (.int .i64 (p).now) := rfl
 have pc8 : (jh (p) (.slice a p.list.length c))[0 + 8]? = some (.int .i64 (p).reached) := rfl
 have pc9 : (jh (p) (.slice a p.list.length c))[0 + 9]? = some (.bool (p).made) := rfl
 have pc10 : (jh (p) (.slice a p.list.length c))[0 + 10]? = some (.bool (p).begins) := rfl
 have g1 : Option.isNone (some (⟨bp, 0, none⟩ : Addr)) = false := rfl
 refine jl (n := 44) Tryz.func48 rfl rfl rfl ?_
 refine goD ?_
 refine jz (σ := Nat) (fun k => k ≤ p.list.length ∧ ∀ y ∈ p.list.take k, Hg.isIt u y = false) (fun k => [(0, .pointer (some ⟨bp, 0, none⟩)), (1, .int .i64 u), (12, .int .i64 (p.list.length : Nat)), (13, .int .i64 (k : Nat))]) (fun k => (bp, .cells (jh p (.slice a p.list.length c)) 158 (0, 0)) :: (B ++ L)) (fun k => p.list.length - k) 0 ⟨Nat.zero_le _, by simp⟩ ?_ (fun w h => h) ?_
 exact js
 rintro k ⟨hk, hno⟩
 by_cases hlt : k < p.list.length
 · have d1 : decide (((k : Nat) : Int) < ((p.list.length : Nat) : Int)) = true := decide_eq_true jd
   obtain ⟨x, hx⟩ : ∃ x, p.list[k]? = some x := ⟨_, List.getElem?_eq_getElem hlt⟩
   rcases hR.is with ⟨_, h, _⟩ | ⟨be, cap, cur, hsl, rfl, h3, h4, h5, h6⟩
   · omega
   cases hsl
   have hcx := UJ h6 hx hlt
   have n0 : cur[0 + k * 4 + 0]? = some (.int .i64 x.up) := hcx 0 _ rfl
   have n3 : cur[0 + k * 4 + 3]? = some (.bool x.op) := hcx 3 _ rfl
   cases hup : x.up == u with
   | false =>
     refine goD ?_
     refine jg (k + 1) ⟨hlt, WQ hno hx (by simp [Hg.isIt, hup])⟩ ?_ (fun w h => h) jd
     exact js
   | true =>
     cases hop : x.op with
     | false =>
       rw [hop] at n3
       refine goD ?_
       refine jg (k + 1) ⟨hlt, WQ hno hx (by simp [Hg.isIt, hop])⟩ ?_ (fun w h => h) jd
       exact js
     | true =>
       rw [hop] at n3
       obtain ⟨k1, k2⟩ := UI u p.list k x hno hx (by simp [Hg.isIt, hop, hup])
       refine goD ?_
       refine jf 4 _ rfl rfl ?_
       refine ⟨by rw [Hg.close, k2], [(be, Obj.cells (cur.setIfInBounds (0 + k * 4 + 3) (.bool false)) 160 (0, 0))], ?_, rfl⟩
       refine ⟨by simp only [Hg.close]; rw [k1, ud, List.length_set], Or.inr ⟨be, c, _, rfl, rfl, h3, h4, by simpa using h5, ?_⟩⟩
       simp only [Hg.close]
       rw [k1, take_set, h6, KF _ _ _ hx, Nat.zero_add]
 · have d1 : decide (((k : Nat) : Int) < ((p.list.length : Nat) : Int)) = false := decide_eq_false jd
   have hkn : k = p.list.length := by omega
   subst hkn
   rw [List.take_length] at hno
   obtain ⟨k1, k2⟩ := KG u p.list hno
   refine goD ?_
   refine jf 4 _ rfl rfl ?_
   refine ⟨by rw [Hg.close, k2], B, ?_, rfl⟩
   simp only [Hg.close]
   rw [k1]
   exact hR
theorem JL (va vb : Value) (la lb : List Int) (ha : IRow L va la) (hb : IRow L vb lb) (hla : la.length ≤ 1000000) : Spec Tryz.prog G 57 #[va, vb] L fun u M => u = .bool (la == lb) ∧ M = L := by
 obtain ⟨aa, ca, rfl, ha⟩ := ha
 obtain ⟨ab, cb, rfl, hb⟩ := hb
 refine jl (n := 26) Tryz.func57 rfl rfl rfl ?_
 by_cases hlen : la.length = lb.length
 · have d0 : (((la.length : Nat) : Int) != ((lb.length : Nat) : Int)) = false := by simp [hlen]
   refine goD ?_
   refine jz (σ := Nat) (fun k => k ≤ la.length ∧ la.take k = lb.take k) (fun k => [(0, .slice aa la.length ca), (1, .slice ab lb.length cb), (5, .int .i64 (k : Nat))]) (fun k => L) (fun k => la.length - k) 0 ⟨Nat.zero_le _, by simp⟩ ?_ (fun w h => h) ?_
   exact js
   rintro k ⟨hk, heq⟩
   by_cases hlt : k < la.length
   · have d1 : decide (((k : Nat) : Int) < ((la.length : Nat) : Int)) = true := decide_eq_true jd
     obtain ⟨x, hx⟩ : ∃ x, la[k]? = some x := ⟨_, List.getElem?_eq_getElem hlt⟩
     obtain ⟨y, hy⟩ : ∃ y, lb[k]? = some y := ⟨_, List.getElem?_eq_getElem (hlen ▸ hlt)⟩
     rcases ha with rfl | ⟨b1, o1, C1, t1, f1, rfl, m1, q1⟩
     · simp at hlt
     rcases hb with rfl | ⟨b2, o2, C2, t2, f2, rfl, m2, q2⟩
     · simp at hy
     have r1 := q1 k x hx
     have r2 := q2 k y hy
     have hK : ∀ z ∈ [(b1, Obj.cells C1 t1 f1), (b2, Obj.cells C2 t2 f2)], z ∈ L := fun z hz => by
      simp only [List.mem_cons, List.not_mem_nil, or_false] at hz
      rcases hz with rfl | rfl <;> assumption
     by_cases hxy : x = y
     · have d2 : (x != y) = false := by simp [hxy]
       refine goD ?_
       refine jw jc ([(b1, Obj.cells C1 t1 f1), (b2, Obj.cells C2 t2 f2)]) [] ?_
       refine tkQ 0 ?_
       refine tkQ 1 ?_
       refine tkQ 2 ?_
       refine tkQ 3 ?_
       refine tkQ 4 ?_
       refine tkQ 5 ?_
       refine tkQ 6 ?_
       refine tkQ 7 ?_
       refine tkQ 8 ?_
       refine tdQ ?_
       refine goD ?_
       refine jg (k + 1) ⟨hlt, ?_⟩ ?_ (fun w h => h) jd
       · subst hxy
         rw [List.take_add_one, List.take_add_one, heq, hx, hy]
       exact js
     · have d2 : (x != y) = true := by simp [hxy]
       refine goD ?_
       refine jw jc ([(b1, Obj.cells C1 t1 f1), (b2, Obj.cells C2 t2 f2)]) [] ?_
       refine tkQ 0 ?_
       refine tkQ 1 ?_
       refine tkQ 2 ?_
       refine tkQ 3 ?_
       refine tkQ 4 ?_
       refine tkQ 5 ?_
       refine tkQ 6 ?_
       refine tkQ 7 ?_
       refine tkQ 8 ?_
       refine tdQ ?_
       refine goD ?_
       refine jf 4 _ rfl rfl ?_
       refine ⟨?_, rfl⟩
       have : la ≠ lb := fun e => hxy (by rw [e, hy] at hx; exact (Option.some.inj hx).symm)
       simp [this]
   · have d1 : decide (((k : Nat) : Int) < ((la.length : Nat) : Int)) = false := decide_eq_false jd
     have hkn : k = la.length := by omega
     subst hkn
     rw [List.take_length, hlen, List.take_length] at heq
     refine goD ?_
     refine jf 4 _ rfl rfl ?_
     exact ⟨by simp [heq], rfl⟩
 · have d0 : (((la.length : Nat) : Int) != ((lb.length : Nat) : Int)) = true := by simp; omega
   refine goD ?_
   refine jf 4 _ rfl rfl ?_
   refine ⟨?_, rfl⟩
   have : la ≠ lb := fun e => hlen (by rw [e])
   simp [this]
end Go.Proofs.YtbjkkoacclfejaaGreat
namespace Go.Proofs.YtbjkkoacclfejaaGreat
open Go.RowKit
open Hg (En Pl)
variable {G : World} {L : ja}
structure IsPlan (bp : Nat) (p : Pl) (M : ja) : Prop where
 is : ∃ a c B, Row 160 4 (.slice a p.list.length c) p.list.length (kq p.list) B ∧ M = (bp, .cells (jh p (.slice a p.list.length c)) 158 (0, 0)) :: B
 good : Good p
theorem WR (u : Int) : Built Tryz.prog 160 [(0, .int .i64 u)] (.agg #[.int .i64 u, .int .i64 0, .int .i64 0, .bool false]) := ⟨fun w => by kernel_rfl⟩
theorem YG (a b c d e f : Int) : Built Tryz.prog 158 [(2, .int .i64 a), (3, .int .i64 b), (4, .int .i64 c), (5, .int .i64 d), (6, .int .i64 e), (7, .int .i64 f), (9, .bool true)] (.agg #[.slice none 0 0, .int .i64 0, .int .i64 a, .int .i64 b, .int .i64 c, .int .i64 d, .int .i64 e, .int .i64 f, .int .i64 0, .bool true, .bool false]) := ⟨fun w => by kernel_rfl⟩
def zp (l : List Int) : Array Value := #[.bool (l.contains 0), .bool (l.contains 1), .bool (l.contains 2), .bool (l.contains 3), .bool (l.contains 4), .bool (l.contains 5), .bool (l.contains 6), .bool (l.contains 7), .bool (l.contains 8)]
theorem ag4 {u : Int} (h0 : 0 ≤ u) (h8 : u ≤ 8) : u = 0 ∨ u = 1 ∨ u = 2 ∨ u = 3 ∨ u = 4 ∨ u = 5 ∨ u = 6 ∨ u = 7 ∨ u = 8 := by omega
theorem Zl (l : List Int) (u : Int) (h0 : 0 ≤ u) (h8 : u ≤ 8) : (zp l)[0 + u.toNat * 1]? = some (.bool (l.contains u)) := by
 rcases ag4 h0 h8 with rfl | rfl | rfl | rfl | rfl | rfl | rfl | rfl | rfl <;> rfl
theorem WS (l : List Int) (u : Int) (h0 : 0 ≤ u) (h8 : u ≤ 8) : (zp l).setIfInBounds (0 + u.toNat * 1) (.bool true) = zp (l ++ [u]) := by
 rcases ag4 h0 h8 with rfl | rfl | rfl | rfl | rfl | rfl | rfl | rfl | rfl <;> simp [zp]
theorem Row.src {sz : Nat} {b : Nat} {cs : List Value} {te : TypeId} (hm : (b, Obj.cells cs.toArray te (0, 0)) ∈ L) (hn : cs.length = sz) (hone : ∀ v ∈ cs, v.oneCell' = true) : Src L (.slice (some ⟨b, 0, none⟩) 1 1) 1 cs sz :=
 ⟨by omega, hone, Or.inr ⟨b, 0, 1, cs.toArray, te, (0, 0), rfl, hm, fun j x hj => by rw [Nat.zero_add]; simpa using hj⟩⟩
theorem Zm (l : List Int) (want every wait tries now : Int) (h9 : l.length ≤ 9) (hw : 1 ≤ want ∧ want ≤ 9) (he : 1 ≤ every ∧ every ≤ 1000) (ha : 1 ≤ wait ∧ wait ≤ 1000) (ht : 1 ≤ tries ∧ tries ≤ 4) (ho : 0 ≤ now ∧ now ≤ 1099511627776) : Good (Hg.mk l want every wait tries now) :=
 ⟨by simpa [Hg.mk] using h9, by simp [Hg.mk], hw, ht, he, ha, ⟨ho.1, Int.le_refl _, ho.2⟩, ⟨by simp [Hg.mk], by simp [Hg.mk, Hg.top]⟩, fun x hx => by
   simp only [Hg.mk, List.mem_map] at hx
   obtain ⟨u, _, rfl⟩ := hx
   simp only [Hg.fresh, Hg.mk]
   omega⟩
theorem ag5 (vl : Value) (l : List Int) (want every wait tries now : Int) (hl : IRow L vl l) (h9 : l.length ≤ 9) (hr : ∀ u ∈ l, 0 ≤ u ∧ u ≤ 8) (hn : l.Nodup) (hw : 1 ≤ want ∧ want ≤ 9) (he : 1 ≤ every ∧ every ≤ 1000) (ha : 1 ≤ wait ∧ wait ≤ 1000) (ht : 1 ≤ tries ∧ tries ≤ 4) (ho : 0 ≤ now ∧ now ≤ 1099511627776) :
 Spec Tryz.prog G 40 #[vl, .int .i64 want, .int .i64 every, .int .i64 wait, .int .i64 tries, .int .i64 now] L fun u M => ∃ bp N, u = .tuple #[.pointer (some ⟨bp, 0, none⟩), .int .i64 0] ∧ IsPlan bp (Hg.mk l want every wait tries now) N ∧ M = N ++ L := by
 obtain ⟨al, cl, rfl, hl⟩ := hl
 have d0 : decide ((9 : Int) < ((l.length : Nat) : Int)) = false := decide_eq_false jd
 have w1 : decide (want < 1) = false := decide_eq_false jd
 have w2 : decide (9 < want) = false := decide_eq_false jd
 have e1 : decide (every < 1) = false := decide_eq_false jd
 have e2 : decide (1000 < every) = false := decide_eq_false jd
 have a1 : decide (wait < 1) = false := decide_eq_false jd
 have a2 : decide (1000 < wait) = false := decide_eq_false jd
 have t1 : decide (tries < 1) = false := decide_eq_false jd
 have t2 : decide (4 < tries) = false := decide_eq_false jd
 have o1 : decide (now < 0) = false := decide_eq_false jd
 have o2 : decide (1099511627776 < now) = false := decide_eq_false jd
 refine jl (n := 106) Tryz.func40 rfl rfl rfl ?_
 repeat (first | refine goD ?_ | (refine jQ ?_; intro bNew))
 refine jz (σ := Nat) (fun k => k ≤ l.length) (fun k => [(0, .slice al l.length cl), (1, .int .i64 want), (2, .int .i64 every), (3, .int .i64 wait), (4, .int .i64 tries), (5, .int .i64 now), (14, .pointer (some ⟨bNew, 0, none⟩)), (23, .slice al l.length cl), (24, .int .i64 (l.length : Nat)), (25, .int .i64 (k : Nat))]) (fun k => (bNew, .cells (zp (l.take k)) 48 (0, 0)) :: L) (fun k => l.length - k) 0 (Nat.zero_le _) ?_ (fun w h => h) ?_
 exact js
 intro k hk
 by_cases hlt : k < l.length
 · have d1 : decide (((k : Nat) : Int) < ((l.length : Nat) : Int)) = true := decide_eq_true jd
   obtain ⟨x, hx⟩ : ∃ x, l[k]? = some x := ⟨_, List.getElem?_eq_getElem hlt⟩
   obtain ⟨r1, r2⟩ := hr x (List.mem_of_getElem? hx)
   rcases hl with rfl | ⟨b1, o1, C1, t1, f1, rfl, m1, q1⟩
   · simp at hlt
   have c1 := q1 k x hx
   have g1 : decide (x < 0) = false := decide_eq_false jd
   have g2 : decide (9 ≤ x) = false := decide_eq_false jd
   have g3 := Zl (l.take k) x r1 r2
   have g4 : (l.take k).contains x = false := by
    obtain ⟨hi, rfl⟩ := List.getElem?_eq_some_iff.1 hx
    rw [List.contains_eq_mem, decide_eq_false_iff_not]
    intro hm
    obtain ⟨j, hj, e⟩ := List.getElem_of_mem hm
    have hj' : j < k := by simp at hj; omega
    rw [List.getElem_take] at e
    have := (List.getElem_inj hn).1 e
    omega
   rw [g4] at g3
   refine goD ?_
   refine jg (k + 1) hlt ?_ (fun w h => ?_) jd
   exact js
   rw [WS _ _ r1 r2] at h
   obtain ⟨hi, rfl⟩ := List.getElem?_eq_some_iff.1 hx
   rw [List.take_succ_eq_append_getElem hi]
   exact h
 have d1 : decide (((k : Nat) : Int) < ((l.length : Nat) : Int)) = false := decide_eq_false jd
 refine goD ?_
 refine jy (jm (vs := [(2, .int .i64 want), (3, .int .i64 tries), (4, .int .i64 every), (5, .int .i64 wait), (6, .int .i64 now), (7, .int .i64 now), (9, .bool true)]) rfl (YG ..)) rfl ?_
 refine jP (Ye rfl rfl) rfl ?_
 intro bp
 refine goD ?_
 obtain ⟨P0, hP0⟩ : ∃ P0, P0 = Hg.mk l want every wait tries now := ⟨_, rfl⟩
 refine jz (σ := Nat × Option Addr × Nat × ja) (fun x => x.1 ≤ l.length ∧ Row 160 4 (.slice x.2.1 x.1 x.2.2.1) x.1 (kq ((l.take x.1).map Hg.fresh)) x.2.2.2) (fun x => [(17, .pointer (some ⟨bp, 0, none⟩)), (87, .slice al l.length cl), (88, .int .i64 (l.length : Nat)), (89, .int .i64 (x.1 : Nat))]) (fun x => (bp, .cells (jh P0 (.slice x.2.1 x.1 x.2.2.1)) 158 (0, 0)) :: (x.2.2.2 ++ L)) (fun x => l.length - x.1) (0, none, 0, []) ⟨Nat.zero_le _, Row.nil _ _⟩ ?_ (fun w h => ?_) ?_
 exact js
 · rw [hP0]
   exact h.sub ((List.sublist_cons_self _ _).cons_cons _)
 rintro ⟨k, a, c, B⟩ ⟨hk, hR⟩
 dsimp only at hk hR ⊢
 by_cases hlt : k < l.length
 · have d1 : decide (((k : Nat) : Int) < ((l.length : Nat) : Int)) = true := decide_eq_true jd
   obtain ⟨x, hx⟩ : ∃ x, l[k]? = some x := ⟨_, List.getElem?_eq_getElem hlt⟩
   rcases hl with rfl | ⟨b1, o1, C1, t1, f1, rfl, m1, q1⟩
   · simp at hlt
   have c1 := q1 k x hx
   have m2 : (b1, Obj.cells C1 t1 f1) ∈ B ++ L := List.mem_append_right _ m1
   have pc0 : (jh P0 (.slice a k c))[0 + 0]? = some (.slice a k c) := rfl
   refine goD ?_
   refine jy (jm (vs := [(0, .int .i64 x)]) rfl (WR x)) rfl ?_
   refine jP (ko rfl (u9 (C := (ky (Hg.fresh x)).toArray) etO [.agg (ky (Hg.fresh x)).toArray] rfl (by simp [ky, Value.cells]) (by decide) rfl)) rfl ?_
   intro bl
   refine qq (L' := B ++ ((bl, Obj.cells (ky (Hg.fresh x)).toArray 160 (0, 0)) :: (bp, .cells (jh P0 (.slice a k c)) 158 (0, 0)) :: L)) ?_ ?_
   · exact (List.perm_middle (a := (bp, Obj.cells (jh P0 (.slice a k c)) 158 (0, 0))).symm.cons _).trans List.perm_middle.symm
   refine Jw etO rfl rfl hR (Row.src (List.mem_cons_self ..) (by rfl) (zM _)) (by unfold maxLen; omega) jd rfl ?_
   intro v2 B2 hR2
   obtain ⟨a2, c2, rfl⟩ := hR2.slice
   refine qv (L' := (bp, .cells (jh P0 (.slice a k c)) 158 (0, 0)) :: (B2 ++ L)) (fun w h => ?_) ?_
   · exact (h.perm List.perm_middle).tail.perm List.perm_middle
   refine goD ?_
   refine jg (k + 1, a2, c2, B2) ⟨hlt, ?_⟩ ?_ (fun w h => h) (by dsimp only; omega)
   · obtain ⟨hi, rfl⟩ := List.getElem?_eq_some_iff.1 hx
     dsimp only
     rw [List.take_succ_eq_append_getElem hi, List.map_append]
     simpa [kq] using hR2
   exact js
 have d1 : decide (((k : Nat) : Int) < ((l.length : Nat) : Int)) = false := decide_eq_false jd
 have hkn : k = l.length := by omega
 subst hkn
 rw [List.take_length] at hR
 refine goD ?_
 refine kd 12 13 _ _ rfl rfl rfl ?_
 refine ⟨bp, (bp, .cells (jh P0 (.slice a l.length c)) 158 (0, 0)) :: B, rfl, ⟨⟨a, c, B, ?_, ?_⟩, Zm l want every wait tries now h9 hw he ha ht ho⟩, rfl⟩
 · simpa [Hg.mk] using hR
 · rw [hP0]; simp [Hg.mk]
end Go.Proofs.YtbjkkoacclfejaaGreat
namespace Go.Proofs.YtbjkkoacclfejaaGreat
open Go.RowKit
open Hg (En Pl)
variable {G : World} {L : ja}
theorem Good.examine {p : Pl} (h : Good p) : Good (Hg.examine p) := by
 refine ⟨by simpa [Hg.examine] using h.len, by simpa [Hg.examine] using h.asked, h.want, h.tries, h.every, h.wait, h.now, h.reached, fun x hx => ?_⟩
 simp only [Hg.examine, List.mem_map] at hx
 obtain ⟨y, hy, rfl⟩ := hx
 have h1 := h.each y hy
 have h2 := h.now
 simp only [Hg.tickE, Hg.examine]
 split
 · split <;> dsimp only <;> omega
 · exact h1
theorem Good.next {p : Pl} (h : Good p) (ha : p.asked < p.list.length) : Good (Hg.next p) := by
 have h2 := h.now
 have h3 := h.tries
 refine ⟨by simpa [Hg.next] using h.len, by simp [Hg.next]; omega, h.want, h.tries, h.every, h.wait, h.now, h.reached, fun x hx => ?_⟩
 simp only [Hg.next] at hx ⊢
 obtain ⟨i, hi, rfl⟩ := List.getElem_of_mem hx
 rw [List.getElem_modify]
 have hi' : i < p.list.length := by simpa using hi
 have h1 := h.each p.list[i] (List.getElem_mem hi')
 split
 · simp only [Hg.askAt]; omega
 · exact h1
theorem Good.hedged {p : Pl} (h : Good p) : Good (Hg.hedged p).1 := by
 have h2 := h.now
 have h3 := h.every
 have h4 : 0 ≤ (p.now - p.start) / p.every := Int.ediv_nonneg jd jd
 have h5 : (p.now - p.start) / p.every ≤ p.now - p.start := Int.ediv_le_self _ jd
 have hq : Good { p with reached := (p.now - p.start) / p.every } := ⟨h.len, h.asked, h.want, h.tries, h.every, h.wait, h.now, ⟨h4, by dsimp only; omega⟩, h.each⟩
 unfold Hg.hedged
 dsimp only
 split
 · split
   · rename_i h6; exact hq.next h6
   · exact hq
 · exact h
theorem Good.tick {p : Pl} (h : Good p) (t : Int) : Good (Hg.tick p t).1 := by
 unfold Hg.tick
 split
 · exact h
 · exact (h.advance t).examine.hedged
theorem Good.more {p : Pl} (h : Good p) (t : Int) : Good (Hg.more p t).1 := by
 unfold Hg.more
 split
 · exact h
 · dsimp only
   split
   · exact h.advance t
   · exact (h.advance t).next jd
theorem ym (u : Int) : ∀ l, (Hg.closeL u l).length = l.length
 | [] => rfl
 | x :: r => by
   unfold Hg.closeL
   split
   · simp
   · simp [ym u r]
theorem QT (u : Int) : ∀ l, ∀ x ∈ Hg.closeL u l, ∃ y ∈ l, x.last = y.last ∧ x.asked = y.asked ∧ x.up = y.up
 | [], x, h => by simp [Hg.closeL] at h
 | z :: r, x, h => by
   unfold Hg.closeL at h
   split at h
   · rcases List.mem_cons.1 h with rfl | h
     · exact ⟨z, List.mem_cons_self .., rfl, rfl, rfl⟩
     · exact ⟨x, List.mem_cons_of_mem _ h, rfl, rfl, rfl⟩
   · rcases List.mem_cons.1 h with rfl | h
     · exact ⟨x, List.mem_cons_self .., rfl, rfl, rfl⟩
     · obtain ⟨y, h1, h2⟩ := QT u r x h
       exact ⟨y, List.mem_cons_of_mem _ h1, h2⟩
theorem Good.close {p : Pl} (h : Good p) (u : Int) : Good (Hg.close p u).1 := by
 refine ⟨by simpa [Hg.close, ym] using h.len, by simpa [Hg.close, ym] using h.asked, h.want, h.tries, h.every, h.wait, h.now, h.reached, fun x hx => ?_⟩
 simp only [Hg.close] at hx ⊢
 obtain ⟨y, h1, h2, h3, _⟩ := QT u _ x hx
 rw [h2, h3]
 exact h.each y h1
theorem Good.nexts : ∀ (k : Nat) {p : Pl}, Good p → k ≤ p.list.length - p.asked → Good (Hg.nexts k p).1
 | 0, p, h, _ => h
 | k + 1, p, h, hk => Good.nexts k (h.next jd) (by simp only [Hg.next, List.length_modify]; omega)
theorem Good.begin' {p : Pl} (h : Good p) : Good (Hg.begin' p).1 := by
 unfold Hg.begin'
 split
 · exact h
 · exact Good.nexts _ (p := { p with begins := true }) ⟨h.len, h.asked, h.want, h.tries, h.every, h.wait, h.now, h.reached, h.each⟩ (Nat.min_le_right _ _)
theorem WT (p : Pl) (t : Int) : (Hg.tick p t).1.list.length = p.list.length := by
 unfold Hg.tick
 split
 · rfl
 · simp only [Hg.hedged]
   split
   · split <;> simp [Hg.next, Hg.examine, Hg.advance]
   · simp [Hg.examine, Hg.advance]
theorem WU (p : Pl) (t : Int) : (Hg.tick p t).1.begins = p.begins := by
 unfold Hg.tick
 split
 · rfl
 · simp only [Hg.hedged]
   split
   · split <;> simp [Hg.next, Hg.examine, Hg.advance]
   · simp [Hg.examine, Hg.advance]
theorem QU (p : Pl) (t : Int) : (Hg.more p t).1.list.length = p.list.length := by
 unfold Hg.more
 split
 · rfl
 · dsimp only
   split <;> simp [Hg.next, Hg.advance]
theorem WV (p : Pl) (t : Int) : (Hg.more p t).1.begins = p.begins := by
 unfold Hg.more
 split
 · rfl
 · dsimp only
   split <;> simp [Hg.next, Hg.advance]
theorem JM (p : Pl) : (Hg.begin' p).1.list.length = p.list.length := by
 unfold Hg.begin'
 split
 · rfl
 · exact (qU _ _).2.1
theorem Jl : ∀ (k : Nat) (p : Pl), (Hg.nexts k p).1.begins = p.begins
 | 0, p => rfl
 | k + 1, p => Jl k (Hg.next p)
theorem VF (p : Pl) (h : p.made = true) : (Hg.begin' p).1.begins = true := by
 unfold Hg.begin'
 split
 · rename_i h1; simpa [h] using h1
 · exact Jl _ _
theorem aaa (p : Pl) (t : Int) : (Hg.tick p t).2.1.length ≤ 1000000 ∧ (Hg.tick p t).2.2.length ≤ 1000000 ∨ ¬ p.list.length ≤ 9 := by
 by_cases h9 : p.list.length ≤ 9
 · left
   unfold Hg.tick
   split
   · simp
   · have f1 := zn (Hg.goneE (Hg.advance p t).now (Hg.advance p t).wait (Hg.advance p t).tries) (Hg.advance p t).list (fun x => by unfold Hg.goneE; split <;> simp) p.list.length
     have f2 := zn (Hg.sendE (Hg.advance p t).now (Hg.advance p t).wait (Hg.advance p t).tries) (Hg.advance p t).list (fun x => by unfold Hg.sendE; split <;> simp) p.list.length
     rw [List.take_of_length_le (by simp [Hg.advance])] at f1 f2
     have f3 : (Hg.hedged (Hg.examine (Hg.advance p t))).2.length ≤ 1 := by
      unfold Hg.hedged
      dsimp only
      split
      · split <;> simp
      · simp
     refine ⟨by dsimp only; omega, ?_⟩
     dsimp only
     rw [List.length_append]
     omega
 · exact Or.inr h9
theorem IsPlan.len {bp : Nat} {p : Pl} {M : ja} (h : IsPlan bp p M) : p.list.length ≤ 9 := h.good.len
theorem aeK {bp : Nat} {p : Pl} {M : ja} (h : IsPlan bp p M) (hb : p.begins = true) (now : Int) : Spec Tryz.prog G 47 #[.pointer (some ⟨bp, 0, none⟩), .int .i64 now] (M ++ L) fun u N => ∃ ag cg az cs Bg Bs M', u = .tuple #[.slice ag (Hg.tick p now).2.1.length cg, .slice az (Hg.tick p now).2.2.length cs] ∧
 Row 3 1 (.slice ag (Hg.tick p now).2.1.length cg) (Hg.tick p now).2.1.length (qM (Hg.tick p now).2.1) Bg ∧ Row 3 1 (.slice az (Hg.tick p now).2.2.length cs) (Hg.tick p now).2.2.length (qM (Hg.tick p now).2.2) Bs ∧ IsPlan bp (Hg.tick p now).1 M' ∧ N = M' ++ (Bg ++ (Bs ++ L)) := by
 obtain ⟨⟨a, c, B, hR, rfl⟩, hg⟩ := h
 refine (aeI bp p a c B now hR hg hb).mono ?_
 rintro _ _ ⟨vg, vs, Bg, Bs, B', rfl, h1, h2, h3, rfl⟩
 obtain ⟨ag, cg, rfl⟩ := h1.slice
 obtain ⟨az, cs, rfl⟩ := h2.slice
 exact ⟨ag, cg, az, cs, Bg, Bs, _, rfl, h1, h2, ⟨⟨a, c, B', by rw [WT]; exact h3, rfl⟩, hg.tick now⟩, by rw [WT]; rfl⟩
theorem aeL {bp : Nat} {p : Pl} {M : ja} (h : IsPlan bp p M) (now : Int) : Spec Tryz.prog G 70 #[.pointer (some ⟨bp, 0, none⟩), .int .i64 now] (M ++ L) fun u N => u = .tuple #[.int .i64 (Hg.more p now).2.1, .bool (Hg.more p now).2.2] ∧ ∃ M', IsPlan bp (Hg.more p now).1 M' ∧ N = M' ++ L := by
 obtain ⟨⟨a, c, B, hR, rfl⟩, hg⟩ := h
 refine (aeH bp p a c B now hR hg.len).mono ?_
 rintro _ _ ⟨rfl, B', h3, rfl⟩
 rw [QU] at h3
 exact ⟨rfl, _, ⟨⟨a, c, B', by rw [QU]; exact h3, rfl⟩, hg.more now⟩, by rw [QU]; rfl⟩
theorem Zn {bp : Nat} {p : Pl} {M : ja} (h : IsPlan bp p M) (x : Int) : Spec Tryz.prog G 48 #[.pointer (some ⟨bp, 0, none⟩), .int .i64 x] (M ++ L) fun u N => u = .bool (Hg.close p x).2 ∧ ∃ M', IsPlan bp (Hg.close p x).1 M' ∧ N = M' ++ L := by
 obtain ⟨⟨a, c, B, hR, rfl⟩, hg⟩ := h
 refine (ady bp p a c B x hR hg.len).mono ?_
 rintro _ _ ⟨rfl, B', h3, rfl⟩
 have hl : (Hg.close p x).1.list.length = p.list.length := ym _ _
 exact ⟨rfl, _, ⟨⟨a, c, B', by rw [hl]; exact h3, rfl⟩, hg.close x⟩, by rw [hl]; rfl⟩
theorem adz {bp : Nat} {p : Pl} {M : ja} (h : IsPlan bp p M) (hm : p.made = true) (hg : p.begins = false) (hz : p.asked = 0) : Spec Tryz.prog G 42 #[.pointer (some ⟨bp, 0, none⟩)] (M ++ L) fun u N => ∃ a1 c1 B1 M', u = .slice a1 (Hg.begin' p).2.length c1 ∧ Row 3 1 (.slice a1 (Hg.begin' p).2.length c1) (Hg.begin' p).2.length (qM (Hg.begin' p).2) B1 ∧ IsPlan bp (Hg.begin' p).1 M' ∧ N = M' ++ (B1 ++ L) := by
 obtain ⟨⟨a, c, B, hR, rfl⟩, hG⟩ := h
 refine (adw bp p a c B hR hG.len hG.want hm hg hz).mono ?_
 rintro u _ ⟨B1, B', h1, h3, rfl⟩
 obtain ⟨a1, c1, rfl⟩ := h1.slice
 rw [JM] at h3
 exact ⟨a1, c1, B1, _, rfl, h1, ⟨⟨a, c, B', by rw [JM]; exact h3, rfl⟩, hG.begin'⟩, by rw [JM]; rfl⟩
theorem aeM {bp : Nat} {p : Pl} {M : ja} (h : IsPlan bp p M) : Spec Tryz.prog G 66 #[.pointer (some ⟨bp, 0, none⟩)] (M ++ L) fun u N => u = .int .i64 (Hg.opens p) ∧ N = M ++ L := by
 obtain ⟨⟨a, c, B, hR, rfl⟩, hG⟩ := h
 exact aeJ bp p a c B hR hG.len
end Go.Proofs.YtbjkkoacclfejaaGreat
namespace Go.Proofs.YtbjkkoacclfejaaGreat
open Go.RowKit
open Hg (En Pl)
variable {G : World} {L : ja}
def ais (wait : Int) (d : Int) (x : En) : Int := if x.op then min d (x.last + wait) else d
def ag6 (p : Pl) : Int := p.list.foldl (ais p.wait) (Hg.top + 1)
def dueT (p : Pl) : Int := max (if p.asked < p.list.length then min (ag6 p) (p.start + (p.reached + 1) * p.every) else ag6 p) (p.now + 1)
def due (p : Pl) : Int × Bool := if !p.begins then (0, false) else if Hg.top < dueT p then (0, false) else (dueT p, true)
end Go.Proofs.YtbjkkoacclfejaaGreat
namespace Go.Proofs.YtbjkkoacclfejaaGreat
open Go.RowKit
open Hg (En Pl)
variable {G : World} {L : ja}
theorem Row.toSrc {e : TypeId} {sz : Nat} {v : Value} {m : Nat} {xs : List Value} {B : ja} (h : Row e sz v m xs B) (hB : ∀ p ∈ B, p ∈ L) (hone : ∀ x ∈ xs, x.oneCell' = true) : Src L v m xs sz := by
 refine ⟨h.len, hone, ?_⟩
 rcases h.is with ⟨h1, h2, h3⟩ | ⟨b, cap, cur, h1, h2, h3, h4, h5, h6⟩
 · exact Or.inl ⟨0, by rw [h1], h2⟩
 · refine Or.inr ⟨b, 0, cap, cur, e, (0, 0), h1, hB _ (by rw [h2]; exact List.mem_cons_self ..), fun j x hj => ?_⟩
   have hjl := (List.getElem?_eq_some_iff.1 hj).1
   have hlen := h.len
   rw [← h6, List.getElem?_take_of_lt jd] at hj
   rw [Nat.zero_add]
   simpa using hj
theorem aab (l : List En) : ∀ v ∈ kq l, v.oneCell' = true := by
 intro v hv
 obtain ⟨x, _, hx⟩ := List.mem_flatMap.1 hv
 exact zM x v hx
theorem aeN {bp : Nat} {p : Pl} {M : ja} (h : IsPlan bp p M) : Spec Tryz.prog G 50 #[.pointer (some ⟨bp, 0, none⟩)] (M ++ L) fun u N => ∃ bq M2, u = .pointer (some ⟨bq, 0, none⟩) ∧ IsPlan bq p M2 ∧ N = M2 ++ (M ++ L) := by
 obtain ⟨⟨a, c, B, hR, rfl⟩, hG⟩ := h
 have pc0 : (jh (p) (.slice a p.list.length c))[0 + 0]? = some (.slice a p.list.length c) := rfl
 have pc1 : (jh (p) (.slice a p.list.length c))[0 + 1]? = some (.int .i64 ((p).asked : Nat)) := rfl
 have pc2 : (jh (p) (.slice a p.list.length c))[0 + 2]? = some (.int .i64 (p).want) := rfl
 have pc3 : (jh (p) (.slice a p.list.length c))[0 + 3]? = some (.int .i64 (p).tries) := rfl
 have pc4 : (jh (p) (.slice a p.list.length c))[0 + 4]? = some (.int .i64 (p).every) := rfl
 have pc5 : (jh (p) (.slice a p.list.length c))[0 + 5]? = some (.int .i64 (p).wait) := rfl
 have pc6 : (jh (p) (.slice a p.list.length c))[0 + 6]? = some (.int .i64 (p).start) := rfl
 have pc7 : (jh (p) (.slice a p.list.length c))[0 + 7]? = some (.int .i64 (p).now) := rfl
 have pc8 : (jh (p) (.slice a p.list.length c))[0 + 8]? = some (.int .i64 (p).reached) := rfl
 have pc9 : (jh (p) (.slice a p.list.length c))[0 + 9]? = some (.bool (p).made) := rfl
 have pc10 : (jh (p) (.slice a p.list.length c))[0 + 10]? = some (.bool (p).begins) := rfl
 have g1 : Option.isNone (some (⟨bp, 0, none⟩ : Addr)) = false := rfl
 have hl := hG.len
 rw [List.cons_append]
 refine jl (n := 15) Tryz.func50 rfl rfl rfl ?_
 repeat (first | refine goD ?_ | (refine jQ ?_; intro bNew))
 refine Jw (B := []) etO rfl rfl (Row.nil _ _) (hR.toSrc (fun q hq => List.mem_cons_of_mem _ (List.mem_cons_of_mem _ (List.mem_append_left _ hq))) (aab _)) (by unfold maxLen; omega) jd rfl ?_
 intro v2 B2 hR2
 obtain ⟨a2, c2, rfl⟩ := hR2.slice
 rw [Nat.zero_add] at hR2 ⊢
 rw [List.nil_append] at hR2
 refine qq List.perm_middle ?_
 repeat (first | refine goD ?_ | (refine jQ ?_; intro bNew))
 refine jf 2 _ rfl rfl ?_
 exact ⟨bNew, (bNew, Obj.cells (jh p (.slice a2 p.list.length c2)) 158 (0, 0)) :: B2, rfl, ⟨⟨a2, c2, B2, hR2, rfl⟩, hG⟩, rfl⟩
end Go.Proofs.YtbjkkoacclfejaaGreat
namespace Go.Proofs.YtbjkkoacclfejaaGreat
open Go.RowKit
open Hg (En Pl)
theorem ORow.put {α : Type} {r : Rp α} {sz : Nat} {L : ja} {e : TypeId} {a : Option Addr} {c : Nat} {l : List α} {B : ja} {b i j : Nat} {y : α} {cs : List Value} {cur : Array Value} {v : Value} (h : ORow r e sz L a c l B) (hB : B = [(b, .cells cur e (0, 0))]) (hi : i < l.length) (hn : cs.length = sz)
 (hc : ∀ j v, cs[j]? = some v → cur[0 + i * sz + j]? = some v) (hone : ∀ v ∈ cs, v.oneCell' = true) (hj : j < sz) (hv : v.oneCell' = true) (hy : r L (cs.set j v) y) :
 ORow r e sz L a c (l.set i y) [(b, .cells (cur.setIfInBounds (0 + i * sz + j) v) e (0, 0))] ∧ ∀ j' v', (cs.set j v)[j']? = some v' → (cur.setIfInBounds (0 + i * sz + j) v)[0 + i * sz + j']? = some v' := by
 have hin : ∀ j' v', (cs.set j v)[j']? = some v' → (cur.setIfInBounds (0 + i * sz + j) v)[0 + i * sz + j']? = some v' := by
  intro j' v' hj'
  by_cases e : j = j'
  · subst e
    have hb := (Array.getElem?_eq_some_iff.1 (hc j _ (List.getElem?_eq_getElem jd))).1
    rw [List.getElem?_set_self jd] at hj'
    rw [Array.getElem?_setIfInBounds_self_of_lt hb]
    exact hj'
  · rw [List.getElem?_set_ne e] at hj'
    rw [Array.getElem?_setIfInBounds_ne jd]
    exact hc j' v' hj'
 refine ⟨h.set hB hi (by simp [hn]) hy (fun v' h' => ?_) (by simp) (fun j' v' hj' => ?_) (fun k hk => ?_), hin⟩
 · rcases List.mem_or_eq_of_mem_set h' with h' | rfl
   · exact hone _ h'
   · exact hv
 · have := hin j' v' hj'
   rw [Nat.zero_add] at this ⊢
   exact this
 · rw [Array.getElem?_setIfInBounds_ne jd]
def enR : Rp En := fun _ cs x => cs = ky x
theorem enR.one {L : ja} {cs : List Value} {x : En} (h : enR L cs x) : ∀ v ∈ cs, v.oneCell' = true := by
 rw [show cs = ky x from h]; exact zM x
def Fr (p : Pl) : Prop := ∀ i x, p.list[i]? = some x → (i < p.asked → 1 ≤ x.asked) ∧ (p.asked ≤ i → x = Hg.fresh x.up)
def ajw (now : Int) (x : En) : En := ⟨x.up, x.asked + 1, now, true⟩
theorem Fr.mk (l : List Int) (want every wait tries now : Int) : Fr (Hg.mk l want every wait tries now) := by
 intro i x hx
 refine ⟨fun h => absurd h (Nat.not_lt_zero _), fun _ => ?_⟩
 simp only [Hg.mk, List.getElem?_map, Option.map_eq_some_iff] at hx
 obtain ⟨u, _, rfl⟩ := hx
 rfl
theorem Fr.list {p q : Pl} (h : Fr p) (hl : q.list = p.list) (ha : q.asked = p.asked) : Fr q := by
 unfold Fr; rw [hl, ha]; exact h
theorem Fr.advance {p : Pl} (h : Fr p) (t : Int) : Fr (Hg.advance p t) := h.list rfl rfl
theorem Fr.next {p : Pl} (h : Fr p) : Fr (Hg.next p) := by
 intro i x hx
 simp only [Hg.next, List.getElem?_modify] at hx ⊢
 obtain ⟨y, hy, e1⟩ := Option.map_eq_some_iff.1 hx
 by_cases e : p.asked = i
 · subst e
   rw [if_pos rfl] at e1
   subst e1
   exact ⟨fun _ => by simp [Hg.askAt], fun hle => by omega⟩
 · rw [if_neg e] at e1
   have e2 : y = x := e1
   subst e2
   obtain ⟨h1, h2⟩ := h i y hy
   exact ⟨fun hlt => h1 jd, fun hle => h2 jd⟩
theorem Fr.examine {p : Pl} (h : Fr p) : Fr (Hg.examine p) := by
 intro i x hx
 simp only [Hg.examine, List.getElem?_map] at hx ⊢
 obtain ⟨y, hy, rfl⟩ := Option.map_eq_some_iff.1 hx
 obtain ⟨h1, h2⟩ := h i y hy
 refine ⟨fun hlt => ?_, fun hle => ?_⟩
 · have := h1 hlt
   unfold Hg.tickE
   split
   · split
     · exact this
     · dsimp only; omega
   · exact this
 · have := h2 hle
   rw [this]
   rfl
theorem Fr.hedged {p : Pl} (h : Fr p) : Fr (Hg.hedged p).1 := by
 unfold Hg.hedged
 dsimp only
 split
 · split
   · exact Fr.next (h.list rfl rfl)
   · exact h.list rfl rfl
 · exact h
theorem Fr.tick {p : Pl} (h : Fr p) (t : Int) : Fr (Hg.tick p t).1 := by
 unfold Hg.tick
 split
 · exact h
 · exact (h.advance t).examine.hedged
theorem Fr.more {p : Pl} (h : Fr p) (t : Int) : Fr (Hg.more p t).1 := by
 unfold Hg.more
 split
 · exact h
 · dsimp only
   split
   · exact h.advance t
   · exact (h.advance t).next
theorem Fr.nexts : ∀ (k : Nat) {p : Pl}, Fr p → Fr (Hg.nexts k p).1
 | 0, p, h => h
 | k + 1, p, h => Fr.nexts k h.next
theorem Fr.begin' {p : Pl} (h : Fr p) : Fr (Hg.begin' p).1 := by
 unfold Hg.begin'
 split
 · exact h
 · exact Fr.nexts _ (p := { p with begins := true }) (h.list rfl rfl)
theorem QV (u : Int) : ∀ (l : List En) (i : Nat) (x : En), (Hg.closeL u l)[i]? = some x → ∃ y, l[i]? = some y ∧ (x = y ∨ (y.op = true ∧ y.up = u ∧ x = { y with op := false }))
 | [], i, x, h => by simp [Hg.closeL] at h
 | z :: r, i, x, h => by
   unfold Hg.closeL at h
   split at h
   · rename_i hz
     have hz' : z.up = u ∧ z.op = true := by simpa [Hg.isIt] using hz
     cases i with
     | zero =>
       simp at h
       subst h
       exact ⟨z, rfl, Or.inr ⟨hz'.2, hz'.1, rfl⟩⟩
     | succ i => exact ⟨x, by simpa using h, Or.inl rfl⟩
   · cases i with
     | zero => exact ⟨x, by simpa using h, Or.inl rfl⟩
     | succ i =>
       obtain ⟨y, h1, h2⟩ := QV u r i x (by simpa using h)
       exact ⟨y, by simpa using h1, h2⟩
theorem Fr.close {p : Pl} (h : Fr p) (u : Int) : Fr (Hg.close p u).1 := by
 intro i x hx
 simp only [Hg.close] at hx ⊢
 obtain ⟨y, hy, h3⟩ := QV u _ i x hx
 obtain ⟨h1, h2⟩ := h i y hy
 rcases h3 with rfl | ⟨hop, hup, rfl⟩
 · exact ⟨h1, h2⟩
 · refine ⟨h1, fun hle => ?_⟩
   have := h2 hle
   rw [this] at hop
   cases hop
end Go.Proofs.YtbjkkoacclfejaaGreat
namespace Go.Proofs.YtbjkkoacclfejaaGreat.Cn
open Go.Lib (decDigits)
abbrev Bytes := List UInt8
def ag7 (c : UInt8) : Bool := 48 ≤ c.toNat && c.toNat ≤ 57
def ag8 (l : Bytes) : Nat := l.foldl (fun n c => n * 10 + (c.toNat - 48)) 0
def okD (w : Bytes) : Bool := !(w == []) && decide (w.length ≤ 10) && !((w.head? == some 48) && decide (1 < w.length)) && w.all ag7
def numP (w : Bytes) (most : Nat) : Option Nat := if okD w && decide (ag8 w ≤ most) then some (ag8 w) else none
def spl (c : UInt8) : Bytes → List Bytes
 | [] => [[]]
 | a :: t => if a = c then [] :: spl c t else match spl c t with
   | [] => [[a]]
   | w :: ws => (a :: w) :: ws
def ag9 (c : UInt8) : List Bytes → Bytes
 | [] => []
 | [w] => w
 | w :: ws => w ++ c :: ag9 c ws
def VG (s : Bytes) : List Bytes × Bytes := ((spl 10 s).dropLast, (spl 10 s).getLastD [])
def adA (ls : List Bytes) (r : Bytes) : Bytes := (ls.flatMap fun l => l ++ [10]) ++ r
end Go.Proofs.YtbjkkoacclfejaaGreat.Cn
namespace Go.Proofs.YtbjkkoacclfejaaGreat.Cn
open Go.Lib (decDigits)
structure Zo where
 name : Bytes
 pol : Nat
 tru : Nat
deriving DecidableEq
structure Cf where
 ups : Int
 ded : Int
 hdg : Int
 wai : Int
 tri : Int
 res : Int
 lim : Int
 cac : Int
 fli : Int
 wtr : Int
 ttl : Int
 siz : Int
 zs : List Zo
deriving DecidableEq
def Cf.nums (c : Cf) : List Int := [c.ups, c.ded, c.hdg, c.wai, c.tri, c.res, c.lim, c.cac, c.fli, c.wtr, c.ttl, c.siz]
def zeroC : Cf := ⟨0, 0, 0, 0, 0, 0, 0, 0, 0, 0, 0, 0, []⟩
def ofN (v : List Int) (zs : List Zo) : Cf := ⟨v.getD 0 0, v.getD 1 0, v.getD 2 0, v.getD 3 0, v.getD 4 0, v.getD 5 0, v.getD 6 0, v.getD 7 0, v.getD 8 0, v.getD 9 0, v.getD 10 0, v.getD 11 0, zs⟩
def mayNum (c : Cf) : Bool := decide ((1 ≤ c.ups ∧ c.ups ≤ 9 ∧ c.ups % 2 = 1) ∧ (1 ≤ c.hdg ∧ c.hdg ≤ 1000) ∧ (1 ≤ c.wai ∧ c.wai ≤ 1000) ∧ (1 ≤ c.tri ∧ c.tri ≤ 4) ∧
 (c.ups / 2 * c.hdg + c.tri * c.wai ≤ c.ded ∧ c.ded ≤ 100000) ∧ (1 ≤ c.res ∧ c.res ≤ 100000) ∧ (1 ≤ c.lim ∧ c.lim ≤ 100) ∧ (0 ≤ c.cac ∧ c.cac ≤ 256) ∧ (1 ≤ c.fli ∧ c.fli ≤ 32) ∧
 (1 ≤ c.wtr ∧ c.wtr ≤ 16) ∧ (0 ≤ c.ttl ∧ c.ttl ≤ 2147483647) ∧ (512 ≤ c.siz ∧ c.siz ≤ 4096))
def okPol (ups : Int) (z : Zo) : Bool := decide (((z.pol = 1 ∨ z.pol = 2 ∨ z.pol = 4) ∧ z.tru = 0) ∨ (z.pol = 3 ∧ z.tru ≠ 0 ∧ z.tru / 2 ^ ups.toNat = 0))
def okName (z : Zo) : Bool := Nm.may z.name && (Nm.fold z.name == z.name)
def okZo (ups : Int) (z : Zo) : Bool := okName z && okPol ups z
def goodAt (ups : Int) (zs : List Zo) (i : Nat) : Bool := match zs[i]? with
 | some z => okZo ups z && !(zs.take i).any (fun y => y.name == z.name)
 | none => true
def mayZs (ups : Int) (zs : List Zo) : Bool := decide (zs.length ≤ 16) && (List.range zs.length).all (goodAt ups zs)
def mayP (c : Cf) : Bool := mayNum c && mayZs c.ups c.zs
def liesP (c : Cf) : Int := if mayP c then c.ups / 2 else 0
structure Names where
 text : Bytes → Bytes
 par : Bytes → Bytes × Int
structure Names.Ok (T : Names) : Prop where
 back : ∀ n, Nm.may n = true → T.par (T.text n) = (n, 0)
 may : ∀ t n, T.par t = (n, 0) → Nm.may n = true
 clean : ∀ n, Nm.may n = true → ∀ c ∈ T.text n, 33 ≤ c.toNat
 len : ∀ n, Nm.may n = true → (T.text n).length ≤ 2000
def Zp : List Bytes := [[117, 112, 115], [100, 101, 97, 100, 108, 105, 110, 101], [104, 101, 100, 103, 101], [119, 97, 105, 116], [116, 114, 105, 101, 115], [114, 101, 115, 116], [108, 105, 109, 105, 116], [99, 97, 99, 104, 101], [102, 108, 105, 103, 104, 116, 115], [119, 97, 105, 116, 101, 114, 115], [116, 116, 108], [115, 105, 122, 101]]
def Zq : Bytes := [115, 116, 114, 105, 99, 116]
def abQ : Bytes := [117, 110, 105, 111, 110]
def WW : Bytes := [116, 114, 117, 115, 116, 101, 100]
def Zr : Bytes := [114, 101, 102, 117, 115, 101]
def aed : Bytes := [122, 111, 110, 101]
def ait (p : Nat) : Bytes := if p = 1 then Zq else if p = 2 then abQ else if p = 3 then WW else Zr
def aiu (w : Bytes) : Option Nat := if w = Zq then some 1 else if w = abQ then some 2 else if w = Zr then some 4 else if w = WW then some 3 else none
def aeO (t : Nat) : List Nat := (List.range 16).filter fun u => t.testBit u
def adB (w : Bytes) (v : Int) : Bytes := w ++ 32 :: decDigits v.toNat
def aeP (t : Nat) : Bytes := (aeO t).flatMap fun u => 32 :: decDigits u
section
variable (T : Names)
def abR (z : Zo) : Bytes := aed ++ 32 :: (T.text z.name ++ 32 :: (ait z.pol ++ aeP z.tru))
def aha (c : Cf) : List Bytes := List.zipWith adB Zp c.nums ++ c.zs.map (abR T)
def ahb (c : Cf) : Bytes := adA (aha T c) []
def ajj (c : Cf) : Bytes × Int := if mayP c then (ahb T c, 0) else ([], 1)
def adC (k : Nat) (l : Bytes) : Option Int := match spl 32 l with
 | [w, n] => if some w = Zp[k]? then (numP n 2147483647).map Int.ofNat else none
 | _ => none
def abS : Int → Nat → List Bytes → Option Nat
 | _, t, [] => some t
 | last, t, w :: ws => match numP w 15 with
   | some u => if (u : Int) ≤ last then none else abS u (t ||| 2 ^ u) ws
   | none => none
def readName (w : Bytes) : Option Bytes := if (T.par w).2 = 0 ∧ T.text (T.par w).1 = w then some (T.par w).1 else none
def abT (l : Bytes) : Option Zo := match spl 32 l with
 | z :: w :: p :: ws => if z = aed then match readName T w, aiu p, abS (-1) 0 ws with
   | some n, some p, some t => if (decide (p = 3)) = (decide (t ≠ 0)) then some ⟨n, p, t⟩ else none
   | _, _, _ => none
   else none
 | _ => none
def goP : Nat → List Bytes → List Int → List Zo → Nat ⊕ (List Int × List Zo)
 | _, [], vs, zs => .inr (vs, zs)
 | k, l :: ls, vs, zs => if k < 12 then match adC k l with
    | some n => goP (k + 1) ls (vs ++ [n]) zs
    | none => .inl k
   else match abT T l with
    | some z => goP (k + 1) ls vs (zs ++ [z])
    | none => .inl k
def aiv (s : Bytes) : Cf × Int × Int := if 131072 < s.length then (zeroC, 0, 5) else
 match goP T 0 (VG s).1 [] [] with
 | .inl k => (zeroC, (k : Int) + 1, 3)
 | .inr (vs, zs) => if (VG s).2 ≠ [] ∨ (VG s).1.length < 12 then (zeroC, ((VG s).1.length : Int) + 1, 3) else
   if mayP (ofN vs zs) then (ofN vs zs, 0, 0) else (zeroC, 0, 1)
end
end Go.Proofs.YtbjkkoacclfejaaGreat.Cn
namespace Go.Proofs.YtbjkkoacclfejaaGreat
open Hg (En Pl)
open Vd (RSet Vdt Vote Rec Quest Piece Ballot)
structure Dd where
 sends : List Int
 gone : List Int
 over : Bool
 done : Bool
 vd : Vdt
 time : Int
 agree : List Int
 dissent : List Int
deriving DecidableEq
namespace Dd
def none : Dd := ⟨[], [], false, false, Vdt.none, 0, [], []⟩
end Dd
structure As where
 q : Quest
 pol : Int
 want : Int
 p : Pl
 l : List Ballot
 ded : Int
 now : Int
 over : Bool
namespace Aq
def votes (a : As) : List Vote := Vd.votesB a.l
def decided (a : As) : Option (Vdt × Int × List Int × List Int) :=
 if a.pol = 1 then (if (qt a.want (votes a)).2.2.2 then some ((qt a.want (votes a)).1, (qt a.want (votes a)).2.1, (qt a.want (votes a)).2.2.1, kE a.want (votes a)) else none)
 else if ((votes a).length : Int) < a.want then none
 else if a.pol = 2 then some ((Vd.union a.q (votes a)).1, (Vd.union a.q (votes a)).2.1, [], [])
 else match (votes a)[0]? with
  | some x => some (x.vd, x.time, [], [])
  | none => none
def hope (a : As) : Int := Hg.opens a.p + (if a.pol = 1 then uE (votes a) else ((votes a).length : Int))
def lookL : Nat → As → Dd → As × Dd
 | 0, a, d => (a, d)
 | n + 1, a, d =>
   if a.want ≤ hope a then (a, d)
   else if (Hg.more a.p a.now).2.2 then lookL n { a with p := (Hg.more a.p a.now).1 } { d with sends := d.sends ++ [(Hg.more a.p a.now).2.1] }
   else ({ a with p := (Hg.more a.p a.now).1, over := true }, { d with over := true })
def look (a : As) (d : Dd) : As × Dd :=
 match decided a with
 | some (v, t, ag, di) => ({ a with over := true }, { d with over := true, done := true, vd := v, time := t, agree := ag, dissent := di })
 | none => lookL (a.p.list.length + 1) a d
def upto (a : As) (now : Int) : As := { a with now := max a.now (min now Hg.top) }
def vote (a : As) (u : Int) (v : Vdt) (t : Int) (now : Int) : As × Dd :=
 if a.over then (a, Dd.none)
 else if (Hg.close a.p u).2 then look { (upto { a with p := (Hg.close a.p u).1 } now) with l := (Vd.putB a.l ⟨⟨u, v, t⟩, false⟩).1 } Dd.none
 else ({ a with p := (Hg.close a.p u).1 }, Dd.none)
def pass (a : As) (u : Int) (now : Int) : As × Dd :=
 if a.over then (a, Dd.none)
 else if (Hg.close a.p u).2 then look { (upto { a with p := (Hg.close a.p u).1 } now) with l := (Vd.putB a.l ⟨⟨u, Vdt.none, 0⟩, true⟩).1 } Dd.none
 else ({ a with p := (Hg.close a.p u).1 }, Dd.none)
def tick (a : As) (now : Int) : As × Dd :=
 if a.over then (a, Dd.none)
 else if a.ded ≤ (upto a now).now then ({ (upto a now) with over := true }, { Dd.none with over := true })
 else look { (upto a now) with p := (Hg.tick a.p (upto a now).now).1 } { Dd.none with sends := (Hg.tick a.p (upto a now).now).2.2, gone := (Hg.tick a.p (upto a now).now).2.1 }
def dueT (a : As) : Int := max (if (due a.p).2 then min a.ded (due a.p).1 else a.ded) (a.now + 1)
def ajx (a : As) : Int × Bool := if a.over then (0, false) else if Hg.top < dueT a then (0, false) else (dueT a, true)
def own (pol tru : Nat) (l : List Int) : List Int := l.filter fun u => decide (pol ≠ 3) || tru.testBit u.toNat
def distinct (ups : Int) (l : List Int) : Bool := l.all (fun u => decide (0 ≤ u ∧ u < ups)) && decide l.Nodup
def wantOf (c : Cn.Cf) (pol : Nat) : Int := if pol = 3 then 1 else Cn.liesP c + 1
def newE (q : Quest) (z : Cn.Zo) (l : List Int) (c : Cn.Cf) (now : Int) : Int :=
 if !Cn.mayP c || !Nm.may q.name || decide (z.pol < 1 ∨ 3 < z.pol) || decide (now < 0 ∨ Hg.top < now) || !distinct c.ups l then 1
 else if own z.pol z.tru l = [] then 6 else 0
def new0 (q : Quest) (z : Cn.Zo) (l : List Int) (c : Cn.Cf) (now : Int) : As :=
 { q := q, pol := z.pol, want := wantOf c z.pol, p := (Hg.begin' (Hg.mk (own z.pol z.tru l) (wantOf c z.pol) c.hdg c.wai c.tri now)).1, l := [], ded := now + c.ded, now := now, over := false }
def new1 (q : Quest) (z : Cn.Zo) (l : List Int) (c : Cn.Cf) (now : Int) : As × Dd :=
 look (new0 q z l c now) { Dd.none with sends := (Hg.begin' (Hg.mk (own z.pol z.tru l) (wantOf c z.pol) c.hdg c.wai c.tri now)).2 }
end Aq
structure AOk (a : As) : Prop where
 good : Good a.p
 fr : Fr a.p
 begins : a.p.begins = true
 made : a.p.made = true
 want : 1 ≤ a.want ∧ a.want ≤ 9
 pol : a.pol = 1 ∨ a.pol = 2 ∨ (a.pol = 3 ∧ a.want = 1)
 now : 0 ≤ a.now ∧ a.now ≤ Hg.top
 ded : 0 ≤ a.ded ∧ a.ded ≤ Hg.top + 100000
 name : Nm.may a.q.name = true
 box : BoxOk a.l
end Go.Proofs.YtbjkkoacclfejaaGreat
