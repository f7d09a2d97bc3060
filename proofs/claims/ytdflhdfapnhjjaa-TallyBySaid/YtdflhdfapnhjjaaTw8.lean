/-
  Part 8: Gw Qe Qg Gx Qh Ks Kt Ku Gy Kv Kx Ky Tb.
-/
import Derived.Test.YtdflhdfapnhjjaaTw7
import Derived.Test.YtdflhdfapnhjjaaTw2
import Derived.Sort.Walk0
import Derived.Lib.SlicesCompact
namespace Go.Proofs.Ytdflhdfapnhjjaa
open Go.RowKit
open Vd (RSet Vdt Vote Rec Quest Piece Ballot Said)
set_option linter.unusedVariables false
set_option linter.unusedSimpArgs false
--auto
/-- What the program makes of votes. -/
def someEnd (q : Quest) (l : List Vote) : Bool := l.any fun x => (Vd.endV q x.vd).2
def unionP (q : Quest) (l : List Vote) : Vdt × Int × Bool :=
  match l with
  | [] => (Vdt.none, 0, false)
  | w :: r =>
    if !Nm.may q.name then (Vdt.none, 0, false)
    else if !Vd.alikeV (w :: r) w.vd && someEnd q (w :: r) then (⟨0, [⟨Nm.fold q.name, q.kind, q.cls, 0, Lib.compact ((endsAll q (w :: r)).mergeSort fun x y => decide (x ≤ y))⟩], []⟩, Vd.minTime (w :: r) w.time, true)
    else (match (w :: r)[Vd.firstAt (w :: r) (w :: r).length]? with | some x => x.vd | none => Vdt.none, Vd.minTime (w :: r) w.time, true)
/-- A verdict in new memory, a time, whether there is one. -/
def UnOut (L : Blocks) (r : Vdt × Int × Bool) (u : Value) (M : Blocks) : Prop := ∃ a c B a2 c2 B2 N, u = .tuple #[.agg #[.int .u8 r.1.code, .slice a r.1.sets.length c, .slice a2 r.1.soa.length c2], .int .u32 r.2.1, .bool r.2.2] ∧
  ORow rsR 60 5 N a c r.1.sets B ∧ ORow rsR 60 5 N a2 c2 r.1.soa B2 ∧ Wr N ∧ M = B2 ++ (B ++ (N ++ L))
variable {G : World} {L : Blocks}
theorem UnOut.no : UnOut L (Vdt.none, 0, false) (.tuple #[.agg #[.int .u8 0, .slice none 0 0, .slice none 0 0], .int .u32 0, .bool false]) L := ⟨none, 0, [], none, 0, [], [], rfl, ORow.nil _, ORow.nil _, Wr.nil, rfl⟩
theorem endedR.mono {q : Quest} {K D D' : Blocks} {cs : List Value} {x : Vote} (hD : ∀ p ∈ D, p ∈ D') (h : endedR q K D cs x) : endedR q K D' cs x := by
  obtain ⟨a1, c1, a2, c2, a3, c3, h1, h2, h3⟩ := h
  exact ⟨a1, c1, a2, c2, a3, c3, h1, h2, mono_set _ _ _ _ hD h3⟩
theorem endedR.one {q : Quest} {K D : Blocks} {cs : List Value} {x : Vote} (h : endedR q K D cs x) : ∀ v ∈ cs, v.oneCell' = true := by
  obtain ⟨a1, c1, a2, c2, a3, c3, rfl, _⟩ := h
  intro v hv
  simp only [List.mem_cons, List.not_mem_nil, or_false] at hv
  rcases hv with rfl | rfl | rfl | rfl | rfl | rfl | rfl | rfl | rfl | rfl | rfl <;> rfl
end Go.Proofs.Ytdflhdfapnhjjaa
namespace Go.Proofs.Ytdflhdfapnhjjaa
namespace Vd
def Rising (l : List Bytes) : Prop := l.Pairwise fun a b => a < b
end Vd
end Go.Proofs.Ytdflhdfapnhjjaa
namespace Go.Proofs.Ytdflhdfapnhjjaa
open Go.RowKit
open Vd (RSet Vdt Vote Rec Quest Piece Ballot Said)
/-- What all sets of a verdict are. -/
def AllS (p : RSet → Prop) (v : Vdt) : Prop := (∀ s ∈ v.sets, p s) ∧ ∀ s ∈ v.soa, p s
theorem ofM_sets (q : Quest) (m : Vd.Msg) (p : RSet → Prop) (hp : ∀ s, p s → p (Vd.bare s)) (h1 : ∀ s ∈ Vd.group m.answers, p s) (h2 : ∀ s ∈ Vd.group m.auth, p s) : AllS p (Vd.ofM q m).1 := by
  have hnone : AllS p Vdt.none := ⟨by simp [Vdt.none], by simp [Vdt.none]⟩
  obtain ⟨f1, f2, _, _, _⟩ := follow_in q (Vd.group m.answers)
  unfold Vd.ofM
  split
  · exact hnone
  · revert f1 f2
    generalize Vd.follow q (Vd.group m.answers) = t
    obtain ⟨l, pos, last, e⟩ := t
    intro f1 f2
    dsimp only at f1 f2 ⊢
    have hall : ∀ s ∈ (l ++ last).map Vd.bare, p s := fun s hs => by
      obtain ⟨t, ht, rfl⟩ := List.mem_map.1 hs
      rcases List.mem_append.1 ht with ht | ht
      · exact hp t (h1 t (f1 t ht))
      · exact hp t (h1 t (f2 t ht))
    split
    · exact hnone
    split
    · exact hnone
    split
    · exact ⟨hall, by simp⟩
    have hf := findSoa_in (l := Vd.group m.auth) (n := pos) (c := q.cls)
    revert hf
    generalize Vd.findSoa (Vd.group m.auth) pos q.cls = r
    obtain ⟨s, is, e2⟩ := r
    intro hf
    dsimp only at hf ⊢
    split
    · exact hnone
    split
    · exact ⟨hall, by simp⟩
    · rename_i hi
      refine ⟨hall, fun t ht => ?_⟩
      rw [List.mem_singleton.1 ht]
      exact hp s (h2 s (hf (by simpa using hi)))
theorem ofM_len (q : Quest) (m : Vd.Msg) : (Vd.ofM q m).1.sets.length ≤ 10 ∧ (Vd.ofM q m).1.soa.length ≤ 1 := by
  obtain ⟨_, _, f3, f4, _⟩ := follow_in q (Vd.group m.answers)
  unfold Vd.ofM
  split
  · simp [Vdt.none]
  · revert f3 f4
    generalize Vd.follow q (Vd.group m.answers) = t
    obtain ⟨l, pos, last, e⟩ := t
    intro f3 f4
    dsimp only at f3 f4 ⊢
    split
    · simp [Vdt.none]
    split
    · simp [Vdt.none]
    split
    · simp; omega
    split
    · simp [Vdt.none]
    split
    · simp; omega
    · simp; omega
end Go.Proofs.Ytdflhdfapnhjjaa
namespace Go.Proofs.Ytdflhdfapnhjjaa
open Go.RowKit
open Vd (RSet Vdt Vote Rec Quest Piece Ballot Said)
set_option linter.unusedVariables false
set_option linter.unusedSimpArgs false
--auto
variable {G : World} {L : Blocks}
/-- What a statement goes over. -/
def MsgSmall (m : Vd.Msg) : Prop := (m.answers.length ≤ 420 ∧ ∀ x ∈ m.answers, x.name.length ≤ 5000 ∧ x.data.length ≤ 5000) ∧ (m.auth.length ≤ 420 ∧ ∀ x ∈ m.auth, x.name.length ≤ 5000 ∧ x.data.length ≤ 5000)
end Go.Proofs.Ytdflhdfapnhjjaa
namespace Go.Proofs.Ytdflhdfapnhjjaa
open Go.RowKit
open Vd (RSet Vdt Vote Rec Quest Piece Ballot Said)
set_option linter.unusedVariables false
set_option linter.unusedSimpArgs false
/-- Ballots of votes alone, each of another upstream. -/
structure BalOk (p : Vote → Prop) (l : List Ballot) : Prop where
  nd : (l.map fun b => b.v.up).Nodup
  ok : ∀ b ∈ l, b.pass = false ∧ (0 ≤ b.v.up ∧ b.v.up < 9) ∧ p b.v
theorem hasB_iff (l : List Ballot) (u : Int) : Vd.hasB l u = true ↔ u ∈ l.map fun b => b.v.up := by
  unfold Vd.hasB
  rw [List.any_eq_true, List.mem_map]
  simp only [beq_iff_eq]
theorem BalOk.put {p : Vote → Prop} {l : List Ballot} (h : BalOk p l) {x : Vote} (hx : p x) : BalOk p (Vd.putB l ⟨x, false⟩).1 := by
  unfold Vd.putB
  split
  · exact h
  split
  · exact h
  · rename_i h1 h2
    refine ⟨?_, fun b hb => ?_⟩
    · rw [List.map_append]
      refine List.nodup_append.2 ⟨h.nd, by simp, fun a ha b hb => ?_⟩
      rw [List.map_singleton, List.mem_singleton] at hb
      intro e
      refine h2 ((hasB_iff _ _).2 ?_)
      dsimp only at hb ⊢
      rw [← hb, ← e]
      exact ha
    · rcases List.mem_append.1 hb with hb | hb
      · exact h.ok b hb
      · rw [List.mem_singleton.1 hb]
        dsimp only at h1 ⊢
        exact ⟨rfl, by omega, hx⟩
theorem BalOk.cast {p : Vote → Prop} {q : Quest} {l : List Ballot} (h : BalOk p l) {s : Said} (hs : p ⟨s.up, (Vd.ofM q s.m).1, s.time⟩) : BalOk p (Vd.castSaid q l s) := by
  unfold Vd.castSaid
  split
  · exact h.put hs
  · exact h
theorem BalOk.all {p : Vote → Prop} {q : Quest} : ∀ (l : List Said) {b : List Ballot}, BalOk p b → (∀ s ∈ l, p ⟨s.up, (Vd.ofM q s.m).1, s.time⟩) → BalOk p (l.foldl (Vd.castSaid q) b)
  | [], b, h, _ => h
  | s :: l, b, h, hl => BalOk.all l (h.cast (hl s (List.mem_cons_self ..))) fun t ht => hl t (List.mem_cons_of_mem _ ht)
/-- What sets of a reply that a statement goes over are. -/
def SetSm (s : RSet) : Prop := s.name.length ≤ 255 ∧ s.data.length ≤ 420 ∧ s.data ≠ [] ∧ ∀ d ∈ s.data, d.length ≤ 5000
theorem MsgSmall.sets {m : Vd.Msg} (h : MsgSmall m) (q : Quest) : AllS SetSm (Vd.ofM q m).1 := by
  obtain ⟨⟨a1, a2⟩, b1, b2⟩ := h
  have ga := (group_bd (D := 5000) m.answers fun x hx => (a2 x hx).2).2
  have gb := (group_bd (D := 5000) m.auth fun x hx => (b2 x hx).2).2
  refine ofM_sets q m SetSm (fun s hs => hs) (fun s hs => ?_) (fun s hs => ?_)
  · obtain ⟨h1, h2, h3, h4⟩ := ga s hs
    exact ⟨h1, by omega, h3, h4⟩
  · obtain ⟨h1, h2, h3, h4⟩ := gb s hs
    exact ⟨h1, by omega, h3, h4⟩
theorem MsgSmall.fits {m : Vd.Msg} (h : MsgSmall m) : MsgFits m := by
  obtain ⟨⟨a1, a2⟩, b1, b2⟩ := h
  exact ⟨by omega, fun x hx => ⟨by have := (a2 x hx).1; omega, by have := (a2 x hx).2; omega⟩, by omega, fun x hx => ⟨by have := (b2 x hx).1; omega, by have := (b2 x hx).2; omega⟩⟩
/-- A vote of a reply that a statement goes over. -/
def VoteSm (v : Vote) : Prop := AllS SetSm v.vd ∧ v.vd.sets.length ≤ 10 ∧ v.vd.soa.length ≤ 1
theorem VoteSm.smV {v : Vote} (h : VoteSm v) : SmV v.vd := by
  obtain ⟨⟨h1, h2⟩, h3, h4⟩ := h
  exact ⟨⟨by omega, fun s hs => by have := (h1 s hs).2.1; omega⟩, ⟨by omega, fun s hs => by have := (h2 s hs).2.1; omega⟩⟩
/-! ### the row -/
end Go.Proofs.Ytdflhdfapnhjjaa
namespace Go.Proofs.Ytdflhdfapnhjjaa
open Go.RowKit
open Vd (RSet Vdt Vote Rec Quest Piece Ballot)
set_option linter.unusedVariables false
set_option linter.unusedSimpArgs false
--auto
variable {G : World} {L : Blocks}
theorem Spec.drop {P : Program} {f : FuncId} {args : Array Value} {Φ Ψ : Value → Blocks → Prop} (h : Spec P G f args L Φ) (hi : ∀ v M, Φ v M → ∃ M', Ψ v M' ∧ ∀ p, cnt p M' ≤ cnt p M) : Spec P G f args L Ψ :=
  ⟨fun w hw => (h.out w hw).mono fun e w' ⟨v, M, e1, h1, h2⟩ => by
    obtain ⟨M', k1, k2⟩ := hi v M h1
    exact ⟨v, M', e1, k1, h2.cnt k2⟩⟩
theorem BoxOk.len {l : List Ballot} (h : BoxOk l) : l.length ≤ 9 := by
  have h1 : (l.map fun b => b.v.up).length ≤ 9 := nodup_bound 9 _ h.nd fun u hu => by
    obtain ⟨b, hb, rfl⟩ := List.mem_map.1 hu
    have := h.up b hb
    omega
  rw [List.length_map] at h1
  exact h1
/-- Ballots that a box holds: each of another upstream, none too large. -/
structure BoxSm (l : List Ballot) : Prop where
  ok : BoxOk l
  sm : ∀ x ∈ Vd.votesB l, SmV x.vd
theorem BoxSm.nil : BoxSm [] := ⟨BoxOk.nil, by simp [Vd.votesB]⟩
theorem BoxSm.put {l : List Ballot} (h : BoxSm l) {x : Ballot} (hx : SmV x.v.vd) : BoxSm (Vd.putB l x).1 := by
  refine ⟨h.ok.put x, fun y hy => ?_⟩
  by_cases h0 : mayE l x.v.up = 0
  · rw [(putB_yes h0).1, votesB_snoc] at hy
    split at hy
    · exact h.sm y hy
    · rcases List.mem_append.1 hy with hy | hy
      · exact h.sm y hy
      · rw [List.mem_singleton.1 hy]; exact hx
  · rw [putB_no h0] at hy
    exact h.sm y hy
theorem smV_none : SmV Vdt.none := ⟨⟨by decide, by simp [Vdt.none]⟩, ⟨by decide, by simp [Vdt.none]⟩⟩
/-- The program's box: all its memory. -/
def PBox (bb : Nat) (want : Int) (l : List Ballot) (X : Blocks) : Prop := BoxSm l ∧ ∃ M0 N, TBox N bb want l M0 ∧ Wr N ∧ X = M0 ++ N
/-- The document's box: all its memory. -/
def DBox (bb : Nat) (want : Int) (l : List Ballot) (X : Blocks) : Prop := BoxOk l ∧ ∃ M0 N, RBox N bb want l M0 ∧ X = M0 ++ N
theorem pNew_B (want : Int) : Spec Try.prog G 41 #[.int .i64 want] L fun u M => (1 ≤ want ∧ want ≤ 9 ∧ ∃ bb X, u = .tuple #[.pointer (some ⟨bb, 0, none⟩), .int .i64 0] ∧ PBox bb want [] X ∧ M = X ++ L) ∨ ((want < 1 ∨ 9 < want) ∧ u = .tuple #[.pointer none, .int .i64 1] ∧ M = L) := by
  refine (pNew_S want).mono fun u M h => ?_
  rcases h with ⟨h1, h2, bb, h3, h4⟩ | h
  · exact Or.inl ⟨h1, h2, bb, _, h3, ⟨BoxSm.nil, _, [], ⟨none, 0, [], ORow.nil _, rfl⟩, Wr.nil, rfl⟩, h4⟩
  · exact Or.inr h
theorem pHas_B {bb : Nat} {want : Int} {l : List Ballot} {X : Blocks} (u : Int) (h : PBox bb want l X) (hX : ∀ p ∈ X, p ∈ L) : Spec Try.prog G 45 #[.pointer (some ⟨bb, 0, none⟩), .int .i64 u] L fun w M => w = .bool (Vd.hasB l u) ∧ M = L := by
  obtain ⟨hs, _, N, ⟨a, c, B, hB, rfl⟩, hN, rfl⟩ := h
  exact pHas_S bb want u l _ (hX _ (List.mem_append_left _ (List.mem_cons_self ..))) hs.ok
theorem pMost_B {bb : Nat} {want : Int} {l : List Ballot} {X : Blocks} (h : PBox bb want l X) (hX : ∀ p ∈ X, p ∈ L) : Spec Try.prog G 36 #[.pointer (some ⟨bb, 0, none⟩)] L fun w M => w = .int .i64 (mostR (Vd.votesB l)) ∧ M = L := by
  obtain ⟨hs, _, N, ⟨a, c, B, hB, rfl⟩, hN, rfl⟩ := h
  exact pMost_S bb want l _ (hX _ (List.mem_append_left _ (List.mem_cons_self ..))) hs.ok
theorem pWon_B {bb : Nat} {want : Int} {l : List Ballot} {X : Blocks} (h : PBox bb want l X) (hX : ∀ p ∈ X, p ∈ L) : Spec Try.prog G 35 #[.pointer (some ⟨bb, 0, none⟩)] L (WonOut L (wonP want (Vd.votesB l))) := by
  obtain ⟨hs, _, N, ⟨a, c, B, hB, rfl⟩, hN, rfl⟩ := h
  exact pWon_S (K := N) bb want l a c (hX _ (List.mem_append_left _ (List.mem_cons_self ..))) ((hB.imp (r' := fun _ => voteR N) (L' := []) (fun cs x _ h => h)).sliceR mono_const (by simp) (fun p hp => hX p (by simp [hp]))) (fun p hp => hX p (by simp [hp])) hs.ok hs.ok.len hs.sm
theorem pAgainst_B {bb : Nat} {want : Int} {l : List Ballot} {X : Blocks} (h : PBox bb want l X) (hX : ∀ p ∈ X, p ∈ L) : Spec Try.prog G 40 #[.pointer (some ⟨bb, 0, none⟩)] L fun u M => ∃ a3 c3 B3, u = .slice a3 (if want < 1 then [] else againstR want (Vd.votesB l)).length c3 ∧ ORow (intR .i64) 3 1 [] a3 c3 (if want < 1 then [] else againstR want (Vd.votesB l)) B3 ∧ M = B3 ++ L := by
  obtain ⟨hs, _, N, ⟨a, c, B, hB, rfl⟩, hN, rfl⟩ := h
  exact pAgainst_S (K := N) bb want l a c (hX _ (List.mem_append_left _ (List.mem_cons_self ..))) ((hB.imp (r' := fun _ => voteR N) (L' := []) (fun cs x _ h => h)).sliceR mono_const (by simp) (fun p hp => hX p (by simp [hp]))) hs.ok hs.ok.len
theorem pVotes_B {bb : Nat} {want : Int} {l : List Ballot} {X : Blocks} (h : PBox bb want l X) (hX : ∀ p ∈ X, p ∈ L) : Spec Try.prog G 39 #[.pointer (some ⟨bb, 0, none⟩)] L (VotesOut L (Vd.votesB l)) := by
  obtain ⟨hs, _, N, ⟨a, c, B, hB, rfl⟩, hN, rfl⟩ := h
  have := votesB_len l
  have := hs.ok.len
  exact pVotes_S bb want (slipOf l) (Vd.votesB l) a c (hX _ (List.mem_append_left _ (List.mem_cons_self ..))) ((hB.mono mono_vote (fun p hp => hX p (by simp [hp]))).sliceR mono_vote (fun p h => h) (fun p hp => hX p (by simp [hp]))) (by omega) hs.sm
theorem pCast_B {bb : Nat} {want : Int} {l : List Ballot} {X : Blocks} {cs : List Value} {x : Vote} (h : PBox bb want l X) (hx : voteR L cs x) (hsx : SmV x.vd) : Spec Try.prog G 42 #[.pointer (some ⟨bb, 0, none⟩), .agg cs.toArray] (X ++ L) fun w M => w = .int .i64 (Vd.putB l ⟨x, false⟩).2 ∧ ∃ X', PBox bb want (Vd.putB l ⟨x, false⟩).1 X' ∧ M = X' ++ L := by
  obtain ⟨hs, M0, N, hb, hN, rfl⟩ := h
  have h1 := pCast_S (G := G) (L := N ++ L) (K := N) bb want l M0 cs x hb hs.ok (by simp +contextual) (mono_vote _ _ _ _ (by simp +contextual) hx) hsx hs.ok.len
  rw [← List.append_assoc] at h1
  refine h1.mono fun w M ⟨e, M', N', hb', hN', hM⟩ => ⟨e, M' ++ (N' ++ N), ⟨hs.put hsx, M', N' ++ N, hb', hN'.append hN, rfl⟩, ?_⟩
  rw [hM]
  simp only [List.append_assoc]
theorem pPass_B {bb : Nat} {want : Int} {l : List Ballot} {X : Blocks} (u : Int) (h : PBox bb want l X) : Spec Try.prog G 43 #[.pointer (some ⟨bb, 0, none⟩), .int .i64 u] (X ++ L) fun w M => w = .int .i64 (Vd.putB l ⟨⟨u, Vdt.none, 0⟩, true⟩).2 ∧ ∃ X', PBox bb want (Vd.putB l ⟨⟨u, Vdt.none, 0⟩, true⟩).1 X' ∧ M = X' ++ L := by
  obtain ⟨hs, M0, N, hb, hN, rfl⟩ := h
  have h1 := pPass_S (G := G) (L := N ++ L) (K := N) bb want u l M0 hb hs.ok
  rw [← List.append_assoc] at h1
  refine h1.mono fun w M ⟨e, M', hb', hM⟩ => ⟨e, M' ++ N, ⟨hs.put smV_none, M', N, hb', hN, rfl⟩, ?_⟩
  rw [hM]
  simp only [List.append_assoc]
theorem pCopy_B {bb : Nat} {want : Int} {l : List Ballot} {X : Blocks} (h : PBox bb want l X) : Spec Try.prog G 46 #[.pointer (some ⟨bb, 0, none⟩)] (X ++ L) fun u M => ∃ b2 X2, u = .pointer (some ⟨b2, 0, none⟩) ∧ PBox b2 want l X2 ∧ M = X2 ++ (X ++ L) := by
  obtain ⟨hs, M0, N, hb, hN, rfl⟩ := h
  have h1 := pCopy_S (G := G) (L := N ++ L) (K := N) bb want l M0 hb (by simp +contextual) hs.ok.len hs.sm
  rw [← List.append_assoc] at h1
  refine h1.mono fun w M ⟨b2, M2, N2, e, hb2, hN2, hM⟩ => ⟨b2, M2 ++ N2, e, ⟨hs, M2, N2, hb2, hN2, rfl⟩, ?_⟩
  rw [hM]
  simp only [List.append_assoc]
/-! ### the document's -/
end Go.Proofs.Ytdflhdfapnhjjaa
namespace Go.Proofs.Ytdflhdfapnhjjaa
open Go.RowKit
open Vd (RSet Vdt Vote Rec Quest Piece Ballot)
set_option linter.unusedVariables false
set_option linter.unusedSimpArgs false
--auto
/-- Something that is done to a box. -/
structure TAct where
  kind : Int
  up : Int
  time : Int
  q : Quest
  m : Vd.Msg
def TAct.head (x : TAct) (vc va vb : Value) : List Value := [.int .u8 x.kind, .int .i64 x.up, vc, va, vb, .int .u32 x.time, .string (bs x.q.name), .int .u16 x.q.kind, .int .u16 x.q.cls]
def actR : Rp TAct := fun L cs x => ∃ vc va vb cm, cs = x.head vc va vb ++ cm ∧ questR L [.string (bs x.q.name), .int .u16 x.q.kind, .int .u16 x.q.cls] x.q ∧ msgR L cm x.m ∧ (vc.oneCell' = true ∧ va.oneCell' = true ∧ vb.oneCell' = true) ∧ (0 ≤ x.kind ∧ x.kind ≤ 255) ∧ (0 ≤ x.time ∧ x.time ≤ 4294967295) ∧ (-9223372036854775808 ≤ x.up ∧ x.up ≤ 9223372036854775807)
theorem mono_act : Mono actR := by
  rintro L L' cs x hL ⟨vc, va, vb, cm, e, h1, h2, h3⟩
  exact ⟨vc, va, vb, cm, e, h1, mono_msg _ _ _ _ hL h2, h3⟩
theorem actR.len {L : Blocks} {cs : List Value} {x : TAct} (h : actR L cs x) : cs.length = 30 := by
  obtain ⟨vc, va, vb, cm, rfl, h1, h2, h3⟩ := h
  rw [List.length_append, h2.len]
  rfl
theorem actR.one {L : Blocks} {cs : List Value} {x : TAct} (h : actR L cs x) : ∀ v ∈ cs, v.oneCell' = true := by
  obtain ⟨vc, va, vb, cm, rfl, h1, ⟨_, _, _, _, _, _, _, _, _, _, _, _, _, _, _, _, _, _, _, _, _, _, _, _, hone⟩, ⟨q1, q2, q3⟩, _⟩ := h
  intro v hv
  rcases List.mem_append.1 hv with hv | hv
  · simp only [TAct.head, List.mem_cons, List.not_mem_nil, or_false] at hv
    rcases hv with rfl | rfl | rfl | rfl | rfl | rfl | rfl | rfl | rfl <;> (first | rfl | assumption)
  · exact hone v hv
/-- What a statement goes over. -/
def TAct.Small (x : TAct) : Prop := x.q.name.length ≤ 5000 ∧ MsgSmall x.m
def TAct.vote (x : TAct) : Vote := ⟨x.up, (Vd.ofM x.q x.m).1, x.time⟩
def TAct.ok (x : TAct) : Bool := (Vd.ofM x.q x.m).2.2 == 0
theorem TAct.Small.sm {x : TAct} (h : x.Small) : SmV x.vote.vd := VoteSm.smV (v := x.vote) ⟨h.2.sets x.q, ofM_len x.q x.m⟩
variable {G : World} {L : Blocks}
/-- A vote of one's own. -/
def OwnVote (L : Blocks) (x : Vote) (cs : List Value) (M : Blocks) : Prop := ∃ a c B a2 c2 B2 N, cs = [.int .i64 x.up, .int .u8 x.vd.code, .slice a x.vd.sets.length c, .slice a2 x.vd.soa.length c2, .int .u32 x.time] ∧
  ORow rsR 60 5 N a c x.vd.sets B ∧ ORow rsR 60 5 N a2 c2 x.vd.soa B2 ∧ Wr N ∧ M = B ++ (B2 ++ (N ++ L))
set_option maxRecDepth 100000 in
set_option maxHeartbeats 2000000 in
theorem vote21_S (cs : List Value) (x : TAct) (hx : actR L cs x) (hs : x.Small) : Spec Try.prog G 33 #[.agg cs.toArray] L fun u M => ∃ cv, u = .tuple #[.agg cv.toArray, .bool x.ok] ∧ OwnVote L x.vote cv M := by
  obtain ⟨vc, va, vb, cm, rfl, hq, hmm, _, hk, ht, hu⟩ := hx
  have hml := hmm.len
  have hfit := hs.2.fits
  refine Spec_of (n := 23) Try.func33 rfl rfl rfl ?_
  refine T_seq (T_region (TL_new (op_boxA rfl) rfl ?_))
  intro b1
  repeat ((first | with_reducible refine T_seq ?_ | with_reducible refine T_region ?_ | with_reducible refine TL_nil ?_ | with_reducible refine TQ_then ?_ | refine TL_q (op_assign rfl) rfl ?_ | refine TL_q (op_fld rfl fld_73_2) rfl ?_ | (refine TL_new (op_alloc (C := #[(.int .i64 0), (.int .u8 0), (.slice none 0 0), (.slice none 0 0), (.int .u32 0)]) zero_63 rfl) rfl ?_; intro bNew)))
  obtain ⟨b2, hb2⟩ : ∃ b, bNew = b := ⟨_, rfl⟩
  rw [hb2]
  clear hb2 bNew
  have hcm : ∀ j v, cm[j]? = some v → (x.head vc va vb ++ cm).toArray[0 + 9 + j]? = some v := fun j v hj => by
    rw [List.getElem?_toArray, List.getElem?_append_right (by show 9 ≤ _; omega)]
    show cm[0 + 9 + j - 9]? = some v
    rw [show 0 + 9 + j - 9 = j by omega]
    exact hj
  refine TL_q (op_ldA [.string (bs x.q.name), .int .u16 x.q.kind, .int .u16 x.q.cls] rfl st_34 (List.mem_cons_of_mem _ (List.mem_cons_self ..)) (fun j v hj => ?_)) rfl ?_
  · match j, hj with
    | 0, hj => exact hj
    | 1, hj => exact hj
    | 2, hj => exact hj
  repeat ((refine TL_q (op_fld rfl fld_73_3) rfl ?_))
  refine TL_q (op_ldA cm rfl (by rw [hml]; exact st_32) (List.mem_cons_of_mem _ (List.mem_cons_self ..)) hcm) rfl ?_
  refine TL_opT (op_call hb_56 rfl (Of_S _ _ x.q x.m hq (mono_msg _ _ _ _ (mem_of_cnt (by intro p; (try simp only [cnt_append, cnt_cons, cnt_nil]) <;> omega)) hmm) (by have := hs.1; omega) hfit.1 hfit.2.1 hfit.2.2.1 hfit.2.2.2)) rfl ?_
  rintro _ _ ⟨a, c, B, a2, c2, B2, N, rfl, hB, hB2, hN, rfl⟩
  repeat ((first | with_reducible refine T_seq ?_ | with_reducible refine T_region ?_ | with_reducible refine TL_nil ?_ | with_reducible refine TQ_then ?_ | refine TL_q (op_move rfl) rfl ?_ | refine TL_q (op_assign rfl) rfl ?_ | refine TL_q (op_extract rfl rfl) rfl ?_ | refine TL_q (op_fld rfl fld_63_1) rfl ?_ | (refine' TL_q (op_ldAll rfl st_34 ?_ ?_) rfl ?_; rotate_left 3; (· repeat ((exact List.mem_cons_self))); (· (rfl))) | (refine TL_stAll rfl rfl st_42 rfl rfl rfl ?_) | (refine TL_new (op_alloc (C := #[(.int .u8 0), (.slice none 0 0), (.slice none 0 0)]) zero_42 rfl) rfl ?_; intro bNew)))
  obtain ⟨b4, hb4⟩ : ∃ b, bNew = b := ⟨_, rfl⟩
  rw [hb4]
  clear hb4 bNew
  obtain ⟨r, hr⟩ : ∃ r, Vd.ofM x.q x.m = r := ⟨_, rfl⟩
  have hok : x.ok = (r.2.2 == 0) := by unfold TAct.ok; rw [hr]
  have hvt : x.vote = ⟨x.up, r.1, x.time⟩ := by unfold TAct.vote; rw [hr]
  rw [hok, hvt]
  rw [hr] at hB hB2 ⊢
  have hstore : ∀ Y : Blocks, (b1, Obj.cells (putAt (x.head vc va vb ++ cm).toArray (0 + 1 + 1) [.int .u8 r.1.code, .slice a r.1.sets.length c, .slice a2 r.1.soa.length c2]) 73 (0, 0)) :: Y = (b1, Obj.cells (x.head (.int .u8 r.1.code) (.slice a r.1.sets.length c) (.slice a2 r.1.soa.length c2) ++ cm).toArray 73 (0, 0)) :: Y := fun Y => rfl
  refine TL_cnt (L' := (b1, Obj.cells (x.head vc va vb ++ cm).toArray 73 (0, 0)) :: ((b2, Obj.cells #[.int .i64 0, .int .u8 0, .slice none 0 0, .slice none 0 0, .int .u32 0] 63 (0, 0)) :: (B ++ (B2 ++ (N ++ L))))) ?_ (by intro p; (try simp only [cnt_append, cnt_cons, cnt_nil]) <;> omega)
  refine TL_opN (op_stA (cs := [.int .u8 r.1.code, .slice a r.1.sets.length c, .slice a2 r.1.soa.length c2]) rfl rfl st_42 (by intro v hv; simp only [List.mem_cons, List.not_mem_nil, or_false] at hv; rcases hv with rfl | rfl | rfl <;> rfl) (by simp [TAct.head, hml])) ?_
  rw [hstore]
  repeat ((first | with_reducible refine T_seq ?_ | with_reducible refine T_region ?_ | with_reducible refine TL_nil ?_ | with_reducible refine TQ_then ?_ | refine TL_q (op_fld rfl fld_63_1) rfl ?_))
  refine TL_q (op_ldA [.int .i64 x.up, .int .u8 r.1.code, .slice a r.1.sets.length c, .slice a2 r.1.soa.length c2, .int .u32 x.time] rfl st_63 (List.mem_cons_self ..) (fun j v hj => ?_)) rfl ?_
  · match j, hj with
    | 0, hj => exact hj
    | 1, hj => exact hj
    | 2, hj => exact hj
    | 3, hj => exact hj
    | 4, hj => exact hj
  refine TL_cnt (L' := (b2, Obj.cells #[.int .i64 0, .int .u8 0, .slice none 0 0, .slice none 0 0, .int .u32 0] 63 (0, 0)) :: (B ++ (B2 ++ (N ++ L)))) ?_ (by intro p; (try simp only [cnt_append, cnt_cons, cnt_nil]) <;> omega)
  repeat ((first | with_reducible refine TL_nil ?_ | with_reducible refine TQ_then ?_ | with_reducible refine T_ret ?_ | refine TL_q (op_move rfl) rfl ?_ | refine TL_q (op_assign rfl) rfl ?_ | (refine' TL_q (op_bin rfl rfl ?_) rfl ?_; rotate_left 1; (· (exact bin_eql))) | (refine TL_stAll rfl rfl st_63 rfl rfl rfl ?_)))
  refine TQ_retC2 2 63 3 rfl rfl rfl st_63 (by repeat ((exact List.mem_cons_self))) rfl (fun w h => Heap.cnt (L' := B ++ (B2 ++ (N ++ L))) h (by intro p; (try simp only [cnt_append, cnt_cons, cnt_nil]) <;> omega)) ?_
  exact ⟨[.int .i64 x.up, .int .u8 r.1.code, .slice a r.1.sets.length c, .slice a2 r.1.soa.length c2, .int .u32 x.time], rfl, a, c, B, a2, c2, B2, N, rfl, hB, hB2, hN, rfl⟩
end Go.Proofs.Ytdflhdfapnhjjaa
namespace Go.Proofs.Ytdflhdfapnhjjaa
open Go.RowKit
open Vd (RSet Vdt Vote Rec Quest Piece Ballot)
set_option linter.unusedVariables false
set_option linter.unusedSimpArgs false
--auto
variable {G : World} {L : Blocks}
theorem OwnVote.is {x : Vote} {cs : List Value} {M : Blocks} (h : OwnVote L x cs M) (hc : 0 ≤ x.vd.code ∧ x.vd.code ≤ 255) (ht : 0 ≤ x.time ∧ x.time ≤ 4294967295) (hu : -9223372036854775808 ≤ x.up ∧ x.up ≤ 9223372036854775807) : ∃ D, voteR D cs x ∧ M = D ++ L := by
  obtain ⟨a, c, B, a2, c2, B2, N, rfl, hB, hB2, hN, rfl⟩ := h
  exact ⟨B ++ (B2 ++ N), ⟨_, _, rfl, hB.sliceR mono_set (mem_of_cnt (by intro p; (try simp only [cnt_append, cnt_cons, cnt_nil]) <;> omega)) (mem_of_cnt (by intro p; (try simp only [cnt_append, cnt_cons, cnt_nil]) <;> omega)), hB2.sliceR mono_set (mem_of_cnt (by intro p; (try simp only [cnt_append, cnt_cons, cnt_nil]) <;> omega)) (mem_of_cnt (by intro p; (try simp only [cnt_append, cnt_cons, cnt_nil]) <;> omega)), hc, ht, hu⟩, by simp only [List.append_assoc]⟩
theorem actR.vote_bd {K : Blocks} {cs : List Value} {x : TAct} (h : actR K cs x) : (0 ≤ x.vote.vd.code ∧ x.vote.vd.code ≤ 255) ∧ (0 ≤ x.vote.time ∧ x.vote.time ≤ 4294967295) ∧ (-9223372036854775808 ≤ x.vote.up ∧ x.vote.up ≤ 9223372036854775807) := by
  obtain ⟨vc, va, vb, cm, rfl, hq, hmm, _, hk, ht, hu⟩ := h
  obtain ⟨h0, h1, h2, h3, h4, h5, h6, h7, h8, h9, _, _, _, _, _, _, _, _, _, _, _, _, _, hc, _⟩ := hmm
  exact ⟨ofM_code x.q x.m hc, ht, hu⟩
/-- What an act makes of ballots. -/
def doesB (l : List Ballot) (x : TAct) : List Ballot :=
  if x.kind = 0 ∧ x.ok = true then (Vd.putB l ⟨x.vote, false⟩).1 else if x.kind = 1 then (Vd.putB l ⟨⟨x.up, Vdt.none, 0⟩, true⟩).1 else l
set_option maxRecDepth 100000 in
set_option maxHeartbeats 2000000 in
theorem does21_S {bb : Nat} {want : Int} {l : List Ballot} {X : Blocks} (cs : List Value) (x : TAct) (hb : PBox bb want l X) (hx : actR L cs x) (hs : x.Small) : Spec Try.prog G 37 #[.pointer (some ⟨bb, 0, none⟩), .agg cs.toArray] (X ++ L) fun u M => u = .tuple #[] ∧ ∃ X', PBox bb want (doesB l x) X' ∧ M = X' ++ L := by
  have hx0 := hx
  obtain ⟨hbd1, hbd2, hbd3⟩ := hx.vote_bd
  obtain ⟨vc, va, vb, cm, rfl, hq, hmm, _, hk, ht, hu⟩ := hx
  have g0 : (x.head vc va vb ++ cm).toArray[0 + 0]? = some (.int .u8 x.kind) := rfl
  have g1 : (x.head vc va vb ++ cm).toArray[0 + 1 + 0]? = some (.int .i64 x.up) := rfl
  have hl30 := hx0.len
  refine Spec_of (n := 30) Try.func37 rfl rfl rfl ?_
  refine T_seq (T_region (TL_new (op_boxA rfl) rfl ?_))
  intro b3
  repeat ((first | with_reducible refine T_seq ?_ | with_reducible refine T_region ?_ | with_reducible refine TL_nil ?_ | with_reducible refine TQ_then ?_ | (refine' TL_q (op_ldAll rfl st_73 ?_ ?_) rfl ?_; rotate_left 3; (· repeat ((exact List.mem_cons_self))); (· (assumption)))))
  refine TL_opT (op_call hb_33 rfl (vote21_S _ x (mono_act _ _ _ _ (mem_of_cnt (by intro p; (try simp only [cnt_append, cnt_cons, cnt_nil]) <;> omega)) hx0) hs)) rfl ?_
  rintro _ _ ⟨cv, rfl, hov⟩
  obtain ⟨D, hD, rfl⟩ := hov.is hbd1 hbd2 hbd3
  obtain ⟨y1, yc1, y2, yc2, rfl, _⟩ := hD.vals
  have hsm := hs.sm
  repeat ((first | with_reducible refine T_block ?_ | with_reducible refine TL_nil ?_ | with_reducible refine TQ_then ?_ | refine TL_q (op_move rfl) rfl ?_ | refine TL_q (op_assign rfl) rfl ?_ | refine TL_q (op_extract rfl rfl) rfl ?_ | (refine TL_stAll rfl rfl st_63 rfl rfl rfl ?_) | (refine TL_new (op_alloc (C := #[(.int .i64 0), (.int .u8 0), (.slice none 0 0), (.slice none 0 0), (.int .u32 0)]) zero_63 rfl) rfl ?_; intro bNew)))
  obtain ⟨b4, hb4⟩ : ∃ b, bNew = b := ⟨_, rfl⟩
  rw [hb4]
  clear hb4 bNew
  unfold doesB
  by_cases h0 : x.kind = 0 ∧ x.ok = true
  · obtain ⟨hk0, hok⟩ := h0
    rw [if_pos ⟨hk0, hok⟩, hok]
    repeat ((first | with_reducible refine T_seq ?_ | with_reducible refine T_region ?_ | with_reducible refine TL_nil ?_ | with_reducible refine TQ_then ?_ | refine TL_q (op_move rfl) rfl ?_ | refine TL_q (op_assign rfl) rfl ?_ | (refine' TL_q (op_bin rfl rfl ?_) rfl ?_; rotate_left 1; (· (exact bin_eql))) | (refine' TL_q (op_pickT rfl ?_ rfl) rfl ?_; (· (exact dT (by (assumption))))) | refine TL_q (op_fld rfl fld_63_0) rfl ?_ | (refine' TL_q (op_ld rfl pl_3 ?_ ?_) rfl ?_; rotate_left 4; (· repeat ((first | exact List.mem_cons_self | apply List.mem_cons_of_mem | apply List.mem_append_right))); (· (assumption))) | (refine' TL_q (op_ldAll rfl st_63 ?_ ?_) rfl ?_; rotate_left 3; (· repeat ((exact List.mem_cons_self))); (· (rfl))) | (refine TL_gpre rfl rfl ?_ ?_; (· (exact dT (by (assumption))))) | refine TL_gq2 (op_move rfl) rfl ?_ | (refine T_yes rfl ?_ ?_; (· (with_reducible rfl)))))
    refine TL_cnt (L' := X ++ (D ++ L)) ?_ (by intro p; (try simp only [cnt_append, cnt_cons, cnt_nil]) <;> omega)
    refine TL_opT (op_call hb_42 rfl (pCast_B hb (mono_vote _ _ _ _ (mem_of_cnt (by intro p; (try simp only [cnt_append, cnt_cons, cnt_nil]) <;> omega)) hD) hsm)) rfl ?_
    rintro _ _ ⟨rfl, X', hX', rfl⟩
    repeat ((first | with_reducible refine TL_nil ?_ | with_reducible refine TQ_block ?_ | with_reducible refine TQ_fall ?_))
    refine TQ_cnt (L' := X' ++ L) ?_ (by intro p; (try simp only [cnt_append, cnt_cons, cnt_nil]) <;> omega)
    refine TQ_ret0 rfl ?_
    exact ⟨rfl, X', hX', rfl⟩
  · rw [if_neg h0]
    have hgo : ¬ x.kind = 0 ∨ x.ok = false := by
      by_cases hk0 : x.kind = 0
      · right
        cases h : x.ok with
        | true => exact absurd ⟨hk0, h⟩ h0
        | false => rfl
      · exact Or.inl hk0
    skip
    refine T_mid (σ := Unit) (fun _ => True) (fun _ => [(0, .pointer (some ⟨bb, 0, none⟩)), (3, .pointer (some ⟨b3, 0, none⟩)), (11, .bool false)]) (fun _ => (b3, Obj.cells (x.head vc va vb ++ cm).toArray 73 (0, 0)) :: (X ++ L)) ?_ ?_
    · by_cases hk0 : x.kind = 0
      · have hok : x.ok = false := hgo.resolve_left (fun h => h hk0)
        rw [hok]
        repeat ((first | with_reducible refine T_region ?_ | with_reducible refine TL_nil ?_ | refine TL_q (op_move rfl) rfl ?_ | refine TL_q (op_assign rfl) rfl ?_ | (refine' TL_q (op_bin rfl rfl ?_) rfl ?_; rotate_left 1; (· (exact bin_eql))) | (refine' TL_q (op_pickT rfl ?_ rfl) rfl ?_; (· (exact dT (by (assumption))))) | refine TL_q (op_fld rfl fld_63_0) rfl ?_ | (refine' TL_q (op_ld rfl pl_3 ?_ ?_) rfl ?_; rotate_left 4; (· repeat ((first | exact List.mem_cons_self | apply List.mem_cons_of_mem | apply List.mem_append_right))); (· (assumption))) | (refine TL_gpre rfl rfl ?_ ?_; (· (exact dT (by (assumption))))) | refine TL_gq2 (op_move rfl) rfl ?_))
        refine TQ_mid () trivial ?_ (fun w h => h.cnt (by intro p; (try simp only [cnt_append, cnt_cons, cnt_nil]) <;> omega))
        (repeat ((first | exact trivial | refine ⟨rfl, ?_⟩)))
      · repeat ((first | with_reducible refine T_region ?_ | with_reducible refine TL_nil ?_ | refine TL_q (op_move rfl) rfl ?_ | refine TL_q (op_assign rfl) rfl ?_ | (refine' TL_q (op_bin rfl rfl ?_) rfl ?_; rotate_left 1; (· (exact bin_eql))) | (refine' TL_q (op_pickF rfl ?_ rfl) rfl ?_; (· (exact dF (by (assumption))))) | refine TL_q (op_fld rfl fld_63_0) rfl ?_ | (refine' TL_q (op_ld rfl pl_3 ?_ ?_) rfl ?_; rotate_left 4; (· repeat ((first | exact List.mem_cons_self | apply List.mem_cons_of_mem | apply List.mem_append_right))); (· (assumption))) | (refine TL_gno rfl rfl ?_ rfl ?_; (· (exact dF (by (assumption)))))))
        refine TQ_mid () trivial ?_ (fun w h => h.cnt (by intro p; (try simp only [cnt_append, cnt_cons, cnt_nil]) <;> omega))
        (repeat ((first | exact trivial | refine ⟨rfl, ?_⟩)))
    · rintro _ _
      by_cases hk1 : x.kind = 1
      · rw [if_pos hk1]
        repeat ((first | with_reducible refine T_seq ?_ | with_reducible refine T_region ?_ | with_reducible refine TL_nil ?_ | with_reducible refine TQ_then ?_ | refine TL_q (op_move rfl) rfl ?_ | refine TL_q (op_assign rfl) rfl ?_ | (refine' TL_q (op_bin rfl rfl ?_) rfl ?_; rotate_left 1; (· (exact bin_eql))) | refine TL_q (op_fld rfl fld_63_0) rfl ?_ | refine TL_q (op_fld rfl fld_73_1) rfl ?_ | (refine' TL_q (op_ld rfl pl_3 ?_ ?_) rfl ?_; rotate_left 4; (· repeat ((exact List.mem_cons_self))); (· (assumption))) | (refine T_yes rfl ?_ ?_; (· (exact dT (by (assumption))))) | (refine T_no rfl ?_ ?_; (· (with_reducible rfl)))))
        refine TL_cnt (L' := X ++ L) ?_ (by intro p; (try simp only [cnt_append, cnt_cons, cnt_nil]) <;> omega)
        refine TL_opT (op_call hb_43 rfl (pPass_B x.up hb)) rfl ?_
        rintro _ _ ⟨rfl, X', hX', rfl⟩
        repeat ((first | with_reducible refine TL_nil ?_ | with_reducible refine TQ_block ?_ | with_reducible refine TQ_fall ?_))
        refine TQ_ret0 rfl ?_
        exact ⟨rfl, X', hX', rfl⟩
      · rw [if_neg hk1]
        repeat ((first | with_reducible refine T_seq ?_ | with_reducible refine T_region ?_ | with_reducible refine TL_nil ?_ | with_reducible refine TQ_then ?_ | with_reducible refine TQ_block ?_ | with_reducible refine T_skip ?_ | with_reducible refine TQ_fall ?_ | refine TL_q (op_assign rfl) rfl ?_ | (refine' TL_q (op_bin rfl rfl ?_) rfl ?_; rotate_left 1; (· (exact bin_eql))) | refine TL_q (op_fld rfl fld_63_0) rfl ?_ | (refine' TL_q (op_ld rfl pl_3 ?_ ?_) rfl ?_; rotate_left 4; (· repeat ((exact List.mem_cons_self))); (· (assumption))) | (refine T_no rfl ?_ ?_; (· (first | with_reducible rfl | exact dF (by (assumption)))))))
        refine TQ_cnt (L' := X ++ L) ?_ (by intro p; (try simp only [cnt_append, cnt_cons, cnt_nil]) <;> omega)
        refine TQ_ret0 rfl ?_
        exact ⟨rfl, X, hb, rfl⟩
/-- How many are wanted. -/
def wantOf (w : Int) : Int := 1 + IntKind.u64.wrap w % 9
theorem wantOf_bd (w : Int) : 1 ≤ wantOf w ∧ wantOf w ≤ 9 := by
  unfold wantOf
  omega
set_option maxRecDepth 100000 in
set_option maxHeartbeats 2000000 in
theorem made21_S {K : Blocks} (want : Int) (v : Value) (l : List TAct) (hl : sliceR 30 (fun _ => actR K) L [v] l) (hK : ∀ p ∈ K, p ∈ L) (hs : ∀ x ∈ l, x.Small) : Spec Try.prog G 34 #[.int .i64 want, v] L fun u M => ∃ bb X, u = .tuple #[.pointer (some ⟨bb, 0, none⟩), .int .i64 (wantOf want)] ∧ PBox bb (wantOf want) (l.foldl doesB []) X ∧ M = X ++ L := by
  obtain ⟨a, c, e1, hl⟩ := hl.val
  simp only [List.cons.injEq, and_true] at e1
  subst e1
  obtain ⟨_, ka1, ka2, hl⟩ := sliceR.cut hl
  unfold maxLen at ka2
  have hwb := wantOf_bd want
  have hwu := wrap_u64_nonneg want
  refine Spec_of (n := 33) Try.func34 rfl rfl rfl ?_
  repeat ((first | with_reducible refine T_seq ?_ | with_reducible refine T_region ?_ | with_reducible refine TL_nil ?_ | with_reducible refine TQ_then ?_ | refine TL_q (op_move rfl) rfl ?_ | refine TL_q (op_assign rfl) rfl ?_ | (refine' TL_q (op_bin rfl rfl ?_) rfl ?_; rotate_left 1; (· (first | exact bin_add ⟨by omega, by omega⟩ | exact bin_rem (by omega) (by omega)))) | (refine' TL_q (op_conv_int rfl Try.underlying67 Try.underlying3 ?_) rfl ?_; (· exact ⟨by omega, by omega⟩)) | refine TL_q (op_conv_intW rfl Try.underlying3 Try.underlying67) rfl ?_))
  refine TL_opT (op_call hb_41 rfl (pNew_B (wantOf want))) rfl ?_
  intro u0 M0 h0
  rcases h0 with ⟨_, _, bb, X0, rfl, hX0, rfl⟩ | ⟨h0, _⟩
  · repeat ((first | with_reducible refine T_seq ?_ | with_reducible refine T_block ?_ | with_reducible refine T_region ?_ | with_reducible refine TL_nil ?_ | with_reducible refine TQ_then ?_ | refine TL_q (op_move rfl) rfl ?_ | refine TL_q (op_assign rfl) rfl ?_ | refine TL_q (op_extract rfl rfl) rfl ?_))
    refine T_loopS (σ := Nat × Blocks) (fun y => y.1 ≤ l.length ∧ PBox bb (wantOf want) ((l.take y.1).foldl doesB []) y.2) (fun y => [(0, .int .i64 (wantOf want)), (1, .slice a l.length c), (6, .pointer (some ⟨bb, 0, none⟩)), (8, .int .i64 (y.1 : Nat))]) (fun y => y.2 ++ L) (fun y => l.length - y.1) (0, X0) ⟨Nat.zero_le _, hX0⟩ ?_ (fun w h => h) ?_
    (repeat ((first | exact trivial | refine ⟨rfl, ?_⟩)))
    rintro ⟨i, X⟩ ⟨hi, hX⟩
    dsimp only at hi hX ⊢
    by_cases hil : i < l.length
    · obtain ⟨x, hx⟩ : ∃ x, l[i]? = some x := ⟨_, List.getElem?_eq_getElem hil⟩
      have htk : (l.take (i + 1)).foldl doesB [] = doesB ((l.take i).foldl doesB []) x := by
        rw [List.take_add_one, hx, List.foldl_append]; rfl
      rcases hl with rfl | ⟨b1, o1, C1, t1, f1, rfl, m1, q1⟩
      · simp at hil
      obtain ⟨cx, hcl, hxr, hcx⟩ := q1 i x hx
      have m1' : (b1, Obj.cells C1 t1 f1) ∈ X ++ L := List.mem_append_right _ m1
      repeat ((first | with_reducible refine T_seq ?_ | with_reducible refine T_block ?_ | with_reducible refine T_region ?_ | with_reducible refine TL_nil ?_ | with_reducible refine TQ_then ?_ | with_reducible refine T_skip ?_ | refine TL_q (op_move rfl) rfl ?_ | (refine' TL_q (op_bin rfl rfl ?_) rfl ?_; rotate_left 1; (· (exact bin_lss))) | refine TL_q (op_len_slice rfl Try.underlying69) rfl ?_ | (refine' TL_q (op_idx ety_69 rfl rfl ?_) rfl ?_; (· omega)) | (refine T_yes rfl ?_ ?_; (· (exact dT (by (omega)))))))
      refine TL_q (op_ldA cx rfl (by rw [hcl]; exact st_73) m1' hcx) rfl ?_
      refine TL_opT (op_call hb_37 rfl (does21_S _ x hX (mono_act _ _ _ _ hK hxr) (hs x (List.mem_of_getElem? hx)))) rfl ?_
      rintro _ _ ⟨rfl, X', hX', rfl⟩
      rw [← htk] at hX'
      repeat ((first | with_reducible refine T_region ?_ | with_reducible refine TL_nil ?_ | with_reducible refine TQ_then ?_ | with_reducible refine TQ_block ?_ | refine TL_q (op_move rfl) rfl ?_ | refine TL_q (op_assign rfl) rfl ?_ | (refine' TL_q (op_bin rfl rfl ?_) rfl ?_; rotate_left 1; (· (exact bin_add ⟨by omega, by omega⟩)))))
      refine TQ_roundS (i + 1, X') ⟨hil, hX'⟩ ?_ (fun w h => h) (by dsimp only; omega)
      (repeat ((first | exact trivial | refine ⟨rfl, ?_⟩)))
    · have hie : i = l.length := by omega
      subst hie
      rw [List.take_length] at hX
      repeat ((first | with_reducible refine T_seq ?_ | with_reducible refine T_region ?_ | with_reducible refine TL_nil ?_ | with_reducible refine TQ_then ?_ | with_reducible refine T_exit ?_ | with_reducible refine T_ret ?_ | with_reducible refine TQ_then_exit ?_ | with_reducible refine TQ_block_exit ?_ | refine TL_q (op_move rfl) rfl ?_ | refine TL_q (op_assign rfl) rfl ?_ | (refine' TL_q (op_bin rfl rfl ?_) rfl ?_; rotate_left 1; (· (exact bin_lss))) | refine TL_q (op_len_slice rfl Try.underlying69) rfl ?_ | (refine T_no rfl ?_ ?_; (· (exact dF (by (omega)))))))
      refine TQ_ret2 4 5 _ _ rfl rfl rfl ?_
      exact ⟨bb, X, rfl, hX, rfl⟩
  · omega
set_option maxRecDepth 100000 in
set_option maxHeartbeats 2000000 in
theorem told21_S {K : Blocks} (v : Value) (l : List Vote) (hl : sliceR 5 (fun _ => voteR K) L [v] l) (hn : l.length ≤ 100000) :
    Spec Try.prog G 77 #[v] L fun w M => ∃ av cv Bv, w = .slice av l.length cv ∧ ORow voteR 63 5 K av cv l Bv ∧ M = Bv ++ L := by
  obtain ⟨a, c, e1, hl⟩ := hl.val
  simp only [List.cons.injEq, and_true] at e1
  subst e1
  obtain ⟨_, k1, k2, hl⟩ := sliceR.cut hl
  unfold maxLen at k2
  refine Spec_of (n := 19) Try.func77 rfl rfl rfl ?_
  repeat ((first | with_reducible refine T_seq ?_ | with_reducible refine T_block ?_ | with_reducible refine T_region ?_ | with_reducible refine TL_nil ?_ | with_reducible refine TQ_then ?_ | refine TL_q (op_assign rfl) rfl ?_))
  refine T_loopS (σ := Nat × Option Addr × Nat × Blocks) (fun x => x.1 ≤ l.length ∧ ORow voteR 63 5 K x.2.1 x.2.2.1 (l.take x.1) x.2.2.2) (fun x => [(0, .slice a l.length c), (3, .slice x.2.1 (l.take x.1).length x.2.2.1), (4, .int .i64 (x.1 : Nat))]) (fun x => x.2.2.2 ++ L) (fun x => l.length - x.1) (0, none, 0, []) ⟨Nat.zero_le _, ORow.nil _⟩ ?_ (fun w h => h) ?_
  (repeat ((first | exact trivial | refine ⟨rfl, ?_⟩)))
  rintro ⟨k, av, cv, Bv⟩ ⟨hk, hV⟩
  dsimp only at hk hV ⊢
  by_cases hlt : k < l.length
  · obtain ⟨y, hy⟩ : ∃ y, l[k]? = some y := ⟨_, List.getElem?_eq_getElem hlt⟩
    have htk : l.take (k + 1) = l.take k ++ [y] := by rw [List.take_add_one, hy]; rfl
    have htl : (l.take k).length ≤ 100000 := by rw [List.length_take]; omega
    rcases hl with rfl | ⟨b1, o1, C1, t1, f1, rfl, m1, q1⟩
    · simp at hlt
    obtain ⟨cs, _, hyv, hcs⟩ := q1 k y hy
    obtain ⟨a1, c1, a2, c2, rfl, _⟩ := hyv.vals
    have m1' : (b1, Obj.cells C1 t1 f1) ∈ Bv ++ L := List.mem_append_right _ m1
    repeat ((first | with_reducible refine T_seq ?_ | with_reducible refine T_block ?_ | with_reducible refine T_region ?_ | with_reducible refine TL_nil ?_ | with_reducible refine TQ_then ?_ | with_reducible refine T_skip ?_ | refine TL_q (op_move rfl) rfl ?_ | (refine' TL_q (op_bin rfl rfl ?_) rfl ?_; rotate_left 1; (· (exact bin_lss))) | refine TL_q (op_len_slice rfl Try.underlying47) rfl ?_ | (refine' TL_q (op_idx ety_47 rfl rfl ?_) rfl ?_; (· omega)) | (refine T_yes rfl ?_ ?_; (· (exact dT (by (omega)))))))
    refine TL_q (op_ldA [.int .i64 y.up, .int .u8 y.vd.code, .slice a1 y.vd.sets.length c1, .slice a2 y.vd.soa.length c2, .int .u32 y.time] rfl st_46 m1' hcs) rfl ?_
    repeat ((refine TL_new (op_litN ety_50 rfl rfl (by decide)) rfl ?_; intro bLit))
    refine TL_opT (op_pushK (L0 := []) (r := voteR K) (cs := [.int .i64 y.up, .int .u8 y.vd.code, .slice a1 y.vd.sets.length c1, .slice a2 y.vd.soa.length c2, .int .u32 y.time]) (y := y) ety_50 rfl rfl (hV.imp (L' := []) (fun cs x _ h => h)) rfl (fun v hv => voteR.one hyv v hv) hyv (by omega) (by decide)) rfl ?_
    rintro _ _ ⟨a', c', B', rfl, hB', rfl⟩
    repeat ((first | with_reducible refine T_region ?_ | with_reducible refine TL_nil ?_ | with_reducible refine TQ_then ?_ | with_reducible refine TQ_block ?_ | refine TL_q (op_move rfl) rfl ?_ | refine TL_q (op_assign rfl) rfl ?_ | (refine' TL_q (op_bin rfl rfl ?_) rfl ?_; rotate_left 1; (· (exact bin_add ⟨by omega, by omega⟩)))))
    refine TQ_roundS (k + 1, a', c', B') ⟨hlt, by dsimp only; rw [htk]; exact hB'.imp (r' := voteR) (L' := K) (fun cs x _ h => h)⟩ ?_ (fun w h => h) (by dsimp only; omega)
    dsimp only
    rw [htk]
    (repeat ((first | exact trivial | refine ⟨rfl, ?_⟩)))
  · have hkn : k = l.length := by omega
    subst hkn
    rw [List.take_length] at hV ⊢
    repeat ((first | with_reducible refine T_seq ?_ | with_reducible refine T_region ?_ | with_reducible refine TL_nil ?_ | with_reducible refine TQ_then ?_ | with_reducible refine T_exit ?_ | with_reducible refine T_ret ?_ | with_reducible refine TQ_then_exit ?_ | with_reducible refine TQ_block_exit ?_ | refine TL_q (op_move rfl) rfl ?_ | refine TL_q (op_assign rfl) rfl ?_ | (refine' TL_q (op_bin rfl rfl ?_) rfl ?_; rotate_left 1; (· (exact bin_lss))) | refine TL_q (op_len_slice rfl Try.underlying47) rfl ?_ | (refine T_no rfl ?_ ?_; (· (exact dF (by (omega)))))))
    refine TQ_ret1 2 _ rfl rfl ?_
    exact ⟨av, cv, Bv, rfl, hV, rfl⟩
end Go.Proofs.Ytdflhdfapnhjjaa
namespace Go.Proofs.Ytdflhdfapnhjjaa
open Go.RowKit
open Vd (RSet Vdt Vote Rec Quest Piece Ballot Said)
set_option linter.unusedVariables false
set_option linter.unusedSimpArgs false
--auto
/-- Where data may lie that are written over. -/
def keysOf (N : Blocks) : List (Nat × Nat) := N.map fun p => (p.1, match p.2 with | .cells C _ _ => C.size | _ => 0)
section
variable {G : World} {L : Blocks}
/-- The cells of a message of one's own. -/
def msgC (code : Int) (a : Option Addr) (n c : Nat) : List Value := [.int .u16 0, .bool false, .int .u8 0, .bool false, .bool false, .bool false, .bool false, .bool false, .bool false, .bool false, .int .u8 code, .slice none 0 0, .slice a n c, .slice none 0 0, .slice none 0 0, .bool false, .int .u16 0, .int .u8 0, .int .u8 0, .int .u16 0, .slice none 0 0]
theorem msgC.one {code : Int} {a : Option Addr} {n c : Nat} : ∀ v ∈ msgC code a n c, v.oneCell' = true := by
  intro v hv
  simp only [msgC, List.mem_cons, List.not_mem_nil, or_false] at hv
  rcases hv with rfl | rfl | rfl | rfl | rfl | rfl | rfl | rfl | rfl | rfl | rfl | rfl | rfl | rfl | rfl | rfl | rfl | rfl | rfl | rfl | rfl <;> rfl
theorem msgC.is {K : Blocks} {code : Int} {a : Option Addr} {c : Nat} {l : List Rec} (h : sliceR 5 recR K [.slice a l.length c] l) (hc : 0 ≤ code ∧ code ≤ 255) : msgR K (msgC code a l.length c) ⟨code, l, []⟩ :=
  ⟨_, _, _, _, _, _, _, _, _, _, _, _, _, _, _, _, _, _, _, _, rfl, h, sliceR.nil, hc, msgC.one⟩
/-- A reply with an address of a name. -/
def saysM (n : Vd.Bytes) (c : UInt8) : Vd.Msg := ⟨0, [⟨n, 1, 1, 9, [10, 0, 0, c]⟩], []⟩
end
end Go.Proofs.Ytdflhdfapnhjjaa
namespace Go.Proofs.Ytdflhdfapnhjjaa
open Go.RowKit
open Vd (RSet Vdt Vote Rec Quest Piece Ballot)
set_option linter.unusedVariables false
set_option linter.unusedSimpArgs false
--auto
variable {G : World} {L : Blocks}
/-- Blocks that a vote's verdict alone lies in. -/
def VOwn (X : Blocks) (cs : List Value) : Prop := ∃ up code t a n c a2 n2 c2 B B2 N, cs = [up, .int .u8 code, .slice a n c, .slice a2 n2 c2, t] ∧ RowS (keysOf N) B a n ∧ RowS (keysOf N) B2 a2 n2 ∧ n ≤ 100000 ∧ n2 ≤ 100000 ∧ Wr N ∧ X = B ++ (B2 ++ N)
def ownR : Rp (Vote × Blocks) := fun L cs y => voteR L cs y.1 ∧ VOwn y.2 cs
theorem Laid.map {α β : Type} {r : Rp α} {r' : Rp β} {sz : Nat} {L : Blocks} (f : α → β) (hr : ∀ cs x, r L cs x → r' L cs (f x)) : ∀ {l : List α} {xs : List Value}, Laid r sz L xs l → Laid r' sz L xs (l.map f)
  | [], xs, h => h
  | x :: l, xs, ⟨c, ys, h1, h2, h3, h4⟩ => ⟨c, ys, h1, h2, hr c x h3, Laid.map f hr h4⟩
theorem ORow.map {α β : Type} {r : Rp α} {r' : Rp β} {sz : Nat} {L : Blocks} {e : TypeId} {a : Option Addr} {c : Nat} {l : List α} {B : Blocks} (f : α → β) (hr : ∀ cs x, r L cs x → r' L cs (f x)) (h : ORow r e sz L a c l B) : ORow r' e sz L a c (l.map f) B := by
  obtain ⟨xs, h1, h2, h3⟩ := h.ex
  exact ⟨xs, by rw [List.length_map]; exact h1, h2.map f hr, h3⟩
/-- Votes in new memory, each in its own. -/
def VotesOwn (L : Blocks) (vs : List Vote) (u : Value) (M : Blocks) : Prop := ∃ a c B zl, u = .slice a vs.length c ∧ zl.map (·.1) = vs ∧ ORow ownR 46 5 (zl.flatMap (·.2)) a c zl B ∧ M = B ++ (zl.flatMap (·.2) ++ L)
end Go.Proofs.Ytdflhdfapnhjjaa
namespace Go.Proofs.Ytdflhdfapnhjjaa
open Go.RowKit
open Vd (RSet Vdt Vote Rec Quest Piece Ballot)
set_option linter.unusedVariables false
set_option linter.unusedSimpArgs false
--auto
variable {G : World} {L : Blocks}
set_option maxRecDepth 100000 in
set_option maxHeartbeats 4000000 in
theorem long21_S (v : Value) (l : List TAct) (hl : sliceR 30 actR L [v] l) : Spec Try.prog G 31 #[v] L fun u M => ∃ b, u = .bool b ∧ M = L ∧ (b = false → l.length ≤ 125 ∧ ∀ x ∈ l, x.Small) := by
  obtain ⟨al, cl, e1, hl⟩ := hl.val
  simp only [List.cons.injEq, and_true] at e1
  subst e1
  obtain ⟨_, ka1, ka2, hl⟩ := sliceR.cut hl
  unfold maxLen at ka2
  refine Spec_of (n := 116) Try.func31 rfl rfl rfl ?_
  repeat ((first | with_reducible refine T_seq ?_ | with_reducible refine T_block ?_ | with_reducible refine T_region ?_ | with_reducible refine TL_nil ?_ | with_reducible refine TQ_then ?_ | refine TL_q (op_assign rfl) rfl ?_))
  refine T_loopS (σ := Nat × Int) (fun y => y.1 ≤ l.length ∧ (0 ≤ y.2 ∧ y.2 ≤ 30000) ∧ 40 * y.1 ≤ y.2 ∧ (y.2 < 5000 → ∀ x ∈ l.take y.1, x.Small)) (fun y => [(0, .slice al l.length cl), (3, .int .i64 y.2), (4, .int .i64 (y.1 : Nat))]) (fun y => L) (fun y => l.length - y.1) (0, 0) ⟨Nat.zero_le _, by simp, by simp, by simp⟩ ?_ (fun w h => h) ?_
  (repeat ((first | exact trivial | refine ⟨rfl, ?_⟩)))
  rintro ⟨i, n⟩ ⟨hi, ⟨hn0, hn00⟩, hn40, hall⟩
  dsimp only at hi hn0 hn00 hn40 hall ⊢
  by_cases hgo : i < l.length ∧ n < 5000
  · obtain ⟨hil, hn5⟩ := hgo
    obtain ⟨s, hs⟩ : ∃ s, l[i]? = some s := ⟨_, List.getElem?_eq_getElem hil⟩
    rcases hl with rfl | ⟨b1, o1, C1, t1, f1, rfl, m1, q1⟩
    · simp at hil
    obtain ⟨cx, _, ⟨vc, va0, vb0, cm, rfl, ⟨_, hqm, _⟩, hsm, _⟩, hcx⟩ := q1 i s hs
    unfold maxLen at hqm
    obtain ⟨h0, h1, h2, h3, h4, h5, h6, h7, h8, h9, qs, va, vb, xx, kk, e0, e1, e2, e3, e4, rfl, hma, hmb, hcode, _⟩ := hsm
    obtain ⟨aA, cA, ea, hma⟩ := hma.val
    obtain ⟨aB, cB, eb, hmb⟩ := hmb.val
    simp only [List.cons.injEq, and_true] at ea eb
    subst ea eb
    have hAc := (sliceR.cut hma).2
    have hBc := (sliceR.cut hmb).2
    unfold maxLen at hAc hBc
    obtain ⟨hAc1, hAc2, _⟩ := hAc
    obtain ⟨hBc1, hBc2, _⟩ := hBc
    have gq : C1[o1 + i * 30 + 6 + 0]? = some (.string (bs s.q.name)) := by rw [Nat.add_assoc]; exact hcx 6 _ rfl
    have hA : C1[o1 + i * 30 + 9 + 12]? = some (.slice aA s.m.answers.length cA) := by rw [Nat.add_assoc]; exact hcx (9 + 12) _ rfl
    have hB : C1[o1 + i * 30 + 9 + 13]? = some (.slice aB s.m.auth.length cB) := by rw [Nat.add_assoc]; exact hcx (9 + 13) _ rfl
    obtain ⟨n1, hn1⟩ : ∃ x, x = n + 40 + min 5000 (s.q.name.length : Int) := ⟨_, rfl⟩
    skip
    refine T_seq ?_
    skip
    refine T_seq ?_
    repeat ((first | with_reducible refine T_region ?_ | with_reducible refine TL_nil ?_ | with_reducible refine TQ_then ?_ | with_reducible refine T_skip ?_ | refine TL_q (op_move rfl) rfl ?_ | (refine' TL_q (op_bin rfl rfl ?_) rfl ?_; rotate_left 1; (· (exact bin_lss))) | (refine' TL_q (op_pickT rfl ?_ rfl) rfl ?_; (· (exact dT (by (omega))))) | refine TL_q (op_len_slice rfl Try.underlying69) rfl ?_ | (refine TL_gpre rfl rfl ?_ ?_; (· (exact dT (by (omega))))) | refine TL_gq2 (op_move rfl) rfl ?_ | (refine' TL_gq2 (op_bin rfl rfl ?_) rfl ?_; rotate_left 1; (· (exact bin_lss))) | (refine T_yes rfl ?_ ?_; (· (exact dT (by (assumption)))))))
    refine T_seq ?_
    repeat ((with_reducible refine T_block ?_))
    refine T_seq ?_
    repeat ((first | with_reducible refine T_region ?_ | with_reducible refine TL_nil ?_ | with_reducible refine TQ_then ?_ | refine TL_q (op_move rfl) rfl ?_ | refine TL_q (op_assign rfl) rfl ?_ | (refine' TL_q (op_bin rfl rfl ?_) rfl ?_; rotate_left 1; (· (exact bin_add ⟨by omega, by omega⟩))) | refine TL_q (op_len_str rfl Try.underlying9) rfl ?_ | refine TL_q (op_min rfl rfl) rfl ?_ | (refine' TL_q (op_idx ety_69 rfl rfl ?_) rfl ?_; (· omega)) | refine TL_q (op_fld rfl fld_34_0) rfl ?_ | refine TL_q (op_fld rfl fld_73_2) rfl ?_ | (refine' TL_q (op_ld rfl pl_9 ?_ ?_) rfl ?_; rotate_left 4; (· repeat ((assumption))); (· (assumption)))))
    refine T_mid (σ := Int) (fun nA => (n1 ≤ nA ∧ nA ≤ 30000) ∧ (nA < 5000 → s.m.answers.length ≤ 420 ∧ ∀ x ∈ s.m.answers, x.name.length ≤ 5000 ∧ x.data.length ≤ 5000)) (fun nA => [(0, .slice (some ⟨b1, o1, none⟩) l.length cl), (3, .int .i64 nA), (4, .int .i64 (i : Nat))]) (fun _ => L) ?_ ?_
    · rw [← hn1]
      repeat ((first | with_reducible refine T_seq ?_ | with_reducible refine T_block ?_ | with_reducible refine T_region ?_ | with_reducible refine TL_nil ?_ | with_reducible refine TQ_then ?_ | refine TL_q (op_assign rfl) rfl ?_))
      refine T_loopS (σ := Nat × Int) (fun y => y.1 ≤ s.m.answers.length ∧ (n1 ≤ y.2 ∧ y.2 ≤ 30000) ∧ 12 * y.1 ≤ y.2 ∧ (y.2 < 5000 → ∀ x ∈ s.m.answers.take y.1, x.name.length ≤ 5000 ∧ x.data.length ≤ 5000)) (fun y => [(0, .slice (some ⟨b1, o1, none⟩) l.length cl), (3, .int .i64 y.2), (4, .int .i64 (i : Nat)), (5, .int .i64 (y.1 : Nat))]) (fun y => L) (fun y => s.m.answers.length - y.1) (0, n1) ⟨Nat.zero_le _, by dsimp only; omega, by dsimp only; omega, by simp⟩ ?_ (fun w h => h) ?_
      (repeat ((first | exact trivial | refine ⟨rfl, ?_⟩)))
      rintro ⟨k, n2⟩ ⟨hk, ⟨hn21, hn2⟩, hn3, hfit⟩
      dsimp only at hk hn21 hn2 hn3 hfit ⊢
      by_cases hgo : k < s.m.answers.length ∧ n2 < 5000
      · obtain ⟨hkl, hn5⟩ := hgo
        obtain ⟨x, hx⟩ : ∃ x, s.m.answers[k]? = some x := ⟨_, List.getElem?_eq_getElem hkl⟩
        obtain ⟨b2, o2, C2, t2, f2, rfl, m2, cs, _, ⟨rfl, hxn, hxd, _⟩, hcs⟩ := sliceR.at hma hx
        unfold maxLen at hxn hxd
        have e0' : C2[o2 + k * 5 + 0]? = some (.string (bs x.name)) := hcs 0 _ rfl
        have e4' : C2[o2 + k * 5 + 4]? = some (.string (bs x.data)) := hcs 4 _ rfl
        have hKm : ∀ z ∈ [(b1, Obj.cells C1 t1 f1), (b2, Obj.cells C2 t2 f2)], z ∈ L := by
          intro z hz
          simp only [List.mem_cons, List.not_mem_nil, or_false] at hz
          rcases hz with rfl | rfl <;> assumption
        repeat ((first | with_reducible refine T_seq ?_ | with_reducible refine T_block ?_ | with_reducible refine T_region ?_ | with_reducible refine TL_nil ?_ | with_reducible refine TQ_then ?_ | with_reducible refine T_skip ?_ | refine TL_q (op_move rfl) rfl ?_ | (refine' TL_q (op_bin rfl rfl ?_) rfl ?_; rotate_left 1; (· (exact bin_lss))) | (refine' TL_q (op_pickT rfl ?_ rfl) rfl ?_; (· (exact dT (by (omega))))) | refine TL_q (op_len_slice rfl Try.underlying27) rfl ?_ | (refine' TL_q (op_idx ety_69 rfl rfl ?_) rfl ?_; (· omega)) | refine TL_q (op_fld rfl fld_32_2) rfl ?_ | refine TL_q (op_fld rfl fld_73_3) rfl ?_ | (refine' TL_q (op_ld rfl pl_9 ?_ ?_) rfl ?_; rotate_left 4; (· repeat ((assumption))); (· (assumption))) | (refine TL_gpre rfl rfl ?_ ?_; (· (exact dT (by (omega))))) | refine TL_gq2 (op_move rfl) rfl ?_ | (refine' TL_gq2 (op_bin rfl rfl ?_) rfl ?_; rotate_left 1; (· (exact bin_lss))) | (refine T_yes rfl ?_ ?_; (· (exact dT (by (assumption)))))))
        refine T_draw follows_mixed ([(b1, Obj.cells C1 t1 f1), (b2, Obj.cells C2 t2 f2)]) [] ?_
        (refine' TA_take 0 rfl rfl (by kernel_rfl) (quiet_q (op_move rfl)) ?_ ?_; (· (assumption)))
        (refine' TA_take 1 rfl rfl (by kernel_rfl) (quiet_q (op_bin rfl rfl ?_)) ?_ ?_; rotate_left 1; (· (exact bin_add ⟨by omega, by omega⟩)); (· (assumption)))
        (refine' TA_take 2 rfl rfl (by kernel_rfl) (quiet_q (op_move rfl)) ?_ ?_; (· (assumption)))
        (refine' TA_take 3 rfl rfl (by kernel_rfl) (quiet_q (op_move rfl)) ?_ ?_; (· (assumption)))
        (refine' TA_take 4 rfl rfl (by kernel_rfl) (quiet_q (op_idx ety_69 rfl rfl ?_)) ?_ ?_; (· omega); (· (assumption)))
        (refine' TA_take 5 rfl rfl (by kernel_rfl) (quiet_q (op_fld rfl fld_73_3)) ?_ ?_; (· (assumption)))
        (refine' TA_take 6 rfl rfl (by kernel_rfl) (quiet_q (op_fld rfl fld_32_2)) ?_ ?_; (· (assumption)))
        (refine' TA_take 7 rfl rfl (by kernel_rfl) (quiet_q (op_ld rfl pl_27 ?_ ?_)) ?_ ?_; rotate_left 4; (· repeat ((exact List.mem_cons_self))); (· (assumption)); (· (assumption)))
        (refine' TA_take 8 rfl rfl (by kernel_rfl) (quiet_q (op_move rfl)) ?_ ?_; (· (assumption)))
        (refine' TA_take 9 rfl rfl (by kernel_rfl) (quiet_q (op_idx ety_27 rfl rfl ?_)) ?_ ?_; (· omega); (· (assumption)))
        (refine' TA_take 10 rfl rfl (by kernel_rfl) (quiet_q (op_fld rfl fld_112_0)) ?_ ?_; (· (assumption)))
        (refine' TA_take 11 rfl rfl (by kernel_rfl) (quiet_q (op_ld rfl pl_9 ?_ ?_)) ?_ ?_; rotate_left 4; (· repeat ((first | exact List.mem_cons_self | apply List.mem_cons_of_mem))); (· (assumption)); (· (assumption)))
        (refine' TA_take 12 rfl rfl (by kernel_rfl) (quiet_q (op_len_str rfl Try.underlying9)) ?_ ?_; (· (assumption)))
        (refine' TA_take 13 rfl rfl (by kernel_rfl) (quiet_q (op_min rfl rfl)) ?_ ?_; (· (assumption)))
        (refine' TA_take 14 rfl rfl (by kernel_rfl) (quiet_q (op_bin rfl rfl ?_)) ?_ ?_; rotate_left 1; (· (exact bin_add ⟨by omega, by omega⟩)); (· (assumption)))
        (refine' TA_take 15 rfl rfl (by kernel_rfl) (quiet_q (op_move rfl)) ?_ ?_; (· (assumption)))
        (refine' TA_take 16 rfl rfl (by kernel_rfl) (quiet_q (op_move rfl)) ?_ ?_; (· (assumption)))
        (refine' TA_take 17 rfl rfl (by kernel_rfl) (quiet_q (op_idx ety_69 rfl rfl ?_)) ?_ ?_; (· omega); (· (assumption)))
        (refine' TA_take 18 rfl rfl (by kernel_rfl) (quiet_q (op_fld rfl fld_73_3)) ?_ ?_; (· (assumption)))
        (refine' TA_take 19 rfl rfl (by kernel_rfl) (quiet_q (op_fld rfl fld_32_2)) ?_ ?_; (· (assumption)))
        (refine' TA_take 20 rfl rfl (by kernel_rfl) (quiet_q (op_ld rfl pl_27 ?_ ?_)) ?_ ?_; rotate_left 4; (· repeat ((exact List.mem_cons_self))); (· (assumption)); (· (assumption)))
        (refine' TA_take 21 rfl rfl (by kernel_rfl) (quiet_q (op_move rfl)) ?_ ?_; (· (assumption)))
        (refine' TA_take 22 rfl rfl (by kernel_rfl) (quiet_q (op_idx ety_27 rfl rfl ?_)) ?_ ?_; (· omega); (· (assumption)))
        (refine' TA_take 23 rfl rfl (by kernel_rfl) (quiet_q (op_fld rfl fld_112_4)) ?_ ?_; (· (assumption)))
        (refine' TA_take 24 rfl rfl (by kernel_rfl) (quiet_q (op_ld rfl pl_9 ?_ ?_)) ?_ ?_; rotate_left 4; (· repeat ((first | exact List.mem_cons_self | apply List.mem_cons_of_mem))); (· (assumption)); (· (assumption)))
        (refine' TA_take 25 rfl rfl (by kernel_rfl) (quiet_q (op_len_str rfl Try.underlying9)) ?_ ?_; (· (assumption)))
        (refine' TA_take 26 rfl rfl (by kernel_rfl) (quiet_q (op_min rfl rfl)) ?_ ?_; (· (assumption)))
        (refine' TA_take 27 rfl rfl (by kernel_rfl) (quiet_q (op_bin rfl rfl ?_)) ?_ ?_; rotate_left 1; (· (exact bin_add ⟨by omega, by omega⟩)); (· (assumption)))
        (refine' TA_take 28 rfl rfl (by kernel_rfl) (quiet_q (op_assign rfl)) ?_ ?_; (· (assumption)))
        refine TA_done (by kernel_rfl) ?_
        repeat ((first | with_reducible refine T_region ?_ | with_reducible refine TL_nil ?_ | with_reducible refine TQ_then ?_ | with_reducible refine TQ_block ?_ | refine TL_q (op_move rfl) rfl ?_ | refine TL_q (op_assign rfl) rfl ?_ | (refine' TL_q (op_bin rfl rfl ?_) rfl ?_; rotate_left 1; (· (exact bin_add ⟨by omega, by omega⟩)))))
        refine TQ_roundS (k + 1, n2 + 12 + min 5000 (x.name.length : Int) + min 5000 (x.data.length : Int)) ⟨hkl, by dsimp only; omega, by dsimp only; omega, fun h y hy => ?_⟩ ?_ (fun w h => h) (by dsimp only; omega)
        · dsimp only at h
          rw [List.take_add_one, hx] at hy
          rcases List.mem_append.1 hy with hy | hy
          · exact hfit hn5 y hy
          · have : y = x := by simpa using hy
            subst this
            omega
        (repeat ((first | exact trivial | refine ⟨rfl, ?_⟩)))
      · have hfin : n2 < 5000 → s.m.answers.length ≤ 420 ∧ ∀ x ∈ s.m.answers, x.name.length ≤ 5000 ∧ x.data.length ≤ 5000 := fun h => by
          have hke : k = s.m.answers.length := by omega
          have := hfit h
          rw [hke, List.take_length] at this
          exact ⟨by omega, this⟩
        by_cases hkl : k < s.m.answers.length
        · have hn5 : ¬ n2 < 5000 := fun h => hgo ⟨hkl, h⟩
          repeat ((first | with_reducible refine T_seq ?_ | with_reducible refine T_region ?_ | with_reducible refine TL_nil ?_ | with_reducible refine TQ_then ?_ | with_reducible refine T_exit ?_ | with_reducible refine TQ_then_exit ?_ | with_reducible refine TQ_block_exit ?_ | refine TL_q (op_move rfl) rfl ?_ | (refine' TL_q (op_bin rfl rfl ?_) rfl ?_; rotate_left 1; (· (exact bin_lss))) | (refine' TL_q (op_pickT rfl ?_ rfl) rfl ?_; (· (exact dT (by (omega))))) | refine TL_q (op_len_slice rfl Try.underlying27) rfl ?_ | (refine' TL_q (op_idx ety_69 rfl rfl ?_) rfl ?_; (· omega)) | refine TL_q (op_fld rfl fld_32_2) rfl ?_ | refine TL_q (op_fld rfl fld_73_3) rfl ?_ | (refine' TL_q (op_ld rfl pl_9 ?_ ?_) rfl ?_; rotate_left 4; (· repeat ((assumption))); (· (assumption))) | (refine TL_gpre rfl rfl ?_ ?_; (· (exact dT (by (omega))))) | refine TL_gq2 (op_move rfl) rfl ?_ | (refine' TL_gq2 (op_bin rfl rfl ?_) rfl ?_; rotate_left 1; (· (exact bin_lss))) | (refine T_no rfl ?_ ?_; (· (exact dF (by (assumption)))))))
          refine TQ_mid n2 ⟨⟨hn21, hn2⟩, hfin⟩ ?_ (fun w h => h)
          (repeat ((first | exact trivial | refine ⟨rfl, ?_⟩)))
        · repeat ((first | with_reducible refine T_seq ?_ | with_reducible refine T_region ?_ | with_reducible refine TL_nil ?_ | with_reducible refine TQ_then ?_ | with_reducible refine T_exit ?_ | with_reducible refine TQ_then_exit ?_ | with_reducible refine TQ_block_exit ?_ | refine TL_q (op_move rfl) rfl ?_ | (refine' TL_q (op_bin rfl rfl ?_) rfl ?_; rotate_left 1; (· (exact bin_lss))) | (refine' TL_q (op_pickF rfl ?_ rfl) rfl ?_; (· (exact dF (by (omega))))) | refine TL_q (op_len_slice rfl Try.underlying27) rfl ?_ | (refine' TL_q (op_idx ety_69 rfl rfl ?_) rfl ?_; (· omega)) | refine TL_q (op_fld rfl fld_32_2) rfl ?_ | refine TL_q (op_fld rfl fld_73_3) rfl ?_ | (refine' TL_q (op_ld rfl pl_9 ?_ ?_) rfl ?_; rotate_left 4; (· repeat ((assumption))); (· (assumption))) | (refine TL_gno rfl rfl ?_ rfl ?_; (· (exact dF (by (omega))))) | (refine T_no rfl ?_ ?_; (· (with_reducible rfl)))))
          refine TQ_mid n2 ⟨⟨hn21, hn2⟩, hfin⟩ ?_ (fun w h => h)
          (repeat ((first | exact trivial | refine ⟨rfl, ?_⟩)))
    · rintro nA ⟨⟨hnA1, hnA2⟩, hfinA⟩
      repeat ((first | with_reducible refine T_seq ?_ | with_reducible refine T_block ?_ | with_reducible refine T_region ?_ | with_reducible refine TL_nil ?_ | with_reducible refine TQ_then ?_ | refine TL_q (op_assign rfl) rfl ?_))
      refine T_loopS (σ := Nat × Int) (fun y => y.1 ≤ s.m.auth.length ∧ (nA ≤ y.2 ∧ y.2 ≤ 30000) ∧ 12 * y.1 ≤ y.2 ∧ (y.2 < 5000 → ∀ x ∈ s.m.auth.take y.1, x.name.length ≤ 5000 ∧ x.data.length ≤ 5000)) (fun y => [(0, .slice (some ⟨b1, o1, none⟩) l.length cl), (3, .int .i64 y.2), (4, .int .i64 (i : Nat)), (6, .int .i64 (y.1 : Nat))]) (fun y => L) (fun y => s.m.auth.length - y.1) (0, nA) ⟨Nat.zero_le _, by dsimp only; omega, by dsimp only; omega, by simp⟩ ?_ (fun w h => h) ?_
      (repeat ((first | exact trivial | refine ⟨rfl, ?_⟩)))
      rintro ⟨k, n2⟩ ⟨hk, ⟨hn21, hn2⟩, hn3, hfit⟩
      dsimp only at hk hn21 hn2 hn3 hfit ⊢
      by_cases hgo : k < s.m.auth.length ∧ n2 < 5000
      · obtain ⟨hkl, hn5⟩ := hgo
        obtain ⟨x, hx⟩ : ∃ x, s.m.auth[k]? = some x := ⟨_, List.getElem?_eq_getElem hkl⟩
        obtain ⟨b2, o2, C2, t2, f2, rfl, m2, cs, _, ⟨rfl, hxn, hxd, _⟩, hcs⟩ := sliceR.at hmb hx
        unfold maxLen at hxn hxd
        have e0' : C2[o2 + k * 5 + 0]? = some (.string (bs x.name)) := hcs 0 _ rfl
        have e4' : C2[o2 + k * 5 + 4]? = some (.string (bs x.data)) := hcs 4 _ rfl
        have hKm : ∀ z ∈ [(b1, Obj.cells C1 t1 f1), (b2, Obj.cells C2 t2 f2)], z ∈ L := by
          intro z hz
          simp only [List.mem_cons, List.not_mem_nil, or_false] at hz
          rcases hz with rfl | rfl <;> assumption
        repeat ((first | with_reducible refine T_seq ?_ | with_reducible refine T_block ?_ | with_reducible refine T_region ?_ | with_reducible refine TL_nil ?_ | with_reducible refine TQ_then ?_ | with_reducible refine T_skip ?_ | refine TL_q (op_move rfl) rfl ?_ | (refine' TL_q (op_bin rfl rfl ?_) rfl ?_; rotate_left 1; (· (exact bin_lss))) | (refine' TL_q (op_pickT rfl ?_ rfl) rfl ?_; (· (exact dT (by (omega))))) | refine TL_q (op_len_slice rfl Try.underlying27) rfl ?_ | (refine' TL_q (op_idx ety_69 rfl rfl ?_) rfl ?_; (· omega)) | refine TL_q (op_fld rfl fld_32_3) rfl ?_ | refine TL_q (op_fld rfl fld_73_3) rfl ?_ | (refine' TL_q (op_ld rfl pl_9 ?_ ?_) rfl ?_; rotate_left 4; (· repeat ((assumption))); (· (assumption))) | (refine TL_gpre rfl rfl ?_ ?_; (· (exact dT (by (omega))))) | refine TL_gq2 (op_move rfl) rfl ?_ | (refine' TL_gq2 (op_bin rfl rfl ?_) rfl ?_; rotate_left 1; (· (exact bin_lss))) | (refine T_yes rfl ?_ ?_; (· (exact dT (by (assumption)))))))
        refine T_draw follows_mixed ([(b1, Obj.cells C1 t1 f1), (b2, Obj.cells C2 t2 f2)]) [] ?_
        (refine' TA_take 0 rfl rfl (by kernel_rfl) (quiet_q (op_move rfl)) ?_ ?_; (· (assumption)))
        (refine' TA_take 1 rfl rfl (by kernel_rfl) (quiet_q (op_bin rfl rfl ?_)) ?_ ?_; rotate_left 1; (· (exact bin_add ⟨by omega, by omega⟩)); (· (assumption)))
        (refine' TA_take 2 rfl rfl (by kernel_rfl) (quiet_q (op_move rfl)) ?_ ?_; (· (assumption)))
        (refine' TA_take 3 rfl rfl (by kernel_rfl) (quiet_q (op_move rfl)) ?_ ?_; (· (assumption)))
        (refine' TA_take 4 rfl rfl (by kernel_rfl) (quiet_q (op_idx ety_69 rfl rfl ?_)) ?_ ?_; (· omega); (· (assumption)))
        (refine' TA_take 5 rfl rfl (by kernel_rfl) (quiet_q (op_fld rfl fld_73_3)) ?_ ?_; (· (assumption)))
        (refine' TA_take 6 rfl rfl (by kernel_rfl) (quiet_q (op_fld rfl fld_32_3)) ?_ ?_; (· (assumption)))
        (refine' TA_take 7 rfl rfl (by kernel_rfl) (quiet_q (op_ld rfl pl_27 ?_ ?_)) ?_ ?_; rotate_left 4; (· repeat ((exact List.mem_cons_self))); (· (assumption)); (· (assumption)))
        (refine' TA_take 8 rfl rfl (by kernel_rfl) (quiet_q (op_move rfl)) ?_ ?_; (· (assumption)))
        (refine' TA_take 9 rfl rfl (by kernel_rfl) (quiet_q (op_idx ety_27 rfl rfl ?_)) ?_ ?_; (· omega); (· (assumption)))
        (refine' TA_take 10 rfl rfl (by kernel_rfl) (quiet_q (op_fld rfl fld_112_0)) ?_ ?_; (· (assumption)))
        (refine' TA_take 11 rfl rfl (by kernel_rfl) (quiet_q (op_ld rfl pl_9 ?_ ?_)) ?_ ?_; rotate_left 4; (· repeat ((first | exact List.mem_cons_self | apply List.mem_cons_of_mem))); (· (assumption)); (· (assumption)))
        (refine' TA_take 12 rfl rfl (by kernel_rfl) (quiet_q (op_len_str rfl Try.underlying9)) ?_ ?_; (· (assumption)))
        (refine' TA_take 13 rfl rfl (by kernel_rfl) (quiet_q (op_min rfl rfl)) ?_ ?_; (· (assumption)))
        (refine' TA_take 14 rfl rfl (by kernel_rfl) (quiet_q (op_bin rfl rfl ?_)) ?_ ?_; rotate_left 1; (· (exact bin_add ⟨by omega, by omega⟩)); (· (assumption)))
        (refine' TA_take 15 rfl rfl (by kernel_rfl) (quiet_q (op_move rfl)) ?_ ?_; (· (assumption)))
        (refine' TA_take 16 rfl rfl (by kernel_rfl) (quiet_q (op_move rfl)) ?_ ?_; (· (assumption)))
        (refine' TA_take 17 rfl rfl (by kernel_rfl) (quiet_q (op_idx ety_69 rfl rfl ?_)) ?_ ?_; (· omega); (· (assumption)))
        (refine' TA_take 18 rfl rfl (by kernel_rfl) (quiet_q (op_fld rfl fld_73_3)) ?_ ?_; (· (assumption)))
        (refine' TA_take 19 rfl rfl (by kernel_rfl) (quiet_q (op_fld rfl fld_32_3)) ?_ ?_; (· (assumption)))
        (refine' TA_take 20 rfl rfl (by kernel_rfl) (quiet_q (op_ld rfl pl_27 ?_ ?_)) ?_ ?_; rotate_left 4; (· repeat ((exact List.mem_cons_self))); (· (assumption)); (· (assumption)))
        (refine' TA_take 21 rfl rfl (by kernel_rfl) (quiet_q (op_move rfl)) ?_ ?_; (· (assumption)))
        (refine' TA_take 22 rfl rfl (by kernel_rfl) (quiet_q (op_idx ety_27 rfl rfl ?_)) ?_ ?_; (· omega); (· (assumption)))
        (refine' TA_take 23 rfl rfl (by kernel_rfl) (quiet_q (op_fld rfl fld_112_4)) ?_ ?_; (· (assumption)))
        (refine' TA_take 24 rfl rfl (by kernel_rfl) (quiet_q (op_ld rfl pl_9 ?_ ?_)) ?_ ?_; rotate_left 4; (· repeat ((first | exact List.mem_cons_self | apply List.mem_cons_of_mem))); (· (assumption)); (· (assumption)))
        (refine' TA_take 25 rfl rfl (by kernel_rfl) (quiet_q (op_len_str rfl Try.underlying9)) ?_ ?_; (· (assumption)))
        (refine' TA_take 26 rfl rfl (by kernel_rfl) (quiet_q (op_min rfl rfl)) ?_ ?_; (· (assumption)))
        (refine' TA_take 27 rfl rfl (by kernel_rfl) (quiet_q (op_bin rfl rfl ?_)) ?_ ?_; rotate_left 1; (· (exact bin_add ⟨by omega, by omega⟩)); (· (assumption)))
        (refine' TA_take 28 rfl rfl (by kernel_rfl) (quiet_q (op_assign rfl)) ?_ ?_; (· (assumption)))
        refine TA_done (by kernel_rfl) ?_
        repeat ((first | with_reducible refine T_region ?_ | with_reducible refine TL_nil ?_ | with_reducible refine TQ_then ?_ | with_reducible refine TQ_block ?_ | refine TL_q (op_move rfl) rfl ?_ | refine TL_q (op_assign rfl) rfl ?_ | (refine' TL_q (op_bin rfl rfl ?_) rfl ?_; rotate_left 1; (· (exact bin_add ⟨by omega, by omega⟩)))))
        refine TQ_roundS (k + 1, n2 + 12 + min 5000 (x.name.length : Int) + min 5000 (x.data.length : Int)) ⟨hkl, by dsimp only; omega, by dsimp only; omega, fun h y hy => ?_⟩ ?_ (fun w h => h) (by dsimp only; omega)
        · dsimp only at h
          rw [List.take_add_one, hx] at hy
          rcases List.mem_append.1 hy with hy | hy
          · exact hfit hn5 y hy
          · have : y = x := by simpa using hy
            subst this
            omega
        (repeat ((first | exact trivial | refine ⟨rfl, ?_⟩)))
      · have hfin : n2 < 5000 → s.m.auth.length ≤ 420 ∧ ∀ x ∈ s.m.auth, x.name.length ≤ 5000 ∧ x.data.length ≤ 5000 := fun h => by
          have hke : k = s.m.auth.length := by omega
          have := hfit h
          rw [hke, List.take_length] at this
          exact ⟨by omega, this⟩
        have hend : n2 < 5000 → ∀ y ∈ l.take (i + 1), y.Small := fun h y hy => by
          rw [List.take_add_one, hs] at hy
          rcases List.mem_append.1 hy with hy | hy
          · exact hall hn5 y hy
          · have : y = s := by simpa using hy
            subst this
            exact ⟨by omega, hfinA (by omega), hfin h⟩
        by_cases hkl : k < s.m.auth.length
        · have hn5 : ¬ n2 < 5000 := fun h => hgo ⟨hkl, h⟩
          repeat ((first | with_reducible refine T_seq ?_ | with_reducible refine T_region ?_ | with_reducible refine TL_nil ?_ | with_reducible refine TQ_then ?_ | with_reducible refine TQ_block ?_ | with_reducible refine T_exit ?_ | with_reducible refine TQ_then_exit ?_ | with_reducible refine TQ_block_exit ?_ | refine TL_q (op_move rfl) rfl ?_ | refine TL_q (op_assign rfl) rfl ?_ | (refine' TL_q (op_bin rfl rfl ?_) rfl ?_; rotate_left 1; (· (first | exact bin_add ⟨by omega, by omega⟩ | exact bin_lss))) | (refine' TL_q (op_pickT rfl ?_ rfl) rfl ?_; (· (exact dT (by (omega))))) | refine TL_q (op_len_slice rfl Try.underlying27) rfl ?_ | (refine' TL_q (op_idx ety_69 rfl rfl ?_) rfl ?_; (· omega)) | refine TL_q (op_fld rfl fld_32_3) rfl ?_ | refine TL_q (op_fld rfl fld_73_3) rfl ?_ | (refine' TL_q (op_ld rfl pl_9 ?_ ?_) rfl ?_; rotate_left 4; (· repeat ((assumption))); (· (assumption))) | (refine TL_gpre rfl rfl ?_ ?_; (· (exact dT (by (omega))))) | refine TL_gq2 (op_move rfl) rfl ?_ | (refine' TL_gq2 (op_bin rfl rfl ?_) rfl ?_; rotate_left 1; (· (exact bin_lss))) | (refine T_no rfl ?_ ?_; (· (exact dF (by (assumption)))))))
          refine TQ_roundS (i + 1, n2) ⟨hil, by dsimp only; omega, by dsimp only; omega, hend⟩ ?_ (fun w h => h) (by dsimp only; omega)
          (repeat ((first | exact trivial | refine ⟨rfl, ?_⟩)))
        · repeat ((first | with_reducible refine T_seq ?_ | with_reducible refine T_region ?_ | with_reducible refine TL_nil ?_ | with_reducible refine TQ_then ?_ | with_reducible refine TQ_block ?_ | with_reducible refine T_exit ?_ | with_reducible refine TQ_then_exit ?_ | with_reducible refine TQ_block_exit ?_ | refine TL_q (op_move rfl) rfl ?_ | refine TL_q (op_assign rfl) rfl ?_ | (refine' TL_q (op_bin rfl rfl ?_) rfl ?_; rotate_left 1; (· (first | exact bin_add ⟨by omega, by omega⟩ | exact bin_lss))) | (refine' TL_q (op_pickF rfl ?_ rfl) rfl ?_; (· (exact dF (by (omega))))) | refine TL_q (op_len_slice rfl Try.underlying27) rfl ?_ | (refine' TL_q (op_idx ety_69 rfl rfl ?_) rfl ?_; (· omega)) | refine TL_q (op_fld rfl fld_32_3) rfl ?_ | refine TL_q (op_fld rfl fld_73_3) rfl ?_ | (refine' TL_q (op_ld rfl pl_9 ?_ ?_) rfl ?_; rotate_left 4; (· repeat ((assumption))); (· (assumption))) | (refine TL_gno rfl rfl ?_ rfl ?_; (· (exact dF (by (omega))))) | (refine T_no rfl ?_ ?_; (· (with_reducible rfl)))))
          refine TQ_roundS (i + 1, n2) ⟨hil, by dsimp only; omega, by dsimp only; omega, hend⟩ ?_ (fun w h => h) (by dsimp only; omega)
          (repeat ((first | exact trivial | refine ⟨rfl, ?_⟩)))
  · by_cases hil : i < l.length
    · have hn5 : ¬ n < 5000 := fun h => hgo ⟨hil, h⟩
      repeat ((first | with_reducible refine T_seq ?_ | with_reducible refine T_region ?_ | with_reducible refine TL_nil ?_ | with_reducible refine TQ_then ?_ | with_reducible refine T_exit ?_ | with_reducible refine T_ret ?_ | with_reducible refine TQ_then_exit ?_ | with_reducible refine TQ_block_exit ?_ | refine TL_q (op_move rfl) rfl ?_ | refine TL_q (op_assign rfl) rfl ?_ | (refine' TL_q (op_bin rfl rfl ?_) rfl ?_; rotate_left 1; (· (first | exact bin_lss | exact bin_geq))) | (refine' TL_q (op_pickT rfl ?_ rfl) rfl ?_; (· (exact dT (by (omega))))) | refine TL_q (op_len_slice rfl Try.underlying69) rfl ?_ | (refine TL_gpre rfl rfl ?_ ?_; (· (exact dT (by (omega))))) | refine TL_gq2 (op_move rfl) rfl ?_ | (refine' TL_gq2 (op_bin rfl rfl ?_) rfl ?_; rotate_left 1; (· (exact bin_lss))) | (refine T_no rfl ?_ ?_; (· (exact dF (by (assumption)))))))
      refine TQ_ret1 2 _ rfl rfl ?_
      exact ⟨_, rfl, rfl, fun h => by simp at h; omega⟩
    · have hie : i = l.length := by omega
      subst hie
      rw [List.take_length] at hall
      repeat ((first | with_reducible refine T_seq ?_ | with_reducible refine T_region ?_ | with_reducible refine TL_nil ?_ | with_reducible refine TQ_then ?_ | with_reducible refine T_exit ?_ | with_reducible refine T_ret ?_ | with_reducible refine TQ_then_exit ?_ | with_reducible refine TQ_block_exit ?_ | refine TL_q (op_move rfl) rfl ?_ | refine TL_q (op_assign rfl) rfl ?_ | (refine' TL_q (op_bin rfl rfl ?_) rfl ?_; rotate_left 1; (· (first | exact bin_lss | exact bin_geq))) | (refine' TL_q (op_pickF rfl ?_ rfl) rfl ?_; (· (exact dF (by (omega))))) | refine TL_q (op_len_slice rfl Try.underlying69) rfl ?_ | (refine TL_gno rfl rfl ?_ rfl ?_; (· (exact dF (by (omega))))) | (refine T_no rfl ?_ ?_; (· (with_reducible rfl)))))
      refine TQ_ret1 2 _ rfl rfl ?_
      exact ⟨_, rfl, rfl, fun h => by have h5 : n < 5000 := by simpa using h
                                      exact ⟨by omega, hall h5⟩⟩
end Go.Proofs.Ytdflhdfapnhjjaa
namespace Go.Proofs.Ytdflhdfapnhjjaa
open Go.RowKit
open Vd (RSet Vdt Vote Rec Quest Piece Ballot)
set_option linter.unusedVariables false
set_option linter.unusedSimpArgs false
--auto
section
variable {G : World} {P : Program} {n : Nat} {ρ : Slots} {L : Blocks} {ty : TypeId} {Q : Exit → Act → World → Prop} {ops : Array Oper} {K : Blocks} {W : List Nat} {fuel : Nat} {listed : Array Bool}
theorem Up_ofGd {i d j dj : Nat} {want b : Bool} {op : Op} {pos : String} {after : Array Edge} {Φ : Value → Blocks → Prop} (hi : ops[i]? = some ⟨some d, op, ty, pos, after, some (j, want)⟩) (hdn : Nat.blt d n = true)
    (hs : guardSlot ops j = some dj) (hv : ρ.lookup dj = some (.bool b)) (hb : b = want)
    (hO : OpT P G ρ L op ty Φ) (h : ∀ v L', Φ v L' → (i ∈ W ∨ ∀ p ∈ K, p ∈ L') ∧ TA P G ops n K W Q fuel (listed.setIfInBounds i true) ((d, v) :: ρ) L') : Up P G ops n K W Q fuel listed ρ L i :=
  ⟨_, hi, fun d' e => by cases e; simpa using hdn, true, ⟨dj, _, hs, hv, by simp [gsay, hb]⟩, Or.inl ⟨rfl, Φ, hO, h⟩⟩
end
variable {G : World} {L : Blocks}
/-- A verdict of one set, of one datum. -/
def saidV (s : Vd.Bytes) : Vdt := ⟨0, [⟨[0], 16, 1, 0, [s]⟩], []⟩
/-- Such a verdict in new memory. -/
def SaidOut (L : Blocks) (s : Vd.Bytes) (u : Value) (M : Blocks) : Prop := ∃ a B N, u = .agg #[.int .u8 0, .slice a (saidV s).sets.length 1, .slice none (saidV s).soa.length 0] ∧ ORow rsR 60 5 N a 1 (saidV s).sets B ∧ Wr N ∧ M = B ++ (N ++ L)
theorem said_sm (s : Vd.Bytes) : SmV (saidV s) := ⟨⟨by simp [saidV], fun x hx => by rw [show x = _ from List.mem_singleton.1 hx]; simp⟩, ⟨by simp [saidV], fun x hx => by simp [saidV] at hx⟩⟩
theorem said_one {s : Vd.Bytes} {v : Value} (hv : v ∈ ([.string (bs s)] : List Value)) : v.oneCell' = true := by rw [List.mem_singleton.1 hv]; rfl
set_option maxRecDepth 100000 in
theorem said_S (s : Vd.Bytes) (hs : s.length ≤ 1000) : Spec Try.prog G 44 #[.string (bs s)] L (SaidOut L s) := by
  refine Spec_of (n := 8) Try.func44 rfl rfl rfl ?_
  refine T_seq (T_region (TL_new (op_alloc (C := #[.int .u8 0, .slice none 0 0, .slice none 0 0]) zero_42 rfl) rfl ?_))
  intro b2
  repeat ((first | with_reducible refine T_seq ?_ | with_reducible refine T_region ?_ | with_reducible refine TL_nil ?_ | with_reducible refine TQ_then ?_ | refine TL_q (op_move rfl) rfl ?_ | refine TL_q (op_build rfl (bl_42_1 _ _ _)) rfl ?_ | refine TL_q (op_build rfl (bl_60_0_1_2_4 _ _ _ _ _ _)) rfl ?_ | (refine TL_new (op_litN ety_40 rfl rfl (by decide)) rfl ?_; intro bLit) | (refine TL_new (op_lit1 ety_58 rfl rfl) rfl ?_; intro bLit)))
  rename_i bD
  refine TL_cnt (L' := (b2, Obj.cells #[.int .u8 0, .slice none 0 0, .slice none 0 0] 42 (0, 0)) :: ([(bLit, Obj.cells #[.string ⟨#[0]⟩, .int .u16 16, .int .u16 1, .int .u32 0, .slice (some ⟨bD, 0, none⟩) 1 1] 60 (0, 0))] ++ ([(bD, Obj.cells #[.string (bs s)] 9 (0, 0))] ++ L))) ?_ (by intro p; (try simp only [cnt_append, cnt_cons, cnt_nil]) <;> omega)
  repeat ((first | with_reducible refine TL_nil ?_ | with_reducible refine TQ_then ?_ | with_reducible refine T_ret ?_ | (refine TL_stAll rfl rfl st_42 rfl rfl rfl ?_)))
  refine TQ_retC 2 42  rfl rfl  st_42 (by repeat ((exact List.mem_cons_self))) rfl (fun w h => h.tail) ?_
  have hD : ORow strR 9 1 [] (some ⟨bD, 0, none⟩) 1 [s] [(bD, Obj.cells #[.string (bs s)] 9 (0, 0))] := ORow.lit1 rfl ⟨rfl, by unfold maxLen; omega⟩ (fun v hv => said_one hv)
  refine ⟨_, _, _, rfl, ORow.lit1 (sz := 5) (cs := [.string (bs [0]), .int .u16 16, .int .u16 1, .int .u32 0, .slice (some ⟨bD, 0, none⟩) 1 1]) rfl ⟨_, rfl, hD.sliceR mono_str (by simp) (fun p h => h), by show (1 : Nat) ≤ maxLen; decide, by show (0 : Int) ≤ 16 ∧ (16 : Int) ≤ 65535; decide, by show (0 : Int) ≤ 1 ∧ (1 : Int) ≤ 65535; decide, by show (0 : Int) ≤ 0 ∧ (0 : Int) ≤ 4294967295; decide⟩ (fun v hv => ?_), hD.wr, rfl⟩
  simp only [List.mem_cons, List.not_mem_nil, or_false] at hv
  rcases hv with rfl | rfl | rfl | rfl | rfl <;> rfl
/-- A vote of a verdict of one set. -/
theorem said_vote {K B N : Blocks} {s : Vd.Bytes} {a : Option Addr} {up t : Int} (hB : ORow rsR 60 5 N a 1 (saidV s).sets B) (h1 : ∀ p ∈ B, p ∈ K) (h2 : ∀ p ∈ N, p ∈ K) (hu : -9223372036854775808 ≤ up ∧ up ≤ 9223372036854775807) (ht : 0 ≤ t ∧ t ≤ 4294967295) :
    voteR K [.int .i64 up, .int .u8 0, .slice a (saidV s).sets.length 1, .slice none (saidV s).soa.length 0, .int .u32 t] ⟨up, saidV s, t⟩ :=
  ⟨_, _, rfl, hB.sliceR mono_set h2 h1, sliceR.nil, by show (0 : Int) ≤ 0 ∧ (0 : Int) ≤ 255; decide, ht, hu⟩
theorem said_vd {K B N : Blocks} {s : Vd.Bytes} {a : Option Addr} (hB : ORow rsR 60 5 N a 1 (saidV s).sets B) (h1 : ∀ p ∈ B, p ∈ K) (h2 : ∀ p ∈ N, p ∈ K) :
    vdR K [.int .u8 0, .slice a (saidV s).sets.length 1, .slice none (saidV s).soa.length 0] (saidV s) :=
  ⟨_, _, rfl, hB.sliceR mono_set h2 h1, sliceR.nil, by show (0 : Int) ≤ 0 ∧ (0 : Int) ≤ 255; decide⟩
def saidB (up : Int) (s : Vd.Bytes) (t : Int) : Ballot := ⟨⟨up, saidV s, t⟩, false⟩
theorem aw1 : Vd.putB [] (saidB 0 [120] 9) = ([saidB 0 [120] 9], 0) := rfl
theorem aw2 : Vd.putB [saidB 0 [120] 9] (saidB 1 [121] 3) = ([saidB 0 [120] 9, saidB 1 [121] 3], 0) := rfl
theorem aw3 : Vd.putB [saidB 0 [120] 9, saidB 1 [121] 3] (saidB 2 [120] 5) = ([saidB 0 [120] 9, saidB 1 [121] 3, saidB 2 [120] 5], 0) := rfl
theorem aw4 : Vd.putB [saidB 0 [120] 9, saidB 1 [121] 3, saidB 2 [120] 5] (saidB 1 [120] 0) = ([saidB 0 [120] 9, saidB 1 [121] 3, saidB 2 [120] 5], 7) := rfl
theorem aw5 : wonP 2 (Vd.votesB [saidB 0 [120] 9, saidB 1 [121] 3, saidB 2 [120] 5]) = (saidV [120], 5, [0, 2], true) := by decide +kernel
theorem aw6 : (if (2 : Int) < 1 then [] else againstR 2 (Vd.votesB [saidB 0 [120] 9, saidB 1 [121] 3, saidB 2 [120] 5])) = [1] := by decide +kernel
theorem aw7 : mostR (Vd.votesB [saidB 0 [120] 9, saidB 1 [121] 3, saidB 2 [120] 5]) = 2 := by decide +kernel
theorem ints1 {K : Blocks} {b : Nat} {x : Int} (h : (b, Obj.cells #[.int .i64 x] 3 (0, 0)) ∈ K) (hx : InLit .i64 x) : sliceR 1 (intR .i64) K [.slice (some ⟨b, 0, none⟩) 1 1] [x] :=
  (ORow.lit1 (r := intR .i64) (L := []) (e := 3) (b := b) (cs := [.int .i64 x]) rfl ⟨rfl, hx⟩ (fun v hv => by rw [List.mem_singleton.1 hv]; rfl)).sliceR (mono_int _) (by simp) (fun p hp => by rw [List.mem_singleton.1 hp]; exact h)
theorem ints2 {K : Blocks} {b : Nat} {x y : Int} (h : (b, Obj.cells #[.int .i64 x, .int .i64 y] 3 (0, 0)) ∈ K) (hx : InLit .i64 x) (hy : InLit .i64 y) : sliceR 1 (intR .i64) K [.slice (some ⟨b, 0, none⟩) 2 2] [x, y] := by
  refine ⟨_, 2, rfl, by simp, by unfold maxLen; omega, Or.inr ⟨b, 0, _, _, _, rfl, h, fun i z hz => ?_⟩⟩
  match i, hz with
  | 0, hz =>
    obtain rfl := Option.some.inj hz
    exact ⟨[.int .i64 x], rfl, ⟨rfl, hx⟩, fun j v hj => by match j, hj with | 0, hj => exact hj⟩
  | 1, hz =>
    obtain rfl := Option.some.inj hz
    exact ⟨[.int .i64 y], rfl, ⟨rfl, hy⟩, fun j v hj => by match j, hj with | 0, hj => exact hj⟩
set_option maxRecDepth 100000 in
set_option maxHeartbeats 4000000 in
theorem awake21_S : Spec Try.prog G 32 #[] L fun u M => u = .bool true ∧ M = L := by
  refine Spec_of (n := 74) Try.func32 rfl rfl rfl ?_
  repeat ((first | with_reducible refine T_seq ?_ | with_reducible refine T_region ?_ | with_reducible refine TL_nil ?_ | with_reducible refine TQ_then ?_ | refine TL_q (op_assign rfl) rfl ?_))
  refine TL_opT (op_call hb_41 rfl (pNew_B 2)) rfl ?_
  intro u0 M0 h0
  rcases h0 with ⟨_, _, bb, X0, rfl, hX0, rfl⟩ | ⟨h0, _⟩
  · repeat ((first | with_reducible refine T_seq ?_ | with_reducible refine T_region ?_ | with_reducible refine TL_nil ?_ | with_reducible refine TQ_then ?_ | refine TL_q (op_move rfl) rfl ?_ | refine TL_q (op_assign rfl) rfl ?_ | (refine' TL_q (op_bin rfl rfl ?_) rfl ?_; rotate_left 1; (· (exact bin_neq))) | refine TL_q (op_extract rfl rfl) rfl ?_ | (refine TL_gpre rfl rfl ?_ ?_; (· (exact Bool.not_true))) | refine TL_gq2 (op_move rfl) rfl ?_))
    refine TG_opT (op_call hb_44 rfl (said_S [120] (by decide))) rfl ?_
    rintro _ _ ⟨a1, B1, N1, rfl, hB1, hN1, rfl⟩
    repeat ((first | (refine TL_gpre rfl rfl ?_ ?_; (· (exact Bool.not_true))) | refine TL_gq2 (op_build rfl (bl_46_0_1_2 _ _ _ _ _)) rfl ?_))
    refine TG_opT (OpT.heap (L' := X0 ++ (B1 ++ (N1 ++ L))) (fun w h => h.cnt (by intro p; (try simp only [cnt_append, cnt_cons, cnt_nil]) <;> omega)) (op_call hb_42 rfl (pCast_B hX0 (said_vote (up := 0) (t := 9) hB1 (mem_of_cnt (by intro p; (try simp only [cnt_append, cnt_cons, cnt_nil]) <;> omega)) (mem_of_cnt (by intro p; (try simp only [cnt_append, cnt_cons, cnt_nil]) <;> omega)) (by decide) (by decide)) (said_sm _)))) rfl ?_
    rintro _ _ ⟨rfl, X1, hX1, rfl⟩
    rw [show Vd.putB [] ⟨⟨0, saidV [120], 9⟩, false⟩ = _ from aw1] at hX1 ⊢
    refine TL_cnt (L' := X1 ++ L) ?_ (by intro p; (try simp only [cnt_append, cnt_cons, cnt_nil]) <;> omega)
    repeat ((first | refine TL_q (op_move rfl) rfl ?_ | (refine' TL_q (op_pickF rfl ?_ rfl) rfl ?_; (· (exact Bool.not_true))) | (refine TL_gpre rfl rfl ?_ ?_; (· (exact Bool.not_true))) | refine TL_gq2 (op_move rfl) rfl ?_ | (refine' TL_gq2 (op_bin rfl rfl ?_) rfl ?_; rotate_left 1; (· (exact bin_neq)))))
    refine TG_opT (op_call hb_44 rfl (said_S [121] (by decide))) rfl ?_
    rintro _ _ ⟨a2, B2, N2, rfl, hB2, hN2, rfl⟩
    repeat ((first | (refine TL_gpre rfl rfl ?_ ?_; (· (exact Bool.not_true))) | refine TL_gq2 (op_build rfl (bl_46_0_1_2 _ _ _ _ _)) rfl ?_))
    refine TG_opT (OpT.heap (L' := X1 ++ (B2 ++ (N2 ++ L))) (fun w h => h.cnt (by intro p; (try simp only [cnt_append, cnt_cons, cnt_nil]) <;> omega)) (op_call hb_42 rfl (pCast_B hX1 (said_vote (up := 1) (t := 3) hB2 (mem_of_cnt (by intro p; (try simp only [cnt_append, cnt_cons, cnt_nil]) <;> omega)) (mem_of_cnt (by intro p; (try simp only [cnt_append, cnt_cons, cnt_nil]) <;> omega)) (by decide) (by decide)) (said_sm _)))) rfl ?_
    rintro _ _ ⟨rfl, X2, hX2, rfl⟩
    rw [show Vd.putB _ ⟨⟨1, saidV [121], 3⟩, false⟩ = _ from aw2] at hX2 ⊢
    refine TL_cnt (L' := X2 ++ L) ?_ (by intro p; (try simp only [cnt_append, cnt_cons, cnt_nil]) <;> omega)
    repeat ((first | refine TL_q (op_move rfl) rfl ?_ | (refine' TL_q (op_pickF rfl ?_ rfl) rfl ?_; (· (exact Bool.not_true))) | (refine TL_gpre rfl rfl ?_ ?_; (· (exact Bool.not_true))) | refine TL_gq2 (op_move rfl) rfl ?_ | (refine' TL_gq2 (op_bin rfl rfl ?_) rfl ?_; rotate_left 1; (· (exact bin_neq)))))
    refine TG_opT (op_call hb_44 rfl (said_S [120] (by decide))) rfl ?_
    rintro _ _ ⟨a3, B3, N3, rfl, hB3, hN3, rfl⟩
    repeat ((first | (refine TL_gpre rfl rfl ?_ ?_; (· (exact Bool.not_true))) | refine TL_gq2 (op_build rfl (bl_46_0_1_2 _ _ _ _ _)) rfl ?_))
    refine TG_opT (OpT.heap (L' := X2 ++ (B3 ++ (N3 ++ L))) (fun w h => h.cnt (by intro p; (try simp only [cnt_append, cnt_cons, cnt_nil]) <;> omega)) (op_call hb_42 rfl (pCast_B hX2 (said_vote (up := 2) (t := 5) hB3 (mem_of_cnt (by intro p; (try simp only [cnt_append, cnt_cons, cnt_nil]) <;> omega)) (mem_of_cnt (by intro p; (try simp only [cnt_append, cnt_cons, cnt_nil]) <;> omega)) (by decide) (by decide)) (said_sm _)))) rfl ?_
    rintro _ _ ⟨rfl, X3, hX3, rfl⟩
    rw [show Vd.putB _ ⟨⟨2, saidV [120], 5⟩, false⟩ = _ from aw3] at hX3 ⊢
    refine TL_cnt (L' := X3 ++ L) ?_ (by intro p; (try simp only [cnt_append, cnt_cons, cnt_nil]) <;> omega)
    repeat ((first | refine TL_q (op_move rfl) rfl ?_ | (refine' TL_q (op_pickF rfl ?_ rfl) rfl ?_; (· (exact Bool.not_true))) | (refine TL_gpre rfl rfl ?_ ?_; (· (exact Bool.not_true))) | refine TL_gq2 (op_move rfl) rfl ?_ | (refine' TL_gq2 (op_bin rfl rfl ?_) rfl ?_; rotate_left 1; (· (exact bin_neq)))))
    refine TG_opT (op_call hb_44 rfl (said_S [120] (by decide))) rfl ?_
    rintro _ _ ⟨a4, B4, N4, rfl, hB4, hN4, rfl⟩
    repeat ((first | (refine TL_gpre rfl rfl ?_ ?_; (· (exact Bool.not_true))) | refine TL_gq2 (op_build rfl (bl_46_0_1 _ _ _ _)) rfl ?_))
    refine TG_opT (OpT.heap (L' := X3 ++ (B4 ++ (N4 ++ L))) (fun w h => h.cnt (by intro p; (try simp only [cnt_append, cnt_cons, cnt_nil]) <;> omega)) (op_call hb_42 rfl (pCast_B hX3 (said_vote (up := 1) (t := 0) hB4 (mem_of_cnt (by intro p; (try simp only [cnt_append, cnt_cons, cnt_nil]) <;> omega)) (mem_of_cnt (by intro p; (try simp only [cnt_append, cnt_cons, cnt_nil]) <;> omega)) (by decide) (by decide)) (said_sm _)))) rfl ?_
    rintro _ _ ⟨rfl, X4, hX4, rfl⟩
    rw [show Vd.putB _ ⟨⟨1, saidV [120], 0⟩, false⟩ = _ from aw4] at hX4 ⊢
    refine TL_cnt (L' := X4 ++ L) ?_ (by intro p; (try simp only [cnt_append, cnt_cons, cnt_nil]) <;> omega)
    repeat ((first | with_reducible refine T_seq ?_ | with_reducible refine T_region ?_ | with_reducible refine TL_nil ?_ | with_reducible refine TQ_then ?_ | with_reducible refine T_skip ?_ | refine TL_q (op_move rfl) rfl ?_ | (refine' TL_q (op_pickF rfl ?_ rfl) rfl ?_; (· (exact Bool.not_true))) | (refine TL_gpre rfl rfl ?_ ?_; (· (exact Bool.not_true))) | (refine' TL_gq2 (op_bin rfl rfl ?_) rfl ?_; rotate_left 1; (· (exact bin_neq))) | (refine T_no rfl ?_ ?_; (· (exact Bool.not_true)))))
    have hWon := pWon_B (G := G) (L := X4 ++ L) hX4 (mem_of_cnt (by intro p; (try simp only [cnt_append, cnt_cons, cnt_nil]) <;> omega))
    rw [aw5] at hWon
    refine TL_opT (op_call hb_35 rfl hWon) rfl ?_
    rintro _ _ ⟨a, c, B, a6, c6, B6, a5, c5, B5, N, rfl, hB, hB6, hB5, hN, rfl⟩
    dsimp only at hB hB6 hB5 ⊢
    repeat ((first | with_reducible refine T_seq ?_ | with_reducible refine TL_nil ?_ | with_reducible refine TQ_then ?_ | refine TL_q (op_move rfl) rfl ?_ | refine TL_q (op_assign rfl) rfl ?_ | refine TL_q (op_extract rfl rfl) rfl ?_ | (refine TL_stAll rfl rfl st_42 rfl rfl rfl ?_) | (refine TL_new (op_alloc (C := #[(.int .u8 0), (.slice none 0 0), (.slice none 0 0)]) zero_42 rfl) rfl ?_; intro bNew)))
    obtain ⟨b3, hb3⟩ : ∃ b, bNew = b := ⟨_, rfl⟩
    rw [hb3]
    clear hb3 bNew
    have hvdW : ∀ {D : Blocks}, (∀ p ∈ B, p ∈ D) → (∀ p ∈ B6, p ∈ D) → (∀ p ∈ N, p ∈ D) → vdR D [.int .u8 (saidV [120]).code, .slice a (saidV [120]).sets.length c, .slice a6 (saidV [120]).soa.length c6] (saidV [120]) := fun h1 h2 h3 => ⟨_, _, rfl, hB.sliceR mono_set h3 h1, hB6.sliceR mono_set h3 h2, by show (0 : Int) ≤ 0 ∧ (0 : Int) ≤ 255; decide⟩
    have e0 : decide (saidV [120] = saidV [120]) = true := by simp
    have e1 : decide (([0, 2] : List Int) = [0, 2]) = true := by decide
    have e2 : decide (([1] : List Int) = [1]) = true := by decide
    have hKm : ∀ z ∈ [(b3, Obj.cells #[.int .u8 (saidV [120]).code, .slice a (saidV [120]).sets.length c, .slice a6 (saidV [120]).soa.length c6] 42 (0, 0))], z ∈ (b3, Obj.cells #[.int .u8 (saidV [120]).code, .slice a (saidV [120]).sets.length c, .slice a6 (saidV [120]).soa.length c6] 42 (0, 0)) :: (B5 ++ (B6 ++ (B ++ (N ++ (X4 ++ L))))) := by
      intro z hz
      rw [List.mem_singleton.1 hz]
      exact List.mem_cons_self ..
    skip
    refine T_midK (σ := Unit) (fun _ => True) (fun _ => [(0, .bool true)]) (fun _ => L) ?_ ?_
    · skip
      refine T_draw follows_mixed ([(b3, Obj.cells #[.int .u8 (saidV [120]).code, .slice a (saidV [120]).sets.length c, .slice a6 (saidV [120]).soa.length c6] 42 (0, 0))]) [] ?_
      (refine' TA_take 0 rfl rfl (by kernel_rfl) (quiet_q (op_move rfl)) ?_ ?_; (· (assumption)))
      (refine' TA_take 1 rfl rfl (by kernel_rfl) (quiet_q (op_move rfl)) ?_ ?_; (· (assumption)))
      (refine' TA_take 2 rfl rfl (by kernel_rfl) (quiet_g2 rfl rfl (by (with_reducible rfl)) (op_ldAll rfl st_42 ?_ ?_)) ?_ ?_; rotate_left 3; (· repeat ((exact List.mem_cons_self))); (· (rfl)); (· (assumption)))
      refine TA_oneGd 3 (by kernel_rfl) rfl rfl rfl rfl (by (with_reducible rfl)) (op_call hb_44 rfl (said_S [120] (by decide))) ?_
      rintro _ _ ⟨aS, BS, NS, rfl, hBS, hNS, rfl⟩
      refine ⟨Or.inr (by (exact (fun z hz => mem_of_cnt (by intro p; (try simp only [cnt_append, cnt_cons, cnt_nil]) <;> omega) z (hKm z hz)))), ?_⟩
      refine TA_oneGd 4 (by kernel_rfl) rfl rfl rfl rfl (by (with_reducible rfl)) (op_call hb_23 rfl (vSame_S [.int .u8 (saidV [120]).code, .slice a (saidV [120]).sets.length c, .slice a6 (saidV [120]).soa.length c6] [.int .u8 0, .slice aS (saidV [120]).sets.length 1, .slice none (saidV [120]).soa.length 0] (saidV [120]) (saidV [120]) (hvdW (mem_of_cnt (by intro p; (try simp only [cnt_append, cnt_cons, cnt_nil]) <;> omega)) (mem_of_cnt (by intro p; (try simp only [cnt_append, cnt_cons, cnt_nil]) <;> omega)) (mem_of_cnt (by intro p; (try simp only [cnt_append, cnt_cons, cnt_nil]) <;> omega))) (said_vd hBS (mem_of_cnt (by intro p; (try simp only [cnt_append, cnt_cons, cnt_nil]) <;> omega)) (mem_of_cnt (by intro p; (try simp only [cnt_append, cnt_cons, cnt_nil]) <;> omega))))) ?_
      rintro _ _ ⟨rfl, rfl⟩
      refine ⟨Or.inr (by (exact (fun z hz => mem_of_cnt (by intro p; (try simp only [cnt_append, cnt_cons, cnt_nil]) <;> omega) z (hKm z hz)))), ?_⟩
      (refine' TA_take 5 rfl rfl (by kernel_rfl) (quiet_q (op_pickT rfl ?_ rfl)) ?_ ?_; (· (with_reducible rfl)); (· (intro p hp; grind)))
      (refine' TA_take 6 rfl rfl (by kernel_rfl) (quiet_q (op_move rfl)) ?_ ?_; (· (intro p hp; grind)))
      (refine' TA_take 7 rfl rfl (by kernel_rfl) (quiet_g2 rfl rfl (by (assumption)) (op_move rfl)) ?_ ?_; (· (intro p hp; grind)))
      (refine' TA_take 8 rfl rfl (by kernel_rfl) (quiet_g2 rfl rfl (by (assumption)) (op_bin rfl rfl ?_)) ?_ ?_; rotate_left 1; (· (exact bin_eql)); (· (intro p hp; grind)))
      (refine' TA_take 9 rfl rfl (by kernel_rfl) (quiet_q (op_pickT rfl ?_ rfl)) ?_ ?_; (· (assumption)); (· (intro p hp; grind)))
      (refine' TA_take 10 rfl rfl (by kernel_rfl) (quiet_q (op_move rfl)) ?_ ?_; (· (intro p hp; grind)))
      (refine' TA_take 11 rfl rfl (by kernel_rfl) (quiet_g2 rfl rfl (by (assumption)) (op_move rfl)) ?_ ?_; (· (intro p hp; grind)))
      refine TA_oneGd 12 (by kernel_rfl) rfl rfl rfl rfl (by (assumption)) (op_buildSlice (C := #[.int .i64 0, .int .i64 2]) (vs := [(0, .int .i64 0), (1, .int .i64 2)]) rfl (rowLitG ety_79 [.int .i64 0, .int .i64 2] rfl (by intro v hv; simp only [List.mem_cons, List.not_mem_nil, or_false] at hv; rcases hv with rfl | rfl <;> rfl) (by decide) rfl)) ?_
      rintro _ _ ⟨bI, rfl, rfl⟩
      refine ⟨Or.inr (by (exact (fun z hz => mem_of_cnt (by intro p; (try simp only [cnt_append, cnt_cons, cnt_nil]) <;> omega) z (hKm z hz)))), ?_⟩
      refine TA_oneGd 13 (by kernel_rfl) rfl rfl rfl rfl (by (assumption)) (op_call hb_38 rfl (Ints_S _ _ [0, 2] [0, 2] (hB5.sliceR (mono_int _) (by simp) (mem_of_cnt (by intro p; (try simp only [cnt_append, cnt_cons, cnt_nil]) <;> omega))) (ints2 (List.mem_cons_self ..) (up_lit (by decide)) (up_lit (by decide))))) ?_
      rintro _ _ ⟨rfl, rfl⟩
      refine ⟨Or.inr (by (exact (fun z hz => mem_of_cnt (by intro p; (try simp only [cnt_append, cnt_cons, cnt_nil]) <;> omega) z (hKm z hz)))), ?_⟩
      (refine' TA_take 14 rfl rfl (by kernel_rfl) (quiet_q (op_pickT rfl ?_ rfl)) ?_ ?_; (· (assumption)); (· (intro p hp; grind)))
      (refine' TA_take 15 rfl rfl (by kernel_rfl) (quiet_q (op_move rfl)) ?_ ?_; (· (intro p hp; grind)))
      (refine' TA_take 16 rfl rfl (by kernel_rfl) (quiet_g2 rfl rfl (by (assumption)) (op_move rfl)) ?_ ?_; (· (intro p hp; grind)))
      refine TA_two 17 18 (by kernel_rfl) ?_ ?_
      · refine Up_ofGd rfl rfl rfl rfl (by (assumption)) (op_call hb_40 rfl (pAgainst_B hX4 (mem_of_cnt (by intro p; (try simp only [cnt_append, cnt_cons, cnt_nil]) <;> omega)))) ?_
        rintro _ _ ⟨aA, cA, BA, rfl, hBA, rfl⟩; rw [aw6] at hBA ⊢
        refine ⟨Or.inr (by (exact (fun z hz => mem_of_cnt (by intro p; (try simp only [cnt_append, cnt_cons, cnt_nil]) <;> omega) z (hKm z hz)))), ?_⟩
        refine TA_oneGd 18 (by kernel_rfl) rfl rfl rfl rfl (by (assumption)) (op_buildSlice (C := #[.int .i64 1]) (vs := [(0, .int .i64 1)]) rfl (rowLitG ety_79 [.int .i64 1] rfl (by intro v hv; rw [List.mem_singleton.1 hv]; rfl) (by decide) rfl)) ?_
        rintro _ _ ⟨bJ, rfl, rfl⟩
        refine ⟨Or.inr (by (exact (fun z hz => mem_of_cnt (by intro p; (try simp only [cnt_append, cnt_cons, cnt_nil]) <;> omega) z (hKm z hz)))), ?_⟩
        refine TA_oneGd 19 (by kernel_rfl) rfl rfl rfl rfl (by (assumption)) (op_call hb_38 rfl (Ints_S _ _ [1] [1] (hBA.sliceR (mono_int _) (by simp) (mem_of_cnt (by intro p; (try simp only [cnt_append, cnt_cons, cnt_nil]) <;> omega))) (ints1 (by simp) (up_lit (by decide))))) ?_
        rintro _ _ ⟨rfl, rfl⟩
        refine ⟨Or.inr (by (exact (fun z hz => mem_of_cnt (by intro p; (try simp only [cnt_append, cnt_cons, cnt_nil]) <;> omega) z (hKm z hz)))), ?_⟩
        (refine' TA_take 20 rfl rfl (by kernel_rfl) (quiet_q (op_pickT rfl ?_ rfl)) ?_ ?_; (· (assumption)); (· (intro p hp; grind)))
        (refine' TA_take 21 rfl rfl (by kernel_rfl) (quiet_q (op_move rfl)) ?_ ?_; (· (intro p hp; grind)))
        (refine' TA_take 22 rfl rfl (by kernel_rfl) (quiet_g2 rfl rfl (by (assumption)) (op_move rfl)) ?_ ?_; (· (intro p hp; grind)))
        refine TA_oneGd 23 (by kernel_rfl) rfl rfl rfl rfl (by (assumption)) (op_call hb_36 rfl (pMost_B hX4 (mem_of_cnt (by intro p; (try simp only [cnt_append, cnt_cons, cnt_nil]) <;> omega)))) ?_
        rintro _ _ ⟨rfl, rfl⟩; rw [aw7]
        refine ⟨Or.inr (by (exact (fun z hz => mem_of_cnt (by intro p; (try simp only [cnt_append, cnt_cons, cnt_nil]) <;> omega) z (hKm z hz)))), ?_⟩
        (refine' TA_take 24 rfl rfl (by kernel_rfl) (quiet_g2 rfl rfl (by (assumption)) (op_bin rfl rfl ?_)) ?_ ?_; rotate_left 1; (· (exact bin_eql)); (· (intro p hp; grind)))
        (refine' TA_take 25 rfl rfl (by kernel_rfl) (quiet_q (op_pickT rfl ?_ rfl)) ?_ ?_; (· (assumption)); (· (intro p hp; grind)))
        (refine' TA_take 26 rfl rfl (by kernel_rfl) (quiet_q (op_assign rfl)) ?_ ?_; (· (intro p hp; grind)))
        refine TA_done (by kernel_rfl) ?_
        refine TQ_mid () trivial ?_ (fun w h => h.cnt (by intro p; (try simp only [cnt_append, cnt_cons, cnt_nil]) <;> omega))
        (repeat ((first | exact trivial | refine ⟨rfl, ?_⟩)))
      · refine Up_ofGd rfl rfl rfl rfl (by (assumption)) (op_buildSlice (C := #[.int .i64 1]) (vs := [(0, .int .i64 1)]) rfl (rowLitG ety_79 [.int .i64 1] rfl (by intro v hv; rw [List.mem_singleton.1 hv]; rfl) (by decide) rfl)) ?_
        rintro _ _ ⟨bJ, rfl, rfl⟩
        refine ⟨Or.inr (by (exact (fun z hz => mem_of_cnt (by intro p; (try simp only [cnt_append, cnt_cons, cnt_nil]) <;> omega) z (hKm z hz)))), ?_⟩
        refine TA_oneGd 17 (by kernel_rfl) rfl rfl rfl rfl (by (assumption)) (op_call hb_40 rfl (pAgainst_B hX4 (mem_of_cnt (by intro p; (try simp only [cnt_append, cnt_cons, cnt_nil]) <;> omega)))) ?_
        rintro _ _ ⟨aA, cA, BA, rfl, hBA, rfl⟩; rw [aw6] at hBA ⊢
        refine ⟨Or.inr (by (exact (fun z hz => mem_of_cnt (by intro p; (try simp only [cnt_append, cnt_cons, cnt_nil]) <;> omega) z (hKm z hz)))), ?_⟩
        refine TA_oneGd 19 (by kernel_rfl) rfl rfl rfl rfl (by (assumption)) (op_call hb_38 rfl (Ints_S _ _ [1] [1] (hBA.sliceR (mono_int _) (by simp) (mem_of_cnt (by intro p; (try simp only [cnt_append, cnt_cons, cnt_nil]) <;> omega))) (ints1 (by simp) (up_lit (by decide))))) ?_
        rintro _ _ ⟨rfl, rfl⟩
        refine ⟨Or.inr (by (exact (fun z hz => mem_of_cnt (by intro p; (try simp only [cnt_append, cnt_cons, cnt_nil]) <;> omega) z (hKm z hz)))), ?_⟩
        (refine' TA_take 20 rfl rfl (by kernel_rfl) (quiet_q (op_pickT rfl ?_ rfl)) ?_ ?_; (· (assumption)); (· (intro p hp; grind)))
        (refine' TA_take 21 rfl rfl (by kernel_rfl) (quiet_q (op_move rfl)) ?_ ?_; (· (intro p hp; grind)))
        (refine' TA_take 22 rfl rfl (by kernel_rfl) (quiet_g2 rfl rfl (by (assumption)) (op_move rfl)) ?_ ?_; (· (intro p hp; grind)))
        refine TA_oneGd 23 (by kernel_rfl) rfl rfl rfl rfl (by (assumption)) (op_call hb_36 rfl (pMost_B hX4 (mem_of_cnt (by intro p; (try simp only [cnt_append, cnt_cons, cnt_nil]) <;> omega)))) ?_
        rintro _ _ ⟨rfl, rfl⟩; rw [aw7]
        refine ⟨Or.inr (by (exact (fun z hz => mem_of_cnt (by intro p; (try simp only [cnt_append, cnt_cons, cnt_nil]) <;> omega) z (hKm z hz)))), ?_⟩
        (refine' TA_take 24 rfl rfl (by kernel_rfl) (quiet_g2 rfl rfl (by (assumption)) (op_bin rfl rfl ?_)) ?_ ?_; rotate_left 1; (· (exact bin_eql)); (· (intro p hp; grind)))
        (refine' TA_take 25 rfl rfl (by kernel_rfl) (quiet_q (op_pickT rfl ?_ rfl)) ?_ ?_; (· (assumption)); (· (intro p hp; grind)))
        (refine' TA_take 26 rfl rfl (by kernel_rfl) (quiet_q (op_assign rfl)) ?_ ?_; (· (intro p hp; grind)))
        refine TA_done (by kernel_rfl) ?_
        refine TQ_mid () trivial ?_ (fun w h => h.cnt (by intro p; (try simp only [cnt_append, cnt_cons, cnt_nil]) <;> omega))
        (repeat ((first | exact trivial | refine ⟨rfl, ?_⟩)))
    · rintro _ _
      repeat ((with_reducible refine T_ret ?_))
      refine TQ_ret1 0 _ rfl rfl ?_
      exact ⟨rfl, rfl⟩
  · omega
end Go.Proofs.Ytdflhdfapnhjjaa
namespace Go.Proofs.Ytdflhdfapnhjjaa
open Go.RowKit
open Vd (RSet Vdt Vote Rec Quest Piece Ballot)
set_option linter.unusedVariables false
set_option linter.unusedSimpArgs false
--auto
variable {G : World} {L : Blocks}
theorem ORow.has {α : Type} {r : Rp α} {sz : Nat} {K : Blocks} {e : TypeId} {a : Option Addr} {c : Nat} {l : List α} {B : Blocks} (h : ORow r e sz K a c l B) {x : α} (hx : x ∈ l) : ∃ cs, r K cs x := by
  obtain ⟨xs, _, h2, _⟩ := h.ex
  obtain ⟨i, hi⟩ := List.getElem?_of_mem hx
  obtain ⟨cs, _, h3, _⟩ := h2.at hi
  exact ⟨cs, h3⟩
theorem PBox.code {bb : Nat} {want : Int} {l : List Ballot} {X : Blocks} (h : PBox bb want l X) : ∀ y ∈ Vd.votesB l, 0 ≤ y.vd.code ∧ y.vd.code ≤ 255 := fun y hy => by
  obtain ⟨hs, _, N, ⟨a, c, B, hB, rfl⟩, hN, rfl⟩ := h
  obtain ⟨cs, h⟩ := hB.has hy
  obtain ⟨_, _, _, _, _, _, _, h, _⟩ := h.vals
  exact h
theorem wonR_all {p : Vdt → Prop} (h0 : p Vdt.none) {want : Int} {vs : List Vote} (h : ∀ x ∈ vs, p x.vd) : p (wonR want vs).1 := by
  unfold wonR
  cases wonAt want vs vs.length with
  | none => exact h0
  | some j =>
    dsimp only
    cases hj : vs[j]? with
    | none => exact h0
    | some x => exact h x (List.mem_of_getElem? hj)
theorem PBox.wonCode {bb : Nat} {want : Int} {l : List Ballot} {X : Blocks} (h : PBox bb want l X) (w : Int) : 0 ≤ (wonR w (Vd.votesB l)).1.code ∧ (wonR w (Vd.votesB l)).1.code ≤ 255 :=
  wonR_all (p := fun v => 0 ≤ v.code ∧ v.code ≤ 255) (by show (0 : Int) ≤ 0 ∧ (0 : Int) ≤ 255; decide) h.code
theorem putB_more (l : List Ballot) (x : Ballot) : ∃ m, (Vd.putB l x).1 = l ++ m := by
  unfold Vd.putB
  split
  · exact ⟨[], by simp⟩
  · split
    · exact ⟨[], by simp⟩
    · exact ⟨[x], rfl⟩
theorem doesB_more (l : List Ballot) (x : TAct) : ∃ m, doesB l x = l ++ m := by
  unfold doesB
  split
  · exact putB_more _ _
  · split
    · exact putB_more _ _
    · exact ⟨[], by simp⟩
theorem doesAll_more : ∀ (r : List TAct) (l : List Ballot), ∃ m, r.foldl doesB l = l ++ m
  | [], l => ⟨[], by simp⟩
  | x :: r, l => by
    obtain ⟨m, hm⟩ := doesB_more l x
    obtain ⟨k, hk⟩ := doesAll_more r (doesB l x)
    refine ⟨m ++ k, ?_⟩
    rw [List.foldl_cons, hk, hm, List.append_assoc]
set_option maxRecDepth 100000 in
set_option maxHeartbeats 4000000 in
theorem tallyStays_S (want : Int) (v : Value) (l : List TAct) (v2 : Value) (l2 : List TAct) (hl : sliceR 30 actR L [v] l) (hl2 : sliceR 30 actR L [v2] l2) : Spec Try.prog G 9 #[.int .i64 want, v, v2] L fun u M => u = .bool true ∧ M = L := by
  obtain ⟨al, cl, e1, hl0⟩ := hl.val
  simp only [List.cons.injEq, and_true] at e1
  subst e1
  obtain ⟨am, cm, e2, hl20⟩ := hl2.val
  simp only [List.cons.injEq, and_true] at e2
  subst e2
  obtain ⟨_, ka1, ka2, hlc⟩ := sliceR.cut hl20
  unfold maxLen at ka2
  refine Spec_of (n := 81) Try.func9 rfl rfl rfl ?_
  repeat ((first | with_reducible refine T_seq ?_ | with_reducible refine T_region ?_ | with_reducible refine TL_nil ?_ | with_reducible refine TQ_then ?_ | refine TL_q (op_move rfl) rfl ?_ | refine TL_q (op_assign rfl) rfl ?_))
  refine TL_opT (op_call hb_31 rfl (long21_S _ l hl0)) rfl ?_
  rintro _ _ ⟨b, rfl, hM, hb⟩
  rw [hM]
  clear hM
  cases b with
  | true =>
    repeat ((first | with_reducible refine T_seq ?_ | with_reducible refine T_region ?_ | with_reducible refine TL_nil ?_ | with_reducible refine TQ_then ?_ | with_reducible refine T_ret ?_ | with_reducible refine TQ_then_ret ?_ | refine TL_q (op_move rfl) rfl ?_ | refine TL_q (op_assign rfl) rfl ?_ | (refine' TL_q (op_pickT rfl ?_ rfl) rfl ?_; (· (with_reducible rfl))) | (refine' TL_op (op_call hb_32 rfl (awake21_S )) rfl ?_) | (refine TL_gno rfl rfl ?_ rfl ?_; (· (exact Bool.not_false))) | (refine T_yes rfl ?_ ?_; (· (with_reducible rfl)))))
    refine TQ_ret1 6 _ rfl rfl ?_
    exact ⟨rfl, rfl⟩
  | false =>
  obtain ⟨hn, hsm⟩ := hb rfl
  repeat ((first | refine TL_q (op_move rfl) rfl ?_ | (refine TL_gpre rfl rfl ?_ ?_; (· (with_reducible rfl))) | refine TL_gq2 (op_move rfl) rfl ?_))
  refine TG_opT (op_call hb_31 rfl (long21_S _ l2 hl20)) rfl ?_
  rintro _ _ ⟨b, rfl, hM, hb⟩
  rw [hM]
  clear hM
  cases b with
  | true =>
    repeat ((first | with_reducible refine T_seq ?_ | with_reducible refine T_region ?_ | with_reducible refine TL_nil ?_ | with_reducible refine TQ_then ?_ | with_reducible refine T_ret ?_ | with_reducible refine TQ_then_ret ?_ | refine TL_q (op_move rfl) rfl ?_ | refine TL_q (op_assign rfl) rfl ?_ | (refine' TL_q (op_pickT rfl ?_ rfl) rfl ?_; (· (with_reducible rfl))) | (refine' TL_q (op_pickF rfl ?_ rfl) rfl ?_; (· (with_reducible rfl))) | (refine' TL_op (op_call hb_32 rfl (awake21_S )) rfl ?_) | (refine TL_gno rfl rfl ?_ rfl ?_; (· (exact Bool.not_false))) | (refine T_yes rfl ?_ ?_; (· (with_reducible rfl)))))
    refine TQ_ret1 6 _ rfl rfl ?_
    exact ⟨rfl, rfl⟩
  | false =>
  obtain ⟨hn2, hsm2⟩ := hb rfl
  repeat ((first | with_reducible refine T_seq ?_ | with_reducible refine T_region ?_ | with_reducible refine TL_nil ?_ | with_reducible refine TQ_then ?_ | with_reducible refine T_skip ?_ | refine TL_q (op_move rfl) rfl ?_ | (refine' TL_q (op_pickF rfl ?_ rfl) rfl ?_; (· (with_reducible rfl))) | (refine' TG_op (op_call hb_32 rfl (awake21_S )) rfl ?_) | (refine TL_gpre rfl rfl ?_ ?_; (· (with_reducible rfl))) | refine TL_gq2 (op_not rfl) rfl ?_ | (refine T_no rfl ?_ ?_; (· (exact Bool.not_true)))))
  refine TL_opT (op_call hb_34 rfl (made21_S (K := L) want _ l hl0.const (fun p h => h) hsm)) rfl ?_
  rintro _ _ ⟨bb, X, rfl, hX, rfl⟩
  obtain ⟨hw1, hw9⟩ := wantOf_bd want
  obtain ⟨w, hw⟩ : ∃ w, wantOf want = w := ⟨_, rfl⟩
  obtain ⟨bal, hbal⟩ : ∃ b, l.foldl doesB [] = b := ⟨_, rfl⟩
  rw [hw, hbal] at hX
  rw [hw] at hw1 hw9 ⊢
  repeat ((first | with_reducible refine T_seq ?_ | with_reducible refine T_region ?_ | with_reducible refine TL_nil ?_ | with_reducible refine TQ_then ?_ | refine TL_q (op_move rfl) rfl ?_ | refine TL_q (op_assign rfl) rfl ?_ | refine TL_q (op_extract rfl rfl) rfl ?_))
  have hWon := pWon_B (G := G) (L := X ++ L) hX (mem_of_cnt (by intro p; (try simp only [cnt_append, cnt_cons, cnt_nil]) <;> omega))
  have hwp : ∀ vs, wonP w vs = wonR w vs := fun vs => if_neg (by omega)
  rw [hwp] at hWon
  refine TL_opT (op_call hb_35 rfl hWon) rfl ?_
  obtain ⟨r, hr⟩ : ∃ r, wonR w (Vd.votesB bal) = r := ⟨_, rfl⟩
  rw [hr]
  rintro _ _ ⟨a, c, B, a2, c2, B2, a3, c3, B3, N, rfl, hB, hB2, hB3, hN, rfl⟩
  repeat ((first | with_reducible refine T_seq ?_ | with_reducible refine T_block ?_ | with_reducible refine T_region ?_ | with_reducible refine TL_nil ?_ | with_reducible refine TQ_then ?_ | refine TL_q (op_move rfl) rfl ?_ | refine TL_q (op_assign rfl) rfl ?_ | refine TL_q (op_extract rfl rfl) rfl ?_ | (refine TL_stAll rfl rfl st_42 rfl rfl rfl ?_) | (refine TL_new (op_alloc (C := #[(.int .u8 0), (.slice none 0 0), (.slice none 0 0)]) zero_42 rfl) rfl ?_; intro bNew)))
  obtain ⟨b9, hb9⟩ : ∃ b, bNew = b := ⟨_, rfl⟩
  rw [hb9]
  clear hb9 bNew
  refine T_loopS (σ := Nat × Blocks) (fun y => y.1 ≤ l2.length ∧ PBox bb w ((l2.take y.1).foldl doesB bal) y.2) (fun y => [(2, .slice am l2.length cm), (7, .pointer (some ⟨bb, 0, none⟩)), (9, .pointer (some ⟨b9, 0, none⟩)), (10, .int .u32 r.2.1), (11, .slice a3 r.2.2.1.length c3), (12, .bool r.2.2.2), (13, .int .i64 (y.1 : Nat))]) (fun y => y.2 ++ ((b9, Obj.cells #[.int .u8 r.1.code, .slice a r.1.sets.length c, .slice a2 r.1.soa.length c2] 42 (0, 0)) :: (B3 ++ (B2 ++ (B ++ (N ++ L)))))) (fun y => l2.length - y.1) (0, X) ⟨Nat.zero_le _, hX⟩ ?_ (fun w h => h.cnt (by intro p; (try simp only [cnt_append, cnt_cons, cnt_nil]) <;> omega)) ?_
  (repeat ((first | exact trivial | refine ⟨rfl, ?_⟩)))
  rintro ⟨i, X1⟩ ⟨hi, hX1⟩
  dsimp only at hi hX1 ⊢
  by_cases hil : i < l2.length
  · obtain ⟨x, hx⟩ : ∃ x, l2[i]? = some x := ⟨_, List.getElem?_eq_getElem hil⟩
    have htk : (l2.take (i + 1)).foldl doesB bal = doesB ((l2.take i).foldl doesB bal) x := by
      rw [List.take_add_one, hx, List.foldl_append]; rfl
    rcases hlc with rfl | ⟨b1, o1, C1, t1, f1, rfl, m1, q1⟩
    · simp at hil
    obtain ⟨cx, hcl, hxr, hcx⟩ := q1 i x hx
    have m1' : (b1, Obj.cells C1 t1 f1) ∈ X1 ++ ((b9, Obj.cells #[.int .u8 r.1.code, .slice a r.1.sets.length c, .slice a2 r.1.soa.length c2] 42 (0, 0)) :: (B3 ++ (B2 ++ (B ++ (N ++ L))))) := by simp [m1]
    repeat ((first | with_reducible refine T_seq ?_ | with_reducible refine T_block ?_ | with_reducible refine T_region ?_ | with_reducible refine TL_nil ?_ | with_reducible refine TQ_then ?_ | with_reducible refine T_skip ?_ | refine TL_q (op_move rfl) rfl ?_ | (refine' TL_q (op_bin rfl rfl ?_) rfl ?_; rotate_left 1; (· (exact bin_lss))) | refine TL_q (op_len_slice rfl Try.underlying69) rfl ?_ | (refine' TL_q (op_idx ety_69 rfl rfl ?_) rfl ?_; (· omega)) | (refine T_yes rfl ?_ ?_; (· (exact dT (by (omega)))))))
    refine TL_q (op_ldA cx rfl (by rw [hcl]; exact st_73) m1' hcx) rfl ?_
    refine TL_opT (op_call hb_37 rfl (does21_S _ x hX1 (mono_act _ _ _ _ (mem_of_cnt (by intro p; (try simp only [cnt_append, cnt_cons, cnt_nil]) <;> omega)) hxr) (hsm2 x (List.mem_of_getElem? hx)))) rfl ?_
    rintro _ _ ⟨rfl, X', hX', rfl⟩
    rw [← htk] at hX'
    repeat ((first | with_reducible refine T_region ?_ | with_reducible refine TL_nil ?_ | with_reducible refine TQ_then ?_ | with_reducible refine TQ_block ?_ | refine TL_q (op_move rfl) rfl ?_ | refine TL_q (op_assign rfl) rfl ?_ | (refine' TL_q (op_bin rfl rfl ?_) rfl ?_; rotate_left 1; (· (exact bin_add ⟨by omega, by omega⟩)))))
    refine TQ_roundS (i + 1, X') ⟨hil, hX'⟩ ?_ (fun w h => h) (by dsimp only; omega)
    (repeat ((first | exact trivial | refine ⟨rfl, ?_⟩)))
  · have hie : i = l2.length := by omega
    subst hie
    rw [List.take_length] at hX1
    obtain ⟨m, hm⟩ := doesAll_more l2 bal
    obtain ⟨bal2, hbal2⟩ : ∃ b, l2.foldl doesB bal = b := ⟨_, rfl⟩
    rw [hbal2] at hX1 hm
    have hstay : r.2.2.2 = true → wonR w (Vd.votesB bal2) = r := fun h => by
      rw [hm, votesB_app]
      rw [← hr] at h ⊢
      exact stays_law hw1 _ _ h
    repeat ((first | with_reducible refine T_seq ?_ | with_reducible refine T_region ?_ | with_reducible refine TL_nil ?_ | with_reducible refine TQ_then ?_ | with_reducible refine T_exit ?_ | with_reducible refine TQ_then_exit ?_ | with_reducible refine TQ_block_exit ?_ | refine TL_q (op_move rfl) rfl ?_ | (refine' TL_q (op_bin rfl rfl ?_) rfl ?_; rotate_left 1; (· (exact bin_lss))) | refine TL_q (op_len_slice rfl Try.underlying69) rfl ?_ | (refine T_no rfl ?_ ?_; (· (exact dF (by (omega)))))))
    have hWon2 := pWon_B (G := G) (L := X1 ++ ((b9, Obj.cells #[.int .u8 r.1.code, .slice a r.1.sets.length c, .slice a2 r.1.soa.length c2] 42 (0, 0)) :: (B3 ++ (B2 ++ (B ++ (N ++ L)))))) hX1 (mem_of_cnt (by intro p; (try simp only [cnt_append, cnt_cons, cnt_nil]) <;> omega))
    rw [hwp] at hWon2
    refine TL_opT (op_call hb_35 rfl hWon2) rfl ?_
    obtain ⟨r2, hr2⟩ : ∃ r, wonR w (Vd.votesB bal2) = r := ⟨_, rfl⟩
    rw [hr2] at hstay ⊢
    rintro _ _ ⟨a4, c4, B4, a5, c5, B5, a6, c6, B6, N2, rfl, hB4, hB5, hB6, hN2, rfl⟩
    cases his : r.2.2.2 with
    | false =>
      repeat ((first | with_reducible refine T_seq ?_ | with_reducible refine T_region ?_ | with_reducible refine TL_nil ?_ | with_reducible refine TQ_then ?_ | with_reducible refine T_ret ?_ | refine TL_q (op_move rfl) rfl ?_ | refine TL_q (op_assign rfl) rfl ?_ | refine TL_q (op_not rfl) rfl ?_ | refine TL_q (op_extract rfl rfl) rfl ?_ | (refine' TL_q (op_pickT rfl ?_ rfl) rfl ?_; (· (exact Bool.not_false))) | (refine TL_gno rfl rfl ?_ rfl ?_; (· (with_reducible rfl))) | refine TL_gundef rfl rfl rfl ?_ | (refine TL_stAll rfl rfl st_42 rfl rfl rfl ?_) | (refine TL_new (op_alloc (C := #[(.int .u8 0), (.slice none 0 0), (.slice none 0 0)]) zero_42 rfl) rfl ?_; intro bNew)))
      refine TQ_cnt (L' := L) ?_ (by intro p; (try simp only [cnt_append, cnt_cons, cnt_nil]) <;> omega)
      refine TQ_ret1 6 _ rfl rfl ?_
      exact ⟨rfl, rfl⟩
    | true =>
      obtain rfl := hstay his
      have d1 : decide (r2.1 = r2.1) = true := by simp
      have d2 : decide (r2.2.2.1 = r2.2.2.1) = true := by simp
      have hcode : 0 ≤ r2.1.code ∧ r2.1.code ≤ 255 := by rw [← hr2]; exact hX1.wonCode w
      repeat ((first | with_reducible refine T_seq ?_ | with_reducible refine T_region ?_ | with_reducible refine TL_nil ?_ | with_reducible refine TQ_then ?_ | refine TL_q (op_move rfl) rfl ?_ | refine TL_q (op_assign rfl) rfl ?_ | refine TL_q (op_not rfl) rfl ?_ | refine TL_q (op_extract rfl rfl) rfl ?_ | (refine TL_gpre rfl rfl ?_ ?_; (· (first | assumption | exact Bool.not_true))) | refine TL_gq2 (op_move rfl) rfl ?_ | (refine' TL_gq2 (op_ldAll rfl st_42 ?_ ?_) rfl ?_; rotate_left 3; (· repeat ((first | exact List.mem_cons_self | apply List.mem_cons_of_mem | apply List.mem_append_right))); (· (rfl))) | (refine TL_stAll rfl rfl st_42 rfl rfl rfl ?_) | (refine TL_new (op_alloc (C := #[(.int .u8 0), (.slice none 0 0), (.slice none 0 0)]) zero_42 rfl) rfl ?_; intro bNew)))
      refine TG_op (op_call hb_23 rfl (vSame_S [.int .u8 r2.1.code, .slice a r2.1.sets.length c, .slice a2 r2.1.soa.length c2] [.int .u8 r2.1.code, .slice a4 r2.1.sets.length c4, .slice a5 r2.1.soa.length c5] r2.1 r2.1 ⟨_, _, rfl, hB.sliceR mono_set (mem_of_cnt (by intro p; (try simp only [cnt_append, cnt_cons, cnt_nil]) <;> omega)) (mem_of_cnt (by intro p; (try simp only [cnt_append, cnt_cons, cnt_nil]) <;> omega)), hB2.sliceR mono_set (mem_of_cnt (by intro p; (try simp only [cnt_append, cnt_cons, cnt_nil]) <;> omega)) (mem_of_cnt (by intro p; (try simp only [cnt_append, cnt_cons, cnt_nil]) <;> omega)), hcode⟩ ⟨_, _, rfl, hB4.sliceR mono_set (mem_of_cnt (by intro p; (try simp only [cnt_append, cnt_cons, cnt_nil]) <;> omega)) (mem_of_cnt (by intro p; (try simp only [cnt_append, cnt_cons, cnt_nil]) <;> omega)), hB5.sliceR mono_set (mem_of_cnt (by intro p; (try simp only [cnt_append, cnt_cons, cnt_nil]) <;> omega)) (mem_of_cnt (by intro p; (try simp only [cnt_append, cnt_cons, cnt_nil]) <;> omega)), hcode⟩)) rfl ?_
      repeat ((first | (refine TL_gpre rfl rfl ?_ ?_; (· (first | assumption | exact Bool.not_true | exact dT (by (with_reducible rfl))))) | refine TL_gq2 (op_move rfl) rfl ?_ | (refine' TL_gq2 (op_bin rfl rfl ?_) rfl ?_; rotate_left 1; (· (exact bin_eql))) | (refine' TL_gq2 (op_pickT rfl ?_ rfl) rfl ?_; (· (assumption)))))
      refine TG_op (op_call hb_38 rfl (Ints_S _ _ r2.2.2.1 r2.2.2.1 (hB3.sliceR (mono_int _) (by simp) (mem_of_cnt (by intro p; (try simp only [cnt_append, cnt_cons, cnt_nil]) <;> omega))) (hB6.sliceR (mono_int _) (by simp) (mem_of_cnt (by intro p; (try simp only [cnt_append, cnt_cons, cnt_nil]) <;> omega))))) rfl ?_
      repeat ((first | with_reducible refine TL_nil ?_ | with_reducible refine TQ_then ?_ | with_reducible refine T_ret ?_ | refine TL_q (op_assign rfl) rfl ?_ | (refine' TL_q (op_pickF rfl ?_ rfl) rfl ?_; (· (exact Bool.not_true))) | (refine TL_gpre rfl rfl ?_ ?_; (· (exact Bool.not_true))) | (refine' TL_gq2 (op_pickT rfl ?_ rfl) rfl ?_; (· (exact dT (by (with_reducible rfl)))))))
      refine TQ_cnt (L' := L) ?_ (by intro p; (try simp only [cnt_append, cnt_cons, cnt_nil]) <;> omega)
      refine TQ_ret1 6 _ rfl rfl ?_
      exact ⟨by rw [d2], rfl⟩
theorem tallyStays_walk (want : Int) (v : Value) (l : List TAct) (v2 : Value) (l2 : List TAct) (W : World) (hw : -9223372036854775808 ≤ want ∧ want ≤ 9223372036854775807) (hl : sliceR 30 actR (allBlocks W) [v] l) (hl2 : sliceR 30 actR (allBlocks W) [v2] l2) : Calls Try.prog 9 #[.int .i64 want, v, v2] W fun e w' => e = .returned (.bool true) ∧ Below W.heap.size W w' :=
  Spec.below (tallyStays_S want v l v2 l2 hl hl2)
end Go.Proofs.Ytdflhdfapnhjjaa
