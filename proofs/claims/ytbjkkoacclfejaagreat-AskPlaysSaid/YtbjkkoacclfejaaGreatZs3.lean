/-
 Part 3: Ka App WRef1 WRef2 WRef3 WRef4 Om Va Vb Ga Gb Gc Ord Rd Ge Gf.
-/
import Derived.Test.YtbjkkoacclfejaaGreatZs2
import Derived.Test.YtbjkkoacclfejaaGreatZs1
import Derived.Deep.RegionLaw
import Derived.Laws.OwnMore
import Derived.OwnWalk
set_option maxRecDepth 100000
set_option maxHeartbeats 2000000
set_option linter.unusedVariables false
set_option linter.unusedSimpArgs false
namespace Go.Proofs.YtbjkkoacclfejaaGreat
section
open Vd (RSet Vdt Vote Rec Quest Piece Ballot)
def jK (vs : List Vote) (v : Vdt) : Nat := vs.findIdx fun x => decide (x.vd = v)
def jz (l : List Ballot) (u : Int) : Int × Int :=
 match l.find? fun b => b.v.up == u with
 | none => (0, 0)
 | some b => if b.pass then (1, 0) else (2, jK (Vd.votesB l) b.v.vd)
structure BoxOk (l : List Ballot) : Prop where
 nd : (l.map fun b => b.v.up).Nodup
 up : ∀ b ∈ l, 0 ≤ b.v.up ∧ b.v.up < 9
theorem BoxOk.nil : BoxOk [] := ⟨by simp, by simp⟩
theorem WK (l : List Ballot) (u : Int) : Vd.hasB l u = true ↔ u ∈ l.map fun b => b.v.up := by
 unfold Vd.hasB
 rw [List.any_eq_true, List.mem_map]
 simp only [beq_iff_eq]
theorem BoxOk.put {l : List Ballot} (h : BoxOk l) (x : Ballot) : BoxOk (Vd.putB l x).1 := by
 unfold Vd.putB
 split
 · exact h
 split
 · exact h
 · rename_i h1 h2
   refine ⟨?_, fun b hb => ?_⟩
   · rw [List.map_append]
     refine List.nodup_append.2 ⟨h.nd, by simp, fun a ha b hb => ?_⟩
     rw [List.map_singleton, List.mem_singleton] at hb
     intro e
     refine h2 ((WK _ _).2 ?_)
     rw [← hb, ← e]
     exact ha
   · rcases List.mem_append.1 hb with hb | hb
     · exact h.up b hb
     · rw [List.mem_singleton.1 hb]
       omega
theorem abC (l : List Ballot) (u : Int) : (jz l u).1 = 0 ↔ Vd.hasB l u = false := by
 unfold jz Vd.hasB
 cases hf : l.find? (fun b => b.v.up == u) with
 | none =>
   simp only [true_iff]
   rw [List.any_eq_false]
   intro b hb
   have := List.find?_eq_none.1 hf b hb
   simpa using this
 | some b =>
   have h1 := List.find?_some hf
   have h2 := List.mem_of_find?_eq_some hf
   have : (l.any fun b => b.v.up == u) = true := List.any_eq_true.2 ⟨b, h2, h1⟩
   rw [this]
   cases hp : b.pass <;> simp [hp]
def jR (vs : List Vote) (v : Vdt) : List Vote := vs.filter fun x => decide (x.vd = v)
def ky (want : Int) (vs : List Vote) : Nat → Option Nat
 | 0 => none
 | j + 1 => match ky want vs j with
   | some k => some k
   | none => match vs[j]? with
     | some x => if want ≤ ((jR (vs.take (j + 1)) x.vd).length : Int) then some j else none
     | none => none
def kI (l : List Int) : List Int := (List.range 9).flatMap fun (n : Nat) => l.filter fun x => x == (n : Int)
def qr (want : Int) (vs : List Vote) : Vdt × Int × List Int × Bool :=
 match ky want vs vs.length with
 | none => (Vdt.none, 0, [], false)
 | some j => match vs[j]? with
   | some x => (x.vd, (jR (vs.take (j + 1)) x.vd).foldl (fun t v => min t v.time) x.time, kI ((jR (vs.take (j + 1)) x.vd).map (·.up)), true)
   | none => (Vdt.none, 0, [], false)
def kw (want : Int) (vs : List Vote) : List Int :=
 if (qr want vs).2.2.2 then kI ((vs.filter fun x => !decide (x.vd = (qr want vs).1)).map (·.up)) else []
def qO (vs : List Vote) : Int := vs.foldl (fun m x => max m ((jR vs x.vd).length : Int)) 0
theorem qW {vs : List Vote} {x : Vote} (h : x ∈ vs) : jK vs x.vd < vs.length ∧ ∃ y, vs[jK vs x.vd]? = some y ∧ y.vd = x.vd := by
 have hlt : jK vs x.vd < vs.length := List.findIdx_lt_length_of_exists ⟨x, h, by simp⟩
 refine ⟨hlt, _, List.getElem?_eq_getElem hlt, ?_⟩
 have := List.findIdx_getElem (w := hlt) (p := fun y : Vote => decide (y.vd = x.vd))
 exact of_decide_eq_true this
theorem uU {vs : List Vote} {x y : Vote} (hx : x ∈ vs) (hy : y ∈ vs) : jK vs x.vd = jK vs y.vd ↔ x.vd = y.vd := by
 constructor
 · intro h
   obtain ⟨_, a, ha, ha2⟩ := qW hx
   obtain ⟨_, b, hb, hb2⟩ := qW hy
   rw [h, hb] at ha
   obtain rfl := Option.some.inj ha
   exact ha2.symm.trans hb2
 · intro h; rw [h]
theorem YR {l : List Ballot} (h : BoxOk l) {a b : Ballot} (ha : a ∈ l) (hb : b ∈ l) (e : a.v.up = b.v.up) : a = b := by
 obtain ⟨i, hi, rfl⟩ := List.getElem_of_mem ha
 obtain ⟨j, hj, rfl⟩ := List.getElem_of_mem hb
 have hp := List.nodup_iff_pairwise_ne.1 h.nd
 rcases Nat.lt_trichotomy i j with h1 | h1 | h1
 · have := List.pairwise_iff_getElem.1 hp i j (by simpa using hi) (by simpa using hj) h1
   simp only [List.getElem_map] at this
   exact absurd e this
 · subst h1; rfl
 · have := List.pairwise_iff_getElem.1 hp j i (by simpa using hj) (by simpa using hi) h1
   simp only [List.getElem_map] at this
   exact absurd e.symm this
theorem votesB_mem {l : List Ballot} {x : Vote} : x ∈ Vd.votesB l ↔ ∃ b ∈ l, b.pass = false ∧ b.v = x := by
 unfold Vd.votesB
 rw [List.mem_map]
 constructor
 · rintro ⟨b, hb, rfl⟩
   obtain ⟨h1, h2⟩ := List.mem_filter.1 hb
   exact ⟨b, h1, by simpa using h2, rfl⟩
 · rintro ⟨b, hb, h1, rfl⟩
   exact ⟨b, List.mem_filter.2 ⟨hb, by simp [h1]⟩, rfl⟩
theorem WL {l : List Ballot} (h : BoxOk l) {b : Ballot} (hb : b ∈ l) : jz l b.v.up = if b.pass then ((1, 0) : Int × Int) else (2, (jK (Vd.votesB l) b.v.vd : Int)) := by
 unfold jz
 cases hf : l.find? (fun c => c.v.up == b.v.up) with
 | none =>
   have := List.find?_eq_none.1 hf b hb
   simp at this
 | some c =>
   have h1 := List.find?_some hf
   have h2 := List.mem_of_find?_eq_some hf
   have : c = b := YR h h2 hb (by simpa using h1)
   subst this
   rfl
theorem qP {l : List Ballot} (h : BoxOk l) {x : Vote} (hx : x ∈ Vd.votesB l) : jz l x.up = ((2, (jK (Vd.votesB l) x.vd : Int)) : Int × Int) := by
 obtain ⟨b, hb, hp, rfl⟩ := votesB_mem.1 hx
 rw [WL h hb, hp]
 rfl
theorem WM {vs : List Vote} (x y : Vote) (hy : y ∈ vs) : jK (vs ++ [x]) y.vd = jK vs y.vd := by
 have h := (qW hy).1
 unfold jK at h ⊢
 rw [List.findIdx_append, if_pos h]
theorem WN {vs : List Vote} (x : Vote) : jK (vs ++ [x]) x.vd = jK vs x.vd := by
 unfold jK
 rw [List.findIdx_append]
 split
 · rfl
 · rename_i h
   have hle := List.findIdx_le_length (xs := vs) (p := fun y : Vote => decide (y.vd = x.vd))
   have : ([x] : List Vote).findIdx (fun y => decide (y.vd = x.vd)) = 0 := by simp [List.findIdx_cons]
   rw [this]
   omega
theorem UD {l : List Ballot} {x : Ballot} {u : Int} (hu : u ≠ x.v.up) : (l ++ [x]).find? (fun b => b.v.up == u) = l.find? fun b => b.v.up == u := by
 rw [List.find?_append]
 have : ([x] : List Ballot).find? (fun b => b.v.up == u) = none := by
  rw [List.find?_eq_none]
  intro b hb
  rw [List.mem_singleton.1 hb]
  simpa using fun e => hu e.symm
 rw [this, Option.or_none]
theorem aap {l : List Ballot} (h : BoxOk l) {x : Ballot} (hx : Vd.hasB l x.v.up = false) (hb : 0 ≤ x.v.up ∧ x.v.up < 9) (vs' : List Vote) (hv : Vd.votesB (l ++ [x]) = vs') (hvs : vs' = if x.pass then Vd.votesB l else Vd.votesB l ++ [x.v]) (u : Int) :
 jz (l ++ [x]) u = if u = x.v.up then (if x.pass then ((1, 0) : Int × Int) else (2, (jK (Vd.votesB l) x.v.vd : Int))) else jz l u := by
 by_cases hu : u = x.v.up
 · subst hu
   rw [if_pos rfl]
   unfold jz
   have hn : l.find? (fun b => b.v.up == x.v.up) = none := by
    rw [List.find?_eq_none]
    intro b hb
    have := List.any_eq_false.1 hx b hb
    simpa using this
   rw [List.find?_append, hn]
   have h1 : ([x] : List Ballot).find? (fun b => b.v.up == x.v.up) = some x := by simp
   rw [h1]
   simp only [Option.none_or]
   cases hp : x.pass with
   | true => simp
   | false =>
     simp only [Bool.false_eq_true, if_false]
     rw [hv, hvs, hp]
     simp only [Bool.false_eq_true, if_false]
     rw [WN]
 · rw [if_neg hu]
   unfold jz
   rw [UD hu]
   cases hf : l.find? (fun b => b.v.up == u) with
   | none => rfl
   | some b =>
     dsimp only
     cases hp : b.pass with
     | true => simp
     | false =>
       simp only [Bool.false_eq_true, if_false]
       have hbm := List.mem_of_find?_eq_some hf
       rw [hv, hvs]
       split
       · rfl
       · rw [WM x.v b.v (votesB_mem.2 ⟨b, hbm, hp, rfl⟩)]
theorem zS (vs : List Vote) (x : Vote) (v : Vdt) : jR (vs ++ [x]) v = if x.vd = v then jR vs v ++ [x] else jR vs v := by
 unfold jR
 rw [List.filter_append]
 by_cases h : x.vd = v <;> simp [h]
theorem yC {vs : List Vote} {i : Nat} {x : Vote} (h : vs[i]? = some x) (v : Vdt) : jR (vs.take (i + 1)) v = if x.vd = v then jR (vs.take i) v ++ [x] else jR (vs.take i) v := by
 rw [List.take_add_one, h]
 exact zS _ _ _
theorem yD {want : Int} {vs : List Vote} {i : Nat} {x : Vote} (hx : vs[i]? = some x) (h : ky want vs i = none) : ky want vs (i + 1) = if want ≤ ((jR (vs.take (i + 1)) x.vd).length : Int) then some i else none := by
 rw [ky, h, hx]
theorem zT {want : Int} {vs : List Vote} {k : Nat} : ∀ (i j : Nat), i ≤ j → ky want vs i = some k → ky want vs j = some k
 | i, j, hij, h => by
   obtain ⟨d, rfl⟩ : ∃ d, j = i + d := ⟨j - i, by omega⟩
   clear hij
   induction d with
   | zero => exact h
   | succ d ih => rw [← Nat.add_assoc, ky, ih]
theorem QN {want : Int} {vs : List Vote} (hw : 1 ≤ want) : ∀ i, i ≤ vs.length → ky want vs i = none → ∀ v, ((jR (vs.take i) v).length : Int) < want
 | 0, _, _, v => by simp [jR]; omega
 | i + 1, hi, h, v => by
   obtain ⟨x, hx⟩ : ∃ x, vs[i]? = some x := ⟨_, List.getElem?_eq_getElem jd⟩
   have h0 : ky want vs i = none := by
    cases h1 : ky want vs i with
    | none => rfl
    | some k => rw [ky, h1] at h; cases h
   have ih := QN hw i jd h0 v
   rw [yD hx h0] at h
   rw [yC hx]
   by_cases e : x.vd = v
   · subst e
     rw [if_pos rfl]
     by_cases hl : want ≤ ((jR (vs.take (i + 1)) x.vd).length : Int)
     · rw [if_pos hl] at h; cases h
     · rw [yC hx, if_pos rfl] at hl
       omega
   · rw [if_neg e]; exact ih
theorem UR {want : Int} {vs : List Vote} (hw : 1 ≤ want) {i : Nat} {x : Vote} (hx : vs[i]? = some x) (h : ky want vs i = none) : (want ≤ ((jR (vs.take (i + 1)) x.vd).length : Int)) ↔ ((jR (vs.take (i + 1)) x.vd).length : Int) = want := by
 have := QN hw i (by have := (List.getElem?_eq_some_iff.1 hx).1; omega) h x.vd
 rw [yC hx, if_pos rfl, List.length_append]
 simp only [List.length_cons, List.length_nil]
 omega
def yE (vs : List Vote) (i : Nat) (f : Nat) : Nat := (vs.take i).countP fun x => jK vs x.vd == f
theorem aaq {vs : List Vote} (i : Nat) {x : Vote} (hx : x ∈ vs) : yE vs i (jK vs x.vd) = (jR (vs.take i) x.vd).length := by
 unfold yE jR
 rw [← List.countP_eq_length_filter]
 refine List.countP_congr fun y hy => ?_
 rw [beq_iff_eq, decide_eq_true_eq]
 exact uU (List.mem_of_mem_take hy) hx
theorem aar {vs : List Vote} {i : Nat} {x : Vote} (hx : vs[i]? = some x) (f : Nat) : yE vs (i + 1) f = yE vs i f + (if jK vs x.vd = f then 1 else 0) := by
 unfold yE
 rw [List.take_add_one, hx]
 simp only [Option.toList_some, List.countP_append, List.countP_cons, List.countP_nil, beq_iff_eq]
 omega
end
section
open Go.RowKit
def RowOf (w : World) (v : Value) (m size : Nat) (news : List Value) : Prop :=
 news.length = m * size ∧ (∀ u ∈ news, u.oneCell' = true) ∧ ((∃ c, v = .slice none 0 c ∧ m = 0) ∨ ∃ ad c, v = .slice (some ad) m c ∧ ∀ j u, news[j]? = some u → w.cell? (ad.add j) = some u)
variable {P : Program}
theorem RowOf.below {w w' : World} {v : Value} {m size : Nat} {news : List Value} (h : RowOf w v m size news) (hb : ∀ a, w'.cell? a = w.cell? a ∨ w.cell? a = none) : RowOf w' v m size news := by
 obtain ⟨h1, h2, h3 | ⟨ad, c, h3, h4⟩⟩ := h
 · exact ⟨h1, h2, Or.inl h3⟩
 · refine ⟨h1, h2, Or.inr ⟨ad, c, h3, fun j u hj => ?_⟩⟩
   have := h4 j u hj
   rcases hb (ad.add j) with h | h
   · rw [h]; exact this
   · rw [h] at this; cases this
end
section
open Go.RowKit
theorem Jr (s : Nm.Bytes) : (⟨s.toArray⟩ : ByteArray).size = s.length := by show s.toArray.size = s.length; simp
theorem aeU (a b : Nm.Bytes) : (({ data := a.toArray } : ByteArray) ++ { data := b.toArray }) = ⟨(a ++ b).toArray⟩ := by
 apply ByteArray.ext
 apply Array.toList_inj.1
 simp [ByteArray.data_append]
theorem KL (W : World) (c : UInt8) (n : Int) (hn : n = (c.toNat : Int)) : (convert 149 9 (.slice (some ⟨W.heap.size, 0, none⟩) 1 1)).run Tryz.prog (W.alloc (.cells #[.int .u8 n] 5)) = .ok (.string ⟨[c].toArray⟩) (W.alloc (.cells #[.int .u8 n] 5)) := by
 subst hn
 exact QM _ 149 9 5 W.heap.size 1 1 [c] rfl unO unO unO (fun j hj => by
  rw [World.cell?_alloc_mark]
  match j, hj with
  | 0, _ => rfl)
theorem JX {c : UInt8} {t : Nm.Bytes} (hz : ¬ c = 0) (h : 63 < c.toNat ∨ t.length < c.toNat) : Nm.lbl (c :: t) = none := by
 rw [Nm.lbl_cons, if_neg hz]
 by_cases h63 : 63 < c.toNat
 · rw [if_pos h63]
 · rw [if_neg h63, if_pos jd]
def YS (n : Nm.Bytes) (w : World) (e : Ending) (w' : World) : Prop :=
 ∃ v, e = .returned (.tuple #[v, .bool (Nm.may n)]) ∧ w'.ownsRow w.heap.size 9 1 v (Nm.labels n).length ((Nm.labels n).map zL) ∧ Below w.heap.size w w'
theorem uc (s : ByteArray) (w : World) (hs : s.size ≤ 1000000) :
 Calls Tryz.prog 102 #[.string s] w (YS s.data.toList w) := by
 obtain ⟨i0, hi, hz0, hz1, hz2⟩ := info_parts KK
 go_enter Tryz.func102, Tryz.ntmps102
 go_wp2_with fail
 go_loopw [4, 5, 6] (fun v i _ wr => ∃ (k : Nat) (a : List Nm.Bytes), k ≤ s.size ∧ a.length ≤ k ∧ i = .int .i64 k ∧ Nm.lbl s.data.toList = (Nm.lbl (s.data.toList.drop k)).map (a ++ ·) ∧ wr.ownsRow w.heap.size 9 1 v a.length (a.map zL) ∧ Below w.heap.size w wr) (fun _ i _ _ => s.size - (intOf i).toNat)
 case atStart => exact ⟨0, [], by omega, by simp, rfl, by simp, World.ownsRow_nil _ _ _ _, Below.refl _ _⟩
 case round =>
  obtain ⟨k, a, hk, hal, rfl, hl, hown, hbel⟩ := hrel
  have HL := Lib.hid hl
  have HOWN := Lib.hid hown
  have HBEL := Lib.hid hbel
  have hwsz := hbel.size
  clear hl hown hbel
  by_cases hlt : k < s.size
  · obtain ⟨c, hc⟩ : ∃ c, s[k] = c := ⟨_, rfl⟩
    have hd2 : Hid (s.data.toList.drop k = c :: s.data.toList.drop (k + 1)) := by have := ZL s k hlt; rwa [hc] at this
    have hb := c.toNat_lt
    have HTL := Lib.hid (show (s.data.toList.drop (k + 1)).length = s.size - (k + 1) by simp)
    by_cases hz : c = 0
    · subst hz
      have HLB := Lib.hid (show Nm.lbl s.data.toList = (if s.size = k + 1 then some a else none) by
       rw [HL.out, hd2.out, Nm.lbl_cons, if_pos rfl]
       by_cases hq : s.size = k + 1
       · rw [if_pos (List.eq_nil_of_length_eq_zero (by rw [HTL.out]; omega)), if_pos hq]; simp
       · rw [if_neg (fun hn => by have := HTL.out; rw [hn] at this; simp at this; omega), if_neg hq]; rfl)
      by_cases hq : s.size = k + 1
      · by_cases h255 : 255 < s.size
        · have HN := Lib.hid (show Nm.nm s.data.toList = none by unfold Nm.nm; rw [if_neg (by simp; omega)])
          have HQ := Lib.hid hq
          have hq1 : ((k : Int) != (s.size : Int) - 1) = false := by simp; omega
          clear hq
          go_wp2_with fail
          go_ret2
          refine ⟨_, by rw [Nm.may_none HN.out]; rfl, ?_, HBEL.out⟩
          unfold Nm.labels; rw [HN.out]
          exact World.ownsRow_nil _ _ _ _
        · have HN := Lib.hid (show Nm.nm s.data.toList = some a by unfold Nm.nm; rw [if_pos (by simp; omega), HLB.out, if_pos hq])
          have HQ := Lib.hid hq
          have hq1 : ((k : Int) != (s.size : Int) - 1) = false := by simp; omega
          clear hq
          go_wp2_with fail
          go_ret2
          refine ⟨_, by rw [Nm.may_some HN.out]; rfl, ?_, HBEL.out⟩
          unfold Nm.labels; rw [HN.out]
          exact HOWN.out
      · have HN := Lib.hid (show Nm.nm s.data.toList = none by unfold Nm.nm; split; rw [HLB.out, if_neg hq]; rfl)
        have hq1 : ((k : Int) != (s.size : Int) - 1) = true := by rw [bne_iff_ne]; omega
        clear hq
        go_wp2_with fail
        go_ret2
        refine ⟨_, by rw [Nm.may_none HN.out]; rfl, ?_, HBEL.out⟩
        unfold Nm.labels; rw [HN.out]
        exact World.ownsRow_nil _ _ _ _
    · have hz1' : 1 ≤ c.toNat := by
       rcases Nat.eq_zero_or_pos c.toNat with h | h
       · exact absurd (UInt8.toNat_inj.1 (by simpa using h)) hz
       · exact h
      have hz2' : ((c.toNat : Int) == 0) = false := beq_eq_false_iff_ne.2 jd
      have hz3' : ((c.toNat : Int) != 0) = true := by rw [bne_iff_ne]; omega
      have HZ := Lib.hid hz
      clear hz
      by_cases hbad : 63 < c.toNat ∨ s.size < k + 1 + c.toNat
      · have HN := Lib.hid (show Nm.nm s.data.toList = none by
         unfold Nm.nm; split
         · rw [HL.out, hd2.out, JX HZ.out (by rw [HTL.out]; omega)]; rfl
         · rfl)
        rcases hbad with h1 | h1
        · go_wp2_with fail
          go_ret2
          refine ⟨_, by rw [Nm.may_none HN.out]; rfl, ?_, HBEL.out⟩
          unfold Nm.labels; rw [HN.out]
          exact World.ownsRow_nil _ _ _ _
        · by_cases h63 : 63 < c.toNat
          · go_wp2_with fail
            go_ret2
            refine ⟨_, by rw [Nm.may_none HN.out]; rfl, ?_, HBEL.out⟩
            unfold Nm.labels; rw [HN.out]
            exact World.ownsRow_nil _ _ _ _
          · go_wp2_with fail
            go_ret2
            refine ⟨_, by rw [Nm.may_none HN.out]; rfl, ?_, HBEL.out⟩
            unfold Nm.labels; rw [HN.out]
            exact World.ownsRow_nil _ _ _ _
      · have h63 : ¬ 63 < c.toNat := fun h => hbad (Or.inl h)
        have hle : k + 1 + c.toNat ≤ s.size := by omega
        clear hbad
        obtain ⟨l, hld⟩ : ∃ l, l = (s.data.toList.drop (k + 1)).take c.toNat := ⟨_, rfl⟩
        have HEX := Lib.hid (show Value.string (s.extract (k + 1) (k + 1 + c.toNat)) = zL l by
         unfold zL
         congr 1
         apply ByteArray.ext
         apply Array.toList_inj.1
         rw [Lib.extract_data, hld]
         simp)
        have HN := Lib.hid (show Nm.lbl s.data.toList = (Nm.lbl (s.data.toList.drop (k + 1 + c.toNat))).map ((a ++ [l]) ++ ·) by
         rw [HL.out, hd2.out, Nm.lbl_cons, if_neg HZ.out, if_neg h63, if_neg (by rw [HTL.out]; omega), Option.map_map, List.drop_drop, hld]
         congr 1
         funext x
         simp)
        clear hld
        go_wp2_with (at_builtin; refine wpList_append_own _ rfl _ _ 120 rfl w.heap.size 9 i0 (.string ByteArray.empty) 1 16 unO hi hz0 hz1 hz2 rfl (by decide) _ a.length _ rfl (HOWN.out.alloc _) ⟨wr.heap.size, 0, none⟩ 1 1 [.string (s.extract (k + 1) (k + 1 + c.toNat))] rfl rfl (cell_one_new _ _ _) ?c2 ?c3 ?c4 ?c5 ?_)
        case c2 => simp [Value.oneCell']
        case c3 => unfold maxLen; omega
        case c4 => omega
        case c5 => simp; omega
        intro v' w1 hown' hgrow _
        have HB1 := Lib.hid ((HBEL.out.alloc hwsz _).grown hgrow (by simp; omega) (fun q hq => (HOWN.out.lt q hq).1))
        have hfin0 : w1.ownsRow w.heap.size 9 1 v' (a ++ [l]).length ((a ++ [l]).map zL) := by
         have := hown'
         rw [HEX.out] at this
         simpa using this
        have HFIN := Lib.hid hfin0
        clear hown' hgrow hfin0
        go_wp2_with fail
        exact ⟨⟨k + 1 + c.toNat, a ++ [l], by omega, by simp; omega, by go_num, HN.out, HFIN.out, HB1.out⟩, by simp [intOf]; omega⟩
  · have HN := Lib.hid (show Nm.nm s.data.toList = none by
     unfold Nm.nm; split
     · rw [HL.out, List.drop_of_length_le (by simp; omega)]; rfl
     · rfl)
    have hq1 : ((k : Int) != (s.size : Int) - 1) = true := by rw [bne_iff_ne]; omega
    go_wp2_with fail
    go_ret2
    refine ⟨_, by rw [Nm.may_none HN.out]; rfl, ?_, HBEL.out⟩
    unfold Nm.labels; rw [HN.out]
    exact World.ownsRow_nil _ _ _ _
theorem kJ (s : ByteArray) (w : World) (hs : s.size ≤ 1000000) :
 Calls Tryz.prog 76 #[.string s] w fun e w' => e = .returned (.bool (Nm.may s.data.toList)) ∧ Below w.heap.size w w' := by
 go_enter Tryz.func76, Tryz.ntmps76
 go_wp2_with fail
 refine (uc s _ hs).mono ?_
 rintro e w1 ⟨v, rfl, ho, hb⟩
 go_wp2_with fail
 go_ret
 exact ⟨rfl, hb⟩
theorem QO (s : ByteArray) (w : World) (hs : s.size ≤ 1000000) :
 Calls Tryz.prog 127 #[.string s] w fun e w' => e = .returned (.string ⟨(Nm.low s.data.toList).toArray⟩) ∧ Below w.heap.size w w' := by
 go_enter Tryz.func127, Tryz.ntmps127
 go_wp2_with fail
 go_loopw [3, 4, 5] (fun o i _ wr => ∃ k : Nat, k ≤ s.size ∧ i = .int .i64 k ∧ o = .string ⟨(Nm.low (s.data.toList.take k)).toArray⟩ ∧ Below w.heap.size w wr) (fun _ i _ _ => s.size - (intOf i).toNat)
 case atStart => exact ⟨0, by omega, rfl, rfl, Below.refl _ _⟩
 case round =>
  obtain ⟨k, hk, rfl, rfl, hbel⟩ := hrel
  by_cases hlt : k < s.size
  · obtain ⟨c, hc⟩ : ∃ c, s[k] = c := ⟨_, rfl⟩
    have hb := c.toNat_lt
    have HT := Lib.hid (show Nm.low (s.data.toList.take (k + 1)) = Nm.low (s.data.toList.take k) ++ [Nm.lowB c] by
     rw [List.take_succ_eq_append_getElem (by simpa using hlt), Nm.low_append]
     congr 1
     show [Nm.lowB _] = _
     rw [← hc]
     rfl)
    obtain ⟨acc, hacc⟩ : ∃ acc, acc = Nm.low (s.data.toList.take k) := ⟨_, rfl⟩
    have hal : acc.length ≤ 1000000 := by rw [hacc, Nm.low_length]; simp; omega
    rw [← hacc]
    rw [← hacc] at HT
    clear hacc
    have HBEL := Lib.hid hbel
    have hwsz := hbel.size
    clear hbel
    by_cases h65 : 65 ≤ c.toNat ∧ c.toNat ≤ 90
    · obtain ⟨ha, hz⟩ := h65
      have hone := fun W : World => KL W (Nm.lowB c) ((c.toNat : Int) + 32) (WH c ha hz).symm
      go_wp2_with fail
      refine ⟨⟨k + 1, by omega, by go_num, ?_, HBEL.out.alloc hwsz _⟩, by simp [intOf]; omega⟩
      rw [HT.out]
      exact congrArg Value.string (aeU acc [Nm.lowB c])
    · have hone := fun W : World => KL W (Nm.lowB c) (c.toNat : Int) (by rw [ZM c h65])
      go_wp2_with fail
      all_goals
       refine ⟨⟨k + 1, by omega, by go_num, ?_, HBEL.out.alloc hwsz _⟩, by simp [intOf]; omega⟩
       rw [HT.out]
       exact congrArg Value.string (aeU acc [Nm.lowB c])
  · obtain rfl : k = s.size := by omega
    have he : s.data.toList.take s.size = s.data.toList := List.take_of_length_le (by simp)
    rw [he]
    go_wp2_with fail
    go_ret
    exact ⟨rfl, hbel⟩
end
section
open Go.RowKit
def zU (ls : List Nm.Bytes) : Nm.Bytes := ls.flatMap fun l => UInt8.ofNat l.length :: l
theorem WO : ∀ ls, Nm.enc ls = zU ls ++ [0]
 | [] => rfl
 | l :: ls => by simp [Nm.enc, WO ls, zU]
theorem aas (ls : List Nm.Bytes) (l : Nm.Bytes) : zU (ls ++ [l]) = zU ls ++ (UInt8.ofNat l.length :: l) := by simp [zU]
theorem KM (ls : List Nm.Bytes) (h : ∀ l ∈ ls, l.length ≤ 63) : (zU ls).length ≤ 64 * ls.length := by
 induction ls with
 | nil => simp [zU]
 | cons l ls ih =>
   have h1 := h l (by simp)
   have h2 := ih (fun x hx => h x (by simp [hx]))
   simp [zU] at h2 ⊢
   omega
theorem ahV (a : Nm.Bytes) (c : UInt8) (b : Nm.Bytes) : (({ data := a.toArray } : ByteArray) ++ { data := #[c] } ++ { data := b.toArray }) = ⟨(a ++ (c :: b)).toArray⟩ := by
 apply ByteArray.ext
 apply Array.toList_inj.1
 simp [ByteArray.data_append]
theorem yF (v : Value) (ls : List Nm.Bytes) (w : World) (hr : SRow w v ls) (hok : ∀ l ∈ ls, l.length ≤ 63) (hlen : ls.length ≤ 1000) :
 Calls Tryz.prog 128 #[v] w fun e w' => e = .returned (.string ⟨(Nm.enc ls).toArray⟩) ∧ Below w.heap.size w w' := by
 obtain ⟨a, cap, rfl, hrow⟩ := hr
 have HROW := Lib.hid hrow
 have HOK := Lib.hid hok
 clear hrow hok
 go_enter Tryz.func128, Tryz.ntmps128
 go_wp2_with fail
 go_loopw [3, 4] (fun o i wr => ∃ k : Nat, k ≤ ls.length ∧ i = .int .i64 k ∧ o = .string ⟨(zU (ls.take k)).toArray⟩ ∧ Below w.heap.size w wr) (fun _ i _ => ls.length - (intOf i).toNat)
 case atStart => exact ⟨0, by omega, rfl, rfl, Below.refl _ _⟩
 case round =>
  obtain ⟨k, hk, rfl, rfl, hbel⟩ := hrel
  by_cases hlt : k < ls.length
  · obtain hz0 | ⟨b, off, ha, hlb, hcc⟩ := HROW.out
    · subst hz0; simp at hlt
    subst ha
    obtain ⟨l, hl⟩ : ∃ l, ls[k]? = some l := ⟨_, List.getElem?_eq_getElem hlt⟩
    have hll := HOK.out l (List.mem_of_getElem? hl)
    have d0 : wr.cell? ⟨b, off + k, none⟩ = some (.string ⟨l.toArray⟩) := (hbel.cell hlb).trans (hcc k l hl)
    have HT := Lib.hid (show zU (ls.take (k + 1)) = zU (ls.take k) ++ (UInt8.ofNat l.length :: l) by rw [List.take_add_one, hl]; exact aas _ _)
    have hal := KM (ls.take k) (fun x hx => HOK.out x (List.mem_of_mem_take hx))
    have htl : (ls.take k).length ≤ k := List.length_take_le _ _
    obtain ⟨acc, hacc⟩ : ∃ acc, acc = zU (ls.take k) := ⟨_, rfl⟩
    rw [← hacc] at hal
    have hal2 : acc.length ≤ 100000 := by omega
    rw [← hacc]
    rw [← hacc] at HT
    have hbw : b < wr.heap.size := World.block_lt_of_cell? wr _ d0
    have HBEL := Lib.hid hbel
    have hwsz := hbel.size
    clear hacc hcc hl hbel hal htl
    have e1 : (UInt8.ofNat l.length).toNat = l.length := by simp; omega
    have hone : (convert 149 9 (.slice (some ⟨wr.heap.size, 0, none⟩) 1 1)).run Tryz.prog (wr.alloc (.cells #[.int .u8 (l.length : Int)] 5)).drew = .ok (.string ⟨[UInt8.ofNat l.length].toArray⟩) (wr.alloc (.cells #[.int .u8 (l.length : Int)] 5)).drew :=
     QM _ 149 9 5 wr.heap.size 1 1 [UInt8.ofNat l.length] rfl unO unO unO (fun j hj => by
      show (wr.alloc (.cells #[.int .u8 (l.length : Int)] 5)).cell? _ = _
      rw [World.cell?_alloc_mark]
      match j, hj with
      | 0, _ =>
        show some (Value.int .u8 (l.length : Int)) = some (.int .u8 ((UInt8.ofNat l.length).toNat : Int))
        rw [e1])
    have hk0 : (0 : Int) ≤ (k : Int) := by omega
    have hk1 : (k : Int) < (ls.length : Int) := by omega
    have hw8 : IntKind.u8.wrap (l.length : Int) = (l.length : Int) := by simp [IntKind.wrap, IntKind.signed, IntKind.bits]; omega
    clear e1
    go_upto_region 5 with fail
    go_region
    all_goals (clear hone hw8; go_wp2_with fail)
    all_goals
     refine ⟨⟨k + 1, by omega, by go_num, ?_, HBEL.out.trans (((Below.refl _ _).alloc hwsz _).drew)⟩, by simp [intOf]; omega⟩
     rw [HT.out]
     exact congrArg Value.string (ahV acc (UInt8.ofNat l.length) l)
  · obtain rfl : k = ls.length := by omega
    rw [List.take_length]
    have hal := KM ls HOK.out
    have HE := Lib.hid (show (({ data := (zU ls).toArray } : ByteArray) ++ { data := #[0] }) = ⟨(Nm.enc ls).toArray⟩ by rw [WO]; exact aeU (zU ls) [0])
    obtain ⟨acc, hacc⟩ : ∃ acc, acc = zU ls := ⟨_, rfl⟩
    rw [← hacc]
    rw [← hacc] at hal HE
    clear hacc
    have hal2 : acc.length ≤ 100000 := by omega
    clear hal
    go_wp2_with fail
    go_ret
    exact ⟨VH HE.out, hbel⟩
end
section
open Go.RowKit
theorem abD {w w' : World} {base : Nat} {e : TypeId} {size : Nat} {v : Value} {n : Nat} {xs : List Value} (h : w.ownsRow base e size v n xs) (hb : Below w.heap.size w w') : w'.ownsRow base e size v n xs := by
 obtain ⟨h1, h2 | ⟨g, cap, cur, hv, h3, hg, h4⟩⟩ := h
 · exact ⟨h1, Or.inl h2⟩
 · exact ⟨h1, Or.inr ⟨g, cap, cur, hv, h3, (hb.block g (Array.getElem?_eq_some_iff.1 hg).1).trans hg, h4⟩⟩
theorem KN {n : Nm.Bytes} {ls : List Nm.Bytes} (h : Nm.nm n = some ls) : Nm.labels n = ls := by simp [Nm.labels, h]
theorem abE {n : Nm.Bytes} {ls : List Nm.Bytes} (h : Nm.nm n = some ls) : Nm.enc (Nm.lowL ls) = Nm.fold n := by
 unfold Nm.fold
 rw [Nm.may_some h, if_pos rfl]
 obtain ⟨h1, h2, _⟩ := Nm.nm_iff.1 h
 rw [h1, Nm.low_enc _ h2]
theorem Js {n : Nm.Bytes} {ls : List Nm.Bytes} (h : Nm.nm n = some ls) : ls.length ≤ 255 := by
 obtain ⟨h1, _, h3⟩ := Nm.nm_iff.1 h
 have := Nm.length_lt_enc ls
 rw [← h1] at this
 omega
theorem zg (s : ByteArray) (w : World) (hs : s.size ≤ 1000000) :
 Calls Tryz.prog 103 #[.string s] w fun e w' => e = .returned (.string ⟨(Nm.fold s.data.toList).toArray⟩) ∧ Below w.heap.size w w' := by
 obtain ⟨i0, hi, hz0, hz1, hz2⟩ := info_parts KK
 go_enter Tryz.func103, Tryz.ntmps103
 go_wp2_with fail
 refine (uc s _ hs).mono ?_
 rintro e w1 ⟨v, rfl, ho, hb⟩
 cases hm : Nm.may s.data.toList
 · go_wp2_with fail
   go_ret
   exact ⟨VH (by unfold Nm.fold; rw [hm]; rfl), hb⟩
 · obtain ⟨ls, hnm⟩ := Nm.nm_of_may hm
   rw [KN hnm] at ho
   have hcount := Js hnm
   have HOK := Lib.hid (Nm.nm_iff.1 hnm).2.1
   have HNM := Lib.hid hnm
   obtain ⟨a, cap, rfl, hrow⟩ := SRow.own ho
   have HROW := Lib.hid hrow
   have HB := Lib.hid hb
   have hw1 := hb.size
   clear hrow hb ho hm hnm
   go_wp2_with fail
   go_loopw [5, 6] (fun o i wr => ∃ k : Nat, k ≤ ls.length ∧ i = .int .i64 k ∧ wr.ownsRow w1.heap.size 9 1 o k ((Nm.lowL (ls.take k)).map zL) ∧ Below w1.heap.size w1 wr) (fun _ i _ => ls.length - (intOf i).toNat)
   case atStart => exact ⟨0, by omega, rfl, World.ownsRow_nil _ _ _ _, Below.refl _ _⟩
   case round =>
    obtain ⟨k, hk, rfl, hown, hbel⟩ := hrel
    have HOWN := Lib.hid hown
    by_cases hlt : k < ls.length
    · obtain hz0' | ⟨b, off, ha, hlb, hcc⟩ := HROW.out
      · subst hz0'; simp at hlt
      subst ha
      obtain ⟨l, hl⟩ : ∃ l, ls[k]? = some l := ⟨_, List.getElem?_eq_getElem hlt⟩
      have hll := HOK.out l (List.mem_of_getElem? hl)
      have d0 : wr.cell? ⟨b, off + k, none⟩ = some (.string ⟨l.toArray⟩) := (hbel.cell hlb).trans (hcc k l hl)
      have HT := Lib.hid (show (Nm.lowL (ls.take (k + 1))).map zL = (Nm.lowL (ls.take k)).map zL ++ [zL (Nm.low l)] by rw [List.take_add_one, hl]; simp [Nm.lowL])
      have hbw : b < wr.heap.size := World.block_lt_of_cell? wr _ d0
      have HBEL := Lib.hid hbel
      have hwsz := hbel.size
      have hk0 : (0 : Int) ≤ (k : Int) := by omega
      have hk1 : (k : Int) < (ls.length : Int) := by omega
      clear hcc hl hbel hown
      go_wp2_with fail
      refine (QO ⟨l.toArray⟩ _ (by rw [Jr]; omega)).mono ?_
      rintro e w2 ⟨rfl, hb2⟩
      have HB2 := Lib.hid hb2
      have hsz2 := hb2.size
      have HOWN2 := Lib.hid (abD HOWN.out hb2)
      clear hb2
      go_wp2_with (at_builtin; refine wpList_append_own _ rfl _ _ 120 rfl w1.heap.size 9 i0 (.string ByteArray.empty) 1 16 unO hi hz0 hz1 hz2 rfl (by decide) _ k _ rfl (HOWN2.out.alloc _) ⟨w2.heap.size, 0, none⟩ 1 1 [.string ⟨(Nm.low l).toArray⟩] rfl rfl (cell_one_new _ _ _) ?c2 ?c3 ?c4 ?c5 ?_)
      case c2 => simp [Value.oneCell']
      case c3 => unfold maxLen; omega
      case c4 => omega
      case c5 => simp; omega
      intro v' w3 hown' hgrow _
      have HB3 := Lib.hid (((HBEL.out.trans (HB2.out.mono hwsz)).alloc (Nat.le_trans hwsz hsz2) _).grown hgrow (by simp; omega) (fun q hq => (HOWN2.out.lt q hq).1))
      have hfin0 : w3.ownsRow w1.heap.size 9 1 v' (k + 1) ((Nm.lowL (ls.take (k + 1))).map zL) := by
       rw [HT.out]
       exact hown'
      have HFIN := Lib.hid hfin0
      clear hown' hgrow hfin0
      go_wp2_with fail
      exact ⟨⟨k + 1, by omega, by go_num, HFIN.out, HB3.out⟩, by simp [intOf]; omega⟩
    · obtain rfl : k = ls.length := by omega
      rw [List.take_length] at HOWN
      have hr : SRow wr _ (Nm.lowL ls) := SRow.own (e := 9) (base := w1.heap.size) (by have h := HOWN.out; rwa [show ls.length = (Nm.lowL ls).length by simp [Nm.lowL]] at h)
      have HR := Lib.hid hr
      have HBEL := Lib.hid hbel
      clear hr hown hbel
      go_wp2_with fail
      refine (yF _ (Nm.lowL ls) _ HR.out (fun l hl => (Nm.lowL_ok HOK.out l hl).2) (by simp [Nm.lowL]; omega)).mono ?_
      rintro e w2 ⟨rfl, hb2⟩
      go_wp2_with fail
      go_ret
      exact ⟨VH (by rw [abE HNM.out]), HB.out.trans ((HBEL.out.trans (hb2.mono HBEL.out.size)).mono hw1)⟩
end
section
open Go.RowKit
theorem UE (s : ByteArray) (w : World) (hs : s.size ≤ 1000000) :
 Calls Tryz.prog 143 #[.string s] w fun e w' => e = .returned (.tuple #[.string ⟨(Nm.parentN s.data.toList).toArray⟩, .bool (Nm.parentB s.data.toList)]) ∧ Below w.heap.size w w' := by
 go_enter Tryz.func143, Tryz.ntmps143
 go_wp2_with fail
 refine (uc s _ hs).mono ?_
 rintro e w1 ⟨v, rfl, ho, hb⟩
 cases hm : Nm.may s.data.toList
 · have hn := Nm.nm_of_not hm
   go_wp2_with fail
   go_ret2
   exact ⟨by unfold Nm.parentN Nm.parentB; rw [hn]; rfl, hb⟩
 · obtain ⟨ls, hnm⟩ := Nm.nm_of_may hm
   rw [KN hnm] at ho
   have hcount := Js hnm
   have HOK := Lib.hid (Nm.nm_iff.1 hnm).2.1
   have HNM := Lib.hid hnm
   have HB := Lib.hid hb
   clear hb hm hnm
   cases ls with
   | nil =>
     obtain ⟨a, cap, rfl, hrow⟩ := SRow.own ho
     clear ho hrow
     go_wp2_with fail
     go_ret2
     exact ⟨by unfold Nm.parentN Nm.parentB; rw [HNM.out]; rfl, HB.out⟩
   | cons l t =>
     obtain ⟨_, ⟨rfl, h0⟩ | ⟨g, cap, cur, rfl, _, hg, hcap, hmax, _, htk⟩⟩ := ho
     · simp at h0
     have hg1 : g < w1.heap.size := (Array.getElem?_eq_some_iff.1 hg).1
     have HC := Lib.hid (show ∀ i n, (l :: t)[i]? = some n → w1.cell? ⟨g, i, none⟩ = some (zL n) from fun i n hi => by
      have hil : i < (l :: t).length := (List.getElem?_eq_some_iff.1 hi).1
      unfold World.cell?
      rw [hg]
      have : (cur.toList.take ((l :: t).length * 1))[i]? = some (zL n) := by rw [htk, List.getElem?_map, hi]; rfl
      rw [List.getElem?_take_of_lt jd] at this
      simpa using this)
     clear htk hg
     have hcap' : t.length + 1 ≤ cap := hcap
     clear hcap
     go_wp2_with fail
     case inl hc1 =>
      obtain rfl : t = [] := List.eq_nil_of_length_eq_zero jd
      refine (yF _ [] _ ⟨_, _, rfl, Or.inl rfl⟩ (fun l hl => by cases hl) (by simp)).mono ?_
      rintro e w2 ⟨rfl, hb2⟩
      go_wp2_with fail
      go_ret2
      exact ⟨by unfold Nm.parentN Nm.parentB; rw [HNM.out]; rfl, HB.out.trans (hb2.mono HB.out.size)⟩
     case inr hc1 =>
      refine (yF _ t _ ⟨_, _, rfl, Or.inr ⟨g, 1, rfl, hg1, fun i n hi => ?_⟩⟩ (fun l hl => (HOK.out l (by simp [hl])).2) (by simp at hcount; omega)).mono ?_
      · rw [Nat.add_comm]
        exact HC.out (i + 1) n (by simpa using hi)
      rintro e w2 ⟨rfl, hb2⟩
      go_wp2_with fail
      go_ret2
      exact ⟨by unfold Nm.parentN Nm.parentB; rw [HNM.out]; rfl, HB.out.trans (hb2.mono HB.out.size)⟩
theorem aat {a b : Nm.Bytes} (ha : Nm.may a = true) (hb : Nm.may b = true) : Nm.same a b = (Nm.fold a == Nm.fold b) := by
 simp [Nm.same, Nm.fold, ha, hb]
theorem KO (s t : ByteArray) (w : World) (hs : s.size ≤ 1000000) (ht : t.size ≤ 1000000) :
 Calls Tryz.prog 129 #[.string s, .string t] w fun e w' => e = .returned (.bool (Nm.same s.data.toList t.data.toList)) ∧ Below w.heap.size w w' := by
 cases hm : Nm.may s.data.toList with
 | false =>
   have HV := Lib.hid (show Nm.same s.data.toList t.data.toList = false by simp [Nm.same, hm])
   have HM := Lib.hid hm
   clear hm
   go_enter Tryz.func129, Tryz.ntmps129
   go_wp2_with fail
   refine (kJ _ _ hs).mono ?_
   rintro e w1 ⟨rfl, hb⟩
   rw [HM.out]
   go_wp2_with fail
   go_ret
   rw [HV.out]
   exact ⟨rfl, hb⟩
 | true =>
   have HM := Lib.hid hm
   cases hm2 : Nm.may t.data.toList with
   | false =>
     have HV := Lib.hid (show Nm.same s.data.toList t.data.toList = false by simp [Nm.same, hm2])
     have HM2 := Lib.hid hm2
     clear hm hm2
     go_enter Tryz.func129, Tryz.ntmps129
     go_wp2_with fail
     refine (kJ _ _ hs).mono ?_
     rintro e w1 ⟨rfl, hb⟩
     rw [HM.out]
     go_wp2_with fail
     refine (kJ _ _ ht).mono ?_
     rintro e w2 ⟨rfl, hb2⟩
     rw [HM2.out]
     go_wp2_with fail
     go_ret
     rw [HV.out]
     exact ⟨rfl, hb.trans (hb2.mono hb.size)⟩
   | true =>
     have HV := Lib.hid (aat hm hm2)
     have HM2 := Lib.hid hm2
     clear hm hm2
     go_enter Tryz.func129, Tryz.ntmps129
     go_wp2_with fail
     refine (kJ _ _ hs).mono ?_
     rintro e w1 ⟨rfl, hb⟩
     rw [HM.out]
     go_wp2_with fail
     refine (kJ _ _ ht).mono ?_
     rintro e w2 ⟨rfl, hb2⟩
     rw [HM2.out]
     have HB2 := Lib.hid (hb.trans (hb2.mono hb.size))
     clear hb hb2
     go_wp2_with fail
     refine (zg _ _ hs).mono ?_
     rintro e w3 ⟨rfl, hb3⟩
     have HB3 := Lib.hid (HB2.out.trans (hb3.mono HB2.out.size))
     clear hb3
     go_wp2_with fail
     refine (zg _ _ ht).mono ?_
     rintro e w4 ⟨rfl, hb4⟩
     have HB4 := Lib.hid (HB3.out.trans (hb4.mono HB3.out.size))
     clear hb4
     go_wp2_with fail
     go_ret
     rw [HV.out]
     refine ⟨?_, HB4.out⟩
     rfl
def abF : Value → Nat
 | .string s => s.size
 | _ => 0
theorem JY {n z : Nm.Bytes} {a b : List Nm.Bytes} (ha : Nm.nm n = some a) (hb : Nm.nm z = some b) : Nm.same n z = true ↔ Nm.lowL b = Nm.lowL a := by
 obtain ⟨h1, h2, _⟩ := Nm.nm_iff.1 ha
 obtain ⟨k1, k2, _⟩ := Nm.nm_iff.1 hb
 simp only [Nm.same, Nm.may_some ha, Nm.may_some hb, Bool.true_and, beq_iff_eq]
 rw [h1, k1, Nm.low_enc _ h2, Nm.low_enc _ k2]
 exact ⟨fun h => (Nm.enc_inj (Nm.lowL_ok h2) (Nm.lowL_ok k2) h).symm, fun h => by rw [h]⟩
theorem WP {n z : Nm.Bytes} (h : Nm.same n z = true) : Nm.within n z = true := by
 have hn : Nm.may n = true := by simp [Nm.same] at h; exact h.1.1
 have hz : Nm.may z = true := by simp [Nm.same] at h; exact h.1.2
 obtain ⟨a, ha⟩ := Nm.nm_of_may hn
 obtain ⟨b, hb⟩ := Nm.nm_of_may hz
 have := (JY ha hb).1 h
 unfold Nm.within
 rw [ha, hb]
 simp [this]
theorem ZN {n : Nm.Bytes} {l : Nm.Bytes} {t : List Nm.Bytes} (h : Nm.nm n = some (l :: t)) : Nm.nm (Nm.enc t) = some t := by
 obtain ⟨h1, h2, h3⟩ := Nm.nm_iff.1 h
 refine Nm.nm_iff.2 ⟨rfl, (Nm.ok_cons.1 h2).2, ?_⟩
 rw [h1] at h3
 simp [Nm.enc] at h3
 omega
theorem aau {n z : Nm.Bytes} {l : Nm.Bytes} {t : List Nm.Bytes} (hn : Nm.nm n = some (l :: t)) (h : Nm.same n z = false) : Nm.within n z = Nm.within (Nm.enc t) z := by
 unfold Nm.within
 rw [hn, ZN hn]
 cases hz : Nm.nm z with
 | none => rfl
 | some b =>
   have hne : ¬ Nm.lowL b = Nm.lowL (l :: t) := fun k => by rw [(JY hn hz).2 k] at h; cases h
   show (Nm.lowL b).isSuffixOf (Nm.lowL (l :: t)) = (Nm.lowL b).isSuffixOf (Nm.lowL t)
   rw [Bool.eq_iff_iff, List.isSuffixOf_iff_suffix, List.isSuffixOf_iff_suffix]
   show Nm.lowL b <:+ Nm.low l :: Nm.lowL t ↔ _
   rw [List.suffix_cons_iff]
   exact ⟨fun k => k.resolve_left hne, Or.inr⟩
theorem WQ {n z : Nm.Bytes} (hn : Nm.nm n = some []) (h : Nm.same n z = false) : Nm.within n z = false := by
 unfold Nm.within
 rw [hn]
 cases hz : Nm.nm z with
 | none => rfl
 | some b =>
   have hne : ¬ Nm.lowL b = Nm.lowL [] := fun k => by rw [(JY hn hz).2 k] at h; cases h
   show (Nm.lowL b).isSuffixOf (Nm.lowL []) = false
   rw [Bool.eq_false_iff]
   intro k
   rw [List.isSuffixOf_iff_suffix] at k
   exact hne (by simpa [Nm.lowL] using k)
theorem UF (s t : ByteArray) (w : World) (hs : s.size ≤ 1000000) (ht : t.size ≤ 1000000) :
 Calls Tryz.prog 132 #[.string s, .string t] w fun e w' => e = .returned (.bool (Nm.within s.data.toList t.data.toList)) ∧ Below w.heap.size w w' := by
 cases hm : Nm.may s.data.toList with
 | false =>
   have HV := Lib.hid (show Nm.within s.data.toList t.data.toList = false by unfold Nm.within; rw [Nm.nm_of_not hm])
   have HM := Lib.hid hm
   clear hm
   go_enter Tryz.func132, Tryz.ntmps132
   go_wp2_with fail
   refine (kJ _ _ hs).mono ?_
   rintro e w1 ⟨rfl, hb⟩
   rw [HM.out]
   go_wp2_with fail
   go_ret
   rw [HV.out]
   exact ⟨rfl, hb⟩
 | true =>
   have HM := Lib.hid hm
   cases hm2 : Nm.may t.data.toList with
   | false =>
     have HV := Lib.hid (show Nm.within s.data.toList t.data.toList = false by unfold Nm.within; rw [Nm.nm_of_not hm2]; cases Nm.nm s.data.toList <;> rfl)
     have HM2 := Lib.hid hm2
     clear hm hm2
     go_enter Tryz.func132, Tryz.ntmps132
     go_wp2_with fail
     refine (kJ _ _ hs).mono ?_
     rintro e w1 ⟨rfl, hb⟩
     rw [HM.out]
     go_wp2_with fail
     refine (kJ _ _ ht).mono ?_
     rintro e w2 ⟨rfl, hb2⟩
     rw [HM2.out]
     go_wp2_with fail
     go_ret
     rw [HV.out]
     exact ⟨rfl, hb.trans (hb2.mono hb.size)⟩
   | true =>
     obtain ⟨a0, ha0⟩ := Nm.nm_of_may hm
     have HA0 := Lib.hid ha0
     have HM2 := Lib.hid hm2
     clear hm hm2 ha0
     go_enter Tryz.func132, Tryz.ntmps132
     go_wp2_with fail
     refine (kJ _ _ hs).mono ?_
     rintro e w1 ⟨rfl, hb⟩
     rw [HM.out]
     go_wp2_with fail
     refine (kJ _ _ ht).mono ?_
     rintro e w2 ⟨rfl, hb2⟩
     rw [HM2.out]
     have HB2 := Lib.hid (hb.trans (hb2.mono hb.size))
     clear hb hb2
     go_wp2_with fail
     go_loopw [0, 5, 6] (fun n _ _ wr => ∃ (x : Nm.Bytes) (a : List Nm.Bytes), n = .string ⟨x.toArray⟩ ∧ Nm.nm x = some a ∧ Nm.within s.data.toList t.data.toList = Nm.within x t.data.toList ∧ Below w.heap.size w wr) (fun n _ _ _ => abF n)
     case atStart => exact ⟨s.data.toList, a0, rfl, HA0.out, rfl, HB2.out⟩
     case round =>
      obtain ⟨x, a, rfl, hx, hw, hbel⟩ := hrel
      have hxl : x.length ≤ 1000000 := by have := (Nm.nm_iff.1 hx).2.2; omega
      have HX := Lib.hid hx
      have HW := Lib.hid hw
      have HBEL := Lib.hid hbel
      clear hx hw hbel
      go_wp2_with fail
      refine (KO ⟨x.toArray⟩ t _ (by rw [Jr]; omega) ht).mono ?_
      rintro e w3 ⟨rfl, hb3⟩
      have HB3 := Lib.hid (HBEL.out.trans (hb3.mono HBEL.out.size))
      clear hb3
      cases hsm : Nm.same x t.data.toList with
      | true =>
        have HV := Lib.hid (HW.out.trans (WP hsm))
        clear hsm
        go_wp2_with fail
        go_ret
        rw [HV.out]
        exact ⟨rfl, HB3.out⟩
      | false =>
        have HS := Lib.hid hsm
        clear hsm
        go_wp2_with fail
        refine (UE ⟨x.toArray⟩ _ (by rw [Jr]; omega)).mono ?_
        rintro e w4 ⟨rfl, hb4⟩
        have HB4 := Lib.hid (HB3.out.trans (hb4.mono HB3.out.size))
        clear hb4
        cases a with
        | nil =>
          have HV := Lib.hid (HW.out.trans (WQ HX.out HS.out))
          have HP := Lib.hid (show Nm.parentB x = false by unfold Nm.parentB; rw [HX.out])
          rw [HP.out]
          go_wp2_with fail
          go_ret
          rw [HV.out]
          exact ⟨rfl, HB4.out⟩
        | cons l tl =>
          have HV := Lib.hid (HW.out.trans (aau HX.out HS.out))
          have HP := Lib.hid (show Nm.parentB x = true by unfold Nm.parentB; rw [HX.out])
          have HQ := Lib.hid (show Nm.parentN x = Nm.enc tl by unfold Nm.parentN; rw [HX.out])
          rw [HP.out, HQ.out]
          have HL := Lib.hid (show (Nm.enc tl).length < x.length by rw [(Nm.nm_iff.1 HX.out).1]; simp [Nm.enc]; omega)
          go_wp2_with fail
          exact ⟨⟨_, tl, rfl, ZN HX.out, HV.out, HB4.out⟩, by simpa [abF, Jr] using HL.out⟩
end
section
open Go.RowKit
def YT (l : Nm.Bytes) : Value := .string (bs l)
def StrRow (L : ja) (v : Value) (ls : List Nm.Bytes) : Prop :=
 ∃ a cap, v = .slice a ls.length cap ∧ (ls = [] ∨ ∃ b off C te fr, a = some ⟨b, off, none⟩ ∧ (b, Obj.cells C te fr) ∈ L ∧ ∀ i l, ls[i]? = some l → C[off + i * 1]? = some (.string (bs l)))
theorem StrRow.mono {L L' : ja} {v : Value} {ls : List Nm.Bytes} (h : StrRow L v ls) (hs : ∀ p ∈ L, p ∈ L') : StrRow L' v ls := by
 obtain ⟨a, cap, h1, h2⟩ := h
 refine ⟨a, cap, h1, h2.imp id ?_⟩
 rintro ⟨b, off, C, te, fr, h3, h4, h5⟩
 exact ⟨b, off, C, te, fr, h3, hs _ h4, h5⟩
def akG (l : Nm.Bytes) : Bool := decide (1 ≤ l.length) && decide (l.length ≤ 63)
theorem Row.strRow {L B : ja} {v : Value} {ls : List Nm.Bytes} (h : Row 9 1 v ls.length (ls.map YT) B) (hB : ∀ p ∈ B, p ∈ L) : StrRow L v ls := by
 rcases h.is with ⟨h1, h2, _⟩ | ⟨b, cap, cur, h1, h2, h3, h4, h5, h6⟩
 · exact ⟨none, 0, by rw [h1, h2], Or.inl (List.eq_nil_of_length_eq_zero h2)⟩
 · refine ⟨_, cap, h1, Or.inr ⟨b, 0, cur, 9, (0, 0), rfl, hB _ (by rw [h2]; exact List.mem_cons_self ..), fun i l hi => ?_⟩⟩
   have hil := (List.getElem?_eq_some_iff.1 hi).1
   have : (cur.toList.take (ls.length * 1))[i]? = some (YT l) := by rw [h6, List.getElem?_map, hi]; rfl
   rw [List.getElem?_take_of_lt jd] at this
   simpa [YT] using this
theorem aeV {n : Nm.Bytes} {ls : List Nm.Bytes} (h : Nm.nm n = some ls) : ls.length ≤ 254 := by
 obtain ⟨h1, _, h3⟩ := Nm.nm_iff.1 h
 have := Nm.length_lt_enc ls
 rw [← h1] at this
 omega
section
variable {G : World} {L : ja} {P : Program}
end
variable {G : World} {L : ja}
theorem abG {l : Nm.Bytes} (h : l.length ≤ 1000000) : (bs l).size ≤ maxLen := by rw [Vq]; unfold maxLen; omega
theorem yG {l : Nm.Bytes} (h : l.length ≤ 1000000) : (bs l).size ≤ 1000000 := by rw [Vq]; exact h
theorem KP (l : Nm.Bytes) (h : l.length ≤ 1000000) : Spec Tryz.prog G 37 #[.string (bs l)] L fun u M => u = .bool (Nm.may l) ∧ M = L := Spec.ofSame fun w => VI (bs l) w (abG h)
theorem YU (l : Nm.Bytes) (h : l.length ≤ 1000000) : Spec Tryz.prog G 97 #[.string (bs l)] L fun u M => u = .string (bs (Nm.fold l)) ∧ M = L := Spec.ofBelow fun w => abB (bs l) w (abG h)
theorem QP (a b : Nm.Bytes) (ha : a.length ≤ 1000000) (hb : b.length ≤ 1000000) : Spec Tryz.prog G 129 #[.string (bs a), .string (bs b)] L fun u M => u = .bool (Nm.same a b) ∧ M = L := Spec.ofBelow fun w => KO (bs a) (bs b) w (yG ha) (yG hb)
theorem WR (a b : Nm.Bytes) (ha : a.length ≤ 1000000) (hb : b.length ≤ 1000000) : Spec Tryz.prog G 132 #[.string (bs a), .string (bs b)] L fun u M => u = .bool (Nm.within a b) ∧ M = L := Spec.ofBelow fun w => UF (bs a) (bs b) w (yG ha) (yG hb)
theorem qQ (l : Nm.Bytes) (h : l.length ≤ 1000000) : Spec Tryz.prog G 103 #[.string (bs l)] L fun u M => u = .string (bs (Nm.fold l)) ∧ M = L := Spec.ofBelow fun w => zg (bs l) w (yG h)
theorem yb (l : Nm.Bytes) (h : l.length ≤ 1000000) : Spec Tryz.prog G 127 #[.string (bs l)] L fun u M => u = .string (bs (Nm.low l)) ∧ M = L := Spec.ofBelow fun w => QO (bs l) w (yG h)
theorem kG (l : Nm.Bytes) (h : l.length ≤ 1000000) : Spec Tryz.prog G 76 #[.string (bs l)] L fun u M => u = .bool (Nm.may l) ∧ M = L := Spec.ofBelow fun w => kJ (bs l) w (yG h)
end
section
open Go.RowKit
open Vd (RSet Vdt Vote Rec Quest)
variable {G : World} {L : ja}
theorem qH {a : Option Addr} {m c : Nat} {l : List Vd.Bytes} (h : sliceR 1 qB L [.slice a m c] l) : m = l.length ∧ m ≤ c ∧ c ≤ maxLen ∧ (l = [] ∨ ∃ b off C te fr, a = some ⟨b, off, none⟩ ∧ (b, Obj.cells C te fr) ∈ L ∧ ∀ i x, l[i]? = some x → C[off + i * 1]? = some (.string (bs x))) := by
 obtain ⟨h1, h2, h3, h4⟩ := sliceR.cut h
 refine ⟨h1, h2, h3, h4.imp id ?_⟩
 rintro ⟨b, off, C, te, fr, q1, q2, q3⟩
 refine ⟨b, off, C, te, fr, q1, q2, fun i x hx => ?_⟩
 obtain ⟨cs', k1, ⟨k2, _⟩, k3⟩ := q3 i x hx
 subst k2
 exact k3 0 _ rfl
theorem Jt {α : Type} {l m : List α} {k : Nat} {x : α} (h : l.take k = m.take k) (h1 : l[k]? = some x) (h2 : m[k]? = some x) : l.take (k + 1) = m.take (k + 1) := by
 rw [List.take_add_one, List.take_add_one, h, h1, h2]
theorem adv (va vb : Value) (la lb : List Vd.Bytes) (ha : sliceR 1 qB L [va] la) (hb : sliceR 1 qB L [vb] lb) : Spec Tryz.prog G 125 #[va, vb] L fun u M => u = .bool (decide (la = lb)) ∧ M = L := by
 obtain ⟨aa, ca, e1, ha⟩ := ha.val
 obtain ⟨ab, cb, e2, hb⟩ := hb.val
 simp only [List.cons.injEq, and_true] at e1 e2
 subst e1 e2
 obtain ⟨_, ka1, ka2, ha⟩ := qH ha
 obtain ⟨_, kb1, kb2, hb⟩ := qH hb
 unfold maxLen at ka2 kb2
 refine jm (n := 26) Tryz.func125 rfl rfl rfl ?_
 by_cases hlen : la.length = lb.length
 · have d0 : (((la.length : Nat) : Int) != ((lb.length : Nat) : Int)) = false := by simp [hlen]
   refine goC ?_
   refine jy (σ := Nat) (fun k => k ≤ la.length ∧ la.take k = lb.take k) (fun k => [(0, .slice aa la.length ca), (1, .slice ab lb.length cb), (12, .int .i64 (la.length : Nat)), (13, .int .i64 (k : Nat))]) (fun k => L) (fun k => la.length - k) 0 ⟨Nat.zero_le _, by simp⟩ ?_ (fun w h => h) ?_
   exact jr
   rintro k ⟨hk, heq⟩
   by_cases hlt : k < la.length
   · have d1 : decide (((k : Nat) : Int) < ((la.length : Nat) : Int)) = true := decide_eq_true jd
     obtain ⟨x, hx⟩ : ∃ x, la[k]? = some x := ⟨_, List.getElem?_eq_getElem hlt⟩
     obtain ⟨y, hy⟩ : ∃ y, lb[k]? = some y := ⟨_, List.getElem?_eq_getElem (hlen ▸ hlt)⟩
     rcases ha with rfl | ⟨b1, o1, C1, t1, f1, rfl, m1, q1⟩
     · simp at hlt
     rcases hb with rfl | ⟨b2, o2, C2, t2, f2, rfl, m2, q2⟩
     · simp at hy
     have r1 := q1 k x hx
     have r2 := q2 k y hy
     have hK : ∀ z ∈ [(b1, Obj.cells C1 t1 f1), (b2, Obj.cells C2 t2 f2)], z ∈ L := fun z hz => by
      simp only [List.mem_cons, List.not_mem_nil, or_false] at hz
      rcases hz with rfl | rfl <;> assumption
     by_cases hxy : x = y
     · have d2 : (!(x == y)) = false := by simp [hxy]
       refine goC ?_
       refine jq jb ([(b1, Obj.cells C1 t1 f1), (b2, Obj.cells C2 t2 f2)]) [] ?_
       refine tkQ 0 ?_
       refine tkQ 1 ?_
       refine tkQ 2 ?_
       refine tkQ 3 ?_
       refine tkQ 4 ?_
       refine tkQ 5 ?_
       refine tkQ 6 ?_
       refine tkQ 7 ?_
       refine tkQ 8 ?_
       refine tdQ ?_
       refine goC ?_
       refine jh (k + 1) ⟨hlt, ?_⟩ ?_ (fun w h => h) jd
       · subst hxy
         exact Jt heq hx hy
       exact jr
     · have d2 : (!(x == y)) = true := by simp [hxy]
       refine goC ?_
       refine jq jb ([(b1, Obj.cells C1 t1 f1), (b2, Obj.cells C2 t2 f2)]) [] ?_
       refine tkQ 0 ?_
       refine tkQ 1 ?_
       refine tkQ 2 ?_
       refine tkQ 3 ?_
       refine tkQ 4 ?_
       refine tkQ 5 ?_
       refine tkQ 6 ?_
       refine tkQ 7 ?_
       refine tkQ 8 ?_
       refine tdQ ?_
       refine goC ?_
       refine ji 4 _ rfl rfl ?_
       refine ⟨?_, rfl⟩
       have : la ≠ lb := fun e => hxy (by rw [e, hy] at hx; exact (Option.some.inj hx).symm)
       simp [this]
   · have d1 : decide (((k : Nat) : Int) < ((la.length : Nat) : Int)) = false := decide_eq_false jd
     have hkn : k = la.length := by omega
     subst hkn
     rw [List.take_length, hlen, List.take_length] at heq
     refine goC ?_
     refine ji 4 _ rfl rfl ?_
     exact ⟨by simp [heq], rfl⟩
 · have d0 : (((la.length : Nat) : Int) != ((lb.length : Nat) : Int)) = true := by simp; omega
   refine goC ?_
   refine ji 4 _ rfl rfl ?_
   refine ⟨?_, rfl⟩
   have : la ≠ lb := fun e => hlen (by rw [e])
   simp [this]
theorem qY {a b : RSet} (h : ¬ (a.name = b.name ∧ a.kind = b.kind ∧ a.cls = b.cls ∧ a.ttl = b.ttl ∧ a.data = b.data)) : decide (a = b) = false := by
 rw [decide_eq_false_iff_not]
 rintro rfl
 exact h ⟨rfl, rfl, rfl, rfl, rfl⟩
theorem ZO {a b : RSet} (h1 : a.name = b.name) (h2 : a.kind = b.kind) (h3 : a.cls = b.cls) (h4 : a.ttl = b.ttl) (h5 : a.data = b.data) : a = b := by
 cases a; cases b; simp_all
theorem US (ca cb : List Value) (a b : RSet) (ha : rsR L ca a) (hb : rsR L cb b) : Spec Tryz.prog G 112 #[.agg ca.toArray, .agg cb.toArray] L fun u M => u = .bool (decide (a = b)) ∧ M = L := by
 obtain ⟨da, rfl, ha, _⟩ := ha
 obtain ⟨db, rfl, hb, _⟩ := hb
 obtain ⟨aa, ka, e1, ha⟩ := ha.val
 obtain ⟨ab, kb, e2, hb⟩ := hb.val
 simp only [List.cons.injEq, and_true] at e1 e2
 subst e1 e2
 obtain ⟨_, ka1, ka2, ha⟩ := qH ha
 obtain ⟨_, kb1, kb2, hb⟩ := qH hb
 unfold maxLen at ka2 kb2
 refine jm (n := 59) Tryz.func112 rfl rfl rfl ?_
 by_cases n1 : a.name = b.name
 · have d1 : (!(a.name == b.name)) = false := by simp [n1]
   by_cases n2 : a.kind = b.kind
   · have d2 : (a.kind != b.kind) = false := by simp [n2]
     by_cases n3 : a.cls = b.cls
     · have d3 : (a.cls != b.cls) = false := by simp [n3]
       by_cases n4 : a.ttl = b.ttl
       · have d4 : (a.ttl != b.ttl) = false := by simp [n4]
         by_cases hlen : a.data.length = b.data.length
         · have d5 : (((a.data.length : Nat) : Int) != ((b.data.length : Nat) : Int)) = false := by simp [hlen]
           repeat (first | refine goC ?_ | (refine kl ?_; intro bBox))
           rename_i bx
           obtain ⟨CA, hCA⟩ : ∃ C : Array Value, C = #[.string (bs a.name), .int .u16 a.kind, .int .u16 a.cls, .int .u32 a.ttl, .slice aa a.data.length ka] := ⟨_, rfl⟩
           obtain ⟨CB, hCB⟩ : ∃ C : Array Value, C = #[.string (bs b.name), .int .u16 b.kind, .int .u16 b.cls, .int .u32 b.ttl, .slice ab b.data.length kb] := ⟨_, rfl⟩
           have fA : CA[0 + 4]? = some (.slice aa a.data.length ka) := by rw [hCA]; rfl
           have fB : CB[0 + 4]? = some (.slice ab b.data.length kb) := by rw [hCB]; rfl
           refine jy (σ := Nat) (fun k => k ≤ a.data.length ∧ a.data.take k = b.data.take k) (fun k => [(2, .pointer (some ⟨bx, 0, none⟩)), (3, .pointer (some ⟨bBox, 0, none⟩)), (5, .int .i64 (k : Nat))]) (fun k => (bBox, Obj.cells CB 122 (0, 0)) :: (bx, Obj.cells CA 122 (0, 0)) :: L) (fun k => a.data.length - k) 0 ⟨Nat.zero_le _, by simp⟩ ?_ (fun w h => by rw [hCA, hCB]; exact h) ?_
           exact jr
           clear hCA hCB
           rintro k ⟨hk, heq⟩
           by_cases hlt : k < a.data.length
           · have e1 : decide (((k : Nat) : Int) < ((a.data.length : Nat) : Int)) = true := decide_eq_true jd
             obtain ⟨x, hx⟩ : ∃ x, a.data[k]? = some x := ⟨_, List.getElem?_eq_getElem hlt⟩
             obtain ⟨y, hy⟩ : ∃ y, b.data[k]? = some y := ⟨_, List.getElem?_eq_getElem (hlen ▸ hlt)⟩
             rcases ha with ha | ⟨b1, o1, C1, t1, f1, rfl, m1, q1⟩
             · rw [ha] at hlt; simp at hlt
             rcases hb with hb | ⟨b2, o2, C2, t2, f2, rfl, m2, q2⟩
             · rw [hb] at hy; simp at hy
             have r1 := q1 k x hx
             have r2 := q2 k y hy
             have hK : ∀ z ∈ [(bx, Obj.cells CA 122 (0, 0)), (bBox, Obj.cells CB 122 (0, 0)), (b1, Obj.cells C1 t1 f1), (b2, Obj.cells C2 t2 f2)], z ∈ (bBox, Obj.cells CB 122 (0, 0)) :: (bx, Obj.cells CA 122 (0, 0)) :: L := fun z hz => by
              simp only [List.mem_cons, List.not_mem_nil, or_false] at hz
              rcases hz with rfl | rfl | rfl | rfl
              · exact List.mem_cons_of_mem _ (List.mem_cons_self ..)
              · exact List.mem_cons_self ..
              · exact List.mem_cons_of_mem _ (List.mem_cons_of_mem _ m1)
              · exact List.mem_cons_of_mem _ (List.mem_cons_of_mem _ m2)
             by_cases hxy : x = y
             · have d6 : (!(x == y)) = false := by simp [hxy]
               refine goC ?_
               refine jq jb ([(bx, Obj.cells CA 122 (0, 0)), (bBox, Obj.cells CB 122 (0, 0)), (b1, Obj.cells C1 t1 f1), (b2, Obj.cells C2 t2 f2)]) [] ?_
               refine tkQ 0 ?_
               refine tkQ 1 ?_
               refine tkQ 2 ?_
               refine tkQ 3 ?_
               refine tkQ 4 ?_
               refine tkQ 5 ?_
               refine tkQ 6 ?_
               refine tkQ 7 ?_
               refine tkQ 8 ?_
               refine tkQ 9 ?_
               refine tkQ 10 ?_
               refine tdQ ?_
               refine goC ?_
               refine jh (k + 1) ⟨hlt, ?_⟩ ?_ (fun w h => h) jd
               · subst hxy
                 exact Jt heq hx hy
               exact jr
             · have d6 : (!(x == y)) = true := by simp [hxy]
               refine goC ?_
               refine jq jb ([(bx, Obj.cells CA 122 (0, 0)), (bBox, Obj.cells CB 122 (0, 0)), (b1, Obj.cells C1 t1 f1), (b2, Obj.cells C2 t2 f2)]) [] ?_
               refine tkQ 0 ?_
               refine tkQ 1 ?_
               refine tkQ 2 ?_
               refine tkQ 3 ?_
               refine tkQ 4 ?_
               refine tkQ 5 ?_
               refine tkQ 6 ?_
               refine tkQ 7 ?_
               refine tkQ 8 ?_
               refine tkQ 9 ?_
               refine tkQ 10 ?_
               refine tdQ ?_
               refine goC ?_
               refine ju (fun w h => h.tail.tail) ?_
               refine ji 4 _ rfl rfl ?_
               exact ⟨by rw [qY (fun h => hxy (by rw [h.2.2.2.2, hy] at hx; exact (Option.some.inj hx).symm))], rfl⟩
           · have e1 : decide (((k : Nat) : Int) < ((a.data.length : Nat) : Int)) = false := decide_eq_false jd
             have hkn : k = a.data.length := by omega
             subst hkn
             rw [List.take_length, hlen, List.take_length] at heq
             refine goC ?_
             refine ju (fun w h => h.tail.tail) ?_
             refine ji 4 _ rfl rfl ?_
             exact ⟨by simp [ZO n1 n2 n3 n4 heq], rfl⟩
         · have d5 : (((a.data.length : Nat) : Int) != ((b.data.length : Nat) : Int)) = true := by simp; omega
           repeat (first | refine goC ?_ | (refine kl ?_; intro bBox))
           refine ju (fun w h => h.tail.tail) ?_
           refine ji 4 _ rfl rfl ?_
           exact ⟨by rw [qY (fun h => hlen (by rw [h.2.2.2.2]))], rfl⟩
       · have d4 : (a.ttl != b.ttl) = true := by simp [n4]
         repeat (first | refine goC ?_ | (refine kl ?_; intro bBox))
         refine ju (fun w h => h.tail.tail) ?_
         refine ji 4 _ rfl rfl ?_
         exact ⟨by rw [qY (fun h => n4 h.2.2.2.1)], rfl⟩
     · have d3 : (a.cls != b.cls) = true := by simp [n3]
       repeat (first | refine goC ?_ | (refine kl ?_; intro bBox))
       refine ju (fun w h => h.tail.tail) ?_
       refine ji 4 _ rfl rfl ?_
       exact ⟨by rw [qY (fun h => n3 h.2.2.1)], rfl⟩
   · have d2 : (a.kind != b.kind) = true := by simp [n2]
     repeat (first | refine goC ?_ | (refine kl ?_; intro bBox))
     refine ju (fun w h => h.tail.tail) ?_
     refine ji 4 _ rfl rfl ?_
     exact ⟨by rw [qY (fun h => n2 h.2.1)], rfl⟩
 · have d1 : (!(a.name == b.name)) = true := by simp [n1]
   repeat (first | refine goC ?_ | (refine kl ?_; intro bBox))
   refine ju (fun w h => h.tail.tail) ?_
   refine ji 4 _ rfl rfl ?_
   exact ⟨by rw [qY (fun h => n1 h.1)], rfl⟩
theorem yd {a : Option Addr} {m c : Nat} {l : List RSet} (h : sliceR 5 rsR L [.slice a m c] l) : m = l.length ∧ m ≤ c ∧ c ≤ maxLen ∧ (l = [] ∨ ∃ b off C te fr, a = some ⟨b, off, none⟩ ∧ (b, Obj.cells C te fr) ∈ L ∧
 ∀ i x, l[i]? = some x → ∃ cs', cs'.length = 5 ∧ rsR L cs' x ∧ ∀ j v, cs'[j]? = some v → C[off + i * 5 + j]? = some v) := sliceR.cut h
theorem zA (va vb : Value) (la lb : List RSet) (ha : sliceR 5 rsR L [va] la) (hb : sliceR 5 rsR L [vb] lb) : Spec Tryz.prog G 81 #[va, vb] L fun u M => u = .bool (decide (la = lb)) ∧ M = L := by
 obtain ⟨aa, ca, e1, ha⟩ := ha.val
 obtain ⟨ab, cb, e2, hb⟩ := hb.val
 simp only [List.cons.injEq, and_true] at e1 e2
 subst e1 e2
 obtain ⟨_, ka1, ka2, ha⟩ := yd ha
 obtain ⟨_, kb1, kb2, hb⟩ := yd hb
 unfold maxLen at ka2 kb2
 refine jm (n := 27) Tryz.func81 rfl rfl rfl ?_
 by_cases hlen : la.length = lb.length
 · have d0 : (((la.length : Nat) : Int) != ((lb.length : Nat) : Int)) = false := by simp [hlen]
   refine goC ?_
   refine jy (σ := Nat) (fun k => k ≤ la.length ∧ la.take k = lb.take k) (fun k => [(0, .slice aa la.length ca), (1, .slice ab lb.length cb), (5, .int .i64 (k : Nat))]) (fun k => L) (fun k => la.length - k) 0 ⟨Nat.zero_le _, by simp⟩ ?_ (fun w h => h) ?_
   exact jr
   rintro k ⟨hk, heq⟩
   by_cases hlt : k < la.length
   · have d1 : decide (((k : Nat) : Int) < ((la.length : Nat) : Int)) = true := decide_eq_true jd
     obtain ⟨x, hx⟩ : ∃ x, la[k]? = some x := ⟨_, List.getElem?_eq_getElem hlt⟩
     obtain ⟨y, hy⟩ : ∃ y, lb[k]? = some y := ⟨_, List.getElem?_eq_getElem (hlen ▸ hlt)⟩
     rcases ha with rfl | ⟨b1, o1, C1, t1, f1, rfl, m1, q1⟩
     · simp at hlt
     rcases hb with rfl | ⟨b2, o2, C2, t2, f2, rfl, m2, q2⟩
     · simp at hy
     obtain ⟨ca', ha1, ha2, hca⟩ := q1 k x hx
     obtain ⟨cb', hb1, hb2, hcb⟩ := q2 k y hy
     have hK : ∀ z ∈ [(b1, Obj.cells C1 t1 f1), (b2, Obj.cells C2 t2 f2)], z ∈ L := fun z hz => by
      simp only [List.mem_cons, List.not_mem_nil, or_false] at hz
      rcases hz with rfl | rfl <;> assumption
     by_cases hxy : x = y
     · have d2 : (!decide (x = y)) = false := by simp [hxy]
       refine goC ?_
       refine jq jb ([(b1, Obj.cells C1 t1 f1), (b2, Obj.cells C2 t2 f2)]) [] ?_
       refine tkQ 0 ?_
       refine tkQ 1 ?_
       refine tkQ 2 ?_
       (refine' jp 3 rfl rfl je (jL (jA ca' rfl (by rw [ha1]; exact stL) (List.mem_cons_self ..) hca)) ?_ ?_; (· assumption))
       refine tkQ 4 ?_
       refine tkQ 5 ?_
       refine tkQ 6 ?_
       (refine' jp 7 rfl rfl je (jL (jA cb' rfl (by rw [hb1]; exact stL) (List.mem_cons_of_mem _ (List.mem_cons_self ..)) hcb)) ?_ ?_; (· assumption))
       refine jF 8 je rfl rfl rfl rfl (jc je rfl (US ca' cb' x y ha2 hb2)) ?_; rintro _ _ ⟨rfl, rfl⟩; refine ⟨Or.inr hK, ?_⟩
       refine tkQ 9 ?_
       refine tdQ ?_
       refine goC ?_
       refine jh (k + 1) ⟨hlt, ?_⟩ ?_ (fun w h => h) jd
       · subst hxy
         exact Jt heq hx hy
       exact jr
     · have d2 : (!decide (x = y)) = true := by simp [hxy]
       refine goC ?_
       refine jq jb ([(b1, Obj.cells C1 t1 f1), (b2, Obj.cells C2 t2 f2)]) [] ?_
       refine tkQ 0 ?_
       refine tkQ 1 ?_
       refine tkQ 2 ?_
       (refine' jp 3 rfl rfl je (jL (jA ca' rfl (by rw [ha1]; exact stL) (List.mem_cons_self ..) hca)) ?_ ?_; (· assumption))
       refine tkQ 4 ?_
       refine tkQ 5 ?_
       refine tkQ 6 ?_
       (refine' jp 7 rfl rfl je (jL (jA cb' rfl (by rw [hb1]; exact stL) (List.mem_cons_of_mem _ (List.mem_cons_self ..)) hcb)) ?_ ?_; (· assumption))
       refine jF 8 je rfl rfl rfl rfl (jc je rfl (US ca' cb' x y ha2 hb2)) ?_; rintro _ _ ⟨rfl, rfl⟩; refine ⟨Or.inr hK, ?_⟩
       refine tkQ 9 ?_
       refine tdQ ?_
       refine goC ?_
       refine ji 4 _ rfl rfl ?_
       refine ⟨?_, rfl⟩
       have : la ≠ lb := fun e => hxy (by rw [e, hy] at hx; exact (Option.some.inj hx).symm)
       simp [this]
   · have d1 : decide (((k : Nat) : Int) < ((la.length : Nat) : Int)) = false := decide_eq_false jd
     have hkn : k = la.length := by omega
     subst hkn
     rw [List.take_length, hlen, List.take_length] at heq
     refine goC ?_
     refine ji 4 _ rfl rfl ?_
     exact ⟨by simp [heq], rfl⟩
 · have d0 : (((la.length : Nat) : Int) != ((lb.length : Nat) : Int)) = true := by simp; omega
   refine goC ?_
   refine ji 4 _ rfl rfl ?_
   refine ⟨?_, rfl⟩
   have : la ≠ lb := fun e => hlen (by rw [e])
   simp [this]
theorem abH {a b : Vdt} : a = b ↔ a.code = b.code ∧ a.sets = b.sets ∧ a.soa = b.soa := by
 cases a; cases b; simp
theorem uw (ca cb : List Value) (a b : Vdt) (ha : vdR L ca a) (hb : vdR L cb b) : Spec Tryz.prog G 155 #[.agg ca.toArray, .agg cb.toArray] L fun u M => u = .bool (decide (a = b)) ∧ M = L := by
 obtain ⟨a1, a2, rfl, ha1, ha2, _⟩ := ha
 obtain ⟨b1, b2, rfl, hb1, hb2, _⟩ := hb
 refine jm (n := 24) Tryz.func155 rfl rfl rfl ?_
 cases n1 : a.code == b.code with
 | false =>
   repeat (first | refine goC ?_ | (refine kl ?_; intro bBox))
   refine ju (fun w h => h.tail.tail) ?_
   refine ji 4 _ rfl rfl ?_
   refine ⟨?_, rfl⟩
   have : ¬ a = b := fun e => by rw [e] at n1; simp at n1
   simp [this]
 | true =>
   repeat (first | refine goC ?_ | (refine kl ?_; intro bBox))
   refine kf (jc je rfl (zA _ _ a.sets b.sets (jx jC _ _ _ _ (fun q hq => List.mem_cons_of_mem _ (List.mem_cons_of_mem _ hq)) ha1) (jx jC _ _ _ _ (fun q hq => List.mem_cons_of_mem _ (List.mem_cons_of_mem _ hq)) hb1))) rfl ?_
   cases n2 : decide (a.sets = b.sets) with
   | false =>
     refine goC ?_
     refine ju (fun w h => h.tail.tail) ?_
     refine ji 4 _ rfl rfl ?_
     refine ⟨?_, rfl⟩
     have : ¬ a = b := fun e => by rw [e] at n2; simp at n2
     simp [this]
   | true =>
     refine goC ?_
     refine kf (jc je rfl (zA _ _ a.soa b.soa (jx jC _ _ _ _ (fun q hq => List.mem_cons_of_mem _ (List.mem_cons_of_mem _ hq)) ha2) (jx jC _ _ _ _ (fun q hq => List.mem_cons_of_mem _ (List.mem_cons_of_mem _ hq)) hb2))) rfl ?_
     refine goC ?_
     refine ju (fun w h => h.tail.tail) ?_
     refine ji 4 _ rfl rfl ?_
     refine ⟨?_, rfl⟩
     simp only [decide_eq_true_eq] at n2
     rw [beq_iff_eq] at n1
     congr 1
     simp [abH, n1, n2]
end
section
open Go.RowKit
open Vd (RSet Vdt Vote Rec Quest)
section
variable {G : World} {P : Program} {n : Nat} {ρ : jG} {L : ja} {ty : TypeId}
theorem abI {f : FuncId} {x : Operand} {xs : List Operand} {ats : Array TypeId} {vs cap : List Value} {Φ : Value → ja → Prop} (hb : qt P f = true) (hx : ev ρ x = some (.func (.func f) #[] cap.toArray)) (ha : kY ρ xs = some vs) (h : Spec P G f (vs ++ cap).toArray L Φ) :
 OpT P G ρ L (.call ⟨.value x, xs.toArray, ats⟩) ty Φ :=
 ⟨fun r hr w hw o ho _ => by
   have hm := yv hr xs vs ha
   have hrf := hr _ _ hx
   have : execOp r o = callFunc f (vs ++ cap).toArray := by
    simp only [execOp, ho, resolve, hrf, Deferred.ofValue]
    show invoke (.fn (.func f) cap.toArray) _ = _
    simp only [invoke, List.map_toArray, hm]
    simp
   rw [this, yu hb]
   refine (h.out w hw).mono fun e w' ⟨v, L', h1, h2, h3⟩ => ⟨v, h1, L', h2, h3⟩⟩
end
variable {G : World} {L : ja}
theorem WS {p q r : Nat × Obj} (h : r ∈ L) : r ∈ p :: q :: L := List.mem_cons_of_mem _ (List.mem_cons_of_mem _ h)
theorem rsR.val {cs : List Value} {s : RSet} (h : rsR L cs s) : ∃ a c, cs = [.string (bs s.name), .int .u16 s.kind, .int .u16 s.cls, .int .u32 s.ttl, .slice a s.data.length c] ∧ sliceR 1 qB L [.slice a s.data.length c] s.data := by
 obtain ⟨d, rfl, hd, _⟩ := h
 obtain ⟨a, c, e, hd⟩ := hd.val
 simp only [List.cons.injEq, and_true] at e
 subst e
 exact ⟨a, c, rfl, hd⟩
theorem adw (ca cb : List Value) (a b : RSet) (ha : rsR L ca a) (hb : rsR L cb b) : Spec Tryz.prog G 100 #[.agg ca.toArray, .agg cb.toArray] L fun u M => u = .bool (decide (a = b)) ∧ M = L := by
 obtain ⟨aa, ka, rfl, sa⟩ := ha.val
 obtain ⟨ab, kb, rfl, sb⟩ := hb.val
 refine jm (n := 38) Tryz.func100 rfl rfl rfl ?_
 cases n1 : a.name == b.name with
 | false =>
   repeat (first | refine goC ?_ | (refine kl ?_; intro bBox))
   refine ju (fun w h => h.tail.tail) ?_
   refine ji 4 _ rfl rfl ?_
   exact ⟨by rw [qY (fun h => by rw [h.1] at n1; simp at n1)], rfl⟩
 | true =>
   cases n2 : a.kind == b.kind with
   | false =>
     repeat (first | refine goC ?_ | (refine kl ?_; intro bBox))
     refine ju (fun w h => h.tail.tail) ?_
     refine ji 4 _ rfl rfl ?_
     exact ⟨by rw [qY (fun h => by rw [h.2.1] at n2; simp at n2)], rfl⟩
   | true =>
     cases n3 : a.cls == b.cls with
     | false =>
       repeat (first | refine goC ?_ | (refine kl ?_; intro bBox))
       refine ju (fun w h => h.tail.tail) ?_
       refine ji 4 _ rfl rfl ?_
       exact ⟨by rw [qY (fun h => by rw [h.2.2.1] at n3; simp at n3)], rfl⟩
     | true =>
       cases n4 : a.ttl == b.ttl with
       | false =>
         repeat (first | refine goC ?_ | (refine kl ?_; intro bBox))
         refine ju (fun w h => h.tail.tail) ?_
         refine ji 4 _ rfl rfl ?_
         exact ⟨by rw [qY (fun h => by rw [h.2.2.2.1] at n4; simp at n4)], rfl⟩
       | true =>
         repeat (first | refine goC ?_ | (refine kl ?_; intro bBox))
         refine kf (jc je rfl (adv _ _ a.data b.data (jx kK _ _ _ _ (fun q hq => WS hq) sa) (jx kK _ _ _ _ (fun q hq => WS hq) sb))) rfl ?_
         refine goC ?_
         refine ju (fun w h => h.tail.tail) ?_
         refine ji 4 _ rfl rfl ?_
         refine ⟨?_, rfl⟩
         rw [beq_iff_eq] at n1 n2 n3 n4
         congr 1
         by_cases hd : a.data = b.data
         · simp [ZO n1 n2 n3 n4 hd]
         · rw [qY (fun h => hd h.2.2.2.2)]
           simp [hd]
theorem KQ (va vb : Value) (la lb : List RSet) (ha : sliceR 5 rsR L [va] la) (hb : sliceR 5 rsR L [vb] lb) : Spec Tryz.prog G 99 #[va, vb, .func (.func 100) #[] #[]] L fun u M => u = .bool (decide (la = lb)) ∧ M = L := by
 obtain ⟨aa, ca, e1, ha⟩ := ha.val
 obtain ⟨ab, cb, e2, hb⟩ := hb.val
 simp only [List.cons.injEq, and_true] at e1 e2
 subst e1 e2
 obtain ⟨_, ka1, ka2, ha⟩ := yd ha
 obtain ⟨_, kb1, kb2, hb⟩ := yd hb
 unfold maxLen at ka2 kb2
 refine jm (n := 32) Tryz.func99 rfl rfl rfl ?_
 by_cases hlen : la.length = lb.length
 · have d0 : (((la.length : Nat) : Int) != ((lb.length : Nat) : Int)) = false := by simp [hlen]
   refine goC ?_
   refine jy (σ := Nat) (fun k => k ≤ la.length ∧ la.take k = lb.take k) (fun k => [(1, .slice ab lb.length cb), (2, .func (.func 100) #[] #[]), (15, .slice aa la.length ca), (16, .int .i64 (la.length : Nat)), (17, .int .i64 (k : Nat))]) (fun k => L) (fun k => la.length - k) 0 ⟨Nat.zero_le _, by simp⟩ ?_ (fun w h => h) ?_
   exact jr
   rintro k ⟨hk, heq⟩
   by_cases hlt : k < la.length
   · have d1 : decide (((k : Nat) : Int) < ((la.length : Nat) : Int)) = true := decide_eq_true jd
     obtain ⟨x, hx⟩ : ∃ x, la[k]? = some x := ⟨_, List.getElem?_eq_getElem hlt⟩
     obtain ⟨y, hy⟩ : ∃ y, lb[k]? = some y := ⟨_, List.getElem?_eq_getElem (hlen ▸ hlt)⟩
     rcases ha with rfl | ⟨b1, o1, C1, t1, f1, rfl, m1, q1⟩
     · simp at hlt
     rcases hb with rfl | ⟨b2, o2, C2, t2, f2, rfl, m2, q2⟩
     · simp at hy
     obtain ⟨ca', ha1, ha2, hca⟩ := q1 k x hx
     obtain ⟨cb', hb1, hb2, hcb⟩ := q2 k y hy
     obtain ⟨xa, xc, rfl, _⟩ := ha2.val
     obtain ⟨ya, yc, rfl, _⟩ := hb2.val
     refine goC ?_
     refine jB (jA [.string (bs x.name), .int .u16 x.kind, .int .u16 x.cls, .int .u32 x.ttl, .slice xa x.data.length xc] rfl stL m1 hca) rfl ?_
     repeat (first | refine goC ?_ | (refine jO ?_; intro bNew))
     refine jB (jA [.string (bs y.name), .int .u16 y.kind, .int .u16 y.cls, .int .u32 y.ttl, .slice ya y.data.length yc] rfl stL (List.mem_cons_of_mem _ m2) hcb) rfl ?_
     repeat (first | refine goC ?_ | (refine jO ?_; intro bNew))
     refine jU (abI (cap := []) je rfl rfl (adw _ _ x y (jC _ _ _ _ (fun q hq => WS hq) ha2) (jC _ _ _ _ (fun q hq => WS hq) hb2))) rfl ?_
     by_cases hxy : x = y
     · have d2 : (!decide (x = y)) = false := by simp [hxy]
       refine goC ?_
       refine jh (k + 1) ⟨hlt, ?_⟩ ?_ (fun w h => h.tail.tail) jd
       · subst hxy
         exact Jt heq hx hy
       exact jr
     · have d2 : (!decide (x = y)) = true := by simp [hxy]
       refine goC ?_
       refine ju (fun w h => h.tail.tail) ?_
       refine ji 6 _ rfl rfl ?_
       refine ⟨?_, rfl⟩
       have : la ≠ lb := fun e => hxy (by rw [e, hy] at hx; exact (Option.some.inj hx).symm)
       simp [this]
   · have d1 : decide (((k : Nat) : Int) < ((la.length : Nat) : Int)) = false := decide_eq_false jd
     have hkn : k = la.length := by omega
     subst hkn
     rw [List.take_length, hlen, List.take_length] at heq
     refine goC ?_
     refine ji 6 _ rfl rfl ?_
     exact ⟨by simp [heq], rfl⟩
 · have d0 : (((la.length : Nat) : Int) != ((lb.length : Nat) : Int)) = true := by simp; omega
   refine goC ?_
   refine ji 6 _ rfl rfl ?_
   refine ⟨?_, rfl⟩
   have : la ≠ lb := fun e => hlen (by rw [e])
   simp [this]
theorem VJ (ca cb : List Value) (a b : Vdt) (ha : vdR L ca a) (hb : vdR L cb b) : Spec Tryz.prog G 74 #[.agg ca.toArray, .agg cb.toArray] L fun u M => u = .bool (decide (a = b)) ∧ M = L := by
 obtain ⟨a1, a2, rfl, ha1, ha2, _⟩ := ha
 obtain ⟨b1, b2, rfl, hb1, hb2, _⟩ := hb
 refine jm (n := 24) Tryz.func74 rfl rfl rfl ?_
 cases n1 : a.code == b.code with
 | false =>
   repeat (first | refine goC ?_ | (refine kl ?_; intro bBox))
   refine ju (fun w h => h.tail.tail) ?_
   refine ji 4 _ rfl rfl ?_
   refine ⟨?_, rfl⟩
   have : ¬ a = b := fun e => by rw [e] at n1; simp at n1
   simp [this]
 | true =>
   repeat (first | refine goC ?_ | (refine kl ?_; intro bBox))
   refine kf (jc je rfl (KQ _ _ a.sets b.sets (jx jC _ _ _ _ (fun q hq => WS hq) ha1) (jx jC _ _ _ _ (fun q hq => WS hq) hb1))) rfl ?_
   cases n2 : decide (a.sets = b.sets) with
   | false =>
     refine goC ?_
     refine ju (fun w h => h.tail.tail) ?_
     refine ji 4 _ rfl rfl ?_
     refine ⟨?_, rfl⟩
     have : ¬ a = b := fun e => by rw [e] at n2; simp at n2
     simp [this]
   | true =>
     refine goC ?_
     refine kf (jc je rfl (KQ _ _ a.soa b.soa (jx jC _ _ _ _ (fun q hq => WS hq) ha2) (jx jC _ _ _ _ (fun q hq => WS hq) hb2))) rfl ?_
     refine goC ?_
     refine ju (fun w h => h.tail.tail) ?_
     refine ji 4 _ rfl rfl ?_
     refine ⟨?_, rfl⟩
     simp only [decide_eq_true_eq] at n2
     rw [beq_iff_eq] at n1
     congr 1
     simp [abH, n1, n2]
end
section
open Go.RowKit
open Vd (RSet Vdt Vote Rec Quest Piece)
def yH : Rp Piece := fun _ cs p => cs = [.string (bs p.s), .bool p.nam] ∧ p.s.length ≤ maxLen
theorem QQ : uZ yH := fun _ _ _ _ _ h => h
section
variable {α : Type} {r : Rp α} {sz : Nat} {L : ja}
theorem ORow.lit1 {e : TypeId} {b : Nat} {cs : List Value} {y : α} (hn : cs.length = sz) (hy : r L cs y) (hone : ∀ v ∈ cs, v.oneCell' = true) : ORow r e sz L (some ⟨b, 0, none⟩) 1 [y] [(b, .cells cs.toArray e (0, 0))] :=
 ⟨cs, ⟨by simp [hn], Or.inr ⟨b, 1, cs.toArray, rfl, rfl, Nat.le_refl _, by unfold maxLen; omega, by simp [hn], by simp; exact List.take_of_length_le jd⟩⟩, Laid.one hn hy, hone⟩
end
theorem zB {s : Vd.Bytes} {b : Bool} : ∀ v ∈ ([.string (bs s), .bool b] : List Value), v.oneCell' = true := by
 intro v hv
 simp only [List.mem_cons, List.not_mem_nil, or_false] at hv
 rcases hv with rfl | rfl <;> rfl
variable {G : World} {L : ja}
def aav (k : Int) : Value := match Vd.layout k with
 | some (a, m, b) => .tuple #[.int .i64 (a : Nat), .int .i64 (m : Nat), .int .i64 (b : Nat), .bool true]
 | none => .tuple #[.int .i64 0, .int .i64 0, .int .i64 0, .bool false]
theorem abJ (k : Int) : Spec Tryz.prog G 160 #[.int .u16 k] L fun u M => u = aav k ∧ M = L := by
 refine jm (n := 21) Tryz.func160 rfl rfl rfl ?_
 repeat' (first | refine goA ?_ | refine Jm rfl (fun hc => ?_) (fun hc => ?_) | refine qV 2 3 4 5 _ _ _ _ rfl rfl rfl rfl rfl ?_)
 all_goals (refine ⟨?_, rfl⟩; simp [aav, Vd.layout, *])
theorem QR : ∀ (f g : Nat) (l : Vd.Bytes), l.length < f → l.length < g → Vd.txtOk f l = Vd.txtOk g l
 | 0, _, _, h, _ => absurd h (Nat.not_lt_zero _)
 | _ + 1, 0, _, _, h => absurd h (Nat.not_lt_zero _)
 | f + 1, g + 1, [], _, _ => rfl
 | f + 1, g + 1, c :: t, h1, h2 => by
   simp only [Vd.txtOk]
   split
   · exact QR f g _ (by simp at h1 ⊢; omega) (by simp at h2 ⊢; omega)
   · rfl
theorem YV {s : Vd.Bytes} {k : Nat} (h : k < s.length) : ∃ c, s[k]? = some c ∧ s.drop k = c :: s.drop (k + 1) := ⟨s[k], List.getElem?_eq_getElem h, List.drop_eq_getElem_cons h⟩
def aeA (L : ja) (x : List Piece × Int) (u : Value) (M : ja) : Prop := ∃ a c B, u = .tuple #[.slice a x.1.length c, .int .i64 x.2] ∧ ORow yH 233 2 L a c x.1 B ∧ M = B ++ L
theorem adx (s : Vd.Bytes) (hs : s.length ≤ 1000000) : Spec Tryz.prog G 159 #[.string (bs s)] L (aeA L (if s = [] then ([], 4) else if Vd.txtOk (s.length + 1) s then ([⟨s, false⟩], 0) else ([], 4))) := by
 refine jm (n := 31) Tryz.func159 rfl rfl rfl ?_
 repeat' (first | refine goA ?_ | refine adr rfl (fun hc => ?_) (fun hc => ?_) | refine jM 2 3 _ _ rfl rfl rfl ?_)
 · rw [if_pos hc]
   exact ⟨none, 0, [], rfl, ORow.nil _, rfl⟩
 · rw [if_neg hc]
   have hne := hc
   clear hc
   refine jy (σ := Nat) (fun k => k ≤ s.length ∧ Vd.txtOk (s.length + 1 - k) (s.drop k) = Vd.txtOk (s.length + 1) s) (fun k => [(0, .string (bs s)), (4, .int .i64 (k : Nat))]) (fun k => L) (fun k => s.length - k) 0 ⟨Nat.zero_le _, rfl⟩ ?_ (fun w h => h) ?_
   exact jr
   rintro k ⟨hk, heq⟩
   by_cases hlt : k < s.length
   · obtain ⟨c, hc, hd⟩ := YV hlt
     have hc' : s[((k : Nat) : Int).toNat]? = some c := hc
     have hcl : c.toNat ≤ 255 := by have := c.toNat_lt; omega
     rw [hd, show s.length + 1 - k = (s.length - k) + 1 by omega] at heq
     simp only [Vd.txtOk] at heq
     have hdl : (s.drop (k + 1)).length = s.length - (k + 1) := List.length_drop ..
     by_cases hbig : s.length < k + 1 + c.toNat
     · rw [if_neg jd] at heq
       repeat' (first | refine goA ?_ | refine jM 2 3 _ _ rfl rfl rfl ?_)
       rw [← heq]
       exact ⟨none, 0, [], rfl, ORow.nil _, rfl⟩
     · rw [if_pos jd] at heq
       refine goA ?_
       refine jh (k + 1 + c.toNat) ⟨by omega, ?_⟩ ?_ (fun w h => h) jd
       · rw [← heq, List.drop_drop]
         exact QR _ _ _ (by rw [List.length_drop]; omega) (by rw [List.length_drop]; omega)
       exact jr
   · have hkn : k = s.length := by omega
     subst hkn
     rw [List.drop_length] at heq
     rw [if_pos (heq.symm.trans (by rw [show s.length + 1 - s.length = 1 by omega]; rfl))]
     repeat' (first | refine goA ?_ | refine jB (jl rfl (ze _)) rfl ?_ | (refine jS ?_; intro bLit) | refine jM 2 3 _ _ rfl rfl rfl ?_)
     exact ⟨_, _, _, rfl, ORow.lit1 rfl ⟨rfl, by show s.length ≤ maxLen; unfold maxLen; omega⟩ zB, rfl⟩
theorem WT {l : List Piece} {k : Nat} {x : Piece} (h : l[k]? = some x) : Vd.joined (l.take (k + 1)) = Vd.joined (l.take k) ++ x.s := by
 rw [List.take_add_one, h]; simp [Vd.joined]
theorem aaw {l : List Piece} {k : Nat} : (Vd.joined (l.take k)).length ≤ (Vd.joined l).length := by
 conv => rhs; rw [← List.take_append_drop k l]
 unfold Vd.joined
 rw [List.flatMap_append, List.length_append]
 omega
theorem QS {a : Option Addr} {m c : Nat} {l : List Piece} (h : sliceR 2 yH L [.slice a m c] l) : m = l.length ∧ m ≤ c ∧ c ≤ maxLen ∧ (l = [] ∨ ∃ b off C te fr, a = some ⟨b, off, none⟩ ∧ (b, Obj.cells C te fr) ∈ L ∧ ∀ i x, l[i]? = some x → C[off + i * 2 + 0]? = some (.string (bs x.s)) ∧ C[off + i * 2 + 1]? = some (.bool x.nam)) := by
 obtain ⟨h1, h2, h3, h4⟩ := sliceR.cut h
 refine ⟨h1, h2, h3, h4.imp id ?_⟩
 rintro ⟨b, off, C, te, fr, q1, q2, q3⟩
 refine ⟨b, off, C, te, fr, q1, q2, fun i x hx => ?_⟩
 obtain ⟨cs', k1, ⟨k2, _⟩, k3⟩ := q3 i x hx
 subst k2
 exact ⟨k3 0 _ rfl, k3 1 _ rfl⟩
theorem abK (v : Value) (l : List Piece) (hl : sliceR 2 yH L [v] l) (hs : (Vd.joined l).length ≤ 1000000000) : Spec Tryz.prog G 142 #[v] L fun u M => u = .string (bs (Vd.joined l)) ∧ M = L := by
 obtain ⟨a, c, e1, hl⟩ := hl.val
 simp only [List.cons.injEq, and_true] at e1
 subst e1
 obtain ⟨_, k1, k2, hl⟩ := QS hl
 unfold maxLen at k2
 refine jm (n := 19) Tryz.func142 rfl rfl rfl ?_
 refine goA ?_
 refine jy (σ := Nat) (fun k => k ≤ l.length) (fun k => [(0, .slice a l.length c), (3, .string (bs (Vd.joined (l.take k)))), (4, .int .i64 (k : Nat))]) (fun k => L) (fun k => l.length - k) 0 (Nat.zero_le _) ?_ (fun w h => h) ?_
 exact jr
 intro k hk
 by_cases hlt : k < l.length
 · obtain ⟨x, hx⟩ : ∃ x, l[k]? = some x := ⟨_, List.getElem?_eq_getElem hlt⟩
   rcases hl with rfl | ⟨b1, o1, C1, t1, f1, rfl, m1, q1⟩
   · simp at hlt
   obtain ⟨r1, r2⟩ := q1 k x hx
   have hj := WT hx
   have hj2 := aaw (l := l) (k := k + 1)
   have hj3 := congrArg List.length hj
   rw [List.length_append] at hj3
   refine goA ?_
   refine jh (k + 1) hlt ?_ (fun w h => h) jd
   rw [hj]
   exact jr
 · have hkn : k = l.length := by omega
   subst hkn
   repeat' (first | refine goA ?_ | refine ji 2 _ rfl rfl ?_)
   exact ⟨by rw [List.take_length], rfl⟩
end
section
open Go.RowKit
open Vd (RSet Vdt Vote Rec Quest Piece)
variable {G : World} {L : ja}
def rdV (x : Vd.Bytes × Int × Int) : Value := .tuple #[.string (bs x.1), .int .i64 x.2.1, .int .i64 x.2.2]
theorem UT {msg : Vd.Bytes} {p k : Nat} (h : p + k ≤ msg.length) : (msg.take (p + k)).drop p = (msg.drop p).take k := by
 rw [List.drop_take]; congr 1; omega
theorem aeW (msg : Vd.Bytes) (at0 : Int) (hs : msg.length ≤ 1000000) : Spec Tryz.prog G 161 #[.string (bs msg), .int .i64 at0] L fun u M => u = rdV (Vd.readName msg at0) ∧ M = L := by
 refine jm (n := 92) Tryz.func161 rfl rfl rfl ?_
 by_cases hneg : at0 < 0
 · have hR : Vd.readName msg at0 = ([], 0, 1) := if_pos (Or.inl hneg)
   repeat' (first | refine goA ?_ | refine qc 4 5 6 _ _ _ rfl rfl rfl rfl ?_)
   exact ⟨by rw [hR]; rfl, rfl⟩
 by_cases hbig : (msg.length : Int) < at0
 · have hR : Vd.readName msg at0 = ([], 0, 1) := if_pos (Or.inr hbig)
   repeat' (first | refine goA ?_ | refine qc 4 5 6 _ _ _ rfl rfl rfl rfl ?_)
   exact ⟨by rw [hR]; rfl, rfl⟩
 obtain ⟨R, hR1⟩ := Vd.rdName_some msg (Vd.rdFuel at0.toNat []) at0.toNat at0.toNat (-1) [] (Nat.le_refl _)
 have hR : Vd.readName msg at0 = R := by
  unfold Vd.readName
  rw [if_neg jd, hR1]
  rfl
 obtain ⟨k0, rfl⟩ : ∃ k : Nat, at0 = (k : Int) := ⟨at0.toNat, by omega⟩
 rw [hR]
 clear hR
 refine goA ?_
 refine jy (σ := Nat × Nat × Nat × Int × Vd.Bytes) (fun x => x.2.1 ≤ msg.length ∧ x.2.2.1 ≤ msg.length ∧ (-1 ≤ x.2.2.2.1 ∧ x.2.2.2.1 ≤ msg.length + 2) ∧ x.2.2.2.2.length ≤ 254 ∧ Vd.rdName msg x.1 x.2.1 x.2.2.1 x.2.2.2.1 x.2.2.2.2 = some R)
  (fun x => [(0, .string (bs msg)), (1, .int .i64 (x.2.1 : Nat)), (7, .string (bs x.2.2.2.2)), (8, .int .i64 x.2.2.2.1), (9, .int .i64 (x.2.2.1 : Nat))]) (fun _ => L) (fun x => x.1) (Vd.rdFuel k0 [], k0, k0, -1, []) ⟨by dsimp only; omega, by dsimp only; omega, by dsimp only; omega, by simp, hR1⟩ ?_ (fun w h => h) ?_
 exact jr
 rintro ⟨f, pos, ahead, next, n⟩ ⟨h1, h2, ⟨h3, h3'⟩, h4, h5⟩
 dsimp only at h1 h2 h3 h3' h4 h5 ⊢
 cases f with
 | zero => cases h5
 | succ f =>
 simp only [Vd.rdName] at h5
 by_cases hlt : pos < msg.length
 · obtain ⟨b, hb, hd⟩ := YV hlt
   have hb' : msg[((pos : Nat) : Int).toNat]? = some b := hb
   have hbl : b.toNat ≤ 255 := by have := b.toNat_lt; omega
   rw [hb] at h5
   dsimp only at h5
   by_cases c1 : b.toNat = 0
   · rw [if_pos c1] at h5
     by_cases c2 : next < 0
     · rw [if_pos c2] at h5
       cases h5
       repeat' (first | refine goA ?_ | refine qc 4 5 6 _ _ _ rfl rfl rfl rfl ?_)
       exact ⟨rfl, rfl⟩
     · rw [if_neg c2] at h5
       cases h5
       repeat' (first | refine goA ?_ | refine qc 4 5 6 _ _ _ rfl rfl rfl rfl ?_)
       exact ⟨rfl, rfl⟩
   rw [if_neg c1] at h5
   by_cases c2 : 192 ≤ b.toNat
   · rw [if_pos c2] at h5
     by_cases hlt2 : pos + 1 < msg.length
     · obtain ⟨c, hc, _⟩ := YV hlt2
       have hc' : msg[(((pos : Nat) : Int) + 1).toNat]? = some c := hc
       have hcl : c.toNat ≤ 255 := by have := c.toNat_lt; omega
       rw [hc] at h5
       dsimp only at h5
       by_cases c3 : ahead ≤ (b.toNat - 192) * 256 + c.toNat
       · rw [if_pos c3] at h5
         cases h5
         by_cases c4 : next < 0
         · repeat' (first | refine goA ?_ | refine qc 4 5 6 _ _ _ rfl rfl rfl rfl ?_)
           exact ⟨rfl, rfl⟩
         · repeat' (first | refine goA ?_ | refine qc 4 5 6 _ _ _ rfl rfl rfl rfl ?_)
           exact ⟨rfl, rfl⟩
       · rw [if_neg c3] at h5
         have e1 : (((b.toNat - 192) * 256 + c.toNat : Nat) : Int) = ((b.toNat : Nat) - 192 : Int) * 256 + (c.toNat : Nat) := by omega
         by_cases c4 : next < 0
         · rw [if_pos c4] at h5
           refine goA ?_
           refine jh (f, (b.toNat - 192) * 256 + c.toNat, (b.toNat - 192) * 256 + c.toNat, (pos : Int) + 2, n) ⟨by dsimp only; omega, by dsimp only; omega, by dsimp only; omega, h4, h5⟩ ?_ (fun w h => h) (by dsimp only; omega)
           dsimp only
           rw [e1]
           exact jr
         · rw [if_neg c4] at h5
           refine goA ?_
           refine jh (f, (b.toNat - 192) * 256 + c.toNat, (b.toNat - 192) * 256 + c.toNat, next, n) ⟨by dsimp only; omega, by dsimp only; omega, by dsimp only; omega, h4, h5⟩ ?_ (fun w h => h) (by dsimp only; omega)
           dsimp only
           rw [e1]
           exact jr
     · rw [List.getElem?_eq_none jd] at h5
       cases h5
       repeat' (first | refine goA ?_ | refine qc 4 5 6 _ _ _ rfl rfl rfl rfl ?_)
       exact ⟨rfl, rfl⟩
   rw [if_neg c2] at h5
   by_cases c3 : 64 ≤ b.toNat
   · rw [if_pos c3] at h5
     cases h5
     repeat' (first | refine goA ?_ | refine qc 4 5 6 _ _ _ rfl rfl rfl rfl ?_)
     exact ⟨rfl, rfl⟩
   rw [if_neg c3] at h5
   by_cases c4 : msg.length < pos + 1 + b.toNat
   · rw [if_pos c4] at h5
     cases h5
     repeat' (first | refine goA ?_ | refine qc 4 5 6 _ _ _ rfl rfl rfl rfl ?_)
     exact ⟨rfl, rfl⟩
   rw [if_neg c4] at h5
   have e2 : (msg.take (((pos : Nat) : Int) + 1 + (b.toNat : Nat)).toNat).drop ((pos : Nat) : Int).toNat = (msg.drop pos).take (1 + b.toNat) := by
    rw [show (((pos : Nat) : Int) + 1 + (b.toNat : Nat)).toNat = pos + (1 + b.toNat) by omega]
    exact UT jd
   have hn : (n ++ (msg.drop pos).take (1 + b.toNat)).length = n.length + (1 + b.toNat) := by rw [List.length_append, List.length_take, List.length_drop]; omega
   have hn2 : ((msg.take (((pos : Nat) : Int) + 1 + (b.toNat : Nat)).toNat).drop ((pos : Nat) : Int).toNat).length = 1 + b.toNat := by rw [e2, List.length_take, List.length_drop]; omega
   have hn3 : (n ++ (msg.take (((pos : Nat) : Int) + 1 + (b.toNat : Nat)).toNat).drop ((pos : Nat) : Int).toNat).length = n.length + (1 + b.toNat) := by rw [e2, hn]
   by_cases c5 : 255 < (n ++ (msg.drop pos).take (1 + b.toNat)).length + 1
   · rw [if_pos c5] at h5
     cases h5
     repeat' (first | refine goA ?_ | refine qc 4 5 6 _ _ _ rfl rfl rfl rfl ?_)
     exact ⟨rfl, rfl⟩
   · rw [if_neg c5] at h5
     refine goA ?_
     refine jh (f, pos + 1 + b.toNat, ahead, next, n ++ (msg.drop pos).take (1 + b.toNat)) ⟨by dsimp only; omega, by dsimp only; omega, ⟨by dsimp only; omega, by dsimp only; omega⟩, by dsimp only; omega, h5⟩ ?_ (fun w h => h) (by dsimp only; omega)
     dsimp only
     rw [← e2]
     exact jr
 · rw [List.getElem?_eq_none jd] at h5
   cases h5
   repeat' (first | refine goA ?_ | refine qc 4 5 6 _ _ _ rfl rfl rfl rfl ?_)
   exact ⟨rfl, rfl⟩
end
section
open Go.RowKit
open Vd (RSet Vdt Vote Rec Quest Piece)
variable {G : World} {L : ja}
theorem ady (msg : Vd.Bytes) (p : Nat) (n : Vd.Bytes) (next e : Int) (hs : msg.length ≤ 1000000) (h : Vd.readName msg p = (n, next, e)) : Spec Tryz.prog G 161 #[.string (bs msg), .int .i64 (p : Nat)] L fun u M => u = .tuple #[.string (bs n), .int .i64 next, .int .i64 e] ∧ M = L := by
 have := aeW (G := G) (L := L) msg p hs
 rw [h] at this
 exact this
theorem WU {P : Program} {ρ : jG} {ty : TypeId} {s x : Operand} {t e te : TypeId} {bytes bl : Nat} {z : Value} {a : Option Addr} {c : Nat} {y : Piece} {l : List Piece} {B : ja} (E : ElemTy P t e 2 bytes z) (hs : ev ρ s = some (.slice a l.length c)) (hx : ev ρ x = some (.slice (some ⟨bl, 0, none⟩) 1 1))
 (hrow : ORow yH e 2 L a c l B) (hy : y.s.length ≤ 1000000) (h63 : l.length ≤ 1000000) (hb : bytes ≤ 1000) :
 OpT P G ρ ((bl, .cells #[.string (bs y.s), .bool y.nam] te (0, 0)) :: (B ++ L)) (.call ⟨.builtin .append, #[s, x], #[t, t]⟩) ty fun v' L' => ∃ a' c' B', v' = .slice a' (l ++ [y]).length c' ∧ ORow yH e 2 L a' c' (l ++ [y]) B' ∧ L' = B' ++ L :=
 uv (cs := [.string (bs y.s), .bool y.nam]) E hs hx hrow rfl zB ⟨rfl, by unfold maxLen; omega⟩ (by unfold maxLen; omega) (Nat.le_trans (Nat.mul_le_mul (show l.length + 1 ≤ 1000001 by omega) hb) (by decide))
theorem aax (msg : Vd.Bytes) : ∀ (f pos ahead : Nat) (next : Int) (n : Vd.Bytes) (R : Vd.Bytes × Int × Int), pos ≤ msg.length → ahead ≤ msg.length → next ≤ msg.length → (next < 0 ∨ 1 ≤ next) → n.length ≤ 254 → Vd.rdName msg f pos ahead next n = some R → R.1.length ≤ 255 ∧ 0 ≤ R.2.1 ∧ R.2.1 ≤ msg.length ∧ (0 ≤ R.2.2 ∧ R.2.2 ≤ 10) := by
 intro f
 induction f with
 | zero => intro pos ahead next n R _ _ _ _ _ h; simp [Vd.rdName] at h
 | succ f ih =>
   intro pos ahead next n R h1 h2 h3 h3' h4 h
   simp only [Vd.rdName] at h
   cases hm : msg[pos]? with
   | none => rw [hm] at h; cases h; simp
   | some b =>
     have hlt := (List.getElem?_eq_some_iff.1 hm).1
     rw [hm] at h
     dsimp only at h
     split at h
     · cases h
       refine ⟨by simp; omega, ?_, ?_, by simp⟩ <;> dsimp only <;> split <;> omega
     split at h
     · cases hm2 : msg[pos + 1]? with
       | none => rw [hm2] at h; cases h; simp
       | some c =>
         have hlt2 := (List.getElem?_eq_some_iff.1 hm2).1
         rw [hm2] at h
         dsimp only at h
         split at h
         · cases h; simp
         · refine ih _ _ _ _ _ jd jd ?_ ?_ h4 h <;> split <;> omega
     split at h
     · cases h; simp
     split at h
     · cases h; simp
     split at h
     · cases h; simp
     · exact ih _ _ _ _ _ jd h2 h3 h3' jd h
theorem KR (msg : Vd.Bytes) (pos : Nat) (h : pos ≤ msg.length) : (Vd.readName msg pos).1.length ≤ 255 ∧ 0 ≤ (Vd.readName msg pos).2.1 ∧ (Vd.readName msg pos).2.1 ≤ msg.length ∧ (0 ≤ (Vd.readName msg pos).2.2 ∧ (Vd.readName msg pos).2.2 ≤ 10) := by
 obtain ⟨R, hR⟩ := Vd.rdName_some msg (Vd.rdFuel pos []) pos pos (-1) [] (Nat.le_refl _)
 have e : Vd.readName msg pos = R := by
  unfold Vd.readName
  rw [if_neg jd]
  simp only [Int.toNat_natCast]
  rw [hR]
  rfl
 rw [e]
 exact aax msg _ _ _ _ _ R h h jd jd (by simp) hR
theorem UU {s : Vd.Bytes} {b : Bool} {L : ja} (h : s.length ≤ 1000000) : yH L [.string (bs s), .bool b] ⟨s, b⟩ := ⟨rfl, by show s.length ≤ maxLen; unfold maxLen; omega⟩
theorem abL (msg : Vd.Bytes) (p : Nat) (k : Int) (hs : msg.length ≤ 1000000) (hp : p ≤ msg.length) : Spec Tryz.prog G 141 #[.string (bs msg), .int .i64 (p : Nat), .int .u16 k] L (aeA L (Vd.pieces msg p k)) := by
 refine jm (n := 98) Tryz.func141 rfl rfl rfl ?_
 by_cases c1 : k = 41
 · have hR : Vd.pieces msg p k = ([], 3) := by unfold Vd.pieces; rw [if_pos c1]
   rw [hR]
   repeat' (first | refine goA ?_ | refine jM 6 7 _ _ rfl rfl rfl ?_)
   exact ⟨none, 0, [], rfl, ORow.nil _, rfl⟩
 by_cases c2 : k = 16
 · have hR : Vd.pieces msg p k = (if msg.drop p = [] then ([], 4) else if Vd.txtOk ((msg.drop p).length + 1) (msg.drop p) then ([⟨msg.drop p, false⟩], 0) else ([], 4)) := by
    unfold Vd.pieces
    rw [if_neg c1, if_pos c2, QR (msg.length + 1) ((msg.drop p).length + 1) _ (by simp; omega) jd]
   rw [hR]
   refine goA ?_
   refine jw (jc je rfl (adx (msg.drop p) (by simp; omega))) rfl ?_
   rintro _ _ ⟨a, c, B, rfl, hB, rfl⟩
   repeat' (first | refine goA ?_ | refine jM 6 7 _ _ rfl rfl rfl ?_)
   exact ⟨a, c, B, rfl, hB, rfl⟩
 refine goA ?_
 refine jU (jc je rfl (abJ k)) rfl ?_
 cases hl : Vd.layout k with
 | none =>
   have hR : Vd.pieces msg p k = ([⟨msg.drop p, false⟩], 0) := by unfold Vd.pieces; rw [if_neg c1, if_neg c2, hl]
   have e : aav k = .tuple #[.int .i64 0, .int .i64 0, .int .i64 0, .bool false] := by unfold aav; rw [hl]
   rw [hR, e]
   repeat' (first | refine goA ?_ | refine jB (jl rfl (ze _)) rfl ?_ | (refine jS ?_; intro bLit) | refine jM 6 7 _ _ rfl rfl rfl ?_)
   exact ⟨_, _, _, rfl, ORow.lit1 rfl (UU (by rw [List.length_drop]; omega)) zB, rfl⟩
 | some t =>
 obtain ⟨a, m, b⟩ := t
 have hab : a ≤ 16 ∧ m ≤ 2 ∧ b ≤ 20 := by
  unfold Vd.layout at hl
  repeat (split at hl; · cases hl; omega)
  cases hl
 have e : aav k = .tuple #[.int .i64 (a : Nat), .int .i64 (m : Nat), .int .i64 (b : Nat), .bool true] := by unfold aav; rw [hl]
 have hR : Vd.pieces msg p k = (if msg.length - p < a then ([], 4) else match Vd.names msg m (p + a) [⟨(msg.drop p).take a, false⟩] with
  | (p, out, e) => if e ≠ 0 then ([], e) else if msg.length < p + b then ([], 4) else if p + b < msg.length then ([], 3) else (out ++ [⟨msg.drop p, false⟩], 0)) := by
  unfold Vd.pieces
  rw [if_neg c1, if_neg c2, hl]
 rw [hR, e]
 clear hR e
 by_cases c3 : msg.length - p < a
 · rw [if_pos c3]
   repeat' (first | refine goA ?_ | refine jM 6 7 _ _ rfl rfl rfl ?_)
   exact ⟨none, 0, [], rfl, ORow.nil _, rfl⟩
 rw [if_neg c3]
 have ecut : (msg.take (((p : Nat) : Int) + (a : Nat)).toNat).drop ((p : Nat) : Int).toNat = (msg.drop p).take a := by
  rw [show (((p : Nat) : Int) + (a : Nat)).toNat = p + a by omega]
  exact UT jd
 have hcl : ((msg.drop p).take a).length ≤ 1000000 := by rw [List.length_take, List.length_drop]; omega
 repeat (first | refine goA ?_ | refine jB (jl rfl (ze _)) rfl ?_ | (refine jS ?_; intro bLit))
 refine jy (σ := Nat × Nat × List Piece × Option Addr × Nat × ja) (fun x => x.1 ≤ m ∧ x.2.1 ≤ msg.length ∧ x.2.2.1.length = x.1 + 1 ∧ Vd.names msg (m - x.1) x.2.1 x.2.2.1 = Vd.names msg m (p + a) [⟨(msg.drop p).take a, false⟩] ∧ ORow yH 233 2 L x.2.2.2.1 x.2.2.2.2.1 x.2.2.1 x.2.2.2.2.2)
  (fun x => [(0, .string (bs msg)), (1, .int .i64 (x.2.1 : Nat)), (9, .int .i64 (m : Nat)), (10, .int .i64 (b : Nat)), (12, .slice x.2.2.2.1 x.2.2.1.length x.2.2.2.2.1), (13, .int .i64 (x.1 : Nat))]) (fun x => x.2.2.2.2.2 ++ L) (fun x => m - x.1)
  (0, p + a, [⟨(msg.drop p).take a, false⟩], some ⟨bLit, 0, none⟩, 1, [(bLit, .cells #[.string (bs ((msg.drop p).take a)), .bool false] 233 (0, 0))]) ⟨Nat.zero_le _, by dsimp only; omega, rfl, rfl, ORow.lit1 rfl (UU hcl) zB⟩ ?_ (fun w h => by rw [ecut] at h; exact h) ?_
 exact jr
 rintro ⟨i, pos, out, ao, co, B⟩ ⟨h1, h2, h3, h4, h5⟩
 dsimp only at h1 h2 h3 h4 h5 ⊢
 by_cases hlt : i < m
 · obtain ⟨⟨n, next, e⟩, hrd⟩ : ∃ R, Vd.readName msg pos = R := ⟨_, rfl⟩
   obtain ⟨r1, r2, r3, r4, r5⟩ := KR msg pos h2
   rw [hrd] at r1 r2 r3 r4 r5
   dsimp only at r1 r2 r3 r4 r5
   rw [show m - i = (m - (i + 1)) + 1 by omega] at h4
   simp only [Vd.names, hrd] at h4
   refine goA ?_
   refine jU (jc je rfl (ady msg pos n next e hs hrd)) rfl ?_
   by_cases he : e = 0
   · rw [if_neg (by simpa using he)] at h4
     repeat (first | refine goA ?_ | refine jB (jl rfl (QK _ _)) rfl ?_ | (refine jS ?_; intro bLit))
     refine jw (WU (y := ⟨n, true⟩) etO rfl rfl h5 (by dsimp only; omega) jd (by decide)) rfl ?_
     rintro _ _ ⟨a', c', B', rfl, hB', rfl⟩
     refine goA ?_
     refine jh (i + 1, next.toNat, out ++ [⟨n, true⟩], a', c', B') ⟨hlt, by dsimp only; omega, by simp [h3], h4, hB'⟩ ?_ (fun w h => h) (by dsimp only; omega)
     dsimp only
     rw [show ((next.toNat : Nat) : Int) = next by omega]
     exact jr
   · rw [if_pos (by simpa using he)] at h4
     rw [← h4]
     dsimp only
     rw [if_pos (by simpa using he)]
     refine goA ?_
     refine ju (fun w h => h.sub (List.sublist_append_right _ _)) ?_
     refine jM 6 7 _ _ rfl rfl rfl ?_
     exact ⟨none, 0, [], rfl, ORow.nil _, rfl⟩
 · have hi : i = m := by omega
   subst hi
   rw [Nat.sub_self] at h4
   simp only [Vd.names] at h4
   rw [← h4]
   dsimp only
   rw [if_neg (by simp)]
   by_cases c4 : msg.length < pos + b
   · rw [if_pos c4]
     refine goA ?_
     refine ju (fun w h => h.sub (List.sublist_append_right _ _)) ?_
     refine jM 6 7 _ _ rfl rfl rfl ?_
     exact ⟨none, 0, [], rfl, ORow.nil _, rfl⟩
   rw [if_neg c4]
   by_cases c5 : pos + b < msg.length
   · rw [if_pos c5]
     refine goA ?_
     refine ju (fun w h => h.sub (List.sublist_append_right _ _)) ?_
     refine jM 6 7 _ _ rfl rfl rfl ?_
     exact ⟨none, 0, [], rfl, ORow.nil _, rfl⟩
   rw [if_neg c5]
   repeat (first | refine goA ?_ | refine jB (jl rfl (ze _)) rfl ?_ | (refine jS ?_; intro bLit))
   refine jw (WU (y := ⟨msg.drop pos, false⟩) etO rfl rfl h5 (by dsimp only; rw [List.length_drop]; omega) jd (by decide)) rfl ?_
   rintro _ _ ⟨a', c', B', rfl, hB', rfl⟩
   repeat' (first | refine goA ?_ | refine jM 6 7 _ _ rfl rfl rfl ?_)
   exact ⟨_, _, _, rfl, hB', rfl⟩
theorem WV (msg : Vd.Bytes) : ∀ (m pos : Nat) (out : List Piece), pos ≤ msg.length → (Vd.joined (Vd.names msg m pos out).2.1).length ≤ (Vd.joined out).length + 255 * m
 | 0, pos, out, _ => by simp [Vd.names]
 | m + 1, pos, out, h => by
   obtain ⟨⟨n, next, e⟩, hrd⟩ : ∃ R, Vd.readName msg pos = R := ⟨_, rfl⟩
   obtain ⟨r1, r2, r3, _⟩ := KR msg pos h
   rw [hrd] at r1 r2 r3
   dsimp only at r1 r2 r3
   simp only [Vd.names, hrd]
   by_cases he : e = 0
   · rw [if_neg (by simpa using he)]
     have := WV msg m next.toNat (out ++ [⟨n, true⟩]) jd
     have e : (Vd.joined (out ++ [⟨n, true⟩])).length = (Vd.joined out).length + n.length := by simp [Vd.joined]
     rw [Nat.mul_succ]
     omega
   · rw [if_pos (by simpa using he)]
     dsimp only
     omega
theorem aay {k : Int} {a m b : Nat} (hl : Vd.layout k = some (a, m, b)) : a ≤ 16 ∧ m ≤ 2 ∧ b ≤ 20 := by
 unfold Vd.layout at hl
 repeat (split at hl; · cases hl; omega)
 cases hl
theorem aaz (msg : Vd.Bytes) (p : Nat) (k : Int) (h : p ≤ msg.length) : (Vd.joined (Vd.pieces msg p k).1).length ≤ 2 * msg.length + 510 := by
 have hd : ∀ q, (Vd.joined [⟨msg.drop q, false⟩]).length ≤ msg.length := fun q => by simp [Vd.joined]
 have h0 : (Vd.joined []).length = 0 := rfl
 unfold Vd.pieces
 split
 · (dsimp only; omega)
 split
 · split
   · (dsimp only; omega)
   · split
     · have := hd p; dsimp only; omega
     · (dsimp only; omega)
 split
 · have := hd p; dsimp only; omega
 · rename_i a m b hl
   have hab := aay hl
   split
   · dsimp only; omega
   · have hn := WV msg m (p + a) [⟨(msg.drop p).take a, false⟩] jd
     have h1 : (Vd.joined [⟨(msg.drop p).take a, false⟩]).length ≤ msg.length := by simp [Vd.joined]; omega
     revert hn
     generalize Vd.names msg m (p + a) [⟨(msg.drop p).take a, false⟩] = r
     obtain ⟨q, out, e⟩ := r
     intro hn
     dsimp only at hn ⊢
     split
     · (dsimp only; omega)
     split
     · (dsimp only; omega)
     split
     · (dsimp only; omega)
     · have := hd q
       have e : (Vd.joined (out ++ [⟨msg.drop q, false⟩])).length = (Vd.joined out).length + (Vd.joined [⟨msg.drop q, false⟩]).length := by simp [Vd.joined]
       dsimp only
       omega
theorem ZP (k : Int) (d : Vd.Bytes) (hs : d.length ≤ 1000000) : Spec Tryz.prog G 130 #[.int .u16 k, .string (bs d)] L fun u M => ∃ a c B, u = .tuple #[.slice a (Vd.whole k d).1.length c, .bool (Vd.whole k d).2] ∧ ORow yH 233 2 L a c (Vd.whole k d).1 B ∧ M = B ++ L := by
 refine jm (n := 23) Tryz.func130 rfl rfl rfl ?_
 refine goA ?_
 refine jw (jc je rfl (abL d 0 k hs (Nat.zero_le _))) rfl ?_
 rintro _ _ ⟨a, c, B, rfl, hB, rfl⟩
 obtain ⟨⟨l, e⟩, hle⟩ : ∃ x, Vd.pieces d 0 k = x := ⟨_, rfl⟩
 have hw : Vd.whole k d = if e ≠ 0 ∨ Vd.joined l ≠ d then ([], false) else (l, true) := by unfold Vd.whole; rw [hle]
 rw [hle] at hB ⊢
 dsimp only at hB ⊢
 rw [hw]
 by_cases he : e = 0
 · refine goA ?_
   refine kf (jc je rfl (abK _ l (hB.sliceR QQ (fun q hq => List.mem_append_right _ hq) (fun q hq => List.mem_append_left _ hq)) (by have := aaz d 0 k (Nat.zero_le _); rw [hle] at this; dsimp only at this; omega))) rfl ?_
   by_cases hj : Vd.joined l = d
   · rw [if_neg (by simp [he, hj])]
     repeat' (first | refine goA ?_ | refine jM 4 5 _ _ rfl rfl rfl ?_)
     exact ⟨_, _, _, rfl, hB, rfl⟩
   · rw [if_pos (Or.inr hj)]
     refine goA ?_
     refine ju (fun w h => h.sub (List.sublist_append_right _ _)) ?_
     refine jM 4 5 _ _ rfl rfl rfl ?_
     exact ⟨none, 0, [], rfl, ORow.nil _, rfl⟩
 · rw [if_pos (Or.inl he)]
   refine goA ?_
   refine ju (fun w h => h.sub (List.sublist_append_right _ _)) ?_
   refine jM 4 5 _ _ rfl rfl rfl ?_
   exact ⟨none, 0, [], rfl, ORow.nil _, rfl⟩
theorem VK (k : Int) (d : Vd.Bytes) (hs : d.length ≤ 1000000) : Spec Tryz.prog G 105 #[.int .u16 k, .string (bs d)] L fun u M => u = .bool (Vd.mayD k d) ∧ M = L := by
 refine jm (n := 14) Tryz.func105 rfl rfl rfl ?_
 refine goA ?_
 refine jw (jc je rfl (ZP k d hs)) rfl ?_
 rintro _ _ ⟨a, c, B, rfl, hB, rfl⟩
 refine goA ?_
 refine ju (fun w h => h.sub (List.sublist_append_right _ _)) ?_
 refine ji 4 _ rfl rfl ?_
 exact ⟨rfl, rfl⟩
theorem YW {l : List Piece} {k : Nat} {x : Piece} (h : l[k]? = some x) : (l.take (k + 1)).flatMap Vd.foldP = (l.take k).flatMap Vd.foldP ++ Vd.foldP x := by
 rw [List.take_add_one, h]; simp
theorem adz (n : Vd.Bytes) : (Nm.fold n).length ≤ n.length := by
 unfold Nm.fold
 split
 · rw [Nm.low_length]; exact Nat.le_refl _
 · exact Nat.zero_le _
theorem QT : ∀ (l : List Piece), (l.flatMap Vd.foldP).length ≤ (Vd.joined l).length
 | [] => Nat.le_refl _
 | x :: l => by
   have h1 := QT l
   have h2 := adz x.s
   have h3 : (Vd.foldP x).length ≤ x.s.length := by unfold Vd.foldP; split <;> omega
   unfold Vd.joined at h1 ⊢
   simp only [List.flatMap_cons, List.length_append]
   omega
theorem YX (l : List Piece) (k : Nat) : ((l.take k).flatMap Vd.foldP).length ≤ (l.flatMap Vd.foldP).length := by
 conv => rhs; rw [← List.take_append_drop k l]
 rw [List.flatMap_append, List.length_append]
 omega
theorem Ju (k : Int) (d : Vd.Bytes) : (Vd.joined (Vd.whole k d).1).length ≤ d.length := by
 unfold Vd.whole
 split
 · simp [Vd.joined]
 · rename_i h
   simp only [not_or, Decidable.not_not] at h
   rw [h.2]
   exact Nat.le_refl _
theorem abM {l : List Piece} {x : Piece} (h : x ∈ l) : x.s.length ≤ (Vd.joined l).length := by
 induction l with
 | nil => simp at h
 | cons y l ih =>
   unfold Vd.joined at ih ⊢
   rw [List.flatMap_cons, List.length_append]
   rcases List.mem_cons.1 h with rfl | h
   · omega
   · have := ih h; omega
theorem adA (k : Int) (d : Vd.Bytes) (hs : d.length ≤ 1000000) : Spec Tryz.prog G 106 #[.int .u16 k, .string (bs d)] L fun u M => u = .string (bs (Vd.foldD k d)) ∧ M = L := by
 refine jm (n := 42) Tryz.func106 rfl rfl rfl ?_
 refine goA ?_
 refine jw (jc je rfl (ZP k d hs)) rfl ?_
 rintro _ _ ⟨a, c, B, rfl, hB, rfl⟩
 have hw := Ju k d
 unfold Vd.foldD
 obtain ⟨l, hl⟩ : ∃ l, (Vd.whole k d).1 = l := ⟨_, rfl⟩
 rw [hl] at hB hw ⊢
 have hf := QT l
 have hs2 := hB.sliceR (L' := B ++ L) QQ (fun q hq => List.mem_append_right _ hq) (fun q hq => List.mem_append_left _ hq)
 obtain ⟨_, k1, k2, hs2⟩ := QS hs2
 unfold maxLen at k2
 refine goA ?_
 refine jy (σ := Nat) (fun k => k ≤ l.length) (fun k => [(5, .slice a l.length c), (7, .string (bs ((l.take k).flatMap Vd.foldP))), (8, .int .i64 (k : Nat))]) (fun k => B ++ L) (fun k => l.length - k) 0 (Nat.zero_le _) ?_ (fun w h => h) ?_
 exact jr
 intro k hk
 by_cases hlt : k < l.length
 · obtain ⟨x, hx⟩ : ∃ x, l[k]? = some x := ⟨_, List.getElem?_eq_getElem hlt⟩
   rcases hs2 with rfl | ⟨b1, o1, C1, t1, f1, rfl, m1, q1⟩
   · simp at hlt
   obtain ⟨r1, r2⟩ := q1 k x hx
   have hj := YW hx
   have hj2 := YX l (k + 1)
   have hj3 := congrArg List.length hj
   have hxl := abM (List.mem_of_getElem? hx)
   rw [List.length_append] at hj3
   cases hn : x.nam with
   | true =>
     have hp : Vd.foldP x = Nm.fold x.s := by unfold Vd.foldP; rw [if_pos hn]
     rw [hn] at r2
     rw [hp] at hj hj3
     repeat' (first | refine goA ?_ | (refine' jU (jc je rfl (qQ _ ?_)) rfl ?_; (· omega)))
     refine jh (k + 1) hlt ?_ (fun w h => h) jd
     rw [hj]
     exact jr
   | false =>
     have hp : Vd.foldP x = x.s := by unfold Vd.foldP; rw [if_neg (by simp [hn])]
     rw [hn] at r2
     rw [hp] at hj hj3
     refine goA ?_
     refine jh (k + 1) hlt ?_ (fun w h => h) jd
     rw [hj]
     exact jr
 · have hkn : k = l.length := by omega
   subst hkn
   refine goA ?_
   refine ju (fun w h => h.sub (List.sublist_append_right _ _)) ?_
   refine ji 4 _ rfl rfl ?_
   exact ⟨by rw [List.take_length], rfl⟩
end
section
open Go.RowKit
structure Cmps {α : Type} (c : α → α → Int) : Prop where
 zero : ∀ a b, c a b = 0 ↔ a = b
 anti : ∀ a b, c b a = - c a b
 lo : ∀ a b, -1 ≤ c a b
 trans : ∀ a b d, c a b ≤ 0 → c b d ≤ 0 → c a d ≤ 0
theorem Cmps.self {α : Type} {c : α → α → Int} (h : Cmps c) (a : α) : c a a = 0 := (h.zero a a).2 rfl
theorem Cmps.hi {α : Type} {c : α → α → Int} (h : Cmps c) (a b : α) : c a b ≤ 1 := by have := h.anti b a; have := h.lo b a; omega
theorem Cmps.strict {α : Type} {c : α → α → Int} (h : Cmps c) {a b d : α} (h1 : c a b ≤ 0) (h2 : c b d ≤ 0) : c a d < 0 ↔ (c a b < 0 ∨ c b d < 0) := by
 have h3 := h.trans a b d h1 h2
 constructor
 · intro h4
   by_cases h5 : c a b = 0
   · have := (h.zero a b).1 h5; subst this; exact Or.inr h4
   · left; omega
 · intro h4
   by_cases h5 : c a d = 0
   · have := (h.zero a d).1 h5
     subst this
     have h6 := h.anti a b
     omega
   · omega
def ux {α : Type} (c : α → α → Int) : List α → List α → Int
 | [], [] => 0
 | [], _ :: _ => -1
 | _ :: _, [] => 1
 | x :: xs, y :: ys => if c x y = 0 then ux c xs ys else c x y
theorem aaA {α : Type} {c : α → α → Int} (h : Cmps c) : Cmps (ux c) := by
 have zero : ∀ a b, ux c a b = 0 ↔ a = b := by
  intro a
  induction a with
  | nil => intro b; cases b <;> simp [ux]
  | cons x xs ih =>
    intro b
    cases b with
    | nil => simp [ux]
    | cons y ys =>
      simp only [ux]
      split
      · rename_i h0; rw [ih]; have := (h.zero x y).1 h0; subst this; simp
      · rename_i h0
        constructor
        · intro h1; exact absurd h1 h0
        · intro h1; cases h1; exact absurd (h.self x) h0
 have anti : ∀ a b, ux c b a = - ux c a b := by
  intro a
  induction a with
  | nil => intro b; cases b <;> simp [ux]
  | cons x xs ih =>
    intro b
    cases b with
    | nil => simp [ux]
    | cons y ys =>
      simp only [ux]
      have ha := h.anti x y
      by_cases h0 : c x y = 0
      · rw [if_pos h0, if_pos jd, ih]
      · rw [if_neg h0, if_neg jd, ha]
 refine ⟨zero, anti, ?_, ?_⟩
 · intro a
   induction a with
   | nil => intro b; cases b <;> simp [ux]
   | cons x xs ih =>
     intro b
     cases b with
     | nil => simp [ux]
     | cons y ys =>
       simp only [ux]
       split
       · exact ih ys
       · exact h.lo x y
 · intro a
   induction a with
   | nil => intro b d _ _; cases d <;> simp [ux]
   | cons x xs ih =>
     intro b d h1 h2
     cases b with
     | nil => simp [ux] at h1
     | cons y ys =>
       cases d with
       | nil => simp [ux] at h2
       | cons z zs =>
         simp only [ux] at h1 h2 ⊢
         have hxy := h.zero x y
         have hyz := h.zero y z
         have hxz := h.zero x z
         by_cases k1 : c x y = 0
         · have e := hxy.1 k1
           subst e
           rw [if_pos k1] at h1
           by_cases k2 : c x z = 0
           · rw [if_pos k2] at h2 ⊢; exact ih ys zs h1 h2
           · rw [if_neg k2] at h2 ⊢; exact h2
         · rw [if_neg k1] at h1
           by_cases k2 : c y z = 0
           · have e := hyz.1 k2
             subst e
             rw [if_neg k1]
             exact h1
           · rw [if_neg k2] at h2
             have h3 := h.trans x y z h1 h2
             have h4 := (h.strict h1 h2).2 (Or.inl jd)
             rw [if_neg jd]
             exact h3
def KS (a b : UInt8) : Int := if a < b then -1 else if b < a then 1 else 0
theorem YY : Cmps KS := by
 have key : ∀ a b : UInt8, (a < b ↔ a.toNat < b.toNat) := fun a b => UInt8.lt_iff_toNat_lt
 have val : ∀ a b : UInt8, KS a b = if a.toNat < b.toNat then -1 else if b.toNat < a.toNat then 1 else 0 := fun a b => by unfold KS; simp only [key]
 refine ⟨fun a b => ?_, fun a b => ?_, fun a b => ?_, fun a b d => ?_⟩
 · rw [val, ← UInt8.toNat_inj]; split <;> (try split) <;> omega
 · rw [val, val]; split <;> split <;> (try split) <;> omega
 · rw [val]; split <;> (try split) <;> omega
 · rw [val, val, val]; intro h1 h2; split at h1 <;> split at h2 <;> split <;> (try split) <;> (try split at h1) <;> (try split at h2) <;> omega
theorem ye : ∀ a b, Lib.compareBytes a b = ux KS a b
 | [], [] => by simp [Lib.compareBytes, ux]
 | [], _ :: _ => by simp [Lib.compareBytes, ux]
 | _ :: _, [] => by simp [Lib.compareBytes, ux]
 | a :: r, b :: t => by
   have ih := ye r t
   rw [Lib.compareBytes, ux]
   by_cases h1 : a < b
   · simp [KS, h1]
   · by_cases h2 : b < a
     · simp [KS, h1, h2]
     · rw [if_neg h1, if_neg h2, if_pos (by simp [KS, h1, h2]), ih]
theorem compareBytes_cmps : Cmps Lib.compareBytes := by
 have : Lib.compareBytes = ux KS := funext fun a => funext fun b => ye a b
 rw [this]; exact aaA YY
def JZ (n : Nm.Bytes) : List Nm.Bytes := (Nm.lowL (Nm.labels n)).reverse
theorem abN {a b : Nm.Bytes} (ha : Nm.may a = true) (hb : Nm.may b = true) : Jq a b = WI (JZ a) (JZ b) := by
 obtain ⟨x, hx⟩ := Nm.nm_of_may ha
 obtain ⟨y, hy⟩ := Nm.nm_of_may hb
 simp [Jq, JZ, Nm.labels, hx, hy, ahU]
theorem ZQ {a b : Nm.Bytes} (h : Nm.may a = false ∨ Nm.may b = false) : Jq a b = 0 := by
 unfold Jq
 rcases h with h | h
 · rw [Nm.nm_of_not h]
 · rw [Nm.nm_of_not h]; cases Nm.nm a <;> rfl
end
section
open Go.RowKit
theorem zh {G : World} {L : ja} (n : Nm.Bytes) (h : n.length ≤ 1000000) : Spec Tryz.prog G 102 #[.string (bs n)] L fun u M => ∃ v B, u = .tuple #[v, .bool (Nm.may n)] ∧ Row 9 1 v (Nm.labels n).length ((Nm.labels n).map YT) B ∧ M = B ++ L :=
 ⟨fun w hw => (uc (bs n) w (yG h)).mono fun en w' ⟨v, h1, h2, h3⟩ => by
   have hL : Heap G w' L := ⟨hw.still.trans ⟨h3.os, h3.tape, h3.output, h3.size⟩, hw.nodup, fun p hp => (h3.block p.1 (hw.lt hp)).trans (hw.get p hp)⟩
   rcases h2.2 with ⟨q1, q2⟩ | ⟨g, cap, cur, q1, q2, q3, q4, q5, q6, q7⟩
   · exact ⟨_, _, h1, ⟨v, [], rfl, ⟨h2.1, Or.inl ⟨q1, q2, rfl⟩⟩, rfl⟩, hL⟩
   · refine ⟨_, _, h1, ⟨v, [(g, .cells cur 9 (0, 0))], rfl, ⟨h2.1, Or.inr ⟨g, cap, cur, q1, rfl, q4, q5, q6, q7⟩⟩, rfl⟩, hL.still, ?_, fun p hp => ?_⟩
     · show ((g : Nat) :: L.map (·.1)).Nodup
       rw [List.nodup_cons]
       refine ⟨fun hm => ?_, hL.nodup⟩
       obtain ⟨p, hp, he⟩ := List.mem_map.1 hm
       have := hw.lt hp
       omega
     · rcases List.mem_cons.1 hp with rfl | hp
       · exact q3
       · exact hL.get p hp⟩
theorem zO : ∀ a b : List UInt8, Op.bytesLess a b = decide (Lib.compareBytes a b = -1)
 | [], [] => by simp [Op.bytesLess, Lib.compareBytes]
 | [], _ :: _ => by simp [Op.bytesLess, Lib.compareBytes]
 | _ :: _, [] => by simp [Op.bytesLess, Lib.compareBytes]
 | a :: r, b :: t => by
   rw [Op.bytesLess, Lib.compareBytes, zO r t]
   have k1 := @UInt8.lt_iff_toNat_lt a b
   have k2 := @UInt8.lt_iff_toNat_lt b a
   by_cases h1 : a < b
   · simp [h1]
   · by_cases h2 : b < a
     · have : a ≠ b := fun e => by subst e; exact h1 h2
       simp [h1, h2, this]
     · have h1' : ¬ a.toNat < b.toNat := fun h => h1 (k1.2 h)
       have h2' : ¬ b.toNat < a.toNat := fun h => h2 (k2.2 h)
       have : a = b := UInt8.toNat_inj.1 jd
       subst this
       simp
theorem aaB {xs ys : List Nm.Bytes} {j : Nat} {p q : Nm.Bytes} (h1 : xs[j]? = some p) (h2 : ys[j]? = some q) :
 WI (xs.drop j) (ys.drop j) = if Lib.compareBytes p q = 0 then WI (xs.drop (j + 1)) (ys.drop (j + 1)) else Lib.compareBytes p q := by
 obtain ⟨k1, e1⟩ := List.getElem?_eq_some_iff.1 h1
 obtain ⟨k2, e2⟩ := List.getElem?_eq_some_iff.1 h2
 rw [List.drop_eq_getElem_cons k1, List.drop_eq_getElem_cons k2, e1, e2]
 rfl
theorem abO {xs ys : List Nm.Bytes} {j : Nat} (h1 : j ≤ xs.length) (h2 : j ≤ ys.length) (h : ¬ (j < xs.length ∧ j < ys.length)) :
 WI (xs.drop j) (ys.drop j) = if xs.length < ys.length then -1 else if ys.length < xs.length then 1 else 0 := by
 by_cases k1 : j < xs.length
 · have k2 : ys.length = j := by omega
   rw [List.drop_of_length_le (l := ys) jd, List.drop_eq_getElem_cons k1, if_neg jd, if_pos jd]
   rfl
 · have k2 : xs.length = j := by omega
   rw [List.drop_of_length_le (l := xs) jd]
   by_cases k3 : j < ys.length
   · rw [List.drop_eq_getElem_cons k3, if_pos jd]; rfl
   · rw [List.drop_of_length_le (l := ys) jd, if_neg jd, if_neg jd]; rfl
theorem KT (n : Nm.Bytes) : (JZ n).length = (Nm.labels n).length := by simp [JZ, Nm.lowL]
theorem ZR (n : Nm.Bytes) (j : Nat) (h : j < (Nm.labels n).length) : ∃ l, (Nm.labels n)[(Nm.labels n).length - (j + 1)]? = some l ∧ (JZ n)[j]? = some (Nm.low l) := by
 obtain ⟨l, hl⟩ : ∃ l, (Nm.labels n)[(Nm.labels n).length - (j + 1)]? = some l := ⟨_, List.getElem?_eq_getElem jd⟩
 refine ⟨l, hl, ?_⟩
 unfold JZ
 rw [List.getElem?_reverse (by simpa [Nm.lowL] using h)]
 simp only [Nm.lowL, List.length_map, List.getElem?_map]
 rw [show (Nm.labels n).length - 1 - j = (Nm.labels n).length - (j + 1) by omega, hl]
 rfl
theorem zV (n : Nm.Bytes) : (Nm.labels n).length ≤ 254 ∧ ∀ l ∈ Nm.labels n, l.length ≤ 63 := by
 unfold Nm.labels
 cases h : Nm.nm n with
 | none => simp
 | some ls => exact ⟨aeV h, fun l hl => ((Nm.nm_iff.1 h).2.1 l hl).2⟩
theorem VL {G : World} {L : ja} (a b : Nm.Bytes) (ha : a.length ≤ 1000000) (hb : b.length ≤ 1000000) : Spec Tryz.prog G 131 #[.string (bs a), .string (bs b)] L fun u M => u = .int .i64 (Jq a b) ∧ M = L := by
 refine jm (n := 72) Tryz.func131 rfl rfl rfl ?_
 refine goC ?_
 refine jw (jc je rfl (zh a ha)) rfl ?_
 rintro _ _ ⟨v5, B5, rfl, hR5, rfl⟩
 refine goC ?_
 refine jw (jc je rfl (zh b hb)) rfl ?_
 rintro _ _ ⟨v7, B7, rfl, hR7, rfl⟩
 obtain ⟨a5, c5, rfl⟩ := hR5.slice
 obtain ⟨a7, c7, rfl⟩ := hR7.slice
 cases ma : Nm.may a with
 | false =>
   have hC : Jq a b = 0 := ZQ (Or.inl ma)
   refine goC ?_
   refine ju (fun w h => (h.sub (List.sublist_append_right _ _)).sub (List.sublist_append_right _ _)) ?_
   refine ji 4 _ rfl rfl ?_
   exact ⟨by rw [hC], rfl⟩
 | true =>
 cases mb : Nm.may b with
 | false =>
   have hC : Jq a b = 0 := ZQ (Or.inr mb)
   refine goC ?_
   refine ju (fun w h => (h.sub (List.sublist_append_right _ _)).sub (List.sublist_append_right _ _)) ?_
   refine ji 4 _ rfl rfl ?_
   exact ⟨by rw [hC], rfl⟩
 | true =>
 have hC := abN ma mb
 have la := zV a
 have lb := zV b
 obtain ⟨xa, hxa⟩ : ∃ x, x = Nm.labels a := ⟨_, rfl⟩
 obtain ⟨xb, hxb⟩ : ∃ x, x = Nm.labels b := ⟨_, rfl⟩
 have ra := KT a
 have rb := KT b
 have qa := ZR a
 have qb := ZR b
 rw [← hxa] at la ra qa hR5 ⊢
 rw [← hxb] at lb rb qb hR7 ⊢
 obtain ⟨la1, la2⟩ := la
 obtain ⟨lb1, lb2⟩ := lb
 have sa := hR5.strRow (L := B7 ++ (B5 ++ L)) (fun p hp => by grind)
 have sb := hR7.strRow (L := B7 ++ (B5 ++ L)) (fun p hp => by grind)
 obtain ⟨_, _, hv5, sa⟩ := sa
 cases hv5
 obtain ⟨_, _, hv7, sb⟩ := sb
 cases hv7
 refine goC ?_
 refine jy (σ := Nat) (fun j => j ≤ xa.length ∧ j ≤ xb.length ∧ WI (JZ a) (JZ b) = WI ((JZ a).drop j) ((JZ b).drop j)) (fun j => [(5, .slice a5 xa.length c5), (7, .slice a7 xb.length c7), (9, .int .i64 ((j + 1 : Nat) : Int))]) (fun _ => B7 ++ (B5 ++ L)) (fun j => xa.length - j) 0 ⟨by omega, by omega, rfl⟩ ?_ (fun _ h => h) ?_
 exact jr
 rintro j ⟨hj1, hj2, hinv⟩
 by_cases hlt : j < xa.length ∧ j < xb.length
 · obtain ⟨k1, k2⟩ := hlt
   have d1 : decide (((j + 1 : Nat) : Int) ≤ ((xa.length : Nat) : Int)) = true := decide_eq_true jd
   have d2 : decide (((j + 1 : Nat) : Int) ≤ ((xb.length : Nat) : Int)) = true := decide_eq_true jd
   obtain ⟨p, hp1, hp2⟩ := qa j k1
   obtain ⟨q, hq1, hq2⟩ := qb j k2
   obtain rfl | ⟨b5, o5, C5, t5, f5, rfl, hm5, hc5⟩ := sa
   · simp at k1
   obtain rfl | ⟨b7, o7, C7, t7, f7, rfl, hm7, hc7⟩ := sb
   · simp at k2
   have g5 : C5[o5 + (((xa.length : Nat) : Int) - ((j + 1 : Nat) : Int)).toNat * 1]? = some (.string (bs p)) := by
    rw [show (((xa.length : Nat) : Int) - ((j + 1 : Nat) : Int)).toNat = xa.length - (j + 1) by omega]
    exact hc5 _ _ hp1
   have g7 : C7[o7 + (((xb.length : Nat) : Int) - ((j + 1 : Nat) : Int)).toNat * 1]? = some (.string (bs q)) := by
    rw [show (((xb.length : Nat) : Int) - ((j + 1 : Nat) : Int)).toNat = xb.length - (j + 1) by omega]
    exact hc7 _ _ hq1
   have lp := la2 p (List.mem_of_getElem? hp1)
   have lq := lb2 q (List.mem_of_getElem? hq1)
   have hstep := aaB hp2 hq2
   have hcb := yP (Nm.low p) (Nm.low q)
   have hbl := zO (Nm.low p) (Nm.low q)
   have hz := compareBytes_cmps.zero (Nm.low p) (Nm.low q)
   have hK : ∀ p ∈ [(b5, Obj.cells C5 t5 f5), (b7, Obj.cells C7 t7 f7)], p ∈ B7 ++ (B5 ++ L) := by
    intro p hp
    simp only [List.mem_cons, List.not_mem_nil, or_false] at hp
    rcases hp with rfl | rfl
    · exact hm5
    · exact hm7
   clear qa qb hc5 hc7 la2 lb2
   by_cases w1 : Lib.compareBytes (Nm.low p) (Nm.low q) = -1
   · have t1 : Op.bytesLess (Nm.low p) (Nm.low q) = true := by rw [hbl]; exact decide_eq_true w1
     have hfin : Jq a b = -1 := by rw [hC, hinv, hstep, if_neg jd, w1]
     clear hstep hbl hz
     refine goC ?_
     refine jq jb ([(b5, Obj.cells C5 t5 f5), (b7, Obj.cells C7 t7 f7)]) [] ?_
     refine tkQ 0 ?_
     refine tkQ 1 ?_
     refine tkQ 2 ?_
     refine tkQ 3 ?_
     refine tkQ 4 ?_
     refine tkQ 5 ?_
     refine tkQ 6 ?_
     refine' jp 7 rfl rfl je (jV je rfl (fun _ _ => yb _ ?_)) ?_ ?_; (· omega); (· assumption)
     refine tkQ 8 ?_
     refine tkQ 9 ?_
     refine tkQ 10 ?_
     refine tkQ 11 ?_
     refine tkQ 12 ?_
     refine tkQ 13 ?_
     refine tkQ 14 ?_
     refine' jp 15 rfl rfl je (jV je rfl (fun _ _ => yb _ ?_)) ?_ ?_; (· omega); (· assumption)
     refine tkQ 16 ?_
     refine tkQ 17 ?_
     refine tdQ ?_
     refine goC ?_
     refine ju (fun w h => (h.sub (List.sublist_append_right _ _)).sub (List.sublist_append_right _ _)) ?_
     refine ji 4 _ rfl rfl ?_
     exact ⟨by rw [hfin], rfl⟩
   · have t1 : Op.bytesLess (Nm.low p) (Nm.low q) = false := by rw [hbl]; exact decide_eq_false w1
     by_cases w2 : Lib.compareBytes (Nm.low p) (Nm.low q) = 0
     · have e := hz.1 w2
       have t2 : (!(Op.bytesLess (Nm.low p) (Nm.low q) || Nm.low p == Nm.low q)) = false := by rw [e]; simp
       clear hbl hz
       refine goC ?_
       refine jq jb ([(b5, Obj.cells C5 t5 f5), (b7, Obj.cells C7 t7 f7)]) [] ?_
       refine tkQ 0 ?_
       refine tkQ 1 ?_
       refine tkQ 2 ?_
       refine tkQ 3 ?_
       refine tkQ 4 ?_
       refine tkQ 5 ?_
       refine tkQ 6 ?_
       refine' jp 7 rfl rfl je (jV je rfl (fun _ _ => yb _ ?_)) ?_ ?_; (· omega); (· assumption)
       refine tkQ 8 ?_
       refine tkQ 9 ?_
       refine tkQ 10 ?_
       refine tkQ 11 ?_
       refine tkQ 12 ?_
       refine tkQ 13 ?_
       refine tkQ 14 ?_
       refine' jp 15 rfl rfl je (jV je rfl (fun _ _ => yb _ ?_)) ?_ ?_; (· omega); (· assumption)
       refine tkQ 16 ?_
       refine tkQ 17 ?_
       refine tdQ ?_
       refine goC ?_
       refine jh (j + 1) ⟨by omega, by omega, by rw [hinv, hstep, if_pos w2]⟩ ?_ (fun _ h => h) jd
       exact jr
     · have hne : ¬ Nm.low p = Nm.low q := fun e => w2 (hz.2 e)
       have t2 : (!(Op.bytesLess (Nm.low p) (Nm.low q) || Nm.low p == Nm.low q)) = true := by rw [t1]; simpa using hne
       have hfin : Jq a b = 1 := by rw [hC, hinv, hstep, if_neg w2]; omega
       clear hstep hbl hz
       refine goC ?_
       refine jq jb ([(b5, Obj.cells C5 t5 f5), (b7, Obj.cells C7 t7 f7)]) [] ?_
       refine tkQ 0 ?_
       refine tkQ 1 ?_
       refine tkQ 2 ?_
       refine tkQ 3 ?_
       refine tkQ 4 ?_
       refine tkQ 5 ?_
       refine tkQ 6 ?_
       refine' jp 7 rfl rfl je (jV je rfl (fun _ _ => yb _ ?_)) ?_ ?_; (· omega); (· assumption)
       refine tkQ 8 ?_
       refine tkQ 9 ?_
       refine tkQ 10 ?_
       refine tkQ 11 ?_
       refine tkQ 12 ?_
       refine tkQ 13 ?_
       refine tkQ 14 ?_
       refine' jp 15 rfl rfl je (jV je rfl (fun _ _ => yb _ ?_)) ?_ ?_; (· omega); (· assumption)
       refine tkQ 16 ?_
       refine tkQ 17 ?_
       refine tdQ ?_
       refine goC ?_
       refine ju (fun w h => (h.sub (List.sublist_append_right _ _)).sub (List.sublist_append_right _ _)) ?_
       refine ji 4 _ rfl rfl ?_
       exact ⟨by rw [hfin], rfl⟩
 · have hend := abO (xs := JZ a) (ys := JZ b) (j := j) jd jd jd
   rw [ra, rb] at hend
   have fin : ∀ (K : Prop), (decide (((j + 1 : Nat) : Int) ≤ ((xa.length : Nat) : Int)) = false → K) → (decide (((j + 1 : Nat) : Int) ≤ ((xa.length : Nat) : Int)) = true → decide (((j + 1 : Nat) : Int) ≤ ((xb.length : Nat) : Int)) = false → K) → K := fun K k1 k2 => by
    by_cases hh : j < xa.length
    · exact k2 (decide_eq_true jd) (decide_eq_false jd)
    · exact k1 (decide_eq_false jd)
   by_cases w1 : xa.length < xb.length
   · have u1 : decide (((xa.length : Nat) : Int) < ((xb.length : Nat) : Int)) = true := decide_eq_true jd
     have hfin : Jq a b = -1 := by rw [hC, hinv, hend, if_pos w1]
     refine fin _ (fun d1 => ?_) (fun d1 d2 => ?_)
     all_goals
      refine goC ?_
      refine ju (fun w h => (h.sub (List.sublist_append_right _ _)).sub (List.sublist_append_right _ _)) ?_
      refine ji 4 _ rfl rfl ?_
      exact ⟨by rw [hfin], rfl⟩
   · have u1 : decide (((xa.length : Nat) : Int) < ((xb.length : Nat) : Int)) = false := decide_eq_false jd
     by_cases w2 : xb.length < xa.length
     · have u2 : decide (((xb.length : Nat) : Int) < ((xa.length : Nat) : Int)) = true := decide_eq_true jd
       have hfin : Jq a b = 1 := by rw [hC, hinv, hend, if_neg w1, if_pos w2]
       refine fin _ (fun d1 => ?_) (fun d1 d2 => ?_)
       all_goals
        refine goC ?_
        refine ju (fun w h => (h.sub (List.sublist_append_right _ _)).sub (List.sublist_append_right _ _)) ?_
        refine ji 4 _ rfl rfl ?_
        exact ⟨by rw [hfin], rfl⟩
     · have u2 : decide (((xb.length : Nat) : Int) < ((xa.length : Nat) : Int)) = false := decide_eq_false jd
       have hfin : Jq a b = 0 := by rw [hC, hinv, hend, if_neg w1, if_neg w2]
       refine fin _ (fun d1 => ?_) (fun d1 d2 => ?_)
       all_goals
        refine goC ?_
        refine ju (fun w h => (h.sub (List.sublist_append_right _ _)).sub (List.sublist_append_right _ _)) ?_
        refine ji 4 _ rfl rfl ?_
        exact ⟨by rw [hfin], rfl⟩
end
section
open Go.RowKit
open Vd (RSet Vdt Vote Rec Quest Piece)
variable {G : World} {L : ja}
theorem rsR.vals {cs : List Value} {s : RSet} (h : rsR L cs s) : ∃ a c, cs = [.string (bs s.name), .int .u16 s.kind, .int .u16 s.cls, .int .u32 s.ttl, .slice a s.data.length c] ∧ sliceR 1 qB L [.slice a s.data.length c] s.data ∧ s.name.length ≤ maxLen ∧ (0 ≤ s.kind ∧ s.kind ≤ 65535) ∧ (0 ≤ s.cls ∧ s.cls ≤ 65535) ∧ (0 ≤ s.ttl ∧ s.ttl ≤ 4294967295) := by
 obtain ⟨d, rfl, hd, h1, h2, h3, h4⟩ := h
 obtain ⟨a, c, e, hd⟩ := hd.val
 simp only [List.cons.injEq, and_true] at e
 subst e
 exact ⟨a, c, rfl, hd, h1, h2, h3, h4⟩
theorem WW (ca cb : List Value) (a b : RSet) {K : ja} (ha : rsR K ca a) (hb : rsR K cb b) (h1 : a.name.length ≤ 1000000) (h2 : b.name.length ≤ 1000000) : Spec Tryz.prog G 109 #[.agg ca.toArray, .agg cb.toArray] L fun u M => u = .bool (Vd.before a b) ∧ M = L := by
 obtain ⟨aa, ka, rfl, _⟩ := ha.val
 obtain ⟨ab, kb, rfl, _⟩ := hb.val
 refine jm (n := 30) Tryz.func109 rfl rfl rfl ?_
 repeat' (first | refine goA ?_ | (refine' jU (jc je rfl (VL _ _ ?_ ?_)) rfl ?_; (· omega); (· omega)) | (refine kl ?_; intro bBox) | refine ads rfl (fun hc => ?_) (fun hc => ?_))
 all_goals (refine ju (fun w h => h.tail.tail) ?_)
 all_goals
  refine ji 4 _ rfl rfl ?_
 all_goals (refine ⟨?_, rfl⟩; simp [Vd.before, *])
theorem abP (t : Int) : Spec Tryz.prog G 107 #[.int .u32 t] L fun u M => u = .int .u32 (Vd.timeT t) ∧ M = L := by
 refine jm (n := 6) Tryz.func107 rfl rfl rfl ?_
 repeat' (first | refine goA ?_ | refine Jm rfl (fun hc => ?_) (fun hc => ?_) | refine ji 2 _ rfl rfl ?_)
 all_goals (refine ⟨?_, rfl⟩; simp [Vd.timeT, *])
theorem qy {P : Program} {ρ : jG} {ty : TypeId} {s x : Operand} {t e te : TypeId} {bytes bl : Nat} {z : Value} {a : Option Addr} {c : Nat} {y : Vd.Bytes} {l : List Vd.Bytes} {B L0 : ja} (E : ElemTy P t e 1 bytes z) (hs : ev ρ s = some (.slice a l.length c)) (hx : ev ρ x = some (.slice (some ⟨bl, 0, none⟩) 1 1))
 (hrow : ORow qB e 1 L0 a c l B) (hy : y.length ≤ maxLen) (h63 : l.length ≤ 1000000) (hb : bytes ≤ 1000) :
 OpT P G ρ ((bl, .cells #[.string (bs y)] te (0, 0)) :: (B ++ L)) (.call ⟨.builtin .append, #[s, x], #[t, t]⟩) ty fun v' L' => ∃ a' c' B', v' = .slice a' (l ++ [y]).length c' ∧ ORow qB e 1 L0 a' c' (l ++ [y]) B' ∧ L' = B' ++ L :=
 uv (cs := [.string (bs y)]) E hs hx hrow rfl (by intro v hv; rw [List.mem_singleton.1 hv]; rfl) ⟨rfl, hy⟩ (by unfold maxLen; omega) (Nat.le_trans (Nat.mul_le_mul (show l.length + 1 ≤ 1000001 by omega) hb) (by decide))
theorem J0 {a : Option Addr} {m c : Nat} {l : List Vd.Bytes} (h : sliceR 1 qB L [.slice a m c] l) : (∀ x ∈ l, x.length ≤ maxLen) := by
 obtain ⟨_, _, _, h4⟩ := sliceR.cut h
 intro x hx
 rcases h4 with rfl | ⟨b, off, C, te, fr, q1, q2, q3⟩
 · simp at hx
 · obtain ⟨i, hi⟩ := List.getElem?_of_mem hx
   obtain ⟨cs', k1, ⟨k2, k4⟩, k3⟩ := q3 i x hi
   exact k4
theorem ahW (v : Value) (l : List Vd.Bytes) (s : Vd.Bytes) (hl : sliceR 1 qB L [v] l) (hn : l.length ≤ 100000) (hs : s.length ≤ maxLen) : Spec Tryz.prog G 108 #[v, .string (bs s)] L fun u M =>
 (u = v ∧ Vd.put l s = l ∧ M = L) ∨ ∃ a c B, u = .slice a (Vd.put l s).length c ∧ ORow qB 9 1 L a c (Vd.put l s) B ∧ M = B ++ L := by
 obtain ⟨a, c, e1, hl⟩ := hl.val
 simp only [List.cons.injEq, and_true] at e1
 subst e1
 have hle := J0 hl
 obtain ⟨_, k1, k2, hl⟩ := qH hl
 unfold maxLen at k2
 refine jm (n := 49) Tryz.func108 rfl rfl rfl ?_
 refine goA ?_
 refine jy (σ := Nat × List Vd.Bytes × Bool × Option Addr × Nat × ja) (fun x => x.1 ≤ l.length ∧ x.2.1.length ≤ x.1 + (if x.2.2.1 then 1 else 0) ∧ Vd.putGo s (l.drop x.1) x.2.1 x.2.2.1 = Vd.putGo s l [] false ∧ ORow qB 9 1 L x.2.2.2.1 x.2.2.2.2.1 x.2.1 x.2.2.2.2.2)
  (fun x => [(0, .slice a l.length c), (1, .string (bs s)), (5, .slice x.2.2.2.1 x.2.1.length x.2.2.2.2.1), (6, .bool x.2.2.1), (7, .int .i64 (x.1 : Nat))]) (fun x => x.2.2.2.2.2 ++ L) (fun x => l.length - x.1) (0, [], false, none, 0, []) ⟨Nat.zero_le _, by simp, rfl, ORow.nil _⟩ ?_ (fun w h => h) ?_
 exact jr
 rintro ⟨k, out, done, ao, co, B⟩ ⟨h1, h2, h3, h4⟩
 dsimp only at h1 h2 h3 h4 ⊢
 by_cases hlt : k < l.length
 · rcases hl with rfl | ⟨b1, o1, C1, t1, f1, rfl, m1, q1⟩
   · simp at hlt
   have m2 : (b1, Obj.cells C1 t1 f1) ∈ B ++ L := List.mem_append_right _ m1
   have hd := List.drop_eq_getElem_cons hlt
   obtain ⟨x, hx⟩ : ∃ x, l[k]? = some x := ⟨_, List.getElem?_eq_getElem hlt⟩
   have hx' : l[k] = x := by rw [List.getElem?_eq_getElem hlt] at hx; exact Option.some.inj hx
   rw [hx'] at hd
   have r1 := q1 k x hx
   have hxl := hle x (List.mem_of_getElem? hx)
   rw [hd] at h3
   simp only [Vd.putGo] at h3
   by_cases hxs : x = s
   · rw [if_pos hxs] at h3
     subst hxs
     refine goA ?_
     refine ju (fun w h => h.sub (List.sublist_append_right _ _)) ?_
     refine ji 4 _ rfl rfl ?_
     refine Or.inl ⟨rfl, ?_, rfl⟩
     unfold Vd.put
     rw [← h3]
   · rw [if_neg hxs] at h3
     have hgo : ∀ (out' : List Vd.Bytes) (done' : Bool), (out' = out ∧ done' = done ∧ (done = true ∨ Vd.gtB x s = false)) ∨ (out' = out ++ [s] ∧ done' = true ∧ done = false ∧ Vd.gtB x s = true) → True := fun _ _ _ => trivial
     have hbl : (if done then 1 else 0 : Nat) ≤ 1 := by split <;> omega
     by_cases hg : done = false ∧ Vd.gtB x s = true
     · obtain ⟨rfl, hg⟩ := hg
       rw [if_pos (by simp [hg])] at h3
       have hg' : (!(Op.bytesLess x s || x == s)) = true := hg
       simp only [Bool.false_eq_true, if_false] at h2
       repeat (first | refine goA ?_ | (refine jS ?_; intro bLit))
       refine jw (qy (y := s) etO rfl rfl h4 hs jd (by decide)) rfl ?_
       rintro _ _ ⟨a', c', B', rfl, hB', rfl⟩
       have m3 : (b1, Obj.cells C1 t1 f1) ∈ B' ++ L := List.mem_append_right _ m1
       repeat (first | refine goA ?_ | (refine jS ?_; intro bLit))
       refine jw (qy (y := x) etO rfl rfl hB' hxl (by simp; omega) (by decide)) rfl ?_
       rintro _ _ ⟨a2, c2, B2, rfl, hB2, rfl⟩
       refine goA ?_
       refine jh (k + 1, (out ++ [s]) ++ [x], true, a2, c2, B2) ⟨hlt, by simp; omega, h3, hB2⟩ ?_ (fun w h => h) (by dsimp only; omega)
       exact jr
     · rw [if_neg (by simpa using hg)] at h3
       have hg3 : done = true ∨ (done = false ∧ (!(Op.bytesLess x s || x == s)) = false) := by
        cases done with
        | true => exact Or.inl rfl
        | false => exact Or.inr ⟨rfl, by have : Vd.gtB x s = false := by simpa using hg
                                         exact this⟩
       rcases hg3 with rfl | ⟨rfl, hg4⟩
       · simp only [if_true] at h2
         repeat (first | refine goA ?_ | (refine jS ?_; intro bLit))
         refine jw (qy (y := x) etO rfl rfl h4 hxl jd (by decide)) rfl ?_
         rintro _ _ ⟨a2, c2, B2, rfl, hB2, rfl⟩
         refine goA ?_
         refine jh (k + 1, out ++ [x], true, a2, c2, B2) ⟨hlt, by simp; omega, h3, hB2⟩ ?_ (fun w h => h) (by dsimp only; omega)
         exact jr
       · simp only [Bool.false_eq_true, if_false] at h2
         repeat (first | refine goA ?_ | (refine jS ?_; intro bLit))
         refine jw (qy (y := x) etO rfl rfl h4 hxl jd (by decide)) rfl ?_
         rintro _ _ ⟨a2, c2, B2, rfl, hB2, rfl⟩
         refine goA ?_
         refine jh (k + 1, out ++ [x], false, a2, c2, B2) ⟨hlt, by simp; omega, h3, hB2⟩ ?_ (fun w h => h) (by dsimp only; omega)
         exact jr
 · have hkn : k = l.length := by omega
   subst hkn
   rw [List.drop_length] at h3
   simp only [Vd.putGo] at h3
   have hp : Vd.put l s = if done then out else out ++ [s] := by unfold Vd.put; rw [← h3]
   cases done with
   | true =>
     repeat' (first | refine goA ?_ | refine ji 4 _ rfl rfl ?_)
     rw [hp]
     exact Or.inr ⟨_, _, _, rfl, h4, rfl⟩
   | false =>
     simp only [Bool.false_eq_true, if_false] at h2
     repeat (first | refine goA ?_ | (refine jS ?_; intro bLit))
     refine jw (qy (y := s) etO rfl rfl h4 hs jd (by decide)) rfl ?_
     rintro _ _ ⟨a2, c2, B2, rfl, hB2, rfl⟩
     repeat' (first | refine goA ?_ | refine ji 4 _ rfl rfl ?_)
     rw [hp]
     exact Or.inr ⟨_, _, _, rfl, hB2, rfl⟩
end
section
open Go.RowKit
open Vd (RSet Vdt Vote Rec Quest Piece)
variable {G : World} {L : ja}
theorem zC {K : ja} : rsR K [.string (bs []), .int .u16 0, .int .u16 0, .int .u32 0, .slice none 0 0] RSet.none := ⟨_, rfl, sliceR.nil, by simp [RSet.none, maxLen], by simp [RSet.none], by simp [RSet.none], by simp [RSet.none]⟩
theorem aaC {α : Type} {p : α → Bool} {l : List α} {k : Nat} {x : α} (hx : l[k]? = some x) (h : (l.drop k).find? p = l.find? p) : (p x = true → l.find? p = some x) ∧ (p x = false → (l.drop (k + 1)).find? p = l.find? p) := by
 obtain ⟨hlt, he⟩ := List.getElem?_eq_some_iff.1 hx
 rw [List.drop_eq_getElem_cons hlt, he] at h
 refine ⟨fun hp => ?_, fun hp => ?_⟩
 · rw [← h, List.find?_cons_of_pos hp]
 · rw [← h, List.find?_cons_of_neg (by simp [hp])]
theorem Qx {K N : ja} (v : Value) (l : List RSet) (n : Vd.Bytes) (k c : Int) (hK : ∀ p ∈ K, p ∈ L) (hl : sliceR 5 (fun _ => rsR N) K [v] l) (hn : n.length ≤ 1000000) (hs : ∀ s ∈ l, s.name.length ≤ 1000000) :
 Spec Tryz.prog G 104 #[v, .string (bs n), .int .u16 k, .int .u16 c] L fun u M => ∃ cs, u = .tuple #[.agg cs.toArray, .bool (Vd.findS l n k c).2] ∧ rsR N cs (Vd.findS l n k c).1 ∧ M = L := by
 obtain ⟨a, ca, e1, hl⟩ := hl.val
 simp only [List.cons.injEq, and_true] at e1
 subst e1
 obtain ⟨_, k1, k2, hl⟩ := sliceR.cut hl
 unfold maxLen at k2
 obtain ⟨p, hp⟩ : ∃ p : RSet → Bool, p = fun s => Nm.same s.name n && s.kind == k && s.cls == c := ⟨_, rfl⟩
 have hF : Vd.findS l n k c = match l.find? p with | some s => (s, true) | none => (RSet.none, false) := by rw [hp]; rfl
 refine jm (n := 47) Tryz.func104 rfl rfl rfl ?_
 repeat (first | refine goA ?_ | (refine jO ?_; intro bNew))
 refine jy (σ := Nat) (fun i => i ≤ l.length ∧ (l.drop i).find? p = l.find? p) (fun i => [(0, .slice a l.length ca), (1, .string (bs n)), (2, .int .u16 k), (3, .int .u16 c), (8, .pointer (some ⟨bNew, 0, none⟩)), (10, .int .i64 (i : Nat))]) (fun i => (bNew, Obj.cells #[.string (bs []), .int .u16 0, .int .u16 0, .int .u32 0, .slice none 0 0] 122 (0, 0)) :: L) (fun i => l.length - i) 0 ⟨Nat.zero_le _, by simp⟩ ?_ (fun w h => h) ?_
 exact jr
 rintro i ⟨hi, heq⟩
 by_cases hlt : i < l.length
 · rcases hl with rfl | ⟨b1, o1, C1, t1, f1, rfl, m1, q1⟩
   · simp at hlt
   have m1 := hK _ m1
   obtain ⟨x, hx⟩ : ∃ x, l[i]? = some x := ⟨_, List.getElem?_eq_getElem hlt⟩
   obtain ⟨cx, _, hx2, hcx⟩ := q1 i x hx
   obtain ⟨hf1, hf2⟩ := aaC hx heq
   have hxn := hs x (List.mem_of_getElem? hx)
   obtain ⟨xa, xc, rfl, _⟩ := hx2.val
   have g0 : C1[o1 + i * 5 + 0]? = some (.string (bs x.name)) := hcx 0 _ rfl
   have g1 : C1[o1 + i * 5 + 1]? = some (.int .u16 x.kind) := hcx 1 _ rfl
   have g2 : C1[o1 + i * 5 + 2]? = some (.int .u16 x.cls) := hcx 2 _ rfl
   cases hpx : p x with
   | true =>
     have hpx' : (Nm.same x.name n && x.kind == k && x.cls == c) = true := by rw [hp] at hpx; exact hpx
     simp only [Bool.and_eq_true, beq_iff_eq] at hpx'
     obtain ⟨⟨e1, e2⟩, e3⟩ := hpx'
     repeat (first | refine goA ?_ | (refine' jU (jc je rfl (QP _ _ ?_ ?_)) rfl ?_; (· omega); (· omega)))
     refine jB (jA [.string (bs x.name), .int .u16 x.kind, .int .u16 x.cls, .int .u32 x.ttl, .slice xa x.data.length xc] rfl stL (List.mem_cons_of_mem _ m1) hcx) rfl ?_
     refine goA ?_
     refine kB 8 122 9 rfl rfl rfl stO (by repeat (exact List.mem_cons_self)) rfl (fun w h => h.tail) ?_
     refine ⟨[.string (bs x.name), .int .u16 x.kind, .int .u16 x.cls, .int .u32 x.ttl, .slice xa x.data.length xc], ?_, ?_, rfl⟩
     · rw [hF, hf1 hpx]
     · rw [hF, hf1 hpx]; exact hx2
   | false =>
     have hpx' : ¬ (Nm.same x.name n = true ∧ x.kind = k ∧ x.cls = c) := fun h => by
      have : p x = true := by rw [hp]; simp [h.1, h.2.1, h.2.2]
      rw [this] at hpx; cases hpx
     have hf3 := hf2 hpx
     clear hcx hf1 hf2 hF
     repeat' (first | refine goA ?_ | (refine' jU (jc je rfl (QP _ _ ?_ ?_)) rfl ?_; (· omega); (· omega)) | refine Jm rfl (fun hc => ?_) (fun hc => ?_) | refine aby rfl rfl (fun hc => ?_) (fun hc => ?_) | refine ahS rfl rfl (fun hc => ?_) (fun hc => ?_))
     all_goals first
      | (refine jh (i + 1) ⟨hlt, hf3⟩ ?_ (fun w h => h) jd; repeat (first | exact trivial | refine ⟨rfl, ?_⟩))
      | exact absurd ⟨by assumption, by assumption, by assumption⟩ hpx'
 · have hin : i = l.length := by omega
   subst hin
   rw [List.drop_length] at heq
   repeat (first | refine goA ?_ | refine jB (jl rfl (ub )) rfl ?_)
   refine kB 8 122 9 rfl rfl rfl stO (by repeat (exact List.mem_cons_self)) rfl (fun w h => h.tail) ?_
   refine ⟨[.string (bs []), .int .u16 0, .int .u16 0, .int .u32 0, .slice none 0 0], ?_, ?_, rfl⟩
   · rw [hF, ← heq]; rfl
   · rw [hF, ← heq]; exact zC
end
end Go.Proofs.YtbjkkoacclfejaaGreat
