/-
 Part 4: Kn Ko Kp Kq Kr Gv Gw Qe Qf Qg Gx Qh Ks Eb Hm Hw Hx Hy.
-/
import Derived.Test.YtbjkkoacclfejaaGreatZq3
import Derived.Test.YtbjkkoacclfejaaGreatZq1
import Derived.Test.YtbjkkoacclfejaaGreatZq2
import Derived.Sort.Walk0
import Derived.Lib.SlicesCompact
set_option maxRecDepth 100000
set_option maxHeartbeats 4000000
set_option linter.unusedVariables false
set_option linter.unusedSimpArgs false
namespace Go.Proofs.YtbjkkoacclfejaaGreat
open Go.RowKit
open Vd (RSet Vdt Vote Rec Quest Piece Ballot)
variable {G : World} {L : ja}
theorem YC {l : List Ballot} {w : Int} (h : (jj l w).1 = 2) : ∃ y ∈ Vd.votesB l, y.up = w := by
 unfold jj at h
 cases hf : l.find? (fun b => b.v.up == w) with
 | none => rw [hf] at h; cases h
 | some b =>
   rw [hf] at h
   have h1 := List.find?_some hf
   have h2 := List.mem_of_find?_eq_some hf
   dsimp only at h
   cases hp : b.pass with
   | true => rw [hp] at h; cases h
   | false => exact ⟨b.v, votesB_mem.2 ⟨b, h2, hp, rfl⟩, by simpa using h1⟩
def agB (l : List Ballot) (f : Int) (w : Int) : Bool := decide ((jj l w).1 = 2) && !decide (((jj l w).1, (jj l w).2) = (2, f))
theorem JX {l : List Ballot} (hl : BoxOk l) {want : Int} {j : Nat} {x : Vote} (hk : WonBy want (Vd.votesB l) j x) : kA want (Vd.votesB l) = nine.filter (agB l (jr (Vd.votesB l) x.vd : Nat)) := by
 have hup := hl.vup
 have hxm := List.mem_of_getElem? hk.at_
 unfold kA
 rw [hk.is]
 rw [if_pos rfl, qz (hup.filter _).nd]
 refine List.filter_congr fun w hw => ?_
 dsimp only
 rw [Bool.eq_iff_iff, decide_eq_true_eq, List.mem_map]
 unfold agB
 rw [Bool.and_eq_true, decide_eq_true_eq, Bool.not_eq_true', decide_eq_false_iff_not]
 constructor
 · rintro ⟨y, hy, rfl⟩
   obtain ⟨h1, h2⟩ := List.mem_filter.1 hy
   rw [kW hl h1]
   refine ⟨rfl, fun e => ?_⟩
   have h3 : ¬ y.vd = x.vd := by simpa using h2
   refine h3 ((qM h1 hxm).1 ?_)
   have := (Prod.mk.inj e).2
   omega
 · rintro ⟨h1, h2⟩
   obtain ⟨y, hy, rfl⟩ := YC h1
   refine ⟨y, List.mem_filter.2 ⟨hy, ?_⟩, rfl⟩
   rw [kW hl hy] at h2
   have : ¬ y.vd = x.vd := fun e => h2 (by rw [e])
   simpa using this
def Jt (l : List Ballot) (w : Int) (n : Nat) : Nat := (nine.take n).countP fun t => decide (((jj l t).1, (jj l t).2) = ((jj l w).1, (jj l w).2))
theorem Kk {l : List Ballot} (hl : BoxOk l) {y : Vote} (hy : y ∈ Vd.votesB l) : Jt l y.up 9 = (jM (Vd.votesB l) y.vd).length := by
 have hup := hl.vup
 have h1 := u9 (hup.filter fun x => decide (x.vd = y.vd)).nd (hup.filter _).ups
 rw [List.length_map] at h1
 unfold jM
 rw [← h1, qz (hup.filter _).nd, ← List.countP_eq_length_filter]
 unfold Jt
 have : nine.take 9 = nine := rfl
 rw [this]
 refine List.countP_congr fun w hw => ?_
 rw [decide_eq_true_eq, decide_eq_true_eq, List.mem_map, kW hl hy]
 constructor
 · intro e
   obtain ⟨z, hz, rfl⟩ := YC (l := l) (w := w) (Prod.mk.inj e).1
   rw [kW hl hz] at e
   refine ⟨z, List.mem_filter.2 ⟨hz, ?_⟩, rfl⟩
   have := (Prod.mk.inj e).2
   simpa using (qM hz hy).1 jf
 · rintro ⟨z, hz, rfl⟩
   obtain ⟨h2, h3⟩ := List.mem_filter.1 hz
   rw [kW hl h2]
   rw [of_decide_eq_true h3]
def qU (l : List Ballot) (n : Nat) : Int := (nine.take n).foldl (fun m w => if (jj l w).1 = 2 then max m ((Jt l w 9 : Nat) : Int) else m) 0
theorem yC {l : List Ballot} {m : Int} : ∀ {ws : List Int} {k : Int}, ws.foldl (fun m w => if (jj l w).1 = 2 then max m ((Jt l w 9 : Nat) : Int) else m) k ≤ m ↔ k ≤ m ∧ ∀ w ∈ ws, (jj l w).1 = 2 → ((Jt l w 9 : Nat) : Int) ≤ m := by
 intro ws
 induction ws with
 | nil => intro k; simp
 | cons w r ih =>
   intro k
   rw [List.foldl_cons, ih]
   simp only [List.mem_cons, forall_eq_or_imp]
   split
   · rename_i h
     constructor
     · rintro ⟨h1, h2⟩; exact ⟨by omega, fun _ => by omega, h2⟩
     · rintro ⟨h1, h2, h3⟩; have := h2 h; exact ⟨by omega, h3⟩
   · rename_i h
     constructor
     · rintro ⟨h1, h2⟩; exact ⟨h1, fun k => absurd k h, h2⟩
     · rintro ⟨h1, h2, h3⟩; exact ⟨h1, h3⟩
theorem YD {l : List Ballot} (hl : BoxOk l) : qU l 9 = qL (Vd.votesB l) := by
 have hup := hl.vup
 have h0 : qU l 9 ≤ qU l 9 := Int.le_refl _
 have h1 := (yC (l := l) (ws := nine.take 9)).1 h0
 have h2 : qL (Vd.votesB l) ≤ qU l 9 := mostR_le.2 ⟨h1.1, fun x hx => by
  rw [← Kk hl hx]
  refine h1.2 x.up (mem_nine.2 (hup.up x hx)) ?_
  rw [kW hl hx]⟩
 have h3 : qU l 9 ≤ qL (Vd.votesB l) := (yC (l := l) (ws := nine.take 9)).2 ⟨yA _, fun w hw h => by
  obtain ⟨y, hy, rfl⟩ := YC h
  rw [Kk hl hy]
  exact Yw hy⟩
 omega
theorem Qj {u : Nat} (h : u < 9) : nine[u]? = some (u : Int) := by
 match u, h with
 | 0, _ | 1, _ | 2, _ | 3, _ | 4, _ | 5, _ | 6, _ | 7, _ | 8, _ => rfl
theorem yV {f : Int → Int × Int} {u : Nat} (h : u < 9) : (kj f).toArray.extract ((u : Int).toNat * 2) ((u : Int).toNat * 2 + 2) = #[.int .u8 (f u).1, .int .i64 (f u).2] := by
 match u, h with
 | 0, _ | 1, _ | 2, _ | 3, _ | 4, _ | 5, _ | 6, _ | 7, _ | 8, _ => rfl
theorem yD {want : Int} {f : Int → Int × Int} {v : Value} : ∀ j x, (kj f)[j]? = some x → (jW want f v).toArray[0 + 1 + j]? = some x := fun j x hj => by
 have hl : (kj f).length = 18 := rfl
 have hj2 := (List.getElem?_eq_some_iff.1 hj).1
 unfold jW
 rw [Nat.zero_add, Nat.add_comm, List.getElem?_toArray, List.getElem?_cons_succ, List.getElem?_append_left hj2]
 exact hj
theorem YE : nine.length = 9 := rfl
theorem UZ {K : ja} (bb : Nat) (want : Int) (l : List Ballot) (a : Option Addr) (c : Nat) (hm : (bb, Obj.cells (jW want (jj l) (.slice a (Vd.votesB l).length c)).toArray 165 (0, 0)) ∈ L) (hv : sliceR 5 (fun _ => voteR K) L [.slice a (Vd.votesB l).length c] (Vd.votesB l)) (hl : BoxOk l) (hn : l.length ≤ 9) :
 Spec Tryz.prog G 190 #[.pointer (some ⟨bb, 0, none⟩)] L fun u M => ∃ a3 c3 B3, u = .slice a3 (if want < 1 then [] else kA want (Vd.votesB l)).length c3 ∧ ORow (uZ .i64) 3 1 [] a3 c3 (if want < 1 then [] else kA want (Vd.votesB l)) B3 ∧ M = B3 ++ L := by
 have hvl := jY l
 have hup := hl.vup
 refine jm (n := 37) Tryz.func190 rfl rfl rfl ?_
 refine goA ?_
 refine jX (jb jg rfl (J9 bb want l a c hm hv hl hn)) rfl ?_
 by_cases hno : want < 1 ∨ j6 want (Vd.votesB l) (Vd.votesB l).length = none
 · have hW : u4 want (Vd.votesB l) = ((0, 0), false) := by
    unfold u4
    by_cases hw : want < 1
    · rw [if_pos hw]
    · rw [if_neg hw, hno.resolve_left hw]
   have hR : (if want < 1 then [] else kA want (Vd.votesB l)) = [] := by
    by_cases hw : want < 1
    · rw [if_pos hw]
    · rw [if_neg hw]
      unfold kA qr
      rw [hno.resolve_left hw]
      rfl
   rw [hW, hR]
   repeat (first | refine goA ?_ | (refine j5 ?_; intro bNew))
   refine jH (L' := L) ?_ jl
   refine je 2 _ rfl rfl ?_
   exact ⟨none, 0, [], rfl, ORow.nil _, rfl⟩
 · have hw : ¬ want < 1 := fun h => hno (Or.inl h)
   have hw1 : 1 ≤ want := by omega
   obtain ⟨j, x, hk⟩ : ∃ j x, WonBy want (Vd.votesB l) j x := by
    rcases Yv hw1 (Vd.votesB l) with ⟨h, _⟩ | h
    · exact absurd (Or.inr h) hno
    · exact h
   have hW : u4 want (Vd.votesB l) = ((2, (jr (Vd.votesB l) x.vd : Int)), true) := by
    unfold u4
    rw [if_neg hw, hk.yes]
    dsimp only
    rw [hk.at_]
   rw [hW, if_neg hw, JX hl hk]
   obtain ⟨fx, hfx⟩ : ∃ f, jr (Vd.votesB l) x.vd = f := ⟨_, rfl⟩
   rw [hfx]
   obtain ⟨vv, hvv⟩ : ∃ v, Value.slice a (Vd.votesB l).length c = v := ⟨_, rfl⟩
   rw [hvv] at hm
   repeat (first | refine goA ?_ | (refine j5 ?_; intro bNew))
   obtain ⟨b3, hb3⟩ : ∃ b, bNew = b := ⟨_, rfl⟩
   rw [hb3]
   clear hb3 bNew
   refine ju (yB (kj (jj l)) rfl unO jg (List.mem_cons_of_mem _ hm) yD) rfl ?_
   refine goA ?_
   refine jB (σ := Nat × Option Addr × Nat × ja) (fun y => y.1 ≤ 9 ∧ ORow (uZ .i64) 3 1 [] y.2.1 y.2.2.1 ((nine.take y.1).filter (agB l (fx : Nat))) y.2.2.2) (fun y => [(3, .pointer (some ⟨b3, 0, none⟩)), (5, .slice y.2.1 ((nine.take y.1).filter (agB l (fx : Nat))).length y.2.2.1), (18, .agg (kj (jj l)).toArray), (19, .int .i64 (y.1 : Nat))]) (fun y => y.2.2.2 ++ ((b3, Obj.cells #[.int .u8 2, .int .i64 (fx : Nat)] 162 (0, 0)) :: L)) (fun y => 9 - y.1) (0, none, 0, []) ⟨Nat.zero_le _, ORow.nil _⟩ ?_ (fun w h => h) ?_
   exact jv
   rintro ⟨i, a4, c4, B4⟩ ⟨hi, hB4⟩
   dsimp only at hi hB4 ⊢
   have hl4 := List.length_filter_le (agB l (fx : Nat)) (nine.take i)
   rw [List.length_take, YE] at hl4
   by_cases hil : i < 9
   · have hext := yV (f := jj l) hil
     have htk : nine.take (i + 1) = nine.take i ++ [(i : Int)] := by rw [List.take_add_one, Qj hil]; rfl
     refine goA ?_
     refine ju (Qi rfl rfl unO stO jf jf) rfl ?_
     rw [hext]
     repeat (first | refine goA ?_ | (refine j5 ?_; intro bNew))
     obtain ⟨b7, hb7⟩ : ∃ b, bNew = b := ⟨_, rfl⟩
     rw [hb7]
     clear hb7 bNew
     by_cases hk2 : (jj l (i : Int)).1 = 2
     · by_cases hne : ((jj l (i : Int)).1, (jj l (i : Int)).2) = (2, ((fx : Nat) : Int))
       · have hq : (!decide (((jj l (i : Int)).1, (jj l (i : Int)).2) = (2, ((fx : Nat) : Int)))) = false := by simp [hne]
         have hp : (nine.take (i + 1)).filter (agB l (fx : Nat)) = (nine.take i).filter (agB l (fx : Nat)) := by
          have : agB l (fx : Nat) (i : Int) = false := by unfold agB; rw [hq, Bool.and_false]
          rw [htk, List.filter_append]
          simp [this]
         repeat (first | refine goA ?_ | refine jA (qp rfl rfl yU) rfl ?_)
         refine jk (i + 1, a4, c4, B4) ⟨hil, by dsimp only; rw [hp]; exact hB4⟩ ?_ (fun w h => h.cnt jl) (by dsimp only; omega)
         dsimp only
         rw [hp]
         exact jv
       · have hq : (!decide (((jj l (i : Int)).1, (jj l (i : Int)).2) = (2, ((fx : Nat) : Int)))) = true := by simp [hne]
         have hp : (nine.take (i + 1)).filter (agB l (fx : Nat)) = (nine.take i).filter (agB l (fx : Nat)) ++ [(i : Int)] := by
          have : agB l (fx : Nat) (i : Int) = true := by unfold agB; rw [hq, hk2]; rfl
          rw [htk, List.filter_append]
          simp [this]
         repeat (first | refine goA ?_ | refine jA (qp rfl rfl yU) rfl ?_ | (refine uf ?_; intro bLit))
         refine jy (L' := (bLit, Obj.cells #[.int .i64 (i : Nat)] 3 (0, 0)) :: (B4 ++ ((b3, Obj.cells #[.int .u8 2, .int .i64 (fx : Nat)] 162 (0, 0)) :: L))) ?_ jl
         refine jx (Ue etO rfl rfl hB4 (YB ⟨by omega, by omega⟩) jf (by decide)) rfl ?_
         rintro _ _ ⟨a5, c5, B5, rfl, hB5, rfl⟩
         rw [← hp] at hB5 ⊢
         refine goA ?_
         refine jk (i + 1, a5, c5, B5) ⟨hil, hB5⟩ ?_ (fun w h => h.cnt jl) (by dsimp only; omega)
         exact jv
     · have hp : (nine.take (i + 1)).filter (agB l (fx : Nat)) = (nine.take i).filter (agB l (fx : Nat)) := by
        have : agB l (fx : Nat) (i : Int) = false := by unfold agB; rw [decide_eq_false hk2, Bool.false_and]
        rw [htk, List.filter_append]
        simp [this]
       refine goA ?_
       refine jk (i + 1, a4, c4, B4) ⟨hil, by dsimp only; rw [hp]; exact hB4⟩ ?_ (fun w h => h.cnt jl) (by dsimp only; omega)
       dsimp only
       rw [hp]
       exact jv
   · have hie : i = 9 := by omega
     subst hie
     have h9 : nine.take 9 = nine := rfl
     rw [h9] at hB4 ⊢
     refine goA ?_
     refine jH (L' := B4 ++ L) ?_ jl
     refine je 2 _ rfl rfl ?_
     exact ⟨a4, c4, B4, rfl, hB4, rfl⟩
theorem aaj (bb : Nat) (want : Int) (l : List Ballot) (vv : Value) (hm : (bb, Obj.cells (jW want (jj l) vv).toArray 165 (0, 0)) ∈ L) (hl : BoxOk l) :
 Spec Tryz.prog G 186 #[.pointer (some ⟨bb, 0, none⟩)] L fun u M => u = .int .i64 (qL (Vd.votesB l)) ∧ M = L := by
 have hcs : ∀ w n, Jt l w n ≤ n := fun w n => Nat.le_trans List.countP_le_length (by rw [List.length_take]; omega)
 have hms : ∀ n, 0 ≤ qU l n ∧ qU l n ≤ 9 := fun n => by
  have h1 := (yC (l := l) (ws := nine.take n) (k := 0)).1 (Int.le_refl _)
  refine ⟨h1.1, (yC (l := l) (ws := nine.take n) (k := 0)).2 ⟨by omega, fun w _ _ => ?_⟩⟩
  have := hcs w 9
  omega
 refine jm (n := 39) Tryz.func186 rfl rfl rfl ?_
 refine goA ?_
 refine ju (yB (kj (jj l)) rfl unO jg hm yD) rfl ?_
 refine goA ?_
 refine jB (σ := Nat) (fun y => y ≤ 9) (fun y => [(0, .pointer (some ⟨bb, 0, none⟩)), (3, .int .i64 (qU l y)), (14, .agg (kj (jj l)).toArray), (15, .int .i64 (y : Nat))]) (fun y => L) (fun y => 9 - y) 0 (Nat.zero_le _) ?_ (fun w h => h) ?_
 exact jv
 rintro i hi
 by_cases hil : i < 9
 · have hext := yV (f := jj l) hil
   have htk : nine.take (i + 1) = nine.take i ++ [(i : Int)] := by rw [List.take_add_one, Qj hil]; rfl
   have hmn : qU l (i + 1) = if (jj l (i : Int)).1 = 2 then max (qU l i) ((Jt l (i : Int) 9 : Nat) : Int) else qU l i := by
    unfold qU
    rw [htk, List.foldl_append]
    rfl
   refine goA ?_
   refine ju (Qi rfl rfl unO stO jf jf) rfl ?_
   rw [hext]
   repeat (first | refine goA ?_ | (refine j5 ?_; intro bNew))
   obtain ⟨b5, hb5⟩ : ∃ b, bNew = b := ⟨_, rfl⟩
   rw [hb5]
   clear hb5 bNew
   by_cases hk2 : (jj l (i : Int)).1 = 2
   · rw [if_pos hk2] at hmn
     refine goA ?_
     refine ju (yB (kj (jj l)) rfl unO jg (List.mem_cons_of_mem _ hm) yD) rfl ?_
     refine goA ?_
     refine jB (σ := Nat) (fun y => y ≤ 9) (fun y => [(0, .pointer (some ⟨bb, 0, none⟩)), (3, .int .i64 (qU l i)), (5, .pointer (some ⟨b5, 0, none⟩)), (6, .int .i64 (Jt l (i : Int) y : Nat)), (14, .agg (kj (jj l)).toArray), (15, .int .i64 (i : Nat)), (24, .agg (kj (jj l)).toArray), (25, .int .i64 (y : Nat))]) (fun y => (b5, Obj.cells #[.int .u8 (jj l (i : Int)).1, .int .i64 (jj l (i : Int)).2] 162 (0, 0)) :: L) (fun y => 9 - y) 0 (Nat.zero_le _) ?_ (fun w h => h) ?_
     exact jv
     rintro k hk
     by_cases hkl : k < 9
     · have hextk := yV (f := jj l) hkl
       have htkk : nine.take (k + 1) = nine.take k ++ [(k : Int)] := by rw [List.take_add_one, Qj hkl]; rfl
       have hcn : Jt l (i : Int) (k + 1) = Jt l (i : Int) k + if decide (((jj l (k : Int)).1, (jj l (k : Int)).2) = ((jj l (i : Int)).1, (jj l (i : Int)).2)) = true then 1 else 0 := by
        unfold Jt
        rw [htkk, List.countP_append, List.countP_cons, List.countP_nil, Nat.zero_add]
       have hck := hcs (i : Int) k
       refine goA ?_
       refine ju (Qi rfl rfl unO stO jf jf) rfl ?_
       rw [hextk]
       cases hd : decide (((jj l (k : Int)).1, (jj l (k : Int)).2) = ((jj l (i : Int)).1, (jj l (i : Int)).2)) with
       | true =>
         rw [hd, if_pos rfl] at hcn
         repeat (first | refine goA ?_ | refine ju (qp rfl rfl Kh) rfl ?_ | (refine j5 ?_; intro bNew))
         refine jk (k + 1) hkl ?_ (fun w h => h.cnt jl) jf
         rw [hcn]
         exact jv
       | false =>
         rw [hd, if_neg (by simp)] at hcn
         repeat (first | refine goA ?_ | refine ju (qp rfl rfl Kh) rfl ?_ | (refine j5 ?_; intro bNew))
         refine jk (k + 1) hkl ?_ (fun w h => h.cnt jl) jf
         rw [hcn]
         exact jv
     · have hke : k = 9 := by omega
       subst hke
       have hms1 := hms i
       have hck := hcs (i : Int) 9
       refine goA ?_
       refine jk (i + 1) hil ?_ (fun w h => h.cnt jl) jf
       rw [hmn]
       exact jv
   · rw [if_neg hk2] at hmn
     refine goA ?_
     refine jk (i + 1) hil ?_ (fun w h => h.cnt jl) jf
     rw [hmn]
     exact jv
 · have hie : i = 9 := by omega
   subst hie
   rw [YD hl]
   refine goA ?_
   refine je 2 _ rfl rfl ?_
   exact ⟨rfl, rfl⟩
end Go.Proofs.YtbjkkoacclfejaaGreat
namespace Go.Proofs.YtbjkkoacclfejaaGreat
open Go.RowKit
open Vd (RSet Vdt Vote Rec Quest Piece Ballot)
variable {G : World} {L : ja}
def afT (l : List Int) (n : Nat) : List Int := (List.range n).flatMap fun (n : Nat) => l.filter fun x => x == (n : Int)
def ad6 (K L : ja) (r : Vdt × Int × List Int × Bool) (u : Value) (M : ja) : Prop := ∃ cs a3 c3 B3, u = .tuple #[.agg cs.toArray, .int .u32 r.2.1, .slice a3 r.2.2.1.length c3, .bool r.2.2.2] ∧ vdR K cs r.1 ∧ ORow (uZ .i64) 3 1 [] a3 c3 r.2.2.1 B3 ∧ M = B3 ++ L
end Go.Proofs.YtbjkkoacclfejaaGreat
namespace Go.Proofs.YtbjkkoacclfejaaGreat
open Go.RowKit
open Vd (RSet Vdt Vote Rec Quest Piece Ballot)
variable {G : World} {L : ja}
structure BallC (K : ja) (C : Array Value) (o : Nat) (x : Ballot) (a1 : Option Addr) (c1 : Nat) (a2 : Option Addr) (c2 : Nat) : Prop where
 up : C[o + 0 + 0]? = some (.int .i64 x.v.up)
 pass : C[o + 5]? = some (.bool x.pass)
 vd : ∀ j v, ([.int .u8 x.v.vd.code, .slice a1 x.v.vd.sets.length c1, .slice a2 x.v.vd.soa.length c2] : List Value)[j]? = some v → C[o + 0 + 1 + j]? = some v
 is : vdR K [.int .u8 x.v.vd.code, .slice a1 x.v.vd.sets.length c1, .slice a2 x.v.vd.soa.length c2] x.v.vd
 bd : -9223372036854775808 ≤ x.v.up ∧ x.v.up ≤ 9223372036854775807
end Go.Proofs.YtbjkkoacclfejaaGreat
namespace Go.Proofs.YtbjkkoacclfejaaGreat
open Go.RowKit
open Vd (RSet Vdt Vote Rec Quest Piece Ballot)
variable {G : World} {L : ja}
theorem abp (want : Int) : Spec Tryz.prog G 41 #[.int .i64 want] L fun u M => (1 ≤ want ∧ want ≤ 9 ∧ ∃ bb, u = .tuple #[.pointer (some ⟨bb, 0, none⟩), .int .i64 0] ∧ M = (bb, Obj.cells (jW want (jj []) (.slice none (Vd.votesB []).length 0)).toArray 165 (0, 0)) :: L) ∨ ((want < 1 ∨ 9 < want) ∧ u = .tuple #[.pointer none, .int .i64 1] ∧ M = L) := by
 refine jm (n := 13) Tryz.func41 rfl rfl rfl ?_
 by_cases h1 : want < 1
 · refine goA ?_
   refine qj 2 3 _ _ rfl rfl rfl ?_
   exact Or.inr ⟨Or.inl h1, rfl, rfl⟩
 · by_cases h9 : 9 < want
   · refine goA ?_
     refine qj 2 3 _ _ rfl rfl rfl ?_
     exact Or.inr ⟨Or.inr h9, rfl, rfl⟩
   · repeat (first | refine goA ?_ | (refine kK ?_; intro bBox) | refine ju (jo rfl (QI _)) rfl ?_)
     refine qj 2 3 _ _ rfl rfl rfl ?_
     exact Or.inl ⟨by omega, by omega, _, rfl, rfl⟩
end Go.Proofs.YtbjkkoacclfejaaGreat
namespace Go.Proofs.YtbjkkoacclfejaaGreat
open Go.RowKit
open Vd (RSet Vdt Vote Rec Quest Piece Ballot)
variable {G : World} {L : ja}
theorem Wk {w : Int} {m c : Nat} {ad : Option Addr} {v0 v1 v2 v3 v4 v5 v6 v7 v8 v9 v10 v11 v12 v13 v14 v15 v16 v17 : Value} : Built Tryz.prog 165 [(0, .int .i64 w), (1, .agg #[v0, v1, v2, v3, v4, v5, v6, v7, v8, v9, v10, v11, v12, v13, v14, v15, v16, v17]), (2, .slice ad m c)] (.agg #[.int .i64 w, v0, v1, v2, v3, v4, v5, v6, v7, v8, v9, v10, v11, v12, v13, v14, v15, v16, v17, .slice ad m c]) := ⟨fun w => by kernel_rfl⟩
theorem aak {K : ja} (bb : Nat) (want : Int) (l : List Ballot) (M0 : ja) (hb : TBox K bb want l M0) (hK : ∀ p ∈ K, p ∈ L) (hn : l.length ≤ 9) (hs : ∀ x ∈ Vd.votesB l, SmV x.vd) :
 Spec Tryz.prog G 51 #[.pointer (some ⟨bb, 0, none⟩)] (M0 ++ L) fun u M => ∃ b2 M2 N, u = .pointer (some ⟨b2, 0, none⟩) ∧ TBox N b2 want l M2 ∧ Wr N ∧ M = M2 ++ (N ++ (M0 ++ L)) := by
 obtain ⟨a, c, B, hB, rfl⟩ := hb
 have hvl := jY l
 have g0 : (jW want (jj l) (.slice a (Vd.votesB l).length c)).toArray[0 + 0]? = some (.int .i64 want) := rfl
 have g19 : (jW want (jj l) (.slice a (Vd.votesB l).length c)).toArray[0 + 19]? = some (.slice a (Vd.votesB l).length c) := rfl
 have hv : sliceR 5 voteR ((bb, Obj.cells (jW want (jj l) (.slice a (Vd.votesB l).length c)).toArray 165 (0, 0)) :: (B ++ L)) [.slice a (Vd.votesB l).length c] (Vd.votesB l) := (hB.mono kz (fun p hp => List.mem_cons_of_mem _ (List.mem_append_right _ (hK p hp)))).sliceR kz (fun p h => h) jt
 have hKm : ∀ q ∈ [(bb, Obj.cells (jW want (jj l) (.slice a (Vd.votesB l).length c)).toArray 165 (0, 0))], q ∈ ((bb, Obj.cells (jW want (jj l) (.slice a (Vd.votesB l).length c)).toArray 165 (0, 0)) :: B) ++ L := by
  intro q hq
  rw [List.mem_singleton.1 hq]
  simp
 refine jm (n := 20) Tryz.func51 rfl rfl rfl ?_
 repeat (first | refine goA ?_ | (refine kK ?_; intro bBox) | refine ju (jo rfl (bl_165_0_1_2 )) rfl ?_)
 refine jw jc ([(bb, Obj.cells (jW want (jj l) (.slice a (Vd.votesB l).length c)).toArray 165 (0, 0))]) [] ?_
 refine tkQ 0 ?_
 refine tkQ 1 ?_
 refine tkQ 2 ?_
 refine tkQ 3 ?_
 refine tkQ 4 ?_
 refine tkQ 5 ?_
 refine tkQ 6 ?_
 first | (refine' jz 7 rfl rfl jg (jJ (yB (kj (jj l)) rfl unO jg (List.mem_cons_self ..) yD)) ?_ ?_; (· first | assumption | (intro p hp; grind)))
 refine tkQ 8 ?_
 refine tkQ 9 ?_
 refine tkQ 10 ?_
 refine tkQ 11 ?_
 refine jO 12 jg rfl rfl rfl rfl (jb jg rfl (yy _ (Vd.votesB l) hv jf hs)) ?_; rintro _ _ ⟨a2, c2, B2, N, rfl, hB2, hN, rfl⟩; refine ⟨Or.inr (fun q hq => List.mem_append_right _ (List.mem_append_right _ (hKm q hq))), ?_⟩
 first | (refine' jz 13 rfl rfl jg (jJ (jo rfl Wk)) ?_ ?_; (· first | assumption | (intro p hp; grind)))
 refine jO 14 jg rfl rfl rfl rfl (kE rfl) ?_; rintro _ _ ⟨b2, rfl, rfl⟩; refine ⟨Or.inr (fun q hq => List.mem_cons_of_mem _ (List.mem_append_right _ (List.mem_append_right _ (hKm q hq)))), ?_⟩
 refine tkQ 15 ?_
 refine tdQ ?_
 repeat (first | refine goA ?_ | (refine kK ?_; intro bBox) | refine ju (jo rfl (bl_165_0_1_2 )) rfl ?_)
 refine je 2 _ rfl rfl ?_
 exact ⟨b2, _, N, rfl, ⟨a2, c2, B2, hB2, rfl⟩, hN, rfl⟩
end Go.Proofs.YtbjkkoacclfejaaGreat
namespace Go.Proofs.YtbjkkoacclfejaaGreat
open Go.RowKit
open Vd (RSet Vdt Vote Rec Quest Piece Ballot Said)
def endedR (q : Quest) (K D : ja) : List Value → Vote → Prop := fun cs x => ∃ a1 c1 a2 c2 a3 c3, cs = [.int .i64 x.up, .int .u8 x.vd.code, .slice a1 x.vd.sets.length c1, .slice a2 x.vd.soa.length c2, .int .u32 x.time, .string (bs (Vd.endV q x.vd).1.name), .int .u16 (Vd.endV q x.vd).1.kind, .int .u16 (Vd.endV q x.vd).1.cls, .int .u32 (Vd.endV q x.vd).1.ttl, .slice a3 (Vd.endV q x.vd).1.data.length c3, .bool (Vd.endV q x.vd).2] ∧
 voteR K [.int .i64 x.up, .int .u8 x.vd.code, .slice a1 x.vd.sets.length c1, .slice a2 x.vd.soa.length c2, .int .u32 x.time] x ∧ rsR D [.string (bs (Vd.endV q x.vd).1.name), .int .u16 (Vd.endV q x.vd).1.kind, .int .u16 (Vd.endV q x.vd).1.cls, .int .u32 (Vd.endV q x.vd).1.ttl, .slice a3 (Vd.endV q x.vd).1.data.length c3] (Vd.endV q x.vd).1
def qc (q : Quest) (x : Vote) : List Vd.Bytes := if (Vd.endV q x.vd).2 then (Vd.endV q x.vd).1.data else []
def jK (q : Quest) (l : List Vote) : List Vd.Bytes := l.flatMap (qc q)
theorem yE {q : Quest} {l : List Vote} {i : Nat} {x : Vote} (h : l[i]? = some x) : jK q (l.take (i + 1)) = jK q (l.take i) ++ qc q x := by
 unfold jK
 rw [List.take_add_one, h]
 simp
theorem zA (q : Quest) (n : Nat) (l : List Vote) (hl : ∀ x ∈ l, (Vd.endV q x.vd).1.data.length ≤ n) : ∀ i, i ≤ l.length → (jK q (l.take i)).length ≤ i * n
 | 0, _ => by simp [jK]
 | i + 1, h => by
   have ih := zA q n l hl i jf
   have hx : l[i]? = some l[i] := List.getElem?_eq_getElem jf
   rw [yE hx, List.length_append, Nat.succ_mul]
   have := hl l[i] (List.getElem_mem _)
   unfold qc
   split <;> simp <;> omega
variable {G : World} {L : ja}
theorem Wl {K D : ja} (v : Value) (q : Quest) (l : List Vote) (hDL : ∀ p ∈ D, p ∈ L) (hq1 : q.name.length ≤ 1000000) (hq2 : 0 ≤ q.kind ∧ q.kind ≤ 65535) (hq3 : 0 ≤ q.cls ∧ q.cls ≤ 65535) (hl : sliceR 11 (fun _ => endedR q K D) L [v] l) (hn : l.length ≤ 100) (hd : ∀ x ∈ l, (Vd.endV q x.vd).1.data.length ≤ 600) :
 Spec Tryz.prog G 83 #[.agg #[.string (bs q.name), .int .u16 q.kind, .int .u16 q.cls], v] L (Ym L ⟨0, [⟨Nm.fold q.name, q.kind, q.cls, 0, Lib.compact ((jK q l).mergeSort fun x y => decide (x ≤ y))⟩], []⟩) := by
 obtain ⟨av, cv, e1, hl⟩ := hl.val
 simp only [List.cons.injEq, and_true] at e1
 subst e1
 obtain ⟨_, ka1, ka2, hl⟩ := sliceR.cut hl
 have hln := zA q 600 l hd
 refine jm (n := 42) Tryz.func83 rfl rfl rfl ?_
 refine jU (jI (jP (kE rfl) rfl ?_))
 intro bQ
 refine jP (kt (C := #[.int .u8 0, .slice none 0 0, .slice none 0 0]) zeO rfl) rfl ?_
 intro b4
 have hKm : ∀ z ∈ [(bQ, Obj.cells #[.string (bs q.name), .int .u16 q.kind, .int .u16 q.cls] 24 (0, 0))], z ∈ (b4, Obj.cells #[.int .u8 0, .slice none 0 0, .slice none 0 0] 40 (0, 0)) :: ((bQ, Obj.cells #[.string (bs q.name), .int .u16 q.kind, .int .u16 q.cls] 24 (0, 0)) :: L) := jt
 refine goA ?_
 refine jw jc ([(bQ, Obj.cells #[.string (bs q.name), .int .u16 q.kind, .int .u16 q.cls] 24 (0, 0))]) [] ?_
 refine tkQ 0 ?_
 refine tkQ 1 ?_
 refine' jz 2 rfl rfl jg (q9 jg rfl (fun _ _ => UT _ ?_)) ?_ ?_; (· omega); (· assumption)
 refine tkQ 3 ?_
 refine tkQ 4 ?_
 refine tkQ 5 ?_
 refine tkQ 6 ?_
 (refine' jz 7 rfl rfl jg (jJ (jo rfl (yq _ _ _))) ?_ ?_; (· assumption))
 refine jO 8 jg rfl rfl rfl rfl (kt (C := #[.string (bs []), .int .u16 0, .int .u16 0, .int .u32 0, .slice none 0 0]) zeO rfl) ?_; rintro _ _ ⟨b5, rfl, rfl⟩; refine ⟨Or.inr jt, ?_⟩
 refine kf 9 jg rfl rfl rfl (qT rfl rfl stO rfl rfl rfl) ?_; rintro _ _ ⟨_, rfl⟩; refine ⟨Or.inr jt, ?_⟩
 refine tdQ ?_
 refine goA ?_
 refine jB (σ := Nat × Option Addr × Nat × ja) (fun y => y.1 ≤ l.length ∧ ORow qO 9 1 [] y.2.1 y.2.2.1 (jK q (l.take y.1)) y.2.2.2) (fun y => [(4, .pointer (some ⟨b4, 0, none⟩)), (5, .pointer (some ⟨b5, 0, none⟩)), (16, .slice av l.length cv), (17, .int .i64 (l.length : Nat)), (18, .int .i64 (y.1 : Nat))])
  (fun y => (b5, Obj.cells #[.string (bs (Nm.fold q.name)), .int .u16 q.kind, .int .u16 q.cls, .int .u32 0, .slice y.2.1 (jK q (l.take y.1)).length y.2.2.1] 122 (0, 0)) :: ((b4, Obj.cells #[.int .u8 0, .slice none 0 0, .slice none 0 0] 40 (0, 0)) :: (y.2.2.2 ++ L))) (fun y => l.length - y.1) (0, none, 0, []) ⟨Nat.zero_le _, ORow.nil _⟩ ?_ (fun w h => Heap.cnt (L' := (b5, Obj.cells #[.string (bs (Nm.fold q.name)), .int .u16 q.kind, .int .u16 q.cls, .int .u32 0, .slice none 0 0] 122 (0, 0)) :: ((b4, Obj.cells #[.int .u8 0, .slice none 0 0, .slice none 0 0] 40 (0, 0)) :: ([] ++ L))) h jl) ?_
 exact jv
 rintro ⟨i, a, c, B⟩ ⟨hi, hB⟩
 dsimp only at hi hB ⊢
 have hlni := hln i hi
 have hlb : i * 600 ≤ 100 * 600 := Nat.mul_le_mul_right _ jf
 by_cases hil : i < l.length
 · obtain ⟨x, hx⟩ : ∃ x, l[i]? = some x := ⟨_, List.getElem?_eq_getElem hil⟩
   have hxm := List.mem_of_getElem? hx
   have htk := yE (q := q) hx
   rcases hl with rfl | ⟨b1, o1, C1, t1, f1, rfl, m1, q1⟩
   · simp at hil
   obtain ⟨_, _, ⟨a1, c1, a2, c2, a3, c3, rfl, _, hend⟩, hcx⟩ := q1 i x hx
   obtain ⟨a3', c3', hee, hed, _⟩ := hend.vals
   simp only [List.cons.injEq, and_true, true_and, Value.slice.injEq] at hee
   obtain ⟨rfl, rfl⟩ := hee
   have hdx := hd x hxm
   have m1' : (b1, Obj.cells C1 t1 f1) ∈ (b5, Obj.cells #[.string (bs (Nm.fold q.name)), .int .u16 q.kind, .int .u16 q.cls, .int .u32 0, .slice a (jK q (l.take i)).length c] 122 (0, 0)) :: ((b4, Obj.cells #[.int .u8 0, .slice none 0 0, .slice none 0 0] 40 (0, 0)) :: (B ++ L)) := List.mem_cons_of_mem _ (List.mem_cons_of_mem _ (List.mem_append_right _ m1))
   refine goA ?_
   refine ju (jD [.int .i64 x.up, .int .u8 x.vd.code, .slice a1 x.vd.sets.length c1, .slice a2 x.vd.soa.length c2, .int .u32 x.time, .string (bs (Vd.endV q x.vd).1.name), .int .u16 (Vd.endV q x.vd).1.kind, .int .u16 (Vd.endV q x.vd).1.cls, .int .u32 (Vd.endV q x.vd).1.ttl, .slice a3 (Vd.endV q x.vd).1.data.length c3, .bool (Vd.endV q x.vd).2] rfl stL m1' hcx) rfl ?_
   cases his : (Vd.endV q x.vd).2 with
   | false =>
     have hed0 : qc q x = [] := by unfold qc; rw [his]; rfl
     rw [hed0, List.append_nil] at htk
     repeat (first | refine goA ?_ | (refine j5 ?_; intro bNew))
     refine jk (i + 1, a, c, B) ⟨hil, by dsimp only; rw [htk]; exact hB⟩ ?_ (fun w h => by dsimp only; rw [htk]; exact h.tail) (by dsimp only; omega)
     exact jv
   | true =>
     have hed0 : qc q x = (Vd.endV q x.vd).1.data := by unfold qc; rw [his]; rfl
     rw [hed0] at htk
     repeat (first | refine goA ?_ | (refine j5 ?_; intro bNew))
     refine jy (L' := B ++ ((b5, Obj.cells #[.string (bs (Nm.fold q.name)), .int .u16 q.kind, .int .u16 q.cls, .int .u32 0, .slice a (jK q (l.take i)).length c] 122 (0, 0)) :: ((b4, Obj.cells #[.int .u8 0, .slice none 0 0, .slice none 0 0] 40 (0, 0)) :: L))) ?_ jl
     refine jx (QM (L0 := D) (l := jK q (l.take i)) (m := (Vd.endV q x.vd).1.data) etO rfl rfl rfl rfl (hB.mono kI (by simp)) hed (fun p hp => List.mem_cons_of_mem _ (List.mem_cons_of_mem _ (hDL p hp))) kI VI jf (by decide)) rfl ?_
     rintro _ _ ⟨a', c', B', rfl, hB', rfl⟩
     refine jy (L' := (b5, Obj.cells #[.string (bs (Nm.fold q.name)), .int .u16 q.kind, .int .u16 q.cls, .int .u32 0, .slice a (jK q (l.take i)).length c] 122 (0, 0)) :: ((b4, Obj.cells #[.int .u8 0, .slice none 0 0, .slice none 0 0] 40 (0, 0)) :: (B' ++ L))) ?_ jl
     repeat (refine ju (ub rfl KX) rfl ?_)
     refine qJ (C' := #[.string (bs (Nm.fold q.name)), .int .u16 q.kind, .int .u16 q.cls, .int .u32 0, .slice a' (jK q (l.take i) ++ (Vd.endV q x.vd).1.data).length c']) rfl rfl onO rfl rfl rfl ?_
     refine goA ?_
     refine jk (i + 1, a', c', B') ⟨hil, by dsimp only; rw [htk]; exact hB'.imp (L' := []) (fun cs y _ h => h)⟩ ?_ (fun w h => by dsimp only; rw [htk]; exact h) (by dsimp only; omega)
     exact jv
 · have hie : i = l.length := by omega
   subst hie
   rw [List.take_length] at hB hlni ⊢
   refine goA ?_
   refine jx (OpT.heap (L' := B ++ ((b5, Obj.cells #[.string (bs (Nm.fold q.name)), .int .u16 q.kind, .int .u16 q.cls, .int .u32 0, .slice a (jK q l).length c] 122 (0, 0)) :: ((b4, Obj.cells #[.int .u8 0, .slice none 0 0, .slice none 0 0] 40 (0, 0)) :: L))) (fun w h => h.cnt jl) (jb jg rfl (abn a c _ B hB jf))) rfl ?_
   rintro _ _ ⟨rfl, B', hB', rfl⟩
   have hsl : ((jK q l).mergeSort fun x y => decide (x ≤ y)).length = (jK q l).length := List.length_mergeSort _
   refine jy (L' := (b5, Obj.cells #[.string (bs (Nm.fold q.name)), .int .u16 q.kind, .int .u16 q.cls, .int .u32 0, .slice a (jK q l).length c] 122 (0, 0)) :: ((b4, Obj.cells #[.int .u8 0, .slice none 0 0, .slice none 0 0] 40 (0, 0)) :: (B' ++ L))) ?_ jl
   refine goA ?_
   rw [← hsl]
   refine jx (OpT.heap (L' := B' ++ ((b5, Obj.cells #[.string (bs (Nm.fold q.name)), .int .u16 q.kind, .int .u16 q.cls, .int .u32 0, .slice a ((jK q l).mergeSort fun x y => decide (x ≤ y)).length c] 122 (0, 0)) :: ((b4, Obj.cells #[.int .u8 0, .slice none 0 0, .slice none 0 0] 40 (0, 0)) :: L))) (fun w h => h.cnt jl) (jb jg rfl (Wi a c _ B' hB' (by rw [hsl]; omega)))) rfl ?_
   rintro _ _ ⟨B2, rfl, hB2, rfl⟩
   refine jy (L' := (b5, Obj.cells #[.string (bs (Nm.fold q.name)), .int .u16 q.kind, .int .u16 q.cls, .int .u32 0, .slice a ((jK q l).mergeSort fun x y => decide (x ≤ y)).length c] 122 (0, 0)) :: ((b4, Obj.cells #[.int .u8 0, .slice none 0 0, .slice none 0 0] 40 (0, 0)) :: (B2 ++ L))) ?_ jl
   obtain ⟨R, hR⟩ : ∃ R, Lib.compact ((jK q l).mergeSort fun x y => decide (x ≤ y)) = R := ⟨_, rfl⟩
   rw [hR] at hB2 ⊢
   repeat (refine ju (ub rfl KX) rfl ?_)
   refine qJ (C' := #[.string (bs (Nm.fold q.name)), .int .u16 q.kind, .int .u16 q.cls, .int .u32 0, .slice a R.length c]) rfl rfl onO rfl rfl rfl ?_
   repeat (first | refine goA ?_ | refine ju (jo rfl (J3 _ _ _ _)) rfl ?_ | (refine uf ?_; intro bLit))
   refine jy (L' := (b4, Obj.cells #[.int .u8 0, .slice none 0 0, .slice none 0 0] 40 (0, 0)) :: ((bLit, Obj.cells #[.string (bs (Nm.fold q.name)), .int .u16 q.kind, .int .u16 q.cls, .int .u32 0, .slice a R.length c] 122 (0, 0)) :: (B2 ++ L))) ?_ jl
   refine goA ?_
   have hr : rsR B2 [.string (bs (Nm.fold q.name)), .int .u16 q.kind, .int .u16 q.cls, .int .u32 0, .slice a R.length c] ⟨Nm.fold q.name, q.kind, q.cls, 0, R⟩ := ⟨_, rfl, hB2.sliceR kI (by simp) (fun p h => h), by have := yx q.name; unfold maxLen; dsimp only; omega, hq2, hq3, by simp⟩
   refine ku 4 40  rfl rfl  stO (by repeat (exact List.mem_cons_self)) rfl (fun w h => Heap.cnt (L' := [] ++ ([(bLit, Obj.cells #[.string (bs (Nm.fold q.name)), .int .u16 q.kind, .int .u16 q.cls, .int .u32 0, .slice a R.length c] 122 (0, 0))] ++ (B2 ++ L))) h jl) ?_
   exact ⟨_, _, _, none, 0, [], B2, rfl, abl hr, ORow.nil _, hB2.wr, rfl⟩
end Go.Proofs.YtbjkkoacclfejaaGreat
namespace Go.Proofs.YtbjkkoacclfejaaGreat
open Go.RowKit
open Vd (RSet Vdt Vote Rec Quest Piece Ballot Said)
def kF (q : Quest) (l : List Vote) : Bool := l.any fun x => (Vd.endV q x.vd).2
def yW (q : Quest) (l : List Vote) : Vdt × Int × Bool :=
 match l with
 | [] => (Vdt.none, 0, false)
 | w :: r =>
   if !Nm.may q.name then (Vdt.none, 0, false)
   else if !Vd.alikeV (w :: r) w.vd && kF q (w :: r) then (⟨0, [⟨Nm.fold q.name, q.kind, q.cls, 0, Lib.compact ((jK q (w :: r)).mergeSort fun x y => decide (x ≤ y))⟩], []⟩, Vd.minTime (w :: r) w.time, true)
   else (match (w :: r)[Vd.firstAt (w :: r) (w :: r).length]? with | some x => x.vd | none => Vdt.none, Vd.minTime (w :: r) w.time, true)
def UnOut (L : ja) (r : Vdt × Int × Bool) (u : Value) (M : ja) : Prop := ∃ a c B a2 c2 B2 N, u = .tuple #[.agg #[.int .u8 r.1.code, .slice a r.1.sets.length c, .slice a2 r.1.soa.length c2], .int .u32 r.2.1, .bool r.2.2] ∧
 ORow rsR 122 5 N a c r.1.sets B ∧ ORow rsR 122 5 N a2 c2 r.1.soa B2 ∧ Wr N ∧ M = B2 ++ (B ++ (N ++ L))
variable {G : World} {L : ja}
theorem UnOut.no : UnOut L (Vdt.none, 0, false) (.tuple #[.agg #[.int .u8 0, .slice none 0 0, .slice none 0 0], .int .u32 0, .bool false]) L := ⟨none, 0, [], none, 0, [], [], rfl, ORow.nil _, ORow.nil _, Wr.nil, rfl⟩
theorem zW {K : ja} {x : Vote} {u t : Value} {s1 s2 : Value} (h : voteR K [u, .int .u8 x.vd.code, s1, s2, t] x) : vdR K [.int .u8 x.vd.code, s1, s2] x.vd := by
 obtain ⟨a, b, e, h1, h2, h3, _⟩ := h
 simp only [List.cons.injEq, and_true, true_and] at e
 obtain ⟨_, rfl, rfl, _⟩ := e
 exact ⟨_, _, rfl, h1, h2, h3⟩
theorem endedR.mono {q : Quest} {K D D' : ja} {cs : List Value} {x : Vote} (hD : ∀ p ∈ D, p ∈ D') (h : endedR q K D cs x) : endedR q K D' cs x := by
 obtain ⟨a1, c1, a2, c2, a3, c3, h1, h2, h3⟩ := h
 exact ⟨a1, c1, a2, c2, a3, c3, h1, h2, jq _ _ _ _ hD h3⟩
theorem endedR.one {q : Quest} {K D : ja} {cs : List Value} {x : Vote} (h : endedR q K D cs x) : ∀ v ∈ cs, v.oneCell' = true := by
 obtain ⟨a1, c1, a2, c2, a3, c3, rfl, _⟩ := h
 intro v hv
 simp only [List.mem_cons, List.not_mem_nil, or_false] at hv
 rcases hv with rfl | rfl | rfl | rfl | rfl | rfl | rfl | rfl | rfl | rfl | rfl <;> rfl
theorem YF {K : ja} (v : Value) (q : Quest) (l : List Vote) (hKL : ∀ p ∈ K, p ∈ L) (hq1 : q.name.length ≤ 1000000) (hq2 : 0 ≤ q.kind ∧ q.kind ≤ 65535) (hq3 : 0 ≤ q.cls ∧ q.cls ≤ 65535) (hl : sliceR 5 (fun _ => voteR K) L [v] l) (hn : l.length ≤ 100) (hd : ∀ x ∈ l, (Vd.endV q x.vd).1.data.length ≤ 600) (hs : ∀ x ∈ l, SmV x.vd) :
 Spec Tryz.prog G 56 #[.agg #[.string (bs q.name), .int .u16 q.kind, .int .u16 q.cls], v] L (UnOut L (yW q l)) := by
 obtain ⟨av, cv, e1, hl⟩ := hl.val
 simp only [List.cons.injEq, and_true] at e1
 subst e1
 have hl0 := hl
 obtain ⟨_, ka1, ka2, hl⟩ := sliceR.cut hl
 refine jm (n := 110) Tryz.func56 rfl rfl rfl ?_
 refine jU (jI (jP (kE rfl) rfl ?_))
 intro bQ
 refine jP (kt (C := #[.int .u8 0, .slice none 0 0, .slice none 0 0]) zeO rfl) rfl ?_
 intro b4
 cases l with
 | nil =>
   have hU : yW q [] = (Vdt.none, 0, false) := rfl
   rw [hU]
   have h0 : ((([] : List Vote).length : Nat) : Int) = 0 := rfl
   repeat (first | refine goA ?_ | refine ju (jo rfl (KY )) rfl ?_)
   refine uC 4 40 5 6 rfl rfl rfl rfl stO (by repeat (exact List.mem_cons_self)) rfl (fun w h => Heap.cnt (L' := L) h jl) ?_
   exact UnOut.no
 | cons w r =>
 obtain ⟨l, hll⟩ : ∃ l, w :: r = l := ⟨_, rfl⟩
 have hlpos : 0 < l.length := by rw [← hll]; simp
 have hw0 : l[0]? = some w := by rw [← hll]; rfl
 have hlne : ¬ ((l.length : Nat) : Int) = 0 := by omega
 have hU : yW q l = if !Nm.may q.name then ((Vdt.none, 0, false) : Vdt × Int × Bool) else if !Vd.alikeV l w.vd && kF q l then (⟨0, [⟨Nm.fold q.name, q.kind, q.cls, 0, Lib.compact ((jK q l).mergeSort fun x y => decide (x ≤ y))⟩], []⟩, Vd.minTime l w.time, true)
  else (match l[Vd.firstAt l l.length]? with | some x => x.vd | none => Vdt.none, Vd.minTime l w.time, true) := by rw [← hll]; rfl
 rw [hll] at hl hl0 hn hd ka1 hs ⊢
 cases hm : Nm.may q.name with
 | false =>
   rw [hm] at hU
   simp only [Bool.not_false, if_true] at hU
   rw [hU]
   repeat (first | refine goA ?_ | (refine' jZ (jb jg rfl (zo _ ?_)) rfl ?_; (· omega)) | refine ju (jo rfl (KY )) rfl ?_)
   refine uC 4 40 5 6 rfl rfl rfl rfl stO (by repeat (exact List.mem_cons_self)) rfl (fun w h => Heap.cnt (L' := L) h jl) ?_
   exact UnOut.no
 | true =>
 rw [hm] at hU
 simp only [Bool.not_true, Bool.false_eq_true, if_false] at hU
 obtain ⟨CM, hCM⟩ : ∃ C, madeCells (Value.agg #[.int .i64 0, .int .u8 0, .slice none 0 0, .slice none 0 0, .int .u32 0, .string (bs []), .int .u16 0, .int .u16 0, .int .u32 0, .slice none 0 0, .bool false]).cells (((l.length : Nat) : Int).toNat * 11) = C := ⟨_, rfl⟩
 repeat (first | refine goA ?_ | (refine' jZ (jb jg rfl (zo _ ?_)) rfl ?_; (· omega)))
 refine jP (ZV (C := CM) etO rfl rfl jf jf jf jf hCM) rfl ?_
 intro bM
 refine goA ?_
 refine jB (σ := Nat × Option Addr × Nat × ja × ja) (fun y => y.1 ≤ l.length ∧ ORow (fun _ => endedR q K y.2.2.2.2) 187 11 [] y.2.1 y.2.2.1 (l.take y.1) y.2.2.2.1) (fun y => [(2, .pointer (some ⟨bQ, 0, none⟩)), (4, .pointer (some ⟨b4, 0, none⟩)), (7, .slice y.2.1 (l.take y.1).length y.2.2.1), (29, .slice av l.length cv), (30, .int .i64 (l.length : Nat)), (31, .int .i64 (y.1 : Nat))])
  (fun y => (bQ, Obj.cells #[.string (bs q.name), .int .u16 q.kind, .int .u16 q.cls] 24 (0, 0)) :: ((b4, Obj.cells #[.int .u8 0, .slice none 0 0, .slice none 0 0] 40 (0, 0)) :: (y.2.2.2.1 ++ (y.2.2.2.2 ++ L)))) (fun y => l.length - y.1) (0, some ⟨bM, 0, none⟩, ((l.length : Nat) : Int).toNat, [(bM, .cells CM 187 (0, 0))], []) ⟨Nat.zero_le _, ⟨[], Row.made (c := ((l.length : Nat) : Int).toNat) (by rw [← hCM]; exact size_madeCells _ _) (by unfold maxLen; omega), rfl, by simp⟩⟩ ?_ (fun w h => Heap.cnt (L' := (bQ, Obj.cells #[.string (bs q.name), .int .u16 q.kind, .int .u16 q.cls] 24 (0, 0)) :: ((b4, Obj.cells #[.int .u8 0, .slice none 0 0, .slice none 0 0] 40 (0, 0)) :: ([(bM, .cells CM 187 (0, 0))] ++ ([] ++ L)))) h jl) ?_
 exact jv
 rintro ⟨i, a, c, B, D⟩ ⟨hi, hB⟩
 dsimp only at hi hB ⊢
 by_cases hil : i < l.length
 · obtain ⟨x, hx⟩ : ∃ x, l[i]? = some x := ⟨_, List.getElem?_eq_getElem hil⟩
   have hxm := List.mem_of_getElem? hx
   have htk : l.take (i + 1) = l.take i ++ [x] := by rw [List.take_add_one, hx]; rfl
   have htl : (l.take i).length ≤ 100 := by rw [List.length_take]; omega
   rcases hl with rfl | ⟨b1, o1, C1, t1, f1, rfl, m1, q1⟩
   · simp at hil
   obtain ⟨_, _, hxv, hcx⟩ := q1 i x hx
   obtain ⟨a1, c1, a2, c2, rfl, hx1, hx2, hx3, hx4, hx5⟩ := hxv.vals
   have m1' : (b1, Obj.cells C1 t1 f1) ∈ (bQ, Obj.cells #[.string (bs q.name), .int .u16 q.kind, .int .u16 q.cls] 24 (0, 0)) :: ((b4, Obj.cells #[.int .u8 0, .slice none 0 0, .slice none 0 0] 40 (0, 0)) :: (B ++ (D ++ L))) := by simp [m1]
   refine goA ?_
   refine ju (jD [.int .i64 x.up, .int .u8 x.vd.code, .slice a1 x.vd.sets.length c1, .slice a2 x.vd.soa.length c2, .int .u32 x.time] rfl stL m1' hcx) rfl ?_
   refine jP (kt (C := #[.int .i64 0, .int .u8 0, .slice none 0 0, .slice none 0 0, .int .u32 0]) zeO rfl) rfl ?_
   intro b9
   repeat (first | refine goA ?_ | (refine j5 ?_; intro bNew) | refine ju (jo rfl (QJ _ _ _ _ _)) rfl ?_)
   revert bNew
   intro b10
   refine ju (jD [.int .u8 x.vd.code, .slice a1 x.vd.sets.length c1, .slice a2 x.vd.soa.length c2] rfl stL (List.mem_cons_of_mem _ (List.mem_cons_self ..)) (fun j v hj => by
    match j, hj with
    | 0, hj => exact hj
    | 1, hj => exact hj
    | 2, hj => exact hj)) rfl ?_
   skip
   refine jx (jb jg rfl (abm x.vd q a1 a2 c1 c2 (jn jq _ _ _ _ (fun p hp => by have := hKL p hp; simp [this]) hx1) (fun s hsm => (hs x hxm).1.2 s hsm))) rfl ?_
   rintro _ _ ⟨a3, c3, B3, rfl, hB3, rfl, hr3⟩
   refine jy (L' := (b10, Obj.cells #[.int .i64 x.up, .int .u8 x.vd.code, .slice a1 x.vd.sets.length c1, .slice a2 x.vd.soa.length c2, .int .u32 x.time, .string (bs []), .int .u16 0, .int .u16 0, .int .u32 0, .slice none 0 0, .bool false] 187 (0, 0)) :: ((b9, Obj.cells #[.int .i64 x.up, .int .u8 x.vd.code, .slice a1 x.vd.sets.length c1, .slice a2 x.vd.soa.length c2, .int .u32 x.time] 65 (0, 0)) :: ((bQ, Obj.cells #[.string (bs q.name), .int .u16 q.kind, .int .u16 q.cls] 24 (0, 0)) :: ((b4, Obj.cells #[.int .u8 0, .slice none 0 0, .slice none 0 0] 40 (0, 0)) :: (B ++ ((B3 ++ D) ++ L)))))) ?_ jl
   refine goA ?_
   refine KM (u5 (cs := [.string (bs (Vd.endV q x.vd).1.name), .int .u16 (Vd.endV q x.vd).1.kind, .int .u16 (Vd.endV q x.vd).1.cls, .int .u32 (Vd.endV q x.vd).1.ttl, .slice a3 (Vd.endV q x.vd).1.data.length c3]) rfl rfl stL hr3.one (by simp)) ?_
   refine kU (L' := (b10, Obj.cells #[.int .i64 x.up, .int .u8 x.vd.code, .slice a1 x.vd.sets.length c1, .slice a2 x.vd.soa.length c2, .int .u32 x.time, .string (bs (Vd.endV q x.vd).1.name), .int .u16 (Vd.endV q x.vd).1.kind, .int .u16 (Vd.endV q x.vd).1.cls, .int .u32 (Vd.endV q x.vd).1.ttl, .slice a3 (Vd.endV q x.vd).1.data.length c3, .bool false] 187 (0, 0)) :: ((b9, Obj.cells #[.int .i64 x.up, .int .u8 x.vd.code, .slice a1 x.vd.sets.length c1, .slice a2 x.vd.soa.length c2, .int .u32 x.time] 65 (0, 0)) :: ((bQ, Obj.cells #[.string (bs q.name), .int .u16 q.kind, .int .u16 q.cls] 24 (0, 0)) :: ((b4, Obj.cells #[.int .u8 0, .slice none 0 0, .slice none 0 0] 40 (0, 0)) :: (B ++ ((B3 ++ D) ++ L)))))) (fun w h => h) ?_
   repeat (refine ju (ub rfl KX) rfl ?_)
   refine qJ (C' := #[.int .i64 x.up, .int .u8 x.vd.code, .slice a1 x.vd.sets.length c1, .slice a2 x.vd.soa.length c2, .int .u32 x.time, .string (bs (Vd.endV q x.vd).1.name), .int .u16 (Vd.endV q x.vd).1.kind, .int .u16 (Vd.endV q x.vd).1.cls, .int .u32 (Vd.endV q x.vd).1.ttl, .slice a3 (Vd.endV q x.vd).1.data.length c3, .bool (Vd.endV q x.vd).2]) rfl rfl onO rfl rfl rfl ?_
   repeat (first | refine goA ?_ | (refine uf ?_; intro bLit))
   refine jy (L' := (bLit, Obj.cells #[.int .i64 x.up, .int .u8 x.vd.code, .slice a1 x.vd.sets.length c1, .slice a2 x.vd.soa.length c2, .int .u32 x.time, .string (bs (Vd.endV q x.vd).1.name), .int .u16 (Vd.endV q x.vd).1.kind, .int .u16 (Vd.endV q x.vd).1.cls, .int .u32 (Vd.endV q x.vd).1.ttl, .slice a3 (Vd.endV q x.vd).1.data.length c3, .bool (Vd.endV q x.vd).2] 187 (0, 0)) :: (B ++ ((bQ, Obj.cells #[.string (bs q.name), .int .u16 q.kind, .int .u16 q.cls] 24 (0, 0)) :: ((b4, Obj.cells #[.int .u8 0, .slice none 0 0, .slice none 0 0] 40 (0, 0)) :: ((B3 ++ D) ++ L))))) ?_ jl
   have hen : endedR q K (B3 ++ D) [.int .i64 x.up, .int .u8 x.vd.code, .slice a1 x.vd.sets.length c1, .slice a2 x.vd.soa.length c2, .int .u32 x.time, .string (bs (Vd.endV q x.vd).1.name), .int .u16 (Vd.endV q x.vd).1.kind, .int .u16 (Vd.endV q x.vd).1.cls, .int .u32 (Vd.endV q x.vd).1.ttl, .slice a3 (Vd.endV q x.vd).1.data.length c3, .bool (Vd.endV q x.vd).2] x := ⟨a1, c1, a2, c2, a3, c3, rfl, hxv, jq _ _ _ _ jt hr3⟩
   refine jx (Yn (L0 := []) (r := endedR q K (B3 ++ D)) (y := x) etO rfl rfl (hB.imp (r' := fun _ => endedR q K (B3 ++ D)) (L' := []) (fun cs y _ h => endedR.mono jt h)) rfl (fun v hv => endedR.one hen v hv) hen jf (by decide)) rfl ?_
   rintro _ _ ⟨a', c', B', rfl, hB', rfl⟩
   refine goA ?_
   refine jk (i + 1, a', c', B', B3 ++ D) ⟨hil, by dsimp only; rw [htk]; exact hB'⟩ ?_ (fun w h => h.cnt jl) (by dsimp only; omega)
   dsimp only
   rw [htk]
   exact jv
 · have hie : i = l.length := by omega
   subst hie
   rw [List.take_length] at hB ⊢
   obtain ⟨bE, cur, rfl, hBe, _, hcE, _, hcur⟩ := hB.block (fun e => by rw [e] at hlpos; simp at hlpos)
   have hmE : (bE, Obj.cells cur 187 (0, 0)) ∈ B ++ (D ++ L) := by rw [hBe]; simp
   obtain ⟨_, _, ⟨w1, wc1, w2, wc2, w3, wc3, rfl, hwv, hwr⟩, _, hcw⟩ := hcur 0 w hw0
   have gw4 : cur[0 + (0 : Int).toNat * 11 + 0 + 4]? = some (.int .u32 w.time) := hcw 4 _ rfl
   have ht0 : ∀ i, i ≤ l.length → 0 ≤ Vd.minTime (l.take i) w.time ∧ Vd.minTime (l.take i) w.time ≤ 4294967295 := fun i hi => Jr _ _ (fun x hx => Js hl0 x (List.mem_of_mem_take hx)) (Js hl0 w (List.mem_of_getElem? hw0))
   refine goA ?_
   refine ju (jD [.int .i64 w.up, .int .u8 w.vd.code, .slice w1 w.vd.sets.length wc1, .slice w2 w.vd.soa.length wc2, .int .u32 w.time, .string (bs (Vd.endV q w.vd).1.name), .int .u16 (Vd.endV q w.vd).1.kind, .int .u16 (Vd.endV q w.vd).1.cls, .int .u32 (Vd.endV q w.vd).1.ttl, .slice w3 (Vd.endV q w.vd).1.data.length wc3, .bool (Vd.endV q w.vd).2] rfl stL (List.mem_cons_of_mem _ (List.mem_cons_of_mem _ hmE)) (fun j v hj => by have := hcw j v hj; simpa using this)) rfl ?_
   repeat (first | refine goA ?_ | (refine j5 ?_; intro bNew))
   revert bNew
   intro bW
   refine jB (σ := Nat × List Value) (fun y => y.1 ≤ l.length ∧ ∃ f, l[Vd.firstAt l y.1]? = some f ∧ endedR q K D y.2 f) (fun y => [(2, .pointer (some ⟨bQ, 0, none⟩)), (4, .pointer (some ⟨b4, 0, none⟩)), (5, .int .u32 (Vd.minTime (l.take y.1) w.time)), (7, .slice (some ⟨bE, 0, none⟩) l.length c), (11, .pointer (some ⟨bW, 0, none⟩)), (12, .bool (Vd.alikeV (l.take y.1) w.vd)), (13, .bool (kF q (l.take y.1))), (59, .slice (some ⟨bE, 0, none⟩) l.length c), (60, .int .i64 (l.length : Nat)), (61, .int .i64 (y.1 : Nat))]) (fun y => (bW, Obj.cells y.2.toArray 187 (0, 0)) :: ((bQ, Obj.cells #[.string (bs q.name), .int .u16 q.kind, .int .u16 q.cls] 24 (0, 0)) :: ((b4, Obj.cells #[.int .u8 0, .slice none 0 0, .slice none 0 0] 40 (0, 0)) :: (B ++ (D ++ L))))) (fun y => l.length - y.1) (0, [.int .i64 w.up, .int .u8 w.vd.code, .slice w1 w.vd.sets.length wc1, .slice w2 w.vd.soa.length wc2, .int .u32 w.time, .string (bs (Vd.endV q w.vd).1.name), .int .u16 (Vd.endV q w.vd).1.kind, .int .u16 (Vd.endV q w.vd).1.cls, .int .u32 (Vd.endV q w.vd).1.ttl, .slice w3 (Vd.endV q w.vd).1.data.length wc3, .bool (Vd.endV q w.vd).2]) ⟨Nat.zero_le _, w, hw0, _, _, _, _, _, _, rfl, hwv, hwr⟩ ?_ (fun w h => h) ?_
   exact jv
   rintro ⟨i, cf⟩ ⟨hi, f, hf, f1, fc1, f2, fc2, f3, fc3, rfl, hfv, hfr⟩
   dsimp only at hi hf ⊢
   have hti := ht0 i hi
   by_cases hil : i < l.length
   · obtain ⟨x, hx⟩ : ∃ x, l[i]? = some x := ⟨_, List.getElem?_eq_getElem hil⟩
     have htk : l.take (i + 1) = l.take i ++ [x] := by rw [List.take_add_one, hx]; rfl
     have hmt : Vd.minTime (l.take (i + 1)) w.time = min (Vd.minTime (l.take i) w.time) x.time := by rw [htk]; exact Qc _ _ _
     have hal : Vd.alikeV (l.take (i + 1)) w.vd = (Vd.alikeV (l.take i) w.vd && decide (x.vd = w.vd)) := by rw [htk]; exact Ua _ _ _
     have hso : kF q (l.take (i + 1)) = (kF q (l.take i) || (Vd.endV q x.vd).2) := by rw [htk]; simp [kF]
     have hfs : Vd.firstAt l (i + 1) = if x.up < f.up then i else Vd.firstAt l i := by rw [Vd.firstAt, hx, hf]
     obtain ⟨_, _, ⟨x1, xc1, x2, xc2, x3, xc3, rfl, hxv, hxr⟩, _, hcx⟩ := hcur i x hx
     refine goA ?_
     refine ju (jD [.int .i64 x.up, .int .u8 x.vd.code, .slice x1 x.vd.sets.length xc1, .slice x2 x.vd.soa.length xc2, .int .u32 x.time, .string (bs (Vd.endV q x.vd).1.name), .int .u16 (Vd.endV q x.vd).1.kind, .int .u16 (Vd.endV q x.vd).1.cls, .int .u32 (Vd.endV q x.vd).1.ttl, .slice x3 (Vd.endV q x.vd).1.data.length xc3, .bool (Vd.endV q x.vd).2] rfl stL (List.mem_cons_of_mem _ (List.mem_cons_of_mem _ (List.mem_cons_of_mem _ hmE))) (fun j v hj => by rw [Nat.zero_add]; exact hcx j v hj)) rfl ?_
     repeat (first | refine goA ?_ | (refine j5 ?_; intro bNew))
     revert bNew
     intro b15
     refine K8 (σ := List Value) (fun y => ∃ g, l[Vd.firstAt l (i + 1)]? = some g ∧ endedR q K D y g) (fun y => [(2, .pointer (some ⟨bQ, 0, none⟩)), (4, .pointer (some ⟨b4, 0, none⟩)), (5, .int .u32 (Vd.minTime (l.take (i + 1)) w.time)), (7, .slice (some ⟨bE, 0, none⟩) l.length c), (11, .pointer (some ⟨bW, 0, none⟩)), (12, .bool (Vd.alikeV (l.take i) w.vd)), (13, .bool (kF q (l.take i))), (59, .slice (some ⟨bE, 0, none⟩) l.length c), (60, .int .i64 (l.length : Nat)), (61, .int .i64 (i : Nat)), (15, .pointer (some ⟨b15, 0, none⟩))]) (fun y => (b15, Obj.cells #[.int .i64 x.up, .int .u8 x.vd.code, .slice x1 x.vd.sets.length xc1, .slice x2 x.vd.soa.length xc2, .int .u32 x.time, .string (bs (Vd.endV q x.vd).1.name), .int .u16 (Vd.endV q x.vd).1.kind, .int .u16 (Vd.endV q x.vd).1.cls, .int .u32 (Vd.endV q x.vd).1.ttl, .slice x3 (Vd.endV q x.vd).1.data.length xc3, .bool (Vd.endV q x.vd).2] 187 (0, 0)) :: ((bW, Obj.cells y.toArray 187 (0, 0)) :: ((bQ, Obj.cells #[.string (bs q.name), .int .u16 q.kind, .int .u16 q.cls] 24 (0, 0)) :: ((b4, Obj.cells #[.int .u8 0, .slice none 0 0, .slice none 0 0] 40 (0, 0)) :: (B ++ (D ++ L)))))) ?_ ?_
     · rw [hfs, hmt]
       by_cases hup : x.up < f.up
       · rw [if_pos hup]
         refine goA ?_
         refine jy (L' := (bW, Obj.cells #[.int .i64 f.up, .int .u8 f.vd.code, .slice f1 f.vd.sets.length fc1, .slice f2 f.vd.soa.length fc2, .int .u32 f.time, .string (bs (Vd.endV q f.vd).1.name), .int .u16 (Vd.endV q f.vd).1.kind, .int .u16 (Vd.endV q f.vd).1.cls, .int .u32 (Vd.endV q f.vd).1.ttl, .slice f3 (Vd.endV q f.vd).1.data.length fc3, .bool (Vd.endV q f.vd).2] 187 (0, 0)) :: ((b15, Obj.cells #[.int .i64 x.up, .int .u8 x.vd.code, .slice x1 x.vd.sets.length xc1, .slice x2 x.vd.soa.length xc2, .int .u32 x.time, .string (bs (Vd.endV q x.vd).1.name), .int .u16 (Vd.endV q x.vd).1.kind, .int .u16 (Vd.endV q x.vd).1.cls, .int .u32 (Vd.endV q x.vd).1.ttl, .slice x3 (Vd.endV q x.vd).1.data.length xc3, .bool (Vd.endV q x.vd).2] 187 (0, 0)) :: ((bQ, Obj.cells #[.string (bs q.name), .int .u16 q.kind, .int .u16 q.cls] 24 (0, 0)) :: ((b4, Obj.cells #[.int .u8 0, .slice none 0 0, .slice none 0 0] 40 (0, 0)) :: (B ++ (D ++ L)))))) ?_ jl
         refine goA ?_
         refine kw [.int .i64 x.up, .int .u8 x.vd.code, .slice x1 x.vd.sets.length xc1, .slice x2 x.vd.soa.length xc2, .int .u32 x.time, .string (bs (Vd.endV q x.vd).1.name), .int .u16 (Vd.endV q x.vd).1.kind, .int .u16 (Vd.endV q x.vd).1.cls, .int .u32 (Vd.endV q x.vd).1.ttl, .slice x3 (Vd.endV q x.vd).1.data.length xc3, .bool (Vd.endV q x.vd).2] ⟨x, hx, _, _, _, _, _, _, rfl, hxv, hxr⟩ ?_ (fun w h => h.cnt jl)
         exact jv
       · rw [if_neg hup]
         refine goA ?_
         refine kw [.int .i64 f.up, .int .u8 f.vd.code, .slice f1 f.vd.sets.length fc1, .slice f2 f.vd.soa.length fc2, .int .u32 f.time, .string (bs (Vd.endV q f.vd).1.name), .int .u16 (Vd.endV q f.vd).1.kind, .int .u16 (Vd.endV q f.vd).1.cls, .int .u32 (Vd.endV q f.vd).1.ttl, .slice f3 (Vd.endV q f.vd).1.data.length fc3, .bool (Vd.endV q f.vd).2] ⟨f, hf, _, _, _, _, _, _, rfl, hfv, hfr⟩ ?_ (fun w h => h)
         exact jv
     · rintro cg ⟨g, hg, hgr⟩
       have hxd : vdR K [.int .u8 x.vd.code, .slice x1 x.vd.sets.length xc1, .slice x2 x.vd.soa.length xc2] x.vd := zW hxv
       have hwd : vdR K [.int .u8 w.vd.code, .slice w1 w.vd.sets.length wc1, .slice w2 w.vd.soa.length wc2] w.vd := zW hwv
       have hKc : ∀ p ∈ K, p ∈ (b15, Obj.cells #[.int .i64 x.up, .int .u8 x.vd.code, .slice x1 x.vd.sets.length xc1, .slice x2 x.vd.soa.length xc2, .int .u32 x.time, .string (bs (Vd.endV q x.vd).1.name), .int .u16 (Vd.endV q x.vd).1.kind, .int .u16 (Vd.endV q x.vd).1.cls, .int .u32 (Vd.endV q x.vd).1.ttl, .slice x3 (Vd.endV q x.vd).1.data.length xc3, .bool (Vd.endV q x.vd).2] 187 (0, 0)) :: ((bW, Obj.cells cg.toArray 187 (0, 0)) :: ((bQ, Obj.cells #[.string (bs q.name), .int .u16 q.kind, .int .u16 q.cls] 24 (0, 0)) :: ((b4, Obj.cells #[.int .u8 0, .slice none 0 0, .slice none 0 0] 40 (0, 0)) :: (B ++ (D ++ L))))) := fun p hp => by have := hKL p hp; simp [this]
       have hKm : ∀ z ∈ [(b15, Obj.cells #[.int .i64 x.up, .int .u8 x.vd.code, .slice x1 x.vd.sets.length xc1, .slice x2 x.vd.soa.length xc2, .int .u32 x.time, .string (bs (Vd.endV q x.vd).1.name), .int .u16 (Vd.endV q x.vd).1.kind, .int .u16 (Vd.endV q x.vd).1.cls, .int .u32 (Vd.endV q x.vd).1.ttl, .slice x3 (Vd.endV q x.vd).1.data.length xc3, .bool (Vd.endV q x.vd).2] 187 (0, 0)), (bE, Obj.cells cur 187 (0, 0))], z ∈ (b15, Obj.cells #[.int .i64 x.up, .int .u8 x.vd.code, .slice x1 x.vd.sets.length xc1, .slice x2 x.vd.soa.length xc2, .int .u32 x.time, .string (bs (Vd.endV q x.vd).1.name), .int .u16 (Vd.endV q x.vd).1.kind, .int .u16 (Vd.endV q x.vd).1.cls, .int .u32 (Vd.endV q x.vd).1.ttl, .slice x3 (Vd.endV q x.vd).1.data.length xc3, .bool (Vd.endV q x.vd).2] 187 (0, 0)) :: ((bW, Obj.cells cg.toArray 187 (0, 0)) :: ((bQ, Obj.cells #[.string (bs q.name), .int .u16 q.kind, .int .u16 q.cls] 24 (0, 0)) :: ((b4, Obj.cells #[.int .u8 0, .slice none 0 0, .slice none 0 0] 40 (0, 0)) :: (B ++ (D ++ L))))) := by
        intro z hz
        simp only [List.mem_cons, List.not_mem_nil, or_false] at hz
        rcases hz with rfl | rfl
        · exact List.mem_cons_self ..
        · exact List.mem_cons_of_mem _ (List.mem_cons_of_mem _ (List.mem_cons_of_mem _ (List.mem_cons_of_mem _ hmE)))
       have hx42 : ∀ j v, ([.int .u8 x.vd.code, .slice x1 x.vd.sets.length xc1, .slice x2 x.vd.soa.length xc2] : List Value)[j]? = some v → (#[.int .i64 x.up, .int .u8 x.vd.code, .slice x1 x.vd.sets.length xc1, .slice x2 x.vd.soa.length xc2, .int .u32 x.time, .string (bs (Vd.endV q x.vd).1.name), .int .u16 (Vd.endV q x.vd).1.kind, .int .u16 (Vd.endV q x.vd).1.cls, .int .u32 (Vd.endV q x.vd).1.ttl, .slice x3 (Vd.endV q x.vd).1.data.length xc3, .bool (Vd.endV q x.vd).2] : Array Value)[0 + 0 + 1 + j]? = some v := fun j v hj => by
        match j, hj with
        | 0, hj => exact hj
        | 1, hj => exact hj
        | 2, hj => exact hj
       have hw42 : ∀ j v, ([.int .u8 w.vd.code, .slice w1 w.vd.sets.length wc1, .slice w2 w.vd.soa.length wc2] : List Value)[j]? = some v → cur[0 + (0 : Int).toNat * 11 + 0 + 1 + j]? = some v := fun j v hj => by
        match j, hj with
        | 0, hj => exact hcw 1 v hj
        | 1, hj => exact hcw 2 v hj
        | 2, hj => exact hcw 3 v hj
       cases hav : Vd.alikeV (l.take i) w.vd with
       | false =>
         rw [hav] at hal
         cases hs0 : kF q (l.take i) with
         | false =>
           rw [hs0] at hso
           refine goA ?_
           refine jw jc ([(b15, Obj.cells #[.int .i64 x.up, .int .u8 x.vd.code, .slice x1 x.vd.sets.length xc1, .slice x2 x.vd.soa.length xc2, .int .u32 x.time, .string (bs (Vd.endV q x.vd).1.name), .int .u16 (Vd.endV q x.vd).1.kind, .int .u16 (Vd.endV q x.vd).1.cls, .int .u32 (Vd.endV q x.vd).1.ttl, .slice x3 (Vd.endV q x.vd).1.data.length xc3, .bool (Vd.endV q x.vd).2] 187 (0, 0)), (bE, Obj.cells cur 187 (0, 0))]) [] ?_
           refine tkQ 0 ?_
           refine tkQ 1 ?_
           refine tkQ 2 ?_
           refine tkQ 3 ?_
           refine tkQ 5 ?_
           refine tkQ 6 ?_
           refine tkQ 7 ?_
           refine tkQ 8 ?_
           refine tkQ 4 ?_
           refine tkQ 9 ?_
           refine tkQ 10 ?_
           refine tkQ 11 ?_
           refine tkQ 12 ?_
           refine tdQ ?_
           refine goA ?_
           refine jk (i + 1, cg) ⟨hil, g, hg, hgr⟩ ?_ (fun w h => h.tail) (by dsimp only; omega)
           dsimp only
           rw [hal, hso, Bool.false_and, Bool.false_or]
           exact jv
         | true =>
           rw [hs0] at hso
           refine goA ?_
           refine jw jc ([(b15, Obj.cells #[.int .i64 x.up, .int .u8 x.vd.code, .slice x1 x.vd.sets.length xc1, .slice x2 x.vd.soa.length xc2, .int .u32 x.time, .string (bs (Vd.endV q x.vd).1.name), .int .u16 (Vd.endV q x.vd).1.kind, .int .u16 (Vd.endV q x.vd).1.cls, .int .u32 (Vd.endV q x.vd).1.ttl, .slice x3 (Vd.endV q x.vd).1.data.length xc3, .bool (Vd.endV q x.vd).2] 187 (0, 0)), (bE, Obj.cells cur 187 (0, 0))]) [] ?_
           refine tkQ 0 ?_
           refine tkQ 1 ?_
           refine tkQ 2 ?_
           refine tkQ 3 ?_
           refine tkQ 5 ?_
           refine tkQ 6 ?_
           refine tkQ 7 ?_
           refine tkQ 8 ?_
           refine tkQ 4 ?_
           refine tkQ 9 ?_
           refine tkQ 10 ?_
           refine tkQ 11 ?_
           refine tkQ 12 ?_
           refine tdQ ?_
           refine goA ?_
           refine jk (i + 1, cg) ⟨hil, g, hg, hgr⟩ ?_ (fun w h => h.tail) (by dsimp only; omega)
           dsimp only
           rw [hal, hso, Bool.false_and, Bool.true_or]
           exact jv
       | true =>
         rw [hav] at hal
         cases hs0 : kF q (l.take i) with
         | false =>
           rw [hs0] at hso
           refine goA ?_
           refine jw jc ([(b15, Obj.cells #[.int .i64 x.up, .int .u8 x.vd.code, .slice x1 x.vd.sets.length xc1, .slice x2 x.vd.soa.length xc2, .int .u32 x.time, .string (bs (Vd.endV q x.vd).1.name), .int .u16 (Vd.endV q x.vd).1.kind, .int .u16 (Vd.endV q x.vd).1.cls, .int .u32 (Vd.endV q x.vd).1.ttl, .slice x3 (Vd.endV q x.vd).1.data.length xc3, .bool (Vd.endV q x.vd).2] 187 (0, 0)), (bE, Obj.cells cur 187 (0, 0))]) [] ?_
           refine tkQ 0 ?_
           refine tkQ 1 ?_
           refine tkQ 2 ?_
           refine tkQ 3 ?_
           refine tkQ 5 ?_
           refine tkQ 6 ?_
           refine tkQ 7 ?_
           refine tkQ 8 ?_
           (refine jz 4 rfl rfl jg (kZ rfl rfl (by with_reducible rfl) (jD [.int .u8 x.vd.code, .slice x1 x.vd.sets.length xc1, .slice x2 x.vd.soa.length xc2] rfl stL (List.mem_cons_self ..) hx42)) ?_ ?_; (· exact hKm))
           (refine jz 9 rfl rfl jg (kZ rfl rfl (by with_reducible rfl) (jD [.int .u8 w.vd.code, .slice w1 w.vd.sets.length wc1, .slice w2 w.vd.soa.length wc2] rfl stL (List.mem_cons_of_mem _ (List.mem_cons_self ..)) hw42)) ?_ ?_; (· exact hKm))
           (refine Q9 10 jg rfl rfl rfl rfl (by with_reducible rfl) (jb jg rfl (K5 [.int .u8 x.vd.code, .slice x1 x.vd.sets.length xc1, .slice x2 x.vd.soa.length xc2] [.int .u8 w.vd.code, .slice w1 w.vd.sets.length wc1, .slice w2 w.vd.soa.length wc2] x.vd w.vd (ko _ _ _ _ hKc hxd) (ko _ _ _ _ hKc hwd))) ?_; rintro _ _ ⟨rfl, rfl⟩; refine ⟨Or.inr hKm, ?_⟩)
           refine tkQ 11 ?_
           refine tkQ 12 ?_
           refine tdQ ?_
           refine goA ?_
           refine jk (i + 1, cg) ⟨hil, g, hg, hgr⟩ ?_ (fun w h => h.tail) (by dsimp only; omega)
           dsimp only
           rw [hal, hso, Bool.true_and, Bool.false_or]
           exact jv
         | true =>
           rw [hs0] at hso
           refine goA ?_
           refine jw jc ([(b15, Obj.cells #[.int .i64 x.up, .int .u8 x.vd.code, .slice x1 x.vd.sets.length xc1, .slice x2 x.vd.soa.length xc2, .int .u32 x.time, .string (bs (Vd.endV q x.vd).1.name), .int .u16 (Vd.endV q x.vd).1.kind, .int .u16 (Vd.endV q x.vd).1.cls, .int .u32 (Vd.endV q x.vd).1.ttl, .slice x3 (Vd.endV q x.vd).1.data.length xc3, .bool (Vd.endV q x.vd).2] 187 (0, 0)), (bE, Obj.cells cur 187 (0, 0))]) [] ?_
           refine tkQ 0 ?_
           refine tkQ 1 ?_
           refine tkQ 2 ?_
           refine tkQ 3 ?_
           refine tkQ 5 ?_
           refine tkQ 6 ?_
           refine tkQ 7 ?_
           refine tkQ 8 ?_
           (refine jz 4 rfl rfl jg (kZ rfl rfl (by with_reducible rfl) (jD [.int .u8 x.vd.code, .slice x1 x.vd.sets.length xc1, .slice x2 x.vd.soa.length xc2] rfl stL (List.mem_cons_self ..) hx42)) ?_ ?_; (· exact hKm))
           (refine jz 9 rfl rfl jg (kZ rfl rfl (by with_reducible rfl) (jD [.int .u8 w.vd.code, .slice w1 w.vd.sets.length wc1, .slice w2 w.vd.soa.length wc2] rfl stL (List.mem_cons_of_mem _ (List.mem_cons_self ..)) hw42)) ?_ ?_; (· exact hKm))
           (refine Q9 10 jg rfl rfl rfl rfl (by with_reducible rfl) (jb jg rfl (K5 [.int .u8 x.vd.code, .slice x1 x.vd.sets.length xc1, .slice x2 x.vd.soa.length xc2] [.int .u8 w.vd.code, .slice w1 w.vd.sets.length wc1, .slice w2 w.vd.soa.length wc2] x.vd w.vd (ko _ _ _ _ hKc hxd) (ko _ _ _ _ hKc hwd))) ?_; rintro _ _ ⟨rfl, rfl⟩; refine ⟨Or.inr hKm, ?_⟩)
           refine tkQ 11 ?_
           refine tkQ 12 ?_
           refine tdQ ?_
           refine goA ?_
           refine jk (i + 1, cg) ⟨hil, g, hg, hgr⟩ ?_ (fun w h => h.tail) (by dsimp only; omega)
           dsimp only
           rw [hal, hso, Bool.true_and, Bool.true_or]
           exact jv
   · have hie : i = l.length := by omega
     subst hie
     rw [List.take_length] at hti ⊢
     have hKc : ∀ p ∈ K, p ∈ ((bW, Obj.cells #[.int .i64 f.up, .int .u8 f.vd.code, .slice f1 f.vd.sets.length fc1, .slice f2 f.vd.soa.length fc2, .int .u32 f.time, .string (bs (Vd.endV q f.vd).1.name), .int .u16 (Vd.endV q f.vd).1.kind, .int .u16 (Vd.endV q f.vd).1.cls, .int .u32 (Vd.endV q f.vd).1.ttl, .slice f3 (Vd.endV q f.vd).1.data.length fc3, .bool (Vd.endV q f.vd).2] 187 (0, 0)) :: ((bQ, Obj.cells #[.string (bs q.name), .int .u16 q.kind, .int .u16 q.cls] 24 (0, 0)) :: ((b4, Obj.cells #[.int .u8 0, .slice none 0 0, .slice none 0 0] 40 (0, 0)) :: (B ++ (D ++ L))))) := fun p hp => by have := hKL p hp; simp [this]
     rw [hf] at hU
     dsimp only at hU
     cases hA : Vd.alikeV l w.vd with
     | true =>
       rw [hA] at hU
       simp only [Bool.not_true, Bool.false_and, Bool.false_eq_true, if_false] at hU
       rw [hU]
       refine goA ?_
       refine ju (jD [.int .u8 f.vd.code, .slice f1 f.vd.sets.length fc1, .slice f2 f.vd.soa.length fc2] rfl stL (List.mem_cons_self ..) (fun j v hj => by
        match j, hj with
        | 0, hj => exact hj
        | 1, hj => exact hj
        | 2, hj => exact hj)) rfl ?_
       skip
       refine jx (jb jg rfl (uE [.int .u8 f.vd.code, .slice f1 f.vd.sets.length fc1, .slice f2 f.vd.soa.length fc2] f.vd (ko _ _ _ _ hKc (zW hfv)) (hs f (List.mem_of_getElem? hf)))) rfl ?_
       rintro _ _ ⟨a', c', B', a2', c2', B2', N', rfl, k1, k2, k3, rfl⟩
       repeat (refine ju (uO rfl) rfl ?_)
       refine jy (L' := (b4, Obj.cells #[.int .u8 0, .slice none 0 0, .slice none 0 0] 40 (0, 0)) :: (B2' ++ (B' ++ (N' ++ L)))) ?_ jl
       refine goA ?_
       refine uC 4 40 5 6 rfl rfl rfl rfl stO (by repeat (exact List.mem_cons_self)) rfl (fun w h => Heap.cnt (L' := B2' ++ (B' ++ (N' ++ L))) h jl) ?_
       exact ⟨a', c', B', a2', c2', B2', N', rfl, k1, k2, k3, rfl⟩
     | false =>
       cases hS : kF q l with
       | false =>
         rw [hA, hS] at hU
         simp only [Bool.not_false, Bool.true_and, Bool.false_eq_true, if_false] at hU
         rw [hU]
         refine goA ?_
         refine ju (jD [.int .u8 f.vd.code, .slice f1 f.vd.sets.length fc1, .slice f2 f.vd.soa.length fc2] rfl stL (List.mem_cons_self ..) (fun j v hj => by
          match j, hj with
          | 0, hj => exact hj
          | 1, hj => exact hj
          | 2, hj => exact hj)) rfl ?_
         skip
         refine jx (jb jg rfl (uE [.int .u8 f.vd.code, .slice f1 f.vd.sets.length fc1, .slice f2 f.vd.soa.length fc2] f.vd (ko _ _ _ _ hKc (zW hfv)) (hs f (List.mem_of_getElem? hf)))) rfl ?_
         rintro _ _ ⟨a', c', B', a2', c2', B2', N', rfl, k1, k2, k3, rfl⟩
         repeat (refine ju (uO rfl) rfl ?_)
         refine jy (L' := (b4, Obj.cells #[.int .u8 0, .slice none 0 0, .slice none 0 0] 40 (0, 0)) :: (B2' ++ (B' ++ (N' ++ L)))) ?_ jl
         refine goA ?_
         refine uC 4 40 5 6 rfl rfl rfl rfl stO (by repeat (exact List.mem_cons_self)) rfl (fun w h => Heap.cnt (L' := B2' ++ (B' ++ (N' ++ L))) h jl) ?_
         exact ⟨a', c', B', a2', c2', B2', N', rfl, k1, k2, k3, rfl⟩
       | true =>
         rw [hA, hS] at hU
         simp only [Bool.not_false, Bool.true_and, if_true] at hU
         rw [hU]
         refine goA ?_
         refine jx (jb jg rfl (Wl (K := K) (D := D) _ q l (fun p hp => by simp [hp]) hq1 hq2 hq3 ((hB.imp (r' := fun _ => endedR q K D) (L' := []) (fun cs x _ h => h)).sliceR qh (by simp) (fun p hp => by simp [hp])) hn hd)) rfl ?_
         rintro _ _ ⟨a', c', B', a2', c2', B2', N', rfl, k1, k2, k3, rfl⟩
         repeat (refine ju (uO rfl) rfl ?_)
         refine jy (L' := (b4, Obj.cells #[.int .u8 0, .slice none 0 0, .slice none 0 0] 40 (0, 0)) :: (B2' ++ (B' ++ (N' ++ L)))) ?_ jl
         refine goA ?_
         refine uC 4 40 5 6 rfl rfl rfl rfl stO (by repeat (exact List.mem_cons_self)) rfl (fun w h => Heap.cnt (L' := B2' ++ (B' ++ (N' ++ L))) h jl) ?_
         exact ⟨a', c', B', a2', c2', B2', N', rfl, k1, k2, k3, rfl⟩
end Go.Proofs.YtbjkkoacclfejaaGreat
namespace Go.Proofs.YtbjkkoacclfejaaGreat
namespace Vd
def qP (l : List Bytes) : Prop := l.Pairwise fun a b => a < b
theorem Ju : ∀ {a b : List Bytes}, qP a → qP b → (∀ x, x ∈ a ↔ x ∈ b) → a = b
 | [], [], _, _, _ => rfl
 | [], y :: b, _, _, h => absurd ((h y).2 (List.mem_cons_self ..)) (by simp)
 | x :: a, [], _, _, h => absurd ((h x).1 (List.mem_cons_self ..)) (by simp)
 | x :: a, y :: b, ha, hb, h => by
   have ha' := List.pairwise_cons.1 ha
   have hb' := List.pairwise_cons.1 hb
   have hxy : x = y := by
    rcases List.mem_cons.1 ((h x).1 (List.mem_cons_self ..)) with e | hx
    · exact e
    · rcases List.mem_cons.1 ((h y).2 (List.mem_cons_self ..)) with e | hy
      · exact e.symm
      · exact absurd (List.lt_trans (ha'.1 y hy) (hb'.1 x hx)) (List.lt_irrefl x)
   subst hxy
   have ht : ∀ z, z ∈ a ↔ z ∈ b := fun z => by
    constructor
    · intro hz
      rcases List.mem_cons.1 ((h z).1 (List.mem_cons_of_mem _ hz)) with e | hz'
      · subst e; exact absurd (ha'.1 _ hz) (List.lt_irrefl _)
      · exact hz'
    · intro hz
      rcases List.mem_cons.1 ((h z).2 (List.mem_cons_of_mem _ hz)) with e | hz'
      · subst e; exact absurd (hb'.1 _ hz) (List.lt_irrefl _)
      · exact hz'
   rw [Ju ha'.2 hb'.2 ht]
theorem VK (x s : Bytes) : gtB x s = true ↔ s < x := by
 unfold gtB
 rw [Go.Proofs.bytesLess_eq]
 simp only [Bool.not_eq_true', Bool.or_eq_false_iff, decide_eq_false_iff_not, beq_eq_false_iff_ne]
 constructor
 · rintro ⟨h1, h2⟩
   have hle : s ≤ x := List.not_lt.1 h1
   by_cases h : s < x
   · exact h
   · exact absurd (List.le_antisymm (List.not_lt.1 h) hle) h2
 · intro h
   refine ⟨fun h2 => absurd (List.lt_trans h h2) (List.lt_irrefl _), fun e => by subst e; exact absurd h (List.lt_irrefl _)⟩
theorem YG {a b : Bytes} : a < b ∨ a = b ∨ b < a := by
 by_cases h1 : a < b
 · exact Or.inl h1
 · by_cases h2 : b < a
   · exact Or.inr (Or.inr h2)
   · exact Or.inr (Or.inl (List.le_antisymm (List.not_lt.1 h2) (List.not_lt.1 h1)))
theorem Jv (s : Bytes) : ∀ (l out : List Bytes), (∀ x ∈ l, s < x) → putGo s l out true = .inr (out ++ l, true)
 | [], out, _ => by simp [putGo]
 | x :: l, out, h => by
   have hx := h x (List.mem_cons_self ..)
   rw [putGo, if_neg (fun e => by subst e; exact List.lt_irrefl _ hx), if_neg (by simp), Jv s l _ fun y hy => h y (List.mem_cons_of_mem _ hy)]
   simp
theorem Jw (s : Bytes) : ∀ (l out : List Bytes), qP (out ++ l) → (∀ x ∈ out, x < s) →
 (s ∈ l ∧ putGo s l out false = .inl []) ∨ ∃ o d, putGo s l out false = .inr (o, d) ∧ qP (if d then o else o ++ [s]) ∧ (∀ x, x ∈ (if d then o else o ++ [s]) ↔ x ∈ out ∨ x ∈ l ∨ x = s) ∧ s ∉ l
 | [], out, hr, ho => by
   refine Or.inr ⟨out, false, rfl, ?_, fun x => by simp, by simp⟩
   simp only [Bool.false_eq_true, if_false]
   rw [List.append_nil] at hr
   exact List.pairwise_append.2 ⟨hr, by simp, fun a ha b hb => by rw [List.mem_singleton.1 hb]; exact ho a ha⟩
 | x :: l, out, hr, ho => by
   by_cases hxs : x = s
   · subst hxs
     exact Or.inl ⟨List.mem_cons_self .., by rw [putGo, if_pos rfl]⟩
   · by_cases hg : s < x
     · have hall : ∀ y ∈ l, s < y := fun y hy => by
        have := (List.pairwise_cons.1 (List.pairwise_append.1 hr).2.1).1 y hy
        exact List.lt_trans hg this
       refine Or.inr ⟨((out ++ [s]) ++ [x]) ++ l, true, ?_, ?_, fun y => by simp; grind, ?_⟩
       · rw [putGo, if_neg hxs, if_pos (by simp [(VK x s).2 hg]), Jv s l _ hall]
       · simp only [if_true]
         have h1 := List.pairwise_append.1 hr
         rw [show ((out ++ [s]) ++ [x]) ++ l = out ++ (s :: x :: l) by simp]
         refine List.pairwise_append.2 ⟨h1.1, List.pairwise_cons.2 ⟨fun y hy => ?_, h1.2.1⟩, fun a ha b hb => ?_⟩
         · rcases List.mem_cons.1 hy with rfl | hy
           · exact hg
           · exact hall y hy
         · rcases List.mem_cons.1 hb with rfl | hb
           · exact ho a ha
           · exact h1.2.2 a ha b hb
       · intro hm
         rcases List.mem_cons.1 hm with e | hm
         · exact hxs e.symm
         · exact List.lt_irrefl _ (hall s hm)
     · have hlt : x < s := by
        rcases YG (a := x) (b := s) with h | h | h
        · exact h
        · exact absurd h hxs
        · exact absurd h hg
       have hng : gtB x s = false := by
        cases h : gtB x s with
        | false => rfl
        | true => exact absurd ((VK x s).1 h) hg
       have := Jw s l (out ++ [x]) (by simpa using hr) (fun y hy => by
        rcases List.mem_append.1 hy with hy | hy
        · exact ho y hy
        · rw [List.mem_singleton.1 hy]; exact hlt)
       rw [putGo, if_neg hxs, if_neg (by simp [hng])]
       rcases this with ⟨h1, h2⟩ | ⟨o, d, h1, h2, h3, h4⟩
       · exact Or.inl ⟨List.mem_cons_of_mem _ h1, h2⟩
       · refine Or.inr ⟨o, d, h1, h2, fun y => by rw [h3]; simp; grind, ?_⟩
         intro hm
         rcases List.mem_cons.1 hm with e | hm
         · exact hxs e.symm
         · exact h4 hm
theorem U0 {l : List Bytes} (s : Bytes) (h : qP l) : qP (put l s) ∧ ∀ x, x ∈ put l s ↔ x ∈ l ∨ x = s := by
 unfold put
 rcases Jw s l [] (by simpa using h) (by simp) with ⟨h1, h2⟩ | ⟨o, d, h1, h2, h3, _⟩
 · rw [h2]
   exact ⟨h, fun x => ⟨fun hx => Or.inl hx, fun hx => hx.elim id fun e => e ▸ h1⟩⟩
 · rw [h1]
   dsimp only
   exact ⟨h2, fun x => by rw [h3]; simp⟩
theorem foldPut_rising : ∀ (d : List Bytes) {l : List Bytes}, qP l → qP (d.foldl put l) ∧ ∀ x, x ∈ d.foldl put l ↔ x ∈ l ∨ x ∈ d
 | [], l, h => ⟨h, fun x => by simp⟩
 | s :: d, l, h => by
   obtain ⟨h1, h2⟩ := U0 s h
   obtain ⟨h3, h4⟩ := foldPut_rising d h1
   exact ⟨h3, fun x => by rw [List.foldl_cons, h4, h2]; simp; grind⟩
theorem adu {a b c : Bytes} (h1 : a ≤ b) (h2 : b < c) : a < c := by
 rcases YG (a := a) (b := c) with h | h | h
 · exact h
 · subst h; exact absurd h2 (List.not_lt.2 h1)
 · exact absurd (List.lt_trans h2 h) (List.not_lt.2 h1)
theorem Jx (d : Array Bytes) (hs : ∀ i j, i ≤ j → j < d.size → d[i]! ≤ d[j]!) : ∀ m, m ≤ d.size → qP (Lib.compactUpTo d m) ∧ ∀ x, x ∈ Lib.compactUpTo d m ↔ ∃ j, j < m ∧ d[j]! = x
 | 0, _ => by
   have h0 : Lib.compactUpTo d 0 = [] := rfl
   rw [h0]
   exact ⟨List.Pairwise.nil, fun x => by simp⟩
 | m + 1, hm => by
   obtain ⟨h1, h2⟩ := Jx d hs m jf
   rw [Lib.compactUpTo_succ]
   cases hk : Lib.keeps d m with
   | true =>
     simp only [if_true]
     refine ⟨List.pairwise_append.2 ⟨h1, by simp, fun a ha b hb => ?_⟩, fun x => ?_⟩
     · rw [List.mem_singleton.1 hb]
       obtain ⟨j, hj, rfl⟩ := (h2 a).1 ha
       have hne : d[m]! ≠ d[m - 1]! := fun e => by rw [Lib.keeps_neg jf e] at hk; cases hk
       have h3 := hs (m - 1) m jf jf
       have h4 := hs j (m - 1) jf jf
       refine adu h4 ?_
       rcases YG (a := d[m - 1]!) (b := d[m]!) with h | h | h
       · exact h
       · exact absurd h.symm hne
       · exact absurd h (List.not_lt.2 h3)
     · rw [List.mem_append, h2, List.mem_singleton]
       constructor
       · rintro (⟨j, hj, e⟩ | e)
         · exact ⟨j, by omega, e⟩
         · exact ⟨m, by omega, e.symm⟩
       · rintro ⟨j, hj, e⟩
         by_cases hjm : j = m
         · subst hjm; exact Or.inr e.symm
         · exact Or.inl ⟨j, by omega, e⟩
   | false =>
     simp only [Bool.false_eq_true, if_false, List.append_nil]
     refine ⟨h1, fun x => ?_⟩
     have h0 : 0 < m := by
      rcases Nat.eq_zero_or_pos m with h | h
      · subst h; rw [Lib.keeps_lt_one d 0 jf] at hk; cases hk
      · exact h
     have he : d[m]! = d[m - 1]! := by
      by_cases e : d[m]! = d[m - 1]!
      · exact e
      · rw [Lib.keeps_pos e] at hk; cases hk
     rw [h2]
     constructor
     · rintro ⟨j, hj, e⟩; exact ⟨j, by omega, e⟩
     · rintro ⟨j, hj, e⟩
       by_cases hjm : j = m
       · subst hjm; exact ⟨j - 1, by omega, by rw [← he]; exact e⟩
       · exact ⟨j, by omega, e⟩
theorem Jy {l : List Bytes} (h : l.Pairwise fun a b => a ≤ b) : qP (Lib.compact l) ∧ ∀ x, x ∈ Lib.compact l ↔ x ∈ l := by
 have key := Jx l.toArray (fun i j hij hj => by
  have hj' : j < l.length := by simpa using hj
  have hi' : i < l.length := by omega
  have e1 : l.toArray[i]! = l[i] := by simp [hi']
  have e2 : l.toArray[j]! = l[j] := by simp [hj']
  rw [e1, e2]
  rcases Nat.lt_or_eq_of_le hij with h1 | h1
  · exact List.pairwise_iff_getElem.1 h i j hi' hj' h1
  · subst h1; exact List.le_refl _) l.length (by simp)
 refine ⟨key.1, fun x => ?_⟩
 unfold Lib.compact
 rw [key.2]
 constructor
 · rintro ⟨j, hj, e⟩
   have : l.toArray[j]! = l[j] := by simp [hj]
   rw [this] at e
   rw [← e]
   exact List.getElem_mem _
 · intro hx
   obtain ⟨j, hj, e⟩ := List.getElem_of_mem hx
   exact ⟨j, hj, by rw [← e]; simp [hj]⟩
theorem Uf (l : List Bytes) : (l.mergeSort fun x y => decide (x ≤ y)).Pairwise fun a b => a ≤ b := by
 have := List.pairwise_mergeSort (le := fun x y : Bytes => decide (x ≤ y)) (fun a b c h1 h2 => by simp at *; exact List.le_trans h1 h2) (fun a b => by simp; exact List.le_total a b) l
 exact this.imp fun h => by simpa using h
theorem compact_put (l : List Bytes) : Lib.compact (l.mergeSort fun x y => decide (x ≤ y)) = l.foldl put [] := by
 obtain ⟨h1, h2⟩ := Jy (Uf l)
 obtain ⟨h3, h4⟩ := foldPut_rising l (l := []) List.Pairwise.nil
 exact Ju h1 h3 fun x => by rw [h2, h4, List.mem_mergeSort]; simp
end Vd
end Go.Proofs.YtbjkkoacclfejaaGreat
namespace Go.Proofs.YtbjkkoacclfejaaGreat
open Go.RowKit
open Vd (RSet Vdt Vote Rec Quest Piece Ballot Said)
theorem uI (q : Quest) : ∀ (l : List Vote) (d : List Vd.Bytes), Vd.endsPut q l d = (jK q l).foldl Vd.put d
 | [], d => rfl
 | x :: l, d => by
   have ih := uI q l
   have h1 : Vd.endsPut q (x :: l) d = Vd.endsPut q l (if (Vd.endV q x.vd).2 then (Vd.endV q x.vd).1.data.foldl Vd.put d else d) := rfl
   have h2 : jK q (x :: l) = qc q x ++ jK q l := by simp [jK]
   rw [h1, h2, ih, List.foldl_append]
   unfold qc
   split <;> rfl
theorem Wm (q : Quest) (l : List Vote) (h : ∀ x ∈ l, (Vd.endV q x.vd).2 = true → (Vd.endV q x.vd).1.data ≠ []) : Vd.endsPut q l [] = [] ↔ kF q l = false := by
 rw [uI]
 have hm := (Vd.foldPut_rising (jK q l) (l := []) List.Pairwise.nil).2
 constructor
 · intro he
   cases hs : kF q l with
   | false => rfl
   | true =>
     obtain ⟨x, hx, hx2⟩ := List.any_eq_true.1 hs
     obtain ⟨d, hd⟩ := List.exists_mem_of_ne_nil _ (h x hx hx2)
     have : d ∈ (jK q l).foldl Vd.put [] := (hm d).2 (Or.inr (List.mem_flatMap.2 ⟨x, hx, by unfold qc; rw [if_pos hx2]; exact hd⟩))
     rw [he] at this
     simp at this
 · intro hs
   have h0 : jK q l = [] := by
    refine List.flatMap_eq_nil_iff.2 fun x hx => ?_
    unfold qc
    rw [if_neg]
    intro hx2
    have : kF q l = true := List.any_eq_true.2 ⟨x, hx, hx2⟩
    rw [hs] at this
    cases this
   rw [h0]
   rfl
theorem U1 (q : Quest) (l : List Vote) (h : ∀ x ∈ l, (Vd.endV q x.vd).2 = true → (Vd.endV q x.vd).1.data ≠ []) : yW q l = Vd.union q l := by
 cases l with
 | nil => rfl
 | cons w r =>
   have he := Wm q (w :: r) h
   unfold yW Vd.union
   dsimp only
   split
   · rfl
   · rw [Vd.compact_put, ← uI]
     by_cases h0 : Vd.endsPut q (w :: r) [] = []
     · rw [he.1 h0, Bool.and_false, if_neg (by simp), if_pos (by simp [h0])]
       rfl
     · have hs : kF q (w :: r) = true := by
        cases hs : kF q (w :: r) with
        | true => rfl
        | false => exact absurd (he.2 hs) h0
       rw [hs, Bool.and_true]
       cases ha : Vd.alikeV (w :: r) w.vd with
       | true => rw [if_neg (by simp), if_pos (by simp)]; rfl
       | false => rw [if_pos (by simp), if_neg (by simp [h0])]
end Go.Proofs.YtbjkkoacclfejaaGreat
namespace Go.Proofs.YtbjkkoacclfejaaGreat
open Go.RowKit
open Vd (RSet Vdt Vote Rec Quest Piece Ballot Said)
def aal (p : RSet → Prop) (v : Vdt) : Prop := (∀ s ∈ v.sets, p s) ∧ ∀ s ∈ v.soa, p s
theorem YH (q : Quest) (m : Vd.Msg) (p : RSet → Prop) (hp : ∀ s, p s → p (Vd.bare s)) (h1 : ∀ s ∈ Vd.group m.answers, p s) (h2 : ∀ s ∈ Vd.group m.auth, p s) : aal p (Vd.ofM q m).1 := by
 have hnone : aal p Vdt.none := ⟨by simp [Vdt.none], by simp [Vdt.none]⟩
 obtain ⟨f1, f2, _, _, _⟩ := We q (Vd.group m.answers)
 unfold Vd.ofM
 split
 · exact hnone
 · revert f1 f2
   generalize Vd.follow q (Vd.group m.answers) = t
   obtain ⟨l, pos, last, e⟩ := t
   intro f1 f2
   dsimp only at f1 f2 ⊢
   have hall : ∀ s ∈ (l ++ last).map Vd.bare, p s := fun s hs => by
    obtain ⟨t, ht, rfl⟩ := List.mem_map.1 hs
    rcases List.mem_append.1 ht with ht | ht
    · exact hp t (h1 t (f1 t ht))
    · exact hp t (h1 t (f2 t ht))
   split
   · exact hnone
   split
   · exact hnone
   split
   · exact ⟨hall, by simp⟩
   have hf := UU (l := Vd.group m.auth) (n := pos) (c := q.cls)
   revert hf
   generalize Vd.findSoa (Vd.group m.auth) pos q.cls = r
   obtain ⟨s, is, e2⟩ := r
   intro hf
   dsimp only at hf ⊢
   split
   · exact hnone
   split
   · exact ⟨hall, by simp⟩
   · rename_i hi
     refine ⟨hall, fun t ht => ?_⟩
     rw [List.mem_singleton.1 ht]
     exact hp s (h2 s (hf (by simpa using hi)))
end Go.Proofs.YtbjkkoacclfejaaGreat
namespace Go.Proofs.YtbjkkoacclfejaaGreat
open Go.RowKit
open Vd (RSet Vdt Vote Rec Quest Piece Ballot Said)
variable {G : World} {L : ja}
def MsgSmall (m : Vd.Msg) : Prop := (m.answers.length ≤ 420 ∧ ∀ x ∈ m.answers, x.name.length ≤ 5000 ∧ x.data.length ≤ 5000) ∧ (m.auth.length ≤ 420 ∧ ∀ x ∈ m.auth, x.name.length ≤ 5000 ∧ x.data.length ≤ 5000)
end Go.Proofs.YtbjkkoacclfejaaGreat
namespace Go.Proofs.YtbjkkoacclfejaaGreat
open Go.RowKit
open Vd (RSet Vdt Vote Rec Quest Piece Ballot Said)
structure BalOk (p : Vote → Prop) (l : List Ballot) : Prop where
 nd : (l.map fun b => b.v.up).Nodup
 ok : ∀ b ∈ l, b.pass = false ∧ (0 ≤ b.v.up ∧ b.v.up < 9) ∧ p b.v
theorem YI (l : List Ballot) (u : Int) : Vd.hasB l u = true ↔ u ∈ l.map fun b => b.v.up := by
 unfold Vd.hasB
 rw [List.any_eq_true, List.mem_map]
 simp only [beq_iff_eq]
theorem BalOk.put {p : Vote → Prop} {l : List Ballot} (h : BalOk p l) {x : Vote} (hx : p x) : BalOk p (Vd.putB l ⟨x, false⟩).1 := by
 unfold Vd.putB
 split
 · exact h
 split
 · exact h
 · rename_i h1 h2
   refine ⟨?_, fun b hb => ?_⟩
   · rw [List.map_append]
     refine List.nodup_append.2 ⟨h.nd, by simp, fun a ha b hb => ?_⟩
     rw [List.map_singleton, List.mem_singleton] at hb
     intro e
     refine h2 ((YI _ _).2 ?_)
     dsimp only at hb ⊢
     rw [← hb, ← e]
     exact ha
   · rcases List.mem_append.1 hb with hb | hb
     · exact h.ok b hb
     · rw [List.mem_singleton.1 hb]
       dsimp only at h1 ⊢
       exact ⟨rfl, by omega, hx⟩
theorem BalOk.cast {p : Vote → Prop} {q : Quest} {l : List Ballot} (h : BalOk p l) {s : Said} (hs : p ⟨s.up, (Vd.ofM q s.m).1, s.time⟩) : BalOk p (Vd.castSaid q l s) := by
 unfold Vd.castSaid
 split
 · exact h.put hs
 · exact h
theorem BalOk.all {p : Vote → Prop} {q : Quest} : ∀ (l : List Said) {b : List Ballot}, BalOk p b → (∀ s ∈ l, p ⟨s.up, (Vd.ofM q s.m).1, s.time⟩) → BalOk p (l.foldl (Vd.castSaid q) b)
 | [], b, h, _ => h
 | s :: l, b, h, hl => BalOk.all l (h.cast (hl s (List.mem_cons_self ..))) fun t ht => hl t (List.mem_cons_of_mem _ ht)
theorem BalOk.votes {p : Vote → Prop} {l : List Ballot} (h : BalOk p l) : Vd.votesB l = l.map (·.v) := by
 unfold Vd.votesB
 rw [List.filter_eq_self.2 fun b hb => by rw [(h.ok b hb).1]; rfl]
def YJ (s : RSet) : Prop := s.name.length ≤ 255 ∧ s.data.length ≤ 420 ∧ s.data ≠ [] ∧ ∀ d ∈ s.data, d.length ≤ 5000
theorem MsgSmall.sets {m : Vd.Msg} (h : MsgSmall m) (q : Quest) : aal YJ (Vd.ofM q m).1 := by
 obtain ⟨⟨a1, a2⟩, b1, b2⟩ := h
 have ga := (Q2 (D := 5000) m.answers fun x hx => (a2 x hx).2).2
 have gb := (Q2 (D := 5000) m.auth fun x hx => (b2 x hx).2).2
 refine YH q m YJ (fun s hs => hs) (fun s hs => ?_) (fun s hs => ?_)
 · obtain ⟨h1, h2, h3, h4⟩ := ga s hs
   exact ⟨h1, by omega, h3, h4⟩
 · obtain ⟨h1, h2, h3, h4⟩ := gb s hs
   exact ⟨h1, by omega, h3, h4⟩
theorem MsgSmall.fits {m : Vd.Msg} (h : MsgSmall m) : aag m := by
 obtain ⟨⟨a1, a2⟩, b1, b2⟩ := h
 exact ⟨by omega, fun x hx => ⟨by have := (a2 x hx).1; omega, by have := (a2 x hx).2; omega⟩, by omega, fun x hx => ⟨by have := (b2 x hx).1; omega, by have := (b2 x hx).2; omega⟩⟩
def VoteSm (v : Vote) : Prop := aal YJ v.vd ∧ v.vd.sets.length ≤ 10 ∧ v.vd.soa.length ≤ 1
theorem aam {q : Quest} {v : Vdt} (h : (Vd.endV q v).2 = true) : (Vd.endV q v).1 ∈ v.sets ∧ (Vd.endV q v).1.kind = q.kind := by
 unfold Vd.endV at h ⊢
 cases hs : v.sets.getLast? with
 | none => rw [hs] at h; cases h
 | some s =>
   rw [hs] at h
   dsimp only at h ⊢
   by_cases hk : s.kind = q.kind
   · rw [if_pos hk]
     exact ⟨List.mem_of_getLast? hs, hk⟩
   · rw [if_neg hk] at h; cases h
theorem aan {q : Quest} {v : Vdt} (h : (Vd.endV q v).2 = false) : (Vd.endV q v).1 = RSet.none := by
 unfold Vd.endV at h ⊢
 cases hs : v.sets.getLast? with
 | none => rfl
 | some s =>
   rw [hs] at h
   dsimp only at h ⊢
   by_cases hk : s.kind = q.kind
   · rw [if_pos hk] at h; cases h
   · rw [if_neg hk]
theorem VoteSm.ends {v : Vote} (h : VoteSm v) (q : Quest) : (Vd.endV q v.vd).1.data.length ≤ 420 ∧ (∀ d ∈ (Vd.endV q v.vd).1.data, d.length ≤ 5000) ∧ ((Vd.endV q v.vd).2 = true → (Vd.endV q v.vd).1.data ≠ []) := by
 cases he : (Vd.endV q v.vd).2 with
 | true =>
   obtain ⟨_, h2, h3, h4⟩ := h.1.1 _ (aam he).1
   exact ⟨h2, h4, fun _ => h3⟩
 | false =>
   rw [aan he]
   exact ⟨by simp [RSet.none], by simp [RSet.none], fun h => by cases h⟩
end Go.Proofs.YtbjkkoacclfejaaGreat
namespace Go.Proofs.YtbjkkoacclfejaaGreat
open Go.RowKit
open Vd (RSet Vdt Vote Rec Quest Piece Ballot)
variable {G : World} {L : ja}
theorem Spec.drop {P : Program} {f : FuncId} {args : Array Value} {Φ Ψ : Value → ja → Prop} (h : Spec P G f args L Φ) (hi : ∀ v M, Φ v M → ∃ M', Ψ v M' ∧ ∀ p, cnt p M' ≤ cnt p M) : Spec P G f args L Ψ :=
 ⟨fun w hw => (h.out w hw).mono fun e w' ⟨v, M, e1, h1, h2⟩ => by
   obtain ⟨M', k1, k2⟩ := hi v M h1
   exact ⟨v, M', e1, k1, h2.cnt k2⟩⟩
theorem BoxOk.len {l : List Ballot} (h : BoxOk l) : l.length ≤ 9 := by
 have h1 : (l.map fun b => b.v.up).length ≤ 9 := uB 9 _ h.nd fun u hu => by
  obtain ⟨b, hb, rfl⟩ := List.mem_map.1 hu
  have := h.up b hb
  omega
 rw [List.length_map] at h1
 exact h1
structure BoxSm (l : List Ballot) : Prop where
 ok : BoxOk l
 sm : ∀ x ∈ Vd.votesB l, SmV x.vd
theorem BoxSm.nil : BoxSm [] := ⟨BoxOk.nil, by simp [Vd.votesB]⟩
theorem BoxSm.put {l : List Ballot} (h : BoxSm l) {x : Ballot} (hx : SmV x.v.vd) : BoxSm (Vd.putB l x).1 := by
 refine ⟨h.ok.put x, fun y hy => ?_⟩
 by_cases h0 : Jm l x.v.up = 0
 · rw [(Jn h0).1, qm] at hy
   split at hy
   · exact h.sm y hy
   · rcases List.mem_append.1 hy with hy | hy
     · exact h.sm y hy
     · rw [List.mem_singleton.1 hy]; exact hx
 · rw [K9 h0] at hy
   exact h.sm y hy
theorem YK : SmV Vdt.none := ⟨⟨by decide, by simp [Vdt.none]⟩, ⟨by decide, by simp [Vdt.none]⟩⟩
def PBox (bb : Nat) (want : Int) (l : List Ballot) (X : ja) : Prop := BoxSm l ∧ ∃ M0 N, TBox N bb want l M0 ∧ Wr N ∧ X = M0 ++ N
def DBox (bb : Nat) (want : Int) (l : List Ballot) (X : ja) : Prop := BoxOk l ∧ ∃ M0 N, RBox N bb want l M0 ∧ X = M0 ++ N
theorem abq (want : Int) : Spec Tryz.prog G 41 #[.int .i64 want] L fun u M => (1 ≤ want ∧ want ≤ 9 ∧ ∃ bb X, u = .tuple #[.pointer (some ⟨bb, 0, none⟩), .int .i64 0] ∧ PBox bb want [] X ∧ M = X ++ L) ∨ ((want < 1 ∨ 9 < want) ∧ u = .tuple #[.pointer none, .int .i64 1] ∧ M = L) := by
 refine (abp want).mono fun u M h => ?_
 rcases h with ⟨h1, h2, bb, h3, h4⟩ | h
 · exact Or.inl ⟨h1, h2, bb, _, h3, ⟨BoxSm.nil, _, [], ⟨none, 0, [], ORow.nil _, rfl⟩, Wr.nil, rfl⟩, h4⟩
 · exact Or.inr h
theorem aao {bb : Nat} {want : Int} {l : List Ballot} {X : ja} (h : PBox bb want l X) (hX : ∀ p ∈ X, p ∈ L) : Spec Tryz.prog G 186 #[.pointer (some ⟨bb, 0, none⟩)] L fun w M => w = .int .i64 (qL (Vd.votesB l)) ∧ M = L := by
 obtain ⟨hs, _, N, ⟨a, c, B, hB, rfl⟩, hN, rfl⟩ := h
 exact aaj bb want l _ (hX _ (List.mem_append_left _ (List.mem_cons_self ..))) hs.ok
theorem abr {bb : Nat} {want : Int} {l : List Ballot} {X : ja} (h : PBox bb want l X) (hX : ∀ p ∈ X, p ∈ L) : Spec Tryz.prog G 189 #[.pointer (some ⟨bb, 0, none⟩)] L (YA L (Wj want (Vd.votesB l))) := by
 obtain ⟨hs, _, N, ⟨a, c, B, hB, rfl⟩, hN, rfl⟩ := h
 exact abo (K := N) bb want l a c (hX _ (List.mem_append_left _ (List.mem_cons_self ..))) ((hB.imp (r' := fun _ => voteR N) (L' := []) (fun cs x _ h => h)).sliceR qh (by simp) (fun p hp => hX p (by simp [hp]))) (fun p hp => hX p (by simp [hp])) hs.ok hs.ok.len hs.sm
theorem U2 {bb : Nat} {want : Int} {l : List Ballot} {X : ja} (h : PBox bb want l X) (hX : ∀ p ∈ X, p ∈ L) : Spec Tryz.prog G 190 #[.pointer (some ⟨bb, 0, none⟩)] L fun u M => ∃ a3 c3 B3, u = .slice a3 (if want < 1 then [] else kA want (Vd.votesB l)).length c3 ∧ ORow (uZ .i64) 3 1 [] a3 c3 (if want < 1 then [] else kA want (Vd.votesB l)) B3 ∧ M = B3 ++ L := by
 obtain ⟨hs, _, N, ⟨a, c, B, hB, rfl⟩, hN, rfl⟩ := h
 exact UZ (K := N) bb want l a c (hX _ (List.mem_append_left _ (List.mem_cons_self ..))) ((hB.imp (r' := fun _ => voteR N) (L' := []) (fun cs x _ h => h)).sliceR qh (by simp) (fun p hp => hX p (by simp [hp]))) hs.ok hs.ok.len
theorem yF {bb : Nat} {want : Int} {l : List Ballot} {X : ja} (h : PBox bb want l X) (hX : ∀ p ∈ X, p ∈ L) : Spec Tryz.prog G 210 #[.pointer (some ⟨bb, 0, none⟩)] L (Jp L (Vd.votesB l)) := by
 obtain ⟨hs, _, N, ⟨a, c, B, hB, rfl⟩, hN, rfl⟩ := h
 have := jY l
 have := hs.ok.len
 exact Yt bb want (jj l) (Vd.votesB l) a c (hX _ (List.mem_append_left _ (List.mem_cons_self ..))) ((hB.mono kz (fun p hp => hX p (by simp [hp]))).sliceR kz (fun p h => h) (fun p hp => hX p (by simp [hp]))) jf hs.sm
theorem aap {bb : Nat} {want : Int} {l : List Ballot} {X : ja} {cs : List Value} {x : Vote} (h : PBox bb want l X) (hx : voteR L cs x) (hsx : SmV x.vd) : Spec Tryz.prog G 52 #[.pointer (some ⟨bb, 0, none⟩), .agg cs.toArray] (X ++ L) fun w M => w = .int .i64 (Vd.putB l ⟨x, false⟩).2 ∧ ∃ X', PBox bb want (Vd.putB l ⟨x, false⟩).1 X' ∧ M = X' ++ L := by
 obtain ⟨hs, M0, N, hb, hN, rfl⟩ := h
 have h1 := aae (G := G) (L := N ++ L) (K := N) bb want l M0 cs x hb hs.ok (by simp +contextual) (kz _ _ _ _ (by simp +contextual) hx) hsx hs.ok.len
 rw [← List.append_assoc] at h1
 refine h1.mono fun w M ⟨e, M', N', hb', hN', hM⟩ => ⟨e, M' ++ (N' ++ N), ⟨hs.put hsx, M', N' ++ N, hb', hN'.append hN, rfl⟩, ?_⟩
 rw [hM]
 simp only [List.append_assoc]
theorem aaq {bb : Nat} {want : Int} {l : List Ballot} {X : ja} (u : Int) (h : PBox bb want l X) : Spec Tryz.prog G 49 #[.pointer (some ⟨bb, 0, none⟩), .int .i64 u] (X ++ L) fun w M => w = .int .i64 (Vd.putB l ⟨⟨u, Vdt.none, 0⟩, true⟩).2 ∧ ∃ X', PBox bb want (Vd.putB l ⟨⟨u, Vdt.none, 0⟩, true⟩).1 X' ∧ M = X' ++ L := by
 obtain ⟨hs, M0, N, hb, hN, rfl⟩ := h
 have h1 := aac (G := G) (L := N ++ L) (K := N) bb want u l M0 hb hs.ok
 rw [← List.append_assoc] at h1
 refine h1.mono fun w M ⟨e, M', hb', hM⟩ => ⟨e, M' ++ N, ⟨hs.put YK, M', N, hb', hN, rfl⟩, ?_⟩
 rw [hM]
 simp only [List.append_assoc]
theorem aar {bb : Nat} {want : Int} {l : List Ballot} {X : ja} (h : PBox bb want l X) : Spec Tryz.prog G 51 #[.pointer (some ⟨bb, 0, none⟩)] (X ++ L) fun u M => ∃ b2 X2, u = .pointer (some ⟨b2, 0, none⟩) ∧ PBox b2 want l X2 ∧ M = X2 ++ (X ++ L) := by
 obtain ⟨hs, M0, N, hb, hN, rfl⟩ := h
 have h1 := aak (G := G) (L := N ++ L) (K := N) bb want l M0 hb (by simp +contextual) hs.ok.len hs.sm
 rw [← List.append_assoc] at h1
 refine h1.mono fun w M ⟨b2, M2, N2, e, hb2, hN2, hM⟩ => ⟨b2, M2 ++ N2, e, ⟨hs, M2, N2, hb2, hN2, rfl⟩, ?_⟩
 rw [hM]
 simp only [List.append_assoc]
theorem DBox.row {bb : Nat} {want : Int} {l : List Ballot} {X : ja} (h : DBox bb want l X) : ∃ a c B N, ORow ballotR 225 6 N a c l B ∧ X = (bb, Obj.cells #[.int .i64 want, .slice a l.length c] 200 (0, 0)) :: (B ++ N) := by
 obtain ⟨_, _, N, ⟨a, c, B, hB, rfl⟩, rfl⟩ := h
 exact ⟨a, c, B, N, hB, rfl⟩
end Go.Proofs.YtbjkkoacclfejaaGreat
namespace Go.Proofs.YtbjkkoacclfejaaGreat
open Go.RowKit
open Vd (RSet Vdt Vote Rec Quest Piece Ballot)
section
variable {G : World} {P : Program} {n : Nat} {ρ : jp} {L : ja} {ty : TypeId}
theorem qA {f : FuncId} {recv : Operand} {name : String} {xs : List Operand} {ats : Array TypeId} {vs : List Value} {t : TypeId} {rv : Value} {Φ : Value → ja → Prop} (hb : kB P f = true) (hx : ev ρ recv = some (.iface t rv)) (ha : kk ρ xs = some vs)
 (hm : ∀ w, (method (P.types.size + Made.depth) t rv name).run P w = .ok (f, rv) w) (h : Spec P G f (rv :: vs).toArray L Φ) : OpT P G ρ L (.call ⟨.invoke recv name, xs.toArray, ats⟩) ty Φ :=
 ⟨fun r hr w hw o ho _ => by
   have hq := qG hr xs vs ha
   have hrf := hr _ _ hx
   have : (execOp r o).run P w = (callFunc f (rv :: vs).toArray).run P w := by
    simp only [execOp, ho, resolve, hrf]
    show (invoke (.fn (.method name) #[]) (#[Value.iface t rv] ++ (xs.toArray.map r))).run P w = _
    rw [List.map_toArray, hq]
    simp [invoke, callMethod, hm]
   rw [this, q8 hb]
   exact (h.out w hw).mono fun e w' ⟨v, L', h1, h2, h3⟩ => ⟨v, h1, L', h2, h3⟩⟩
end
end Go.Proofs.YtbjkkoacclfejaaGreat
namespace Go.Proofs.YtbjkkoacclfejaaGreat.Hg
structure En where
 up : Int
 asked : Int
 last : Int
 op : Bool
deriving DecidableEq
structure Pl where
 list : List En
 asked : Nat
 want : Int
 tries : Int
 every : Int
 wait : Int
 start : Int
 now : Int
 reached : Int
 made : Bool
 begins : Bool
deriving DecidableEq
def top : Int := 1099511627776
def VL : List Int → List Int → Bool
 | _, [] => false
 | seen, u :: r => decide (u < 0) || decide (9 ≤ u) || seen.contains u || VL (u :: seen) r
def adv (l : List Int) (want every wait tries now : Int) : Bool :=
 decide (l.length ≤ 9) && !VL [] l && decide (1 ≤ want ∧ want ≤ 9 ∧ 1 ≤ every ∧ every ≤ 1000 ∧ 1 ≤ wait ∧ wait ≤ 1000 ∧ 1 ≤ tries ∧ tries ≤ 4 ∧ 0 ≤ now ∧ now ≤ top)
def fresh (u : Int) : En := ⟨u, 0, 0, false⟩
def mk (l : List Int) (want every wait tries now : Int) : Pl := ⟨l.map fresh, 0, want, tries, every, wait, now, now, 0, true, false⟩
def advance (p : Pl) (n : Int) : Pl := { p with now := max p.now (min n top) }
def askAt (now : Int) (x : En) : En := ⟨x.up, 1, now, true⟩
def next (p : Pl) : Pl := { p with asked := p.asked + 1, list := p.list.modify p.asked (askAt p.now) }
def upAt (p : Pl) (i : Nat) : Int := ((p.list[i]?).map (·.up)).getD 0
def nexts : Nat → Pl → Pl × List Int
 | 0, p => (p, [])
 | k + 1, p => let r := nexts k (next p); (r.1, upAt p p.asked :: r.2)
def begin' (p : Pl) : Pl × List Int :=
 if !p.made || p.begins then (p, []) else nexts (min p.want.toNat (p.list.length - p.asked)) { p with begins := true }
def late (now wait : Int) (x : En) : Bool := x.op && decide (wait ≤ now - x.last)
def tickE (now wait tries : Int) (x : En) : En :=
 if late now wait x then (if tries ≤ x.asked then { x with op := false } else { x with asked := x.asked + 1, last := now }) else x
def goneE (now wait tries : Int) (x : En) : List Int := if late now wait x && decide (tries ≤ x.asked) then [x.up] else []
def sendE (now wait tries : Int) (x : En) : List Int := if late now wait x && !decide (tries ≤ x.asked) then [x.up] else []
def examine (p : Pl) : Pl := { p with list := p.list.map (tickE p.now p.wait p.tries) }
def hedged (p : Pl) : Pl × List Int :=
 let k := (p.now - p.start) / p.every
 if p.reached < k then
  let q := { p with reached := k }
  if q.asked < q.list.length then (next q, [upAt q q.asked]) else (q, [])
 else (p, [])
def tick (p : Pl) (n : Int) : Pl × List Int × List Int :=
 if !p.begins then (p, [], []) else
 let q := advance p n
 let r := hedged (examine q)
 (r.1, q.list.flatMap (goneE q.now q.wait q.tries), q.list.flatMap (sendE q.now q.wait q.tries) ++ r.2)
def more (p : Pl) (n : Int) : Pl × Int × Bool :=
 if !p.begins then (p, 0, false) else
 let q := advance p n
 if q.list.length ≤ q.asked then (q, 0, false) else (next q, upAt q q.asked, true)
def isIt (u : Int) (x : En) : Bool := x.up == u && x.op
def closeL (u : Int) : List En → List En
 | [] => []
 | x :: r => if isIt u x then { x with op := false } :: r else x :: closeL u r
def close (p : Pl) (u : Int) : Pl × Bool := ({ p with list := closeL u p.list }, p.list.any (isIt u))
def opens (p : Pl) : Int := ((p.list.filter (·.op)).length : Nat)
def left (p : Pl) : Int := (p.list.length : Int) - (p.asked : Nat)
def ad7 (p : Pl) (u : Int) : Int := ((p.list.find? fun x => x.up == u).map (·.asked)).getD 0
def exA : Pl := (begin' (mk [4, 2, 7] 2 10 15 2 100)).1
theorem ex1 : adv [4, 2, 7] 2 10 15 2 100 = true ∧ (begin' (mk [4, 2, 7] 2 10 15 2 100)).2 = [4, 2] := by decide
def exB : Pl := (tick exA 110).1
def exC : Pl := (tick exB 115).1
def exD : Pl := (close exC 2).1
def exE : Pl := (tick exD 125).1
def exF : Pl := (tick exE 130).1
def exG : Pl := (tick exF 140).1
theorem ex2 : (tick exA 110).2 = ([], [7]) ∧ (tick exB 115).2 = ([], [4, 2]) ∧ (close exC 2).2 = true ∧ (tick exD 125).2 = ([], [7]) ∧ (tick exE 130).2 = ([4], []) ∧ (tick exF 140).2 = ([7], []) ∧ opens exG = 0 := by decide
end Go.Proofs.YtbjkkoacclfejaaGreat.Hg
namespace Go.Proofs.YtbjkkoacclfejaaGreat
open Go.RowKit
open Hg (En Pl)
def kh (x : En) : List Value := [.int .i64 x.up, .int .i64 x.asked, .int .i64 x.last, .bool x.op]
def j7 (l : List En) : List Value := l.flatMap kh
theorem kG (x : En) (l : List En) : j7 (x :: l) = kh x ++ j7 l := rfl
theorem qx (l : List En) : (j7 l).length = l.length * 4 := by
 induction l with
 | nil => rfl
 | cons x r ih => rw [kG, List.length_append, ih]; simp [kh]; omega
theorem qd : ∀ (l : List En) (i j : Nat) (x : En), l[i]? = some x → j < 4 → (j7 l)[i * 4 + j]? = (kh x)[j]?
 | [], i, j, x, h, _ => by simp at h
 | y :: r, 0, j, x, h, hj => by
   simp at h
   subst h
   rw [kG, List.getElem?_append_left (by simp [kh]; omega)]
   simp
 | y :: r, i + 1, j, x, h, hj => by
   rw [kG, List.getElem?_append_right (by simp [kh]; omega), ← qd r i j x (by simpa using h) hj]
   congr 1
   simp [kh]
   omega
theorem Kt (now : Int) : ∀ (l : List En) (i : Nat) (x : En), l[i]? = some x → (((j7 l).set (i * 4 + 1) (.int .i64 1)).set (i * 4 + 2) (.int .i64 now)).set (i * 4 + 3) (.bool true) = j7 (l.modify i (Hg.askAt now))
 | [], i, x, h => by simp at h
 | y :: r, 0, x, h => by simp [kG, kh, Hg.askAt]
 | y :: r, i + 1, x, h => by
   rw [List.modify_succ_cons, kG, kG, ← Kt now r i x (by simpa using h)]
   rw [show (i + 1) * 4 + 1 = (i * 4 + 1) + 4 by omega, show (i + 1) * 4 + 2 = (i * 4 + 2) + 4 by omega, show (i + 1) * 4 + 3 = (i * 4 + 3) + 4 by omega]
   simp [kh]
def jd (p : Pl) (v : Value) : Array Value := #[v, .int .i64 (p.asked : Nat), .int .i64 p.want, .int .i64 p.tries, .int .i64 p.every, .int .i64 p.wait, .int .i64 p.start, .int .i64 p.now, .int .i64 p.reached, .bool p.made, .bool p.begins]
theorem take_set (cur : Array Value) (k m : Nat) (v : Value) : (cur.setIfInBounds k v).toList.take m = (cur.toList.take m).set k v := by
 rw [Array.toList_setIfInBounds, List.take_set]
variable {G : World} {L : ja}
theorem Ku (bp : Nat) (p : Pl) (v : Value) (now : Int) : Spec Tryz.prog G 71 #[.pointer (some ⟨bp, 0, none⟩), .int .i64 now] ((bp, .cells (jd p v) 158 (0, 0)) :: L) fun u M => M = (bp, .cells (jd (Hg.advance p now) v) 158 (0, 0)) :: L := by
 unfold jd Hg.advance Hg.top
 refine jm (n := 14) Tryz.func71 rfl rfl rfl ?_
 refine goD ?_
 refine yo rfl ?_
 rfl
theorem U3 (bp : Nat) (p : Pl) (v : Value) (B : ja) (hR : Row 160 4 v p.list.length (j7 p.list) B) (ha : p.asked < p.list.length) (hl : p.list.length ≤ 9) :
 Spec Tryz.prog G 69 #[.pointer (some ⟨bp, 0, none⟩)] ((bp, .cells (jd p v) 158 (0, 0)) :: (B ++ L)) fun u M => u = .int .i64 (Hg.upAt p p.asked) ∧ ∃ B', Row 160 4 v (Hg.next p).list.length (j7 (Hg.next p).list) B' ∧ M = (bp, .cells (jd (Hg.next p) v) 158 (0, 0)) :: (B' ++ L) := by
 rcases hR.is with ⟨_, h, _⟩ | ⟨be, cap, cur, rfl, rfl, h3, h4, h5, h6⟩
 · omega
 obtain ⟨x, hx⟩ : ∃ x, p.list[p.asked]? = some x := ⟨_, List.getElem?_eq_getElem ha⟩
 have hat : ∀ j u, j < 4 → (kh x)[j]? = some u → cur[0 + p.asked * 4 + j]? = some u := fun j u hj hu => by
  have := qd p.list p.asked j x hx hj
  rw [← h6, List.getElem?_take_of_lt jf, hu] at this
  rw [Nat.zero_add]
  simpa using this
 have n0 : cur[0 + p.asked * 4 + 0]? = some (.int .i64 x.up) := hat 0 _ jf rfl
 have n1 : cur[0 + p.asked * 4 + 1]? = some (.int .i64 x.asked) := hat 1 _ jf rfl
 have n2 : cur[0 + p.asked * 4 + 2]? = some (.int .i64 x.last) := hat 2 _ jf rfl
 have n3 : cur[0 + p.asked * 4 + 3]? = some (.bool x.op) := hat 3 _ jf rfl
 have m2 : (cur.setIfInBounds (0 + p.asked * 4 + 1) (.int .i64 1))[0 + p.asked * 4 + 2]? = some (.int .i64 x.last) := by rw [Array.getElem?_setIfInBounds_ne jf]; exact n2
 have m3 : ((cur.setIfInBounds (0 + p.asked * 4 + 1) (.int .i64 1)).setIfInBounds (0 + p.asked * 4 + 2) (.int .i64 p.now))[0 + p.asked * 4 + 3]? = some (.bool x.op) := by rw [Array.getElem?_setIfInBounds_ne jf, Array.getElem?_setIfInBounds_ne jf]; exact n3
 have m0 : (((cur.setIfInBounds (0 + p.asked * 4 + 1) (.int .i64 1)).setIfInBounds (0 + p.asked * 4 + 2) (.int .i64 p.now)).setIfInBounds (0 + p.asked * 4 + 3) (.bool true))[0 + p.asked * 4 + 0]? = some (.int .i64 x.up) := by rw [Array.getElem?_setIfInBounds_ne jf, Array.getElem?_setIfInBounds_ne jf, Array.getElem?_setIfInBounds_ne jf]; exact n0
 unfold jd
 refine jm (n := 37) Tryz.func69 rfl rfl rfl ?_
 have hK : ∀ q ∈ [(bp, Obj.cells #[.slice (some ⟨be, 0, none⟩) p.list.length cap, .int .i64 (p.asked : Nat), .int .i64 p.want, .int .i64 p.tries, .int .i64 p.every, .int .i64 p.wait, .int .i64 p.start, .int .i64 p.now, .int .i64 p.reached, .bool p.made, .bool p.begins] 158 (0, 0))], q ∈ (bp, Obj.cells #[.slice (some ⟨be, 0, none⟩) p.list.length cap, .int .i64 (p.asked : Nat), .int .i64 p.want, .int .i64 p.tries, .int .i64 p.every, .int .i64 p.wait, .int .i64 p.start, .int .i64 p.now, .int .i64 p.reached, .bool p.made, .bool p.begins] 158 (0, 0)) :: ([(be, Obj.cells cur 160 (0, 0))] ++ L) := fun q hq => by
  rw [List.mem_singleton.1 hq]; exact List.mem_cons_self ..
 refine goD ?_
 refine jw jc ([(bp, Obj.cells #[.slice (some ⟨be, 0, none⟩) p.list.length cap, .int .i64 (p.asked : Nat), .int .i64 p.want, .int .i64 p.tries, .int .i64 p.every, .int .i64 p.wait, .int .i64 p.start, .int .i64 p.now, .int .i64 p.reached, .bool p.made, .bool p.begins] 158 (0, 0))]) [] ?_
 refine tkQ 0 ?_
 refine tkQ 1 ?_
 refine tkQ 2 ?_
 refine tkQ 3 ?_
 refine tkQ 4 ?_
 refine tkQ 5 ?_
 refine tkQ 6 ?_
 refine tkQ 7 ?_
 refine tkQ 8 ?_
 refine tkQ 9 ?_
 refine tdQ ?_
 refine goD ?_
 refine je 2 _ rfl rfl ?_
 refine ⟨by simp [Hg.upAt, hx], [(be, Obj.cells (((cur.setIfInBounds (0 + p.asked * 4 + 1) (.int .i64 1)).setIfInBounds (0 + p.asked * 4 + 2) (.int .i64 p.now)).setIfInBounds (0 + p.asked * 4 + 3) (.bool true)) 160 (0, 0))], ⟨qx _, Or.inr ⟨be, cap, _, by simp [Hg.next], rfl, by simpa [Hg.next] using h3, h4, by simpa using h5, ?_⟩⟩, rfl⟩
 simp only [Hg.next, List.length_modify]
 rw [take_set, take_set, take_set, h6, Nat.zero_add]
 exact Kt p.now p.list p.asked x hx
end Go.Proofs.YtbjkkoacclfejaaGreat
namespace Go.Proofs.YtbjkkoacclfejaaGreat
open Go.RowKit
open Hg (En Pl)
variable {G : World} {L : ja}
theorem abs (bp : Nat) (p : Pl) (a : Option Addr) (c : Nat) (B : ja) (now : Int) (hR : Row 160 4 (.slice a p.list.length c) p.list.length (j7 p.list) B) (hl : p.list.length ≤ 9) :
 Spec Tryz.prog G 70 #[.pointer (some ⟨bp, 0, none⟩), .int .i64 now] ((bp, .cells (jd p (.slice a p.list.length c)) 158 (0, 0)) :: (B ++ L)) fun u M => u = .tuple #[.int .i64 (Hg.more p now).2.1, .bool (Hg.more p now).2.2] ∧
  ∃ B', Row 160 4 (.slice a p.list.length c) (Hg.more p now).1.list.length (j7 (Hg.more p now).1.list) B' ∧ M = (bp, .cells (jd (Hg.more p now).1 (.slice a p.list.length c)) 158 (0, 0)) :: (B' ++ L) := by
 have pc0 : (jd (p) (.slice a p.list.length c))[0 + 0]? = some (.slice a p.list.length c) := rfl
 have pc1 : (jd (p) (.slice a p.list.length c))[0 + 1]? = some (.int .i64 ((p).asked : Nat)) := rfl
 have pc2 : (jd (p) (.slice a p.list.length c))[0 + 2]? = some (.int .i64 (p).want) := rfl
 have pc3 : (jd (p) (.slice a p.list.length c))[0 + 3]? = some (.int .i64 (p).tries) := rfl
 have pc4 : (jd (p) (.slice a p.list.length c))[0 + 4]? = some (.int .i64 (p).every) := rfl
 have pc5 : (jd (p) (.slice a p.list.length c))[0 + 5]? = some (.int .i64 (p).wait) := rfl
 have pc6 : (jd (p) (.slice a p.list.length c))[0 + 6]? = some (.int .i64 (p).start) := rfl
 have pc7 : (jd (p) (.slice a p.list.length c))[0 + 7]? = some (.int .i64 (p).now) := rfl
 have pc8 : (jd (p) (.slice a p.list.length c))[0 + 8]? = some (.int .i64 (p).reached) := rfl
 have pc9 : (jd (p) (.slice a p.list.length c))[0 + 9]? = some (.bool (p).made) := rfl
 have pc10 : (jd (p) (.slice a p.list.length c))[0 + 10]? = some (.bool (p).begins) := rfl
 have g1 : Option.isNone (some (⟨bp, 0, none⟩ : Addr)) = false := rfl
 refine jm (n := 30) Tryz.func70 rfl rfl rfl ?_
 cases hb : p.begins with
 | false =>
   have g2 : (!p.begins) = true := by rw [hb]; rfl
   have hm : Hg.more p now = (p, 0, false) := by unfold Hg.more; rw [if_pos g2]
   rw [hm]
   refine goD ?_
   refine qj 4 5 _ _ rfl rfl rfl ?_
   exact ⟨rfl, B, hR, rfl⟩
 | true =>
 have g2 : (!p.begins) = false := by rw [hb]; rfl
 refine goD ?_
 refine jx (jb jg rfl (Ku bp p _ now)) rfl ?_
 rintro u0 M0 hM0
 rw [hM0]
 clear hM0 M0
 obtain ⟨q, hq⟩ : ∃ q, q = Hg.advance p now := ⟨_, rfl⟩
 have hql : q.list = p.list := by rw [hq]; rfl
 rw [← hql] at hR hl
 rw [← hq, ← hql]
 have qc0 : (jd (q) (.slice a q.list.length c))[0 + 0]? = some (.slice a q.list.length c) := rfl
 have qc1 : (jd (q) (.slice a q.list.length c))[0 + 1]? = some (.int .i64 ((q).asked : Nat)) := rfl
 have qc2 : (jd (q) (.slice a q.list.length c))[0 + 2]? = some (.int .i64 (q).want) := rfl
 have qc3 : (jd (q) (.slice a q.list.length c))[0 + 3]? = some (.int .i64 (q).tries) := rfl
 have qc4 : (jd (q) (.slice a q.list.length c))[0 + 4]? = some (.int .i64 (q).every) := rfl
 have qc5 : (jd (q) (.slice a q.list.length c))[0 + 5]? = some (.int .i64 (q).wait) := rfl
 have qc6 : (jd (q) (.slice a q.list.length c))[0 + 6]? = some (.int .i64 (q).start) := rfl
 have qc7 : (jd (q) (.slice a q.list.length c))[0 + 7]? = some (.int .i64 (q).now) := rfl
 have qc8 : (jd (q) (.slice a q.list.length c))[0 + 8]? = some (.int .i64 (q).reached) := rfl
 have qc9 : (jd (q) (.slice a q.list.length c))[0 + 9]? = some (.bool (q).made) := rfl
 have qc10 : (jd (q) (.slice a q.list.length c))[0 + 10]? = some (.bool (q).begins) := rfl
 have hK : ∀ x ∈ [(bp, Obj.cells (jd q (.slice a q.list.length c)) 158 (0, 0))], x ∈ (bp, Obj.cells (jd q (.slice a q.list.length c)) 158 (0, 0)) :: (B ++ L) := fun x hx => by
  rw [List.mem_singleton.1 hx]; exact List.mem_cons_self ..
 have hm : Hg.more p now = if q.list.length ≤ q.asked then (q, 0, false) else (Hg.next q, Hg.upAt q q.asked, true) := by unfold Hg.more; rw [if_neg (by rw [g2]; simp), hq]
 by_cases hlen : q.list.length ≤ q.asked
 · have g3 : decide (((q.list.length : Nat) : Int) ≤ ((q.asked : Nat) : Int)) = true := decide_eq_true jf
   rw [hm, if_pos hlen]
   refine goD ?_
   refine jw jc ([(bp, Obj.cells (jd q (.slice a q.list.length c)) 158 (0, 0))]) [] ?_
   refine tkQ 0 ?_
   refine tkQ 1 ?_
   refine tkQ 2 ?_
   refine tkQ 3 ?_
   refine tkQ 4 ?_
   refine tkQ 5 ?_
   refine tkQ 6 ?_
   refine tkQ 7 ?_
   refine tkQ 8 ?_
   refine tkQ 9 ?_
   refine tdQ ?_
   refine goD ?_
   refine qj 4 5 _ _ rfl rfl rfl ?_
   exact ⟨rfl, B, hR, rfl⟩
 · have g3 : decide (((q.list.length : Nat) : Int) ≤ ((q.asked : Nat) : Int)) = false := decide_eq_false jf
   rw [hm, if_neg hlen]
   refine goD ?_
   refine jw jc ([(bp, Obj.cells (jd q (.slice a q.list.length c)) 158 (0, 0))]) [] ?_
   refine tkQ 0 ?_
   refine tkQ 1 ?_
   refine tkQ 2 ?_
   refine tkQ 3 ?_
   refine tkQ 4 ?_
   refine tkQ 5 ?_
   refine tkQ 6 ?_
   refine tkQ 7 ?_
   refine tkQ 8 ?_
   refine tkQ 9 ?_
   refine tdQ ?_
   refine goD ?_
   refine jx (jb jg rfl (U3 bp q _ B hR jf hl)) rfl ?_
   rintro _ M1 ⟨rfl, B1, hR1, hM1⟩
   rw [hM1]
   clear hM1 M1
   refine goD ?_
   refine qj 4 5 _ _ rfl rfl rfl ?_
   exact ⟨rfl, B1, hR1, rfl⟩
end Go.Proofs.YtbjkkoacclfejaaGreat
namespace Go.Proofs.YtbjkkoacclfejaaGreat
open Go.RowKit
open Hg (En Pl)
variable {G : World} {L : ja}
def qf (l : List Int) : List Value := l.map fun x => .int .i64 x
theorem Jz : ∀ (k : Nat) (p : Pl), Hg.nexts (k + 1) p = (Hg.next (Hg.nexts k p).1, (Hg.nexts k p).2 ++ [Hg.upAt (Hg.nexts k p).1 (Hg.nexts k p).1.asked])
 | 0, p => rfl
 | k + 1, p => by
   have ih := Jz k (Hg.next p)
   show ((Hg.nexts (k + 1) (Hg.next p)).1, _ :: (Hg.nexts (k + 1) (Hg.next p)).2) = _
   rw [ih]
   rfl
theorem qn : ∀ (k : Nat) (p : Pl), (Hg.nexts k p).1.asked = p.asked + k ∧ (Hg.nexts k p).1.list.length = p.list.length ∧ (Hg.nexts k p).1.want = p.want ∧ (Hg.nexts k p).2.length = k
 | 0, p => ⟨rfl, rfl, rfl, rfl⟩
 | k + 1, p => by
   obtain ⟨h1, h2, h3, h4⟩ := qn k (Hg.next p)
   refine ⟨by show (Hg.nexts k (Hg.next p)).1.asked = _; rw [h1]; show p.asked + 1 + k = _; omega, by show (Hg.nexts k (Hg.next p)).1.list.length = _; rw [h2]; simp [Hg.next], h3, by show (_ :: (Hg.nexts k (Hg.next p)).2).length = _; simp [h4]⟩
theorem perm_out {A B C : ja} {p : Nat × Obj} : (p :: (A ++ (B ++ C))).Perm (B ++ (p :: (A ++ C))) := by
 have := List.perm_append_comm_assoc (p :: A) B C
 simpa using this
theorem aas (bp : Nat) (p : Pl) (a : Option Addr) (c : Nat) (B : ja) (hR : Row 160 4 (.slice a p.list.length c) p.list.length (j7 p.list) B) (hl : p.list.length ≤ 9) (hw : 1 ≤ p.want ∧ p.want ≤ 9) (hm : p.made = true) (hg : p.begins = false) (hz : p.asked = 0) :
 Spec Tryz.prog G 42 #[.pointer (some ⟨bp, 0, none⟩)] ((bp, .cells (jd p (.slice a p.list.length c)) 158 (0, 0)) :: (B ++ L)) fun u M =>
  ∃ B1 B', Row 3 1 u (Hg.begin' p).2.length (qf (Hg.begin' p).2) B1 ∧ Row 160 4 (.slice a p.list.length c) (Hg.begin' p).1.list.length (j7 (Hg.begin' p).1.list) B' ∧ M = (bp, .cells (jd (Hg.begin' p).1 (.slice a p.list.length c)) 158 (0, 0)) :: (B' ++ (B1 ++ L)) := by
 have pc0 : (jd (p) (.slice a p.list.length c))[0 + 0]? = some (.slice a p.list.length c) := rfl
 have pc1 : (jd (p) (.slice a p.list.length c))[0 + 1]? = some (.int .i64 ((p).asked : Nat)) := rfl
 have pc2 : (jd (p) (.slice a p.list.length c))[0 + 2]? = some (.int .i64 (p).want) := rfl
 have pc3 : (jd (p) (.slice a p.list.length c))[0 + 3]? = some (.int .i64 (p).tries) := rfl
 have pc4 : (jd (p) (.slice a p.list.length c))[0 + 4]? = some (.int .i64 (p).every) := rfl
 have pc5 : (jd (p) (.slice a p.list.length c))[0 + 5]? = some (.int .i64 (p).wait) := rfl
 have pc6 : (jd (p) (.slice a p.list.length c))[0 + 6]? = some (.int .i64 (p).start) := rfl
 have pc7 : (jd (p) (.slice a p.list.length c))[0 + 7]? = some (.int .i64 (p).now) := rfl
 have pc8 : (jd (p) (.slice a p.list.length c))[0 + 8]? = some (.int .i64 (p).reached) := rfl
 have pc9 : (jd (p) (.slice a p.list.length c))[0 + 9]? = some (.bool (p).made) := rfl
 have pc10 : (jd (p) (.slice a p.list.length c))[0 + 10]? = some (.bool (p).begins) := rfl
 have g1 : Option.isNone (some (⟨bp, 0, none⟩ : Addr)) = false := rfl
 have g2 : (!p.made) = false := by rw [hm]; rfl
 refine jm (n := 47) Tryz.func42 rfl rfl rfl ?_
 refine goD ?_
 obtain ⟨p0, hp0⟩ : ∃ p0 : Pl, p0 = { p with begins := true } := ⟨_, rfl⟩
 obtain ⟨N, hN⟩ : ∃ N, N = min p.want.toNat (p.list.length - p.asked) := ⟨_, rfl⟩
 have hbeg : Hg.begin' p = Hg.nexts N p0 := by unfold Hg.begin'; rw [if_neg (by rw [hm, hg]; simp), hp0, hN]
 rw [hbeg]
 have hp0l : p0.list = p.list := by rw [hp0]
 have hp0w : p0.want = p.want := by rw [hp0]
 have hp0a : p0.asked = 0 := by rw [hp0]; exact hz
 refine jB (σ := Nat × Value × ja × ja) (fun x => x.1 ≤ N ∧ Row 3 1 x.2.1 x.1 (qf (Hg.nexts x.1 p0).2) x.2.2.1 ∧ Row 160 4 (.slice a p.list.length c) p.list.length (j7 (Hg.nexts x.1 p0).1.list) x.2.2.2) (fun x => [(0, .pointer (some ⟨bp, 0, none⟩)), (3, x.2.1)]) (fun x => (bp, .cells (jd (Hg.nexts x.1 p0).1 (.slice a p.list.length c)) 158 (0, 0)) :: (x.2.2.2 ++ (x.2.2.1 ++ L))) (fun x => N - x.1) (0, .slice none 0 0, [], B) ⟨Nat.zero_le _, Row.nil _ _, ?_⟩ ?_ ?_ ?_
 · show Row _ 4 _ _ (j7 p0.list) B
   rw [hp0l]; exact hR
 exact jv
 · intro w h
   rw [hp0]
   exact h
 rintro ⟨k, v3, B1, B2⟩ ⟨hk, hR1, hR2⟩
 dsimp only at hk hR1 hR2 ⊢
 obtain ⟨q1, q2, q3, q4⟩ := qn k p0
 obtain ⟨q, hq⟩ : ∃ q, q = (Hg.nexts k p0).1 := ⟨_, rfl⟩
 obtain ⟨a3, c3, rfl⟩ := hR1.slice
 have hS := Jz k p0
 rw [← hq] at q1 q2 q3 hR2 hS ⊢
 rw [hp0a] at q1
 rw [hp0l] at q2
 rw [hp0w] at q3
 have qc0 : (jd (q) (.slice a p.list.length c))[0 + 0]? = some (.slice a p.list.length c) := rfl
 have qc1 : (jd (q) (.slice a p.list.length c))[0 + 1]? = some (.int .i64 ((q).asked : Nat)) := rfl
 have qc2 : (jd (q) (.slice a p.list.length c))[0 + 2]? = some (.int .i64 (q).want) := rfl
 have qc3 : (jd (q) (.slice a p.list.length c))[0 + 3]? = some (.int .i64 (q).tries) := rfl
 have qc4 : (jd (q) (.slice a p.list.length c))[0 + 4]? = some (.int .i64 (q).every) := rfl
 have qc5 : (jd (q) (.slice a p.list.length c))[0 + 5]? = some (.int .i64 (q).wait) := rfl
 have qc6 : (jd (q) (.slice a p.list.length c))[0 + 6]? = some (.int .i64 (q).start) := rfl
 have qc7 : (jd (q) (.slice a p.list.length c))[0 + 7]? = some (.int .i64 (q).now) := rfl
 have qc8 : (jd (q) (.slice a p.list.length c))[0 + 8]? = some (.int .i64 (q).reached) := rfl
 have qc9 : (jd (q) (.slice a p.list.length c))[0 + 9]? = some (.bool (q).made) := rfl
 have qc10 : (jd (q) (.slice a p.list.length c))[0 + 10]? = some (.bool (q).begins) := rfl
 have hK : ∀ x ∈ [(bp, Obj.cells (jd q (.slice a p.list.length c)) 158 (0, 0))], x ∈ (bp, Obj.cells (jd q (.slice a p.list.length c)) 158 (0, 0)) :: (B2 ++ (B1 ++ L)) := fun x hx => by
  rw [List.mem_singleton.1 hx]; exact List.mem_cons_self ..
 by_cases hkN : k < N
 · have g3 : decide (((k : Nat) : Int) < q.want) = true := decide_eq_true jf
   have g4 : decide (((q.asked : Nat) : Int) < ((p.list.length : Nat) : Int)) = true := decide_eq_true jf
   repeat (with_reducible refine jU ?_)
   refine jw jc ([(bp, Obj.cells (jd q (.slice a p.list.length c)) 158 (0, 0))]) [] ?_
   refine tkQ 0 ?_
   refine tkQ 1 ?_
   refine tkQ 2 ?_
   refine tkQ 3 ?_
   refine tkQ 4 ?_
   refine tkQ 5 ?_
   refine tkQ 6 ?_
   refine tkQ 7 ?_
   refine tkQ 8 ?_
   refine tkQ 9 ?_
   refine tkQ 10 ?_
   refine tkQ 11 ?_
   refine tkQ 12 ?_
   refine tkQ 13 ?_
   refine tkQ 14 ?_
   refine tkQ 15 ?_
   refine tkQ 16 ?_
   refine tkQ 17 ?_
   refine tkQ 18 ?_
   refine tdQ ?_
   refine goD ?_
   refine jx (jb jg rfl (U3 bp q _ B2 (q2.symm ▸ hR2) jf jf)) rfl ?_
   rintro _ M1 ⟨rfl, B3, hR3, hM1⟩
   rw [hM1]
   clear hM1 M1
   repeat (refine jP (KV etO rfl rfl) rfl ?_; intro bLit)
   refine kR (List.Perm.cons _ perm_out) ?_
   refine uc etO rfl rfl hR1 rfl (by unfold maxLen; omega) jf rfl ?_
   intro v4 B4 hR4
   obtain ⟨a4, c4, rfl⟩ := hR4.slice
   refine goD ?_
   refine jk (k + 1, .slice a4 (k + 1) c4, B4, B3) ⟨hkN, ?_, ?_⟩ ?_ ?_ ?_
   · dsimp only
     rw [hS]
     simpa [qf] using hR4
   · dsimp only
     rw [hS]
     have : (Hg.next q).list.length = p.list.length := by simp [Hg.next, q2]
     rw [this] at hR3
     exact hR3
   exact jv
   · intro w hw'
     dsimp only
     rw [hS]
     exact hw'.perm perm_out.symm
   · dsimp only; omega
 · have hkN' : k = N := by omega
   rw [hz] at hN
   by_cases hkw : ((k : Nat) : Int) < q.want
   · have g3 : decide (((k : Nat) : Int) < q.want) = true := decide_eq_true hkw
     have g4 : decide (((q.asked : Nat) : Int) < ((p.list.length : Nat) : Int)) = false := decide_eq_false jf
     repeat (with_reducible refine jU ?_)
     refine jw jc ([(bp, Obj.cells (jd q (.slice a p.list.length c)) 158 (0, 0))]) [] ?_
     refine tkQ 0 ?_
     refine tkQ 1 ?_
     refine tkQ 2 ?_
     refine tkQ 3 ?_
     refine tkQ 4 ?_
     refine tkQ 5 ?_
     refine tkQ 6 ?_
     refine tkQ 7 ?_
     refine tkQ 8 ?_
     refine tkQ 9 ?_
     refine tkQ 10 ?_
     refine tkQ 11 ?_
     refine tkQ 12 ?_
     refine tkQ 13 ?_
     refine tkQ 14 ?_
     refine tkQ 15 ?_
     refine tkQ 16 ?_
     refine tkQ 17 ?_
     refine tkQ 18 ?_
     refine tdQ ?_
     refine goD ?_
     refine je 2 _ rfl rfl ?_
     rw [← hkN', ← hq, q2, q4]
     exact ⟨B1, B2, hR1, hR2, rfl⟩
   · have g3 : decide (((k : Nat) : Int) < q.want) = false := decide_eq_false hkw
     repeat (with_reducible refine jU ?_)
     refine jw jc ([(bp, Obj.cells (jd q (.slice a p.list.length c)) 158 (0, 0))]) [] ?_
     refine tkQ 0 ?_
     refine tkQ 1 ?_
     refine tkQ 2 ?_
     refine tkQ 3 ?_
     refine tkQ 4 ?_
     refine tkQ 5 ?_
     refine tkQ 6 ?_
     refine tkQ 7 ?_
     refine tkQ 8 ?_
     refine tkQ 9 ?_
     refine tkQ 10 ?_
     refine tkQ 11 ?_
     refine tkQ 12 ?_
     refine tkQ 13 ?_
     refine tkQ 14 ?_
     refine tkQ 15 ?_
     refine tkQ 16 ?_
     refine tkQ 17 ?_
     refine tkQ 18 ?_
     refine tdQ ?_
     refine goD ?_
     refine je 2 _ rfl rfl ?_
     rw [← hkN', ← hq, q2, q4]
     exact ⟨B1, B2, hR1, hR2, rfl⟩
end Go.Proofs.YtbjkkoacclfejaaGreat
