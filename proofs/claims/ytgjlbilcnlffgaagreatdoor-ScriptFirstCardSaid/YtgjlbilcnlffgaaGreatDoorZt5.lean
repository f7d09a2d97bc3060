/-
 Part 5: Cb Cc Cd Da Dc Jn Sc SlRange Pa Sb Base WMay WLower WLabels WName SRow Cmp App WRef1 WRef2 WRef4 OldS Tx Tp Lt Lu Rp Ord Rt Ce Cf Cg Cj Ci Vb Sq.
-/
import Derived.Test.YtgjlbilcnlffgaaGreatDoorZt4
import Derived.Test.YtgjlbilcnlffgaaGreatDoorZt1
import Derived.Lib.ParseIntB
import Derived.Lib.Bytealg
import Derived.Laws.RangeString
import Derived.Laws.RangeAny
import Derived.Lib.Builder
import Derived.Lib.UnsafeStr
import Derived.Laws.Externs
import Derived.Test.YtgjlbilcnlffgaaGreatDoorProg
import Derived.WalkKit
import Derived.WalkSpells
import Derived.WalkLawsBesides
import Derived.Lib.Hide
import Derived.Lib.ConvBytes
import Derived.Lib.QuietBelow
import Derived.BigQuiet
import Derived.StillTailTactics
import Derived.Deep.DeepCutAuto
import Derived.Lib.Strings
import Derived.Lib.IndexBytes
import Derived.Deep.RegionLaw
import Derived.Laws.OwnMore
import Derived.OwnWalk
import Derived.Test.YtgjlbilcnlffgaaGreatDoorShelf
import Derived.Lib.SplitLaws
import Derived.Lib.AppendIntMem
import Derived.WalkSmall
set_option maxRecDepth 100000
set_option maxHeartbeats 4000000
set_option linter.unusedVariables false
set_option linter.unusedSimpArgs false
namespace Go.Proofs.YtgjlbilcnlffgaaGreatDoor.Cn
section
open Go.Lib (decDigits)
structure Zo where
 name : Bytes
 pol : Nat
 tru : Nat
deriving DecidableEq
structure Cf where
 ups : Int
 ded : Int
 hdg : Int
 wai : Int
 tri : Int
 res : Int
 lim : Int
 cac : Int
 fli : Int
 wtr : Int
 ttl : Int
 siz : Int
 zs : List Zo
deriving DecidableEq
def Cf.nums (c : Cf) : List Int := [c.ups, c.ded, c.hdg, c.wai, c.tri, c.res, c.lim, c.cac, c.fli, c.wtr, c.ttl, c.siz]
def zeroC : Cf := ⟨0, 0, 0, 0, 0, 0, 0, 0, 0, 0, 0, 0, []⟩
def ofN (v : List Int) (zs : List Zo) : Cf := ⟨v.getD 0 0, v.getD 1 0, v.getD 2 0, v.getD 3 0, v.getD 4 0, v.getD 5 0, v.getD 6 0, v.getD 7 0, v.getD 8 0, v.getD 9 0, v.getD 10 0, v.getD 11 0, zs⟩
def mayNum (c : Cf) : Bool := decide ((1 ≤ c.ups ∧ c.ups ≤ 9 ∧ c.ups % 2 = 1) ∧ (1 ≤ c.hdg ∧ c.hdg ≤ 1000) ∧ (1 ≤ c.wai ∧ c.wai ≤ 1000) ∧ (1 ≤ c.tri ∧ c.tri ≤ 4) ∧
 (c.ups / 2 * c.hdg + c.tri * c.wai ≤ c.ded ∧ c.ded ≤ 100000) ∧ (1 ≤ c.res ∧ c.res ≤ 100000) ∧ (1 ≤ c.lim ∧ c.lim ≤ 100) ∧ (0 ≤ c.cac ∧ c.cac ≤ 256) ∧ (1 ≤ c.fli ∧ c.fli ≤ 32) ∧
 (1 ≤ c.wtr ∧ c.wtr ≤ 16) ∧ (0 ≤ c.ttl ∧ c.ttl ≤ 2147483647) ∧ (512 ≤ c.siz ∧ c.siz ≤ 4096))
def okPol (ups : Int) (z : Zo) : Bool := decide (((z.pol = 1 ∨ z.pol = 2 ∨ z.pol = 4) ∧ z.tru = 0) ∨ (z.pol = 3 ∧ z.tru ≠ 0 ∧ z.tru / 2 ^ ups.toNat = 0))
def okName (z : Zo) : Bool := Nm.may z.name && (Nm.fold z.name == z.name)
def okZo (ups : Int) (z : Zo) : Bool := okName z && okPol ups z
def goodAt (ups : Int) (zs : List Zo) (i : Nat) : Bool := match zs[i]? with
 | some z => okZo ups z && !(zs.take i).any (fun y => y.name == z.name)
 | none => true
def mayZs (ups : Int) (zs : List Zo) : Bool := decide (zs.length ≤ 16) && (List.range zs.length).all (goodAt ups zs)
def mayP (c : Cf) : Bool := mayNum c && mayZs c.ups c.zs
def ajC (c : Cf) : Int := if mayP c then c.ups / 2 else 0
structure Names where
 text : Bytes → Bytes
 par : Bytes → Bytes × Int
structure Names.Ok (T : Names) : Prop where
 back : ∀ n, Nm.may n = true → T.par (T.text n) = (n, 0)
 may : ∀ t n, T.par t = (n, 0) → Nm.may n = true
 clean : ∀ n, Nm.may n = true → ∀ c ∈ T.text n, 33 ≤ c.toNat
 len : ∀ n, Nm.may n = true → (T.text n).length ≤ 2000
def words12 : List Bytes := [[117, 112, 115], [100, 101, 97, 100, 108, 105, 110, 101], [104, 101, 100, 103, 101], [119, 97, 105, 116], [116, 114, 105, 101, 115], [114, 101, 115, 116], [108, 105, 109, 105, 116], [99, 97, 99, 104, 101], [102, 108, 105, 103, 104, 116, 115], [119, 97, 105, 116, 101, 114, 115], [116, 116, 108], [115, 105, 122, 101]]
def strictW : Bytes := [115, 116, 114, 105, 99, 116]
def unionW : Bytes := [117, 110, 105, 111, 110]
def trustedW : Bytes := [116, 114, 117, 115, 116, 101, 100]
def refuseW : Bytes := [114, 101, 102, 117, 115, 101]
def zoneW : Bytes := [122, 111, 110, 101]
def agd (p : Nat) : Bytes := if p = 1 then strictW else if p = 2 then unionW else if p = 3 then trustedW else refuseW
def polP (w : Bytes) : Option Nat := if w = strictW then some 1 else if w = unionW then some 2 else if w = refuseW then some 4 else if w = trustedW then some 3 else none
def QP (t : Nat) : List Nat := (List.range 16).filter fun u => t.testBit u
def VL (w : Bytes) (v : Int) : Bytes := w ++ 32 :: decDigits v.toNat
def ZC (t : Nat) : Bytes := (QP t).flatMap fun u => 32 :: decDigits u
section
variable (T : Names)
def QQ (z : Zo) : Bytes := zoneW ++ 32 :: (T.text z.name ++ 32 :: (agd z.pol ++ ZC z.tru))
def ahM (c : Cf) : List Bytes := List.zipWith VL words12 c.nums ++ c.zs.map (QQ T)
def ahN (c : Cf) : Bytes := unlines (ahM T c) []
def showP (c : Cf) : Bytes × Int := if mayP c then (ahN T c, 0) else ([], 1)
def readNum (k : Nat) (l : Bytes) : Option Int := match spl 32 l with
 | [w, n] => if some w = words12[k]? then (numP n 2147483647).map Int.ofNat else none
 | _ => none
def bitsGo : Int → Nat → List Bytes → Option Nat
 | _, t, [] => some t
 | last, t, w :: ws => match numP w 15 with
   | some u => if (u : Int) ≤ last then none else bitsGo u (t ||| 2 ^ u) ws
   | none => none
def readName (w : Bytes) : Option Bytes := if (T.par w).2 = 0 ∧ T.text (T.par w).1 = w then some (T.par w).1 else none
def readZone (l : Bytes) : Option Zo := match spl 32 l with
 | z :: w :: p :: ws => if z = zoneW then match readName T w, polP p, bitsGo (-1) 0 ws with
   | some n, some p, some t => if (decide (p = 3)) = (decide (t ≠ 0)) then some ⟨n, p, t⟩ else none
   | _, _, _ => none
   else none
 | _ => none
def goP : Nat → List Bytes → List Int → List Zo → Nat ⊕ (List Int × List Zo)
 | _, [], vs, zs => .inr (vs, zs)
 | k, l :: ls, vs, zs => if k < 12 then match readNum k l with
    | some n => goP (k + 1) ls (vs ++ [n]) zs
    | none => .inl k
   else match readZone T l with
    | some z => goP (k + 1) ls vs (zs ++ [z])
    | none => .inl k
def parseP (s : Bytes) : Cf × Int × Int := if 131072 < s.length then (zeroC, 0, 5) else
 match goP T 0 (linesP s).1 [] [] with
 | .inl k => (zeroC, (k : Int) + 1, 3)
 | .inr (vs, zs) => if (linesP s).2 ≠ [] ∨ (linesP s).1.length < 12 then (zeroC, ((linesP s).1.length : Int) + 1, 3) else
   if mayP (ofN vs zs) then (ofN vs zs, 0, 0) else (zeroC, 0, 1)
end
theorem readNum_some {k : Nat} {l : Bytes} {v : Int} (h : readNum k l = some v) : ∃ w, words12[k]? = some w ∧ l = VL w v ∧ 0 ≤ v ∧ v ≤ 2147483647 := by
 unfold readNum at h
 split at h
 · rename_i w n he
   split at h
   · rename_i hw
     rw [Option.map_eq_some_iff] at h
     obtain ⟨u, hu, rfl⟩ := h
     obtain ⟨rfl, hle⟩ := numP_some hu
     refine ⟨w, hw.symm, ?_, by simp, by simp; omega⟩
     have := Yi 32 l
     rw [he] at this
     simpa [zY, VL] using this.symm
   · cases h
 · cases h
theorem QR (t u k : Nat) : (t ||| 2 ^ u).testBit k = (t.testBit k || decide (u = k)) := by
 rw [Nat.testBit_or, Nat.testBit_two_pow]
theorem Yj (us : List Nat) : ∀ s k, (us.foldl (fun a u => a ||| 2 ^ u) s).testBit k = (s.testBit k || decide (k ∈ us)) := by
 induction us with
 | nil => intro s k; simp
 | cons u us ih =>
   intro s k
   rw [List.foldl_cons, ih, QR, Bool.or_assoc]
   congr 1
   by_cases h : u = k
   · subst h; simp
   · simp [h, show ¬ k = u from fun e => h e.symm]
theorem Un {us : List Nat} (hp : us.Pairwise (· < ·)) : ∀ (n : Nat), (∀ u ∈ us, u < n) → (List.range n).filter (fun k => decide (k ∈ us)) = us := by
 intro n
 induction n generalizing us with
 | zero =>
   intro h
   cases us with
   | nil => rfl
   | cons u us => have := h u (by simp); omega
 | succ n ih =>
   intro h
   rw [List.range_succ, List.filter_append]
   by_cases hm : n ∈ us
   · obtain ⟨a, b, rfl⟩ := List.append_of_mem hm
     rw [List.pairwise_append] at hp
     obtain ⟨p1, p2, p3⟩ := hp
     have hb : b = [] := by
      cases b with
      | nil => rfl
      | cons x b =>
        rw [List.pairwise_cons] at p2
        have := p2.1 x (by simp)
        have := h x (by simp)
        omega
     subst hb
     have ha : ∀ u ∈ a, u < n := fun u hu => p3 u hu n (by simp)
     have e := ih p1 ha
     have : (List.range n).filter (fun k => decide (k ∈ a ++ [n])) = (List.range n).filter (fun k => decide (k ∈ a)) := by
      refine List.filter_congr fun k hk => ?_
      have := List.mem_range.1 hk
      simp [show ¬ k = n by omega]
     rw [this, e]
     simp
   · have ha : ∀ u ∈ us, u < n := fun u hu => by
      have h1 := h u hu
      have : u ≠ n := fun k => hm (k ▸ hu)
      omega
     rw [ih hp ha]
     simp [hm]
theorem UN : ∀ (ws : List Bytes) (last : Int) (s t : Nat), bitsGo last s ws = some t → ∃ us : List Nat, ws = us.map (fun u => decDigits u) ∧ (∀ u ∈ us, last < u ∧ u ≤ 15) ∧ us.Pairwise (· < ·) ∧ t = us.foldl (fun a u => a ||| 2 ^ u) s
 | [], _, s, t, h => ⟨[], rfl, by simp, by simp, by simpa [bitsGo] using h.symm⟩
 | w :: ws, last, s, t, h => by
   rw [bitsGo] at h
   split at h
   · rename_i u hu
     obtain ⟨rfl, hle⟩ := numP_some hu
     split at h
     · cases h
     · rename_i hl
       obtain ⟨us, rfl, h1, h2, h3⟩ := UN ws _ _ _ h
       refine ⟨u :: us, rfl, ?_, ?_, h3⟩
       · intro x hx
         rcases List.mem_cons.1 hx with rfl | hx
         · exact ⟨by omega, hle⟩
         · have := h1 x hx
           exact ⟨by omega, this.2⟩
       · rw [List.pairwise_cons]
         exact ⟨fun x hx => by have := h1 x hx; omega, h2⟩
   · cases h
theorem bits_back {ws : List Bytes} {t : Nat} (h : bitsGo (-1) 0 ws = some t) : ws = (QP t).map (fun u => decDigits u) ∧ t < 65536 := by
 obtain ⟨us, rfl, h1, h2, h3⟩ := UN _ _ _ _ h
 have hlt : t < 65536 := by
  rw [show 65536 = 2 ^ 16 by decide]
  refine Nat.lt_pow_two_of_testBit t fun k hk => ?_
  rw [h3, Yj]
  have : k ∉ us := fun hm => by have := h1 k hm; omega
  simp [this]
 refine ⟨?_, hlt⟩
 congr 1
 unfold QP
 rw [← Un h2 16 (fun u hu => by have := h1 u hu; omega)]
 refine List.filter_congr fun k _ => ?_
 rw [h3, Yj]
 simp
end
section
open Go.Lib (decDigits)
variable {T : Names}
theorem polP_some {w : Bytes} {p : Nat} (h : polP w = some p) : w = agd p ∧ 1 ≤ p ∧ p ≤ 4 := by
 unfold polP at h
 split at h
 · rename_i e; cases h; exact ⟨e, by decide⟩
 split at h
 · rename_i e; cases h; exact ⟨e, by decide⟩
 split at h
 · rename_i e; cases h; exact ⟨e, by decide⟩
 split at h
 · rename_i e; cases h; exact ⟨e, by decide⟩
 · cases h
theorem Yk (a : Bytes) : ∀ ws : List Bytes, zY 32 (a :: ws) = a ++ ws.flatMap fun w => 32 :: w
 | [] => by simp [zY]
 | w :: ws => by rw [ux _ _ (by simp), Yk w ws]; simp
theorem VM (t : Nat) : ZC t = ((QP t).map fun u => decDigits u).flatMap fun w => 32 :: w := by unfold ZC; rw [List.flatMap_map]
theorem Uo (z : Zo) : QQ T z = zY 32 (zoneW :: T.text z.name :: agd z.pol :: (QP z.tru).map fun u => decDigits u) := by
 rw [ux _ _ (by simp), ux _ _ (by simp), Yk, ← VM]; rfl
theorem Uq (hT : T.Ok) {w n : Bytes} (h : readName T w = some n) : w = T.text n ∧ Nm.may n = true := by
 unfold readName at h
 split at h
 · rename_i k
   cases h
   refine ⟨k.2.symm, hT.may w _ ?_⟩
   rw [← k.1]
 · cases h
theorem readZone_some (hT : T.Ok) {l : Bytes} {z : Zo} (h : readZone T l = some z) : l = QQ T z ∧ Nm.may z.name = true ∧ z.tru < 65536 := by
 unfold readZone at h
 split at h
 · rename_i a w p ws he
   split at h
   · rename_i ha
     split at h
     · rename_i n p' t h1 h2 h3
       split at h
       · cases h
         obtain ⟨rfl, hm⟩ := Uq hT h1
         obtain ⟨rfl, _⟩ := polP_some h2
         obtain ⟨rfl, ht⟩ := bits_back h3
         refine ⟨?_, hm, ht⟩
         rw [Uo, ← Yi 32 l, he, ha]
       · cases h
     · cases h
   · cases h
 · cases h
end
section
variable {T : Names}
def cutP : Bytes → Int → Bytes
 | [], _ => []
 | a :: t, k => if k = 0 then [] else a :: cutP t (if a = 10 then k - 1 else k)
theorem cutP_zero (s : Bytes) : cutP s 0 = [] := by cases s <;> simp [cutP]
theorem Yl : ∀ (r : Bytes) (k : Int), (10 : UInt8) ∉ r → 1 ≤ k → cutP r k = r
 | [], _, _, _ => rfl
 | a :: t, k, h, hk => by
   simp only [List.mem_cons, not_or] at h
   rw [cutP, if_neg jp, if_neg (fun e => h.1 e.symm), Yl t k h.2 hk]
theorem UO : ∀ (l t : Bytes) (k : Int), (10 : UInt8) ∉ l → 1 ≤ k → cutP (l ++ 10 :: t) k = l ++ 10 :: cutP t (k - 1)
 | [], t, k, _, hk => by rw [List.nil_append, cutP, if_neg jp, if_pos rfl]; rfl
 | a :: l, t, k, h, hk => by
   simp only [List.mem_cons, not_or] at h
   rw [List.cons_append, cutP, if_neg jp, if_neg (fun e => h.1 e.symm), UO l t k h.2 hk, List.cons_append]
theorem QS (r : Bytes) (hr : (10 : UInt8) ∉ r) : ∀ (ls : List Bytes) (k : Nat), (∀ l ∈ ls, (10 : UInt8) ∉ l) → cutP (unlines ls r) k = if k ≤ ls.length then unlines (ls.take k) [] else unlines ls r
 | [], k, _ => by
   rw [yB]
   by_cases h : k = 0
   · subst h; simp only [List.take_nil, List.length_nil, Nat.le_refl, if_true, yB]; exact cutP_zero r
   · rw [if_neg (by simp; omega), Yl r k hr jp]
 | l :: ls, k, h => by
   by_cases h0 : k = 0
   · subst h0
     rw [if_pos (Nat.zero_le _), List.take_zero, yB]
     exact cutP_zero _
   · rw [unlines_cons, UO _ _ _ (h l (by simp)) jp, show (k : Int) - 1 = ((k - 1 : Nat) : Int) by omega, QS r hr ls (k - 1) (fun x hx => h x (by simp [hx]))]
     obtain ⟨j, rfl⟩ : ∃ j, k = j + 1 := ⟨k - 1, by omega⟩
     rw [List.take_succ_cons, unlines_cons, Nat.add_sub_cancel, List.length_cons]
     by_cases hj : j ≤ ls.length
     · rw [if_pos hj, if_pos jp]
     · rw [if_neg hj, if_neg jp]
theorem zv : ∀ (a b : List Bytes) (k : Nat) (vs : List Int) (zs : List Zo), goP T k (a ++ b) vs zs = match goP T k a vs zs with
  | .inl j => .inl j
  | .inr (v, z) => goP T (k + a.length) b v z
 | [], b, k, vs, zs => by simp [goP]
 | l :: a, b, k, vs, zs => by
   rw [List.cons_append, goP, goP]
   split
   · cases readNum k l with
     | none => rfl
     | some n =>
       dsimp only
       rw [zv a b (k + 1)]
       cases goP T (k + 1) a (vs ++ [n]) zs with
       | inl j => rfl
       | inr p => dsimp only; rw [List.length_cons]; congr 1; omega
   · cases readZone T l with
     | none => rfl
     | some z =>
       dsimp only
       rw [zv a b (k + 1)]
       cases goP T (k + 1) a vs (zs ++ [z]) with
       | inl j => rfl
       | inr p => dsimp only; rw [List.length_cons]; congr 1; omega
theorem goP_inl : ∀ (ls : List Bytes) (k j : Nat) (vs : List Int) (zs : List Zo), goP T k ls vs zs = .inl j → k ≤ j ∧ j < k + ls.length ∧ (∃ p, goP T k (ls.take (j - k)) vs zs = .inr p) ∧ goP T k (ls.take (j - k + 1)) vs zs = .inl j
 | [], k, j, vs, zs, h => by rw [goP] at h; cases h
 | l :: ls, k, j, vs, zs, h => by
   have h' := h
   rw [goP] at h
   have stop : k = j → (goP T k [l] vs zs = .inl j) → k ≤ j ∧ j < k + (l :: ls).length ∧ (∃ p, goP T k ((l :: ls).take (j - k)) vs zs = .inr p) ∧ goP T k ((l :: ls).take (j - k + 1)) vs zs = .inl j := by
    intro e h1
    subst e
    rw [Nat.sub_self]
    exact ⟨Nat.le_refl _, by simp, ⟨(vs, zs), rfl⟩, h1⟩
   have more : ∀ (vs' : List Int) (zs' : List Zo), (∀ a, goP T k (l :: a) vs zs = goP T (k + 1) a vs' zs') → goP T (k + 1) ls vs' zs' = .inl j → k ≤ j ∧ j < k + (l :: ls).length ∧ (∃ p, goP T k ((l :: ls).take (j - k)) vs zs = .inr p) ∧ goP T k ((l :: ls).take (j - k + 1)) vs zs = .inl j := by
    intro vs' zs' ha hg
    obtain ⟨g1, g2, ⟨p, g3⟩, g4⟩ := goP_inl ls (k + 1) j _ _ hg
    obtain ⟨i, rfl⟩ : ∃ i, j = k + 1 + i := ⟨j - (k + 1), by omega⟩
    rw [show k + 1 + i - (k + 1) = i by omega] at g3 g4
    rw [show k + 1 + i - k = i + 1 by omega, List.take_succ_cons, List.take_succ_cons]
    exact ⟨by omega, by rw [List.length_cons]; omega, ⟨p, by rw [ha]; exact g3⟩, by rw [ha]; exact g4⟩
   split at h
   · rename_i hk
     cases hn : readNum k l with
     | none =>
       rw [hn] at h
       refine stop (by cases h; rfl) ?_
       rw [goP, if_pos hk, hn]
       exact h
     | some n =>
       rw [hn] at h
       exact more _ _ (fun a => by rw [goP, if_pos hk, hn]) h
   · rename_i hk
     cases hn : readZone T l with
     | none =>
       rw [hn] at h
       refine stop (by cases h; rfl) ?_
       rw [goP, if_neg hk, hn]
       exact h
     | some n =>
       rw [hn] at h
       exact more _ _ (fun a => by rw [goP, if_neg hk, hn]) h
theorem uK (ls : List Bytes) (b : Bytes) (h : ∀ l ∈ ls, (10 : UInt8) ∉ l) : linesP (unlines ls [] ++ b) = (ls ++ (linesP b).1, (linesP b).2) := by
 induction ls with
 | nil => rfl
 | cons l ls ih => rw [unlines_cons, List.append_assoc, List.cons_append, linesP_line _ _ (h l (by simp)), ih (fun x hx => h x (by simp [hx]))]; rfl
theorem Ym (ls : List Bytes) (r : Bytes) : (unlines ls r).length = (unlines ls []).length + r.length := by simp [unlines]
theorem zZ (ls : List Bytes) (k : Nat) : (unlines (ls.take k) []).length ≤ (unlines ls []).length := by
 induction ls generalizing k with
 | nil => simp
 | cons l ls ih =>
   cases k with
   | zero => simp [unlines]
   | succ k => rw [List.take_succ_cons, unlines_cons, unlines_cons]; have := ih k; simp; omega
theorem parse_inl {s : Bytes} {ls : List Bytes} {r : Bytes} {j : Nat} (h : linesP s = (ls, r)) (hs : s.length ≤ 131072) (hg : goP T 0 ls [] [] = .inl j) : parseP T s = (zeroC, (j : Int) + 1, 3) := by
 unfold parseP
 rw [if_neg jp, h]
 dsimp only
 rw [hg]
theorem parse_inr {s : Bytes} {ls : List Bytes} {r : Bytes} {p : List Int × List Zo} (h : linesP s = (ls, r)) (hs : s.length ≤ 131072) (hg : goP T 0 ls [] [] = .inr p) :
 parseP T s = if r ≠ [] ∨ ls.length < 12 then (zeroC, (ls.length : Int) + 1, 3) else if mayP (ofN p.1 p.2) then (ofN p.1 p.2, 0, 0) else (zeroC, 0, 1) := by
 unfold parseP
 rw [if_neg jp, h]
 dsimp only
 rw [hg]
end
section
open Go.Lib (decDigits)
structure Evn where
 kind : Nat
 frm : Int
 num : Int
 data : Bytes
deriving DecidableEq
structure Scr where
 cf : Cf
 seed : Nat
 first : List Nat
 evs : List Evn
deriving DecidableEq
def zeroS : Scr := ⟨zeroC, 0, [], []⟩
def seedW : Bytes := [115, 101, 101, 100]
def tapeW : Bytes := [116, 97, 112, 101]
def clientW : Bytes := [99, 108, 105, 101, 110, 116]
def replyW : Bytes := [114, 101, 112, 108, 121]
def tickW : Bytes := [116, 105, 99, 107]
abbrev Rows := List (Bytes × Bool)
def tailR (r : Bytes) : Rows := if r = [] then [] else [(r, false)]
def rowsOf (ls : List Bytes) (r : Bytes) : Rows := ls.map (fun l => (l, true)) ++ tailR r
def rowsP (s : Bytes) : Rows := rowsOf (linesP s).1 (linesP s).2
def unR (rs : Rows) : Bytes := rs.flatMap fun p => if p.2 then p.1 ++ [10] else p.1
theorem unR_append (a b : Rows) : unR (a ++ b) = unR a ++ unR b := by simp [unR]
theorem unR_lines (ls : List Bytes) : unR (ls.map fun l => (l, true)) = unlines ls [] := by
 induction ls with
 | nil => rfl
 | cons l ls ih =>
   rw [unlines_cons, ← ih]
   simp [unR]
theorem adq (r : Bytes) : unR (tailR r) = r := by
 unfold tailR
 split
 · rename_i h; rw [h]; rfl
 · simp [unR]
theorem Yn (ls : List Bytes) (r : Bytes) : unR (rowsOf ls r) = unlines ls r := by
 unfold rowsOf
 rw [unR_append, unR_lines, adq]
 simp [unlines]
theorem unR_P (s : Bytes) : unR (rowsP s) = s := by
 unfold rowsP
 rw [Yn, (QO s).1]
theorem rowsP_nil : rowsP [] = [] := rfl
theorem rowsP_end (s : Bytes) (h : (10 : UInt8) ∉ s) (hs : s ≠ []) : rowsP s = [(s, false)] := by
 unfold rowsP
 rw [linesP_end s h]
 unfold rowsOf tailR
 rw [if_neg hs]
 rfl
theorem rowsP_line (l r : Bytes) (h : (10 : UInt8) ∉ l) : rowsP (l ++ 10 :: r) = (l, true) :: rowsP r := by
 unfold rowsP
 rw [linesP_line l r h]
 rfl
theorem ZD (ls : List Bytes) (b : Bytes) (h : ∀ l ∈ ls, (10 : UInt8) ∉ l) : rowsP (unlines ls [] ++ b) = ls.map (fun l => (l, true)) ++ rowsP b := by
 unfold rowsP
 rw [uK ls b h]
 unfold rowsOf
 rw [List.map_append, List.append_assoc]
theorem rowsP_drop (s : Bytes) (k : Nat) : rowsP (unR ((rowsP s).drop k)) = (rowsP s).drop k := by
 obtain ⟨hu, hc, hr⟩ := QO s
 unfold rowsP at *
 generalize (linesP s).1 = ls at *
 generalize (linesP s).2 = r at *
 by_cases hk : k ≤ ls.length
 · have e : (rowsOf ls r).drop k = rowsOf (ls.drop k) r := by
    unfold rowsOf
    rw [List.drop_append_of_le_length (by simpa using hk), List.map_drop]
   rw [e, Yn, ado _ _ (fun l hl => hc l (List.mem_of_mem_drop hl)) hr]
 · have e : (rowsOf ls r).drop k = [] := by
    rw [List.drop_eq_nil_iff]
    unfold rowsOf tailR
    split
    · simp; omega
    · simp; omega
   rw [e]
   rfl
def num64 (w : Bytes) : Option Nat := if !(w == []) && w.all isDig && !((w.head? == some 48) && decide (1 < w.length)) && decide (valD w < 18446744073709551616) then some (valD w) else none
def nib (c : UInt8) : Option Nat := if 48 ≤ c.toNat ∧ c.toNat ≤ 57 then some (c.toNat - 48) else if 97 ≤ c.toNat ∧ c.toNat ≤ 102 then some (c.toNat - 87) else none
def octs : Bytes → Option Bytes
 | [] => some []
 | [_] => none
 | a :: b :: t => match nib a, nib b, octs t with
   | some x, some y, some r => some (UInt8.ofNat (16 * x + y) :: r)
   | _, _, _ => none
def octets (w : Bytes) : Option Bytes := if w = [45] then some [] else if w = [] then none else octs w
def seedP : List Bytes → Option Nat
 | [a, b] => if a = seedW then num64 b else none
 | _ => none
def nums : List Bytes → Option (List Nat)
 | [] => some []
 | w :: ws => match num64 w, nums ws with
   | some n, some l => some (n :: l)
   | _, _ => none
def tapeP : List Bytes → Option (List Nat)
 | a :: ws => if a = tapeW ∧ ws.length ≤ 256 then nums ws else none
 | [] => none
def eventP : List Bytes → Option Evn
 | [a, b] => match num64 b with
   | some n => if a = tickW ∧ n ≤ 1099511627776 then some ⟨3, 0, n, []⟩ else none
   | none => none
 | [a, b, c] => match num64 b, octets c with
   | some n, some d => if (a = clientW ∨ a = replyW) ∧ n ≤ 2147483647 then some ⟨if a = clientW then 1 else 2, n, 0, d⟩ else none
   | _, _ => none
 | _ => none
def isSeed (t : Bytes) : Bool := t == seedW || (seedW ++ [32]).isPrefixOf t
def kS : Rows → Nat
 | [] => 0
 | p :: rs => if isSeed p.1 then 0 else kS rs + 1
def takeP (n : Nat) (ws : List Bytes) (x : Scr) : Option Scr :=
 if n = 1 then (seedP ws).map fun v => { x with seed := v } else if n = 2 then (tapeP ws).map fun v => { x with first := v } else (eventP ws).map fun v => { x with evs := x.evs ++ [v] }
def goS : Nat → Rows → Scr → Nat ⊕ Nat × Scr
 | n, [], x => .inr (n, x)
 | n, p :: rs, x => if p.2 then match takeP (n + 1) (spl 32 p.1) x with
    | some y => goS (n + 1) rs y
    | none => .inl (n + 1)
   else .inl (n + 1)
section
variable (T : Names)
def restS (c : Cf × Int × Int) (k : Nat) (rs : Rows) : Scr × Int × Int := if c.2.2 = 3 then (zeroS, c.2.1, 3) else
 match goS 0 rs { zeroS with cf := c.1 } with
 | .inl j => (zeroS, (k + j : Nat), 3)
 | .inr (n, x) => if n < 2 then (zeroS, ((k + n : Nat) : Int) + 1, 3) else if c.2.2 ≠ 0 then (zeroS, 0, c.2.2) else (x, 0, 0)
def parseR (rs : Rows) : Scr × Int × Int := restS (parseP T (unR (rs.take (kS rs)))) (kS rs) (rs.drop (kS rs))
def parseS (s : Bytes) : Scr × Int × Int := if 131072 < s.length then (zeroS, 0, 5) else parseR T (rowsP s)
end
variable {T : Names}
theorem kS_le (rs : Rows) : kS rs ≤ rs.length := by
 induction rs with
 | nil => exact Nat.le_refl _
 | cons p rs ih =>
   unfold kS
   split
   · exact Nat.zero_le _
   · simpa using ih
theorem UP (a b : Rows) : kS (a ++ b) = if kS a < a.length then kS a else a.length + kS b := by
 induction a with
 | nil => simp [kS]
 | cons p a ih =>
   rw [List.cons_append, kS, kS]
   split
   · rw [if_pos (by simp)]
   · rw [ih, List.length_cons]
     by_cases h : kS a < a.length
     · rw [if_pos h, if_pos (by omega)]
     · rw [if_neg h, if_neg (by omega)]; omega
theorem QT : ∀ (a b : Rows) (n : Nat) (x : Scr), goS n (a ++ b) x = match goS n a x with
  | .inl j => .inl j
  | .inr (m, y) => goS m b y
 | [], b, n, x => by simp [goS]
 | p :: a, b, n, x => by
   rw [List.cons_append, goS, goS]
   split
   · cases takeP (n + 1) (spl 32 p.1) x with
     | none => rfl
     | some y => exact QT a b (n + 1) y
   · rfl
theorem goS_inr : ∀ (a : Rows) (n : Nat) (x : Scr) {m : Nat} {y : Scr}, goS n a x = .inr (m, y) → m = n + a.length
 | [], n, x, m, y, h => by cases h; rfl
 | p :: a, n, x, m, y, h => by
   rw [goS] at h
   split at h
   · split at h
     · have := goS_inr a (n + 1) _ h
       rw [List.length_cons]
       omega
     · cases h
   · cases h
theorem goS_inl : ∀ (a : Rows) (n : Nat) (x : Scr) {j : Nat}, goS n a x = .inl j → n < j ∧ j ≤ n + a.length
 | [], n, x, j, h => by cases h
 | p :: a, n, x, j, h => by
   rw [goS] at h
   rw [List.length_cons]
   split at h
   · split at h
     · have := goS_inl a (n + 1) _ h
       omega
     · cases h; omega
   · cases h; omega
theorem parseP_line {s : Bytes} (h : (parseP T s).2.2 ≠ 3) : (parseP T s).2.1 = 0 := by
 unfold parseP at *
 split
 · rfl
 · rename_i h1
   rw [if_neg h1] at h
   split
   · rename_i k hk
     rw [hk] at h
     exact absurd rfl h
   · rename_i vs zs hk
     rw [hk] at h
     dsimp only at h ⊢
     split
     · rename_i h2
       rw [if_pos h2] at h
       exact absurd rfl h
     · split <;> rfl
theorem VN {s : Bytes} (h : (parseP T s).2.2 = 3) : 1 ≤ (parseP T s).2.1 := by
 unfold parseP at *
 split
 · rename_i h1
   rw [if_pos h1] at h
   cases h
 · rename_i h1
   rw [if_neg h1] at h
   split
   · dsimp only; omega
   · rename_i vs zs hk
     rw [hk] at h
     dsimp only at h ⊢
     split
     · dsimp only; omega
     · rename_i h2
       rw [if_neg h2] at h
       split at h <;> cases h
theorem parseS_ok {s : Bytes} (h : (parseS T s).2.2 ≠ 3) : (parseS T s).2.1 = 0 := by
 unfold parseS at *
 split
 · rfl
 · rename_i h1
   rw [if_neg h1] at h
   unfold parseR restS at *
   split
   · rename_i h2
     rw [if_pos h2] at h
     exact absurd rfl h
   · rename_i h2
     rw [if_neg h2] at h
     split
     · rename_i j hj
       rw [hj] at h
       exact absurd rfl h
     · rename_i n x hj
       rw [hj] at h
       dsimp only at h ⊢
       split
       · rename_i h3
         rw [if_pos h3] at h
         exact absurd rfl h
       · split <;> rfl
theorem firstS_law (s b : Bytes) (hs : s.length ≤ 12000) (hb : b.length ≤ 12000) (h3 : (parseS T s).2.2 = 3) :
 1 ≤ (parseS T s).2.1 ∧ (cutP s ((parseS T s).2.1 - 1)).length ≤ (cutP s (parseS T s).2.1).length ∧
 ((cutP s ((parseS T s).2.1 - 1)).length ≠ (cutP s (parseS T s).2.1).length → (cutP s (parseS T s).2.1).getLast? = some 10 → (parseS T (cutP s (parseS T s).2.1 ++ b)).2 = ((parseS T s).2.1, 3)) := by
 obtain ⟨hu, hc, hr⟩ := QO s
 obtain ⟨ls, r, hls⟩ : ∃ ls r, linesP s = (ls, r) := ⟨_, _, rfl⟩
 rw [hls] at hu hc hr
 dsimp only at hu hc hr
 have hlen := Ym ls r
 rw [hu] at hlen
 have hcut := fun k => QS r hr ls k hc
 rw [hu] at hcut
 have hrows : rowsP s = rowsOf ls r := by unfold rowsP; rw [hls]
 have hps : parseS T s = parseR T (rowsOf ls r) := by unfold parseS; rw [if_neg (by omega), hrows]
 have htail : (tailR r).length = if r = [] then 0 else 1 := by unfold tailR; split <;> rfl
 have hrl : (rowsOf ls r).length = ls.length + if r = [] then 0 else 1 := by unfold rowsOf; rw [List.length_append, List.length_map, htail]
 rw [hps] at h3 ⊢
 have hle1 : 1 ≤ (parseR T (rowsOf ls r)).2.1 := by
  unfold parseR restS at h3 ⊢
  split
  · rename_i h2
    exact VN h2
  · rename_i h2
    rw [if_neg h2] at h3
    split
    · rename_i j hj
      have := (goS_inl _ _ _ hj).1
      dsimp only
      omega
    · rename_i n x hj
      rw [hj] at h3
      dsimp only at h3 ⊢
      split
      · dsimp only; omega
      · rename_i h4
        rw [if_neg h4] at h3
        split at h3
        · exact absurd h3 h2
        · cases h3
 refine ⟨hle1, ?_⟩
 obtain ⟨m, hm⟩ : ∃ m : Nat, (parseR T (rowsOf ls r)).2.1 = (m : Int) := ⟨(parseR T (rowsOf ls r)).2.1.toNat, by omega⟩
 rw [hm] at hle1 ⊢
 rw [show (m : Int) - 1 = ((m - 1 : Nat) : Int) by omega, hcut m, hcut (m - 1)]
 have hmono : ∀ a, (unlines (ls.take a) []).length ≤ (unlines (ls.take (a + 1)) []).length := fun a => by
  have := zZ (ls.take (a + 1)) a
  rwa [List.take_take, Nat.min_eq_left (by omega)] at this
 by_cases hml : m ≤ ls.length
 rotate_left
 · rw [if_neg hml]
   by_cases hm1 : m - 1 ≤ ls.length
   · have e : m - 1 = ls.length := by omega
     rw [if_pos hm1, e, List.take_length]
     refine ⟨by omega, fun h1 h2 => ?_⟩
     exfalso
     have hrn : r ≠ [] := fun e => h1 (by rw [hlen, e]; simp)
     rw [← hu] at h2
     unfold unlines at h2
     rw [List.getLast?_append] at h2
     cases hq : r.getLast? with
     | none => exact hrn (List.getLast?_eq_none_iff.1 hq)
     | some x =>
       rw [hq, Option.some_or] at h2
       cases h2
       exact hr (List.mem_of_getLast? hq)
   · rw [if_neg hm1]
     exact ⟨Nat.le_refl _, fun h => absurd rfl h⟩
 rw [if_pos hml, if_pos (by omega)]
 refine ⟨by have := hmono (m - 1); rwa [show m - 1 + 1 = m by omega] at this, fun _ _ => ?_⟩
 have hct : ∀ l ∈ ls.take m, (10 : UInt8) ∉ l := fun l hl => hc l (List.mem_of_mem_take hl)
 have hbl : (unlines (ls.take m) []).length ≤ 12000 := by have := zZ ls m; omega
 have hps2 : parseS T (unlines (ls.take m) [] ++ b) = parseR T ((ls.take m).map (fun l => (l, true)) ++ rowsP b) := by
  unfold parseS
  rw [if_neg (by rw [List.length_append]; omega), ZD _ _ hct]
 rw [hps2]
 obtain ⟨A, hA⟩ : ∃ A : Rows, (ls.take m).map (fun l => (l, true)) = A := ⟨_, rfl⟩
 have hAl : A.length = m := by rw [← hA, List.length_map, List.length_take]; omega
 obtain ⟨B, hB⟩ : ∃ B : Rows, rowsOf ls r = A ++ B := by
  refine ⟨(ls.drop m).map (fun l => (l, true)) ++ tailR r, ?_⟩
  rw [← hA, ← List.append_assoc, ← List.map_append, List.take_append_drop]
  rfl
 rw [hA]
 rw [hB] at hm h3
 by_cases hk : kS A < A.length
 · have hkey : ∀ C, kS (A ++ C) = kS A ∧ (A ++ C).take (kS (A ++ C)) = A.take (kS A) ∧ (A ++ C).drop (kS (A ++ C)) = A.drop (kS A) ++ C := fun C => by
    have e : kS (A ++ C) = kS A := by rw [UP, if_pos hk]
    rw [e]
    exact ⟨rfl, List.take_append_of_le_length (by omega), List.drop_append_of_le_length (by omega)⟩
   have hun : ∀ C, parseR T (A ++ C) = restS (parseP T (unR (A.take (kS A)))) (kS A) (A.drop (kS A) ++ C) := fun C => by
    obtain ⟨e1, e2, e3⟩ := hkey C
    unfold parseR
    rw [e2, e3, e1]
   rw [hun] at hm h3 ⊢
   unfold restS at *
   by_cases h2 : (parseP T (unR (A.take (kS A)))).2.2 = 3
   · rw [if_pos h2] at hm ⊢
     dsimp only at hm ⊢
     rw [hm]
   · rw [if_neg h2] at hm h3 ⊢
     rw [QT] at hm h3 ⊢
     cases hg : goS 0 (A.drop (kS A)) { zeroS with cf := (parseP T (unR (A.take (kS A)))).1 } with
     | inl j =>
       rw [hg] at hm
       dsimp only at hm ⊢
       rw [hm]
     | inr q =>
       exfalso
       obtain ⟨n, x⟩ := q
       have hn := goS_inr _ _ _ hg
       rw [List.length_drop] at hn
       rw [hg] at hm h3
       dsimp only at hm h3
       cases hg2 : goS n B x with
       | inl j =>
         have := (goS_inl _ _ _ hg2).1
         rw [hg2] at hm
         dsimp only at hm
         omega
       | inr q =>
         obtain ⟨n2, x2⟩ := q
         have := goS_inr _ _ _ hg2
         rw [hg2] at hm h3
         dsimp only at hm h3
         split at hm
         · dsimp only at hm; omega
         · rename_i h4
           rw [if_neg h4] at h3
           split at h3
           · exact h2 h3
           · cases h3
 · have hkA : kS A = A.length := by have := kS_le A; omega
   have hkey : ∀ C, parseR T (A ++ C) = restS (parseP T (unlines (ls.take m) [] ++ unR (C.take (kS C)))) (m + kS C) (C.drop (kS C)) := fun C => by
    have e : kS (A ++ C) = A.length + kS C := by rw [UP, if_neg (by omega)]
    unfold parseR
    rw [e, List.take_length_add_append, List.drop_length_add_append, unR_append, ← hA, unR_lines, List.length_map, List.length_take, Nat.min_eq_left hml]
   rw [hkey] at hm h3 ⊢
   have hin : (parseP T (unlines (ls.take m) [] ++ unR (B.take (kS B)))).2.2 = 3 ∧ (parseP T (unlines (ls.take m) [] ++ unR (B.take (kS B)))).2.1 = (m : Int) := by
    unfold restS at hm h3
    by_cases h2 : (parseP T (unlines (ls.take m) [] ++ unR (B.take (kS B)))).2.2 = 3
    · rw [if_pos h2] at hm
      exact ⟨h2, hm⟩
    · exfalso
      rw [if_neg h2] at hm h3
      split at hm
      · rename_i j hj
        have := (goS_inl _ _ _ hj).1
        dsimp only at hm
        omega
      · rename_i n x hj
        rw [hj] at h3
        dsimp only at hm h3
        split at hm
        · dsimp only at hm; omega
        · rename_i h4
          rw [if_neg h4] at h3
          split at h3
          · exact h2 h3
          · cases h3
   have hgo : goP T 0 (ls.take m) [] [] = .inl (m - 1) := by
    obtain ⟨i1, i2⟩ := hin
    have hl := uK (ls.take m) (unR (B.take (kS B))) hct
    unfold parseP at i1 i2
    split at i1
    · cases i1
    · rename_i hlong
      rw [if_neg hlong] at i2
      rw [hl] at i1 i2
      dsimp only at i1 i2
      cases hg : goP T 0 (ls.take m ++ (linesP (unR (B.take (kS B)))).1) [] [] with
      | inl j =>
        rw [hg] at i2
        dsimp only at i2
        obtain ⟨_, _, _, g4⟩ := goP_inl _ 0 j [] [] hg
        rw [show j - 0 + 1 = m by omega, List.take_append_of_le_length (by rw [List.length_take]; omega), List.take_of_length_le (by rw [List.length_take]; omega)] at g4
        rw [g4]
        congr 1
        omega
      | inr p =>
        exfalso
        rw [hg] at i1 i2
        dsimp only at i1 i2
        split at i2
        · dsimp only at i2
          rw [List.length_append, List.length_take] at i2
          omega
        · rename_i h5
          rw [if_neg h5] at i1
          split at i1 <;> cases i1
   have hfin : ∀ D : Bytes, D.length ≤ 100000 → (parseP T (unlines (ls.take m) [] ++ D)) = (zeroC, (m : Int), 3) := fun D hD => by
    unfold parseP
    rw [if_neg (by rw [List.length_append]; omega), uK (ls.take m) D hct]
    dsimp only
    rw [zv, hgo]
    dsimp only
    congr 2
    omega
   have hbt : (unR ((rowsP b).take (kS (rowsP b)))).length ≤ 100000 := by
    have : (unR (rowsP b)).length ≤ 12000 := by rw [unR_P]; exact hb
    have e := unR_append ((rowsP b).take (kS (rowsP b))) ((rowsP b).drop (kS (rowsP b)))
    rw [List.take_append_drop] at e
    rw [e, List.length_append] at this
    omega
   rw [hfin _ hbt]
   unfold restS
   rw [if_pos rfl]
end
end Go.Proofs.YtgjlbilcnlffgaaGreatDoor.Cn
namespace Go.Proofs.YtgjlbilcnlffgaaGreatDoor
open Go.RowKit
namespace Cn
def ZE (acc : Nat) (l : Bytes) : Nat := l.foldl (fun n c => n * 10 + (c.toNat - 48)) acc
theorem abJ (l : Bytes) : ZE 0 l = valD l := rfl
theorem afm (l : Bytes) : ∀ acc, acc ≤ ZE acc l := by
 induction l with
 | nil => intro acc; exact Nat.le_refl _
 | cons c l ih =>
   intro acc
   have := ih (acc * 10 + (c.toNat - 48))
   show acc ≤ ZE (acc * 10 + (c.toNat - 48)) l
   omega
theorem age (l : Bytes) : ∀ acc, l.all isDig = true → acc ≤ 18446744073709551615 → Lib.parseUintM 18446744073709551615 acc l = if ZE acc l ≤ 18446744073709551615 then .ok (ZE acc l) else .range := by
 induction l with
 | nil =>
   intro acc _ ha
   show Lib.NumEnd.ok acc = if acc ≤ 18446744073709551615 then .ok acc else .range
   rw [if_pos ha]
 | cons c l ih =>
   intro acc hd ha
   rw [List.all_cons, Bool.and_eq_true] at hd
   have hc := hd.1
   unfold isDig at hc
   simp only [Bool.and_eq_true, decide_eq_true_eq] at hc
   have hge := afm l (acc * 10 + (c.toNat - 48))
   have e : ZE acc (c :: l) = ZE (acc * 10 + (c.toNat - 48)) l := rfl
   rw [Lib.parseUintM, if_pos hc, e]
   by_cases h1 : 1844674407370955162 ≤ acc
   · rw [if_pos h1, if_neg (by omega)]
   · rw [if_neg h1]
     by_cases h2 : 18446744073709551615 < acc * 10 + (c.toNat - 48)
     · rw [if_pos h2, if_neg (by omega)]
     · rw [if_neg h2]
       exact ih _ hd.2 (by omega)
theorem parse64 {w : Bytes} (hd : w.all isDig = true) (h0 : w ≠ []) : Lib.parseUintB 64 w = if valD w < 18446744073709551616 then .ok (valD w) else .range := by
 unfold Lib.parseUintB
 rw [if_neg h0]
 show Lib.parseUintM 18446744073709551615 0 w = _
 rw [age w 0 hd (by omega), abJ]
 by_cases h : valD w < 18446744073709551616
 · rw [if_pos h, if_pos (by omega)]
 · rw [if_neg h, if_neg (by omega)]
def hexD : Bytes := [48, 49, 50, 51, 52, 53, 54, 55, 56, 57, 97, 98, 99, 100, 101, 102]
def nibI (c : UInt8) : Int := match nib c with
 | some x => (x : Int)
 | none => -1
theorem index_nib (c : UInt8) : Lib.indexByte hexD c = nibI c := by
 have h : ∀ n : Fin 256, Lib.indexByte hexD (UInt8.ofNat n.val) = nibI (UInt8.ofNat n.val) := by decide +kernel
 have := h ⟨c.toNat, c.toNat_lt⟩
 simpa using this
theorem nib_le {c : UInt8} {x : Nat} (h : nib c = some x) : x ≤ 15 := by
 unfold nib at h
 split at h
 · cases h; omega
 · split at h
   · cases h; omega
   · cases h
theorem num64_some {w : Bytes} {n : Nat} (h : num64 w = some n) : n < 18446744073709551616 := by
 unfold num64 at h
 split at h
 · rename_i k
   simp only [Bool.and_eq_true, decide_eq_true_eq] at k
   cases h
   exact k.2
 · cases h
theorem num64_all {w : Bytes} (h : w.all isDig = false) : num64 w = none := by unfold num64; rw [h]; simp
theorem num64_zero {w : Bytes} (h : w[0]? = some 48) (h1 : 1 < w.length) : num64 w = none := by
 unfold num64
 have : w.head? = some 48 := by rw [← h]; cases w <;> rfl
 rw [this]
 simp [h1]
theorem num64_nil : num64 [] = none := rfl
theorem num64_ok {w : Bytes} (h : w.all isDig = true) (h0 : w ≠ []) (h1 : ¬ (w[0]? = some 48 ∧ 1 < w.length)) : num64 w = if valD w < 18446744073709551616 then some (valD w) else none := by
 unfold num64
 have e : w.head? = w[0]? := by cases w <;> rfl
 rw [h, e]
 have h2 : (w == []) = false := by simpa using h0
 rw [h2]
 have h3 : ((w[0]? == some 48) && decide (1 < w.length)) = false := by
  rw [Bool.and_eq_false_iff]
  by_cases k : w[0]? = some 48
  · right; simp only [decide_eq_false_iff_not]; exact fun q => h1 ⟨k, q⟩
  · left; simpa using k
 rw [h3]
 simp
theorem octs_take : ∀ (w : Bytes) (i : Nat), 2 * i + 1 < w.length → ∀ a b, w[2 * i]? = some a → w[2 * i + 1]? = some b → (nib a = none ∨ nib b = none) → octs w = none
 | [], i, h, a, b, _, _, _ => by simp at h
 | [_], i, h, a, b, _, _, _ => by simp at h
 | x :: y :: t, 0, h, a, b, ha, hb, hn => by
   have e1 : x = a := by simpa using ha
   have e2 : y = b := by simpa using hb
   subst e1 e2
   rw [octs]
   rcases hn with k | k
   · rw [k]
   · rw [k]; cases nib x <;> rfl
 | x :: y :: t, i + 1, h, a, b, ha, hb, hn => by
   have := octs_take t i (by simp at h; omega) a b (by simpa [show 2 * (i + 1) = 2 * i + 1 + 1 by omega] using ha) (by simpa [show 2 * (i + 1) + 1 = 2 * i + 1 + 1 + 1 by omega] using hb) hn
   rw [octs, this]
   cases nib x <;> cases nib y <;> rfl
theorem octs_snoc : ∀ (w : Bytes) (r : Bytes) (a b : UInt8) (x y : Nat), octs w = some r → nib a = some x → nib b = some y → octs (w ++ [a, b]) = some (r ++ [UInt8.ofNat (16 * x + y)])
 | [], r, a, b, x, y, h, ha, hb => by
   cases h
   simp [octs, ha, hb]
 | [_], r, a, b, x, y, h, ha, hb => by cases h
 | c :: d :: t, r, a, b, x, y, h, ha, hb => by
   rw [octs] at h
   cases hc : nib c with
   | none => rw [hc] at h; cases h
   | some u =>
     cases hd : nib d with
     | none => rw [hc, hd] at h; cases h
     | some v =>
       cases ht : octs t with
       | none => rw [hc, hd, ht] at h; cases h
       | some q =>
         rw [hc, hd, ht] at h
         cases h
         have := octs_snoc t q a b x y ht ha hb
         rw [List.cons_append, List.cons_append, octs, hc, hd, this]
         rfl
theorem octs_odd : ∀ (w : Bytes), w.length % 2 ≠ 0 → octs w = none
 | [], h => by simp at h
 | [_], _ => rfl
 | c :: d :: t, h => by
   rw [octs, octs_odd t (by simp at h ⊢; omega)]
   cases nib c <;> cases nib d <;> rfl
theorem octs_len : ∀ (w r : Bytes), octs w = some r → w.length = 2 * r.length
 | [], r, h => by cases h; rfl
 | [_], r, h => by cases h
 | c :: d :: t, r, h => by
   rw [octs] at h
   cases hc : nib c with
   | none => rw [hc] at h; cases h
   | some u =>
     cases hd : nib d with
     | none => rw [hc, hd] at h; cases h
     | some v =>
       cases ht : octs t with
       | none => rw [hc, hd, ht] at h; cases h
       | some q =>
         rw [hc, hd, ht] at h
         cases h
         have := octs_len t q ht
         simp
         omega
theorem nums_snoc : ∀ (ws : List Bytes) (l : List Nat) (w : Bytes) (n : Nat), nums ws = some l → num64 w = some n → nums (ws ++ [w]) = some (l ++ [n])
 | [], l, w, n, h, hn => by cases h; simp [nums, hn]
 | v :: ws, l, w, n, h, hn => by
   rw [nums] at h
   cases hv : num64 v with
   | none => rw [hv] at h; cases h
   | some m =>
     cases hq : nums ws with
     | none => rw [hv, hq] at h; cases h
     | some q =>
       rw [hv, hq] at h
       cases h
       rw [List.cons_append, nums, hv, nums_snoc ws q w n hq hn]
       rfl
theorem nums_no {ws : List Bytes} {i : Nat} {w : Bytes} (hi : ws[i]? = some w) (h : num64 w = none) : nums ws = none := by
 induction ws generalizing i with
 | nil => simp at hi
 | cons v ws ih =>
   cases i with
   | zero =>
     have e : v = w := by simpa using hi
     rw [nums, e, h]
   | succ i =>
     rw [nums, ih (by simpa using hi)]
     cases num64 v <;> rfl
end Cn
section
variable {P : Program} {t : TypeId} {k : IntKind}
theorem adr {x : Nat} (h : x ≤ 15) : Bin P .shl t (.int .i64 (x : Nat)) (.int k 4) (.int .i64 ((16 * x : Nat) : Int)) := ⟨fun a b w => by
 have hv : ∀ u : Fin 16, IntKind.wrap .i64 ((u.val : Int) * 2 ^ (min 4 (IntKind.bits .i64))) = ((16 * u.val : Nat) : Int) := by decide +kernel
 have := hv ⟨x, by omega⟩
 dsimp only at this
 have hneg : ¬ (4 : Int) < 0 := by omega
 have h4 : (4 : Int).toNat = 4 := rfl
 simp only [eqGuard, binOp, Op.shift, if_neg hneg, h4, this]
 rfl⟩
theorem afn {x y : Nat} (hx : x ≤ 15) (hy : y ≤ 15) : Bin P .or t (.int .i64 ((16 * x : Nat) : Int)) (.int .i64 (y : Nat)) (.int .i64 ((16 * x + y : Nat) : Int)) := ⟨fun a b w => by
 have hv : ∀ u v : Fin 16, IntKind.wrap .i64 (((BitVec.ofInt (IntKind.bits .i64) ((16 * u.val : Nat) : Int) ||| BitVec.ofInt (IntKind.bits .i64) (v.val : Int)).toNat : Nat) : Int) = ((16 * u.val + v.val : Nat) : Int) := by decide +kernel
 have := hv ⟨x, by omega⟩ ⟨y, by omega⟩
 dsimp only at this
 simp only [eqGuard, binOp, Op.intBits, this]
 rfl⟩
end
end Go.Proofs.YtgjlbilcnlffgaaGreatDoor
namespace Go.Proofs.YtgjlbilcnlffgaaGreatDoor
open Go.RowKit
def StrRow (L : ja) (v : Value) (ls : List Nm.Bytes) : Prop :=
 ∃ a cap, v = .slice a ls.length cap ∧ (ls = [] ∨ ∃ b off C te fr, a = some ⟨b, off, none⟩ ∧ (b, Obj.cells C te fr) ∈ L ∧ ∀ i l, ls[i]? = some l → C[off + i * 1]? = some (.string (bs l)))
theorem StrRow.mono {L L' : ja} {v : Value} {ls : List Nm.Bytes} (h : StrRow L v ls) (hs : ∀ p ∈ L, p ∈ L') : StrRow L' v ls := by
 obtain ⟨a, cap, h1, h2⟩ := h
 refine ⟨a, cap, h1, h2.imp id ?_⟩
 rintro ⟨b, off, C, te, fr, h3, h4, h5⟩
 exact ⟨b, off, C, te, fr, h3, hs _ h4, h5⟩
def uS (l : Nm.Bytes) : Bool := decide (1 ≤ l.length) && decide (l.length ≤ 63)
def jM (ls : List Nm.Bytes) : Nat := (ls.map fun l => l.length + 1).sum
def qD (ls : List Nm.Bytes) : Int := if ls.all uS then (if 255 < 1 + jM ls then 5 else 0) else 1
def z2 (ls : List Nm.Bytes) : Nm.Bytes := if qD ls = 0 then Nm.enc ls else []
def KW (ls : List Nm.Bytes) : Nm.Bytes := ls.flatMap fun l => UInt8.ofNat l.length :: l
theorem Yo : ∀ ls : List Nm.Bytes, Nm.enc ls = KW ls ++ [0]
 | [] => rfl
 | l :: ls => by simp [Nm.enc, KW, Yo ls]
theorem UQ (l : Nm.Bytes) (ls : List Nm.Bytes) : KW (l :: ls) = UInt8.ofNat l.length :: (l ++ KW ls) := by simp [KW]
theorem qa (l : Nm.Bytes) (ls : List Nm.Bytes) : jM (l :: ls) = l.length + 1 + jM ls := by simp [jM]
theorem qm (a b : List Nm.Bytes) : jM (a ++ b) = jM a + jM b := by simp [jM]
theorem Yp (a b : List Nm.Bytes) : KW (a ++ b) = KW a ++ KW b := by simp [KW]
theorem Yq (ls : List Nm.Bytes) : (KW ls).length = jM ls := by
 induction ls with
 | nil => rfl
 | cons l ls ih => rw [UQ, qa, ← ih]; simp; omega
theorem uE (ls : List Nm.Bytes) (k : Nat) : jM (ls.take k) ≤ jM ls := by
 have : jM ls = jM (ls.take k) + jM (ls.drop k) := by rw [← qm, List.take_append_drop]
 omega
theorem abK (ls : List Nm.Bytes) (h : ls.all uS = true) : jM ls ≤ 64 * ls.length := by
 induction ls with
 | nil => simp [jM]
 | cons l ls ih =>
   simp only [List.all_cons, Bool.and_eq_true] at h
   have := ih h.2
   simp [uS] at h
   rw [qa]
   simp
   omega
theorem UR {ls : List Nm.Bytes} {l : Nm.Bytes} (hm : l ∈ ls) (h : uS l = false) : qD ls = 1 := by
 unfold qD
 rw [if_neg]
 intro hall
 have := List.all_eq_true.1 hall l hm
 rw [h] at this
 cases this
theorem Kk {ls : List Nm.Bytes} (h : qD ls ≠ 0) : z2 ls = [] := by unfold z2; rw [if_neg h]
theorem abL {G : World} {L : ja} (v : Value) (ls : List Nm.Bytes) (hr : StrRow L v ls) (hn : ls.length ≤ 1000000) (hl : ∀ l ∈ ls, l.length ≤ 1000000000000) :
 Spec Tryz.prog G 116 #[v] L fun u M => u = .tuple #[.string (bs (z2 ls)), .int .i64 (qD ls)] ∧ M = L := by
 obtain ⟨a, cap, rfl, hrow⟩ := hr
 refine jw (n := 54) Tryz.func116 rfl rfl rfl ?_
 repeat (first | refine goC ?_ | (refine jK ?_; intro bLit))
 refine kv (σ := Nat) (fun k => k ≤ ls.length ∧ (ls.take k).all uS = true) (fun k => [(0, .slice a ls.length cap), (4, .int .i64 ((1 + jM (ls.take k) : Nat) : Int)), (10, .slice a ls.length cap), (11, .int .i64 (ls.length : Nat)), (12, .int .i64 (k : Nat))]) (fun _ => L) (fun k => ls.length - k) 0 ⟨by omega, by simp⟩ ?_ (fun _ h => h) ?_
 exact qd
 rintro k ⟨hk, hall⟩
 have hsum := abK _ hall
 have hlk : (ls.take k).length ≤ k := List.length_take_le _ _
 by_cases hlt : k < ls.length
 · obtain rfl | ⟨b, off, C, te, fr, rfl, hm, hc⟩ := hrow
   · simp at hlt
   obtain ⟨l, hlk⟩ : ∃ l, ls[k]? = some l := ⟨_, List.getElem?_eq_getElem hlt⟩
   have hcell := hc k l hlk
   have hll := hl l (List.mem_of_getElem? hlk)
   have htk : ls.take (k + 1) = ls.take k ++ [l] := by rw [List.take_add_one, hlk]; rfl
   have d1 : decide ((k : Int) < (ls.length : Int)) = true := by simpa using hlt
   by_cases h0 : l.length = 0
   · have e1 : ((l.length : Int) == 0) = true := by simp [h0]
     have hE : qD ls = 1 := UR (List.mem_of_getElem? hlk) (by simp [uS, h0])
     repeat (first | refine goC ?_ | (refine jK ?_; intro bLit))
     refine j7 2 3 _ _ rfl rfl rfl ?_
     exact ⟨by rw [Kk (by rw [hE]; decide), hE]; rfl, rfl⟩
   · have e1 : ((l.length : Int) == 0) = false := by simp [h0]
     by_cases h63 : 63 < l.length
     · have e2 : decide ((63 : Int) < (l.length : Int)) = true := decide_eq_true jp
       have hE : qD ls = 1 := UR (List.mem_of_getElem? hlk) (by simp [uS]; omega)
       repeat (first | refine goC ?_ | (refine jK ?_; intro bLit))
       refine j7 2 3 _ _ rfl rfl rfl ?_
       exact ⟨by rw [Kk (by rw [hE]; decide), hE]; rfl, rfl⟩
     · have e2 : decide ((63 : Int) < (l.length : Int)) = false := decide_eq_false jp
       repeat (first | refine goC ?_ | (refine jK ?_; intro bLit))
       refine jG (k + 1) ⟨by omega, ?_⟩ ?_ (fun _ h => h) jp
       · rw [htk, List.all_append, hall]; simp [uS]; omega
       · rw [htk, qm]
         refine ⟨rfl, ?_, rfl, rfl, rfl, trivial⟩
         exact congrArg (fun i : Int => some (Value.int .i64 i)) (by rw [qa]; simp [jM]; omega)
 · have hkl : k = ls.length := by omega
   subst hkl
   have d1 : decide ((ls.length : Int) < (ls.length : Int)) = false := by simp
   rw [List.take_length] at hall hsum
   by_cases h255 : 255 < 1 + jM ls
   · have e2 : decide ((255 : Int) < ((1 + jM (ls.take ls.length) : Nat) : Int)) = true := by rw [List.take_length]; simp; omega
     have hE : qD ls = 5 := by unfold qD; rw [if_pos hall, if_pos h255]
     repeat (first | refine goC ?_ | (refine jK ?_; intro bLit))
     refine j7 2 3 _ _ rfl rfl rfl ?_
     exact ⟨by rw [Kk (by rw [hE]; decide), hE]; rfl, rfl⟩
   · have e2 : decide ((255 : Int) < ((1 + jM (ls.take ls.length) : Nat) : Int)) = false := by rw [List.take_length]; simp; omega
     have hE : qD ls = 0 := by unfold qD; rw [if_pos hall, if_neg h255]
     have hs0 : jM (ls.take ls.length) = jM ls := by rw [List.take_length]
     repeat (first | refine goC ?_ | (refine jK ?_; intro bLit))
     refine qX (K6 etO rfl rfl jp jp jp jp rfl) rfl ?_
     intro b7
     repeat (first | refine goC ?_ | (refine jK ?_; intro bLit))
     refine kv (σ := Nat × Value × ja) (fun x => x.1 ≤ ls.length ∧ Row 5 1 x.2.1 (jM (ls.take x.1)) ((KW (ls.take x.1)).map fun c => Value.int .u8 (c.toNat : Int)) x.2.2)
      (fun x => [(7, x.2.1), (34, .slice a ls.length cap), (35, .int .i64 (ls.length : Nat)), (36, .int .i64 (x.1 : Nat))]) (fun x => x.2.2 ++ L) (fun x => ls.length - x.1) (0, _, [(b7, _)]) ⟨by omega, Row.made (size_madeCells _ _) (by unfold maxLen; omega)⟩ ?_ (fun _ h => h) ?_
     exact qd
     rintro ⟨k, v7, B⟩ ⟨hk, hR⟩
     dsimp only at hk hR
     have hst := uE ls k
     by_cases hlt : k < ls.length
     · obtain rfl | ⟨b, off, C, te, fr, rfl, hm, hc⟩ := hrow
       · simp at hlt
       obtain ⟨l, hlk⟩ : ∃ l, ls[k]? = some l := ⟨_, List.getElem?_eq_getElem hlt⟩
       have hcell := hc k l hlk
       have hll : l.length ≤ 63 := by
        have := List.all_eq_true.1 hall l (List.mem_of_getElem? hlk)
        simp [uS] at this
        omega
       have htk : ls.take (k + 1) = ls.take k ++ [l] := by rw [List.take_add_one, hlk]; rfl
       have hsum1 : jM (ls.take k) + (l.length + 1) ≤ jM ls := by
        have := uE ls (k + 1)
        rw [htk, qm, qa] at this
        simp [jM] at this ⊢
        omega
       have d3 : decide ((k : Int) < (ls.length : Int)) = true := decide_eq_true jp
       have hm' : (b, Obj.cells C te fr) ∈ B ++ L := List.mem_append_right _ hm
       repeat (first | refine goC ?_ | (refine jK ?_; intro bLit))
       refine yK etO rfl rfl hR rfl (by unfold maxLen; omega) jp rfl ?_
       intro v8 B8 hR8
       repeat (first | refine goC ?_ | (refine jK ?_; intro bLit))
       refine aeB etO unO rfl rfl hR8 jp rfl ?_
       intro v9 B9 hR9
       repeat (first | refine goC ?_ | (refine jK ?_; intro bLit))
       refine jG (k + 1, v9, B9) ⟨by omega, ?_⟩ ?_ (fun _ h => h) jp
       · rw [htk, qm, Yp, qa, UQ]
         have e3 : (UInt8.ofNat l.length).toNat = l.length := by simp; omega
         have e4 : jM (ls.take k) + (l.length + 1 + jM []) = jM (ls.take k) + 1 + l.length := by simp [jM]; omega
         show Row _ 1 v9 (jM (ls.take k) + (l.length + 1 + jM [])) _ B9
         rw [e4]
         simpa [KW, e3] using hR9
       exact qd
     · have hkl : k = ls.length := by omega
       subst hkl
       rw [List.take_length] at hR
       have d3 : decide ((ls.length : Int) < (ls.length : Int)) = false := by simp
       repeat (first | refine goC ?_ | (refine jK ?_; intro bLit))
       refine yK etO rfl rfl hR rfl (by unfold maxLen; omega) jp rfl ?_
       intro v8 B8 hR8
       have hR9 : Row 5 1 v8 (Nm.enc ls).length ((Nm.enc ls).map fun c => Value.int .u8 (c.toNat : Int)) B8 := by
        rw [Yo]
        simpa [Yq] using hR8
       refine jm (yp rfl unO unO unO hR9 (fun p hp => List.mem_append_left _ hp)) rfl ?_
       repeat (first | refine goC ?_ | (refine jK ?_; intro bLit))
       refine jr (fun w h => h.sub (List.sublist_append_right _ _)) ?_
       refine j7 2 3 _ _ rfl rfl rfl ?_
       exact ⟨by rw [z2, if_pos hE, hE], rfl⟩
end Go.Proofs.YtgjlbilcnlffgaaGreatDoor
namespace Go.Proofs.YtgjlbilcnlffgaaGreatDoor
open Go.RowKit
structure Scan where
 labels : List Nm.Bytes
 label : Nm.Bytes
 esc : Nat
 val : Nat
def isDig (r : Nat) : Bool := decide (48 ≤ r) && decide (r ≤ 57)
def kR (s : Scan) (r : Nat) : Bool × Scan :=
 if isDig r then
  if s.esc < 3 then (true, { s with val := s.val * 10 + (r - 48), esc := s.esc + 1 })
  else if 255 < s.val * 10 + (r - 48) then (false, { s with val := s.val * 10 + (r - 48) })
  else (true, { s with label := s.label ++ [UInt8.ofNat (s.val * 10 + (r - 48))], val := s.val * 10 + (r - 48), esc := 0 })
 else if 1 < s.esc then (false, s)
 else (true, { s with label := s.label ++ [UInt8.ofNat r], esc := 0 })
def ka (s : Scan) (r : Nat) : Bool × Scan :=
 if r < 33 ∨ 126 < r then (false, s)
 else if 0 < s.esc then kR s r
 else if r = 92 then (true, { s with esc := 1, val := 0 })
 else if r = 46 then (if s.label = [] then (false, s) else (true, { s with labels := s.labels ++ [s.label], label := [] }))
 else (true, { s with label := s.label ++ [UInt8.ofNat r] })
def yC (s : Scan) : Bool × Scan :=
 if 0 < s.esc then (false, s)
 else if s.label = [] then (!s.labels.isEmpty, s)
 else (true, { s with labels := s.labels ++ [s.label], label := [] })
def aaC (c : UInt8) : Value := .int .u8 (c.toNat : Int)
def jZ (l : Nm.Bytes) : Value := .string (bs l)
structure ScanRep (b : Nat) (s : Scan) (B : ja) : Prop where
 is : ∃ v1 v2 B1 B2, Row 9 1 v1 s.labels.length (s.labels.map jZ) B1 ∧ Row 5 1 v2 s.label.length (s.label.map aaC) B2 ∧
  B = (b, .cells #[v1, v2, .int .i64 (s.esc : Nat), .int .i64 (s.val : Nat)] 190 (0, 0)) :: (B1 ++ B2)
theorem z3 (p : Nat × Obj) (B1 B2 L : ja) : (p :: ((B1 ++ B2) ++ L)).Perm (B2 ++ (p :: (B1 ++ L))) := by
 have h1 : ((B1 ++ B2) ++ L).Perm (B2 ++ (B1 ++ L)) := by
  rw [← List.append_assoc]
  exact List.perm_append_comm.append_right L
 exact (h1.cons p).trans List.perm_middle.symm
theorem Yr (p : Nat × Obj) (B1 B2 L : ja) : (p :: ((B1 ++ B2) ++ L)).Perm (B1 ++ (p :: (B2 ++ L))) := by
 rw [List.append_assoc]
 exact List.perm_middle.symm
theorem ZF (p : Nat × Obj) (B1 B2 L : ja) : (p :: (B1 ++ (B2 ++ L))).Perm ((p :: (B1 ++ B2)) ++ L) := by
 rw [List.cons_append, List.append_assoc]
theorem yd (p : Nat × Obj) (B1 B2 L : ja) : (p :: (B2 ++ (B1 ++ L))).Perm ((p :: (B1 ++ B2)) ++ L) := by
 have h1 : (B2 ++ (B1 ++ L)).Perm ((B1 ++ B2) ++ L) := by
  rw [← List.append_assoc]
  exact List.perm_append_comm.append_right L
 exact h1.cons p
theorem Row.snoc1 {v : Value} {l : Nm.Bytes} {c : UInt8} {n : Int} {B : ja} (hn : (c.toNat : Int) = n) (h : Row 5 1 v (l.length + 1) (l.map aaC ++ [.int .u8 n]) B) : Row 5 1 v (l ++ [c]).length ((l ++ [c]).map aaC) B := by
 subst hn
 simpa [aaC] using h
theorem Row.snocS {v : Value} {ls : List Nm.Bytes} {l : Nm.Bytes} {B : ja} (h : Row 9 1 v (ls.length + 1) (ls.map jZ ++ [.string (bs l)]) B) : Row 9 1 v (ls ++ [l]).length ((ls ++ [l]).map jZ) B := by
 simpa [jZ] using h
theorem ads {G : World} {L : ja} (b : Nat) (s : Scan) (B : ja) (r : Nat) (hs : ScanRep b s B) (h1 : 33 ≤ r) (h2 : r ≤ 126) (hv : s.val ≤ 1000) (he : s.esc ≤ 3) (hl : s.label.length ≤ 1000000) :
 Spec Tryz.prog G 157 #[.pointer (some ⟨b, 0, none⟩), .int .i32 (r : Nat)] (B ++ L) fun u M => u = .bool (kR s r).1 ∧ ∃ B', ScanRep b (kR s r).2 B' ∧ M = B' ++ L := by
 obtain ⟨v1, v2, B1, B2, hR1, hR2, rfl⟩ := hs.is
 obtain ⟨a2, c2, rfl⟩ := hR2.slice
 by_cases hd : 48 ≤ r ∧ r ≤ 57
 · have hdig : isDig r = true := by simp [isDig]; omega
   have e1 : decide ((48 : Int) ≤ ((r : Nat) : Int)) = true := decide_eq_true jp
   have e3 : (!(decide (((r : Nat) : Int) ≤ 57))) = false := by rw [decide_eq_true jp]; rfl
   by_cases h3 : s.esc < 3
   · have e4 : decide (((s.esc : Nat) : Int) < 3) = true := decide_eq_true jp
     refine jw (n := 79) Tryz.func157 rfl rfl rfl ?_
     repeat (first | refine goC ?_ | (refine jK ?_; intro bLit))
     refine jq 4 _ rfl rfl ?_
     refine ⟨by simp [kR, hdig, h3], _, ⟨_, _, B1, B2, by simpa [kR, hdig, h3] using hR1, by simpa [kR, hdig, h3] using hR2, rfl⟩, ?_⟩
     rw [kR, if_pos hdig, if_pos h3]
     have e5 : ((s.val : Nat) : Int) * 10 + (((r : Nat) : Int) - 48) = ((s.val * 10 + (r - 48) : Nat) : Int) := by omega
     show (b, Obj.cells #[v1, _, _, Value.int .i64 (((s.val : Nat) : Int) * 10 + (((r : Nat) : Int) - 48))] _ _) :: _ = _
     rw [e5]
     rfl
   · have e4 : decide (((s.esc : Nat) : Int) < 3) = false := decide_eq_false jp
     have e5 : ((s.val : Nat) : Int) * 10 + (((r : Nat) : Int) - 48) = ((s.val * 10 + (r - 48) : Nat) : Int) := by omega
     by_cases h4 : 255 < s.val * 10 + (r - 48)
     · have e6 : decide ((255 : Int) < ((s.val : Nat) : Int) * 10 + (((r : Nat) : Int) - 48)) = true := decide_eq_true jp
       refine jw (n := 79) Tryz.func157 rfl rfl rfl ?_
       repeat (first | refine goC ?_ | (refine jK ?_; intro bLit))
       refine jq 4 _ rfl rfl ?_
       refine ⟨by simp [kR, hdig, h3, h4], _, ⟨_, _, B1, B2, by simpa [kR, hdig, h3, h4] using hR1, by simpa [kR, hdig, h3, h4] using hR2, rfl⟩, ?_⟩
       rw [kR, if_pos hdig, if_neg h3, if_pos h4]
       show (b, Obj.cells #[v1, _, _, Value.int .i64 (((s.val : Nat) : Int) * 10 + (((r : Nat) : Int) - 48))] _ _) :: _ = _
       rw [e5]
       rfl
     · have e6 : decide ((255 : Int) < ((s.val : Nat) : Int) * 10 + (((r : Nat) : Int) - 48)) = false := decide_eq_false jp
       refine jw (n := 79) Tryz.func157 rfl rfl rfl ?_
       repeat (first | refine goC ?_ | (refine jK ?_; intro bLit))
       refine kQ jx ([(b, .cells #[v1, .slice a2 s.label.length c2, .int .i64 (s.esc : Nat), .int .i64 (((s.val : Nat) : Int) * 10 + (((r : Nat) : Int) - 48))] 190 (0, 0))]) [14] ?_
       refine tkQ 0 ?_
       refine tkQ 1 ?_
       refine tkQ 2 ?_
       refine tkQ 3 ?_
       refine tkQ 4 ?_
       refine tkQ 5 ?_
       refine tkQ 6 ?_
       refine tkQ 7 ?_
       refine tkQ 8 ?_
       refine tkQ 9 ?_
       refine uc 10 jf rfl rfl rfl rfl (K5 etO rfl rfl) ?_; rintro _ _ ⟨bLit, rfl, rfl⟩; refine ⟨Or.inr (by first | assumption | (intro p hp; grind)), qM ((z3 _ B1 B2 L).cons _) ?_⟩
       refine uc 11 jf rfl rfl rfl rfl (Vp etO rfl rfl hR2 rfl (by unfold maxLen; omega) jp) ?_; rintro v8 _ ⟨B8, hR8, rfl⟩; obtain ⟨a8, c8, rfl⟩ := hR8.slice; refine ⟨Or.inr (by first | assumption | (intro p hp; grind)), ?_⟩
       refine tkQ 12 ?_
       refine tkQ 13 ?_
       refine qM List.perm_middle (uA 14 jf rfl rfl rfl (Uu rfl rfl onO rfl rfl rfl) ?_); rintro _ _ ⟨rfl, rfl⟩; refine ⟨Or.inl (by simp), ?_⟩
       refine tdQ ?_
       repeat (first | refine goC ?_ | (refine jK ?_; intro bLit))
       refine jr (fun w h => h.perm (yd _ B1 B8 L)) ?_
       refine jq 4 _ rfl rfl ?_
       have hR9 := Row.snoc1 (c := UInt8.ofNat (s.val * 10 + (r - 48))) (by simp; omega) hR8
       refine ⟨by simp [kR, hdig, h3, h4], _, ⟨_, _, B1, B8, by simpa [kR, hdig, h3, h4] using hR1, by simpa [kR, hdig, h3, h4] using hR9, rfl⟩, ?_⟩
       rw [kR, if_pos hdig, if_neg h3, if_neg h4]
       show ((b, Obj.cells #[v1, _, _, Value.int .i64 (((s.val : Nat) : Int) * 10 + (((r : Nat) : Int) - 48))] _ _) :: _) ++ L = _
       rw [e5]
       rfl
 · have hdig : isDig r = false := by simp [isDig]; omega
   have hcase : (r < 48) ∨ (57 < r) := by omega
   by_cases h3 : 1 < s.esc
   · have e4 : decide ((1 : Int) < ((s.esc : Nat) : Int)) = true := decide_eq_true jp
     rcases hcase with hc | hc
     · have e1 : decide ((48 : Int) ≤ ((r : Nat) : Int)) = false := decide_eq_false jp
       refine jw (n := 79) Tryz.func157 rfl rfl rfl ?_
       repeat (first | refine goC ?_ | (refine jK ?_; intro bLit))
       refine jq 4 _ rfl rfl ?_
       exact ⟨by simp [kR, hdig, h3], _, by rw [kR, hdig]; simp only [h3, if_true]; exact hs, rfl⟩
     · have e1 : decide ((48 : Int) ≤ ((r : Nat) : Int)) = true := decide_eq_true jp
       have e2 : (!(decide (((r : Nat) : Int) ≤ 57))) = true := by rw [decide_eq_false jp]; rfl
       refine jw (n := 79) Tryz.func157 rfl rfl rfl ?_
       repeat (first | refine goC ?_ | (refine jK ?_; intro bLit))
       refine jq 4 _ rfl rfl ?_
       exact ⟨by simp [kR, hdig, h3], _, by rw [kR, hdig]; simp only [h3, if_true]; exact hs, rfl⟩
   · have e4 : decide ((1 : Int) < ((s.esc : Nat) : Int)) = false := decide_eq_false jp
     rcases hcase with hc | hc
     · have e1 : decide ((48 : Int) ≤ ((r : Nat) : Int)) = false := decide_eq_false jp
       refine jw (n := 79) Tryz.func157 rfl rfl rfl ?_
       repeat (first | refine goC ?_ | (refine jK ?_; intro bLit))
       refine ko ((z3 _ B1 B2 L).cons _) ?_
       refine yK etO rfl rfl hR2 rfl (by unfold maxLen; omega) jp rfl ?_
       intro v8 B8 hR8
       obtain ⟨a8, c8, rfl⟩ := hR8.slice
       refine ko List.perm_middle ?_
       repeat (first | refine goC ?_ | (refine jK ?_; intro bLit))
       refine jr (fun w h => h.perm (yd _ B1 B8 L)) ?_
       refine jq 4 _ rfl rfl ?_
       have hR9 := Row.snoc1 (c := UInt8.ofNat r) (by simp; omega) hR8
       exact ⟨by simp [kR, hdig, h3], _, ⟨_, _, B1, B8, by simpa [kR, hdig, h3] using hR1, by simpa [kR, hdig, h3] using hR9, rfl⟩, by rw [kR, hdig]; simp only [h3, if_false]; rfl⟩
     · have e1 : decide ((48 : Int) ≤ ((r : Nat) : Int)) = true := decide_eq_true jp
       have e2 : (!(decide (((r : Nat) : Int) ≤ 57))) = true := by rw [decide_eq_false jp]; rfl
       refine jw (n := 79) Tryz.func157 rfl rfl rfl ?_
       repeat (first | refine goC ?_ | (refine jK ?_; intro bLit))
       refine ko ((z3 _ B1 B2 L).cons _) ?_
       refine yK etO rfl rfl hR2 rfl (by unfold maxLen; omega) jp rfl ?_
       intro v8 B8 hR8
       obtain ⟨a8, c8, rfl⟩ := hR8.slice
       refine ko List.perm_middle ?_
       repeat (first | refine goC ?_ | (refine jK ?_; intro bLit))
       refine jr (fun w h => h.perm (yd _ B1 B8 L)) ?_
       refine jq 4 _ rfl rfl ?_
       have hR9 := Row.snoc1 (c := UInt8.ofNat r) (by simp; omega) hR8
       exact ⟨by simp [kR, hdig, h3], _, ⟨_, _, B1, B8, by simpa [kR, hdig, h3] using hR1, by simpa [kR, hdig, h3] using hR9, rfl⟩, by rw [kR, hdig]; simp only [h3, if_false]; rfl⟩
theorem US {G : World} {L : ja} (b : Nat) (s : Scan) (B : ja) (r : Nat) (hs : ScanRep b s B) (hr : r ≤ 2147483647) (hv : s.val ≤ 1000) (he : s.esc ≤ 3) (hl : s.label.length ≤ 1000000) (hls : s.labels.length ≤ 1000000) :
 Spec Tryz.prog G 114 #[.pointer (some ⟨b, 0, none⟩), .int .i32 (r : Nat)] (B ++ L) fun u M => u = .bool (ka s r).1 ∧ ∃ B', ScanRep b (ka s r).2 B' ∧ M = B' ++ L := by
 obtain ⟨v1, v2, B1, B2, hR1, hR2, rfl⟩ := hs.is
 obtain ⟨a1, c1, rfl⟩ := hR1.slice
 obtain ⟨a2, c2, rfl⟩ := hR2.slice
 by_cases h33 : r < 33
 · have e1 : decide (((r : Nat) : Int) < 33) = true := decide_eq_true jp
   have hT : ka s r = (false, s) := by unfold ka; rw [if_pos (Or.inl h33)]
   refine jw (n := 69) Tryz.func114 rfl rfl rfl ?_
   repeat (first | refine goC ?_ | (refine jK ?_; intro bLit))
   refine jq 4 _ rfl rfl ?_
   exact ⟨by rw [hT], _, by rw [hT]; exact hs, rfl⟩
 have e1 : decide (((r : Nat) : Int) < 33) = false := decide_eq_false jp
 by_cases h126 : 126 < r
 · have e2 : decide ((126 : Int) < ((r : Nat) : Int)) = true := decide_eq_true jp
   have hT : ka s r = (false, s) := by unfold ka; rw [if_pos (Or.inr h126)]
   refine jw (n := 69) Tryz.func114 rfl rfl rfl ?_
   repeat (first | refine goC ?_ | (refine jK ?_; intro bLit))
   refine jq 4 _ rfl rfl ?_
   exact ⟨by rw [hT], _, by rw [hT]; exact hs, rfl⟩
 have e2 : decide ((126 : Int) < ((r : Nat) : Int)) = false := decide_eq_false jp
 have hin : ¬ (r < 33 ∨ 126 < r) := by omega
 by_cases h0 : 0 < s.esc
 · have e3 : decide ((0 : Int) < ((s.esc : Nat) : Int)) = true := decide_eq_true jp
   have hT : ka s r = kR s r := by unfold ka; rw [if_neg hin, if_pos h0]
   refine jw (n := 69) Tryz.func114 rfl rfl rfl ?_
   repeat (first | refine goC ?_ | (refine jK ?_; intro bLit))
   refine jT (jc jf rfl (ads b s _ r hs jp jp hv he hl)) rfl ?_
   rintro _ _ ⟨rfl, B', hB', rfl⟩
   repeat (first | refine goC ?_ | (refine jK ?_; intro bLit))
   refine jq 4 _ rfl rfl ?_
   exact ⟨by rw [hT], _, by rw [hT]; exact hB', rfl⟩
 have e3 : decide ((0 : Int) < ((s.esc : Nat) : Int)) = false := decide_eq_false jp
 by_cases h92 : r = 92
 · have e4 : (((r : Nat) : Int) == 92) = true := by simp [h92]
   have hT : ka s r = (true, { s with esc := 1, val := 0 }) := by unfold ka; rw [if_neg hin, if_neg h0, if_pos h92]
   refine jw (n := 69) Tryz.func114 rfl rfl rfl ?_
   repeat (first | refine goC ?_ | (refine jK ?_; intro bLit))
   refine jq 4 _ rfl rfl ?_
   exact ⟨by rw [hT], _, by rw [hT]; exact ⟨_, _, B1, B2, hR1, hR2, rfl⟩, rfl⟩
 have e4 : (((r : Nat) : Int) == 92) = false := by simp; omega
 by_cases h46 : r = 46
 · have e5 : (((r : Nat) : Int) == 46) = true := by simp [h46]
   by_cases hlab : s.label = []
   · have e6 : (((s.label.length : Nat) : Int) == 0) = true := by simp [hlab]
     have hT : ka s r = (false, s) := by unfold ka; rw [if_neg hin, if_neg h0, if_neg h92, if_pos h46, if_pos hlab]
     refine jw (n := 69) Tryz.func114 rfl rfl rfl ?_
     repeat (first | refine goC ?_ | (refine jK ?_; intro bLit))
     refine jq 4 _ rfl rfl ?_
     exact ⟨by rw [hT], _, by rw [hT]; exact hs, rfl⟩
   · have e6 : (((s.label.length : Nat) : Int) == 0) = false := by simp [hlab]
     have hT : ka s r = (true, { s with labels := s.labels ++ [s.label], label := [] }) := by unfold ka; rw [if_neg hin, if_neg h0, if_neg h92, if_pos h46, if_neg hlab]
     refine jw (n := 69) Tryz.func114 rfl rfl rfl ?_
     repeat (first | refine goC ?_ | (refine jK ?_; intro bLit))
     refine kQ jx ((b, .cells #[.slice a1 s.labels.length c1, .slice a2 s.label.length c2, .int .i64 (s.esc : Nat), .int .i64 (s.val : Nat)] 190 (0, 0)) :: B2) [14] ?_
     refine tkQ 0 ?_
     refine tkQ 1 ?_
     refine tkQ 2 ?_
     refine tkQ 3 ?_
     refine tkQ 4 ?_
     refine tkQ 5 ?_
     refine tkQ 6 ?_
     refine tkQ 7 ?_
     refine tkQ 8 ?_
     first | (refine' jS 9 rfl rfl jf (qL (yp rfl unO unO unO hR2 (fun p hp => List.mem_cons_of_mem _ hp))) ?_ ?_; (· first | assumption | (intro p hp; grind)))
     refine uc 10 jf rfl rfl rfl rfl (K5 etO rfl rfl) ?_; rintro _ _ ⟨bLit, rfl, rfl⟩; refine ⟨Or.inr (by first | assumption | (intro p hp; grind)), qM ((Yr _ B1 B2 L).cons _) ?_⟩
     refine uc 11 jf rfl rfl rfl rfl (Vp etO rfl rfl hR1 rfl (by unfold maxLen; omega) jp) ?_; rintro v8 _ ⟨B8, hR8, rfl⟩; obtain ⟨a8, c8, rfl⟩ := hR8.slice; refine ⟨Or.inr (by first | assumption | (intro p hp; grind)), ?_⟩
     refine tkQ 12 ?_
     refine tkQ 13 ?_
     refine qM List.perm_middle (uA 14 jf rfl rfl rfl (Uu rfl rfl onO rfl rfl rfl) ?_); rintro _ _ ⟨rfl, rfl⟩; refine ⟨Or.inl (by simp), ?_⟩
     refine tdQ ?_
     repeat (first | refine goC ?_ | (refine jK ?_; intro bLit))
     first | refine jm (KA etO rfl rfl jp jp) rfl ?_ | skip
     repeat (first | refine goC ?_ | (refine jK ?_; intro bLit))
     refine jr (fun w h => h.perm (ZF _ B8 B2 L)) ?_
     refine jq 4 _ rfl rfl ?_
     exact ⟨by rw [hT], _, by rw [hT]; exact ⟨_, _, B8, B2, Row.snocS hR8, hR2.cut0, rfl⟩, by congr 4 <;> simp⟩
 have e5 : (((r : Nat) : Int) == 46) = false := by simp; omega
 have hT : ka s r = (true, { s with label := s.label ++ [UInt8.ofNat r] }) := by unfold ka; rw [if_neg hin, if_neg h0, if_neg h92, if_neg h46]
 refine jw (n := 69) Tryz.func114 rfl rfl rfl ?_
 repeat (first | refine goC ?_ | (refine jK ?_; intro bLit))
 refine ko ((z3 _ B1 B2 L).cons _) ?_
 refine yK etO rfl rfl hR2 rfl (by unfold maxLen; omega) jp rfl ?_
 intro v8 B8 hR8
 obtain ⟨a8, c8, rfl⟩ := hR8.slice
 refine ko List.perm_middle ?_
 repeat (first | refine goC ?_ | (refine jK ?_; intro bLit))
 refine jr (fun w h => h.perm (yd _ B1 B8 L)) ?_
 refine jq 4 _ rfl rfl ?_
 exact ⟨by rw [hT], _, by rw [hT]; exact ⟨_, _, B1, B8, hR1, Row.snoc1 (by simp; omega) hR8, rfl⟩, rfl⟩
theorem adt {G : World} {L : ja} (b : Nat) (s : Scan) (B : ja) (hs : ScanRep b s B) (he : s.esc ≤ 3) (hl : s.label.length ≤ 1000000) (hls : s.labels.length ≤ 1000000) :
 Spec Tryz.prog G 115 #[.pointer (some ⟨b, 0, none⟩)] (B ++ L) fun u M => u = .bool (yC s).1 ∧ ∃ B', ScanRep b (yC s).2 B' ∧ M = B' ++ L := by
 obtain ⟨v1, v2, B1, B2, hR1, hR2, rfl⟩ := hs.is
 obtain ⟨a1, c1, rfl⟩ := hR1.slice
 obtain ⟨a2, c2, rfl⟩ := hR2.slice
 by_cases h0 : 0 < s.esc
 · have e3 : decide ((0 : Int) < ((s.esc : Nat) : Int)) = true := decide_eq_true jp
   have hT : yC s = (false, s) := by unfold yC; rw [if_pos h0]
   refine jw (n := 37) Tryz.func115 rfl rfl rfl ?_
   repeat (first | refine goC ?_ | (refine jK ?_; intro bLit))
   refine jq 2 _ rfl rfl ?_
   exact ⟨by rw [hT], _, by rw [hT]; exact hs, rfl⟩
 have e3 : decide ((0 : Int) < ((s.esc : Nat) : Int)) = false := decide_eq_false jp
 by_cases hlab : s.label = []
 · have e6 : decide ((0 : Int) < ((s.label.length : Nat) : Int)) = false := by simp [hlab]
   have hT : yC s = (!s.labels.isEmpty, s) := by unfold yC; rw [if_neg h0, if_pos hlab]
   refine jw (n := 37) Tryz.func115 rfl rfl rfl ?_
   repeat (first | refine goC ?_ | (refine jK ?_; intro bLit))
   refine jq 2 _ rfl rfl ?_
   refine ⟨?_, _, by rw [hT]; exact hs, rfl⟩
   rw [hT]
   cases s.labels <;> simp <;> omega
 · have e6 : decide ((0 : Int) < ((s.label.length : Nat) : Int)) = true := by simp; exact List.length_pos_iff.2 hlab
   have hT : yC s = (true, { s with labels := s.labels ++ [s.label], label := [] }) := by unfold yC; rw [if_neg h0, if_neg hlab]
   refine jw (n := 37) Tryz.func115 rfl rfl rfl ?_
   repeat (first | refine goC ?_ | (refine jK ?_; intro bLit))
   refine kQ jx ((b, .cells #[.slice a1 s.labels.length c1, .slice a2 s.label.length c2, .int .i64 (s.esc : Nat), .int .i64 (s.val : Nat)] 190 (0, 0)) :: B2) [14] ?_
   refine tkQ 0 ?_
   refine tkQ 1 ?_
   refine tkQ 2 ?_
   refine tkQ 3 ?_
   refine tkQ 4 ?_
   refine tkQ 5 ?_
   refine tkQ 6 ?_
   refine tkQ 7 ?_
   refine tkQ 8 ?_
   first | (refine' jS 9 rfl rfl jf (qL (yp rfl unO unO unO hR2 (fun p hp => List.mem_cons_of_mem _ hp))) ?_ ?_; (· first | assumption | (intro p hp; grind)))
   refine uc 10 jf rfl rfl rfl rfl (K5 etO rfl rfl) ?_; rintro _ _ ⟨bLit, rfl, rfl⟩; refine ⟨Or.inr (by first | assumption | (intro p hp; grind)), qM ((Yr _ B1 B2 L).cons _) ?_⟩
   refine uc 11 jf rfl rfl rfl rfl (Vp etO rfl rfl hR1 rfl (by unfold maxLen; omega) jp) ?_; rintro v8 _ ⟨B8, hR8, rfl⟩; obtain ⟨a8, c8, rfl⟩ := hR8.slice; refine ⟨Or.inr (by first | assumption | (intro p hp; grind)), ?_⟩
   refine tkQ 12 ?_
   refine tkQ 13 ?_
   refine qM List.perm_middle (uA 14 jf rfl rfl rfl (Uu rfl rfl onO rfl rfl rfl) ?_); rintro _ _ ⟨rfl, rfl⟩; refine ⟨Or.inl (by simp), ?_⟩
   refine tdQ ?_
   repeat (first | refine goC ?_ | (refine jK ?_; intro bLit))
   refine jr (L' := ((b, .cells #[.slice a8 (s.labels.length + 1) c8, .slice none 0 0, .int .i64 (s.esc : Nat), .int .i64 (s.val : Nat)] 190 (0, 0)) :: (B8 ++ [])) ++ L) (fun w h => h.sub ?_) ?_
   · rw [List.append_nil]
     exact ((List.Sublist.refl B8).append (List.sublist_append_right B2 L)).cons_cons _
   refine jq 2 _ rfl rfl ?_
   exact ⟨by rw [hT]; simp, _, by rw [hT]; exact ⟨_, _, B8, [], Row.snocS hR8, Row.nil _ _, rfl⟩, by simp⟩
end Go.Proofs.YtgjlbilcnlffgaaGreatDoor
namespace Go.Proofs.YtgjlbilcnlffgaaGreatDoor
open Go.RowKit
variable {G : World} {P : Program} {n : Nat} {ρ : jh} {L : ja} {ty : TypeId} {Q : Exit → Act → World → Prop}
theorem VO {x : Operand} {t : TypeId} {s : List UInt8} (hx : ev ρ x = some (.string (bs s))) (ht : P.underlying t = some .string) : OpNew P G ρ L (.range t x) ty (fun b => .pointer (some ⟨b, 0, none⟩)) (.stringIter (bs s) 0) :=
 .run fun r hr w o ho _ => by
  simp [execOp, ho, hr _ _ hx, Instr.range, run_underlying ht]
theorem Heap.setObj {w : World} {b : Nat} {o o' : Obj} (h : Heap G w ((b, o) :: L)) : Heap G { w with heap := w.heap.setIfInBounds b o' } ((b, o') :: L) := by
 have hlt := h.lt (List.mem_cons_self (a := (b, o)))
 refine h.update ⟨rfl, rfl, rfl, by simp⟩ ?_ (fun j hj hne => ?_)
 · show (w.heap.setIfInBounds b o')[b]? = _
   rw [Array.getElem?_setIfInBounds_self_of_lt hlt]
 · show (w.heap.setIfInBounds b o')[j]? = _
   rw [Array.getElem?_setIfInBounds_ne (Ne.symm hne)]
theorem KM {x : Operand} {b k : Nat} {s : List UInt8} (hx : ev ρ x = some (.pointer (some ⟨b, 0, none⟩))) (hk : k < s.length) :
 OpV P G ρ ((b, .stringIter (bs s) k) :: L) (.next x true) ty (.tuple #[.bool true, .int .i64 (k : Nat), .int .i32 ((Utf8.decode (bs s) k).1 : Nat)]) ((b, .stringIter (bs s) (k + (Utf8.decode (bs s) k).2)) :: L) :=
 .run fun r hr w hw o ho _ => by
  have h0 := hw.get _ (List.mem_cons_self ..)
  refine ⟨{ w with heap := w.heap.setIfInBounds b (.stringIter (bs s) (k + (Utf8.decode (bs s) k).2)) }, ?_, hw.setObj⟩
  have hs : k < (bs s).size := by rw [kh]; exact hk
  simp only [execOp, ho, hr _ _ hx, Instr.next, getObj, setObj, Sem.run_bind, Sem.run, h0, Result.andThen, hs, if_true]
  simp [goInt]
theorem Ys {x : Operand} {b k : Nat} {s : List UInt8} (hx : ev ρ x = some (.pointer (some ⟨b, 0, none⟩))) (hk : s.length ≤ k) (hm : (b, Obj.stringIter (bs s) k) ∈ L) :
 OpQ P ρ L (.next x true) ty (.tuple #[.bool false]) :=
 ⟨fun r hr w hw o ho _ => by
   have h0 := hw.get _ hm
   have hs : ¬ k < (bs s).size := by rw [kh]; omega
   simp only [execOp, ho, hr _ _ hx, Instr.next, getObj, Sem.run_bind, Sem.run, h0, Result.andThen, hs, if_false]
   simp⟩
theorem adu {s : List UInt8} {k : Nat} (h : k < (bs s).size) {c : UInt8} (hc : s[k]? = some c) : (bs s)[k]'h = c := by
 obtain ⟨h1, h2⟩ := List.getElem?_eq_some_iff.1 hc
 rw [← h2]
 rfl
theorem ZG {s : List UInt8} {k : Nat} {c : UInt8} (hc : s[k]? = some c) (h : c.toNat < 128) : Utf8.decode (bs s) k = (c.toNat, 1) := by
 have hk : k < (bs s).size := by rw [kh]; exact (List.getElem?_eq_some_iff.1 hc).1
 rw [decode_ascii (bs s) k hk (by rw [adu hk hc]; exact h), adu hk hc]
theorem abM {s : List UInt8} {k : Nat} {c : UInt8} (hc : s[k]? = some c) (h : 128 ≤ c.toNat) : 128 ≤ (Utf8.decode (bs s) k).1 ∧ (Utf8.decode (bs s) k).1 ≤ 2147483647 := by
 have hk : k < (bs s).size := by rw [kh]; exact (List.getElem?_eq_some_iff.1 hc).1
 exact ⟨(decode_high (bs s) k hk (by rw [adu hk hc]; exact h)).1, decode_le _ _⟩
end Go.Proofs.YtgjlbilcnlffgaaGreatDoor
namespace Go.Proofs.YtgjlbilcnlffgaaGreatDoor
open Go.RowKit
def UT : Scan := ⟨[], [], 0, 0⟩
def qZ : Scan → Nm.Bytes → Option Scan
 | s, [] => some s
 | s, c :: t => if (ka s c.toNat).1 then qZ (ka s c.toNat).2 t else none
def q9 (t : Nm.Bytes) : Option (List Nm.Bytes) := match qZ UT t with
 | some s => if (yC s).1 then some (yC s).2.labels else none
 | none => none
def q8 (t : Nm.Bytes) : Int := if t = [46] then 0 else match q9 t with
 | none => 3
 | some ls => if ls.any (fun l => decide (63 < l.length)) then 5 else qD ls
def jY (t : Nm.Bytes) : Nm.Bytes := if t = [46] then [0] else match q9 t with
 | none => []
 | some ls => if ls.any (fun l => decide (63 < l.length)) then [] else z2 ls
theorem qV (a b : Nm.Bytes) : ∀ s, qZ s (a ++ b) = (qZ s a).bind fun s' => qZ s' b := by
 induction a with
 | nil => intro s; rfl
 | cons c t ih =>
   intro s
   simp only [List.cons_append, qZ]
   split
   · exact ih _
   · rfl
theorem QU (s : Scan) (r : Nat) (h : 126 < r) : ka s r = (false, s) := by unfold ka; rw [if_pos (Or.inr h)]
def QV (s : Scan) (k : Nat) : Prop := ((s.esc = 0 ∧ s.val ≤ 999) ∨ (s.esc = 1 ∧ s.val = 0) ∨ (s.esc = 2 ∧ s.val ≤ 9) ∨ (s.esc = 3 ∧ s.val ≤ 99)) ∧ s.label.length ≤ k ∧ s.labels.length ≤ k
theorem adw {s : Scan} {k r : Nat} (h : QV s k) (ht : (ka s r).1 = true) : QV (ka s r).2 (k + 1) := by
 obtain ⟨h1, h2, h3⟩ := h
 unfold ka at ht ⊢
 split
 · rename_i hh; rw [if_pos hh] at ht; simp at ht
 · rename_i hh
   rw [if_neg hh] at ht
   split
   · rename_i h4
     rw [if_pos h4] at ht
     unfold kR at ht ⊢
     split
     · rename_i h5
       simp only [isDig, Bool.and_eq_true, decide_eq_true_eq] at h5
       split
       · refine ⟨?_, by simp; omega, by simp; omega⟩
         simp only
         omega
       · rename_i h6
         split
         · rename_i h7
           rw [if_pos (by simp [isDig, h5]), if_neg h6, if_pos h7] at ht
           simp at ht
         · exact ⟨Or.inl ⟨rfl, by show s.val * 10 + (r - 48) ≤ 999; omega⟩, by simp; omega, by simp; omega⟩
     · split
       · rename_i h5 h6; rw [if_neg h5, if_pos h6] at ht; simp at ht
       · exact ⟨Or.inl ⟨rfl, by show s.val ≤ 999; omega⟩, by simp; omega, by simp; omega⟩
   · split
     · exact ⟨by simp, by simp; omega, by simp; omega⟩
     · split
       · split
         · exact ⟨h1, by show s.label.length ≤ k + 1; omega, by show s.labels.length ≤ k + 1; omega⟩
         · exact ⟨h1, by simp, by simp; omega⟩
       · exact ⟨h1, by simp; omega, by simp; omega⟩
theorem aaD : ∀ (t : Nm.Bytes) (s s' : Scan) (k : Nat), QV s k → qZ s t = some s' → QV s' (k + t.length)
 | [], s, s', k, h, hr => by simp [qZ] at hr; subst hr; exact h
 | c :: t, s, s', k, h, hr => by
   simp only [qZ] at hr
   split at hr
   · rename_i ht
     have := aaD t _ s' (k + 1) (adw h ht) hr
     rw [show k + (c :: t).length = k + 1 + t.length by simp; omega]
     exact this
   · cases hr
theorem adx : QV UT 0 := ⟨Or.inl ⟨rfl, by decide⟩, by decide, by decide⟩
theorem Row.strRow {L B : ja} {v : Value} {ls : List Nm.Bytes} (h : Row 9 1 v ls.length (ls.map jZ) B) (hB : ∀ p ∈ B, p ∈ L) : StrRow L v ls := by
 rcases h.is with ⟨h1, h2, _⟩ | ⟨b, cap, cur, h1, h2, h3, h4, h5, h6⟩
 · exact ⟨none, 0, by rw [h1, h2], Or.inl (List.eq_nil_of_length_eq_zero h2)⟩
 · refine ⟨_, cap, h1, Or.inr ⟨b, 0, cur, 9, (0, 0), rfl, hB _ (by rw [h2]; exact List.mem_cons_self ..), fun i l hi => ?_⟩⟩
   have hil := (List.getElem?_eq_some_iff.1 hi).1
   have : (cur.toList.take (ls.length * 1))[i]? = some (jZ l) := by rw [h6, List.getElem?_map, hi]; rfl
   rw [List.getElem?_take_of_lt jp] at this
   simpa [jZ] using this
theorem QW {t : Nm.Bytes} (h : qZ UT t = none) : q9 t = none := by unfold q9; rw [h]
def uy (t : Nm.Bytes) : Value := .tuple #[.string (bs (jY t)), .int .i64 (q8 t)]
theorem ZH {G : World} {L : ja} (t : Nm.Bytes) (ht : t.length ≤ 100000) :
 Spec Tryz.prog G 76 #[.string (bs t)] L fun u M => u = uy t ∧ M = L := by
 by_cases hdot : t = [46]
 · subst hdot
   have e1 : (([46] : List UInt8) == [46]) = true := by decide
   refine jw (n := 37) Tryz.func76 rfl rfl rfl ?_
   repeat (first | refine goC ?_ | (refine jz ?_; intro bNew))
   refine j7 2 3 _ _ rfl rfl rfl ?_
   exact ⟨rfl, rfl⟩
 have hP : q8 t = (match q9 t with | none => 3 | some ls => if ls.any (fun l => decide (63 < l.length)) then 5 else qD ls) ∧ jY t = (match q9 t with | none => [] | some ls => if ls.any (fun l => decide (63 < l.length)) then [] else z2 ls) := by
  unfold q8 jY; rw [if_neg hdot, if_neg hdot]; exact ⟨rfl, rfl⟩
 have e1 : (t == [46]) = false := by simpa using hdot
 refine jw (n := 37) Tryz.func76 rfl rfl rfl ?_
 repeat (first | refine goC ?_ | (refine jz ?_; intro bNew))
 refine qX (VO rfl unO) rfl ?_
 intro bi
 repeat (first | refine goC ?_ | (refine jz ?_; intro bNew))
 refine kv (σ := Nat × Scan × ja) (fun x => x.1 ≤ t.length ∧ qZ UT (t.take x.1) = some x.2.1 ∧ ScanRep bNew x.2.1 x.2.2)
  (fun x => [(4, .pointer (some ⟨bNew, 0, none⟩)), (12, .pointer (some ⟨bi, 0, none⟩))]) (fun x => (bi, .stringIter (bs t) x.1) :: (x.2.2 ++ L)) (fun x => t.length - x.1) (0, UT, [(bNew, .cells #[.slice none 0 0, .slice none 0 0, .int .i64 0, .int .i64 0] 190 (0, 0))]) ⟨by omega, rfl, ⟨_, _, [], [], Row.nil _ _, Row.nil _ _, rfl⟩⟩ ?_ (fun _ h => h) ?_
 exact qd
 rintro ⟨k, st, B⟩ ⟨hk, hrun, hrep⟩
 dsimp only at hk hrun hrep
 have hok := aaD _ _ _ 0 adx hrun
 have hlk : (t.take k).length ≤ k := List.length_take_le _ _
 obtain ⟨ho1, ho2, ho3⟩ := hok
 by_cases hlt : k < t.length
 · obtain ⟨c, hc⟩ : ∃ c, t[k]? = some c := ⟨_, List.getElem?_eq_getElem hlt⟩
   have htk : t.take (k + 1) = t.take k ++ [c] := by rw [List.take_add_one, hc]; rfl
   have hsplit : t = t.take k ++ c :: t.drop (k + 1) := by
    conv => lhs; rw [← List.take_append_drop k t]
    rw [List.drop_eq_getElem_cons hlt]
    congr 2
    rw [List.getElem?_eq_getElem hlt] at hc
    exact Option.some.inj hc
   by_cases hc128 : c.toNat < 128
   · have hdec := ZG hc hc128
     repeat (first | refine goC ?_ | (refine jz ?_; intro bNew))
     refine jl (KM rfl hlt) rfl ?_
     rw [hdec]
     repeat (first | refine goC ?_ | (refine jz ?_; intro bNew))
     refine ko List.perm_middle.symm ?_
     refine jT (jc jf rfl (US bNew st B c.toNat hrep jp jp jp jp jp)) rfl ?_
     rintro _ _ ⟨rfl, B', hB', rfl⟩
     cases htake : (ka st c.toNat).1 with
     | true =>
       repeat (first | refine goC ?_ | (refine jz ?_; intro bNew))
       refine jG (k + 1, (ka st c.toNat).2, B') ⟨by omega, ?_, hB'⟩ ?_ (fun _ h => h.perm List.perm_middle) jp
       · rw [htk, qV, hrun]
         simp [qZ, htake]
       exact qd
     | false =>
       have hT : q9 t = none := QW (by rw [hsplit, qV, hrun]; simp [qZ, htake])
       repeat (first | refine goC ?_ | (refine jz ?_; intro bNew))
       refine jr (fun w h => h.sub ((List.sublist_cons_self _ _).trans (List.sublist_append_right _ _))) ?_
       refine j7 2 3 _ _ rfl rfl rfl ?_
       exact ⟨by unfold uy; rw [hP.1, hP.2, hT]; rfl, rfl⟩
   · have hdec := abM hc jp
     have hT : q9 t = none := QW (by rw [hsplit, qV, hrun]; simp [qZ, QU st c.toNat jp])
     repeat (first | refine goC ?_ | (refine jz ?_; intro bNew))
     refine jl (KM rfl hlt) rfl ?_
     repeat (first | refine goC ?_ | (refine jz ?_; intro bNew))
     refine ko List.perm_middle.symm ?_
     refine jT (jc jf rfl (US bNew st B (Utf8.decode (bs t) k).1 hrep jp jp jp jp jp)) rfl ?_
     rintro _ _ ⟨rfl, B', hB', rfl⟩
     rw [QU st _ jp]
     repeat (first | refine goC ?_ | (refine jz ?_; intro bNew))
     refine jr (fun w h => h.sub ((List.sublist_cons_self _ _).trans (List.sublist_append_right _ _))) ?_
     refine j7 2 3 _ _ rfl rfl rfl ?_
     exact ⟨by unfold uy; rw [hP.1, hP.2, hT]; rfl, rfl⟩
 · have hkl : k = t.length := by omega
   subst hkl
   rw [List.take_length] at hrun
   repeat (first | refine goC ?_ | (refine jz ?_; intro bNew))
   refine jm (Ys rfl (Nat.le_refl _) (List.mem_cons_self ..)) rfl ?_
   repeat (first | refine goC ?_ | (refine jz ?_; intro bNew))
   refine ko List.perm_middle.symm ?_
   refine jT (jc jf rfl (adt bNew st B hrep jp jp jp)) rfl ?_
   rintro _ _ ⟨rfl, B', hB', rfl⟩
   cases hend : (yC st).1 with
   | false =>
     have hT : q9 t = none := by unfold q9; rw [hrun]; simp [hend]
     repeat (first | refine goC ?_ | (refine jz ?_; intro bNew))
     refine jr (fun w h => h.sub ((List.sublist_cons_self _ _).trans (List.sublist_append_right _ _))) ?_
     refine j7 2 3 _ _ rfl rfl rfl ?_
     exact ⟨by unfold uy; rw [hP.1, hP.2, hT]; rfl, rfl⟩
   | true =>
     have hT : q9 t = some (yC st).2.labels := by unfold q9; rw [hrun]; simp [hend]
     obtain ⟨ls, hls⟩ : ∃ ls, ls = (yC st).2.labels := ⟨_, rfl⟩
     have hll : ls.length ≤ 100001 := by
      rw [hls]; unfold yC
      split
      · show st.labels.length ≤ _; omega
      · split
        · show st.labels.length ≤ _; omega
        · simp; omega
     obtain ⟨v1, v2, B1, B2, hR1, hR2, rfl⟩ := hB'.is
     rw [← hls] at hT hR1
     obtain ⟨a1, c1, rfl⟩ := hR1.slice
     repeat (first | refine goC ?_ | (refine jz ?_; intro bNew))
     have hrow := hR1.strRow (L := ((bNew, .cells #[.slice a1 ls.length c1, v2, .int .i64 ((yC st).2.esc : Nat), .int .i64 ((yC st).2.val : Nat)] 190 (0, 0)) :: (B1 ++ B2)) ++ ((bi, .stringIter (bs t) t.length) :: L)) (fun p hp => by grind)
     obtain ⟨a, cap, hveq, hcells⟩ := id hrow
     cases hveq
     refine kv (σ := Nat) (fun k => k ≤ ls.length ∧ (ls.take k).any (fun l => decide (63 < l.length)) = false) (fun k => [(4, .pointer (some ⟨bNew, 0, none⟩)), (22, .slice a1 ls.length c1), (23, .int .i64 (ls.length : Nat)), (24, .int .i64 (k : Nat))]) (fun _ => _) (fun k => ls.length - k) 0 ⟨by omega, rfl⟩ ?_ (fun _ h => h) ?_
     exact qd
     rintro k ⟨hk, hany⟩
     by_cases hlt : k < ls.length
     · obtain rfl | ⟨b, off, C, te, fr, rfl, hm, hc⟩ := hcells
       · simp at hlt
       obtain ⟨l, hlk⟩ : ∃ l, ls[k]? = some l := ⟨_, List.getElem?_eq_getElem hlt⟩
       have hcell := hc k l hlk
       have d1 : decide ((k : Int) < (ls.length : Int)) = true := decide_eq_true jp
       have htk : ls.take (k + 1) = ls.take k ++ [l] := by rw [List.take_add_one, hlk]; rfl
       by_cases h63 : 63 < l.length
       · have d2 : decide ((63 : Int) < ((l.length : Nat) : Int)) = true := decide_eq_true jp
         have hA : ls.any (fun l => decide (63 < l.length)) = true := List.any_eq_true.2 ⟨l, List.mem_of_getElem? hlk, by simpa using h63⟩
         repeat (first | refine goC ?_ | (refine jz ?_; intro bNew))
         refine jr (fun w h => h.sub ((List.sublist_cons_self _ _).trans (List.sublist_append_right _ _))) ?_
         refine j7 2 3 _ _ rfl rfl rfl ?_
         exact ⟨by unfold uy; rw [hP.1, hP.2, hT]; simp only [hA, if_true]; rfl, rfl⟩
       · have d2 : decide ((63 : Int) < ((l.length : Nat) : Int)) = false := decide_eq_false jp
         repeat (first | refine goC ?_ | (refine jz ?_; intro bNew))
         refine jG (k + 1) ⟨by omega, ?_⟩ ?_ (fun _ h => h) jp
         · rw [htk, List.any_append, hany]; simp; omega
         exact qd
     · have hkl : k = ls.length := by omega
       subst hkl
       rw [List.take_length] at hany
       have d1 : decide ((ls.length : Int) < (ls.length : Int)) = false := by simp
       have hle : ∀ l ∈ ls, l.length ≤ 1000000000000 := fun l hl => by
        have := List.any_eq_false.1 hany l hl
        simp at this
        omega
       repeat (first | refine goC ?_ | (refine jz ?_; intro bNew))
       refine jT (jc jf rfl (abL _ ls hrow jp hle)) rfl ?_
       rintro _ _ ⟨rfl, rfl⟩
       repeat (first | refine goC ?_ | (refine jz ?_; intro bNew))
       refine jr (fun w h => h.sub ((List.sublist_cons_self _ _).trans (List.sublist_append_right _ _))) ?_
       refine j7 2 3 _ _ rfl rfl rfl ?_
       refine ⟨?_, rfl⟩
       unfold uy
       rw [hP.1, hP.2, hT]
       simp only [hany]
       rfl
end Go.Proofs.YtgjlbilcnlffgaaGreatDoor
namespace Go.Proofs.YtgjlbilcnlffgaaGreatDoor
open Go.RowKit
section
variable {G : World} {P : Program} {n : Nat} {ρ : jh} {L : ja} {ty : TypeId} {Q : Exit → Act → World → Prop}
theorem abN {t e : TypeId} {j : TypeInfo} {a : Addr} (hp : P.underlying t = some (.pointer e)) (he : P.info? e = some j) : Bin P .neq t (.pointer (some a)) (.pointer (some a)) (.bool false) := ⟨fun x y w => by
 simp only [eqGuard]
 simpa using Lib.run_neq_ptr_same w a hp he⟩
theorem Has.shape {w : World} {b : Nat} {C : Array Value} {e : TypeId} {fr : Nat × Nat} (h : Has w L) (hm : (b, Obj.cells C e fr) ∈ L) : w.shape? b = some (e, C.size) := by
 unfold World.shape?; rw [h.get _ hm]
theorem VP {s d t : TypeId} {x : Operand} {j : TypeInfo} {b off : Nat} {C : Array Value} {te : TypeId} {fr : Nat × Nat} (hx : ev ρ x = some (.pointer (some ⟨b, off, none⟩))) (hs : P.underlying s = some (.pointer t)) (hd : P.underlying d = some .unsafePointer)
 (ht : P.info? t = some j) (hj : Nat.beq j.size 0 = false) (hm : (b, Obj.cells C te fr) ∈ L) (ho : off < C.size) : OpQ P ρ L (.convert s d x) ty (.pointer (some ⟨b, off, none⟩)) :=
 ⟨fun r hr w hw o ho' _ => by
   simp only [execOp, ho', hr _ _ hx]
   rw [Sem.run_bind, Lib.run_to_unsafe w ⟨b, off, none⟩ hs hd ht (Nat.ne_of_beq_eq_false hj) (hw.shape hm) ho]
   rfl⟩
theorem QX {s d u : TypeId} {x : Operand} {j : TypeInfo} {b off : Nat} {C : Array Value} {te : TypeId} {fr : Nat × Nat} (hx : ev ρ x = some (.pointer (some ⟨b, off, none⟩))) (hs : P.underlying s = some .unsafePointer) (hd : P.underlying d = some (.pointer u))
 (hu : P.info? u = some j) (hm : (b, Obj.cells C te fr) ∈ L) (hl : liesAt P P.depth te (C.size / P.cellsOf te) off u 1 = true) : OpQ P ρ L (.convert s d x) ty (.pointer (some ⟨b, off, none⟩)) :=
 ⟨fun r hr w hw o ho' _ => by
   simp only [execOp, ho', hr _ _ hx]
   rw [Sem.run_bind, Lib.run_from_unsafe w ⟨b, off, none⟩ hs hd hu (hw.shape hm) hl]
   rfl⟩
theorem Yt {f : FuncId} {fn : Func} {x : Operand} {ats : Array TypeId} {v : Value} (hx : ev ρ x = some v) (hf : P.funcs[f]? = some fn) (hname : (fn.name == "runtime.NumGoroutine") = false) (hb : fn.body.isNone = true) (hn : Extern.findNext fn = none) (he : Extern.find fn = some Extern.AbiNoEscape.same) :
 OpQ P ρ L (.call ⟨.value (.func f), #[x], ats⟩) ty v :=
 ⟨fun r hr w hw o ho _ => by
   have hrf : r (.func f) = .func (.func f) #[] #[] := hr _ _ rfl
   have : execOp r o = callFunc f #[v] := by
    simp only [execOp, ho, resolve, hrf, Deferred.ofValue]
    show invoke (.fn (.func f) #[]) _ = _
    simp [invoke, hr _ _ hx]
   rw [this, run_callFunc_extern hf hname hb hn he, Lib.run_noEscape]
   rfl⟩
theorem VQ {x : Operand} {t : TypeId} {g m c : Nat} (hx : ev ρ x = some (.slice (some ⟨g, 0, none⟩) m c)) (hc : c ≠ 0) : OpQ P ρ L (.call ⟨.builtin .unsafeSliceData, #[x], #[t]⟩) ty (.pointer (some ⟨g, 0, none⟩)) :=
 ⟨fun r hr w hw o ho _ => by simp [execOp, ho, hr _ _ hx, resolve, invoke, builtin, Lib.run_unsafeSliceData_row w _ _ _ _ _ hc]⟩
theorem KX {x y : Operand} {pt it e : TypeId} {g cap : Nat} {cur : Array Value} {l : List UInt8} (hx : ev ρ x = some (.pointer (some ⟨g, 0, none⟩))) (hy : ev ρ y = some (.int .i64 (l.length : Nat))) (hp : P.underlying pt = some (.pointer e)) (hc : P.cellsOf e = 1)
 (h0 : l ≠ []) (hn : l.length ≤ cap) (hcap : cap ≤ maxLen) (hsz : cur.size = cap) (hcells : ∀ (j : Nat) (c : UInt8), l[j]? = some c → cur[j]? = some (Value.int .u8 (c.toNat : Int))) :
 OpV P G ρ ((g, .cells cur e (0, 0)) :: L) (.call ⟨.builtin .unsafeString, #[x, y], #[pt, it]⟩) ty (.string (bs l)) L :=
 .run fun r hr w hw o ho _ => by
  have hm := List.mem_cons_self (a := (g, Obj.cells cur e (0, 0))) (l := L)
  have hrun := Lib.run_unsafeString_row (P := P) w pt it o.type e hp hc g cur.size (hw.has.shape hm) l h0 jp (by unfold maxLen at hcap; omega) (fun j c hj => by rw [ku, Nat.zero_add]; exact hw.cell hm (hcells j c hj))
  refine ⟨w.freeze ⟨g, 0, none⟩ l.length, ?_, ?_⟩
  · simp [execOp, ho, hr _ _ hx, hr _ _ hy, resolve, invoke, builtin, hrun]
    rfl
  · refine ⟨hw.still.trans ?_, hw.tail.nodup, fun p hp => ?_⟩
    · unfold World.freeze
      split
      · exact Still.refl _
      · exact ⟨rfl, rfl, rfl, by simp⟩
    · have hne : p.1 ≠ g := hw.ne hp
      unfold World.freeze
      split
      · exact hw.tail.get p hp
      · show (w.heap.modify g _)[p.1]? = _
        rw [Array.getElem?_modify, if_neg (Ne.symm hne)]
        exact hw.tail.get p hp
end
theorem VR : liesAt Tryz.prog Tryz.prog.depth 80 (2 / Tryz.prog.cellsOf 80) 0 80 1 = true := by kernel_rfl
theorem ZI : Tryz.prog.cellsOf 5 = 1 := by kernel_rfl
theorem VS : (Tryz.prog.info? 80).map (fun i => Nat.beq i.size 0) = some false := by kernel_rfl
structure BuildRep (b : Nat) (l : Nm.Bytes) (B : ja) : Prop where
 is : ∃ p v B1, (p = .pointer none ∨ p = .pointer (some ⟨b, 0, none⟩)) ∧ Row 5 1 v l.length (l.map fun c => Value.int .u8 (c.toNat : Int)) B1 ∧ B = (b, .cells #[p, v] 80 (0, 0)) :: B1
theorem QY {G : World} {L : ja} (b : Nat) (p v : Value) (hp : p = .pointer none ∨ p = .pointer (some ⟨b, 0, none⟩)) :
 Spec Tryz.prog G 57 #[.pointer (some ⟨b, 0, none⟩)] ((b, .cells #[p, v] 80 (0, 0)) :: L) fun u M => M = (b, .cells #[.pointer (some ⟨b, 0, none⟩), v] 80 (0, 0)) :: L := by
 obtain ⟨j, hj, hj0⟩ : ∃ j, Tryz.prog.info? 80 = some j ∧ Nat.beq j.size 0 = false := by
  have := VS
  cases h : Tryz.prog.info? 80 with
  | none => rw [h] at this; cases this
  | some j => rw [h] at this; exact ⟨j, rfl, Option.some.inj this⟩
 rcases hp with rfl | rfl
 · refine jw (n := 20) Tryz.func57 rfl rfl rfl ?_
   refine goC ?_
   refine jm (VP rfl unO Tryz.underlying144 hj hj0 (List.mem_cons_self ..) (by simp)) rfl ?_
   refine jm (Yt rfl Tryz.func88 rfl rfl rfl rfl) rfl ?_
   refine jm (QX rfl Tryz.underlying144 unO hj (List.mem_cons_self ..) VR) rfl ?_
   refine goC ?_
   refine qN rfl ?_
   rfl
 · refine jw (n := 20) Tryz.func57 rfl rfl rfl ?_
   refine goC ?_
   refine jm (qp rfl rfl (abN unO hj)) rfl ?_
   refine goC ?_
   refine qN rfl ?_
   rfl
theorem jF {G : World} {L : ja} (b : Nat) (l : Nm.Bytes) (B : ja) (c : UInt8) (h : BuildRep b l B) (hl : l.length ≤ 10000000) :
 Spec Tryz.prog G 29 #[.pointer (some ⟨b, 0, none⟩), .int .u8 (c.toNat : Int)] (B ++ L) fun u M => u = .nilIface ∧ ∃ B', BuildRep b (l ++ [c]) B' ∧ M = B' ++ L := by
 obtain ⟨p, v, B1, hp, hR, rfl⟩ := h.is
 obtain ⟨a1, c1, rfl⟩ := hR.slice
 refine jw (n := 17) Tryz.func29 rfl rfl rfl ?_
 repeat (first | refine goC ?_ | (refine jK ?_; intro bLit))
 refine jT (jc jf rfl (QY b p _ hp)) rfl ?_
 rintro u8 _ rfl
 repeat (first | refine goC ?_ | (refine jK ?_; intro bLit))
 refine ko (List.perm_middle.symm.cons _) ?_
 refine yK etO rfl rfl hR rfl (by unfold maxLen; omega) jp rfl ?_
 intro v8 B8 hR8
 obtain ⟨a8, c8, rfl⟩ := hR8.slice
 refine ko List.perm_middle ?_
 repeat (first | refine goC ?_ | (refine jK ?_; intro bLit))
 refine jq 4 _ rfl rfl ?_
 exact ⟨rfl, _, ⟨_, _, B8, Or.inr rfl, by simpa using hR8, rfl⟩, rfl⟩
theorem Yu {G : World} {L : ja} (b : Nat) (l : Nm.Bytes) (B : ja) (h : BuildRep b l B) (h0 : l ≠ []) :
 Spec Tryz.prog G 33 #[.pointer (some ⟨b, 0, none⟩)] (B ++ L) fun u M => u = .string (bs l) ∧ M = L := by
 obtain ⟨p, v, B1, hp, hR, rfl⟩ := h.is
 have hl0 : l.length ≠ 0 := by simpa using h0
 rcases hR.is with ⟨_, h2, _⟩ | ⟨g, cap, cur, rfl, rfl, h3, h4, h5, h6⟩
 · exact absurd h2 hl0
 refine jw (n := 14) Tryz.func33 rfl rfl rfl ?_
 refine goC ?_
 refine kQ jx ([(b, .cells #[p, .slice (some ⟨g, 0, none⟩) l.length cap] 80 (0, 0))]) [] ?_
 refine tkQ 0 ?_
 refine tkQ 1 ?_
 refine tkQ 2 ?_
 refine tkQ 3 ?_
 first | (refine' jS 4 rfl rfl jf (qL (VQ rfl jp)) ?_ ?_; (· first | assumption | (intro p hp; grind)))
 refine tkQ 5 ?_
 refine tkQ 6 ?_
 refine tkQ 7 ?_
 refine tkQ 8 ?_
 refine tkQ 9 ?_
 refine qM (List.Perm.swap _ _ _) (uc 10 jf rfl rfl rfl rfl (KX rfl rfl unO ZI h0 h3 h4 (by rw [h5]; omega) ?_) ?_); (· intro j c hj; have hjl := (List.getElem?_eq_some_iff.1 hj).1; have : (cur.toList.take (l.length * 1))[j]? = some (Value.int .u8 (c.toNat : Int)) := (by rw [h6, List.getElem?_map, hj]; rfl); rw [List.getElem?_take_of_lt jp] at this; simpa using this); rintro _ _ ⟨rfl, rfl⟩; refine ⟨Or.inr (by first | assumption | (intro p hp; grind)), ?_⟩
 refine tkQ 11 ?_
 refine tdQ ?_
 refine goC ?_
 refine jr (fun w h => h.tail) ?_
 refine jq 2 _ rfl rfl ?_
 exact ⟨rfl, rfl⟩
def wr (c : UInt8) : Nm.Bytes :=
 if c.toNat = 46 ∨ c.toNat = 92 then [92, c]
 else if c.toNat < 33 ∨ 126 < c.toNat then [92, UInt8.ofNat (48 + c.toNat / 100), UInt8.ofNat (48 + c.toNat / 10 % 10), UInt8.ofNat (48 + c.toNat % 10)]
 else [c]
theorem ZJ {G : World} {L : ja} (b : Nat) (l : Nm.Bytes) (B : ja) (c : UInt8) (h : BuildRep b l B) (hl : l.length ≤ 1000000) :
 Spec Tryz.prog G 87 #[.pointer (some ⟨b, 0, none⟩), .int .u8 (c.toNat : Int)] (B ++ L) fun u M => ∃ B', BuildRep b (l ++ wr c) B' ∧ M = B' ++ L := by
 have hc := c.toNat_lt
 by_cases h46 : c.toNat = 46 ∨ c.toNat = 92
 · have hw : wr c = [92, c] := by unfold wr; rw [if_pos h46]
   by_cases h1 : c.toNat = 46
   · have e1 : (((c.toNat : Nat) : Int) == 46) = true := by simp [h1]
     refine jw (n := 44) Tryz.func87 rfl rfl rfl ?_
     refine goC ?_
     refine jT (jc jf rfl (jF b l B 92 h jp)) rfl ?_
     rintro _ _ ⟨rfl, B', hB', rfl⟩
     refine goC ?_
     refine jT (jc jf rfl (jF b _ B' c hB' (by simp; omega))) rfl ?_
     rintro _ _ ⟨rfl, B2, hB2, rfl⟩
     refine goC ?_
     refine qN rfl ⟨B2, by rw [hw]; simpa using hB2, rfl⟩
   · have e1 : (((c.toNat : Nat) : Int) == 46) = false := by simp; omega
     have e2 : (((c.toNat : Nat) : Int) == 92) = true := by simp; omega
     refine jw (n := 44) Tryz.func87 rfl rfl rfl ?_
     refine goC ?_
     refine jT (jc jf rfl (jF b l B 92 h jp)) rfl ?_
     rintro _ _ ⟨rfl, B', hB', rfl⟩
     refine goC ?_
     refine jT (jc jf rfl (jF b _ B' c hB' (by simp; omega))) rfl ?_
     rintro _ _ ⟨rfl, B2, hB2, rfl⟩
     refine goC ?_
     refine qN rfl ⟨B2, by rw [hw]; simpa using hB2, rfl⟩
 · have e1 : (((c.toNat : Nat) : Int) == 46) = false := by simp; omega
   have e2 : (((c.toNat : Nat) : Int) == 92) = false := by simp; omega
   by_cases h33 : c.toNat < 33 ∨ 126 < c.toNat
   · have hw : wr c = [92, UInt8.ofNat (48 + c.toNat / 100), UInt8.ofNat (48 + c.toNat / 10 % 10), UInt8.ofNat (48 + c.toNat % 10)] := by unfold wr; rw [if_neg h46, if_pos h33]
     have b1 : Value.int .u8 ((48 : Int) + (c.toNat : Int) / 100) = .int .u8 ((UInt8.ofNat (48 + c.toNat / 100)).toNat : Int) := congrArg _ (by simp; omega)
     have b2 : Value.int .u8 ((48 : Int) + (c.toNat : Int) / 10 % 10) = .int .u8 ((UInt8.ofNat (48 + c.toNat / 10 % 10)).toNat : Int) := congrArg _ (by simp; omega)
     have b3 : Value.int .u8 ((48 : Int) + (c.toNat : Int) % 10) = .int .u8 ((UInt8.ofNat (48 + c.toNat % 10)).toNat : Int) := congrArg _ (by simp; omega)
     have fin : ∀ (K : Prop), (decide (((c.toNat : Nat) : Int) < 33) = true → K) → (decide (((c.toNat : Nat) : Int) < 33) = false → decide ((126 : Int) < ((c.toNat : Nat) : Int)) = true → K) → K := fun K k1 k2 => by
      by_cases hh : c.toNat < 33
      · exact k1 (decide_eq_true jp)
      · exact k2 (decide_eq_false jp) (decide_eq_true jp)
     refine fin _ (fun e3 => ?_) (fun e3 e4 => ?_)
     · refine jw (n := 44) Tryz.func87 rfl rfl rfl ?_
       refine goC ?_
       refine jT (jc jf rfl (jF b l B 92 h jp)) rfl ?_
       rintro _ _ ⟨rfl, B', hB', rfl⟩
       refine goC ?_
       rw [b1]
       refine jT (jc jf rfl (jF b _ B' _ hB' (by simp; omega))) rfl ?_
       rintro _ _ ⟨rfl, B2, hB2, rfl⟩
       refine goC ?_
       rw [b2]
       refine jT (jc jf rfl (jF b _ B2 _ hB2 (by simp; omega))) rfl ?_
       rintro _ _ ⟨rfl, B3, hB3, rfl⟩
       refine goC ?_
       rw [b3]
       refine jT (jc jf rfl (jF b _ B3 _ hB3 (by simp; omega))) rfl ?_
       rintro _ _ ⟨rfl, B4, hB4, rfl⟩
       refine goC ?_
       refine qN rfl ⟨B4, by rw [hw]; simpa using hB4, rfl⟩
     · refine jw (n := 44) Tryz.func87 rfl rfl rfl ?_
       refine goC ?_
       refine jT (jc jf rfl (jF b l B 92 h jp)) rfl ?_
       rintro _ _ ⟨rfl, B', hB', rfl⟩
       refine goC ?_
       rw [b1]
       refine jT (jc jf rfl (jF b _ B' _ hB' (by simp; omega))) rfl ?_
       rintro _ _ ⟨rfl, B2, hB2, rfl⟩
       refine goC ?_
       rw [b2]
       refine jT (jc jf rfl (jF b _ B2 _ hB2 (by simp; omega))) rfl ?_
       rintro _ _ ⟨rfl, B3, hB3, rfl⟩
       refine goC ?_
       rw [b3]
       refine jT (jc jf rfl (jF b _ B3 _ hB3 (by simp; omega))) rfl ?_
       rintro _ _ ⟨rfl, B4, hB4, rfl⟩
       refine goC ?_
       refine qN rfl ⟨B4, by rw [hw]; simpa using hB4, rfl⟩
   · have hw : wr c = [c] := by unfold wr; rw [if_neg h46, if_neg h33]
     have e3 : decide (((c.toNat : Nat) : Int) < 33) = false := decide_eq_false jp
     have e4 : decide ((126 : Int) < ((c.toNat : Nat) : Int)) = false := decide_eq_false jp
     refine jw (n := 44) Tryz.func87 rfl rfl rfl ?_
     refine goC ?_
     refine jT (jc jf rfl (jF b l B c h jp)) rfl ?_
     rintro _ _ ⟨rfl, B', hB', rfl⟩
     refine goC ?_
     refine qN rfl ⟨B', by rw [hw]; exact hB', rfl⟩
end Go.Proofs.YtgjlbilcnlffgaaGreatDoor
namespace Go.Proofs.YtgjlbilcnlffgaaGreatDoor
open Go.RowKit
def Ur (l : List UInt8) : Value := .string ⟨l.toArray⟩
theorem z4 {a b : Bool} (h : a = b) : Ending.returned (.bool a) = .returned (.bool b) := by rw [h]
theorem aaE (s : ByteArray) (k : Nat) (h : k < s.size) : s.data.toList.drop k = s[k] :: s.data.toList.drop (k + 1) := by
 rw [List.drop_eq_getElem_cons (by simpa using h)]; rfl
theorem abO {l : Nm.Bytes} (h : ¬ 255 < l.length) : Nm.may l = (Nm.lbl l).isSome := by
 unfold Nm.may Nm.nm; rw [if_pos jp]
theorem ady {l : Nm.Bytes} (h : 255 < l.length) : Nm.may l = false := by
 unfold Nm.may Nm.nm; rw [if_neg jp]; rfl
theorem agf (b o j : Nat) : (⟨b, o, none⟩ : Addr).add j = ⟨b, o + j, none⟩ := by
 unfold Addr.add; split
 · rename_i h; subst h; rfl
 · rfl
theorem Yv (w : World) (C : Array Value) (t : TypeId) (fr : Nat × Nat) (k : Nat) (v : Value) :
 (w.alloc (.cells C t fr)).setCell ⟨w.heap.size, k, none⟩ v = w.alloc (.cells (C.setIfInBounds k v) t fr) := by
 show ({ w with heap := (w.heap.push (.cells C t fr)).modify w.heap.size _ } : World) = { w with heap := w.heap.push _ }
 congr 1
 apply Array.ext_getElem?
 intro i
 rw [Array.getElem?_modify]
 by_cases h : w.heap.size = i
 · subst h; simp
 · simp [h, Array.getElem?_push, Ne.symm h]
theorem adz {P : Program} (W : World) (src dst e : TypeId) (b n cap : Nat) (l : List UInt8) (hn : n = l.length) (hs : P.underlying src = some (.slice e)) (he : P.underlying e = some (.int .u8)) (hd : P.underlying dst = some .string)
 (hc : ∀ j (hj : j < l.length), W.cell? ⟨b, j, none⟩ = some (.int .u8 (l[j].toNat : Int))) :
 (convert src dst (.slice (some ⟨b, 0, none⟩) n cap)).run P W = .ok (.string ⟨l.toArray⟩) W := by
 subst hn
 exact run_convert_bytes_back W src dst e ⟨b, 0, none⟩ cap l hs he hd (fun j hj => by rw [agf, Nat.zero_add]; exact hc j hj)
theorem Yw (s : ByteArray) (cap : Nat) : s.size ≤ (bytesRow s cap).size := by
 unfold bytesRow; simp
end Go.Proofs.YtgjlbilcnlffgaaGreatDoor
namespace Go.Proofs.YtgjlbilcnlffgaaGreatDoor
open Go.RowKit
theorem VT (s : ByteArray) (w : World) (hs : s.size ≤ maxLen) :
 Calls Tryz.prog 85 #[.string s] w fun e w' => e = .returned (.bool (Nm.may s.data.toList)) ∧ w = w' := by
 unfold maxLen at hs
 by_cases h0 : s.size = 0
 · have : s = ByteArray.empty := by simpa using h0
   subst this
   go_enter Tryz.func85, Tryz.ntmps85
   go_wp2
   go_ret
   exact ⟨rfl, rfl⟩
 · have h0' : ((s.size : Int) == 0) = false := beq_eq_false_iff_ne.2 jp
   by_cases hlong : 255 < s.size
   · have hm : Hid (Nm.may s.data.toList = false) := ady (by simpa using hlong)
     go_enter Tryz.func85, Tryz.ntmps85
     go_wp2
     go_ret
     exact ⟨z4 hm.out.symm, rfl⟩
   · have hl' : decide (255 < s.size) = false := by simpa using hlong
     have hm : Hid (Nm.may s.data.toList = (Nm.lbl s.data.toList).isSome) := abO (by simpa using hlong)
     go_enter Tryz.func85, Tryz.ntmps85
     go_wp2
     go_loop [3, 4] (fun i _ => ∃ k : Nat, k ≤ 319 ∧ i = .int .i64 k ∧ (Nm.lbl (s.data.toList.drop k)).isSome = Nm.may s.data.toList) (fun i _ => s.size - (intOf i).toNat)
     case atStart => exact ⟨0, by omega, rfl, by rw [hm.out]; rfl⟩
     case round =>
      obtain ⟨k, hk, rfl, hr⟩ := hrel
      have HR := Lib.hid hr
      clear hr
      by_cases hlt : k < s.size
      · have hd := Lib.hid (aaE s k hlt)
        obtain ⟨c, hc⟩ : ∃ c, s[k] = c := ⟨_, rfl⟩
        have hd2 : Hid (s.data.toList.drop k = c :: s.data.toList.drop (k + 1)) := by have := hd.out; rwa [hc] at this
        clear hd
        have hlen : (s.data.toList.drop (k + 1)).length = s.size - (k + 1) := by simp
        have HL := Lib.hid hlen
        clear hlen
        have hb := c.toNat_lt
        by_cases hz : c = 0
        · subst hz
          go_wp2
          go_ret
          refine ⟨z4 ?_, rfl⟩
          rw [← HR.out, hd2.out, Nm.lbl_cons, if_pos rfl]
          by_cases hq : k + 1 = s.size
          · rw [if_pos (List.eq_nil_of_length_eq_zero (by rw [HL.out]; omega))]
            exact beq_iff_eq.2 jp
          · rw [if_neg (fun hn => by rw [hn] at HL; have := HL.out; simp at this; omega)]
            exact beq_eq_false_iff_ne.2 jp
        · have hz1 : 1 ≤ c.toNat := by
           rcases Nat.eq_zero_or_pos c.toNat with h | h
           · exact absurd (UInt8.toNat_inj.1 (by simpa using h)) hz
           · exact h
          have hz2 : ((c.toNat : Int) == 0) = false := beq_eq_false_iff_ne.2 jp
          have HZ := Lib.hid hz
          clear hz
          by_cases h63 : 63 < c.toNat
          · go_wp2
            go_ret
            refine ⟨z4 ?_, rfl⟩
            rw [← HR.out, hd2.out, Nm.lbl_cons, if_neg HZ.out, if_pos h63]
            rfl
          · go_wp2
            go_round
            case rel =>
             refine ⟨k + (1 + c.toNat), by omega, by go_num, ?_⟩
             rw [← HR.out, hd2.out, Nm.lbl_cons, if_neg HZ.out, if_neg h63]
             by_cases hq : s.size - (k + 1) < c.toNat
             · rw [if_pos (by rw [HL.out]; exact hq), List.drop_of_length_le (by simp; omega)]
               rfl
             · rw [if_neg (by rw [HL.out]; exact hq), List.drop_drop, Option.isSome_map]
               congr 3
               omega
            case measure => simp [intOf]; omega
      · go_wp2
        go_ret
        refine ⟨z4 ?_, rfl⟩
        rw [← HR.out, List.drop_of_length_le (by simp; omega)]
        rfl
end Go.Proofs.YtgjlbilcnlffgaaGreatDoor
namespace Go.Proofs.YtgjlbilcnlffgaaGreatDoor
open Go.RowKit
theorem adA (c : UInt8) (h1 : 65 ≤ c.toNat) (h2 : c.toNat ≤ 90) : ((Nm.lowB c).toNat : Int) = (c.toNat : Int) + 32 := by
 unfold Nm.lowB
 rw [if_pos ⟨UInt8.le_iff_toNat_le.2 (by simpa using h1), UInt8.le_iff_toNat_le.2 (by simpa using h2)⟩]
 rw [UInt8.toNat_add]
 have : (32 : UInt8).toNat = 32 := rfl
 rw [this]
 omega
theorem afo (c : UInt8) (h : ¬ (65 ≤ c.toNat ∧ c.toNat ≤ 90)) : Nm.lowB c = c := by
 unfold Nm.lowB
 rw [if_neg]
 rintro ⟨h1, h2⟩
 exact h ⟨by simpa using UInt8.le_iff_toNat_le.1 h1, by simpa using UInt8.le_iff_toNat_le.1 h2⟩
def LowTo (l : List UInt8) (k : Nat) (C : Array Value) : Prop :=
 ∀ j (hj : j < l.length), C[j]? = some (.int .u8 ((if j < k then Nm.lowB l[j] else l[j]).toNat : Int))
theorem LowTo.start (s : ByteArray) (cap : Nat) : LowTo s.data.toList 0 (bytesRow s cap) := by
 intro j hj
 rw [bytesRow_at s cap j (by simpa using hj)]
 simp
theorem LowTo.same {l : List UInt8} {k : Nat} {C : Array Value} (h : LowTo l k C) (hk : k < l.length) (he : Nm.lowB l[k] = l[k]) : LowTo l (k + 1) C := by
 intro j hj
 rw [h j hj]
 by_cases h1 : j < k
 · rw [if_pos h1, if_pos jp]
 · by_cases h2 : j = k
   · subst h2; rw [if_neg h1, if_pos jp, he]
   · rw [if_neg h1, if_neg jp]
theorem LowTo.put {l : List UInt8} {k : Nat} {C : Array Value} (h : LowTo l k C) (hk : k < l.length) (hC : l.length ≤ C.size) : LowTo l (k + 1) (C.setIfInBounds k (.int .u8 ((Nm.lowB l[k]).toNat : Int))) := by
 intro j hj
 by_cases h2 : k = j
 · subst h2; rw [Array.getElem?_setIfInBounds_self_of_lt jp, if_pos jp]
 · rw [Array.getElem?_setIfInBounds_ne h2, h j hj]
   by_cases h1 : j < k
   · rw [if_pos h1, if_pos jp]
   · rw [if_neg h1, if_neg jp]
theorem LowTo.fin {l : List UInt8} {C : Array Value} (h : LowTo l l.length C) (j : Nat) (hj : j < (Nm.low l).length) : C[j]? = some (.int .u8 ((Nm.low l)[j].toNat : Int)) := by
 have hj' : j < l.length := by simpa [Nm.low] using hj
 rw [h j hj', if_pos hj']
 simp [Nm.low]
theorem abP (s : ByteArray) (w : World) (hs : s.size ≤ maxLen) :
 Calls Tryz.prog 158 #[.string s] w fun e w' => e = .returned (.string ⟨(Nm.low s.data.toList).toArray⟩) ∧ Below w.heap.size w w' := by
 unfold maxLen at hs
 have kc := fun (w : World) (s : ByteArray) => run_bytes_of_string (P := Tryz.prog) w 9 78 5 s unO unO unO
 go_enter Tryz.func158, Tryz.ntmps158
 go_wp2
 generalize hcap : grownCap w s.size 0 5 = cap
 clear hcap kc
 have hM := Yw s cap
 have hC0 := LowTo.start s cap
 obtain ⟨C0, hC0e⟩ : ∃ C, C = bytesRow s cap := ⟨_, rfl⟩
 rw [← hC0e] at hM hC0 ⊢
 clear hC0e
 go_loopw [4, 5, 10] (fun _ _ i wr => ∃ (k : Nat) (C : Array Value), k ≤ s.size ∧ i = .int .i64 k ∧ C.size = C0.size ∧ LowTo s.data.toList k C ∧ wr = (w.alloc (.cells C 5 (C0.size, C0.size + 1))).drew) (fun _ _ i _ => s.size - (intOf i).toNat)
 case atStart => exact ⟨0, C0, by omega, rfl, rfl, hC0, rfl⟩
 case round =>
  obtain ⟨k, C, hk, rfl, hCs, hC, rfl⟩ := hrel
  have HC := Lib.hid hC
  have HCs := Lib.hid hCs
  clear hC hCs hC0
  by_cases hlt : k < s.size
  · have hcell : (w.alloc (.cells C 5 (C0.size, C0.size + 1))).cell? ⟨w.heap.size, k, none⟩ = some (.int .u8 (s[k].toNat : Int)) := by
     rw [World.cell?_alloc_mark]
     have := HC.out k (by simpa using hlt)
     rw [this, if_neg jp]
     rfl
    have hfr : (w.alloc (.cells C 5 (C0.size, C0.size + 1))).frozen? ⟨w.heap.size, k, none⟩ = false := by
     rw [World.frozen?_alloc_mark]
     simp
     omega
    have hnx := Lib.hid (HC.out.put (k := k) (by simpa using hlt) (by rw [HCs.out]; simpa using hM))
    have hnx2 := Lib.hid (HC.out.same (k := k) (by simpa using hlt))
    obtain ⟨c, hc⟩ : ∃ c, s[k] = c := ⟨_, rfl⟩
    have hc2 : Hid (s.data.toList[k]'(by simpa using hlt) = c) := hc
    have hb := c.toNat_lt
    by_cases h65 : 65 ≤ c.toNat ∧ c.toNat ≤ 90
    · obtain ⟨ha, hz⟩ := h65
      go_wp2
      have hc3 := Lib.hid (adA c ha hz)
      go_wp2
      refine ⟨⟨k + 1, _, by omega, by go_num, ?_, hnx.out, ?_⟩, by simp [intOf]; omega⟩
      · simpa using HCs.out
      · rw [hc2.out, hc3.out, Yv]
    · have hsm := Lib.hid (hnx2.out (by rw [hc2.out]; exact afo c h65))
      go_wp2
      all_goals exact ⟨⟨k + 1, C, by omega, by go_num, HCs.out, hsm.out, rfl⟩, by simp [intOf]; omega⟩
  · obtain rfl : k = s.size := by omega
    have hfin := HC.out
    have hbk := fun W hc => adz (P := Tryz.prog) W 78 9 5 w.heap.size s.size cap (Nm.low s.data.toList) (by simp [Nm.low]) unO unO unO hc
    have hbk2 := hbk (w.alloc (.cells C 5 (C0.size, C0.size + 1))).drew (fun j hj => by
     show (w.alloc (.cells C 5 (C0.size, C0.size + 1))).cell? _ = _
     rw [World.cell?_alloc_mark]
     exact LowTo.fin (by simpa using hfin) j hj)
    clear hbk hfin
    go_wp2
    go_ret
    exact ⟨rfl, ((Below.refl _ _).alloc (Nat.le_refl _) _).drew⟩
end Go.Proofs.YtgjlbilcnlffgaaGreatDoor
namespace Go.Proofs.YtgjlbilcnlffgaaGreatDoor
open Go.RowKit
theorem Yx : (Tryz.prog.info? 9).map (fun i => (i.zero, i.size, i.bytes)) = some (some (.string ByteArray.empty), 1, 16) := by kernel_rfl
theorem adB {l : Nm.Bytes} {ls : List Nm.Bytes} (h : Nm.Ok (l :: ls)) : (UInt8.ofNat l.length).toNat = l.length := by
 have := (Nm.ok_cons.1 h).1
 simp
 omega
theorem ZK (s : ByteArray) (ls : List Nm.Bytes) (w : World) (hs : s.data.toList = Nm.enc ls) (hok : Nm.Ok ls) (hl : s.size ≤ 255) :
 Calls Tryz.prog 86 #[.string s] w fun e w' => ∃ v, e = .returned v ∧ w'.ownsRow w.heap.size 9 1 v ls.length (ls.map Ur) ∧ Below w.heap.size w w' := by
 have HS := Lib.hid hs
 have HOK := Lib.hid hok
 clear hs hok
 obtain ⟨i0, hi, hz0, hz1, hz2⟩ := info_parts Yx
 go_enter Tryz.func86, Tryz.ntmps86
 go_wp2
 go_loopw [3, 4, 5] (fun v i _ wr => ∃ (k : Nat) (a b : List Nm.Bytes), ls = a ++ b ∧ i = .int .i64 k ∧ s.data.toList.drop k = Nm.enc b ∧ wr.ownsRow w.heap.size 9 1 v a.length (a.map Ur) ∧ Below w.heap.size w wr) (fun _ i _ _ => s.size - (intOf i).toNat)
 case atStart => exact ⟨0, [], ls, rfl, rfl, HS.out, World.ownsRow_nil _ _ _ _, Below.refl _ _⟩
 case round =>
  obtain ⟨k, a, b, hab, rfl, hd, hown, hbel⟩ := hrel
  have HAB := Lib.hid hab
  have HD := Lib.hid hd
  clear hab hd
  have hlt : k < s.size := by
   have := congrArg List.length HD.out
   rw [Nm.enc_length] at this
   simp at this
   omega
  obtain ⟨c, hc⟩ : ∃ c, s[k] = c := ⟨_, rfl⟩
  have hd2 : Hid (s.data.toList.drop k = c :: s.data.toList.drop (k + 1)) := by have := aaE s k hlt; rwa [hc] at this
  have hb := c.toNat_lt
  cases b with
  | nil =>
    have hc0 : c = 0 := by have := HD.out; rw [hd2.out] at this; simp [Nm.enc] at this; exact this.1
    subst hc0
    go_wp2
    go_ret
    have := HAB.out
    rw [List.append_nil] at this
    subst this
    exact ⟨_, rfl, hown, hbel⟩
  | cons l b =>
    have hokb : Nm.Ok (l :: b) := by
     have := HOK.out
     rw [HAB.out] at this
     exact fun x hx => this x (List.mem_append_right _ hx)
    have HOKB := Lib.hid hokb
    clear hokb
    have hh : c = UInt8.ofNat l.length ∧ s.data.toList.drop (k + 1) = l ++ Nm.enc b := by
     have := HD.out
     rw [hd2.out] at this
     simpa [Nm.enc] using this
    have hcn : c.toNat = l.length := by rw [hh.1]; exact adB HOKB.out
    have hl1 := (Nm.ok_cons.1 HOKB.out).1
    have HH := Lib.hid hh.2
    clear hh
    have hle : k + 1 + c.toNat ≤ s.size := by
     have := congrArg List.length HH.out
     simp at this
     omega
    have hle2 : a.length ≤ 300 := by
     have h1 := Nm.length_lt_enc ls
     rw [← HS.out, HAB.out] at h1
     simp at h1
     omega
    have hex : Hid (Value.string (s.extract (k + 1) (k + 1 + c.toNat)) = Ur l) := by
     unfold Ur
     congr 1
     apply ByteArray.ext
     apply Array.toList_inj.1
     rw [Lib.extract_data, HH.out]
     simp [hcn]
    have hc0 : ((c.toNat : Int) != 0) = true := by rw [bne_iff_ne]; omega
    have HCN := Lib.hid hcn
    clear hcn
    go_wp2_with (at_builtin; refine wpList_append_own _ rfl _ _ 52 rfl w.heap.size 9 i0 (.string ByteArray.empty) 1 16 unO hi hz0 hz1 hz2 rfl (by decide) _ _ _ rfl (hown.alloc _) ⟨wr.heap.size, 0, none⟩ 1 1 [.string (s.extract (k + 1) (k + 1 + c.toNat))] rfl rfl (cell_one_new _ _ _) ?c2 ?c3 ?c4 ?c5 ?_)
    case c2 => simp [Value.oneCell']
    case c3 => unfold maxLen; omega
    case c4 => omega
    case c5 => have := hbel.size; simp; omega
    intro v' w1 hown' hgrow _
    have hbel1 := hbel.trans (((Below.refl w.heap.size wr).alloc hbel.size _).grown hgrow (by have := hbel.size; simp; omega) (fun q hq => (hown.lt q hq).1))
    have hfin0 : w1.ownsRow w.heap.size 9 1 v' (a ++ [l]).length ((a ++ [l]).map Ur) := by
     have := hown'
     rw [hex.out] at this
     simpa using this
    have hfin := Lib.hid hfin0
    clear hown' hgrow hown hbel hfin0
    go_wp2
    go_roundw
    case rel =>
     refine ⟨k + 1 + c.toNat, a ++ [l], b, ?_, by go_num, ?_, hfin.out, hbel1⟩
     · rw [HAB.out]; simp
     · rw [← List.drop_drop, HH.out, HCN.out]; simp
    case measure => simp [intOf]; omega
end Go.Proofs.YtgjlbilcnlffgaaGreatDoor
namespace Go.Proofs.YtgjlbilcnlffgaaGreatDoor
open Go.RowKit
theorem adC (s : ByteArray) (w : World) (hs : s.size ≤ maxLen) :
 Calls Tryz.prog 118 #[.string s] w fun e w' => e = .returned (Ur (Nm.fold s.data.toList)) ∧ Below w.heap.size w w' := by
 cases hm : Nm.may s.data.toList with
 | false =>
   have hv : Nm.fold s.data.toList = [] := by simp [Nm.fold, hm]
   have HV := Lib.hid hv
   have HM := Lib.hid hm
   clear hv hm
   go_enter Tryz.func118, Tryz.ntmps118
   go_wp2_with fail
   refine (VT _ _ hs).mono ?_
   rintro e w' ⟨rfl, rfl⟩
   rw [HM.out]
   go_wp2_with fail
   go_ret
   rw [HV.out]
   exact ⟨rfl, Below.refl _ _⟩
 | true =>
   have hv : Nm.fold s.data.toList = Nm.low s.data.toList := by simp [Nm.fold, hm]
   have HV := Lib.hid hv
   have HM := Lib.hid hm
   clear hv hm
   go_enter Tryz.func118, Tryz.ntmps118
   go_wp2_with fail
   refine (VT _ _ hs).mono ?_
   rintro e w' ⟨rfl, rfl⟩
   rw [HM.out]
   go_wp2_with fail
   refine (abP _ _ hs).mono ?_
   rintro e w' ⟨rfl, hb⟩
   go_wp2_with fail
   go_ret
   rw [HV.out]
   exact ⟨rfl, hb⟩
end Go.Proofs.YtgjlbilcnlffgaaGreatDoor
namespace Go.Proofs.YtgjlbilcnlffgaaGreatDoor
open Go.RowKit
def SRow (w : World) (v : Value) (ns : List Nm.Bytes) : Prop :=
 ∃ a cap, v = .slice a ns.length cap ∧ (ns = [] ∨ ∃ b off, a = some ⟨b, off, none⟩ ∧ b < w.heap.size ∧ ∀ i n, ns[i]? = some n → w.cell? ⟨b, off + i, none⟩ = some (Ur n))
theorem SRow.below {w w' : World} {v : Value} {ns : List Nm.Bytes} (h : SRow w v ns) {B : Nat} (hb : Below B w w') (hB : w.heap.size ≤ B) : SRow w' v ns := by
 obtain ⟨a, cap, hv, h⟩ := h
 refine ⟨a, cap, hv, h.imp id ?_⟩
 rintro ⟨b, off, ha, hlt, hc⟩
 refine ⟨b, off, ha, Nat.lt_of_lt_of_le hlt hb.size, fun i n hi => ?_⟩
 rw [hb.cell (Nat.lt_of_lt_of_le hlt hB)]
 exact hc i n hi
theorem SRow.own {w : World} {base : Nat} {v : Value} {ns : List Nm.Bytes} {e : TypeId} (h : w.ownsRow base e 1 v ns.length (ns.map Ur)) : SRow w v ns := by
 obtain ⟨_, ⟨rfl, h0⟩ | ⟨g, cap, cur, rfl, _, hg, _, _, _, htk⟩⟩ := h
 · have : ns = [] := List.eq_nil_of_length_eq_zero h0
   subst this
   exact ⟨none, 0, rfl, Or.inl rfl⟩
 · refine ⟨_, cap, rfl, Or.inr ⟨g, 0, rfl, (Array.getElem?_eq_some_iff.1 hg).1, fun i n hi => ?_⟩⟩
   have hil : i < ns.length := (List.getElem?_eq_some_iff.1 hi).1
   unfold World.cell?
   rw [hg]
   have : (cur.toList.take (ns.length * 1))[i]? = some (Ur n) := by rw [htk, List.getElem?_map, hi]; rfl
   rw [List.getElem?_take_of_lt jp] at this
   simpa using this
end Go.Proofs.YtgjlbilcnlffgaaGreatDoor
namespace Go.Proofs.YtgjlbilcnlffgaaGreatDoor
open Go.RowKit
def ahO : List Nm.Bytes → List Nm.Bytes → Int
 | [], [] => 0
 | [], _ :: _ => -1
 | _ :: _, [] => 1
 | x :: xs, y :: ys => if Lib.compareBytes x y = 0 then ahO xs ys else Lib.compareBytes x y
def aiP (a b : List Nm.Bytes) : Int := ahO (Nm.lowL a).reverse (Nm.lowL b).reverse
def ajR (n m : Nm.Bytes) : Int := match Nm.nm n, Nm.nm m with | some a, some b => aiP a b | _, _ => 0
end Go.Proofs.YtgjlbilcnlffgaaGreatDoor
namespace Go.Proofs.YtgjlbilcnlffgaaGreatDoor
open Go.RowKit
def RowOf (w : World) (v : Value) (m size : Nat) (news : List Value) : Prop :=
 news.length = m * size ∧ (∀ u ∈ news, u.oneCell' = true) ∧ ((∃ c, v = .slice none 0 c ∧ m = 0) ∨ ∃ ad c, v = .slice (some ad) m c ∧ ∀ j u, news[j]? = some u → w.cell? (ad.add j) = some u)
variable {P : Program}
theorem VU (w : World) (base : Nat) (t ty e : TypeId) (i : TypeInfo) (size c : Nat) (ht : P.underlying t = some (.slice e)) (hi : P.info? e = some i)
 (v : Value) (n : Nat) (xs : List Value) (hown : w.ownsRow base e size v n xs) :
 (Builtin.append_ #[t, t] ty #[v, .slice none 0 c]).run P w = .ok v w := by
 rcases hown.2 with ⟨rfl, rfl⟩ | ⟨g, cap, cur, rfl, _, _, hnc, _⟩
 · simp [Builtin.append_, run_underlying ht, sizeOf, typeInfo, hi, Builtin.lenOf, Builtin.firstCells]
 · simp [Builtin.append_, run_underlying ht, sizeOf, typeInfo, hi, Builtin.lenOf, Builtin.firstCells, hnc, storeCells]
theorem afp (w : World) (base : Nat) (t ty e : TypeId) (i : TypeInfo) (z : Value) (size bytes : Nat) (ht : P.underlying t = some (.slice e)) (hi : P.info? e = some i) (hz : i.zero = some z)
 (hsize : i.size = size) (hby : i.bytes = bytes) (hzs : z.cells.size = size) (hsz : 0 < size)
 (v : Value) (n : Nat) (xs : List Value) (hown : w.ownsRow base e size v n xs) (x : Value) (m : Nat) (news : List Value) (hx : RowOf w x m size news)
 (h63 : n + m ≤ maxLen) (hbytes : (n + m) * bytes ≤ 140737488355328) (hbase : base ≤ w.heap.size) :
 ∃ v' w', (Builtin.append_ #[t, t] ty #[v, x]).run P w = .ok v' w' ∧ w'.ownsRow base e size v' (n + m) (xs ++ news) ∧ w.grownBy w' v.ownBlock := by
 obtain ⟨h1, h2, ⟨c, rfl, rfl⟩ | ⟨ad, c, rfl, h3⟩⟩ := hx
 · have : news = [] := List.eq_nil_of_length_eq_zero jp
   subst this
   exact ⟨v, w, VU w base t ty e i size c ht hi v n xs hown, by simpa using hown, ⟨rfl, rfl, rfl, Nat.le_refl _, fun _ _ _ => rfl⟩⟩
 · obtain ⟨v', w', r1, r2, r3, _⟩ := run_append_own w base t ty e i z size bytes ht hi hz hsize hby hzs hsz v n xs hown ad m c news h1 h3 h2 h63 hbytes hbase
   exact ⟨v', w', r1, r2, r3⟩
theorem agh {o : Oper} {a : Act} {w : World} {K : Act → World → Prop} {Q : Exit → Act → World → Prop} (s x : Operand) (t : TypeId)
 (ho : o.op = .call { callee := .builtin .append, args := #[s, x], argTypes := #[t, t] })
 (base : Nat) (e : TypeId) (i : TypeInfo) (z : Value) (size bytes : Nat) (ht : P.underlying t = some (.slice e)) (hi : P.info? e = some i) (hz : i.zero = some z)
 (hsize : i.size = size) (hby : i.bytes = bytes) (hzs : z.cells.size = size) (hsz : 0 < size)
 (v : Value) (n : Nat) (xs : List Value) (hs : a.eval s = v) (hown : w.ownsRow base e size v n xs) (xv : Value) (m : Nat) (news : List Value) (hx : a.eval x = xv) (hr : RowOf w xv m size news)
 (h63 : n + m ≤ maxLen) (hbytes : (n + m) * bytes ≤ 140737488355328) (hbase : base ≤ w.heap.size)
 (h : ∀ v' w', w'.ownsRow base e size v' (n + m) (xs ++ news) → w.grownBy w' v.ownBlock → K (a.put o.dst v') w') : o.wp P a w K Q := by
 obtain ⟨v', w', hrun, r1, r2⟩ := afp (P := P) w base t o.type e i z size bytes ht hi hz hsize hby hzs hsz v n xs hown xv m news hr h63 hbytes hbase
 unfold Oper.wp
 simp [execOp, ho, resolve, invoke, builtin, hs, hx, hrun, Result.andThen]
 exact h v' w' r1 r2
theorem wpList_app {ops : Array Oper} {rest : List Oper} {o : Oper} {a : Act} {w : World} {Q : Exit → Act → World → Prop} (hgd : o.guard = none) (s x : Operand) (t : TypeId)
 (ho : o.op = .call { callee := .builtin .append, args := #[s, x], argTypes := #[t, t] })
 (base : Nat) (e : TypeId) (i : TypeInfo) (z : Value) (size bytes : Nat) (ht : P.underlying t = some (.slice e)) (hi : P.info? e = some i) (hz : i.zero = some z)
 (hsize : i.size = size) (hby : i.bytes = bytes) (hzs : z.cells.size = size) (hsz : 0 < size)
 (v : Value) (n : Nat) (xs : List Value) (hs : a.eval s = v) (hown : w.ownsRow base e size v n xs) (xv : Value) (m : Nat) (news : List Value) (hx : a.eval x = xv) (hr : RowOf w xv m size news)
 (h63 : n + m ≤ maxLen) (hbytes : (n + m) * bytes ≤ 140737488355328) (hbase : base ≤ w.heap.size)
 (h : ∀ v' w', w'.ownsRow base e size v' (n + m) (xs ++ news) → w.grownBy w' v.ownBlock → wpList P ops Q rest (a.put o.dst v') w') : wpList P ops Q (o :: rest) a w :=
 wpList_plain hgd fun _ hK => agh s x t ho base e i z size bytes ht hi hz hsize hby hzs hsz v n xs hs hown xv m news hx hr h63 hbytes hbase fun v' w' h1 h2 => hK _ _ (h v' w' h1 h2)
theorem RowOf.below {w w' : World} {v : Value} {m size : Nat} {news : List Value} (h : RowOf w v m size news) (hb : ∀ a, w'.cell? a = w.cell? a ∨ w.cell? a = none) : RowOf w' v m size news := by
 obtain ⟨h1, h2, h3 | ⟨ad, c, h3, h4⟩⟩ := h
 · exact ⟨h1, h2, Or.inl h3⟩
 · refine ⟨h1, h2, Or.inr ⟨ad, c, h3, fun j u hj => ?_⟩⟩
   have := h4 j u hj
   rcases hb (ad.add j) with h | h
   · rw [h]; exact this
   · rw [h] at this; cases this
end Go.Proofs.YtgjlbilcnlffgaaGreatDoor
namespace Go.Proofs.YtgjlbilcnlffgaaGreatDoor
open Go.RowKit
def agi (n : Nm.Bytes) (w : World) (e : Ending) (w' : World) : Prop :=
 ∃ v, e = .returned (.tuple #[v, .bool (Nm.may n)]) ∧ w'.ownsRow w.heap.size 9 1 v (Nm.labels n).length ((Nm.labels n).map Ur) ∧ Below w.heap.size w w'
end Go.Proofs.YtgjlbilcnlffgaaGreatDoor
namespace Go.Proofs.YtgjlbilcnlffgaaGreatDoor
open Go.RowKit
def ajS (ls : List Nm.Bytes) : Nm.Bytes := ls.flatMap fun l => UInt8.ofNat l.length :: l
end Go.Proofs.YtgjlbilcnlffgaaGreatDoor
namespace Go.Proofs.YtgjlbilcnlffgaaGreatDoor
open Go.RowKit
def aiQ : Value → Nat
 | .string s => s.size
 | _ => 0
end Go.Proofs.YtgjlbilcnlffgaaGreatDoor
namespace Go.Proofs.YtgjlbilcnlffgaaGreatDoor
open Go.RowKit
section
variable {G : World} {L : ja} {P : Program}
theorem Spec.ofRow {f : FuncId} {args : Array Value} {e : TypeId} {sz m : Nat} {xs : List Value} (h : ∀ w, Calls P f args w fun en w' => ∃ v, en = .returned v ∧ w'.ownsRow w.heap.size e sz v m xs ∧ Below w.heap.size w w') :
 Spec P G f args L fun u M => ∃ B, Row e sz u m xs B ∧ M = B ++ L :=
 ⟨fun w hw => (h w).mono fun en w' ⟨v, h1, h2, h3⟩ => by
   have hL : Heap G w' L := ⟨hw.still.trans ⟨h3.os, h3.tape, h3.output, h3.size⟩, hw.nodup, fun p hp => (h3.block p.1 (hw.lt hp)).trans (hw.get p hp)⟩
   rcases h2.2 with ⟨q1, q2⟩ | ⟨g, cap, cur, q1, q2, q3, q4, q5, q6, q7⟩
   · exact ⟨v, _, h1, ⟨[], ⟨h2.1, Or.inl ⟨q1, q2, rfl⟩⟩, rfl⟩, hL⟩
   · refine ⟨v, _, h1, ⟨[(g, .cells cur e (0, 0))], ⟨h2.1, Or.inr ⟨g, cap, cur, q1, rfl, q4, q5, q6, q7⟩⟩, rfl⟩, hL.still, ?_, fun p hp => ?_⟩
     · show ((g : Nat) :: L.map (·.1)).Nodup
       rw [List.nodup_cons]
       refine ⟨fun hm => ?_, hL.nodup⟩
       obtain ⟨p, hp, he⟩ := List.mem_map.1 hm
       have := hw.lt hp
       omega
     · rcases List.mem_cons.1 hp with rfl | hp
       · exact q3
       · exact hL.get p hp⟩
end
variable {G : World} {L : ja}
theorem adD {l : Nm.Bytes} (h : l.length ≤ 1000000) : (bs l).size ≤ maxLen := by rw [kh]; unfold maxLen; omega
theorem jI (l : Nm.Bytes) (h : l.length ≤ 1000000) : Spec Tryz.prog G 85 #[.string (bs l)] L fun u M => u = .bool (Nm.may l) ∧ M = L := Spec.ofSame fun w => VT (bs l) w (adD h)
theorem jC (l : Nm.Bytes) (h : l.length ≤ 1000000) : Spec Tryz.prog G 118 #[.string (bs l)] L fun u M => u = .string (bs (Nm.fold l)) ∧ M = L := Spec.ofBelow fun w => adC (bs l) w (adD h)
theorem adE (n : Nm.Bytes) (ls : List Nm.Bytes) (h : Nm.nm n = some ls) : Spec Tryz.prog G 86 #[.string (bs n)] L fun u M => ∃ B, Row 9 1 u ls.length (ls.map jZ) B ∧ M = B ++ L :=
 Spec.ofRow fun w => by
  obtain ⟨h1, h2, h3⟩ := Nm.nm_iff.1 h
  exact ZK (bs n) ls w h1 h2 (by rw [kh]; exact h3)
end Go.Proofs.YtgjlbilcnlffgaaGreatDoor
namespace Go.Proofs.YtgjlbilcnlffgaaGreatDoor
open Go.RowKit
def VV (l : Nm.Bytes) : Nm.Bytes := l.flatMap wr ++ [46]
def kD (ls : List Nm.Bytes) : Nm.Bytes := ls.flatMap VV
def qB (n : Nm.Bytes) : Nm.Bytes := match Nm.nm n with
 | none => []
 | some [] => [46]
 | some ls => kD ls
theorem agj (c : UInt8) : 1 ≤ (wr c).length ∧ (wr c).length ≤ 4 := by
 unfold wr; split
 · simp
 · split <;> simp
theorem KN (l : Nm.Bytes) : (l.flatMap wr).length ≤ 4 * l.length := by
 induction l with
 | nil => simp
 | cons c l ih => have := agj c; rw [List.flatMap_cons, List.length_append, List.length_cons]; omega
theorem UU (ls : List Nm.Bytes) : (kD ls).length ≤ 4 * jM ls := by
 induction ls with
 | nil => simp [kD]
 | cons l ls ih =>
   have := KN l
   rw [qa]
   simp only [kD, List.flatMap_cons, List.length_append, VV, List.length_singleton] at ih ⊢
   omega
theorem ZL (ls : List Nm.Bytes) (l : Nm.Bytes) : kD (ls ++ [l]) = kD ls ++ VV l := by simp [kD]
theorem aaF {n : Nm.Bytes} (h : Nm.nm n = some []) : n = [0] := (Nm.nm_iff.1 h).1
theorem Yy {n : Nm.Bytes} {l : Nm.Bytes} {ls : List Nm.Bytes} (h : Nm.nm n = some (l :: ls)) : n ≠ [0] := by
 obtain ⟨h1, h2, _⟩ := Nm.nm_iff.1 h
 intro e
 rw [e] at h1
 have := (Nm.ok_cons.1 h2).1.1
 simp [Nm.enc] at h1
 rw [h1.2.1] at this
 simp at this
theorem ZM {n : Nm.Bytes} {ls : List Nm.Bytes} (h : Nm.nm n = some ls) : jM ls ≤ 254 := by
 obtain ⟨h1, _, h3⟩ := Nm.nm_iff.1 h
 have := Nm.enc_length ls
 rw [← h1] at this
 unfold jM
 omega
theorem agk {n : Nm.Bytes} {ls : List Nm.Bytes} (h : Nm.nm n = some ls) : ls.length ≤ 254 := by
 obtain ⟨h1, _, h3⟩ := Nm.nm_iff.1 h
 have := Nm.length_lt_enc ls
 rw [← h1] at this
 omega
theorem jk {G : World} {L : ja} (n : Nm.Bytes) (hn : n.length ≤ 1000000) :
 Spec Tryz.prog G 55 #[.string (bs n)] L fun u M => u = .string (bs (qB n)) ∧ M = L := by
 cases hnm : Nm.nm n with
 | none =>
   refine jw (n := 32) Tryz.func55 rfl rfl rfl ?_
   repeat (first | refine goC ?_ | (refine jz ?_; intro bNew))
   refine jl (jc jf rfl (jI n hn)) rfl ?_
   rw [Nm.may_none hnm]
   repeat (first | refine goC ?_ | (refine jz ?_; intro bNew))
   refine jq 2 _ rfl rfl ?_
   exact ⟨by simp [qB, hnm]; rfl, rfl⟩
 | some ls0 =>
   cases ls0 with
   | nil =>
     have e1 : (n == [0]) = true := by simpa using aaF hnm
     refine jw (n := 32) Tryz.func55 rfl rfl rfl ?_
     repeat (first | refine goC ?_ | (refine jz ?_; intro bNew))
     refine jl (jc jf rfl (jI n hn)) rfl ?_
     rw [Nm.may_some hnm]
     repeat (first | refine goC ?_ | (refine jz ?_; intro bNew))
     refine jq 2 _ rfl rfl ?_
     exact ⟨by simp [qB, hnm]; rfl, rfl⟩
   | cons l0 r0 =>
     have e1 : (n == [0]) = false := by simpa using Yy hnm
     obtain ⟨ls, hls⟩ : ∃ ls, ls = l0 :: r0 := ⟨_, rfl⟩
     have hT : qB n = kD ls := by simp only [qB, hnm]; rw [hls]
     have hne : kD ls ≠ [] := by rw [hls]; simp [kD, VV]
     rw [← hls] at hnm
     have hsum := ZM hnm
     have hfew := agk hnm
     clear hls
     refine jw (n := 32) Tryz.func55 rfl rfl rfl ?_
     repeat (first | refine goC ?_ | (refine jz ?_; intro bNew))
     refine jl (jc jf rfl (jI n hn)) rfl ?_
     rw [Nm.may_some hnm]
     repeat (first | refine goC ?_ | (refine jz ?_; intro bNew))
     refine jT (jc jf rfl (adE n ls hnm)) rfl ?_
     rintro v1 _ ⟨B1, hR1, rfl⟩
     obtain ⟨a1, c1, rfl⟩ := hR1.slice
     have hrow := hR1.strRow (L := B1) (fun p hp => hp)
     obtain ⟨a, cap, hveq, hcells⟩ := id hrow
     cases hveq
     repeat (first | refine goC ?_ | (refine jz ?_; intro bNew))
     refine kv (σ := Nat × ja) (fun x => x.1 ≤ ls.length ∧ BuildRep bNew (kD (ls.take x.1)) x.2)
      (fun x => [(3, .pointer (some ⟨bNew, 0, none⟩)), (13, .slice a1 ls.length c1), (14, .int .i64 (ls.length : Nat)), (15, .int .i64 (x.1 : Nat))]) (fun x => x.2 ++ (B1 ++ L)) (fun x => ls.length - x.1) (0, [(bNew, .cells #[.pointer none, .slice none 0 0] 80 (0, 0))]) ⟨by omega, ⟨_, _, [], Or.inl rfl, Row.nil _ _, rfl⟩⟩ ?_ (fun _ h => h.perm List.perm_middle) ?_
     exact qd
     rintro ⟨k, B⟩ ⟨hk, hrep⟩
     dsimp only at hk hrep
     have hlenk := UU (ls.take k)
     have hsumk := uE ls k
     by_cases hlt : k < ls.length
     · obtain rfl | ⟨b, off, C, te, fr, rfl, hm, hc⟩ := hcells
       · simp at hlt
       obtain ⟨l, hlk⟩ : ∃ l, ls[k]? = some l := ⟨_, List.getElem?_eq_getElem hlt⟩
       have hcell := hc k l hlk
       have htk : ls.take (k + 1) = ls.take k ++ [l] := by rw [List.take_add_one, hlk]; rfl
       have hll : l.length ≤ 254 := by
        have := uE ls (k + 1)
        rw [htk, qm, qa] at this
        omega
       have d1 : decide ((k : Int) < (ls.length : Int)) = true := decide_eq_true jp
       have hm' : (b, Obj.cells C te fr) ∈ B ++ (B1 ++ L) := List.mem_append_right _ (List.mem_append_left _ hm)
       repeat (first | refine goC ?_ | (refine jz ?_; intro bNew))
       refine kv (σ := Nat × ja) (fun x => x.1 ≤ l.length ∧ BuildRep bNew (kD (ls.take k) ++ (l.take x.1).flatMap wr) x.2)
        (fun x => [(3, .pointer (some ⟨bNew, 0, none⟩)), (5, .string (bs l)), (6, .int .i64 (x.1 : Nat)), (13, .slice (some ⟨b, off, none⟩) ls.length c1), (14, .int .i64 (ls.length : Nat)), (15, .int .i64 (k : Nat))]) (fun x => x.2 ++ (B1 ++ L)) (fun x => l.length - x.1) (0, B) ⟨by omega, by simpa using hrep⟩ ?_ (fun _ h => h) ?_
       exact qd
       rintro ⟨i, B2⟩ ⟨hi, hrep2⟩
       dsimp only at hi hrep2
       have hlen2 := KN (l.take i)
       have hlen3 : (l.take i).length ≤ i := List.length_take_le _ _
       by_cases hil : i < l.length
       · obtain ⟨c, hc2⟩ : ∃ c, l[i]? = some c := ⟨_, List.getElem?_eq_getElem hil⟩
         have hc3 : l[((i : Nat) : Int).toNat]? = some c := hc2
         have hti : l.take (i + 1) = l.take i ++ [c] := by rw [List.take_add_one, hc2]; rfl
         have d2 : decide ((i : Int) < (l.length : Int)) = true := decide_eq_true jp
         repeat (first | refine goC ?_ | (refine jz ?_; intro bNew))
         refine jT (jc jf rfl (ZJ bNew _ B2 c hrep2 (by rw [List.length_append]; omega))) rfl ?_
         rintro _ _ ⟨B3, hB3, rfl⟩
         repeat (first | refine goC ?_ | (refine jz ?_; intro bNew))
         refine jG (i + 1, B3) ⟨by omega, ?_⟩ ?_ (fun _ h => h) jp
         · rw [hti, List.flatMap_append, ← List.append_assoc]; simpa using hB3
         exact qd
       · have hie : i = l.length := by omega
         subst hie
         rw [List.take_length] at hrep2
         have d2 : decide ((l.length : Int) < (l.length : Int)) = false := by simp
         repeat (first | refine goC ?_ | (refine jz ?_; intro bNew))
         refine jT (jc jf rfl (jF bNew _ B2 46 hrep2 (by rw [List.take_length] at hlen2; rw [List.length_append]; omega))) rfl ?_
         rintro _ _ ⟨rfl, B3, hB3, rfl⟩
         repeat (first | refine goC ?_ | (refine jz ?_; intro bNew))
         refine jG (k + 1, B3) ⟨by omega, ?_⟩ ?_ (fun _ h => h) jp
         · rw [htk, ZL]; simpa [VV] using hB3
         exact qd
     · have hkl : k = ls.length := by omega
       subst hkl
       rw [List.take_length] at hrep
       have d1 : decide ((ls.length : Int) < (ls.length : Int)) = false := by simp
       repeat (first | refine goC ?_ | (refine jz ?_; intro bNew))
       refine jl (jc jf rfl (Yu bNew _ B hrep hne)) rfl ?_
       repeat (first | refine goC ?_ | (refine jz ?_; intro bNew))
       refine jr (fun w h => h.sub (List.sublist_append_right _ _)) ?_
       refine jq 2 _ rfl rfl ?_
       exact ⟨by rw [hT], rfl⟩
end Go.Proofs.YtgjlbilcnlffgaaGreatDoor
namespace Go.Proofs.YtgjlbilcnlffgaaGreatDoor
open Go.RowKit
theorem agl (s : Scan) (he : s.esc = 0) (c : UInt8) : ∃ v, qZ s (wr c) = some { s with label := s.label ++ [c], val := v } := by
 obtain ⟨ls, lb, esc, val⟩ := s
 simp only at he
 subst he
 have hc := c.toNat_lt
 have t92 : ∀ (ls : List Nm.Bytes) (lb : Nm.Bytes) (v : Nat), ka ⟨ls, lb, 0, v⟩ 92 = (true, ⟨ls, lb, 1, 0⟩) := fun ls lb v => by simp [ka]
 unfold wr
 split
 · rename_i h
   have hn : isDig c.toNat = false := by simp [isDig]; omega
   have t2 : ka ⟨ls, lb, 1, 0⟩ c.toNat = (true, ⟨ls, lb ++ [c], 0, 0⟩) := by
    unfold ka
    rw [if_neg jp, if_pos (by simp)]
    simp [kR, hn]
   refine ⟨0, ?_⟩
   simp only [qZ]
   rw [show ((92 : UInt8).toNat) = 92 from rfl, t92]
   simp only [if_true]
   rw [t2]
   simp
 · rename_i h
   split
   · rename_i h2
     obtain ⟨d1, hd1⟩ : ∃ d, d = c.toNat / 100 := ⟨_, rfl⟩
     obtain ⟨d2, hd2⟩ : ∃ d, d = c.toNat / 10 % 10 := ⟨_, rfl⟩
     obtain ⟨d3, hd3⟩ : ∃ d, d = c.toNat % 10 := ⟨_, rfl⟩
     have hsum : (d1 * 10 + d2) * 10 + d3 = c.toNat := by omega
     have b1 : d1 ≤ 2 := by omega
     have b2 : d2 ≤ 9 := by omega
     have b3 : d3 ≤ 9 := by omega
     rw [← hd1, ← hd2, ← hd3]
     have e : ∀ d, d ≤ 9 → (UInt8.ofNat (48 + d)).toNat = 48 + d := fun d hd => by simp; omega
     have dg : ∀ d, d ≤ 9 → isDig (48 + d) = true := fun d hd => by simp [isDig]; omega
     have tk : ∀ (d : Nat) (hd : d ≤ 9) (s : Scan), 0 < s.esc → ka s (48 + d) = kR s (48 + d) := fun d hd s hs => by
      unfold ka; rw [if_neg jp, if_pos hs]
     refine ⟨c.toNat, ?_⟩
     simp only [qZ]
     rw [show ((92 : UInt8).toNat) = 92 from rfl, t92]
     simp only [if_true]
     rw [e d1 jp, tk d1 jp _ (by simp)]
     have x1 : kR ⟨ls, lb, 1, 0⟩ (48 + d1) = (true, ⟨ls, lb, 2, d1⟩) := by simp [kR, dg d1 jp]
     rw [x1]
     simp only [if_true]
     rw [e d2 b2, tk d2 b2 _ (by simp)]
     have x2 : kR ⟨ls, lb, 2, d1⟩ (48 + d2) = (true, ⟨ls, lb, 3, d1 * 10 + d2⟩) := by simp [kR, dg d2 b2]
     rw [x2]
     simp only [if_true]
     rw [e d3 b3, tk d3 b3 _ (by simp)]
     have x3 : kR ⟨ls, lb, 3, d1 * 10 + d2⟩ (48 + d3) = (true, ⟨ls, lb ++ [c], 0, c.toNat⟩) := by
      unfold kR
      rw [if_pos (dg d3 b3), if_neg (by simp), if_neg (by simp; omega)]
      have : (d1 * 10 + d2) * 10 + (48 + d3 - 48) = c.toNat := by omega
      simp only [this]
      simp
     rw [x3]
     simp
   · rename_i h2
     refine ⟨val, ?_⟩
     have t1 : ka ⟨ls, lb, 0, val⟩ c.toNat = (true, ⟨ls, lb ++ [c], 0, val⟩) := by
      unfold ka
      rw [if_neg h2, if_neg (by simp), if_neg jp, if_neg jp]
      simp
     simp only [qZ]
     rw [t1]
     simp
theorem UV : ∀ (l : Nm.Bytes) (s : Scan), s.esc = 0 → ∃ v, qZ s (l.flatMap wr) = some { s with label := s.label ++ l, val := v }
 | [], s, h => ⟨s.val, by simp [qZ]⟩
 | c :: l, s, h => by
   obtain ⟨v, hv⟩ := agl s h c
   obtain ⟨v2, hv2⟩ := UV l { s with label := s.label ++ [c], val := v } h
   refine ⟨v2, ?_⟩
   rw [List.flatMap_cons, qV, hv]
   simp only [Option.bind_some]
   rw [hv2]
   simp
theorem Yz : ∀ (ls : List Nm.Bytes) (acc : List Nm.Bytes) (v : Nat), (∀ l ∈ ls, l ≠ []) → ∃ v', qZ ⟨acc, [], 0, v⟩ (kD ls) = some ⟨acc ++ ls, [], 0, v'⟩
 | [], acc, v, _ => ⟨v, by simp [kD, qZ]⟩
 | l :: ls, acc, v, h => by
   obtain ⟨v1, h1⟩ := UV l ⟨acc, [], 0, v⟩ rfl
   obtain ⟨v2, h2⟩ := Yz ls (acc ++ [l]) v1 (fun x hx => h x (List.mem_cons_of_mem _ hx))
   refine ⟨v2, ?_⟩
   have hl : l ≠ [] := h l (List.mem_cons_self ..)
   have t46 : ka ⟨acc, l, 0, v1⟩ 46 = (true, ⟨acc ++ [l], [], 0, v1⟩) := by simp [ka, hl]
   have e : kD (l :: ls) = l.flatMap wr ++ (46 :: kD ls) := by simp [kD, VV]
   rw [e, qV, h1]
   simp only [Option.bind_some, List.nil_append, qZ]
   rw [show ((46 : UInt8).toNat) = 46 from rfl, t46]
   simp only [if_true]
   rw [h2]
   simp
theorem ZN {ls : List Nm.Bytes} (h : ∀ l ∈ ls, l ≠ []) (h0 : ls ≠ []) : q9 (kD ls) = some ls := by
 obtain ⟨v, hv⟩ := Yz ls [] 0 h
 unfold q9
 rw [show UT = ⟨[], [], 0, 0⟩ from rfl, hv]
 simp [yC, h0]
theorem agm {ls : List Nm.Bytes} (h : Nm.Ok ls) : ls.all uS = true := List.all_eq_true.2 fun l hl => by have := h l hl; simp [uS]; omega
theorem agn {ls : List Nm.Bytes} (h : ls.all uS = true) : Nm.Ok ls := fun l hl => by have := List.all_eq_true.1 h l hl; simp [uS] at this; omega
theorem abQ {n : Nm.Bytes} {ls : List Nm.Bytes} (h : Nm.nm n = some ls) : qD ls = 0 ∧ z2 ls = n := by
 obtain ⟨h1, h2, h3⟩ := Nm.nm_iff.1 h
 have hs := ZM h
 have hE : qD ls = 0 := by unfold qD; rw [if_pos (agm h2), if_neg jp]
 exact ⟨hE, by unfold z2; rw [if_pos hE, h1]⟩
theorem abR {ls : List Nm.Bytes} (h : qD ls = 0) : Nm.nm (Nm.enc ls) = some ls := by
 unfold qD at h
 split at h
 · rename_i h1
   split at h
   · simp at h
   · rename_i h2
     refine Nm.nm_iff.2 ⟨rfl, agn h1, ?_⟩
     rw [Nm.enc_length]
     unfold jM at h2
     omega
 · simp at h
theorem adF : ∀ {ls : List Nm.Bytes}, ls ≠ [] → ∃ t, kD ls = t ++ [46]
 | [], h => absurd rfl h
 | [l], _ => ⟨l.flatMap wr, by simp [kD, VV]⟩
 | l :: x :: ls, _ => by
   obtain ⟨t, ht⟩ := adF (ls := x :: ls) (by simp)
   refine ⟨VV l ++ t, ?_⟩
   have : kD (l :: x :: ls) = VV l ++ kD (x :: ls) := by simp [kD]
   rw [this, ht, List.append_assoc]
theorem UW {n : Nm.Bytes} {l : Nm.Bytes} {ls : List Nm.Bytes} (h : Nm.nm n = some (l :: ls)) : qB n = kD (l :: ls) := by simp [qB, h]
theorem QZ {n : Nm.Bytes} (h : Nm.may n = true) : jY (qB n) = n ∧ q8 (qB n) = 0 ∧ (qB n).length ≤ 2000 ∧ ∃ t, qB n = t ++ [46] := by
 obtain ⟨ls, hls⟩ := Nm.nm_of_may h
 cases ls with
 | nil =>
   have e : qB n = [46] := by simp [qB, hls]
   have := aaF hls
   rw [e]
   exact ⟨by rw [this]; rfl, rfl, by decide, [], rfl⟩
 | cons l r =>
   have e := UW hls
   have hne : ∀ x ∈ l :: r, x ≠ [] := fun x hx e => by have := ((Nm.nm_iff.1 hls).2.1 x hx).1; rw [e] at this; simp at this
   have hT := ZN hne (by simp)
   have hnot : kD (l :: r) ≠ [46] := by
    intro e1
    rw [e1] at hT
    have : q9 [46] = none := by decide
    rw [this] at hT
    cases hT
   have hany : (l :: r).any (fun l => decide (63 < l.length)) = false := List.any_eq_false.2 fun x hx => by have := ((Nm.nm_iff.1 hls).2.1 x hx).2; simp; omega
   obtain ⟨j1, j2⟩ := abQ hls
   have hlen := UU (l :: r)
   have hs := ZM hls
   rw [e]
   refine ⟨?_, ?_, by omega, adF (by simp)⟩
   · unfold jY; rw [if_neg hnot, hT]; simp only [hany]; exact j2
   · unfold q8; rw [if_neg hnot, hT]; simp only [hany]; exact j1
theorem UX {t : Nm.Bytes} (h : q8 t = 0) : Nm.may (jY t) = true := by
 unfold q8 at h
 unfold jY
 split
 · decide
 · rename_i h1
   rw [if_neg h1] at h
   cases hT : q9 t with
   | none => rw [hT] at h; simp at h
   | some ls =>
     rw [hT] at h
     simp only at h ⊢
     split
     · rename_i h2; rw [if_pos h2] at h; simp at h
     · rename_i h2
       rw [if_neg h2] at h
       unfold z2
       rw [if_pos h]
       exact Nm.may_some (abR h)
end Go.Proofs.YtgjlbilcnlffgaaGreatDoor
namespace Go.Proofs.YtgjlbilcnlffgaaGreatDoor
open Go.RowKit
def ag7 (t : Nm.Bytes) (k : Nat) (c : UInt8) (n : Nat) : Prop :=
 (n = 0 ∧ ∀ s : Scan, s.esc = 0 → ∀ s', qZ s (t.drop k) = some s' → 0 < s'.esc) ∨
 (1 ≤ n ∧ k + n ≤ t.length ∧ ∀ s : Scan, s.esc = 0 → ∃ v, qZ s ((t.drop k).take n) = some { s with label := s.label ++ [c], val := v })
section
variable {t : Nm.Bytes} {k : Nat} {c d d2 d3 : UInt8}
end
end Go.Proofs.YtgjlbilcnlffgaaGreatDoor
namespace Go.Proofs.YtgjlbilcnlffgaaGreatDoor
open Go.RowKit
def aiR (c : UInt8) (n : Nat) : Value := .tuple #[.int .u8 (c.toNat : Int), .int .i64 (n : Nat)]
end Go.Proofs.YtgjlbilcnlffgaaGreatDoor
namespace Go.Proofs.YtgjlbilcnlffgaaGreatDoor
open Go.RowKit
theorem Spec.ofBelowH {P : Program} {G : World} {L : ja} {f : FuncId} {args : Array Value} {v : Value} (h : ∀ w, Heap G w L → Calls P f args w fun e w' => e = .returned v ∧ Below w.heap.size w w') : Spec P G f args L fun u L' => u = v ∧ L' = L :=
 ⟨fun w hw => (h w hw).mono fun _ w' ⟨h1, h2⟩ => ⟨v, L, h1, ⟨rfl, rfl⟩, hw.still.trans ⟨h2.os, h2.tape, h2.output, h2.size⟩, hw.nodup, fun p hp => (h2.block p.1 (hw.lt hp)).trans (hw.get p hp)⟩⟩
end Go.Proofs.YtgjlbilcnlffgaaGreatDoor
namespace Go.Proofs.YtgjlbilcnlffgaaGreatDoor
open Go.RowKit
structure Cmps {α : Type} (c : α → α → Int) : Prop where
 zero : ∀ a b, c a b = 0 ↔ a = b
 anti : ∀ a b, c b a = - c a b
 lo : ∀ a b, -1 ≤ c a b
 trans : ∀ a b d, c a b ≤ 0 → c b d ≤ 0 → c a d ≤ 0
theorem Cmps.hi {α : Type} {c : α → α → Int} (h : Cmps c) (a b : α) : c a b ≤ 1 := by have := h.anti b a; have := h.lo b a; omega
def aiS {α : Type} (c : α → α → Int) : List α → List α → Int
 | [], [] => 0
 | [], _ :: _ => -1
 | _ :: _, [] => 1
 | x :: xs, y :: ys => if c x y = 0 then aiS c xs ys else c x y
def ajD (a b : UInt8) : Int := if a < b then -1 else if b < a then 1 else 0
def ajT (n : Nm.Bytes) : List Nm.Bytes := (Nm.lowL (Nm.labels n)).reverse
end Go.Proofs.YtgjlbilcnlffgaaGreatDoor
namespace Go.Proofs.YtgjlbilcnlffgaaGreatDoor
open Go.RowKit
def ajU (c : UInt8) : Nm.Bytes := [UInt8.ofNat (48 + c.toNat / 100), UInt8.ofNat (48 + c.toNat / 10 % 10), UInt8.ofNat (48 + c.toNat % 10)]
end Go.Proofs.YtgjlbilcnlffgaaGreatDoor
namespace Go.Proofs.YtgjlbilcnlffgaaGreatDoor
open Go.RowKit
open Cn (Zo Cf)
def zoR : Rp Zo := fun _ cs z => cs = [.string (bs z.name), .int .u8 z.pol, .int .u16 z.tru] ∧ z.name.length ≤ maxLen ∧ z.pol ≤ 255 ∧ z.tru ≤ 65535
theorem VW : Y4 zoR := fun _ _ _ _ _ h => h
theorem zoR.len {L : ja} {cs : List Value} {z : Zo} (h : zoR L cs z) : cs.length = 3 := by obtain ⟨rfl, _⟩ := h; rfl
theorem zoR.one {L : ja} {cs : List Value} {z : Zo} (h : zoR L cs z) : ∀ v ∈ cs, v.oneCell' = true := by
 obtain ⟨rfl, _⟩ := h
 intro v hv
 simp only [List.mem_cons, List.not_mem_nil, or_false] at hv
 rcases hv with rfl | rfl | rfl <;> rfl
instance : Inhabited Zo := ⟨⟨[], 0, 0⟩⟩
instance : Inhabited Cf := ⟨Cn.zeroC⟩
def jA (c : Cf) (v : Value) : List Value := [.int .i64 c.ups, .int .i64 c.ded, .int .i64 c.hdg, .int .i64 c.wai, .int .i64 c.tri, .int .i64 c.res, .int .i64 c.lim, .int .i64 c.cac, .int .i64 c.fli, .int .i64 c.wtr, .int .i64 c.ttl, .int .i64 c.siz, v]
def I64 (n : Int) : Prop := -9223372036854775808 ≤ n ∧ n ≤ 9223372036854775807
structure CfIn (c : Cf) : Prop where
 ups : I64 c.ups
 ded : I64 c.ded
 hdg : I64 c.hdg
 wai : I64 c.wai
 tri : I64 c.tri
 res : I64 c.res
 lim : I64 c.lim
 cac : I64 c.cac
 fli : I64 c.fli
 wtr : I64 c.wtr
 ttl : I64 c.ttl
 siz : I64 c.siz
def cfR : Rp Cf := fun L cs c => ∃ v, cs = jA c v ∧ sliceR 3 zoR L [v] c.zs ∧ CfIn c
theorem cfR.len {L : ja} {cs : List Value} {c : Cf} (h : cfR L cs c) : cs.length = 13 := by obtain ⟨v, rfl, _⟩ := h; rfl
end Go.Proofs.YtgjlbilcnlffgaaGreatDoor
namespace Go.Proofs.YtgjlbilcnlffgaaGreatDoor
open Go.RowKit
open Cn (Zo Cf)
variable {G : World} {L : ja}
structure Glob (L : ja) : Prop where
 len : ∃ m t fr, (2, Obj.cells #[Value.int .i64 m] t fr) ∈ L
 pow : ∃ t fr, (1, Obj.cells (Lib.pow10Tab.map (Value.int .u64)).toArray t fr) ∈ L
 words : ∃ t fr, (0, Obj.cells (Cn.words12.map jZ).toArray t fr) ∈ L
theorem Glob.mono {L' : ja} (h : Glob L) (hs : ∀ p ∈ L, p ∈ L') : Glob L' := by
 obtain ⟨⟨m, t, fr, h1⟩, ⟨t2, fr2, h2⟩, ⟨t3, fr3, h3⟩⟩ := h
 exact ⟨⟨m, t, fr, hs _ h1⟩, ⟨t2, fr2, hs _ h2⟩, ⟨t3, fr3, hs _ h3⟩⟩
theorem ZO (c : UInt8) (s : List UInt8) : c ∉ s ∨ ∃ l r, s = l ++ c :: r ∧ c ∉ l := by
 induction s with
 | nil => left; simp
 | cons a t ih =>
   by_cases ha : a = c
   · subst ha; exact Or.inr ⟨[], t, rfl, by simp⟩
   · rcases ih with h | ⟨l, r, rfl, h⟩
     · left; simp only [List.mem_cons, not_or]; exact ⟨fun k => ha k.symm, h⟩
     · right; exact ⟨a :: l, r, rfl, by simp only [List.mem_cons, not_or]; exact ⟨fun k => ha k.symm, h⟩⟩
theorem Q0 {c : UInt8} : ∀ {s : List UInt8}, c ∉ s → Lib.index s [c] = -1
 | [], _ => rfl
 | a :: t, h => by
   simp only [List.mem_cons, not_or] at h
   rw [Lib.index, if_neg (by simp [h.1]), Q0 h.2]
   rfl
theorem Q1 {c : UInt8} {r : List UInt8} : ∀ {l : List UInt8}, c ∉ l → Lib.index (l ++ c :: r) [c] = (l.length : Int)
 | [], _ => by rw [List.nil_append, Lib.index, if_pos (by simp)]; rfl
 | a :: l, h => by
   simp only [List.mem_cons, not_or] at h
   rw [List.cons_append, Lib.index, if_neg (by simp [h.1]), Q1 h.2, if_neg (by intro k; have := beq_iff_eq.1 k; omega)]
   rfl
theorem abS {c : UInt8} {s : List UInt8} (h : c ∉ s) : Lib.indexB (bs s) (bs [c]) = -1 := Q0 h
theorem UY {c : UInt8} {l r : List UInt8} (h : c ∉ l) : Lib.indexB (bs (l ++ c :: r)) (bs [c]) = (l.length : Nat) := Q1 h
theorem ago (l r : List UInt8) (c : UInt8) : (bs (l ++ c :: r)).extract (l.length + (bs [c]).size) (bs (l ++ c :: r)).size = bs r ∧ (bs (l ++ c :: r)).extract 0 (l.length + 0) = bs l := by
 constructor
 · apply ByteArray.ext
   apply Array.toList_inj.1
   rw [Lib.extract_data]
   simp [bs, ByteArray.size]
   exact List.take_of_length_le jp
 · apply ByteArray.ext
   apply Array.toList_inj.1
   rw [Lib.extract_data]
   simp [bs]
theorem UZ (c : UInt8) (s : List UInt8) : Lib.splitB (bs [c]) 0 (Lib.countB (bs s) (bs [c])) (bs s) = (Cn.spl c s).map bs := by
 generalize hn : s.length = n
 induction n using Nat.strongRecOn generalizing s with
 | _ n ih =>
   rcases ZO c s with h | ⟨l, r, rfl, h⟩
   · rw [Lib.countB_miss _ _ (abS h), Lib.splitB_zero, Cn.spl_none h]; rfl
   · have e := ago l r c
     rw [Lib.countB_hit (bs (l ++ c :: r)) (bs [c]) l.length (Nat.le_refl 1) (UY h), Nat.add_comm 1, Lib.splitB_hit _ _ _ _ _ (UY h), e.1, e.2, ih r.length (by subst hn; simp; omega) r rfl, Cn.spl_at h]
     rfl
theorem aaG (s : List UInt8) (hs : s.length ≤ 1000000) (hg : Glob L) : Spec Tryz.prog G 23 #[.string (bs s), .string (bs [32])] L fun u M => ∃ b, u = .slice (some ⟨b, 0, none⟩) (Cn.spl 32 s).length (Cn.spl 32 s).length ∧ M = (b, .cells ((Cn.spl 32 s).map jZ).toArray 9 (0, 0)) :: L := by
 refine ⟨fun w hw => ?_⟩
 obtain ⟨m, t, fr, hp⟩ := hg.len
 have hm : w.cell? ⟨2, 0, none⟩ = some (.int .i64 m) := by
  have h2 : w.heap[2]? = some (Obj.cells #[Value.int .i64 m] t fr) := hw.get _ hp
  simp [World.cell?, h2]
 have hl := Lib.splitB_all (bs [32]) (by decide) 0 _ (bs s) rfl
 rw [UZ, List.length_map] at hl
 refine (Tryz.strings_Split (bs s) (bs [32]) m w (by rw [kh]; omega) hm (by decide)).mono fun e w' ⟨he, hw'⟩ => ?_
 rw [UZ] at hw'
 subst hw'
 refine ⟨_, _, he, ⟨w.heap.size, by rw [hl], rfl⟩, ?_⟩
 have := hw.alloc (.cells ((Cn.spl 32 s).map jZ).toArray 9 (0, 0))
 rw [List.map_map]
 exact this
theorem aaH (s : List UInt8) (hs : s.length ≤ 1000000) (hg : Glob L) : Spec Tryz.prog G 44 #[.string (bs s), .string (bs [10])] L fun u M => u = .tuple #[.string (bs (Lib.cut s [10]).1), .string (bs (Lib.cut s [10]).2.1), .bool (Lib.cut s [10]).2.2] ∧ M = L := by
 refine Spec.ofBelowH fun w hw => ?_
 obtain ⟨m, t, fr, hp⟩ := hg.len
 have hm : w.cell? ⟨2, 0, none⟩ = some (.int .i64 m) := by
  have h2 : w.heap[2]? = some (Obj.cells #[Value.int .i64 m] t fr) := hw.get _ hp
  simp [World.cell?, h2]
 refine (Tryz.strings_Cut (bs s) (bs [10]) m w (by rw [kh]; omega) hm).mono fun e w' ⟨he, k, hw'⟩ => ⟨he, ?_⟩
 subst hw'
 exact below_drewN (Below.refl _ w) k
theorem adG {s : List UInt8} (h : (10 : UInt8) ∉ s) : Lib.cut s [10] = (s, [], false) := by unfold Lib.cut; rw [Q0 h]; rfl
theorem aaI {l r : List UInt8} (h : (10 : UInt8) ∉ l) : Lib.cut (l ++ 10 :: r) [10] = (l, r, true) := by
 unfold Lib.cut
 rw [Q1 h, if_pos jp]
 simp
end Go.Proofs.YtgjlbilcnlffgaaGreatDoor
namespace Go.Proofs.YtgjlbilcnlffgaaGreatDoor
open Go.RowKit
open Cn (Zo Cf)
variable {G : World} {L : ja}
theorem jD (n lo hi : Int) : Spec Tryz.prog G 117 #[.int .i64 n, .int .i64 lo, .int .i64 hi] L fun u M => u = .bool (decide (lo ≤ n ∧ n ≤ hi)) ∧ M = L := by
 refine jw (n := 15) Tryz.func117 rfl rfl rfl ?_
 by_cases h1 : lo ≤ n
 · by_cases h2 : n ≤ hi
   · rw [decide_eq_true ⟨h1, h2⟩]
     refine goA ?_
     refine jq 6 _ rfl rfl ?_
     exact ⟨by rw [decide_eq_true h2], rfl⟩
   · rw [decide_eq_false (fun k => h2 k.2)]
     refine goA ?_
     refine jq 6 _ rfl rfl ?_
     exact ⟨by rw [decide_eq_false h2], rfl⟩
 · rw [decide_eq_false (fun k => h1 k.1)]
   refine goA ?_
   refine jq 6 _ rfl rfl ?_
   exact ⟨rfl, rfl⟩
section
variable {P : Program} {n : Nat} {ρ : jh} {ty : TypeId}
end
end Go.Proofs.YtgjlbilcnlffgaaGreatDoor
namespace Go.Proofs.YtgjlbilcnlffgaaGreatDoor
open Go.RowKit
theorem agp {n : Nat} (h : n < 65536) : IntKind.wrap .u16 (n : Int) = n := by
 unfold IntKind.wrap
 simp [IntKind.signed, IntKind.bits]
 omega
theorem aaJ {n : Nat} (h : n < 65536) : (BitVec.ofInt (IntKind.bits .u16) (n : Int)).toNat = n := by
 show (BitVec.ofInt 16 (n : Int)).toNat = n
 rw [BitVec.toNat_ofInt]
 omega
section
variable {P : Program}
theorem abT {t : TypeId} {u : Nat} (h : u ≤ 15) : Bin P .shl t (.int .u16 1) (.int .i64 (u : Nat)) (.int .u16 ((2 ^ u : Nat) : Int)) := ⟨fun x y w => by
 have hv : ∀ u : Fin 16, IntKind.wrap .u16 ((1 : Int) * 2 ^ (min u.val (IntKind.bits .u16))) = ((2 ^ u.val : Nat) : Int) := by decide +kernel
 have := hv ⟨u, by omega⟩
 dsimp only at this
 have hneg : ¬ ((u : Nat) : Int) < 0 := by omega
 simp only [eqGuard, binOp, Op.shift, if_neg hneg, Int.toNat_natCast, this]
 rfl⟩
theorem adH {t : TypeId} {a b : Nat} (ha : a < 65536) (hb : b < 65536) : Bin P .or t (.int .u16 (a : Nat)) (.int .u16 (b : Nat)) (.int .u16 ((a ||| b : Nat) : Int)) := ⟨fun x y w => by
 have e : (BitVec.ofInt (IntKind.bits .u16) (a : Int) ||| BitVec.ofInt (IntKind.bits .u16) (b : Int)).toNat = a ||| b := by rw [BitVec.toNat_or, aaJ ha, aaJ hb]
 have h2 : a ||| b < 65536 := Nat.or_lt_two_pow (n := 16) ha hb
 simp only [eqGuard, binOp, Op.intBits, e, agp h2]
 rfl⟩
theorem abU {t : TypeId} {k : IntKind} {a u : Nat} (ha : a < 65536) : Bin P .shr t (.int .u16 (a : Nat)) (.int k (u : Nat)) (.int .u16 ((a / 2 ^ u : Nat) : Int)) := ⟨fun x y w => by
 have hneg : ¬ ((u : Nat) : Int) < 0 := by omega
 have e : ((a : Nat) : Int).fdiv (2 ^ (min u (IntKind.bits .u16))) = ((a / 2 ^ u : Nat) : Int) := by
  rw [Int.fdiv_eq_ediv_of_nonneg _ (by exact_mod_cast Nat.zero_le _)]
  show ((a : Nat) : Int) / 2 ^ (min u 16) = _
  rcases Nat.le_or_ge u 16 with h | h
  · rw [Nat.min_eq_left h]; simp
  · rw [Nat.min_eq_right h]
    have h1 : a / 2 ^ u = 0 := by
     rw [Nat.div_eq_of_lt]
     exact Nat.lt_of_lt_of_le ha (by rw [show 65536 = 2 ^ 16 by decide]; exact Nat.pow_le_pow_right (by decide) h)
    rw [h1]
    omega
 simp only [eqGuard, binOp, Op.shift, if_neg hneg, Int.toNat_natCast, e]
 rfl⟩
end
end Go.Proofs.YtgjlbilcnlffgaaGreatDoor
namespace Go.Proofs.YtgjlbilcnlffgaaGreatDoor
open Go.RowKit
open Cn (Zo Cf)
variable {G : World} {L : ja}
def Km (w : Nm.Bytes) (most : Nat) : Value := match Cn.numP w most with
 | some n => .tuple #[.int .i64 (n : Nat), .bool true]
 | none => .tuple #[.int .i64 0, .bool false]
theorem z5 {w : Nm.Bytes} {most : Nat} (h : Cn.okD w = false) : Km w most = .tuple #[.int .i64 0, .bool false] := by
 unfold Km Cn.numP
 rw [h]
 rfl
theorem dig_iff {c : UInt8} : Cn.isDig c = true ↔ 48 ≤ c.toNat ∧ c.toNat ≤ 57 := by unfold Cn.isDig; simp
theorem aaK {w : Nm.Bytes} (h : w.all Cn.isDig = false) : Cn.okD w = false := by unfold Cn.okD; rw [h, Bool.and_false]
theorem adI {w : Nm.Bytes} {most : Nat} (h1 : w ≠ []) (h2 : w.length ≤ 10) (h3 : ¬ (w.head? = some 48 ∧ 1 < w.length)) (h4 : w.all Cn.isDig = true) : Km w most = if Cn.valD w ≤ most then .tuple #[.int .i64 (Cn.valD w : Nat), .bool true] else .tuple #[.int .i64 0, .bool false] := by
 have hk : Cn.okD w = true := by
  unfold Cn.okD
  rw [h4]
  have : (decide (w.head? = some 48) && decide (1 < w.length)) = false := by
   rw [← Bool.decide_and]
   exact decide_eq_false h3
  simp [h1, h2]
  rcases Nat.lt_or_ge 1 w.length with q | q
  · exact Or.inl fun a => h3 ⟨a, q⟩
  · exact Or.inr q
 unfold Km Cn.numP
 rw [hk]
 by_cases h : Cn.valD w ≤ most
 · rw [if_pos h]; simp [h]
 · rw [if_neg h]; simp [h]
theorem abV {w : Nm.Bytes} {k : Nat} {c : UInt8} (h : w[k]? = some c) : Cn.valD (w.take (k + 1)) = Cn.valD (w.take k) * 10 + (c.toNat - 48) := by
 rw [List.take_add_one, h]
 exact Cn.valD_snoc _ _
theorem YA {k : Nat} (h : k ≤ 10) : 10 ^ k ≤ 10000000000 := by
 have : 10 ^ k ≤ 10 ^ 10 := Nat.pow_le_pow_right (by decide) h
 simpa using this
theorem jj (w : Nm.Bytes) (most : Nat) (hw : w.length ≤ 1000000) (hm : most ≤ 2147483647) : Spec Tryz.prog G 75 #[.string (bs w), .int .i64 (most : Nat)] L fun u M => u = Km w most ∧ M = L := by
 refine jw (n := 53) Tryz.func75 rfl rfl rfl ?_
 by_cases h0 : w = []
 · subst h0
   rw [z5 rfl]
   refine goA ?_
   refine j7 4 5 _ _ rfl rfl rfl ?_
   exact ⟨rfl, rfl⟩
 have hpos : 0 < w.length := List.length_pos_iff.2 h0
 by_cases h10 : 10 < w.length
 · rw [z5 (by unfold Cn.okD; rw [decide_eq_false (by omega : ¬ w.length ≤ 10)]; simp)]
   refine goA ?_
   refine j7 4 5 _ _ rfl rfl rfl ?_
   exact ⟨rfl, rfl⟩
 obtain ⟨c0, hc0⟩ : ∃ c, w[0]? = some c := ⟨_, List.getElem?_eq_getElem hpos⟩
 have hhd : w.head? = some c0 := by rw [List.head?_eq_getElem?]; exact hc0
 by_cases hz : c0.toNat = 48 ∧ 1 < w.length
 · obtain ⟨hz1, hz2⟩ := hz
   have hc48 : c0 = 48 := UInt8.toNat_inj.1 hz1
   rw [z5 (by unfold Cn.okD; rw [hhd, hc48]; simp [hz2])]
   refine goA ?_
   refine j7 4 5 _ _ rfl rfl rfl ?_
   exact ⟨rfl, rfl⟩
 have hz2 : ¬ (w.head? = some 48 ∧ 1 < w.length) := by
  rw [hhd]
  rintro ⟨a, b⟩
  exact hz ⟨by rw [Option.some.inj a]; rfl, b⟩
 have h10' : w.length ≤ 10 := by omega
 by_cases hz1 : c0.toNat = 48
 all_goals
  refine goA ?_
  refine kv (σ := Nat) (fun k => k ≤ w.length ∧ (w.take k).all Cn.isDig = true) (fun k => [(0, .string (bs w)), (1, .int .i64 (most : Nat)), (6, .int .i64 ((Cn.valD (w.take k) : Nat) : Int)), (26, .int .i64 (w.length : Nat)), (27, .int .i64 (k : Nat))]) (fun _ => L) (fun k => w.length - k) 0 ⟨by omega, by simp⟩ ?_ (fun _ h => h) ?_
  exact qd
  rintro k ⟨hk, hall⟩
  by_cases hlt : k < w.length
  · obtain ⟨c, hc⟩ : ∃ c, w[k]? = some c := ⟨_, List.getElem?_eq_getElem hlt⟩
    have hvl := Cn.valD_lt _ hall
    rw [List.length_take, Nat.min_eq_left hk] at hvl
    have hp10 := YA (show k ≤ 10 by omega)
    have hvt := abV hc
    obtain ⟨v, hv⟩ : ∃ v, Cn.valD (w.take k) = v := ⟨_, rfl⟩
    rw [hv] at hvl hvt ⊢
    have hcb := c.toNat_lt
    by_cases h48 : c.toNat < 48
    · rw [z5 (aaK (by
       rw [List.all_eq_false]
       exact ⟨c, List.mem_of_getElem? hc, fun h => by have := dig_iff.1 h; omega⟩))]
      refine goA ?_
      refine j7 4 5 _ _ rfl rfl rfl ?_
      exact ⟨rfl, rfl⟩
    by_cases h57 : 57 < c.toNat
    · rw [z5 (aaK (by
       rw [List.all_eq_false]
       exact ⟨c, List.mem_of_getElem? hc, fun h => by have := dig_iff.1 h; omega⟩))]
      refine goA ?_
      refine j7 4 5 _ _ rfl rfl rfl ?_
      exact ⟨rfl, rfl⟩
    refine goA ?_
    refine jG (k + 1) ⟨by omega, ?_⟩ ?_ (fun _ h => h) jp
    · rw [List.take_add_one, hc, List.all_append, hall]
      simp only [Option.toList, List.all_cons, List.all_nil, Bool.and_true, Bool.true_and]
      exact dig_iff.2 ⟨by omega, by omega⟩
    rw [hvt, show ((v * 10 + (c.toNat - 48) : Nat) : Int) = (v : Int) * 10 + ((c.toNat : Int) - 48) by omega]
    exact qd
  · have hkl : k = w.length := by omega
    subst hkl
    rw [List.take_length] at hall ⊢
    have hvl := Cn.valD_lt _ hall
    have hp10 := YA h10'
    rw [adI h0 h10' hz2 hall]
    obtain ⟨v, hv⟩ : ∃ v, Cn.valD w = v := ⟨_, rfl⟩
    rw [hv] at hvl ⊢
    by_cases hm2 : v ≤ most
    · rw [if_pos hm2]
      refine goA ?_
      refine j7 4 5 _ _ rfl rfl rfl ?_
      exact ⟨rfl, rfl⟩
    · rw [if_neg hm2]
      refine goA ?_
      refine j7 4 5 _ _ rfl rfl rfl ?_
      exact ⟨rfl, rfl⟩
def qu (ws : List Nm.Bytes) : Value := match Cn.bitsGo (-1) 0 ws with
 | some t => .tuple #[.int .u16 (t : Nat), .bool true]
 | none => .tuple #[.int .u16 0, .bool false]
theorem VX (v : Value) (ws : List Nm.Bytes) (hr : StrRow L v ws) (hn : ws.length ≤ 1000000) (hw : ∀ w ∈ ws, w.length ≤ 1000000) : Spec Tryz.prog G 77 #[v] L fun u M => u = qu ws ∧ M = L := by
 obtain ⟨a, cap, rfl, hrow⟩ := hr
 refine jw (n := 35) Tryz.func77 rfl rfl rfl ?_
 repeat (first | refine goA ?_ | (refine' jl (jc jf rfl (jj _ _ ?_ ?_)) rfl ?_; (· first | omega | decide); (· first | omega | decide)) | (refine' jn (jc jf rfl (jj _ _ ?_ ?_)) rfl ?_; (· first | omega | decide); (· first | omega | decide)))
 refine kv (σ := Nat × Int × Nat) (fun x => x.1 ≤ ws.length ∧ (-1 ≤ x.2.1 ∧ x.2.1 ≤ 15) ∧ x.2.2 < 65536 ∧ Cn.bitsGo (-1) 0 ws = Cn.bitsGo x.2.1 x.2.2 (ws.drop x.1)) (fun x => [(4, .int .u16 (x.2.2 : Nat)), (5, .int .i64 x.2.1), (10, .slice a ws.length cap), (11, .int .i64 (ws.length : Nat)), (12, .int .i64 (x.1 : Nat))]) (fun _ => L) (fun x => ws.length - x.1) (0, -1, 0) ⟨by omega, by decide, by decide, rfl⟩ ?_ (fun _ h => h) ?_
 exact qd
 rintro ⟨k, last, t⟩ ⟨hk, ⟨hl1, hl2⟩, ht, he⟩
 dsimp only at hk hl1 hl2 ht he ⊢
 by_cases hlt : k < ws.length
 · obtain rfl | ⟨b, off, C, te, fr, rfl, hm, hc⟩ := hrow
   · simp at hlt
   obtain ⟨w, hwk⟩ : ∃ w, ws[k]? = some w := ⟨_, List.getElem?_eq_getElem hlt⟩
   have hcell := hc k w hwk
   have hww := hw w (List.mem_of_getElem? hwk)
   have hd : ws.drop k = w :: ws.drop (k + 1) := by
    obtain ⟨h1, h2⟩ := List.getElem?_eq_some_iff.1 hwk
    rw [List.drop_eq_getElem_cons h1, h2]
   rw [hd, Cn.bitsGo] at he
   cases hnp : Cn.numP w 15 with
   | none =>
     have hnv : Km w 15 = .tuple #[.int .i64 0, .bool false] := by unfold Km; rw [hnp]
     rw [hnp] at he
     repeat (first | refine goA ?_ | (refine' jl (jc jf rfl (jj _ _ ?_ ?_)) rfl ?_; (· first | omega | decide); (· first | omega | decide)) | (refine' jn (jc jf rfl (jj _ _ ?_ ?_)) rfl ?_; (· first | omega | decide); (· first | omega | decide)))
     rw [hnv]
     repeat (first | refine goA ?_ | (refine' jl (jc jf rfl (jj _ _ ?_ ?_)) rfl ?_; (· first | omega | decide); (· first | omega | decide)) | (refine' jn (jc jf rfl (jj _ _ ?_ ?_)) rfl ?_; (· first | omega | decide); (· first | omega | decide)))
     refine j7 2 3 _ _ rfl rfl rfl ?_
     exact ⟨by unfold qu; rw [he], rfl⟩
   | some u =>
     have hnv : Km w 15 = .tuple #[.int .i64 (u : Nat), .bool true] := by unfold Km; rw [hnp]
     have hu15 := (Cn.numP_some hnp).2
     rw [hnp] at he
     dsimp only at he
     repeat (first | refine goA ?_ | (refine' jl (jc jf rfl (jj _ _ ?_ ?_)) rfl ?_; (· first | omega | decide); (· first | omega | decide)) | (refine' jn (jc jf rfl (jj _ _ ?_ ?_)) rfl ?_; (· first | omega | decide); (· first | omega | decide)))
     rw [hnv]
     by_cases hul : (u : Int) ≤ last
     · rw [if_pos hul] at he
       repeat (first | refine goA ?_ | (refine' jl (jc jf rfl (jj _ _ ?_ ?_)) rfl ?_; (· first | omega | decide); (· first | omega | decide)) | (refine' jn (jc jf rfl (jj _ _ ?_ ?_)) rfl ?_; (· first | omega | decide); (· first | omega | decide)))
       refine j7 2 3 _ _ rfl rfl rfl ?_
       exact ⟨by unfold qu; rw [he], rfl⟩
     · rw [if_neg hul] at he
       have hpw : 2 ^ u < 65536 := by
        have : 2 ^ u ≤ 2 ^ 15 := Nat.pow_le_pow_right (by decide) hu15
        omega
       repeat (first | refine goA ?_ | (refine' jl (jc jf rfl (jj _ _ ?_ ?_)) rfl ?_; (· first | omega | decide); (· first | omega | decide)) | (refine' jn (jc jf rfl (jj _ _ ?_ ?_)) rfl ?_; (· first | omega | decide); (· first | omega | decide)))
       refine jm (qp rfl rfl (abT hu15)) rfl ?_
       refine jm (qp rfl rfl (adH ht hpw)) rfl ?_
       repeat (first | refine goA ?_ | (refine' jl (jc jf rfl (jj _ _ ?_ ?_)) rfl ?_; (· first | omega | decide); (· first | omega | decide)) | (refine' jn (jc jf rfl (jj _ _ ?_ ?_)) rfl ?_; (· first | omega | decide); (· first | omega | decide)))
       refine jG (k + 1, (u : Int), t ||| 2 ^ u) ⟨by dsimp only; omega, by dsimp only; omega, Nat.or_lt_two_pow (n := 16) ht hpw, he⟩ ?_ (fun _ h => h) (by dsimp only; omega)
       exact qd
 · have hkl : k = ws.length := by omega
   subst hkl
   rw [List.drop_length, Cn.bitsGo] at he
   repeat (first | refine goA ?_ | (refine' jl (jc jf rfl (jj _ _ ?_ ?_)) rfl ?_; (· first | omega | decide); (· first | omega | decide)) | (refine' jn (jc jf rfl (jj _ _ ?_ ?_)) rfl ?_; (· first | omega | decide); (· first | omega | decide)))
   refine j7 2 3 _ _ rfl rfl rfl ?_
   exact ⟨by unfold qu; rw [he], rfl⟩
end Go.Proofs.YtgjlbilcnlffgaaGreatDoor
namespace Go.Proofs.YtgjlbilcnlffgaaGreatDoor
open Go.RowKit
open Vd (RSet Vdt Vote Rec Quest)
section
variable {G : World} {P : Program} {n : Nat} {ρ : jh} {L : ja} {ty : TypeId}
theorem op_callV {f : FuncId} {x : Operand} {xs : List Operand} {ats : Array TypeId} {vs cap : List Value} {Φ : Value → ja → Prop} (hb : jX P f = true) (hx : ev ρ x = some (.func (.func f) #[] cap.toArray)) (ha : km ρ xs = some vs) (h : Spec P G f (vs ++ cap).toArray L Φ) :
 OpT P G ρ L (.call ⟨.value x, xs.toArray, ats⟩) ty Φ :=
 ⟨fun r hr w hw o ho _ => by
   have hm := kI hr xs vs ha
   have hrf := hr _ _ hx
   have : execOp r o = callFunc f (vs ++ cap).toArray := by
    simp only [execOp, ho, resolve, hrf, Deferred.ofValue]
    show invoke (.fn (.func f) cap.toArray) _ = _
    simp only [invoke, List.map_toArray, hm]
    simp
   rw [this, kH hb]
   refine (h.out w hw).mono fun e w' ⟨v, L', h1, h2, h3⟩ => ⟨v, h1, L', h2, h3⟩⟩
end
variable {G : World} {L : ja}
theorem rsR.val {cs : List Value} {s : RSet} (h : rsR L cs s) : ∃ a c, cs = [.string (bs s.name), .int .u16 s.kind, .int .u16 s.cls, .int .u32 s.ttl, .slice a s.data.length c] ∧ sliceR 1 ahG L [.slice a s.data.length c] s.data := by
 obtain ⟨d, rfl, hd, _⟩ := h
 obtain ⟨a, c, e, hd⟩ := hd.val
 simp only [List.cons.injEq, and_true] at e
 subst e
 exact ⟨a, c, rfl, hd⟩
end Go.Proofs.YtgjlbilcnlffgaaGreatDoor
namespace Go.Proofs.YtgjlbilcnlffgaaGreatDoor
open Go.RowKit
structure RemO (q : Nat × Obj) (L R : ja) : Prop where out : ∀ p, cnt p L = hit p q + cnt p R
structure RemA (A L R : ja) : Prop where out : ∀ p, cnt p L = cnt p A + cnt p R
structure Fits (M L : ja) : Prop where out : ∀ p, cnt p M ≤ cnt p L
section
variable {q r : Nat × Obj} {A B L M R R1 : ja}
theorem U0 : RemO q (q :: R) R := ⟨fun p => by rw [jy]⟩
theorem abW {b : Nat} {o o' : Obj} (e : o' = o) : RemO (b, o) ((b, o') :: R) R := e ▸ U0
theorem abX (h : RemO q R R1) : RemO q (r :: R) (r :: R1) := ⟨fun p => by rw [jy, jy, h.out p]; omega⟩
theorem adJ (h : RemO q R R1) : RemO q (B ++ R) (B ++ R1) := ⟨fun p => by rw [jt, jt, h.out p]; omega⟩
theorem abY : RemA A (A ++ R) R := ⟨fun p => by rw [jt]⟩
theorem adK : RemA A A [] := ⟨fun p => by rw [jE]; omega⟩
theorem abZ (h : RemA A R R1) : RemA A (r :: R) (r :: R1) := ⟨fun p => by rw [jy, jy, h.out p]; omega⟩
theorem adL (h : RemA A R R1) : RemA A (B ++ R) (B ++ R1) := ⟨fun p => by rw [jt, jt, h.out p]; omega⟩
theorem kA : Fits L L := ⟨fun p => Nat.le_refl _⟩
theorem adM : Fits [] L := ⟨fun p => by rw [jE]; omega⟩
theorem ab0 (h : RemO q L R) (k : Fits M R) : Fits (q :: M) L := ⟨fun p => by rw [jy, h.out p]; have := k.out p; omega⟩
theorem adN (h : RemA A L R) (k : Fits M R) : Fits (A ++ M) L := ⟨fun p => by rw [jt, h.out p]; have := k.out p; omega⟩
theorem adO (h : RemA A L R) : Fits A L := ⟨fun p => by rw [h.out p]; omega⟩
theorem adP {N : ja} (h : Fits (A ++ (M ++ N)) L) : Fits ((A ++ M) ++ N) L := by rw [List.append_assoc]; exact h
theorem adQ (h : Fits (q :: (A ++ M)) L) : Fits ((q :: A) ++ M) L := h
theorem adR (h : Fits M L) : Fits ([] ++ M) L := h
theorem ab1 {L' : ja} (e : L = L') (h : Fits M L') : Fits M L := e ▸ h
end
theorem ahP {q : Nat × Obj} {L R : ja} (h : RemO q L R := by repeat (first | with_reducible exact U0 | ((with_reducible apply abW); exact rfl) | with_reducible apply abX | with_reducible apply adJ)) : RemO q L R := h
theorem afP {A L R : ja} (h : RemA A L R := by repeat (first | with_reducible exact abY | with_reducible exact adK | with_reducible apply abZ | with_reducible apply adL)) : RemA A L R := h
theorem j5 {M L : ja} (h : Fits M L := by
 apply ab1
 · (try simp only [List.append_assoc, List.cons_append, List.nil_append]); exact rfl
 repeat (first | with_reducible exact kA | with_reducible exact adM | with_reducible apply adP | with_reducible apply adQ | with_reducible apply adR | ((with_reducible apply ab0); · exact ahP) | ((with_reducible apply adN); · exact afP) | ((with_reducible apply adO); exact afP))) : Fits M L := h
section
variable {P : Program} {G : World} {n : Nat} {ρ : jh} {L M : ja} {op : Op} {ty : TypeId} {v : Value} {Q : Exit → Act → World → Prop} {ops : Array Oper}
theorem Fits.heap (h : Fits M L) : ∀ w, Heap G w L → Heap G w M := fun w hw => hw.cnt h.out
theorem OpT.fits {Φ : Value → ja → Prop} (h : OpT P G ρ M op ty Φ) (k : Fits M L) : OpT P G ρ L op ty Φ := OpT.heap (fun w hw => hw.cnt k.out) h
theorem z6 {d : Nat} {f : FuncId} {xs : List Operand} {ats : Array TypeId} {pos : String} {after : Array Edge} {rest : List Oper} {vs : List Value} {Φ : Value → ja → Prop}
 (hspec : Spec P G f vs.toArray M Φ) (hr : ∀ v L', Φ v L' → TL P G ops n ((d, v) :: ρ) L' rest Q) (hv : km ρ xs = some vs := by exact rfl) (hf : Fits M L := by exact j5) (hb : jX P f = true := by kernel_rfl) (hd : Nat.blt d n = true := by exact rfl) :
 TL P G ops n ρ L (⟨some d, .call ⟨.value (.func f), xs.toArray, ats⟩, ty, pos, after, none⟩ :: rest) Q :=
 jT ((jc hb hv hspec).fits hf) hd hr
theorem yj {d : Nat} {f : FuncId} {xs : List Operand} {ats : Array TypeId} {pos : String} {after : Array Edge} {rest : List Oper} {vs : List Value}
 (hspec : Spec P G f vs.toArray L fun u N => u = v ∧ N = L) (hr : TL P G ops n ((d, v) :: ρ) L rest Q) (hv : km ρ xs = some vs := by exact rfl) (hb : jX P f = true := by kernel_rfl) (hd : Nat.blt d n = true := by exact rfl) :
 TL P G ops n ρ L (⟨some d, .call ⟨.value (.func f), xs.toArray, ats⟩, ty, pos, after, none⟩ :: rest) Q :=
 jl (jc hb hv hspec) hd hr
theorem adS {d : Nat} {f : FuncId} {xs : List Operand} {ats : Array TypeId} {rest : List Oper} {vs : List Value}
 (hspec : Spec P G f vs.toArray L fun u N => u = v ∧ N = L) (hr : TL P G ops n ((d, v) :: ρ) L rest Q) (hv : km ρ xs = some vs := by exact rfl) (hb : jX P f = true := by kernel_rfl) (hd : Nat.blt d n = true := by exact rfl) :
 TG P G ops n ρ L d (.call ⟨.value (.func f), xs.toArray, ats⟩) ty rest Q :=
 jn (jc hb hv hspec) hd hr
theorem agq {f : FuncId} {xs : List Operand} {vs : List Value} (ha : km ρ xs = some vs) : OpQ P ρ L (.makeFunc (.func f) #[] xs.toArray) ty (.func (.func f) #[] vs.toArray) :=
 ⟨fun r hr w hw o ho _ => by
   have hm := kI hr xs vs ha
   simp [execOp, ho, Instr.makeFunc, hm]⟩
end
inductive Upd (b : Nat) (o o' : Obj) : ja → ja → Prop
 | here {R : ja} : Upd b o o' ((b, o) :: R) ((b, o') :: R)
 | cons {r : Nat × Obj} {R R' : ja} : Upd b o o' R R' → Upd b o o' (r :: R) (r :: R')
 | app {B R R' : ja} : Upd b o o' R R' → Upd b o o' (B ++ R) (B ++ R')
theorem Upd.perm {b : Nat} {o o' : Obj} : ∀ {L L' : ja}, Upd b o o' L L' → ∃ R, L.Perm ((b, o) :: R) ∧ ((b, o') :: R).Perm L'
 | _, _, .here => ⟨_, List.Perm.refl _, List.Perm.refl _⟩
 | _, _, .cons (r := r) h => by
   obtain ⟨R, h1, h2⟩ := h.perm
   exact ⟨r :: R, (h1.cons r).trans (List.Perm.swap _ _ _), (List.Perm.swap _ _ _).trans (h2.cons r)⟩
 | _, _, .app (B := B) h => by
   obtain ⟨R, h1, h2⟩ := h.perm
   exact ⟨B ++ R, (h1.append_left B).trans List.perm_middle, List.perm_middle.symm.trans (h2.append_left B)⟩
theorem ab2 {b : Nat} {o o' : Obj} {L L' : ja} (h : Upd b o o' L L' := by repeat (first | with_reducible exact Upd.here | with_reducible apply Upd.cons | with_reducible apply Upd.app)) : Upd b o o' L L' := h
section
variable {P : Program} {G : World} {n : Nat} {ρ : jh} {L L' : ja} {op : Op} {ty : TypeId} {v : Value} {Q : Exit → Act → World → Prop} {ops : Array Oper}
theorem stU {x y : Operand} {pos : String} {after : Array Edge} {rest : List Oper} {b off : Nat} {t : TypeId} {C C' : Array Value} {te : TypeId} {v u : Value} (hx : ev ρ x = some (.pointer (some ⟨b, off, none⟩))) (hy : ev ρ y = some v)
 (h1 : zG P t = true) (hu : Upd b (.cells C te (0, 0)) (.cells C' te (0, 0)) L L') (hone : v.oneCell' = true) (hv : C[off]? = some u) (hC : C.setIfInBounds off v = C') (h : TL P G ops n ρ L' rest Q) :
 TL P G ops n ρ L (⟨none, .store t x y, ty, pos, after, none⟩ :: rest) Q := by
 obtain ⟨R, p1, p2⟩ := hu.perm
 exact ko p1 (Wp hx hy h1 hone hv hC (ko p2 h))
theorem adT {x y : Operand} {pos : String} {after : Array Edge} {rest : List Oper} {b k : Nat} {t : TypeId} {C D : Array Value} {te : TypeId} (hx : ev ρ x = some (.pointer (some ⟨b, 0, none⟩))) (hy : ev ρ y = some (.agg D))
 (ht : j8 P t k = true) (hu : Upd b (.cells C te (0, 0)) (.cells D te (0, 0)) L L') (hC : C.size = k) (hD : D.size = k) (hone : Y3 D = true) (h : TL P G ops n ρ L' rest Q) : TL P G ops n ρ L (⟨none, .store t x y, ty, pos, after, none⟩ :: rest) Q := by
 obtain ⟨R, p1, p2⟩ := hu.perm
 exact ko p1 (zH hx hy ht hC hD hone (ko p2 h))
theorem kw {fn : Func} {Φ : Value → ja → Prop} (t : Nat) {v : Value} {M : ja} (hr : fn.results = #[.tmp t]) (hv : ρ.lookup t = some v) (h : Φ v M) (hf : Fits M L) : TQ G n ρ L .ret (bodyPost P fn (jN G Φ)) := jr (fun w hw => hw.cnt hf.out) (jq t v hr hv h)
theorem afQ {fn : Func} {Φ : Value → ja → Prop} {M : ja} (hr : fn.results = #[]) (h : Φ (.tuple #[]) M) (hf : Fits M L) : TQ G n ρ L .ret (bodyPost P fn (jN G Φ)) := jr (fun w hw => hw.cnt hf.out) (qN hr h)
theorem yk {fn : Func} {Φ : Value → ja → Prop} (t u : Nat) {v x : Value} {M : ja} (hr : fn.results = #[.tmp t, .tmp u]) (hv : ρ.lookup t = some v) (hx : ρ.lookup u = some x) (h : Φ (.tuple #[v, x]) M) (hf : Fits M L) : TQ G n ρ L .ret (bodyPost P fn (jN G Φ)) := jr (fun w hw => hw.cnt hf.out) (j7 t u v x hr hv hx h)
end
section
variable {P : Program} {G : World} {n : Nat} {ρ : jh} {L : ja} {ty : TypeId} {Q : Exit → Act → World → Prop} {ops : Array Oper}
theorem afR {α : Type} {r : Rp α} (y : α) {d : Nat} {s x : Operand} {pos : String} {after : Array Edge} {rest : List Oper} {t e te : TypeId} {sz bytes bl : Nat} {z : Value} {a : Option Addr} {c : Nat} {cs : List Value} {l : List α} {B F L0 : ja}
 (hrow : ORow r e sz L0 a c l B) (hy : r L0 cs y) (hr : ∀ a' c' B', ORow r e sz L0 a' c' (l ++ [y]) B' → TL P G ops n ((d, .slice a' (l ++ [y]).length c') :: ρ) (B' ++ F) rest Q)
 (E : ElemTy P t e sz bytes z := by exact etO) (hs : ev ρ s = some (.slice a l.length c) := by exact rfl) (hx : ev ρ x = some (.slice (some ⟨bl, 0, none⟩) 1 1) := by exact rfl) (hf : Fits ((bl, .cells cs.toArray te (0, 0)) :: (B ++ F)) L := by exact j5)
 (hn : cs.length = sz := by exact rfl) (hone : cs.all (·.oneCell') = true := by exact rfl) (h63 : l.length + 1 ≤ maxLen := by unfold maxLen; omega) (hby : (l.length + 1) * bytes ≤ 140737488355328 := by omega) (hd : Nat.blt d n = true := by exact rfl) :
 TL P G ops n ρ L (⟨some d, .call ⟨.builtin .append, #[s, x], #[t, t]⟩, ty, pos, after, none⟩ :: rest) Q :=
 jT ((K7 E hs hx hrow hn (fun v hv => List.all_eq_true.1 hone v hv) hy h63 hby).fits hf) hd fun v M ⟨a', c', B', h1, h2, h3⟩ => by subst h1 h3; exact hr a' c' B' h2
end
def Kn (n k : Nat) : Array Bool := ((List.range n).map fun i => decide (i < k)).toArray
theorem ab3 (n : Nat) : Kn n 0 = Array.replicate n false := by
 unfold Kn
 apply Array.ext <;> simp
theorem adU (n k : Nat) : (Kn n k).setIfInBounds k true = Kn n (k + 1) := by
 unfold Kn
 rw [List.setIfInBounds_toArray]
 congr 1
 apply List.ext_getElem
 · simp
 · intro i h1 h2
   rw [List.getElem_set]
   simp only [List.getElem_map, List.getElem_range]
   split
   · rename_i e; subst e; simp
   · rename_i e; rw [decide_eq_decide]; omega
section
variable {P : Program} {G : World} {n : Nat} {ρ : jh} {L : ja} {v : Value} {Q : Exit → Act → World → Prop} {ops : Array Oper}
theorem afq {id : Nat} (hm : P.follows .mixedOrders = true) (K : ja) (W : List Nat) (h : TA P G ops n K W Q ops.size (Kn ops.size 0) ρ L) : T P G n ρ L (.region id ops true) Q := kQ hm K W (by rw [← ab3]; exact h)
theorem aaL {id : Nat} (hm : P.follows .mixedOrders = true) (h : TA P G ops n L [] Q ops.size (Kn ops.size 0) ρ L) : T P G n ρ L (.region id ops true) Q := afq hm L [] h
theorem tkS {K : ja} {W : List Nat} {fuel N k : Nat} {d : Nat} {oi : Oper} (h : TA P G ops n K W Q fuel (Kn N (k + 1)) ((d, v) :: ρ) L) (hi : ops[k]? = some oi := by exact rfl) (hd : oi.dst = some d := by exact rfl) (ht : Wm ops W n (Kn N k) k d = true := by kernel_rfl)
 (hq : Quiet P G ops K ρ oi v := by exact qqQ) (hK : ∀ p ∈ K, p ∈ L := by first | exact fun p h => h | assumption | (intro p hp; grind)) : TA P G ops n K W Q (fuel + 1) (Kn N k) ρ L := jS k hi hd ht hq hK (by rw [adU]; exact h)
theorem tkL {K : ja} {W : List Nat} {fuel N k : Nat} {d : Nat} {oi : Oper} (hi : ops[k]? = some oi) (hd : oi.dst = some d) (ht : Wm ops W n (Kn N k) k d = true) (hq : Quiet P G ops K ρ oi v) (hK : ∀ p ∈ K, p ∈ L) (h : TA P G ops n K W Q fuel (Kn N (k + 1)) ((d, v) :: ρ) L) : TA P G ops n K W Q (fuel + 1) (Kn N k) ρ L := tkS h hi hd ht hq hK
theorem adV {K : ja} {W : List Nat} {fuel : Nat} {listed : Array Bool} {M : ja} (i : Nat) {d j dj : Nat} {want b : Bool} {f : FuncId} {xs : List Operand} {ats : Array TypeId} {ty : TypeId} {pos : String} {after : Array Edge} {vs : List Value} {args : Array Value} {Φ : Value → ja → Prop}
 (hspec : Spec P G f args M Φ) (h : ∀ v L', Φ v L' → (∀ p ∈ K, p ∈ L') ∧ TA P G ops n K W Q fuel (listed.setIfInBounds i true) ((d, v) :: ρ) L') (hi : ops[i]? = some ⟨some d, .call ⟨.value (.func f), xs.toArray, ats⟩, ty, pos, after, some (j, want)⟩ := by exact rfl) (ha : km ρ xs = some vs := by exact rfl) (he : args = vs.toArray := by exact rfl) (hf : Fits M L := by exact j5)
 (hs : jB ops j = some dj := by exact rfl) (hv : ρ.lookup dj = some (.bool b) := by exact rfl) (hw : b = want := by exact ky) (hb : jX P f = true := by kernel_rfl) (hdn : Nat.blt d n = true := by exact rfl) (hr : Region.ready .any ops listed = [i] := by decide +kernel) : TA P G ops n K W Q (fuel + 1) listed ρ L := by
 refine ⟨fun h0 => (by rw [hr] at h0; cases h0), fun k hk => ?_⟩
 rw [hr] at hk
 obtain rfl : k = i := by simpa using hk
 refine ⟨_, hi, fun e he' => ?_, true, ⟨dj, _, hs, hv, by rw [hw]; simp [YZ]⟩, Or.inl ⟨rfl, Φ, (jc hb ha (he ▸ hspec)).fits hf, fun v L' hv' => ⟨Or.inr (h v L' hv').1, (h v L' hv').2⟩⟩⟩
 cases he'
 simpa using hdn
end
theorem goU {P Q : Prop} (k : Q) (run : Hd Q → P := by intro k; (repeat1' (first | with_reducible apply jR | with_reducible apply kP | (apply jm; (· exact KT); (· exact rfl)) | with_reducible apply jL | with_reducible apply jH | with_reducible apply qK | with_reducible apply qw | with_reducible apply uH | with_reducible apply yG | with_reducible apply ym | with_reducible apply Kw | with_reducible apply kg | with_reducible apply ks | with_reducible apply qv | with_reducible apply j6 | with_reducible apply jW | with_reducible apply qi | with_reducible apply uY | (apply kN; (· decide)) | (apply jm; (· apply kL; (· exact rfl); (· exact ky); (· exact rfl)); (· exact rfl)) | (apply jm; (· apply kM; (· exact rfl); (· exact ky); (· exact rfl)); (· exact rfl)) | (apply zF; (· exact rfl); (· exact rfl); (· exact ky)) | (apply jg; (· exact KT); (· exact rfl)) | (apply jg; (· apply kL; (· exact rfl); (· exact ky); (· exact rfl)); (· exact rfl)) | (apply jg; (· apply kM; (· exact rfl); (· exact ky); (· exact rfl)); (· exact rfl)) | (apply Qn; (· exact rfl); (· exact rfl); (· exact ky); (· exact rfl)) | (apply uh; (· exact rfl); (· exact rfl); (· exact rfl)) | (apply jm; (· exact aeF); (· exact rfl)) | (apply jg; (· exact aeF); (· exact rfl)) | (apply adT; (· exact rfl); (· exact rfl); (· exact stO); (· exact ab2); (· exact rfl); (· exact rfl); (· exact rfl)) | (apply stU; (· exact rfl); (· exact rfl); (· exact onO); (· exact ab2); (· exact rfl); (· exact Vr); (· exact rfl)) | (refine aaL jx ?_; (repeat1' (apply tkL; (· exact rfl); (· exact rfl); (· kernel_rfl); (· exact qqQ); (· exact fun p h => h))); (apply Vn; (· decide +kernel))) | (apply Wo; (· exact rfl); (· exact ky)) | (apply act; (· exact rfl); (· exact ky)))); exact k.out) : P := run ⟨k⟩
theorem goW {P Q : Prop} (k : Q) (run : Hd Q → P := by intro k; (repeat1' (first | with_reducible apply jR | with_reducible apply kP | (apply jm; (· exact KT); (· exact rfl)) | with_reducible apply jL | with_reducible apply qK | with_reducible apply qw | with_reducible apply uH | with_reducible apply yG | with_reducible apply ym | with_reducible apply Kw | with_reducible apply kg | with_reducible apply ks | with_reducible apply qv | with_reducible apply j6 | with_reducible apply jW | with_reducible apply qi | with_reducible apply uY | (apply kN; (· decide)) | (apply jm; (· apply kL; (· exact rfl); (· exact ky); (· exact rfl)); (· exact rfl)) | (apply jm; (· apply kM; (· exact rfl); (· exact ky); (· exact rfl)); (· exact rfl)) | (apply zF; (· exact rfl); (· exact rfl); (· exact ky)) | (apply jg; (· exact KT); (· exact rfl)) | (apply jg; (· apply kL; (· exact rfl); (· exact ky); (· exact rfl)); (· exact rfl)) | (apply jg; (· apply kM; (· exact rfl); (· exact ky); (· exact rfl)); (· exact rfl)) | (apply Qn; (· exact rfl); (· exact rfl); (· exact ky); (· exact rfl)) | (apply uh; (· exact rfl); (· exact rfl); (· exact rfl)) | (apply jm; (· exact aeF); (· exact rfl)) | (apply jg; (· exact aeF); (· exact rfl)) | (apply adT; (· exact rfl); (· exact rfl); (· exact stO); (· exact ab2); (· exact rfl); (· exact rfl); (· exact rfl)) | (apply stU; (· exact rfl); (· exact rfl); (· exact onO); (· exact ab2); (· exact rfl); (· exact Vr); (· exact rfl)) | (refine aaL jx ?_; (repeat1' (apply tkL; (· exact rfl); (· exact rfl); (· kernel_rfl); (· exact qqQ); (· exact fun p h => h))); (apply Vn; (· decide +kernel))) | (apply Wo; (· exact rfl); (· exact ky)) | (apply act; (· exact rfl); (· exact ky)))); exact k.out) : P := run ⟨k⟩
end Go.Proofs.YtgjlbilcnlffgaaGreatDoor
