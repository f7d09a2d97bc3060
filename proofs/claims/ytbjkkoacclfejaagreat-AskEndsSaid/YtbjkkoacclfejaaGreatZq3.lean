/-
 Part 3: Gh Ve Gi Gj Gk Gl Gm Gn Go Gp Kb Kc Kd Ke Kf Kg Ki Gq Gr Gs Gu Kj Kl Km.
-/
import Derived.Test.YtbjkkoacclfejaaGreatZq2
import Derived.Test.YtbjkkoacclfejaaGreatZq1
import Derived.Test.YtbjkkoacclfejaaGreatShelf
import Derived.Sort.OwnSorted
import Derived.Sort.OwnSortedInts
set_option maxRecDepth 100000
set_option maxHeartbeats 4000000
set_option linter.unusedVariables false
set_option linter.unusedSimpArgs false
namespace Go.Proofs.YtbjkkoacclfejaaGreat
section
open Go.RowKit
open Vd (RSet Vdt Vote Rec Quest Piece)
theorem yR (s : Vd.Bytes) : ∀ (l out : List Vd.Bytes) (done : Bool) (o : List Vd.Bytes) (d : Bool), Vd.putGo s l out done = .inr (o, d) → o.length + (if d then 0 else 1) ≤ out.length + l.length + (if done then 0 else 1)
 | [], out, done, o, d, h => by
   simp only [Vd.putGo, Sum.inr.injEq, Prod.mk.injEq] at h
   obtain ⟨rfl, rfl⟩ := h
   simp
 | x :: l, out, done, o, d, h => by
   simp only [Vd.putGo] at h
   split at h
   · cases h
   split at h
   · rename_i hd
     have := yR s l _ _ o d h
     have hdn : done = false := by cases done <;> simp_all
     subst hdn
     simp at this ⊢
     omega
   · have := yR s l _ _ o d h
     simp at this ⊢
     omega
theorem aaa (l : List Vd.Bytes) (s : Vd.Bytes) : (Vd.put l s).length ≤ l.length + 1 := by
 unfold Vd.put
 split
 · omega
 · rename_i o d h
   have := yR s l [] false o d h
   cases d <;> simp at this ⊢ <;> omega
theorem yS (s : Vd.Bytes) : ∀ (l out : List Vd.Bytes) (done : Bool) (o : List Vd.Bytes) (d : Bool), Vd.putGo s l out done = .inr (o, d) → ∀ x ∈ o, x ∈ out ∨ x ∈ l ∨ x = s
 | [], out, done, o, d, h => by
   simp only [Vd.putGo, Sum.inr.injEq, Prod.mk.injEq] at h
   obtain ⟨rfl, rfl⟩ := h
   intro x hx
   exact Or.inl hx
 | y :: l, out, done, o, d, h => by
   simp only [Vd.putGo] at h
   split at h
   · cases h
   split at h
   · intro x hx
     have := yS s l _ _ o d h x hx
     simp only [List.mem_append, List.mem_cons] at this ⊢
     grind
   · intro x hx
     have := yS s l _ _ o d h x hx
     simp only [List.mem_append, List.mem_cons] at this ⊢
     grind
theorem aab {l : List Vd.Bytes} {s x : Vd.Bytes} (h : x ∈ Vd.put l s) : x ∈ l ∨ x = s := by
 unfold Vd.put at h
 split at h
 · exact Or.inl h
 · rename_i o d hh
   have := yS s l [] false o d hh
   split at h
   · have := this x h; simp at this; exact this
   · rcases List.mem_append.1 h with h | h
     · have := this x h; simp at this; exact this
     · exact Or.inr (List.mem_singleton.1 h)
def kv : Option Nat → Int
 | some j => (j : Nat)
 | none => -1
theorem Wd (k : Int) (d : Vd.Bytes) : (Vd.foldD k d).length ≤ d.length := Nat.le_trans (QX _) (K6 k d)
structure Bd (D i : Nat) (sets : List RSet) : Prop where
 few : sets.length ≤ i
 name : ∀ s ∈ sets, s.name.length ≤ 255
 data : ∀ s ∈ sets, s.data.length ≤ i
 one : ∀ s ∈ sets, s.data ≠ []
 datum : ∀ s ∈ sets, ∀ d ∈ s.data, d.length ≤ D
theorem yx (n : Vd.Bytes) : (Nm.fold n).length ≤ 255 := by
 unfold Nm.fold
 cases h : Nm.may n with
 | false => simp
 | true =>
   obtain ⟨ls, hl⟩ := Nm.nm_of_may h
   rw [if_pos rfl, Nm.low_length]
   exact (Nm.nm_iff.1 hl).2.2
theorem abk {l : List Vd.Bytes} {s : Vd.Bytes} (h : l ≠ []) : Vd.put l s ≠ [] := by
 match l, h with
 | x :: l, _ =>
   unfold Vd.put
   have key : ∀ (l out : List Vd.Bytes) (done : Bool) (o : List Vd.Bytes) (d : Bool), out ≠ [] → Vd.putGo s l out done = .inr (o, d) → o ≠ [] := by
    intro l
    induction l with
    | nil => intro out done o d h1 h2; simp only [Vd.putGo, Sum.inr.injEq, Prod.mk.injEq] at h2; rw [← h2.1]; exact h1
    | cons y l ih =>
      intro out done o d h1 h2
      simp only [Vd.putGo] at h2
      split at h2
      · cases h2
      split at h2
      · exact ih _ _ o d (by simp) h2
      · exact ih _ _ o d (by simp) h2
   split
   · simp
   · rename_i o d hh
     simp only [Vd.putGo] at hh
     split at hh
     · cases hh
     have ho : o ≠ [] := by
      split at hh
      · exact key _ _ _ o d (by simp) hh
      · exact key _ _ _ o d (by simp) hh
     split
     · exact ho
     · simp
theorem Bd.add {D i : Nat} {sets : List RSet} (h : Bd D i sets) (x : Rec) (hx : x.data.length ≤ D) : Bd D (i + 1) (Vd.addRec sets x) := by
 have hm : Bd D (i + 1) sets := ⟨by have := h.few; omega, h.name, fun s hs => by have := h.data s hs; omega, h.one, h.datum⟩
 have hf := Nat.le_trans (Wd x.kind x.data) hx
 unfold Vd.addRec
 split
 · split
   · refine ⟨by have := h.few; simp; omega, fun s hs => ?_, fun s hs => ?_, fun s hs => ?_, fun s hs => ?_⟩ <;> rcases List.mem_append.1 hs with hs | hs
     · exact h.name s hs
     · rw [List.mem_singleton.1 hs]; exact yx _
     · exact hm.data s hs
     · rw [List.mem_singleton.1 hs]; simp
     · exact h.one s hs
     · rw [List.mem_singleton.1 hs]; simp
     · exact h.datum s hs
     · rw [List.mem_singleton.1 hs]; intro d hd; rw [List.mem_singleton.1 hd]; exact hf
   · rename_i j hj
     split
     · rename_i s hs
       have hsm := List.mem_of_getElem? hs
       have key : ∀ t ∈ sets.set j { s with ttl := min s.ttl (Vd.timeT x.ttl), data := Vd.put s.data (Vd.foldD x.kind x.data) }, t ∈ sets ∨ t = { s with ttl := min s.ttl (Vd.timeT x.ttl), data := Vd.put s.data (Vd.foldD x.kind x.data) } := fun t ht => List.mem_or_eq_of_mem_set ht
       refine ⟨by have := h.few; simp; omega, fun t ht => ?_, fun t ht => ?_, fun t ht => ?_, fun t ht => ?_⟩ <;> rcases key t ht with ht | rfl
       · exact h.name t ht
       · exact h.name s hsm
       · exact hm.data t ht
       · have h1 := aaa s.data (Vd.foldD x.kind x.data); have h2 := h.data s hsm; dsimp only; omega
       · exact h.one t ht
       · exact abk (h.one s hsm)
       · exact h.datum t ht
       · intro d hd
         rcases aab hd with hd | rfl
         · exact h.datum s hsm d hd
         · exact hf
     · exact hm
 · exact hm
theorem QY {l : List Rec} {i : Nat} {x : Rec} (hx : l[i]? = some x) : Vd.gather (l.take (i + 1)) = Vd.addRec (Vd.gather (l.take i)) x := by
 unfold Vd.gather
 rw [List.take_add_one, hx]
 simp
theorem J8 {D : Nat} (l : List Rec) (hl : ∀ x ∈ l, x.data.length ≤ D) : ∀ i, i ≤ l.length → Bd D i (Vd.gather (l.take i))
 | 0, _ => ⟨by simp [Vd.gather], by simp [Vd.gather], by simp [Vd.gather], by simp [Vd.gather], by simp [Vd.gather]⟩
 | i + 1, h => by
   have hx : l[i]? = some l[i] := List.getElem?_eq_getElem jf
   rw [QY hx]
   exact (J8 l hl i jf).add _ (hl _ (List.getElem_mem _))
end
section
open Go.RowKit
open Vd (RSet Vdt Vote Rec Quest)
variable {G : World} {L : ja}
theorem VI : ∀ cs y, qO L cs y → ∀ v ∈ cs, v.oneCell' = true := by
 rintro _ y ⟨rfl, _⟩ v hv
 rw [List.mem_singleton.1 hv]
 rfl
theorem ORow.made {α : Type} {r : Rp α} {e : TypeId} {sz b : Nat} : ORow r e sz L (some ⟨b, 0, none⟩) 0 ([] : List α) [(b, .cells #[] e (0, 0))] := ⟨[], Row.made (by simp) (by unfold maxLen; omega), rfl, by simp⟩
theorem K7 (v : Value) (l : List Vd.Bytes) (hl : sliceR 1 qO L [v] l) (hn : l.length ≤ 1000000) : Spec Tryz.prog G 113 #[v] L fun u M => ∃ a c B, u = .slice a l.length c ∧ ORow qO 9 1 L a c l B ∧ M = B ++ L := by
 obtain ⟨a, c, e1, hl⟩ := hl.val
 simp only [List.cons.injEq, and_true] at e1
 subst e1
 refine jm (n := 8) Tryz.func113 rfl rfl rfl ?_
 cases ha : a with
 | none =>
   subst ha
   have : l = [] := by
    obtain ⟨_, _, _, h | ⟨b, off, C, te, fr, h, _⟩⟩ := uD hl
    · exact h
    · cases h
   subst this
   have d1 : Option.isNone (none : Option Addr) = true := rfl
   repeat (first | refine goC ?_ | (refine uf ?_; intro bLit))
   refine je 2 _ rfl rfl ?_
   exact ⟨none, 0, [], rfl, ORow.nil _, rfl⟩
 | some x =>
   subst ha
   have d1 : Option.isNone (some x) = false := rfl
   repeat (first | refine goC ?_ | (refine uf ?_; intro bLit))
   refine jP (ZU etO) rfl ?_
   intro b0
   repeat (first | refine goC ?_ | (refine uf ?_; intro bLit))
   refine jx (UK (l := []) (B := [(b0, .cells #[] 9 (0, 0))]) etO rfl rfl (ORow.made (L := L)) hl VI (by simp; unfold maxLen; omega) (by simp; omega)) rfl ?_
   rintro _ _ ⟨a', c', B', rfl, hB', rfl⟩
   rw [List.nil_append] at hB' ⊢
   repeat (first | refine goC ?_ | (refine uf ?_; intro bLit))
   refine je 2 _ rfl rfl ?_
   exact ⟨a', c', B', rfl, hB', rfl⟩
end
section
open Go.RowKit
open Vd (RSet Vdt Vote Rec Quest Piece)
variable {G : World} {L : ja}
theorem QZ {P : Program} {ρ : jp} {ty : TypeId} {s x : Operand} {t e te : TypeId} {bytes bl : Nat} {z : Value} {a : Option Addr} {c : Nat} {cs : List Value} {y : RSet} {l : List RSet} {B L0 : ja} (E : ElemTy P t e 5 bytes z) (hs : ev ρ s = some (.slice a l.length c)) (hx : ev ρ x = some (.slice (some ⟨bl, 0, none⟩) 1 1))
 (hrow : ORow rsR e 5 L0 a c l B) (hy : rsR L0 cs y) (h63 : l.length ≤ 1000000) (hb : bytes ≤ 1000) :
 OpT P G ρ ((bl, .cells cs.toArray te (0, 0)) :: (B ++ L)) (.call ⟨.builtin .append, #[s, x], #[t, t]⟩) ty fun v' L' => ∃ a' c' B', v' = .slice a' (l ++ [y]).length c' ∧ ORow rsR e 5 L0 a' c' (l ++ [y]) B' ∧ L' = B' ++ L :=
 uS E hs hx hrow hy.len hy.one hy (by unfold maxLen; omega) (Nat.le_trans (Nat.mul_le_mul (show l.length + 1 ≤ 1000001 by omega) hb) (by decide))
theorem qh {α : Type} {r : List Value → α → Prop} : ue (fun _ => r) := fun _ _ _ _ _ h => h
end
section
open Go.RowKit
open Vd (RSet Vdt Vote Rec Quest Piece)
variable {G : World} {L : ja}
def Yk : Rp Quest := fun _ cs q => cs = [.string (bs q.name), .int .u16 q.kind, .int .u16 q.cls] ∧ q.name.length ≤ maxLen ∧ (0 ≤ q.kind ∧ q.kind ≤ 65535) ∧ (0 ≤ q.cls ∧ q.cls ≤ 65535)
def afz (N L : ja) (x : Vd.Trail) (u : Value) (M : ja) : Prop := ∃ a c B a2 c2 B2, u = .tuple #[.slice a x.chain.length c, .string (bs x.pos), .slice a2 x.last.length c2, .int .i64 x.e] ∧ ORow rsR 122 5 N a c x.chain B ∧ ORow rsR 122 5 N a2 c2 x.last B2 ∧ M = B2 ++ (B ++ L)
theorem abl {N : ja} {cs : List Value} {s : RSet} {b : Nat} {e : TypeId} (h : rsR N cs s) : ORow rsR e 5 N (some ⟨b, 0, none⟩) 1 [s] [(b, .cells cs.toArray e (0, 0))] := ORow.lit1 h.len h h.one
theorem Jk {l : List RSet} {n : Vd.Bytes} {k c : Int} (h : (Vd.findS l n k c).2 = true) : (Vd.findS l n k c).1 ∈ l := by
 unfold Vd.findS at h ⊢
 split
 · rename_i s hs
   exact List.mem_of_find?_eq_some hs
 · rename_i hs
   rw [hs] at h
   cases h
end
section
open Go.RowKit
open Vd (RSet Vdt Vote Rec Quest Piece)
def msgR : Rp Vd.Msg := fun L cs m => ∃ h0 h1 h2 h3 h4 h5 h6 h7 h8 h9 q a b x k e0 e1 e2 e3 e4, cs = [h0, h1, h2, h3, h4, h5, h6, h7, h8, h9, .int .u8 m.code, q, a, b, x, k, e0, e1, e2, e3, e4] ∧ sliceR 5 adp L [a] m.answers ∧ sliceR 5 adp L [b] m.auth ∧ (0 ≤ m.code ∧ m.code ≤ 255) ∧ ∀ v ∈ cs, v.oneCell' = true
theorem Q0 : ∀ (f : Nat) (l : List RSet) (s : RSet), s ∈ Vd.rise f l → s ∈ l
 | 0, l, s, h => by simp [Vd.rise] at h
 | f + 1, [], s, h => by simp [Vd.rise] at h
 | f + 1, t :: l, s, h => by
   rw [Vd.rise] at h
   rcases List.mem_append.1 h with h | h
   · split at h
     · rename_i x hx
       rw [List.mem_singleton.1 h]
       exact List.mem_of_getElem? hx
     · simp at h
   · exact List.mem_of_mem_eraseIdx (Q0 f _ s h)
theorem Q1 : ∀ (f : Nat) (l : List RSet), (Vd.rise f l).length ≤ f
 | 0, l => by simp [Vd.rise]
 | f + 1, [] => by simp [Vd.rise]
 | f + 1, t :: l => by
   rw [Vd.rise, List.length_append]
   have h1 := Q1 f ((t :: l).eraseIdx (Vd.leastAt (t :: l) l.length))
   split
   · simp only [List.length_singleton]; omega
   · simp only [List.length_nil]; omega
theorem Q2 {D : Nat} (l : List Rec) (hl : ∀ x ∈ l, x.data.length ≤ D) : (Vd.group l).length ≤ l.length ∧ ∀ s ∈ Vd.group l, s.name.length ≤ 255 ∧ s.data.length ≤ l.length ∧ s.data ≠ [] ∧ ∀ d ∈ s.data, d.length ≤ D := by
 have h := J8 l hl l.length (Nat.le_refl _)
 rw [List.take_length] at h
 refine ⟨Nat.le_trans (Q1 _ _) h.few, fun s hs => ?_⟩
 have hm := Q0 _ _ s hs
 exact ⟨h.name s hm, h.data s hm, h.one s hm, h.datum s hm⟩
theorem zq {q : Quest} {l chain : List RSet} {pos : Vd.Bytes} (hc : ∀ s ∈ chain, s ∈ l) : (∀ s ∈ (Vd.trailEnd q l pos chain).chain, s ∈ l) ∧ (∀ s ∈ (Vd.trailEnd q l pos chain).last, s ∈ l) ∧ (Vd.trailEnd q l pos chain).chain.length ≤ chain.length ∧ (Vd.trailEnd q l pos chain).last.length ≤ 1 ∧ (Vd.trailEnd q l pos chain).pos.length ≤ pos.length := by
 unfold Vd.trailEnd
 split
 · rename_i h
   refine ⟨hc, fun s hs => ?_, Nat.le_refl _, by simp, Nat.le_refl _⟩
   rw [List.mem_singleton.1 hs]
   exact Jk h
 · exact ⟨hc, by simp, Nat.le_refl _, by simp, Nat.le_refl _⟩
theorem zr {q : Quest} {l : List RSet} : ∀ (f : Nat) (pos : Vd.Bytes) (met : List Vd.Bytes) (chain : List RSet), (∀ s ∈ chain, s ∈ l) → pos.length ≤ 255 →
 (∀ s ∈ (Vd.followGo q l f pos met chain).chain, s ∈ l) ∧ (∀ s ∈ (Vd.followGo q l f pos met chain).last, s ∈ l) ∧ (Vd.followGo q l f pos met chain).chain.length ≤ chain.length + f ∧ (Vd.followGo q l f pos met chain).last.length ≤ 1 ∧ (Vd.followGo q l f pos met chain).pos.length ≤ 255
 | 0, pos, met, chain, hc, hp => by
   have := zq (q := q) (pos := pos) hc
   exact ⟨this.1, this.2.1, by have := this.2.2.1; rw [Vd.followGo]; omega, this.2.2.2.1, Nat.le_trans this.2.2.2.2 hp⟩
 | f + 1, pos, met, chain, hc, hp => by
   have he := zq (q := q) (pos := pos) hc
   have hend : (∀ s ∈ (Vd.trailEnd q l pos chain).chain, s ∈ l) ∧ (∀ s ∈ (Vd.trailEnd q l pos chain).last, s ∈ l) ∧ (Vd.trailEnd q l pos chain).chain.length ≤ chain.length + (f + 1) ∧ (Vd.trailEnd q l pos chain).last.length ≤ 1 ∧ (Vd.trailEnd q l pos chain).pos.length ≤ 255 := ⟨he.1, he.2.1, by have := he.2.2.1; omega, he.2.2.2.1, Nat.le_trans he.2.2.2.2 hp⟩
   rw [Vd.followGo]
   split
   · exact hend
   split
   · exact hend
   rename_i h5 hf
   split
   · simp
   split
   · rename_i d hd
     split
     · simp
     split
     · simp
     · have := zr (q := q) f (Nm.fold d) (met ++ [Nm.fold d]) (chain ++ [(Vd.findS l pos 5 q.cls).1]) (fun s hs => by
        rcases List.mem_append.1 hs with hs | hs
        · exact hc s hs
        · rw [List.mem_singleton.1 hs]; exact Jk (by simpa using hf)) (yx _)
       refine ⟨this.1, this.2.1, ?_, this.2.2.2.1, this.2.2.2.2⟩
       have h := this.2.2.1
       simp at h ⊢
       omega
   · simp
theorem We (q : Quest) (l : List RSet) : (∀ s ∈ (Vd.follow q l).chain, s ∈ l) ∧ (∀ s ∈ (Vd.follow q l).last, s ∈ l) ∧ (Vd.follow q l).chain.length ≤ 9 ∧ (Vd.follow q l).last.length ≤ 1 ∧ (Vd.follow q l).pos.length ≤ 255 := by
 unfold Vd.follow
 split
 · have := zr (q := q) (l := l) 9 (Nm.fold q.name) [Nm.fold q.name] [] (by simp) (yx _)
   simpa using this
 · simp
theorem UU {l : List RSet} {n : Vd.Bytes} {c : Int} (h : (Vd.findSoa l n c).2.1 = true) : (Vd.findSoa l n c).1 ∈ l := by
 unfold Vd.findSoa at h ⊢
 split at h
 · cases h
 · rename_i hb
   rw [if_neg hb]
   split at h
   · rename_i s hs
     split at h
     · cases h
     · rename_i hd
       rw [if_neg hd]
       exact List.mem_of_getElem? hs
   · cases h
end
section
open Go.RowKit
open Vd (RSet Vdt Vote Rec Quest Piece)
variable {G : World} {L : ja}
def afA (L : ja) (r : Vdt × Int × Int) (u : Value) (M : ja) : Prop := ∃ a c B a2 c2 B2 N, u = .tuple #[.agg #[.int .u8 r.1.code, .slice a r.1.sets.length c, .slice a2 r.1.soa.length c2], .int .u32 r.2.1, .int .i64 r.2.2] ∧
 ORow rsR 122 5 N a c r.1.sets B ∧ ORow rsR 122 5 N a2 c2 r.1.soa B2 ∧ Wr N ∧ M = B2 ++ (B ++ (N ++ L))
theorem K8 {P : Program} {n : Nat} {ρ : jp} {Q : Exit → Act → World → Prop} {σ : Type} {x y : Code} (I : σ → Prop) (ρI : σ → jp) (LI : σ → ja) (hx : T P G n ρ L x (Exit.then (Mid G n I ρI LI) Q)) (hy : ∀ s, I s → T P G n (ρI s) (LI s) y Q) : T P G n ρ L x (Exit.then (y.wp P Q) Q) :=
 KW hx fun e a w h => by
  cases e with
  | normal =>
    obtain ⟨s, h1, h2, h3⟩ := h
    exact (hy s h1).out a w h2 h3
  | _ => exact h
theorem Yl {P : Program} {n : Nat} {ρ : jp} {Q : Exit → Act → World → Prop} {ops : Array Oper} {K : ja} {W : List Nat} {fuel : Nat} {listed : Array Bool} {i d : Nat} {oi : Oper} {Φ : Value → ja → Prop} (hi : ops[i]? = some oi) (hd : oi.dst = some d) (hdn : Nat.blt d n = true) (hg : oi.guard = none)
 (hO : OpT P G ρ L oi.op oi.type Φ) (h : ∀ v L', Φ v L' → (i ∈ W ∨ ∀ p ∈ K, p ∈ L') ∧ TA P G ops n K W Q fuel (listed.setIfInBounds i true) ((d, v) :: ρ) L') : Up P G ops n K W Q fuel listed ρ L i :=
 acB hi (by rw [hd]; exact hdn) hg hO (by rw [hd]; exact h)
theorem qT {P : Program} {ρ : jp} {ty : TypeId} {x y : Operand} {b k : Nat} {t : TypeId} {C D : Array Value} {te : TypeId} (hx : ev ρ x = some (.pointer (some ⟨b, 0, none⟩))) (hy : ev ρ y = some (.agg D))
 (ht : jL P t k = true) (hC : C.size = k) (hD : D.size = k) (hone : yP D = true) : OpV P G ρ ((b, Obj.cells C te (0, 0)) :: L) (.store t x y) ty undef ((b, Obj.cells D te (0, 0)) :: L) := by
 have h1 := u5 (G := G) (P := P) (ρ := ρ) (L := L) (ty := ty) (b := b) (C := C) (te := te) (t := t) (cs := D.toList) hx (by simpa using hy) (by rw [Array.length_toList, hD]; exact ht) (fun v hv => List.all_eq_true.1 hone v hv) (by rw [Array.length_toList, hD, hC]; omega)
 have h2 : qg C 0 D.toList = D := by
  unfold qg
  rw [List.drop_eq_nil_of_le (by simp; omega)]
  simp
 rw [h2] at h1
 exact h1
end
section
open Go.RowKit
open Vd (RSet Vdt Vote Rec Quest Piece)
section
variable {G : World} {P : Program} {n : Nat} {ρ : jp} {L : ja} {Q : Exit → Act → World → Prop}
end
def aeG (dk : List (Nat × Nat)) (D : ja) : Prop := ∀ k ∈ dk, ∃ C te, (k.1, Obj.cells C te (0, 0)) ∈ D ∧ k.2 ≤ C.size
def DS (dk : List (Nat × Nat)) (a : Option Addr) (m : Nat) : Prop := m = 0 ∨ ∃ b off s, a = some ⟨b, off, none⟩ ∧ (b, s) ∈ dk ∧ off + m ≤ s ∧ m ≤ 9223372036854775807
theorem DS.ex {dk : List (Nat × Nat)} {a : Option Addr} {m : Nat} (h : DS dk a m) (hm : 0 < m) : ∃ b off s, a = some ⟨b, off, none⟩ ∧ (b, s) ∈ dk ∧ off + m ≤ s ∧ m ≤ 9223372036854775807 := by
 rcases h with h | h
 · omega
 · exact h
def RowS (dk : List (Nat × Nat)) (B : ja) (a : Option Addr) (n : Nat) : Prop := (n = 0 ∧ B = []) ∨ ∃ b cur, a = some ⟨b, 0, none⟩ ∧ B = [(b, Obj.cells cur 122 (0, 0))] ∧ n * 5 ≤ cur.size ∧ ∀ i, i < n → ∃ da m c, cur[i * 5 + 4]? = some (.slice da m c) ∧ DS dk da m
theorem RowS.ex {dk : List (Nat × Nat)} {B : ja} {a : Option Addr} {n i : Nat} (h : RowS dk B a n) (hi : i < n) : ∃ b cur, a = some ⟨b, 0, none⟩ ∧ B = [(b, Obj.cells cur 122 (0, 0))] ∧ n * 5 ≤ cur.size ∧ ∀ i, i < n → ∃ da m c, cur[i * 5 + 4]? = some (.slice da m c) ∧ DS dk da m := by
 rcases h with h | h
 · omega
 · exact h
def ad5 : List Value := [.string (bs [115, 112, 111, 105, 108, 116]), .int .u16 0, .int .u16 0, .int .u32 0, .slice none 0 0]
theorem RowS.put {dk : List (Nat × Nat)} {b : Nat} {cur : Array Value} {n i : Nat} (h : RowS dk [(b, Obj.cells cur 122 (0, 0))] (some ⟨b, 0, none⟩) n) (hi : i < n) :
 RowS dk [(b, Obj.cells (qg cur (0 + i * 5) [.string (bs [115, 112, 111, 105, 108, 116]), .int .u16 0, .int .u16 0, .int .u32 0, .slice none 0 0]) 122 (0, 0))] (some ⟨b, 0, none⟩) n := by
 obtain ⟨b0, cur0, e1, e2, h3, h4⟩ := h.ex hi
 simp only [List.cons.injEq, Prod.mk.injEq, Obj.cells.injEq, and_true] at e2
 obtain ⟨rfl, rfl⟩ := e2
 have hle : (i + 1) * 5 ≤ n * 5 := Nat.mul_le_mul_right _ hi
 refine Or.inr ⟨_, _, rfl, rfl, ?_, fun j hj => ?_⟩
 · unfold qg; simp; omega
 · rw [Nat.zero_add]
   by_cases hji : j = i
   · subst hji
     refine ⟨none, 0, 0, ?_, Or.inl rfl⟩
     unfold qg
     simp only [List.getElem?_toArray]
     rw [List.append_assoc, List.getElem?_append_right (by simp; omega), List.getElem?_append_left (by simp; omega)]
     have : min (j * 5) cur.size = j * 5 := by omega
     simp [this]
   · obtain ⟨da, m, c, k1, k2⟩ := h4 j hj
     refine ⟨da, m, c, ?_, k2⟩
     rw [← k1]
     unfold qg
     simp only [List.getElem?_toArray]
     have hmin : min (i * 5) cur.size = i * 5 := by omega
     by_cases hlt : j < i
     · have : (j + 1) * 5 ≤ i * 5 := Nat.mul_le_mul_right _ hlt
       rw [List.append_assoc, List.getElem?_append_left (by simp; omega), List.getElem?_take_of_lt jf]
       simp
     · have : (i + 1) * 5 ≤ j * 5 := Nat.mul_le_mul_right _ jf
       rw [List.getElem?_append_right (by simp; omega), List.getElem?_drop]
       simp only [List.length_append, List.length_take, Array.length_toList, List.length_cons, List.length_nil, hmin]
       rw [show i * 5 + (0 + 1 + 1 + 1 + 1 + 1) + (j * 5 + 4 - (i * 5 + (0 + 1 + 1 + 1 + 1 + 1))) = j * 5 + 4 by omega]
       simp
variable {G : World} {L : ja}
end
section
open Go.RowKit
open Vd (RSet Vdt Vote Rec Quest Piece)
theorem sliceR.const {α : Type} {r : Rp α} {sz : Nat} {L : ja} {cs : List Value} {l : List α} (h : sliceR sz r L cs l) : sliceR sz (fun _ => r L) L cs l := h.imp (fun _ h => h) (fun _ _ _ h => h)
def SmS (l : List RSet) : Prop := l.length ≤ 100000 ∧ ∀ s ∈ l, s.data.length ≤ 100000
def SmV (v : Vdt) : Prop := SmS v.sets ∧ SmS v.soa
variable {G : World} {L : ja}
def Ym (L : ja) (v : Vdt) (u : Value) (M : ja) : Prop := ∃ a c B a2 c2 B2 N, u = .agg #[.int .u8 v.code, .slice a v.sets.length c, .slice a2 v.soa.length c2] ∧
 ORow rsR 122 5 N a c v.sets B ∧ ORow rsR 122 5 N a2 c2 v.soa B2 ∧ Wr N ∧ M = B2 ++ (B ++ (N ++ L))
theorem zt (v : Value) (l : List RSet) (hl : sliceR 5 rsR L [v] l) (hs : SmS l) : Spec Tryz.prog G 116 #[v] L fun u M => ∃ a c B N, u = .slice a l.length c ∧ ORow rsR 122 5 N a c l B ∧ Wr N ∧ M = B ++ (N ++ L) := by
 obtain ⟨hn, hd⟩ := hs
 obtain ⟨a0, c0, e1, hl⟩ := hl.val
 simp only [List.cons.injEq, and_true] at e1
 subst e1
 obtain ⟨_, ka1, ka2, hl⟩ := qS hl
 refine jm (n := 22) Tryz.func116 rfl rfl rfl ?_
 refine goA ?_
 refine jB (σ := Nat × Option Addr × Nat × ja × ja) (fun x => x.1 ≤ l.length ∧ ORow rsR 122 5 x.2.2.2.2 x.2.1 x.2.2.1 (l.take x.1) x.2.2.2.1 ∧ Wr x.2.2.2.2) (fun x => [(3, .slice x.2.1 (l.take x.1).length x.2.2.1), (6, .slice a0 l.length c0), (7, .int .i64 (l.length : Nat)), (8, .int .i64 (x.1 : Nat))]) (fun x => x.2.2.2.1 ++ (x.2.2.2.2 ++ L)) (fun x => l.length - x.1) (0, none, 0, [], []) ⟨Nat.zero_le _, ORow.nil _, Wr.nil⟩ ?_ (fun w h => h) ?_
 exact jv
 rintro ⟨k, a, c, B, N⟩ ⟨hk, hB, hN⟩
 dsimp only at hk hB hN ⊢
 by_cases hlt : k < l.length
 · obtain ⟨x, hx⟩ : ∃ x, l[k]? = some x := ⟨_, List.getElem?_eq_getElem hlt⟩
   have htk : l.take (k + 1) = l.take k ++ [x] := by rw [List.take_add_one, hx]; rfl
   have htl : (l.take k).length ≤ 100000 := by rw [List.length_take]; omega
   rcases hl with rfl | ⟨b1, o1, C1, t1, f1, rfl, m1, q1⟩
   · simp at hlt
   obtain ⟨cx, _, hx2, hcx⟩ := q1 k x hx
   obtain ⟨xa, xc, rfl, hxd, hx4⟩ := hx2.vals
   have m1' : (b1, Obj.cells C1 t1 f1) ∈ B ++ (N ++ L) := List.mem_append_right _ (List.mem_append_right _ m1)
   refine goA ?_
   refine ju (jD [.string (bs x.name), .int .u16 x.kind, .int .u16 x.cls, .int .u32 x.ttl, .slice xa x.data.length xc] rfl stL m1' hcx) rfl ?_
   repeat (first | refine goA ?_ | (refine j5 ?_; intro bNew))
   refine jx (jb jg rfl (K7 _ x.data (jn kI _ _ _ _ jt hxd) (Nat.le_trans (hd x (List.mem_of_getElem? hx)) jf))) rfl ?_
   rintro _ _ ⟨ad, cd, Bd, rfl, hBd, rfl⟩
   refine jy (L' := (bNew, Obj.cells #[.string (bs x.name), .int .u16 x.kind, .int .u16 x.cls, .int .u32 x.ttl, .slice xa x.data.length xc] 122 (0, 0)) :: (B ++ ((Bd ++ N) ++ L))) ?_ jl
   repeat (refine ju (ub rfl KX) rfl ?_)
   refine qJ (C' := #[.string (bs x.name), .int .u16 x.kind, .int .u16 x.cls, .int .u32 x.ttl, .slice ad x.data.length cd]) rfl rfl onO rfl rfl rfl ?_
   repeat (first | refine goA ?_ | (refine uf ?_; intro bLit))
   refine jy (L' := (bLit, Obj.cells #[.string (bs x.name), .int .u16 x.kind, .int .u16 x.cls, .int .u32 x.ttl, .slice ad x.data.length cd] 122 (0, 0)) :: (B ++ ((bNew, Obj.cells #[.string (bs x.name), .int .u16 x.kind, .int .u16 x.cls, .int .u32 x.ttl, .slice ad x.data.length cd] 122 (0, 0)) :: ((Bd ++ N) ++ L)))) ?_ jl
   refine jx (QZ (L0 := Bd ++ N) (cs := [.string (bs x.name), .int .u16 x.kind, .int .u16 x.cls, .int .u32 x.ttl, .slice ad x.data.length cd]) (y := x) etO rfl rfl (hB.mono jq jt) ⟨_, rfl, (hBd.imp (L' := []) (fun cs y _ h => h)).sliceR kI jt jt, hx4⟩ jf (by decide)) rfl ?_
   rintro _ _ ⟨a', c', B', rfl, hB', rfl⟩
   refine goA ?_
   refine jk (k + 1, a', c', B', Bd ++ N) ⟨hlt, by dsimp only; rw [htk]; exact hB', hBd.wr.append hN⟩ ?_ (fun w h => h.cnt jl) (by dsimp only; omega)
   dsimp only
   rw [htk]
   exact jv
 · have hkn : k = l.length := by omega
   subst hkn
   rw [List.take_length] at hB ⊢
   refine goA ?_
   refine je 2 _ rfl rfl ?_
   exact ⟨a, c, B, N, rfl, hB, hN, rfl⟩
theorem uE (cs : List Value) (v : Vdt) (hv : vdR L cs v) (hs : SmV v) : Spec Tryz.prog G 84 #[.agg cs.toArray] L (Ym L v) := by
 obtain ⟨va, vb, rfl, h1, h2, hcode⟩ := hv
 obtain ⟨a1, c1, ea, h1⟩ := h1.val
 obtain ⟨a2, c2, eb, h2⟩ := h2.val
 simp only [List.cons.injEq, and_true] at ea eb
 subst ea eb
 refine jm (n := 12) Tryz.func84 rfl rfl rfl ?_
 repeat (first | refine goA ?_ | (refine j5 ?_; intro bNew) | (refine kK ?_; intro bBox))
 have hKm : ∀ z ∈ [(bBox, Obj.cells #[.int .u8 v.code, .slice a1 v.sets.length c1, .slice a2 v.soa.length c2] 40 (0, 0))], z ∈ (bNew, Obj.cells #[.int .u8 0, .slice none 0 0, .slice none 0 0] 40 (0, 0)) :: ((bBox, Obj.cells #[.int .u8 v.code, .slice a1 v.sets.length c1, .slice a2 v.soa.length c2] 40 (0, 0)) :: L) := jt
 refine jw jc ([(bBox, Obj.cells #[.int .u8 v.code, .slice a1 v.sets.length c1, .slice a2 v.soa.length c2] 40 (0, 0))]) [] ?_
 refine tkQ 0 ?_
 refine tkQ 1 ?_
 refine tkQ 2 ?_
 refine tkQ 3 ?_
 refine tkQ 5 ?_
 refine tkQ 6 ?_
 refine jO 4 jg rfl rfl rfl rfl (jb jg rfl (zt _ v.sets (jn jq _ _ _ _ jt h1) hs.1)) ?_; rintro _ _ ⟨aR, cR, BR, NR, rfl, hR, hNR, rfl⟩; refine ⟨Or.inr jt, ?_⟩
 refine jO 7 jg rfl rfl rfl rfl (jb jg rfl (zt _ v.soa (jn jq _ _ _ _ jt h2) hs.2)) ?_; rintro _ _ ⟨aS, cS, BS, NS, rfl, hS, hNS, rfl⟩; refine ⟨Or.inr jt, ?_⟩
 (refine' jz 8 rfl rfl jg (jJ (jo rfl (ux _ _ _ _ _ _ _))) ?_ ?_; (· intro p hp; grind))
 refine kP (L' := (bNew, Obj.cells #[.int .u8 0, .slice none 0 0, .slice none 0 0] 40 (0, 0)) :: (BS ++ (NS ++ (BR ++ (NR ++ ((bBox, Obj.cells #[.int .u8 v.code, .slice a1 v.sets.length c1, .slice a2 v.soa.length c2] 40 (0, 0)) :: L)))))) ?_ jl; refine kf 9 jg rfl rfl rfl (qT rfl rfl stO rfl rfl rfl) ?_; rintro _ _ ⟨_, rfl⟩; refine ⟨Or.inr jt, ?_⟩
 refine tdQ ?_
 refine goA ?_
 refine ku 2 40  rfl rfl  stO (by repeat (exact List.mem_cons_self)) rfl (fun w h => Heap.cnt (L' := BS ++ (BR ++ ((NS ++ NR) ++ L))) h jl) ?_
 exact ⟨_, _, _, _, _, _, NS ++ NR, rfl, hR.mono jq jt, hS.mono jq jt, hNS.append hNR, rfl⟩
theorem zu (v : Value) (l : List RSet) (hl : sliceR 5 rsR L [v] l) (hs : SmS l) : Spec Tryz.prog G 126 #[v] L fun u M => ∃ a c B N, u = .slice a l.length c ∧ ORow rsR 122 5 N a c l B ∧ Wr N ∧ M = B ++ (N ++ L) := by
 obtain ⟨hn, hd⟩ := hs
 obtain ⟨a0, c0, e1, hl⟩ := hl.val
 simp only [List.cons.injEq, and_true] at e1
 subst e1
 obtain ⟨_, ka1, ka2, hl⟩ := qS hl
 refine jm (n := 22) Tryz.func126 rfl rfl rfl ?_
 refine goA ?_
 refine jB (σ := Nat × Option Addr × Nat × ja × ja) (fun x => x.1 ≤ l.length ∧ ORow rsR 122 5 x.2.2.2.2 x.2.1 x.2.2.1 (l.take x.1) x.2.2.2.1 ∧ Wr x.2.2.2.2) (fun x => [(3, .slice x.2.1 (l.take x.1).length x.2.2.1), (6, .slice a0 l.length c0), (7, .int .i64 (l.length : Nat)), (8, .int .i64 (x.1 : Nat))]) (fun x => x.2.2.2.1 ++ (x.2.2.2.2 ++ L)) (fun x => l.length - x.1) (0, none, 0, [], []) ⟨Nat.zero_le _, ORow.nil _, Wr.nil⟩ ?_ (fun w h => h) ?_
 exact jv
 rintro ⟨k, a, c, B, N⟩ ⟨hk, hB, hN⟩
 dsimp only at hk hB hN ⊢
 by_cases hlt : k < l.length
 · obtain ⟨x, hx⟩ : ∃ x, l[k]? = some x := ⟨_, List.getElem?_eq_getElem hlt⟩
   have htk : l.take (k + 1) = l.take k ++ [x] := by rw [List.take_add_one, hx]; rfl
   have htl : (l.take k).length ≤ 100000 := by rw [List.length_take]; omega
   rcases hl with rfl | ⟨b1, o1, C1, t1, f1, rfl, m1, q1⟩
   · simp at hlt
   obtain ⟨cx, _, hx2, hcx⟩ := q1 k x hx
   obtain ⟨xa, xc, rfl, hxd, hx4⟩ := hx2.vals
   have m1' : (b1, Obj.cells C1 t1 f1) ∈ B ++ (N ++ L) := List.mem_append_right _ (List.mem_append_right _ m1)
   refine goA ?_
   refine ju (jD [.string (bs x.name), .int .u16 x.kind, .int .u16 x.cls, .int .u32 x.ttl, .slice xa x.data.length xc] rfl stL m1' hcx) rfl ?_
   repeat (first | refine goA ?_ | (refine j5 ?_; intro bNew))
   refine jx (jb jg rfl (K7 _ x.data (jn kI _ _ _ _ jt hxd) (Nat.le_trans (hd x (List.mem_of_getElem? hx)) jf))) rfl ?_
   rintro _ _ ⟨ad, cd, Bd, rfl, hBd, rfl⟩
   refine jy (L' := (bNew, Obj.cells #[.string (bs x.name), .int .u16 x.kind, .int .u16 x.cls, .int .u32 x.ttl, .slice xa x.data.length xc] 122 (0, 0)) :: (B ++ ((Bd ++ N) ++ L))) ?_ jl
   repeat (refine ju (ub rfl KX) rfl ?_)
   refine qJ (C' := #[.string (bs x.name), .int .u16 x.kind, .int .u16 x.cls, .int .u32 x.ttl, .slice ad x.data.length cd]) rfl rfl onO rfl rfl rfl ?_
   repeat (first | refine goA ?_ | (refine uf ?_; intro bLit))
   refine jy (L' := (bLit, Obj.cells #[.string (bs x.name), .int .u16 x.kind, .int .u16 x.cls, .int .u32 x.ttl, .slice ad x.data.length cd] 122 (0, 0)) :: (B ++ ((bNew, Obj.cells #[.string (bs x.name), .int .u16 x.kind, .int .u16 x.cls, .int .u32 x.ttl, .slice ad x.data.length cd] 122 (0, 0)) :: ((Bd ++ N) ++ L)))) ?_ jl
   refine jx (QZ (L0 := Bd ++ N) (cs := [.string (bs x.name), .int .u16 x.kind, .int .u16 x.cls, .int .u32 x.ttl, .slice ad x.data.length cd]) (y := x) etO rfl rfl (hB.mono jq jt) ⟨_, rfl, (hBd.imp (L' := []) (fun cs y _ h => h)).sliceR kI jt jt, hx4⟩ jf (by decide)) rfl ?_
   rintro _ _ ⟨a', c', B', rfl, hB', rfl⟩
   refine goA ?_
   refine jk (k + 1, a', c', B', Bd ++ N) ⟨hlt, by dsimp only; rw [htk]; exact hB', hBd.wr.append hN⟩ ?_ (fun w h => h.cnt jl) (by dsimp only; omega)
   dsimp only
   rw [htk]
   exact jv
 · have hkn : k = l.length := by omega
   subst hkn
   rw [List.take_length] at hB ⊢
   refine goA ?_
   refine je 2 _ rfl rfl ?_
   exact ⟨a, c, B, N, rfl, hB, hN, rfl⟩
theorem uF (cs : List Value) (v : Vdt) (hv : vdR L cs v) (hs : SmV v) : Spec Tryz.prog G 101 #[.agg cs.toArray] L (Ym L v) := by
 obtain ⟨va, vb, rfl, h1, h2, hcode⟩ := hv
 obtain ⟨a1, c1, ea, h1⟩ := h1.val
 obtain ⟨a2, c2, eb, h2⟩ := h2.val
 simp only [List.cons.injEq, and_true] at ea eb
 subst ea eb
 refine jm (n := 12) Tryz.func101 rfl rfl rfl ?_
 repeat (first | refine goA ?_ | (refine j5 ?_; intro bNew) | (refine kK ?_; intro bBox))
 have hKm : ∀ z ∈ [(bBox, Obj.cells #[.int .u8 v.code, .slice a1 v.sets.length c1, .slice a2 v.soa.length c2] 40 (0, 0))], z ∈ (bNew, Obj.cells #[.int .u8 0, .slice none 0 0, .slice none 0 0] 40 (0, 0)) :: ((bBox, Obj.cells #[.int .u8 v.code, .slice a1 v.sets.length c1, .slice a2 v.soa.length c2] 40 (0, 0)) :: L) := jt
 refine jw jc ([(bBox, Obj.cells #[.int .u8 v.code, .slice a1 v.sets.length c1, .slice a2 v.soa.length c2] 40 (0, 0))]) [] ?_
 refine tkQ 0 ?_
 refine tkQ 1 ?_
 refine tkQ 2 ?_
 refine tkQ 3 ?_
 refine tkQ 5 ?_
 refine tkQ 6 ?_
 refine jO 4 jg rfl rfl rfl rfl (jb jg rfl (zu _ v.sets (jn jq _ _ _ _ jt h1) hs.1)) ?_; rintro _ _ ⟨aR, cR, BR, NR, rfl, hR, hNR, rfl⟩; refine ⟨Or.inr jt, ?_⟩
 refine jO 7 jg rfl rfl rfl rfl (jb jg rfl (zu _ v.soa (jn jq _ _ _ _ jt h2) hs.2)) ?_; rintro _ _ ⟨aS, cS, BS, NS, rfl, hS, hNS, rfl⟩; refine ⟨Or.inr jt, ?_⟩
 (refine' jz 8 rfl rfl jg (jJ (jo rfl (ux _ _ _ _ _ _ _))) ?_ ?_; (· intro p hp; grind))
 refine kP (L' := (bNew, Obj.cells #[.int .u8 0, .slice none 0 0, .slice none 0 0] 40 (0, 0)) :: (BS ++ (NS ++ (BR ++ (NR ++ ((bBox, Obj.cells #[.int .u8 v.code, .slice a1 v.sets.length c1, .slice a2 v.soa.length c2] 40 (0, 0)) :: L)))))) ?_ jl; refine kf 9 jg rfl rfl rfl (qT rfl rfl stO rfl rfl rfl) ?_; rintro _ _ ⟨_, rfl⟩; refine ⟨Or.inr jt, ?_⟩
 refine tdQ ?_
 refine goA ?_
 refine ku 2 40  rfl rfl  stO (by repeat (exact List.mem_cons_self)) rfl (fun w h => Heap.cnt (L' := BS ++ (BR ++ ((NS ++ NR) ++ L))) h jl) ?_
 exact ⟨_, _, _, _, _, _, NS ++ NR, rfl, hR.mono jq jt, hS.mono jq jt, hNS.append hNR, rfl⟩
end
section
open Go.RowKit
open Vd (RSet Vdt Vote Rec Quest Piece Ballot)
def ballotR : Rp Ballot := fun L cs x => ∃ a1 c1 a2 c2, cs = [.int .i64 x.v.up, .int .u8 x.v.vd.code, .slice a1 x.v.vd.sets.length c1, .slice a2 x.v.vd.soa.length c2, .int .u32 x.v.time, .bool x.pass] ∧ voteR L [.int .i64 x.v.up, .int .u8 x.v.vd.code, .slice a1 x.v.vd.sets.length c1, .slice a2 x.v.vd.soa.length c2, .int .u32 x.v.time] x.v
theorem Q3 : ue ballotR := fun L L' cs x hL ⟨a1, c1, a2, c2, h1, h2⟩ => ⟨a1, c1, a2, c2, h1, kz L L' _ _ hL h2⟩
theorem voteR.vals {L : ja} {cs : List Value} {v : Vote} (h : voteR L cs v) : ∃ a1 c1 a2 c2, cs = [.int .i64 v.up, .int .u8 v.vd.code, .slice a1 v.vd.sets.length c1, .slice a2 v.vd.soa.length c2, .int .u32 v.time] ∧ sliceR 5 rsR L [.slice a1 v.vd.sets.length c1] v.vd.sets ∧ sliceR 5 rsR L [.slice a2 v.vd.soa.length c2] v.vd.soa ∧ (0 ≤ v.vd.code ∧ v.vd.code ≤ 255) ∧ (0 ≤ v.time ∧ v.time ≤ 4294967295) ∧ (-9223372036854775808 ≤ v.up ∧ v.up ≤ 9223372036854775807) := by
 obtain ⟨a, b, rfl, h1, h2, h3⟩ := h
 obtain ⟨a1, c1, e1, h1⟩ := h1.val
 obtain ⟨a2, c2, e2, h2⟩ := h2.val
 simp only [List.cons.injEq, and_true] at e1 e2
 subst e1 e2
 exact ⟨a1, c1, a2, c2, rfl, h1, h2, h3⟩
theorem voteR.one {L : ja} {cs : List Value} {v : Vote} (h : voteR L cs v) : ∀ x ∈ cs, x.oneCell' = true := by
 obtain ⟨a1, c1, a2, c2, rfl, _⟩ := h.vals
 intro x hx
 simp only [List.mem_cons, List.not_mem_nil, or_false] at hx
 rcases hx with rfl | rfl | rfl | rfl | rfl <;> rfl
theorem voteR.len {L : ja} {cs : List Value} {v : Vote} (h : voteR L cs v) : cs.length = 5 := by
 obtain ⟨a1, c1, a2, c2, rfl, _⟩ := h.vals
 rfl
theorem ballotR.one {L : ja} {cs : List Value} {x : Ballot} (h : ballotR L cs x) : ∀ v ∈ cs, v.oneCell' = true := by
 obtain ⟨a1, c1, a2, c2, rfl, _⟩ := h
 intro v hv
 simp only [List.mem_cons, List.not_mem_nil, or_false] at hv
 rcases hv with rfl | rfl | rfl | rfl | rfl | rfl <;> rfl
theorem ballotR.len {L : ja} {cs : List Value} {x : Ballot} (h : ballotR L cs x) : cs.length = 6 := by
 obtain ⟨a1, c1, a2, c2, rfl, _⟩ := h
 rfl
section
variable {G : World} {P : Program} {n : Nat} {ρ : jp} {L : ja} {Q : Exit → Act → World → Prop} {ops : Array Oper} {K : ja} {W : List Nat} {fuel : Nat} {listed : Array Bool}
end
section
variable {G : World} {P : Program} {ρ : jp} {L : ja} {ty : TypeId}
theorem Yn {α : Type} {r : List Value → α → Prop} {s x : Operand} {t e te : TypeId} {sz bytes bl : Nat} {z : Value} {a : Option Addr} {c : Nat} {cs : List Value} {y : α} {l : List α} {B L0 : ja} (E : ElemTy P t e sz bytes z) (hs : ev ρ s = some (.slice a l.length c)) (hx : ev ρ x = some (.slice (some ⟨bl, 0, none⟩) 1 1))
 (hrow : ORow (fun _ => r) e sz L0 a c l B) (hn : cs.length = sz) (hone : ∀ v ∈ cs, v.oneCell' = true) (hy : r cs y) (h63 : l.length ≤ 1000000) (hb : bytes ≤ 1000) :
 OpT P G ρ ((bl, .cells cs.toArray te (0, 0)) :: (B ++ L)) (.call ⟨.builtin .append, #[s, x], #[t, t]⟩) ty fun v' L' => ∃ a' c' B', v' = .slice a' (l ++ [y]).length c' ∧ ORow (fun _ => r) e sz L0 a' c' (l ++ [y]) B' ∧ L' = B' ++ L :=
 uS (r := fun _ => r) E hs hx hrow hn hone hy (by unfold maxLen; omega) (Nat.le_trans (Nat.mul_le_mul (show l.length + 1 ≤ 1000001 by omega) hb) (by decide))
end
variable {G : World} {L : ja}
end
section
open Go.RowKit
open Vd (RSet Vdt Vote Rec Quest Piece Ballot)
variable {G : World} {L : ja}
theorem qm (l : List Ballot) (y : Ballot) : Vd.votesB (l ++ [y]) = if y.pass then Vd.votesB l else Vd.votesB l ++ [y.v] := by
 unfold Vd.votesB
 rw [List.filter_append, List.map_append]
 cases hy : y.pass <;> simp [hy]
theorem jY (l : List Ballot) : (Vd.votesB l).length ≤ l.length := by
 unfold Vd.votesB
 rw [List.length_map]
 exact List.length_filter_le _ _
end
section
open Go.RowKit
open Vd (RSet Vdt Vote Rec Quest Piece Ballot)
def kj (f : Int → Int × Int) : List Value := [.int .u8 (f 0).1, .int .i64 (f 0).2, .int .u8 (f 1).1, .int .i64 (f 1).2, .int .u8 (f 2).1, .int .i64 (f 2).2, .int .u8 (f 3).1, .int .i64 (f 3).2, .int .u8 (f 4).1, .int .i64 (f 4).2, .int .u8 (f 5).1, .int .i64 (f 5).2, .int .u8 (f 6).1, .int .i64 (f 6).2, .int .u8 (f 7).1, .int .i64 (f 7).2, .int .u8 (f 8).1, .int .i64 (f 8).2]
def jW (want : Int) (f : Int → Int × Int) (v : Value) : List Value := .int .i64 want :: (kj f ++ [v])
theorem Q4 {want : Int} {f : Int → Int × Int} {v : Value} : (jW want f v).toArray.size = 20 := rfl
theorem yT {want : Int} {f : Int → Int × Int} {v : Value} {u : Int} (h : 0 ≤ u ∧ u < 9) : (jW want f v).toArray[1 + u.toNat * 2 + 0]? = some (.int .u8 (f u).1) := by
 obtain ⟨n, rfl⟩ : ∃ n : Nat, u = n := ⟨u.toNat, by omega⟩
 have hn : n < 9 := by omega
 match n, hn with
 | 0, _ | 1, _ | 2, _ | 3, _ | 4, _ | 5, _ | 6, _ | 7, _ | 8, _ => rfl
theorem Jl {want : Int} {f : Int → Int × Int} {v : Value} {u : Int} (h : 0 ≤ u ∧ u < 9) : (jW want f v).toArray[1 + u.toNat * 2 + 1]? = some (.int .i64 (f u).2) := by
 obtain ⟨n, rfl⟩ : ∃ n : Nat, u = n := ⟨u.toNat, by omega⟩
 have hn : n < 9 := by omega
 match n, hn with
 | 0, _ | 1, _ | 2, _ | 3, _ | 4, _ | 5, _ | 6, _ | 7, _ | 8, _ => rfl
def upd (f : Int → Int × Int) (u : Int) (x : Int × Int) : Int → Int × Int := fun w => if w = u then x else f w
theorem Q5 {want : Int} {f : Int → Int × Int} {v : Value} {u : Int} (h : 0 ≤ u ∧ u < 9) (x : Int × Int) : qg (jW want f v).toArray (1 + u.toNat * 2) [.int .u8 x.1, .int .i64 x.2] = (jW want (upd f u x) v).toArray := by
 obtain ⟨n, rfl⟩ : ∃ n : Nat, u = n := ⟨u.toNat, by omega⟩
 have hn : n < 9 := by omega
 match n, hn with
 | 0, _ | 1, _ | 2, _ | 3, _ | 4, _ | 5, _ | 6, _ | 7, _ | 8, _ => simp [qg, jW, kj, upd]
theorem Q6 {l : List Ballot} (h : BoxOk l) {x : Ballot} (hx : Vd.hasB l x.v.up = false) (hb : 0 ≤ x.v.up ∧ x.v.up < 9) : jj (l ++ [x]) = upd (jj l) x.v.up (if x.pass then ((1, 0) : Int × Int) else (2, (jr (Vd.votesB l) x.v.vd : Int))) := by
 funext u
 rw [Wa h hx hb _ rfl (qm l x) u]
 rfl
def TBox (K : ja) (bb : Nat) (want : Int) (l : List Ballot) (M : ja) : Prop := ∃ a c B, ORow voteR 65 5 K a c (Vd.votesB l) B ∧ M = (bb, Obj.cells (jW want (jj l) (.slice a (Vd.votesB l).length c)).toArray 165 (0, 0)) :: B
def RBox (K : ja) (bb : Nat) (want : Int) (l : List Ballot) (M : ja) : Prop := ∃ a c B, ORow ballotR 225 6 K a c l B ∧ M = (bb, Obj.cells #[.int .i64 want, .slice a l.length c] 200 (0, 0)) :: B
theorem TBox.mono {K K' : ja} (hK : ∀ p ∈ K, p ∈ K') {bb : Nat} {want : Int} {l : List Ballot} {M : ja} (h : TBox K bb want l M) : TBox K' bb want l M := by
 obtain ⟨a, c, B, h1, h2⟩ := h
 exact ⟨a, c, B, h1.mono kz hK, h2⟩
theorem RBox.mono {K K' : ja} (hK : ∀ p ∈ K, p ∈ K') {bb : Nat} {want : Int} {l : List Ballot} {M : ja} (h : RBox K bb want l M) : RBox K' bb want l M := by
 obtain ⟨a, c, B, h1, h2⟩ := h
 exact ⟨a, c, B, h1.mono Q3 hK, h2⟩
end
section
open Go.RowKit
open Vd (RSet Vdt Vote Rec Quest Piece Ballot)
variable {G : World} {L : ja}
theorem Yo {l : List Ballot} (h : BoxOk l) {u : Int} (hu : ¬ (0 ≤ u ∧ u < 9)) : Vd.hasB l u = false := by
 cases hb : Vd.hasB l u with
 | false => rfl
 | true =>
   obtain ⟨b, hb1, hb2⟩ := List.mem_map.1 ((QS l u).1 hb)
   have := h.up b hb1
   omega
theorem Wf (l : List Ballot) (u : Int) : ((jj l u).1 != 0) = Vd.hasB l u := by
 have := Yi l u
 cases hb : Vd.hasB l u with
 | true =>
   rw [hb] at this
   have h : ¬ (jj l u).1 = 0 := fun e => by have := this.1 e; cases this
   simpa using h
 | false => rw [this.2 hb]; rfl
theorem Yp (bb : Nat) (want u : Int) (l : List Ballot) (vv : Value) (hm : (bb, Obj.cells (jW want (jj l) vv).toArray 165 (0, 0)) ∈ L) (hl : BoxOk l) :
 Spec Tryz.prog G 98 #[.pointer (some ⟨bb, 0, none⟩), .int .i64 u] L fun w M => w = .bool (Vd.hasB l u) ∧ M = L := by
 refine jm (n := 25) Tryz.func98 rfl rfl rfl ?_
 by_cases hu : 0 ≤ u ∧ u < 9
 · obtain ⟨h0, h9⟩ := hu
   have hg : (jW want (jj l) vv).toArray[0 + 1 + u.toNat * 2 + 0]? = some (.int .u8 (jj l u).1) := yT ⟨h0, h9⟩
   refine goA ?_
   refine je 4 _ rfl rfl ?_
   exact ⟨by rw [← Wf], rfl⟩
 · rw [Yo hl hu]
   by_cases h0 : 0 ≤ u
   · have h9 : ¬ u < 9 := fun h => hu ⟨h0, h⟩
     refine goA ?_
     refine je 4 _ rfl rfl ?_
     exact ⟨rfl, rfl⟩
   · refine goA ?_
     refine je 4 _ rfl rfl ?_
     exact ⟨rfl, rfl⟩
def Jm (l : List Ballot) (u : Int) : Int := if u < 0 ∨ 9 ≤ u then 1 else if Vd.hasB l u then 7 else 0
theorem Yq (l : List Ballot) (x : Ballot) : (Vd.putB l x).2 = Jm l x.v.up := by
 unfold Vd.putB Jm
 split
 · rfl
 · split <;> rfl
theorem K9 {l : List Ballot} {x : Ballot} (h : Jm l x.v.up ≠ 0) : (Vd.putB l x).1 = l := by
 unfold Vd.putB
 unfold Jm at h
 split
 · rfl
 · rename_i h1
   rw [if_neg h1] at h
   split
   · rfl
   · rename_i h2
     rw [if_neg h2] at h
     exact absurd rfl h
theorem Jn {l : List Ballot} {x : Ballot} (h : Jm l x.v.up = 0) : (Vd.putB l x).1 = l ++ [x] ∧ (0 ≤ x.v.up ∧ x.v.up < 9) ∧ Vd.hasB l x.v.up = false := by
 unfold Vd.putB
 unfold Jm at h
 by_cases h1 : x.v.up < 0 ∨ 9 ≤ x.v.up
 · rw [if_pos h1] at h; cases h
 · rw [if_neg h1] at h ⊢
   by_cases h2 : Vd.hasB l x.v.up = true
   · rw [if_pos h2] at h; cases h
   · rw [if_neg h2]
     exact ⟨rfl, by omega, by simpa using h2⟩
theorem Yr (bb : Nat) (want u : Int) (l : List Ballot) (vv : Value) (hm : (bb, Obj.cells (jW want (jj l) vv).toArray 165 (0, 0)) ∈ L) (hl : BoxOk l) :
 Spec Tryz.prog G 72 #[.pointer (some ⟨bb, 0, none⟩), .int .i64 u] L fun w M => w = .int .i64 (Jm l u) ∧ M = L := by
 refine jm (n := 16) Tryz.func72 rfl rfl rfl ?_
 unfold Jm
 by_cases h0 : u < 0
 · rw [if_pos (Or.inl h0)]
   refine goA ?_
   refine je 4 _ rfl rfl ?_
   exact ⟨rfl, rfl⟩
 · by_cases h9 : 9 ≤ u
   · rw [if_pos (Or.inr h9)]
     refine goA ?_
     refine je 4 _ rfl rfl ?_
     exact ⟨rfl, rfl⟩
   · rw [if_neg jf]
     cases hb : Vd.hasB l u with
     | true =>
       repeat (first | refine goA ?_ | (refine' jX (jb jg rfl ((Yp bb want u l vv hm hl) )) rfl ?_))
       refine je 4 _ rfl rfl ?_
       exact ⟨rfl, rfl⟩
     | false =>
       repeat (first | refine goA ?_ | (refine' jX (jb jg rfl ((Yp bb want u l vv hm hl) )) rfl ?_))
       refine je 4 _ rfl rfl ?_
       exact ⟨rfl, rfl⟩
theorem aac {K : ja} (bb : Nat) (want u : Int) (l : List Ballot) (M0 : ja) (hb : TBox K bb want l M0) (hl : BoxOk l) :
 Spec Tryz.prog G 49 #[.pointer (some ⟨bb, 0, none⟩), .int .i64 u] (M0 ++ L) fun w M => w = .int .i64 (Vd.putB l ⟨⟨u, Vdt.none, 0⟩, true⟩).2 ∧ ∃ M', TBox K bb want (Vd.putB l ⟨⟨u, Vdt.none, 0⟩, true⟩).1 M' ∧ M = M' ++ L := by
 obtain ⟨a, c, B, hB, rfl⟩ := hb
 refine jm (n := 18) Tryz.func49 rfl rfl rfl ?_
 refine goA ?_
 refine jX (jb jg rfl (Yr bb want u l _ (List.mem_cons_self ..) hl)) rfl ?_
 have he := Yq l ⟨⟨u, Vdt.none, 0⟩, true⟩
 rw [he]
 by_cases h0 : Jm l u = 0
 · obtain ⟨h1, h2, h3⟩ := Jn (x := ⟨⟨u, Vdt.none, 0⟩, true⟩) h0
   obtain ⟨h20, h29⟩ := h2
   dsimp only at h20 h29 h3
   repeat (first | refine goA ?_ | refine ju (jo rfl (QH _)) rfl ?_)
   refine KM (u5 (cs := [.int .u8 1, .int .i64 0]) rfl rfl stL (by intro v hv; simp only [List.mem_cons, List.not_mem_nil, or_false] at hv; rcases hv with rfl | rfl <;> rfl) (by rw [Q4]; simp; omega)) ?_
   have hput : qg (jW want (jj l) (.slice a (Vd.votesB l).length c)).toArray (0 + 1 + u.toNat * 2) [.int .u8 1, .int .i64 0] = (jW want (jj (l ++ [⟨⟨u, Vdt.none, 0⟩, true⟩])) (.slice a (Vd.votesB l).length c)).toArray := by
    rw [Q6 hl (x := ⟨⟨u, Vdt.none, 0⟩, true⟩) h3 ⟨h20, h29⟩, Nat.zero_add]
    exact Q5 ⟨h20, h29⟩ (1, 0)
   rw [hput]
   refine goA ?_
   refine je 4 _ rfl rfl ?_
   have hv : Vd.votesB (l ++ [⟨⟨u, Vdt.none, 0⟩, true⟩]) = Vd.votesB l := by rw [qm]; rfl
   refine ⟨by dsimp only; rw [h0], _, ⟨a, c, B, ?_, rfl⟩, ?_⟩
   · rw [h1, hv]; exact hB
   · rw [h1, hv]; rfl
 · have h1 := K9 (x := ⟨⟨u, Vdt.none, 0⟩, true⟩) h0
   rw [h1]
   refine goA ?_
   refine je 4 _ rfl rfl ?_
   exact ⟨rfl, _, ⟨a, c, B, hB, rfl⟩, rfl⟩
end
section
open Go.RowKit
open Vd (RSet Vdt Vote Rec Quest Piece Ballot)
variable {G : World} {L : ja}
def aad (L : ja) (x : Vote) (u : Value) (M : ja) : Prop := ∃ a c B a2 c2 B2 N, u = .agg #[.int .i64 x.up, .int .u8 x.vd.code, .slice a x.vd.sets.length c, .slice a2 x.vd.soa.length c2, .int .u32 x.time] ∧
 ORow rsR 122 5 N a c x.vd.sets B ∧ ORow rsR 122 5 N a2 c2 x.vd.soa B2 ∧ Wr N ∧ M = B2 ++ (B ++ (N ++ L))
theorem zv (cs : List Value) (x : Vote) (hx : voteR L cs x) (hs : SmV x.vd) : Spec Tryz.prog G 75 #[.agg cs.toArray] L (aad L x) := by
 obtain ⟨x1, xc1, x2, xc2, rfl, h1, h2, h3, h4, h5⟩ := hx.vals
 refine jm (n := 11) Tryz.func75 rfl rfl rfl ?_
 refine jU (jI (jP (kE rfl) rfl ?_))
 intro bX
 refine jP (kt (C := #[.int .i64 0, .int .u8 0, .slice none 0 0, .slice none 0 0, .int .u32 0]) zeO rfl) rfl ?_
 intro bO
 have hKm : ∀ z ∈ [(bX, Obj.cells #[.int .i64 x.up, .int .u8 x.vd.code, .slice x1 x.vd.sets.length xc1, .slice x2 x.vd.soa.length xc2, .int .u32 x.time] 65 (0, 0))], z ∈ (bX, Obj.cells #[.int .i64 x.up, .int .u8 x.vd.code, .slice x1 x.vd.sets.length xc1, .slice x2 x.vd.soa.length xc2, .int .u32 x.time] 65 (0, 0)) :: L := by
  intro z hz
  rw [List.mem_singleton.1 hz]
  exact List.mem_cons_self ..
 have gx : ∀ j v, ([.int .u8 x.vd.code, .slice x1 x.vd.sets.length xc1, .slice x2 x.vd.soa.length xc2] : List Value)[j]? = some v → (#[.int .i64 x.up, .int .u8 x.vd.code, .slice x1 x.vd.sets.length xc1, .slice x2 x.vd.soa.length xc2, .int .u32 x.time] : Array Value)[0 + 1 + j]? = some v := fun j v hj => by
  match j, hj with
  | 0, hj => exact hj
  | 1, hj => exact hj
  | 2, hj => exact hj
 repeat (first | refine goA ?_ | (refine j5 ?_; intro bNew) | (refine kK ?_; intro bBox) | refine ju (jo rfl (ql _ _ _ _ _)) rfl ?_)
 refine jw jc ([(bX, Obj.cells #[.int .i64 x.up, .int .u8 x.vd.code, .slice x1 x.vd.sets.length xc1, .slice x2 x.vd.soa.length xc2, .int .u32 x.time] 65 (0, 0))]) [] ?_
 refine tkQ 0 ?_
 refine tkQ 1 ?_
 refine tkQ 2 ?_
 (refine' jz 3 rfl rfl jg (jJ (jD [.int .u8 x.vd.code, .slice x1 x.vd.sets.length xc1, .slice x2 x.vd.soa.length xc2] rfl stL (List.mem_cons_self ..) gx)) ?_ ?_; (· first | assumption | (intro p hp; grind)))
 refine tkQ 5 ?_
 refine tkQ 6 ?_
 refine jO 4 jg rfl rfl rfl rfl (jb jg rfl (uF [.int .u8 x.vd.code, .slice x1 x.vd.sets.length xc1, .slice x2 x.vd.soa.length xc2] x.vd ⟨_, _, rfl, jn jq _ _ _ _ jt h1, jn jq _ _ _ _ jt h2, h3⟩ hs)) ?_
 rintro _ _ ⟨a, c, B, a2, c2, B2, N, rfl, hB, hB2, hN, rfl⟩
 refine ⟨Or.inr (by first | exact (fun z hz => jS jl z (hKm z hz)) | simp), ?_⟩
 first | (refine' jz 7 rfl rfl jg (jJ (jo rfl (ql _ _ _ _ _))) ?_ ?_; (· first | assumption | (intro p hp; grind)))
 refine kP (L' := (bO, Obj.cells #[.int .i64 0, .int .u8 0, .slice none 0 0, .slice none 0 0, .int .u32 0] 65 (0, 0)) :: (B2 ++ (B ++ (N ++ ((bX, Obj.cells #[.int .i64 x.up, .int .u8 x.vd.code, .slice x1 x.vd.sets.length xc1, .slice x2 x.vd.soa.length xc2, .int .u32 x.time] 65 (0, 0)) :: L))))) ?_ jl
 refine kf 8 jg rfl rfl rfl (qT rfl rfl stO rfl rfl rfl) ?_
 rintro _ _ ⟨_, rfl⟩
 refine ⟨Or.inr (by first | exact (fun z hz => jS jl z (hKm z hz)) | simp), ?_⟩
 refine tdQ ?_
 repeat (first | refine goA ?_ | (refine j5 ?_; intro bNew) | (refine kK ?_; intro bBox) | refine ju (jo rfl (ql _ _ _ _ _)) rfl ?_)
 refine ku 2 65  rfl rfl  stO (by repeat (first | assumption | exact List.mem_cons_self | apply List.mem_cons_of_mem)) rfl (fun w h => Heap.cnt (L' := B2 ++ (B ++ (N ++ L))) h jl) ?_
 exact ⟨_, _, _, _, _, _, _, rfl, hB, hB2, hN, rfl⟩
end
section
open Go.RowKit
open Vd (RSet Vdt Vote Rec Quest Piece Ballot)
variable {G : World} {L : ja}
theorem UV {vs : List Vote} {v : Vdt} {i : Nat} {y : Vote} (hy : vs[i]? = some y) (he : y.vd = v) (hno : ∀ z ∈ vs.take i, z.vd ≠ v) : jr vs v = i := by
 obtain ⟨hi, rfl⟩ := List.getElem?_eq_some_iff.1 hy
 unfold jr
 rw [List.findIdx_eq hi]
 refine ⟨by simpa using he, fun j hj => ?_⟩
 have := hno vs[j] (by rw [List.mem_take_iff_getElem]; exact ⟨j, by omega, rfl⟩)
 simpa using this
theorem Qa {vs : List Vote} {v : Vdt} (hno : ∀ z ∈ vs, z.vd ≠ v) : jr vs v = vs.length := by
 unfold jr
 rw [List.findIdx_eq_length]
 intro z hz
 simpa using hno z hz
theorem aae {K : ja} (bb : Nat) (want : Int) (l : List Ballot) (M0 : ja) (cs : List Value) (x : Vote) (hb : TBox K bb want l M0) (hl : BoxOk l) (hK : ∀ p ∈ K, p ∈ L) (hx : voteR L cs x) (hs : SmV x.vd) (hn : l.length ≤ 9) :
 Spec Tryz.prog G 52 #[.pointer (some ⟨bb, 0, none⟩), .agg cs.toArray] (M0 ++ L) fun w M => w = .int .i64 (Vd.putB l ⟨x, false⟩).2 ∧ ∃ M' N, TBox (N ++ K) bb want (Vd.putB l ⟨x, false⟩).1 M' ∧ Wr N ∧ M = M' ++ (N ++ L) := by
 obtain ⟨a, c, B, hB, rfl⟩ := hb
 obtain ⟨x1, xc1, x2, xc2, rfl, h1, h2, h3, h4, h5⟩ := hx.vals
 have hvl := jY l
 have hcap := hB.cap
 unfold maxLen at hcap
 refine jm (n := 57) Tryz.func52 rfl rfl rfl ?_
 refine jU (jI (jP (kE rfl) rfl ?_))
 intro bV
 refine goA ?_
 refine jX (jb jg rfl (Yr bb want x.up l _ (List.mem_cons_of_mem _ (List.mem_cons_self ..)) hl)) rfl ?_
 have he := Yq l ⟨x, false⟩
 rw [he]
 by_cases h0 : Jm l x.up = 0
 · obtain ⟨hp1, hp2, hp3⟩ := Jn (x := ⟨x, false⟩) h0
   obtain ⟨h20, h29⟩ := hp2
   dsimp only at h20 h29 hp3
   obtain ⟨vs, hvs⟩ : ∃ vs, Vd.votesB l = vs := ⟨_, rfl⟩
   rw [hvs] at hB hvl hcap ⊢
   have gx : ∀ j v, ([.int .u8 x.vd.code, .slice x1 x.vd.sets.length xc1, .slice x2 x.vd.soa.length xc2] : List Value)[j]? = some v → (#[.int .i64 x.up, .int .u8 x.vd.code, .slice x1 x.vd.sets.length xc1, .slice x2 x.vd.soa.length xc2, .int .u32 x.time] : Array Value)[0 + 1 + j]? = some v := fun j v hj => by
    match j, hj with
    | 0, hj => exact hj
    | 1, hj => exact hj
    | 2, hj => exact hj
   refine goF ?_
   refine jU ?_
   refine goF ?_
   refine jU ?_
   refine goF ?_
   refine jU ?_
   skip
   refine K8 (σ := Unit) (fun _ => True) (fun _ => [(0, .pointer (some ⟨bb, 0, none⟩)), (3, .pointer (some ⟨bV, 0, none⟩)), (6, .int .i64 (jr vs x.vd : Nat))]) (fun _ => (bV, Obj.cells #[.int .i64 x.up, .int .u8 x.vd.code, .slice x1 x.vd.sets.length xc1, .slice x2 x.vd.soa.length xc2, .int .u32 x.time] 65 (0, 0)) :: ((bb, Obj.cells (jW want (jj l) (.slice a vs.length c)).toArray 165 (0, 0)) :: (B ++ L))) ?_ ?_
   · skip
     refine goA ?_
     refine jB (σ := Nat) (fun i => i ≤ vs.length ∧ ∀ z ∈ vs.take i, z.vd ≠ x.vd) (fun i => [(0, .pointer (some ⟨bb, 0, none⟩)), (3, .pointer (some ⟨bV, 0, none⟩)), (6, .int .i64 (vs.length : Nat)), (24, .slice a vs.length c), (25, .int .i64 (vs.length : Nat)), (26, .int .i64 (i : Nat))]) (fun _ => (bV, Obj.cells #[.int .i64 x.up, .int .u8 x.vd.code, .slice x1 x.vd.sets.length xc1, .slice x2 x.vd.soa.length xc2, .int .u32 x.time] 65 (0, 0)) :: ((bb, Obj.cells (jW want (jj l) (.slice a vs.length c)).toArray 165 (0, 0)) :: (B ++ L))) (fun i => vs.length - i) 0 ⟨Nat.zero_le _, by simp⟩ ?_ (fun w h => h) ?_
     exact jv
     rintro i ⟨hi, hno⟩
     by_cases hil : i < vs.length
     · obtain ⟨y, hy⟩ : ∃ y, vs[i]? = some y := ⟨_, List.getElem?_eq_getElem hil⟩
       obtain ⟨bc, cur, rfl, rfl, _, _, _, hcur⟩ := hB.block (fun e => by rw [e] at hil; simp at hil)
       obtain ⟨csy, _, hyv, _, hcy⟩ := hcur i y hy
       obtain ⟨y1, yc1, y2, yc2, rfl, hy1, hy2, hy3, hy4, hy5⟩ := hyv.vals
       have hcy' : ∀ j v, ([.int .i64 y.up, .int .u8 y.vd.code, .slice y1 y.vd.sets.length yc1, .slice y2 y.vd.soa.length yc2, .int .u32 y.time] : List Value)[j]? = some v → cur[0 + i * 5 + j]? = some v := fun j v hj => by rw [Nat.zero_add]; exact hcy j v hj
       have gy : ∀ j v, ([.int .u8 y.vd.code, .slice y1 y.vd.sets.length yc1, .slice y2 y.vd.soa.length yc2] : List Value)[j]? = some v → (#[.int .i64 y.up, .int .u8 y.vd.code, .slice y1 y.vd.sets.length yc1, .slice y2 y.vd.soa.length yc2, .int .u32 y.time] : Array Value)[0 + 1 + j]? = some v := fun j v hj => by
        match j, hj with
        | 0, hj => exact hj
        | 1, hj => exact hj
        | 2, hj => exact hj
       have mc : (bc, Obj.cells cur 65 (0, 0)) ∈ (bV, Obj.cells #[.int .i64 x.up, .int .u8 x.vd.code, .slice x1 x.vd.sets.length xc1, .slice x2 x.vd.soa.length xc2, .int .u32 x.time] 65 (0, 0)) :: ((bb, Obj.cells (jW want (jj l) (.slice (some ⟨bc, 0, none⟩) vs.length c)).toArray 165 (0, 0)) :: ([(bc, Obj.cells cur 65 (0, 0))] ++ L)) := by simp
       refine goA ?_
       refine ju (jD [.int .i64 y.up, .int .u8 y.vd.code, .slice y1 y.vd.sets.length yc1, .slice y2 y.vd.soa.length yc2, .int .u32 y.time] rfl stL mc hcy') rfl ?_
       repeat (first | refine goA ?_ | (refine j5 ?_; intro bNew))
       refine ju (jD [.int .u8 y.vd.code, .slice y1 y.vd.sets.length yc1, .slice y2 y.vd.soa.length yc2] rfl stL (by repeat (exact List.mem_cons_self)) gy) rfl ?_
       repeat (refine ju (ub rfl KX) rfl ?_)
       refine ju (jD [.int .u8 x.vd.code, .slice x1 x.vd.sets.length xc1, .slice x2 x.vd.soa.length xc2] rfl stL (by repeat (first | exact List.mem_cons_self | apply List.mem_cons_of_mem)) gx) rfl ?_
       refine jX (jb jg rfl (K5 [.int .u8 y.vd.code, .slice y1 y.vd.sets.length yc1, .slice y2 y.vd.soa.length yc2] [.int .u8 x.vd.code, .slice x1 x.vd.sets.length xc1, .slice x2 x.vd.soa.length xc2] y.vd x.vd ⟨_, _, rfl, jn jq _ _ _ _ (fun p hp => (jt) p (hK p hp)) hy1, jn jq _ _ _ _ (fun p hp => (jt) p (hK p hp)) hy2, hy3⟩ ⟨_, _, rfl, jn jq _ _ _ _ jt h1, jn jq _ _ _ _ jt h2, h3⟩)) rfl ?_
       by_cases hyx : y.vd = x.vd
       · have hf := UV hy hyx hno
         refine goA ?_
         refine kw () trivial ?_ (fun w h => h.cnt jl)
         rw [hf]
         exact jv
       · refine goA ?_
         refine jk (i + 1) ⟨hil, fun z hz => ?_⟩ ?_ (fun w h => h.cnt jl) jf
         · rw [List.take_add_one, hy] at hz
           rcases List.mem_append.1 hz with hz | hz
           · exact hno z hz
           · rw [show z = y by simpa using hz]; exact hyx
         exact jv
     · have hie : i = vs.length := by omega
       subst hie
       rw [List.take_length] at hno
       have hf := Qa hno
       refine goA ?_
       refine kw () trivial ?_ (fun w h => h)
       rw [hf]
       exact jv
   · rintro _ _
     dsimp only
     obtain ⟨f', hf'⟩ : ∃ f, upd (jj l) x.up (2, (jr vs x.vd : Int)) = f := ⟨_, rfl⟩
     have hput : qg (jW want (jj l) (.slice a vs.length c)).toArray (0 + 1 + x.up.toNat * 2) [.int .u8 2, .int .i64 (jr vs x.vd : Nat)] = (jW want f' (.slice a vs.length c)).toArray := by
      rw [← hf', Nat.zero_add]
      exact Q5 ⟨h20, h29⟩ (2, (jr vs x.vd : Int))
     have hsl : jj (l ++ [⟨x, false⟩]) = f' := by
      rw [Q6 hl (x := ⟨x, false⟩) hp3 ⟨h20, h29⟩, ← hf', ← hvs]
      rfl
     have hvn : Vd.votesB (l ++ [⟨x, false⟩]) = vs ++ [x] := by rw [qm, hvs]; rfl
     have hKm : ∀ z ∈ [(bb, Obj.cells (jW want (jj l) (.slice a vs.length c)).toArray 165 (0, 0)), (bV, Obj.cells #[.int .i64 x.up, .int .u8 x.vd.code, .slice x1 x.vd.sets.length xc1, .slice x2 x.vd.soa.length xc2, .int .u32 x.time] 65 (0, 0))], z ∈ (bV, Obj.cells #[.int .i64 x.up, .int .u8 x.vd.code, .slice x1 x.vd.sets.length xc1, .slice x2 x.vd.soa.length xc2, .int .u32 x.time] 65 (0, 0)) :: ((bb, Obj.cells (jW want (jj l) (.slice a vs.length c)).toArray 165 (0, 0)) :: (B ++ L)) := by
      intro z hz
      simp only [List.mem_cons, List.not_mem_nil, or_false] at hz
      rcases hz with rfl | rfl <;> simp
     repeat (with_reducible refine jU ?_)
     refine jw jc ([(bb, Obj.cells (jW want (jj l) (.slice a vs.length c)).toArray 165 (0, 0)), (bV, Obj.cells #[.int .i64 x.up, .int .u8 x.vd.code, .slice x1 x.vd.sets.length xc1, .slice x2 x.vd.soa.length xc2, .int .u32 x.time] 65 (0, 0))]) [8] ?_
     refine tkQ 0 ?_
     refine tkQ 1 ?_
     refine tkQ 2 ?_
     refine tkQ 3 ?_
     (refine' jz 4 rfl rfl jg (jJ (jo rfl (Jd _ _))) ?_ ?_; (· assumption))
     refine tkQ 5 ?_
     refine tkQ 6 ?_
     refine tkQ 7 ?_
     refine kP (L' := (bb, Obj.cells (jW want (jj l) (.slice a vs.length c)).toArray 165 (0, 0)) :: ((bV, Obj.cells #[.int .i64 x.up, .int .u8 x.vd.code, .slice x1 x.vd.sets.length xc1, .slice x2 x.vd.soa.length xc2, .int .u32 x.time] 65 (0, 0)) :: (B ++ L))) ?_ jl
     refine kf 8 jg rfl rfl rfl (u5 (cs := [.int .u8 2, .int .i64 (jr vs x.vd : Nat)]) rfl rfl stL (by intro v hv; simp only [List.mem_cons, List.not_mem_nil, or_false] at hv; rcases hv with rfl | rfl <;> rfl) (by rw [Q4]; simp; omega)) ?_
     rintro _ _ ⟨_, rfl⟩
     refine ⟨Or.inl (by simp), ?_⟩
     refine tdQ ?_
     rw [hput]
     clear hKm
     have hKm : ∀ z ∈ [(bb, Obj.cells (jW want f' (.slice a vs.length c)).toArray 165 (0, 0)), (bV, Obj.cells #[.int .i64 x.up, .int .u8 x.vd.code, .slice x1 x.vd.sets.length xc1, .slice x2 x.vd.soa.length xc2, .int .u32 x.time] 65 (0, 0))], z ∈ (bb, Obj.cells (jW want f' (.slice a vs.length c)).toArray 165 (0, 0)) :: ((bV, Obj.cells #[.int .i64 x.up, .int .u8 x.vd.code, .slice x1 x.vd.sets.length xc1, .slice x2 x.vd.soa.length xc2, .int .u32 x.time] 65 (0, 0)) :: L) := by
      intro z hz
      simp only [List.mem_cons, List.not_mem_nil, or_false] at hz
      rcases hz with rfl | rfl <;> simp
     refine goA ?_
     refine jw jc ([(bb, Obj.cells (jW want f' (.slice a vs.length c)).toArray 165 (0, 0)), (bV, Obj.cells #[.int .i64 x.up, .int .u8 x.vd.code, .slice x1 x.vd.sets.length xc1, .slice x2 x.vd.soa.length xc2, .int .u32 x.time] 65 (0, 0))]) [11] ?_
     refine tkQ 0 ?_
     refine tkQ 1 ?_
     refine tkQ 2 ?_
     refine tkQ 3 ?_
     refine tkQ 4 ?_
     refine tkQ 5 ?_
     refine jO 6 jg rfl rfl rfl rfl (jb jg rfl (zv [.int .i64 x.up, .int .u8 x.vd.code, .slice x1 x.vd.sets.length xc1, .slice x2 x.vd.soa.length xc2, .int .u32 x.time] x (kz _ _ _ _ jt hx) hs)) ?_
     rintro _ _ ⟨a6, c6, B6, a7, c7, B7, N, rfl, h6, h7, hN, rfl⟩
     refine ⟨Or.inr (by exact (fun z hz => jS jl z (hKm z hz))), ?_⟩
     refine jO 7 jg rfl rfl rfl rfl (K1 etO rfl rfl (by decide)) ?_
     rintro _ _ ⟨bL, rfl, rfl⟩
     refine ⟨Or.inr (by exact (fun z hz => jS jl z (hKm z hz))), ?_⟩
     refine kP (L' := (bL, Obj.cells #[.int .i64 x.up, .int .u8 x.vd.code, .slice a6 x.vd.sets.length c6, .slice a7 x.vd.soa.length c7, .int .u32 x.time] 65 (0, 0)) :: (B ++ ((bb, Obj.cells (jW want f' (.slice a vs.length c)).toArray 165 (0, 0)) :: ((bV, Obj.cells #[.int .i64 x.up, .int .u8 x.vd.code, .slice x1 x.vd.sets.length xc1, .slice x2 x.vd.soa.length xc2, .int .u32 x.time] 65 (0, 0)) :: ((B7 ++ (B6 ++ N)) ++ L))))) ?_ jl
     refine jO 8 jg rfl rfl rfl rfl (uS (L0 := (B7 ++ (B6 ++ N)) ++ K) (cs := [.int .i64 x.up, .int .u8 x.vd.code, .slice a6 x.vd.sets.length c6, .slice a7 x.vd.soa.length c7, .int .u32 x.time]) (y := x) etO rfl rfl (hB.mono kz jt) rfl (fun v hv => by simp only [List.mem_cons, List.not_mem_nil, or_false] at hv; rcases hv with rfl | rfl | rfl | rfl | rfl <;> rfl) ⟨_, _, rfl, h6.sliceR jq jt jt, h7.sliceR jq jt jt, h3, h4, h5⟩ (by unfold maxLen; omega) jf) ?_
     rintro _ _ ⟨a8, c8, B8, rfl, hB8, rfl⟩
     refine ⟨Or.inr (by exact (fun z hz => jS jl z (hKm z hz))), ?_⟩
     refine tkQ 9 ?_
     refine tkQ 10 ?_
     refine kP (L' := (bb, Obj.cells (jW want f' (.slice a vs.length c)).toArray 165 (0, 0)) :: (B8 ++ ((bV, Obj.cells #[.int .i64 x.up, .int .u8 x.vd.code, .slice x1 x.vd.sets.length xc1, .slice x2 x.vd.soa.length xc2, .int .u32 x.time] 65 (0, 0)) :: ((B7 ++ (B6 ++ N)) ++ L)))) ?_ jl
     refine kf 11 jg rfl rfl rfl (Jc (C' := (jW want f' (.slice a8 (vs ++ [x]).length c8)).toArray) rfl rfl onO rfl rfl rfl) ?_
     rintro _ _ ⟨_, rfl⟩
     refine ⟨Or.inl (by simp), ?_⟩
     refine tdQ ?_
     refine goA ?_
     refine jH (L' := (bb, Obj.cells (jW want f' (.slice a8 (vs ++ [x]).length c8)).toArray 165 (0, 0)) :: (B8 ++ ((B7 ++ (B6 ++ N)) ++ L))) ?_ (by exact jl)
     refine je 4 _ rfl rfl ?_
     refine ⟨by rw [h0], _, B7 ++ (B6 ++ N), ⟨a8, c8, B8, ?_, rfl⟩, h7.wr.append (h6.wr.append hN), ?_⟩
     · rw [hp1, hvn]; exact hB8
     · rw [hp1, hvn, hsl]; rfl
 · have hp1 := K9 (x := ⟨x, false⟩) h0
   rw [hp1]
   refine goA ?_
   refine jH (L' := (bb, Obj.cells (jW want (jj l) (.slice a (Vd.votesB l).length c)).toArray 165 (0, 0)) :: (B ++ ([] ++ L))) ?_ jl
   refine je 4 _ rfl rfl ?_
   exact ⟨rfl, _, [], ⟨a, c, B, hB, rfl⟩, Wr.nil, rfl⟩
end
section
open Go.RowKit
open Vd (RSet Vdt Vote Rec Quest Piece Ballot)
variable {G : World} {L : ja}
def Jo (f : Nat → Nat) : List Value := [.int .i64 (f 0 : Nat), .int .i64 (f 1 : Nat), .int .i64 (f 2 : Nat), .int .i64 (f 3 : Nat), .int .i64 (f 4 : Nat), .int .i64 (f 5 : Nat), .int .i64 (f 6 : Nat), .int .i64 (f 7 : Nat), .int .i64 (f 8 : Nat)]
theorem Q7 {f : Nat → Nat} {k : Nat} (h : k < 9) : (Jo f).toArray[0 + (k : Int).toNat * 1]? = some (.int .i64 (f k : Nat)) := by
 match k, h with
 | 0, _ | 1, _ | 2, _ | 3, _ | 4, _ | 5, _ | 6, _ | 7, _ | 8, _ => rfl
theorem Ys {f g : Nat → Nat} {k : Nat} (h : k < 9) (hg : ∀ j, g j = f j + (if k = j then 1 else 0)) : (Jo f).toArray.setIfInBounds (0 + (k : Int).toNat * 1) (.int .i64 ((f k : Nat) + 1 : Int)) = (Jo g).toArray := by
 match k, h with
 | 0, _ | 1, _ | 2, _ | 3, _ | 4, _ | 5, _ | 6, _ | 7, _ | 8, _ => simp [Jo, hg]
def u4 (want : Int) (vs : List Vote) : (Int × Int) × Bool := if want < 1 then ((0, 0), false) else match j6 want vs vs.length with
 | none => ((0, 0), false)
 | some j => match vs[j]? with
   | some x => ((2, (jr vs x.vd : Int)), true)
   | none => ((0, 0), false)
theorem J9 {K : ja} (bb : Nat) (want : Int) (l : List Ballot) (a : Option Addr) (c : Nat) (hm : (bb, Obj.cells (jW want (jj l) (.slice a (Vd.votesB l).length c)).toArray 165 (0, 0)) ∈ L) (hv : sliceR 5 (fun _ => voteR K) L [.slice a (Vd.votesB l).length c] (Vd.votesB l)) (hl : BoxOk l) (hn : l.length ≤ 9) :
 Spec Tryz.prog G 191 #[.pointer (some ⟨bb, 0, none⟩)] L fun w M => w = .tuple #[.agg #[.int .u8 (u4 want (Vd.votesB l)).1.1, .int .i64 (u4 want (Vd.votesB l)).1.2], .bool (u4 want (Vd.votesB l)).2] ∧ M = L := by
 obtain ⟨vs, hvs⟩ : ∃ vs, Vd.votesB l = vs := ⟨_, rfl⟩
 have hvl := jY l
 rw [hvs] at hm hv hvl ⊢
 have g0 : (jW want (jj l) (.slice a vs.length c)).toArray[0 + 0]? = some (.int .i64 want) := rfl
 have g19 : (jW want (jj l) (.slice a vs.length c)).toArray[0 + 19]? = some (.slice a vs.length c) := rfl
 refine jm (n := 52) Tryz.func191 rfl rfl rfl ?_
 refine jU (jI (jP (kt (C := #[.int .u8 0, .int .i64 0]) zeO rfl) rfl ?_))
 intro b2
 by_cases hw : want < 1
 · have hW : u4 want vs = ((0, 0), false) := if_pos hw
   rw [hW]
   repeat (first | refine goA ?_ | refine ju (jo rfl (K0 )) rfl ?_)
   refine kJ 2 162 3 rfl rfl rfl stO (by repeat (exact List.mem_cons_self)) rfl (fun w h => Heap.cnt (L' := L) h jl) ?_
   exact ⟨rfl, rfl⟩
 · have hw1 : 1 ≤ want := by omega
   repeat (first | refine goA ?_ | (refine j5 ?_; intro bNew))
   obtain ⟨b4, hb4⟩ : ∃ b, bNew = b := ⟨_, rfl⟩
   rw [hb4]
   clear hb4 bNew
   refine jB (σ := Nat) (fun i => i ≤ vs.length ∧ j6 want vs i = none) (fun i => [(0, .pointer (some ⟨bb, 0, none⟩)), (2, .pointer (some ⟨b2, 0, none⟩)), (3, .bool false), (4, .pointer (some ⟨b4, 0, none⟩)), (21, .slice a vs.length c), (22, .int .i64 (vs.length : Nat)), (23, .int .i64 (i : Nat))]) (fun i => (b4, Obj.cells (Jo (ui vs i)).toArray 47 (0, 0)) :: ((b2, Obj.cells #[.int .u8 0, .int .i64 0] 162 (0, 0)) :: L)) (fun i => vs.length - i) 0 ⟨Nat.zero_le _, rfl⟩ ?_ (fun w h => h) ?_
   exact jv
   rintro i ⟨hi, hno⟩
   by_cases hil : i < vs.length
   · obtain ⟨y, hy⟩ : ∃ y, vs[i]? = some y := ⟨_, List.getElem?_eq_getElem hil⟩
     have hym := List.mem_of_getElem? hy
     obtain ⟨_, kv1, kv2, hvc⟩ := sliceR.cut hv
     rcases hvc with h1 | ⟨bc, oc, cur, tc, fc, rfl, mc, hcur⟩
     · rw [h1] at hil; simp at hil
     obtain ⟨csy, _, hyv, hcy⟩ := hcur i y hy
     obtain ⟨y1, yc1, y2, yc2, rfl, hy1, hy2, hy3, hy4, hy5⟩ := hyv.vals
     obtain ⟨b, hb1, hb2, hb3⟩ := votesB_mem.1 (by rw [hvs]; exact hym)
     have hup : 0 ≤ y.up ∧ y.up < 9 := by rw [← hb3]; exact hl.up b hb1
     obtain ⟨hu0, hu9⟩ := hup
     have hsl : jj l y.up = (2, (jr vs y.vd : Int)) := by rw [← hvs]; exact kW hl (by rw [hvs]; exact hym)
     have hfl := (qa hym).1
     refine goA ?_
     refine ju (jD [.int .i64 y.up, .int .u8 y.vd.code, .slice y1 y.vd.sets.length yc1, .slice y2 y.vd.soa.length yc2, .int .u32 y.time] rfl stL (List.mem_cons_of_mem _ (List.mem_cons_of_mem _ mc)) hcy) rfl ?_
     repeat (first | refine goA ?_ | (refine j5 ?_; intro bNew))
     obtain ⟨b6, hb6⟩ : ∃ b, bNew = b := ⟨_, rfl⟩
     rw [hb6]
     clear hb6 bNew
     have hslip : ∀ j v, ([.int .u8 2, .int .i64 (jr vs y.vd : Nat)] : List Value)[j]? = some v → (jW want (jj l) (.slice (some ⟨bc, oc, none⟩) vs.length c)).toArray[0 + 1 + y.up.toNat * 2 + j]? = some v := fun j v hj => by
      rw [Nat.zero_add]
      match j, hj with
      | 0, hj => obtain rfl := Option.some.inj hj; rw [yT ⟨hu0, hu9⟩, hsl]
      | 1, hj => obtain rfl := Option.some.inj hj; rw [Jl ⟨hu0, hu9⟩, hsl]
     have hKm : ∀ z ∈ [(b6, Obj.cells #[.int .i64 y.up, .int .u8 y.vd.code, .slice y1 y.vd.sets.length yc1, .slice y2 y.vd.soa.length yc2, .int .u32 y.time] 65 (0, 0)), (bb, Obj.cells (jW want (jj l) (.slice (some ⟨bc, oc, none⟩) vs.length c)).toArray 165 (0, 0))], z ∈ (b6, Obj.cells #[.int .i64 y.up, .int .u8 y.vd.code, .slice y1 y.vd.sets.length yc1, .slice y2 y.vd.soa.length yc2, .int .u32 y.time] 65 (0, 0)) :: ((b4, Obj.cells (Jo (ui vs i)).toArray 47 (0, 0)) :: ((b2, Obj.cells #[.int .u8 0, .int .i64 0] 162 (0, 0)) :: L)) := by
      intro z hz
      simp only [List.mem_cons, List.not_mem_nil, or_false] at hz
      rcases hz with rfl | rfl
      · simp
      · exact List.mem_cons_of_mem _ (List.mem_cons_of_mem _ (List.mem_cons_of_mem _ hm))
     refine K8 (σ := Nat) (fun _ => True) (fun b7 => [(0, .pointer (some ⟨bb, 0, none⟩)), (2, .pointer (some ⟨b2, 0, none⟩)), (3, .bool false), (4, .pointer (some ⟨b4, 0, none⟩)), (7, .pointer (some ⟨b7, 0, none⟩)), (21, .slice (some ⟨bc, oc, none⟩) vs.length c), (22, .int .i64 (vs.length : Nat)), (23, .int .i64 (i : Nat))]) (fun b7 => (b4, Obj.cells (Jo (ui vs i)).toArray 47 (0, 0)) :: ((b7, Obj.cells #[.int .u8 2, .int .i64 (jr vs y.vd : Nat)] 162 (0, 0)) :: ((b2, Obj.cells #[.int .u8 0, .int .i64 0] 162 (0, 0)) :: L))) ?_ ?_
     · skip
       refine jw jc ([(b6, Obj.cells #[.int .i64 y.up, .int .u8 y.vd.code, .slice y1 y.vd.sets.length yc1, .slice y2 y.vd.soa.length yc2, .int .u32 y.time] 65 (0, 0)), (bb, Obj.cells (jW want (jj l) (.slice (some ⟨bc, oc, none⟩) vs.length c)).toArray 165 (0, 0))]) [] ?_
       refine tkQ 0 ?_
       refine tkQ 1 ?_
       refine tkQ 2 ?_
       refine tkQ 3 ?_
       refine tkQ 4 ?_
       refine tkQ 5 ?_
       (refine' jz 6 rfl rfl jg (jJ (jD [.int .u8 2, .int .i64 (jr vs y.vd : Nat)] rfl stL (List.mem_cons_of_mem _ (List.mem_cons_self ..)) hslip)) ?_ ?_; (· assumption))
       refine jO 7 jg rfl rfl rfl rfl (kt (C := #[.int .u8 0, .int .i64 0]) zeO rfl) ?_
       rintro _ _ ⟨b7, rfl, rfl⟩
       refine ⟨Or.inr (by exact (fun z hz => jS jl z (hKm z hz))), ?_⟩
       refine kf 8 jg rfl rfl rfl (qT rfl rfl stO rfl rfl rfl) ?_
       rintro _ _ ⟨_, rfl⟩
       refine ⟨Or.inr (by exact (fun z hz => jS jl z (hKm z hz))), ?_⟩
       refine tdQ ?_
       refine kw b7 trivial ?_ (fun w h => h.cnt jl)
       exact jv
     · rintro b7 _
       clear hKm
       have hf9 : jr vs y.vd < 9 := by omega
       have hcb : ui vs i (jr vs y.vd) ≤ 9 := Nat.le_trans List.countP_le_length (by rw [List.length_take]; omega)
       have gc := Q7 (f := ui vs i) hf9
       have gc2 := Q7 (f := ui vs (i + 1)) hf9
       have gs := Ys (f := ui vs i) (g := ui vs (i + 1)) hf9 (fun j => Wc hy j)
       have hcw := Wb (i + 1) hym
       have hex := J5 hw1 hy hno
       have hws := u7 hy hno
       refine goE ?_
       refine qJ (C' := (Jo (ui vs (i + 1))).toArray) rfl rfl onO rfl gc gs ?_
       have hK : ∀ z ∈ (b4, Obj.cells (Jo (ui vs (i + 1))).toArray 47 (0, 0)) :: ((b7, Obj.cells #[.int .u8 2, .int .i64 (jr vs y.vd : Nat)] 162 (0, 0)) :: ((b2, Obj.cells #[.int .u8 0, .int .i64 0] 162 (0, 0)) :: L)), z ∈ (b4, Obj.cells (Jo (ui vs (i + 1))).toArray 47 (0, 0)) :: ((b7, Obj.cells #[.int .u8 2, .int .i64 (jr vs y.vd : Nat)] 162 (0, 0)) :: ((b2, Obj.cells #[.int .u8 0, .int .i64 0] 162 (0, 0)) :: L)) := fun z h => h
       refine goA ?_
       refine jw jc ((b4, Obj.cells (Jo (ui vs (i + 1))).toArray 47 (0, 0)) :: ((b7, Obj.cells #[.int .u8 2, .int .i64 (jr vs y.vd : Nat)] 162 (0, 0)) :: ((b2, Obj.cells #[.int .u8 0, .int .i64 0] 162 (0, 0)) :: L))) [] ?_
       refine tkQ 0 ?_
       refine tkQ 1 ?_
       refine tkQ 2 ?_
       refine tkQ 3 ?_
       refine tkQ 4 ?_
       refine tkQ 5 ?_
       refine tkQ 6 ?_
       refine tkQ 7 ?_
       refine tkQ 8 ?_
       refine tdQ ?_
       by_cases hwin : ((jM (vs.take (i + 1)) y.vd).length : Int) = want
       · have hwon : j6 want vs (i + 1) = some i := by rw [hws, if_pos (hex.2 hwin)]
         have hW : u4 want vs = ((2, (jr vs y.vd : Int)), true) := by
          unfold u4
          rw [if_neg hw, Jh (i + 1) vs.length jf hwon]
          dsimp only
          rw [hy]
         rw [hW]
         have hwin' : ((ui vs (i + 1) (jr vs y.vd) : Nat) : Int) = want := by rw [hcw]; exact hwin
         refine goA ?_
         refine jy (L' := (b2, Obj.cells #[.int .u8 0, .int .i64 0] 162 (0, 0)) :: L) ?_ jl
         refine goA ?_
         refine kJ 2 162 3 rfl rfl rfl stO (by repeat (exact List.mem_cons_self)) rfl (fun w h => Heap.cnt (L' := L) h jl) ?_
         exact ⟨rfl, rfl⟩
       · have hwin' : ¬ ((ui vs (i + 1) (jr vs y.vd) : Nat) : Int) = want := by rw [hcw]; exact hwin
         have hno' : j6 want vs (i + 1) = none := by rw [hws, if_neg (fun h => hwin (hex.1 h))]
         refine goA ?_
         refine jk (i + 1) ⟨hil, hno'⟩ ?_ (fun w h => h.cnt jl) jf
         exact jv
   · have hie : i = vs.length := by omega
     subst hie
     have hW : u4 want vs = ((0, 0), false) := by unfold u4; rw [if_neg hw, hno]
     rw [hW]
     repeat (first | refine goA ?_ | refine ju (jo rfl (K0 )) rfl ?_)
     refine jy (L' := (b2, Obj.cells #[.int .u8 0, .int .i64 0] 162 (0, 0)) :: L) ?_ jl
     refine goA ?_
     refine kJ 2 162 3 rfl rfl rfl stO (by repeat (exact List.mem_cons_self)) rfl (fun w h => Heap.cnt (L' := L) h jl) ?_
     exact ⟨rfl, rfl⟩
end
section
open Go.RowKit
open Vd (RSet Vdt Vote Rec Quest Piece Ballot)
variable {G : World} {L : ja}
def Jp (L : ja) (vs : List Vote) (u : Value) (M : ja) : Prop := ∃ a c B N, u = .slice a vs.length c ∧ ORow voteR 65 5 N a c vs B ∧ Wr N ∧ M = B ++ (N ++ L)
theorem yy (v : Value) (vs : List Vote) (hv : sliceR 5 voteR L [v] vs) (hn : vs.length ≤ 100) (hs : ∀ x ∈ vs, SmV x.vd) : Spec Tryz.prog G 73 #[v] L (Jp L vs) := by
 obtain ⟨a0, c0, e1, hv⟩ := hv.val
 simp only [List.cons.injEq, and_true] at e1
 subst e1
 obtain ⟨_, ka1, ka2, hv⟩ := sliceR.cut hv
 refine jm (n := 19) Tryz.func73 rfl rfl rfl ?_
 refine goA ?_
 refine jB (σ := Nat × Option Addr × Nat × ja × ja) (fun x => x.1 ≤ vs.length ∧ ORow voteR 65 5 x.2.2.2.2 x.2.1 x.2.2.1 (vs.take x.1) x.2.2.2.1 ∧ Wr x.2.2.2.2) (fun x => [(3, .slice x.2.1 (vs.take x.1).length x.2.2.1), (6, .slice a0 vs.length c0), (7, .int .i64 (vs.length : Nat)), (8, .int .i64 (x.1 : Nat))]) (fun x => x.2.2.2.1 ++ (x.2.2.2.2 ++ L)) (fun x => vs.length - x.1) (0, none, 0, [], []) ⟨Nat.zero_le _, ORow.nil _, Wr.nil⟩ ?_ (fun w h => h) ?_
 exact jv
 rintro ⟨k, a, c, B, N⟩ ⟨hk, hB, hN⟩
 dsimp only at hk hB hN ⊢
 by_cases hlt : k < vs.length
 · obtain ⟨x, hx⟩ : ∃ x, vs[k]? = some x := ⟨_, List.getElem?_eq_getElem hlt⟩
   have htk : vs.take (k + 1) = vs.take k ++ [x] := by rw [List.take_add_one, hx]; rfl
   have htl : (vs.take k).length ≤ 100 := by rw [List.length_take]; omega
   rcases hv with rfl | ⟨b1, o1, C1, t1, f1, rfl, m1, q1⟩
   · simp at hlt
   obtain ⟨cx, _, hx2, hcx⟩ := q1 k x hx
   have hx0 := hx2
   obtain ⟨x1, xc1, x2, xc2, rfl, hx3, hx4, hcode, htm, hup⟩ := hx0.vals
   have m1' : (b1, Obj.cells C1 t1 f1) ∈ B ++ (N ++ L) := List.mem_append_right _ (List.mem_append_right _ m1)
   refine goA ?_
   refine ju (jD [.int .i64 x.up, .int .u8 x.vd.code, .slice x1 x.vd.sets.length xc1, .slice x2 x.vd.soa.length xc2, .int .u32 x.time] rfl stL m1' hcx) rfl ?_
   repeat (first | refine goA ?_ | (refine j5 ?_; intro bNew))
   refine jx (jb jg rfl (zv _ x (kz _ _ _ _ jt hx2) (hs x (List.mem_of_getElem? hx)))) rfl ?_
   rintro _ _ ⟨a6, c6, B6, a7, c7, B7, N6, rfl, h6, h7, hN6, rfl⟩
   repeat (refine jP (K1 etO rfl rfl (by decide)) rfl ?_; intro bLit)
   refine jy (L' := (bLit, Obj.cells #[.int .i64 x.up, .int .u8 x.vd.code, .slice a6 x.vd.sets.length c6, .slice a7 x.vd.soa.length c7, .int .u32 x.time] 65 (0, 0)) :: (B ++ (((B7 ++ (B6 ++ N6)) ++ N) ++ L))) ?_ jl
   refine jx (uS (L0 := (B7 ++ (B6 ++ N6)) ++ N) (cs := [.int .i64 x.up, .int .u8 x.vd.code, .slice a6 x.vd.sets.length c6, .slice a7 x.vd.soa.length c7, .int .u32 x.time]) (y := x) etO rfl rfl (hB.mono kz jt) rfl (fun v hv => by simp only [List.mem_cons, List.not_mem_nil, or_false] at hv; rcases hv with rfl | rfl | rfl | rfl | rfl <;> rfl) ⟨_, _, rfl, h6.sliceR jq jt jt, h7.sliceR jq jt jt, hcode, htm, hup⟩ (by unfold maxLen; omega) jf) rfl ?_
   rintro _ _ ⟨a', c', B', rfl, hB', rfl⟩
   refine goA ?_
   refine jk (k + 1, a', c', B', (B7 ++ (B6 ++ N6)) ++ N) ⟨hlt, by dsimp only; rw [htk]; exact hB', (h7.wr.append (h6.wr.append hN6)).append hN⟩ ?_ (fun w h => h.cnt jl) (by dsimp only; omega)
   dsimp only
   rw [htk]
   exact jv
 · have hkn : k = vs.length := by omega
   subst hkn
   rw [List.take_length] at hB ⊢
   refine goA ?_
   refine je 2 _ rfl rfl ?_
   exact ⟨a, c, B, N, rfl, hB, hN, rfl⟩
theorem Yt (bb : Nat) (want : Int) (f : Int → Int × Int) (vs : List Vote) (a : Option Addr) (c : Nat) (hm : (bb, Obj.cells (jW want f (.slice a vs.length c)).toArray 165 (0, 0)) ∈ L) (hv : sliceR 5 voteR L [.slice a vs.length c] vs) (hn : vs.length ≤ 100) (hs : ∀ x ∈ vs, SmV x.vd) :
 Spec Tryz.prog G 210 #[.pointer (some ⟨bb, 0, none⟩)] L (Jp L vs) := by
 have g19 : (jW want f (.slice a vs.length c)).toArray[0 + 19]? = some (.slice a vs.length c) := rfl
 refine jm (n := 10) Tryz.func210 rfl rfl rfl ?_
 refine goA ?_
 refine jx (jb jg rfl (yy _ vs hv hn hs)) rfl ?_
 rintro _ _ ⟨a1, c1, B, N, rfl, hB, hN, rfl⟩
 refine goA ?_
 refine je 2 _ rfl rfl ?_
 exact ⟨a1, c1, B, N, rfl, hB, hN, rfl⟩
end
section
open Vd (RSet Vdt Vote Rec Quest Piece Ballot)
def nine : List Int := [0, 1, 2, 3, 4, 5, 6, 7, 8]
theorem mem_nine {x : Int} : x ∈ nine ↔ 0 ≤ x ∧ x < 9 := by
 unfold nine
 simp only [List.mem_cons, List.not_mem_nil, or_false]
 omega
theorem nine_nodup : nine.Nodup := by unfold nine; decide
theorem nine_lt : nine.Pairwise (· < ·) := by unfold nine; decide
theorem Jq : ∀ {l : List Int}, l.Nodup → ∀ a, l.filter (fun x => x == a) = if a ∈ l then [a] else []
 | [], _, a => by simp
 | x :: l, h, a => by
   have hx : x ∉ l := (List.nodup_cons.1 h).1
   have ih := Jq (List.nodup_cons.1 h).2 a
   by_cases e : x = a
   · subst e
     rw [List.filter_cons_of_pos (by simp), ih, if_neg hx, if_pos (List.mem_cons_self ..)]
   · rw [List.filter_cons_of_neg (by simpa using e), ih]
     have : a ∈ x :: l ↔ a ∈ l := by simp [Ne.symm e]
     simp only [this]
theorem zw (p : Int → Bool) : ∀ l : List Int, l.flatMap (fun n => if p n then [n] else []) = l.filter p
 | [] => rfl
 | x :: l => by
   rw [List.flatMap_cons, zw p l]
   cases h : p x <;> simp [h]
theorem qz {l : List Int} (h : l.Nodup) : kN l = nine.filter fun x => decide (x ∈ l) := by
 have h1 : kN l = nine.flatMap fun x => if decide (x ∈ l) = true then [x] else [] := by
  unfold kN nine
  simp only [Jq h, decide_eq_true_eq]
  rfl
 rw [h1]
 exact zw _ _
theorem UW {l : List Int} (h : l.Nodup) (h9 : ∀ x ∈ l, 0 ≤ x ∧ x < 9) (x : Int) : x ∈ kN l ↔ x ∈ l := by
 rw [qz h, List.mem_filter, mem_nine]
 simp only [decide_eq_true_eq]
 exact ⟨fun k => k.2, fun k => ⟨h9 x k, k⟩⟩
theorem Qb {l : List Int} (h : l.Nodup) : (kN l).Nodup := by
 rw [qz h]
 exact nine_nodup.filter _
theorem zx {l : List Int} (h : l.Nodup) (h9 : ∀ x ∈ l, 0 ≤ x ∧ x < 9) : (kN l).Perm l :=
 (List.perm_ext_iff_of_nodup (Qb h) h).2 fun x => UW h h9 x
theorem u9 {l : List Int} (h : l.Nodup) (h9 : ∀ x ∈ l, 0 ≤ x ∧ x < 9) : (kN l).length = l.length := (zx h h9).length_eq
theorem Wg {l : List Int} (h : l.Nodup) : (kN l).Pairwise (· < ·) := by
 rw [qz h]
 exact nine_lt.filter _
structure Vup (vs : List Vote) : Prop where
 nd : (vs.map (·.up)).Nodup
 up : ∀ x ∈ vs, 0 ≤ x.up ∧ x.up < 9
theorem BoxOk.vup {l : List Ballot} (h : BoxOk l) : Vup (Vd.votesB l) := by
 refine ⟨?_, fun x hx => ?_⟩
 · have : (Vd.votesB l).map (·.up) = (l.filter fun b => !b.pass).map (fun b => b.v.up) := by
    unfold Vd.votesB
    rw [List.map_map]
    rfl
   rw [this]
   exact h.nd.sublist (List.Sublist.map _ (List.filter_sublist))
 · obtain ⟨b, hb, _, rfl⟩ := votesB_mem.1 hx
   exact h.up b hb
theorem Vup.sub {vs ws : List Vote} (h : Vup vs) (s : ws.Sublist vs) : Vup ws := ⟨h.nd.sublist (s.map _), fun x hx => h.up x (s.subset hx)⟩
theorem Vup.filter {vs : List Vote} (h : Vup vs) (p : Vote → Bool) : Vup (vs.filter p) := h.sub List.filter_sublist
theorem Vup.take {vs : List Vote} (h : Vup vs) (n : Nat) : Vup (vs.take n) := h.sub (List.take_sublist ..)
theorem Vup.perm {vs ws : List Vote} (h : Vup vs) (p : vs.Perm ws) : Vup ws := ⟨(p.map _).nodup h.nd, fun x hx => h.up x (p.mem_iff.2 hx)⟩
theorem Vup.ups {vs : List Vote} (h : Vup vs) : ∀ x ∈ vs.map (·.up), 0 ≤ x ∧ x < 9 := by
 intro x hx
 obtain ⟨y, hy, rfl⟩ := List.mem_map.1 hx
 exact h.up y hy
theorem Vup.inj {vs : List Vote} (h : Vup vs) {x y : Vote} (hx : x ∈ vs) (hy : y ∈ vs) (e : x.up = y.up) : x = y := by
 obtain ⟨i, hi, rfl⟩ := List.getElem_of_mem hx
 obtain ⟨j, hj, rfl⟩ := List.getElem_of_mem hy
 have hp := List.nodup_iff_pairwise_ne.1 h.nd
 rcases Nat.lt_trichotomy i j with h1 | h1 | h1
 · have := List.pairwise_iff_getElem.1 hp i j (by simpa using hi) (by simpa using hj) h1
   simp only [List.getElem_map] at this
   exact absurd e this
 · subst h1; rfl
 · have := List.pairwise_iff_getElem.1 hp j i (by simpa using hj) (by simpa using hi) h1
   simp only [List.getElem_map] at this
   exact absurd e.symm this
theorem Vup.len {vs : List Vote} (h : Vup vs) : vs.length ≤ 9 := by
 have h1 := u9 h.nd h.ups
 rw [List.length_map] at h1
 have h2 : (kN (vs.map (·.up))).length ≤ nine.length := by
  rw [qz h.nd]
  exact List.length_filter_le _ _
 have : nine.length = 9 := rfl
 omega
theorem withV_mem {vs : List Vote} {v : Vdt} {x : Vote} : x ∈ jM vs v ↔ x ∈ vs ∧ x.vd = v := by
 unfold jM
 rw [List.mem_filter, decide_eq_true_eq]
def qN : List Vote → Int
 | [] => 0
 | w :: r => r.foldl (fun t v => min t v.time) w.time
theorem uj (w : Vote) (r : List Vote) : qN (w :: r) = r.foldl (fun t v => min t v.time) w.time := rfl
theorem zU : ∀ (l : List Vote) (s : Int), l.foldl (fun t v => min t v.time) s ≤ s ∧ ∀ x ∈ l, l.foldl (fun t v => min t v.time) s ≤ x.time
 | [], s => ⟨Int.le_refl _, by simp⟩
 | x :: l, s => by
   obtain ⟨h1, h2⟩ := zU l (min s x.time)
   rw [List.foldl_cons]
   refine ⟨by omega, fun y hy => ?_⟩
   rcases List.mem_cons.1 hy with rfl | hy
   · omega
   · exact h2 y hy
theorem zV : ∀ (l : List Vote) (s : Int), l.foldl (fun t v => min t v.time) s = s ∨ ∃ x ∈ l, l.foldl (fun t v => min t v.time) s = x.time
 | [], s => Or.inl rfl
 | x :: l, s => by
   rw [List.foldl_cons]
   rcases zV l (min s x.time) with h | ⟨y, hy, h⟩
   · by_cases hx : x.time ≤ s
     · exact Or.inr ⟨x, List.mem_cons_self .., by omega⟩
     · exact Or.inl jf
   · exact Or.inr ⟨y, List.mem_cons_of_mem _ hy, h⟩
theorem UX {l : List Vote} {x : Vote} (h : x ∈ l) : l.foldl (fun t v => min t v.time) x.time = qN l := by
 cases l with
 | nil => simp at h
 | cons w r =>
   have h1 := zU (w :: r) x.time
   have h2 := zV (w :: r) x.time
   have h3 := zU r w.time
   have h4 := zV r w.time
   rw [uj]
   obtain ⟨a, ha⟩ : ∃ a, (w :: r).foldl (fun t v => min t v.time) x.time = a := ⟨_, rfl⟩
   obtain ⟨b, hb⟩ : ∃ b, r.foldl (fun t v => min t v.time) w.time = b := ⟨_, rfl⟩
   rw [ha] at h1 h2 ⊢
   rw [hb] at h3 h4 ⊢
   have hax : ∀ y ∈ w :: r, a ≤ y.time := h1.2
   have hbx : ∀ y ∈ w :: r, b ≤ y.time := fun y hy => by
    rcases List.mem_cons.1 hy with rfl | hy
    · exact h3.1
    · exact h3.2 y hy
   have hab : b ≤ a := by
    rcases h2 with h2 | ⟨y, hy, h2⟩
    · rw [h2]; exact hbx x h
    · rw [h2]; exact hbx y hy
   have hba : a ≤ b := by
    rcases h4 with h4 | ⟨y, hy, h4⟩
    · rw [h4]; exact hax w (List.mem_cons_self ..)
    · rw [h4]; exact hax y (List.mem_cons_of_mem _ hy)
   omega
theorem UY (l : List Vote) (x : Vote) : qN (l ++ [x]) = if l.length = 0 ∨ x.time < qN l then x.time else qN l := by
 cases l with
 | nil => rfl
 | cons w r =>
   have h0 : ¬ (w :: r).length = 0 := by simp
   rw [List.cons_append, uj, uj, List.foldl_append]
   simp only [List.foldl_cons, List.foldl_nil, h0, false_or]
   split <;> omega
theorem Yu {l : List Vote} (h : ∀ x ∈ l, 0 ≤ x.time ∧ x.time ≤ 4294967295) : 0 ≤ qN l ∧ qN l ≤ 4294967295 := by
 cases l with
 | nil => simp [qN]
 | cons w r =>
   have h1 := zU r w.time
   have h2 := zV r w.time
   have hw := h w (List.mem_cons_self ..)
   rw [uj]
   rcases h2 with h2 | ⟨y, hy, h2⟩
   · rw [h2]; exact hw
   · rw [h2]; exact h y (List.mem_cons_of_mem _ hy)
theorem yz {want : Int} {vs : List Vote} {k : Nat} : ∀ i, j6 want vs i = some k → k < i ∧ j6 want vs k = none ∧ ∃ x, vs[k]? = some x ∧ want ≤ ((jM (vs.take (k + 1)) x.vd).length : Int)
 | 0, h => by simp [j6] at h
 | i + 1, h => by
   cases h1 : j6 want vs i with
   | some j =>
     rw [j6, h1] at h
     obtain rfl := Option.some.inj h
     obtain ⟨a, b⟩ := yz i h1
     exact ⟨by omega, b⟩
   | none =>
     cases h2 : vs[i]? with
     | none => rw [j6, h1, h2] at h; cases h
     | some x =>
       rw [u7 h2 h1] at h
       split at h
       · rename_i hw
         obtain rfl := Option.some.inj h
         exact ⟨by omega, h1, x, h2, hw⟩
       · cases h
structure WonBy (want : Int) (vs : List Vote) (j : Nat) (x : Vote) : Prop where
 at_ : vs[j]? = some x
 no : j6 want vs j = none
 yes : j6 want vs vs.length = some j
 len : ((jM (vs.take (j + 1)) x.vd).length : Int) = want
 is : qr want vs = (x.vd, qN (jM (vs.take (j + 1)) x.vd), kN ((jM (vs.take (j + 1)) x.vd).map (·.up)), true)
theorem Yv {want : Int} (hw : 1 ≤ want) (vs : List Vote) : (j6 want vs vs.length = none ∧ qr want vs = (Vdt.none, 0, [], false)) ∨ ∃ j x, WonBy want vs j x := by
 cases h : j6 want vs vs.length with
 | none => exact Or.inl ⟨rfl, by unfold qr; rw [h]⟩
 | some j =>
   obtain ⟨h1, h2, x, hx, h3⟩ := yz _ h
   refine Or.inr ⟨j, x, hx, h2, h, (J5 hw hx h2).1 h3, ?_⟩
   unfold qr
   rw [h]
   dsimp only
   rw [hx]
   dsimp only
   rw [UX]
   refine withV_mem.2 ⟨?_, rfl⟩
   rw [List.mem_take_iff_getElem]
   obtain ⟨hj, hjx⟩ := List.getElem?_eq_some_iff.1 hx
   exact ⟨j, by omega, hjx⟩
theorem aaf {vs ws : List Vote} {m : Int} : ∀ {n : Int}, ws.foldl (fun m x => max m ((jM vs x.vd).length : Int)) n ≤ m ↔ n ≤ m ∧ ∀ x ∈ ws, ((jM vs x.vd).length : Int) ≤ m := by
 induction ws with
 | nil => intro n; simp
 | cons w r ih =>
   intro n
   rw [List.foldl_cons, ih]
   simp only [List.mem_cons, forall_eq_or_imp]
   constructor
   · rintro ⟨h1, h2⟩; exact ⟨by omega, by omega, h2⟩
   · rintro ⟨h1, h2, h3⟩; exact ⟨by omega, h3⟩
theorem mostR_le {vs : List Vote} {m : Int} : qL vs ≤ m ↔ 0 ≤ m ∧ ∀ x ∈ vs, ((jM vs x.vd).length : Int) ≤ m := aaf
theorem Yw {vs : List Vote} {x : Vote} (h : x ∈ vs) : ((jM vs x.vd).length : Int) ≤ qL vs := (mostR_le.1 (Int.le_refl _)).2 x h
theorem yA (vs : List Vote) : 0 ≤ qL vs := (mostR_le.1 (Int.le_refl _)).1
theorem Q8 {l : List Int} (h : l.Nodup) (h9 : ∀ x ∈ l, 0 ≤ x ∧ x < 9) : (l.mergeSort fun x y => decide (x ≤ y)) = kN l := by
 refine List.Perm.eq_of_pairwise (le := fun x y => x ≤ y) (fun a b _ _ h1 h2 => Int.le_antisymm h1 h2) ?_ ((Wg h).imp fun h => Int.le_of_lt h) ((List.mergeSort_perm _ _).trans (zx h h9).symm)
 have := List.pairwise_mergeSort (le := fun x y : Int => decide (x ≤ y)) (fun a b c h1 h2 => by simp only [decide_eq_true_eq] at *; omega) (fun a b => by simp only [Bool.or_eq_true, decide_eq_true_eq]; omega) l
 exact this.imp fun h => of_decide_eq_true h
end
section
open Go.RowKit
open Vd (RSet Vdt Vote Rec Quest Piece Ballot Said)
variable {G : World} {L : ja}
def afB : Rp Said := fun L cs s => ∃ cm, cs = .int .i64 s.up :: (cm ++ [.int .u32 s.time]) ∧ msgR L cm s.m ∧ (0 ≤ s.time ∧ s.time ≤ 4294967295) ∧ (-9223372036854775808 ≤ s.up ∧ s.up ≤ 9223372036854775807)
theorem msgR.len {L : ja} {cs : List Value} {m : Vd.Msg} (h : msgR L cs m) : cs.length = 21 := by
 obtain ⟨h0, h1, h2, h3, h4, h5, h6, h7, h8, h9, q, a, b, x, k, e0, e1, e2, e3, e4, rfl, _⟩ := h
 rfl
def aag (m : Vd.Msg) : Prop := m.answers.length ≤ 10000 ∧ (∀ x ∈ m.answers, x.name.length ≤ 1000000 ∧ x.data.length ≤ 1000000) ∧ m.auth.length ≤ 10000 ∧ (∀ x ∈ m.auth, x.name.length ≤ 1000000 ∧ x.data.length ≤ 1000000)
end
section
open Go.RowKit
open Vd (RSet Vdt Vote Rec Quest Piece Ballot Said)
variable {G : World} {L : ja}
theorem Yx {q : Quest} {v : Vdt} (h : v.sets = []) : Vd.endV q v = (RSet.none, false) := by unfold Vd.endV; rw [h]; rfl
theorem Wh {q : Quest} {v : Vdt} {s : RSet} (h : v.sets[v.sets.length - 1]? = some s) : Vd.endV q v = if s.kind = q.kind then (s, true) else (RSet.none, false) := by
 unfold Vd.endV
 rw [List.getLast?_eq_getElem?, h]
def SetOut (L : ja) (r : RSet × Bool) (u : Value) (M : ja) : Prop := ∃ a c B, u = .tuple #[.agg #[.string (bs r.1.name), .int .u16 r.1.kind, .int .u16 r.1.cls, .int .u32 r.1.ttl, .slice a r.1.data.length c], .bool r.2] ∧ ORow qO 9 1 [] a c r.1.data B ∧ M = B ++ L ∧ rsR B [.string (bs r.1.name), .int .u16 r.1.kind, .int .u16 r.1.cls, .int .u32 r.1.ttl, .slice a r.1.data.length c] r.1
theorem SetOut.none : SetOut L (RSet.none, false) (.tuple #[.agg #[.string (bs []), .int .u16 0, .int .u16 0, .int .u32 0, .slice none 0 0], .bool false]) L := ⟨Option.none, 0, [], rfl, ORow.nil _, rfl, Z9⟩
theorem abm (v : Vdt) (q : Quest) (a1 a2 : Option Addr) (c1 c2 : Nat) (hv : sliceR 5 rsR L [.slice a1 v.sets.length c1] v.sets) (hd : ∀ s ∈ v.sets, s.data.length ≤ 100000) :
 Spec Tryz.prog G 82 #[.agg #[.string (bs q.name), .int .u16 q.kind, .int .u16 q.cls], .agg #[.int .u8 v.code, .slice a1 v.sets.length c1, .slice a2 v.soa.length c2]] L (SetOut L (Vd.endV q v)) := by
 obtain ⟨_, k1, k2, hv⟩ := sliceR.cut hv
 unfold maxLen at k2
 refine jm (n := 31) Tryz.func82 rfl rfl rfl ?_
 refine jU (jI (jP (kE rfl) rfl ?_))
 intro bQ
 refine jP (kE rfl) rfl ?_
 intro bV
 refine jP (kt (C := #[.string (bs []), .int .u16 0, .int .u16 0, .int .u32 0, .slice none 0 0]) zeO rfl) rfl ?_
 intro bS
 by_cases h0 : v.sets.length = 0
 · have hE := Yx (q := q) (List.eq_nil_of_length_eq_zero h0)
   rw [hE]
   have h0' : ((v.sets.length : Nat) : Int) = 0 := by omega
   repeat (first | refine goA ?_ | refine ju (jo rfl (KZ )) rfl ?_)
   refine kJ 4 122 5 rfl rfl rfl stO (by repeat (exact List.mem_cons_self)) rfl (fun w h => Heap.cnt (L' := L) h jl) ?_
   exact SetOut.none
 · have h0' : ¬ ((v.sets.length : Nat) : Int) = 0 := by omega
   rcases hv with h1 | ⟨b1, o1, C1, t1, f1, rfl, m1, q1⟩
   · rw [h1] at h0; simp at h0
   obtain ⟨s, hs⟩ : ∃ s, v.sets[v.sets.length - 1]? = some s := ⟨_, List.getElem?_eq_getElem jf⟩
   have hE := Wh (q := q) hs
   obtain ⟨cs, _, hs2, hcs⟩ := q1 _ s hs
   obtain ⟨sa, sc, rfl, hsd, hs4⟩ := hs2.vals
   have hi : (((v.sets.length : Nat) : Int) - 1).toNat = v.sets.length - 1 := by omega
   rw [← hi] at hcs
   rw [hE]
   by_cases hk : s.kind = q.kind
   · rw [if_pos hk]
     refine goA ?_
     refine ju (jD [.string (bs s.name), .int .u16 s.kind, .int .u16 s.cls, .int .u32 s.ttl, .slice sa s.data.length sc] rfl stL (List.mem_cons_of_mem _ (List.mem_cons_of_mem _ (List.mem_cons_of_mem _ m1))) hcs) rfl ?_
     repeat (first | refine goA ?_ | (refine j5 ?_; intro bNew))
     refine jx (jb jg rfl (K7 _ s.data (jn kI _ _ _ _ jt hsd) (Nat.le_trans (hd s (List.mem_of_getElem? hs)) jf))) rfl ?_
     rintro _ _ ⟨ad, cd, Bd, rfl, hBd, rfl⟩
     have hBd' := hBd.imp (r' := qO) (L' := []) (fun cs y _ h => h)
     refine jy (L' := (bNew, Obj.cells #[.string (bs s.name), .int .u16 s.kind, .int .u16 s.cls, .int .u32 s.ttl, .slice sa s.data.length sc] 122 (0, 0)) :: ((bS, Obj.cells #[.string (bs []), .int .u16 0, .int .u16 0, .int .u32 0, .slice none 0 0] 122 (0, 0)) :: (Bd ++ L))) ?_ jl
     repeat (refine ju (ub rfl KX) rfl ?_)
     refine qJ (C' := #[.string (bs s.name), .int .u16 s.kind, .int .u16 s.cls, .int .u32 s.ttl, .slice ad s.data.length cd]) rfl rfl onO rfl rfl rfl ?_
     refine goA ?_
     refine jy (L' := (bS, Obj.cells #[.string (bs []), .int .u16 0, .int .u16 0, .int .u32 0, .slice none 0 0] 122 (0, 0)) :: (Bd ++ L)) ?_ jl
     refine goA ?_
     refine kJ 4 122 5 rfl rfl rfl stO (by repeat (exact List.mem_cons_self)) rfl (fun w h => Heap.cnt (L' := Bd ++ L) h jl) ?_
     exact ⟨ad, cd, Bd, rfl, hBd', rfl, _, rfl, hBd'.sliceR kI (by simp) (fun p h => h), hs4⟩
   · rw [if_neg hk]
     refine goA ?_
     refine ju (jD [.string (bs s.name), .int .u16 s.kind, .int .u16 s.cls, .int .u32 s.ttl, .slice sa s.data.length sc] rfl stL (List.mem_cons_of_mem _ (List.mem_cons_of_mem _ (List.mem_cons_of_mem _ m1))) hcs) rfl ?_
     repeat (first | refine goA ?_ | (refine j5 ?_; intro bNew) | refine ju (jo rfl (KZ )) rfl ?_)
     refine jy (L' := (bS, Obj.cells #[.string (bs []), .int .u16 0, .int .u16 0, .int .u32 0, .slice none 0 0] 122 (0, 0)) :: L) ?_ jl
     refine goA ?_
     refine kJ 4 122 5 rfl rfl rfl stO (by repeat (exact List.mem_cons_self)) rfl (fun w h => Heap.cnt (L' := L) h jl) ?_
     exact SetOut.none
end
section
open Go.RowKit
open Vd (RSet Vdt Vote Rec Quest Piece Ballot Said)
section
variable {G : World} {P : Program} {n : Nat} {ρ : jp} {L : ja} {ty : TypeId} {Q : Exit → Act → World → Prop} {ops : Array Oper} {K : ja} {W : List Nat} {fuel : Nat} {listed : Array Bool}
theorem Q9 (i : Nat) {d j dj : Nat} {want b : Bool} {op : Op} {pos : String} {after : Array Edge} {Φ : Value → ja → Prop} (hr : Region.ready .any ops listed = [i]) (hi : ops[i]? = some ⟨some d, op, ty, pos, after, some (j, want)⟩) (hdn : Nat.blt d n = true)
 (hs : jE ops j = some dj) (hv : ρ.lookup dj = some (.bool b)) (hb : b = want)
 (hO : OpT P G ρ L op ty Φ) (h : ∀ v L', Φ v L' → (i ∈ W ∨ ∀ p ∈ K, p ∈ L') ∧ TA P G ops n K W Q fuel (listed.setIfInBounds i true) ((d, v) :: ρ) L') : TA P G ops n K W Q (fuel + 1) listed ρ L := by
 refine ⟨fun h0 => (by rw [hr] at h0; cases h0), fun k hk => ?_⟩
 rw [hr] at hk
 obtain rfl : k = i := by simpa using hk
 exact ⟨_, hi, fun d' e => by cases e; simpa using hdn, true, ⟨dj, _, hs, hv, by simp [UF, hb]⟩, Or.inl ⟨rfl, Φ, hO, h⟩⟩
end
variable {G : World} {L : ja}
theorem vdR.vals {L : ja} {cs : List Value} {v : Vdt} (h : vdR L cs v) : ∃ a1 c1 a2 c2, cs = [.int .u8 v.code, .slice a1 v.sets.length c1, .slice a2 v.soa.length c2] ∧ sliceR 5 rsR L [.slice a1 v.sets.length c1] v.sets ∧ sliceR 5 rsR L [.slice a2 v.soa.length c2] v.soa ∧ (0 ≤ v.code ∧ v.code ≤ 255) := by
 obtain ⟨a, b, rfl, h1, h2, h3⟩ := h
 obtain ⟨a1, c1, e1, h1⟩ := h1.val
 obtain ⟨a2, c2, e2, h2⟩ := h2.val
 simp only [List.cons.injEq, and_true] at e1 e2
 subst e1 e2
 exact ⟨a1, c1, a2, c2, rfl, h1, h2, h3⟩
theorem Qc (l : List Vote) (x : Vote) (t : Int) : Vd.minTime (l ++ [x]) t = min (Vd.minTime l t) x.time := by simp [Vd.minTime]
theorem Jr : ∀ (l : List Vote) (t : Int), (∀ x ∈ l, 0 ≤ x.time ∧ x.time ≤ 4294967295) → 0 ≤ t ∧ t ≤ 4294967295 → 0 ≤ Vd.minTime l t ∧ Vd.minTime l t ≤ 4294967295
 | [], t, _, h => h
 | s :: l, t, hl, h => by
   have := hl s (List.mem_cons_self ..)
   exact Jr l (min t s.time) (fun x hx => hl x (List.mem_cons_of_mem _ hx)) jf
theorem Js {L K : ja} {cs : List Value} {l : List Vote} (h : sliceR 5 (fun _ => voteR K) L cs l) : ∀ y ∈ l, 0 ≤ y.time ∧ y.time ≤ 4294967295 := fun y hy => by
 obtain ⟨a, cap, _, _, _, h4⟩ := h
 rcases h4 with rfl | ⟨b, off, C, te, fr, _, _, q3⟩
 · simp at hy
 · obtain ⟨i, hi⟩ := List.getElem?_of_mem hy
   obtain ⟨cs', _, h5, _⟩ := q3 i y hi
   obtain ⟨_, _, _, _, _, _, _, _, k, _⟩ := h5.vals
   exact k
theorem Ua (l : List Vote) (x : Vote) (w : Vdt) : Vd.alikeV (l ++ [x]) w = (Vd.alikeV l w && decide (x.vd = w)) := by simp [Vd.alikeV]
end
section
open Go.RowKit
open Vd (RSet Vdt Vote Rec Quest Piece Ballot Said)
variable {G : World} {L : ja}
theorem uG : ∀ {l : List Vd.Bytes} {xs : List Value}, Laid qO 1 L xs l → xs = l.map Go.Proofs.encStr ∧ ∀ s ∈ l, s.length ≤ maxLen
 | [], xs, h => ⟨h, by simp⟩
 | s :: l, _, ⟨c, ys, h1, h2, h3, h4⟩ => by
   obtain ⟨k1, k2⟩ := uG h4
   obtain ⟨rfl, h3⟩ := h3
   refine ⟨by rw [h1, k1]; rfl, fun t ht => ?_⟩
   rcases List.mem_cons.1 ht with rfl | ht
   · exact h3
   · exact k2 t ht
theorem uH : ∀ (l : List Vd.Bytes), (∀ s ∈ l, s.length ≤ maxLen) → Laid qO 1 L (l.map Go.Proofs.encStr) l
 | [], _ => rfl
 | s :: l, h => ⟨[.string (bs s)], l.map Go.Proofs.encStr, rfl, rfl, ⟨rfl, h s (List.mem_cons_self ..)⟩, uH l fun t ht => h t (List.mem_cons_of_mem _ ht)⟩
theorem VJ (l : List Vd.Bytes) : ∀ v ∈ l.map Go.Proofs.encStr, v.oneCell' = true := by
 intro v hv
 obtain ⟨s, _, rfl⟩ := List.mem_map.1 hv
 rfl
theorem Row.pre {e : TypeId} {a : Option Addr} {n c k : Nat} {xs : List Value} {B : ja} (h : Row e 1 (.slice a n c) n xs B) (hk : k ≤ n) : Row e 1 (.slice a k c) k (xs.take k) B := by
 have hl := h.len
 refine ⟨by rw [List.length_take, hl]; omega, ?_⟩
 rcases h.is with ⟨q1, q2, q3⟩ | ⟨b, cap, cur, q1, q2, q3, q4, q5, q6⟩
 · obtain ⟨rfl, _, rfl⟩ := Value.slice.inj q1
   have : k = 0 := by omega
   subst this
   exact Or.inl ⟨rfl, rfl, q3⟩
 · obtain ⟨rfl, _, rfl⟩ := Value.slice.inj q1
   refine Or.inr ⟨b, c, cur, rfl, q2, by omega, q4, q5, ?_⟩
   rw [← q6, List.take_take]
   congr 1
   omega
theorem abn {K : ja} (a : Option Addr) (c : Nat) (l : List Vd.Bytes) (B : ja) (hB : ORow qO 9 1 K a c l B) (hn : l.length ≤ 1000000) : Spec Tryz.prog G 114 #[.slice a l.length c] (B ++ L) fun u M => u = .tuple #[] ∧ ∃ B', ORow qO 9 1 K a c (l.mergeSort fun x y => decide (x ≤ y)) B' ∧ M = B' ++ L := by
 refine ⟨fun w hw => ?_⟩
 obtain ⟨xs, h1, h2, h3⟩ := hB.ex
 obtain ⟨rfl, hle⟩ := uG h2
 rcases h1.is with ⟨q1, q2, q3⟩ | ⟨b, cap, cur, q1, q2, q3, q4, q5, q6⟩
 · have hl0 : l = [] := List.eq_nil_of_length_eq_zero q2
   subst hl0
   obtain ⟨rfl, _, rfl⟩ := Value.slice.inj q1
   refine (Tryz.slices_Sort_string_none none 0 w).mono fun e w' ⟨he, hww⟩ => ?_
   subst hww
   exact ⟨_, _, he, ⟨rfl, B, by simpa using hB, rfl⟩, hw⟩
 · obtain ⟨rfl, _, rfl⟩ := Value.slice.inj q1
   have hb : w.heap[b]? = some (.cells cur 9 (0, 0)) := hw.get (b, _) (by rw [q2]; simp)
   have hH := holds_of_block (ss := l) hb (by rw [Nat.mul_one] at q6; exact q6)
   have hlen : (l.mergeSort fun x y => decide (x ≤ y)).length = l.length := List.length_mergeSort l
   refine (Tryz.slices_Sort_string b 0 c l w hH (Array.getElem?_eq_some_iff.1 hb).1 jf).mono fun e w' ⟨he, n, os, hww⟩ => ?_
   have ho := ownsRow_sorted (w := w) (base := 0) (n := n) (os := os) (ss := l) (ts := l.mergeSort fun x y => decide (x ≤ y)) hlen (Nat.zero_le _) hb q3 q4 q5
   have hg := grownBy_sorted (w := w) (g := b) (n := n) (os := os) (l.mergeSort fun x y => decide (x ≤ y)).toArray
   rw [← hww] at ho hg
   obtain ⟨B', hB', hH'⟩ := h1.after hw ho hg (Or.inl rfl)
   refine ⟨_, _, he, ⟨rfl, B', ⟨_, by rw [hlen]; exact hB', uH _ fun s hs => hle s ((List.mem_mergeSort).1 hs), VJ _⟩, rfl⟩, hH'⟩
theorem Ub (l : List Vd.Bytes) : (Lib.compact l).length ≤ l.length := by
 unfold Lib.compact Lib.compactUpTo
 rw [List.length_map]
 have := List.length_filter_le (Lib.keeps l.toArray) (List.range l.length)
 simpa using this
theorem Uc (l : List Vd.Bytes) : ∀ s ∈ Lib.compact l, s ∈ l := by
 intro s hs
 unfold Lib.compact Lib.compactUpTo at hs
 obtain ⟨i, hi, rfl⟩ := List.mem_map.1 hs
 have hi' := (List.mem_filter.1 hi).1
 rw [List.mem_range] at hi'
 simp [hi']
theorem Wi {K : ja} (a : Option Addr) (c : Nat) (l : List Vd.Bytes) (B : ja) (hB : ORow qO 9 1 K a c l B) (hn : l.length ≤ 1000000) : Spec Tryz.prog G 115 #[.slice a l.length c] (B ++ L) fun u M => ∃ B', u = .slice a (Lib.compact l).length c ∧ ORow qO 9 1 K a c (Lib.compact l) B' ∧ M = B' ++ L := by
 refine ⟨fun w hw => ?_⟩
 obtain ⟨xs, h1, h2, h3⟩ := hB.ex
 obtain ⟨rfl, hle⟩ := uG h2
 rcases h1.is with ⟨q1, q2, q3⟩ | ⟨b, cap, cur, q1, q2, q3, q4, q5, q6⟩
 · have hl0 : l = [] := List.eq_nil_of_length_eq_zero q2
   subst hl0
   obtain ⟨rfl, _, rfl⟩ := Value.slice.inj q1
   refine (Tryz.slices_Compact_string_empty none 0 w).mono fun e w' ⟨he, hww⟩ => ?_
   subst hww
   exact ⟨_, _, he, ⟨B, rfl, hB, rfl⟩, hw⟩
 · obtain ⟨rfl, _, rfl⟩ := Value.slice.inj q1
   have hb : w.heap[b]? = some (.cells cur 9 (0, 0)) := hw.get (b, _) (by rw [q2]; simp)
   have hH := holds_of_block (ss := l) hb (by rw [Nat.mul_one] at q6; exact q6)
   have hcl := Ub l
   refine (Tryz.slices_Compact_string b 0 c l w hH jf q3).mono fun e w' ⟨he, n, hww⟩ => ?_
   have hlen : (Lib.compact l ++ List.replicate (l.length - (Lib.compact l).length) []).length = l.length := by simp; omega
   have ho := ownsRow_sorted (w := w) (base := 0) (n := n) (os := #[]) (ss := l) (ts := Lib.compact l ++ List.replicate (l.length - (Lib.compact l).length) []) hlen (Nat.zero_le _) hb q3 q4 q5
   have hg := grownBy_sorted (w := w) (g := b) (n := n) (os := #[]) (Lib.compact l ++ List.replicate (l.length - (Lib.compact l).length) []).toArray
   rw [Go.Sort.grow_empty, ← hww] at ho hg
   obtain ⟨B', hB', hH'⟩ := h1.after hw ho hg (Or.inl rfl)
   refine ⟨_, _, he, ⟨B', rfl, ⟨_, hB'.pre hcl, ?_, fun v hv => VJ _ v (List.mem_of_mem_take hv)⟩, rfl⟩, hH'⟩
   rw [List.map_append, List.take_left' (by simp)]
   exact uH _ fun s hs => hle s (Uc l s hs)
end
section
open Go.RowKit
variable {G : World} {L : ja}
theorem zy : ∀ {l : List Int} {xs : List Value}, Laid (uZ .i64) 1 L xs l → xs = l.map (Value.int .i64) ∧ ∀ s ∈ l, kx .i64 s
 | [], xs, h => ⟨h, by simp⟩
 | s :: l, _, ⟨c, ys, h1, h2, h3, h4⟩ => by
   obtain ⟨k1, k2⟩ := zy h4
   obtain ⟨rfl, h3⟩ := h3
   refine ⟨by rw [h1, k1]; rfl, fun t ht => ?_⟩
   rcases List.mem_cons.1 ht with rfl | ht
   · exact h3
   · exact k2 t ht
theorem zz : ∀ (l : List Int), (∀ s ∈ l, kx .i64 s) → Laid (uZ .i64) 1 L (l.map (Value.int .i64)) l
 | [], _ => rfl
 | s :: l, h => ⟨[.int .i64 s], l.map (Value.int .i64), rfl, rfl, ⟨rfl, h s (List.mem_cons_self ..)⟩, zz l fun t ht => h t (List.mem_cons_of_mem _ ht)⟩
theorem aah (l : List Int) : ∀ v ∈ l.map (Value.int .i64), v.oneCell' = true := by
 intro v hv
 obtain ⟨s, _, rfl⟩ := List.mem_map.1 hv
 rfl
theorem aai {K : ja} (a : Option Addr) (c : Nat) (l : List Int) (B : ja) (hB : ORow (uZ .i64) 3 1 K a c l B) (hn : l.length ≤ 1000000) : Spec Tryz.prog G 192 #[.slice a l.length c] (B ++ L) fun u M => u = .tuple #[] ∧ ∃ B', ORow (uZ .i64) 3 1 K a c (l.mergeSort fun x y => decide (x ≤ y)) B' ∧ M = B' ++ L := by
 refine ⟨fun w hw => ?_⟩
 obtain ⟨xs, h1, h2, h3⟩ := hB.ex
 obtain ⟨rfl, hle⟩ := zy h2
 rcases h1.is with ⟨q1, q2, q3⟩ | ⟨b, cap, cur, q1, q2, q3, q4, q5, q6⟩
 · have hl0 : l = [] := List.eq_nil_of_length_eq_zero q2
   subst hl0
   obtain ⟨rfl, _, rfl⟩ := Value.slice.inj q1
   refine (Tryz.slices_Sort_int_none none 0 w).mono fun e w' ⟨he, hww⟩ => ?_
   subst hww
   exact ⟨_, _, he, ⟨rfl, B, by simpa using hB, rfl⟩, hw⟩
 · obtain ⟨rfl, _, rfl⟩ := Value.slice.inj q1
   have hb : w.heap[b]? = some (.cells cur 3 (0, 0)) := hw.get (b, _) (by rw [q2]; simp)
   have hH := holds_of_blockI (ss := l) hb (by rw [Nat.mul_one] at q6; exact q6)
   have hlen : (l.mergeSort fun x y => decide (x ≤ y)).length = l.length := List.length_mergeSort l
   refine (Tryz.slices_Sort_int b 0 c l w hH (Array.getElem?_eq_some_iff.1 hb).1 jf).mono fun e w' ⟨he, n, os, hww⟩ => ?_
   have ho := ownsRow_sortedI (w := w) (base := 0) (n := n) (os := os) (ss := l) (ts := l.mergeSort fun x y => decide (x ≤ y)) hlen (Nat.zero_le _) hb q3 q4 q5
   have hg := grownBy_sortedI (w := w) (g := b) (n := n) (os := os) (l.mergeSort fun x y => decide (x ≤ y)).toArray
   rw [← hww] at ho hg
   obtain ⟨B', hB', hH'⟩ := h1.after hw ho hg (Or.inl rfl)
   refine ⟨_, _, he, ⟨rfl, B', ⟨_, by rw [hlen]; exact hB', zz _ fun s hs => hle s ((List.mem_mergeSort).1 hs), aah _⟩, rfl⟩, hH'⟩
end
section
open Go.RowKit
section
variable {G : World} {P : Program} {n : Nat} {ρ : jp} {L : ja} {ty : TypeId} {Q : Exit → Act → World → Prop}
theorem yB {x : Operand} {b off len : Nat} {t e : TypeId} {C : Array Value} {te : TypeId} {fr : Nat × Nat} (cs : List Value) (hx : ev ρ x = some (.pointer (some ⟨b, off, none⟩)))
 (hu : P.underlying t = some (.array len e)) (ht : (P.info? t).map (·.size) = some cs.length) (hm : (b, Obj.cells C te fr) ∈ L) (hv : ∀ j v, cs[j]? = some v → C[off + j]? = some v) : OpQ P ρ L (.load t x) ty (.agg cs.toArray) :=
 ⟨fun r hr w hw o ho _ => by
   cases hi : P.info? t with
   | none => simp [hi] at ht
   | some i =>
     simp [hi] at ht
     have ha : (isAgg t).run P w = .ok true w := by
      unfold isAgg
      simp [run_underlying hu]
     have hc := run_loadCells_list (P := P) (w := w) ⟨b, off, none⟩ cs (fun j v hj => by rw [kH]; exact hw.cell hm (hv j v hj))
     simp [execOp, ho, hr _ _ hx, Instr.loadAt, Instr.sureAddr, loadVar, ha, sizeOf, typeInfo, hi, ht, hc]⟩
theorem Qi {x y : Operand} {C : Array Value} {t e : TypeId} {len sz : Nat} {k : IntKind} {i : Int} (hx : ev ρ x = some (.agg C)) (hy : ev ρ y = some (.int k i)) (hu : P.underlying t = some (.array len e)) (he : jL P e sz = true)
 (h0 : 0 ≤ i) (h1 : i < len) : OpQ P ρ L (.index t x y) ty (.agg (C.extract (i.toNat * sz) (i.toNat * sz + sz))) :=
 ⟨fun r hr w hw o ho _ => by
   unfold jL at he
   cases hue : P.underlying e with
   | none => simp [hue] at he
   | some d =>
     cases hi : P.info? e with
     | none => simp [hi] at he
     | some ti =>
       cases d with
       | struct fs =>
         simp [hue, hi] at he
         have ha : (isAgg e).run P w = .ok true w := by
          unfold isAgg
          simp [run_underlying hue]
         simp [execOp, ho, hr _ _ hx, hr _ _ hy, Instr.index, asIntOf, run_underlying hu, h0, h1, part, ha, sizeOf, typeInfo, hi, he]
       | _ => simp [hue] at he⟩
end
end
section
open Go.RowKit
open Vd (RSet Vdt Vote Rec Quest Piece Ballot)
section
variable {G : World} {P : Program} {n : Nat} {ρ : jp} {L : ja} {ty : TypeId} {Q : Exit → Act → World → Prop}
theorem Ud {fn : Func} {Φ : Value → ja → Prop} (a t u s r : Nat) {b k : Nat} {C : Array Value} {te : TypeId} {fr : Nat × Nat} {x y z : Value} {L' : ja} (hr : fn.results = #[.cell a t, .tmp u, .tmp s, .tmp r]) (hv : ρ.lookup a = some (.pointer (some ⟨b, 0, none⟩))) (hx : ρ.lookup u = some x) (hy : ρ.lookup s = some y) (hz : ρ.lookup r = some z)
 (ht : jL P t k = true) (hm : (b, Obj.cells C te fr) ∈ L) (hk : C.size = k) (hl : ∀ w, Heap G w L → Heap G w L') (h : Φ (.tuple #[.agg C, x, y, z]) L') : TQ G n ρ L .ret (bodyPost P fn (kM G Φ)) :=
 ⟨fun ac w he hw => ⟨he.defers, .tuple #[.agg C, x, y, z], by
   obtain ⟨h1, h0⟩ := yr he hv ht (hw.get _ hm) hk
   have h2 : ac.tmps.getD u undef = x := he.reads (.tmp u) x hx
   have h3 : ac.tmps.getD s undef = y := he.reads (.tmp s) y hy
   have h4 : ac.tmps.getD r undef = z := he.reads (.tmp r) z hz
   rw [Array.getD_eq_getD_getElem?] at h1 h2 h3 h4
   simp only [results, hr]
   simp
   simp [h1, asAddr, h0, h2, h3, h4], _, L', rfl, h, hl w hw⟩⟩
theorem Ue {s x : Operand} {t e te : TypeId} {bytes bl : Nat} {z : Value} {a : Option Addr} {c : Nat} {y : Int} {l : List Int} {B L0 : ja} (E : ElemTy P t e 1 bytes z) (hs : ev ρ s = some (.slice a l.length c)) (hx : ev ρ x = some (.slice (some ⟨bl, 0, none⟩) 1 1))
 (hrow : ORow (uZ .i64) e 1 L0 a c l B) (hy : kx .i64 y) (h63 : l.length ≤ 1000000) (hb : bytes ≤ 1000) :
 OpT P G ρ ((bl, .cells #[.int .i64 y] te (0, 0)) :: (B ++ L)) (.call ⟨.builtin .append, #[s, x], #[t, t]⟩) ty fun v' L' => ∃ a' c' B', v' = .slice a' (l ++ [y]).length c' ∧ ORow (uZ .i64) e 1 L0 a' c' (l ++ [y]) B' ∧ L' = B' ++ L :=
 uS (cs := [.int .i64 y]) E hs hx hrow rfl (by intro v hv; rw [List.mem_singleton.1 hv]; rfl) ⟨rfl, hy⟩ (by unfold maxLen; omega) (Nat.le_trans (Nat.mul_le_mul (show l.length + 1 ≤ 1000001 by omega) hb) (by decide))
end
theorem Yy (p q r s : Int) (w : World) : (binOp .neq 162 (.agg #[.int .u8 p, .int .i64 r]) (.agg #[.int .u8 q, .int .i64 s])).run Tryz.prog w = .ok (.bool (!decide ((p, r) = (q, s)))) w := by
 by_cases h2 : p = q <;> by_cases h3 : r = s <;> (go_simp; try simp [h2, h3])
theorem Yz (p q r s : Int) (w : World) : (binOp .eql 162 (.agg #[.int .u8 p, .int .i64 r]) (.agg #[.int .u8 q, .int .i64 s])).run Tryz.prog w = .ok (.bool (decide ((p, r) = (q, s)))) w := by
 by_cases h2 : p = q <;> by_cases h3 : r = s <;> (go_simp; try simp [h2, h3])
theorem yU {p q r s : Int} : Bin Tryz.prog .neq 162 (.agg #[.int .u8 p, .int .i64 r]) (.agg #[.int .u8 q, .int .i64 s]) (.bool (!decide ((p, r) = (q, s)))) := ⟨fun a b w => by
 have h := Yy p q r s w
 simp [eqGuard, h]⟩
theorem Kh {p q r s : Int} : Bin Tryz.prog .eql 162 (.agg #[.int .u8 p, .int .i64 r]) (.agg #[.int .u8 q, .int .i64 s]) (.bool (decide ((p, r) = (q, s)))) := ⟨fun a b w => by
 have h := Yz p q r s w
 simp [eqGuard, h]⟩
variable {G : World} {L : ja}
def YA (L : ja) (r : Vdt × Int × List Int × Bool) (u : Value) (M : ja) : Prop := ∃ a c B a2 c2 B2 a3 c3 B3 N, u = .tuple #[.agg #[.int .u8 r.1.code, .slice a r.1.sets.length c, .slice a2 r.1.soa.length c2], .int .u32 r.2.1, .slice a3 r.2.2.1.length c3, .bool r.2.2.2] ∧
 ORow rsR 122 5 N a c r.1.sets B ∧ ORow rsR 122 5 N a2 c2 r.1.soa B2 ∧ ORow (uZ .i64) 3 1 [] a3 c3 r.2.2.1 B3 ∧ Wr N ∧ M = B3 ++ (B2 ++ (B ++ (N ++ L)))
def Wj (want : Int) (vs : List Vote) : Vdt × Int × List Int × Bool := if want < 1 then (Vdt.none, 0, [], false) else qr want vs
theorem YB {x : Int} (h : 0 ≤ x ∧ x < 9) : kx .i64 x := by
 unfold kx Lit.wf
 simp [IntKind.min, IntKind.max, IntKind.bits, IntKind.signed]
 omega
theorem abo {K : ja} (bb : Nat) (want : Int) (l : List Ballot) (a : Option Addr) (c : Nat) (hm : (bb, Obj.cells (jW want (jj l) (.slice a (Vd.votesB l).length c)).toArray 165 (0, 0)) ∈ L) (hv : sliceR 5 (fun _ => voteR K) L [.slice a (Vd.votesB l).length c] (Vd.votesB l)) (hK : ∀ p ∈ K, p ∈ L) (hl : BoxOk l) (hn : l.length ≤ 9) (hs : ∀ x ∈ Vd.votesB l, SmV x.vd) :
 Spec Tryz.prog G 189 #[.pointer (some ⟨bb, 0, none⟩)] L (YA L (Wj want (Vd.votesB l))) := by
 have hvl := jY l
 have hup := hl.vup
 have hcap := (sliceR.cut hv).2
 unfold maxLen at hcap
 obtain ⟨hcap1, hcap2, _⟩ := hcap
 refine jm (n := 73) Tryz.func189 rfl rfl rfl ?_
 refine jU (jI (jP (kt (C := #[.int .u8 0, .slice none 0 0, .slice none 0 0]) zeO rfl) rfl ?_))
 intro b2
 refine goA ?_
 refine jX (jb jg rfl (J9 bb want l a c (List.mem_cons_of_mem _ hm) (jn qh _ _ _ _ jt hv) hl hn)) rfl ?_
 obtain ⟨vs, hvs⟩ : ∃ vs, Vd.votesB l = vs := ⟨_, rfl⟩
 rw [hvs] at hm hv hs hvl hup hcap1 ⊢
 by_cases hno : want < 1 ∨ j6 want vs vs.length = none
 · have hW : u4 want vs = ((0, 0), false) := by
    unfold u4
    by_cases hw : want < 1
    · rw [if_pos hw]
    · rw [if_neg hw, hno.resolve_left hw]
   have hR : Wj want vs = (Vdt.none, 0, [], false) := by
    unfold Wj
    by_cases hw : want < 1
    · rw [if_pos hw]
    · rw [if_neg hw]
      unfold qr
      rw [hno.resolve_left hw]
   rw [hW, hR]
   repeat (first | refine goA ?_ | (refine j5 ?_; intro bNew) | refine ju (jo rfl (KY )) rfl ?_)
   refine jy (L' := (b2, Obj.cells #[.int .u8 0, .slice none 0 0, .slice none 0 0] 40 (0, 0)) :: L) ?_ jl
   refine goA ?_
   clear hm
   refine Ud 2 40 3 4 5 rfl rfl rfl rfl rfl stO (by repeat (exact List.mem_cons_self)) rfl (fun w h => Heap.cnt (L' := L) h jl) ?_
   exact ⟨none, 0, [], none, 0, [], none, 0, [], [], rfl, ORow.nil _, ORow.nil _, ORow.nil _, Wr.nil, rfl⟩
 · have hw : ¬ want < 1 := fun h => hno (Or.inl h)
   have hw1 : 1 ≤ want := by omega
   have hyes : j6 want vs vs.length ≠ none := fun h => hno (Or.inr h)
   obtain ⟨j, x, hk⟩ : ∃ j x, WonBy want vs j x := by
    rcases Yv hw1 vs with ⟨h, _⟩ | h
    · exact absurd h hyes
    · exact h
   have hxm := List.mem_of_getElem? hk.at_
   have hjl := (List.getElem?_eq_some_iff.1 hk.at_).1
   have hfs := qa hxm
   obtain ⟨hfl, z, hz, hzx⟩ := hfs
   have hW : u4 want vs = ((2, (jr vs x.vd : Int)), true) := by
    unfold u4
    rw [if_neg hw, hk.yes]
    dsimp only
    rw [hk.at_]
   have hR : Wj want vs = qr want vs := if_neg hw
   rw [hW, hR, hk.is]
   have hfi : ∀ y ∈ vs, jr vs y.vd = jr vs x.vd ↔ y.vd = x.vd := fun y hy => qM hy hxm
   obtain ⟨fx, hfx⟩ : ∃ f, jr vs x.vd = f := ⟨_, rfl⟩
   rw [hfx] at hfl hz hfi ⊢
   obtain ⟨_, kv1, kv2, hvc⟩ := sliceR.cut hv
   rcases hvc with h1 | ⟨bc, oc, cur, tc, fc, rfl, mc, hcur⟩
   · rw [h1] at hjl; simp at hjl
   have g0 : (jW want (jj l) (.slice (some ⟨bc, oc, none⟩) vs.length c)).toArray[0 + 0]? = some (.int .i64 want) := rfl
   have g19 : (jW want (jj l) (.slice (some ⟨bc, oc, none⟩) vs.length c)).toArray[0 + 19]? = some (.slice (some ⟨bc, oc, none⟩) vs.length c) := rfl
   repeat (first | refine goA ?_ | (refine j5 ?_; intro bNew))
   obtain ⟨b6, hb6⟩ : ∃ b, bNew = b := ⟨_, rfl⟩
   rw [hb6]
   clear hb6 bNew
   have hlenW : ∀ i, ((jM (vs.take i) x.vd).map (·.up)).length = (jM (vs.take i) x.vd).length := fun i => List.length_map _
   have hW9 : ∀ i, (jM (vs.take i) x.vd).length ≤ 9 := fun i => by
    have := ((hup.take i).filter fun y => decide (y.vd = x.vd)).len
    exact this
   refine jB (σ := Nat × Option Addr × Nat × ja) (fun y => y.1 ≤ j ∧ ORow (uZ .i64) 3 1 [] y.2.1 y.2.2.1 ((jM (vs.take y.1) x.vd).map (·.up)) y.2.2.2) (fun y => [(0, .pointer (some ⟨bb, 0, none⟩)), (2, .pointer (some ⟨b2, 0, none⟩)), (3, .int .u32 (qN (jM (vs.take y.1) x.vd))), (4, .slice y.2.1 ((jM (vs.take y.1) x.vd).map (·.up)).length y.2.2.1), (5, .bool true), (6, .pointer (some ⟨b6, 0, none⟩)), (20, .slice (some ⟨bc, oc, none⟩) vs.length c), (21, .int .i64 (vs.length : Nat)), (22, .int .i64 (y.1 : Nat))]) (fun y => y.2.2.2 ++ ((b6, Obj.cells #[.int .u8 2, .int .i64 (fx : Nat)] 162 (0, 0)) :: ((b2, Obj.cells #[.int .u8 0, .slice none 0 0, .slice none 0 0] 40 (0, 0)) :: L))) (fun y => vs.length - y.1) (0, none, 0, []) ⟨Nat.zero_le _, ORow.nil _⟩ ?_ (fun w h => h) ?_
   exact jv
   rintro ⟨i, a4, c4, B4⟩ ⟨hi, hB4⟩
   dsimp only at hi hB4 ⊢
   have hil : i < vs.length := by omega
   obtain ⟨y, hy⟩ : ∃ y, vs[i]? = some y := ⟨_, List.getElem?_eq_getElem hil⟩
   have hym := List.mem_of_getElem? hy
   obtain ⟨csy, _, hyv, hcy⟩ := hcur i y hy
   obtain ⟨y1, yc1, y2, yc2, rfl, hy1, hy2, hy3, hy4, hy5⟩ := hyv.vals
   obtain ⟨hu0, hu9⟩ := hup.up y hym
   have hsl : jj l y.up = (2, (jr vs y.vd : Int)) := by rw [← hvs]; exact kW hl (by rw [hvs]; exact hym)
   have hWs := uh (vs := vs) hy x.vd
   have hWi := hlenW i
   have hWi9 := hW9 i
   have mc' : (bc, Obj.cells cur tc fc) ∈ B4 ++ ((b6, Obj.cells #[.int .u8 2, .int .i64 (fx : Nat)] 162 (0, 0)) :: ((b2, Obj.cells #[.int .u8 0, .slice none 0 0, .slice none 0 0] 40 (0, 0)) :: L)) := List.mem_append_right _ (List.mem_cons_of_mem _ (List.mem_cons_of_mem _ mc))
   refine goA ?_
   refine ju (jD [.int .i64 y.up, .int .u8 y.vd.code, .slice y1 y.vd.sets.length yc1, .slice y2 y.vd.soa.length yc2, .int .u32 y.time] rfl stL mc' hcy) rfl ?_
   repeat (first | refine goA ?_ | (refine j5 ?_; intro bNew))
   obtain ⟨b8, hb8⟩ : ∃ b, bNew = b := ⟨_, rfl⟩
   rw [hb8]
   clear hb8 bNew
   have hslip : ∀ k v, ([.int .u8 2, .int .i64 (jr vs y.vd : Nat)] : List Value)[k]? = some v → (jW want (jj l) (.slice (some ⟨bc, oc, none⟩) vs.length c)).toArray[0 + 1 + y.up.toNat * 2 + k]? = some v := fun k v hj => by
    rw [Nat.zero_add]
    match k, hj with
    | 0, hj => obtain rfl := Option.some.inj hj; rw [yT ⟨hu0, hu9⟩, hsl]
    | 1, hj => obtain rfl := Option.some.inj hj; rw [Jl ⟨hu0, hu9⟩, hsl]
   have hKm : ∀ q ∈ [(b8, Obj.cells #[.int .i64 y.up, .int .u8 y.vd.code, .slice y1 y.vd.sets.length yc1, .slice y2 y.vd.soa.length yc2, .int .u32 y.time] 65 (0, 0)), (bb, Obj.cells (jW want (jj l) (.slice (some ⟨bc, oc, none⟩) vs.length c)).toArray 165 (0, 0)), (b6, Obj.cells #[.int .u8 2, .int .i64 (fx : Nat)] 162 (0, 0))], q ∈ (b8, Obj.cells #[.int .i64 y.up, .int .u8 y.vd.code, .slice y1 y.vd.sets.length yc1, .slice y2 y.vd.soa.length yc2, .int .u32 y.time] 65 (0, 0)) :: (B4 ++ ((b6, Obj.cells #[.int .u8 2, .int .i64 (fx : Nat)] 162 (0, 0)) :: ((b2, Obj.cells #[.int .u8 0, .slice none 0 0, .slice none 0 0] 40 (0, 0)) :: L))) := by
    intro q hq
    simp only [List.mem_cons, List.not_mem_nil, or_false] at hq
    rcases hq with rfl | rfl | rfl
    · simp
    · simp [hm]
    · simp
   refine jw jc ([(b8, Obj.cells #[.int .i64 y.up, .int .u8 y.vd.code, .slice y1 y.vd.sets.length yc1, .slice y2 y.vd.soa.length yc2, .int .u32 y.time] 65 (0, 0)), (bb, Obj.cells (jW want (jj l) (.slice (some ⟨bc, oc, none⟩) vs.length c)).toArray 165 (0, 0)), (b6, Obj.cells #[.int .u8 2, .int .i64 (fx : Nat)] 162 (0, 0))]) [] ?_
   refine tkQ 0 ?_
   refine tkQ 1 ?_
   refine tkQ 2 ?_
   refine tkQ 3 ?_
   refine tkQ 4 ?_
   refine tkQ 5 ?_
   (refine' jz 6 rfl rfl jg (jJ (jD [.int .u8 2, .int .i64 (jr vs y.vd : Nat)] rfl stL (List.mem_cons_of_mem _ (List.mem_cons_self ..)) hslip)) ?_ ?_; (· assumption))
   refine tkQ 7 ?_
   (refine' jz 8 rfl rfl jg (jJ (qp rfl rfl yU)) ?_ ?_; (· assumption))
   refine tdQ ?_
   clear hKm hslip
   by_cases hyx : y.vd = x.vd
   · have hne : (!decide (((2 : Int), ((jr vs y.vd : Nat) : Int)) = (2, ((fx : Nat) : Int)))) = false := by rw [(hfi y hym).2 hyx]; simp
     rw [if_pos hyx] at hWs
     obtain ⟨ws, hws⟩ : ∃ ws, jM (vs.take i) x.vd = ws := ⟨_, rfl⟩
     rw [hws] at hWs hWi hWi9 hB4 ⊢
     have htp := UY ws y
     have htb : 0 ≤ qN ws ∧ qN ws ≤ 4294967295 := Yu fun v hv => by
      rw [← hws] at hv
      have hvm := List.mem_of_mem_take (withV_mem.1 hv).1
      obtain ⟨k, hk1⟩ := List.getElem?_of_mem hvm
      obtain ⟨_, _, hvv, _⟩ := hcur k v hk1
      obtain ⟨_, _, _, _, _, _, _, _, ht, _⟩ := hvv.vals
      exact ht
     obtain ⟨ht0, ht1⟩ := htb
     refine goF ?_
     refine QN (σ := Unit) (fun _ => True) (fun _ => [(0, .pointer (some ⟨bb, 0, none⟩)), (2, .pointer (some ⟨b2, 0, none⟩)), (3, .int .u32 (qN (ws ++ [y]))), (4, .slice a4 (ws.map (·.up)).length c4), (5, .bool true), (6, .pointer (some ⟨b6, 0, none⟩)), (8, .pointer (some ⟨b8, 0, none⟩)), (20, .slice (some ⟨bc, oc, none⟩) vs.length c), (21, .int .i64 (vs.length : Nat)), (22, .int .i64 (i : Nat))]) (fun _ => (b8, Obj.cells #[.int .i64 y.up, .int .u8 y.vd.code, .slice y1 y.vd.sets.length yc1, .slice y2 y.vd.soa.length yc2, .int .u32 y.time] 65 (0, 0)) :: (B4 ++ ((b6, Obj.cells #[.int .u8 2, .int .i64 (fx : Nat)] 162 (0, 0)) :: ((b2, Obj.cells #[.int .u8 0, .slice none 0 0, .slice none 0 0] 40 (0, 0)) :: L)))) ?_ ?_
     · by_cases h0 : ws.length = 0
       · rw [if_pos (Or.inl h0)] at htp
         rw [htp]
         have h0' : (((ws.map (·.up)).length : Nat) : Int) = 0 := by omega
         refine goA ?_
         refine kw () trivial ?_ (fun w h => h)
         exact jv
       · have h0' : ¬ (((ws.map (·.up)).length : Nat) : Int) = 0 := by omega
         by_cases hlt : y.time < qN ws
         · rw [if_pos (Or.inr hlt)] at htp
           rw [htp]
           refine goA ?_
           refine kw () trivial ?_ (fun w h => h)
           exact jv
         · rw [if_neg (fun h => h.elim h0 hlt)] at htp
           rw [htp]
           refine goA ?_
           refine kw () trivial ?_ (fun w h => h)
           exact jv
     · rintro _ _
       have hnx : ((ws ++ [y]).map (·.up)) = ws.map (·.up) ++ [y.up] := by simp
       have g8 : (#[.int .i64 y.up, .int .u8 y.vd.code, .slice y1 y.vd.sets.length yc1, .slice y2 y.vd.soa.length yc2, .int .u32 y.time] : Array Value)[0 + 0]? = some (.int .i64 y.up) := rfl
       repeat (first | refine goA ?_ | (refine uf ?_; intro bLit))
       refine jy (L' := (bLit, Obj.cells #[.int .i64 y.up] 3 (0, 0)) :: (B4 ++ ((b6, Obj.cells #[.int .u8 2, .int .i64 (fx : Nat)] 162 (0, 0)) :: ((b2, Obj.cells #[.int .u8 0, .slice none 0 0, .slice none 0 0] 40 (0, 0)) :: L)))) ?_ jl
       refine jx (Ue etO rfl rfl hB4 (YB ⟨hu0, hu9⟩) jf (by decide)) rfl ?_
       rintro _ _ ⟨a5, c5, B5, rfl, hB5, rfl⟩
       rw [← hnx, ← hWs] at hB5 ⊢
       have hl5 := hlenW (i + 1)
       have hc5 := hB5.cap
       unfold maxLen at hc5
       have hnx2 := hW9 (i + 1)
       by_cases hij : i = j
       · subst hij
         have hw5 : ((((jM (vs.take (i + 1)) x.vd).map (·.up)).length : Nat) : Int) = want := by rw [hl5]; exact hk.len
         refine goA ?_
         refine jx (jb jg rfl (aai a5 c5 _ B5 hB5 jf)) rfl ?_
         rintro _ _ ⟨rfl, B6, hB6, rfl⟩
         have hVW : Vup (jM (vs.take (i + 1)) x.vd) := (hup.take _).filter _
         rw [Q8 hVW.nd hVW.ups] at hB6
         have hrl := u9 hVW.nd hVW.ups
         rw [← hrl]
         obtain ⟨csz, _, hzv, hcz⟩ := hcur fx z hz
         obtain ⟨z1, zc1, z2, zc2, rfl, hz1, hz2, hz3, hz4, hz5⟩ := hzv.vals
         have hczv : ∀ k v, ([.int .u8 z.vd.code, .slice z1 z.vd.sets.length zc1, .slice z2 z.vd.soa.length zc2] : List Value)[k]? = some v → cur[oc + fx * 5 + 1 + k]? = some v := fun k v hj => by
          rw [Nat.add_assoc]
          match k, hj with
          | 0, hj => exact hcz 1 v hj
          | 1, hj => exact hcz 2 v hj
          | 2, hj => exact hcz 3 v hj
         have hzvd : vdR K [.int .u8 z.vd.code, .slice z1 z.vd.sets.length zc1, .slice z2 z.vd.soa.length zc2] z.vd := ⟨_, _, rfl, hz1, hz2, hz3⟩
         have hzs := hs z (List.mem_of_getElem? hz)
         refine goA ?_
         refine VE (L' := (b2, Obj.cells #[.int .u8 0, .slice none 0 0, .slice none 0 0] 40 (0, 0)) :: ((b6, Obj.cells #[.int .u8 2, .int .i64 (fx : Nat)] 162 (0, 0)) :: (B6 ++ L))) ?_ jl
         have hKm : ∀ q ∈ [(b6, Obj.cells #[.int .u8 2, .int .i64 (fx : Nat)] 162 (0, 0)), (bb, Obj.cells (jW want (jj l) (.slice (some ⟨bc, oc, none⟩) vs.length c)).toArray 165 (0, 0)), (bc, Obj.cells cur tc fc)], q ∈ (b2, Obj.cells #[.int .u8 0, .slice none 0 0, .slice none 0 0] 40 (0, 0)) :: ((b6, Obj.cells #[.int .u8 2, .int .i64 (fx : Nat)] 162 (0, 0)) :: (B6 ++ L)) := by
          intro q hq
          simp only [List.mem_cons, List.not_mem_nil, or_false] at hq
          rcases hq with rfl | rfl | rfl
          · simp
          · simp [hm]
          · simp [mc]
         have hKm2 : ∀ q ∈ [(b6, Obj.cells #[.int .u8 2, .int .i64 (fx : Nat)] 162 (0, 0)), (bb, Obj.cells (jW want (jj l) (.slice (some ⟨bc, oc, none⟩) vs.length c)).toArray 165 (0, 0)), (bc, Obj.cells cur tc fc)], q ∈ (b6, Obj.cells #[.int .u8 2, .int .i64 (fx : Nat)] 162 (0, 0)) :: (B6 ++ L) := by
          intro q hq
          simp only [List.mem_cons, List.not_mem_nil, or_false] at hq
          rcases hq with rfl | rfl | rfl
          · simp
          · simp [hm]
          · simp [mc]
         refine jw jc ([(b6, Obj.cells #[.int .u8 2, .int .i64 (fx : Nat)] 162 (0, 0)), (bb, Obj.cells (jW want (jj l) (.slice (some ⟨bc, oc, none⟩) vs.length c)).toArray 165 (0, 0)), (bc, Obj.cells cur tc fc)]) [] ?_
         refine tkQ 0 ?_
         refine tkQ 1 ?_
         refine tkQ 2 ?_
         refine tkQ 3 ?_
         refine tkQ 4 ?_
         refine tkQ 5 ?_
         refine tkQ 6 ?_
         refine tkQ 7 ?_
         (refine' jz 8 rfl rfl jg (jJ (jD [.int .u8 z.vd.code, .slice z1 z.vd.sets.length zc1, .slice z2 z.vd.soa.length zc2] rfl stL (List.mem_cons_of_mem _ (List.mem_cons_of_mem _ (List.mem_cons_self ..))) hczv)) ?_ ?_; (· assumption))
         refine tkQ 10 ?_
         refine tkQ 11 ?_
         refine jO 9 jg rfl rfl rfl rfl (jb jg rfl (uF _ z.vd (ko _ _ _ _ (fun p hp => (jt) p (hK p hp)) hzvd) hzs)) ?_; rintro _ _ ⟨aR, cR, BR, aS, cS, BS, NR, rfl, hR2, hS2, hNR, rfl⟩; refine ⟨Or.inr (fun q hq => (jt) q (hKm q hq)), ?_⟩
         refine kP (L' := (b2, Obj.cells #[.int .u8 0, .slice none 0 0, .slice none 0 0] 40 (0, 0)) :: (BS ++ (BR ++ (NR ++ ((b6, Obj.cells #[.int .u8 2, .int .i64 (fx : Nat)] 162 (0, 0)) :: (B6 ++ L)))))) ?_ jl; refine kf 12 jg rfl rfl rfl (qT rfl rfl stO rfl rfl rfl) ?_; rintro _ _ ⟨_, rfl⟩; refine ⟨Or.inr (fun q hq => (jt) q (hKm2 q hq)), ?_⟩
         refine tkQ 13 ?_
         refine tkQ 14 ?_
         refine tkQ 15 ?_
         refine tdQ ?_
         refine goA ?_
         rw [hzx] at hR2 hS2 ⊢
         refine Ud 2 40 3 4 5 rfl rfl rfl rfl rfl stO (by repeat (exact List.mem_cons_self)) rfl (fun w h => Heap.cnt (L' := B6 ++ (BS ++ (BR ++ (NR ++ L)))) h jl) ?_
         exact ⟨_, _, _, _, _, _, _, _, _, _, rfl, hR2, hS2, hB6, hNR, rfl⟩
       · have hlt : i + 1 ≤ j := by omega
         have hno1 : j6 want vs (i + 1) = none := by
          cases h : j6 want vs (i + 1) with
          | none => rfl
          | some k =>
            have h5 := Jh (i + 1) j hlt h
            rw [hk.no] at h5
            cases h5
         have hw5 : ¬ ((((jM (vs.take (i + 1)) x.vd).map (·.up)).length : Nat) : Int) = want := by
          rw [hl5]
          have := Ji hw1 (i + 1) jf hno1 x.vd
          omega
         refine goA ?_
         refine jk (i + 1, a5, c5, B5) ⟨hlt, hB5⟩ ?_ (fun w h => h.cnt jl) (by dsimp only; omega)
         exact jv
   · have hne : (!decide (((2 : Int), ((jr vs y.vd : Nat) : Int)) = (2, ((fx : Nat) : Int)))) = true := by
      have : ¬ jr vs y.vd = fx := fun h => hyx ((hfi y hym).1 h)
      simp
      omega
     rw [if_neg hyx] at hWs
     have hij : i ≠ j := by
      intro e
      rw [e, hk.at_] at hy
      exact hyx (by rw [Option.some.inj hy])
     have hlt : i + 1 ≤ j := by omega
     refine goA ?_
     refine jk (i + 1, a4, c4, B4) ⟨hlt, by dsimp only; rw [hWs]; exact hB4⟩ ?_ (fun w h => h.cnt jl) (by dsimp only; omega)
     rw [hWs]
     exact jv
end
end Go.Proofs.YtbjkkoacclfejaaGreat
