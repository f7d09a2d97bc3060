/-
 Part 4: Gg Gh Ve Gi Gj Gk Gl Gm Gn.
-/
import Derived.Test.YtbjkkoacclfejaaGreatZs3
import Derived.Test.YtbjkkoacclfejaaGreatZs1
import Derived.Test.YtbjkkoacclfejaaGreatZs2
set_option maxRecDepth 100000
set_option maxHeartbeats 4000000
set_option linter.unusedVariables false
set_option linter.unusedSimpArgs false
namespace Go.Proofs.YtbjkkoacclfejaaGreat
section
open Go.RowKit
open Vd (RSet Vdt Vote Rec Quest Piece)
variable {G : World} {L : ja}
theorem QU (n : Vd.Bytes) : Vd.nLabels n ≤ 254 := (zV n).1
theorem yI (n : Vd.Bytes) (h : n.length ≤ 1000000) : Spec Tryz.prog G 111 #[.string (bs n)] L fun u M => u = .int .i64 (Vd.nLabels n : Nat) ∧ M = L := by
 refine jm (n := 12) Tryz.func111 rfl rfl rfl ?_
 refine goA ?_
 refine jw (jc je rfl (zh n h)) rfl ?_
 rintro _ _ ⟨v, B, rfl, hR, rfl⟩
 obtain ⟨a, c, rfl⟩ := hR.slice
 refine goA ?_
 refine ju (fun w h => h.sub (List.sublist_append_right _ _)) ?_
 refine ji 2 _ rfl rfl ?_
 exact ⟨rfl, rfl⟩
theorem VM {K : ja} (cs : List Value) (s : RSet) (n : Vd.Bytes) (c : Int) (hs : rsR K cs s) (h1 : s.name.length ≤ 1000000) (h2 : n.length ≤ 1000000) : Spec Tryz.prog G 110 #[.agg cs.toArray, .string (bs n), .int .u16 c] L fun u M => u = .bool (Vd.fits s n c) ∧ M = L := by
 obtain ⟨a, k, rfl, _⟩ := hs.val
 refine jm (n := 22) Tryz.func110 rfl rfl rfl ?_
 repeat' (first | refine goA ?_ | (refine' kf (jc je rfl (WR _ _ ?_ ?_)) rfl ?_; (· omega); (· omega)) | (refine kl ?_; intro bBox) | refine aby rfl rfl (fun hc => ?_) (fun hc => ?_))
 all_goals (refine ju (fun w h => h.tail) ?_)
 all_goals
  refine ji 6 _ rfl rfl ?_
 all_goals (refine ⟨?_, rfl⟩; simp [Vd.fits, *])
theorem UV (l : List RSet) (n : Vd.Bytes) (c : Int) : ∀ j, j ≤ l.length → -1 ≤ Vd.bestAt l n c j ∧ Vd.bestAt l n c j < j
 | 0, _ => by simp [Vd.bestAt]
 | j + 1, h => by
   have ih := UV l n c j jd
   rw [Vd.bestAt, List.getElem?_eq_getElem jd]
   dsimp only
   split <;> omega
theorem J1 {K N : ja} (v : Value) (l : List RSet) (n : Vd.Bytes) (c : Int) (hK : ∀ p ∈ K, p ∈ L) (hl : sliceR 5 (fun _ => rsR N) K [v] l) (hn : n.length ≤ 1000000) (hs : ∀ s ∈ l, s.name.length ≤ 1000000) :
 Spec Tryz.prog G 79 #[v, .string (bs n), .int .u16 c] L fun u M => ∃ cs, u = .tuple #[.agg cs.toArray, .bool (Vd.findSoa l n c).2.1, .int .i64 (Vd.findSoa l n c).2.2] ∧ rsR N cs (Vd.findSoa l n c).1 ∧ M = L := by
 obtain ⟨a, ca, e1, hl⟩ := hl.val
 simp only [List.cons.injEq, and_true] at e1
 subst e1
 obtain ⟨_, k1, k2, hl⟩ := sliceR.cut hl
 unfold maxLen at k2
 refine jm (n := 59) Tryz.func79 rfl rfl rfl ?_
 repeat (first | refine goA ?_ | (refine jO ?_; intro bNew))
 refine jy (σ := Nat) (fun i => i ≤ l.length) (fun i => [(0, .slice a l.length ca), (1, .string (bs n)), (2, .int .u16 c), (6, .pointer (some ⟨bNew, 0, none⟩)), (9, .int .i64 (Vd.bestAt l n c i)), (10, .int .i64 (i : Nat))]) (fun i => (bNew, Obj.cells #[.string (bs []), .int .u16 0, .int .u16 0, .int .u32 0, .slice none 0 0] 122 (0, 0)) :: L) (fun i => l.length - i) 0 (Nat.zero_le _) ?_ (fun w h => h) ?_
 exact jr
 intro i hi
 have hbd := UV l n c i hi
 by_cases hlt : i < l.length
 · rcases hl with rfl | ⟨b1, o1, C1, t1, f1, rfl, m1, q1⟩
   · simp at hlt
   have m1 := hK _ m1
   obtain ⟨x, hx⟩ : ∃ x, l[i]? = some x := ⟨_, List.getElem?_eq_getElem hlt⟩
   obtain ⟨cx, _, hx2, hcx⟩ := q1 i x hx
   have hxn := hs x (List.mem_of_getElem? hx)
   obtain ⟨xa, xc, rfl, _⟩ := hx2.val
   have g0 : C1[o1 + i * 5 + 0]? = some (.string (bs x.name)) := hcx 0 _ rfl
   have hL1 := QU x.name
   have hst : Vd.bestAt l n c (i + 1) = if Vd.fits x n c && (decide (Vd.bestAt l n c i < 0) || (match l[(Vd.bestAt l n c i).toNat]? with | some t => decide (Vd.nLabels t.name < Vd.nLabels x.name) | none => false)) then (i : Int) else Vd.bestAt l n c i := by
    rw [Vd.bestAt, hx]; rfl
   have hKm : ∀ z ∈ [(b1, Obj.cells C1 t1 f1)], z ∈ (bNew, Obj.cells #[.string (bs []), .int .u16 0, .int .u16 0, .int .u32 0, .slice none 0 0] 122 (0, 0)) :: L := fun z hz => by rw [List.mem_singleton.1 hz]; exact List.mem_cons_of_mem _ m1
   cases hf : Vd.fits x n c with
   | false =>
     rw [hf, Bool.false_and, if_neg (by simp)] at hst
     refine goA ?_
     refine jq jb ([(b1, Obj.cells C1 t1 f1)]) [] ?_
     refine tkQ 0 ?_
     refine tkQ 1 ?_
     refine tkQ 2 ?_
     (refine' jp 3 rfl rfl je (jL (jA [.string (bs x.name), .int .u16 x.kind, .int .u16 x.cls, .int .u32 x.ttl, .slice xa x.data.length xc] rfl stL (List.mem_cons_self ..) hcx)) ?_ ?_; (· assumption))
     refine tkQ 4 ?_
     refine tkQ 5 ?_
     refine' jp 6 rfl rfl je (jV je rfl (fun _ _ => (VM _ _ _ _ hx2) ?_ ?_)) ?_ ?_; (· omega); (· omega); (· assumption)
     refine tkQ 7 ?_
     refine tkQ 8 ?_
     refine tkQ 9 ?_
     refine tkQ 10 ?_
     refine tkQ 11 ?_
     refine tkQ 12 ?_
     refine tkQ 13 ?_
     refine tkQ 14 ?_
     refine tkQ 15 ?_
     refine tkQ 16 ?_
     refine tkQ 17 ?_
     refine tkQ 18 ?_
     refine tkQ 19 ?_
     refine tkQ 20 ?_
     refine tkQ 21 ?_
     refine tkQ 22 ?_
     refine tkQ 23 ?_
     refine tkQ 24 ?_
     refine tkQ 25 ?_
     refine tdQ ?_
     refine goA ?_
     refine jh (i + 1) hlt ?_ (fun w h => h) jd
     rw [hst]
     exact jr
   | true =>
     rw [hf, Bool.true_and] at hst
     by_cases hb : Vd.bestAt l n c i < 0
     · rw [if_pos (by simp [hb])] at hst
       refine goA ?_
       refine jq jb ([(b1, Obj.cells C1 t1 f1)]) [] ?_
       refine tkQ 0 ?_
       refine tkQ 1 ?_
       refine tkQ 2 ?_
       (refine' jp 3 rfl rfl je (jL (jA [.string (bs x.name), .int .u16 x.kind, .int .u16 x.cls, .int .u32 x.ttl, .slice xa x.data.length xc] rfl stL (List.mem_cons_self ..) hcx)) ?_ ?_; (· assumption))
       refine tkQ 4 ?_
       refine tkQ 5 ?_
       refine' jp 6 rfl rfl je (jV je rfl (fun _ _ => (VM _ _ _ _ hx2) ?_ ?_)) ?_ ?_; (· omega); (· omega); (· assumption)
       refine tkQ 7 ?_
       refine tkQ 8 ?_
       refine tkQ 9 ?_
       refine tkQ 10 ?_
       refine tkQ 11 ?_
       refine tkQ 12 ?_
       refine tkQ 13 ?_
       refine tkQ 14 ?_
       refine tkQ 15 ?_
       refine tkQ 16 ?_
       refine tkQ 17 ?_
       refine tkQ 18 ?_
       refine tkQ 19 ?_
       refine tkQ 20 ?_
       refine tkQ 21 ?_
       refine tkQ 22 ?_
       refine tkQ 23 ?_
       refine tkQ 24 ?_
       refine tkQ 25 ?_
       refine tdQ ?_
       refine goA ?_
       refine jh (i + 1) hlt ?_ (fun w h => h) jd
       rw [hst]
       exact jr
     · obtain ⟨y, hy⟩ : ∃ y, l[(Vd.bestAt l n c i).toNat]? = some y := ⟨_, List.getElem?_eq_getElem jd⟩
       obtain ⟨cy, _, hy2, hcy⟩ := q1 _ y hy
       obtain ⟨ya, yc, rfl, _⟩ := hy2.val
       have g1 : C1[o1 + (Vd.bestAt l n c i).toNat * 5 + 0]? = some (.string (bs y.name)) := hcy 0 _ rfl
       have hyn := hs y (List.mem_of_getElem? hy)
       have hL2 := QU y.name
       rw [hy] at hst
       dsimp only at hst
       by_cases hc : Vd.nLabels y.name < Vd.nLabels x.name
       · rw [if_pos (by simp [hc])] at hst
         refine goA ?_
         refine jq jb ([(b1, Obj.cells C1 t1 f1)]) [] ?_
         refine tkQ 0 ?_
         refine tkQ 1 ?_
         refine tkQ 2 ?_
         (refine' jp 3 rfl rfl je (jL (jA [.string (bs x.name), .int .u16 x.kind, .int .u16 x.cls, .int .u32 x.ttl, .slice xa x.data.length xc] rfl stL (List.mem_cons_self ..) hcx)) ?_ ?_; (· assumption))
         refine tkQ 4 ?_
         refine tkQ 5 ?_
         refine' jp 6 rfl rfl je (jV je rfl (fun _ _ => (VM _ _ _ _ hx2) ?_ ?_)) ?_ ?_; (· omega); (· omega); (· assumption)
         refine tkQ 7 ?_
         refine tkQ 8 ?_
         refine tkQ 9 ?_
         refine tkQ 10 ?_
         refine tkQ 11 ?_
         refine tkQ 12 ?_
         refine tkQ 13 ?_
         refine tkQ 14 ?_
         refine tkQ 15 ?_
         (refine' jp 16 rfl rfl je (kt rfl rfl (by exact dF (by assumption)) je rfl (fun _ _ => yI _ ?_)) ?_ ?_; (· omega); (· assumption))
         refine tkQ 17 ?_
         refine tkQ 18 ?_
         refine tkQ 19 ?_
         refine tkQ 20 ?_
         refine tkQ 21 ?_
         (refine' jp 22 rfl rfl je (kt rfl rfl (by exact dF (by assumption)) je rfl (fun _ _ => yI _ ?_)) ?_ ?_; (· omega); (· assumption))
         refine tkQ 23 ?_
         refine tkQ 24 ?_
         refine tkQ 25 ?_
         refine tdQ ?_
         refine goA ?_
         refine jh (i + 1) hlt ?_ (fun w h => h) jd
         rw [hst]
         exact jr
       · rw [if_neg (by simp [hc, hb])] at hst
         refine goA ?_
         refine jq jb ([(b1, Obj.cells C1 t1 f1)]) [] ?_
         refine tkQ 0 ?_
         refine tkQ 1 ?_
         refine tkQ 2 ?_
         (refine' jp 3 rfl rfl je (jL (jA [.string (bs x.name), .int .u16 x.kind, .int .u16 x.cls, .int .u32 x.ttl, .slice xa x.data.length xc] rfl stL (List.mem_cons_self ..) hcx)) ?_ ?_; (· assumption))
         refine tkQ 4 ?_
         refine tkQ 5 ?_
         refine' jp 6 rfl rfl je (jV je rfl (fun _ _ => (VM _ _ _ _ hx2) ?_ ?_)) ?_ ?_; (· omega); (· omega); (· assumption)
         refine tkQ 7 ?_
         refine tkQ 8 ?_
         refine tkQ 9 ?_
         refine tkQ 10 ?_
         refine tkQ 11 ?_
         refine tkQ 12 ?_
         refine tkQ 13 ?_
         refine tkQ 14 ?_
         refine tkQ 15 ?_
         (refine' jp 16 rfl rfl je (kt rfl rfl (by exact dF (by assumption)) je rfl (fun _ _ => yI _ ?_)) ?_ ?_; (· omega); (· assumption))
         refine tkQ 17 ?_
         refine tkQ 18 ?_
         refine tkQ 19 ?_
         refine tkQ 20 ?_
         refine tkQ 21 ?_
         (refine' jp 22 rfl rfl je (kt rfl rfl (by exact dF (by assumption)) je rfl (fun _ _ => yI _ ?_)) ?_ ?_; (· omega); (· assumption))
         refine tkQ 23 ?_
         refine tkQ 24 ?_
         refine tkQ 25 ?_
         refine tdQ ?_
         refine goA ?_
         refine jh (i + 1) hlt ?_ (fun w h => h) jd
         rw [hst]
         exact jr
 · have hin : i = l.length := by omega
   subst hin
   by_cases hb : Vd.bestAt l n c l.length < 0
   · have hF : Vd.findSoa l n c = (RSet.none, false, 0) := if_pos hb
     rw [hF]
     repeat (first | refine goA ?_ | refine jB (jl rfl (ub )) rfl ?_)
     refine km 6 122 7 8 rfl rfl rfl rfl stO (by repeat (exact List.mem_cons_self)) rfl (fun w h => h.tail) ?_
     exact ⟨[.string (bs []), .int .u16 0, .int .u16 0, .int .u32 0, .slice none 0 0], rfl, zC, rfl⟩
   · rcases hl with rfl | ⟨b1, o1, C1, t1, f1, rfl, m1, q1⟩
     · exact absurd (by simp [Vd.bestAt]) hb
     have m1 := hK _ m1
     obtain ⟨y, hy⟩ : ∃ y, l[(Vd.bestAt l n c l.length).toNat]? = some y := ⟨_, List.getElem?_eq_getElem jd⟩
     obtain ⟨cy, _, hy2, hcy⟩ := q1 _ y hy
     obtain ⟨ya, yc, rfl, _⟩ := hy2.val
     have g1 : C1[o1 + (Vd.bestAt l n c l.length).toNat * 5 + 4]? = some (.slice ya y.data.length yc) := hcy 4 _ rfl
     have hF : Vd.findSoa l n c = if y.data.length ≠ 1 then (RSet.none, false, 3) else (y, true, 0) := by
      unfold Vd.findSoa
      rw [if_neg hb, hy]
     rw [hF]
     by_cases hd : y.data.length = 1
     · rw [if_neg (by simpa using hd)]
       refine goA ?_
       refine jB (jA [.string (bs y.name), .int .u16 y.kind, .int .u16 y.cls, .int .u32 y.ttl, .slice ya y.data.length yc] rfl stL (List.mem_cons_of_mem _ m1) hcy) rfl ?_
       refine goA ?_
       refine km 6 122 7 8 rfl rfl rfl rfl stO (by repeat (exact List.mem_cons_self)) rfl (fun w h => h.tail) ?_
       exact ⟨[.string (bs y.name), .int .u16 y.kind, .int .u16 y.cls, .int .u32 y.ttl, .slice ya y.data.length yc], rfl, hy2, rfl⟩
     · rw [if_pos (by simpa using hd)]
       repeat (first | refine goA ?_ | refine jB (jl rfl (ub )) rfl ?_)
       refine km 6 122 7 8 rfl rfl rfl rfl stO (by repeat (exact List.mem_cons_self)) rfl (fun w h => h.tail) ?_
       exact ⟨[.string (bs []), .int .u16 0, .int .u16 0, .int .u32 0, .slice none 0 0], rfl, zC, rfl⟩
theorem adB {d : Vd.Bytes} (h : Vd.mayD 6 d = true) : 20 ≤ d.length := by
 unfold Vd.mayD Vd.whole at h
 split at h
 · cases h
 · rename_i hc
   simp only [not_or, Decidable.not_not] at hc
   have he := hc.1
   unfold Vd.pieces at he
   rw [if_neg (by decide), if_neg (by decide)] at he
   have hl : Vd.layout 6 = some (0, 2, 20) := by decide
   rw [hl] at he
   dsimp only at he
   rw [if_neg jd] at he
   revert he
   generalize Vd.names d 2 (0 + 0) [⟨(d.drop 0).take 0, false⟩] = r
   obtain ⟨q, out, e⟩ := r
   dsimp only
   intro he
   split at he
   · rename_i h1; exact absurd he h1
   split at he
   · cases he
   · omega
theorem YZ {d : Vd.Bytes} {i : Nat} {c : UInt8} (hi : i < d.length) (hc : d[i]? = some c) (h4 : 4 ≤ d.length) (hj : d.length - 4 ≤ i) {n : Int} (hn : n * 256 + c.toNat ≤ 4294967295) (h0 : 0 ≤ n) :
 (d.drop i).foldl (fun n c => (n * 256 + ((c : UInt8).toNat : Int)) % 4294967296) n = (d.drop (i + 1)).foldl (fun n c => (n * 256 + ((c : UInt8).toNat : Int)) % 4294967296) (n * 256 + c.toNat) := by
 obtain ⟨hlt, e⟩ := List.getElem?_eq_some_iff.1 hc
 rw [List.drop_eq_getElem_cons hlt, e, List.foldl_cons, Int.emod_eq_of_lt jd jd]
theorem aeX (cs : List Value) (s : RSet) (hs : rsR L cs s) (hd : ∀ d ∈ s.data, d.length ≤ 1000000) : Spec Tryz.prog G 80 #[.agg cs.toArray] L fun u M => u = .int .u32 (Vd.soaTime s) ∧ M = L := by
 obtain ⟨a, c, rfl, hsd, _, _, _, ht⟩ := hs.vals
 obtain ⟨_, k1, k2, hsd⟩ := qH hsd
 unfold maxLen at k2
 refine jm (n := 54) Tryz.func80 rfl rfl rfl ?_
 by_cases h6 : s.kind = 6
 · by_cases h1 : s.data.length = 1
   · obtain ⟨d, hd1⟩ : ∃ d, s.data = [d] := by
      match hh : s.data, h1 with
      | [d], _ => exact ⟨d, rfl⟩
     rcases hsd with h0 | ⟨b1, o1, C1, t1, f1, rfl, m1, q1⟩
     · rw [h0] at h1; simp at h1
     have g0 : C1[o1 + (0 : Int).toNat * 1]? = some (.string (bs d)) := q1 0 d (by rw [hd1]; rfl)
     have hdl := hd d (by rw [hd1]; exact List.mem_cons_self ..)
     have hT : Vd.soaTime s = if Vd.mayD 6 d then (if 2147483647 < Vd.last4 d ∨ 2147483647 < s.ttl then 0 else min (Vd.last4 d) s.ttl) else 0 := by
      unfold Vd.soaTime
      rw [if_neg (by simpa using h6), hd1]
     have h1' : ((s.data.length : Nat) : Int) = 1 := by omega
     cases hm : Vd.mayD 6 d with
     | false =>
       rw [hm, if_neg (by simp)] at hT
       repeat (first | refine goA ?_ | (refine' kf (jc je rfl (VK _ _ ?_)) rfl ?_; (· omega)) | (refine kl ?_; intro bBox))
       refine ju (fun w h => h.tail) ?_
       refine ji 2 _ rfl rfl ?_
       exact ⟨by rw [hT], rfl⟩
     | true =>
       rw [hm, if_pos rfl] at hT
       have h20 := adB hm
       repeat (first | refine goA ?_ | (refine' kf (jc je rfl (VK _ _ ?_)) rfl ?_; (· omega)) | (refine kl ?_; intro bBox))
       refine jy (σ := Nat × Int) (fun x => d.length - 4 ≤ x.1 ∧ x.1 ≤ d.length ∧ (d.drop x.1).foldl (fun n c => (n * 256 + ((c : UInt8).toNat : Int)) % 4294967296) x.2 = Vd.last4 d ∧ ((x.1 = d.length - 4 ∧ x.2 = 0) ∨ (x.1 = d.length - 3 ∧ 0 ≤ x.2 ∧ x.2 ≤ 255) ∨ (x.1 = d.length - 2 ∧ 0 ≤ x.2 ∧ x.2 ≤ 65535) ∨ (x.1 = d.length - 1 ∧ 0 ≤ x.2 ∧ x.2 ≤ 16777215) ∨ (x.1 = d.length ∧ 0 ≤ x.2 ∧ x.2 ≤ 4294967295)))
        (fun x => [(1, .pointer (some ⟨bBox, 0, none⟩)), (3, .string (bs d)), (4, .int .u32 x.2), (5, .int .i64 (x.1 : Nat))]) (fun x => (bBox, Obj.cells #[.string (bs s.name), .int .u16 s.kind, .int .u16 s.cls, .int .u32 s.ttl, .slice (some ⟨b1, o1, none⟩) s.data.length c] 122 (0, 0)) :: L) (fun x => d.length - x.1) (d.length - 4, 0) ⟨Nat.le_refl _, by dsimp only; omega, rfl, Or.inl ⟨rfl, rfl⟩⟩ ?_ (fun w h => h) ?_
       · dsimp only
         rw [show ((d.length - 4 : Nat) : Int) = (d.length : Int) - 4 by omega]
         exact jr
       rintro ⟨i, n⟩ ⟨p1, p2, p3, p4⟩
       dsimp only at p1 p2 p3 p4 ⊢
       by_cases hlt : i < d.length
       · obtain ⟨ch, hch⟩ : ∃ ch, d[i]? = some ch := ⟨_, List.getElem?_eq_getElem hlt⟩
         have hch' : d[((i : Nat) : Int).toNat]? = some ch := hch
         have hcl : ch.toNat ≤ 255 := by have := ch.toNat_lt; omega
         have hnn : 0 ≤ n ∧ n * 256 + (ch.toNat : Int) ≤ 4294967295 := by omega
         rw [YZ hlt hch jd p1 hnn.2 hnn.1] at p3
         refine goA ?_
         refine jh (i + 1, n * 256 + ch.toNat) ⟨by dsimp only; omega, hlt, p3, by dsimp only; omega⟩ ?_ (fun w h => h) (by dsimp only; omega)
         exact jr
       · have hin : i = d.length := by omega
         subst hin
         rw [List.drop_length] at p3
         have hn : n = Vd.last4 d := p3
         have hnn : 0 ≤ n ∧ n ≤ 4294967295 := by omega
         rw [← hn] at hT
         repeat' (first | refine goA ?_ | refine Jm rfl (fun hc => ?_) (fun hc => ?_) | refine aby rfl rfl (fun hc => ?_) (fun hc => ?_))
         all_goals (refine ju (fun w h => h.tail) ?_)
         all_goals
          refine ji 2 _ rfl rfl ?_
         all_goals (refine ⟨?_, rfl⟩; rw [hT]; clear hn hT; congr 1; split <;> omega)
   · have hT : Vd.soaTime s = 0 := by
      unfold Vd.soaTime
      rw [if_neg (by simpa using h6)]
      match hh : s.data, h1 with
      | [], _ => rfl
      | [d], h => simp at h
      | _ :: _ :: _, _ => rfl
     have h1' : ¬ ((s.data.length : Nat) : Int) = 1 := by omega
     repeat (first | refine goA ?_ | (refine kl ?_; intro bBox))
     refine ju (fun w h => h.tail) ?_
     refine ji 2 _ rfl rfl ?_
     exact ⟨by rw [hT], rfl⟩
 · have hT : Vd.soaTime s = 0 := by unfold Vd.soaTime; rw [if_pos h6]
   repeat (first | refine goA ?_ | (refine kl ?_; intro bBox))
   refine ju (fun w h => h.tail) ?_
   refine ji 2 _ rfl rfl ?_
   exact ⟨by rw [hT], rfl⟩
end
section
open Go.RowKit
open Vd (RSet Vdt Vote Rec Quest Piece)
theorem J2 (s : Vd.Bytes) : ∀ (l out : List Vd.Bytes) (done : Bool) (o : List Vd.Bytes) (d : Bool), Vd.putGo s l out done = .inr (o, d) → o.length + (if d then 0 else 1) ≤ out.length + l.length + (if done then 0 else 1)
 | [], out, done, o, d, h => by
   simp only [Vd.putGo, Sum.inr.injEq, Prod.mk.injEq] at h
   obtain ⟨rfl, rfl⟩ := h
   simp
 | x :: l, out, done, o, d, h => by
   simp only [Vd.putGo] at h
   split at h
   · cases h
   split at h
   · rename_i hd
     have := J2 s l _ _ o d h
     have hdn : done = false := by cases done <;> simp_all
     subst hdn
     simp at this ⊢
     omega
   · have := J2 s l _ _ o d h
     simp at this ⊢
     omega
theorem ZS (l : List Vd.Bytes) (s : Vd.Bytes) : (Vd.put l s).length ≤ l.length + 1 := by
 unfold Vd.put
 split
 · omega
 · rename_i o d h
   have := J2 s l [] false o d h
   cases d <;> simp at this ⊢ <;> omega
theorem J3 (s : Vd.Bytes) : ∀ (l out : List Vd.Bytes) (done : Bool) (o : List Vd.Bytes) (d : Bool), Vd.putGo s l out done = .inr (o, d) → ∀ x ∈ o, x ∈ out ∨ x ∈ l ∨ x = s
 | [], out, done, o, d, h => by
   simp only [Vd.putGo, Sum.inr.injEq, Prod.mk.injEq] at h
   obtain ⟨rfl, rfl⟩ := h
   intro x hx
   exact Or.inl hx
 | y :: l, out, done, o, d, h => by
   simp only [Vd.putGo] at h
   split at h
   · cases h
   split at h
   · intro x hx
     have := J3 s l _ _ o d h x hx
     simp only [List.mem_append, List.mem_cons] at this ⊢
     grind
   · intro x hx
     have := J3 s l _ _ o d h x hx
     simp only [List.mem_append, List.mem_cons] at this ⊢
     grind
theorem adC {l : List Vd.Bytes} {s x : Vd.Bytes} (h : x ∈ Vd.put l s) : x ∈ l ∨ x = s := by
 unfold Vd.put at h
 split at h
 · exact Or.inl h
 · rename_i o d hh
   have := J3 s l [] false o d hh
   split at h
   · have := this x h; simp at this; exact this
   · rcases List.mem_append.1 h with h | h
     · have := this x h; simp at this; exact this
     · exact Or.inr (List.mem_singleton.1 h)
theorem WX {sets : List RSet} {n : Vd.Bytes} {k c : Int} : ∀ (m j : Nat), Vd.keyAt sets n k c m = some j → m ≤ sets.length → j < m
 | 0, j, h, _ => by simp [Vd.keyAt] at h
 | m + 1, j, h, hm => by
   rw [Vd.keyAt, List.getElem?_eq_getElem jd] at h
   dsimp only at h
   split at h
   · cases h; omega
   · have := WX m j h jd; omega
def kv : Option Nat → Int
 | some j => (j : Nat)
 | none => -1
theorem UW (k : Int) (d : Vd.Bytes) : (Vd.foldD k d).length ≤ d.length := Nat.le_trans (QT _) (Ju k d)
structure Bd (D i : Nat) (sets : List RSet) : Prop where
 few : sets.length ≤ i
 name : ∀ s ∈ sets, s.name.length ≤ 255
 data : ∀ s ∈ sets, s.data.length ≤ i
 one : ∀ s ∈ sets, s.data ≠ []
 datum : ∀ s ∈ sets, ∀ d ∈ s.data, d.length ≤ D
theorem ug (n : Vd.Bytes) : (Nm.fold n).length ≤ 255 := by
 unfold Nm.fold
 cases h : Nm.may n with
 | false => simp
 | true =>
   obtain ⟨ls, hl⟩ := Nm.nm_of_may h
   rw [if_pos rfl, Nm.low_length]
   exact (Nm.nm_iff.1 hl).2.2
theorem aeY {l : List Vd.Bytes} {s : Vd.Bytes} (h : l ≠ []) : Vd.put l s ≠ [] := by
 match l, h with
 | x :: l, _ =>
   unfold Vd.put
   have key : ∀ (l out : List Vd.Bytes) (done : Bool) (o : List Vd.Bytes) (d : Bool), out ≠ [] → Vd.putGo s l out done = .inr (o, d) → o ≠ [] := by
    intro l
    induction l with
    | nil => intro out done o d h1 h2; simp only [Vd.putGo, Sum.inr.injEq, Prod.mk.injEq] at h2; rw [← h2.1]; exact h1
    | cons y l ih =>
      intro out done o d h1 h2
      simp only [Vd.putGo] at h2
      split at h2
      · cases h2
      split at h2
      · exact ih _ _ o d (by simp) h2
      · exact ih _ _ o d (by simp) h2
   split
   · simp
   · rename_i o d hh
     simp only [Vd.putGo] at hh
     split at hh
     · cases hh
     have ho : o ≠ [] := by
      split at hh
      · exact key _ _ _ o d (by simp) hh
      · exact key _ _ _ o d (by simp) hh
     split
     · exact ho
     · simp
theorem Bd.add {D i : Nat} {sets : List RSet} (h : Bd D i sets) (x : Rec) (hx : x.data.length ≤ D) : Bd D (i + 1) (Vd.addRec sets x) := by
 have hm : Bd D (i + 1) sets := ⟨by have := h.few; omega, h.name, fun s hs => by have := h.data s hs; omega, h.one, h.datum⟩
 have hf := Nat.le_trans (UW x.kind x.data) hx
 unfold Vd.addRec
 split
 · split
   · refine ⟨by have := h.few; simp; omega, fun s hs => ?_, fun s hs => ?_, fun s hs => ?_, fun s hs => ?_⟩ <;> rcases List.mem_append.1 hs with hs | hs
     · exact h.name s hs
     · rw [List.mem_singleton.1 hs]; exact ug _
     · exact hm.data s hs
     · rw [List.mem_singleton.1 hs]; simp
     · exact h.one s hs
     · rw [List.mem_singleton.1 hs]; simp
     · exact h.datum s hs
     · rw [List.mem_singleton.1 hs]; intro d hd; rw [List.mem_singleton.1 hd]; exact hf
   · rename_i j hj
     split
     · rename_i s hs
       have hsm := List.mem_of_getElem? hs
       have key : ∀ t ∈ sets.set j { s with ttl := min s.ttl (Vd.timeT x.ttl), data := Vd.put s.data (Vd.foldD x.kind x.data) }, t ∈ sets ∨ t = { s with ttl := min s.ttl (Vd.timeT x.ttl), data := Vd.put s.data (Vd.foldD x.kind x.data) } := fun t ht => List.mem_or_eq_of_mem_set ht
       refine ⟨by have := h.few; simp; omega, fun t ht => ?_, fun t ht => ?_, fun t ht => ?_, fun t ht => ?_⟩ <;> rcases key t ht with ht | rfl
       · exact h.name t ht
       · exact h.name s hsm
       · exact hm.data t ht
       · have h1 := ZS s.data (Vd.foldD x.kind x.data); have h2 := h.data s hsm; dsimp only; omega
       · exact h.one t ht
       · exact aeY (h.one s hsm)
       · exact h.datum t ht
       · intro d hd
         rcases adC hd with hd | rfl
         · exact h.datum s hsm d hd
         · exact hf
     · exact hm
 · exact hm
theorem zi {l : List Rec} {i : Nat} {x : Rec} (hx : l[i]? = some x) : Vd.gather (l.take (i + 1)) = Vd.addRec (Vd.gather (l.take i)) x := by
 unfold Vd.gather
 rw [List.take_add_one, hx]
 simp
theorem J4 {D : Nat} (l : List Rec) (hl : ∀ x ∈ l, x.data.length ≤ D) : ∀ i, i ≤ l.length → Bd D i (Vd.gather (l.take i))
 | 0, _ => ⟨by simp [Vd.gather], by simp [Vd.gather], by simp [Vd.gather], by simp [Vd.gather], by simp [Vd.gather]⟩
 | i + 1, h => by
   have hx : l[i]? = some l[i] := List.getElem?_eq_getElem jd
   rw [zi hx]
   exact (J4 l hl i jd).add _ (hl _ (List.getElem_mem _))
theorem QV (sets : List RSet) : ∀ j, j < sets.length → Vd.leastAt sets j < sets.length ∧ Vd.leastAt sets j ≤ j
 | 0, h => ⟨h, Nat.le_refl _⟩
 | j + 1, h => by
   have ih := QV sets j jd
   rw [Vd.leastAt, List.getElem?_eq_getElem h, List.getElem?_eq_getElem ih.1]
   dsimp only
   split <;> omega
theorem VN {sets : List RSet} {j : Nat} {s t : RSet} (hs : sets[j + 1]? = some s) (ht : sets[Vd.leastAt sets j]? = some t) : Vd.leastAt sets (j + 1) = if Vd.before s t then j + 1 else Vd.leastAt sets j := by
 rw [Vd.leastAt, hs, ht]
theorem UX {α : Type} (l : List α) (k : Nat) : l.take k ++ l.drop (k + 1) = l.eraseIdx k := (List.eraseIdx_eq_take_drop_succ l k).symm
end
section
open Go.RowKit
open Vd (RSet Vdt Vote Rec Quest)
variable {G : World} {L : ja}
theorem ZT : ∀ cs y, qB L cs y → ∀ v ∈ cs, v.oneCell' = true := by
 rintro _ y ⟨rfl, _⟩ v hv
 rw [List.mem_singleton.1 hv]
 rfl
theorem ORow.made {α : Type} {r : Rp α} {e : TypeId} {sz b : Nat} : ORow r e sz L (some ⟨b, 0, none⟩) 0 ([] : List α) [(b, .cells #[] e (0, 0))] := ⟨[], Row.made (by simp) (by unfold maxLen; omega), rfl, by simp⟩
theorem VO (v : Value) (l : List Vd.Bytes) (hl : sliceR 1 qB L [v] l) (hn : l.length ≤ 1000000) : Spec Tryz.prog G 113 #[v] L fun u M => ∃ a c B, u = .slice a l.length c ∧ ORow qB 9 1 L a c l B ∧ M = B ++ L := by
 obtain ⟨a, c, e1, hl⟩ := hl.val
 simp only [List.cons.injEq, and_true] at e1
 subst e1
 refine jm (n := 8) Tryz.func113 rfl rfl rfl ?_
 cases ha : a with
 | none =>
   subst ha
   have : l = [] := by
    obtain ⟨_, _, _, h | ⟨b, off, C, te, fr, h, _⟩⟩ := qH hl
    · exact h
    · cases h
   subst this
   have d1 : Option.isNone (none : Option Addr) = true := rfl
   repeat (first | refine goC ?_ | (refine jS ?_; intro bLit))
   refine ji 2 _ rfl rfl ?_
   exact ⟨none, 0, [], rfl, ORow.nil _, rfl⟩
 | some x =>
   subst ha
   have d1 : Option.isNone (some x) = false := rfl
   repeat (first | refine goC ?_ | (refine jS ?_; intro bLit))
   refine j0 (yw etO) rfl ?_
   intro b0
   repeat (first | refine goC ?_ | (refine jS ?_; intro bLit))
   refine jw (YM (l := []) (B := [(b0, .cells #[] 9 (0, 0))]) etO rfl rfl (ORow.made (L := L)) hl ZT (by simp; unfold maxLen; omega) (by simp; omega)) rfl ?_
   rintro _ _ ⟨a', c', B', rfl, hB', rfl⟩
   rw [List.nil_append] at hB' ⊢
   repeat (first | refine goC ?_ | (refine jS ?_; intro bLit))
   refine ji 2 _ rfl rfl ?_
   exact ⟨a', c', B', rfl, hB', rfl⟩
end
section
open Go.RowKit
open Vd (RSet Vdt Vote Rec Quest Piece)
variable {G : World} {L : ja}
theorem uJ {P : Program} {ρ : jG} {ty : TypeId} {s x : Operand} {t e te : TypeId} {bytes bl : Nat} {z : Value} {a : Option Addr} {c : Nat} {cs : List Value} {y : RSet} {l : List RSet} {B L0 : ja} (E : ElemTy P t e 5 bytes z) (hs : ev ρ s = some (.slice a l.length c)) (hx : ev ρ x = some (.slice (some ⟨bl, 0, none⟩) 1 1))
 (hrow : ORow rsR e 5 L0 a c l B) (hy : rsR L0 cs y) (h63 : l.length ≤ 1000000) (hb : bytes ≤ 1000) :
 OpT P G ρ ((bl, .cells cs.toArray te (0, 0)) :: (B ++ L)) (.call ⟨.builtin .append, #[s, x], #[t, t]⟩) ty fun v' L' => ∃ a' c' B', v' = .slice a' (l ++ [y]).length c' ∧ ORow rsR e 5 L0 a' c' (l ++ [y]) B' ∧ L' = B' ++ L :=
 uv E hs hx hrow hy.len hy.one hy (by unfold maxLen; omega) (Nat.le_trans (Nat.mul_le_mul (show l.length + 1 ≤ 1000001 by omega) hb) (by decide))
theorem adD {K : ja} {bD : Nat} {te : TypeId} {fr : Nat × Nat} {name d : Vd.Bytes} {kind cls ttl : Int} (hm : (bD, Obj.cells #[.string (bs d)] te fr) ∈ K) (hd : d.length ≤ 1000000) (hn : name.length ≤ 1000000) (h1 : 0 ≤ kind ∧ kind ≤ 65535) (h2 : 0 ≤ cls ∧ cls ≤ 65535) (h3 : 0 ≤ ttl ∧ ttl ≤ 4294967295) :
 rsR K [.string (bs name), .int .u16 kind, .int .u16 cls, .int .u32 ttl, .slice (some ⟨bD, 0, none⟩) 1 1] ⟨name, kind, cls, ttl, [d]⟩ := by
 refine ⟨_, rfl, ⟨_, 1, rfl, Nat.le_refl _, by unfold maxLen; omega, Or.inr ⟨bD, 0, _, _, _, rfl, hm, fun i x hx => ?_⟩⟩, by show name.length ≤ maxLen; unfold maxLen; omega, h1, h2, h3⟩
 match i, hx with
 | 0, hx =>
   cases hx
   refine ⟨[.string (bs d)], rfl, ⟨rfl, by unfold maxLen; omega⟩, fun j v hj => ?_⟩
   match j, hj with
   | 0, hj => cases hj; rfl
theorem j3 {α : Type} {r : List Value → α → Prop} : uZ (fun _ => r) := fun _ _ _ _ _ h => h
theorem QW {t : Int} (h : 0 ≤ t ∧ t ≤ 4294967295) : 0 ≤ Vd.timeT t ∧ Vd.timeT t ≤ 4294967295 := by unfold Vd.timeT; split <;> omega
theorem adE {cur : Array Value} {o : Nat} {x0 x1 x2 x3 x4 y3 y4 : Value} (h : ∀ j v, ([x0, x1, x2, x3, x4] : List Value)[j]? = some v → cur[o + j]? = some v) :
 (∀ j v, ([x0, x1, x2, y3, y4] : List Value)[j]? = some v → ((cur.setIfInBounds (o + 3) y3).setIfInBounds (o + 4) y4)[o + j]? = some v) ∧ (∀ k, k < o ∨ o + 5 ≤ k → ((cur.setIfInBounds (o + 3) y3).setIfInBounds (o + 4) y4)[k]? = cur[k]?) := by
 have h4 := h 4 _ rfl
 have hs := (Array.getElem?_eq_some_iff.1 h4).1
 refine ⟨fun j v hj => ?_, fun k hk => ?_⟩
 · match j, hj with
   | 0, hj => cases hj; rw [Array.getElem?_setIfInBounds_ne jd, Array.getElem?_setIfInBounds_ne jd]; exact h 0 _ rfl
   | 1, hj => cases hj; rw [Array.getElem?_setIfInBounds_ne jd, Array.getElem?_setIfInBounds_ne jd]; exact h 1 _ rfl
   | 2, hj => cases hj; rw [Array.getElem?_setIfInBounds_ne jd, Array.getElem?_setIfInBounds_ne jd]; exact h 2 _ rfl
   | 3, hj => cases hj; rw [Array.getElem?_setIfInBounds_ne jd, Array.getElem?_setIfInBounds_self_of_lt jd]
   | 4, hj => cases hj; rw [Array.getElem?_setIfInBounds_self_of_lt (by rw [Array.size_setIfInBounds]; omega)]
 · rw [Array.getElem?_setIfInBounds_ne jd, Array.getElem?_setIfInBounds_ne jd]
theorem VP (v : Value) (l : List Rec) (hl : sliceR 5 yR L [v] l) (hn : l.length ≤ 10000) (hnm : ∀ x ∈ l, x.name.length ≤ 1000000) (hdt : ∀ x ∈ l, x.data.length ≤ 1000000) :
 Spec Tryz.prog G 78 #[v] L fun u M => ∃ a c B N, u = .slice a (Vd.group l).length c ∧ ORow rsR 122 5 N a c (Vd.group l) B ∧ Wr N ∧ M = B ++ (N ++ L) := by
 obtain ⟨a0, c0, e1, hl⟩ := hl.val
 simp only [List.cons.injEq, and_true] at e1
 subst e1
 obtain ⟨_, ka1, ka2, hl⟩ := sliceR.cut hl
 unfold maxLen at ka2
 refine jm (n := 154) Tryz.func78 rfl rfl rfl ?_
 refine goA ?_
 refine jy (σ := Nat × Option Addr × Nat × ja × ja) (fun x => x.1 ≤ l.length ∧ ORow rsR 122 5 x.2.2.2.2 x.2.1 x.2.2.1 (Vd.gather (l.take x.1)) x.2.2.2.1 ∧ Wr x.2.2.2.2) (fun x => [(0, .slice a0 l.length c0), (3, .slice x.2.1 (Vd.gather (l.take x.1)).length x.2.2.1), (4, .int .i64 (x.1 : Nat))]) (fun x => x.2.2.2.1 ++ (x.2.2.2.2 ++ L)) (fun x => l.length - x.1) (0, none, 0, [], []) ⟨Nat.zero_le _, ORow.nil _, Wr.nil⟩ ?_ (fun w h => h) ?_
 exact jr
 rintro ⟨i, a, c, B, N⟩ ⟨hi, hB, hN⟩
 dsimp only at hi hB hN ⊢
 have hbd := J4 l hdt i hi
 by_cases hlt : i < l.length
 · rcases hl with rfl | ⟨b1, o1, C1, t1, f1, rfl, m1, q1⟩
   · simp at hlt
   obtain ⟨x, hx⟩ : ∃ x, l[i]? = some x := ⟨_, List.getElem?_eq_getElem hlt⟩
   obtain ⟨cx, _, ⟨rfl, _, _, x1, x2, x3⟩, hcx⟩ := q1 i x hx
   have hxn := hnm x (List.mem_of_getElem? hx)
   have hxd := hdt x (List.mem_of_getElem? hx)
   have hg := zi hx
   obtain ⟨sets, hsets⟩ : ∃ s, Vd.gather (l.take i) = s := ⟨_, rfl⟩
   rw [hsets] at hB hbd hg ⊢
   have hfew := hbd.few
   have m2 : (b1, Obj.cells C1 t1 f1) ∈ B ++ (N ++ L) := List.mem_append_right _ (List.mem_append_right _ m1)
   refine goA ?_
   refine jB (jA [.string (bs x.name), .int .u16 x.kind, .int .u16 x.cls, .int .u32 x.ttl, .string (bs x.data)] rfl stL m2 hcx) rfl ?_
   cases hm : Nm.may x.name with
   | false =>
     have hadd : Vd.addRec sets x = sets := by unfold Vd.addRec; rw [hm]; rfl
     rw [hadd] at hg
     repeat (first | refine goA ?_ | (refine' jU (jc je rfl (kG _ ?_)) rfl ?_; (· omega)) | (refine jO ?_; intro bNew))
     refine jh (i + 1, a, c, B, N) ⟨hlt, by rw [hg]; exact hB, hN⟩ ?_ (fun w h => h.tail) (by dsimp only; omega)
     dsimp only
     rw [hg]
     exact jr
   | true =>
   cases hd : Vd.mayD x.kind x.data with
   | false =>
     have hadd : Vd.addRec sets x = sets := by unfold Vd.addRec; rw [hm, hd]; rfl
     rw [hadd] at hg
     repeat (first | refine goA ?_ | (refine' jU (jc je rfl (kG _ ?_)) rfl ?_; (· omega)) | (refine' kf (jc je rfl (VK _ _ ?_)) rfl ?_; (· omega)) | (refine jO ?_; intro bNew))
     refine jh (i + 1, a, c, B, N) ⟨hlt, by rw [hg]; exact hB, hN⟩ ?_ (fun w h => h.tail) (by dsimp only; omega)
     dsimp only
     rw [hg]
     exact jr
   | true =>
   have hx5 : (Vd.foldD x.kind x.data).length ≤ 1000000 := Nat.le_trans (UW _ _) hxd
   have hf5 : (Nm.fold x.name).length ≤ 1000000 := Nat.le_trans (ug _) jd
   repeat (first | refine goA ?_ | (refine' jU (jc je rfl (kG _ ?_)) rfl ?_; (· omega)) | (refine' jU (jc je rfl (qQ _ ?_)) rfl ?_; (· omega)) | (refine' kf (jc je rfl (VK _ _ ?_)) rfl ?_; (· omega)) | (refine' jU (jc je rfl (adA _ _ ?_)) rfl ?_; (· omega)) | (refine jO ?_; intro bNew))
   refine jy (σ := Nat) (fun k => k ≤ sets.length) (fun k => [(0, .slice (some ⟨b1, o1, none⟩) l.length c0), (3, .slice a sets.length c), (4, .int .i64 (i : Nat)), (5, .pointer (some ⟨bNew, 0, none⟩)), (6, .string (bs (Nm.fold x.name))), (7, .string (bs (Vd.foldD x.kind x.data))), (8, .int .i64 (kv (Vd.keyAt sets (Nm.fold x.name) x.kind x.cls k))), (9, .int .i64 (k : Nat))])
    (fun k => (bNew, Obj.cells #[.string (bs x.name), .int .u16 x.kind, .int .u16 x.cls, .int .u32 x.ttl, .string (bs x.data)] 177 (0, 0)) :: (B ++ (N ++ L))) (fun k => sets.length - k) 0 (Nat.zero_le _) ?_ (fun w h => h) ?_
   exact jr
   intro k hk
   by_cases hkl : k < sets.length
   · obtain ⟨s, hs⟩ : ∃ s, sets[k]? = some s := ⟨_, List.getElem?_eq_getElem hkl⟩
     obtain ⟨b2, cur, rfl, rfl, _, _, _, hcur⟩ := hB.block (fun e => by rw [e] at hkl; simp at hkl)
     obtain ⟨cs, _, hs2, _, hcs⟩ := hcur k s hs
     obtain ⟨sa, sc, rfl, _⟩ := hs2.val
     have g0 : cur[0 + k * 5 + 0]? = some (.string (bs s.name)) := by rw [Nat.zero_add]; exact hcs 0 _ rfl
     have g1 : cur[0 + k * 5 + 1]? = some (.int .u16 s.kind) := by rw [Nat.zero_add]; exact hcs 1 _ rfl
     have g2 : cur[0 + k * 5 + 2]? = some (.int .u16 s.cls) := by rw [Nat.zero_add]; exact hcs 2 _ rfl
     have r1 : (#[.string (bs x.name), .int .u16 x.kind, .int .u16 x.cls, .int .u32 x.ttl, .string (bs x.data)] : Array Value)[0 + 1]? = some (.int .u16 x.kind) := rfl
     have r2 : (#[.string (bs x.name), .int .u16 x.kind, .int .u16 x.cls, .int .u32 x.ttl, .string (bs x.data)] : Array Value)[0 + 2]? = some (.int .u16 x.cls) := rfl
     have hst : Vd.keyAt sets (Nm.fold x.name) x.kind x.cls (k + 1) = if Vd.hasKey s (Nm.fold x.name) x.kind x.cls then some k else Vd.keyAt sets (Nm.fold x.name) x.kind x.cls k := by
      rw [Vd.keyAt, hs]
     have hKm : ∀ z ∈ [(b2, Obj.cells cur 122 (0, 0)), (bNew, Obj.cells #[.string (bs x.name), .int .u16 x.kind, .int .u16 x.cls, .int .u32 x.ttl, .string (bs x.data)] 177 (0, 0))], z ∈ (bNew, Obj.cells #[.string (bs x.name), .int .u16 x.kind, .int .u16 x.cls, .int .u32 x.ttl, .string (bs x.data)] 177 (0, 0)) :: ([(b2, Obj.cells cur 122 (0, 0))] ++ (N ++ L)) := jf
     by_cases k1 : s.name = Nm.fold x.name
     · by_cases k2 : s.kind = x.kind
       · by_cases k3 : s.cls = x.cls
         · rw [if_pos (by simp [Vd.hasKey, k1, k2, k3])] at hst
           refine goA ?_
           refine jq jb ([(b2, Obj.cells cur 122 (0, 0)), (bNew, Obj.cells #[.string (bs x.name), .int .u16 x.kind, .int .u16 x.cls, .int .u32 x.ttl, .string (bs x.data)] 177 (0, 0))]) [] ?_
           refine tkQ 0 ?_
           refine tkQ 1 ?_
           refine tkQ 2 ?_
           refine tkQ 3 ?_
           refine tkQ 4 ?_
           refine tkQ 5 ?_
           refine tkQ 6 ?_
           refine tkQ 7 ?_
           refine tkQ 8 ?_
           refine tkQ 9 ?_
           refine tkQ 10 ?_
           refine tkQ 11 ?_
           refine tkQ 12 ?_
           refine tkQ 13 ?_
           refine tkQ 14 ?_
           refine tkQ 15 ?_
           refine tkQ 16 ?_
           refine tkQ 17 ?_
           refine tkQ 18 ?_
           refine tkQ 19 ?_
           refine tkQ 20 ?_
           refine tkQ 21 ?_
           refine tkQ 22 ?_
           refine tkQ 23 ?_
           refine tkQ 24 ?_
           refine tkQ 25 ?_
           refine tkQ 26 ?_
           refine tdQ ?_
           refine goA ?_
           refine jh (k + 1) hkl ?_ (fun w h => h) jd
           rw [hst]
           exact jr
         · rw [if_neg (by simp [Vd.hasKey, k3])] at hst
           refine goA ?_
           refine jq jb ([(b2, Obj.cells cur 122 (0, 0)), (bNew, Obj.cells #[.string (bs x.name), .int .u16 x.kind, .int .u16 x.cls, .int .u32 x.ttl, .string (bs x.data)] 177 (0, 0))]) [] ?_
           refine tkQ 0 ?_
           refine tkQ 1 ?_
           refine tkQ 2 ?_
           refine tkQ 3 ?_
           refine tkQ 4 ?_
           refine tkQ 5 ?_
           refine tkQ 6 ?_
           refine tkQ 7 ?_
           refine tkQ 8 ?_
           refine tkQ 9 ?_
           refine tkQ 10 ?_
           refine tkQ 11 ?_
           refine tkQ 12 ?_
           refine tkQ 13 ?_
           refine tkQ 14 ?_
           refine tkQ 15 ?_
           refine tkQ 16 ?_
           refine tkQ 17 ?_
           refine tkQ 18 ?_
           refine tkQ 19 ?_
           refine tkQ 20 ?_
           refine tkQ 21 ?_
           refine tkQ 22 ?_
           refine tkQ 23 ?_
           refine tkQ 24 ?_
           refine tkQ 25 ?_
           refine tkQ 26 ?_
           refine tdQ ?_
           refine goA ?_
           refine jh (k + 1) hkl ?_ (fun w h => h) jd
           rw [hst]
           exact jr
       · rw [if_neg (by simp [Vd.hasKey, k2])] at hst
         refine goA ?_
         refine jq jb ([(b2, Obj.cells cur 122 (0, 0)), (bNew, Obj.cells #[.string (bs x.name), .int .u16 x.kind, .int .u16 x.cls, .int .u32 x.ttl, .string (bs x.data)] 177 (0, 0))]) [] ?_
         refine tkQ 0 ?_
         refine tkQ 1 ?_
         refine tkQ 2 ?_
         refine tkQ 3 ?_
         refine tkQ 4 ?_
         refine tkQ 5 ?_
         refine tkQ 6 ?_
         refine tkQ 7 ?_
         refine tkQ 8 ?_
         refine tkQ 9 ?_
         refine tkQ 10 ?_
         refine tkQ 11 ?_
         refine tkQ 12 ?_
         refine tkQ 13 ?_
         refine tkQ 14 ?_
         refine tkQ 15 ?_
         refine tkQ 16 ?_
         refine tkQ 17 ?_
         refine tkQ 18 ?_
         refine tkQ 19 ?_
         refine tkQ 20 ?_
         refine tkQ 21 ?_
         refine tkQ 22 ?_
         refine tkQ 23 ?_
         refine tkQ 24 ?_
         refine tkQ 25 ?_
         refine tkQ 26 ?_
         refine tdQ ?_
         refine goA ?_
         refine jh (k + 1) hkl ?_ (fun w h => h) jd
         rw [hst]
         exact jr
     · rw [if_neg (by simp [Vd.hasKey, k1])] at hst
       refine goA ?_
       refine jq jb ([(b2, Obj.cells cur 122 (0, 0)), (bNew, Obj.cells #[.string (bs x.name), .int .u16 x.kind, .int .u16 x.cls, .int .u32 x.ttl, .string (bs x.data)] 177 (0, 0))]) [] ?_
       refine tkQ 0 ?_
       refine tkQ 1 ?_
       refine tkQ 2 ?_
       refine tkQ 3 ?_
       refine tkQ 4 ?_
       refine tkQ 5 ?_
       refine tkQ 6 ?_
       refine tkQ 7 ?_
       refine tkQ 8 ?_
       refine tkQ 9 ?_
       refine tkQ 10 ?_
       refine tkQ 11 ?_
       refine tkQ 12 ?_
       refine tkQ 13 ?_
       refine tkQ 14 ?_
       refine tkQ 15 ?_
       refine tkQ 16 ?_
       refine tkQ 17 ?_
       refine tkQ 18 ?_
       refine tkQ 19 ?_
       refine tkQ 20 ?_
       refine tkQ 21 ?_
       refine tkQ 22 ?_
       refine tkQ 23 ?_
       refine tkQ 24 ?_
       refine tkQ 25 ?_
       refine tkQ 26 ?_
       refine tdQ ?_
       refine goA ?_
       refine jh (k + 1) hkl ?_ (fun w h => h) jd
       rw [hst]
       exact jr
   · have hkn : k = sets.length := by omega
     subst hkn
     clear hk hkl
     cases hj : Vd.keyAt sets (Nm.fold x.name) x.kind x.cls sets.length with
     | none =>
       have hadd : Vd.addRec sets x = sets ++ [⟨Nm.fold x.name, x.kind, x.cls, Vd.timeT x.ttl, [Vd.foldD x.kind x.data]⟩] := by unfold Vd.addRec; rw [hm, hd, hj]; rfl
       rw [hadd] at hg
       have hkv : kv none = -1 := rfl
       rw [hkv]
       have hKm : ∀ z ∈ [(bNew, Obj.cells #[.string (bs x.name), .int .u16 x.kind, .int .u16 x.cls, .int .u32 x.ttl, .string (bs x.data)] 177 (0, 0))], z ∈ (bNew, Obj.cells #[.string (bs x.name), .int .u16 x.kind, .int .u16 x.cls, .int .u32 x.ttl, .string (bs x.data)] 177 (0, 0)) :: (B ++ (N ++ L)) := jf
       have htt := QW x3
       refine goA ?_
       refine jq jb ([(bNew, Obj.cells #[.string (bs x.name), .int .u16 x.kind, .int .u16 x.cls, .int .u32 x.ttl, .string (bs x.data)] 177 (0, 0))]) [] ?_
       refine tkQ 0 ?_
       refine tkQ 1 ?_
       refine tkQ 2 ?_
       refine tkQ 3 ?_
       refine tkQ 4 ?_
       refine tkQ 5 ?_
       refine tkQ 6 ?_
       refine tkQ 7 ?_
       refine' jp 8 rfl rfl je (jV je rfl (fun _ _ => abP _ )) ?_ ?_; (· assumption)
       refine tkQ 9 ?_
       refine jF 10 je rfl rfl rfl rfl (Qr etO rfl rfl) ?_; rintro _ _ ⟨bD, rfl, rfl⟩; refine ⟨Or.inr jf, ?_⟩
       (refine' jp 11 rfl rfl je (jL (jl rfl (u7 _ _ _ _ _ _ _))) ?_ ?_; (· intro p hp; grind))
       refine jF 12 je rfl rfl rfl rfl (qC etO rfl rfl (by decide)) ?_; rintro _ _ ⟨bS, rfl, rfl⟩; refine ⟨Or.inr jf, ?_⟩
       refine j6 (L' := (bS, Obj.cells #[.string (bs (Nm.fold x.name)), .int .u16 x.kind, .int .u16 x.cls, .int .u32 (Vd.timeT x.ttl), .slice (some ⟨bD, 0, none⟩) 1 1] 122 (0, 0)) :: (B ++ ((bNew, Obj.cells #[.string (bs x.name), .int .u16 x.kind, .int .u16 x.cls, .int .u32 x.ttl, .string (bs x.data)] 177 (0, 0)) :: (((bD, Obj.cells #[.string (bs (Vd.foldD x.kind x.data))] 9 (0, 0)) :: N) ++ L)))) ?_ jn; refine jF 13 je rfl rfl rfl rfl (uJ (L0 := (bD, Obj.cells #[.string (bs (Vd.foldD x.kind x.data))] 9 (0, 0)) :: N) (cs := [.string (bs (Nm.fold x.name)), .int .u16 x.kind, .int .u16 x.cls, .int .u32 (Vd.timeT x.ttl), .slice (some ⟨bD, 0, none⟩) 1 1]) (y := ⟨Nm.fold x.name, x.kind, x.cls, Vd.timeT x.ttl, [Vd.foldD x.kind x.data]⟩) etO rfl rfl (hB.mono jC jf) (adD (List.mem_cons_self ..) hx5 hf5 x1 x2 htt) jd (by decide)) ?_; rintro _ _ ⟨a', c', B', rfl, hB', rfl⟩; refine ⟨Or.inr jf, ?_⟩
       refine tkQ 14 ?_
       refine tdQ ?_
       refine goA ?_
       refine jh (i + 1, a', c', B', (bD, Obj.cells #[.string (bs (Vd.foldD x.kind x.data))] 9 (0, 0)) :: N) ⟨hlt, by rw [hg]; exact hB', Wr.cons hN⟩ ?_ (fun w h => h.cnt jn) (by dsimp only; omega)
       dsimp only
       rw [hg]
       exact jr
     | some j =>
       have hjl := WX _ j hj (Nat.le_refl _)
       have hkv : kv (some j) = (j : Nat) := rfl
       rw [hkv]
       obtain ⟨s, hs⟩ : ∃ s, sets[j]? = some s := ⟨_, List.getElem?_eq_getElem hjl⟩
       have hadd : Vd.addRec sets x = sets.set j { s with ttl := min s.ttl (Vd.timeT x.ttl), data := Vd.put s.data (Vd.foldD x.kind x.data) } := by unfold Vd.addRec; rw [hm, hd, hj]; dsimp only; rw [hs]; rfl
       rw [hadd] at hg
       obtain ⟨b2, cur, rfl, hBe, _, _, hcsz, hcur⟩ := hB.block (fun e => by rw [e] at hjl; simp at hjl)
       obtain ⟨cs, _, hs2, _, hcs⟩ := hcur j s hs
       obtain ⟨sa, sc, rfl, hsl, n1, n2, n3, n4⟩ := hs2.vals
       subst hBe
       have htt := QW x3
       have g3 : cur[0 + j * 5 + 3]? = some (.int .u32 s.ttl) := by rw [Nat.zero_add]; exact hcs 3 _ rfl
       have hKm : ∀ z ∈ [(b2, Obj.cells cur 122 (0, 0)), (bNew, Obj.cells #[.string (bs x.name), .int .u16 x.kind, .int .u16 x.cls, .int .u32 x.ttl, .string (bs x.data)] 177 (0, 0))], z ∈ (bNew, Obj.cells #[.string (bs x.name), .int .u16 x.kind, .int .u16 x.cls, .int .u32 x.ttl, .string (bs x.data)] 177 (0, 0)) :: ([(b2, Obj.cells cur 122 (0, 0))] ++ (N ++ L)) := jf
       refine goA ?_
       refine jq jb ([(b2, Obj.cells cur 122 (0, 0)), (bNew, Obj.cells #[.string (bs x.name), .int .u16 x.kind, .int .u16 x.cls, .int .u32 x.ttl, .string (bs x.data)] 177 (0, 0))]) [13] ?_
       refine tkQ 0 ?_
       refine tkQ 1 ?_
       refine tkQ 2 ?_
       refine tkQ 3 ?_
       refine tkQ 4 ?_
       refine tkQ 5 ?_
       refine tkQ 6 ?_
       refine tkQ 7 ?_
       refine tkQ 8 ?_
       refine' jp 9 rfl rfl je (jV je rfl (fun _ _ => abP _ )) ?_ ?_; (· assumption)
       refine tkQ 10 ?_
       refine tkQ 11 ?_
       refine tkQ 12 ?_
       refine j6 (L' := (b2, Obj.cells cur 122 (0, 0)) :: ((bNew, Obj.cells #[.string (bs x.name), .int .u16 x.kind, .int .u16 x.cls, .int .u32 x.ttl, .string (bs x.data)] 177 (0, 0)) :: (N ++ L))) ?_ jn; refine jZ 13 je rfl rfl rfl (ul rfl rfl onO rfl g3 rfl) ?_; rintro _ _ ⟨_, rfl⟩; refine ⟨Or.inl (by simp), ?_⟩
       refine tdQ ?_
       have g4 : (cur.setIfInBounds (0 + j * 5 + 3) (.int .u32 (min s.ttl (Vd.timeT x.ttl))))[0 + j * 5 + 4]? = some (.slice sa s.data.length sc) := by
        rw [Array.getElem?_setIfInBounds_ne jd, Nat.zero_add]
        exact hcs 4 _ rfl
       have hsn := hbd.data s (List.mem_of_getElem? hs)
       have hc34 : ∀ y4 : Value, _ := fun y4 => adE (o := 0 + j * 5) (y3 := .int .u32 (min s.ttl (Vd.timeT x.ttl))) (y4 := y4) (fun jj v hv => by rw [Nat.zero_add]; exact hcs jj v hv)
       have hb34 : 0 ≤ min s.ttl (Vd.timeT x.ttl) ∧ min s.ttl (Vd.timeT x.ttl) ≤ 4294967295 := by omega
       refine goA ?_
       refine jw (jc je rfl (ahW _ s.data (Vd.foldD x.kind x.data) (jx kK _ _ _ _ jf hsl) jd (by unfold maxLen; omega))) rfl ?_
       rintro _ _ (⟨rfl, hpe, rfl⟩ | ⟨a', c', B', rfl, hB', rfl⟩)
       · obtain ⟨hin, hout⟩ := hc34 (.slice sa s.data.length sc)
         refine goA ?_
         refine jh (i + 1, some ⟨b2, 0, none⟩, c, [(b2, Obj.cells ((cur.setIfInBounds (0 + j * 5 + 3) (.int .u32 (min s.ttl (Vd.timeT x.ttl)))).setIfInBounds (0 + j * 5 + 4) (.slice sa s.data.length sc)) 122 (0, 0))], N) ⟨hlt, ?_, hN⟩ ?_ (fun w h => h.cnt jn) (by dsimp only; omega)
         · dsimp only
           rw [hg, hpe]
           exact hB.set rfl hjl rfl (⟨_, rfl, hsl, n1, n2, n3, hb34⟩ : rsR N [.string (bs s.name), .int .u16 s.kind, .int .u16 s.cls, .int .u32 (min s.ttl (Vd.timeT x.ttl)), .slice sa s.data.length sc] { s with ttl := min s.ttl (Vd.timeT x.ttl), data := s.data }) (by intro v hv; simp only [List.mem_cons, List.not_mem_nil, or_false] at hv; rcases hv with rfl | rfl | rfl | rfl | rfl <;> rfl) (by simp) (by simpa only [Nat.zero_add] using hin) (by simpa only [Nat.zero_add] using hout)
         dsimp only
         rw [hg]
         rw [List.length_set]
         exact jr
       · obtain ⟨hin, hout⟩ := hc34 (.slice a' (Vd.put s.data (Vd.foldD x.kind x.data)).length c')
         refine jH (L' := (b2, Obj.cells (cur.setIfInBounds (0 + j * 5 + 3) (.int .u32 (min s.ttl (Vd.timeT x.ttl)))) 122 (0, 0)) :: ((bNew, Obj.cells #[.string (bs x.name), .int .u16 x.kind, .int .u16 x.cls, .int .u32 x.ttl, .string (bs x.data)] 177 (0, 0)) :: ((B' ++ N) ++ L))) ?_ jn
         refine goA ?_
         refine jh (i + 1, some ⟨b2, 0, none⟩, c, [(b2, Obj.cells ((cur.setIfInBounds (0 + j * 5 + 3) (.int .u32 (min s.ttl (Vd.timeT x.ttl)))).setIfInBounds (0 + j * 5 + 4) (.slice a' (Vd.put s.data (Vd.foldD x.kind x.data)).length c')) 122 (0, 0))], B' ++ N) ⟨hlt, ?_, hB'.wr.append hN⟩ ?_ (fun w h => h.cnt jn) (by dsimp only; omega)
         · dsimp only
           rw [hg]
           exact (hB.mono (L' := B' ++ N) jC jf).set rfl hjl rfl (⟨_, rfl, ORow.sliceR (L' := B' ++ N) kK (hB'.imp (L' := []) (fun cs y _ h => h)) (by simp) jf, n1, n2, n3, hb34⟩ : rsR (B' ++ N) [.string (bs s.name), .int .u16 s.kind, .int .u16 s.cls, .int .u32 (min s.ttl (Vd.timeT x.ttl)), .slice a' (Vd.put s.data (Vd.foldD x.kind x.data)).length c'] { s with ttl := min s.ttl (Vd.timeT x.ttl), data := Vd.put s.data (Vd.foldD x.kind x.data) }) (by intro v hv; simp only [List.mem_cons, List.not_mem_nil, or_false] at hv; rcases hv with rfl | rfl | rfl | rfl | rfl <;> rfl) (by simp) (by simpa only [Nat.zero_add] using hin) (by simpa only [Nat.zero_add] using hout)
         dsimp only
         rw [hg]
         rw [List.length_set]
         exact jr
 · have hil : i = l.length := by omega
   subst hil
   rw [List.take_length] at hB hbd ⊢
   obtain ⟨S0, hS0⟩ : ∃ s, Vd.gather l = s := ⟨_, rfl⟩
   have hG : Vd.group l = Vd.rise S0.length S0 := by unfold Vd.group; rw [hS0]
   rw [hS0] at hB hbd ⊢
   rw [hG]
   have hfew := hbd.few
   refine goA ?_
   refine jy (σ := List RSet × Option Addr × Nat × ja × List RSet × Option Addr × Nat × ja) (fun x => x.2.2.2.2.1 ++ Vd.rise x.1.length x.1 = Vd.rise S0.length S0 ∧ ORow rsR 122 5 N x.2.1 x.2.2.1 x.1 x.2.2.2.1 ∧ ORow rsR 122 5 N x.2.2.2.2.2.1 x.2.2.2.2.2.2.1 x.2.2.2.2.1 x.2.2.2.2.2.2.2 ∧ (∀ s ∈ x.1, s.name.length ≤ 255) ∧ x.2.2.2.2.1.length + x.1.length ≤ 10000)
    (fun x => [(3, .slice x.2.1 x.1.length x.2.2.1), (10, .slice x.2.2.2.2.2.1 x.2.2.2.2.1.length x.2.2.2.2.2.2.1)]) (fun x => x.2.2.2.2.2.2.2 ++ (x.2.2.2.1 ++ (N ++ L))) (fun x => x.1.length) (S0, a, c, B, [], none, 0, []) ⟨rfl, hB, ORow.nil _, hbd.name, by dsimp only; simp; omega⟩ ?_ (fun w h => h) ?_
   exact jr
   clear hB hbd hfew
   rintro ⟨sets, a, c, B, out, ao, co, Bo⟩ ⟨h1, hB, hBo, hnm, hle⟩
   dsimp only at h1 hB hBo hnm hle ⊢
   by_cases hpos : 0 < sets.length
   · have hcap := hB.cap
     obtain ⟨b2, cur, rfl, hBe, _, _, _, hcur⟩ := hB.block (fun e => by rw [e] at hpos; simp at hpos)
     refine goA ?_
     refine jy (σ := Nat) (fun k => k < sets.length) (fun k => [(3, .slice (some ⟨b2, 0, none⟩) sets.length c), (10, .slice ao out.length co), (11, .int .i64 (Vd.leastAt sets k : Nat)), (12, .int .i64 ((k + 1 : Nat) : Int))]) (fun k => Bo ++ (B ++ (N ++ L))) (fun k => sets.length - k) 0 hpos ?_ (fun w h => h) ?_
     exact jr
     intro k hk
     obtain ⟨hm1, hm2⟩ := QV sets k hk
     by_cases hk1 : k + 1 < sets.length
     · obtain ⟨s, hs⟩ : ∃ s, sets[k + 1]? = some s := ⟨_, List.getElem?_eq_getElem hk1⟩
       obtain ⟨t, ht⟩ : ∃ t, sets[Vd.leastAt sets k]? = some t := ⟨_, List.getElem?_eq_getElem hm1⟩
       have hst := VN hs ht
       obtain ⟨cs, _, hs2, _, hcs⟩ := hcur _ s hs
       obtain ⟨ct, _, ht2, _, hct⟩ := hcur _ t ht
       obtain ⟨sa, sc, rfl, _⟩ := hs2.val
       obtain ⟨ta, tc, rfl, _⟩ := ht2.val
       have hsn := hnm s (List.mem_of_getElem? hs)
       have htn := hnm t (List.mem_of_getElem? ht)
       rw [← Nat.zero_add ((k + 1) * 5)] at hcs
       rw [← Nat.zero_add (Vd.leastAt sets k * 5)] at hct
       have hKm : ∀ z ∈ [(b2, Obj.cells cur 122 (0, 0))], z ∈ Bo ++ (B ++ (N ++ L)) := by rw [hBe]; exact jf
       cases hb : Vd.before s t with
       | true =>
         rw [hb, if_pos rfl] at hst
         refine goA ?_
         refine jq jb ([(b2, Obj.cells cur 122 (0, 0))]) [] ?_
         refine tkQ 0 ?_
         refine tkQ 1 ?_
         refine tkQ 2 ?_
         (refine' jp 3 rfl rfl je (jL (jA [.string (bs s.name), .int .u16 s.kind, .int .u16 s.cls, .int .u32 s.ttl, .slice sa s.data.length sc] rfl stL (List.mem_cons_self ..) hcs)) ?_ ?_; (· assumption))
         refine tkQ 4 ?_
         refine tkQ 5 ?_
         refine tkQ 6 ?_
         (refine' jp 7 rfl rfl je (jL (jA [.string (bs t.name), .int .u16 t.kind, .int .u16 t.cls, .int .u32 t.ttl, .slice ta t.data.length tc] rfl stL (List.mem_cons_self ..) hct)) ?_ ?_; (· assumption))
         refine' jp 8 rfl rfl je (jV je rfl (fun _ _ => (WW _ _ _ _ hs2 ht2) ?_ ?_)) ?_ ?_; (· omega); (· omega); (· assumption)
         refine tdQ ?_
         refine goA ?_
         refine jh (k + 1) hk1 ?_ (fun w h => h) jd
         rw [hst]
         exact jr
       | false =>
         rw [hb, if_neg (by simp)] at hst
         refine goA ?_
         refine jq jb ([(b2, Obj.cells cur 122 (0, 0))]) [] ?_
         refine tkQ 0 ?_
         refine tkQ 1 ?_
         refine tkQ 2 ?_
         (refine' jp 3 rfl rfl je (jL (jA [.string (bs s.name), .int .u16 s.kind, .int .u16 s.cls, .int .u32 s.ttl, .slice sa s.data.length sc] rfl stL (List.mem_cons_self ..) hcs)) ?_ ?_; (· assumption))
         refine tkQ 4 ?_
         refine tkQ 5 ?_
         refine tkQ 6 ?_
         (refine' jp 7 rfl rfl je (jL (jA [.string (bs t.name), .int .u16 t.kind, .int .u16 t.cls, .int .u32 t.ttl, .slice ta t.data.length tc] rfl stL (List.mem_cons_self ..) hct)) ?_ ?_; (· assumption))
         refine' jp 8 rfl rfl je (jV je rfl (fun _ _ => (WW _ _ _ _ hs2 ht2) ?_ ?_)) ?_ ?_; (· omega); (· omega); (· assumption)
         refine tdQ ?_
         refine goA ?_
         refine jh (k + 1) hk1 ?_ (fun w h => h) jd
         rw [hst]
         exact jr
     · have hkl : sets.length = k + 1 := by omega
       obtain ⟨mi, hmi⟩ : ∃ m, Vd.leastAt sets k = m := ⟨_, rfl⟩
       rw [hmi] at hm1 hm2 ⊢
       obtain ⟨s, hs⟩ : ∃ s, sets[mi]? = some s := ⟨_, List.getElem?_eq_getElem hm1⟩
       obtain ⟨cs, _, hs2, _, hcs⟩ := hcur _ s hs
       obtain ⟨sa, sc, rfl, _⟩ := hs2.val
       rw [← Nat.zero_add (mi * 5)] at hcs
       have hmem : (b2, Obj.cells cur 122 (0, 0)) ∈ Bo ++ (B ++ (N ++ L)) := by rw [hBe]; simp
       have hrise : Vd.rise sets.length sets = [s] ++ Vd.rise (sets.eraseIdx mi).length (sets.eraseIdx mi) := by
        have he : (sets.eraseIdx mi).length = k := by rw [List.length_eraseIdx_of_lt hm1]; omega
        rw [he, hkl]
        match sets, hkl with
        | t :: r, hkl =>
          have hr : r.length = k := by simpa using hkl
          rw [Vd.rise, hr, hmi, hs]
       have hsl : sliceR 5 (fun _ => rsR N) (B ++ N) [.slice (some ⟨b2, 0, none⟩) sets.length c] sets := (hB.imp (r' := fun _ => rsR N) (L' := N) (fun cs x _ h => h)).sliceR j3 jf jf
       have htake : sliceR 5 (fun _ => rsR N) (B ++ N) [.slice (some ⟨b2, 0, none⟩) (sets.take mi).length c] (sets.take mi) := by
        have h := hsl.take (k := mi) jd
        have e : (sets.take mi).length = mi := by rw [List.length_take]; omega
        rw [e]
        exact h
       have hdrop := hsl.drop (k := mi + 1) jd
       rw [show sets.length - (mi + 1) = (sets.drop (mi + 1)).length by rw [List.length_drop]] at hdrop
       refine goA ?_
       refine jB (jA [.string (bs s.name), .int .u16 s.kind, .int .u16 s.cls, .int .u32 s.ttl, .slice sa s.data.length sc] rfl stL hmem hcs) rfl ?_
       repeat (refine j0 (qC etO rfl rfl (by decide)) rfl ?_; intro bLit)
       refine jw (uJ (L0 := N) (y := s) etO rfl rfl hBo hs2 jd (by decide)) rfl ?_
       rintro _ _ ⟨a2, c2, B2, rfl, hB2, rfl⟩
       refine goA ?_
       refine jq jb ([]) [] ?_
       refine tkQ 1 ?_
       refine tkQ 2 ?_
       refine tkQ 3 ?_
       refine tkQ 5 ?_
       refine tkQ 6 ?_
       refine tkQ 7 ?_
       refine tkQ 8 ?_
       refine jF 0 je rfl rfl rfl rfl (yw etO) ?_; rintro _ _ ⟨b0, rfl, rfl⟩; refine ⟨Or.inr (fun p hp => absurd hp (by simp)), ?_⟩
       refine j6 (L' := [(b0, Obj.cells #[] 122 (0, 0))] ++ (B2 ++ (B ++ (N ++ L)))) ?_ jn; refine jF 4 je rfl rfl rfl rfl (kP (r := fun _ => rsR N) (L0 := B ++ N) (l := []) (m := sets.take mi) etO rfl rfl rfl (by rw [List.length_take]; omega) ORow.made htake jf j3 (fun cs y h => rsR.one h) (by simp; omega) (by decide)) ?_; rintro _ _ ⟨a3, c3, B3, rfl, hB3, rfl⟩; refine ⟨Or.inr (fun p hp => absurd hp (by simp)), ?_⟩
       refine jF 9 je rfl rfl rfl rfl (kP (r := fun _ => rsR N) (L0 := B ++ N) (l := [] ++ sets.take mi) (m := sets.drop (mi + 1)) etO rfl rfl rfl (by rw [List.length_drop]; omega) hB3 hdrop jf j3 (fun cs y h => rsR.one h) (by simp; omega) (by decide)) ?_; rintro _ _ ⟨a4, c4, B4, rfl, hB4, rfl⟩; refine ⟨Or.inr (fun p hp => absurd hp (by simp)), ?_⟩
       refine tkQ 10 ?_
       refine tdQ ?_
       repeat (with_reducible refine qT ?_)
       refine jh (sets.eraseIdx mi, a4, c4, B4, out ++ [s], a2, c2, B2) ⟨?_, ?_, hB2, fun t ht => hnm t (List.mem_of_mem_eraseIdx ht), ?_⟩ ?_ (fun w h => h.cnt jn) ?_
       · dsimp only
         rw [List.append_assoc, ← hrise]
         exact h1
       · have := hB4.imp (r' := rsR) (L' := N) (fun cs x _ h => h)
         rw [List.nil_append, UX] at this
         exact this
       · dsimp only
         rw [List.length_eraseIdx_of_lt hm1, List.length_append]
         simp
         omega
       · dsimp only
         rw [List.nil_append, UX]
         exact jr
       · dsimp only
         rw [List.length_eraseIdx_of_lt hm1]
         omega
   · have h0 : sets = [] := List.eq_nil_of_length_eq_zero jd
     subst h0
     have hr : Vd.rise ([] : List RSet).length ([] : List RSet) = [] := rfl
     rw [hr, List.append_nil] at h1
     rw [← h1]
     refine goA ?_
     refine jJ (L' := Bo ++ (N ++ L)) ?_ jn
     refine ji 2 _ rfl rfl ?_
     exact ⟨_, _, _, _, rfl, hBo, hN, rfl⟩
end
section
open Go.RowKit
open Vd (RSet Vdt Vote Rec Quest Piece)
variable {G : World} {L : ja}
def VQ : Rp Quest := fun _ cs q => cs = [.string (bs q.name), .int .u16 q.kind, .int .u16 q.cls] ∧ q.name.length ≤ maxLen ∧ (0 ≤ q.kind ∧ q.kind ≤ 65535) ∧ (0 ≤ q.cls ∧ q.cls ≤ 65535)
def TrOut (N L : ja) (x : Vd.Trail) (u : Value) (M : ja) : Prop := ∃ a c B a2 c2 B2, u = .tuple #[.slice a x.chain.length c, .string (bs x.pos), .slice a2 x.last.length c2, .int .i64 x.e] ∧ ORow rsR 122 5 N a c x.chain B ∧ ORow rsR 122 5 N a2 c2 x.last B2 ∧ M = B2 ++ (B ++ L)
theorem TrOut.bad {N : ja} (e : Int) (p : Vd.Bytes) : TrOut N L ⟨[], p, [], e⟩ (.tuple #[.slice none 0 0, .string (bs p), .slice none 0 0, .int .i64 e]) L := ⟨none, 0, [], none, 0, [], rfl, ORow.nil _, ORow.nil _, rfl⟩
theorem QX {N : ja} {cs : List Value} {s : RSet} {b : Nat} {e : TypeId} (h : rsR N cs s) : ORow rsR e 5 N (some ⟨b, 0, none⟩) 1 [s] [(b, .cells cs.toArray e (0, 0))] := ORow.lit1 h.len h h.one
theorem zW {l : List RSet} {n : Vd.Bytes} {k c : Int} (h : (Vd.findS l n k c).2 = true) : (Vd.findS l n k c).1 ∈ l := by
 unfold Vd.findS at h ⊢
 split
 · rename_i s hs
   exact List.mem_of_find?_eq_some hs
 · rename_i hs
   rw [hs] at h
   cases h
theorem abQ {K N : ja} (cq : List Value) (q : Quest) (v : Value) (l : List RSet) (hq : VQ L cq q) (hqn : q.name.length ≤ 1000000) (hK : ∀ p ∈ K, p ∈ L) (hN : ∀ p ∈ N, p ∈ L) (hl : sliceR 5 (fun _ => rsR N) K [v] l) (hs : ∀ s ∈ l, s.name.length ≤ 1000000) (hd : ∀ s ∈ l, ∀ d ∈ s.data, d.length ≤ 1000000) :
 Spec Tryz.prog G 77 #[.agg cq.toArray, v] L (TrOut N L (Vd.follow q l)) := by
 obtain ⟨rfl, _, hk0, hc0⟩ := hq
 obtain ⟨av, cv, e1, hl⟩ := hl.val
 simp only [List.cons.injEq, and_true] at e1
 subst e1
 refine jm (n := 111) Tryz.func77 rfl rfl rfl ?_
 cases hm : Nm.may q.name with
 | false =>
   have hT : Vd.follow q l = ⟨[], [], [], 1⟩ := by unfold Vd.follow; rw [hm]; rfl
   rw [hT]
   repeat (first | refine goA ?_ | (refine' jU (jc je rfl (kG _ ?_)) rfl ?_; (· omega)) | (refine kl ?_; intro bBox))
   refine ju (fun w h => h.tail) ?_
   refine qV 4 5 6 7 _ _ _ _ rfl rfl rfl rfl rfl ?_
   exact TrOut.bad _ _
 | true =>
 have hT : Vd.follow q l = Vd.followGo q l 9 (Nm.fold q.name) [Nm.fold q.name] [] := by unfold Vd.follow; rw [hm]; rfl
 rw [hT]
 have hf0 := ug q.name
 repeat (first | refine goA ?_ | (refine' jU (jc je rfl (kG _ ?_)) rfl ?_; (· omega)) | (refine' jU (jc je rfl (qQ _ ?_)) rfl ?_; (· omega)) | (refine kl ?_; intro bBox) | (refine jS ?_; intro bLit))
 refine jy (σ := Vd.Bytes × List Vd.Bytes × List RSet × Option Addr × Nat × ja × Option Addr × Nat × ja) (fun x => Vd.followGo q l (9 - x.2.2.1.length) x.1 x.2.1 x.2.2.1 = Vd.followGo q l 9 (Nm.fold q.name) [Nm.fold q.name] [] ∧ x.2.2.1.length ≤ 8 ∧ x.2.1.length = x.2.2.1.length + 1 ∧ x.1.length ≤ 255 ∧ ORow qB 9 1 L x.2.2.2.1 x.2.2.2.2.1 x.2.1 x.2.2.2.2.2.1 ∧ ORow rsR 122 5 N x.2.2.2.2.2.2.1 x.2.2.2.2.2.2.2.1 x.2.2.1 x.2.2.2.2.2.2.2.2)
  (fun x => [(1, .slice av l.length cv), (2, .pointer (some ⟨bBox, 0, none⟩)), (8, .string (bs x.1)), (9, .slice x.2.2.2.1 x.2.1.length x.2.2.2.2.1), (10, .slice x.2.2.2.2.2.2.1 x.2.2.1.length x.2.2.2.2.2.2.2.1)])
  (fun x => (bBox, Obj.cells #[.string (bs q.name), .int .u16 q.kind, .int .u16 q.cls] 24 (0, 0)) :: (x.2.2.2.2.2.1 ++ (x.2.2.2.2.2.2.2.2 ++ L))) (fun x => 9 - x.2.2.1.length) (Nm.fold q.name, [Nm.fold q.name], [], some ⟨bLit, 0, none⟩, 1, [(bLit, Obj.cells #[.string (bs (Nm.fold q.name))] 9 (0, 0))], none, 0, []) ⟨rfl, by simp, rfl, hf0, ORow.lit1 rfl ⟨rfl, by unfold maxLen; omega⟩ (by intro v hv; rw [List.mem_singleton.1 hv]; rfl), ORow.nil _⟩ ?_ (fun w h => h.cnt jn) ?_
 exact jr
 rintro ⟨pos, met, chain, am, cm, Bm, ac, cc, Bc⟩ ⟨h1, h2, h3, h4, hM, hC⟩
 dsimp only at h1 h2 h3 h4 hM hC ⊢
 have htail : ∀ (hend : Vd.trailEnd q l pos chain = Vd.followGo q l 9 (Nm.fold q.name) [Nm.fold q.name] []), True := fun _ => trivial
 obtain ⟨f, hf⟩ : ∃ f, 9 - chain.length = f + 1 := ⟨8 - chain.length, by omega⟩
 have hf' : 9 - (chain.length + 1) = f := by omega
 rw [hf] at h1
 rw [Vd.followGo] at h1
 by_cases hk5 : q.kind = 5
 · rw [if_pos hk5] at h1
   refine goA ?_
   refine jw (jc je rfl (Qx _ l pos q.kind q.cls (fun p hp => List.mem_cons_of_mem _ (List.mem_append_right _ (List.mem_append_right _ (hK p hp)))) hl jd hs)) rfl ?_
   rintro _ _ ⟨cs2, rfl, hs2, rfl⟩
   obtain ⟨⟨s2, is2⟩, hF2⟩ : ∃ x, Vd.findS l pos q.kind q.cls = x := ⟨_, rfl⟩
   unfold Vd.trailEnd at h1
   rw [hF2] at hs2 h1 ⊢
   dsimp only at hs2 h1 ⊢
   obtain ⟨a2, c2, rfl, _⟩ := hs2.vals
   rw [← h1]
   cases is2 with
   | false =>
     simp only [Bool.false_eq_true, if_false]
     repeat (first | refine goA ?_ | (refine jO ?_; intro bNew))
     refine jJ (L' := Bc ++ L) ?_ jn
     refine qV 4 5 6 7 _ _ _ _ rfl rfl rfl rfl rfl ?_
     exact ⟨ac, cc, Bc, none, 0, [], rfl, hC, ORow.nil _, rfl⟩
   | true =>
     simp only [if_true]
     repeat (first | refine goA ?_ | (refine jO ?_; intro bNew))
     revert bNew
     intro bS2
     have hKm : ∀ z ∈ [(bS2, Obj.cells #[.string (bs s2.name), .int .u16 s2.kind, .int .u16 s2.cls, .int .u32 s2.ttl, .slice a2 s2.data.length c2] 122 (0, 0))], z ∈ (bS2, Obj.cells #[.string (bs s2.name), .int .u16 s2.kind, .int .u16 s2.cls, .int .u32 s2.ttl, .slice a2 s2.data.length c2] 122 (0, 0)) :: ((bBox, Obj.cells #[.string (bs q.name), .int .u16 q.kind, .int .u16 q.cls] 24 (0, 0)) :: (Bm ++ (Bc ++ L))) := fun z hz => by rw [List.mem_singleton.1 hz]; exact List.mem_cons_self ..
     refine jq jb ([(bS2, Obj.cells #[.string (bs s2.name), .int .u16 s2.kind, .int .u16 s2.cls, .int .u32 s2.ttl, .slice a2 s2.data.length c2] 122 (0, 0))]) [] ?_
     refine tkQ 0 ?_
     refine tkQ 1 ?_
     refine tkQ 2 ?_
     refine tkQ 4 ?_
     refine tkQ 5 ?_
     refine jF 3 je rfl rfl rfl rfl (qC etO rfl rfl (by decide)) ?_; rintro _ _ ⟨bL2, rfl, rfl⟩; refine ⟨Or.inr (fun p hp => List.mem_cons_of_mem _ (hKm p hp)), ?_⟩
     refine tkQ 6 ?_
     refine tkQ 7 ?_
     refine tdQ ?_
     refine goA ?_
     refine jJ (L' := [(bL2, Obj.cells #[.string (bs s2.name), .int .u16 s2.kind, .int .u16 s2.cls, .int .u32 s2.ttl, .slice a2 s2.data.length c2] 122 (0, 0))] ++ (Bc ++ L)) ?_ jn
     refine qV 4 5 6 7 _ _ _ _ rfl rfl rfl rfl rfl ?_
     exact ⟨ac, cc, Bc, _, _, _, rfl, hC, QX hs2, rfl⟩
 rw [if_neg hk5] at h1
 obtain ⟨⟨s1, is1⟩, hF1⟩ : ∃ x, Vd.findS l pos 5 q.cls = x := ⟨_, rfl⟩
 refine goA ?_
 refine jw (jc je rfl (Qx _ l pos 5 q.cls (fun p hp => List.mem_cons_of_mem _ (List.mem_append_right _ (List.mem_append_right _ (hK p hp)))) hl jd hs)) rfl ?_
 rintro _ _ ⟨cs1, rfl, hs1, rfl⟩
 rw [hF1] at hs1 h1 ⊢
 dsimp only at hs1 h1 ⊢
 obtain ⟨a1, c1, rfl, hs1d, _⟩ := hs1.vals
 cases is1 with
 | false =>
   simp only [Bool.not_false, Bool.not_true, Bool.true_or, Bool.false_or, if_true, Bool.false_eq_true, if_false] at h1
   repeat (first | refine goA ?_ | (refine jO ?_; intro bNew))
   revert bNew
   intro bS1
   refine jw (jc je rfl (Qx _ l pos q.kind q.cls (fun p hp => List.mem_cons_of_mem _ (List.mem_cons_of_mem _ (List.mem_append_right _ (List.mem_append_right _ (hK p hp))))) hl jd hs)) rfl ?_
   rintro _ _ ⟨cs2, rfl, hs2, rfl⟩
   obtain ⟨⟨s2, is2⟩, hF2⟩ : ∃ x, Vd.findS l pos q.kind q.cls = x := ⟨_, rfl⟩
   unfold Vd.trailEnd at h1
   rw [hF2] at hs2 h1 ⊢
   dsimp only at hs2 h1 ⊢
   obtain ⟨a2, c2, rfl, _⟩ := hs2.vals
   rw [← h1]
   cases is2 with
   | false =>
     simp only [Bool.false_eq_true, if_false]
     repeat (first | refine goA ?_ | (refine jO ?_; intro bNew))
     refine jJ (L' := Bc ++ L) ?_ jn
     refine qV 4 5 6 7 _ _ _ _ rfl rfl rfl rfl rfl ?_
     exact ⟨ac, cc, Bc, none, 0, [], rfl, hC, ORow.nil _, rfl⟩
   | true =>
     simp only [if_true]
     repeat (first | refine goA ?_ | (refine jO ?_; intro bNew))
     revert bNew
     intro bS2
     have hKm : ∀ z ∈ [(bS2, Obj.cells #[.string (bs s2.name), .int .u16 s2.kind, .int .u16 s2.cls, .int .u32 s2.ttl, .slice a2 s2.data.length c2] 122 (0, 0))], z ∈ (bS2, Obj.cells #[.string (bs s2.name), .int .u16 s2.kind, .int .u16 s2.cls, .int .u32 s2.ttl, .slice a2 s2.data.length c2] 122 (0, 0)) :: ((bS1, Obj.cells #[.string (bs s1.name), .int .u16 s1.kind, .int .u16 s1.cls, .int .u32 s1.ttl, .slice a1 s1.data.length c1] 122 (0, 0)) :: ((bBox, Obj.cells #[.string (bs q.name), .int .u16 q.kind, .int .u16 q.cls] 24 (0, 0)) :: (Bm ++ (Bc ++ L)))) := fun z hz => by rw [List.mem_singleton.1 hz]; exact List.mem_cons_self ..
     refine jq jb ([(bS2, Obj.cells #[.string (bs s2.name), .int .u16 s2.kind, .int .u16 s2.cls, .int .u32 s2.ttl, .slice a2 s2.data.length c2] 122 (0, 0))]) [] ?_
     refine tkQ 0 ?_
     refine tkQ 1 ?_
     refine tkQ 2 ?_
     refine tkQ 4 ?_
     refine tkQ 5 ?_
     refine jF 3 je rfl rfl rfl rfl (qC etO rfl rfl (by decide)) ?_; rintro _ _ ⟨bL2, rfl, rfl⟩; refine ⟨Or.inr (fun p hp => List.mem_cons_of_mem _ (hKm p hp)), ?_⟩
     refine tkQ 6 ?_
     refine tkQ 7 ?_
     refine tdQ ?_
     refine goA ?_
     refine jJ (L' := [(bL2, Obj.cells #[.string (bs s2.name), .int .u16 s2.kind, .int .u16 s2.cls, .int .u32 s2.ttl, .slice a2 s2.data.length c2] 122 (0, 0))] ++ (Bc ++ L)) ?_ jn
     refine qV 4 5 6 7 _ _ _ _ rfl rfl rfl rfl rfl ?_
     exact ⟨ac, cc, Bc, _, _, _, rfl, hC, QX hs2, rfl⟩
 | true =>
 simp only [Bool.not_false, Bool.not_true, Bool.true_or, Bool.false_or, if_true, Bool.false_eq_true, if_false] at h1
 by_cases h8 : 8 ≤ chain.length
 · rw [if_pos h8] at h1
   rw [← h1]
   repeat (first | refine goA ?_ | (refine jO ?_; intro bNew))
   refine jJ (L' := L) ?_ jn
   refine qV 4 5 6 7 _ _ _ _ rfl rfl rfl rfl rfl ?_
   exact TrOut.bad _ _
 rw [if_neg h8] at h1
 obtain ⟨⟨s2, is2⟩, hF2⟩ : ∃ x, Vd.findS l pos q.kind q.cls = x := ⟨_, rfl⟩
 repeat (first | refine goA ?_ | (refine jO ?_; intro bNew))
 revert bNew
 intro bS1
 refine jw (jc je rfl (Qx _ l pos q.kind q.cls (fun p hp => List.mem_cons_of_mem _ (List.mem_cons_of_mem _ (List.mem_append_right _ (List.mem_append_right _ (hK p hp))))) hl jd hs)) rfl ?_
 rintro _ _ ⟨cs2, rfl, hs2, rfl⟩
 rw [hF2] at hs2 h1 ⊢
 dsimp only at hs2 h1 ⊢
 obtain ⟨a2, c2, rfl, _⟩ := hs2.vals
 have hs1l : s1 ∈ l := by have := zW (l := l) (n := pos) (k := 5) (c := q.cls); rw [hF1] at this; exact this rfl
 by_cases hd1 : s1.data.length = 1
 · obtain ⟨d, hdd⟩ : ∃ d, s1.data = [d] := by
    match hh : s1.data, hd1 with
    | [d], _ => exact ⟨d, rfl⟩
   have hdl := hd s1 hs1l d (by rw [hdd]; exact List.mem_cons_self ..)
   obtain ⟨_, _, _, hs1c⟩ := qH hs1d
   rcases hs1c with h0 | ⟨b3, o3, C3, t3, f3, rfl, m3, q3⟩
   · rw [h0] at hd1; simp at hd1
   have m3 := List.mem_append_right Bm (List.mem_append_right Bc (hN _ m3))
   have g3 : C3[o3 + (0 : Int).toNat * 1]? = some (.string (bs d)) := q3 0 d (by rw [hdd]; rfl)
   rw [hdd] at h1
   dsimp only at h1
   have hd1' : ((s1.data.length : Nat) : Int) = 1 := by omega
   cases hmd : Nm.may d with
   | false =>
     rw [hmd] at h1
     simp only [Bool.not_false, Bool.not_true, Bool.true_or, Bool.false_or, if_true, Bool.false_eq_true, if_false] at h1
     rw [← h1]
     repeat (first | refine goA ?_ | (refine' kf (jc je rfl (kG _ ?_)) rfl ?_; (· omega)) | (refine jO ?_; intro bNew))
     refine jJ (L' := L) ?_ jn
     refine qV 4 5 6 7 _ _ _ _ rfl rfl rfl rfl rfl ?_
     exact TrOut.bad _ _
   | true =>
   rw [hmd] at h1
   cases is2 with
   | true =>
     simp only [Bool.not_false, Bool.not_true, Bool.true_or, Bool.false_or, if_true, Bool.false_eq_true, if_false] at h1
     rw [← h1]
     repeat (first | refine goA ?_ | (refine' kf (jc je rfl (kG _ ?_)) rfl ?_; (· omega)) | (refine jO ?_; intro bNew))
     refine jJ (L' := L) ?_ jn
     refine qV 4 5 6 7 _ _ _ _ rfl rfl rfl rfl rfl ?_
     exact TrOut.bad _ _
   | false =>
   simp only [Bool.not_false, Bool.not_true, Bool.true_or, Bool.false_or, if_true, Bool.false_eq_true, if_false] at h1
   have hfd := ug d
   have hcapm := hM.cap
   repeat (first | refine goA ?_ | (refine' kf (jc je rfl (kG _ ?_)) rfl ?_; (· omega)) | (refine' jU (jc je rfl (qQ _ ?_)) rfl ?_; (· omega)) | (refine jO ?_; intro bNew))
   refine jy (σ := Nat) (fun i => i ≤ met.length ∧ (met.take i).contains (Nm.fold d) = false) (fun i => [(1, .slice av l.length cv), (2, .pointer (some ⟨bBox, 0, none⟩)), (8, .string (bs (Nm.fold d))), (9, .slice am met.length cm), (10, .slice ac chain.length cc), (11, .pointer (some ⟨bS1, 0, none⟩)), (15, .int .i64 (i : Nat))])
    (fun i => (bBox, Obj.cells #[.string (bs q.name), .int .u16 q.kind, .int .u16 q.cls] 24 (0, 0)) :: ((bS1, Obj.cells #[.string (bs s1.name), .int .u16 s1.kind, .int .u16 s1.cls, .int .u32 s1.ttl, .slice (some ⟨b3, o3, none⟩) s1.data.length c1] 122 (0, 0)) :: (Bm ++ (Bc ++ L)))) (fun i => met.length - i) 0 ⟨Nat.zero_le _, by simp⟩ ?_ (fun w h => h.cnt jn) ?_
   exact jr
   rintro i ⟨hi, hcon⟩
   by_cases hil : i < met.length
   · obtain ⟨b4, cur, rfl, hBe, _, _, _, hcur⟩ := hM.block (fun e => by rw [e] at hil; simp at hil)
     obtain ⟨y, hy⟩ : ∃ y, met[i]? = some y := ⟨_, List.getElem?_eq_getElem hil⟩
     obtain ⟨cy, _, ⟨rfl, _⟩, _, hcy⟩ := hcur i y hy
     have g4 : cur[0 + i * 1]? = some (.string (bs y)) := by rw [Nat.zero_add]; exact hcy 0 _ rfl
     have m4 : (b4, Obj.cells cur 9 (0, 0)) ∈ (bBox, Obj.cells #[.string (bs q.name), .int .u16 q.kind, .int .u16 q.cls] 24 (0, 0)) :: ((bS1, Obj.cells #[.string (bs s1.name), .int .u16 s1.kind, .int .u16 s1.cls, .int .u32 s1.ttl, .slice (some ⟨b3, o3, none⟩) s1.data.length c1] 122 (0, 0)) :: (Bm ++ (Bc ++ L))) := by rw [hBe]; simp
     by_cases hyd : y = Nm.fold d
     · have hc : met.contains (Nm.fold d) = true := by rw [List.contains_iff_mem, ← hyd]; exact List.mem_of_getElem? hy
       rw [hc] at h1
       simp only [if_true] at h1
       rw [← h1]
       refine goA ?_
       refine jJ (L' := L) ?_ jn
       refine qV 4 5 6 7 _ _ _ _ rfl rfl rfl rfl rfl ?_
       exact TrOut.bad _ _
     · refine goA ?_
       refine jh (i + 1) ⟨hil, ?_⟩ ?_ (fun w h => h) jd
       · rw [List.take_add_one, hy, List.contains_eq_any_beq, List.any_append, ← List.contains_eq_any_beq, hcon]
         simp
         exact fun e => hyd e.symm
       exact jr
   · have hie : i = met.length := by omega
     subst hie
     rw [List.take_length] at hcon
     rw [hcon] at h1
     simp only [Bool.false_eq_true, if_false] at h1
     repeat (first | refine goA ?_ | (refine jS ?_; intro bLit))
     refine jH (L' := (bLit, Obj.cells #[.string (bs (Nm.fold d))] 9 (0, 0)) :: (Bm ++ ((bBox, Obj.cells #[.string (bs q.name), .int .u16 q.kind, .int .u16 q.cls] 24 (0, 0)) :: ((bS1, Obj.cells #[.string (bs s1.name), .int .u16 s1.kind, .int .u16 s1.cls, .int .u32 s1.ttl, .slice (some ⟨b3, o3, none⟩) s1.data.length c1] 122 (0, 0)) :: (Bc ++ L))))) ?_ jn
     refine jw (qy (L0 := L) (y := Nm.fold d) etO rfl rfl hM (by unfold maxLen; omega) jd (by decide)) rfl ?_
     rintro _ _ ⟨am', cm', Bm', rfl, hM', rfl⟩
     refine jH (L' := (bS1, Obj.cells #[.string (bs s1.name), .int .u16 s1.kind, .int .u16 s1.cls, .int .u32 s1.ttl, .slice (some ⟨b3, o3, none⟩) s1.data.length c1] 122 (0, 0)) :: ((bBox, Obj.cells #[.string (bs q.name), .int .u16 q.kind, .int .u16 q.cls] 24 (0, 0)) :: (Bm' ++ (Bc ++ L)))) ?_ jn
     repeat (first | refine goA ?_ | (refine jS ?_; intro bLit))
     refine jH (L' := (bLit, Obj.cells #[.string (bs s1.name), .int .u16 s1.kind, .int .u16 s1.cls, .int .u32 s1.ttl, .slice (some ⟨b3, o3, none⟩) s1.data.length c1] 122 (0, 0)) :: (Bc ++ ((bBox, Obj.cells #[.string (bs q.name), .int .u16 q.kind, .int .u16 q.cls] 24 (0, 0)) :: (Bm' ++ L)))) ?_ jn
     refine jw (uJ (L0 := N) (y := s1) etO rfl rfl hC hs1 jd (by decide)) rfl ?_
     rintro _ _ ⟨ac', cc', Bc', rfl, hC', rfl⟩
     refine goA ?_
     refine jh (Nm.fold d, met ++ [Nm.fold d], chain ++ [s1], am', cm', Bm', ac', cc', Bc') ⟨?_, by dsimp only; simp; omega, by simp [h3], hfd, hM', hC'⟩ ?_ (fun w h => h.cnt jn) (by dsimp only; simp; omega)
     · dsimp only
       rw [List.length_append, List.length_singleton, hf']
       exact h1
     exact jr
 · have hd1' : ¬ ((s1.data.length : Nat) : Int) = 1 := by omega
   have h1' : (⟨[], [], [], 3⟩ : Vd.Trail) = Vd.followGo q l 9 (Nm.fold q.name) [Nm.fold q.name] [] := by
    rw [← h1]
    match hh : s1.data, hd1 with
    | [], _ => rfl
    | [d], h => simp at h
    | _ :: _ :: _, _ => rfl
   rw [← h1']
   repeat (first | refine goA ?_ | (refine jO ?_; intro bNew))
   refine jJ (L' := L) ?_ jn
   refine qV 4 5 6 7 _ _ _ _ rfl rfl rfl rfl rfl ?_
   exact TrOut.bad _ _
end
section
open Go.RowKit
open Vd (RSet Vdt Vote Rec Quest Piece)
def msgR : Rp Vd.Msg := fun L cs m => ∃ h0 h1 h2 h3 h4 h5 h6 h7 h8 h9 q a b x k e0 e1 e2 e3 e4, cs = [h0, h1, h2, h3, h4, h5, h6, h7, h8, h9, .int .u8 m.code, q, a, b, x, k, e0, e1, e2, e3, e4] ∧ sliceR 5 yR L [a] m.answers ∧ sliceR 5 yR L [b] m.auth ∧ (0 ≤ m.code ∧ m.code ≤ 255) ∧ ∀ v ∈ cs, v.oneCell' = true
theorem QY : ∀ (f : Nat) (l : List RSet) (s : RSet), s ∈ Vd.rise f l → s ∈ l
 | 0, l, s, h => by simp [Vd.rise] at h
 | f + 1, [], s, h => by simp [Vd.rise] at h
 | f + 1, t :: l, s, h => by
   rw [Vd.rise] at h
   rcases List.mem_append.1 h with h | h
   · split at h
     · rename_i x hx
       rw [List.mem_singleton.1 h]
       exact List.mem_of_getElem? hx
     · simp at h
   · exact List.mem_of_mem_eraseIdx (QY f _ s h)
theorem WY : ∀ (f : Nat) (l : List RSet), (Vd.rise f l).length ≤ f
 | 0, l => by simp [Vd.rise]
 | f + 1, [] => by simp [Vd.rise]
 | f + 1, t :: l => by
   rw [Vd.rise, List.length_append]
   have h1 := WY f ((t :: l).eraseIdx (Vd.leastAt (t :: l) l.length))
   split
   · simp only [List.length_singleton]; omega
   · simp only [List.length_nil]; omega
theorem yf {D : Nat} (l : List Rec) (hl : ∀ x ∈ l, x.data.length ≤ D) : (Vd.group l).length ≤ l.length ∧ ∀ s ∈ Vd.group l, s.name.length ≤ 255 ∧ s.data.length ≤ l.length ∧ s.data ≠ [] ∧ ∀ d ∈ s.data, d.length ≤ D := by
 have h := J4 l hl l.length (Nat.le_refl _)
 rw [List.take_length] at h
 refine ⟨Nat.le_trans (WY _ _) h.few, fun s hs => ?_⟩
 have hm := QY _ _ s hs
 exact ⟨h.name s hm, h.data s hm, h.one s hm, h.datum s hm⟩
theorem KU {q : Quest} {l chain : List RSet} {pos : Vd.Bytes} (hc : ∀ s ∈ chain, s ∈ l) : (∀ s ∈ (Vd.trailEnd q l pos chain).chain, s ∈ l) ∧ (∀ s ∈ (Vd.trailEnd q l pos chain).last, s ∈ l) ∧ (Vd.trailEnd q l pos chain).chain.length ≤ chain.length ∧ (Vd.trailEnd q l pos chain).last.length ≤ 1 ∧ (Vd.trailEnd q l pos chain).pos.length ≤ pos.length := by
 unfold Vd.trailEnd
 split
 · rename_i h
   refine ⟨hc, fun s hs => ?_, Nat.le_refl _, by simp, Nat.le_refl _⟩
   rw [List.mem_singleton.1 hs]
   exact zW h
 · exact ⟨hc, by simp, Nat.le_refl _, by simp, Nat.le_refl _⟩
theorem KV {q : Quest} {l : List RSet} : ∀ (f : Nat) (pos : Vd.Bytes) (met : List Vd.Bytes) (chain : List RSet), (∀ s ∈ chain, s ∈ l) → pos.length ≤ 255 →
 (∀ s ∈ (Vd.followGo q l f pos met chain).chain, s ∈ l) ∧ (∀ s ∈ (Vd.followGo q l f pos met chain).last, s ∈ l) ∧ (Vd.followGo q l f pos met chain).chain.length ≤ chain.length + f ∧ (Vd.followGo q l f pos met chain).last.length ≤ 1 ∧ (Vd.followGo q l f pos met chain).pos.length ≤ 255
 | 0, pos, met, chain, hc, hp => by
   have := KU (q := q) (pos := pos) hc
   exact ⟨this.1, this.2.1, by have := this.2.2.1; rw [Vd.followGo]; omega, this.2.2.2.1, Nat.le_trans this.2.2.2.2 hp⟩
 | f + 1, pos, met, chain, hc, hp => by
   have he := KU (q := q) (pos := pos) hc
   have hend : (∀ s ∈ (Vd.trailEnd q l pos chain).chain, s ∈ l) ∧ (∀ s ∈ (Vd.trailEnd q l pos chain).last, s ∈ l) ∧ (Vd.trailEnd q l pos chain).chain.length ≤ chain.length + (f + 1) ∧ (Vd.trailEnd q l pos chain).last.length ≤ 1 ∧ (Vd.trailEnd q l pos chain).pos.length ≤ 255 := ⟨he.1, he.2.1, by have := he.2.2.1; omega, he.2.2.2.1, Nat.le_trans he.2.2.2.2 hp⟩
   rw [Vd.followGo]
   split
   · exact hend
   split
   · exact hend
   rename_i h5 hf
   split
   · simp
   split
   · rename_i d hd
     split
     · simp
     split
     · simp
     · have := KV (q := q) f (Nm.fold d) (met ++ [Nm.fold d]) (chain ++ [(Vd.findS l pos 5 q.cls).1]) (fun s hs => by
        rcases List.mem_append.1 hs with hs | hs
        · exact hc s hs
        · rw [List.mem_singleton.1 hs]; exact zW (by simpa using hf)) (ug _)
       refine ⟨this.1, this.2.1, ?_, this.2.2.2.1, this.2.2.2.2⟩
       have h := this.2.2.1
       simp at h ⊢
       omega
   · simp
theorem UY (q : Quest) (l : List RSet) : (∀ s ∈ (Vd.follow q l).chain, s ∈ l) ∧ (∀ s ∈ (Vd.follow q l).last, s ∈ l) ∧ (Vd.follow q l).chain.length ≤ 9 ∧ (Vd.follow q l).last.length ≤ 1 ∧ (Vd.follow q l).pos.length ≤ 255 := by
 unfold Vd.follow
 split
 · have := KV (q := q) (l := l) 9 (Nm.fold q.name) [Nm.fold q.name] [] (by simp) (ug _)
   simpa using this
 · simp
theorem abR {L : ja} {cs : List Value} {l : List Rec} (h : sliceR 5 yR L cs l) : ∀ y ∈ l, 0 ≤ y.ttl ∧ y.ttl ≤ 4294967295 := fun y hy => by
 obtain ⟨a, cap, _, _, _, h4⟩ := h
 rcases h4 with rfl | ⟨b, off, C, te, fr, _, _, q3⟩
 · simp at hy
 · obtain ⟨i, hi⟩ := List.getElem?_of_mem hy
   obtain ⟨cs', _, ⟨_, _, _, _, _, k⟩, _⟩ := q3 i y hi
   exact k
theorem QZ (l : List Rec) (hl : ∀ y ∈ l, 0 ≤ y.ttl ∧ y.ttl ≤ 4294967295) : ∀ i, i ≤ l.length → ∀ s ∈ Vd.gather (l.take i), 0 ≤ s.ttl ∧ s.ttl ≤ 4294967295
 | 0, _ => by simp [Vd.gather]
 | i + 1, h => by
   have hx : l[i]? = some l[i] := List.getElem?_eq_getElem jd
   have ih := QZ l hl i jd
   have ht := QW (hl l[i] (List.getElem_mem _))
   rw [zi hx]
   unfold Vd.addRec
   split
   · split
     · intro s hs
       rcases List.mem_append.1 hs with hs | hs
       · exact ih s hs
       · rw [List.mem_singleton.1 hs]; exact ht
     · split
       · rename_i j hj s hs
         intro t htm
         rcases List.mem_or_eq_of_mem_set htm with htm | rfl
         · exact ih t htm
         · have := ih s (List.mem_of_getElem? hs)
           dsimp only
           omega
       · exact ih
   · exact ih
theorem aaD (l : List Rec) (hl : ∀ y ∈ l, 0 ≤ y.ttl ∧ y.ttl ≤ 4294967295) : ∀ s ∈ Vd.group l, 0 ≤ s.ttl ∧ s.ttl ≤ 4294967295 := fun s hs => by
 have := QZ l hl l.length (Nat.le_refl _) s
 rw [List.take_length] at this
 exact this (QY _ _ s hs)
theorem Q0 {l : List RSet} {n : Vd.Bytes} {c : Int} (h : (Vd.findSoa l n c).2.1 = true) : (Vd.findSoa l n c).1 ∈ l := by
 unfold Vd.findSoa at h ⊢
 split at h
 · cases h
 · rename_i hb
   rw [if_neg hb]
   split at h
   · rename_i s hs
     split at h
     · cases h
     · rename_i hd
       rw [if_neg hd]
       exact List.mem_of_getElem? hs
   · cases h
theorem WZ : ∀ (d : Vd.Bytes) (n : Int), 0 ≤ n ∧ n ≤ 4294967295 → 0 ≤ d.foldl (fun n c => (n * 256 + ((c : UInt8).toNat : Int)) % 4294967296) n ∧ d.foldl (fun n c => (n * 256 + ((c : UInt8).toNat : Int)) % 4294967296) n ≤ 4294967295
 | [], n, h => h
 | c :: d, n, h => WZ d ((n * 256 + ((c : UInt8).toNat : Int)) % 4294967296) jd
theorem Y1 (s : RSet) : Vd.soaTime s ≤ 4294967295 := by
 unfold Vd.soaTime
 split
 · omega
 split
 · rename_i d hd
   split
   · split
     · omega
     · have := WZ (d.drop (d.length - 4)) 0 jd
       unfold Vd.last4
       omega
   · omega
 · omega
theorem W0 (l : List RSet) (s : RSet) (t : Int) : Vd.leastT (l ++ [s]) t = min (Vd.leastT l t) s.ttl := by simp [Vd.leastT]
theorem UZ : ∀ (l : List RSet) (t : Int), (∀ s ∈ l, 0 ≤ s.ttl ∧ s.ttl ≤ 4294967295) → 0 ≤ t ∧ t ≤ 4294967295 → 0 ≤ Vd.leastT l t ∧ Vd.leastT l t ≤ 4294967295
 | [], t, _, h => h
 | s :: l, t, hl, h => by
   have := hl s (List.mem_cons_self ..)
   exact UZ l (min t s.ttl) (fun x hx => hl x (List.mem_cons_of_mem _ hx)) jd
end
section
open Go.RowKit
open Vd (RSet Vdt Vote Rec Quest Piece)
variable {G : World} {L : ja}
def OfOut (L : ja) (r : Vdt × Int × Int) (u : Value) (M : ja) : Prop := ∃ a c B a2 c2 B2 N, u = .tuple #[.agg #[.int .u8 r.1.code, .slice a r.1.sets.length c, .slice a2 r.1.soa.length c2], .int .u32 r.2.1, .int .i64 r.2.2] ∧
 ORow rsR 122 5 N a c r.1.sets B ∧ ORow rsR 122 5 N a2 c2 r.1.soa B2 ∧ Wr N ∧ M = B2 ++ (B ++ (N ++ L))
theorem OfOut.bad (e : Int) : OfOut L (Vdt.none, 0, e) (.tuple #[.agg #[.int .u8 0, .slice none 0 0, .slice none 0 0], .int .u32 0, .int .i64 e]) L := ⟨none, 0, [], none, 0, [], [], rfl, ORow.nil _, ORow.nil _, Wr.nil, rfl⟩
theorem ZU {N : ja} {s : RSet} {a : Option Addr} {c : Nat} (h : rsR N [.string (bs s.name), .int .u16 s.kind, .int .u16 s.cls, .int .u32 s.ttl, .slice a s.data.length c] s) : rsR N [.string (bs s.name), .int .u16 s.kind, .int .u16 s.cls, .int .u32 0, .slice a s.data.length c] (Vd.bare s) := by
 obtain ⟨d, e, h1, h2, h3, h4, h5⟩ := h
 simp only [List.cons.injEq, true_and, and_true] at e
 subst e
 exact ⟨_, rfl, h1, h2, h3, h4, by simp [Vd.bare]⟩
theorem uK {P : Program} {n : Nat} {ρ : jG} {Q : Exit → Act → World → Prop} {σ : Type} {x y : Code} (I : σ → Prop) (ρI : σ → jG) (LI : σ → ja) (hx : T P G n ρ L x (Exit.then (Mid G n I ρI LI) Q)) (hy : ∀ s, I s → T P G n (ρI s) (LI s) y Q) : T P G n ρ L x (Exit.then (y.wp P Q) Q) :=
 VC hx fun e a w h => by
  cases e with
  | normal =>
    obtain ⟨s, h1, h2, h3⟩ := h
    exact (hy s h1).out a w h2 h3
  | _ => exact h
theorem uk {P : Program} {n : Nat} {ρ : jG} {Q : Exit → Act → World → Prop} {ops : Array Oper} {K : ja} {W : List Nat} {fuel : Nat} {listed : Array Bool} {i d : Nat} {oi : Oper} {Φ : Value → ja → Prop} (hi : ops[i]? = some oi) (hd : oi.dst = some d) (hdn : Nat.blt d n = true) (hg : oi.guard = none)
 (hO : OpT P G ρ L oi.op oi.type Φ) (h : ∀ v L', Φ v L' → (i ∈ W ∨ ∀ p ∈ K, p ∈ L') ∧ TA P G ops n K W Q fuel (listed.setIfInBounds i true) ((d, v) :: ρ) L') : Up P G ops n K W Q fuel listed ρ L i :=
 agU hi (by rw [hd]; exact hdn) hg hO (by rw [hd]; exact h)
theorem qg {P : Program} {ρ : jG} {ty : TypeId} {x y : Operand} {b k : Nat} {t : TypeId} {C D : Array Value} {te : TypeId} (hx : ev ρ x = some (.pointer (some ⟨b, 0, none⟩))) (hy : ev ρ y = some (.agg D))
 (ht : j5 P t k = true) (hC : C.size = k) (hD : D.size = k) (hone : JV D = true) : OpV P G ρ ((b, Obj.cells C te (0, 0)) :: L) (.store t x y) ty undef ((b, Obj.cells D te (0, 0)) :: L) := by
 have h1 := yx (G := G) (P := P) (ρ := ρ) (L := L) (ty := ty) (b := b) (C := C) (te := te) (t := t) (cs := D.toList) hx (by simpa using hy) (by rw [Array.length_toList, hD]; exact ht) (fun v hv => List.all_eq_true.1 hone v hv) (by rw [Array.length_toList, hD, hC]; omega)
 have h2 : qM C 0 D.toList = D := by
  unfold qM
  rw [List.drop_eq_nil_of_le (by simp; omega)]
  simp
 rw [h2] at h1
 exact h1
theorem ajG (cq cm : List Value) (q : Quest) (m : Vd.Msg) (hq : VQ L cq q) (hm : msgR L cm m) (hqn : q.name.length ≤ 1000000) (hA1 : m.answers.length ≤ 10000) (hA2 : ∀ x ∈ m.answers, x.name.length ≤ 1000000 ∧ x.data.length ≤ 1000000)
 (hB1 : m.auth.length ≤ 10000) (hB2 : ∀ x ∈ m.auth, x.name.length ≤ 1000000 ∧ x.data.length ≤ 1000000) : Spec Tryz.prog G 54 #[.agg cq.toArray, .agg cm.toArray] L (OfOut L (Vd.ofM q m)) := by
 have hq0 := hq
 obtain ⟨rfl, _, hk0, hc0⟩ := hq
 obtain ⟨h0, h1, h2, h3, h4, h5, h6, h7, h8, h9, qs, va, vb, x, k, e0, e1, e2, e3, e4, rfl, hma, hmb, hcode, _⟩ := hm
 obtain ⟨aA, cA, ea, hma⟩ := hma.val
 obtain ⟨aB, cB, eb, hmb⟩ := hmb.val
 simp only [List.cons.injEq, and_true] at ea eb
 subst ea eb
 obtain ⟨gl1, gb1⟩ := yf m.answers (fun x hx => (hA2 x hx).2)
 obtain ⟨gl2, gb2⟩ := yf m.auth (fun x hx => (hB2 x hx).2)
 have hOf : Vd.ofM q m = if !Nm.may q.name || (m.code != 0 && m.code != 3) then (Vdt.none, 0, 1) else match Vd.follow q (Vd.group m.answers) with
  | ⟨l, pos, last, e⟩ =>
    if e ≠ 0 then (Vdt.none, 0, e)
    else if m.code = 3 ∧ last ≠ [] then (Vdt.none, 0, 3)
    else if last ≠ [] then (⟨m.code, (l ++ last).map Vd.bare, []⟩, Vd.leastT (l ++ last) 2147483647, 0)
    else match Vd.findSoa (Vd.group m.auth) pos q.cls with
     | (s, is, e) =>
       if e ≠ 0 then (Vdt.none, 0, e)
       else if !is then (⟨m.code, (l ++ last).map Vd.bare, []⟩, 0, 0)
       else (⟨m.code, (l ++ last).map Vd.bare, [Vd.bare s]⟩, min (Vd.leastT (l ++ last) 2147483647) (Vd.soaTime s), 0) := rfl
 have hAt : ∀ y ∈ m.answers, 0 ≤ y.ttl ∧ y.ttl ≤ 4294967295 := abR hma
 have hfi := UY q (Vd.group m.answers)
 have g10 : (#[h0, h1, h2, h3, h4, h5, h6, h7, h8, h9, .int .u8 m.code, qs, .slice aA m.answers.length cA, .slice aB m.auth.length cB, x, k, e0, e1, e2, e3, e4] : Array Value)[0 + 0 + 10]? = some (.int .u8 m.code) := rfl
 have hqm : q.name.length ≤ maxLen := by unfold maxLen; omega
 refine jm (n := 131) Tryz.func54 rfl rfl rfl ?_
 refine kh (jY (j0 (kF rfl) rfl ?_))
 intro bQ
 refine j0 (kF rfl) rfl ?_
 intro bM
 refine j0 (kk zeO rfl) rfl ?_
 intro bV
 cases hmay : Nm.may q.name with
 | false =>
   rw [hOf, hmay]
   repeat (first | refine goA ?_ | (refine' jU (jc je rfl (kG _ ?_)) rfl ?_; (· omega)) | refine jB (jl rfl (j8 )) rfl ?_)
   refine km 4 40 5 6 rfl rfl rfl rfl stO (by repeat (exact List.mem_cons_self)) rfl (fun w h => Heap.cnt (L' := L) h jn) ?_
   exact OfOut.bad _
 | true =>
 by_cases hc3 : m.code = 0 ∨ m.code = 3
 · have hOf2 : Vd.ofM q m = match Vd.follow q (Vd.group m.answers) with
    | ⟨l, pos, last, e⟩ =>
      if e ≠ 0 then (Vdt.none, 0, e)
      else if m.code = 3 ∧ last ≠ [] then (Vdt.none, 0, 3)
      else if last ≠ [] then (⟨m.code, (l ++ last).map Vd.bare, []⟩, Vd.leastT (l ++ last) 2147483647, 0)
      else match Vd.findSoa (Vd.group m.auth) pos q.cls with
       | (s, is, e) =>
         if e ≠ 0 then (Vdt.none, 0, e)
         else if !is then (⟨m.code, (l ++ last).map Vd.bare, []⟩, 0, 0)
         else (⟨m.code, (l ++ last).map Vd.bare, [Vd.bare s]⟩, min (Vd.leastT (l ++ last) 2147483647) (Vd.soaTime s), 0) := by
    rw [hOf, hmay, if_neg (by rcases hc3 with h | h <;> simp [h])]
   rw [hOf2]
   clear hOf hOf2
   have hKm : ∀ z ∈ [(bQ, Obj.cells #[.string (bs q.name), .int .u16 q.kind, .int .u16 q.cls] 24 (0, 0)), (bM, Obj.cells #[h0, h1, h2, h3, h4, h5, h6, h7, h8, h9, .int .u8 m.code, qs, .slice aA m.answers.length cA, .slice aB m.auth.length cB, x, k, e0, e1, e2, e3, e4] 132 (0, 0))], z ∈ (bV, Obj.cells #[.int .u8 0, .slice none 0 0, .slice none 0 0] 40 (0, 0)) :: ((bM, Obj.cells #[h0, h1, h2, h3, h4, h5, h6, h7, h8, h9, .int .u8 m.code, qs, .slice aA m.answers.length cA, .slice aB m.auth.length cB, x, k, e0, e1, e2, e3, e4] 132 (0, 0)) :: ((bQ, Obj.cells #[.string (bs q.name), .int .u16 q.kind, .int .u16 q.cls] 24 (0, 0)) :: L)) := jf
   refine goF ?_
   refine KJ (σ := Unit) (fun _ => True) (fun _ => [(2, .pointer (some ⟨bQ, 0, none⟩)), (3, .pointer (some ⟨bM, 0, none⟩)), (4, .pointer (some ⟨bV, 0, none⟩))]) (fun _ => (bV, Obj.cells #[.int .u8 0, .slice none 0 0, .slice none 0 0] 40 (0, 0)) :: ((bM, Obj.cells #[h0, h1, h2, h3, h4, h5, h6, h7, h8, h9, .int .u8 m.code, qs, .slice aA m.answers.length cA, .slice aB m.auth.length cB, x, k, e0, e1, e2, e3, e4] 132 (0, 0)) :: ((bQ, Obj.cells #[.string (bs q.name), .int .u16 q.kind, .int .u16 q.cls] 24 (0, 0)) :: L))) ?_ ?_
   · rcases hc3 with hc3 | hc3
     · repeat (first | refine goA ?_ | (refine' jU (jc je rfl (kG _ ?_)) rfl ?_; (· omega)))
       refine j9 () trivial ?_ (fun w h => h)
       exact jr
     · repeat (first | refine goA ?_ | (refine' jU (jc je rfl (kG _ ?_)) rfl ?_; (· omega)))
       refine j9 () trivial ?_ (fun w h => h)
       exact jr
   intro _ _
   repeat (with_reducible refine kh ?_)
   refine jq jb ([(bQ, Obj.cells #[.string (bs q.name), .int .u16 q.kind, .int .u16 q.cls] 24 (0, 0)), (bM, Obj.cells #[h0, h1, h2, h3, h4, h5, h6, h7, h8, h9, .int .u8 m.code, qs, .slice aA m.answers.length cA, .slice aB m.auth.length cB, x, k, e0, e1, e2, e3, e4] 132 (0, 0))]) [] ?_
   refine tkQ 0 ?_
   refine tkQ 1 ?_
   refine tkQ 2 ?_
   refine jF 3 je rfl rfl rfl rfl (jc je rfl (VP _ m.answers (jx qx _ _ _ _ jf hma) hA1 (fun x hx => (hA2 x hx).1) (fun x hx => (hA2 x hx).2))) ?_; rintro _ _ ⟨aG, cG, BG, N, rfl, hG, hN, rfl⟩; refine ⟨Or.inr jf, ?_⟩
   refine jF 4 je rfl rfl rfl rfl (jc je rfl (abQ (K := BG) (N := N) _ q _ (Vd.group m.answers) ⟨rfl, hqm, hk0, hc0⟩ hqn jf jf ((hG.imp (r' := fun _ => rsR N) (L' := []) (fun cs x _ h => h)).sliceR j3 jf jf) (fun s hs => Nat.le_trans (gb1 s hs).1 jd) (fun s hs => (gb1 s hs).2.2.2))) ?_; rintro _ _ ⟨aC, cC, BC, aE, cE, BE, rfl, hC, hE, rfl⟩; refine ⟨Or.inr jf, ?_⟩
   refine tkQ 5 ?_
   refine tkQ 6 ?_
   refine tkQ 7 ?_
   refine tkQ 8 ?_
   refine tkQ 9 ?_
   refine tkQ 10 ?_
   refine tkQ 11 ?_
   refine tkQ 12 ?_
   refine tkQ 13 ?_
   refine tdQ ?_
   obtain ⟨⟨chain, pos, last, e⟩, hT⟩ : ∃ t, Vd.follow q (Vd.group m.answers) = t := ⟨_, rfl⟩
   rw [hT] at hC hE hfi ⊢
   dsimp only at hC hE hfi ⊢
   obtain ⟨hi1, hi2, hi3, hi4, hi5⟩ := hfi
   refine jJ (L' := ((bV, Obj.cells #[.int .u8 0, .slice none 0 0, .slice none 0 0] 40 (0, 0)) :: ((bM, Obj.cells #[h0, h1, h2, h3, h4, h5, h6, h7, h8, h9, .int .u8 m.code, qs, .slice aA m.answers.length cA, .slice aB m.auth.length cB, x, k, e0, e1, e2, e3, e4] 132 (0, 0)) :: ((bQ, Obj.cells #[.string (bs q.name), .int .u16 q.kind, .int .u16 q.cls] 24 (0, 0)) :: (BE ++ (BC ++ (BG ++ (N ++ L)))))))) ?_ jn
   by_cases he : e = 0
   · rw [if_neg (by simpa using he)]
     by_cases h3e : m.code = 3 ∧ last ≠ []
     · rw [if_pos h3e]
       obtain ⟨h3c, h3l⟩ := h3e
       have hlp : 0 < last.length := List.length_pos_iff.2 h3l
       repeat (first | refine goA ?_ | refine jB (jl rfl (j8 )) rfl ?_)
       refine km 4 40 5 6 rfl rfl rfl rfl stO (by repeat (exact List.mem_cons_self)) rfl (fun w h => Heap.cnt (L' := L) h jn) ?_
       exact OfOut.bad _
     rw [if_neg h3e]
     repeat (with_reducible refine kZ ?_)
     refine kh (kh ?_)
     refine goF ?_
     refine KJ (σ := Unit) (fun _ => True) (fun _ => [(2, .pointer (some ⟨bQ, 0, none⟩)), (3, .pointer (some ⟨bM, 0, none⟩)), (4, .pointer (some ⟨bV, 0, none⟩)), (7, .slice aC chain.length cC), (8, .string (bs pos)), (9, .slice aE last.length cE)]) (fun _ => ((bV, Obj.cells #[.int .u8 0, .slice none 0 0, .slice none 0 0] 40 (0, 0)) :: ((bM, Obj.cells #[h0, h1, h2, h3, h4, h5, h6, h7, h8, h9, .int .u8 m.code, qs, .slice aA m.answers.length cA, .slice aB m.auth.length cB, x, k, e0, e1, e2, e3, e4] 132 (0, 0)) :: ((bQ, Obj.cells #[.string (bs q.name), .int .u16 q.kind, .int .u16 q.cls] 24 (0, 0)) :: (BE ++ (BC ++ (BG ++ (N ++ L)))))))) ?_ ?_
     · by_cases h3 : m.code = 3
       · have hl0 : last.length = 0 := by
          cases last with
          | nil => rfl
          | cons y r => exact absurd ⟨h3, by simp⟩ h3e
         refine goA ?_
         refine j9 () trivial ?_ (fun w h => h)
         exact jr
       · refine goA ?_
         refine j9 () trivial ?_ (fun w h => h)
         exact jr
     intro _ _
     obtain ⟨tl, htl⟩ : ∃ l, chain ++ last = l := ⟨_, rfl⟩
     have htll : tl.length = chain.length + last.length := by rw [← htl, List.length_append]
     rw [htl]
     have htlg : ∀ s ∈ tl, s ∈ Vd.group m.answers := fun s hs => by
      rw [← htl] at hs
      rcases List.mem_append.1 hs with hs | hs
      · exact hi1 s hs
      · exact hi2 s hs
     have hlt : ∀ i, i ≤ tl.length → 0 ≤ Vd.leastT (tl.take i) 2147483647 ∧ Vd.leastT (tl.take i) 2147483647 ≤ 4294967295 := fun i _ => UZ _ _ (fun s hs => aaD m.answers (fun y hy => hAt y hy) s (htlg s (List.mem_of_mem_take hs))) jd
     have hcapC := hC.cap
     have hcapE := hE.cap
     repeat (first | refine goA ?_ | (refine jO ?_; intro bNew) | refine jB (jl rfl (ZJ _)) rfl ?_)
     revert bNew
     intro b11
     refine jy (σ := Nat × Option Addr × Nat × ja) (fun y => y.1 ≤ tl.length ∧ ORow rsR 122 5 N y.2.1 y.2.2.1 ((tl.take y.1).map Vd.bare) y.2.2.2) (fun y => [(2, .pointer (some ⟨bQ, 0, none⟩)), (3, .pointer (some ⟨bM, 0, none⟩)), (4, .pointer (some ⟨bV, 0, none⟩)), (7, .slice aC chain.length cC), (8, .string (bs pos)), (9, .slice aE last.length cE), (11, .pointer (some ⟨b11, 0, none⟩)), (12, .int .u32 (Vd.leastT (tl.take y.1) 2147483647)), (13, .int .i64 (y.1 : Nat))])
      (fun y => (b11, Obj.cells #[.int .u8 m.code, .slice y.2.1 ((tl.take y.1).map Vd.bare).length y.2.2.1, .slice none 0 0] 40 (0, 0)) :: (y.2.2.2 ++ ((bV, Obj.cells #[.int .u8 0, .slice none 0 0, .slice none 0 0] 40 (0, 0)) :: ((bM, Obj.cells #[h0, h1, h2, h3, h4, h5, h6, h7, h8, h9, .int .u8 m.code, qs, .slice aA m.answers.length cA, .slice aB m.auth.length cB, x, k, e0, e1, e2, e3, e4] 132 (0, 0)) :: ((bQ, Obj.cells #[.string (bs q.name), .int .u16 q.kind, .int .u16 q.cls] 24 (0, 0)) :: (BE ++ (BC ++ (BG ++ (N ++ L))))))))) (fun y => tl.length - y.1) (0, none, 0, []) ⟨Nat.zero_le _, ORow.nil _⟩ ?_ (fun w h => h) ?_
     exact jr
     rintro ⟨i, a, c, B⟩ ⟨hi, hB⟩
     dsimp only at hi hB ⊢
     have hlti := hlt i hi
     by_cases hil : i < tl.length
     · obtain ⟨s, hs⟩ : ∃ s, tl[i]? = some s := ⟨_, List.getElem?_eq_getElem hil⟩
       have hmap : (tl.take (i + 1)).map Vd.bare = (tl.take i).map Vd.bare ++ [Vd.bare s] := by rw [List.take_add_one, hs]; simp
       have hlst : Vd.leastT (tl.take (i + 1)) 2147483647 = min (Vd.leastT (tl.take i) 2147483647) s.ttl := by rw [List.take_add_one, hs]; exact W0 _ _ _
       obtain ⟨sa, sc, hs2, hload⟩ : ∃ sa sc, rsR N [.string (bs s.name), .int .u16 s.kind, .int .u16 s.cls, .int .u32 s.ttl, .slice sa s.data.length sc] s ∧ ((i < chain.length ∧ ∃ bb cur, aC = some ⟨bb, 0, none⟩ ∧ (bb, Obj.cells cur 122 (0, 0)) ∈ (b11, Obj.cells #[.int .u8 m.code, .slice a ((tl.take i).map Vd.bare).length c, .slice none 0 0] 40 (0, 0)) :: (B ++ ((bV, Obj.cells #[.int .u8 0, .slice none 0 0, .slice none 0 0] 40 (0, 0)) :: ((bM, Obj.cells #[h0, h1, h2, h3, h4, h5, h6, h7, h8, h9, .int .u8 m.code, qs, .slice aA m.answers.length cA, .slice aB m.auth.length cB, x, k, e0, e1, e2, e3, e4] 132 (0, 0)) :: ((bQ, Obj.cells #[.string (bs q.name), .int .u16 q.kind, .int .u16 q.cls] 24 (0, 0)) :: (BE ++ (BC ++ (BG ++ (N ++ L)))))))) ∧ ∀ j v, ([.string (bs s.name), .int .u16 s.kind, .int .u16 s.cls, .int .u32 s.ttl, .slice sa s.data.length sc] : List Value)[j]? = some v → cur[0 + i * 5 + j]? = some v) ∨
        (¬ i < chain.length ∧ ∃ bb cur, aE = some ⟨bb, 0, none⟩ ∧ (bb, Obj.cells cur 122 (0, 0)) ∈ (b11, Obj.cells #[.int .u8 m.code, .slice a ((tl.take i).map Vd.bare).length c, .slice none 0 0] 40 (0, 0)) :: (B ++ ((bV, Obj.cells #[.int .u8 0, .slice none 0 0, .slice none 0 0] 40 (0, 0)) :: ((bM, Obj.cells #[h0, h1, h2, h3, h4, h5, h6, h7, h8, h9, .int .u8 m.code, qs, .slice aA m.answers.length cA, .slice aB m.auth.length cB, x, k, e0, e1, e2, e3, e4] 132 (0, 0)) :: ((bQ, Obj.cells #[.string (bs q.name), .int .u16 q.kind, .int .u16 q.cls] 24 (0, 0)) :: (BE ++ (BC ++ (BG ++ (N ++ L)))))))) ∧ ∀ j v, ([.string (bs s.name), .int .u16 s.kind, .int .u16 s.cls, .int .u32 s.ttl, .slice sa s.data.length sc] : List Value)[j]? = some v → cur[0 + ((i : Int) - (chain.length : Nat)).toNat * 5 + j]? = some v)) := by
        by_cases hic : i < chain.length
        · obtain ⟨bb, cur, q1, q2, _, _, _, q3⟩ := hC.block (fun e => by rw [e] at hic; simp at hic)
          obtain ⟨cs, _, r2, _, r3⟩ := q3 i s (by rw [← htl, List.getElem?_append_left hic] at hs; exact hs)
          obtain ⟨sa, sc, rfl, _⟩ := r2.vals
          exact ⟨sa, sc, r2, Or.inl ⟨hic, bb, cur, q1, by rw [q2]; simp, by simpa only [Nat.zero_add] using r3⟩⟩
        · obtain ⟨bb, cur, q1, q2, _, _, _, q3⟩ := hE.block (fun e => by rw [e] at htll; simp at htll; omega)
          obtain ⟨cs, _, r2, _, r3⟩ := q3 (i - chain.length) s (by rw [← htl, List.getElem?_append_right jd] at hs; exact hs)
          obtain ⟨sa, sc, rfl, _⟩ := r2.vals
          refine ⟨sa, sc, r2, Or.inr ⟨hic, bb, cur, q1, by rw [q2]; simp, ?_⟩⟩
          rw [show ((i : Int) - (chain.length : Nat)).toNat = i - chain.length by omega]
          simpa only [Nat.zero_add] using r3
       have hsT : 0 ≤ s.ttl ∧ s.ttl ≤ 4294967295 := by obtain ⟨_, _, _, _, _, _, _, h⟩ := hs2.vals; exact h
       have hBn : rsR N [.string (bs s.name), .int .u16 s.kind, .int .u16 s.cls, .int .u32 0, .slice sa s.data.length sc] (Vd.bare s) := ZU hs2
       rcases hload with ⟨hic, bb, cur, rfl, hmem, hcur⟩ | ⟨hic, bb, cur, rfl, hmem, hcur⟩
       · repeat (first | refine goA ?_ | (refine jO ?_; intro bNew) | refine jB (jl rfl (ub )) rfl ?_)
         refine jB (jA [.string (bs s.name), .int .u16 s.kind, .int .u16 s.cls, .int .u32 s.ttl, .slice sa s.data.length sc] rfl stL (List.mem_cons_of_mem _ hmem) hcur) rfl ?_
         refine goE ?_
         refine qG (C' := #[.string (bs s.name), .int .u16 s.kind, .int .u16 s.cls, .int .u32 0, .slice sa s.data.length sc]) rfl rfl onO rfl rfl rfl ?_
         repeat (first | refine goA ?_ | (refine jS ?_; intro bLit))
         refine jH (L' := (bLit, Obj.cells #[.string (bs s.name), .int .u16 s.kind, .int .u16 s.cls, .int .u32 0, .slice sa s.data.length sc] 122 (0, 0)) :: (B ++ ((bNew, Obj.cells #[.string (bs s.name), .int .u16 s.kind, .int .u16 s.cls, .int .u32 0, .slice sa s.data.length sc] 122 (0, 0)) :: ((b11, Obj.cells #[.int .u8 m.code, .slice a ((tl.take i).map Vd.bare).length c, .slice none 0 0] 40 (0, 0)) :: ((bV, Obj.cells #[.int .u8 0, .slice none 0 0, .slice none 0 0] 40 (0, 0)) :: ((bM, Obj.cells #[h0, h1, h2, h3, h4, h5, h6, h7, h8, h9, .int .u8 m.code, qs, .slice aA m.answers.length cA, .slice aB m.auth.length cB, x, k, e0, e1, e2, e3, e4] 132 (0, 0)) :: ((bQ, Obj.cells #[.string (bs q.name), .int .u16 q.kind, .int .u16 q.cls] 24 (0, 0)) :: (BE ++ (BC ++ (BG ++ (N ++ L))))))))))) ?_ jn
         refine jw (uJ (L0 := N) (y := Vd.bare s) etO rfl rfl hB hBn (by rw [List.length_map, List.length_take]; omega) (by decide)) rfl ?_
         rintro _ _ ⟨a', c', B', rfl, hB', rfl⟩
         refine jH (L' := (b11, Obj.cells #[.int .u8 m.code, .slice a ((tl.take i).map Vd.bare).length c, .slice none 0 0] 40 (0, 0)) :: (B' ++ ((bV, Obj.cells #[.int .u8 0, .slice none 0 0, .slice none 0 0] 40 (0, 0)) :: ((bM, Obj.cells #[h0, h1, h2, h3, h4, h5, h6, h7, h8, h9, .int .u8 m.code, qs, .slice aA m.answers.length cA, .slice aB m.auth.length cB, x, k, e0, e1, e2, e3, e4] 132 (0, 0)) :: ((bQ, Obj.cells #[.string (bs q.name), .int .u16 q.kind, .int .u16 q.cls] 24 (0, 0)) :: (BE ++ (BC ++ (BG ++ (N ++ L))))))))) ?_ jn
         repeat (refine jB (ui rfl Qj) rfl ?_)
         refine qG (C' := #[.int .u8 m.code, .slice a' ((tl.take i).map Vd.bare ++ [Vd.bare s]).length c', .slice none 0 0]) rfl rfl onO rfl rfl rfl ?_
         refine goA ?_
         refine jh (i + 1, a', c', B') ⟨hil, by dsimp only; rw [hmap]; exact hB'⟩ ?_ (fun w h => by dsimp only; rw [hmap]; exact h) (by dsimp only; omega)
         dsimp only
         rw [hlst]
         exact jr
       · repeat (first | refine goA ?_ | (refine jO ?_; intro bNew) | refine jB (jl rfl (ub )) rfl ?_)
         refine jB (jA [.string (bs s.name), .int .u16 s.kind, .int .u16 s.cls, .int .u32 s.ttl, .slice sa s.data.length sc] rfl stL (List.mem_cons_of_mem _ hmem) hcur) rfl ?_
         refine goE ?_
         refine qG (C' := #[.string (bs s.name), .int .u16 s.kind, .int .u16 s.cls, .int .u32 0, .slice sa s.data.length sc]) rfl rfl onO rfl rfl rfl ?_
         repeat (first | refine goA ?_ | (refine jS ?_; intro bLit))
         refine jH (L' := (bLit, Obj.cells #[.string (bs s.name), .int .u16 s.kind, .int .u16 s.cls, .int .u32 0, .slice sa s.data.length sc] 122 (0, 0)) :: (B ++ ((bNew, Obj.cells #[.string (bs s.name), .int .u16 s.kind, .int .u16 s.cls, .int .u32 0, .slice sa s.data.length sc] 122 (0, 0)) :: ((b11, Obj.cells #[.int .u8 m.code, .slice a ((tl.take i).map Vd.bare).length c, .slice none 0 0] 40 (0, 0)) :: ((bV, Obj.cells #[.int .u8 0, .slice none 0 0, .slice none 0 0] 40 (0, 0)) :: ((bM, Obj.cells #[h0, h1, h2, h3, h4, h5, h6, h7, h8, h9, .int .u8 m.code, qs, .slice aA m.answers.length cA, .slice aB m.auth.length cB, x, k, e0, e1, e2, e3, e4] 132 (0, 0)) :: ((bQ, Obj.cells #[.string (bs q.name), .int .u16 q.kind, .int .u16 q.cls] 24 (0, 0)) :: (BE ++ (BC ++ (BG ++ (N ++ L))))))))))) ?_ jn
         refine jw (uJ (L0 := N) (y := Vd.bare s) etO rfl rfl hB hBn (by rw [List.length_map, List.length_take]; omega) (by decide)) rfl ?_
         rintro _ _ ⟨a', c', B', rfl, hB', rfl⟩
         refine jH (L' := (b11, Obj.cells #[.int .u8 m.code, .slice a ((tl.take i).map Vd.bare).length c, .slice none 0 0] 40 (0, 0)) :: (B' ++ ((bV, Obj.cells #[.int .u8 0, .slice none 0 0, .slice none 0 0] 40 (0, 0)) :: ((bM, Obj.cells #[h0, h1, h2, h3, h4, h5, h6, h7, h8, h9, .int .u8 m.code, qs, .slice aA m.answers.length cA, .slice aB m.auth.length cB, x, k, e0, e1, e2, e3, e4] 132 (0, 0)) :: ((bQ, Obj.cells #[.string (bs q.name), .int .u16 q.kind, .int .u16 q.cls] 24 (0, 0)) :: (BE ++ (BC ++ (BG ++ (N ++ L))))))))) ?_ jn
         repeat (refine jB (ui rfl Qj) rfl ?_)
         refine qG (C' := #[.int .u8 m.code, .slice a' ((tl.take i).map Vd.bare ++ [Vd.bare s]).length c', .slice none 0 0]) rfl rfl onO rfl rfl rfl ?_
         refine goA ?_
         refine jh (i + 1, a', c', B') ⟨hil, by dsimp only; rw [hmap]; exact hB'⟩ ?_ (fun w h => by dsimp only; rw [hmap]; exact h) (by dsimp only; omega)
         dsimp only
         rw [hlst]
         exact jr
     · have hie : i = tl.length := by omega
       subst hie
       rw [List.take_length] at hB hlti ⊢
       by_cases hle : last = []
       · rw [if_neg (by simpa using hle)]
         have hl0 : last.length = 0 := by rw [hle]; rfl
         obtain ⟨⟨s, is, er⟩, hS⟩ : ∃ x, Vd.findSoa (Vd.group m.auth) pos q.cls = x := ⟨_, rfl⟩
         rw [hS]
         dsimp only
         refine goA ?_
         refine uK (σ := Option Addr × Nat × Nat × ja) (fun y => rsR y.2.2.2 [.string (bs s.name), .int .u16 s.kind, .int .u16 s.cls, .int .u32 s.ttl, .slice y.1 s.data.length y.2.1] s ∧ Wr y.2.2.2) (fun y => [(4, .pointer (some ⟨bV, 0, none⟩)), (10, .int .i64 er), (11, .pointer (some ⟨b11, 0, none⟩)), (12, .int .u32 (Vd.leastT tl 2147483647)), (15, .pointer (some ⟨y.2.2.1, 0, none⟩)), (16, .bool is)]) (fun y => (y.2.2.1, Obj.cells #[.string (bs s.name), .int .u16 s.kind, .int .u16 s.cls, .int .u32 s.ttl, .slice y.1 s.data.length y.2.1] 122 (0, 0)) :: (y.2.2.2 ++ ((b11, Obj.cells #[.int .u8 m.code, .slice a (tl.map Vd.bare).length c, .slice none 0 0] 40 (0, 0)) :: (B ++ ((bV, Obj.cells #[.int .u8 0, .slice none 0 0, .slice none 0 0] 40 (0, 0)) :: ((bM, Obj.cells #[h0, h1, h2, h3, h4, h5, h6, h7, h8, h9, .int .u8 m.code, qs, .slice aA m.answers.length cA, .slice aB m.auth.length cB, x, k, e0, e1, e2, e3, e4] 132 (0, 0)) :: ((bQ, Obj.cells #[.string (bs q.name), .int .u16 q.kind, .int .u16 q.cls] 24 (0, 0)) :: (BE ++ (BC ++ (BG ++ (N ++ L))))))))))) ?_ ?_
         · have hKm2 : ∀ z ∈ [(bQ, Obj.cells #[.string (bs q.name), .int .u16 q.kind, .int .u16 q.cls] 24 (0, 0)), (bM, Obj.cells #[h0, h1, h2, h3, h4, h5, h6, h7, h8, h9, .int .u8 m.code, qs, .slice aA m.answers.length cA, .slice aB m.auth.length cB, x, k, e0, e1, e2, e3, e4] 132 (0, 0))], z ∈ ((b11, Obj.cells #[.int .u8 m.code, .slice a (tl.map Vd.bare).length c, .slice none 0 0] 40 (0, 0)) :: (B ++ ((bV, Obj.cells #[.int .u8 0, .slice none 0 0, .slice none 0 0] 40 (0, 0)) :: ((bM, Obj.cells #[h0, h1, h2, h3, h4, h5, h6, h7, h8, h9, .int .u8 m.code, qs, .slice aA m.answers.length cA, .slice aB m.auth.length cB, x, k, e0, e1, e2, e3, e4] 132 (0, 0)) :: ((bQ, Obj.cells #[.string (bs q.name), .int .u16 q.kind, .int .u16 q.cls] 24 (0, 0)) :: (BE ++ (BC ++ (BG ++ (N ++ L))))))))) := jf
           refine jq jb ([(bQ, Obj.cells #[.string (bs q.name), .int .u16 q.kind, .int .u16 q.cls] 24 (0, 0)), (bM, Obj.cells #[h0, h1, h2, h3, h4, h5, h6, h7, h8, h9, .int .u8 m.code, qs, .slice aA m.answers.length cA, .slice aB m.auth.length cB, x, k, e0, e1, e2, e3, e4] 132 (0, 0))]) [] ?_
           refine tkQ 0 ?_
           refine tkQ 1 ?_
           refine tkQ 3 ?_
           refine tkQ 4 ?_
           refine tkQ 5 ?_
           refine JU 2 11 je ?_ ?_
           · refine uk rfl rfl rfl rfl (jc je rfl (VP _ m.auth (jx qx _ _ _ _ jf hmb) hB1 (fun x hx => (hB2 x hx).1) (fun x hx => (hB2 x hx).2))) ?_
             rintro _ _ ⟨aG2, cG2, BG2, N2, rfl, hG2, hN2, rfl⟩; refine ⟨Or.inr jf, ?_⟩
             have hKm3 : ∀ z ∈ [(bQ, Obj.cells #[.string (bs q.name), .int .u16 q.kind, .int .u16 q.cls] 24 (0, 0)), (bM, Obj.cells #[h0, h1, h2, h3, h4, h5, h6, h7, h8, h9, .int .u8 m.code, qs, .slice aA m.answers.length cA, .slice aB m.auth.length cB, x, k, e0, e1, e2, e3, e4] 132 (0, 0))], z ∈ BG2 ++ (N2 ++ ((b11, Obj.cells #[.int .u8 m.code, .slice a (tl.map Vd.bare).length c, .slice none 0 0] 40 (0, 0)) :: (B ++ ((bV, Obj.cells #[.int .u8 0, .slice none 0 0, .slice none 0 0] 40 (0, 0)) :: ((bM, Obj.cells #[h0, h1, h2, h3, h4, h5, h6, h7, h8, h9, .int .u8 m.code, qs, .slice aA m.answers.length cA, .slice aB m.auth.length cB, x, k, e0, e1, e2, e3, e4] 132 (0, 0)) :: ((bQ, Obj.cells #[.string (bs q.name), .int .u16 q.kind, .int .u16 q.cls] 24 (0, 0)) :: (BE ++ (BC ++ (BG ++ (N ++ L)))))))))) := jf
             refine JU 6 11 je ?_ ?_
             · refine uk rfl rfl rfl rfl (jc je rfl (J1 (K := BG2) (N := N2) _ (Vd.group m.auth) pos q.cls jf ((hG2.imp (r' := fun _ => rsR N2) (L' := []) (fun cs x _ h => h)).sliceR j3 jf jf) jd (fun s hs => Nat.le_trans (gb2 s hs).1 jd))) ?_
               rintro _ _ ⟨cs, rfl, hs2, rfl⟩; rw [hS] at hs2 ⊢; obtain ⟨sa, sc, rfl, _⟩ := hs2.vals; refine ⟨Or.inr jf, ?_⟩
               refine tkQ 7 ?_
               refine tkQ 8 ?_
               refine tkQ 9 ?_
               refine tkQ 10 ?_
               refine jF 11 je rfl rfl rfl rfl (kk (C := #[.string (bs []), .int .u16 0, .int .u16 0, .int .u32 0, .slice none 0 0]) zeO rfl) ?_; rintro _ _ ⟨b15, rfl, rfl⟩; refine ⟨Or.inr jf, ?_⟩
               refine j6 (L' := (b15, Obj.cells #[.string (bs []), .int .u16 0, .int .u16 0, .int .u32 0, .slice none 0 0] 122 (0, 0)) :: (BG2 ++ (N2 ++ ((b11, Obj.cells #[.int .u8 m.code, .slice a (tl.map Vd.bare).length c, .slice none 0 0] 40 (0, 0)) :: (B ++ ((bV, Obj.cells #[.int .u8 0, .slice none 0 0, .slice none 0 0] 40 (0, 0)) :: ((bM, Obj.cells #[h0, h1, h2, h3, h4, h5, h6, h7, h8, h9, .int .u8 m.code, qs, .slice aA m.answers.length cA, .slice aB m.auth.length cB, x, k, e0, e1, e2, e3, e4] 132 (0, 0)) :: ((bQ, Obj.cells #[.string (bs q.name), .int .u16 q.kind, .int .u16 q.cls] 24 (0, 0)) :: (BE ++ (BC ++ (BG ++ (N ++ L)))))))))))) ?_ jn; refine jZ 12 je rfl rfl rfl (qg rfl rfl stO rfl rfl rfl) ?_; rintro _ _ ⟨_, rfl⟩; refine ⟨Or.inr jf, ?_⟩
               refine tkQ 13 ?_
               refine tkQ 14 ?_
               refine tdQ ?_
               skip
               refine j9 (sa, sc, b15, N2) ⟨hs2, hN2⟩ ?_ (fun w h => h.cnt jn)
               exact jr
             · refine uk rfl rfl rfl rfl (kk (C := #[.string (bs []), .int .u16 0, .int .u16 0, .int .u32 0, .slice none 0 0]) zeO rfl) ?_
               rintro _ _ ⟨b15, rfl, rfl⟩; refine ⟨Or.inr jf, ?_⟩
               refine jF 6 je rfl rfl rfl rfl (jc je rfl (J1 (K := BG2) (N := N2) _ (Vd.group m.auth) pos q.cls jf ((hG2.imp (r' := fun _ => rsR N2) (L' := []) (fun cs x _ h => h)).sliceR j3 jf jf) jd (fun s hs => Nat.le_trans (gb2 s hs).1 jd))) ?_; rintro _ _ ⟨cs, rfl, hs2, rfl⟩; rw [hS] at hs2 ⊢; obtain ⟨sa, sc, rfl, _⟩ := hs2.vals; refine ⟨Or.inr jf, ?_⟩
               refine tkQ 7 ?_
               refine tkQ 8 ?_
               refine tkQ 9 ?_
               refine tkQ 10 ?_
               refine j6 (L' := (b15, Obj.cells #[.string (bs []), .int .u16 0, .int .u16 0, .int .u32 0, .slice none 0 0] 122 (0, 0)) :: (BG2 ++ (N2 ++ ((b11, Obj.cells #[.int .u8 m.code, .slice a (tl.map Vd.bare).length c, .slice none 0 0] 40 (0, 0)) :: (B ++ ((bV, Obj.cells #[.int .u8 0, .slice none 0 0, .slice none 0 0] 40 (0, 0)) :: ((bM, Obj.cells #[h0, h1, h2, h3, h4, h5, h6, h7, h8, h9, .int .u8 m.code, qs, .slice aA m.answers.length cA, .slice aB m.auth.length cB, x, k, e0, e1, e2, e3, e4] 132 (0, 0)) :: ((bQ, Obj.cells #[.string (bs q.name), .int .u16 q.kind, .int .u16 q.cls] 24 (0, 0)) :: (BE ++ (BC ++ (BG ++ (N ++ L)))))))))))) ?_ jn; refine jZ 12 je rfl rfl rfl (qg rfl rfl stO rfl rfl rfl) ?_; rintro _ _ ⟨_, rfl⟩; refine ⟨Or.inr jf, ?_⟩
               refine tkQ 13 ?_
               refine tkQ 14 ?_
               refine tdQ ?_
               skip
               refine j9 (sa, sc, b15, N2) ⟨hs2, hN2⟩ ?_ (fun w h => h.cnt jn)
               exact jr
           · refine uk rfl rfl rfl rfl (kk (C := #[.string (bs []), .int .u16 0, .int .u16 0, .int .u32 0, .slice none 0 0]) zeO rfl) ?_
             rintro _ _ ⟨b15, rfl, rfl⟩; refine ⟨Or.inr jf, ?_⟩
             refine jF 2 je rfl rfl rfl rfl (jc je rfl (VP _ m.auth (jx qx _ _ _ _ jf hmb) hB1 (fun x hx => (hB2 x hx).1) (fun x hx => (hB2 x hx).2))) ?_; rintro _ _ ⟨aG2, cG2, BG2, N2, rfl, hG2, hN2, rfl⟩; refine ⟨Or.inr jf, ?_⟩
             refine jF 6 je rfl rfl rfl rfl (jc je rfl (J1 (K := BG2) (N := N2) _ (Vd.group m.auth) pos q.cls jf ((hG2.imp (r' := fun _ => rsR N2) (L' := []) (fun cs x _ h => h)).sliceR j3 jf jf) jd (fun s hs => Nat.le_trans (gb2 s hs).1 jd))) ?_; rintro _ _ ⟨cs, rfl, hs2, rfl⟩; rw [hS] at hs2 ⊢; obtain ⟨sa, sc, rfl, _⟩ := hs2.vals; refine ⟨Or.inr jf, ?_⟩
             refine tkQ 7 ?_
             refine tkQ 8 ?_
             refine tkQ 9 ?_
             refine tkQ 10 ?_
             refine j6 (L' := (b15, Obj.cells #[.string (bs []), .int .u16 0, .int .u16 0, .int .u32 0, .slice none 0 0] 122 (0, 0)) :: (BG2 ++ (N2 ++ ((b11, Obj.cells #[.int .u8 m.code, .slice a (tl.map Vd.bare).length c, .slice none 0 0] 40 (0, 0)) :: (B ++ ((bV, Obj.cells #[.int .u8 0, .slice none 0 0, .slice none 0 0] 40 (0, 0)) :: ((bM, Obj.cells #[h0, h1, h2, h3, h4, h5, h6, h7, h8, h9, .int .u8 m.code, qs, .slice aA m.answers.length cA, .slice aB m.auth.length cB, x, k, e0, e1, e2, e3, e4] 132 (0, 0)) :: ((bQ, Obj.cells #[.string (bs q.name), .int .u16 q.kind, .int .u16 q.cls] 24 (0, 0)) :: (BE ++ (BC ++ (BG ++ (N ++ L)))))))))))) ?_ jn; refine jZ 12 je rfl rfl rfl (qg rfl rfl stO rfl rfl rfl) ?_; rintro _ _ ⟨_, rfl⟩; refine ⟨Or.inr jf, ?_⟩
             refine tkQ 13 ?_
             refine tkQ 14 ?_
             refine tdQ ?_
             skip
             refine j9 (sa, sc, b15, N2) ⟨hs2, hN2⟩ ?_ (fun w h => h.cnt jn)
             exact jr
         · rintro ⟨sa, sc, b15, N2⟩ ⟨hs2, hN2⟩
           dsimp only at hs2 hN2 ⊢
           by_cases he2 : er = 0
           · rw [if_neg (by simpa using he2)]
             cases is with
             | false =>
               simp only [Bool.not_false, if_true]
               have hm11 : (b11, Obj.cells #[.int .u8 m.code, .slice a (tl.map Vd.bare).length c, .slice none 0 0] 40 (0, 0)) ∈ (b15, Obj.cells #[.string (bs s.name), .int .u16 s.kind, .int .u16 s.cls, .int .u32 s.ttl, .slice sa s.data.length sc] 122 (0, 0)) :: (N2 ++ ((b11, Obj.cells #[.int .u8 m.code, .slice a (tl.map Vd.bare).length c, .slice none 0 0] 40 (0, 0)) :: (B ++ ((bV, Obj.cells #[.int .u8 0, .slice none 0 0, .slice none 0 0] 40 (0, 0)) :: ((bM, Obj.cells #[h0, h1, h2, h3, h4, h5, h6, h7, h8, h9, .int .u8 m.code, qs, .slice aA m.answers.length cA, .slice aB m.auth.length cB, x, k, e0, e1, e2, e3, e4] 132 (0, 0)) :: ((bQ, Obj.cells #[.string (bs q.name), .int .u16 q.kind, .int .u16 q.cls] 24 (0, 0)) :: (BE ++ (BC ++ (BG ++ (N ++ L)))))))))) := by simp
               refine goA ?_
               refine jH (L' := (bV, Obj.cells #[.int .u8 0, .slice none 0 0, .slice none 0 0] 40 (0, 0)) :: (B ++ (N ++ L))) ?_ jn
               refine goA ?_
               refine km 4 40 5 6 rfl rfl rfl rfl stO (by repeat (exact List.mem_cons_self)) rfl (fun w h => Heap.cnt (L' := [] ++ (B ++ (N ++ L))) h jn) ?_
               exact ⟨a, c, B, none, 0, [], N, rfl, hB, ORow.nil _, hN, rfl⟩
             | true =>
               simp only [Bool.not_true, Bool.false_eq_true, if_false]
               have hsg : s ∈ Vd.group m.auth := by have := Q0 (l := Vd.group m.auth) (n := pos) (c := q.cls); rw [hS] at this; exact this rfl
               refine goA ?_
               refine jU (jc je rfl (aeX _ s (jC _ _ _ _ jf hs2) (gb2 s hsg).2.2.2)) rfl ?_
               have htm := Y1 s
               refine goE ?_
               refine qG (C' := #[.string (bs s.name), .int .u16 s.kind, .int .u16 s.cls, .int .u32 0, .slice sa s.data.length sc]) rfl rfl onO rfl rfl rfl ?_
               repeat (first | refine goE ?_ | (refine jS ?_; intro bLit))
               refine jH (L' := (b11, Obj.cells #[.int .u8 m.code, .slice a (tl.map Vd.bare).length c, .slice none 0 0] 40 (0, 0)) :: ((bV, Obj.cells #[.int .u8 0, .slice none 0 0, .slice none 0 0] 40 (0, 0)) :: ((bLit, Obj.cells #[.string (bs s.name), .int .u16 s.kind, .int .u16 s.cls, .int .u32 0, .slice sa s.data.length sc] 122 (0, 0)) :: (B ++ (N2 ++ (N ++ L)))))) ?_ jn
               refine qG (C' := #[.int .u8 m.code, .slice a (tl.map Vd.bare).length c, .slice (some ⟨bLit, 0, none⟩) 1 1]) rfl rfl onO rfl rfl rfl ?_
               refine goA ?_
               refine jH (L' := (bV, Obj.cells #[.int .u8 0, .slice none 0 0, .slice none 0 0] 40 (0, 0)) :: ((bLit, Obj.cells #[.string (bs s.name), .int .u16 s.kind, .int .u16 s.cls, .int .u32 0, .slice sa s.data.length sc] 122 (0, 0)) :: (B ++ ((N2 ++ N) ++ L)))) ?_ jn
               refine goA ?_
               refine km 4 40 5 6 rfl rfl rfl rfl stO (by repeat (exact List.mem_cons_self)) rfl (fun w h => Heap.cnt (L' := [(bLit, Obj.cells #[.string (bs s.name), .int .u16 s.kind, .int .u16 s.cls, .int .u32 0, .slice sa s.data.length sc] 122 (0, 0))] ++ (B ++ ((N2 ++ N) ++ L))) h jn) ?_
               exact ⟨a, c, B, _, _, _, N2 ++ N, rfl, hB.mono jC jf, QX (jC _ _ _ _ jf (ZU hs2)), hN2.append hN, rfl⟩
           · rw [if_pos (by simpa using he2)]
             repeat (first | refine goA ?_ | refine jB (jl rfl (j8 )) rfl ?_)
             refine jH (L' := (bV, Obj.cells #[.int .u8 0, .slice none 0 0, .slice none 0 0] 40 (0, 0)) :: L) ?_ jn
             refine goA ?_
             refine km 4 40 5 6 rfl rfl rfl rfl stO (by repeat (exact List.mem_cons_self)) rfl (fun w h => Heap.cnt (L' := L) h jn) ?_
             exact OfOut.bad _
       · rw [if_pos (by simpa using hle)]
         have hlp : 0 < last.length := List.length_pos_iff.2 hle
         refine goA ?_
         refine jH (L' := (bV, Obj.cells #[.int .u8 0, .slice none 0 0, .slice none 0 0] 40 (0, 0)) :: (B ++ (N ++ L))) ?_ jn
         refine goA ?_
         refine km 4 40 5 6 rfl rfl rfl rfl stO (by repeat (exact List.mem_cons_self)) rfl (fun w h => Heap.cnt (L' := [] ++ (B ++ (N ++ L))) h jn) ?_
         exact ⟨a, c, B, none, 0, [], N, rfl, hB, ORow.nil _, hN, rfl⟩
   · rw [if_pos (by simpa using he)]
     repeat (first | refine goA ?_ | refine jB (jl rfl (j8 )) rfl ?_)
     refine km 4 40 5 6 rfl rfl rfl rfl stO (by repeat (exact List.mem_cons_self)) rfl (fun w h => Heap.cnt (L' := L) h jn) ?_
     exact OfOut.bad _
 · rw [hOf, hmay, if_pos (by simp only [not_or] at hc3; simp [hc3.1, hc3.2])]
   simp only [not_or] at hc3
   obtain ⟨hc31, hc32⟩ := hc3
   repeat (first | refine goA ?_ | (refine' jU (jc je rfl (kG _ ?_)) rfl ?_; (· omega)) | refine jB (jl rfl (j8 )) rfl ?_)
   refine km 4 40 5 6 rfl rfl rfl rfl stO (by repeat (exact List.mem_cons_self)) rfl (fun w h => Heap.cnt (L' := L) h jn) ?_
   exact OfOut.bad _
end
section
open Go.RowKit
open Vd (RSet Vdt Vote Rec Quest Piece)
section
variable {G : World} {P : Program} {n : Nat} {ρ : jG} {L : ja} {Q : Exit → Act → World → Prop}
end
def ajH (dk : List (Nat × Nat)) (D : ja) : Prop := ∀ k ∈ dk, ∃ C te, (k.1, Obj.cells C te (0, 0)) ∈ D ∧ k.2 ≤ C.size
def DS (dk : List (Nat × Nat)) (a : Option Addr) (m : Nat) : Prop := m = 0 ∨ ∃ b off s, a = some ⟨b, off, none⟩ ∧ (b, s) ∈ dk ∧ off + m ≤ s ∧ m ≤ 9223372036854775807
theorem DS.ex {dk : List (Nat × Nat)} {a : Option Addr} {m : Nat} (h : DS dk a m) (hm : 0 < m) : ∃ b off s, a = some ⟨b, off, none⟩ ∧ (b, s) ∈ dk ∧ off + m ≤ s ∧ m ≤ 9223372036854775807 := by
 rcases h with h | h
 · omega
 · exact h
def RowS (dk : List (Nat × Nat)) (B : ja) (a : Option Addr) (n : Nat) : Prop := (n = 0 ∧ B = []) ∨ ∃ b cur, a = some ⟨b, 0, none⟩ ∧ B = [(b, Obj.cells cur 122 (0, 0))] ∧ n * 5 ≤ cur.size ∧ ∀ i, i < n → ∃ da m c, cur[i * 5 + 4]? = some (.slice da m c) ∧ DS dk da m
theorem RowS.ex {dk : List (Nat × Nat)} {B : ja} {a : Option Addr} {n i : Nat} (h : RowS dk B a n) (hi : i < n) : ∃ b cur, a = some ⟨b, 0, none⟩ ∧ B = [(b, Obj.cells cur 122 (0, 0))] ∧ n * 5 ≤ cur.size ∧ ∀ i, i < n → ∃ da m c, cur[i * 5 + 4]? = some (.slice da m c) ∧ DS dk da m := by
 rcases h with h | h
 · omega
 · exact h
def aiR : List Value := [.string (bs [115, 112, 111, 105, 108, 116]), .int .u16 0, .int .u16 0, .int .u32 0, .slice none 0 0]
theorem RowS.put {dk : List (Nat × Nat)} {b : Nat} {cur : Array Value} {n i : Nat} (h : RowS dk [(b, Obj.cells cur 122 (0, 0))] (some ⟨b, 0, none⟩) n) (hi : i < n) :
 RowS dk [(b, Obj.cells (qM cur (0 + i * 5) [.string (bs [115, 112, 111, 105, 108, 116]), .int .u16 0, .int .u16 0, .int .u32 0, .slice none 0 0]) 122 (0, 0))] (some ⟨b, 0, none⟩) n := by
 obtain ⟨b0, cur0, e1, e2, h3, h4⟩ := h.ex hi
 simp only [List.cons.injEq, Prod.mk.injEq, Obj.cells.injEq, and_true] at e2
 obtain ⟨rfl, rfl⟩ := e2
 have hle : (i + 1) * 5 ≤ n * 5 := Nat.mul_le_mul_right _ hi
 refine Or.inr ⟨_, _, rfl, rfl, ?_, fun j hj => ?_⟩
 · unfold qM; simp; omega
 · rw [Nat.zero_add]
   by_cases hji : j = i
   · subst hji
     refine ⟨none, 0, 0, ?_, Or.inl rfl⟩
     unfold qM
     simp only [List.getElem?_toArray]
     rw [List.append_assoc, List.getElem?_append_right (by simp; omega), List.getElem?_append_left (by simp; omega)]
     have : min (j * 5) cur.size = j * 5 := by omega
     simp [this]
   · obtain ⟨da, m, c, k1, k2⟩ := h4 j hj
     refine ⟨da, m, c, ?_, k2⟩
     rw [← k1]
     unfold qM
     simp only [List.getElem?_toArray]
     have hmin : min (i * 5) cur.size = i * 5 := by omega
     by_cases hlt : j < i
     · have : (j + 1) * 5 ≤ i * 5 := Nat.mul_le_mul_right _ hlt
       rw [List.append_assoc, List.getElem?_append_left (by simp; omega), List.getElem?_take_of_lt jd]
       simp
     · have : (i + 1) * 5 ≤ j * 5 := Nat.mul_le_mul_right _ jd
       rw [List.getElem?_append_right (by simp; omega), List.getElem?_drop]
       simp only [List.length_append, List.length_take, Array.length_toList, List.length_cons, List.length_nil, hmin]
       rw [show i * 5 + (0 + 1 + 1 + 1 + 1 + 1) + (j * 5 + 4 - (i * 5 + (0 + 1 + 1 + 1 + 1 + 1))) = j * 5 + 4 by omega]
       simp
variable {G : World} {L : ja}
end
section
open Go.RowKit
open Vd (RSet Vdt Vote Rec Quest Piece)
theorem sliceR.const {α : Type} {r : Rp α} {sz : Nat} {L : ja} {cs : List Value} {l : List α} (h : sliceR sz r L cs l) : sliceR sz (fun _ => r L) L cs l := h.imp (fun _ h => h) (fun _ _ _ h => h)
def SmS (l : List RSet) : Prop := l.length ≤ 100000 ∧ ∀ s ∈ l, s.data.length ≤ 100000
def SmV (v : Vdt) : Prop := SmS v.sets ∧ SmS v.soa
variable {G : World} {L : ja}
def abS (L : ja) (v : Vdt) (u : Value) (M : ja) : Prop := ∃ a c B a2 c2 B2 N, u = .agg #[.int .u8 v.code, .slice a v.sets.length c, .slice a2 v.soa.length c2] ∧
 ORow rsR 122 5 N a c v.sets B ∧ ORow rsR 122 5 N a2 c2 v.soa B2 ∧ Wr N ∧ M = B2 ++ (B ++ (N ++ L))
theorem KW (v : Value) (l : List RSet) (hl : sliceR 5 rsR L [v] l) (hs : SmS l) : Spec Tryz.prog G 116 #[v] L fun u M => ∃ a c B N, u = .slice a l.length c ∧ ORow rsR 122 5 N a c l B ∧ Wr N ∧ M = B ++ (N ++ L) := by
 obtain ⟨hn, hd⟩ := hs
 obtain ⟨a0, c0, e1, hl⟩ := hl.val
 simp only [List.cons.injEq, and_true] at e1
 subst e1
 obtain ⟨_, ka1, ka2, hl⟩ := yd hl
 refine jm (n := 22) Tryz.func116 rfl rfl rfl ?_
 refine goA ?_
 refine jy (σ := Nat × Option Addr × Nat × ja × ja) (fun x => x.1 ≤ l.length ∧ ORow rsR 122 5 x.2.2.2.2 x.2.1 x.2.2.1 (l.take x.1) x.2.2.2.1 ∧ Wr x.2.2.2.2) (fun x => [(3, .slice x.2.1 (l.take x.1).length x.2.2.1), (6, .slice a0 l.length c0), (7, .int .i64 (l.length : Nat)), (8, .int .i64 (x.1 : Nat))]) (fun x => x.2.2.2.1 ++ (x.2.2.2.2 ++ L)) (fun x => l.length - x.1) (0, none, 0, [], []) ⟨Nat.zero_le _, ORow.nil _, Wr.nil⟩ ?_ (fun w h => h) ?_
 exact jr
 rintro ⟨k, a, c, B, N⟩ ⟨hk, hB, hN⟩
 dsimp only at hk hB hN ⊢
 by_cases hlt : k < l.length
 · obtain ⟨x, hx⟩ : ∃ x, l[k]? = some x := ⟨_, List.getElem?_eq_getElem hlt⟩
   have htk : l.take (k + 1) = l.take k ++ [x] := by rw [List.take_add_one, hx]; rfl
   have htl : (l.take k).length ≤ 100000 := by rw [List.length_take]; omega
   rcases hl with rfl | ⟨b1, o1, C1, t1, f1, rfl, m1, q1⟩
   · simp at hlt
   obtain ⟨cx, _, hx2, hcx⟩ := q1 k x hx
   obtain ⟨xa, xc, rfl, hxd, hx4⟩ := hx2.vals
   have m1' : (b1, Obj.cells C1 t1 f1) ∈ B ++ (N ++ L) := List.mem_append_right _ (List.mem_append_right _ m1)
   refine goA ?_
   refine jB (jA [.string (bs x.name), .int .u16 x.kind, .int .u16 x.cls, .int .u32 x.ttl, .slice xa x.data.length xc] rfl stL m1' hcx) rfl ?_
   repeat (first | refine goA ?_ | (refine jO ?_; intro bNew))
   refine jw (jc je rfl (VO _ x.data (jx kK _ _ _ _ jf hxd) (Nat.le_trans (hd x (List.mem_of_getElem? hx)) jd))) rfl ?_
   rintro _ _ ⟨ad, cd, Bd, rfl, hBd, rfl⟩
   refine jH (L' := (bNew, Obj.cells #[.string (bs x.name), .int .u16 x.kind, .int .u16 x.cls, .int .u32 x.ttl, .slice xa x.data.length xc] 122 (0, 0)) :: (B ++ ((Bd ++ N) ++ L))) ?_ jn
   repeat (refine jB (ui rfl Qj) rfl ?_)
   refine qG (C' := #[.string (bs x.name), .int .u16 x.kind, .int .u16 x.cls, .int .u32 x.ttl, .slice ad x.data.length cd]) rfl rfl onO rfl rfl rfl ?_
   repeat (first | refine goA ?_ | (refine jS ?_; intro bLit))
   refine jH (L' := (bLit, Obj.cells #[.string (bs x.name), .int .u16 x.kind, .int .u16 x.cls, .int .u32 x.ttl, .slice ad x.data.length cd] 122 (0, 0)) :: (B ++ ((bNew, Obj.cells #[.string (bs x.name), .int .u16 x.kind, .int .u16 x.cls, .int .u32 x.ttl, .slice ad x.data.length cd] 122 (0, 0)) :: ((Bd ++ N) ++ L)))) ?_ jn
   refine jw (uJ (L0 := Bd ++ N) (cs := [.string (bs x.name), .int .u16 x.kind, .int .u16 x.cls, .int .u32 x.ttl, .slice ad x.data.length cd]) (y := x) etO rfl rfl (hB.mono jC jf) ⟨_, rfl, (hBd.imp (L' := []) (fun cs y _ h => h)).sliceR kK jf jf, hx4⟩ jd (by decide)) rfl ?_
   rintro _ _ ⟨a', c', B', rfl, hB', rfl⟩
   refine goA ?_
   refine jh (k + 1, a', c', B', Bd ++ N) ⟨hlt, by dsimp only; rw [htk]; exact hB', hBd.wr.append hN⟩ ?_ (fun w h => h.cnt jn) (by dsimp only; omega)
   dsimp only
   rw [htk]
   exact jr
 · have hkn : k = l.length := by omega
   subst hkn
   rw [List.take_length] at hB ⊢
   refine goA ?_
   refine ji 2 _ rfl rfl ?_
   exact ⟨a, c, B, N, rfl, hB, hN, rfl⟩
theorem zj (cs : List Value) (v : Vdt) (hv : vdR L cs v) (hs : SmV v) : Spec Tryz.prog G 84 #[.agg cs.toArray] L (abS L v) := by
 obtain ⟨va, vb, rfl, h1, h2, hcode⟩ := hv
 obtain ⟨a1, c1, ea, h1⟩ := h1.val
 obtain ⟨a2, c2, eb, h2⟩ := h2.val
 simp only [List.cons.injEq, and_true] at ea eb
 subst ea eb
 refine jm (n := 12) Tryz.func84 rfl rfl rfl ?_
 repeat (first | refine goA ?_ | (refine jO ?_; intro bNew) | (refine kl ?_; intro bBox))
 have hKm : ∀ z ∈ [(bBox, Obj.cells #[.int .u8 v.code, .slice a1 v.sets.length c1, .slice a2 v.soa.length c2] 40 (0, 0))], z ∈ (bNew, Obj.cells #[.int .u8 0, .slice none 0 0, .slice none 0 0] 40 (0, 0)) :: ((bBox, Obj.cells #[.int .u8 v.code, .slice a1 v.sets.length c1, .slice a2 v.soa.length c2] 40 (0, 0)) :: L) := jf
 refine jq jb ([(bBox, Obj.cells #[.int .u8 v.code, .slice a1 v.sets.length c1, .slice a2 v.soa.length c2] 40 (0, 0))]) [] ?_
 refine tkQ 0 ?_
 refine tkQ 1 ?_
 refine tkQ 2 ?_
 refine tkQ 3 ?_
 refine tkQ 5 ?_
 refine tkQ 6 ?_
 refine jF 4 je rfl rfl rfl rfl (jc je rfl (KW _ v.sets (jx jC _ _ _ _ jf h1) hs.1)) ?_; rintro _ _ ⟨aR, cR, BR, NR, rfl, hR, hNR, rfl⟩; refine ⟨Or.inr jf, ?_⟩
 refine jF 7 je rfl rfl rfl rfl (jc je rfl (KW _ v.soa (jx jC _ _ _ _ jf h2) hs.2)) ?_; rintro _ _ ⟨aS, cS, BS, NS, rfl, hS, hNS, rfl⟩; refine ⟨Or.inr jf, ?_⟩
 (refine' jp 8 rfl rfl je (jL (jl rfl (yY _ _ _ _ _ _ _))) ?_ ?_; (· intro p hp; grind))
 refine j6 (L' := (bNew, Obj.cells #[.int .u8 0, .slice none 0 0, .slice none 0 0] 40 (0, 0)) :: (BS ++ (NS ++ (BR ++ (NR ++ ((bBox, Obj.cells #[.int .u8 v.code, .slice a1 v.sets.length c1, .slice a2 v.soa.length c2] 40 (0, 0)) :: L)))))) ?_ jn; refine jZ 9 je rfl rfl rfl (qg rfl rfl stO rfl rfl rfl) ?_; rintro _ _ ⟨_, rfl⟩; refine ⟨Or.inr jf, ?_⟩
 refine tdQ ?_
 refine goA ?_
 refine kT 2 40  rfl rfl  stO (by repeat (exact List.mem_cons_self)) rfl (fun w h => Heap.cnt (L' := BS ++ (BR ++ ((NS ++ NR) ++ L))) h jn) ?_
 exact ⟨_, _, _, _, _, _, NS ++ NR, rfl, hR.mono jC jf, hS.mono jC jf, hNS.append hNR, rfl⟩
theorem KX (v : Value) (l : List RSet) (hl : sliceR 5 rsR L [v] l) (hs : SmS l) : Spec Tryz.prog G 126 #[v] L fun u M => ∃ a c B N, u = .slice a l.length c ∧ ORow rsR 122 5 N a c l B ∧ Wr N ∧ M = B ++ (N ++ L) := by
 obtain ⟨hn, hd⟩ := hs
 obtain ⟨a0, c0, e1, hl⟩ := hl.val
 simp only [List.cons.injEq, and_true] at e1
 subst e1
 obtain ⟨_, ka1, ka2, hl⟩ := yd hl
 refine jm (n := 22) Tryz.func126 rfl rfl rfl ?_
 refine goA ?_
 refine jy (σ := Nat × Option Addr × Nat × ja × ja) (fun x => x.1 ≤ l.length ∧ ORow rsR 122 5 x.2.2.2.2 x.2.1 x.2.2.1 (l.take x.1) x.2.2.2.1 ∧ Wr x.2.2.2.2) (fun x => [(3, .slice x.2.1 (l.take x.1).length x.2.2.1), (6, .slice a0 l.length c0), (7, .int .i64 (l.length : Nat)), (8, .int .i64 (x.1 : Nat))]) (fun x => x.2.2.2.1 ++ (x.2.2.2.2 ++ L)) (fun x => l.length - x.1) (0, none, 0, [], []) ⟨Nat.zero_le _, ORow.nil _, Wr.nil⟩ ?_ (fun w h => h) ?_
 exact jr
 rintro ⟨k, a, c, B, N⟩ ⟨hk, hB, hN⟩
 dsimp only at hk hB hN ⊢
 by_cases hlt : k < l.length
 · obtain ⟨x, hx⟩ : ∃ x, l[k]? = some x := ⟨_, List.getElem?_eq_getElem hlt⟩
   have htk : l.take (k + 1) = l.take k ++ [x] := by rw [List.take_add_one, hx]; rfl
   have htl : (l.take k).length ≤ 100000 := by rw [List.length_take]; omega
   rcases hl with rfl | ⟨b1, o1, C1, t1, f1, rfl, m1, q1⟩
   · simp at hlt
   obtain ⟨cx, _, hx2, hcx⟩ := q1 k x hx
   obtain ⟨xa, xc, rfl, hxd, hx4⟩ := hx2.vals
   have m1' : (b1, Obj.cells C1 t1 f1) ∈ B ++ (N ++ L) := List.mem_append_right _ (List.mem_append_right _ m1)
   refine goA ?_
   refine jB (jA [.string (bs x.name), .int .u16 x.kind, .int .u16 x.cls, .int .u32 x.ttl, .slice xa x.data.length xc] rfl stL m1' hcx) rfl ?_
   repeat (first | refine goA ?_ | (refine jO ?_; intro bNew))
   refine jw (jc je rfl (VO _ x.data (jx kK _ _ _ _ jf hxd) (Nat.le_trans (hd x (List.mem_of_getElem? hx)) jd))) rfl ?_
   rintro _ _ ⟨ad, cd, Bd, rfl, hBd, rfl⟩
   refine jH (L' := (bNew, Obj.cells #[.string (bs x.name), .int .u16 x.kind, .int .u16 x.cls, .int .u32 x.ttl, .slice xa x.data.length xc] 122 (0, 0)) :: (B ++ ((Bd ++ N) ++ L))) ?_ jn
   repeat (refine jB (ui rfl Qj) rfl ?_)
   refine qG (C' := #[.string (bs x.name), .int .u16 x.kind, .int .u16 x.cls, .int .u32 x.ttl, .slice ad x.data.length cd]) rfl rfl onO rfl rfl rfl ?_
   repeat (first | refine goA ?_ | (refine jS ?_; intro bLit))
   refine jH (L' := (bLit, Obj.cells #[.string (bs x.name), .int .u16 x.kind, .int .u16 x.cls, .int .u32 x.ttl, .slice ad x.data.length cd] 122 (0, 0)) :: (B ++ ((bNew, Obj.cells #[.string (bs x.name), .int .u16 x.kind, .int .u16 x.cls, .int .u32 x.ttl, .slice ad x.data.length cd] 122 (0, 0)) :: ((Bd ++ N) ++ L)))) ?_ jn
   refine jw (uJ (L0 := Bd ++ N) (cs := [.string (bs x.name), .int .u16 x.kind, .int .u16 x.cls, .int .u32 x.ttl, .slice ad x.data.length cd]) (y := x) etO rfl rfl (hB.mono jC jf) ⟨_, rfl, (hBd.imp (L' := []) (fun cs y _ h => h)).sliceR kK jf jf, hx4⟩ jd (by decide)) rfl ?_
   rintro _ _ ⟨a', c', B', rfl, hB', rfl⟩
   refine goA ?_
   refine jh (k + 1, a', c', B', Bd ++ N) ⟨hlt, by dsimp only; rw [htk]; exact hB', hBd.wr.append hN⟩ ?_ (fun w h => h.cnt jn) (by dsimp only; omega)
   dsimp only
   rw [htk]
   exact jr
 · have hkn : k = l.length := by omega
   subst hkn
   rw [List.take_length] at hB ⊢
   refine goA ?_
   refine ji 2 _ rfl rfl ?_
   exact ⟨a, c, B, N, rfl, hB, hN, rfl⟩
theorem zk (cs : List Value) (v : Vdt) (hv : vdR L cs v) (hs : SmV v) : Spec Tryz.prog G 101 #[.agg cs.toArray] L (abS L v) := by
 obtain ⟨va, vb, rfl, h1, h2, hcode⟩ := hv
 obtain ⟨a1, c1, ea, h1⟩ := h1.val
 obtain ⟨a2, c2, eb, h2⟩ := h2.val
 simp only [List.cons.injEq, and_true] at ea eb
 subst ea eb
 refine jm (n := 12) Tryz.func101 rfl rfl rfl ?_
 repeat (first | refine goA ?_ | (refine jO ?_; intro bNew) | (refine kl ?_; intro bBox))
 have hKm : ∀ z ∈ [(bBox, Obj.cells #[.int .u8 v.code, .slice a1 v.sets.length c1, .slice a2 v.soa.length c2] 40 (0, 0))], z ∈ (bNew, Obj.cells #[.int .u8 0, .slice none 0 0, .slice none 0 0] 40 (0, 0)) :: ((bBox, Obj.cells #[.int .u8 v.code, .slice a1 v.sets.length c1, .slice a2 v.soa.length c2] 40 (0, 0)) :: L) := jf
 refine jq jb ([(bBox, Obj.cells #[.int .u8 v.code, .slice a1 v.sets.length c1, .slice a2 v.soa.length c2] 40 (0, 0))]) [] ?_
 refine tkQ 0 ?_
 refine tkQ 1 ?_
 refine tkQ 2 ?_
 refine tkQ 3 ?_
 refine tkQ 5 ?_
 refine tkQ 6 ?_
 refine jF 4 je rfl rfl rfl rfl (jc je rfl (KX _ v.sets (jx jC _ _ _ _ jf h1) hs.1)) ?_; rintro _ _ ⟨aR, cR, BR, NR, rfl, hR, hNR, rfl⟩; refine ⟨Or.inr jf, ?_⟩
 refine jF 7 je rfl rfl rfl rfl (jc je rfl (KX _ v.soa (jx jC _ _ _ _ jf h2) hs.2)) ?_; rintro _ _ ⟨aS, cS, BS, NS, rfl, hS, hNS, rfl⟩; refine ⟨Or.inr jf, ?_⟩
 (refine' jp 8 rfl rfl je (jL (jl rfl (yY _ _ _ _ _ _ _))) ?_ ?_; (· intro p hp; grind))
 refine j6 (L' := (bNew, Obj.cells #[.int .u8 0, .slice none 0 0, .slice none 0 0] 40 (0, 0)) :: (BS ++ (NS ++ (BR ++ (NR ++ ((bBox, Obj.cells #[.int .u8 v.code, .slice a1 v.sets.length c1, .slice a2 v.soa.length c2] 40 (0, 0)) :: L)))))) ?_ jn; refine jZ 9 je rfl rfl rfl (qg rfl rfl stO rfl rfl rfl) ?_; rintro _ _ ⟨_, rfl⟩; refine ⟨Or.inr jf, ?_⟩
 refine tdQ ?_
 refine goA ?_
 refine kT 2 40  rfl rfl  stO (by repeat (exact List.mem_cons_self)) rfl (fun w h => Heap.cnt (L' := BS ++ (BR ++ ((NS ++ NR) ++ L))) h jn) ?_
 exact ⟨_, _, _, _, _, _, NS ++ NR, rfl, hR.mono jC jf, hS.mono jC jf, hNS.append hNR, rfl⟩
end
end Go.Proofs.YtbjkkoacclfejaaGreat
