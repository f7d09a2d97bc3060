/-
 Part 2: OpG Rw Fr Au Vd Vc Fs St3 Mac Nm Base WMay WLower WLabels WName SRow Cmp Pd Qd Ka App WRef1 WRef2 WRef3.
-/
import Derived.Test.YtbjkkoacclfejaaGreatZr1
import Derived.ProofKit
import Derived.OpenShut
import Derived.ShutString
import Derived.ChangeOld
import Derived.Deep.Slices
import Derived.Deep.Strs
import Derived.Test.YtbjkkoacclfejaaGreatRows
import Derived.WalkKit
import Derived.WalkSpells
import Derived.WalkLawsBesides
import Derived.Lib.Hide
import Derived.Lib.ConvBytes
import Derived.Lib.QuietBelow
import Derived.BigQuiet
import Derived.StillTailTactics
import Derived.Deep.DeepCutAuto
import Derived.Lib.Strings
import Derived.Lib.IndexBytes
import Derived.Lib.Bytealg
import Derived.Deep.RegionLaw
import Derived.Laws.OwnMore
import Derived.OwnWalk
set_option maxRecDepth 100000
set_option maxHeartbeats 1000000
set_option linter.unusedVariables false
set_option linter.unusedSimpArgs false
namespace Go.Proofs.YtbjkkoacclfejaaGreat
open Go.ChangeShapes Go.WideShapes Go.ChangeAt Go.RowKit
abbrev Rp (α : Type) := ja → List Value → α → Prop
def uL {α : Type} (r : Rp α) : Prop := ∀ L L' cs a, (∀ p ∈ L, p ∈ L') → r L cs a → r L' cs a
def kJ (k : IntKind) (n : Int) : Prop := (Lit.int k n).wf = true
def uz (k : IntKind) : Rp Int := fun _ cs n => cs = [.int k n] ∧ kJ k n
def aea : Rp Bool := fun _ cs b => cs = [.bool b]
def qL : Rp (List UInt8) := fun _ cs s => cs = [.string (bs s)] ∧ s.length ≤ maxLen
def sliceR {α : Type} (sz : Nat) (r : Rp α) : Rp (List α) := fun L cs l => ∃ a cap, cs = [.slice a l.length cap] ∧ l.length ≤ cap ∧ cap ≤ maxLen ∧ (l = [] ∨ ∃ b off C te fr, a = some ⟨b, off, none⟩ ∧ (b, Obj.cells C te fr) ∈ L ∧
 ∀ i x, l[i]? = some x → ∃ cs', cs'.length = sz ∧ r L cs' x ∧ ∀ j v, cs'[j]? = some v → C[off + i * sz + j]? = some v)
theorem yM (k : IntKind) : uL (uz k) := fun _ _ _ _ _ h => h
theorem kP : uL qL := fun _ _ _ _ _ h => h
theorem jq {α : Type} {sz : Nat} {r : Rp α} (h : uL r) : uL (sliceR sz r) := by
 rintro L L' cs l hL ⟨a, cap, h1, h2, h3, h4⟩
 refine ⟨a, cap, h1, h2, h3, h4.imp id ?_⟩
 rintro ⟨b, off, C, te, fr, q1, q2, q3⟩
 refine ⟨b, off, C, te, fr, q1, hL _ q2, fun i x hx => ?_⟩
 obtain ⟨cs', k1, k2, k3⟩ := q3 i x hx
 exact ⟨cs', k1, h L L' cs' x hL k2, k3⟩
section
variable {H : Type} {enc : TypeId × Value → H} {P : Program} {W : World}
def Opens {α : Type} (enc : TypeId × Value → H) (P : Program) (W : World) (t : TypeId) (n : Nat) (r : Rp α) : Prop := ∀ fuel cs x, DataW.trod enc P W 0 (fun _ => true) true fuel t cs = some x → cs.length = n ∧ ∃ a, r (kL W) cs a
theorem jL {t : TypeId} {k : IntKind} (hu : P.underlying t = some (.int k)) : Opens enc P W t 1 (uz k) := fun fuel cs x h => by
 obtain ⟨a, e, _, wa⟩ := DataW.trod_int hu h
 subst e
 exact ⟨rfl, a, rfl, wa⟩
theorem q8 {t : TypeId} (hu : P.underlying t = some .string) : Opens enc P W t 1 qL := fun fuel cs x h => by
 obtain ⟨s, e, _, hs⟩ := DataW.trod_string hu h
 subst e
 exact ⟨rfl, s.data.toList, rfl, by simpa using hs⟩
theorem Yi {t : TypeId} (hu : P.underlying t = some .bool) : Opens enc P W t 1 aea := fun fuel cs x h => by
 cases fuel with
 | zero => simp [DataW.trod] at h
 | succ f =>
   unfold DataW.trod at h
   rw [hu] at h
   split at h <;> first | (rename_i b _; exact ⟨rfl, b, rfl⟩) | simp_all
theorem Uc {a : Addr} {v : Value} (h : W.cell? a = some v) : a.spot = none → ∃ C te fr, W.heap[a.block]? = some (.cells C te fr) := by
 intro _
 unfold World.cell? at h
 split at h
 · exact ⟨_, _, _, by assumption⟩
 all_goals simp at h
theorem qz {α : Type} [Inhabited α] {t e : TypeId} {sz : Nat} {r : Rp α} (hu : P.underlying t = some (.slice e)) (hc : P.cellsOf e = sz) (hp : 0 < sz) (h : Opens enc P W e sz r) : Opens enc P W t 1 (sliceR sz r) := fun fuel cs x hf => by
 rcases Deep.open_slice hu hf with ⟨hcs, _⟩ | ⟨x, len, cap, m, n, D, Pl, hcs, _, hl, hm, hmm, _, hall⟩
 · subst hcs
   exact ⟨rfl, [], none, 0, rfl, by simp, by simp, Or.inl rfl⟩
 · subst hcs
   refine ⟨rfl, ?_⟩
   simp at hmm
   have hel : ∀ i, i < len → ∃ a : α, ∃ cs', cs'.length = sz ∧ r (kL W) cs' a ∧ ∀ j u, cs'[j]? = some u → W.cell? (x.add (i * sz + j)) = some u := by
    intro i hi
    obtain ⟨cs', h1, h2⟩ := hall i (by omega)
    obtain ⟨k1, a, k2⟩ := h _ _ _ h2
    obtain ⟨_, _, hat⟩ := World.cells?_some h1
    refine ⟨a, cs', k1, k2, fun j u hj => ?_⟩
    have hj3 := (List.getElem?_eq_some_iff.1 hj).1
    rw [← Deep.add_add, ← hc, hat j (by rw [hc, ← k1]; exact hj3), hj]
   obtain ⟨f, hf2⟩ := Deep.choose_lt hel
   have hlen : ((List.range len).map f).length = len := by simp
   refine ⟨(List.range len).map f, some x, cap, by rw [hlen], by rw [hlen]; exact hl, hm, ?_⟩
   by_cases h0 : len = 0
   · left; subst h0; rfl
   · right
     obtain ⟨cs0, g1, _, g2⟩ := hf2 0 (by omega)
     obtain ⟨v0, hv0⟩ : ∃ v0, cs0[0]? = some v0 := ⟨_, List.getElem?_eq_getElem (by omega)⟩
     have hc0 := g2 0 _ hv0
     obtain ⟨b, off, spot⟩ := x
     have hspot : spot = none := by simpa [Addr.add] using World.cell?_spot hc0
     subst hspot
     rw [qg] at hc0
     obtain ⟨C, te, fr, hb⟩ := Uc hc0 rfl
     refine ⟨b, off, C, te, fr, rfl, YV hb, fun i a hi => ?_⟩
     rw [List.getElem?_map, Option.map_eq_some_iff] at hi
     obtain ⟨k, hk, rfl⟩ := hi
     obtain ⟨hkl, hkk⟩ := List.getElem?_eq_some_iff.1 hk
     simp at hkl hkk
     subst hkk
     obtain ⟨cs', g1, g2, g3⟩ := hf2 i hkl
     refine ⟨cs', g1, g2, fun j v hj => ?_⟩
     have := g3 j v hj
     rw [qg] at this
     unfold World.cell? at this
     dsimp only at this
     rw [show W.heap[b]? = some (.cells C te fr) from hb] at this
     rw [Nat.add_assoc]
     simpa using this
theorem kZ {t : TypeId} {fs : Array Field} {fuel : Nat} {cs : List Value} {x : DataW H × List MemPlace} (hu : P.underlying t = some (.struct fs)) (h : DataW.trod enc P W 0 (fun _ => true) true fuel t cs = some x) :
 cs.length = P.cellsOf t ∧ ∀ (i : Nat) (f : Field), fs[i]? = some f → ∃ n y, DataW.trod enc P W 0 (fun _ => true) true n f.type ((cs.drop f.offset).take (P.cellsOf f.type)) = some y := by
 obtain ⟨xs, n, _, rfl, hl, hlen, hf⟩ := DataW.trod_struct hu h
 refine ⟨hl, fun i f hi => ?_⟩
 have hi' : i < xs.length := by rw [hlen]; have := (Array.getElem?_eq_some_iff.1 hi).1; simpa using this
 exact ⟨n, xs[i], by rw [hf i f hi]; exact List.getElem?_eq_getElem hi'⟩
theorem Opens.at {α : Type} {r : Rp α} {t : TypeId} {n : Nat} (h : Opens enc P W t n r) {fuel : Nat} {cs : List Value} {x : DataW H × List MemPlace} (hx : DataW.trod enc P W 0 (fun _ => true) true fuel t cs = some x) : ∃ a, r (kL W) cs a := (h fuel cs x hx).2
end
end Go.Proofs.YtbjkkoacclfejaaGreat
namespace Go.Proofs.YtbjkkoacclfejaaGreat
open Go.RowKit
def Laid {α : Type} (r : Rp α) (sz : Nat) (L : ja) : List Value → List α → Prop
 | xs, [] => xs = []
 | xs, x :: l => ∃ c ys, xs = c ++ ys ∧ c.length = sz ∧ r L c x ∧ Laid r sz L ys l
section
variable {α : Type} {r : Rp α} {sz : Nat} {L : ja}
theorem Laid.mono (hr : uL r) {L' : ja} (hL : ∀ p ∈ L, p ∈ L') : ∀ {l : List α} {xs : List Value}, Laid r sz L xs l → Laid r sz L' xs l
 | [], _, h => h
 | x :: l, _, ⟨c, ys, h1, h2, h3, h4⟩ => ⟨c, ys, h1, h2, hr _ _ _ _ hL h3, Laid.mono hr hL h4⟩
theorem Laid.append : ∀ {l m : List α} {xs ys : List Value}, Laid r sz L xs l → Laid r sz L ys m → Laid r sz L (xs ++ ys) (l ++ m)
 | [], m, _, _, h, k => by rw [show _ = [] from h]; exact k
 | x :: l, m, _, ys, ⟨c, zs, h1, h2, h3, h4⟩, k => ⟨c, zs ++ ys, by rw [h1, List.append_assoc], h2, h3, h4.append k⟩
theorem Laid.one {c : List Value} {x : α} (hn : c.length = sz) (h : r L c x) : Laid r sz L c [x] := ⟨c, [], by simp, hn, h, rfl⟩
theorem Laid.len : ∀ {l : List α} {xs : List Value}, Laid r sz L xs l → xs.length = l.length * sz
 | [], _, h => by rw [show _ = [] from h]; simp
 | x :: l, _, ⟨c, zs, h1, h2, h3, h4⟩ => by rw [h1, List.length_append, h2, h4.len, List.length_cons, Nat.succ_mul]; omega
theorem Laid.at : ∀ {l : List α} {xs : List Value}, Laid r sz L xs l → ∀ {i : Nat} {x : α}, l[i]? = some x → ∃ c, c.length = sz ∧ r L c x ∧ ∀ j v, c[j]? = some v → xs[i * sz + j]? = some v
 | [], _, _, i, x, h => by simp at h
 | y :: l, _, ⟨c, zs, h1, h2, h3, h4⟩, 0, x, h => by
   simp at h
   subst h
   refine ⟨c, h2, h3, fun j v hj => ?_⟩
   have := (List.getElem?_eq_some_iff.1 hj).1
   rw [h1, Nat.zero_mul, Nat.zero_add, List.getElem?_append_left this]
   exact hj
 | y :: l, _, ⟨c, zs, h1, h2, h3, h4⟩, i + 1, x, h => by
   obtain ⟨d, k1, k2, k3⟩ := h4.at (i := i) (x := x) (by simpa using h)
   refine ⟨d, k1, k2, fun j v hj => ?_⟩
   rw [h1, List.getElem?_append_right (by rw [h2, Nat.succ_mul]; omega), h2, ← k3 j v hj]
   congr 1
   rw [Nat.succ_mul]
   omega
theorem Laid.take : ∀ {l : List α} {xs : List Value} (k : Nat), Laid r sz L xs l → k ≤ l.length → Laid r sz L (xs.take (k * sz)) (l.take k)
 | l, xs, 0, h, _ => by simp [Laid]
 | [], xs, k + 1, h, hk => by simp at hk
 | x :: l, _, k + 1, ⟨c, zs, h1, h2, h3, h4⟩, hk => by
   refine ⟨c, zs.take (k * sz), ?_, h2, h3, h4.take k (by simpa using hk)⟩
   rw [h1, List.take_append, h2, List.take_of_length_le (by rw [h2, Nat.succ_mul]; omega)]
   congr 2
   rw [Nat.succ_mul]
   omega
structure ORow (r : Rp α) (e : TypeId) (sz : Nat) (L : ja) (a : Option Addr) (c : Nat) (l : List α) (B : ja) : Prop where
 ex : ∃ xs, Row e sz (.slice a l.length c) l.length xs B ∧ Laid r sz L xs l ∧ ∀ x ∈ xs, x.oneCell' = true
theorem ORow.nil (e : TypeId) : ORow r e sz L none 0 [] [] := ⟨[], Row.nil _ _, rfl, by simp⟩
theorem ORow.mono (hr : uL r) {L' : ja} (hL : ∀ p ∈ L, p ∈ L') {e : TypeId} {a : Option Addr} {c : Nat} {l : List α} {B : ja} (h : ORow r e sz L a c l B) : ORow r e sz L' a c l B := by
 obtain ⟨xs, h1, h2, h3⟩ := h.ex
 exact ⟨xs, h1, h2.mono hr hL, h3⟩
theorem ORow.sliceR (hr : uL r) {L' : ja} {e : TypeId} {a : Option Addr} {c : Nat} {l : List α} {B : ja} (h : ORow r e sz L a c l B) (hL : ∀ p ∈ L, p ∈ L') (hB : ∀ p ∈ B, p ∈ L') : sliceR sz r L' [.slice a l.length c] l := by
 obtain ⟨xs, h1, h2, h3⟩ := h.ex
 have h2' := h2.mono hr hL
 rcases h1.is with ⟨q1, q2, q3⟩ | ⟨b, cap, cur, q1, q2, q3, q4, q5, q6⟩
 · obtain ⟨rfl, e1, rfl⟩ := Value.slice.inj q1
   exact ⟨none, 0, rfl, by omega, by unfold maxLen; omega, Or.inl (List.eq_nil_of_length_eq_zero q2)⟩
 · obtain ⟨rfl, e1, rfl⟩ := Value.slice.inj q1
   refine ⟨_, c, rfl, q3, q4, Or.inr ⟨b, 0, cur, e, (0, 0), rfl, hB _ (by rw [q2]; exact List.mem_cons_self ..), fun i x hx => ?_⟩⟩
   obtain ⟨cs', k1, k2, k3⟩ := h2'.at hx
   refine ⟨cs', k1, k2, fun j v hj => ?_⟩
   have hil := (List.getElem?_eq_some_iff.1 hx).1
   have hjl := (List.getElem?_eq_some_iff.1 hj).1
   have hlt : i * sz + j < l.length * sz := by
    have : (i + 1) * sz ≤ l.length * sz := Nat.mul_le_mul_right _ hil
    rw [Nat.succ_mul] at this
    omega
   have := k3 j v hj
   rw [← q6, List.getElem?_take_of_lt hlt] at this
   rw [Nat.zero_add]
   simpa using this
theorem sliceR.cut {a : Option Addr} {m c : Nat} {l : List α} (h : sliceR sz r L [.slice a m c] l) : m = l.length ∧ m ≤ c ∧ c ≤ maxLen ∧ (l = [] ∨ ∃ b off C te fr, a = some ⟨b, off, none⟩ ∧ (b, Obj.cells C te fr) ∈ L ∧
 ∀ i x, l[i]? = some x → ∃ cs', cs'.length = sz ∧ r L cs' x ∧ ∀ j v, cs'[j]? = some v → C[off + i * sz + j]? = some v) := by
 obtain ⟨a', c', h1, h2, h3, h4⟩ := h
 simp only [List.cons.injEq, and_true] at h1
 obtain ⟨rfl, rfl, rfl⟩ := Value.slice.inj h1
 exact ⟨rfl, h2, h3, h4⟩
theorem sliceR.val {cs : List Value} {l : List α} (h : sliceR sz r L cs l) : ∃ a c, cs = [.slice a l.length c] ∧ sliceR sz r L [.slice a l.length c] l := by
 obtain ⟨a, c, h1, h2⟩ := h
 exact ⟨a, c, h1, a, c, rfl, h2⟩
theorem sliceR.nil : sliceR sz r L [.slice none 0 0] ([] : List α) := ⟨none, 0, rfl, by simp, by unfold maxLen; omega, Or.inl rfl⟩
end
section
variable {G : World} {P : Program} {n : Nat} {ρ : jB} {L : ja} {ty : TypeId} {Q : Exit → Act → World → Prop}
theorem ac1 {s x : Operand} {t e te : TypeId} {sz bytes bl : Nat} {z v : Value} {cs : List Value} {m : Nat} {xs : List Value} {B : ja} (E : ElemTy P t e sz bytes z) (hs : ev ρ s = some v) (hx : ev ρ x = some (.slice (some ⟨bl, 0, none⟩) 1 1))
 (hrow : Row e sz v m xs B) (hn : cs.length = sz) (hone : ∀ v ∈ cs, v.oneCell' = true) (h63 : m + 1 ≤ maxLen) (hby : (m + 1) * bytes ≤ 140737488355328) :
 OpT P G ρ ((bl, .cells cs.toArray te (0, 0)) :: (B ++ L)) (.call ⟨.builtin .append, #[s, x], #[t, t]⟩) ty fun v' L' => ∃ B', Row e sz v' (m + 1) (xs ++ cs) B' ∧ L' = B' ++ L :=
 (OpT.heap (L' := B ++ ((bl, .cells cs.toArray te (0, 0)) :: L)) (fun w hw => hw.perm List.perm_middle.symm) (zi E hs hx hrow ⟨by omega, hone, Or.inr ⟨bl, 0, 1, cs.toArray, te, (0, 0), rfl, List.mem_cons_self .., fun j y hj => by rw [Nat.zero_add]; simpa using hj⟩⟩ h63 hby)).post fun v' M ⟨B', h1, h2⟩ =>
   ⟨B' ++ L, ⟨B', h1, rfl⟩, fun w hw => (h2 ▸ hw : Heap G w (B' ++ _)).sub ((List.Sublist.refl B').append (List.sublist_cons_self _ _))⟩
theorem qO {α : Type} {r : Rp α} {s x : Operand} {t e te : TypeId} {sz bytes bl : Nat} {z : Value} {a : Option Addr} {c : Nat} {cs : List Value} {y : α} {l : List α} {B L0 : ja} (E : ElemTy P t e sz bytes z) (hs : ev ρ s = some (.slice a l.length c)) (hx : ev ρ x = some (.slice (some ⟨bl, 0, none⟩) 1 1))
 (hrow : ORow r e sz L0 a c l B) (hn : cs.length = sz) (hone : ∀ v ∈ cs, v.oneCell' = true) (hy : r L0 cs y) (h63 : l.length + 1 ≤ maxLen) (hby : (l.length + 1) * bytes ≤ 140737488355328) :
 OpT P G ρ ((bl, .cells cs.toArray te (0, 0)) :: (B ++ L)) (.call ⟨.builtin .append, #[s, x], #[t, t]⟩) ty fun v' L' => ∃ a' c' B', v' = .slice a' (l ++ [y]).length c' ∧ ORow r e sz L0 a' c' (l ++ [y]) B' ∧ L' = B' ++ L := by
 obtain ⟨xs, h1, h2, h3⟩ := hrow.ex
 refine (ac1 E hs hx h1 hn hone h63 hby).post fun v' M ⟨B', k1, k2⟩ => ?_
 obtain ⟨a', c', rfl⟩ := k1.slice
 have hlen : (l ++ [y]).length = l.length + 1 := by simp
 refine ⟨M, ⟨a', c', B', by rw [hlen], ⟨xs ++ cs, by rw [hlen]; exact k1, h2.append (Laid.one hn hy), fun x hx => ?_⟩, k2⟩, fun w hw => hw⟩
 rcases List.mem_append.1 hx with hx | hx
 · exact h3 x hx
 · exact hone x hx
theorem q9 {t e : TypeId} {x : Operand} {sz bytes : Nat} {z : Value} {cs : List Value} (E : ElemTy P t e sz bytes z) (hx : ev ρ x = some (.agg cs.toArray)) (hn : cs.length = sz) (hsz : sz ≤ 1000) :
 OpNew P G ρ L (.buildSlice t 1 #[(0, x)]) ty (fun b => .slice (some ⟨b, 0, none⟩) 1 1) (.cells cs.toArray e (0, 0)) :=
 ko (ps := [(0, x)]) (vs := [(0, .agg cs.toArray)]) (by simp [qZ, hx]) (u9 E [.agg cs.toArray] rfl (fun v hv => by rw [List.mem_singleton.1 hv]; simpa [Value.cells] using hn) (by omega) (by simp [Value.cells]))
end
end Go.Proofs.YtbjkkoacclfejaaGreat
namespace Go.Proofs.YtbjkkoacclfejaaGreat
open Go.RowKit
open Classical in
noncomputable def hit (p q : Nat × Obj) : Nat := if p = q then 1 else 0
noncomputable def cnt (p : Nat × Obj) : ja → Nat
 | [] => 0
 | q :: L => hit p q + cnt p L
theorem KU (p : Nat × Obj) : cnt p [] = 0 := rfl
theorem ku (p q : Nat × Obj) (L : ja) : cnt p (q :: L) = hit p q + cnt p L := rfl
theorem qc (p : Nat × Obj) : ∀ A B : ja, cnt p (A ++ B) = cnt p A + cnt p B
 | [], B => by simp [cnt]
 | q :: A, B => by rw [List.cons_append, ku, ku, qc p A B]; omega
theorem cnt_pos {p : Nat × Obj} : ∀ {L : ja}, p ∈ L ↔ 1 ≤ cnt p L
 | [] => by simp [cnt]
 | q :: L => by
   rw [ku, List.mem_cons, cnt_pos (L := L)]
   unfold hit
   by_cases h : p = q
   · rw [if_pos h]; simp [h]
   · rw [if_neg h]; simp [h]
theorem V7 {p : Nat × Obj} : ∀ {L : ja}, (L.map (·.1)).Nodup → cnt p L ≤ 1
 | [], _ => by simp [cnt]
 | q :: L, h => by
   rw [List.map_cons, List.nodup_cons] at h
   rw [ku]
   have h2 := V7 (p := p) h.2
   unfold hit
   by_cases e : p = q
   · subst e
     rw [if_pos rfl]
     by_cases h0 : 1 ≤ cnt p L
     · exact absurd (List.mem_map.2 ⟨p, cnt_pos.2 h0, rfl⟩) h.1
     · omega
   · rw [if_neg e]; omega
theorem V8 : ∀ {L : ja}, (L.map (·.1)).Nodup → ∀ {p q : Nat × Obj}, p ∈ L → q ∈ L → p.1 = q.1 → p = q
 | [], _, p, q, h, _, _ => by simp at h
 | r :: L, hn, p, q, hp, hq, e => by
   rw [List.map_cons, List.nodup_cons] at hn
   rcases List.mem_cons.1 hp with rfl | hp' <;> rcases List.mem_cons.1 hq with rfl | hq'
   · rfl
   · exact absurd (List.mem_map.2 ⟨q, hq', e.symm⟩) hn.1
   · exact absurd (List.mem_map.2 ⟨p, hp', e⟩) hn.1
   · exact V8 hn.2 hp' hq' e
theorem J3 : ∀ {L L' : ja}, (∀ p, cnt p L' ≤ cnt p L) → (L.map (·.1)).Nodup → (L'.map (·.1)).Nodup
 | L, [], _, _ => by simp
 | L, q :: L', h, hn => by
   rw [List.map_cons, List.nodup_cons]
   refine ⟨fun hm => ?_, J3 (L := L) (fun p => by have := h p; rw [ku] at this; omega) hn⟩
   obtain ⟨r, hr, e⟩ := List.mem_map.1 hm
   have h1 : 1 ≤ cnt r L' := cnt_pos.1 hr
   have hq : q ∈ L := cnt_pos.2 (by have := h q; rw [ku] at this; have h0 : hit q q = 1 := by simp [hit]
                                    omega)
   have hr' : r ∈ L := cnt_pos.2 (by have := h r; rw [ku] at this; omega)
   have := V8 hn hr' hq e
   subst this
   have h2 := h r
   rw [ku] at h2
   have h3 := V7 (p := r) hn
   have h0 : hit r r = 1 := by simp [hit]
   omega
variable {G : World} {P : Program} {n : Nat} {ρ : jB} {L : ja} {ty : TypeId} {Q : Exit → Act → World → Prop}
theorem Heap.cnt {w : World} {L' : ja} (h : Heap G w L) (hc : ∀ p, Go.Proofs.YtbjkkoacclfejaaGreat.cnt p L' ≤ Go.Proofs.YtbjkkoacclfejaaGreat.cnt p L) : Heap G w L' :=
 ⟨h.still, J3 hc h.nodup, fun p hp => h.get p (cnt_pos.2 (Nat.le_trans (cnt_pos.1 hp) (hc p)))⟩
theorem j9 {L' : ja} (hc : ∀ p, cnt p L' ≤ cnt p L) : ∀ p ∈ L', p ∈ L := fun p hp => cnt_pos.2 (Nat.le_trans (cnt_pos.1 hp) (hc p))
section
variable {α : Type} {r : Rp α} {sz : Nat}
theorem Laid.set : ∀ {l : List α} {xs : List Value} {i : Nat} {y : α} {cs : List Value}, Laid r sz L xs l → i < l.length → cs.length = sz → r L cs y → Laid r sz L (xs.take (i * sz) ++ cs ++ xs.drop (i * sz + sz)) (l.set i y)
 | [], _, i, y, cs, _, hi, _, _ => by simp at hi
 | x :: l, _, 0, y, cs, ⟨c, zs, h1, h2, h3, h4⟩, _, hn, hy => by
   refine ⟨cs, zs, ?_, hn, hy, h4⟩
   rw [h1, Nat.zero_mul, List.take_zero, List.nil_append, Nat.zero_add, ← h2, List.drop_left]
 | x :: l, _, i + 1, y, cs, ⟨c, zs, h1, h2, h3, h4⟩, hi, hn, hy => by
   refine ⟨c, zs.take (i * sz) ++ cs ++ zs.drop (i * sz + sz), ?_, h2, h3, h4.set (by simpa using hi) hn hy⟩
   rw [h1, Nat.succ_mul, List.take_append, List.drop_append, h2, List.take_of_length_le (by omega), List.drop_of_length_le (l := c) (by omega)]
   rw [show i * sz + sz - sz = i * sz by omega, show i * sz + sz + sz - sz = i * sz + sz by omega]
   simp
theorem ORow.set {e : TypeId} {a : Option Addr} {c : Nat} {l : List α} {B : ja} {i b : Nat} {y : α} {cs : List Value} {cur cur' : Array Value} (h : ORow r e sz L a c l B) (hB : B = [(b, .cells cur e (0, 0))]) (hi : i < l.length) (hn : cs.length = sz) (hy : r L cs y) (hone : ∀ v ∈ cs, v.oneCell' = true)
 (hs : cur'.size = cur.size) (hin : ∀ j v, cs[j]? = some v → cur'[i * sz + j]? = some v) (hout : ∀ k, k < i * sz ∨ i * sz + sz ≤ k → cur'[k]? = cur[k]?) : ORow r e sz L a c (l.set i y) [(b, .cells cur' e (0, 0))] := by
 obtain ⟨xs, h1, h2, h3⟩ := h.ex
 have hlen := h2.len
 have hle : i * sz + sz ≤ l.length * sz := by
  have : (i + 1) * sz ≤ l.length * sz := Nat.mul_le_mul_right _ hi
  rw [Nat.succ_mul] at this
  exact this
 rcases h1.is with ⟨_, _, q3⟩ | ⟨b', cap, cur0, q1, q2, q3, q4, q5, q6⟩
 · rw [q3] at hB; simp at hB
 · rw [q2] at hB
   simp only [List.cons.injEq, Prod.mk.injEq, Obj.cells.injEq, and_true] at hB
   obtain ⟨rfl, rfl⟩ := hB
   refine ⟨xs.take (i * sz) ++ cs ++ xs.drop (i * sz + sz), ⟨?_, Or.inr ⟨b', cap, cur', ?_, rfl, ?_, q4, by rw [hs]; exact q5, ?_⟩⟩, h2.set hi hn hy, fun v hv => ?_⟩
   · simp only [List.length_append, List.length_take, List.length_drop, List.length_set, hlen, hn]; omega
   · rw [List.length_set]; exact q1
   · rw [List.length_set]; exact q3
   · rw [List.length_set]
     apply List.ext_getElem?
     intro k
     have hx : ∀ k, k < l.length * sz → xs[k]? = cur0[k]? := fun k hk => by
      rw [← q6, List.getElem?_take_of_lt hk]; simp
     by_cases hk : k < l.length * sz
     · rw [List.getElem?_take_of_lt hk, Array.getElem?_toList]
       by_cases k1 : k < i * sz
       · rw [hout k (Or.inl k1), List.append_assoc, List.getElem?_append_left (by rw [List.length_take]; omega), List.getElem?_take_of_lt k1, hx k hk]
       · by_cases k2 : k < i * sz + sz
         · rw [List.append_assoc, List.getElem?_append_right (by rw [List.length_take]; omega), List.getElem?_append_left (by rw [List.length_take]; omega)]
           have hm : min (i * sz) xs.length = i * sz := by omega
           rw [List.length_take, hm]
           obtain ⟨v, hv⟩ : ∃ v, cs[k - i * sz]? = some v := ⟨_, List.getElem?_eq_getElem (by omega)⟩
           rw [hv]
           have := hin _ v hv
           rw [show i * sz + (k - i * sz) = k by omega] at this
           exact this
         · rw [hout k (Or.inr (by omega)), List.getElem?_append_right (by simp only [List.length_append, List.length_take]; omega)]
           have hm : (xs.take (i * sz) ++ cs).length = i * sz + sz := by simp only [List.length_append, List.length_take]; omega
           rw [hm, List.getElem?_drop, show i * sz + sz + (k - (i * sz + sz)) = k by omega, hx k hk]
     · rw [List.getElem?_eq_none (by simp; omega), List.getElem?_eq_none (by simp only [List.length_append, List.length_take, List.length_drop]; omega)]
   · rcases List.mem_append.1 hv with hv | hv
     · rcases List.mem_append.1 hv with hv | hv
       · exact h3 v (List.mem_of_mem_take hv)
       · exact hone v hv
     · exact h3 v (List.mem_of_mem_drop hv)
theorem ORow.block {e : TypeId} {a : Option Addr} {c : Nat} {l : List α} {B : ja} (h : ORow r e sz L a c l B) (hl : l ≠ []) : ∃ b cur, a = some ⟨b, 0, none⟩ ∧ B = [(b, .cells cur e (0, 0))] ∧ l.length ≤ c ∧ c ≤ maxLen ∧ cur.size = c * sz ∧
 ∀ i x, l[i]? = some x → ∃ cs, cs.length = sz ∧ r L cs x ∧ (∀ v ∈ cs, v.oneCell' = true) ∧ ∀ j v, cs[j]? = some v → cur[i * sz + j]? = some v := by
 obtain ⟨xs, h1, h2, h3⟩ := h.ex
 rcases h1.is with ⟨_, q2, _⟩ | ⟨b, cap, cur, q1, q2, q3, q4, q5, q6⟩
 · exact absurd (List.eq_nil_of_length_eq_zero q2) hl
 · obtain ⟨rfl, _, rfl⟩ := Value.slice.inj q1
   refine ⟨b, cur, rfl, q2, q3, q4, q5, fun i x hx => ?_⟩
   obtain ⟨cs, k1, k2, k3⟩ := h2.at hx
   refine ⟨cs, k1, k2, fun v hv => ?_, fun j v hj => ?_⟩
   · obtain ⟨j, hj⟩ := List.getElem?_of_mem hv
     exact h3 v (List.mem_of_getElem? (k3 j v hj))
   · have hil := (List.getElem?_eq_some_iff.1 hx).1
     have hjl := (List.getElem?_eq_some_iff.1 hj).1
     have hlt : i * sz + j < l.length * sz := by
      have : (i + 1) * sz ≤ l.length * sz := Nat.mul_le_mul_right _ hil
      rw [Nat.succ_mul] at this
      omega
     have := k3 j v hj
     rw [← q6, List.getElem?_take_of_lt hlt] at this
     simpa using this
end
end Go.Proofs.YtbjkkoacclfejaaGreat
namespace Go.Proofs.YtbjkkoacclfejaaGreat
open Go.RowKit
theorem dT {p : Prop} [Decidable p] (h : p) : decide p = true := decide_eq_true h
theorem dF {p : Prop} [Decidable p] (h : ¬ p) : decide p = false := decide_eq_false h
section
variable {α : Type} [BEq α] [LawfulBEq α] {a b : α}
theorem eT (h : a = b) : (a == b) = true := beq_iff_eq.2 h
theorem eF (h : ¬ a = b) : (a == b) = false := beq_false_of_ne h
theorem nT (h : ¬ a = b) : (a != b) = true := bne_iff_ne.2 h
theorem nF (h : a = b) : (a != b) = false := by rw [h]; simp
end
theorem xT {b : Bool} (h : b = false) : (!b) = true := by rw [h]; rfl
theorem xF {b : Bool} (h : b = true) : (!b) = false := by rw [h]; rfl
variable {G : World} {P : Program} {n : Nat} {ρ : jB} {L : ja} {ty : TypeId} {Q : Exit → Act → World → Prop}
section
variable {c : Operand} {x y : Code}
theorem KV {p : Prop} [Decidable p] (hc : ev ρ c = some (.bool (decide p))) (ht : p → T P G n ρ L x Q) (hf : ¬ p → T P G n ρ L y Q) : T P G n ρ L (.cond c x y) Q := Yb hc (fun h => ht (of_decide_eq_true h)) (fun h => hf (of_decide_eq_false h))
theorem ac2 {α : Type} [BEq α] [LawfulBEq α] {a b : α} (hc : ev ρ c = some (.bool (a == b))) (ht : a = b → T P G n ρ L x Q) (hf : ¬ a = b → T P G n ρ L y Q) : T P G n ρ L (.cond c x y) Q := Yb hc (fun h => ht (beq_iff_eq.1 h)) (fun h => hf (fun e => by rw [eT e] at h; cases h))
theorem ac3 {α : Type} [BEq α] [LawfulBEq α] {a b : α} (hc : ev ρ c = some (.bool (a != b))) (ht : ¬ a = b → T P G n ρ L x Q) (hf : a = b → T P G n ρ L y Q) : T P G n ρ L (.cond c x y) Q := Yb hc (fun h => ht (bne_iff_ne.1 h)) (fun h => hf (by simpa using h))
end
section
variable {ops : Array Oper} {d j dj : Nat} {op : Op} {pos : String} {after : Array Edge} {rest : List Oper}
theorem aa3 {p : Prop} [Decidable p] {want : Bool} (hs : jJ ops j = some dj) (hv : ρ.lookup dj = some (.bool (decide p))) (ht : p → TL P G ops n ρ L (⟨some d, op, ty, pos, after, some (j, want)⟩ :: rest) Q) (hf : ¬ p → TL P G ops n ρ L (⟨some d, op, ty, pos, after, some (j, want)⟩ :: rest) Q) :
 TL P G ops n ρ L (⟨some d, op, ty, pos, after, some (j, want)⟩ :: rest) Q := by
 by_cases h : p
 · exact ht h
 · exact hf h
theorem agX {b want : Bool} (hs : jJ ops j = some dj) (hv : ρ.lookup dj = some (.bool b)) (ht : b = true → TL P G ops n ρ L (⟨some d, op, ty, pos, after, some (j, want)⟩ :: rest) Q) (hf : b = false → TL P G ops n ρ L (⟨some d, op, ty, pos, after, some (j, want)⟩ :: rest) Q) :
 TL P G ops n ρ L (⟨some d, op, ty, pos, after, some (j, want)⟩ :: rest) Q := by
 cases b
 · exact hf rfl
 · exact ht rfl
end
theorem kQ {t : TypeId} {x : Operand} {C : Array Value} (hx : ev ρ x = some (.agg C)) : OpNew P G ρ L (.box t x) ty (fun b => .pointer (some ⟨b, 0, none⟩)) (.cells C t (0, 0)) := Ye hx rfl
theorem qd {fn : Func} {Φ : Value → ja → Prop} (t u s : Nat) (v x y : Value) (hr : fn.results = #[.tmp t, .tmp u, .tmp s]) (hv : ρ.lookup t = some v) (hx : ρ.lookup u = some x) (hy : ρ.lookup s = some y) (h : Φ (.tuple #[v, x, y]) L) : TQ G n ρ L .ret (bodyPost P fn (kT G Φ)) :=
 ⟨fun a w he hw => ⟨he.defers, .tuple #[v, x, y], by
   have h1 : a.tmps.getD t undef = v := he.reads (.tmp t) v hv
   have h2 : a.tmps.getD u undef = x := he.reads (.tmp u) x hx
   have h3 : a.tmps.getD s undef = y := he.reads (.tmp s) y hy
   simp only [results, hr]
   simp
   exact ⟨by simpa using h1, by simpa using h2, by simpa using h3⟩, _, L, rfl, h, hw⟩⟩
theorem qD {fn : Func} {Φ : Value → ja → Prop} (t u s r : Nat) (v x y z : Value) (hr : fn.results = #[.tmp t, .tmp u, .tmp s, .tmp r]) (hv : ρ.lookup t = some v) (hx : ρ.lookup u = some x) (hy : ρ.lookup s = some y) (hz : ρ.lookup r = some z) (h : Φ (.tuple #[v, x, y, z]) L) : TQ G n ρ L .ret (bodyPost P fn (kT G Φ)) :=
 ⟨fun a w he hw => ⟨he.defers, .tuple #[v, x, y, z], by
   have h1 : a.tmps.getD t undef = v := he.reads (.tmp t) v hv
   have h2 : a.tmps.getD u undef = x := he.reads (.tmp u) x hx
   have h3 : a.tmps.getD s undef = y := he.reads (.tmp s) y hy
   have h4 : a.tmps.getD r undef = z := he.reads (.tmp r) z hz
   simp only [results, hr]
   simp
   exact ⟨by simpa using h1, by simpa using h2, by simpa using h3, by simpa using h4⟩, _, L, rfl, h, hw⟩⟩
theorem zY {a : Nat} {b k : Nat} {t : TypeId} {C : Array Value} {te : TypeId} {fr : Nat × Nat} {ac : Act} {w : World} (he : Env n ρ ac) (hv : ρ.lookup a = some (.pointer (some ⟨b, 0, none⟩))) (ht : jV P t k = true) (hg : w.heap[b]? = some (.cells C te fr)) (hk : C.size = k) :
 ac.tmps.getD a undef = .pointer (some ⟨b, 0, none⟩) ∧ (loadVar t ⟨b, 0, none⟩).run P w = .ok (.agg C) w := by
 have h1 : ac.tmps.getD a undef = .pointer (some ⟨b, 0, none⟩) := he.reads (.tmp a) _ hv
 refine ⟨h1, ?_⟩
 unfold jV at ht
 cases hu : P.underlying t with
 | none => simp [hu] at ht
 | some d =>
   cases hi : P.info? t with
   | none => simp [hi] at ht
   | some i =>
     cases d with
     | struct fs =>
       simp [hu, hi] at ht
       have ha : (isAgg t).run P w = .ok true w := by
        unfold isAgg
        simp [run_underlying hu]
       have hc := run_loadCells_list (P := P) (w := w) ⟨b, 0, none⟩ C.toList (fun j v hj => by
        rw [qg, Nat.zero_add]
        unfold World.cell?
        rw [hg]
        simpa using hj)
       rw [Array.length_toList, hk] at hc
       simp [loadVar, ha, sizeOf, typeInfo, hi, ht, hc]
     | _ => simp [hu] at ht
theorem kR {fn : Func} {Φ : Value → ja → Prop} (a t u : Nat) {b k : Nat} {C : Array Value} {te : TypeId} {fr : Nat × Nat} {x : Value} {L' : ja} (hr : fn.results = #[.cell a t, .tmp u]) (hv : ρ.lookup a = some (.pointer (some ⟨b, 0, none⟩))) (hx : ρ.lookup u = some x)
 (ht : jV P t k = true) (hm : (b, Obj.cells C te fr) ∈ L) (hk : C.size = k) (hl : ∀ w, Heap G w L → Heap G w L') (h : Φ (.tuple #[.agg C, x]) L') : TQ G n ρ L .ret (bodyPost P fn (kT G Φ)) :=
 ⟨fun ac w he hw => ⟨he.defers, .tuple #[.agg C, x], by
   obtain ⟨h1, h0⟩ := zY he hv ht (hw.get _ hm) hk
   have h2 : ac.tmps.getD u undef = x := he.reads (.tmp u) x hx
   rw [Array.getD_eq_getD_getElem?] at h1 h2
   simp only [results, hr]
   simp
   simp [h1, asAddr, h0, h2], _, L', rfl, h, hl w hw⟩⟩
theorem kw {fn : Func} {Φ : Value → ja → Prop} (a t u s : Nat) {b k : Nat} {C : Array Value} {te : TypeId} {fr : Nat × Nat} {x y : Value} {L' : ja} (hr : fn.results = #[.cell a t, .tmp u, .tmp s]) (hv : ρ.lookup a = some (.pointer (some ⟨b, 0, none⟩))) (hx : ρ.lookup u = some x) (hy : ρ.lookup s = some y)
 (ht : jV P t k = true) (hm : (b, Obj.cells C te fr) ∈ L) (hk : C.size = k) (hl : ∀ w, Heap G w L → Heap G w L') (h : Φ (.tuple #[.agg C, x, y]) L') : TQ G n ρ L .ret (bodyPost P fn (kT G Φ)) :=
 ⟨fun ac w he hw => ⟨he.defers, .tuple #[.agg C, x, y], by
   obtain ⟨h1, h0⟩ := zY he hv ht (hw.get _ hm) hk
   have h2 : ac.tmps.getD u undef = x := he.reads (.tmp u) x hx
   have h3 : ac.tmps.getD s undef = y := he.reads (.tmp s) y hy
   rw [Array.getD_eq_getD_getElem?] at h1 h2 h3
   simp only [results, hr]
   simp
   simp [h1, asAddr, h0, h2, h3], _, L', rfl, h, hl w hw⟩⟩
end Go.Proofs.YtbjkkoacclfejaaGreat
namespace Go.Proofs.YtbjkkoacclfejaaGreat
open Go.RowKit
namespace Vd
abbrev Bytes := List UInt8
structure RSet where
 name : Bytes
 kind : Int
 cls : Int
 ttl : Int
 data : List Bytes
deriving DecidableEq
structure Vdt where
 code : Int
 sets : List RSet
 soa : List RSet
deriving DecidableEq
structure Vote where
 up : Int
 vd : Vdt
 time : Int
deriving DecidableEq
structure Rec where
 name : Bytes
 kind : Int
 cls : Int
 ttl : Int
 data : Bytes
deriving DecidableEq
structure Quest where
 name : Bytes
 kind : Int
 cls : Int
deriving DecidableEq
def RSet.none : RSet := ⟨[], 0, 0, 0, []⟩
def Vdt.none : Vdt := ⟨0, [], []⟩
instance : Inhabited RSet := ⟨RSet.none⟩
instance : Inhabited Vdt := ⟨Vdt.none⟩
instance : Inhabited Vote := ⟨⟨0, Vdt.none, 0⟩⟩
instance : Inhabited Rec := ⟨⟨[], 0, 0, 0, []⟩⟩
end Vd
open Vd (RSet Vdt Vote Rec Quest)
def rsR : Rp RSet := fun L cs s => ∃ d, cs = [.string (bs s.name), .int .u16 s.kind, .int .u16 s.cls, .int .u32 s.ttl, d] ∧ sliceR 1 qL L [d] s.data ∧ s.name.length ≤ maxLen ∧ (0 ≤ s.kind ∧ s.kind ≤ 65535) ∧ (0 ≤ s.cls ∧ s.cls ≤ 65535) ∧ (0 ≤ s.ttl ∧ s.ttl ≤ 4294967295)
def vdR : Rp Vdt := fun L cs v => ∃ a b, cs = [.int .u8 v.code, a, b] ∧ sliceR 5 rsR L [a] v.sets ∧ sliceR 5 rsR L [b] v.soa ∧ (0 ≤ v.code ∧ v.code ≤ 255)
def voteR : Rp Vote := fun L cs x => ∃ a b, cs = [.int .i64 x.up, .int .u8 x.vd.code, a, b, .int .u32 x.time] ∧ sliceR 5 rsR L [a] x.vd.sets ∧ sliceR 5 rsR L [b] x.vd.soa ∧ (0 ≤ x.vd.code ∧ x.vd.code ≤ 255) ∧ (0 ≤ x.time ∧ x.time ≤ 4294967295) ∧ (-9223372036854775808 ≤ x.up ∧ x.up ≤ 9223372036854775807)
def yx : Rp Rec := fun L cs x => cs = [.string (bs x.name), .int .u16 x.kind, .int .u16 x.cls, .int .u32 x.ttl, .string (bs x.data)] ∧ x.name.length ≤ maxLen ∧ x.data.length ≤ maxLen ∧ (0 ≤ x.kind ∧ x.kind ≤ 65535) ∧ (0 ≤ x.cls ∧ x.cls ≤ 65535) ∧ (0 ≤ x.ttl ∧ x.ttl ≤ 4294967295)
theorem jv : uL rsR := fun L L' cs a hL ⟨d, h1, h2, h3⟩ => ⟨d, h1, jq kP L L' _ _ hL h2, h3⟩
theorem jY : uL vdR := fun L L' cs a hL ⟨x, y, h1, h2, h3, h4⟩ => ⟨x, y, h1, jq jv L L' _ _ hL h2, jq jv L L' _ _ hL h3, h4⟩
theorem kU : uL voteR := fun L L' cs a hL ⟨x, y, h1, h2, h3, h4⟩ => ⟨x, y, h1, jq jv L L' _ _ hL h2, jq jv L L' _ _ hL h3, h4⟩
theorem qm : uL yx := fun L L' cs a hL h => h
theorem rsR.len {L : ja} {cs : List Value} {s : RSet} (h : rsR L cs s) : cs.length = 5 := by obtain ⟨d, rfl, _⟩ := h; rfl
theorem rsR.one {L : ja} {cs : List Value} {s : RSet} (h : rsR L cs s) : ∀ v ∈ cs, v.oneCell' = true := by
 obtain ⟨d, rfl, hd, _⟩ := h
 obtain ⟨a, c, e, _⟩ := hd
 simp only [List.cons.injEq, and_true] at e
 subst e
 intro v hv
 simp only [List.mem_cons, List.not_mem_nil, or_false] at hv
 rcases hv with rfl | rfl | rfl | rfl | rfl <;> rfl
end Go.Proofs.YtbjkkoacclfejaaGreat
namespace Go.Proofs.YtbjkkoacclfejaaGreat
open Go.RowKit
open Vd (RSet Vdt Vote Rec Quest)
section
variable {P : Program}
theorem Ud {t e : TypeId} {a : Option Addr} {m c : Nat} (d : Nat) (w : World) (h : P.underlying t = some (.slice e)) : (Op.equalIn (d + 1) t (.slice a m c) (.slice none 0 0)).run P w = .ok a.isNone w := by
 cases a <;> simp [Op.equalIn, run_underlying h]
theorem aa4 {t e : TypeId} {a : Option Addr} {m c : Nat} (h : P.underlying t = some (.slice e)) : Bin P .eql t (.slice a m c) (.slice none 0 0) (.bool a.isNone) := ⟨fun x y w => by
 simp only [eqGuard, binOp, ul]
 simp [Ud 9999 w h]⟩
end
section
variable {α : Type} {r : Rp α} {sz : Nat} {G : World} {P : Program} {ρ : jB} {L : ja} {ty : TypeId}
theorem Vk {C : Array Value} : ∀ (m : List α) (off : Nat), (∀ i x, m[i]? = some x → ∃ cs', cs'.length = sz ∧ r L cs' x ∧ ∀ j v, cs'[j]? = some v → C[off + i * sz + j]? = some v) → ∃ news, Laid r sz L news m ∧ ∀ j v, news[j]? = some v → C[off + j]? = some v
 | [], off, _ => ⟨[], rfl, fun j v h => by simp at h⟩
 | x :: m, off, h => by
   obtain ⟨c, h1, h2, h3⟩ := h 0 x rfl
   obtain ⟨news, k1, k2⟩ := Vk m (off + sz) (fun i y hy => by
    obtain ⟨d, q1, q2, q3⟩ := h (i + 1) y (by simpa using hy)
    refine ⟨d, q1, q2, fun j v hj => ?_⟩
    rw [← q3 j v hj]
    congr 1
    rw [Nat.succ_mul]
    omega)
   refine ⟨c ++ news, ⟨c, news, rfl, h1, h2, k1⟩, fun j v hj => ?_⟩
   by_cases hlt : j < c.length
   · rw [List.getElem?_append_left hlt] at hj
     have := h3 j v hj
     rwa [Nat.zero_mul, Nat.add_zero] at this
   · rw [List.getElem?_append_right (by omega)] at hj
     rw [← k2 _ v hj]
     congr 1
     omega
theorem Qj {s x : Operand} {t e : TypeId} {sz bytes : Nat} {z v : Value} {m c : Nat} {a : Option Addr} {xs : List Value} {B : ja} (E : ElemTy P t e sz bytes z) (hs : ev ρ s = some v) (hx : ev ρ x = some (.slice a 0 c))
 (hrow : Row e sz v m xs B) (h63 : m + 0 ≤ maxLen) (hby : (m + 0) * bytes ≤ 140737488355328) :
 OpT P G ρ (B ++ L) (.call ⟨.builtin .append, #[s, x], #[t, t]⟩) ty fun v' L' => ∃ B', Row e sz v' (m + 0) (xs ++ []) B' ∧ L' = B' ++ L :=
 ⟨fun r hr w hw o ho _ => by
   obtain ⟨i, hi, hz0, hz1, hz2⟩ := E.info
   have hown := hrow.owns hw
   have key : ∃ v' w', (Builtin.append_ #[t, t] o.type #[v, .slice a 0 c]).run P w = .ok v' w' ∧ w'.ownsRow 0 e sz v' (m + 0) (xs ++ []) ∧ w.grownBy w' v.ownBlock ∧ (v'.ownBlock = v.ownBlock ∨ v'.ownBlock = some w.heap.size) := by
    cases a with
    | none => exact ⟨v, w, VQ w t o.type e i c E.und hi 0 sz v m xs hown, by simpa using hown, ⟨rfl, rfl, rfl, Nat.le_refl _, fun _ _ _ => rfl⟩, Or.inl rfl⟩
    | some x =>
      obtain ⟨v', w', q1, q2, q3, _, q5⟩ := run_append_own_at w 0 t o.type e i z sz bytes E.und hi hz0 hz1 hz2 E.cells E.pos v m xs hown x 0 c [] (by simp)
       (fun j y hj => by simp at hj) (by simp) h63 hby (Nat.zero_le _)
      exact ⟨v', w', q1, q2, q3, q5⟩
   obtain ⟨v', w', hrun, q2, q3, q4⟩ := key
   obtain ⟨B', hB, hH⟩ := hrow.after hw q2 q3 q4
   have : (execOp r o).run P w = .ok (.value v') w' := by
    simp [execOp, ho, hr _ _ hs, hr _ _ hx, resolve, invoke, builtin, hrun, Result.andThen]
   rw [this]
   exact ⟨_, ⟨B', hB, rfl⟩, hH⟩⟩
theorem Yj {s x : Operand} {t e : TypeId} {bytes : Nat} {z : Value} {a a2 : Option Addr} {c c2 : Nat} {l m : List α} {B : ja} (E : ElemTy P t e sz bytes z) (hs : ev ρ s = some (.slice a l.length c)) (hx : ev ρ x = some (.slice a2 m.length c2))
 (hrow : ORow r e sz L a c l B) (hr : sliceR sz r L [.slice a2 m.length c2] m) (hone : ∀ cs y, r L cs y → ∀ v ∈ cs, v.oneCell' = true) (h63 : l.length + m.length ≤ maxLen) (hby : (l.length + m.length) * bytes ≤ 140737488355328) :
 OpT P G ρ (B ++ L) (.call ⟨.builtin .append, #[s, x], #[t, t]⟩) ty fun v' L' => ∃ a' c' B', v' = .slice a' (l ++ m).length c' ∧ ORow r e sz L a' c' (l ++ m) B' ∧ L' = B' ++ L := by
 obtain ⟨xs, h1, h2, h3⟩ := hrow.ex
 have hlen : (l ++ m).length = l.length + m.length := by simp
 have laid_one : ∀ (m : List α) (news : List Value), Laid r sz L news m → ∀ v ∈ news, v.oneCell' = true := by
  intro m
  induction m with
  | nil => intro news h v hv; rw [show news = [] from h] at hv; simp at hv
  | cons y m ih =>
    rintro _ ⟨d, ys, rfl, _, q2, q3⟩ v hv
    rcases List.mem_append.1 hv with hv | hv
    · exact hone d y q2 v hv
    · exact ih ys q3 v hv
 obtain ⟨_, _, _, hc⟩ := sliceR.cut hr
 rcases hc with rfl | ⟨b, off, C, te, fr, rfl, q2, q3⟩
 · refine (Qj E hs hx h1 h63 hby).post fun v' M ⟨B', k1, k2⟩ => ?_
   obtain ⟨a', c', rfl⟩ := k1.slice
   refine ⟨M, ⟨a', c', B', by rw [hlen]; rfl, ⟨xs, ?_, by simpa using h2, h3⟩, k2⟩, fun w hw => hw⟩
   simpa using k1
 · obtain ⟨news, n1, n2⟩ := Vk m off q3
   refine (zi E hs hx h1 ⟨n1.len, laid_one m news n1, Or.inr ⟨b, off, c2, C, te, fr, rfl, q2, n2⟩⟩ h63 hby).post fun v' M ⟨B', k1, k2⟩ => ?_
   obtain ⟨a', c', rfl⟩ := k1.slice
   refine ⟨M, ⟨a', c', B', by rw [hlen], ⟨xs ++ news, by rw [hlen]; exact k1, h2.append n1, fun v hv => ?_⟩, k2⟩, fun w hw => hw⟩
   rcases List.mem_append.1 hv with hv | hv
   · exact h3 v hv
   · exact laid_one m news n1 v hv
end
end Go.Proofs.YtbjkkoacclfejaaGreat
namespace Go.Proofs.YtbjkkoacclfejaaGreat
open Go.RowKit
variable {G : World} {P : Program} {n : Nat} {ρ : jB} {L : ja} {ty : TypeId} {Q : Exit → Act → World → Prop}
def Yk (a : Option Addr) (c k sz : Nat) : Option Addr := if c = k then a else a.map (·.add (k * sz))
theorem Yl {x lo : Operand} {a : Option Addr} {m c : Nat} {k : IntKind} {i : Int} {t e : TypeId} {sz bytes : Nat} {z : Value} (E : ElemTy P t e sz bytes z) (hx : ev ρ x = some (.slice a m c)) (hlo : ev ρ lo = some (.int k i)) (h0 : 0 ≤ i) (h1 : i ≤ m) :
 OpQ P ρ L (.slice t x (some lo) none none) ty (.slice (Yk a c i.toNat sz) (m - i.toNat) (c - i.toNat)) :=
 ⟨fun r hr w hw o ho _ => by
   obtain ⟨inf, q2, q3, q4, q5⟩ := E.info
   simp [execOp, ho, hr _ _ hx, hr _ _ hlo, Instr.sliceAt, run_underlying E.und, Instr.slice, Instr.sliceBounds, Instr.sliceBound, asIntOf, h0, h1, sizeOf, typeInfo, q2, q4, Yk]⟩
theorem Ym {x lo hi : Operand} {a : Option Addr} {m c : Nat} {k k' : IntKind} {i j : Int} {t e : TypeId} {sz bytes : Nat} {z : Value} (E : ElemTy P t e sz bytes z) (hx : ev ρ x = some (.slice a m c)) (hlo : ev ρ lo = some (.int k i)) (hhi : ev ρ hi = some (.int k' j)) (h0 : 0 ≤ i) (h1 : i ≤ j) (h2 : j ≤ c) :
 OpQ P ρ L (.slice t x (some lo) (some hi) none) ty (.slice (Yk a c i.toNat sz) (j.toNat - i.toNat) (c - i.toNat)) :=
 ⟨fun r hr w hw o ho _ => by
   obtain ⟨inf, q2, q3, q4, q5⟩ := E.info
   have h3 : 0 ≤ j := by omega
   have e1 : ((j.toNat : Nat) : Int) = j := by omega
   simp [execOp, ho, hr _ _ hx, hr _ _ hlo, hr _ _ hhi, Instr.sliceAt, run_underlying E.und, Instr.slice, Instr.sliceBounds, Instr.sliceBound, asIntOf, h0, h1, h2, h3, e1, sizeOf, typeInfo, q2, q4, Yk]⟩
section
variable {α : Type} {r : Rp α} {sz : Nat}
theorem sliceR.take {a : Option Addr} {m c : Nat} {l : List α} (h : sliceR sz r L [.slice a m c] l) {k : Nat} (hk : k ≤ l.length) : sliceR sz r L [.slice a k c] (l.take k) := by
 obtain ⟨h1, h2, h3, h4⟩ := sliceR.cut h
 refine ⟨a, c, by rw [List.length_take, Nat.min_eq_left hk], by rw [List.length_take]; omega, h3, ?_⟩
 rcases h4 with rfl | ⟨b, off, C, te, fr, rfl, q2, q3⟩
 · left; simp
 · right
   refine ⟨b, off, C, te, fr, rfl, q2, fun i x hx => ?_⟩
   refine q3 i x ?_
   rw [List.getElem?_take] at hx
   split at hx
   · exact hx
   · cases hx
theorem sliceR.drop {a : Option Addr} {m c : Nat} {l : List α} (h : sliceR sz r L [.slice a m c] l) {k : Nat} (hk : k ≤ l.length) : sliceR sz r L [.slice (Yk a c k sz) (m - k) (c - k)] (l.drop k) := by
 obtain ⟨h1, h2, h3, h4⟩ := sliceR.cut h
 refine ⟨Yk a c k sz, c - k, by rw [List.length_drop, h1], by rw [List.length_drop]; omega, by omega, ?_⟩
 by_cases hkl : k = l.length
 · left; rw [hkl, List.drop_length]
 · rcases h4 with rfl | ⟨b, off, C, te, fr, rfl, q2, q3⟩
   · left; simp
   · right
     have hc : ¬ c = k := by omega
     refine ⟨b, off + k * sz, C, te, fr, by unfold Yk; rw [if_neg hc]; simp [qg], q2, fun i x hx => ?_⟩
     rw [List.getElem?_drop] at hx
     obtain ⟨cs', k1, k2, k3⟩ := q3 (k + i) x hx
     refine ⟨cs', k1, k2, fun j v hj => ?_⟩
     rw [← k3 j v hj]
     congr 1
     rw [Nat.add_mul]
     omega
theorem sliceR.at {a : Option Addr} {m c : Nat} {l : List α} (h : sliceR sz r L [.slice a m c] l) {i : Nat} {x : α} (hx : l[i]? = some x) : ∃ b off C te fr, a = some ⟨b, off, none⟩ ∧ (b, Obj.cells C te fr) ∈ L ∧ ∃ cs, cs.length = sz ∧ r L cs x ∧ ∀ j v, cs[j]? = some v → C[off + i * sz + j]? = some v := by
 obtain ⟨_, _, _, h4⟩ := sliceR.cut h
 rcases h4 with rfl | ⟨b, off, C, te, fr, rfl, q2, q3⟩
 · simp at hx
 · exact ⟨b, off, C, te, fr, rfl, q2, q3 i x hx⟩
theorem sliceR.imp {r' : Rp α} {L' : ja} {cs : List Value} {l : List α} (h : sliceR sz r L cs l) (hL : ∀ p ∈ L, p ∈ L') (hr : ∀ cs x, x ∈ l → r L cs x → r' L' cs x) : sliceR sz r' L' cs l := by
 obtain ⟨a, cap, h1, h2, h3, h4⟩ := h
 refine ⟨a, cap, h1, h2, h3, h4.imp id ?_⟩
 rintro ⟨b, off, C, te, fr, q1, q2, q3⟩
 refine ⟨b, off, C, te, fr, q1, hL _ q2, fun i x hx => ?_⟩
 obtain ⟨cs', k1, k2, k3⟩ := q3 i x hx
 exact ⟨cs', k1, hr cs' x (List.mem_of_getElem? hx) k2, k3⟩
theorem Laid.imp {r' : Rp α} {L' : ja} : ∀ {l : List α} {xs : List Value}, Laid r sz L xs l → (∀ cs x, x ∈ l → r L cs x → r' L' cs x) → Laid r' sz L' xs l
 | [], _, h, _ => h
 | x :: l, _, ⟨c, ys, h1, h2, h3, h4⟩, hr => ⟨c, ys, h1, h2, hr c x (List.mem_cons_self ..) h3, Laid.imp h4 fun cs y hy => hr cs y (List.mem_cons_of_mem _ hy)⟩
theorem ORow.imp {r' : Rp α} {L' : ja} {e : TypeId} {a : Option Addr} {c : Nat} {l : List α} {B : ja} (h : ORow r e sz L a c l B) (hr : ∀ cs x, x ∈ l → r L cs x → r' L' cs x) : ORow r' e sz L' a c l B := by
 obtain ⟨xs, h1, h2, h3⟩ := h.ex
 exact ⟨xs, h1, h2.imp hr, h3⟩
theorem ORow.one {e : TypeId} {a : Option Addr} {c : Nat} {l : List α} {B : ja} (h : ORow r e sz L a c l B) : (a = none ∧ B = [] ∧ l = [] ∧ c = 0) ∨ ∃ b cur, a = some ⟨b, 0, none⟩ ∧ B = [(b, .cells cur e (0, 0))] ∧ cur.size = c * sz ∧ l.length ≤ c := by
 obtain ⟨xs, h1, h2, h3⟩ := h.ex
 rcases h1.is with ⟨q1, q2, q3⟩ | ⟨b, cap, cur, q1, q2, q3, q4, q5, q6⟩
 · obtain ⟨rfl, _, rfl⟩ := Value.slice.inj q1
   exact Or.inl ⟨rfl, q3, List.eq_nil_of_length_eq_zero q2, rfl⟩
 · obtain ⟨rfl, _, rfl⟩ := Value.slice.inj q1
   exact Or.inr ⟨b, cur, rfl, q2, q5, q3⟩
theorem ORow.cap {e : TypeId} {a : Option Addr} {c : Nat} {l : List α} {B : ja} (h : ORow r e sz L a c l B) : l.length ≤ c ∧ c ≤ maxLen := by
 obtain ⟨xs, h1, h2, h3⟩ := h.ex
 rcases h1.is with ⟨q1, q2, q3⟩ | ⟨b, cap, cur, q1, q2, q3, q4, q5, q6⟩
 · obtain ⟨rfl, _, rfl⟩ := Value.slice.inj q1
   exact ⟨by omega, by unfold maxLen; omega⟩
 · obtain ⟨rfl, _, rfl⟩ := Value.slice.inj q1
   exact ⟨q3, q4⟩
end
def Wr (N : ja) : Prop := ∀ p ∈ N, ∃ C te, p.2 = Obj.cells C te (0, 0)
theorem Wr.nil : Wr [] := fun p hp => absurd hp (by simp)
theorem Wr.append {A B : ja} (h : Wr A) (k : Wr B) : Wr (A ++ B) := fun p hp => (List.mem_append.1 hp).elim (h p) (k p)
theorem Wr.cons {b : Nat} {C : Array Value} {te : TypeId} {B : ja} (k : Wr B) : Wr ((b, .cells C te (0, 0)) :: B) := fun p hp => by
 rcases List.mem_cons.1 hp with rfl | hp
 · exact ⟨C, te, rfl⟩
 · exact k p hp
theorem ORow.wr {α : Type} {r : Rp α} {sz : Nat} {e : TypeId} {a : Option Addr} {c : Nat} {l : List α} {B : ja} (h : ORow r e sz L a c l B) : Wr B := by
 rcases h.one with ⟨_, rfl, _⟩ | ⟨b, cur, _, rfl, _⟩
 · exact Wr.nil
 · exact Wr.cons Wr.nil
theorem jE {ops : Array Oper} {l : List Oper} {L' : ja} (h : TL P G ops n ρ L' l Q) (hc : ∀ p, cnt p L' ≤ cnt p L) : TL P G ops n ρ L l Q := qv (fun w hw => hw.cnt hc) h
theorem jG {e : Exit} {L' : ja} (h : TQ G n ρ L' e Q) (hc : ∀ p, cnt p L' ≤ cnt p L) : TQ G n ρ L e Q := jr (fun w hw => hw.cnt hc) h
theorem Y7 {c : Code} {L' : ja} (h : T P G n ρ L' c Q) (hc : ∀ p, cnt p L' ≤ cnt p L) : T P G n ρ L c Q := ael (fun w hw => hw.cnt hc) h
theorem kk {ops : Array Oper} {K : ja} {W : List Nat} {L' : ja} {fuel : Nat} {listed : Array Bool} (h : TA P G ops n K W Q fuel listed ρ L') (hc : ∀ p, cnt p L' = cnt p L) : TA P G ops n K W Q fuel listed ρ L :=
 Y0 (fun w hw => hw.cnt fun p => Nat.le_of_eq (hc p)) (fun hk p hp => j9 (fun q => Nat.le_of_eq (hc q)) p (hk p hp)) h
theorem qS {α : Type} {r : Rp α} {sz : Nat} {s x : Operand} {t e : TypeId} {bytes j k : Nat} {z : Value} {a a2 : Option Addr} {c c2 : Nat} {l m : List α} {B L0 : ja} (E : ElemTy P t e sz bytes z) (hs : ev ρ s = some (.slice a j c)) (hx : ev ρ x = some (.slice a2 k c2)) (hj : j = l.length) (hk : k = m.length)
 (hrow : ORow r e sz L0 a c l B) (hr : sliceR sz r L0 [.slice a2 m.length c2] m) (hr2 : ∀ q ∈ L0, q ∈ L) (hm : uL r) (hone : ∀ cs y, r L0 cs y → ∀ v ∈ cs, v.oneCell' = true) (h63 : l.length + m.length ≤ 1000000) (hb : bytes ≤ 1000) :
 OpT P G ρ (B ++ L) (.call ⟨.builtin .append, #[s, x], #[t, t]⟩) ty fun v' L' => ∃ a' c' B', v' = .slice a' (l ++ m).length c' ∧ ORow r e sz L0 a' c' (l ++ m) B' ∧ L' = B' ++ L := by
 subst hj hk
 obtain ⟨xs, h1, h2, h3⟩ := hrow.ex
 have hlen : (l ++ m).length = l.length + m.length := by simp
 have h63' : l.length + m.length ≤ maxLen := by unfold maxLen; omega
 have hby : (l.length + m.length) * bytes ≤ 140737488355328 := Nat.le_trans (Nat.mul_le_mul h63 hb) (by decide)
 have laid_one : ∀ (m : List α) (news : List Value), Laid r sz L0 news m → ∀ v ∈ news, v.oneCell' = true := by
  intro m
  induction m with
  | nil => intro news h v hv; rw [show news = [] from h] at hv; simp at hv
  | cons y m ih =>
    rintro _ ⟨d, ys, rfl, _, q2, q3⟩ v hv
    rcases List.mem_append.1 hv with hv | hv
    · exact hone d y q2 v hv
    · exact ih ys q3 v hv
 obtain ⟨_, _, _, hc⟩ := sliceR.cut hr
 rcases hc with rfl | ⟨b, off, C, te, fr, rfl, q2, q3⟩
 · refine (Qj E hs hx h1 h63' hby).post fun v' M ⟨B', k1, k2⟩ => ?_
   obtain ⟨a', c', rfl⟩ := k1.slice
   refine ⟨M, ⟨a', c', B', by rw [hlen]; rfl, ⟨xs, ?_, by simpa using h2, h3⟩, k2⟩, fun w hw => hw⟩
   simpa using k1
 · obtain ⟨news, n1, n2⟩ := Vk m off q3
   refine (zi E hs hx h1 ⟨n1.len, laid_one m news n1, Or.inr ⟨b, off, c2, C, te, fr, rfl, hr2 _ q2, n2⟩⟩ h63' hby).post fun v' M ⟨B', k1, k2⟩ => ?_
   obtain ⟨a', c', rfl⟩ := k1.slice
   refine ⟨M, ⟨a', c', B', by rw [hlen], ⟨xs ++ news, by rw [hlen]; exact k1, h2.append n1, fun v hv => ?_⟩, k2⟩, fun w hw => hw⟩
   rcases List.mem_append.1 hv with hv | hv
   · exact h3 v hv
   · exact laid_one m news n1 v hv
end Go.Proofs.YtbjkkoacclfejaaGreat
namespace Go.Proofs.YtbjkkoacclfejaaGreat
open Go.RowKit
variable {G : World} {P : Program} {n : Nat} {ρ : jB} {L : ja} {ty : TypeId} {Q : Exit → Act → World → Prop}
def Mid {σ : Type} (G : World) (n : Nat) (I : σ → Prop) (ρI : σ → jB) (LI : σ → ja) (a : Act) (w : World) : Prop := ∃ x, I x ∧ Env n (ρI x) a ∧ Heap G w (LI x)
theorem Y8 {σ : Type} {x y : Code} (I : σ → Prop) (ρI : σ → jB) (LI : σ → ja) (hx : T P G n ρ L x (Exit.then (Mid G n I ρI LI) Q)) (hy : ∀ s, I s → T P G n (ρI s) (LI s) y Q) : T P G n ρ L (.seq x y) Q :=
 j7 (Vi hx fun e a w h => by
  cases e with
  | normal =>
    obtain ⟨s, h1, h2, h3⟩ := h
    exact (hy s h1).out a w h2 h3
  | _ => exact h)
theorem kS {σ : Type} {I : σ → Prop} {ρI : σ → jB} {LI : σ → ja} (x : σ) (hI : I x) (hs : Sub (ρI x) ρ) (hl : ∀ w, Heap G w L → Heap G w (LI x)) : TQ G n ρ L .normal (Exit.then (Mid G n I ρI LI) Q) :=
 ⟨fun a w he hw => ⟨x, hI, he.weak hs.get, hl w hw⟩⟩
end Go.Proofs.YtbjkkoacclfejaaGreat
namespace Go.Proofs.YtbjkkoacclfejaaGreat
open Go.RowKit
theorem je {p : Prop} (h : p := by kernel_rfl) : p := h
theorem jd {p : Prop} (h : p := by omega) : p := h
theorem Qk {p : Prop} (h : p := by first | assumption | rfl) : p := h
theorem ji {p : Prop} (h : p := by intro p; (try simp only [qc, ku, KU]) <;> omega) : p := h
theorem jn {A B : ja} (h : ∀ p, cnt p A ≤ cnt p B := by intro p; (try simp only [qc, ku, KU]) <;> omega) : ∀ p ∈ A, p ∈ B := j9 h
theorem KM {p : Prop} (h : p := by first | assumption | with_reducible rfl | omega) : p := h
theorem agY {p : Prop} (h : p := by first | assumption | (apply dT; (· exact KM)) | (apply dF; (· exact KM)) | (apply eT; (· exact KM)) | (apply eF; (· exact KM)) | (apply nT; (· exact KM)) | (apply nF; (· exact KM))) : p := h
theorem kj {p : Prop} (h : p := by first | with_reducible rfl | assumption | exact Bool.not_false | exact Bool.not_true | (apply dT; (· exact KM)) | (apply dF; (· exact KM)) | (apply eT; (· exact KM)) | (apply eF; (· exact KM)) | (apply nT; (· exact KM)) | (apply nF; (· exact KM)) | (apply xT; exact agY) | (apply xF; exact agY)) : p := h
theorem zw {p : Prop} (h : p := by first | with_reducible rfl | assumption | exact Bool.not_false | exact Bool.not_true) : p := h
theorem yy {p : Prop} (h : p := by repeat (first | assumption | exact List.mem_cons_self | (apply List.mem_append_left; first | assumption | exact List.mem_cons_self) | apply List.mem_cons_of_mem | apply List.mem_append_right)) : p := h
theorem js {p : Prop} (h : p := by repeat (first | exact trivial | refine ⟨rfl, ?_⟩)) : p := h
section
variable {P : Program} {G : World} {n : Nat} {ρ : jB} {L : ja} {op : Op} {ty : TypeId} {v : Value} {Q : Exit → Act → World → Prop} {ops : Array Oper}
theorem aip {o : BinOp} {t : TypeId} {a b : Value} (h : Bin P o t a b v := by first | (apply acG; (· exact ⟨jd, jd⟩)) | (apply acH; (· exact ⟨jd, jd⟩)) | (apply acI; (· exact ⟨jd, jd⟩)) | (apply acJ; (· omega); (· omega); (· exact ⟨jd, jd⟩)) | (apply acK; (· omega); (· omega)) | (apply acL) | (apply acM) | (apply acN) | (apply acO) | (apply acP) | (apply acQ) | (apply aaM) | (apply aaN) | (apply aaO) | (apply aaP) | (apply aaQ; first | omega | (simp only [List.length_cons, List.length_nil]; omega)) | (apply aaR; (· exact unO)) | (apply aaS; (· exact unO)) | (apply VN; (· exact unO)) | (apply aaT; (· exact unO)) | (apply aa4; (· exact unO))) : Bin P o t a b v := h
theorem yz  (h : OpQ P ρ L op ty v := by first | (apply zg; (· exact rfl)) | (apply Jv; (· exact rfl)) | (apply uq; (· exact rfl); (· exact Qb)) | (apply Y1; (· exact rfl); (· exact plO); (· exact yy); (· exact Qk)) | (apply uk; (· exact rfl); (· exact rfl); (· exact aip)) | (apply aeo; (· exact etO); (· exact rfl); (· exact rfl); (· omega)) | (apply acW; (· exact etO); (· exact rfl); (· exact rfl); (· omega); (· omega)) | (apply U6; (· exact rfl); (· exact unO)) | (apply Yd; (· exact rfl); (· exact unO)) | (apply JY; (· exact rfl)) | (apply aaL; (· exact rfl)) | (apply Yc; (· exact rfl); (· exact rfl)) | (apply VO; (· exact rfl); (· exact unO); (· exact unO); (· exact ⟨jd, jd⟩)) | (apply VP; (· exact rfl); (· exact unO); (· exact unO)) | (apply U4; (· exact rfl); (· exact unO); (· exact unO)) | (apply aep; (· exact rfl); (· exact rfl)) | (apply aeq; (· exact rfl); (· exact rfl)) | (apply U7; (· exact rfl); (· exact rfl); (· exact unO); (· omega); (· exact Qk)) | (apply acY; (· exact arO); (· exact rfl); (· exact rfl); (· omega); (· omega)) | (apply U9; (· exact rfl); (· exact rfl); (· exact rfl); (· exact unO); (· omega); (· omega); (· omega)) | (apply Ua; (· exact rfl); (· exact rfl); (· exact unO); (· omega); (· omega)) | (apply VW; (· exact etO); (· exact rfl); (· exact rfl); (· omega); (· omega)) | (apply Yl; (· exact etO); (· exact rfl); (· exact rfl); (· omega); (· omega)) | (apply Ym; (· exact etO); (· exact rfl); (· exact rfl); (· exact rfl); (· omega); (· omega); (· omega)) | (apply zW; (· exact rfl); (· exact stO); (· exact yy); (· exact Qk)) | (apply aen; (· exact rfl); (· exact ⟨jd, jd⟩))) : OpQ P ρ L op ty v := h
theorem qqQ {K : ja} {o : Oper} (h : Quiet P G ops K ρ o v := by first | (apply jF; (· exact yz)) | (apply jF; (apply ki; (· exact rfl); (· exact kj); (· exact rfl))) | (apply jF; (apply ke; (· exact rfl); (· exact kj); (· exact rfl))) | (apply un; (· exact rfl); (· exact rfl); (· exact kj); (· exact yz)) | (apply un; (· exact rfl); (· exact rfl); (· exact kj); (apply ki; (· exact rfl); (· exact kj); (· exact rfl))) | (apply un; (· exact rfl); (· exact rfl); (· exact kj); (apply ke; (· exact rfl); (· exact kj); (· exact rfl))) | (apply ZI; (· exact rfl); (· exact rfl); (· exact kj)) | (apply VT; (· exact rfl); (· exact rfl))) : Quiet P G ops K ρ o v := h
theorem tkQ {K : ja} {W : List Nat} {fuel : Nat} {listed : Array Bool} (i : Nat) {d : Nat} {oi : Oper} (h : TA P G ops n K W Q fuel (listed.setIfInBounds i true) ((d, v) :: ρ) L) (hi : ops[i]? = some oi := by rfl) (hd : oi.dst = some d := by rfl) (ht : VS ops W n listed i d = true := by kernel_rfl)
 (hq : Quiet P G ops K ρ oi v := by exact qqQ) (hK : ∀ p ∈ K, p ∈ L := by first | assumption | (intro p hp; grind)) : TA P G ops n K W Q (fuel + 1) listed ρ L := ju i hi hd ht hq hK h
theorem tdQ {K : ja} {W : List Nat} {fuel : Nat} {listed : Array Bool} (h : TQ G n ρ L .normal Q) (hr : Region.ready .any ops listed = [] := by kernel_rfl) : TA P G ops n K W Q fuel listed ρ L := KO hr h
theorem jQ {d : Nat} {pos : String} {after : Array Edge} {rest : List Oper} {mk : Nat → Value} {ob : Obj} (hr : ∀ b, TL P G ops n ((d, mk b) :: ρ) ((b, ob) :: L) rest Q) (h : OpNew P G ρ L op ty mk ob := by first | (apply Jy; exact zeO) | (apply kh; (· exact zeO); (· exact rfl))) (hd : Nat.blt d n = true := by exact rfl) :
 TL P G ops n ρ L (⟨some d, op, ty, pos, after, none⟩ :: rest) Q := jP h hd hr
theorem kD {d : Nat} {pos : String} {after : Array Edge} {rest : List Oper} {mk : Nat → Value} {ob : Obj} (hr : ∀ b, TL P G ops n ((d, mk b) :: ρ) ((b, ob) :: L) rest Q) (h : OpNew P G ρ L op ty mk ob := by first | (apply kQ; exact rfl) | (apply Ye; (· exact rfl); (· exact rfl))) (hd : Nat.blt d n = true := by exact rfl) :
 TL P G ops n ρ L (⟨some d, op, ty, pos, after, none⟩ :: rest) Q := jP h hd hr
theorem qh {d : Nat} {pos : String} {after : Array Edge} {rest : List Oper} {mk : Nat → Value} {ob : Obj} (hr : ∀ b, TL P G ops n ((d, mk b) :: ρ) ((b, ob) :: L) rest Q) (h : OpNew P G ρ L op ty mk ob := by first | (apply q9; (· exact etO); (· exact rfl); (· exact rfl); (· decide)) | (apply KP; (· exact etO); (· exact rfl); (· exact rfl))) (hd : Nat.blt d n = true := by exact rfl) :
 TL P G ops n ρ L (⟨some d, op, ty, pos, after, none⟩ :: rest) Q := jP h hd hr
end
theorem goA {P Q : Prop} (k : Q) (run : Hd Q → P := by intro k; (repeat1' (first | with_reducible apply qj | with_reducible apply uj | (apply jy; (· exact yz); (· exact rfl)) | with_reducible apply jO | with_reducible apply j7 | with_reducible apply uA | with_reducible apply qC | with_reducible apply uK | with_reducible apply qY | with_reducible apply yA | with_reducible apply JX | with_reducible apply kM | with_reducible apply kX | with_reducible apply j0 | with_reducible apply kA | with_reducible apply kN | with_reducible apply kz | with_reducible apply uB | (apply kB; (· decide)) | (apply jy; (· apply ki; (· exact rfl); (· exact kj); (· exact rfl)); (· exact rfl)) | (apply jy; (· apply ke; (· exact rfl); (· exact kj); (· exact rfl)); (· exact rfl)) | (apply kY; (· exact rfl); (· exact rfl); (· exact kj)) | (apply jI; (· exact yz); (· exact rfl)) | (apply jI; (· apply ki; (· exact rfl); (· exact kj); (· exact rfl)); (· exact rfl)) | (apply jI; (· apply ke; (· exact rfl); (· exact kj); (· exact rfl)); (· exact rfl)) | (apply yD; (· exact rfl); (· exact rfl); (· exact kj); (· exact rfl)) | (apply qy; (· exact rfl); (· exact rfl); (· exact rfl)) | (apply qQ; (· exact rfl); (· exact rfl); (· exact stO); (· exact rfl); (· exact rfl); (· exact rfl)) | (apply qx; (· exact rfl); (· exact rfl); (· exact onO); (· exact rfl); (· exact Qk); (· exact rfl)) | (apply J0; (· exact rfl); (· exact kj)) | (apply Vh; (· exact rfl); (· exact kj)))); exact k.out) : P := run ⟨k⟩
theorem goB {P Q : Prop} (k : Q) (run : Hd Q → P := by intro k; (repeat1' (first | with_reducible apply qj | with_reducible apply uj | (apply jy; (· exact yz); (· exact rfl)) | with_reducible apply jO | with_reducible apply j7 | with_reducible apply uA | with_reducible apply qC | with_reducible apply uK | with_reducible apply qY | with_reducible apply yA | with_reducible apply JX | with_reducible apply kM | with_reducible apply kX | with_reducible apply j0 | with_reducible apply kA | with_reducible apply kN | with_reducible apply kz | with_reducible apply uB | (apply kB; (· decide)) | (apply jy; (· apply ki; (· exact rfl); (· exact kj); (· exact rfl)); (· exact rfl)) | (apply jy; (· apply ke; (· exact rfl); (· exact kj); (· exact rfl)); (· exact rfl)) | (apply kY; (· exact rfl); (· exact rfl); (· exact kj)) | (apply jI; (· exact yz); (· exact rfl)) | (apply jI; (· apply ki; (· exact rfl); (· exact kj); (· exact rfl)); (· exact rfl)) | (apply jI; (· apply ke; (· exact rfl); (· exact kj); (· exact rfl)); (· exact rfl)) | (apply yD; (· exact rfl); (· exact rfl); (· exact kj); (· exact rfl)) | (apply qy; (· exact rfl); (· exact rfl); (· exact rfl)) | (apply qQ; (· exact rfl); (· exact rfl); (· exact stO); (· exact rfl); (· exact rfl); (· exact rfl)) | (apply qx; (· exact rfl); (· exact rfl); (· exact onO); (· exact rfl); (· exact Qk); (· exact rfl)) | (apply aa0; (· exact rfl); (· exact rfl); (· exact onO); (· exact rfl); (· exact Qk); (· exact rfl)) | (apply J0; (· exact rfl); (· exact kj)) | (apply Vh; (· exact rfl); (· exact kj)))); exact k.out) : P := run ⟨k⟩
theorem goC {P Q : Prop} (k : Q) (run : Hd Q → P := by intro k; (repeat1' (first | with_reducible apply qj | with_reducible apply uj | (apply jy; (· exact yz); (· exact rfl)) | with_reducible apply jO | with_reducible apply j7 | with_reducible apply uA | with_reducible apply qC | with_reducible apply uK | with_reducible apply qY | with_reducible apply yA | with_reducible apply JX | with_reducible apply kM | with_reducible apply kX | with_reducible apply j0 | with_reducible apply kA | with_reducible apply kN | with_reducible apply kz | with_reducible apply uB | (apply kB; (· decide)) | (apply jy; (· apply ki; (· exact rfl); (· exact zw); (· exact rfl)); (· exact rfl)) | (apply jy; (· apply ke; (· exact rfl); (· exact zw); (· exact rfl)); (· exact rfl)) | (apply kY; (· exact rfl); (· exact rfl); (· exact zw)) | (apply jI; (· exact yz); (· exact rfl)) | (apply jI; (· apply ki; (· exact rfl); (· exact zw); (· exact rfl)); (· exact rfl)) | (apply jI; (· apply ke; (· exact rfl); (· exact zw); (· exact rfl)); (· exact rfl)) | (apply yD; (· exact rfl); (· exact rfl); (· exact zw); (· exact rfl)) | (apply qy; (· exact rfl); (· exact rfl); (· exact rfl)) | (apply qQ; (· exact rfl); (· exact rfl); (· exact stO); (· exact rfl); (· exact rfl); (· exact rfl)) | (apply qx; (· exact rfl); (· exact rfl); (· exact onO); (· exact rfl); (· exact Qk); (· exact rfl)) | (apply J0; (· exact rfl); (· exact zw)) | (apply Vh; (· exact rfl); (· exact zw)))); exact k.out) : P := run ⟨k⟩
theorem goD {P Q : Prop} (k : Q) (run : Hd Q → P := by intro k; (repeat1' (first | with_reducible apply qj | with_reducible apply uj | (apply jy; (· exact yz); (· exact rfl)) | with_reducible apply jO | with_reducible apply j7 | with_reducible apply uA | with_reducible apply qC | with_reducible apply uK | with_reducible apply qY | with_reducible apply yA | with_reducible apply JX | with_reducible apply kM | with_reducible apply kX | with_reducible apply j0 | with_reducible apply kA | with_reducible apply kN | with_reducible apply kz | with_reducible apply uB | (apply kB; (· decide)) | (apply jy; (· apply ki; (· exact rfl); (· exact zw); (· exact rfl)); (· exact rfl)) | (apply jy; (· apply ke; (· exact rfl); (· exact zw); (· exact rfl)); (· exact rfl)) | (apply kY; (· exact rfl); (· exact rfl); (· exact zw)) | (apply jI; (· exact yz); (· exact rfl)) | (apply jI; (· apply ki; (· exact rfl); (· exact zw); (· exact rfl)); (· exact rfl)) | (apply jI; (· apply ke; (· exact rfl); (· exact zw); (· exact rfl)); (· exact rfl)) | (apply yD; (· exact rfl); (· exact rfl); (· exact zw); (· exact rfl)) | (apply qy; (· exact rfl); (· exact rfl); (· exact rfl)) | (apply qQ; (· exact rfl); (· exact rfl); (· exact stO); (· exact rfl); (· exact rfl); (· exact rfl)) | (apply qx; (· exact rfl); (· exact rfl); (· exact onO); (· exact rfl); (· exact Qk); (· exact rfl)) | (apply aa0; (· exact rfl); (· exact rfl); (· exact onO); (· exact rfl); (· exact Qk); (· exact rfl)) | (apply J0; (· exact rfl); (· exact zw)) | (apply Vh; (· exact rfl); (· exact zw)))); exact k.out) : P := run ⟨k⟩
theorem goE {P Q : Prop} (k : Q) (run : Hd Q → P := by intro k; (repeat1' (first | with_reducible apply qj | with_reducible apply uj | (apply jy; (· exact yz); (· exact rfl)) | with_reducible apply jO | with_reducible apply j7 | with_reducible apply uA | with_reducible apply qC | with_reducible apply uK | with_reducible apply qY | with_reducible apply yA | with_reducible apply JX | with_reducible apply kM | with_reducible apply kX | with_reducible apply j0 | with_reducible apply kA | with_reducible apply kN | with_reducible apply kz | with_reducible apply uB | (apply kB; (· decide)) | (apply jy; (· apply ki; (· exact rfl); (· exact kj); (· exact rfl)); (· exact rfl)) | (apply jy; (· apply ke; (· exact rfl); (· exact kj); (· exact rfl)); (· exact rfl)) | (apply kY; (· exact rfl); (· exact rfl); (· exact kj)) | (apply jI; (· exact yz); (· exact rfl)) | (apply jI; (· apply ki; (· exact rfl); (· exact kj); (· exact rfl)); (· exact rfl)) | (apply jI; (· apply ke; (· exact rfl); (· exact kj); (· exact rfl)); (· exact rfl)) | (apply yD; (· exact rfl); (· exact rfl); (· exact kj); (· exact rfl)) | (apply qy; (· exact rfl); (· exact rfl); (· exact rfl)) | (apply qQ; (· exact rfl); (· exact rfl); (· exact stO); (· exact rfl); (· exact rfl); (· exact rfl)) | (apply J0; (· exact rfl); (· exact kj)) | (apply Vh; (· exact rfl); (· exact kj)))); exact k.out) : P := run ⟨k⟩
theorem goF {P Q : Prop} (k : Q) (run : Hd Q → P := by intro k; (repeat1' (first | with_reducible apply qj | with_reducible apply uj | (apply jy; (· exact yz); (· exact rfl)) | with_reducible apply jO | with_reducible apply uA | with_reducible apply qC | with_reducible apply uK | with_reducible apply qY | with_reducible apply yA | with_reducible apply JX | with_reducible apply kM | with_reducible apply kX | with_reducible apply j0 | with_reducible apply kA | with_reducible apply kN | with_reducible apply kz | with_reducible apply uB | (apply kB; (· decide)) | (apply jy; (· apply ki; (· exact rfl); (· exact kj); (· exact rfl)); (· exact rfl)) | (apply jy; (· apply ke; (· exact rfl); (· exact kj); (· exact rfl)); (· exact rfl)) | (apply kY; (· exact rfl); (· exact rfl); (· exact kj)) | (apply jI; (· exact yz); (· exact rfl)) | (apply jI; (· apply ki; (· exact rfl); (· exact kj); (· exact rfl)); (· exact rfl)) | (apply jI; (· apply ke; (· exact rfl); (· exact kj); (· exact rfl)); (· exact rfl)) | (apply yD; (· exact rfl); (· exact rfl); (· exact kj); (· exact rfl)) | (apply qy; (· exact rfl); (· exact rfl); (· exact rfl)) | (apply qQ; (· exact rfl); (· exact rfl); (· exact stO); (· exact rfl); (· exact rfl); (· exact rfl)) | (apply qx; (· exact rfl); (· exact rfl); (· exact onO); (· exact rfl); (· exact Qk); (· exact rfl)) | (apply J0; (· exact rfl); (· exact kj)) | (apply Vh; (· exact rfl); (· exact kj)))); exact k.out) : P := run ⟨k⟩
theorem aa5 {P : Program} {ρ : jB} {L : ja} {op : Op} {ty : TypeId} {v : Value} (h : OpQ P ρ L op ty v := by apply jm; (· exact rfl); (· first | exact J1 _ _ _ | exact Un _ _ | exact ql _ _ _ _ _ _ _ _ _ _ | exact aet | exact yb | exact Y4 _ | exact Uo _ _ _ _ | exact yF _ _ _ _ _ _ _ | exact Y5 _ _ _ | exact yd | exact KS _ _ _ | exact Y6 _ | exact uC _ _ _ _ _ _ _ _ _ _ _ _ | exact qR _ _ _ _ _ | exact ac0 _ _ _ | exact uD | exact zX _ _ _ | exact uO _ _ _ _ _ _ _ | exact yG _ _ _ _ _ _ | exact J2 _ _ | exact yH _ _ _ _ _ _ _ _ _ _ _ _ _ _ _ _ _ _ _ _ | exact VZ _ | exact yI _ _ _ _ _ _ _ | exact aa2 _ | exact Vj | exact V0 _ | exact Qc _ _ | exact V5 _ | exact KT | exact zF _ _ _ _ | exact yJ _ _ _ _ _ _ _ _ _ _ | exact uP _ _ _ _ _ | exact V6 _ _ _ _ _ | exact yK _ | exact Qi _ _)) : OpQ P ρ L op ty v := h
end Go.Proofs.YtbjkkoacclfejaaGreat
namespace Go.Proofs.YtbjkkoacclfejaaGreat.Nm
abbrev Bytes := List UInt8
def V9 : Nat → Bytes → Option (List Bytes)
 | 0, _ => none
 | _ + 1, [] => none
 | f + 1, c :: t =>
   if c = 0 then (if t = [] then some [] else none)
   else if 63 < c.toNat then none
   else if t.length < c.toNat then none
   else (V9 f (t.drop c.toNat)).map (t.take c.toNat :: ·)
theorem Uq : ∀ (f g : Nat) (l : Bytes), l.length ≤ f → l.length ≤ g → V9 f l = V9 g l
 | 0, 0, _, _, _ => rfl
 | 0, g + 1, l, h, _ => by
   cases l with
   | nil => rfl
   | cons c t => simp at h
 | f + 1, 0, l, _, h => by
   cases l with
   | nil => rfl
   | cons c t => simp at h
 | f + 1, g + 1, [], _, _ => rfl
 | f + 1, g + 1, c :: t, h1, h2 => by
   have e1 : (t.drop c.toNat).length ≤ f := by simp at h1 ⊢; omega
   have e2 : (t.drop c.toNat).length ≤ g := by simp at h2 ⊢; omega
   simp only [V9]
   rw [Uq f g _ e1 e2]
theorem ZJ (f : Nat) (l : Bytes) (h : l.length ≤ f) : V9 f l = V9 l.length l := Uq f _ l h (Nat.le_refl _)
def lbl (l : Bytes) : Option (List Bytes) := V9 l.length l
theorem ac4 : lbl [] = none := rfl
theorem lbl_cons (c : UInt8) (t : Bytes) : lbl (c :: t) =
 if c = 0 then (if t = [] then some [] else none)
 else if 63 < c.toNat then none
 else if t.length < c.toNat then none
 else (lbl (t.drop c.toNat)).map (t.take c.toNat :: ·) := by
 unfold lbl
 simp only [V9, List.length_cons]
 rw [ZJ t.length (t.drop c.toNat) (by simp)]
def nm (l : Bytes) : Option (List Bytes) := if l.length ≤ 255 then lbl l else none
def may (l : Bytes) : Bool := (nm l).isSome
def lowB (c : UInt8) : UInt8 := if 65 ≤ c ∧ c ≤ 90 then c + 32 else c
def low (l : Bytes) : Bytes := l.map lowB
def enc : List Bytes → Bytes
 | [] => [0]
 | l :: ls => UInt8.ofNat l.length :: (l ++ enc ls)
def Ok (ls : List Bytes) : Prop := ∀ l ∈ ls, 1 ≤ l.length ∧ l.length ≤ 63
theorem aeu : Ok [] := by intro l h; cases h
theorem ok_cons {l : Bytes} {ls : List Bytes} : Ok (l :: ls) ↔ (1 ≤ l.length ∧ l.length ≤ 63) ∧ Ok ls := by
 unfold Ok; simp
theorem ye (ls : List Bytes) : (enc ls).length = (ls.map fun l => l.length + 1).sum + 1 := by
 induction ls with
 | nil => rfl
 | cons l ls ih => simp [enc, ih]; omega
theorem length_lt_enc (ls : List Bytes) : ls.length < (enc ls).length := by
 induction ls with
 | nil => simp [enc]
 | cons l ls ih => simp [enc]; omega
theorem KW : ∀ ls : List Bytes, Ok ls → lbl (enc ls) = some ls
 | [], _ => by simp [enc, lbl_cons]
 | l :: ls, h => by
   obtain ⟨⟨h1, h2⟩, h3⟩ := ok_cons.1 h
   have e : (UInt8.ofNat l.length).toNat = l.length := by simp; omega
   have n0 : ¬ UInt8.ofNat l.length = 0 := by
    intro k
    have := congrArg UInt8.toNat k
    rw [e] at this
    simp at this
    subst this
    simp at h1
   simp only [enc]
   rw [lbl_cons, if_neg n0, e, if_neg jd, if_neg (by simp)]
   simp [KW ls h3]
theorem Wa : ∀ (n : Nat) (l : Bytes) (ls : List Bytes), l.length ≤ n → lbl l = some ls → l = enc ls ∧ Ok ls
 | _, [], _, _, h => by simp [ac4] at h
 | 0, _ :: _, _, h, _ => by simp at h
 | n + 1, c :: t, ls, hl, h => by
   rw [lbl_cons] at h
   split at h
   · rename_i hc
     split at h
     · rename_i ht
       cases h
       subst hc ht
       exact ⟨rfl, aeu⟩
     · cases h
   · rename_i hc
     split at h
     · cases h
     · rename_i h63
       split at h
       · cases h
       · rename_i hlen
         have hd : (t.drop c.toNat).length ≤ n := by simp at hl ⊢; omega
         cases hr : lbl (t.drop c.toNat) with
         | none => simp [hr] at h
         | some ls' =>
           simp [hr] at h
           subst h
           obtain ⟨h1, h2⟩ := Wa n _ _ hd hr
           have hc1 : 1 ≤ c.toNat := by
            rcases Nat.eq_zero_or_pos c.toNat with h0 | h0
            · exact absurd (UInt8.toNat_inj.1 (by simpa using h0)) hc
            · exact h0
           have ht : (t.take c.toNat).length = c.toNat := by simp; omega
           refine ⟨?_, ok_cons.2 ⟨by omega, h2⟩⟩
           simp only [enc, ht, ← h1, List.take_append_drop]
           congr 1
           exact UInt8.toNat_inj.1 (by simp)
theorem ac5 {l : Bytes} {ls : List Bytes} : lbl l = some ls ↔ l = enc ls ∧ Ok ls :=
 ⟨fun h => Wa l.length l ls (Nat.le_refl _) h, fun h => by rw [h.1]; exact KW ls h.2⟩
theorem nm_iff {l : Bytes} {ls : List Bytes} : nm l = some ls ↔ l = enc ls ∧ Ok ls ∧ l.length ≤ 255 := by
 unfold nm
 split
 · rename_i h; rw [ac5]; simp [h]
 · rename_i h; simp [h]
theorem enc_inj {a b : List Bytes} (ha : Ok a) (hb : Ok b) (h : enc a = enc b) : a = b := by
 have h1 := KW a ha
 rw [h, KW b hb] at h1
 exact (Option.some.inj h1).symm
theorem low_length (l : Bytes) : (low l).length = l.length := by simp [low]
theorem low_append (a b : Bytes) : low (a ++ b) = low a ++ low b := by simp [low]
theorem Ql (c : UInt8) (h : c.toNat < 65) : lowB c = c := by
 unfold lowB
 rw [if_neg]
 rintro ⟨h1, _⟩
 have := UInt8.le_iff_toNat_le.1 h1
 simp at this
 omega
def lowL (ls : List Bytes) : List Bytes := ls.map low
theorem lowL_ok {ls : List Bytes} (h : Ok ls) : Ok (lowL ls) := by
 intro l hl
 obtain ⟨x, hx, rfl⟩ := List.mem_map.1 hl
 rw [low_length]
 exact h x hx
theorem low_enc : ∀ ls : List Bytes, Ok ls → low (enc ls) = enc (lowL ls)
 | [], _ => by simp [enc, low, lowL, Ql]
 | l :: ls, h => by
   obtain ⟨⟨h1, h2⟩, h3⟩ := ok_cons.1 h
   have ih := low_enc ls h3
   have e : (UInt8.ofNat l.length).toNat = l.length := by simp; omega
   have e1 : lowB (UInt8.ofNat l.length) = UInt8.ofNat l.length := Ql _ (by rw [e]; omega)
   have : low (enc (l :: ls)) = lowB (UInt8.ofNat l.length) :: (low l ++ low (enc ls)) := by
    simp [enc, low]
   rw [this, e1, ih]
   simp [enc, lowL, low_length]
def fold (n : Bytes) : Bytes := if may n then low n else []
def labels (n : Bytes) : List Bytes := (nm n).getD []
def parentN (n : Bytes) : Bytes := match nm n with | some (_ :: ls) => enc ls | _ => []
def parentB (n : Bytes) : Bool := match nm n with | some (_ :: _) => true | _ => false
def same (a b : Bytes) : Bool := may a && may b && (low a == low b)
def within (n z : Bytes) : Bool :=
 match nm n, nm z with
 | some a, some b => (lowL b).isSuffixOf (lowL a)
 | _, _ => false
theorem may_some {n : Bytes} {ls : List Bytes} (h : nm n = some ls) : may n = true := by simp [may, h]
theorem may_none {n : Bytes} (h : nm n = none) : may n = false := by simp [may, h]
theorem nm_of_may {n : Bytes} (h : may n = true) : ∃ ls, nm n = some ls := Option.isSome_iff_exists.1 h
theorem nm_of_not {n : Bytes} (h : may n = false) : nm n = none := by simpa [may] using h
theorem zZ (a b : List Bytes) : (enc (a ++ b)).length = (a.map fun l => l.length + 1).sum + (enc b).length := by
 rw [ye, ye]; simp; omega
theorem yr (a : List Bytes) : (enc (lowL a)).length = (enc a).length := by
 rw [ye, ye]
 simp only [lowL, List.map_map]
 congr 2
 exact List.map_congr_left fun l _ => by simp [low]
def Upto (a a2 : List Bytes) (zl : Nat) : Prop := (∃ a1, a = a1 ++ a2) ∧ ∀ x y, a = x ++ y → a2.length < y.length → zl < (enc y).length
theorem Upto.start (a : List Bytes) (zl : Nat) : Upto a a zl := by
 refine ⟨⟨[], rfl⟩, fun x y h hl => ?_⟩
 rw [h] at hl
 simp at hl
 omega
theorem Upto.step {a a2 : List Bytes} {l : Bytes} {zl : Nat} (h : Upto a (l :: a2) zl) (hz : zl < (enc (l :: a2)).length) : Upto a a2 zl := by
 obtain ⟨⟨a1, h1⟩, h2⟩ := h
 refine ⟨⟨a1 ++ [l], by simp [h1]⟩, fun x y hxy hl => ?_⟩
 by_cases hq : (l :: a2).length < y.length
 · exact h2 x y hxy hq
 · have hlen : y.length = (l :: a2).length := by simp at hq ⊢; omega
   have : y = l :: a2 := by
    have e := hxy.symm.trans h1
    exact (List.append_inj' e hlen).2
   rw [this]
   exact hz
theorem Upto.fin {a a2 b : List Bytes} (ha : Ok a) (hb : Ok b) (h : Upto a a2 (enc b).length) (hle : (enc a2).length ≤ (enc b).length) :
 (lowL b).isSuffixOf (lowL a) = (low (enc a2) == low (enc b)) := by
 obtain ⟨⟨a1, h1⟩, h2⟩ := h
 have ha2 : Ok a2 := fun l hl => ha l (by rw [h1]; exact List.mem_append_right _ hl)
 rw [Bool.eq_iff_iff, List.isSuffixOf_iff_suffix, beq_iff_eq, low_enc _ ha2, low_enc _ hb]
 constructor
 · rintro ⟨x', hx⟩
   have hal : (lowL a).length = a.length := by simp [lowL]
   have hbl : (lowL b).length = b.length := by simp [lowL]
   have hn : x'.length + b.length = a.length := by
    have := congrArg List.length hx
    simp [hbl, hal] at this
    exact this
   have hy : lowL (a.drop x'.length) = lowL b := by
    have e : lowL a = lowL (a.take x'.length) ++ lowL (a.drop x'.length) := by
     simp only [lowL, ← List.map_append, List.take_append_drop]
    rw [e] at hx
    refine ((List.append_inj' hx ?_).2).symm
    simp [lowL]
    omega
   have hyl : (enc (a.drop x'.length)).length = (enc b).length := by
    rw [← yr, hy, yr]
   have hcases : (a.drop x'.length).length = a2.length := by
    rcases Nat.lt_trichotomy (a.drop x'.length).length a2.length with hlt | heq | hgt
    · exfalso
      have e : a1 ++ a2 = a.take x'.length ++ a.drop x'.length := by rw [← h1, List.take_append_drop]
      have hs : (a2.drop (a2.length - (a.drop x'.length).length)) = a.drop x'.length := by
       have e2 : a1 ++ a2.take (a2.length - (a.drop x'.length).length) ++ a2.drop (a2.length - (a.drop x'.length).length) = a.take x'.length ++ a.drop x'.length := by
        rw [List.append_assoc, List.take_append_drop]
        exact e
       exact (List.append_inj' e2 (by simp at hlt ⊢; omega)).2
      have e3 : (enc a2).length = ((a2.take (a2.length - (a.drop x'.length).length)).map fun l => l.length + 1).sum + (enc (a.drop x'.length)).length := by
       conv => lhs; rw [← List.take_append_drop (a2.length - (a.drop x'.length).length) a2]
       rw [zZ, hs]
      have hpos : 0 < ((a2.take (a2.length - (a.drop x'.length).length)).map fun l => l.length + 1).sum := by
       cases hc : a2.take (a2.length - (a.drop x'.length).length) with
       | nil =>
         have := congrArg List.length hc
         simp at this hlt
         omega
       | cons u v => simp; omega
      omega
    · exact heq
    · exfalso
      have := h2 (a.take x'.length) (a.drop x'.length) (by rw [List.take_append_drop]) hgt
      omega
   have : a.drop x'.length = a2 := by
    have e : a1 ++ a2 = a.take x'.length ++ a.drop x'.length := by rw [← h1, List.take_append_drop]
    exact (List.append_inj' e hcases.symm).2.symm
   rw [← this, hy]
 · intro h
   have := enc_inj (lowL_ok ha2) (lowL_ok hb) h
   rw [h1, ← this]
   exact ⟨lowL a1, by simp [lowL]⟩
end Go.Proofs.YtbjkkoacclfejaaGreat.Nm
namespace Go.Proofs.YtbjkkoacclfejaaGreat
open Go.RowKit
def zx (l : List UInt8) : Value := .string ⟨l.toArray⟩
theorem z7 {a b : Bool} (h : a = b) : Ending.returned (.bool a) = .returned (.bool b) := by rw [h]
theorem Vl {a b : ByteArray} (h : a = b) : Ending.returned (.string a) = .returned (.string b) := by rw [h]
theorem Y9 (s : ByteArray) (k : Nat) (h : k < s.size) : s.data.toList.drop k = s[k] :: s.data.toList.drop (k + 1) := by
 rw [List.drop_eq_getElem_cons (by simpa using h)]; rfl
theorem ZK {l : Nm.Bytes} (h : ¬ 255 < l.length) : Nm.may l = (Nm.lbl l).isSome := by
 unfold Nm.may Nm.nm; rw [if_pos jd]
theorem aa6 {l : Nm.Bytes} (h : 255 < l.length) : Nm.may l = false := by
 unfold Nm.may Nm.nm; rw [if_neg jd]; rfl
theorem aev (b o j : Nat) : (⟨b, o, none⟩ : Addr).add j = ⟨b, o + j, none⟩ := by
 unfold Addr.add; split
 · rename_i h; subst h; rfl
 · rfl
theorem Wb (w : World) (C : Array Value) (t : TypeId) (fr : Nat × Nat) (k : Nat) (v : Value) :
 (w.alloc (.cells C t fr)).setCell ⟨w.heap.size, k, none⟩ v = w.alloc (.cells (C.setIfInBounds k v) t fr) := by
 show ({ w with heap := (w.heap.push (.cells C t fr)).modify w.heap.size _ } : World) = { w with heap := w.heap.push _ }
 congr 1
 apply Array.ext_getElem?
 intro i
 rw [Array.getElem?_modify]
 by_cases h : w.heap.size = i
 · subst h; simp
 · simp [h, Array.getElem?_push, Ne.symm h]
theorem Qm {P : Program} (W : World) (src dst e : TypeId) (b n cap : Nat) (l : List UInt8) (hn : n = l.length) (hs : P.underlying src = some (.slice e)) (he : P.underlying e = some (.int .u8)) (hd : P.underlying dst = some .string)
 (hc : ∀ j (hj : j < l.length), W.cell? ⟨b, j, none⟩ = some (.int .u8 (l[j].toNat : Int))) :
 (convert src dst (.slice (some ⟨b, 0, none⟩) n cap)).run P W = .ok (.string ⟨l.toArray⟩) W := by
 subst hn
 exact run_convert_bytes_back W src dst e ⟨b, 0, none⟩ cap l hs he hd (fun j hj => by rw [aev, Nat.zero_add]; exact hc j hj)
theorem Wc (s : ByteArray) (cap : Nat) : s.size ≤ (bytesRow s cap).size := by
 unfold bytesRow; simp
end Go.Proofs.YtbjkkoacclfejaaGreat
namespace Go.Proofs.YtbjkkoacclfejaaGreat
open Go.RowKit
theorem Vm (s : ByteArray) (w : World) (hs : s.size ≤ maxLen) :
 Calls Tryz.prog 37 #[.string s] w fun e w' => e = .returned (.bool (Nm.may s.data.toList)) ∧ w = w' := by
 unfold maxLen at hs
 by_cases h0 : s.size = 0
 · have : s = ByteArray.empty := by simpa using h0
   subst this
   go_enter Tryz.func37, Tryz.ntmps37
   go_wp2
   go_ret
   exact ⟨rfl, rfl⟩
 · have h0' : ((s.size : Int) == 0) = false := beq_eq_false_iff_ne.2 jd
   by_cases hlong : 255 < s.size
   · have hm : Hid (Nm.may s.data.toList = false) := aa6 (by simpa using hlong)
     go_enter Tryz.func37, Tryz.ntmps37
     go_wp2
     go_ret
     exact ⟨z7 hm.out.symm, rfl⟩
   · have hl' : decide (255 < s.size) = false := by simpa using hlong
     have hm : Hid (Nm.may s.data.toList = (Nm.lbl s.data.toList).isSome) := ZK (by simpa using hlong)
     go_enter Tryz.func37, Tryz.ntmps37
     go_wp2
     go_loop [3, 4] (fun i _ => ∃ k : Nat, k ≤ 319 ∧ i = .int .i64 k ∧ (Nm.lbl (s.data.toList.drop k)).isSome = Nm.may s.data.toList) (fun i _ => s.size - (intOf i).toNat)
     case atStart => exact ⟨0, by omega, rfl, by rw [hm.out]; rfl⟩
     case round =>
      obtain ⟨k, hk, rfl, hr⟩ := hrel
      have HR := Lib.hid hr
      clear hr
      by_cases hlt : k < s.size
      · have hd := Lib.hid (Y9 s k hlt)
        obtain ⟨c, hc⟩ : ∃ c, s[k] = c := ⟨_, rfl⟩
        have hd2 : Hid (s.data.toList.drop k = c :: s.data.toList.drop (k + 1)) := by have := hd.out; rwa [hc] at this
        clear hd
        have hlen : (s.data.toList.drop (k + 1)).length = s.size - (k + 1) := by simp
        have HL := Lib.hid hlen
        clear hlen
        have hb := c.toNat_lt
        by_cases hz : c = 0
        · subst hz
          go_wp2
          go_ret
          refine ⟨z7 ?_, rfl⟩
          rw [← HR.out, hd2.out, Nm.lbl_cons, if_pos rfl]
          by_cases hq : k + 1 = s.size
          · rw [if_pos (List.eq_nil_of_length_eq_zero (by rw [HL.out]; omega))]
            exact beq_iff_eq.2 jd
          · rw [if_neg (fun hn => by rw [hn] at HL; have := HL.out; simp at this; omega)]
            exact beq_eq_false_iff_ne.2 jd
        · have hz1 : 1 ≤ c.toNat := by
           rcases Nat.eq_zero_or_pos c.toNat with h | h
           · exact absurd (UInt8.toNat_inj.1 (by simpa using h)) hz
           · exact h
          have hz2 : ((c.toNat : Int) == 0) = false := beq_eq_false_iff_ne.2 jd
          have HZ := Lib.hid hz
          clear hz
          by_cases h63 : 63 < c.toNat
          · go_wp2
            go_ret
            refine ⟨z7 ?_, rfl⟩
            rw [← HR.out, hd2.out, Nm.lbl_cons, if_neg HZ.out, if_pos h63]
            rfl
          · go_wp2
            go_round
            case rel =>
             refine ⟨k + (1 + c.toNat), by omega, by go_num, ?_⟩
             rw [← HR.out, hd2.out, Nm.lbl_cons, if_neg HZ.out, if_neg h63]
             by_cases hq : s.size - (k + 1) < c.toNat
             · rw [if_pos (by rw [HL.out]; exact hq), List.drop_of_length_le (by simp; omega)]
               rfl
             · rw [if_neg (by rw [HL.out]; exact hq), List.drop_drop, Option.isSome_map]
               congr 3
               omega
            case measure => simp [intOf]; omega
      · go_wp2
        go_ret
        refine ⟨z7 ?_, rfl⟩
        rw [← HR.out, List.drop_of_length_le (by simp; omega)]
        rfl
end Go.Proofs.YtbjkkoacclfejaaGreat
namespace Go.Proofs.YtbjkkoacclfejaaGreat
open Go.RowKit
theorem Wd (c : UInt8) (h1 : 65 ≤ c.toNat) (h2 : c.toNat ≤ 90) : ((Nm.lowB c).toNat : Int) = (c.toNat : Int) + 32 := by
 unfold Nm.lowB
 rw [if_pos ⟨UInt8.le_iff_toNat_le.2 (by simpa using h1), UInt8.le_iff_toNat_le.2 (by simpa using h2)⟩]
 rw [UInt8.toNat_add]
 have : (32 : UInt8).toNat = 32 := rfl
 rw [this]
 omega
theorem Za (c : UInt8) (h : ¬ (65 ≤ c.toNat ∧ c.toNat ≤ 90)) : Nm.lowB c = c := by
 unfold Nm.lowB
 rw [if_neg]
 rintro ⟨h1, h2⟩
 exact h ⟨by simpa using UInt8.le_iff_toNat_le.1 h1, by simpa using UInt8.le_iff_toNat_le.1 h2⟩
def LowTo (l : List UInt8) (k : Nat) (C : Array Value) : Prop :=
 ∀ j (hj : j < l.length), C[j]? = some (.int .u8 ((if j < k then Nm.lowB l[j] else l[j]).toNat : Int))
theorem LowTo.start (s : ByteArray) (cap : Nat) : LowTo s.data.toList 0 (bytesRow s cap) := by
 intro j hj
 rw [bytesRow_at s cap j (by simpa using hj)]
 simp
theorem LowTo.same {l : List UInt8} {k : Nat} {C : Array Value} (h : LowTo l k C) (hk : k < l.length) (he : Nm.lowB l[k] = l[k]) : LowTo l (k + 1) C := by
 intro j hj
 rw [h j hj]
 by_cases h1 : j < k
 · rw [if_pos h1, if_pos jd]
 · by_cases h2 : j = k
   · subst h2; rw [if_neg h1, if_pos jd, he]
   · rw [if_neg h1, if_neg jd]
theorem LowTo.put {l : List UInt8} {k : Nat} {C : Array Value} (h : LowTo l k C) (hk : k < l.length) (hC : l.length ≤ C.size) : LowTo l (k + 1) (C.setIfInBounds k (.int .u8 ((Nm.lowB l[k]).toNat : Int))) := by
 intro j hj
 by_cases h2 : k = j
 · subst h2; rw [Array.getElem?_setIfInBounds_self_of_lt jd, if_pos jd]
 · rw [Array.getElem?_setIfInBounds_ne h2, h j hj]
   by_cases h1 : j < k
   · rw [if_pos h1, if_pos jd]
   · rw [if_neg h1, if_neg jd]
theorem LowTo.fin {l : List UInt8} {C : Array Value} (h : LowTo l l.length C) (j : Nat) (hj : j < (Nm.low l).length) : C[j]? = some (.int .u8 ((Nm.low l)[j].toNat : Int)) := by
 have hj' : j < l.length := by simpa [Nm.low] using hj
 rw [h j hj', if_pos hj']
 simp [Nm.low]
theorem ZL (s : ByteArray) (w : World) (hs : s.size ≤ maxLen) :
 Calls Tryz.prog 124 #[.string s] w fun e w' => e = .returned (.string ⟨(Nm.low s.data.toList).toArray⟩) ∧ Below w.heap.size w w' := by
 unfold maxLen at hs
 have kc := fun (w : World) (s : ByteArray) => run_bytes_of_string (P := Tryz.prog) w 9 149 5 s unO unO unO
 go_enter Tryz.func124, Tryz.ntmps124
 go_wp2
 generalize hcap : grownCap w s.size 0 5 = cap
 clear hcap kc
 have hM := Wc s cap
 have hC0 := LowTo.start s cap
 obtain ⟨C0, hC0e⟩ : ∃ C, C = bytesRow s cap := ⟨_, rfl⟩
 rw [← hC0e] at hM hC0 ⊢
 clear hC0e
 go_loopw [4, 5, 10] (fun _ _ i wr => ∃ (k : Nat) (C : Array Value), k ≤ s.size ∧ i = .int .i64 k ∧ C.size = C0.size ∧ LowTo s.data.toList k C ∧ wr = (w.alloc (.cells C 5 (C0.size, C0.size + 1))).drew) (fun _ _ i _ => s.size - (intOf i).toNat)
 case atStart => exact ⟨0, C0, by omega, rfl, rfl, hC0, rfl⟩
 case round =>
  obtain ⟨k, C, hk, rfl, hCs, hC, rfl⟩ := hrel
  have HC := Lib.hid hC
  have HCs := Lib.hid hCs
  clear hC hCs hC0
  by_cases hlt : k < s.size
  · have hcell : (w.alloc (.cells C 5 (C0.size, C0.size + 1))).cell? ⟨w.heap.size, k, none⟩ = some (.int .u8 (s[k].toNat : Int)) := by
     rw [World.cell?_alloc_mark]
     have := HC.out k (by simpa using hlt)
     rw [this, if_neg jd]
     rfl
    have hfr : (w.alloc (.cells C 5 (C0.size, C0.size + 1))).frozen? ⟨w.heap.size, k, none⟩ = false := by
     rw [World.frozen?_alloc_mark]
     simp
     omega
    have hnx := Lib.hid (HC.out.put (k := k) (by simpa using hlt) (by rw [HCs.out]; simpa using hM))
    have hnx2 := Lib.hid (HC.out.same (k := k) (by simpa using hlt))
    obtain ⟨c, hc⟩ : ∃ c, s[k] = c := ⟨_, rfl⟩
    have hc2 : Hid (s.data.toList[k]'(by simpa using hlt) = c) := hc
    have hb := c.toNat_lt
    by_cases h65 : 65 ≤ c.toNat ∧ c.toNat ≤ 90
    · obtain ⟨ha, hz⟩ := h65
      go_wp2
      have hc3 := Lib.hid (Wd c ha hz)
      go_wp2
      refine ⟨⟨k + 1, _, by omega, by go_num, ?_, hnx.out, ?_⟩, by simp [intOf]; omega⟩
      · simpa using HCs.out
      · rw [hc2.out, hc3.out, Wb]
    · have hsm := Lib.hid (hnx2.out (by rw [hc2.out]; exact Za c h65))
      go_wp2
      all_goals exact ⟨⟨k + 1, C, by omega, by go_num, HCs.out, hsm.out, rfl⟩, by simp [intOf]; omega⟩
  · obtain rfl : k = s.size := by omega
    have hfin := HC.out
    have hbk := fun W hc => Qm (P := Tryz.prog) W 149 9 5 w.heap.size s.size cap (Nm.low s.data.toList) (by simp [Nm.low]) unO unO unO hc
    have hbk2 := hbk (w.alloc (.cells C 5 (C0.size, C0.size + 1))).drew (fun j hj => by
     show (w.alloc (.cells C 5 (C0.size, C0.size + 1))).cell? _ = _
     rw [World.cell?_alloc_mark]
     exact LowTo.fin (by simpa using hfin) j hj)
    clear hbk hfin
    go_wp2
    go_ret
    exact ⟨rfl, ((Below.refl _ _).alloc (Nat.le_refl _) _).drew⟩
end Go.Proofs.YtbjkkoacclfejaaGreat
namespace Go.Proofs.YtbjkkoacclfejaaGreat
open Go.RowKit
theorem J4 : (Tryz.prog.info? 9).map (fun i => (i.zero, i.size, i.bytes)) = some (some (.string ByteArray.empty), 1, 16) := by kernel_rfl
end Go.Proofs.YtbjkkoacclfejaaGreat
namespace Go.Proofs.YtbjkkoacclfejaaGreat
open Go.RowKit
theorem aa7 (s : ByteArray) (w : World) (hs : s.size ≤ maxLen) :
 Calls Tryz.prog 97 #[.string s] w fun e w' => e = .returned (zx (Nm.fold s.data.toList)) ∧ Below w.heap.size w w' := by
 cases hm : Nm.may s.data.toList with
 | false =>
   have hv : Nm.fold s.data.toList = [] := by simp [Nm.fold, hm]
   have HV := Lib.hid hv
   have HM := Lib.hid hm
   clear hv hm
   go_enter Tryz.func97, Tryz.ntmps97
   go_wp2_with fail
   refine (Vm _ _ hs).mono ?_
   rintro e w' ⟨rfl, rfl⟩
   rw [HM.out]
   go_wp2_with fail
   go_ret
   rw [HV.out]
   exact ⟨rfl, Below.refl _ _⟩
 | true =>
   have hv : Nm.fold s.data.toList = Nm.low s.data.toList := by simp [Nm.fold, hm]
   have HV := Lib.hid hv
   have HM := Lib.hid hm
   clear hv hm
   go_enter Tryz.func97, Tryz.ntmps97
   go_wp2_with fail
   refine (Vm _ _ hs).mono ?_
   rintro e w' ⟨rfl, rfl⟩
   rw [HM.out]
   go_wp2_with fail
   refine (ZL _ _ hs).mono ?_
   rintro e w' ⟨rfl, hb⟩
   go_wp2_with fail
   go_ret
   rw [HV.out]
   exact ⟨rfl, hb⟩
end Go.Proofs.YtbjkkoacclfejaaGreat
namespace Go.Proofs.YtbjkkoacclfejaaGreat
open Go.RowKit
def SRow (w : World) (v : Value) (ns : List Nm.Bytes) : Prop :=
 ∃ a cap, v = .slice a ns.length cap ∧ (ns = [] ∨ ∃ b off, a = some ⟨b, off, none⟩ ∧ b < w.heap.size ∧ ∀ i n, ns[i]? = some n → w.cell? ⟨b, off + i, none⟩ = some (zx n))
theorem SRow.below {w w' : World} {v : Value} {ns : List Nm.Bytes} (h : SRow w v ns) {B : Nat} (hb : Below B w w') (hB : w.heap.size ≤ B) : SRow w' v ns := by
 obtain ⟨a, cap, hv, h⟩ := h
 refine ⟨a, cap, hv, h.imp id ?_⟩
 rintro ⟨b, off, ha, hlt, hc⟩
 refine ⟨b, off, ha, Nat.lt_of_lt_of_le hlt hb.size, fun i n hi => ?_⟩
 rw [hb.cell (Nat.lt_of_lt_of_le hlt hB)]
 exact hc i n hi
theorem SRow.own {w : World} {base : Nat} {v : Value} {ns : List Nm.Bytes} {e : TypeId} (h : w.ownsRow base e 1 v ns.length (ns.map zx)) : SRow w v ns := by
 obtain ⟨_, ⟨rfl, h0⟩ | ⟨g, cap, cur, rfl, _, hg, _, _, _, htk⟩⟩ := h
 · have : ns = [] := List.eq_nil_of_length_eq_zero h0
   subst this
   exact ⟨none, 0, rfl, Or.inl rfl⟩
 · refine ⟨_, cap, rfl, Or.inr ⟨g, 0, rfl, (Array.getElem?_eq_some_iff.1 hg).1, fun i n hi => ?_⟩⟩
   have hil : i < ns.length := (List.getElem?_eq_some_iff.1 hi).1
   unfold World.cell?
   rw [hg]
   have : (cur.toList.take (ns.length * 1))[i]? = some (zx n) := by rw [htk, List.getElem?_map, hi]; rfl
   rw [List.getElem?_take_of_lt jd] at this
   simpa using this
end Go.Proofs.YtbjkkoacclfejaaGreat
namespace Go.Proofs.YtbjkkoacclfejaaGreat
open Go.RowKit
def We : List Nm.Bytes → List Nm.Bytes → Int
 | [], [] => 0
 | [], _ :: _ => -1
 | _ :: _, [] => 1
 | x :: xs, y :: ys => if Lib.compareBytes x y = 0 then We xs ys else Lib.compareBytes x y
def agZ (a b : List Nm.Bytes) : Int := We (Nm.lowL a).reverse (Nm.lowL b).reverse
def z8 (n m : Nm.Bytes) : Int := match Nm.nm n, Nm.nm m with | some a, some b => agZ a b | _, _ => 0
theorem yv : ∀ a b : List UInt8, Lib.compareBytes a b = -1 ∨ Lib.compareBytes a b = 0 ∨ Lib.compareBytes a b = 1
 | [], [] => by simp [Lib.compareBytes]
 | [], _ :: _ => by simp [Lib.compareBytes]
 | _ :: _, [] => by simp [Lib.compareBytes]
 | a :: r, b :: t => by
   unfold Lib.compareBytes
   split
   · simp
   · split
     · simp
     · exact yv r t
end Go.Proofs.YtbjkkoacclfejaaGreat
namespace Go.Proofs.YtbjkkoacclfejaaGreat
namespace Vd
structure Piece where
 s : Bytes
 nam : Bool
deriving DecidableEq
def layout (k : Int) : Option (Nat × Nat × Nat) :=
 if k = 1 then some (4, 0, 0) else if k = 28 then some (16, 0, 0) else if k = 2 ∨ k = 5 ∨ k = 12 then some (0, 1, 0) else if k = 15 then some (2, 1, 0) else if k = 6 then some (0, 2, 20) else if k = 33 then some (6, 1, 0) else none
def txtOk : Nat → Bytes → Bool
 | 0, _ => true
 | _ + 1, [] => true
 | f + 1, c :: t => if c.toNat ≤ t.length then txtOk f (t.drop c.toNat) else false
def rdName (msg : Bytes) : Nat → Nat → Nat → Int → Bytes → Option (Bytes × Int × Int)
 | 0, _, _, _, _ => none
 | f + 1, pos, ahead, next, n =>
   match msg[pos]? with
   | none => some ([], 0, 4)
   | some b =>
     if b.toNat = 0 then some (n ++ [0], if next < 0 then (pos : Int) + 1 else next, 0)
     else if 192 ≤ b.toNat then
      match msg[pos + 1]? with
      | none => some ([], 0, 4)
      | some c =>
        if ahead ≤ (b.toNat - 192) * 256 + c.toNat then some ([], 0, 8)
        else rdName msg f ((b.toNat - 192) * 256 + c.toNat) ((b.toNat - 192) * 256 + c.toNat) (if next < 0 then (pos : Int) + 2 else next) n
     else if 64 ≤ b.toNat then some ([], 0, 3)
     else if msg.length < pos + 1 + b.toNat then some ([], 0, 4)
     else if 255 < (n ++ (msg.drop pos).take (1 + b.toNat)).length + 1 then some ([], 0, 5)
     else rdName msg f (pos + 1 + b.toNat) ahead next (n ++ (msg.drop pos).take (1 + b.toNat))
def rdFuel (ahead : Nat) (n : Bytes) : Nat := ahead * 256 + (256 - n.length) + 1
theorem Yn (ahead : Nat) (n : Bytes) : 1 ≤ rdFuel ahead n := Nat.succ_le_succ (Nat.zero_le _)
theorem Wf {a b : Nat} {n : Bytes} (h : b < a) : rdFuel b n < rdFuel a n := by unfold rdFuel; omega
theorem ZM {a : Nat} {n m : Bytes} (h : n.length < m.length) (h2 : m.length ≤ 255) : rdFuel a m < rdFuel a n := by unfold rdFuel; omega
theorem rdName_some (msg : Bytes) : ∀ (f pos ahead : Nat) (next : Int) (n : Bytes), rdFuel ahead n ≤ f → ∃ r, rdName msg f pos ahead next n = some r := by
 intro f
 induction f with
 | zero => intro pos ahead next n h; exact absurd (Nat.le_trans (Yn ahead n) h) (by decide)
 | succ f ih =>
   intro pos ahead next n h
   simp only [rdName]
   cases h1 : msg[pos]? with
   | none => exact ⟨_, rfl⟩
   | some b =>
     dsimp only
     by_cases c1 : b.toNat = 0
     · rw [if_pos c1]; exact ⟨_, rfl⟩
     rw [if_neg c1]
     by_cases c2 : 192 ≤ b.toNat
     · rw [if_pos c2]
       cases h2 : msg[pos + 1]? with
       | none => exact ⟨_, rfl⟩
       | some c =>
         dsimp only
         by_cases c3 : ahead ≤ (b.toNat - 192) * 256 + c.toNat
         · rw [if_pos c3]; exact ⟨_, rfl⟩
         rw [if_neg c3]
         exact ih _ _ _ _ (by have := Wf (n := n) (Nat.lt_of_not_le c3); omega)
     rw [if_neg c2]
     by_cases c4 : 64 ≤ b.toNat
     · rw [if_pos c4]; exact ⟨_, rfl⟩
     rw [if_neg c4]
     by_cases c5 : msg.length < pos + 1 + b.toNat
     · rw [if_pos c5]; exact ⟨_, rfl⟩
     rw [if_neg c5]
     by_cases c6 : 255 < (n ++ (msg.drop pos).take (1 + b.toNat)).length + 1
     · rw [if_pos c6]; exact ⟨_, rfl⟩
     rw [if_neg c6]
     refine ih _ _ _ _ ?_
     have : (n ++ (msg.drop pos).take (1 + b.toNat)).length = n.length + (1 + b.toNat) := by rw [List.length_append, List.length_take, List.length_drop]; omega
     have := ZM (a := ahead) (n := n) (m := n ++ (msg.drop pos).take (1 + b.toNat)) jd jd
     omega
def readName (msg : Bytes) (pos : Int) : Bytes × Int × Int :=
 if pos < 0 ∨ (msg.length : Int) < pos then ([], 0, 1) else (rdName msg (rdFuel pos.toNat []) pos.toNat pos.toNat (-1) []).getD ([], 0, 0)
def names (msg : Bytes) : Nat → Nat → List Piece → Nat × List Piece × Int
 | 0, pos, out => (pos, out, 0)
 | k + 1, pos, out => match readName msg pos with
   | (n, next, e) => if e ≠ 0 then (pos, out, e) else names msg k next.toNat (out ++ [⟨n, true⟩])
def pieces (msg : Bytes) (pos : Nat) (k : Int) : List Piece × Int :=
 if k = 41 then ([], 3)
 else if k = 16 then (if msg.drop pos = [] then ([], 4) else if txtOk (msg.length + 1) (msg.drop pos) then ([⟨msg.drop pos, false⟩], 0) else ([], 4))
 else match layout k with
  | none => ([⟨msg.drop pos, false⟩], 0)
  | some (a, m, b) =>
    if msg.length - pos < a then ([], 4)
    else match names msg m (pos + a) [⟨(msg.drop pos).take a, false⟩] with
     | (p, out, e) => if e ≠ 0 then ([], e) else if msg.length < p + b then ([], 4) else if p + b < msg.length then ([], 3) else (out ++ [⟨msg.drop p, false⟩], 0)
def joined (l : List Piece) : Bytes := l.flatMap (·.s)
def whole (k : Int) (d : Bytes) : List Piece × Bool := if (pieces d 0 k).2 ≠ 0 ∨ joined (pieces d 0 k).1 ≠ d then ([], false) else ((pieces d 0 k).1, true)
def mayD (k : Int) (d : Bytes) : Bool := (whole k d).2
def foldP (p : Piece) : Bytes := if p.nam then Nm.fold p.s else p.s
def foldD (k : Int) (d : Bytes) : Bytes := (whole k d).1.flatMap foldP
def before (a b : RSet) : Bool := if z8 a.name b.name ≠ 0 then decide (z8 a.name b.name < 0) else if a.kind ≠ b.kind then decide (a.kind < b.kind) else decide (a.cls < b.cls)
def gtB (a b : Bytes) : Bool := !(Op.bytesLess a b || a == b)
def putGo (s : Bytes) : List Bytes → List Bytes → Bool → List Bytes ⊕ (List Bytes × Bool)
 | [], out, done => .inr (out, done)
 | x :: l, out, done => if x = s then .inl [] else if !done && gtB x s then putGo s l ((out ++ [s]) ++ [x]) true else putGo s l (out ++ [x]) done
def put (l : List Bytes) (s : Bytes) : List Bytes := match putGo s l [] false with
 | .inl _ => l
 | .inr (out, done) => if done then out else out ++ [s]
def timeT (t : Int) : Int := if 2147483647 < t then 0 else t
def hasKey (s : RSet) (n : Bytes) (k c : Int) : Bool := s.name == n && s.kind == k && s.cls == c
def keyAt (sets : List RSet) (n : Bytes) (k c : Int) : Nat → Option Nat
 | 0 => none
 | j + 1 => match sets[j]? with
   | some s => if hasKey s n k c then some j else keyAt sets n k c j
   | none => keyAt sets n k c j
def addRec (sets : List RSet) (x : Rec) : List RSet :=
 if Nm.may x.name && mayD x.kind x.data then
  match keyAt sets (Nm.fold x.name) x.kind x.cls sets.length with
  | none => sets ++ [⟨Nm.fold x.name, x.kind, x.cls, timeT x.ttl, [foldD x.kind x.data]⟩]
  | some j => match sets[j]? with
    | some s => sets.set j { s with ttl := min s.ttl (timeT x.ttl), data := put s.data (foldD x.kind x.data) }
    | none => sets
 else sets
def gather (l : List Rec) : List RSet := l.foldl addRec []
def leastAt (sets : List RSet) : Nat → Nat
 | 0 => 0
 | j + 1 => match sets[j + 1]?, sets[leastAt sets j]? with
   | some s, some t => if before s t then j + 1 else leastAt sets j
   | _, _ => leastAt sets j
def rise : Nat → List RSet → List RSet
 | 0, _ => []
 | _ + 1, [] => []
 | f + 1, s :: l => (match (s :: l)[leastAt (s :: l) l.length]? with | some x => [x] | none => []) ++ rise f ((s :: l).eraseIdx (leastAt (s :: l) l.length))
def group (l : List Rec) : List RSet := rise (gather l).length (gather l)
def findS (l : List RSet) (n : Bytes) (k c : Int) : RSet × Bool := match l.find? fun s => Nm.same s.name n && s.kind == k && s.cls == c with
 | some s => (s, true)
 | none => (RSet.none, false)
structure Trail where
 chain : List RSet
 pos : Bytes
 last : List RSet
 e : Int
deriving DecidableEq
def trailEnd (q : Quest) (l : List RSet) (pos : Bytes) (chain : List RSet) : Trail :=
 if (findS l pos q.kind q.cls).2 then ⟨chain, pos, [(findS l pos q.kind q.cls).1], 0⟩ else ⟨chain, pos, [], 0⟩
def followGo (q : Quest) (l : List RSet) : Nat → Bytes → List Bytes → List RSet → Trail
 | 0, pos, _, chain => trailEnd q l pos chain
 | f + 1, pos, met, chain =>
   if q.kind = 5 then trailEnd q l pos chain
   else if !(findS l pos 5 q.cls).2 then trailEnd q l pos chain
   else if 8 ≤ chain.length then ⟨[], [], [], 5⟩
   else match (findS l pos 5 q.cls).1.data with
    | [d] =>
      if !Nm.may d || (findS l pos q.kind q.cls).2 then ⟨[], [], [], 3⟩
      else if met.contains (Nm.fold d) then ⟨[], [], [], 8⟩
      else followGo q l f (Nm.fold d) (met ++ [Nm.fold d]) (chain ++ [(findS l pos 5 q.cls).1])
    | _ => ⟨[], [], [], 3⟩
def follow (q : Quest) (l : List RSet) : Trail := if Nm.may q.name then followGo q l 9 (Nm.fold q.name) [Nm.fold q.name] [] else ⟨[], [], [], 1⟩
def nLabels (n : Bytes) : Nat := (Nm.labels n).length
def fits (s : RSet) (n : Bytes) (c : Int) : Bool := s.kind == 6 && s.cls == c && Nm.within n s.name
def bestAt (l : List RSet) (n : Bytes) (c : Int) : Nat → Int
 | 0 => -1
 | j + 1 => match l[j]? with
   | some s => if fits s n c && (decide (bestAt l n c j < 0) || (match l[(bestAt l n c j).toNat]? with | some t => decide (nLabels t.name < nLabels s.name) | none => false)) then (j : Int) else bestAt l n c j
   | none => bestAt l n c j
def findSoa (l : List RSet) (n : Bytes) (c : Int) : RSet × Bool × Int :=
 if bestAt l n c l.length < 0 then (RSet.none, false, 0) else match l[(bestAt l n c l.length).toNat]? with
  | some s => if s.data.length ≠ 1 then (RSet.none, false, 3) else (s, true, 0)
  | none => (RSet.none, false, 0)
def last4 (d : Bytes) : Int := (d.drop (d.length - 4)).foldl (fun n c => (n * 256 + c.toNat) % 4294967296) (0 : Int)
def soaTime (s : RSet) : Int := if s.kind ≠ 6 then 0 else match s.data with
 | [d] => if mayD 6 d then (if 2147483647 < last4 d ∨ 2147483647 < s.ttl then 0 else min (last4 d) s.ttl) else 0
 | _ => 0
def leastT (l : List RSet) (t : Int) : Int := l.foldl (fun t s => min t s.ttl) t
def bare (s : RSet) : RSet := { s with ttl := 0 }
structure Msg where
 code : Int
 answers : List Rec
 auth : List Rec
def ofM (q : Quest) (m : Msg) : Vdt × Int × Int :=
 if !Nm.may q.name || (m.code != 0 && m.code != 3) then (Vdt.none, 0, 1)
 else match follow q (group m.answers) with
  | ⟨l, pos, last, e⟩ =>
    if e ≠ 0 then (Vdt.none, 0, e)
    else if m.code = 3 ∧ last ≠ [] then (Vdt.none, 0, 3)
    else if last ≠ [] then (⟨m.code, (l ++ last).map bare, []⟩, leastT (l ++ last) 2147483647, 0)
    else match findSoa (group m.auth) pos q.cls with
     | (s, is, e) =>
       if e ≠ 0 then (Vdt.none, 0, e)
       else if !is then (⟨m.code, (l ++ last).map bare, []⟩, 0, 0)
       else (⟨m.code, (l ++ last).map bare, [bare s]⟩, min (leastT (l ++ last) 2147483647) (soaTime s), 0)
def endV (q : Quest) (v : Vdt) : RSet × Bool := match v.sets.getLast? with
 | some s => if s.kind = q.kind then (s, true) else (RSet.none, false)
 | none => (RSet.none, false)
end Vd
end Go.Proofs.YtbjkkoacclfejaaGreat
namespace Go.Proofs.YtbjkkoacclfejaaGreat
namespace Vd
structure Ballot where
 v : Vote
 pass : Bool
deriving DecidableEq
structure Said where
 up : Int
 m : Msg
 time : Int
def hasB (l : List Ballot) (u : Int) : Bool := l.any fun b => b.v.up == u
def putB (l : List Ballot) (x : Ballot) : List Ballot × Int :=
 if x.v.up < 0 ∨ 9 ≤ x.v.up then (l, 1) else if hasB l x.v.up then (l, 7) else (l ++ [x], 0)
def votesB (l : List Ballot) : List Vote := (l.filter fun b => !b.pass).map (·.v)
def castSaid (q : Quest) (l : List Ballot) (s : Said) : List Ballot :=
 if (ofM q s.m).2.2 = 0 then (putB l ⟨⟨s.up, (ofM q s.m).1, s.time⟩, false⟩).1 else l
def ahJ (q : Quest) (l : List Said) : List Vote := votesB (l.foldl (castSaid q) [])
def firstAt (l : List Vote) : Nat → Nat
 | 0 => 0
 | j + 1 => match l[j]?, l[firstAt l j]? with
   | some v, some w => if v.up < w.up then j else firstAt l j
   | _, _ => firstAt l j
def minTime (l : List Vote) (t : Int) : Int := l.foldl (fun t v => min t v.time) t
def alikeV (l : List Vote) (w : Vdt) : Bool := l.all fun v => decide (v.vd = w)
def endsPut (q : Quest) (l : List Vote) (d : List Bytes) : List Bytes := l.foldl (fun d v => if (endV q v.vd).2 then (endV q v.vd).1.data.foldl put d else d) d
def union (q : Quest) (l : List Vote) : Vdt × Int × Bool :=
 match l with
 | [] => (Vdt.none, 0, false)
 | w :: r =>
   if !Nm.may q.name then (Vdt.none, 0, false)
   else if alikeV (w :: r) w.vd || decide (endsPut q (w :: r) [] = []) then (match (w :: r)[firstAt (w :: r) (w :: r).length]? with | some x => x.vd | none => Vdt.none, minTime (w :: r) w.time, true)
   else (⟨0, [⟨Nm.fold q.name, q.kind, q.cls, 0, endsPut q (w :: r) []⟩], []⟩, minTime (w :: r) w.time, true)
end Vd
end Go.Proofs.YtbjkkoacclfejaaGreat
namespace Go.Proofs.YtbjkkoacclfejaaGreat
open Vd (RSet Vdt Vote Rec Quest Piece Ballot)
def jC (vs : List Vote) (v : Vdt) : Nat := vs.findIdx fun x => decide (x.vd = v)
def jp (l : List Ballot) (u : Int) : Int × Int :=
 match l.find? fun b => b.v.up == u with
 | none => (0, 0)
 | some b => if b.pass then (1, 0) else (2, jC (Vd.votesB l) b.v.vd)
structure BoxOk (l : List Ballot) : Prop where
 nd : (l.map fun b => b.v.up).Nodup
 up : ∀ b ∈ l, 0 ≤ b.v.up ∧ b.v.up < 9
theorem BoxOk.nil : BoxOk [] := ⟨by simp, by simp⟩
theorem Wg (l : List Ballot) (u : Int) : Vd.hasB l u = true ↔ u ∈ l.map fun b => b.v.up := by
 unfold Vd.hasB
 rw [List.any_eq_true, List.mem_map]
 simp only [beq_iff_eq]
theorem BoxOk.put {l : List Ballot} (h : BoxOk l) (x : Ballot) : BoxOk (Vd.putB l x).1 := by
 unfold Vd.putB
 split
 · exact h
 split
 · exact h
 · rename_i h1 h2
   refine ⟨?_, fun b hb => ?_⟩
   · rw [List.map_append]
     refine List.nodup_append.2 ⟨h.nd, by simp, fun a ha b hb => ?_⟩
     rw [List.map_singleton, List.mem_singleton] at hb
     intro e
     refine h2 ((Wg _ _).2 ?_)
     rw [← hb, ← e]
     exact ha
   · rcases List.mem_append.1 hb with hb | hb
     · exact h.up b hb
     · rw [List.mem_singleton.1 hb]
       omega
theorem aa8 (l : List Ballot) (u : Int) : (jp l u).1 = 0 ↔ Vd.hasB l u = false := by
 unfold jp Vd.hasB
 cases hf : l.find? (fun b => b.v.up == u) with
 | none =>
   simp only [true_iff]
   rw [List.any_eq_false]
   intro b hb
   have := List.find?_eq_none.1 hf b hb
   simpa using this
 | some b =>
   have h1 := List.find?_some hf
   have h2 := List.mem_of_find?_eq_some hf
   have : (l.any fun b => b.v.up == u) = true := List.any_eq_true.2 ⟨b, h2, h1⟩
   rw [this]
   cases hp : b.pass <;> simp [hp]
def jH (vs : List Vote) (v : Vdt) : List Vote := vs.filter fun x => decide (x.vd = v)
def jZ (want : Int) (vs : List Vote) : Nat → Option Nat
 | 0 => none
 | j + 1 => match jZ want vs j with
   | some k => some k
   | none => match vs[j]? with
     | some x => if want ≤ ((jH (vs.take (j + 1)) x.vd).length : Int) then some j else none
     | none => none
def kx (l : List Int) : List Int := (List.range 9).flatMap fun (n : Nat) => l.filter fun x => x == (n : Int)
def qt (want : Int) (vs : List Vote) : Vdt × Int × List Int × Bool :=
 match jZ want vs vs.length with
 | none => (Vdt.none, 0, [], false)
 | some j => match vs[j]? with
   | some x => (x.vd, (jH (vs.take (j + 1)) x.vd).foldl (fun t v => min t v.time) x.time, kx ((jH (vs.take (j + 1)) x.vd).map (·.up)), true)
   | none => (Vdt.none, 0, [], false)
def kE (want : Int) (vs : List Vote) : List Int :=
 if (qt want vs).2.2.2 then kx ((vs.filter fun x => !decide (x.vd = (qt want vs).1)).map (·.up)) else []
def uE (vs : List Vote) : Int := vs.foldl (fun m x => max m ((jH vs x.vd).length : Int)) 0
theorem qF {vs : List Vote} {x : Vote} (h : x ∈ vs) : jC vs x.vd < vs.length ∧ ∃ y, vs[jC vs x.vd]? = some y ∧ y.vd = x.vd := by
 have hlt : jC vs x.vd < vs.length := List.findIdx_lt_length_of_exists ⟨x, h, by simp⟩
 refine ⟨hlt, _, List.getElem?_eq_getElem hlt, ?_⟩
 have := List.findIdx_getElem (w := hlt) (p := fun y : Vote => decide (y.vd = x.vd))
 exact of_decide_eq_true this
theorem uF {vs : List Vote} {x y : Vote} (hx : x ∈ vs) (hy : y ∈ vs) : jC vs x.vd = jC vs y.vd ↔ x.vd = y.vd := by
 constructor
 · intro h
   obtain ⟨_, a, ha, ha2⟩ := qF hx
   obtain ⟨_, b, hb, hb2⟩ := qF hy
   rw [h, hb] at ha
   obtain rfl := Option.some.inj ha
   exact ha2.symm.trans hb2
 · intro h; rw [h]
theorem Yo {l : List Ballot} (h : BoxOk l) {a b : Ballot} (ha : a ∈ l) (hb : b ∈ l) (e : a.v.up = b.v.up) : a = b := by
 obtain ⟨i, hi, rfl⟩ := List.getElem_of_mem ha
 obtain ⟨j, hj, rfl⟩ := List.getElem_of_mem hb
 have hp := List.nodup_iff_pairwise_ne.1 h.nd
 rcases Nat.lt_trichotomy i j with h1 | h1 | h1
 · have := List.pairwise_iff_getElem.1 hp i j (by simpa using hi) (by simpa using hj) h1
   simp only [List.getElem_map] at this
   exact absurd e this
 · subst h1; rfl
 · have := List.pairwise_iff_getElem.1 hp j i (by simpa using hj) (by simpa using hi) h1
   simp only [List.getElem_map] at this
   exact absurd e.symm this
theorem votesB_mem {l : List Ballot} {x : Vote} : x ∈ Vd.votesB l ↔ ∃ b ∈ l, b.pass = false ∧ b.v = x := by
 unfold Vd.votesB
 rw [List.mem_map]
 constructor
 · rintro ⟨b, hb, rfl⟩
   obtain ⟨h1, h2⟩ := List.mem_filter.1 hb
   exact ⟨b, h1, by simpa using h2, rfl⟩
 · rintro ⟨b, hb, h1, rfl⟩
   exact ⟨b, List.mem_filter.2 ⟨hb, by simp [h1]⟩, rfl⟩
theorem Wh {l : List Ballot} (h : BoxOk l) {b : Ballot} (hb : b ∈ l) : jp l b.v.up = if b.pass then ((1, 0) : Int × Int) else (2, (jC (Vd.votesB l) b.v.vd : Int)) := by
 unfold jp
 cases hf : l.find? (fun c => c.v.up == b.v.up) with
 | none =>
   have := List.find?_eq_none.1 hf b hb
   simp at this
 | some c =>
   have h1 := List.find?_some hf
   have h2 := List.mem_of_find?_eq_some hf
   have : c = b := Yo h h2 hb (by simpa using h1)
   subst this
   rfl
theorem qA {l : List Ballot} (h : BoxOk l) {x : Vote} (hx : x ∈ Vd.votesB l) : jp l x.up = ((2, (jC (Vd.votesB l) x.vd : Int)) : Int × Int) := by
 obtain ⟨b, hb, hp, rfl⟩ := votesB_mem.1 hx
 rw [Wh h hb, hp]
 rfl
theorem Wi {vs : List Vote} (x y : Vote) (hy : y ∈ vs) : jC (vs ++ [x]) y.vd = jC vs y.vd := by
 have h := (qF hy).1
 unfold jC at h ⊢
 rw [List.findIdx_append, if_pos h]
theorem Wj {vs : List Vote} (x : Vote) : jC (vs ++ [x]) x.vd = jC vs x.vd := by
 unfold jC
 rw [List.findIdx_append]
 split
 · rfl
 · rename_i h
   have hle := List.findIdx_le_length (xs := vs) (p := fun y : Vote => decide (y.vd = x.vd))
   have : ([x] : List Vote).findIdx (fun y => decide (y.vd = x.vd)) = 0 := by simp [List.findIdx_cons]
   rw [this]
   omega
theorem Ue {l : List Ballot} {x : Ballot} {u : Int} (hu : u ≠ x.v.up) : (l ++ [x]).find? (fun b => b.v.up == u) = l.find? fun b => b.v.up == u := by
 rw [List.find?_append]
 have : ([x] : List Ballot).find? (fun b => b.v.up == u) = none := by
  rw [List.find?_eq_none]
  intro b hb
  rw [List.mem_singleton.1 hb]
  simpa using fun e => hu e.symm
 rw [this, Option.or_none]
theorem ZN {l : List Ballot} (h : BoxOk l) {x : Ballot} (hx : Vd.hasB l x.v.up = false) (hb : 0 ≤ x.v.up ∧ x.v.up < 9) (vs' : List Vote) (hv : Vd.votesB (l ++ [x]) = vs') (hvs : vs' = if x.pass then Vd.votesB l else Vd.votesB l ++ [x.v]) (u : Int) :
 jp (l ++ [x]) u = if u = x.v.up then (if x.pass then ((1, 0) : Int × Int) else (2, (jC (Vd.votesB l) x.v.vd : Int))) else jp l u := by
 by_cases hu : u = x.v.up
 · subst hu
   rw [if_pos rfl]
   unfold jp
   have hn : l.find? (fun b => b.v.up == x.v.up) = none := by
    rw [List.find?_eq_none]
    intro b hb
    have := List.any_eq_false.1 hx b hb
    simpa using this
   rw [List.find?_append, hn]
   have h1 : ([x] : List Ballot).find? (fun b => b.v.up == x.v.up) = some x := by simp
   rw [h1]
   simp only [Option.none_or]
   cases hp : x.pass with
   | true => simp
   | false =>
     simp only [Bool.false_eq_true, if_false]
     rw [hv, hvs, hp]
     simp only [Bool.false_eq_true, if_false]
     rw [Wj]
 · rw [if_neg hu]
   unfold jp
   rw [Ue hu]
   cases hf : l.find? (fun b => b.v.up == u) with
   | none => rfl
   | some b =>
     dsimp only
     cases hp : b.pass with
     | true => simp
     | false =>
       simp only [Bool.false_eq_true, if_false]
       have hbm := List.mem_of_find?_eq_some hf
       rw [hv, hvs]
       split
       · rfl
       · rw [Wi x.v b.v (votesB_mem.2 ⟨b, hbm, hp, rfl⟩)]
theorem Yp (vs : List Vote) (x : Vote) (v : Vdt) : jH (vs ++ [x]) v = if x.vd = v then jH vs v ++ [x] else jH vs v := by
 unfold jH
 rw [List.filter_append]
 by_cases h : x.vd = v <;> simp [h]
theorem yf {vs : List Vote} {i : Nat} {x : Vote} (h : vs[i]? = some x) (v : Vdt) : jH (vs.take (i + 1)) v = if x.vd = v then jH (vs.take i) v ++ [x] else jH (vs.take i) v := by
 rw [List.take_add_one, h]
 exact Yp _ _ _
theorem zG {want : Int} {vs : List Vote} {i : Nat} {x : Vote} (hx : vs[i]? = some x) (h : jZ want vs i = none) : jZ want vs (i + 1) = if want ≤ ((jH (vs.take (i + 1)) x.vd).length : Int) then some i else none := by
 rw [jZ, h, hx]
theorem Qn {want : Int} {vs : List Vote} {k : Nat} : ∀ (i j : Nat), i ≤ j → jZ want vs i = some k → jZ want vs j = some k
 | i, j, hij, h => by
   obtain ⟨d, rfl⟩ : ∃ d, j = i + d := ⟨j - i, by omega⟩
   clear hij
   induction d with
   | zero => exact h
   | succ d ih => rw [← Nat.add_assoc, jZ, ih]
theorem Qo {want : Int} {vs : List Vote} (hw : 1 ≤ want) : ∀ i, i ≤ vs.length → jZ want vs i = none → ∀ v, ((jH (vs.take i) v).length : Int) < want
 | 0, _, _, v => by simp [jH]; omega
 | i + 1, hi, h, v => by
   obtain ⟨x, hx⟩ : ∃ x, vs[i]? = some x := ⟨_, List.getElem?_eq_getElem jd⟩
   have h0 : jZ want vs i = none := by
    cases h1 : jZ want vs i with
    | none => rfl
    | some k => rw [jZ, h1] at h; cases h
   have ih := Qo hw i jd h0 v
   rw [zG hx h0] at h
   rw [yf hx]
   by_cases e : x.vd = v
   · subst e
     rw [if_pos rfl]
     by_cases hl : want ≤ ((jH (vs.take (i + 1)) x.vd).length : Int)
     · rw [if_pos hl] at h; cases h
     · rw [yf hx, if_pos rfl] at hl
       omega
   · rw [if_neg e]; exact ih
theorem Ur {want : Int} {vs : List Vote} (hw : 1 ≤ want) {i : Nat} {x : Vote} (hx : vs[i]? = some x) (h : jZ want vs i = none) : (want ≤ ((jH (vs.take (i + 1)) x.vd).length : Int)) ↔ ((jH (vs.take (i + 1)) x.vd).length : Int) = want := by
 have := Qo hw i (by have := (List.getElem?_eq_some_iff.1 hx).1; omega) h x.vd
 rw [yf hx, if_pos rfl, List.length_append]
 simp only [List.length_cons, List.length_nil]
 omega
def yh (vs : List Vote) (i : Nat) (f : Nat) : Nat := (vs.take i).countP fun x => jC vs x.vd == f
theorem ZO {vs : List Vote} (i : Nat) {x : Vote} (hx : x ∈ vs) : yh vs i (jC vs x.vd) = (jH (vs.take i) x.vd).length := by
 unfold yh jH
 rw [← List.countP_eq_length_filter]
 refine List.countP_congr fun y hy => ?_
 rw [beq_iff_eq, decide_eq_true_eq]
 exact uF (List.mem_of_mem_take hy) hx
theorem ZP {vs : List Vote} {i : Nat} {x : Vote} (hx : vs[i]? = some x) (f : Nat) : yh vs (i + 1) f = yh vs i f + (if jC vs x.vd = f then 1 else 0) := by
 unfold yh
 rw [List.take_add_one, hx]
 simp only [Option.toList_some, List.countP_append, List.countP_cons, List.countP_nil, beq_iff_eq]
 omega
end Go.Proofs.YtbjkkoacclfejaaGreat
namespace Go.Proofs.YtbjkkoacclfejaaGreat
open Go.RowKit
def RowOf (w : World) (v : Value) (m size : Nat) (news : List Value) : Prop :=
 news.length = m * size ∧ (∀ u ∈ news, u.oneCell' = true) ∧ ((∃ c, v = .slice none 0 c ∧ m = 0) ∨ ∃ ad c, v = .slice (some ad) m c ∧ ∀ j u, news[j]? = some u → w.cell? (ad.add j) = some u)
variable {P : Program}
theorem RowOf.below {w w' : World} {v : Value} {m size : Nat} {news : List Value} (h : RowOf w v m size news) (hb : ∀ a, w'.cell? a = w.cell? a ∨ w.cell? a = none) : RowOf w' v m size news := by
 obtain ⟨h1, h2, h3 | ⟨ad, c, h3, h4⟩⟩ := h
 · exact ⟨h1, h2, Or.inl h3⟩
 · refine ⟨h1, h2, Or.inr ⟨ad, c, h3, fun j u hj => ?_⟩⟩
   have := h4 j u hj
   rcases hb (ad.add j) with h | h
   · rw [h]; exact this
   · rw [h] at this; cases this
end Go.Proofs.YtbjkkoacclfejaaGreat
namespace Go.Proofs.YtbjkkoacclfejaaGreat
open Go.RowKit
theorem z9 (s : Nm.Bytes) : (⟨s.toArray⟩ : ByteArray).size = s.length := by show s.toArray.size = s.length; simp
theorem aew (a b : Nm.Bytes) : (({ data := a.toArray } : ByteArray) ++ { data := b.toArray }) = ⟨(a ++ b).toArray⟩ := by
 apply ByteArray.ext
 apply Array.toList_inj.1
 simp [ByteArray.data_append]
theorem J5 (W : World) (c : UInt8) (n : Int) (hn : n = (c.toNat : Int)) : (convert 149 9 (.slice (some ⟨W.heap.size, 0, none⟩) 1 1)).run Tryz.prog (W.alloc (.cells #[.int .u8 n] 5)) = .ok (.string ⟨[c].toArray⟩) (W.alloc (.cells #[.int .u8 n] 5)) := by
 subst hn
 exact Qm _ 149 9 5 W.heap.size 1 1 [c] rfl unO unO unO (fun j hj => by
  rw [World.cell?_alloc_mark]
  match j, hj with
  | 0, _ => rfl)
theorem Jz {c : UInt8} {t : Nm.Bytes} (hz : ¬ c = 0) (h : 63 < c.toNat ∨ t.length < c.toNat) : Nm.lbl (c :: t) = none := by
 rw [Nm.lbl_cons, if_neg hz]
 by_cases h63 : 63 < c.toNat
 · rw [if_pos h63]
 · rw [if_neg h63, if_pos jd]
def Yq (n : Nm.Bytes) (w : World) (e : Ending) (w' : World) : Prop :=
 ∃ v, e = .returned (.tuple #[v, .bool (Nm.may n)]) ∧ w'.ownsRow w.heap.size 9 1 v (Nm.labels n).length ((Nm.labels n).map zx) ∧ Below w.heap.size w w'
theorem qP (s : ByteArray) (w : World) (hs : s.size ≤ 1000000) :
 Calls Tryz.prog 102 #[.string s] w (Yq s.data.toList w) := by
 obtain ⟨i0, hi, hz0, hz1, hz2⟩ := info_parts J4
 go_enter Tryz.func102, Tryz.ntmps102
 go_wp2_with fail
 go_loopw [4, 5, 6] (fun v i _ wr => ∃ (k : Nat) (a : List Nm.Bytes), k ≤ s.size ∧ a.length ≤ k ∧ i = .int .i64 k ∧ Nm.lbl s.data.toList = (Nm.lbl (s.data.toList.drop k)).map (a ++ ·) ∧ wr.ownsRow w.heap.size 9 1 v a.length (a.map zx) ∧ Below w.heap.size w wr) (fun _ i _ _ => s.size - (intOf i).toNat)
 case atStart => exact ⟨0, [], by omega, by simp, rfl, by simp, World.ownsRow_nil _ _ _ _, Below.refl _ _⟩
 case round =>
  obtain ⟨k, a, hk, hal, rfl, hl, hown, hbel⟩ := hrel
  have HL := Lib.hid hl
  have HOWN := Lib.hid hown
  have HBEL := Lib.hid hbel
  have hwsz := hbel.size
  clear hl hown hbel
  by_cases hlt : k < s.size
  · obtain ⟨c, hc⟩ : ∃ c, s[k] = c := ⟨_, rfl⟩
    have hd2 : Hid (s.data.toList.drop k = c :: s.data.toList.drop (k + 1)) := by have := Y9 s k hlt; rwa [hc] at this
    have hb := c.toNat_lt
    have HTL := Lib.hid (show (s.data.toList.drop (k + 1)).length = s.size - (k + 1) by simp)
    by_cases hz : c = 0
    · subst hz
      have HLB := Lib.hid (show Nm.lbl s.data.toList = (if s.size = k + 1 then some a else none) by
       rw [HL.out, hd2.out, Nm.lbl_cons, if_pos rfl]
       by_cases hq : s.size = k + 1
       · rw [if_pos (List.eq_nil_of_length_eq_zero (by rw [HTL.out]; omega)), if_pos hq]; simp
       · rw [if_neg (fun hn => by have := HTL.out; rw [hn] at this; simp at this; omega), if_neg hq]; rfl)
      by_cases hq : s.size = k + 1
      · by_cases h255 : 255 < s.size
        · have HN := Lib.hid (show Nm.nm s.data.toList = none by unfold Nm.nm; rw [if_neg (by simp; omega)])
          have HQ := Lib.hid hq
          have hq1 : ((k : Int) != (s.size : Int) - 1) = false := by simp; omega
          clear hq
          go_wp2_with fail
          go_ret2
          refine ⟨_, by rw [Nm.may_none HN.out]; rfl, ?_, HBEL.out⟩
          unfold Nm.labels; rw [HN.out]
          exact World.ownsRow_nil _ _ _ _
        · have HN := Lib.hid (show Nm.nm s.data.toList = some a by unfold Nm.nm; rw [if_pos (by simp; omega), HLB.out, if_pos hq])
          have HQ := Lib.hid hq
          have hq1 : ((k : Int) != (s.size : Int) - 1) = false := by simp; omega
          clear hq
          go_wp2_with fail
          go_ret2
          refine ⟨_, by rw [Nm.may_some HN.out]; rfl, ?_, HBEL.out⟩
          unfold Nm.labels; rw [HN.out]
          exact HOWN.out
      · have HN := Lib.hid (show Nm.nm s.data.toList = none by unfold Nm.nm; split; rw [HLB.out, if_neg hq]; rfl)
        have hq1 : ((k : Int) != (s.size : Int) - 1) = true := by rw [bne_iff_ne]; omega
        clear hq
        go_wp2_with fail
        go_ret2
        refine ⟨_, by rw [Nm.may_none HN.out]; rfl, ?_, HBEL.out⟩
        unfold Nm.labels; rw [HN.out]
        exact World.ownsRow_nil _ _ _ _
    · have hz1' : 1 ≤ c.toNat := by
       rcases Nat.eq_zero_or_pos c.toNat with h | h
       · exact absurd (UInt8.toNat_inj.1 (by simpa using h)) hz
       · exact h
      have hz2' : ((c.toNat : Int) == 0) = false := beq_eq_false_iff_ne.2 jd
      have hz3' : ((c.toNat : Int) != 0) = true := by rw [bne_iff_ne]; omega
      have HZ := Lib.hid hz
      clear hz
      by_cases hbad : 63 < c.toNat ∨ s.size < k + 1 + c.toNat
      · have HN := Lib.hid (show Nm.nm s.data.toList = none by
         unfold Nm.nm; split
         · rw [HL.out, hd2.out, Jz HZ.out (by rw [HTL.out]; omega)]; rfl
         · rfl)
        rcases hbad with h1 | h1
        · go_wp2_with fail
          go_ret2
          refine ⟨_, by rw [Nm.may_none HN.out]; rfl, ?_, HBEL.out⟩
          unfold Nm.labels; rw [HN.out]
          exact World.ownsRow_nil _ _ _ _
        · by_cases h63 : 63 < c.toNat
          · go_wp2_with fail
            go_ret2
            refine ⟨_, by rw [Nm.may_none HN.out]; rfl, ?_, HBEL.out⟩
            unfold Nm.labels; rw [HN.out]
            exact World.ownsRow_nil _ _ _ _
          · go_wp2_with fail
            go_ret2
            refine ⟨_, by rw [Nm.may_none HN.out]; rfl, ?_, HBEL.out⟩
            unfold Nm.labels; rw [HN.out]
            exact World.ownsRow_nil _ _ _ _
      · have h63 : ¬ 63 < c.toNat := fun h => hbad (Or.inl h)
        have hle : k + 1 + c.toNat ≤ s.size := by omega
        clear hbad
        obtain ⟨l, hld⟩ : ∃ l, l = (s.data.toList.drop (k + 1)).take c.toNat := ⟨_, rfl⟩
        have HEX := Lib.hid (show Value.string (s.extract (k + 1) (k + 1 + c.toNat)) = zx l by
         unfold zx
         congr 1
         apply ByteArray.ext
         apply Array.toList_inj.1
         rw [Lib.extract_data, hld]
         simp)
        have HN := Lib.hid (show Nm.lbl s.data.toList = (Nm.lbl (s.data.toList.drop (k + 1 + c.toNat))).map ((a ++ [l]) ++ ·) by
         rw [HL.out, hd2.out, Nm.lbl_cons, if_neg HZ.out, if_neg h63, if_neg (by rw [HTL.out]; omega), Option.map_map, List.drop_drop, hld]
         congr 1
         funext x
         simp)
        clear hld
        go_wp2_with (at_builtin; refine wpList_append_own _ rfl _ _ 120 rfl w.heap.size 9 i0 (.string ByteArray.empty) 1 16 unO hi hz0 hz1 hz2 rfl (by decide) _ a.length _ rfl (HOWN.out.alloc _) ⟨wr.heap.size, 0, none⟩ 1 1 [.string (s.extract (k + 1) (k + 1 + c.toNat))] rfl rfl (cell_one_new _ _ _) ?c2 ?c3 ?c4 ?c5 ?_)
        case c2 => simp [Value.oneCell']
        case c3 => unfold maxLen; omega
        case c4 => omega
        case c5 => simp; omega
        intro v' w1 hown' hgrow _
        have HB1 := Lib.hid ((HBEL.out.alloc hwsz _).grown hgrow (by simp; omega) (fun q hq => (HOWN.out.lt q hq).1))
        have hfin0 : w1.ownsRow w.heap.size 9 1 v' (a ++ [l]).length ((a ++ [l]).map zx) := by
         have := hown'
         rw [HEX.out] at this
         simpa using this
        have HFIN := Lib.hid hfin0
        clear hown' hgrow hfin0
        go_wp2_with fail
        exact ⟨⟨k + 1 + c.toNat, a ++ [l], by omega, by simp; omega, by go_num, HN.out, HFIN.out, HB1.out⟩, by simp [intOf]; omega⟩
  · have HN := Lib.hid (show Nm.nm s.data.toList = none by
     unfold Nm.nm; split
     · rw [HL.out, List.drop_of_length_le (by simp; omega)]; rfl
     · rfl)
    have hq1 : ((k : Int) != (s.size : Int) - 1) = true := by rw [bne_iff_ne]; omega
    go_wp2_with fail
    go_ret2
    refine ⟨_, by rw [Nm.may_none HN.out]; rfl, ?_, HBEL.out⟩
    unfold Nm.labels; rw [HN.out]
    exact World.ownsRow_nil _ _ _ _
theorem kF (s : ByteArray) (w : World) (hs : s.size ≤ 1000000) :
 Calls Tryz.prog 76 #[.string s] w fun e w' => e = .returned (.bool (Nm.may s.data.toList)) ∧ Below w.heap.size w w' := by
 go_enter Tryz.func76, Tryz.ntmps76
 go_wp2_with fail
 refine (qP s _ hs).mono ?_
 rintro e w1 ⟨v, rfl, ho, hb⟩
 go_wp2_with fail
 go_ret
 exact ⟨rfl, hb⟩
theorem Qp (s : ByteArray) (w : World) (hs : s.size ≤ 1000000) :
 Calls Tryz.prog 127 #[.string s] w fun e w' => e = .returned (.string ⟨(Nm.low s.data.toList).toArray⟩) ∧ Below w.heap.size w w' := by
 go_enter Tryz.func127, Tryz.ntmps127
 go_wp2_with fail
 go_loopw [3, 4, 5] (fun o i _ wr => ∃ k : Nat, k ≤ s.size ∧ i = .int .i64 k ∧ o = .string ⟨(Nm.low (s.data.toList.take k)).toArray⟩ ∧ Below w.heap.size w wr) (fun _ i _ _ => s.size - (intOf i).toNat)
 case atStart => exact ⟨0, by omega, rfl, rfl, Below.refl _ _⟩
 case round =>
  obtain ⟨k, hk, rfl, rfl, hbel⟩ := hrel
  by_cases hlt : k < s.size
  · obtain ⟨c, hc⟩ : ∃ c, s[k] = c := ⟨_, rfl⟩
    have hb := c.toNat_lt
    have HT := Lib.hid (show Nm.low (s.data.toList.take (k + 1)) = Nm.low (s.data.toList.take k) ++ [Nm.lowB c] by
     rw [List.take_succ_eq_append_getElem (by simpa using hlt), Nm.low_append]
     congr 1
     show [Nm.lowB _] = _
     rw [← hc]
     rfl)
    obtain ⟨acc, hacc⟩ : ∃ acc, acc = Nm.low (s.data.toList.take k) := ⟨_, rfl⟩
    have hal : acc.length ≤ 1000000 := by rw [hacc, Nm.low_length]; simp; omega
    rw [← hacc]
    rw [← hacc] at HT
    clear hacc
    have HBEL := Lib.hid hbel
    have hwsz := hbel.size
    clear hbel
    by_cases h65 : 65 ≤ c.toNat ∧ c.toNat ≤ 90
    · obtain ⟨ha, hz⟩ := h65
      have hone := fun W : World => J5 W (Nm.lowB c) ((c.toNat : Int) + 32) (Wd c ha hz).symm
      go_wp2_with fail
      refine ⟨⟨k + 1, by omega, by go_num, ?_, HBEL.out.alloc hwsz _⟩, by simp [intOf]; omega⟩
      rw [HT.out]
      exact congrArg Value.string (aew acc [Nm.lowB c])
    · have hone := fun W : World => J5 W (Nm.lowB c) (c.toNat : Int) (by rw [Za c h65])
      go_wp2_with fail
      all_goals
       refine ⟨⟨k + 1, by omega, by go_num, ?_, HBEL.out.alloc hwsz _⟩, by simp [intOf]; omega⟩
       rw [HT.out]
       exact congrArg Value.string (aew acc [Nm.lowB c])
  · obtain rfl : k = s.size := by omega
    have he : s.data.toList.take s.size = s.data.toList := List.take_of_length_le (by simp)
    rw [he]
    go_wp2_with fail
    go_ret
    exact ⟨rfl, hbel⟩
end Go.Proofs.YtbjkkoacclfejaaGreat
namespace Go.Proofs.YtbjkkoacclfejaaGreat
open Go.RowKit
def zH (ls : List Nm.Bytes) : Nm.Bytes := ls.flatMap fun l => UInt8.ofNat l.length :: l
theorem Wk : ∀ ls, Nm.enc ls = zH ls ++ [0]
 | [] => rfl
 | l :: ls => by simp [Nm.enc, Wk ls, zH]
theorem ZQ (ls : List Nm.Bytes) (l : Nm.Bytes) : zH (ls ++ [l]) = zH ls ++ (UInt8.ofNat l.length :: l) := by simp [zH]
theorem J6 (ls : List Nm.Bytes) (h : ∀ l ∈ ls, l.length ≤ 63) : (zH ls).length ≤ 64 * ls.length := by
 induction ls with
 | nil => simp [zH]
 | cons l ls ih =>
   have h1 := h l (by simp)
   have h2 := ih (fun x hx => h x (by simp [hx]))
   simp [zH] at h2 ⊢
   omega
theorem ag0 (a : Nm.Bytes) (c : UInt8) (b : Nm.Bytes) : (({ data := a.toArray } : ByteArray) ++ { data := #[c] } ++ { data := b.toArray }) = ⟨(a ++ (c :: b)).toArray⟩ := by
 apply ByteArray.ext
 apply Array.toList_inj.1
 simp [ByteArray.data_append]
theorem yi (v : Value) (ls : List Nm.Bytes) (w : World) (hr : SRow w v ls) (hok : ∀ l ∈ ls, l.length ≤ 63) (hlen : ls.length ≤ 1000) :
 Calls Tryz.prog 128 #[v] w fun e w' => e = .returned (.string ⟨(Nm.enc ls).toArray⟩) ∧ Below w.heap.size w w' := by
 obtain ⟨a, cap, rfl, hrow⟩ := hr
 have HROW := Lib.hid hrow
 have HOK := Lib.hid hok
 clear hrow hok
 go_enter Tryz.func128, Tryz.ntmps128
 go_wp2_with fail
 go_loopw [3, 4] (fun o i wr => ∃ k : Nat, k ≤ ls.length ∧ i = .int .i64 k ∧ o = .string ⟨(zH (ls.take k)).toArray⟩ ∧ Below w.heap.size w wr) (fun _ i _ => ls.length - (intOf i).toNat)
 case atStart => exact ⟨0, by omega, rfl, rfl, Below.refl _ _⟩
 case round =>
  obtain ⟨k, hk, rfl, rfl, hbel⟩ := hrel
  by_cases hlt : k < ls.length
  · obtain hz0 | ⟨b, off, ha, hlb, hcc⟩ := HROW.out
    · subst hz0; simp at hlt
    subst ha
    obtain ⟨l, hl⟩ : ∃ l, ls[k]? = some l := ⟨_, List.getElem?_eq_getElem hlt⟩
    have hll := HOK.out l (List.mem_of_getElem? hl)
    have d0 : wr.cell? ⟨b, off + k, none⟩ = some (.string ⟨l.toArray⟩) := (hbel.cell hlb).trans (hcc k l hl)
    have HT := Lib.hid (show zH (ls.take (k + 1)) = zH (ls.take k) ++ (UInt8.ofNat l.length :: l) by rw [List.take_add_one, hl]; exact ZQ _ _)
    have hal := J6 (ls.take k) (fun x hx => HOK.out x (List.mem_of_mem_take hx))
    have htl : (ls.take k).length ≤ k := List.length_take_le _ _
    obtain ⟨acc, hacc⟩ : ∃ acc, acc = zH (ls.take k) := ⟨_, rfl⟩
    rw [← hacc] at hal
    have hal2 : acc.length ≤ 100000 := by omega
    rw [← hacc]
    rw [← hacc] at HT
    have hbw : b < wr.heap.size := World.block_lt_of_cell? wr _ d0
    have HBEL := Lib.hid hbel
    have hwsz := hbel.size
    clear hacc hcc hl hbel hal htl
    have e1 : (UInt8.ofNat l.length).toNat = l.length := by simp; omega
    have hone : (convert 149 9 (.slice (some ⟨wr.heap.size, 0, none⟩) 1 1)).run Tryz.prog (wr.alloc (.cells #[.int .u8 (l.length : Int)] 5)).drew = .ok (.string ⟨[UInt8.ofNat l.length].toArray⟩) (wr.alloc (.cells #[.int .u8 (l.length : Int)] 5)).drew :=
     Qm _ 149 9 5 wr.heap.size 1 1 [UInt8.ofNat l.length] rfl unO unO unO (fun j hj => by
      show (wr.alloc (.cells #[.int .u8 (l.length : Int)] 5)).cell? _ = _
      rw [World.cell?_alloc_mark]
      match j, hj with
      | 0, _ =>
        show some (Value.int .u8 (l.length : Int)) = some (.int .u8 ((UInt8.ofNat l.length).toNat : Int))
        rw [e1])
    have hk0 : (0 : Int) ≤ (k : Int) := by omega
    have hk1 : (k : Int) < (ls.length : Int) := by omega
    have hw8 : IntKind.u8.wrap (l.length : Int) = (l.length : Int) := by simp [IntKind.wrap, IntKind.signed, IntKind.bits]; omega
    clear e1
    go_upto_region 5 with fail
    go_region
    all_goals (clear hone hw8; go_wp2_with fail)
    all_goals
     refine ⟨⟨k + 1, by omega, by go_num, ?_, HBEL.out.trans (((Below.refl _ _).alloc hwsz _).drew)⟩, by simp [intOf]; omega⟩
     rw [HT.out]
     exact congrArg Value.string (ag0 acc (UInt8.ofNat l.length) l)
  · obtain rfl : k = ls.length := by omega
    rw [List.take_length]
    have hal := J6 ls HOK.out
    have HE := Lib.hid (show (({ data := (zH ls).toArray } : ByteArray) ++ { data := #[0] }) = ⟨(Nm.enc ls).toArray⟩ by rw [Wk]; exact aew (zH ls) [0])
    obtain ⟨acc, hacc⟩ : ∃ acc, acc = zH ls := ⟨_, rfl⟩
    rw [← hacc]
    rw [← hacc] at hal HE
    clear hacc
    have hal2 : acc.length ≤ 100000 := by omega
    clear hal
    go_wp2_with fail
    go_ret
    exact ⟨Vl HE.out, hbel⟩
end Go.Proofs.YtbjkkoacclfejaaGreat
namespace Go.Proofs.YtbjkkoacclfejaaGreat
open Go.RowKit
theorem aa9 {w w' : World} {base : Nat} {e : TypeId} {size : Nat} {v : Value} {n : Nat} {xs : List Value} (h : w.ownsRow base e size v n xs) (hb : Below w.heap.size w w') : w'.ownsRow base e size v n xs := by
 obtain ⟨h1, h2 | ⟨g, cap, cur, hv, h3, hg, h4⟩⟩ := h
 · exact ⟨h1, Or.inl h2⟩
 · exact ⟨h1, Or.inr ⟨g, cap, cur, hv, h3, (hb.block g (Array.getElem?_eq_some_iff.1 hg).1).trans hg, h4⟩⟩
theorem J7 {n : Nm.Bytes} {ls : List Nm.Bytes} (h : Nm.nm n = some ls) : Nm.labels n = ls := by simp [Nm.labels, h]
theorem aba {n : Nm.Bytes} {ls : List Nm.Bytes} (h : Nm.nm n = some ls) : Nm.enc (Nm.lowL ls) = Nm.fold n := by
 unfold Nm.fold
 rw [Nm.may_some h, if_pos rfl]
 obtain ⟨h1, h2, _⟩ := Nm.nm_iff.1 h
 rw [h1, Nm.low_enc _ h2]
theorem Ja {n : Nm.Bytes} {ls : List Nm.Bytes} (h : Nm.nm n = some ls) : ls.length ≤ 255 := by
 obtain ⟨h1, _, h3⟩ := Nm.nm_iff.1 h
 have := Nm.length_lt_enc ls
 rw [← h1] at this
 omega
theorem yN (s : ByteArray) (w : World) (hs : s.size ≤ 1000000) :
 Calls Tryz.prog 103 #[.string s] w fun e w' => e = .returned (.string ⟨(Nm.fold s.data.toList).toArray⟩) ∧ Below w.heap.size w w' := by
 obtain ⟨i0, hi, hz0, hz1, hz2⟩ := info_parts J4
 go_enter Tryz.func103, Tryz.ntmps103
 go_wp2_with fail
 refine (qP s _ hs).mono ?_
 rintro e w1 ⟨v, rfl, ho, hb⟩
 cases hm : Nm.may s.data.toList
 · go_wp2_with fail
   go_ret
   exact ⟨Vl (by unfold Nm.fold; rw [hm]; rfl), hb⟩
 · obtain ⟨ls, hnm⟩ := Nm.nm_of_may hm
   rw [J7 hnm] at ho
   have hcount := Ja hnm
   have HOK := Lib.hid (Nm.nm_iff.1 hnm).2.1
   have HNM := Lib.hid hnm
   obtain ⟨a, cap, rfl, hrow⟩ := SRow.own ho
   have HROW := Lib.hid hrow
   have HB := Lib.hid hb
   have hw1 := hb.size
   clear hrow hb ho hm hnm
   go_wp2_with fail
   go_loopw [5, 6] (fun o i wr => ∃ k : Nat, k ≤ ls.length ∧ i = .int .i64 k ∧ wr.ownsRow w1.heap.size 9 1 o k ((Nm.lowL (ls.take k)).map zx) ∧ Below w1.heap.size w1 wr) (fun _ i _ => ls.length - (intOf i).toNat)
   case atStart => exact ⟨0, by omega, rfl, World.ownsRow_nil _ _ _ _, Below.refl _ _⟩
   case round =>
    obtain ⟨k, hk, rfl, hown, hbel⟩ := hrel
    have HOWN := Lib.hid hown
    by_cases hlt : k < ls.length
    · obtain hz0' | ⟨b, off, ha, hlb, hcc⟩ := HROW.out
      · subst hz0'; simp at hlt
      subst ha
      obtain ⟨l, hl⟩ : ∃ l, ls[k]? = some l := ⟨_, List.getElem?_eq_getElem hlt⟩
      have hll := HOK.out l (List.mem_of_getElem? hl)
      have d0 : wr.cell? ⟨b, off + k, none⟩ = some (.string ⟨l.toArray⟩) := (hbel.cell hlb).trans (hcc k l hl)
      have HT := Lib.hid (show (Nm.lowL (ls.take (k + 1))).map zx = (Nm.lowL (ls.take k)).map zx ++ [zx (Nm.low l)] by rw [List.take_add_one, hl]; simp [Nm.lowL])
      have hbw : b < wr.heap.size := World.block_lt_of_cell? wr _ d0
      have HBEL := Lib.hid hbel
      have hwsz := hbel.size
      have hk0 : (0 : Int) ≤ (k : Int) := by omega
      have hk1 : (k : Int) < (ls.length : Int) := by omega
      clear hcc hl hbel hown
      go_wp2_with fail
      refine (Qp ⟨l.toArray⟩ _ (by rw [z9]; omega)).mono ?_
      rintro e w2 ⟨rfl, hb2⟩
      have HB2 := Lib.hid hb2
      have hsz2 := hb2.size
      have HOWN2 := Lib.hid (aa9 HOWN.out hb2)
      clear hb2
      go_wp2_with (at_builtin; refine wpList_append_own _ rfl _ _ 120 rfl w1.heap.size 9 i0 (.string ByteArray.empty) 1 16 unO hi hz0 hz1 hz2 rfl (by decide) _ k _ rfl (HOWN2.out.alloc _) ⟨w2.heap.size, 0, none⟩ 1 1 [.string ⟨(Nm.low l).toArray⟩] rfl rfl (cell_one_new _ _ _) ?c2 ?c3 ?c4 ?c5 ?_)
      case c2 => simp [Value.oneCell']
      case c3 => unfold maxLen; omega
      case c4 => omega
      case c5 => simp; omega
      intro v' w3 hown' hgrow _
      have HB3 := Lib.hid (((HBEL.out.trans (HB2.out.mono hwsz)).alloc (Nat.le_trans hwsz hsz2) _).grown hgrow (by simp; omega) (fun q hq => (HOWN2.out.lt q hq).1))
      have hfin0 : w3.ownsRow w1.heap.size 9 1 v' (k + 1) ((Nm.lowL (ls.take (k + 1))).map zx) := by
       rw [HT.out]
       exact hown'
      have HFIN := Lib.hid hfin0
      clear hown' hgrow hfin0
      go_wp2_with fail
      exact ⟨⟨k + 1, by omega, by go_num, HFIN.out, HB3.out⟩, by simp [intOf]; omega⟩
    · obtain rfl : k = ls.length := by omega
      rw [List.take_length] at HOWN
      have hr : SRow wr _ (Nm.lowL ls) := SRow.own (e := 9) (base := w1.heap.size) (by have h := HOWN.out; rwa [show ls.length = (Nm.lowL ls).length by simp [Nm.lowL]] at h)
      have HR := Lib.hid hr
      have HBEL := Lib.hid hbel
      clear hr hown hbel
      go_wp2_with fail
      refine (yi _ (Nm.lowL ls) _ HR.out (fun l hl => (Nm.lowL_ok HOK.out l hl).2) (by simp [Nm.lowL]; omega)).mono ?_
      rintro e w2 ⟨rfl, hb2⟩
      go_wp2_with fail
      go_ret
      exact ⟨Vl (by rw [aba HNM.out]), HB.out.trans ((HBEL.out.trans (hb2.mono HBEL.out.size)).mono hw1)⟩
end Go.Proofs.YtbjkkoacclfejaaGreat
