/-
 Part 2: Rw Fr Au Vd Vc Fs St3 Mac Nm Base WMay WLower WName SRow Cmp Pd Qd Ka App WRef1 WRef2 WRef4 Om Va Vb Ga Gb Gc Ord Ge Gf.
-/
import Derived.Test.YtbjkkoacclfejaaGreatZq1
import Derived.Test.YtbjkkoacclfejaaGreatRows
import Derived.WalkKit
import Derived.WalkSpells
import Derived.WalkLawsBesides
import Derived.Lib.Hide
import Derived.Lib.ConvBytes
import Derived.Lib.QuietBelow
import Derived.BigQuiet
import Derived.StillTailTactics
import Derived.Deep.DeepCutAuto
import Derived.Lib.Strings
import Derived.Lib.IndexBytes
import Derived.Lib.Bytealg
import Derived.Deep.RegionLaw
import Derived.Laws.OwnMore
import Derived.OwnWalk
set_option maxRecDepth 100000
set_option maxHeartbeats 2000000
set_option linter.unusedVariables false
set_option linter.unusedSimpArgs false
namespace Go.Proofs.YtbjkkoacclfejaaGreat
open Go.RowKit
def Laid {α : Type} (r : Rp α) (sz : Nat) (L : ja) : List Value → List α → Prop
 | xs, [] => xs = []
 | xs, x :: l => ∃ c ys, xs = c ++ ys ∧ c.length = sz ∧ r L c x ∧ Laid r sz L ys l
section
variable {α : Type} {r : Rp α} {sz : Nat} {L : ja}
theorem Laid.mono (hr : ue r) {L' : ja} (hL : ∀ p ∈ L, p ∈ L') : ∀ {l : List α} {xs : List Value}, Laid r sz L xs l → Laid r sz L' xs l
 | [], _, h => h
 | x :: l, _, ⟨c, ys, h1, h2, h3, h4⟩ => ⟨c, ys, h1, h2, hr _ _ _ _ hL h3, Laid.mono hr hL h4⟩
theorem Laid.append : ∀ {l m : List α} {xs ys : List Value}, Laid r sz L xs l → Laid r sz L ys m → Laid r sz L (xs ++ ys) (l ++ m)
 | [], m, _, _, h, k => by rw [show _ = [] from h]; exact k
 | x :: l, m, _, ys, ⟨c, zs, h1, h2, h3, h4⟩, k => ⟨c, zs ++ ys, by rw [h1, List.append_assoc], h2, h3, h4.append k⟩
theorem Laid.one {c : List Value} {x : α} (hn : c.length = sz) (h : r L c x) : Laid r sz L c [x] := ⟨c, [], by simp, hn, h, rfl⟩
theorem Laid.len : ∀ {l : List α} {xs : List Value}, Laid r sz L xs l → xs.length = l.length * sz
 | [], _, h => by rw [show _ = [] from h]; simp
 | x :: l, _, ⟨c, zs, h1, h2, h3, h4⟩ => by rw [h1, List.length_append, h2, h4.len, List.length_cons, Nat.succ_mul]; omega
theorem Laid.at : ∀ {l : List α} {xs : List Value}, Laid r sz L xs l → ∀ {i : Nat} {x : α}, l[i]? = some x → ∃ c, c.length = sz ∧ r L c x ∧ ∀ j v, c[j]? = some v → xs[i * sz + j]? = some v
 | [], _, _, i, x, h => by simp at h
 | y :: l, _, ⟨c, zs, h1, h2, h3, h4⟩, 0, x, h => by
   simp at h
   subst h
   refine ⟨c, h2, h3, fun j v hj => ?_⟩
   have := (List.getElem?_eq_some_iff.1 hj).1
   rw [h1, Nat.zero_mul, Nat.zero_add, List.getElem?_append_left this]
   exact hj
 | y :: l, _, ⟨c, zs, h1, h2, h3, h4⟩, i + 1, x, h => by
   obtain ⟨d, k1, k2, k3⟩ := h4.at (i := i) (x := x) (by simpa using h)
   refine ⟨d, k1, k2, fun j v hj => ?_⟩
   rw [h1, List.getElem?_append_right (by rw [h2, Nat.succ_mul]; omega), h2, ← k3 j v hj]
   congr 1
   rw [Nat.succ_mul]
   omega
theorem Laid.take : ∀ {l : List α} {xs : List Value} (k : Nat), Laid r sz L xs l → k ≤ l.length → Laid r sz L (xs.take (k * sz)) (l.take k)
 | l, xs, 0, h, _ => by simp [Laid]
 | [], xs, k + 1, h, hk => by simp at hk
 | x :: l, _, k + 1, ⟨c, zs, h1, h2, h3, h4⟩, hk => by
   refine ⟨c, zs.take (k * sz), ?_, h2, h3, h4.take k (by simpa using hk)⟩
   rw [h1, List.take_append, h2, List.take_of_length_le (by rw [h2, Nat.succ_mul]; omega)]
   congr 2
   rw [Nat.succ_mul]
   omega
structure ORow (r : Rp α) (e : TypeId) (sz : Nat) (L : ja) (a : Option Addr) (c : Nat) (l : List α) (B : ja) : Prop where
 ex : ∃ xs, Row e sz (.slice a l.length c) l.length xs B ∧ Laid r sz L xs l ∧ ∀ x ∈ xs, x.oneCell' = true
theorem ORow.nil (e : TypeId) : ORow r e sz L none 0 [] [] := ⟨[], Row.nil _ _, rfl, by simp⟩
theorem ORow.mono (hr : ue r) {L' : ja} (hL : ∀ p ∈ L, p ∈ L') {e : TypeId} {a : Option Addr} {c : Nat} {l : List α} {B : ja} (h : ORow r e sz L a c l B) : ORow r e sz L' a c l B := by
 obtain ⟨xs, h1, h2, h3⟩ := h.ex
 exact ⟨xs, h1, h2.mono hr hL, h3⟩
theorem ORow.sliceR (hr : ue r) {L' : ja} {e : TypeId} {a : Option Addr} {c : Nat} {l : List α} {B : ja} (h : ORow r e sz L a c l B) (hL : ∀ p ∈ L, p ∈ L') (hB : ∀ p ∈ B, p ∈ L') : sliceR sz r L' [.slice a l.length c] l := by
 obtain ⟨xs, h1, h2, h3⟩ := h.ex
 have h2' := h2.mono hr hL
 rcases h1.is with ⟨q1, q2, q3⟩ | ⟨b, cap, cur, q1, q2, q3, q4, q5, q6⟩
 · obtain ⟨rfl, e1, rfl⟩ := Value.slice.inj q1
   exact ⟨none, 0, rfl, by omega, by unfold maxLen; omega, Or.inl (List.eq_nil_of_length_eq_zero q2)⟩
 · obtain ⟨rfl, e1, rfl⟩ := Value.slice.inj q1
   refine ⟨_, c, rfl, q3, q4, Or.inr ⟨b, 0, cur, e, (0, 0), rfl, hB _ (by rw [q2]; exact List.mem_cons_self ..), fun i x hx => ?_⟩⟩
   obtain ⟨cs', k1, k2, k3⟩ := h2'.at hx
   refine ⟨cs', k1, k2, fun j v hj => ?_⟩
   have hil := (List.getElem?_eq_some_iff.1 hx).1
   have hjl := (List.getElem?_eq_some_iff.1 hj).1
   have hlt : i * sz + j < l.length * sz := by
    have : (i + 1) * sz ≤ l.length * sz := Nat.mul_le_mul_right _ hil
    rw [Nat.succ_mul] at this
    omega
   have := k3 j v hj
   rw [← q6, List.getElem?_take_of_lt hlt] at this
   rw [Nat.zero_add]
   simpa using this
theorem sliceR.cut {a : Option Addr} {m c : Nat} {l : List α} (h : sliceR sz r L [.slice a m c] l) : m = l.length ∧ m ≤ c ∧ c ≤ maxLen ∧ (l = [] ∨ ∃ b off C te fr, a = some ⟨b, off, none⟩ ∧ (b, Obj.cells C te fr) ∈ L ∧
 ∀ i x, l[i]? = some x → ∃ cs', cs'.length = sz ∧ r L cs' x ∧ ∀ j v, cs'[j]? = some v → C[off + i * sz + j]? = some v) := by
 obtain ⟨a', c', h1, h2, h3, h4⟩ := h
 simp only [List.cons.injEq, and_true] at h1
 obtain ⟨rfl, rfl, rfl⟩ := Value.slice.inj h1
 exact ⟨rfl, h2, h3, h4⟩
theorem sliceR.val {cs : List Value} {l : List α} (h : sliceR sz r L cs l) : ∃ a c, cs = [.slice a l.length c] ∧ sliceR sz r L [.slice a l.length c] l := by
 obtain ⟨a, c, h1, h2⟩ := h
 exact ⟨a, c, h1, a, c, rfl, h2⟩
theorem sliceR.nil : sliceR sz r L [.slice none 0 0] ([] : List α) := ⟨none, 0, rfl, by simp, by unfold maxLen; omega, Or.inl rfl⟩
end
section
variable {G : World} {P : Program} {n : Nat} {ρ : jp} {L : ja} {ty : TypeId} {Q : Exit → Act → World → Prop}
theorem ZZ {s x : Operand} {t e te : TypeId} {sz bytes bl : Nat} {z v : Value} {cs : List Value} {m : Nat} {xs : List Value} {B : ja} (E : ElemTy P t e sz bytes z) (hs : ev ρ s = some v) (hx : ev ρ x = some (.slice (some ⟨bl, 0, none⟩) 1 1))
 (hrow : Row e sz v m xs B) (hn : cs.length = sz) (hone : ∀ v ∈ cs, v.oneCell' = true) (h63 : m + 1 ≤ maxLen) (hby : (m + 1) * bytes ≤ 140737488355328) :
 OpT P G ρ ((bl, .cells cs.toArray te (0, 0)) :: (B ++ L)) (.call ⟨.builtin .append, #[s, x], #[t, t]⟩) ty fun v' L' => ∃ B', Row e sz v' (m + 1) (xs ++ cs) B' ∧ L' = B' ++ L :=
 (OpT.heap (L' := B ++ ((bl, .cells cs.toArray te (0, 0)) :: L)) (fun w hw => hw.perm List.perm_middle.symm) (uQ E hs hx hrow ⟨by omega, hone, Or.inr ⟨bl, 0, 1, cs.toArray, te, (0, 0), rfl, List.mem_cons_self .., fun j y hj => by rw [Nat.zero_add]; simpa using hj⟩⟩ h63 hby)).post fun v' M ⟨B', h1, h2⟩ =>
   ⟨B' ++ L, ⟨B', h1, rfl⟩, fun w hw => (h2 ▸ hw : Heap G w (B' ++ _)).sub ((List.Sublist.refl B').append (List.sublist_cons_self _ _))⟩
theorem uS {α : Type} {r : Rp α} {s x : Operand} {t e te : TypeId} {sz bytes bl : Nat} {z : Value} {a : Option Addr} {c : Nat} {cs : List Value} {y : α} {l : List α} {B L0 : ja} (E : ElemTy P t e sz bytes z) (hs : ev ρ s = some (.slice a l.length c)) (hx : ev ρ x = some (.slice (some ⟨bl, 0, none⟩) 1 1))
 (hrow : ORow r e sz L0 a c l B) (hn : cs.length = sz) (hone : ∀ v ∈ cs, v.oneCell' = true) (hy : r L0 cs y) (h63 : l.length + 1 ≤ maxLen) (hby : (l.length + 1) * bytes ≤ 140737488355328) :
 OpT P G ρ ((bl, .cells cs.toArray te (0, 0)) :: (B ++ L)) (.call ⟨.builtin .append, #[s, x], #[t, t]⟩) ty fun v' L' => ∃ a' c' B', v' = .slice a' (l ++ [y]).length c' ∧ ORow r e sz L0 a' c' (l ++ [y]) B' ∧ L' = B' ++ L := by
 obtain ⟨xs, h1, h2, h3⟩ := hrow.ex
 refine (ZZ E hs hx h1 hn hone h63 hby).post fun v' M ⟨B', k1, k2⟩ => ?_
 obtain ⟨a', c', rfl⟩ := k1.slice
 have hlen : (l ++ [y]).length = l.length + 1 := by simp
 refine ⟨M, ⟨a', c', B', by rw [hlen], ⟨xs ++ cs, by rw [hlen]; exact k1, h2.append (Laid.one hn hy), fun x hx => ?_⟩, k2⟩, fun w hw => hw⟩
 rcases List.mem_append.1 hx with hx | hx
 · exact h3 x hx
 · exact hone x hx
theorem K1 {t e : TypeId} {x : Operand} {sz bytes : Nat} {z : Value} {cs : List Value} (E : ElemTy P t e sz bytes z) (hx : ev ρ x = some (.agg cs.toArray)) (hn : cs.length = sz) (hsz : sz ≤ 1000) :
 OpNew P G ρ L (.buildSlice t 1 #[(0, x)]) ty (fun b => .slice (some ⟨b, 0, none⟩) 1 1) (.cells cs.toArray e (0, 0)) :=
 ki (ps := [(0, x)]) (vs := [(0, .agg cs.toArray)]) (by simp [qu, hx]) (uR E [.agg cs.toArray] rfl (fun v hv => by rw [List.mem_singleton.1 hv]; simpa [Value.cells] using hn) (by omega) (by simp [Value.cells]))
end
end Go.Proofs.YtbjkkoacclfejaaGreat
namespace Go.Proofs.YtbjkkoacclfejaaGreat
open Go.RowKit
open Classical in
noncomputable def hit (p q : Nat × Obj) : Nat := if p = q then 1 else 0
noncomputable def cnt (p : Nat × Obj) : ja → Nat
 | [] => 0
 | q :: L => hit p q + cnt p L
theorem zR (p : Nat × Obj) : cnt p [] = 0 := rfl
theorem j8 (p q : Nat × Obj) (L : ja) : cnt p (q :: L) = hit p q + cnt p L := rfl
theorem kD (p : Nat × Obj) : ∀ A B : ja, cnt p (A ++ B) = cnt p A + cnt p B
 | [], B => by simp [cnt]
 | q :: A, B => by rw [List.cons_append, j8, j8, kD p A B]; omega
theorem cnt_pos {p : Nat × Obj} : ∀ {L : ja}, p ∈ L ↔ 1 ≤ cnt p L
 | [] => by simp [cnt]
 | q :: L => by
   rw [j8, List.mem_cons, cnt_pos (L := L)]
   unfold hit
   by_cases h : p = q
   · rw [if_pos h]; simp [h]
   · rw [if_neg h]; simp [h]
theorem QK {p : Nat × Obj} : ∀ {L : ja}, (L.map (·.1)).Nodup → cnt p L ≤ 1
 | [], _ => by simp [cnt]
 | q :: L, h => by
   rw [List.map_cons, List.nodup_cons] at h
   rw [j8]
   have h2 := QK (p := p) h.2
   unfold hit
   by_cases e : p = q
   · subst e
     rw [if_pos rfl]
     by_cases h0 : 1 ≤ cnt p L
     · exact absurd (List.mem_map.2 ⟨p, cnt_pos.2 h0, rfl⟩) h.1
     · omega
   · rw [if_neg e]; omega
theorem QL : ∀ {L : ja}, (L.map (·.1)).Nodup → ∀ {p q : Nat × Obj}, p ∈ L → q ∈ L → p.1 = q.1 → p = q
 | [], _, p, q, h, _, _ => by simp at h
 | r :: L, hn, p, q, hp, hq, e => by
   rw [List.map_cons, List.nodup_cons] at hn
   rcases List.mem_cons.1 hp with rfl | hp' <;> rcases List.mem_cons.1 hq with rfl | hq'
   · rfl
   · exact absurd (List.mem_map.2 ⟨q, hq', e.symm⟩) hn.1
   · exact absurd (List.mem_map.2 ⟨p, hp', e⟩) hn.1
   · exact QL hn.2 hp' hq' e
theorem zn : ∀ {L L' : ja}, (∀ p, cnt p L' ≤ cnt p L) → (L.map (·.1)).Nodup → (L'.map (·.1)).Nodup
 | L, [], _, _ => by simp
 | L, q :: L', h, hn => by
   rw [List.map_cons, List.nodup_cons]
   refine ⟨fun hm => ?_, zn (L := L) (fun p => by have := h p; rw [j8] at this; omega) hn⟩
   obtain ⟨r, hr, e⟩ := List.mem_map.1 hm
   have h1 : 1 ≤ cnt r L' := cnt_pos.1 hr
   have hq : q ∈ L := cnt_pos.2 (by have := h q; rw [j8] at this; have h0 : hit q q = 1 := by simp [hit]
                                    omega)
   have hr' : r ∈ L := cnt_pos.2 (by have := h r; rw [j8] at this; omega)
   have := QL hn hr' hq e
   subst this
   have h2 := h r
   rw [j8] at h2
   have h3 := QK (p := r) hn
   have h0 : hit r r = 1 := by simp [hit]
   omega
variable {G : World} {P : Program} {n : Nat} {ρ : jp} {L : ja} {ty : TypeId} {Q : Exit → Act → World → Prop}
theorem Heap.cnt {w : World} {L' : ja} (h : Heap G w L) (hc : ∀ p, Go.Proofs.YtbjkkoacclfejaaGreat.cnt p L' ≤ Go.Proofs.YtbjkkoacclfejaaGreat.cnt p L) : Heap G w L' :=
 ⟨h.still, zn hc h.nodup, fun p hp => h.get p (cnt_pos.2 (Nat.le_trans (cnt_pos.1 hp) (hc p)))⟩
theorem jS {L' : ja} (hc : ∀ p, cnt p L' ≤ cnt p L) : ∀ p ∈ L', p ∈ L := fun p hp => cnt_pos.2 (Nat.le_trans (cnt_pos.1 hp) (hc p))
section
variable {α : Type} {r : Rp α} {sz : Nat}
theorem Laid.set : ∀ {l : List α} {xs : List Value} {i : Nat} {y : α} {cs : List Value}, Laid r sz L xs l → i < l.length → cs.length = sz → r L cs y → Laid r sz L (xs.take (i * sz) ++ cs ++ xs.drop (i * sz + sz)) (l.set i y)
 | [], _, i, y, cs, _, hi, _, _ => by simp at hi
 | x :: l, _, 0, y, cs, ⟨c, zs, h1, h2, h3, h4⟩, _, hn, hy => by
   refine ⟨cs, zs, ?_, hn, hy, h4⟩
   rw [h1, Nat.zero_mul, List.take_zero, List.nil_append, Nat.zero_add, ← h2, List.drop_left]
 | x :: l, _, i + 1, y, cs, ⟨c, zs, h1, h2, h3, h4⟩, hi, hn, hy => by
   refine ⟨c, zs.take (i * sz) ++ cs ++ zs.drop (i * sz + sz), ?_, h2, h3, h4.set (by simpa using hi) hn hy⟩
   rw [h1, Nat.succ_mul, List.take_append, List.drop_append, h2, List.take_of_length_le (by omega), List.drop_of_length_le (l := c) (by omega)]
   rw [show i * sz + sz - sz = i * sz by omega, show i * sz + sz + sz - sz = i * sz + sz by omega]
   simp
theorem ORow.set {e : TypeId} {a : Option Addr} {c : Nat} {l : List α} {B : ja} {i b : Nat} {y : α} {cs : List Value} {cur cur' : Array Value} (h : ORow r e sz L a c l B) (hB : B = [(b, .cells cur e (0, 0))]) (hi : i < l.length) (hn : cs.length = sz) (hy : r L cs y) (hone : ∀ v ∈ cs, v.oneCell' = true)
 (hs : cur'.size = cur.size) (hin : ∀ j v, cs[j]? = some v → cur'[i * sz + j]? = some v) (hout : ∀ k, k < i * sz ∨ i * sz + sz ≤ k → cur'[k]? = cur[k]?) : ORow r e sz L a c (l.set i y) [(b, .cells cur' e (0, 0))] := by
 obtain ⟨xs, h1, h2, h3⟩ := h.ex
 have hlen := h2.len
 have hle : i * sz + sz ≤ l.length * sz := by
  have : (i + 1) * sz ≤ l.length * sz := Nat.mul_le_mul_right _ hi
  rw [Nat.succ_mul] at this
  exact this
 rcases h1.is with ⟨_, _, q3⟩ | ⟨b', cap, cur0, q1, q2, q3, q4, q5, q6⟩
 · rw [q3] at hB; simp at hB
 · rw [q2] at hB
   simp only [List.cons.injEq, Prod.mk.injEq, Obj.cells.injEq, and_true] at hB
   obtain ⟨rfl, rfl⟩ := hB
   refine ⟨xs.take (i * sz) ++ cs ++ xs.drop (i * sz + sz), ⟨?_, Or.inr ⟨b', cap, cur', ?_, rfl, ?_, q4, by rw [hs]; exact q5, ?_⟩⟩, h2.set hi hn hy, fun v hv => ?_⟩
   · simp only [List.length_append, List.length_take, List.length_drop, List.length_set, hlen, hn]; omega
   · rw [List.length_set]; exact q1
   · rw [List.length_set]; exact q3
   · rw [List.length_set]
     apply List.ext_getElem?
     intro k
     have hx : ∀ k, k < l.length * sz → xs[k]? = cur0[k]? := fun k hk => by
      rw [← q6, List.getElem?_take_of_lt hk]; simp
     by_cases hk : k < l.length * sz
     · rw [List.getElem?_take_of_lt hk, Array.getElem?_toList]
       by_cases k1 : k < i * sz
       · rw [hout k (Or.inl k1), List.append_assoc, List.getElem?_append_left (by rw [List.length_take]; omega), List.getElem?_take_of_lt k1, hx k hk]
       · by_cases k2 : k < i * sz + sz
         · rw [List.append_assoc, List.getElem?_append_right (by rw [List.length_take]; omega), List.getElem?_append_left (by rw [List.length_take]; omega)]
           have hm : min (i * sz) xs.length = i * sz := by omega
           rw [List.length_take, hm]
           obtain ⟨v, hv⟩ : ∃ v, cs[k - i * sz]? = some v := ⟨_, List.getElem?_eq_getElem (by omega)⟩
           rw [hv]
           have := hin _ v hv
           rw [show i * sz + (k - i * sz) = k by omega] at this
           exact this
         · rw [hout k (Or.inr (by omega)), List.getElem?_append_right (by simp only [List.length_append, List.length_take]; omega)]
           have hm : (xs.take (i * sz) ++ cs).length = i * sz + sz := by simp only [List.length_append, List.length_take]; omega
           rw [hm, List.getElem?_drop, show i * sz + sz + (k - (i * sz + sz)) = k by omega, hx k hk]
     · rw [List.getElem?_eq_none (by simp; omega), List.getElem?_eq_none (by simp only [List.length_append, List.length_take, List.length_drop]; omega)]
   · rcases List.mem_append.1 hv with hv | hv
     · rcases List.mem_append.1 hv with hv | hv
       · exact h3 v (List.mem_of_mem_take hv)
       · exact hone v hv
     · exact h3 v (List.mem_of_mem_drop hv)
theorem ORow.block {e : TypeId} {a : Option Addr} {c : Nat} {l : List α} {B : ja} (h : ORow r e sz L a c l B) (hl : l ≠ []) : ∃ b cur, a = some ⟨b, 0, none⟩ ∧ B = [(b, .cells cur e (0, 0))] ∧ l.length ≤ c ∧ c ≤ maxLen ∧ cur.size = c * sz ∧
 ∀ i x, l[i]? = some x → ∃ cs, cs.length = sz ∧ r L cs x ∧ (∀ v ∈ cs, v.oneCell' = true) ∧ ∀ j v, cs[j]? = some v → cur[i * sz + j]? = some v := by
 obtain ⟨xs, h1, h2, h3⟩ := h.ex
 rcases h1.is with ⟨_, q2, _⟩ | ⟨b, cap, cur, q1, q2, q3, q4, q5, q6⟩
 · exact absurd (List.eq_nil_of_length_eq_zero q2) hl
 · obtain ⟨rfl, _, rfl⟩ := Value.slice.inj q1
   refine ⟨b, cur, rfl, q2, q3, q4, q5, fun i x hx => ?_⟩
   obtain ⟨cs, k1, k2, k3⟩ := h2.at hx
   refine ⟨cs, k1, k2, fun v hv => ?_, fun j v hj => ?_⟩
   · obtain ⟨j, hj⟩ := List.getElem?_of_mem hv
     exact h3 v (List.mem_of_getElem? (k3 j v hj))
   · have hil := (List.getElem?_eq_some_iff.1 hx).1
     have hjl := (List.getElem?_eq_some_iff.1 hj).1
     have hlt : i * sz + j < l.length * sz := by
      have : (i + 1) * sz ≤ l.length * sz := Nat.mul_le_mul_right _ hil
      rw [Nat.succ_mul] at this
      omega
     have := k3 j v hj
     rw [← q6, List.getElem?_take_of_lt hlt] at this
     simpa using this
end
end Go.Proofs.YtbjkkoacclfejaaGreat
namespace Go.Proofs.YtbjkkoacclfejaaGreat
open Go.RowKit
theorem dT {p : Prop} [Decidable p] (h : p) : decide p = true := decide_eq_true h
theorem dF {p : Prop} [Decidable p] (h : ¬ p) : decide p = false := decide_eq_false h
section
variable {α : Type} [BEq α] [LawfulBEq α] {a b : α}
theorem eT (h : a = b) : (a == b) = true := beq_iff_eq.2 h
theorem eF (h : ¬ a = b) : (a == b) = false := beq_false_of_ne h
theorem nT (h : ¬ a = b) : (a != b) = true := bne_iff_ne.2 h
theorem nF (h : a = b) : (a != b) = false := by rw [h]; simp
end
theorem xT {b : Bool} (h : b = false) : (!b) = true := by rw [h]; rfl
theorem xF {b : Bool} (h : b = true) : (!b) = false := by rw [h]; rfl
variable {G : World} {P : Program} {n : Nat} {ρ : jp} {L : ja} {ty : TypeId} {Q : Exit → Act → World → Prop}
section
variable {c : Operand} {x y : Code}
end
section
variable {ops : Array Oper} {d j dj : Nat} {op : Op} {pos : String} {after : Array Edge} {rest : List Oper}
end
theorem kE {t : TypeId} {x : Operand} {C : Array Value} (hx : ev ρ x = some (.agg C)) : OpNew P G ρ L (.box t x) ty (fun b => .pointer (some ⟨b, 0, none⟩)) (.cells C t (0, 0)) := UE hx rfl
theorem zS {fn : Func} {Φ : Value → ja → Prop} (t u s : Nat) (v x y : Value) (hr : fn.results = #[.tmp t, .tmp u, .tmp s]) (hv : ρ.lookup t = some v) (hx : ρ.lookup u = some x) (hy : ρ.lookup s = some y) (h : Φ (.tuple #[v, x, y]) L) : TQ G n ρ L .ret (bodyPost P fn (kM G Φ)) :=
 ⟨fun a w he hw => ⟨he.defers, .tuple #[v, x, y], by
   have h1 : a.tmps.getD t undef = v := he.reads (.tmp t) v hv
   have h2 : a.tmps.getD u undef = x := he.reads (.tmp u) x hx
   have h3 : a.tmps.getD s undef = y := he.reads (.tmp s) y hy
   simp only [results, hr]
   simp
   exact ⟨by simpa using h1, by simpa using h2, by simpa using h3⟩, _, L, rfl, h, hw⟩⟩
theorem yr {a : Nat} {b k : Nat} {t : TypeId} {C : Array Value} {te : TypeId} {fr : Nat × Nat} {ac : Act} {w : World} (he : Env n ρ ac) (hv : ρ.lookup a = some (.pointer (some ⟨b, 0, none⟩))) (ht : jL P t k = true) (hg : w.heap[b]? = some (.cells C te fr)) (hk : C.size = k) :
 ac.tmps.getD a undef = .pointer (some ⟨b, 0, none⟩) ∧ (loadVar t ⟨b, 0, none⟩).run P w = .ok (.agg C) w := by
 have h1 : ac.tmps.getD a undef = .pointer (some ⟨b, 0, none⟩) := he.reads (.tmp a) _ hv
 refine ⟨h1, ?_⟩
 unfold jL at ht
 cases hu : P.underlying t with
 | none => simp [hu] at ht
 | some d =>
   cases hi : P.info? t with
   | none => simp [hi] at ht
   | some i =>
     cases d with
     | struct fs =>
       simp [hu, hi] at ht
       have ha : (isAgg t).run P w = .ok true w := by
        unfold isAgg
        simp [run_underlying hu]
       have hc := run_loadCells_list (P := P) (w := w) ⟨b, 0, none⟩ C.toList (fun j v hj => by
        rw [kH, Nat.zero_add]
        unfold World.cell?
        rw [hg]
        simpa using hj)
       rw [Array.length_toList, hk] at hc
       simp [loadVar, ha, sizeOf, typeInfo, hi, ht, hc]
     | _ => simp [hu] at ht
theorem kJ {fn : Func} {Φ : Value → ja → Prop} (a t u : Nat) {b k : Nat} {C : Array Value} {te : TypeId} {fr : Nat × Nat} {x : Value} {L' : ja} (hr : fn.results = #[.cell a t, .tmp u]) (hv : ρ.lookup a = some (.pointer (some ⟨b, 0, none⟩))) (hx : ρ.lookup u = some x)
 (ht : jL P t k = true) (hm : (b, Obj.cells C te fr) ∈ L) (hk : C.size = k) (hl : ∀ w, Heap G w L → Heap G w L') (h : Φ (.tuple #[.agg C, x]) L') : TQ G n ρ L .ret (bodyPost P fn (kM G Φ)) :=
 ⟨fun ac w he hw => ⟨he.defers, .tuple #[.agg C, x], by
   obtain ⟨h1, h0⟩ := yr he hv ht (hw.get _ hm) hk
   have h2 : ac.tmps.getD u undef = x := he.reads (.tmp u) x hx
   rw [Array.getD_eq_getD_getElem?] at h1 h2
   simp only [results, hr]
   simp
   simp [h1, asAddr, h0, h2], _, L', rfl, h, hl w hw⟩⟩
theorem uC {fn : Func} {Φ : Value → ja → Prop} (a t u s : Nat) {b k : Nat} {C : Array Value} {te : TypeId} {fr : Nat × Nat} {x y : Value} {L' : ja} (hr : fn.results = #[.cell a t, .tmp u, .tmp s]) (hv : ρ.lookup a = some (.pointer (some ⟨b, 0, none⟩))) (hx : ρ.lookup u = some x) (hy : ρ.lookup s = some y)
 (ht : jL P t k = true) (hm : (b, Obj.cells C te fr) ∈ L) (hk : C.size = k) (hl : ∀ w, Heap G w L → Heap G w L') (h : Φ (.tuple #[.agg C, x, y]) L') : TQ G n ρ L .ret (bodyPost P fn (kM G Φ)) :=
 ⟨fun ac w he hw => ⟨he.defers, .tuple #[.agg C, x, y], by
   obtain ⟨h1, h0⟩ := yr he hv ht (hw.get _ hm) hk
   have h2 : ac.tmps.getD u undef = x := he.reads (.tmp u) x hx
   have h3 : ac.tmps.getD s undef = y := he.reads (.tmp s) y hy
   rw [Array.getD_eq_getD_getElem?] at h1 h2 h3
   simp only [results, hr]
   simp
   simp [h1, asAddr, h0, h2, h3], _, L', rfl, h, hl w hw⟩⟩
end Go.Proofs.YtbjkkoacclfejaaGreat
namespace Go.Proofs.YtbjkkoacclfejaaGreat
open Go.RowKit
namespace Vd
abbrev Bytes := List UInt8
structure RSet where
 name : Bytes
 kind : Int
 cls : Int
 ttl : Int
 data : List Bytes
deriving DecidableEq
structure Vdt where
 code : Int
 sets : List RSet
 soa : List RSet
deriving DecidableEq
structure Vote where
 up : Int
 vd : Vdt
 time : Int
deriving DecidableEq
structure Rec where
 name : Bytes
 kind : Int
 cls : Int
 ttl : Int
 data : Bytes
deriving DecidableEq
structure Quest where
 name : Bytes
 kind : Int
 cls : Int
deriving DecidableEq
def RSet.none : RSet := ⟨[], 0, 0, 0, []⟩
def Vdt.none : Vdt := ⟨0, [], []⟩
instance : Inhabited RSet := ⟨RSet.none⟩
instance : Inhabited Vdt := ⟨Vdt.none⟩
instance : Inhabited Vote := ⟨⟨0, Vdt.none, 0⟩⟩
instance : Inhabited Rec := ⟨⟨[], 0, 0, 0, []⟩⟩
end Vd
open Vd (RSet Vdt Vote Rec Quest)
def rsR : Rp RSet := fun L cs s => ∃ d, cs = [.string (bs s.name), .int .u16 s.kind, .int .u16 s.cls, .int .u32 s.ttl, d] ∧ sliceR 1 qO L [d] s.data ∧ s.name.length ≤ maxLen ∧ (0 ≤ s.kind ∧ s.kind ≤ 65535) ∧ (0 ≤ s.cls ∧ s.cls ≤ 65535) ∧ (0 ≤ s.ttl ∧ s.ttl ≤ 4294967295)
def vdR : Rp Vdt := fun L cs v => ∃ a b, cs = [.int .u8 v.code, a, b] ∧ sliceR 5 rsR L [a] v.sets ∧ sliceR 5 rsR L [b] v.soa ∧ (0 ≤ v.code ∧ v.code ≤ 255)
def voteR : Rp Vote := fun L cs x => ∃ a b, cs = [.int .i64 x.up, .int .u8 x.vd.code, a, b, .int .u32 x.time] ∧ sliceR 5 rsR L [a] x.vd.sets ∧ sliceR 5 rsR L [b] x.vd.soa ∧ (0 ≤ x.vd.code ∧ x.vd.code ≤ 255) ∧ (0 ≤ x.time ∧ x.time ≤ 4294967295) ∧ (-9223372036854775808 ≤ x.up ∧ x.up ≤ 9223372036854775807)
def adp : Rp Rec := fun L cs x => cs = [.string (bs x.name), .int .u16 x.kind, .int .u16 x.cls, .int .u32 x.ttl, .string (bs x.data)] ∧ x.name.length ≤ maxLen ∧ x.data.length ≤ maxLen ∧ (0 ≤ x.kind ∧ x.kind ≤ 65535) ∧ (0 ≤ x.cls ∧ x.cls ≤ 65535) ∧ (0 ≤ x.ttl ∧ x.ttl ≤ 4294967295)
theorem jq : ue rsR := fun L L' cs a hL ⟨d, h1, h2, h3⟩ => ⟨d, h1, jn kI L L' _ _ hL h2, h3⟩
theorem ko : ue vdR := fun L L' cs a hL ⟨x, y, h1, h2, h3, h4⟩ => ⟨x, y, h1, jn jq L L' _ _ hL h2, jn jq L L' _ _ hL h3, h4⟩
theorem kz : ue voteR := fun L L' cs a hL ⟨x, y, h1, h2, h3, h4⟩ => ⟨x, y, h1, jn jq L L' _ _ hL h2, jn jq L L' _ _ hL h3, h4⟩
theorem rsR.len {L : ja} {cs : List Value} {s : RSet} (h : rsR L cs s) : cs.length = 5 := by obtain ⟨d, rfl, _⟩ := h; rfl
theorem rsR.one {L : ja} {cs : List Value} {s : RSet} (h : rsR L cs s) : ∀ v ∈ cs, v.oneCell' = true := by
 obtain ⟨d, rfl, hd, _⟩ := h
 obtain ⟨a, c, e, _⟩ := hd
 simp only [List.cons.injEq, and_true] at e
 subst e
 intro v hv
 simp only [List.mem_cons, List.not_mem_nil, or_false] at hv
 rcases hv with rfl | rfl | rfl | rfl | rfl <;> rfl
end Go.Proofs.YtbjkkoacclfejaaGreat
namespace Go.Proofs.YtbjkkoacclfejaaGreat
open Go.RowKit
open Vd (RSet Vdt Vote Rec Quest)
section
variable {P : Program}
theorem JU {t e : TypeId} {a : Option Addr} {m c : Nat} (d : Nat) (w : World) (h : P.underlying t = some (.slice e)) : (Op.equalIn (d + 1) t (.slice a m c) (.slice none 0 0)).run P w = .ok a.isNone w := by
 cases a <;> simp [Op.equalIn, run_underlying h]
theorem Ya {t e : TypeId} {a : Option Addr} {m c : Nat} (h : P.underlying t = some (.slice e)) : Bin P .eql t (.slice a m c) (.slice none 0 0) (.bool a.isNone) := ⟨fun x y w => by
 simp only [eqGuard, binOp, qF]
 simp [JU 9999 w h]⟩
end
section
variable {α : Type} {r : Rp α} {sz : Nat} {G : World} {P : Program} {ρ : jp} {L : ja} {ty : TypeId}
theorem K2 {C : Array Value} : ∀ (m : List α) (off : Nat), (∀ i x, m[i]? = some x → ∃ cs', cs'.length = sz ∧ r L cs' x ∧ ∀ j v, cs'[j]? = some v → C[off + i * sz + j]? = some v) → ∃ news, Laid r sz L news m ∧ ∀ j v, news[j]? = some v → C[off + j]? = some v
 | [], off, _ => ⟨[], rfl, fun j v h => by simp at h⟩
 | x :: m, off, h => by
   obtain ⟨c, h1, h2, h3⟩ := h 0 x rfl
   obtain ⟨news, k1, k2⟩ := K2 m (off + sz) (fun i y hy => by
    obtain ⟨d, q1, q2, q3⟩ := h (i + 1) y (by simpa using hy)
    refine ⟨d, q1, q2, fun j v hj => ?_⟩
    rw [← q3 j v hj]
    congr 1
    rw [Nat.succ_mul]
    omega)
   refine ⟨c ++ news, ⟨c, news, rfl, h1, h2, k1⟩, fun j v hj => ?_⟩
   by_cases hlt : j < c.length
   · rw [List.getElem?_append_left hlt] at hj
     have := h3 j v hj
     rwa [Nat.zero_mul, Nat.add_zero] at this
   · rw [List.getElem?_append_right (by omega)] at hj
     rw [← k2 _ v hj]
     congr 1
     omega
theorem Jf {s x : Operand} {t e : TypeId} {sz bytes : Nat} {z v : Value} {m c : Nat} {a : Option Addr} {xs : List Value} {B : ja} (E : ElemTy P t e sz bytes z) (hs : ev ρ s = some v) (hx : ev ρ x = some (.slice a 0 c))
 (hrow : Row e sz v m xs B) (h63 : m + 0 ≤ maxLen) (hby : (m + 0) * bytes ≤ 140737488355328) :
 OpT P G ρ (B ++ L) (.call ⟨.builtin .append, #[s, x], #[t, t]⟩) ty fun v' L' => ∃ B', Row e sz v' (m + 0) (xs ++ []) B' ∧ L' = B' ++ L :=
 ⟨fun r hr w hw o ho _ => by
   obtain ⟨i, hi, hz0, hz1, hz2⟩ := E.info
   have hown := hrow.owns hw
   have key : ∃ v' w', (Builtin.append_ #[t, t] o.type #[v, .slice a 0 c]).run P w = .ok v' w' ∧ w'.ownsRow 0 e sz v' (m + 0) (xs ++ []) ∧ w.grownBy w' v.ownBlock ∧ (v'.ownBlock = v.ownBlock ∨ v'.ownBlock = some w.heap.size) := by
    cases a with
    | none => exact ⟨v, w, Qy w t o.type e i c E.und hi 0 sz v m xs hown, by simpa using hown, ⟨rfl, rfl, rfl, Nat.le_refl _, fun _ _ _ => rfl⟩, Or.inl rfl⟩
    | some x =>
      obtain ⟨v', w', q1, q2, q3, _, q5⟩ := run_append_own_at w 0 t o.type e i z sz bytes E.und hi hz0 hz1 hz2 E.cells E.pos v m xs hown x 0 c [] (by simp)
       (fun j y hj => by simp at hj) (by simp) h63 hby (Nat.zero_le _)
      exact ⟨v', w', q1, q2, q3, q5⟩
   obtain ⟨v', w', hrun, q2, q3, q4⟩ := key
   obtain ⟨B', hB, hH⟩ := hrow.after hw q2 q3 q4
   have : (execOp r o).run P w = .ok (.value v') w' := by
    simp [execOp, ho, hr _ _ hs, hr _ _ hx, resolve, invoke, builtin, hrun, Result.andThen]
   rw [this]
   exact ⟨_, ⟨B', hB, rfl⟩, hH⟩⟩
theorem UK {s x : Operand} {t e : TypeId} {bytes : Nat} {z : Value} {a a2 : Option Addr} {c c2 : Nat} {l m : List α} {B : ja} (E : ElemTy P t e sz bytes z) (hs : ev ρ s = some (.slice a l.length c)) (hx : ev ρ x = some (.slice a2 m.length c2))
 (hrow : ORow r e sz L a c l B) (hr : sliceR sz r L [.slice a2 m.length c2] m) (hone : ∀ cs y, r L cs y → ∀ v ∈ cs, v.oneCell' = true) (h63 : l.length + m.length ≤ maxLen) (hby : (l.length + m.length) * bytes ≤ 140737488355328) :
 OpT P G ρ (B ++ L) (.call ⟨.builtin .append, #[s, x], #[t, t]⟩) ty fun v' L' => ∃ a' c' B', v' = .slice a' (l ++ m).length c' ∧ ORow r e sz L a' c' (l ++ m) B' ∧ L' = B' ++ L := by
 obtain ⟨xs, h1, h2, h3⟩ := hrow.ex
 have hlen : (l ++ m).length = l.length + m.length := by simp
 have laid_one : ∀ (m : List α) (news : List Value), Laid r sz L news m → ∀ v ∈ news, v.oneCell' = true := by
  intro m
  induction m with
  | nil => intro news h v hv; rw [show news = [] from h] at hv; simp at hv
  | cons y m ih =>
    rintro _ ⟨d, ys, rfl, _, q2, q3⟩ v hv
    rcases List.mem_append.1 hv with hv | hv
    · exact hone d y q2 v hv
    · exact ih ys q3 v hv
 obtain ⟨_, _, _, hc⟩ := sliceR.cut hr
 rcases hc with rfl | ⟨b, off, C, te, fr, rfl, q2, q3⟩
 · refine (Jf E hs hx h1 h63 hby).post fun v' M ⟨B', k1, k2⟩ => ?_
   obtain ⟨a', c', rfl⟩ := k1.slice
   refine ⟨M, ⟨a', c', B', by rw [hlen]; rfl, ⟨xs, ?_, by simpa using h2, h3⟩, k2⟩, fun w hw => hw⟩
   simpa using k1
 · obtain ⟨news, n1, n2⟩ := K2 m off q3
   refine (uQ E hs hx h1 ⟨n1.len, laid_one m news n1, Or.inr ⟨b, off, c2, C, te, fr, rfl, q2, n2⟩⟩ h63 hby).post fun v' M ⟨B', k1, k2⟩ => ?_
   obtain ⟨a', c', rfl⟩ := k1.slice
   refine ⟨M, ⟨a', c', B', by rw [hlen], ⟨xs ++ news, by rw [hlen]; exact k1, h2.append n1, fun v hv => ?_⟩, k2⟩, fun w hw => hw⟩
   rcases List.mem_append.1 hv with hv | hv
   · exact h3 v hv
   · exact laid_one m news n1 v hv
end
end Go.Proofs.YtbjkkoacclfejaaGreat
namespace Go.Proofs.YtbjkkoacclfejaaGreat
open Go.RowKit
variable {G : World} {P : Program} {n : Nat} {ρ : jp} {L : ja} {ty : TypeId} {Q : Exit → Act → World → Prop}
def UL (a : Option Addr) (c k sz : Nat) : Option Addr := if c = k then a else a.map (·.add (k * sz))
theorem UM {x lo : Operand} {a : Option Addr} {m c : Nat} {k : IntKind} {i : Int} {t e : TypeId} {sz bytes : Nat} {z : Value} (E : ElemTy P t e sz bytes z) (hx : ev ρ x = some (.slice a m c)) (hlo : ev ρ lo = some (.int k i)) (h0 : 0 ≤ i) (h1 : i ≤ m) :
 OpQ P ρ L (.slice t x (some lo) none none) ty (.slice (UL a c i.toNat sz) (m - i.toNat) (c - i.toNat)) :=
 ⟨fun r hr w hw o ho _ => by
   obtain ⟨inf, q2, q3, q4, q5⟩ := E.info
   simp [execOp, ho, hr _ _ hx, hr _ _ hlo, Instr.sliceAt, run_underlying E.und, Instr.slice, Instr.sliceBounds, Instr.sliceBound, asIntOf, h0, h1, sizeOf, typeInfo, q2, q4, UL]⟩
theorem UN {x lo hi : Operand} {a : Option Addr} {m c : Nat} {k k' : IntKind} {i j : Int} {t e : TypeId} {sz bytes : Nat} {z : Value} (E : ElemTy P t e sz bytes z) (hx : ev ρ x = some (.slice a m c)) (hlo : ev ρ lo = some (.int k i)) (hhi : ev ρ hi = some (.int k' j)) (h0 : 0 ≤ i) (h1 : i ≤ j) (h2 : j ≤ c) :
 OpQ P ρ L (.slice t x (some lo) (some hi) none) ty (.slice (UL a c i.toNat sz) (j.toNat - i.toNat) (c - i.toNat)) :=
 ⟨fun r hr w hw o ho _ => by
   obtain ⟨inf, q2, q3, q4, q5⟩ := E.info
   have h3 : 0 ≤ j := by omega
   have e1 : ((j.toNat : Nat) : Int) = j := by omega
   simp [execOp, ho, hr _ _ hx, hr _ _ hlo, hr _ _ hhi, Instr.sliceAt, run_underlying E.und, Instr.slice, Instr.sliceBounds, Instr.sliceBound, asIntOf, h0, h1, h2, h3, e1, sizeOf, typeInfo, q2, q4, UL]⟩
section
variable {α : Type} {r : Rp α} {sz : Nat}
theorem sliceR.take {a : Option Addr} {m c : Nat} {l : List α} (h : sliceR sz r L [.slice a m c] l) {k : Nat} (hk : k ≤ l.length) : sliceR sz r L [.slice a k c] (l.take k) := by
 obtain ⟨h1, h2, h3, h4⟩ := sliceR.cut h
 refine ⟨a, c, by rw [List.length_take, Nat.min_eq_left hk], by rw [List.length_take]; omega, h3, ?_⟩
 rcases h4 with rfl | ⟨b, off, C, te, fr, rfl, q2, q3⟩
 · left; simp
 · right
   refine ⟨b, off, C, te, fr, rfl, q2, fun i x hx => ?_⟩
   refine q3 i x ?_
   rw [List.getElem?_take] at hx
   split at hx
   · exact hx
   · cases hx
theorem sliceR.drop {a : Option Addr} {m c : Nat} {l : List α} (h : sliceR sz r L [.slice a m c] l) {k : Nat} (hk : k ≤ l.length) : sliceR sz r L [.slice (UL a c k sz) (m - k) (c - k)] (l.drop k) := by
 obtain ⟨h1, h2, h3, h4⟩ := sliceR.cut h
 refine ⟨UL a c k sz, c - k, by rw [List.length_drop, h1], by rw [List.length_drop]; omega, by omega, ?_⟩
 by_cases hkl : k = l.length
 · left; rw [hkl, List.drop_length]
 · rcases h4 with rfl | ⟨b, off, C, te, fr, rfl, q2, q3⟩
   · left; simp
   · right
     have hc : ¬ c = k := by omega
     refine ⟨b, off + k * sz, C, te, fr, by unfold UL; rw [if_neg hc]; simp [kH], q2, fun i x hx => ?_⟩
     rw [List.getElem?_drop] at hx
     obtain ⟨cs', k1, k2, k3⟩ := q3 (k + i) x hx
     refine ⟨cs', k1, k2, fun j v hj => ?_⟩
     rw [← k3 j v hj]
     congr 1
     rw [Nat.add_mul]
     omega
theorem sliceR.at {a : Option Addr} {m c : Nat} {l : List α} (h : sliceR sz r L [.slice a m c] l) {i : Nat} {x : α} (hx : l[i]? = some x) : ∃ b off C te fr, a = some ⟨b, off, none⟩ ∧ (b, Obj.cells C te fr) ∈ L ∧ ∃ cs, cs.length = sz ∧ r L cs x ∧ ∀ j v, cs[j]? = some v → C[off + i * sz + j]? = some v := by
 obtain ⟨_, _, _, h4⟩ := sliceR.cut h
 rcases h4 with rfl | ⟨b, off, C, te, fr, rfl, q2, q3⟩
 · simp at hx
 · exact ⟨b, off, C, te, fr, rfl, q2, q3 i x hx⟩
theorem sliceR.imp {r' : Rp α} {L' : ja} {cs : List Value} {l : List α} (h : sliceR sz r L cs l) (hL : ∀ p ∈ L, p ∈ L') (hr : ∀ cs x, x ∈ l → r L cs x → r' L' cs x) : sliceR sz r' L' cs l := by
 obtain ⟨a, cap, h1, h2, h3, h4⟩ := h
 refine ⟨a, cap, h1, h2, h3, h4.imp id ?_⟩
 rintro ⟨b, off, C, te, fr, q1, q2, q3⟩
 refine ⟨b, off, C, te, fr, q1, hL _ q2, fun i x hx => ?_⟩
 obtain ⟨cs', k1, k2, k3⟩ := q3 i x hx
 exact ⟨cs', k1, hr cs' x (List.mem_of_getElem? hx) k2, k3⟩
theorem Laid.imp {r' : Rp α} {L' : ja} : ∀ {l : List α} {xs : List Value}, Laid r sz L xs l → (∀ cs x, x ∈ l → r L cs x → r' L' cs x) → Laid r' sz L' xs l
 | [], _, h, _ => h
 | x :: l, _, ⟨c, ys, h1, h2, h3, h4⟩, hr => ⟨c, ys, h1, h2, hr c x (List.mem_cons_self ..) h3, Laid.imp h4 fun cs y hy => hr cs y (List.mem_cons_of_mem _ hy)⟩
theorem ORow.imp {r' : Rp α} {L' : ja} {e : TypeId} {a : Option Addr} {c : Nat} {l : List α} {B : ja} (h : ORow r e sz L a c l B) (hr : ∀ cs x, x ∈ l → r L cs x → r' L' cs x) : ORow r' e sz L' a c l B := by
 obtain ⟨xs, h1, h2, h3⟩ := h.ex
 exact ⟨xs, h1, h2.imp hr, h3⟩
theorem ORow.one {e : TypeId} {a : Option Addr} {c : Nat} {l : List α} {B : ja} (h : ORow r e sz L a c l B) : (a = none ∧ B = [] ∧ l = [] ∧ c = 0) ∨ ∃ b cur, a = some ⟨b, 0, none⟩ ∧ B = [(b, .cells cur e (0, 0))] ∧ cur.size = c * sz ∧ l.length ≤ c := by
 obtain ⟨xs, h1, h2, h3⟩ := h.ex
 rcases h1.is with ⟨q1, q2, q3⟩ | ⟨b, cap, cur, q1, q2, q3, q4, q5, q6⟩
 · obtain ⟨rfl, _, rfl⟩ := Value.slice.inj q1
   exact Or.inl ⟨rfl, q3, List.eq_nil_of_length_eq_zero q2, rfl⟩
 · obtain ⟨rfl, _, rfl⟩ := Value.slice.inj q1
   exact Or.inr ⟨b, cur, rfl, q2, q5, q3⟩
theorem ORow.cap {e : TypeId} {a : Option Addr} {c : Nat} {l : List α} {B : ja} (h : ORow r e sz L a c l B) : l.length ≤ c ∧ c ≤ maxLen := by
 obtain ⟨xs, h1, h2, h3⟩ := h.ex
 rcases h1.is with ⟨q1, q2, q3⟩ | ⟨b, cap, cur, q1, q2, q3, q4, q5, q6⟩
 · obtain ⟨rfl, _, rfl⟩ := Value.slice.inj q1
   exact ⟨by omega, by unfold maxLen; omega⟩
 · obtain ⟨rfl, _, rfl⟩ := Value.slice.inj q1
   exact ⟨q3, q4⟩
end
def Wr (N : ja) : Prop := ∀ p ∈ N, ∃ C te, p.2 = Obj.cells C te (0, 0)
theorem Wr.nil : Wr [] := fun p hp => absurd hp (by simp)
theorem Wr.append {A B : ja} (h : Wr A) (k : Wr B) : Wr (A ++ B) := fun p hp => (List.mem_append.1 hp).elim (h p) (k p)
theorem Wr.cons {b : Nat} {C : Array Value} {te : TypeId} {B : ja} (k : Wr B) : Wr ((b, .cells C te (0, 0)) :: B) := fun p hp => by
 rcases List.mem_cons.1 hp with rfl | hp
 · exact ⟨C, te, rfl⟩
 · exact k p hp
theorem ORow.wr {α : Type} {r : Rp α} {sz : Nat} {e : TypeId} {a : Option Addr} {c : Nat} {l : List α} {B : ja} (h : ORow r e sz L a c l B) : Wr B := by
 rcases h.one with ⟨_, rfl, _⟩ | ⟨b, cur, _, rfl, _⟩
 · exact Wr.nil
 · exact Wr.cons Wr.nil
theorem jy {ops : Array Oper} {l : List Oper} {L' : ja} (h : TL P G ops n ρ L' l Q) (hc : ∀ p, cnt p L' ≤ cnt p L) : TL P G ops n ρ L l Q := kU (fun w hw => hw.cnt hc) h
theorem jH {e : Exit} {L' : ja} (h : TQ G n ρ L' e Q) (hc : ∀ p, cnt p L' ≤ cnt p L) : TQ G n ρ L e Q := js (fun w hw => hw.cnt hc) h
theorem VE {c : Code} {L' : ja} (h : T P G n ρ L' c Q) (hc : ∀ p, cnt p L' ≤ cnt p L) : T P G n ρ L c Q := aa5 (fun w hw => hw.cnt hc) h
theorem kP {ops : Array Oper} {K : ja} {W : List Nat} {L' : ja} {fuel : Nat} {listed : Array Bool} (h : TA P G ops n K W Q fuel listed ρ L') (hc : ∀ p, cnt p L' = cnt p L) : TA P G ops n K W Q fuel listed ρ L :=
 Vy (fun w hw => hw.cnt fun p => Nat.le_of_eq (hc p)) (fun hk p hp => jS (fun q => Nat.le_of_eq (hc q)) p (hk p hp)) h
theorem QM {α : Type} {r : Rp α} {sz : Nat} {s x : Operand} {t e : TypeId} {bytes j k : Nat} {z : Value} {a a2 : Option Addr} {c c2 : Nat} {l m : List α} {B L0 : ja} (E : ElemTy P t e sz bytes z) (hs : ev ρ s = some (.slice a j c)) (hx : ev ρ x = some (.slice a2 k c2)) (hj : j = l.length) (hk : k = m.length)
 (hrow : ORow r e sz L0 a c l B) (hr : sliceR sz r L0 [.slice a2 m.length c2] m) (hr2 : ∀ q ∈ L0, q ∈ L) (hm : ue r) (hone : ∀ cs y, r L0 cs y → ∀ v ∈ cs, v.oneCell' = true) (h63 : l.length + m.length ≤ 1000000) (hb : bytes ≤ 1000) :
 OpT P G ρ (B ++ L) (.call ⟨.builtin .append, #[s, x], #[t, t]⟩) ty fun v' L' => ∃ a' c' B', v' = .slice a' (l ++ m).length c' ∧ ORow r e sz L0 a' c' (l ++ m) B' ∧ L' = B' ++ L := by
 subst hj hk
 obtain ⟨xs, h1, h2, h3⟩ := hrow.ex
 have hlen : (l ++ m).length = l.length + m.length := by simp
 have h63' : l.length + m.length ≤ maxLen := by unfold maxLen; omega
 have hby : (l.length + m.length) * bytes ≤ 140737488355328 := Nat.le_trans (Nat.mul_le_mul h63 hb) (by decide)
 have laid_one : ∀ (m : List α) (news : List Value), Laid r sz L0 news m → ∀ v ∈ news, v.oneCell' = true := by
  intro m
  induction m with
  | nil => intro news h v hv; rw [show news = [] from h] at hv; simp at hv
  | cons y m ih =>
    rintro _ ⟨d, ys, rfl, _, q2, q3⟩ v hv
    rcases List.mem_append.1 hv with hv | hv
    · exact hone d y q2 v hv
    · exact ih ys q3 v hv
 obtain ⟨_, _, _, hc⟩ := sliceR.cut hr
 rcases hc with rfl | ⟨b, off, C, te, fr, rfl, q2, q3⟩
 · refine (Jf E hs hx h1 h63' hby).post fun v' M ⟨B', k1, k2⟩ => ?_
   obtain ⟨a', c', rfl⟩ := k1.slice
   refine ⟨M, ⟨a', c', B', by rw [hlen]; rfl, ⟨xs, ?_, by simpa using h2, h3⟩, k2⟩, fun w hw => hw⟩
   simpa using k1
 · obtain ⟨news, n1, n2⟩ := K2 m off q3
   refine (uQ E hs hx h1 ⟨n1.len, laid_one m news n1, Or.inr ⟨b, off, c2, C, te, fr, rfl, hr2 _ q2, n2⟩⟩ h63' hby).post fun v' M ⟨B', k1, k2⟩ => ?_
   obtain ⟨a', c', rfl⟩ := k1.slice
   refine ⟨M, ⟨a', c', B', by rw [hlen], ⟨xs ++ news, by rw [hlen]; exact k1, h2.append n1, fun v hv => ?_⟩, k2⟩, fun w hw => hw⟩
   rcases List.mem_append.1 hv with hv | hv
   · exact h3 v hv
   · exact laid_one m news n1 v hv
end Go.Proofs.YtbjkkoacclfejaaGreat
namespace Go.Proofs.YtbjkkoacclfejaaGreat
open Go.RowKit
variable {G : World} {P : Program} {n : Nat} {ρ : jp} {L : ja} {ty : TypeId} {Q : Exit → Act → World → Prop}
def Mid {σ : Type} (G : World) (n : Nat) (I : σ → Prop) (ρI : σ → jp) (LI : σ → ja) (a : Act) (w : World) : Prop := ∃ x, I x ∧ Env n (ρI x) a ∧ Heap G w (LI x)
theorem QN {σ : Type} {x y : Code} (I : σ → Prop) (ρI : σ → jp) (LI : σ → ja) (hx : T P G n ρ L x (Exit.then (Mid G n I ρI LI) Q)) (hy : ∀ s, I s → T P G n (ρI s) (LI s) y Q) : T P G n ρ L (.seq x y) Q :=
 jU (KW hx fun e a w h => by
  cases e with
  | normal =>
    obtain ⟨s, h1, h2, h3⟩ := h
    exact (hy s h1).out a w h2 h3
  | _ => exact h)
theorem kw {σ : Type} {I : σ → Prop} {ρI : σ → jp} {LI : σ → ja} (x : σ) (hI : I x) (hs : Sub (ρI x) ρ) (hl : ∀ w, Heap G w L → Heap G w (LI x)) : TQ G n ρ L .normal (Exit.then (Mid G n I ρI LI) Q) :=
 ⟨fun a w he hw => ⟨x, hI, he.weak hs.get, hl w hw⟩⟩
end Go.Proofs.YtbjkkoacclfejaaGreat
namespace Go.Proofs.YtbjkkoacclfejaaGreat
open Go.RowKit
theorem jg {p : Prop} (h : p := by kernel_rfl) : p := h
theorem jf {p : Prop} (h : p := by omega) : p := h
theorem zK {p : Prop} (h : p := by first | assumption | rfl) : p := h
theorem jl {p : Prop} (h : p := by intro p; (try simp only [kD, j8, zR]) <;> omega) : p := h
theorem jt {A B : ja} (h : ∀ p, cnt p A ≤ cnt p B := by intro p; (try simp only [kD, j8, zR]) <;> omega) : ∀ p ∈ A, p ∈ B := jS h
theorem zL {p : Prop} (h : p := by first | assumption | with_reducible rfl | omega) : p := h
theorem adq {p : Prop} (h : p := by first | assumption | (apply dT; (· exact zL)) | (apply dF; (· exact zL)) | (apply eT; (· exact zL)) | (apply eF; (· exact zL)) | (apply nT; (· exact zL)) | (apply nF; (· exact zL))) : p := h
theorem jQ {p : Prop} (h : p := by first | with_reducible rfl | assumption | exact Bool.not_false | exact Bool.not_true | (apply dT; (· exact zL)) | (apply dF; (· exact zL)) | (apply eT; (· exact zL)) | (apply eF; (· exact zL)) | (apply nT; (· exact zL)) | (apply nF; (· exact zL)) | (apply xT; exact adq) | (apply xF; exact adq)) : p := h
theorem u3 {p : Prop} (h : p := by first | with_reducible rfl | assumption | exact Bool.not_false | exact Bool.not_true) : p := h
theorem JV {p : Prop} (h : p := by repeat (first | assumption | exact List.mem_cons_self | (apply List.mem_append_left; first | assumption | exact List.mem_cons_self) | apply List.mem_cons_of_mem | apply List.mem_append_right)) : p := h
theorem jv {p : Prop} (h : p := by repeat (first | exact trivial | refine ⟨rfl, ?_⟩)) : p := h
section
variable {P : Program} {G : World} {n : Nat} {ρ : jp} {L : ja} {op : Op} {ty : TypeId} {v : Value} {Q : Exit → Act → World → Prop} {ops : Array Oper}
theorem aeC {o : BinOp} {t : TypeId} {a b : Value} (h : Bin P o t a b v := by first | (apply ZD; (· exact ⟨jf, jf⟩)) | (apply ZE; (· exact ⟨jf, jf⟩)) | (apply ZF; (· exact ⟨jf, jf⟩)) | (apply ZG; (· omega); (· omega); (· exact ⟨jf, jf⟩)) | (apply ZH; (· omega); (· omega)) | (apply ZI) | (apply ZJ) | (apply ZK) | (apply ZL) | (apply ZM) | (apply ZN) | (apply WT) | (apply WU) | (apply WV) | (apply WW) | (apply WX; first | omega | (simp only [List.length_cons, List.length_nil]; omega)) | (apply WY; (· exact unO)) | (apply WZ; (· exact unO)) | (apply Qv; (· exact unO)) | (apply W0; (· exact unO)) | (apply Ya; (· exact unO))) : Bin P o t a b v := h
theorem qR  (h : OpQ P ρ L op ty v := by first | (apply uO; (· exact rfl)) | (apply yM; (· exact rfl)) | (apply ub; (· exact rfl); (· exact KX)) | (apply Vz; (· exact rfl); (· exact plO); (· exact JV); (· exact zK)) | (apply qp; (· exact rfl); (· exact rfl); (· exact aeC)) | (apply aa9; (· exact etO); (· exact rfl); (· exact rfl); (· omega)) | (apply ZT; (· exact etO); (· exact rfl); (· exact rfl); (· omega); (· omega)) | (apply KP; (· exact rfl); (· exact unO)) | (apply UC; (· exact rfl); (· exact unO)) | (apply zj; (· exact rfl)) | (apply WS; (· exact rfl)) | (apply UB; (· exact rfl); (· exact rfl)) | (apply Qw; (· exact rfl); (· exact unO); (· exact unO); (· exact ⟨jf, jf⟩)) | (apply Qx; (· exact rfl); (· exact unO); (· exact unO)) | (apply KN; (· exact rfl); (· exact unO); (· exact unO)) | (apply aba; (· exact rfl); (· exact rfl)) | (apply abb; (· exact rfl); (· exact rfl)) | (apply KQ; (· exact rfl); (· exact rfl); (· exact unO); (· omega); (· exact zK)) | (apply ZW; (· exact arO); (· exact rfl); (· exact rfl); (· omega); (· omega)) | (apply KT; (· exact rfl); (· exact rfl); (· exact rfl); (· exact unO); (· omega); (· omega); (· omega)) | (apply JQ; (· exact rfl); (· exact rfl); (· exact unO); (· omega); (· omega)) | (apply QD; (· exact etO); (· exact rfl); (· exact rfl); (· omega); (· omega)) | (apply UM; (· exact etO); (· exact rfl); (· exact rfl); (· omega); (· omega)) | (apply UN; (· exact etO); (· exact rfl); (· exact rfl); (· exact rfl); (· omega); (· omega); (· omega)) | (apply yp; (· exact rfl); (· exact stO); (· exact JV); (· exact zK)) | (apply aa8; (· exact rfl); (· exact ⟨jf, jf⟩))) : OpQ P ρ L op ty v := h
theorem qqQ {K : ja} {o : Oper} (h : Quiet P G ops K ρ o v := by first | (apply jJ; (· exact qR)) | (apply jJ; (apply jV; (· exact rfl); (· exact jQ); (· exact rfl))) | (apply jJ; (apply jR; (· exact rfl); (· exact jQ); (· exact rfl))) | (apply kZ; (· exact rfl); (· exact rfl); (· exact jQ); (· exact qR)) | (apply kZ; (· exact rfl); (· exact rfl); (· exact jQ); (apply jV; (· exact rfl); (· exact jQ); (· exact rfl))) | (apply kZ; (· exact rfl); (· exact rfl); (· exact jQ); (apply jR; (· exact rfl); (· exact jQ); (· exact rfl))) | (apply V5; (· exact rfl); (· exact rfl); (· exact jQ)) | (apply QB; (· exact rfl); (· exact rfl))) : Quiet P G ops K ρ o v := h
theorem tkQ {K : ja} {W : List Nat} {fuel : Nat} {listed : Array Bool} (i : Nat) {d : Nat} {oi : Oper} (h : TA P G ops n K W Q fuel (listed.setIfInBounds i true) ((d, v) :: ρ) L) (hi : ops[i]? = some oi := by rfl) (hd : oi.dst = some d := by rfl) (ht : QA ops W n listed i d = true := by kernel_rfl)
 (hq : Quiet P G ops K ρ oi v := by exact qqQ) (hK : ∀ p ∈ K, p ∈ L := by first | assumption | (intro p hp; grind)) : TA P G ops n K W Q (fuel + 1) listed ρ L := jz i hi hd ht hq hK h
theorem tdQ {K : ja} {W : List Nat} {fuel : Nat} {listed : Array Bool} (h : TQ G n ρ L .normal Q) (hr : Region.ready .any ops listed = [] := by kernel_rfl) : TA P G ops n K W Q fuel listed ρ L := zN hr h
theorem j5 {d : Nat} {pos : String} {after : Array Edge} {rest : List Oper} {mk : Nat → Value} {ob : Obj} (hr : ∀ b, TL P G ops n ((d, mk b) :: ρ) ((b, ob) :: L) rest Q) (h : OpNew P G ρ L op ty mk ob := by first | (apply V6; exact zeO) | (apply kt; (· exact zeO); (· exact rfl))) (hd : Nat.blt d n = true := by exact rfl) :
 TL P G ops n ρ L (⟨some d, op, ty, pos, after, none⟩ :: rest) Q := jP h hd hr
theorem kK {d : Nat} {pos : String} {after : Array Edge} {rest : List Oper} {mk : Nat → Value} {ob : Obj} (hr : ∀ b, TL P G ops n ((d, mk b) :: ρ) ((b, ob) :: L) rest Q) (h : OpNew P G ρ L op ty mk ob := by first | (apply kE; exact rfl) | (apply UE; (· exact rfl); (· exact rfl))) (hd : Nat.blt d n = true := by exact rfl) :
 TL P G ops n ρ L (⟨some d, op, ty, pos, after, none⟩ :: rest) Q := jP h hd hr
theorem uf {d : Nat} {pos : String} {after : Array Edge} {rest : List Oper} {mk : Nat → Value} {ob : Obj} (hr : ∀ b, TL P G ops n ((d, mk b) :: ρ) ((b, ob) :: L) rest Q) (h : OpNew P G ρ L op ty mk ob := by first | (apply K1; (· exact etO); (· exact rfl); (· exact rfl); (· decide)) | (apply KV; (· exact etO); (· exact rfl); (· exact rfl))) (hd : Nat.blt d n = true := by exact rfl) :
 TL P G ops n ρ L (⟨some d, op, ty, pos, after, none⟩ :: rest) Q := jP h hd hr
end
theorem goA {P Q : Prop} (k : Q) (run : Hd Q → P := by intro k; (repeat1' (first | with_reducible apply kL | with_reducible apply qo | (apply ju; (· exact qR); (· exact rfl)) | with_reducible apply jI | with_reducible apply jU | with_reducible apply qt | with_reducible apply kY | with_reducible apply qD | with_reducible apply qi | with_reducible apply qZ | with_reducible apply ye | with_reducible apply kd | with_reducible apply kq | with_reducible apply jN | with_reducible apply j3 | with_reducible apply ke | with_reducible apply j0 | with_reducible apply qv | (apply j4; (· decide)) | (apply ju; (· apply jV; (· exact rfl); (· exact jQ); (· exact rfl)); (· exact rfl)) | (apply ju; (· apply jR; (· exact rfl); (· exact jQ); (· exact rfl)); (· exact rfl)) | (apply ky; (· exact rfl); (· exact rfl); (· exact jQ)) | (apply jA; (· exact qR); (· exact rfl)) | (apply jA; (· apply jV; (· exact rfl); (· exact jQ); (· exact rfl)); (· exact rfl)) | (apply jA; (· apply jR; (· exact rfl); (· exact jQ); (· exact rfl)); (· exact rfl)) | (apply ua; (· exact rfl); (· exact rfl); (· exact jQ); (· exact rfl)) | (apply kS; (· exact rfl); (· exact rfl); (· exact rfl)) | (apply qk; (· exact rfl); (· exact rfl); (· exact stO); (· exact rfl); (· exact rfl); (· exact rfl)) | (apply qJ; (· exact rfl); (· exact rfl); (· exact onO); (· exact rfl); (· exact zK); (· exact rfl)) | (apply yl; (· exact rfl); (· exact jQ)) | (apply JS; (· exact rfl); (· exact jQ)))); exact k.out) : P := run ⟨k⟩
theorem goB {P Q : Prop} (k : Q) (run : Hd Q → P := by intro k; (repeat1' (first | with_reducible apply kL | with_reducible apply qo | (apply ju; (· exact qR); (· exact rfl)) | with_reducible apply jI | with_reducible apply jU | with_reducible apply qt | with_reducible apply kY | with_reducible apply qD | with_reducible apply qi | with_reducible apply qZ | with_reducible apply ye | with_reducible apply kd | with_reducible apply kq | with_reducible apply jN | with_reducible apply j3 | with_reducible apply ke | with_reducible apply j0 | with_reducible apply qv | (apply j4; (· decide)) | (apply ju; (· apply jV; (· exact rfl); (· exact jQ); (· exact rfl)); (· exact rfl)) | (apply ju; (· apply jR; (· exact rfl); (· exact jQ); (· exact rfl)); (· exact rfl)) | (apply ky; (· exact rfl); (· exact rfl); (· exact jQ)) | (apply jA; (· exact qR); (· exact rfl)) | (apply jA; (· apply jV; (· exact rfl); (· exact jQ); (· exact rfl)); (· exact rfl)) | (apply jA; (· apply jR; (· exact rfl); (· exact jQ); (· exact rfl)); (· exact rfl)) | (apply ua; (· exact rfl); (· exact rfl); (· exact jQ); (· exact rfl)) | (apply kS; (· exact rfl); (· exact rfl); (· exact rfl)) | (apply qk; (· exact rfl); (· exact rfl); (· exact stO); (· exact rfl); (· exact rfl); (· exact rfl)) | (apply qJ; (· exact rfl); (· exact rfl); (· exact onO); (· exact rfl); (· exact zK); (· exact rfl)) | (apply W7; (· exact rfl); (· exact rfl); (· exact onO); (· exact rfl); (· exact zK); (· exact rfl)) | (apply yl; (· exact rfl); (· exact jQ)) | (apply JS; (· exact rfl); (· exact jQ)))); exact k.out) : P := run ⟨k⟩
theorem goC {P Q : Prop} (k : Q) (run : Hd Q → P := by intro k; (repeat1' (first | with_reducible apply kL | with_reducible apply qo | (apply ju; (· exact qR); (· exact rfl)) | with_reducible apply jI | with_reducible apply jU | with_reducible apply qt | with_reducible apply kY | with_reducible apply qD | with_reducible apply qi | with_reducible apply qZ | with_reducible apply ye | with_reducible apply kd | with_reducible apply kq | with_reducible apply jN | with_reducible apply j3 | with_reducible apply ke | with_reducible apply j0 | with_reducible apply qv | (apply j4; (· decide)) | (apply ju; (· apply jV; (· exact rfl); (· exact u3); (· exact rfl)); (· exact rfl)) | (apply ju; (· apply jR; (· exact rfl); (· exact u3); (· exact rfl)); (· exact rfl)) | (apply ky; (· exact rfl); (· exact rfl); (· exact u3)) | (apply jA; (· exact qR); (· exact rfl)) | (apply jA; (· apply jV; (· exact rfl); (· exact u3); (· exact rfl)); (· exact rfl)) | (apply jA; (· apply jR; (· exact rfl); (· exact u3); (· exact rfl)); (· exact rfl)) | (apply ua; (· exact rfl); (· exact rfl); (· exact u3); (· exact rfl)) | (apply kS; (· exact rfl); (· exact rfl); (· exact rfl)) | (apply qk; (· exact rfl); (· exact rfl); (· exact stO); (· exact rfl); (· exact rfl); (· exact rfl)) | (apply qJ; (· exact rfl); (· exact rfl); (· exact onO); (· exact rfl); (· exact zK); (· exact rfl)) | (apply yl; (· exact rfl); (· exact u3)) | (apply JS; (· exact rfl); (· exact u3)))); exact k.out) : P := run ⟨k⟩
theorem goD {P Q : Prop} (k : Q) (run : Hd Q → P := by intro k; (repeat1' (first | with_reducible apply kL | with_reducible apply qo | (apply ju; (· exact qR); (· exact rfl)) | with_reducible apply jI | with_reducible apply jU | with_reducible apply qt | with_reducible apply kY | with_reducible apply qD | with_reducible apply qi | with_reducible apply qZ | with_reducible apply ye | with_reducible apply kd | with_reducible apply kq | with_reducible apply jN | with_reducible apply j3 | with_reducible apply ke | with_reducible apply j0 | with_reducible apply qv | (apply j4; (· decide)) | (apply ju; (· apply jV; (· exact rfl); (· exact u3); (· exact rfl)); (· exact rfl)) | (apply ju; (· apply jR; (· exact rfl); (· exact u3); (· exact rfl)); (· exact rfl)) | (apply ky; (· exact rfl); (· exact rfl); (· exact u3)) | (apply jA; (· exact qR); (· exact rfl)) | (apply jA; (· apply jV; (· exact rfl); (· exact u3); (· exact rfl)); (· exact rfl)) | (apply jA; (· apply jR; (· exact rfl); (· exact u3); (· exact rfl)); (· exact rfl)) | (apply ua; (· exact rfl); (· exact rfl); (· exact u3); (· exact rfl)) | (apply kS; (· exact rfl); (· exact rfl); (· exact rfl)) | (apply qk; (· exact rfl); (· exact rfl); (· exact stO); (· exact rfl); (· exact rfl); (· exact rfl)) | (apply qJ; (· exact rfl); (· exact rfl); (· exact onO); (· exact rfl); (· exact zK); (· exact rfl)) | (apply W7; (· exact rfl); (· exact rfl); (· exact onO); (· exact rfl); (· exact zK); (· exact rfl)) | (apply yl; (· exact rfl); (· exact u3)) | (apply JS; (· exact rfl); (· exact u3)))); exact k.out) : P := run ⟨k⟩
theorem goE {P Q : Prop} (k : Q) (run : Hd Q → P := by intro k; (repeat1' (first | with_reducible apply kL | with_reducible apply qo | (apply ju; (· exact qR); (· exact rfl)) | with_reducible apply jI | with_reducible apply jU | with_reducible apply qt | with_reducible apply kY | with_reducible apply qD | with_reducible apply qi | with_reducible apply qZ | with_reducible apply ye | with_reducible apply kd | with_reducible apply kq | with_reducible apply jN | with_reducible apply j3 | with_reducible apply ke | with_reducible apply j0 | with_reducible apply qv | (apply j4; (· decide)) | (apply ju; (· apply jV; (· exact rfl); (· exact jQ); (· exact rfl)); (· exact rfl)) | (apply ju; (· apply jR; (· exact rfl); (· exact jQ); (· exact rfl)); (· exact rfl)) | (apply ky; (· exact rfl); (· exact rfl); (· exact jQ)) | (apply jA; (· exact qR); (· exact rfl)) | (apply jA; (· apply jV; (· exact rfl); (· exact jQ); (· exact rfl)); (· exact rfl)) | (apply jA; (· apply jR; (· exact rfl); (· exact jQ); (· exact rfl)); (· exact rfl)) | (apply ua; (· exact rfl); (· exact rfl); (· exact jQ); (· exact rfl)) | (apply kS; (· exact rfl); (· exact rfl); (· exact rfl)) | (apply qk; (· exact rfl); (· exact rfl); (· exact stO); (· exact rfl); (· exact rfl); (· exact rfl)) | (apply yl; (· exact rfl); (· exact jQ)) | (apply JS; (· exact rfl); (· exact jQ)))); exact k.out) : P := run ⟨k⟩
theorem goF {P Q : Prop} (k : Q) (run : Hd Q → P := by intro k; (repeat1' (first | with_reducible apply kL | with_reducible apply qo | (apply ju; (· exact qR); (· exact rfl)) | with_reducible apply jI | with_reducible apply qt | with_reducible apply kY | with_reducible apply qD | with_reducible apply qi | with_reducible apply qZ | with_reducible apply ye | with_reducible apply kd | with_reducible apply kq | with_reducible apply jN | with_reducible apply j3 | with_reducible apply ke | with_reducible apply j0 | with_reducible apply qv | (apply j4; (· decide)) | (apply ju; (· apply jV; (· exact rfl); (· exact jQ); (· exact rfl)); (· exact rfl)) | (apply ju; (· apply jR; (· exact rfl); (· exact jQ); (· exact rfl)); (· exact rfl)) | (apply ky; (· exact rfl); (· exact rfl); (· exact jQ)) | (apply jA; (· exact qR); (· exact rfl)) | (apply jA; (· apply jV; (· exact rfl); (· exact jQ); (· exact rfl)); (· exact rfl)) | (apply jA; (· apply jR; (· exact rfl); (· exact jQ); (· exact rfl)); (· exact rfl)) | (apply ua; (· exact rfl); (· exact rfl); (· exact jQ); (· exact rfl)) | (apply kS; (· exact rfl); (· exact rfl); (· exact rfl)) | (apply qk; (· exact rfl); (· exact rfl); (· exact stO); (· exact rfl); (· exact rfl); (· exact rfl)) | (apply qJ; (· exact rfl); (· exact rfl); (· exact onO); (· exact rfl); (· exact zK); (· exact rfl)) | (apply yl; (· exact rfl); (· exact jQ)) | (apply JS; (· exact rfl); (· exact jQ)))); exact k.out) : P := run ⟨k⟩
theorem UO {P : Program} {ρ : jp} {L : ja} {op : Op} {ty : TypeId} {v : Value} (h : OpQ P ρ L op ty v := by apply jo; (· exact rfl); (· first | exact zm _ _ _ | exact J2 _ _ | exact kO _ _ _ _ _ _ _ _ _ _ | exact abd | exact KY | exact J3 _ _ _ _ | exact ux _ _ _ _ _ _ _ | exact VC _ _ _ | exact ud | exact zP _ _ _ | exact VD _ | exact qK _ _ _ _ _ _ _ _ _ _ _ _ | exact ql _ _ _ _ _ | exact ZY _ _ _ | exact KZ | exact yq _ _ _ | exact uy _ _ _ _ _ _ | exact QG _ | exact uz _ _ _ _ _ _ _ | exact W9 _ | exact K0 | exact QH _ | exact Jd _ _ | exact QI _ | exact zQ | exact u6 _ _ _ _ | exact uA _ _ _ _ _ _ _ _ _ _ | exact QJ _ _ _ _ _)) : OpQ P ρ L op ty v := h
end Go.Proofs.YtbjkkoacclfejaaGreat
namespace Go.Proofs.YtbjkkoacclfejaaGreat.Nm
abbrev Bytes := List UInt8
def QO : Nat → Bytes → Option (List Bytes)
 | 0, _ => none
 | _ + 1, [] => none
 | f + 1, c :: t =>
   if c = 0 then (if t = [] then some [] else none)
   else if 63 < c.toNat then none
   else if t.length < c.toNat then none
   else (QO f (t.drop c.toNat)).map (t.take c.toNat :: ·)
theorem J4 : ∀ (f g : Nat) (l : Bytes), l.length ≤ f → l.length ≤ g → QO f l = QO g l
 | 0, 0, _, _, _ => rfl
 | 0, g + 1, l, h, _ => by
   cases l with
   | nil => rfl
   | cons c t => simp at h
 | f + 1, 0, l, _, h => by
   cases l with
   | nil => rfl
   | cons c t => simp at h
 | f + 1, g + 1, [], _, _ => rfl
 | f + 1, g + 1, c :: t, h1, h2 => by
   have e1 : (t.drop c.toNat).length ≤ f := by simp at h1 ⊢; omega
   have e2 : (t.drop c.toNat).length ≤ g := by simp at h2 ⊢; omega
   simp only [QO]
   rw [J4 f g _ e1 e2]
theorem V7 (f : Nat) (l : Bytes) (h : l.length ≤ f) : QO f l = QO l.length l := J4 f _ l h (Nat.le_refl _)
def lbl (l : Bytes) : Option (List Bytes) := QO l.length l
theorem Z0 : lbl [] = none := rfl
theorem lbl_cons (c : UInt8) (t : Bytes) : lbl (c :: t) =
 if c = 0 then (if t = [] then some [] else none)
 else if 63 < c.toNat then none
 else if t.length < c.toNat then none
 else (lbl (t.drop c.toNat)).map (t.take c.toNat :: ·) := by
 unfold lbl
 simp only [QO, List.length_cons]
 rw [V7 t.length (t.drop c.toNat) (by simp)]
def nm (l : Bytes) : Option (List Bytes) := if l.length ≤ 255 then lbl l else none
def may (l : Bytes) : Bool := (nm l).isSome
def lowB (c : UInt8) : UInt8 := if 65 ≤ c ∧ c ≤ 90 then c + 32 else c
def low (l : Bytes) : Bytes := l.map lowB
def enc : List Bytes → Bytes
 | [] => [0]
 | l :: ls => UInt8.ofNat l.length :: (l ++ enc ls)
def Ok (ls : List Bytes) : Prop := ∀ l ∈ ls, 1 ≤ l.length ∧ l.length ≤ 63
theorem abe : Ok [] := by intro l h; cases h
theorem ok_cons {l : Bytes} {ls : List Bytes} : Ok (l :: ls) ↔ (1 ≤ l.length ∧ l.length ≤ 63) ∧ Ok ls := by
 unfold Ok; simp
theorem ug (ls : List Bytes) : (enc ls).length = (ls.map fun l => l.length + 1).sum + 1 := by
 induction ls with
 | nil => rfl
 | cons l ls ih => simp [enc, ih]; omega
theorem zT : ∀ ls : List Bytes, Ok ls → lbl (enc ls) = some ls
 | [], _ => by simp [enc, lbl_cons]
 | l :: ls, h => by
   obtain ⟨⟨h1, h2⟩, h3⟩ := ok_cons.1 h
   have e : (UInt8.ofNat l.length).toNat = l.length := by simp; omega
   have n0 : ¬ UInt8.ofNat l.length = 0 := by
    intro k
    have := congrArg UInt8.toNat k
    rw [e] at this
    simp at this
    subst this
    simp at h1
   simp only [enc]
   rw [lbl_cons, if_neg n0, e, if_neg jf, if_neg (by simp)]
   simp [zT ls h3]
theorem QP : ∀ (n : Nat) (l : Bytes) (ls : List Bytes), l.length ≤ n → lbl l = some ls → l = enc ls ∧ Ok ls
 | _, [], _, _, h => by simp [Z0] at h
 | 0, _ :: _, _, h, _ => by simp at h
 | n + 1, c :: t, ls, hl, h => by
   rw [lbl_cons] at h
   split at h
   · rename_i hc
     split at h
     · rename_i ht
       cases h
       subst hc ht
       exact ⟨rfl, abe⟩
     · cases h
   · rename_i hc
     split at h
     · cases h
     · rename_i h63
       split at h
       · cases h
       · rename_i hlen
         have hd : (t.drop c.toNat).length ≤ n := by simp at hl ⊢; omega
         cases hr : lbl (t.drop c.toNat) with
         | none => simp [hr] at h
         | some ls' =>
           simp [hr] at h
           subst h
           obtain ⟨h1, h2⟩ := QP n _ _ hd hr
           have hc1 : 1 ≤ c.toNat := by
            rcases Nat.eq_zero_or_pos c.toNat with h0 | h0
            · exact absurd (UInt8.toNat_inj.1 (by simpa using h0)) hc
            · exact h0
           have ht : (t.take c.toNat).length = c.toNat := by simp; omega
           refine ⟨?_, ok_cons.2 ⟨by omega, h2⟩⟩
           simp only [enc, ht, ← h1, List.take_append_drop]
           congr 1
           exact UInt8.toNat_inj.1 (by simp)
theorem Z1 {l : Bytes} {ls : List Bytes} : lbl l = some ls ↔ l = enc ls ∧ Ok ls :=
 ⟨fun h => QP l.length l ls (Nat.le_refl _) h, fun h => by rw [h.1]; exact zT ls h.2⟩
theorem nm_iff {l : Bytes} {ls : List Bytes} : nm l = some ls ↔ l = enc ls ∧ Ok ls ∧ l.length ≤ 255 := by
 unfold nm
 split
 · rename_i h; rw [Z1]; simp [h]
 · rename_i h; simp [h]
theorem Z2 {a b : List Bytes} (ha : Ok a) (hb : Ok b) (h : enc a = enc b) : a = b := by
 have h1 := zT a ha
 rw [h, zT b hb] at h1
 exact (Option.some.inj h1).symm
theorem low_length (l : Bytes) : (low l).length = l.length := by simp [low]
theorem Jg (c : UInt8) (h : c.toNat < 65) : lowB c = c := by
 unfold lowB
 rw [if_neg]
 rintro ⟨h1, _⟩
 have := UInt8.le_iff_toNat_le.1 h1
 simp at this
 omega
def lowL (ls : List Bytes) : List Bytes := ls.map low
theorem VF {ls : List Bytes} (h : Ok ls) : Ok (lowL ls) := by
 intro l hl
 obtain ⟨x, hx, rfl⟩ := List.mem_map.1 hl
 rw [low_length]
 exact h x hx
theorem K3 : ∀ ls : List Bytes, Ok ls → low (enc ls) = enc (lowL ls)
 | [], _ => by simp [enc, low, lowL, Jg]
 | l :: ls, h => by
   obtain ⟨⟨h1, h2⟩, h3⟩ := ok_cons.1 h
   have ih := K3 ls h3
   have e : (UInt8.ofNat l.length).toNat = l.length := by simp; omega
   have e1 : lowB (UInt8.ofNat l.length) = UInt8.ofNat l.length := Jg _ (by rw [e]; omega)
   have : low (enc (l :: ls)) = lowB (UInt8.ofNat l.length) :: (low l ++ low (enc ls)) := by
    simp [enc, low]
   rw [this, e1, ih]
   simp [enc, lowL, low_length]
def fold (n : Bytes) : Bytes := if may n then low n else []
def labels (n : Bytes) : List Bytes := (nm n).getD []
def ad2 (n : Bytes) : Bytes := match nm n with | some (_ :: ls) => enc ls | _ => []
def ad3 (n : Bytes) : Bool := match nm n with | some (_ :: _) => true | _ => false
def same (a b : Bytes) : Bool := may a && may b && (low a == low b)
def within (n z : Bytes) : Bool :=
 match nm n, nm z with
 | some a, some b => (lowL b).isSuffixOf (lowL a)
 | _, _ => false
theorem nm_of_may {n : Bytes} (h : may n = true) : ∃ ls, nm n = some ls := Option.isSome_iff_exists.1 h
theorem yu (a b : List Bytes) : (enc (a ++ b)).length = (a.map fun l => l.length + 1).sum + (enc b).length := by
 rw [ug, ug]; simp; omega
theorem un (a : List Bytes) : (enc (lowL a)).length = (enc a).length := by
 rw [ug, ug]
 simp only [lowL, List.map_map]
 congr 2
 exact List.map_congr_left fun l _ => by simp [low]
def Upto (a a2 : List Bytes) (zl : Nat) : Prop := (∃ a1, a = a1 ++ a2) ∧ ∀ x y, a = x ++ y → a2.length < y.length → zl < (enc y).length
theorem Upto.start (a : List Bytes) (zl : Nat) : Upto a a zl := by
 refine ⟨⟨[], rfl⟩, fun x y h hl => ?_⟩
 rw [h] at hl
 simp at hl
 omega
theorem Upto.step {a a2 : List Bytes} {l : Bytes} {zl : Nat} (h : Upto a (l :: a2) zl) (hz : zl < (enc (l :: a2)).length) : Upto a a2 zl := by
 obtain ⟨⟨a1, h1⟩, h2⟩ := h
 refine ⟨⟨a1 ++ [l], by simp [h1]⟩, fun x y hxy hl => ?_⟩
 by_cases hq : (l :: a2).length < y.length
 · exact h2 x y hxy hq
 · have hlen : y.length = (l :: a2).length := by simp at hq ⊢; omega
   have : y = l :: a2 := by
    have e := hxy.symm.trans h1
    exact (List.append_inj' e hlen).2
   rw [this]
   exact hz
theorem Upto.fin {a a2 b : List Bytes} (ha : Ok a) (hb : Ok b) (h : Upto a a2 (enc b).length) (hle : (enc a2).length ≤ (enc b).length) :
 (lowL b).isSuffixOf (lowL a) = (low (enc a2) == low (enc b)) := by
 obtain ⟨⟨a1, h1⟩, h2⟩ := h
 have ha2 : Ok a2 := fun l hl => ha l (by rw [h1]; exact List.mem_append_right _ hl)
 rw [Bool.eq_iff_iff, List.isSuffixOf_iff_suffix, beq_iff_eq, K3 _ ha2, K3 _ hb]
 constructor
 · rintro ⟨x', hx⟩
   have hal : (lowL a).length = a.length := by simp [lowL]
   have hbl : (lowL b).length = b.length := by simp [lowL]
   have hn : x'.length + b.length = a.length := by
    have := congrArg List.length hx
    simp [hbl, hal] at this
    exact this
   have hy : lowL (a.drop x'.length) = lowL b := by
    have e : lowL a = lowL (a.take x'.length) ++ lowL (a.drop x'.length) := by
     simp only [lowL, ← List.map_append, List.take_append_drop]
    rw [e] at hx
    refine ((List.append_inj' hx ?_).2).symm
    simp [lowL]
    omega
   have hyl : (enc (a.drop x'.length)).length = (enc b).length := by
    rw [← un, hy, un]
   have hcases : (a.drop x'.length).length = a2.length := by
    rcases Nat.lt_trichotomy (a.drop x'.length).length a2.length with hlt | heq | hgt
    · exfalso
      have e : a1 ++ a2 = a.take x'.length ++ a.drop x'.length := by rw [← h1, List.take_append_drop]
      have hs : (a2.drop (a2.length - (a.drop x'.length).length)) = a.drop x'.length := by
       have e2 : a1 ++ a2.take (a2.length - (a.drop x'.length).length) ++ a2.drop (a2.length - (a.drop x'.length).length) = a.take x'.length ++ a.drop x'.length := by
        rw [List.append_assoc, List.take_append_drop]
        exact e
       exact (List.append_inj' e2 (by simp at hlt ⊢; omega)).2
      have e3 : (enc a2).length = ((a2.take (a2.length - (a.drop x'.length).length)).map fun l => l.length + 1).sum + (enc (a.drop x'.length)).length := by
       conv => lhs; rw [← List.take_append_drop (a2.length - (a.drop x'.length).length) a2]
       rw [yu, hs]
      have hpos : 0 < ((a2.take (a2.length - (a.drop x'.length).length)).map fun l => l.length + 1).sum := by
       cases hc : a2.take (a2.length - (a.drop x'.length).length) with
       | nil =>
         have := congrArg List.length hc
         simp at this hlt
         omega
       | cons u v => simp; omega
      omega
    · exact heq
    · exfalso
      have := h2 (a.take x'.length) (a.drop x'.length) (by rw [List.take_append_drop]) hgt
      omega
   have : a.drop x'.length = a2 := by
    have e : a1 ++ a2 = a.take x'.length ++ a.drop x'.length := by rw [← h1, List.take_append_drop]
    exact (List.append_inj' e hcases.symm).2.symm
   rw [← this, hy]
 · intro h
   have := Z2 (VF ha2) (VF hb) h
   rw [h1, ← this]
   exact ⟨lowL a1, by simp [lowL]⟩
end Go.Proofs.YtbjkkoacclfejaaGreat.Nm
namespace Go.Proofs.YtbjkkoacclfejaaGreat
open Go.RowKit
def Yb (l : List UInt8) : Value := .string ⟨l.toArray⟩
theorem yv {a b : Bool} (h : a = b) : Ending.returned (.bool a) = .returned (.bool b) := by rw [h]
theorem Z3 (s : ByteArray) (k : Nat) (h : k < s.size) : s.data.toList.drop k = s[k] :: s.data.toList.drop (k + 1) := by
 rw [List.drop_eq_getElem_cons (by simpa using h)]; rfl
theorem V8 {l : Nm.Bytes} (h : ¬ 255 < l.length) : Nm.may l = (Nm.lbl l).isSome := by
 unfold Nm.may Nm.nm; rw [if_pos jf]
theorem Yc {l : Nm.Bytes} (h : 255 < l.length) : Nm.may l = false := by
 unfold Nm.may Nm.nm; rw [if_neg jf]; rfl
theorem abf (b o j : Nat) : (⟨b, o, none⟩ : Addr).add j = ⟨b, o + j, none⟩ := by
 unfold Addr.add; split
 · rename_i h; subst h; rfl
 · rfl
theorem QQ (w : World) (C : Array Value) (t : TypeId) (fr : Nat × Nat) (k : Nat) (v : Value) :
 (w.alloc (.cells C t fr)).setCell ⟨w.heap.size, k, none⟩ v = w.alloc (.cells (C.setIfInBounds k v) t fr) := by
 show ({ w with heap := (w.heap.push (.cells C t fr)).modify w.heap.size _ } : World) = { w with heap := w.heap.push _ }
 congr 1
 apply Array.ext_getElem?
 intro i
 rw [Array.getElem?_modify]
 by_cases h : w.heap.size = i
 · subst h; simp
 · simp [h, Array.getElem?_push, Ne.symm h]
theorem Yd {P : Program} (W : World) (src dst e : TypeId) (b n cap : Nat) (l : List UInt8) (hn : n = l.length) (hs : P.underlying src = some (.slice e)) (he : P.underlying e = some (.int .u8)) (hd : P.underlying dst = some .string)
 (hc : ∀ j (hj : j < l.length), W.cell? ⟨b, j, none⟩ = some (.int .u8 (l[j].toNat : Int))) :
 (convert src dst (.slice (some ⟨b, 0, none⟩) n cap)).run P W = .ok (.string ⟨l.toArray⟩) W := by
 subst hn
 exact run_convert_bytes_back W src dst e ⟨b, 0, none⟩ cap l hs he hd (fun j hj => by rw [abf, Nat.zero_add]; exact hc j hj)
theorem QR (s : ByteArray) (cap : Nat) : s.size ≤ (bytesRow s cap).size := by
 unfold bytesRow; simp
end Go.Proofs.YtbjkkoacclfejaaGreat
namespace Go.Proofs.YtbjkkoacclfejaaGreat
open Go.RowKit
theorem K4 (s : ByteArray) (w : World) (hs : s.size ≤ maxLen) :
 Calls Tryz.prog 37 #[.string s] w fun e w' => e = .returned (.bool (Nm.may s.data.toList)) ∧ w = w' := by
 unfold maxLen at hs
 by_cases h0 : s.size = 0
 · have : s = ByteArray.empty := by simpa using h0
   subst this
   go_enter Tryz.func37, Tryz.ntmps37
   go_wp2
   go_ret
   exact ⟨rfl, rfl⟩
 · have h0' : ((s.size : Int) == 0) = false := beq_eq_false_iff_ne.2 jf
   by_cases hlong : 255 < s.size
   · have hm : Hid (Nm.may s.data.toList = false) := Yc (by simpa using hlong)
     go_enter Tryz.func37, Tryz.ntmps37
     go_wp2
     go_ret
     exact ⟨yv hm.out.symm, rfl⟩
   · have hl' : decide (255 < s.size) = false := by simpa using hlong
     have hm : Hid (Nm.may s.data.toList = (Nm.lbl s.data.toList).isSome) := V8 (by simpa using hlong)
     go_enter Tryz.func37, Tryz.ntmps37
     go_wp2
     go_loop [3, 4] (fun i _ => ∃ k : Nat, k ≤ 319 ∧ i = .int .i64 k ∧ (Nm.lbl (s.data.toList.drop k)).isSome = Nm.may s.data.toList) (fun i _ => s.size - (intOf i).toNat)
     case atStart => exact ⟨0, by omega, rfl, by rw [hm.out]; rfl⟩
     case round =>
      obtain ⟨k, hk, rfl, hr⟩ := hrel
      have HR := Lib.hid hr
      clear hr
      by_cases hlt : k < s.size
      · have hd := Lib.hid (Z3 s k hlt)
        obtain ⟨c, hc⟩ : ∃ c, s[k] = c := ⟨_, rfl⟩
        have hd2 : Hid (s.data.toList.drop k = c :: s.data.toList.drop (k + 1)) := by have := hd.out; rwa [hc] at this
        clear hd
        have hlen : (s.data.toList.drop (k + 1)).length = s.size - (k + 1) := by simp
        have HL := Lib.hid hlen
        clear hlen
        have hb := c.toNat_lt
        by_cases hz : c = 0
        · subst hz
          go_wp2
          go_ret
          refine ⟨yv ?_, rfl⟩
          rw [← HR.out, hd2.out, Nm.lbl_cons, if_pos rfl]
          by_cases hq : k + 1 = s.size
          · rw [if_pos (List.eq_nil_of_length_eq_zero (by rw [HL.out]; omega))]
            exact beq_iff_eq.2 jf
          · rw [if_neg (fun hn => by rw [hn] at HL; have := HL.out; simp at this; omega)]
            exact beq_eq_false_iff_ne.2 jf
        · have hz1 : 1 ≤ c.toNat := by
           rcases Nat.eq_zero_or_pos c.toNat with h | h
           · exact absurd (UInt8.toNat_inj.1 (by simpa using h)) hz
           · exact h
          have hz2 : ((c.toNat : Int) == 0) = false := beq_eq_false_iff_ne.2 jf
          have HZ := Lib.hid hz
          clear hz
          by_cases h63 : 63 < c.toNat
          · go_wp2
            go_ret
            refine ⟨yv ?_, rfl⟩
            rw [← HR.out, hd2.out, Nm.lbl_cons, if_neg HZ.out, if_pos h63]
            rfl
          · go_wp2
            go_round
            case rel =>
             refine ⟨k + (1 + c.toNat), by omega, by go_num, ?_⟩
             rw [← HR.out, hd2.out, Nm.lbl_cons, if_neg HZ.out, if_neg h63]
             by_cases hq : s.size - (k + 1) < c.toNat
             · rw [if_pos (by rw [HL.out]; exact hq), List.drop_of_length_le (by simp; omega)]
               rfl
             · rw [if_neg (by rw [HL.out]; exact hq), List.drop_drop, Option.isSome_map]
               congr 3
               omega
            case measure => simp [intOf]; omega
      · go_wp2
        go_ret
        refine ⟨yv ?_, rfl⟩
        rw [← HR.out, List.drop_of_length_le (by simp; omega)]
        rfl
end Go.Proofs.YtbjkkoacclfejaaGreat
namespace Go.Proofs.YtbjkkoacclfejaaGreat
open Go.RowKit
theorem Ye (c : UInt8) (h1 : 65 ≤ c.toNat) (h2 : c.toNat ≤ 90) : ((Nm.lowB c).toNat : Int) = (c.toNat : Int) + 32 := by
 unfold Nm.lowB
 rw [if_pos ⟨UInt8.le_iff_toNat_le.2 (by simpa using h1), UInt8.le_iff_toNat_le.2 (by simpa using h2)⟩]
 rw [UInt8.toNat_add]
 have : (32 : UInt8).toNat = 32 := rfl
 rw [this]
 omega
theorem Z4 (c : UInt8) (h : ¬ (65 ≤ c.toNat ∧ c.toNat ≤ 90)) : Nm.lowB c = c := by
 unfold Nm.lowB
 rw [if_neg]
 rintro ⟨h1, h2⟩
 exact h ⟨by simpa using UInt8.le_iff_toNat_le.1 h1, by simpa using UInt8.le_iff_toNat_le.1 h2⟩
def LowTo (l : List UInt8) (k : Nat) (C : Array Value) : Prop :=
 ∀ j (hj : j < l.length), C[j]? = some (.int .u8 ((if j < k then Nm.lowB l[j] else l[j]).toNat : Int))
theorem LowTo.start (s : ByteArray) (cap : Nat) : LowTo s.data.toList 0 (bytesRow s cap) := by
 intro j hj
 rw [bytesRow_at s cap j (by simpa using hj)]
 simp
theorem LowTo.same {l : List UInt8} {k : Nat} {C : Array Value} (h : LowTo l k C) (hk : k < l.length) (he : Nm.lowB l[k] = l[k]) : LowTo l (k + 1) C := by
 intro j hj
 rw [h j hj]
 by_cases h1 : j < k
 · rw [if_pos h1, if_pos jf]
 · by_cases h2 : j = k
   · subst h2; rw [if_neg h1, if_pos jf, he]
   · rw [if_neg h1, if_neg jf]
theorem LowTo.put {l : List UInt8} {k : Nat} {C : Array Value} (h : LowTo l k C) (hk : k < l.length) (hC : l.length ≤ C.size) : LowTo l (k + 1) (C.setIfInBounds k (.int .u8 ((Nm.lowB l[k]).toNat : Int))) := by
 intro j hj
 by_cases h2 : k = j
 · subst h2; rw [Array.getElem?_setIfInBounds_self_of_lt jf, if_pos jf]
 · rw [Array.getElem?_setIfInBounds_ne h2, h j hj]
   by_cases h1 : j < k
   · rw [if_pos h1, if_pos jf]
   · rw [if_neg h1, if_neg jf]
theorem LowTo.fin {l : List UInt8} {C : Array Value} (h : LowTo l l.length C) (j : Nat) (hj : j < (Nm.low l).length) : C[j]? = some (.int .u8 ((Nm.low l)[j].toNat : Int)) := by
 have hj' : j < l.length := by simpa [Nm.low] using hj
 rw [h j hj', if_pos hj']
 simp [Nm.low]
theorem V9 (s : ByteArray) (w : World) (hs : s.size ≤ maxLen) :
 Calls Tryz.prog 124 #[.string s] w fun e w' => e = .returned (.string ⟨(Nm.low s.data.toList).toArray⟩) ∧ Below w.heap.size w w' := by
 unfold maxLen at hs
 have kc := fun (w : World) (s : ByteArray) => run_bytes_of_string (P := Tryz.prog) w 9 149 5 s unO unO unO
 go_enter Tryz.func124, Tryz.ntmps124
 go_wp2
 generalize hcap : grownCap w s.size 0 5 = cap
 clear hcap kc
 have hM := QR s cap
 have hC0 := LowTo.start s cap
 obtain ⟨C0, hC0e⟩ : ∃ C, C = bytesRow s cap := ⟨_, rfl⟩
 rw [← hC0e] at hM hC0 ⊢
 clear hC0e
 go_loopw [4, 5, 10] (fun _ _ i wr => ∃ (k : Nat) (C : Array Value), k ≤ s.size ∧ i = .int .i64 k ∧ C.size = C0.size ∧ LowTo s.data.toList k C ∧ wr = (w.alloc (.cells C 5 (C0.size, C0.size + 1))).drew) (fun _ _ i _ => s.size - (intOf i).toNat)
 case atStart => exact ⟨0, C0, by omega, rfl, rfl, hC0, rfl⟩
 case round =>
  obtain ⟨k, C, hk, rfl, hCs, hC, rfl⟩ := hrel
  have HC := Lib.hid hC
  have HCs := Lib.hid hCs
  clear hC hCs hC0
  by_cases hlt : k < s.size
  · have hcell : (w.alloc (.cells C 5 (C0.size, C0.size + 1))).cell? ⟨w.heap.size, k, none⟩ = some (.int .u8 (s[k].toNat : Int)) := by
     rw [World.cell?_alloc_mark]
     have := HC.out k (by simpa using hlt)
     rw [this, if_neg jf]
     rfl
    have hfr : (w.alloc (.cells C 5 (C0.size, C0.size + 1))).frozen? ⟨w.heap.size, k, none⟩ = false := by
     rw [World.frozen?_alloc_mark]
     simp
     omega
    have hnx := Lib.hid (HC.out.put (k := k) (by simpa using hlt) (by rw [HCs.out]; simpa using hM))
    have hnx2 := Lib.hid (HC.out.same (k := k) (by simpa using hlt))
    obtain ⟨c, hc⟩ : ∃ c, s[k] = c := ⟨_, rfl⟩
    have hc2 : Hid (s.data.toList[k]'(by simpa using hlt) = c) := hc
    have hb := c.toNat_lt
    by_cases h65 : 65 ≤ c.toNat ∧ c.toNat ≤ 90
    · obtain ⟨ha, hz⟩ := h65
      go_wp2
      have hc3 := Lib.hid (Ye c ha hz)
      go_wp2
      refine ⟨⟨k + 1, _, by omega, by go_num, ?_, hnx.out, ?_⟩, by simp [intOf]; omega⟩
      · simpa using HCs.out
      · rw [hc2.out, hc3.out, QQ]
    · have hsm := Lib.hid (hnx2.out (by rw [hc2.out]; exact Z4 c h65))
      go_wp2
      all_goals exact ⟨⟨k + 1, C, by omega, by go_num, HCs.out, hsm.out, rfl⟩, by simp [intOf]; omega⟩
  · obtain rfl : k = s.size := by omega
    have hfin := HC.out
    have hbk := fun W hc => Yd (P := Tryz.prog) W 149 9 5 w.heap.size s.size cap (Nm.low s.data.toList) (by simp [Nm.low]) unO unO unO hc
    have hbk2 := hbk (w.alloc (.cells C 5 (C0.size, C0.size + 1))).drew (fun j hj => by
     show (w.alloc (.cells C 5 (C0.size, C0.size + 1))).cell? _ = _
     rw [World.cell?_alloc_mark]
     exact LowTo.fin (by simpa using hfin) j hj)
    clear hbk hfin
    go_wp2
    go_ret
    exact ⟨rfl, ((Below.refl _ _).alloc (Nat.le_refl _) _).drew⟩
end Go.Proofs.YtbjkkoacclfejaaGreat
namespace Go.Proofs.YtbjkkoacclfejaaGreat
open Go.RowKit
theorem Yf (s : ByteArray) (w : World) (hs : s.size ≤ maxLen) :
 Calls Tryz.prog 97 #[.string s] w fun e w' => e = .returned (Yb (Nm.fold s.data.toList)) ∧ Below w.heap.size w w' := by
 cases hm : Nm.may s.data.toList with
 | false =>
   have hv : Nm.fold s.data.toList = [] := by simp [Nm.fold, hm]
   have HV := Lib.hid hv
   have HM := Lib.hid hm
   clear hv hm
   go_enter Tryz.func97, Tryz.ntmps97
   go_wp2_with fail
   refine (K4 _ _ hs).mono ?_
   rintro e w' ⟨rfl, rfl⟩
   rw [HM.out]
   go_wp2_with fail
   go_ret
   rw [HV.out]
   exact ⟨rfl, Below.refl _ _⟩
 | true =>
   have hv : Nm.fold s.data.toList = Nm.low s.data.toList := by simp [Nm.fold, hm]
   have HV := Lib.hid hv
   have HM := Lib.hid hm
   clear hv hm
   go_enter Tryz.func97, Tryz.ntmps97
   go_wp2_with fail
   refine (K4 _ _ hs).mono ?_
   rintro e w' ⟨rfl, rfl⟩
   rw [HM.out]
   go_wp2_with fail
   refine (V9 _ _ hs).mono ?_
   rintro e w' ⟨rfl, hb⟩
   go_wp2_with fail
   go_ret
   rw [HV.out]
   exact ⟨rfl, hb⟩
end Go.Proofs.YtbjkkoacclfejaaGreat
namespace Go.Proofs.YtbjkkoacclfejaaGreat
open Go.RowKit
def SRow (w : World) (v : Value) (ns : List Nm.Bytes) : Prop :=
 ∃ a cap, v = .slice a ns.length cap ∧ (ns = [] ∨ ∃ b off, a = some ⟨b, off, none⟩ ∧ b < w.heap.size ∧ ∀ i n, ns[i]? = some n → w.cell? ⟨b, off + i, none⟩ = some (Yb n))
theorem SRow.below {w w' : World} {v : Value} {ns : List Nm.Bytes} (h : SRow w v ns) {B : Nat} (hb : Below B w w') (hB : w.heap.size ≤ B) : SRow w' v ns := by
 obtain ⟨a, cap, hv, h⟩ := h
 refine ⟨a, cap, hv, h.imp id ?_⟩
 rintro ⟨b, off, ha, hlt, hc⟩
 refine ⟨b, off, ha, Nat.lt_of_lt_of_le hlt hb.size, fun i n hi => ?_⟩
 rw [hb.cell (Nat.lt_of_lt_of_le hlt hB)]
 exact hc i n hi
theorem SRow.own {w : World} {base : Nat} {v : Value} {ns : List Nm.Bytes} {e : TypeId} (h : w.ownsRow base e 1 v ns.length (ns.map Yb)) : SRow w v ns := by
 obtain ⟨_, ⟨rfl, h0⟩ | ⟨g, cap, cur, rfl, _, hg, _, _, _, htk⟩⟩ := h
 · have : ns = [] := List.eq_nil_of_length_eq_zero h0
   subst this
   exact ⟨none, 0, rfl, Or.inl rfl⟩
 · refine ⟨_, cap, rfl, Or.inr ⟨g, 0, rfl, (Array.getElem?_eq_some_iff.1 hg).1, fun i n hi => ?_⟩⟩
   have hil : i < ns.length := (List.getElem?_eq_some_iff.1 hi).1
   unfold World.cell?
   rw [hg]
   have : (cur.toList.take (ns.length * 1))[i]? = some (Yb n) := by rw [htk, List.getElem?_map, hi]; rfl
   rw [List.getElem?_take_of_lt jf] at this
   simpa using this
end Go.Proofs.YtbjkkoacclfejaaGreat
namespace Go.Proofs.YtbjkkoacclfejaaGreat
open Go.RowKit
def adr : List Nm.Bytes → List Nm.Bytes → Int
 | [], [] => 0
 | [], _ :: _ => -1
 | _ :: _, [] => 1
 | x :: xs, y :: ys => if Lib.compareBytes x y = 0 then adr xs ys else Lib.compareBytes x y
def aeD (a b : List Nm.Bytes) : Int := adr (Nm.lowL a).reverse (Nm.lowL b).reverse
def ads (n m : Nm.Bytes) : Int := match Nm.nm n, Nm.nm m with | some a, some b => aeD a b | _, _ => 0
end Go.Proofs.YtbjkkoacclfejaaGreat
namespace Go.Proofs.YtbjkkoacclfejaaGreat
namespace Vd
structure Piece where
 s : Bytes
 nam : Bool
deriving DecidableEq
def layout (k : Int) : Option (Nat × Nat × Nat) :=
 if k = 1 then some (4, 0, 0) else if k = 28 then some (16, 0, 0) else if k = 2 ∨ k = 5 ∨ k = 12 then some (0, 1, 0) else if k = 15 then some (2, 1, 0) else if k = 6 then some (0, 2, 20) else if k = 33 then some (6, 1, 0) else none
def aaV : Nat → Bytes → Bool
 | 0, _ => true
 | _ + 1, [] => true
 | f + 1, c :: t => if c.toNat ≤ t.length then aaV f (t.drop c.toNat) else false
def UP (msg : Bytes) : Nat → Nat → Nat → Int → Bytes → Option (Bytes × Int × Int)
 | 0, _, _, _, _ => none
 | f + 1, pos, ahead, next, n =>
   match msg[pos]? with
   | none => some ([], 0, 4)
   | some b =>
     if b.toNat = 0 then some (n ++ [0], if next < 0 then (pos : Int) + 1 else next, 0)
     else if 192 ≤ b.toNat then
      match msg[pos + 1]? with
      | none => some ([], 0, 4)
      | some c =>
        if ahead ≤ (b.toNat - 192) * 256 + c.toNat then some ([], 0, 8)
        else UP msg f ((b.toNat - 192) * 256 + c.toNat) ((b.toNat - 192) * 256 + c.toNat) (if next < 0 then (pos : Int) + 2 else next) n
     else if 64 ≤ b.toNat then some ([], 0, 3)
     else if msg.length < pos + 1 + b.toNat then some ([], 0, 4)
     else if 255 < (n ++ (msg.drop pos).take (1 + b.toNat)).length + 1 then some ([], 0, 5)
     else UP msg f (pos + 1 + b.toNat) ahead next (n ++ (msg.drop pos).take (1 + b.toNat))
def abg (ahead : Nat) (n : Bytes) : Nat := ahead * 256 + (256 - n.length) + 1
def readName (msg : Bytes) (pos : Int) : Bytes × Int × Int :=
 if pos < 0 ∨ (msg.length : Int) < pos then ([], 0, 1) else (UP msg (abg pos.toNat []) pos.toNat pos.toNat (-1) []).getD ([], 0, 0)
def names (msg : Bytes) : Nat → Nat → List Piece → Nat × List Piece × Int
 | 0, pos, out => (pos, out, 0)
 | k + 1, pos, out => match readName msg pos with
   | (n, next, e) => if e ≠ 0 then (pos, out, e) else names msg k next.toNat (out ++ [⟨n, true⟩])
def UQ (msg : Bytes) (pos : Nat) (k : Int) : List Piece × Int :=
 if k = 41 then ([], 3)
 else if k = 16 then (if msg.drop pos = [] then ([], 4) else if aaV (msg.length + 1) (msg.drop pos) then ([⟨msg.drop pos, false⟩], 0) else ([], 4))
 else match layout k with
  | none => ([⟨msg.drop pos, false⟩], 0)
  | some (a, m, b) =>
    if msg.length - pos < a then ([], 4)
    else match names msg m (pos + a) [⟨(msg.drop pos).take a, false⟩] with
     | (p, out, e) => if e ≠ 0 then ([], e) else if msg.length < p + b then ([], 4) else if p + b < msg.length then ([], 3) else (out ++ [⟨msg.drop p, false⟩], 0)
def joined (l : List Piece) : Bytes := l.flatMap (·.s)
def whole (k : Int) (d : Bytes) : List Piece × Bool := if (UQ d 0 k).2 ≠ 0 ∨ joined (UQ d 0 k).1 ≠ d then ([], false) else ((UQ d 0 k).1, true)
def adt (k : Int) (d : Bytes) : Bool := (whole k d).2
def foldP (p : Piece) : Bytes := if p.nam then Nm.fold p.s else p.s
def foldD (k : Int) (d : Bytes) : Bytes := (whole k d).1.flatMap foldP
def before (a b : RSet) : Bool := if ads a.name b.name ≠ 0 then decide (ads a.name b.name < 0) else if a.kind ≠ b.kind then decide (a.kind < b.kind) else decide (a.cls < b.cls)
def gtB (a b : Bytes) : Bool := !(Op.bytesLess a b || a == b)
def putGo (s : Bytes) : List Bytes → List Bytes → Bool → List Bytes ⊕ (List Bytes × Bool)
 | [], out, done => .inr (out, done)
 | x :: l, out, done => if x = s then .inl [] else if !done && gtB x s then putGo s l ((out ++ [s]) ++ [x]) true else putGo s l (out ++ [x]) done
def put (l : List Bytes) (s : Bytes) : List Bytes := match putGo s l [] false with
 | .inl _ => l
 | .inr (out, done) => if done then out else out ++ [s]
def timeT (t : Int) : Int := if 2147483647 < t then 0 else t
def abh (s : RSet) (n : Bytes) (k c : Int) : Bool := s.name == n && s.kind == k && s.cls == c
def Yg (sets : List RSet) (n : Bytes) (k c : Int) : Nat → Option Nat
 | 0 => none
 | j + 1 => match sets[j]? with
   | some s => if abh s n k c then some j else Yg sets n k c j
   | none => Yg sets n k c j
def addRec (sets : List RSet) (x : Rec) : List RSet :=
 if Nm.may x.name && adt x.kind x.data then
  match Yg sets (Nm.fold x.name) x.kind x.cls sets.length with
  | none => sets ++ [⟨Nm.fold x.name, x.kind, x.cls, timeT x.ttl, [foldD x.kind x.data]⟩]
  | some j => match sets[j]? with
    | some s => sets.set j { s with ttl := min s.ttl (timeT x.ttl), data := put s.data (foldD x.kind x.data) }
    | none => sets
 else sets
def gather (l : List Rec) : List RSet := l.foldl addRec []
def leastAt (sets : List RSet) : Nat → Nat
 | 0 => 0
 | j + 1 => match sets[j + 1]?, sets[leastAt sets j]? with
   | some s, some t => if before s t then j + 1 else leastAt sets j
   | _, _ => leastAt sets j
def rise : Nat → List RSet → List RSet
 | 0, _ => []
 | _ + 1, [] => []
 | f + 1, s :: l => (match (s :: l)[leastAt (s :: l) l.length]? with | some x => [x] | none => []) ++ rise f ((s :: l).eraseIdx (leastAt (s :: l) l.length))
def group (l : List Rec) : List RSet := rise (gather l).length (gather l)
def findS (l : List RSet) (n : Bytes) (k c : Int) : RSet × Bool := match l.find? fun s => Nm.same s.name n && s.kind == k && s.cls == c with
 | some s => (s, true)
 | none => (RSet.none, false)
structure Trail where
 chain : List RSet
 pos : Bytes
 last : List RSet
 e : Int
deriving DecidableEq
def trailEnd (q : Quest) (l : List RSet) (pos : Bytes) (chain : List RSet) : Trail :=
 if (findS l pos q.kind q.cls).2 then ⟨chain, pos, [(findS l pos q.kind q.cls).1], 0⟩ else ⟨chain, pos, [], 0⟩
def followGo (q : Quest) (l : List RSet) : Nat → Bytes → List Bytes → List RSet → Trail
 | 0, pos, _, chain => trailEnd q l pos chain
 | f + 1, pos, met, chain =>
   if q.kind = 5 then trailEnd q l pos chain
   else if !(findS l pos 5 q.cls).2 then trailEnd q l pos chain
   else if 8 ≤ chain.length then ⟨[], [], [], 5⟩
   else match (findS l pos 5 q.cls).1.data with
    | [d] =>
      if !Nm.may d || (findS l pos q.kind q.cls).2 then ⟨[], [], [], 3⟩
      else if met.contains (Nm.fold d) then ⟨[], [], [], 8⟩
      else followGo q l f (Nm.fold d) (met ++ [Nm.fold d]) (chain ++ [(findS l pos 5 q.cls).1])
    | _ => ⟨[], [], [], 3⟩
def follow (q : Quest) (l : List RSet) : Trail := if Nm.may q.name then followGo q l 9 (Nm.fold q.name) [Nm.fold q.name] [] else ⟨[], [], [], 1⟩
def VG (n : Bytes) : Nat := (Nm.labels n).length
def fits (s : RSet) (n : Bytes) (c : Int) : Bool := s.kind == 6 && s.cls == c && Nm.within n s.name
def yQ (l : List RSet) (n : Bytes) (c : Int) : Nat → Int
 | 0 => -1
 | j + 1 => match l[j]? with
   | some s => if fits s n c && (decide (yQ l n c j < 0) || (match l[(yQ l n c j).toNat]? with | some t => decide (VG t.name < VG s.name) | none => false)) then (j : Int) else yQ l n c j
   | none => yQ l n c j
def findSoa (l : List RSet) (n : Bytes) (c : Int) : RSet × Bool × Int :=
 if yQ l n c l.length < 0 then (RSet.none, false, 0) else match l[(yQ l n c l.length).toNat]? with
  | some s => if s.data.length ≠ 1 then (RSet.none, false, 3) else (s, true, 0)
  | none => (RSet.none, false, 0)
def aaW (d : Bytes) : Int := (d.drop (d.length - 4)).foldl (fun n c => (n * 256 + c.toNat) % 4294967296) (0 : Int)
def Z5 (s : RSet) : Int := if s.kind ≠ 6 then 0 else match s.data with
 | [d] => if adt 6 d then (if 2147483647 < aaW d ∨ 2147483647 < s.ttl then 0 else min (aaW d) s.ttl) else 0
 | _ => 0
def Yh (l : List RSet) (t : Int) : Int := l.foldl (fun t s => min t s.ttl) t
def bare (s : RSet) : RSet := { s with ttl := 0 }
structure Msg where
 code : Int
 answers : List Rec
 auth : List Rec
def ofM (q : Quest) (m : Msg) : Vdt × Int × Int :=
 if !Nm.may q.name || (m.code != 0 && m.code != 3) then (Vdt.none, 0, 1)
 else match follow q (group m.answers) with
  | ⟨l, pos, last, e⟩ =>
    if e ≠ 0 then (Vdt.none, 0, e)
    else if m.code = 3 ∧ last ≠ [] then (Vdt.none, 0, 3)
    else if last ≠ [] then (⟨m.code, (l ++ last).map bare, []⟩, Yh (l ++ last) 2147483647, 0)
    else match findSoa (group m.auth) pos q.cls with
     | (s, is, e) =>
       if e ≠ 0 then (Vdt.none, 0, e)
       else if !is then (⟨m.code, (l ++ last).map bare, []⟩, 0, 0)
       else (⟨m.code, (l ++ last).map bare, [bare s]⟩, min (Yh (l ++ last) 2147483647) (Z5 s), 0)
def endV (q : Quest) (v : Vdt) : RSet × Bool := match v.sets.getLast? with
 | some s => if s.kind = q.kind then (s, true) else (RSet.none, false)
 | none => (RSet.none, false)
end Vd
end Go.Proofs.YtbjkkoacclfejaaGreat
namespace Go.Proofs.YtbjkkoacclfejaaGreat
namespace Vd
structure Ballot where
 v : Vote
 pass : Bool
deriving DecidableEq
structure Said where
 up : Int
 m : Msg
 time : Int
def hasB (l : List Ballot) (u : Int) : Bool := l.any fun b => b.v.up == u
def putB (l : List Ballot) (x : Ballot) : List Ballot × Int :=
 if x.v.up < 0 ∨ 9 ≤ x.v.up then (l, 1) else if hasB l x.v.up then (l, 7) else (l ++ [x], 0)
def votesB (l : List Ballot) : List Vote := (l.filter fun b => !b.pass).map (·.v)
def castSaid (q : Quest) (l : List Ballot) (s : Said) : List Ballot :=
 if (ofM q s.m).2.2 = 0 then (putB l ⟨⟨s.up, (ofM q s.m).1, s.time⟩, false⟩).1 else l
def ad4 (q : Quest) (l : List Said) : List Vote := votesB (l.foldl (castSaid q) [])
def firstAt (l : List Vote) : Nat → Nat
 | 0 => 0
 | j + 1 => match l[j]?, l[firstAt l j]? with
   | some v, some w => if v.up < w.up then j else firstAt l j
   | _, _ => firstAt l j
def minTime (l : List Vote) (t : Int) : Int := l.foldl (fun t v => min t v.time) t
def alikeV (l : List Vote) (w : Vdt) : Bool := l.all fun v => decide (v.vd = w)
def endsPut (q : Quest) (l : List Vote) (d : List Bytes) : List Bytes := l.foldl (fun d v => if (endV q v.vd).2 then (endV q v.vd).1.data.foldl put d else d) d
def union (q : Quest) (l : List Vote) : Vdt × Int × Bool :=
 match l with
 | [] => (Vdt.none, 0, false)
 | w :: r =>
   if !Nm.may q.name then (Vdt.none, 0, false)
   else if alikeV (w :: r) w.vd || decide (endsPut q (w :: r) [] = []) then (match (w :: r)[firstAt (w :: r) (w :: r).length]? with | some x => x.vd | none => Vdt.none, minTime (w :: r) w.time, true)
   else (⟨0, [⟨Nm.fold q.name, q.kind, q.cls, 0, endsPut q (w :: r) []⟩], []⟩, minTime (w :: r) w.time, true)
end Vd
end Go.Proofs.YtbjkkoacclfejaaGreat
namespace Go.Proofs.YtbjkkoacclfejaaGreat
open Vd (RSet Vdt Vote Rec Quest Piece Ballot)
def jr (vs : List Vote) (v : Vdt) : Nat := vs.findIdx fun x => decide (x.vd = v)
def jj (l : List Ballot) (u : Int) : Int × Int :=
 match l.find? fun b => b.v.up == u with
 | none => (0, 0)
 | some b => if b.pass then (1, 0) else (2, jr (Vd.votesB l) b.v.vd)
structure BoxOk (l : List Ballot) : Prop where
 nd : (l.map fun b => b.v.up).Nodup
 up : ∀ b ∈ l, 0 ≤ b.v.up ∧ b.v.up < 9
theorem BoxOk.nil : BoxOk [] := ⟨by simp, by simp⟩
theorem QS (l : List Ballot) (u : Int) : Vd.hasB l u = true ↔ u ∈ l.map fun b => b.v.up := by
 unfold Vd.hasB
 rw [List.any_eq_true, List.mem_map]
 simp only [beq_iff_eq]
theorem BoxOk.put {l : List Ballot} (h : BoxOk l) (x : Ballot) : BoxOk (Vd.putB l x).1 := by
 unfold Vd.putB
 split
 · exact h
 split
 · exact h
 · rename_i h1 h2
   refine ⟨?_, fun b hb => ?_⟩
   · rw [List.map_append]
     refine List.nodup_append.2 ⟨h.nd, by simp, fun a ha b hb => ?_⟩
     rw [List.map_singleton, List.mem_singleton] at hb
     intro e
     refine h2 ((QS _ _).2 ?_)
     rw [← hb, ← e]
     exact ha
   · rcases List.mem_append.1 hb with hb | hb
     · exact h.up b hb
     · rw [List.mem_singleton.1 hb]
       omega
theorem Yi (l : List Ballot) (u : Int) : (jj l u).1 = 0 ↔ Vd.hasB l u = false := by
 unfold jj Vd.hasB
 cases hf : l.find? (fun b => b.v.up == u) with
 | none =>
   simp only [true_iff]
   rw [List.any_eq_false]
   intro b hb
   have := List.find?_eq_none.1 hf b hb
   simpa using this
 | some b =>
   have h1 := List.find?_some hf
   have h2 := List.mem_of_find?_eq_some hf
   have : (l.any fun b => b.v.up == u) = true := List.any_eq_true.2 ⟨b, h2, h1⟩
   rw [this]
   cases hp : b.pass <;> simp [hp]
def jM (vs : List Vote) (v : Vdt) : List Vote := vs.filter fun x => decide (x.vd = v)
def j6 (want : Int) (vs : List Vote) : Nat → Option Nat
 | 0 => none
 | j + 1 => match j6 want vs j with
   | some k => some k
   | none => match vs[j]? with
     | some x => if want ≤ ((jM (vs.take (j + 1)) x.vd).length : Int) then some j else none
     | none => none
def kN (l : List Int) : List Int := (List.range 9).flatMap fun (n : Nat) => l.filter fun x => x == (n : Int)
def qr (want : Int) (vs : List Vote) : Vdt × Int × List Int × Bool :=
 match j6 want vs vs.length with
 | none => (Vdt.none, 0, [], false)
 | some j => match vs[j]? with
   | some x => (x.vd, (jM (vs.take (j + 1)) x.vd).foldl (fun t v => min t v.time) x.time, kN ((jM (vs.take (j + 1)) x.vd).map (·.up)), true)
   | none => (Vdt.none, 0, [], false)
def kA (want : Int) (vs : List Vote) : List Int :=
 if (qr want vs).2.2.2 then kN ((vs.filter fun x => !decide (x.vd = (qr want vs).1)).map (·.up)) else []
def qL (vs : List Vote) : Int := vs.foldl (fun m x => max m ((jM vs x.vd).length : Int)) 0
theorem qa {vs : List Vote} {x : Vote} (h : x ∈ vs) : jr vs x.vd < vs.length ∧ ∃ y, vs[jr vs x.vd]? = some y ∧ y.vd = x.vd := by
 have hlt : jr vs x.vd < vs.length := List.findIdx_lt_length_of_exists ⟨x, h, by simp⟩
 refine ⟨hlt, _, List.getElem?_eq_getElem hlt, ?_⟩
 have := List.findIdx_getElem (w := hlt) (p := fun y : Vote => decide (y.vd = x.vd))
 exact of_decide_eq_true this
theorem qM {vs : List Vote} {x y : Vote} (hx : x ∈ vs) (hy : y ∈ vs) : jr vs x.vd = jr vs y.vd ↔ x.vd = y.vd := by
 constructor
 · intro h
   obtain ⟨_, a, ha, ha2⟩ := qa hx
   obtain ⟨_, b, hb, hb2⟩ := qa hy
   rw [h, hb] at ha
   obtain rfl := Option.some.inj ha
   exact ha2.symm.trans hb2
 · intro h; rw [h]
theorem UR {l : List Ballot} (h : BoxOk l) {a b : Ballot} (ha : a ∈ l) (hb : b ∈ l) (e : a.v.up = b.v.up) : a = b := by
 obtain ⟨i, hi, rfl⟩ := List.getElem_of_mem ha
 obtain ⟨j, hj, rfl⟩ := List.getElem_of_mem hb
 have hp := List.nodup_iff_pairwise_ne.1 h.nd
 rcases Nat.lt_trichotomy i j with h1 | h1 | h1
 · have := List.pairwise_iff_getElem.1 hp i j (by simpa using hi) (by simpa using hj) h1
   simp only [List.getElem_map] at this
   exact absurd e this
 · subst h1; rfl
 · have := List.pairwise_iff_getElem.1 hp j i (by simpa using hj) (by simpa using hi) h1
   simp only [List.getElem_map] at this
   exact absurd e.symm this
theorem votesB_mem {l : List Ballot} {x : Vote} : x ∈ Vd.votesB l ↔ ∃ b ∈ l, b.pass = false ∧ b.v = x := by
 unfold Vd.votesB
 rw [List.mem_map]
 constructor
 · rintro ⟨b, hb, rfl⟩
   obtain ⟨h1, h2⟩ := List.mem_filter.1 hb
   exact ⟨b, h1, by simpa using h2, rfl⟩
 · rintro ⟨b, hb, h1, rfl⟩
   exact ⟨b, List.mem_filter.2 ⟨hb, by simp [h1]⟩, rfl⟩
theorem QT {l : List Ballot} (h : BoxOk l) {b : Ballot} (hb : b ∈ l) : jj l b.v.up = if b.pass then ((1, 0) : Int × Int) else (2, (jr (Vd.votesB l) b.v.vd : Int)) := by
 unfold jj
 cases hf : l.find? (fun c => c.v.up == b.v.up) with
 | none =>
   have := List.find?_eq_none.1 hf b hb
   simp at this
 | some c =>
   have h1 := List.find?_some hf
   have h2 := List.mem_of_find?_eq_some hf
   have : c = b := UR h h2 hb (by simpa using h1)
   subst this
   rfl
theorem kW {l : List Ballot} (h : BoxOk l) {x : Vote} (hx : x ∈ Vd.votesB l) : jj l x.up = ((2, (jr (Vd.votesB l) x.vd : Int)) : Int × Int) := by
 obtain ⟨b, hb, hp, rfl⟩ := votesB_mem.1 hx
 rw [QT h hb, hp]
 rfl
theorem QU {vs : List Vote} (x y : Vote) (hy : y ∈ vs) : jr (vs ++ [x]) y.vd = jr vs y.vd := by
 have h := (qa hy).1
 unfold jr at h ⊢
 rw [List.findIdx_append, if_pos h]
theorem QV {vs : List Vote} (x : Vote) : jr (vs ++ [x]) x.vd = jr vs x.vd := by
 unfold jr
 rw [List.findIdx_append]
 split
 · rfl
 · rename_i h
   have hle := List.findIdx_le_length (xs := vs) (p := fun y : Vote => decide (y.vd = x.vd))
   have : ([x] : List Vote).findIdx (fun y => decide (y.vd = x.vd)) = 0 := by simp [List.findIdx_cons]
   rw [this]
   omega
theorem JW {l : List Ballot} {x : Ballot} {u : Int} (hu : u ≠ x.v.up) : (l ++ [x]).find? (fun b => b.v.up == u) = l.find? fun b => b.v.up == u := by
 rw [List.find?_append]
 have : ([x] : List Ballot).find? (fun b => b.v.up == u) = none := by
  rw [List.find?_eq_none]
  intro b hb
  rw [List.mem_singleton.1 hb]
  simpa using fun e => hu e.symm
 rw [this, Option.or_none]
theorem Wa {l : List Ballot} (h : BoxOk l) {x : Ballot} (hx : Vd.hasB l x.v.up = false) (hb : 0 ≤ x.v.up ∧ x.v.up < 9) (vs' : List Vote) (hv : Vd.votesB (l ++ [x]) = vs') (hvs : vs' = if x.pass then Vd.votesB l else Vd.votesB l ++ [x.v]) (u : Int) :
 jj (l ++ [x]) u = if u = x.v.up then (if x.pass then ((1, 0) : Int × Int) else (2, (jr (Vd.votesB l) x.v.vd : Int))) else jj l u := by
 by_cases hu : u = x.v.up
 · subst hu
   rw [if_pos rfl]
   unfold jj
   have hn : l.find? (fun b => b.v.up == x.v.up) = none := by
    rw [List.find?_eq_none]
    intro b hb
    have := List.any_eq_false.1 hx b hb
    simpa using this
   rw [List.find?_append, hn]
   have h1 : ([x] : List Ballot).find? (fun b => b.v.up == x.v.up) = some x := by simp
   rw [h1]
   simp only [Option.none_or]
   cases hp : x.pass with
   | true => simp
   | false =>
     simp only [Bool.false_eq_true, if_false]
     rw [hv, hvs, hp]
     simp only [Bool.false_eq_true, if_false]
     rw [QV]
 · rw [if_neg hu]
   unfold jj
   rw [JW hu]
   cases hf : l.find? (fun b => b.v.up == u) with
   | none => rfl
   | some b =>
     dsimp only
     cases hp : b.pass with
     | true => simp
     | false =>
       simp only [Bool.false_eq_true, if_false]
       have hbm := List.mem_of_find?_eq_some hf
       rw [hv, hvs]
       split
       · rfl
       · rw [QU x.v b.v (votesB_mem.2 ⟨b, hbm, hp, rfl⟩)]
theorem US (vs : List Vote) (x : Vote) (v : Vdt) : jM (vs ++ [x]) v = if x.vd = v then jM vs v ++ [x] else jM vs v := by
 unfold jM
 rw [List.filter_append]
 by_cases h : x.vd = v <;> simp [h]
theorem uh {vs : List Vote} {i : Nat} {x : Vote} (h : vs[i]? = some x) (v : Vdt) : jM (vs.take (i + 1)) v = if x.vd = v then jM (vs.take i) v ++ [x] else jM (vs.take i) v := by
 rw [List.take_add_one, h]
 exact US _ _ _
theorem u7 {want : Int} {vs : List Vote} {i : Nat} {x : Vote} (hx : vs[i]? = some x) (h : j6 want vs i = none) : j6 want vs (i + 1) = if want ≤ ((jM (vs.take (i + 1)) x.vd).length : Int) then some i else none := by
 rw [j6, h, hx]
theorem Jh {want : Int} {vs : List Vote} {k : Nat} : ∀ (i j : Nat), i ≤ j → j6 want vs i = some k → j6 want vs j = some k
 | i, j, hij, h => by
   obtain ⟨d, rfl⟩ : ∃ d, j = i + d := ⟨j - i, by omega⟩
   clear hij
   induction d with
   | zero => exact h
   | succ d ih => rw [← Nat.add_assoc, j6, ih]
theorem Ji {want : Int} {vs : List Vote} (hw : 1 ≤ want) : ∀ i, i ≤ vs.length → j6 want vs i = none → ∀ v, ((jM (vs.take i) v).length : Int) < want
 | 0, _, _, v => by simp [jM]; omega
 | i + 1, hi, h, v => by
   obtain ⟨x, hx⟩ : ∃ x, vs[i]? = some x := ⟨_, List.getElem?_eq_getElem jf⟩
   have h0 : j6 want vs i = none := by
    cases h1 : j6 want vs i with
    | none => rfl
    | some k => rw [j6, h1] at h; cases h
   have ih := Ji hw i jf h0 v
   rw [u7 hx h0] at h
   rw [uh hx]
   by_cases e : x.vd = v
   · subst e
     rw [if_pos rfl]
     by_cases hl : want ≤ ((jM (vs.take (i + 1)) x.vd).length : Int)
     · rw [if_pos hl] at h; cases h
     · rw [uh hx, if_pos rfl] at hl
       omega
   · rw [if_neg e]; exact ih
theorem J5 {want : Int} {vs : List Vote} (hw : 1 ≤ want) {i : Nat} {x : Vote} (hx : vs[i]? = some x) (h : j6 want vs i = none) : (want ≤ ((jM (vs.take (i + 1)) x.vd).length : Int)) ↔ ((jM (vs.take (i + 1)) x.vd).length : Int) = want := by
 have := Ji hw i (by have := (List.getElem?_eq_some_iff.1 hx).1; omega) h x.vd
 rw [uh hx, if_pos rfl, List.length_append]
 simp only [List.length_cons, List.length_nil]
 omega
def ui (vs : List Vote) (i : Nat) (f : Nat) : Nat := (vs.take i).countP fun x => jr vs x.vd == f
theorem Wb {vs : List Vote} (i : Nat) {x : Vote} (hx : x ∈ vs) : ui vs i (jr vs x.vd) = (jM (vs.take i) x.vd).length := by
 unfold ui jM
 rw [← List.countP_eq_length_filter]
 refine List.countP_congr fun y hy => ?_
 rw [beq_iff_eq, decide_eq_true_eq]
 exact qM (List.mem_of_mem_take hy) hx
theorem Wc {vs : List Vote} {i : Nat} {x : Vote} (hx : vs[i]? = some x) (f : Nat) : ui vs (i + 1) f = ui vs i f + (if jr vs x.vd = f then 1 else 0) := by
 unfold ui
 rw [List.take_add_one, hx]
 simp only [Option.toList_some, List.countP_append, List.countP_cons, List.countP_nil, beq_iff_eq]
 omega
end Go.Proofs.YtbjkkoacclfejaaGreat
namespace Go.Proofs.YtbjkkoacclfejaaGreat
open Go.RowKit
def RowOf (w : World) (v : Value) (m size : Nat) (news : List Value) : Prop :=
 news.length = m * size ∧ (∀ u ∈ news, u.oneCell' = true) ∧ ((∃ c, v = .slice none 0 c ∧ m = 0) ∨ ∃ ad c, v = .slice (some ad) m c ∧ ∀ j u, news[j]? = some u → w.cell? (ad.add j) = some u)
variable {P : Program}
theorem RowOf.below {w w' : World} {v : Value} {m size : Nat} {news : List Value} (h : RowOf w v m size news) (hb : ∀ a, w'.cell? a = w.cell? a ∨ w.cell? a = none) : RowOf w' v m size news := by
 obtain ⟨h1, h2, h3 | ⟨ad, c, h3, h4⟩⟩ := h
 · exact ⟨h1, h2, Or.inl h3⟩
 · refine ⟨h1, h2, Or.inr ⟨ad, c, h3, fun j u hj => ?_⟩⟩
   have := h4 j u hj
   rcases hb (ad.add j) with h | h
   · rw [h]; exact this
   · rw [h] at this; cases this
end Go.Proofs.YtbjkkoacclfejaaGreat
namespace Go.Proofs.YtbjkkoacclfejaaGreat
open Go.RowKit
def abi (n : Nm.Bytes) (w : World) (e : Ending) (w' : World) : Prop :=
 ∃ v, e = .returned (.tuple #[v, .bool (Nm.may n)]) ∧ w'.ownsRow w.heap.size 9 1 v (Nm.labels n).length ((Nm.labels n).map Yb) ∧ Below w.heap.size w w'
end Go.Proofs.YtbjkkoacclfejaaGreat
namespace Go.Proofs.YtbjkkoacclfejaaGreat
open Go.RowKit
def afP (ls : List Nm.Bytes) : Nm.Bytes := ls.flatMap fun l => UInt8.ofNat l.length :: l
end Go.Proofs.YtbjkkoacclfejaaGreat
namespace Go.Proofs.YtbjkkoacclfejaaGreat
open Go.RowKit
def aeE : Value → Nat
 | .string s => s.size
 | _ => 0
end Go.Proofs.YtbjkkoacclfejaaGreat
namespace Go.Proofs.YtbjkkoacclfejaaGreat
open Go.RowKit
def afQ (l : Nm.Bytes) : Value := .string (bs l)
def StrRow (L : ja) (v : Value) (ls : List Nm.Bytes) : Prop :=
 ∃ a cap, v = .slice a ls.length cap ∧ (ls = [] ∨ ∃ b off C te fr, a = some ⟨b, off, none⟩ ∧ (b, Obj.cells C te fr) ∈ L ∧ ∀ i l, ls[i]? = some l → C[off + i * 1]? = some (.string (bs l)))
theorem StrRow.mono {L L' : ja} {v : Value} {ls : List Nm.Bytes} (h : StrRow L v ls) (hs : ∀ p ∈ L, p ∈ L') : StrRow L' v ls := by
 obtain ⟨a, cap, h1, h2⟩ := h
 refine ⟨a, cap, h1, h2.imp id ?_⟩
 rintro ⟨b, off, C, te, fr, h3, h4, h5⟩
 exact ⟨b, off, C, te, fr, h3, hs _ h4, h5⟩
def afw (l : Nm.Bytes) : Bool := decide (1 ≤ l.length) && decide (l.length ≤ 63)
section
variable {G : World} {L : ja} {P : Program}
end
variable {G : World} {L : ja}
theorem Yj {l : Nm.Bytes} (h : l.length ≤ 1000000) : (bs l).size ≤ maxLen := by rw [Vv]; unfold maxLen; omega
theorem zo (l : Nm.Bytes) (h : l.length ≤ 1000000) : Spec Tryz.prog G 37 #[.string (bs l)] L fun u M => u = .bool (Nm.may l) ∧ M = L := Spec.ofSame fun w => K4 (bs l) w (Yj h)
theorem UT (l : Nm.Bytes) (h : l.length ≤ 1000000) : Spec Tryz.prog G 97 #[.string (bs l)] L fun u M => u = .string (bs (Nm.fold l)) ∧ M = L := Spec.ofBelow fun w => Yf (bs l) w (Yj h)
end Go.Proofs.YtbjkkoacclfejaaGreat
namespace Go.Proofs.YtbjkkoacclfejaaGreat
open Go.RowKit
open Vd (RSet Vdt Vote Rec Quest)
variable {G : World} {L : ja}
theorem uD {a : Option Addr} {m c : Nat} {l : List Vd.Bytes} (h : sliceR 1 qO L [.slice a m c] l) : m = l.length ∧ m ≤ c ∧ c ≤ maxLen ∧ (l = [] ∨ ∃ b off C te fr, a = some ⟨b, off, none⟩ ∧ (b, Obj.cells C te fr) ∈ L ∧ ∀ i x, l[i]? = some x → C[off + i * 1]? = some (.string (bs x))) := by
 obtain ⟨h1, h2, h3, h4⟩ := sliceR.cut h
 refine ⟨h1, h2, h3, h4.imp id ?_⟩
 rintro ⟨b, off, C, te, fr, q1, q2, q3⟩
 refine ⟨b, off, C, te, fr, q1, q2, fun i x hx => ?_⟩
 obtain ⟨cs', k1, ⟨k2, _⟩, k3⟩ := q3 i x hx
 subst k2
 exact k3 0 _ rfl
theorem yw {α : Type} {l m : List α} {k : Nat} {x : α} (h : l.take k = m.take k) (h1 : l[k]? = some x) (h2 : m[k]? = some x) : l.take (k + 1) = m.take (k + 1) := by
 rw [List.take_add_one, List.take_add_one, h, h1, h2]
theorem Z6 (va vb : Value) (la lb : List Vd.Bytes) (ha : sliceR 1 qO L [va] la) (hb : sliceR 1 qO L [vb] lb) : Spec Tryz.prog G 125 #[va, vb] L fun u M => u = .bool (decide (la = lb)) ∧ M = L := by
 obtain ⟨aa, ca, e1, ha⟩ := ha.val
 obtain ⟨ab, cb, e2, hb⟩ := hb.val
 simp only [List.cons.injEq, and_true] at e1 e2
 subst e1 e2
 obtain ⟨_, ka1, ka2, ha⟩ := uD ha
 obtain ⟨_, kb1, kb2, hb⟩ := uD hb
 unfold maxLen at ka2 kb2
 refine jm (n := 26) Tryz.func125 rfl rfl rfl ?_
 by_cases hlen : la.length = lb.length
 · have d0 : (((la.length : Nat) : Int) != ((lb.length : Nat) : Int)) = false := by simp [hlen]
   refine goC ?_
   refine jB (σ := Nat) (fun k => k ≤ la.length ∧ la.take k = lb.take k) (fun k => [(0, .slice aa la.length ca), (1, .slice ab lb.length cb), (12, .int .i64 (la.length : Nat)), (13, .int .i64 (k : Nat))]) (fun k => L) (fun k => la.length - k) 0 ⟨Nat.zero_le _, by simp⟩ ?_ (fun w h => h) ?_
   exact jv
   rintro k ⟨hk, heq⟩
   by_cases hlt : k < la.length
   · have d1 : decide (((k : Nat) : Int) < ((la.length : Nat) : Int)) = true := decide_eq_true jf
     obtain ⟨x, hx⟩ : ∃ x, la[k]? = some x := ⟨_, List.getElem?_eq_getElem hlt⟩
     obtain ⟨y, hy⟩ : ∃ y, lb[k]? = some y := ⟨_, List.getElem?_eq_getElem (hlen ▸ hlt)⟩
     rcases ha with rfl | ⟨b1, o1, C1, t1, f1, rfl, m1, q1⟩
     · simp at hlt
     rcases hb with rfl | ⟨b2, o2, C2, t2, f2, rfl, m2, q2⟩
     · simp at hy
     have r1 := q1 k x hx
     have r2 := q2 k y hy
     have hK : ∀ z ∈ [(b1, Obj.cells C1 t1 f1), (b2, Obj.cells C2 t2 f2)], z ∈ L := fun z hz => by
      simp only [List.mem_cons, List.not_mem_nil, or_false] at hz
      rcases hz with rfl | rfl <;> assumption
     by_cases hxy : x = y
     · have d2 : (!(x == y)) = false := by simp [hxy]
       refine goC ?_
       refine jw jc ([(b1, Obj.cells C1 t1 f1), (b2, Obj.cells C2 t2 f2)]) [] ?_
       refine tkQ 0 ?_
       refine tkQ 1 ?_
       refine tkQ 2 ?_
       refine tkQ 3 ?_
       refine tkQ 4 ?_
       refine tkQ 5 ?_
       refine tkQ 6 ?_
       refine tkQ 7 ?_
       refine tkQ 8 ?_
       refine tdQ ?_
       refine goC ?_
       refine jk (k + 1) ⟨hlt, ?_⟩ ?_ (fun w h => h) jf
       · subst hxy
         exact yw heq hx hy
       exact jv
     · have d2 : (!(x == y)) = true := by simp [hxy]
       refine goC ?_
       refine jw jc ([(b1, Obj.cells C1 t1 f1), (b2, Obj.cells C2 t2 f2)]) [] ?_
       refine tkQ 0 ?_
       refine tkQ 1 ?_
       refine tkQ 2 ?_
       refine tkQ 3 ?_
       refine tkQ 4 ?_
       refine tkQ 5 ?_
       refine tkQ 6 ?_
       refine tkQ 7 ?_
       refine tkQ 8 ?_
       refine tdQ ?_
       refine goC ?_
       refine je 4 _ rfl rfl ?_
       refine ⟨?_, rfl⟩
       have : la ≠ lb := fun e => hxy (by rw [e, hy] at hx; exact (Option.some.inj hx).symm)
       simp [this]
   · have d1 : decide (((k : Nat) : Int) < ((la.length : Nat) : Int)) = false := decide_eq_false jf
     have hkn : k = la.length := by omega
     subst hkn
     rw [List.take_length, hlen, List.take_length] at heq
     refine goC ?_
     refine je 4 _ rfl rfl ?_
     exact ⟨by simp [heq], rfl⟩
 · have d0 : (((la.length : Nat) : Int) != ((lb.length : Nat) : Int)) = true := by simp; omega
   refine goC ?_
   refine je 4 _ rfl rfl ?_
   refine ⟨?_, rfl⟩
   have : la ≠ lb := fun e => hlen (by rw [e])
   simp [this]
theorem qb {a b : RSet} (h : ¬ (a.name = b.name ∧ a.kind = b.kind ∧ a.cls = b.cls ∧ a.ttl = b.ttl ∧ a.data = b.data)) : decide (a = b) = false := by
 rw [decide_eq_false_iff_not]
 rintro rfl
 exact h ⟨rfl, rfl, rfl, rfl, rfl⟩
theorem VH {a b : RSet} (h1 : a.name = b.name) (h2 : a.kind = b.kind) (h3 : a.cls = b.cls) (h4 : a.ttl = b.ttl) (h5 : a.data = b.data) : a = b := by
 cases a; cases b; simp_all
theorem J6 (ca cb : List Value) (a b : RSet) (ha : rsR L ca a) (hb : rsR L cb b) : Spec Tryz.prog G 112 #[.agg ca.toArray, .agg cb.toArray] L fun u M => u = .bool (decide (a = b)) ∧ M = L := by
 obtain ⟨da, rfl, ha, _⟩ := ha
 obtain ⟨db, rfl, hb, _⟩ := hb
 obtain ⟨aa, ka, e1, ha⟩ := ha.val
 obtain ⟨ab, kb, e2, hb⟩ := hb.val
 simp only [List.cons.injEq, and_true] at e1 e2
 subst e1 e2
 obtain ⟨_, ka1, ka2, ha⟩ := uD ha
 obtain ⟨_, kb1, kb2, hb⟩ := uD hb
 unfold maxLen at ka2 kb2
 refine jm (n := 59) Tryz.func112 rfl rfl rfl ?_
 by_cases n1 : a.name = b.name
 · have d1 : (!(a.name == b.name)) = false := by simp [n1]
   by_cases n2 : a.kind = b.kind
   · have d2 : (a.kind != b.kind) = false := by simp [n2]
     by_cases n3 : a.cls = b.cls
     · have d3 : (a.cls != b.cls) = false := by simp [n3]
       by_cases n4 : a.ttl = b.ttl
       · have d4 : (a.ttl != b.ttl) = false := by simp [n4]
         by_cases hlen : a.data.length = b.data.length
         · have d5 : (((a.data.length : Nat) : Int) != ((b.data.length : Nat) : Int)) = false := by simp [hlen]
           repeat (first | refine goC ?_ | (refine kK ?_; intro bBox))
           rename_i bx
           obtain ⟨CA, hCA⟩ : ∃ C : Array Value, C = #[.string (bs a.name), .int .u16 a.kind, .int .u16 a.cls, .int .u32 a.ttl, .slice aa a.data.length ka] := ⟨_, rfl⟩
           obtain ⟨CB, hCB⟩ : ∃ C : Array Value, C = #[.string (bs b.name), .int .u16 b.kind, .int .u16 b.cls, .int .u32 b.ttl, .slice ab b.data.length kb] := ⟨_, rfl⟩
           have fA : CA[0 + 4]? = some (.slice aa a.data.length ka) := by rw [hCA]; rfl
           have fB : CB[0 + 4]? = some (.slice ab b.data.length kb) := by rw [hCB]; rfl
           refine jB (σ := Nat) (fun k => k ≤ a.data.length ∧ a.data.take k = b.data.take k) (fun k => [(2, .pointer (some ⟨bx, 0, none⟩)), (3, .pointer (some ⟨bBox, 0, none⟩)), (5, .int .i64 (k : Nat))]) (fun k => (bBox, Obj.cells CB 122 (0, 0)) :: (bx, Obj.cells CA 122 (0, 0)) :: L) (fun k => a.data.length - k) 0 ⟨Nat.zero_le _, by simp⟩ ?_ (fun w h => by rw [hCA, hCB]; exact h) ?_
           exact jv
           clear hCA hCB
           rintro k ⟨hk, heq⟩
           by_cases hlt : k < a.data.length
           · have e1 : decide (((k : Nat) : Int) < ((a.data.length : Nat) : Int)) = true := decide_eq_true jf
             obtain ⟨x, hx⟩ : ∃ x, a.data[k]? = some x := ⟨_, List.getElem?_eq_getElem hlt⟩
             obtain ⟨y, hy⟩ : ∃ y, b.data[k]? = some y := ⟨_, List.getElem?_eq_getElem (hlen ▸ hlt)⟩
             rcases ha with ha | ⟨b1, o1, C1, t1, f1, rfl, m1, q1⟩
             · rw [ha] at hlt; simp at hlt
             rcases hb with hb | ⟨b2, o2, C2, t2, f2, rfl, m2, q2⟩
             · rw [hb] at hy; simp at hy
             have r1 := q1 k x hx
             have r2 := q2 k y hy
             have hK : ∀ z ∈ [(bx, Obj.cells CA 122 (0, 0)), (bBox, Obj.cells CB 122 (0, 0)), (b1, Obj.cells C1 t1 f1), (b2, Obj.cells C2 t2 f2)], z ∈ (bBox, Obj.cells CB 122 (0, 0)) :: (bx, Obj.cells CA 122 (0, 0)) :: L := fun z hz => by
              simp only [List.mem_cons, List.not_mem_nil, or_false] at hz
              rcases hz with rfl | rfl | rfl | rfl
              · exact List.mem_cons_of_mem _ (List.mem_cons_self ..)
              · exact List.mem_cons_self ..
              · exact List.mem_cons_of_mem _ (List.mem_cons_of_mem _ m1)
              · exact List.mem_cons_of_mem _ (List.mem_cons_of_mem _ m2)
             by_cases hxy : x = y
             · have d6 : (!(x == y)) = false := by simp [hxy]
               refine goC ?_
               refine jw jc ([(bx, Obj.cells CA 122 (0, 0)), (bBox, Obj.cells CB 122 (0, 0)), (b1, Obj.cells C1 t1 f1), (b2, Obj.cells C2 t2 f2)]) [] ?_
               refine tkQ 0 ?_
               refine tkQ 1 ?_
               refine tkQ 2 ?_
               refine tkQ 3 ?_
               refine tkQ 4 ?_
               refine tkQ 5 ?_
               refine tkQ 6 ?_
               refine tkQ 7 ?_
               refine tkQ 8 ?_
               refine tkQ 9 ?_
               refine tkQ 10 ?_
               refine tdQ ?_
               refine goC ?_
               refine jk (k + 1) ⟨hlt, ?_⟩ ?_ (fun w h => h) jf
               · subst hxy
                 exact yw heq hx hy
               exact jv
             · have d6 : (!(x == y)) = true := by simp [hxy]
               refine goC ?_
               refine jw jc ([(bx, Obj.cells CA 122 (0, 0)), (bBox, Obj.cells CB 122 (0, 0)), (b1, Obj.cells C1 t1 f1), (b2, Obj.cells C2 t2 f2)]) [] ?_
               refine tkQ 0 ?_
               refine tkQ 1 ?_
               refine tkQ 2 ?_
               refine tkQ 3 ?_
               refine tkQ 4 ?_
               refine tkQ 5 ?_
               refine tkQ 6 ?_
               refine tkQ 7 ?_
               refine tkQ 8 ?_
               refine tkQ 9 ?_
               refine tkQ 10 ?_
               refine tdQ ?_
               refine goC ?_
               refine js (fun w h => h.tail.tail) ?_
               refine je 4 _ rfl rfl ?_
               exact ⟨by rw [qb (fun h => hxy (by rw [h.2.2.2.2, hy] at hx; exact (Option.some.inj hx).symm))], rfl⟩
           · have e1 : decide (((k : Nat) : Int) < ((a.data.length : Nat) : Int)) = false := decide_eq_false jf
             have hkn : k = a.data.length := by omega
             subst hkn
             rw [List.take_length, hlen, List.take_length] at heq
             refine goC ?_
             refine js (fun w h => h.tail.tail) ?_
             refine je 4 _ rfl rfl ?_
             exact ⟨by simp [VH n1 n2 n3 n4 heq], rfl⟩
         · have d5 : (((a.data.length : Nat) : Int) != ((b.data.length : Nat) : Int)) = true := by simp; omega
           repeat (first | refine goC ?_ | (refine kK ?_; intro bBox))
           refine js (fun w h => h.tail.tail) ?_
           refine je 4 _ rfl rfl ?_
           exact ⟨by rw [qb (fun h => hlen (by rw [h.2.2.2.2]))], rfl⟩
       · have d4 : (a.ttl != b.ttl) = true := by simp [n4]
         repeat (first | refine goC ?_ | (refine kK ?_; intro bBox))
         refine js (fun w h => h.tail.tail) ?_
         refine je 4 _ rfl rfl ?_
         exact ⟨by rw [qb (fun h => n4 h.2.2.2.1)], rfl⟩
     · have d3 : (a.cls != b.cls) = true := by simp [n3]
       repeat (first | refine goC ?_ | (refine kK ?_; intro bBox))
       refine js (fun w h => h.tail.tail) ?_
       refine je 4 _ rfl rfl ?_
       exact ⟨by rw [qb (fun h => n3 h.2.2.1)], rfl⟩
   · have d2 : (a.kind != b.kind) = true := by simp [n2]
     repeat (first | refine goC ?_ | (refine kK ?_; intro bBox))
     refine js (fun w h => h.tail.tail) ?_
     refine je 4 _ rfl rfl ?_
     exact ⟨by rw [qb (fun h => n2 h.2.1)], rfl⟩
 · have d1 : (!(a.name == b.name)) = true := by simp [n1]
   repeat (first | refine goC ?_ | (refine kK ?_; intro bBox))
   refine js (fun w h => h.tail.tail) ?_
   refine je 4 _ rfl rfl ?_
   exact ⟨by rw [qb (fun h => n1 h.1)], rfl⟩
theorem qS {a : Option Addr} {m c : Nat} {l : List RSet} (h : sliceR 5 rsR L [.slice a m c] l) : m = l.length ∧ m ≤ c ∧ c ≤ maxLen ∧ (l = [] ∨ ∃ b off C te fr, a = some ⟨b, off, none⟩ ∧ (b, Obj.cells C te fr) ∈ L ∧
 ∀ i x, l[i]? = some x → ∃ cs', cs'.length = 5 ∧ rsR L cs' x ∧ ∀ j v, cs'[j]? = some v → C[off + i * 5 + j]? = some v) := sliceR.cut h
theorem J7 (va vb : Value) (la lb : List RSet) (ha : sliceR 5 rsR L [va] la) (hb : sliceR 5 rsR L [vb] lb) : Spec Tryz.prog G 81 #[va, vb] L fun u M => u = .bool (decide (la = lb)) ∧ M = L := by
 obtain ⟨aa, ca, e1, ha⟩ := ha.val
 obtain ⟨ab, cb, e2, hb⟩ := hb.val
 simp only [List.cons.injEq, and_true] at e1 e2
 subst e1 e2
 obtain ⟨_, ka1, ka2, ha⟩ := qS ha
 obtain ⟨_, kb1, kb2, hb⟩ := qS hb
 unfold maxLen at ka2 kb2
 refine jm (n := 27) Tryz.func81 rfl rfl rfl ?_
 by_cases hlen : la.length = lb.length
 · have d0 : (((la.length : Nat) : Int) != ((lb.length : Nat) : Int)) = false := by simp [hlen]
   refine goC ?_
   refine jB (σ := Nat) (fun k => k ≤ la.length ∧ la.take k = lb.take k) (fun k => [(0, .slice aa la.length ca), (1, .slice ab lb.length cb), (5, .int .i64 (k : Nat))]) (fun k => L) (fun k => la.length - k) 0 ⟨Nat.zero_le _, by simp⟩ ?_ (fun w h => h) ?_
   exact jv
   rintro k ⟨hk, heq⟩
   by_cases hlt : k < la.length
   · have d1 : decide (((k : Nat) : Int) < ((la.length : Nat) : Int)) = true := decide_eq_true jf
     obtain ⟨x, hx⟩ : ∃ x, la[k]? = some x := ⟨_, List.getElem?_eq_getElem hlt⟩
     obtain ⟨y, hy⟩ : ∃ y, lb[k]? = some y := ⟨_, List.getElem?_eq_getElem (hlen ▸ hlt)⟩
     rcases ha with rfl | ⟨b1, o1, C1, t1, f1, rfl, m1, q1⟩
     · simp at hlt
     rcases hb with rfl | ⟨b2, o2, C2, t2, f2, rfl, m2, q2⟩
     · simp at hy
     obtain ⟨ca', ha1, ha2, hca⟩ := q1 k x hx
     obtain ⟨cb', hb1, hb2, hcb⟩ := q2 k y hy
     have hK : ∀ z ∈ [(b1, Obj.cells C1 t1 f1), (b2, Obj.cells C2 t2 f2)], z ∈ L := fun z hz => by
      simp only [List.mem_cons, List.not_mem_nil, or_false] at hz
      rcases hz with rfl | rfl <;> assumption
     by_cases hxy : x = y
     · have d2 : (!decide (x = y)) = false := by simp [hxy]
       refine goC ?_
       refine jw jc ([(b1, Obj.cells C1 t1 f1), (b2, Obj.cells C2 t2 f2)]) [] ?_
       refine tkQ 0 ?_
       refine tkQ 1 ?_
       refine tkQ 2 ?_
       (refine' jz 3 rfl rfl jg (jJ (jD ca' rfl (by rw [ha1]; exact stL) (List.mem_cons_self ..) hca)) ?_ ?_; (· assumption))
       refine tkQ 4 ?_
       refine tkQ 5 ?_
       refine tkQ 6 ?_
       (refine' jz 7 rfl rfl jg (jJ (jD cb' rfl (by rw [hb1]; exact stL) (List.mem_cons_of_mem _ (List.mem_cons_self ..)) hcb)) ?_ ?_; (· assumption))
       refine jO 8 jg rfl rfl rfl rfl (jb jg rfl (J6 ca' cb' x y ha2 hb2)) ?_; rintro _ _ ⟨rfl, rfl⟩; refine ⟨Or.inr hK, ?_⟩
       refine tkQ 9 ?_
       refine tdQ ?_
       refine goC ?_
       refine jk (k + 1) ⟨hlt, ?_⟩ ?_ (fun w h => h) jf
       · subst hxy
         exact yw heq hx hy
       exact jv
     · have d2 : (!decide (x = y)) = true := by simp [hxy]
       refine goC ?_
       refine jw jc ([(b1, Obj.cells C1 t1 f1), (b2, Obj.cells C2 t2 f2)]) [] ?_
       refine tkQ 0 ?_
       refine tkQ 1 ?_
       refine tkQ 2 ?_
       (refine' jz 3 rfl rfl jg (jJ (jD ca' rfl (by rw [ha1]; exact stL) (List.mem_cons_self ..) hca)) ?_ ?_; (· assumption))
       refine tkQ 4 ?_
       refine tkQ 5 ?_
       refine tkQ 6 ?_
       (refine' jz 7 rfl rfl jg (jJ (jD cb' rfl (by rw [hb1]; exact stL) (List.mem_cons_of_mem _ (List.mem_cons_self ..)) hcb)) ?_ ?_; (· assumption))
       refine jO 8 jg rfl rfl rfl rfl (jb jg rfl (J6 ca' cb' x y ha2 hb2)) ?_; rintro _ _ ⟨rfl, rfl⟩; refine ⟨Or.inr hK, ?_⟩
       refine tkQ 9 ?_
       refine tdQ ?_
       refine goC ?_
       refine je 4 _ rfl rfl ?_
       refine ⟨?_, rfl⟩
       have : la ≠ lb := fun e => hxy (by rw [e, hy] at hx; exact (Option.some.inj hx).symm)
       simp [this]
   · have d1 : decide (((k : Nat) : Int) < ((la.length : Nat) : Int)) = false := decide_eq_false jf
     have hkn : k = la.length := by omega
     subst hkn
     rw [List.take_length, hlen, List.take_length] at heq
     refine goC ?_
     refine je 4 _ rfl rfl ?_
     exact ⟨by simp [heq], rfl⟩
 · have d0 : (((la.length : Nat) : Int) != ((lb.length : Nat) : Int)) = true := by simp; omega
   refine goC ?_
   refine je 4 _ rfl rfl ?_
   refine ⟨?_, rfl⟩
   have : la ≠ lb := fun e => hlen (by rw [e])
   simp [this]
theorem aaX {a b : Vdt} : a = b ↔ a.code = b.code ∧ a.sets = b.sets ∧ a.soa = b.soa := by
 cases a; cases b; simp
end Go.Proofs.YtbjkkoacclfejaaGreat
namespace Go.Proofs.YtbjkkoacclfejaaGreat
open Go.RowKit
open Vd (RSet Vdt Vote Rec Quest)
section
variable {G : World} {P : Program} {n : Nat} {ρ : jp} {L : ja} {ty : TypeId}
theorem Jj {f : FuncId} {x : Operand} {xs : List Operand} {ats : Array TypeId} {vs cap : List Value} {Φ : Value → ja → Prop} (hb : kB P f = true) (hx : ev ρ x = some (.func (.func f) #[] cap.toArray)) (ha : kk ρ xs = some vs) (h : Spec P G f (vs ++ cap).toArray L Φ) :
 OpT P G ρ L (.call ⟨.value x, xs.toArray, ats⟩) ty Φ :=
 ⟨fun r hr w hw o ho _ => by
   have hm := qG hr xs vs ha
   have hrf := hr _ _ hx
   have : execOp r o = callFunc f (vs ++ cap).toArray := by
    simp only [execOp, ho, resolve, hrf, Deferred.ofValue]
    show invoke (.fn (.func f) cap.toArray) _ = _
    simp only [invoke, List.map_toArray, hm]
    simp
   rw [this, q8 hb]
   refine (h.out w hw).mono fun e w' ⟨v, L', h1, h2, h3⟩ => ⟨v, h1, L', h2, h3⟩⟩
end
variable {G : World} {L : ja}
theorem QW {p q r : Nat × Obj} (h : r ∈ L) : r ∈ p :: q :: L := List.mem_cons_of_mem _ (List.mem_cons_of_mem _ h)
theorem rsR.val {cs : List Value} {s : RSet} (h : rsR L cs s) : ∃ a c, cs = [.string (bs s.name), .int .u16 s.kind, .int .u16 s.cls, .int .u32 s.ttl, .slice a s.data.length c] ∧ sliceR 1 qO L [.slice a s.data.length c] s.data := by
 obtain ⟨d, rfl, hd, _⟩ := h
 obtain ⟨a, c, e, hd⟩ := hd.val
 simp only [List.cons.injEq, and_true] at e
 subst e
 exact ⟨a, c, rfl, hd⟩
theorem Z7 (ca cb : List Value) (a b : RSet) (ha : rsR L ca a) (hb : rsR L cb b) : Spec Tryz.prog G 100 #[.agg ca.toArray, .agg cb.toArray] L fun u M => u = .bool (decide (a = b)) ∧ M = L := by
 obtain ⟨aa, ka, rfl, sa⟩ := ha.val
 obtain ⟨ab, kb, rfl, sb⟩ := hb.val
 refine jm (n := 38) Tryz.func100 rfl rfl rfl ?_
 cases n1 : a.name == b.name with
 | false =>
   repeat (first | refine goC ?_ | (refine kK ?_; intro bBox))
   refine js (fun w h => h.tail.tail) ?_
   refine je 4 _ rfl rfl ?_
   exact ⟨by rw [qb (fun h => by rw [h.1] at n1; simp at n1)], rfl⟩
 | true =>
   cases n2 : a.kind == b.kind with
   | false =>
     repeat (first | refine goC ?_ | (refine kK ?_; intro bBox))
     refine js (fun w h => h.tail.tail) ?_
     refine je 4 _ rfl rfl ?_
     exact ⟨by rw [qb (fun h => by rw [h.2.1] at n2; simp at n2)], rfl⟩
   | true =>
     cases n3 : a.cls == b.cls with
     | false =>
       repeat (first | refine goC ?_ | (refine kK ?_; intro bBox))
       refine js (fun w h => h.tail.tail) ?_
       refine je 4 _ rfl rfl ?_
       exact ⟨by rw [qb (fun h => by rw [h.2.2.1] at n3; simp at n3)], rfl⟩
     | true =>
       cases n4 : a.ttl == b.ttl with
       | false =>
         repeat (first | refine goC ?_ | (refine kK ?_; intro bBox))
         refine js (fun w h => h.tail.tail) ?_
         refine je 4 _ rfl rfl ?_
         exact ⟨by rw [qb (fun h => by rw [h.2.2.2.1] at n4; simp at n4)], rfl⟩
       | true =>
         repeat (first | refine goC ?_ | (refine kK ?_; intro bBox))
         refine jZ (jb jg rfl (Z6 _ _ a.data b.data (jn kI _ _ _ _ (fun q hq => QW hq) sa) (jn kI _ _ _ _ (fun q hq => QW hq) sb))) rfl ?_
         refine goC ?_
         refine js (fun w h => h.tail.tail) ?_
         refine je 4 _ rfl rfl ?_
         refine ⟨?_, rfl⟩
         rw [beq_iff_eq] at n1 n2 n3 n4
         congr 1
         by_cases hd : a.data = b.data
         · simp [VH n1 n2 n3 n4 hd]
         · rw [qb (fun h => hd h.2.2.2.2)]
           simp [hd]
theorem zp (va vb : Value) (la lb : List RSet) (ha : sliceR 5 rsR L [va] la) (hb : sliceR 5 rsR L [vb] lb) : Spec Tryz.prog G 99 #[va, vb, .func (.func 100) #[] #[]] L fun u M => u = .bool (decide (la = lb)) ∧ M = L := by
 obtain ⟨aa, ca, e1, ha⟩ := ha.val
 obtain ⟨ab, cb, e2, hb⟩ := hb.val
 simp only [List.cons.injEq, and_true] at e1 e2
 subst e1 e2
 obtain ⟨_, ka1, ka2, ha⟩ := qS ha
 obtain ⟨_, kb1, kb2, hb⟩ := qS hb
 unfold maxLen at ka2 kb2
 refine jm (n := 32) Tryz.func99 rfl rfl rfl ?_
 by_cases hlen : la.length = lb.length
 · have d0 : (((la.length : Nat) : Int) != ((lb.length : Nat) : Int)) = false := by simp [hlen]
   refine goC ?_
   refine jB (σ := Nat) (fun k => k ≤ la.length ∧ la.take k = lb.take k) (fun k => [(1, .slice ab lb.length cb), (2, .func (.func 100) #[] #[]), (15, .slice aa la.length ca), (16, .int .i64 (la.length : Nat)), (17, .int .i64 (k : Nat))]) (fun k => L) (fun k => la.length - k) 0 ⟨Nat.zero_le _, by simp⟩ ?_ (fun w h => h) ?_
   exact jv
   rintro k ⟨hk, heq⟩
   by_cases hlt : k < la.length
   · have d1 : decide (((k : Nat) : Int) < ((la.length : Nat) : Int)) = true := decide_eq_true jf
     obtain ⟨x, hx⟩ : ∃ x, la[k]? = some x := ⟨_, List.getElem?_eq_getElem hlt⟩
     obtain ⟨y, hy⟩ : ∃ y, lb[k]? = some y := ⟨_, List.getElem?_eq_getElem (hlen ▸ hlt)⟩
     rcases ha with rfl | ⟨b1, o1, C1, t1, f1, rfl, m1, q1⟩
     · simp at hlt
     rcases hb with rfl | ⟨b2, o2, C2, t2, f2, rfl, m2, q2⟩
     · simp at hy
     obtain ⟨ca', ha1, ha2, hca⟩ := q1 k x hx
     obtain ⟨cb', hb1, hb2, hcb⟩ := q2 k y hy
     obtain ⟨xa, xc, rfl, _⟩ := ha2.val
     obtain ⟨ya, yc, rfl, _⟩ := hb2.val
     refine goC ?_
     refine ju (jD [.string (bs x.name), .int .u16 x.kind, .int .u16 x.cls, .int .u32 x.ttl, .slice xa x.data.length xc] rfl stL m1 hca) rfl ?_
     repeat (first | refine goC ?_ | (refine j5 ?_; intro bNew))
     refine ju (jD [.string (bs y.name), .int .u16 y.kind, .int .u16 y.cls, .int .u32 y.ttl, .slice ya y.data.length yc] rfl stL (List.mem_cons_of_mem _ m2) hcb) rfl ?_
     repeat (first | refine goC ?_ | (refine j5 ?_; intro bNew))
     refine jX (Jj (cap := []) jg rfl rfl (Z7 _ _ x y (jq _ _ _ _ (fun q hq => QW hq) ha2) (jq _ _ _ _ (fun q hq => QW hq) hb2))) rfl ?_
     by_cases hxy : x = y
     · have d2 : (!decide (x = y)) = false := by simp [hxy]
       refine goC ?_
       refine jk (k + 1) ⟨hlt, ?_⟩ ?_ (fun w h => h.tail.tail) jf
       · subst hxy
         exact yw heq hx hy
       exact jv
     · have d2 : (!decide (x = y)) = true := by simp [hxy]
       refine goC ?_
       refine js (fun w h => h.tail.tail) ?_
       refine je 6 _ rfl rfl ?_
       refine ⟨?_, rfl⟩
       have : la ≠ lb := fun e => hxy (by rw [e, hy] at hx; exact (Option.some.inj hx).symm)
       simp [this]
   · have d1 : decide (((k : Nat) : Int) < ((la.length : Nat) : Int)) = false := decide_eq_false jf
     have hkn : k = la.length := by omega
     subst hkn
     rw [List.take_length, hlen, List.take_length] at heq
     refine goC ?_
     refine je 6 _ rfl rfl ?_
     exact ⟨by simp [heq], rfl⟩
 · have d0 : (((la.length : Nat) : Int) != ((lb.length : Nat) : Int)) = true := by simp; omega
   refine goC ?_
   refine je 6 _ rfl rfl ?_
   refine ⟨?_, rfl⟩
   have : la ≠ lb := fun e => hlen (by rw [e])
   simp [this]
theorem K5 (ca cb : List Value) (a b : Vdt) (ha : vdR L ca a) (hb : vdR L cb b) : Spec Tryz.prog G 74 #[.agg ca.toArray, .agg cb.toArray] L fun u M => u = .bool (decide (a = b)) ∧ M = L := by
 obtain ⟨a1, a2, rfl, ha1, ha2, _⟩ := ha
 obtain ⟨b1, b2, rfl, hb1, hb2, _⟩ := hb
 refine jm (n := 24) Tryz.func74 rfl rfl rfl ?_
 cases n1 : a.code == b.code with
 | false =>
   repeat (first | refine goC ?_ | (refine kK ?_; intro bBox))
   refine js (fun w h => h.tail.tail) ?_
   refine je 4 _ rfl rfl ?_
   refine ⟨?_, rfl⟩
   have : ¬ a = b := fun e => by rw [e] at n1; simp at n1
   simp [this]
 | true =>
   repeat (first | refine goC ?_ | (refine kK ?_; intro bBox))
   refine jZ (jb jg rfl (zp _ _ a.sets b.sets (jn jq _ _ _ _ (fun q hq => QW hq) ha1) (jn jq _ _ _ _ (fun q hq => QW hq) hb1))) rfl ?_
   cases n2 : decide (a.sets = b.sets) with
   | false =>
     refine goC ?_
     refine js (fun w h => h.tail.tail) ?_
     refine je 4 _ rfl rfl ?_
     refine ⟨?_, rfl⟩
     have : ¬ a = b := fun e => by rw [e] at n2; simp at n2
     simp [this]
   | true =>
     refine goC ?_
     refine jZ (jb jg rfl (zp _ _ a.soa b.soa (jn jq _ _ _ _ (fun q hq => QW hq) ha2) (jn jq _ _ _ _ (fun q hq => QW hq) hb2))) rfl ?_
     refine goC ?_
     refine js (fun w h => h.tail.tail) ?_
     refine je 4 _ rfl rfl ?_
     refine ⟨?_, rfl⟩
     simp only [decide_eq_true_eq] at n2
     rw [beq_iff_eq] at n1
     congr 1
     simp [aaX, n1, n2]
end Go.Proofs.YtbjkkoacclfejaaGreat
namespace Go.Proofs.YtbjkkoacclfejaaGreat
open Go.RowKit
open Vd (RSet Vdt Vote Rec Quest Piece)
def abj : Rp Piece := fun _ cs p => cs = [.string (bs p.s), .bool p.nam] ∧ p.s.length ≤ maxLen
section
variable {α : Type} {r : Rp α} {sz : Nat} {L : ja}
theorem ORow.lit1 {e : TypeId} {b : Nat} {cs : List Value} {y : α} (hn : cs.length = sz) (hy : r L cs y) (hone : ∀ v ∈ cs, v.oneCell' = true) : ORow r e sz L (some ⟨b, 0, none⟩) 1 [y] [(b, .cells cs.toArray e (0, 0))] :=
 ⟨cs, ⟨by simp [hn], Or.inr ⟨b, 1, cs.toArray, rfl, rfl, Nat.le_refl _, by unfold maxLen; omega, by simp [hn], by simp; exact List.take_of_length_le jf⟩⟩, Laid.one hn hy, hone⟩
end
variable {G : World} {L : ja}
def afR (k : Int) : Value := match Vd.layout k with
 | some (a, m, b) => .tuple #[.int .i64 (a : Nat), .int .i64 (m : Nat), .int .i64 (b : Nat), .bool true]
 | none => .tuple #[.int .i64 0, .int .i64 0, .int .i64 0, .bool false]
def afx (L : ja) (x : List Piece × Int) (u : Value) (M : ja) : Prop := ∃ a c B, u = .tuple #[.slice a x.1.length c, .int .i64 x.2] ∧ ORow abj 233 2 L a c x.1 B ∧ M = B ++ L
end Go.Proofs.YtbjkkoacclfejaaGreat
namespace Go.Proofs.YtbjkkoacclfejaaGreat
open Go.RowKit
open Vd (RSet Vdt Vote Rec Quest Piece)
variable {G : World} {L : ja}
def rdV (x : Vd.Bytes × Int × Int) : Value := .tuple #[.string (bs x.1), .int .i64 x.2.1, .int .i64 x.2.2]
end Go.Proofs.YtbjkkoacclfejaaGreat
namespace Go.Proofs.YtbjkkoacclfejaaGreat
open Go.RowKit
open Vd (RSet Vdt Vote Rec Quest Piece)
variable {G : World} {L : ja}
theorem Z8 (n : Vd.Bytes) : (Nm.fold n).length ≤ n.length := by
 unfold Nm.fold
 split
 · rw [Nm.low_length]; exact Nat.le_refl _
 · exact Nat.zero_le _
theorem QX : ∀ (l : List Piece), (l.flatMap Vd.foldP).length ≤ (Vd.joined l).length
 | [] => Nat.le_refl _
 | x :: l => by
   have h1 := QX l
   have h2 := Z8 x.s
   have h3 : (Vd.foldP x).length ≤ x.s.length := by unfold Vd.foldP; split <;> omega
   unfold Vd.joined at h1 ⊢
   simp only [List.flatMap_cons, List.length_append]
   omega
theorem K6 (k : Int) (d : Vd.Bytes) : (Vd.joined (Vd.whole k d).1).length ≤ d.length := by
 unfold Vd.whole
 split
 · simp [Vd.joined]
 · rename_i h
   simp only [not_or, Decidable.not_not] at h
   rw [h.2]
   exact Nat.le_refl _
end Go.Proofs.YtbjkkoacclfejaaGreat
namespace Go.Proofs.YtbjkkoacclfejaaGreat
open Go.RowKit
structure Cmps {α : Type} (c : α → α → Int) : Prop where
 zero : ∀ a b, c a b = 0 ↔ a = b
 anti : ∀ a b, c b a = - c a b
 lo : ∀ a b, -1 ≤ c a b
 trans : ∀ a b d, c a b ≤ 0 → c b d ≤ 0 → c a d ≤ 0
theorem Cmps.hi {α : Type} {c : α → α → Int} (h : Cmps c) (a b : α) : c a b ≤ 1 := by have := h.anti b a; have := h.lo b a; omega
def aeF {α : Type} (c : α → α → Int) : List α → List α → Int
 | [], [] => 0
 | [], _ :: _ => -1
 | _ :: _, [] => 1
 | x :: xs, y :: ys => if c x y = 0 then aeF c xs ys else c x y
def afy (a b : UInt8) : Int := if a < b then -1 else if b < a then 1 else 0
def afS (n : Nm.Bytes) : List Nm.Bytes := (Nm.lowL (Nm.labels n)).reverse
end Go.Proofs.YtbjkkoacclfejaaGreat
namespace Go.Proofs.YtbjkkoacclfejaaGreat
open Go.RowKit
open Vd (RSet Vdt Vote Rec Quest Piece)
variable {G : World} {L : ja}
theorem rsR.vals {cs : List Value} {s : RSet} (h : rsR L cs s) : ∃ a c, cs = [.string (bs s.name), .int .u16 s.kind, .int .u16 s.cls, .int .u32 s.ttl, .slice a s.data.length c] ∧ sliceR 1 qO L [.slice a s.data.length c] s.data ∧ s.name.length ≤ maxLen ∧ (0 ≤ s.kind ∧ s.kind ≤ 65535) ∧ (0 ≤ s.cls ∧ s.cls ≤ 65535) ∧ (0 ≤ s.ttl ∧ s.ttl ≤ 4294967295) := by
 obtain ⟨d, rfl, hd, h1, h2, h3, h4⟩ := h
 obtain ⟨a, c, e, hd⟩ := hd.val
 simp only [List.cons.injEq, and_true] at e
 subst e
 exact ⟨a, c, rfl, hd, h1, h2, h3, h4⟩
end Go.Proofs.YtbjkkoacclfejaaGreat
namespace Go.Proofs.YtbjkkoacclfejaaGreat
open Go.RowKit
open Vd (RSet Vdt Vote Rec Quest Piece)
variable {G : World} {L : ja}
theorem Z9 {K : ja} : rsR K [.string (bs []), .int .u16 0, .int .u16 0, .int .u32 0, .slice none 0 0] RSet.none := ⟨_, rfl, sliceR.nil, by simp [RSet.none, maxLen], by simp [RSet.none], by simp [RSet.none], by simp [RSet.none]⟩
end Go.Proofs.YtbjkkoacclfejaaGreat
