/-
 Part 2: Jd Je Jf Jg J0 Jh Ju Jv Jx Jw Jy Jz JA JB JC.
-/
import Derived.Test.YtgjlbilcnlffgaaGreatDoorZt1
import Derived.Lib.ConvBytes
import Derived.MapKept
import Derived.Laws.Cells
import Derived.Laws.CopyRow
set_option linter.unusedVariables false
set_option linter.unusedSimpArgs false
namespace Go.Proofs.YtgjlbilcnlffgaaGreatDoor.Ev
section
open Go
inductive Cp where
 | num (c : Nat)
 | rest (k : Nat)
inductive AV where
 | bool (b : Bool)
 | int (k : IntKind) (n : Int)
 | str (s : List Nat)
 | ptr0
 | ptr (i o : Nat)
 | ptrK (i : Nat)
 | slc0 (c : Nat)
 | slc (i o len : Nat) (cap : Cp)
 | slcE
 | mp0
 | mp (i : Nat)
 | fn (f : Nat) (cap : List AV)
 | nilFn
 | ifc (t : Nat) (v : AV)
 | nilI
 | agg (l : List AV)
 | tup (l : List AV)
 | und
abbrev Sg := Nat → Option (Nat × Nat)
def Sg.le (σ σ' : Sg) : Prop := ∀ i x, σ i = some x → σ' i = some x
theorem Sg.le_refl (σ : Sg) : σ.le σ := fun _ _ h => h
theorem Sg.le_trans {a b c : Sg} (h : a.le b) (k : b.le c) : a.le c := fun i x e => k i x (h i x e)
def Cp.of (κ : Nat) : Cp → Nat
 | .num c => c
 | .rest k => κ - k
def bsN (l : List Nat) : ByteArray := bs (l.map UInt8.ofNat)
mutual
def Den (σ : Sg) : AV → Value → Prop
 | .bool b, V => V = .bool b
 | .int k n, V => V = .int k n
 | .str l, V => (∀ b ∈ l, b < 256) ∧ V = .string (bsN l)
 | .ptr0, V => V = .pointer none
 | .ptr i o, V => ∃ x, σ i = some x ∧ V = .pointer (some ⟨x.1, o, none⟩)
 | .ptrK i, V => ∃ x, σ i = some x ∧ V = .pointer (some ⟨x.1, x.2, none⟩)
 | .slc0 c, V => V = .slice none 0 c
 | .slc i o n c, V => ∃ x, σ i = some x ∧ V = .slice (some ⟨x.1, o, none⟩) n (c.of x.2)
 | .slcE, V => ∃ a c, V = .slice a 0 c
 | .mp0, V => V = .map none
 | .mp i, V => ∃ x, σ i = some x ∧ V = .map (some x.1)
 | .fn f l, V => ∃ L, DenL σ l L ∧ V = .func (.func f) #[] L.toArray
 | .nilFn, V => V = .nilFunc
 | .ifc t v, V => ∃ U, Den σ v U ∧ V = .iface t U
 | .nilI, V => V = .nilIface
 | .agg l, V => ∃ L, DenL σ l L ∧ V = .agg L.toArray
 | .tup l, V => ∃ L, DenL σ l L ∧ V = .tuple L.toArray
 | .und, V => True
def DenL (σ : Sg) : List AV → List Value → Prop
 | [], L => L = []
 | v :: l, L => ∃ U M, L = U :: M ∧ Den σ v U ∧ DenL σ l M
end
mutual
theorem Den.mono {σ σ' : Sg} (h : σ.le σ') : ∀ (v : AV) {V : Value}, Den σ v V → Den σ' v V
 | .bool _, V, k => by simpa [Den] using k
 | .int _ _, V, k => by simpa [Den] using k
 | .str _, V, k => by simpa [Den] using k
 | .ptr0, V, k => by simpa [Den] using k
 | .ptr i o, V, k => by
   simp only [Den] at k ⊢
   obtain ⟨x, e, rfl⟩ := k
   exact ⟨x, h i x e, rfl⟩
 | .ptrK i, V, k => by
   simp only [Den] at k ⊢
   obtain ⟨x, e, rfl⟩ := k
   exact ⟨x, h i x e, rfl⟩
 | .slc0 _, V, k => by simpa [Den] using k
 | .slc i o n c, V, k => by
   simp only [Den] at k ⊢
   obtain ⟨x, e, rfl⟩ := k
   exact ⟨x, h i x e, rfl⟩
 | .slcE, V, k => by simpa [Den] using k
 | .mp0, V, k => by simpa [Den] using k
 | .mp i, V, k => by
   simp only [Den] at k ⊢
   obtain ⟨x, e, rfl⟩ := k
   exact ⟨x, h i x e, rfl⟩
 | .fn f l, V, k => by
   simp only [Den] at k ⊢
   obtain ⟨L, e, rfl⟩ := k
   exact ⟨L, DenL.mono h l e, rfl⟩
 | .nilFn, V, k => by simpa [Den] using k
 | .ifc t v, V, k => by
   simp only [Den] at k ⊢
   obtain ⟨L, e, rfl⟩ := k
   exact ⟨L, Den.mono h v e, rfl⟩
 | .nilI, V, k => by simpa [Den] using k
 | .agg l, V, k => by
   simp only [Den] at k ⊢
   obtain ⟨L, e, rfl⟩ := k
   exact ⟨L, DenL.mono h l e, rfl⟩
 | .tup l, V, k => by
   simp only [Den] at k ⊢
   obtain ⟨L, e, rfl⟩ := k
   exact ⟨L, DenL.mono h l e, rfl⟩
 | .und, V, k => by simp only [Den]
theorem DenL.mono {σ σ' : Sg} (h : σ.le σ') : ∀ (l : List AV) {L : List Value}, DenL σ l L → DenL σ' l L
 | [], L, k => by simpa [DenL] using k
 | v :: l, L, k => by
   simp only [DenL] at k ⊢
   obtain ⟨U, M, rfl, k1, k2⟩ := k
   exact ⟨U, M, rfl, Den.mono h v k1, DenL.mono h l k2⟩
end
section
variable {σ : Sg}
theorem DenL.nil : DenL σ [] [] := by simp [DenL]
theorem DenL.cons {v : AV} {V : Value} {l : List AV} {L : List Value} (h : Den σ v V) (k : DenL σ l L) : DenL σ (v :: l) (V :: L) := by simp only [DenL]; exact ⟨V, L, rfl, h, k⟩
theorem DenL.inv {v : AV} {l : List AV} {L : List Value} (h : DenL σ (v :: l) L) : ∃ V M, L = V :: M ∧ Den σ v V ∧ DenL σ l M := by simpa only [DenL] using h
theorem DenL.inv0 {L : List Value} (h : DenL σ [] L) : L = [] := by simpa [DenL] using h
theorem DenL.length : ∀ {l : List AV} {L : List Value}, DenL σ l L → L.length = l.length
 | [], L, h => by rw [h.inv0]; rfl
 | v :: l, L, h => by
   obtain ⟨V, M, rfl, _, h2⟩ := h.inv
   simp [h2.length]
theorem DenL.get : ∀ {l : List AV} {L : List Value}, DenL σ l L → ∀ {i : Nat} {v : AV}, l[i]? = some v → ∃ V, L[i]? = some V ∧ Den σ v V
 | [], L, h, i, v, e => by simp at e
 | u :: l, L, h, i, v, e => by
   obtain ⟨V, M, rfl, h1, h2⟩ := h.inv
   cases i with
   | zero => simp at e; subst e; exact ⟨V, rfl, h1⟩
   | succ i => simp at e; simpa using h2.get e
theorem DenL.append : ∀ {l m : List AV} {L M : List Value}, DenL σ l L → DenL σ m M → DenL σ (l ++ m) (L ++ M)
 | [], m, L, M, h, k => by rw [h.inv0]; simpa using k
 | u :: l, m, L, M, h, k => by
   obtain ⟨V, N, rfl, h1, h2⟩ := h.inv
   exact .cons h1 (h2.append k)
theorem DenL.take : ∀ {l : List AV} {L : List Value} (n : Nat), DenL σ l L → DenL σ (l.take n) (L.take n)
 | l, L, 0, h => by simpa using DenL.nil
 | [], L, n + 1, h => by rw [h.inv0]; simpa using DenL.nil
 | u :: l, L, n + 1, h => by
   obtain ⟨V, N, rfl, h1, h2⟩ := h.inv
   exact .cons h1 (h2.take n)
theorem DenL.drop : ∀ {l : List AV} {L : List Value} (n : Nat), DenL σ l L → DenL σ (l.drop n) (L.drop n)
 | l, L, 0, h => by simpa using h
 | [], L, n + 1, h => by rw [h.inv0]; simpa using DenL.nil
 | u :: l, L, n + 1, h => by
   obtain ⟨V, N, rfl, h1, h2⟩ := h.inv
   simpa using h2.drop n
theorem DenL.set : ∀ {l : List AV} {L : List Value} (n : Nat) {v : AV} {V : Value}, DenL σ l L → Den σ v V → DenL σ (l.set n v) (L.set n V)
 | [], L, n, v, V, h, k => by rw [h.inv0]; simpa using DenL.nil
 | u :: l, L, n, v, V, h, k => by
   obtain ⟨U, N, rfl, h1, h2⟩ := h.inv
   cases n with
   | zero => exact .cons k h2
   | succ n => exact .cons h1 (h2.set n k)
end
def Glb (σ : Sg) : Prop := ∀ g, g < 100 → σ g = some (g, 0)
theorem Glb.mono {σ σ' : Sg} (h : Glb σ) (k : σ.le σ') : Glb σ' := fun g hg => k g _ (h g hg)
structure SlR (σ : Sg) (s : Fr AV) (ρ : jh) : Prop where
 get : ∀ d v, s.get d = some v → ∃ V, ρ.lookup d = some V ∧ Den σ v V
 glb : Glb σ
theorem SlR.mono {σ σ' : Sg} {s : Fr AV} {ρ : jh} (h : SlR σ s ρ) (k : σ.le σ') : SlR σ' s ρ := ⟨fun d v e => by
 obtain ⟨V, h1, h2⟩ := h.get d v e
 exact ⟨V, h1, h2.mono k v⟩, h.glb.mono k⟩
theorem SlR.leaf {σ : Sg} {thr : Nat} {ρ : jh} (hg : Glb σ) : SlR σ (.base thr .leaf) ρ := ⟨fun d v h => (by
 rw [Fr.get_base, Tr.get_leaf] at h
 split at h <;> cases h), hg⟩
theorem SlR.put {σ : Sg} {s : Fr AV} {ρ : jh} (h : SlR σ s ρ) {d : Nat} {v : AV} {V : Value} (k : Den σ v V) : SlR σ (.put d v s) ((d, V) :: ρ) := ⟨fun m u e => by
 rw [Fr.get_put] at e
 by_cases c : d = m
 · rw [if_pos c] at e
   cases e
   subst c
   exact ⟨V, by simp [List.lookup_cons], k⟩
 · rw [if_neg c] at e
   obtain ⟨U, h1, h2⟩ := h.get m u e
   have c' : (m == d) = false := by simpa using fun x => c x.symm
   exact ⟨U, by rw [List.lookup_cons, c']; exact h1, h2⟩, h.glb⟩
theorem SlR.flush {σ : Sg} {s : Fr AV} {ρ : jh} (h : SlR σ s ρ) (ht : s.thr ≤ 1000000) : SlR σ (.base s.thr s.tree) ρ := ⟨fun m u e => (by
 rw [Fr.get_base] at e
 split at e
 · rename_i hm
   exact h.get m u (s.tree_get ht m u hm e)
 · cases e), h.glb⟩
end
section
open Go
def KD : List UInt8 → List Nat
 | [] => []
 | b :: l => b.toNat :: KD l
theorem Qp : ∀ l : List UInt8, (KD l).map UInt8.ofNat = l
 | [] => rfl
 | b :: l => by simp [KD, Qp l]
theorem Wx : ∀ l : List UInt8, ∀ b ∈ KD l, b < 256
 | [], b, h => by simp [KD] at h
 | c :: l, b, h => by
   rcases List.mem_cons.1 (show b ∈ c.toNat :: KD l from h) with rfl | h
   · exact c.toNat_lt
   · exact Wx l b h
theorem acz (s : ByteArray) : bsN (KD s.data.toList) = s := by
 unfold bsN bs
 rw [Qp]
mutual
def ofV : Value → AV
 | .bool b => .bool b
 | .int k n => .int k n
 | .string s => .str (KD s.data.toList)
 | .pointer none => .ptr0
 | .slice none 0 c => .slc0 c
 | .map none => .mp0
 | .nilFunc => .nilFn
 | .iface t v => .ifc t (ofV v)
 | .nilIface => .nilI
 | .agg ⟨l⟩ => .agg (ofL l)
 | .tuple ⟨l⟩ => .tup (ofL l)
 | _ => .und
def ofL : List Value → List AV
 | [] => []
 | v :: l => ofV v :: ofL l
end
mutual
theorem zJ (σ : Sg) : ∀ v : Value, Den σ (ofV v) v
 | .bool b => by simp [ofV, Den]
 | .int k n => by simp [ofV, Den]
 | .string s => by simp only [ofV, Den]; exact ⟨Wx _, by rw [acz]⟩
 | .pointer none => by simp [ofV, Den]
 | .pointer (some a) => by simp [ofV, Den]
 | .slice none 0 c => by simp [ofV, Den]
 | .slice none (n + 1) c => by simp [ofV, Den]
 | .slice (some a) n c => by simp [ofV, Den]
 | .map none => by simp [ofV, Den]
 | .map (some a) => by simp [ofV, Den]
 | .nilFunc => by simp [ofV, Den]
 | .iface t v => by simp only [ofV, Den]; exact ⟨v, zJ σ v, rfl⟩
 | .nilIface => by simp [ofV, Den]
 | .agg ⟨l⟩ => by simp only [ofV, Den]; exact ⟨l, ud σ l, rfl⟩
 | .tuple ⟨l⟩ => by simp only [ofV, Den]; exact ⟨l, ud σ l, rfl⟩
 | .float _ _ => by simp [ofV, Den]
 | .complex _ _ _ => by simp [ofV, Den]
 | .chan _ => by simp [ofV, Den]
 | .func _ _ _ => by simp [ofV, Den]
theorem ud (σ : Sg) : ∀ l : List Value, DenL σ (ofL l) l
 | [] => by simp [ofL, DenL]
 | v :: l => by simp only [ofL]; exact .cons (zJ σ v) (ud σ l)
end
noncomputable def opd (s : Fr AV) (x : Operand) : Option AV := match x with
 | .tmp t => s.get t
 | .const v => some (ofV v)
 | .global g => Bool.rec none (some (.ptr g 0)) (Nat.blt g 100)
 | .func f => some (.fn f [])
theorem ju {σ : Sg} {s : Fr AV} {ρ : jh} (h : SlR σ s ρ) {x : Operand} {v : AV} (e : opd s x = some v) : ∃ V, ev ρ x = some V ∧ Den σ v V := by
 cases x with
 | tmp t => exact h.get t v e
 | const c => cases e; exact ⟨c, rfl, zJ σ c⟩
 | global g =>
   have e : Bool.rec none (some (AV.ptr g 0)) (Nat.blt g 100) = some v := e
   cases hb : Nat.blt g 100 with
   | false => rw [hb] at e; cases e
   | true =>
     rw [hb] at e
     cases e
     have hg : g < 100 := by simpa using hb
     exact ⟨_, rfl, by simp only [Den]; exact ⟨(g, 0), h.glb g hg, rfl⟩⟩
 | func f => cases e; exact ⟨_, rfl, by simp only [Den]; exact ⟨[], DenL.nil, rfl⟩⟩
noncomputable def opds (s : Fr AV) (l : List Operand) : Option (List AV) := List.rec (some []) (fun x _ ih => Option.rec none (fun v => Option.rec none (fun vs => some (v :: vs)) ih) (opd s x)) l
theorem zK {σ : Sg} {s : Fr AV} {ρ : jh} (h : SlR σ s ρ) : ∀ {l : List Operand} {vs : List AV}, opds s l = some vs → ∃ Vs, km ρ l = some Vs ∧ DenL σ vs Vs
 | [], vs, e => by cases e; exact ⟨[], rfl, DenL.nil⟩
 | x :: l, vs, e => by
   have e : Option.rec none (fun v => Option.rec none (fun vs => some (v :: vs)) (opds s l)) (opd s x) = some vs := e
   cases e1 : opd s x with
   | none => rw [e1] at e; cases e
   | some v =>
     rw [e1] at e
     cases e2 : opds s l with
     | none => rw [e2] at e; cases e
     | some us =>
       rw [e2] at e
       cases e
       obtain ⟨V, h1, h2⟩ := ju h e1
       obtain ⟨Vs, h3, h4⟩ := zK h e2
       exact ⟨V :: Vs, by simp [km, h1, h3], .cons h2 h4⟩
inductive AO where
 | cells (l : List AV) (e : Nat)
 | row (l : List AV) (n e sz lo : Nat)
 | rowF (l : List AV) (n e : Nat)
 | map (l : List (AV × AV))
 | it (i : Nat)
def Stm (es : Array MapEntry) (clock : Nat) : Prop := (∀ x ∈ es.toList, x.born < clock) ∧ (es.toList.map (·.born)).Nodup
theorem Stm.nil (clock : Nat) : Stm #[] clock := ⟨by simp, by simp⟩
theorem Stm.push {es : Array MapEntry} {clock : Nat} (h : Stm es clock) (key val : Value) : Stm (es.push { key, val, born := clock }) (clock + 1) := by
 obtain ⟨h1, h2⟩ := h
 refine ⟨fun x hx => ?_, ?_⟩
 · rw [Array.toList_push, List.mem_append] at hx
   rcases hx with hx | hx
   · have := h1 x hx; omega
   · obtain rfl : x = _ := by simpa using hx
     exact Nat.lt_succ_self _
 · rw [Array.toList_push, List.map_append, List.nodup_append]
   refine ⟨h2, by simp, fun a ha b hb => ?_⟩
   obtain ⟨x, hx, rfl⟩ := List.mem_map.1 ha
   obtain rfl : b = clock := by simpa using hb
   have := h1 x hx
   omega
theorem Stm.modify {es : Array MapEntry} {clock : Nat} (h : Stm es clock) (i : Nat) (f : MapEntry → MapEntry) (hf : ∀ e, (f e).born = e.born) : Stm (es.modify i f) clock := by
 have e : (es.modify i f).toList.map (·.born) = es.toList.map (·.born) := by
  apply List.ext_getElem?
  intro n
  simp only [List.getElem?_map, Array.getElem?_toList, Array.getElem?_modify]
  by_cases c : i = n
  · subst c; cases es[i]? <;> simp [hf]
  · simp [c]
 refine ⟨fun x hx => ?_, by rw [e]; exact h.2⟩
 have hx' : x.born ∈ (es.modify i f).toList.map (·.born) := List.mem_map.2 ⟨x, hx, rfl⟩
 rw [e] at hx'
 obtain ⟨y, hy, e2⟩ := List.mem_map.1 hx'
 rw [← e2]
 exact h.1 y hy
theorem Stm.sub {es es' : Array MapEntry} {clock : Nat} (h : Stm es clock) (hs : es'.toList.Sublist es.toList) : Stm es' clock :=
 ⟨fun x hx => h.1 x (hs.subset hx), (hs.map _).nodup h.2⟩
def DenM (σ : Sg) : List (AV × AV) → List MapEntry → Prop
 | [], L => L = []
 | p :: l, L => ∃ e M, L = e :: M ∧ Den σ p.1 e.key ∧ Den σ p.2 e.val ∧ DenM σ l M
theorem DenM.mono {σ σ' : Sg} (h : σ.le σ') : ∀ (l : List (AV × AV)) {L : List MapEntry}, DenM σ l L → DenM σ' l L
 | [], L, k => by simpa [DenM] using k
 | p :: l, L, k => by
   simp only [DenM] at k ⊢
   obtain ⟨e, M, rfl, k1, k2, k3⟩ := k
   exact ⟨e, M, rfl, Den.mono h _ k1, Den.mono h _ k2, DenM.mono h l k3⟩
def DenO (σ : Sg) (κ : Nat) : AO → Obj → Prop
 | .cells l e, O => ∃ L : List Value, DenL σ l L ∧ O = .cells L.toArray e (0, 0)
 | .row l n e sz lo, O => ∃ (L : List Value) (cur : Array Value), DenL σ l L ∧ O = .cells cur e (0, 0) ∧ l.length = n * sz ∧ n ≤ κ ∧ lo ≤ κ ∧ κ ≤ maxLen ∧ cur.size = κ * sz ∧ cur.toList.take (n * sz) = L
 | .rowF l n e, O => ∃ (L : List Value) (cur : Array Value) (fr : Nat × Nat), DenL σ l L ∧ O = .cells cur e fr ∧ l.length = n ∧ n ≤ κ ∧ κ ≤ maxLen ∧ cur.size = κ ∧ cur.toList.take n = L ∧ (fr = (0, 0) ∨ κ ≤ fr.1)
 | .map l, O => ∃ (es : Array MapEntry) (clock : Nat), (DenM σ l es.toList ∧ Stm es clock) ∧ O = .map es clock
 | .it i, O => ∃ (x : Nat × Nat) (since : Nat) (seen : Array Nat) (last : Nat), σ i = some x ∧ O = .mapIter (some x.1) since seen last
theorem DenO.mono {σ σ' : Sg} (h : σ.le σ') {κ : Nat} {o : AO} {O : Obj} (k : DenO σ κ o O) : DenO σ' κ o O := by
 cases o with
 | cells l e => obtain ⟨L, h1, h2⟩ := k; exact ⟨L, h1.mono h _, h2⟩
 | row l n e sz lo => obtain ⟨L, cur, h1, h2⟩ := k; exact ⟨L, cur, h1.mono h _, h2⟩
 | rowF l n e => obtain ⟨L, cur, fr, h1, h2⟩ := k; exact ⟨L, cur, fr, h1.mono h _, h2⟩
 | map l => obtain ⟨es, c, ⟨h1, h3⟩, h2⟩ := k; exact ⟨es, c, ⟨h1.mono h _, h3⟩, h2⟩
 | it i => obtain ⟨x, a, b, c, h1, h2⟩ := k; exact ⟨x, a, b, c, h i x h1, h2⟩
structure Mem where
 h : Tr AO
 nx : Nat
structure Fm where
 b : ja
 z : Nat → Option AO
 d : Nat → Prop
def yq (σ : Sg) (m : Mem) (L : ja) : Prop := ∀ i o x, m.h.get i = some o → σ i = some x → ∃ O, DenO σ x.2 o O ∧ (x.1, O) ∈ L
structure MemR (σ : Sg) (m : Mem) (F : Fm) (L : ja) : Prop where
 get : yq σ m L
 inj : ∀ i j o o' x y, m.h.get i = some o → m.h.get j = some o' → σ i = some x → σ j = some y → x.1 = y.1 → i = j
 frame : ∀ p ∈ F.b, p ∈ L
 apart : ∀ i o x, m.h.get i = some o → σ i = some x → ∀ p ∈ F.b, p.1 ≠ x.1
 ghost : ∀ i o, F.z i = some o → σ i = none ∧ m.h.get i = some o ∧ i < m.nx
 fresh : ∀ i, m.nx ≤ i → σ i = none
 below : ∀ i o, m.h.get i = some o → i < m.nx
 glb : Glb σ
 dead : ∀ i, F.d i → σ i = none ∧ F.z i = none ∧ i < m.nx
def Sg.put (σ : Sg) (i b κ : Nat) : Sg := fun j => if j = i then some (b, κ) else σ j
theorem Sg.put_le {σ : Sg} {i b κ : Nat} (h : σ i = none) : σ.le (σ.put i b κ) := fun j x e => by
 unfold Sg.put
 by_cases c : j = i
 · subst c; rw [h] at e; cases e
 · rw [if_neg c]; exact e
theorem MemR.new {σ : Sg} {m : Mem} {F : Fm} {L : ja} (h : MemR σ m F L) {o : AO} {O : Obj} {b κ : Nat} (hb : ∀ p ∈ L, p.1 ≠ b) (hn : m.nx + 1 < 2 ^ 20) (hO : DenO (σ.put m.nx b κ) κ o O) : MemR (σ.put m.nx b κ) ⟨m.h.set 20 m.nx o, m.nx + 1⟩ F ((b, O) :: L) := by
 have hf := h.fresh m.nx (Nat.le_refl _)
 have hle := Sg.put_le (b := b) (κ := κ) hf
 have hp : ∀ i, i ≠ m.nx → σ.put m.nx b κ i = σ i := fun i hi => if_neg hi
 have hs : σ.put m.nx b κ m.nx = some (b, κ) := if_pos rfl
 have hg := Tr.get_set 20 m.h m.nx o hn
 refine ⟨fun i u x e ex => ?_, fun i j u u' x y e e' ex ey exy => ?_, fun p hp => List.mem_cons_of_mem _ (h.frame p hp), fun i u x e ex p hp' => ?_, fun i u e => ?_, fun i hi => ?_, fun i u e => ?_, h.glb.mono hle, fun i e => (by obtain ⟨h1, h2, h3⟩ := h.dead i e; exact ⟨by rw [hp i (by omega)]; exact h1, h2, by dsimp only; omega⟩)⟩
 · dsimp only at e
   rw [hg] at e
   by_cases c : i = m.nx
   · rw [if_pos c] at e
     cases e
     subst c
     rw [hs] at ex
     cases ex
     exact ⟨O, hO, List.mem_cons_self ..⟩
   · rw [if_neg c] at e
     rw [hp i c] at ex
     obtain ⟨U, h2, h3⟩ := h.get i u x e ex
     exact ⟨U, h2.mono hle, List.mem_cons_of_mem _ h3⟩
 · dsimp only at e e'
   rw [hg] at e e'
   by_cases c : i = m.nx
   · subst c
     by_cases c' : j = m.nx
     · exact c'.symm
     · rw [if_neg c'] at e'
       rw [hs] at ex
       cases ex
       rw [hp j c'] at ey
       obtain ⟨U, _, h3⟩ := h.get j u' y e' ey
       exact absurd exy.symm (hb _ h3)
   · rw [if_neg c] at e
     rw [hp i c] at ex
     by_cases c' : j = m.nx
     · subst c'
       rw [hs] at ey
       cases ey
       obtain ⟨U, _, h3⟩ := h.get i u x e ex
       exact absurd exy (hb _ h3)
     · rw [if_neg c'] at e'
       rw [hp j c'] at ey
       exact h.inj i j u u' x y e e' ex ey exy
 · dsimp only at e
   rw [hg] at e
   by_cases c : i = m.nx
   · subst c
     rw [hs] at ex
     cases ex
     exact hb p (h.frame p hp')
   · rw [if_neg c] at e
     rw [hp i c] at ex
     exact h.apart i u x e ex p hp'
 · obtain ⟨h1, h2, h3⟩ := h.ghost i u e
   have c : i ≠ m.nx := by omega
   exact ⟨by rw [hp i c]; exact h1, by dsimp only; rw [hg, if_neg c]; exact h2, by dsimp only; omega⟩
 · rw [hp i (by dsimp only at hi; omega)]
   exact h.fresh i (by dsimp only at hi; omega)
 · dsimp only at e ⊢
   rw [hg] at e
   by_cases c : i = m.nx
   · omega
   · rw [if_neg c] at e
     have := h.below i u e
     omega
theorem MemR.write {σ : Sg} {m : Mem} {F : Fm} {L R : ja} (h : MemR σ m F L) {i : Nat} {o : AO} {x : Nat × Nat} {O O' : Obj} {o' : AO} (hi : m.h.get i = some o) (hx : σ i = some x) (hL : L.Perm ((x.1, O) :: R)) (hn : i + 1 < 2 ^ 20) (hO : DenO σ x.2 o' O') :
 MemR σ ⟨m.h.set 20 i o', m.nx⟩ F ((x.1, O') :: R) := by
 have hg := Tr.get_set 20 m.h i o' hn
 have hmem : ∀ p, p ∈ L → p.1 ≠ x.1 → p ∈ (x.1, O') :: R := fun p hp hne => by
  rcases List.mem_cons.1 (hL.mem_iff.1 hp) with e | e
  · exact absurd (by rw [e]) hne
  · exact List.mem_cons_of_mem _ e
 refine ⟨fun j u y e ey => ?_, fun j k u u' y z e e' ey ez hyz => ?_, fun p hp => hmem p (h.frame p hp) (h.apart i o x hi hx p hp), fun j u y e ey p hp => ?_, fun j u e => ?_, h.fresh, fun j u e => ?_, h.glb, h.dead⟩
 · dsimp only at e
   rw [hg] at e
   by_cases c : j = i
   · rw [if_pos c] at e
     cases e
     subst c
     rw [hx] at ey
     cases ey
     exact ⟨O', hO, List.mem_cons_self ..⟩
   · rw [if_neg c] at e
     obtain ⟨U, h2, h3⟩ := h.get j u y e ey
     exact ⟨U, h2, hmem _ h3 fun k => c (h.inj j i u o y x e hi ey hx k)⟩
 · have f : ∀ j u, (m.h.set 20 i o').get j = some u → ∃ v, m.h.get j = some v := fun j u e => by
    rw [hg] at e
    by_cases c : j = i
    · subst c; exact ⟨o, hi⟩
    · rw [if_neg c] at e; exact ⟨u, e⟩
   obtain ⟨v, hv⟩ := f j u e
   obtain ⟨v', hv'⟩ := f k u' e'
   exact h.inj j k v v' y z hv hv' ey ez hyz
 · dsimp only at e
   rw [hg] at e
   by_cases c : j = i
   · subst c
     rw [hx] at ey
     cases ey
     exact h.apart j o x hi hx p hp
   · rw [if_neg c] at e
     exact h.apart j u y e ey p hp
 · obtain ⟨h1, h2, h3⟩ := h.ghost j u e
   have c : j ≠ i := fun c => by rw [c, hx] at h1; cases h1
   exact ⟨h1, by dsimp only; rw [hg, if_neg c]; exact h2, h3⟩
 · dsimp only at e ⊢
   rw [hg] at e
   by_cases c : j = i
   · subst c; exact h.below j o hi
   · rw [if_neg c] at e; exact h.below j u e
theorem MemR.plan {σ : Sg} {m : Mem} {F : Fm} {L : ja} (h : MemR σ m F L) (o : AO) (hn : m.nx + 1 < 2 ^ 20) : MemR σ ⟨m.h.set 20 m.nx o, m.nx + 1⟩ ⟨F.b, fun j => if j = m.nx then some o else F.z j, F.d⟩ L := by
 have hf := h.fresh m.nx (Nat.le_refl _)
 have hg := Tr.get_set 20 m.h m.nx o hn
 have hne : ∀ i x, σ i = some x → i ≠ m.nx := fun i x e c => by rw [c, hf] at e; cases e
 refine ⟨fun i u x e ex => ?_, fun i j u u' x y e e' ex ey exy => ?_, h.frame, fun i u x e ex p hp' => ?_, fun i u e => ?_, fun i hi => h.fresh i (by dsimp only at hi; omega), fun i u e => ?_, h.glb, fun i e => (by obtain ⟨h1, h2, h3⟩ := h.dead i e; exact ⟨h1, by dsimp only; rw [if_neg (by omega)]; exact h2, by dsimp only; omega⟩)⟩
 · dsimp only at e
   rw [hg, if_neg (hne i x ex)] at e
   exact h.get i u x e ex
 · dsimp only at e e'
   rw [hg, if_neg (hne i x ex)] at e
   rw [hg, if_neg (hne j y ey)] at e'
   exact h.inj i j u u' x y e e' ex ey exy
 · dsimp only at e
   rw [hg, if_neg (hne i x ex)] at e
   exact h.apart i u x e ex p hp'
 · dsimp only at e ⊢
   by_cases c : i = m.nx
   · rw [if_pos c] at e
     cases e
     subst c
     exact ⟨hf, by rw [hg, if_pos rfl], by omega⟩
   · rw [if_neg c] at e
     obtain ⟨h1, h2, h3⟩ := h.ghost i u e
     exact ⟨h1, by rw [hg, if_neg c]; exact h2, by omega⟩
 · dsimp only at e ⊢
   rw [hg] at e
   by_cases c : i = m.nx
   · omega
   · rw [if_neg c] at e
     have := h.below i u e
     omega
theorem MemR.real {σ : Sg} {m : Mem} {F : Fm} {L : ja} (h : MemR σ m F L) {i : Nat} {o : AO} {O : Obj} {b κ : Nat} (hz : F.z i = some o) (hb : ∀ p ∈ L, p.1 ≠ b) (hO : DenO (σ.put i b κ) κ o O) : MemR (σ.put i b κ) m ⟨F.b, fun j => if j = i then none else F.z j, F.d⟩ ((b, O) :: L) := by
 obtain ⟨hf, hi, hlt⟩ := h.ghost i o hz
 have hle := Sg.put_le (b := b) (κ := κ) hf
 have hp : ∀ j, j ≠ i → σ.put i b κ j = σ j := fun j hj => if_neg hj
 have hs : σ.put i b κ i = some (b, κ) := if_pos rfl
 refine ⟨fun j u x e ex => ?_, fun j k u u' x y e e' ex ey exy => ?_, fun p hp => List.mem_cons_of_mem _ (h.frame p hp), fun j u x e ex p hp' => ?_, fun j u e => ?_, fun j hj => ?_, h.below, h.glb.mono hle, fun j e => (by obtain ⟨h1, h2, h3⟩ := h.dead j e; have c : j ≠ i := (fun c => by rw [c, hz] at h2; cases h2); exact ⟨by rw [hp j c]; exact h1, by dsimp only; rw [if_neg c]; exact h2, h3⟩)⟩
 · by_cases c : j = i
   · subst c
     rw [hi] at e
     cases e
     rw [hs] at ex
     cases ex
     exact ⟨O, hO, List.mem_cons_self ..⟩
   · rw [hp j c] at ex
     obtain ⟨U, h2, h3⟩ := h.get j u x e ex
     exact ⟨U, h2.mono hle, List.mem_cons_of_mem _ h3⟩
 · by_cases c : j = i
   · subst c
     by_cases c' : k = j
     · exact c'.symm
     · rw [hs] at ex
       cases ex
       rw [hp k c'] at ey
       obtain ⟨U, _, h3⟩ := h.get k u' y e' ey
       exact absurd exy.symm (hb _ h3)
   · rw [hp j c] at ex
     by_cases c' : k = i
     · subst c'
       rw [hs] at ey
       cases ey
       obtain ⟨U, _, h3⟩ := h.get j u x e ex
       exact absurd exy (hb _ h3)
     · rw [hp k c'] at ey
       exact h.inj j k u u' x y e e' ex ey exy
 · by_cases c : j = i
   · subst c
     rw [hs] at ex
     cases ex
     exact hb p (h.frame p hp')
   · rw [hp j c] at ex
     exact h.apart j u x e ex p hp'
 · dsimp only at e
   by_cases c : j = i
   · rw [if_pos c] at e; cases e
   · rw [if_neg c] at e
     obtain ⟨h1, h2, h3⟩ := h.ghost j u e
     exact ⟨by rw [hp j c]; exact h1, h2, h3⟩
 · rw [hp j (by omega)]
   exact h.fresh j hj
theorem MemR.ghosts {σ : Sg} {m : Mem} {F : Fm} {L : ja} (h : MemR σ m F L) {z : Nat → Option AO} (hz : ∀ i o, z i = some o → F.z i = some o) : MemR σ m ⟨F.b, z, F.d⟩ L :=
 ⟨h.get, h.inj, h.frame, h.apart, fun i o e => h.ghost i o (hz i o e), h.fresh, h.below, h.glb, fun i e => (by obtain ⟨h1, h2, h3⟩ := h.dead i e; refine ⟨h1, ?_, h3⟩; show z i = none; cases hzi : z i with | none => rfl | some o => rw [hz i o hzi] at h2; cases h2)⟩
end
section
open Go
theorem uJ : ∀ {l m : List Nat}, (∀ b ∈ l, b < 256) → (∀ b ∈ m, b < 256) → l.map UInt8.ofNat = m.map UInt8.ofNat → l = m
 | [], [], _, _, _ => rfl
 | [], _ :: _, _, _, h => by simp at h
 | _ :: _, [], _, _, h => by simp at h
 | a :: l, b :: m, hl, hm, h => by
   simp only [List.map_cons, List.cons.injEq] at h
   have h1 : a = b := by
    have := congrArg UInt8.toNat h.1
    simpa [UInt8.toNat_ofNat', Nat.mod_eq_of_lt (hl a (List.mem_cons_self ..)), Nat.mod_eq_of_lt (hm b (List.mem_cons_self ..))] using this
   rw [h1, uJ (fun c hc => hl c (List.mem_cons_of_mem _ hc)) (fun c hc => hm c (List.mem_cons_of_mem _ hc)) h.2]
noncomputable def beqN : List Nat → List Nat → Bool := fun l => List.rec (motive := fun _ => List Nat → Bool) (fun m => List.rec (motive := fun _ => Bool) true (fun _ _ _ => false) m) (fun a _ ih m => List.rec (motive := fun _ => Bool) false (fun b m _ => Bool.rec false (ih m) (Nat.beq a b)) m) l
theorem yr : ∀ l m : List Nat, beqN l m = decide (l = m)
 | [], [] => rfl
 | [], _ :: _ => rfl
 | _ :: _, [] => rfl
 | a :: l, b :: m => by
   have h : beqN (a :: l) (b :: m) = Bool.rec false (beqN l m) (Nat.beq a b) := rfl
   rw [h]
   by_cases e : a = b
   · rw [bqT e, yr l m]
     simp [e]
   · rw [bqF e]
     simp [e]
theorem Y8 {l m : List Nat} (hl : ∀ b ∈ l, b < 256) (hm : ∀ b ∈ m, b < 256) : (l.map UInt8.ofNat == m.map UInt8.ofNat) = beqN l m := by
 rw [yr]
 by_cases e : l = m
 · subst e; simp
 · rw [decide_eq_false e]
   exact beq_false_of_ne fun h => e (uJ hl hm h)
noncomputable def ltN : List Nat → List Nat → Bool := fun l => List.rec (motive := fun _ => List Nat → Bool) (fun m => List.rec (motive := fun _ => Bool) false (fun _ _ _ => true) m) (fun a _ ih m => List.rec (motive := fun _ => Bool) false (fun b m _ => Bool.rec (Nat.ble (Nat.succ a) b) (ih m) (Nat.beq a b)) m) l
theorem ahI {a b : Nat} (ha : a < 256) (hb : b < 256) : (UInt8.ofNat a < UInt8.ofNat b) ↔ a < b := by
 rw [UInt8.lt_iff_toNat_lt, UInt8.toNat_ofNat', UInt8.toNat_ofNat', Nat.mod_eq_of_lt ha, Nat.mod_eq_of_lt hb]
theorem ahJ {a b : Nat} (ha : a < 256) (hb : b < 256) : (UInt8.ofNat a = UInt8.ofNat b) ↔ a = b := by
 constructor
 · intro h
   have := congrArg UInt8.toNat h
   rwa [UInt8.toNat_ofNat', UInt8.toNat_ofNat', Nat.mod_eq_of_lt ha, Nat.mod_eq_of_lt hb] at this
 · intro h; rw [h]
theorem Y9 : ∀ {l m : List Nat}, (∀ b ∈ l, b < 256) → (∀ b ∈ m, b < 256) → ltN l m = Op.bytesLess (l.map UInt8.ofNat) (m.map UInt8.ofNat)
 | [], [], _, _ => rfl
 | [], _ :: _, _, _ => rfl
 | _ :: _, [], _, _ => rfl
 | a :: l, b :: m, hl, hm => by
   have h : ltN (a :: l) (b :: m) = Bool.rec (Nat.ble (Nat.succ a) b) (ltN l m) (Nat.beq a b) := rfl
   have ha := hl a (List.mem_cons_self ..)
   have hb := hm b (List.mem_cons_self ..)
   rw [h, Y9 (fun c hc => hl c (List.mem_cons_of_mem _ hc)) fun c hc => hm c (List.mem_cons_of_mem _ hc)]
   simp only [List.map_cons, Op.bytesLess]
   by_cases e : a = b
   · subst e
     rw [bqT rfl]
     simp
   · rw [bqF e]
     have e2 : (UInt8.ofNat a == UInt8.ofNat b) = false := beq_false_of_ne fun h => e ((ahJ ha hb).1 h)
     rw [e2, Bool.false_and, Bool.or_false]
     show Nat.ble (a + 1) b = decide (UInt8.ofNat a < UInt8.ofNat b)
     rw [decide_eq_decide.2 (ahI ha hb)]
     by_cases c : a < b
     · rw [decide_eq_true c]; exact Nat.ble_eq_true_of_le c
     · rw [decide_eq_false c]
       cases h : Nat.ble (a + 1) b with
       | false => rfl
       | true => exact absurd (Nat.le_of_ble_eq_true h) c
noncomputable def appN {α : Type} (l m : List α) : List α := List.rec m (fun x _ ih => x :: ih) l
theorem u6 {α : Type} : ∀ l m : List α, appN l m = l ++ m
 | [], _ => rfl
 | x :: l, m => congrArg (x :: ·) (u6 l m)
noncomputable def lenF {α : Type} (l : List α) : Nat := List.rec 0 (fun _ _ ih => Nat.succ ih) l
theorem Vt {α : Type} : ∀ l : List α, lenF l = l.length
 | [] => rfl
 | _ :: l => congrArg Nat.succ (Vt l)
def aeG : IntKind → Nat
 | .i8 => 127
 | .i16 => 32767
 | .i32 => 2147483647
 | .i64 => 9223372036854775807
 | .u8 => 255
 | .u16 => 65535
 | .u32 => 4294967295
 | .u64 => 18446744073709551615
theorem aa3 {k : IntKind} {n : Nat} (h : n ≤ aeG k) : k.wrap (Int.ofNat n) = Int.ofNat n := by
 have e : (Int.ofNat n) = (n : Int) := rfl
 cases k <;> simp only [aeG] at h <;> simp only [IntKind.wrap, IntKind.bits, IntKind.signed, e, Nat.reduceSub, Int.reducePow, Bool.true_and, Bool.false_and, decide_eq_true_eq, Bool.false_eq_true, if_false] <;> first | omega | (split <;> omega)
noncomputable def wrapN (k : IntKind) (n : Nat) : AV := Bool.rec (.int k (k.wrap (Int.ofNat n))) (.int k (Int.ofNat n)) (Nat.ble n (aeG k))
theorem qj (k : IntKind) (n : Nat) : wrapN k n = .int k (k.wrap (Int.ofNat n)) := by
 unfold wrapN
 cases h : Nat.ble n (aeG k) with
 | false => rfl
 | true => rw [aa3 (Nat.le_of_ble_eq_true h)]
def acA : IntKind → Nat
 | .i8 => 8
 | .i16 => 16
 | .i32 => 32
 | .i64 => 64
 | .u8 => 8
 | .u16 => 16
 | .u32 => 32
 | .u64 => 64
theorem Wy (k : IntKind) : acA k = k.bits := by cases k <;> rfl
def Ug : IntKind → Nat
 | .i8 => 256
 | .i16 => 65536
 | .i32 => 4294967296
 | .i64 => 18446744073709551616
 | .u8 => 256
 | .u16 => 65536
 | .u32 => 4294967296
 | .u64 => 18446744073709551616
theorem K8 (k : IntKind) : Ug k = 2 ^ k.bits := by cases k <;> rfl
noncomputable def minN (a b : Nat) : Nat := Bool.rec b a (Nat.ble a b)
theorem aaa (a b : Nat) : minN a b = min a b := by
 unfold minN
 cases h : Nat.ble a b with
 | true => exact (Nat.min_eq_left (Nat.le_of_ble_eq_true h)).symm
 | false => exact (Nat.min_eq_right (by
    rcases Nat.le_total b a with h1 | h1
    · exact h1
    · rw [Nat.ble_eq_true_of_le h1] at h; cases h)).symm
noncomputable def binI (o : BinOp) (k : IntKind) (a b : Nat) : Option AV := match o with
 | .add => some (wrapN k (Nat.add a b))
 | .sub => some (Bool.rec (.int k (k.wrap (Int.ofNat a - Int.ofNat b))) (wrapN k (Nat.sub a b)) (Nat.ble b a))
 | .mul => some (wrapN k (Nat.mul a b))
 | .eql => some (.bool (Nat.beq a b))
 | .neq => some (.bool (Bool.rec true false (Nat.beq a b)))
 | .lss => some (.bool (Nat.ble (Nat.succ a) b))
 | .leq => some (.bool (Nat.ble a b))
 | .gtr => some (.bool (Nat.ble (Nat.succ b) a))
 | .geq => some (.bool (Nat.ble b a))
 | .rem => Bool.rec (some (.int k (Int.ofNat (Nat.mod a b)))) none (Nat.beq b 0)
 | .quo => Bool.rec (some (wrapN k (Nat.div a b))) none (Nat.beq b 0)
 | .and => some (wrapN k (Nat.land (Nat.mod a (Ug k)) (Nat.mod b (Ug k))))
 | .or => some (wrapN k (Nat.lor (Nat.mod a (Ug k)) (Nat.mod b (Ug k))))
 | .xor => some (wrapN k (Nat.xor (Nat.mod a (Ug k)) (Nat.mod b (Ug k))))
 | .andNot => some (wrapN k (Nat.land (Nat.mod a (Ug k)) (Nat.sub (Nat.sub (Ug k) 1) (Nat.mod b (Ug k)))))
 | _ => none
noncomputable def shA (o : BinOp) (k : IntKind) (a b : Int) (d : Option AV) : Option AV := match o with
 | .shl => (match a, b with
   | .ofNat a, .ofNat b => some (wrapN k (Nat.mul a (Nat.pow 2 (minN b (acA k)))))
   | _, _ => none)
 | .shr => (match a, b with
   | .ofNat a, .ofNat b => some (.int k (Int.ofNat (Nat.div a (Nat.pow 2 (minN b (acA k))))))
   | _, _ => none)
 | _ => d
noncomputable def binZ (o : BinOp) (k : IntKind) (a b : Int) : Option AV := match o with
 | .add => some (.int k (k.wrap (a + b)))
 | .sub => some (.int k (k.wrap (a - b)))
 | .mul => some (.int k (k.wrap (a * b)))
 | .eql => some (.bool (decide (a = b)))
 | .neq => some (.bool (!decide (a = b)))
 | .lss => some (.bool (decide (a < b)))
 | .leq => some (.bool (decide (a ≤ b)))
 | .gtr => some (.bool (decide (b < a)))
 | .geq => some (.bool (decide (b ≤ a)))
 | .quo => Bool.rec (some (.int k (k.wrap (Int.tdiv a b)))) none (decide (b = 0))
 | _ => none
noncomputable def binN (o : BinOp) (k : IntKind) (a b : Int) : Option AV := match a, b with
 | .ofNat a, .ofNat b => binI o k a b
 | a, b => binZ o k a b
noncomputable def binA (o : BinOp) (a b : AV) : Option AV := match a, b with
 | .int k a, .int k' b => shA o k a b (Bool.rec none (binN o k a b) (decide (k = k')))
 | .str l, .str m => match o with
   | .eql => some (.bool (beqN l m))
   | .neq => some (.bool (Bool.rec true false (beqN l m)))
   | .lss => some (.bool (ltN l m))
   | .gtr => some (.bool (Bool.rec (Bool.rec true false (beqN l m)) false (ltN l m)))
   | .add => Bool.rec none (some (.str (appN l m))) (Nat.ble (Nat.add (lenF l) (lenF m)) 1000000)
   | _ => none
 | _, _ => none
section
variable {P : Program} {G : World} {ρ : jh} {L : ja} {ty : TypeId} {σ : Sg}
theorem acB {t : TypeId} {k : IntKind} {a b : Int} (h1 : 0 ≤ a) (h2 : 1 ≤ b) : Bin P .quo t (.int k a) (.int k b) (.int k (k.wrap (a / b))) := ⟨fun x y w => by
 have hb : b ≠ 0 := by omega
 simp [eqGuard, binOp, Op.intDiv, hb, Int.tdiv_eq_ediv_of_nonneg h1]⟩
theorem jO {k : IntKind} {n : Int} : Den σ (.int k n) (.int k n) := by simp [Den]
theorem jQ {b : Bool} : Den σ (.bool b) (.bool b) := by simp [Den]
theorem qf {v : AV} {b : Value} {v' : AV} (e : v' = v) (h : Den σ v b) : Den σ v' b := e ▸ h
theorem acC {o : BinOp} {t : TypeId} {k : IntKind} {a b : Int} {v : AV} (e : binZ o k a b = some v) : ∃ V, Bin P o t (.int k a) (.int k b) V ∧ Den σ v V := by
 unfold binZ at e
 split at e
 · cases e; exact ⟨_, Wb, jO⟩
 · cases e; exact ⟨_, Wc, jO⟩
 · cases e; exact ⟨_, Wd, jO⟩
 · cases e; exact ⟨_, K3, jQ⟩
 · cases e; exact ⟨_, Vg, jQ⟩
 · cases e; exact ⟨_, K4, jQ⟩
 · cases e; exact ⟨_, Vh, jQ⟩
 · cases e; exact ⟨_, Vi, jQ⟩
 · cases e; exact ⟨_, Vj, jQ⟩
 · cases h : decide (b = 0) with
   | true => rw [h] at e; cases e
   | false =>
     rw [h] at e
     cases e
     have hb : b ≠ 0 := of_decide_eq_false h
     exact ⟨_, ⟨fun x y w => by simp [eqGuard, binOp, Op.intDiv, hb]⟩, jO⟩
 · cases e
theorem yL (a b : Nat) : Nat.beq a b = decide (a = b) := by
 by_cases h : a = b
 · rw [bqT h, decide_eq_true h]
 · rw [bqF h, decide_eq_false h]
theorem yM (a b : Nat) : Nat.ble a b = decide (a ≤ b) := by
 by_cases h : a ≤ b
 · rw [Nat.ble_eq_true_of_le h, decide_eq_true h]
 · rw [decide_eq_false h]
   cases e : Nat.ble a b with
   | false => rfl
   | true => exact absurd (Nat.le_of_ble_eq_true e) h
theorem acD {o : BinOp} {t : TypeId} {k : IntKind} {a b : Nat} {v : AV} (e : binI o k a b = some v) : ∃ V, Bin P o t (.int k (Int.ofNat a)) (.int k (Int.ofNat b)) V ∧ Den σ v V := by
 unfold binI at e
 split at e
 · cases e; refine ⟨_, Wb, qf (qj ..) jO⟩
 · cases e
   refine ⟨_, Wc, ?_⟩
   cases h : Nat.ble b a with
   | false => exact jO
   | true =>
     have h' := Nat.le_of_ble_eq_true h
     have e2 : Int.ofNat (Nat.sub a b) = Int.ofNat a - Int.ofNat b := by
      show ((a - b : Nat) : Int) = (a : Int) - (b : Int)
      omega
     exact qf (qj ..) (by rw [e2]; exact jO)
 · cases e; refine ⟨_, Wd, qf (qj ..) ?_⟩
   have e2 : Int.ofNat (Nat.mul a b) = Int.ofNat a * Int.ofNat b := by
    show ((a * b : Nat) : Int) = (a : Int) * (b : Int)
    exact Int.natCast_mul a b
   rw [e2]; exact jO
 · cases e; refine ⟨_, K3, ?_⟩
   rw [yL]
   refine qf (v := .bool (Int.ofNat a == Int.ofNat b)) ?_ jQ
   congr 1
   by_cases h : a = b
   · subst h; simp
   · have h' : Int.ofNat a ≠ Int.ofNat b := fun x => h (Int.ofNat.inj x)
     rw [decide_eq_false h]
     exact (beq_false_of_ne h').symm
 · cases e; refine ⟨_, Vg, qf (v := .bool (Int.ofNat a != Int.ofNat b)) ?_ jQ⟩
   rw [yL]
   by_cases h : a = b
   · subst h; simp
   · have h' : Int.ofNat a ≠ Int.ofNat b := fun x => h (Int.ofNat.inj x)
     rw [decide_eq_false h]
     congr 1
     exact (bne_iff_ne.2 h').symm
 · cases e; refine ⟨_, K4, qf (v := .bool (decide (Int.ofNat a < Int.ofNat b))) ?_ jQ⟩
   rw [yM]; congr 1; apply decide_eq_decide.2; show a + 1 ≤ b ↔ (a : Int) < (b : Int); omega
 · cases e; refine ⟨_, Vh, qf (v := .bool (decide (Int.ofNat a ≤ Int.ofNat b))) ?_ jQ⟩
   rw [yM]; congr 1; apply decide_eq_decide.2; show a ≤ b ↔ (a : Int) ≤ (b : Int); omega
 · cases e; refine ⟨_, Vi, qf (v := .bool (decide (Int.ofNat b < Int.ofNat a))) ?_ jQ⟩
   rw [yM]; congr 1; apply decide_eq_decide.2; show b + 1 ≤ a ↔ (b : Int) < (a : Int); omega
 · cases e; refine ⟨_, Vj, qf (v := .bool (decide (Int.ofNat b ≤ Int.ofNat a))) ?_ jQ⟩
   rw [yM]; congr 1; apply decide_eq_decide.2; show b ≤ a ↔ (b : Int) ≤ (a : Int); omega
 · rw [yL] at e
   by_cases h : b = 0
   · rw [decide_eq_true h] at e; cases e
   · rw [decide_eq_false h] at e
     cases e
     exact ⟨_, Z6 (Int.natCast_nonneg a) (show (1 : Int) ≤ (b : Int) by omega), jO⟩
 · rw [yL] at e
   by_cases h : b = 0
   · rw [decide_eq_true h] at e; cases e
   · rw [decide_eq_false h] at e
     cases e
     exact ⟨_, acB (Int.natCast_nonneg a) (show (1 : Int) ≤ (b : Int) by omega), qf (qj ..) jO⟩
 · cases e
   refine ⟨_, ⟨fun x y w => by simp [eqGuard, binOp, Op.intBits]; rfl⟩, qf (qj ..) ?_⟩
   rw [← K8]
   exact jO
 · cases e
   refine ⟨_, ⟨fun x y w => by simp [eqGuard, binOp, Op.intBits]; rfl⟩, qf (qj ..) ?_⟩
   rw [← K8]
   exact jO
 · cases e
   refine ⟨_, ⟨fun x y w => by simp [eqGuard, binOp, Op.intBits]; rfl⟩, qf (qj ..) ?_⟩
   rw [← K8]
   exact jO
 · cases e
   refine ⟨_, ⟨fun x y w => by simp [eqGuard, binOp, Op.intBits]; rfl⟩, qf (qj ..) ?_⟩
   rw [← K8]
   exact jO
 · cases e
theorem aeH {t : TypeId} {k k' : IntKind} {a b : Int} {d : Option AV} {v : AV} (e : shA .shl k a b d = some v) : ∃ V, Bin P .shl t (.int k a) (.int k' b) V ∧ Den σ v V := by
 unfold shA at e
 dsimp only at e
 split at e
 · rename_i a b
   cases e
   refine ⟨.int k (k.wrap (Int.ofNat a * 2 ^ min b k.bits)), ⟨fun x y w => ?_⟩, qf (qj ..) ?_⟩
   · have hb : ¬ ((b : Int) < 0) := by omega
     simp [eqGuard, binOp, Op.shift, hb]
   · rw [aaa, Wy]
     have : Int.ofNat (Nat.mul a (Nat.pow 2 (min b k.bits))) = Int.ofNat a * 2 ^ min b k.bits := by
      show ((a * 2 ^ min b k.bits : Nat) : Int) = (a : Int) * 2 ^ min b k.bits
      simp
     rw [this]
     exact jO
 · cases e
theorem aeI {t : TypeId} {k k' : IntKind} {a b : Int} {d : Option AV} {v : AV} (e : shA .shr k a b d = some v) : ∃ V, Bin P .shr t (.int k a) (.int k' b) V ∧ Den σ v V := by
 unfold shA at e
 dsimp only at e
 split at e
 · rename_i a b
   cases e
   refine ⟨.int k ((Int.ofNat a).fdiv (2 ^ min b k.bits)), ⟨fun x y w => ?_⟩, ?_⟩
   · have hb : ¬ ((b : Int) < 0) := by omega
     simp [eqGuard, binOp, Op.shift, hb]
   · rw [aaa, Wy]
     have : Int.ofNat (Nat.div a (Nat.pow 2 (min b k.bits))) = (Int.ofNat a).fdiv (2 ^ min b k.bits) := by
      show ((a / 2 ^ min b k.bits : Nat) : Int) = (a : Int).fdiv (2 ^ min b k.bits)
      rw [Int.fdiv_eq_ediv_of_nonneg _ (by exact Int.pow_nonneg (by omega))]
      simp
     rw [this]
     exact jO
 · cases e
theorem acE {o : BinOp} {t : TypeId} {a b v : AV} {A B : Value} (ha : Den σ a A) (hb : Den σ b B) (e : binA o a b = some v) : ∃ V, Bin P o t A B V ∧ Den σ v V := by
 unfold binA at e
 split at e
 · rename_i k a k' b
   obtain rfl : A = .int k a := by simpa [Den] using ha
   obtain rfl : B = .int k' b := by simpa [Den] using hb
   have back : Bool.rec none (binN o k a b) (decide (k = k')) = some v → ∃ V, Bin P o t (.int k a) (.int k' b) V ∧ Den σ v V := fun e => ?_
   · cases o <;> first | exact back e | exact aeH e | exact aeI e
   by_cases hk : k = k'
   · subst hk
     rw [decide_eq_true rfl] at e
     have e : binN o k a b = some v := e
     unfold binN at e
     split at e
     · exact acD e
     · exact acC e
   · rw [decide_eq_false hk] at e
     cases e
 · rename_i l m
   obtain ⟨hl, rfl⟩ : (∀ b ∈ l, b < 256) ∧ A = .string (bsN l) := by simpa only [Den] using ha
   obtain ⟨hm, rfl⟩ : (∀ b ∈ m, b < 256) ∧ B = .string (bsN m) := by simpa only [Den] using hb
   split at e
   · cases e; exact ⟨_, We, by rw [Y8 hl hm]; exact jQ⟩
   · cases e; exact ⟨_, Wf, by rw [Y8 hl hm]; cases beqN l m <;> exact jQ⟩
   · cases e; exact ⟨_, Wg, by rw [← Y9 hl hm]; exact jQ⟩
   · cases e; exact ⟨_, Wh, by rw [← Y9 hl hm, Y8 hl hm]; cases beqN l m <;> cases ltN l m <;> exact jQ⟩
   · cases hb : Nat.ble (Nat.add (lenF l) (lenF m)) 1000000 with
     | false => rw [hb] at e; cases e
     | true =>
       rw [hb] at e
       cases e
       have hb := Nat.le_of_ble_eq_true hb
       have hb : lenF l + lenF m ≤ 1000000 := hb
       rw [Vt, Vt] at hb
       refine ⟨_, Wi (by simp; omega), ?_⟩
       rw [u6]
       simp only [Den]
       refine ⟨fun b hb => ?_, by unfold bsN; rw [List.map_append]⟩
       rcases List.mem_append.1 hb with h | h
       · exact hl b h
       · exact hm b h
   · cases e
 · cases e
end
end
section
open Go
def AO.known : AO → Option (List AV)
 | .cells l _ => some l
 | .row l _ _ _ _ => some l
 | .rowF l _ _ => some l
 | .map _ => none
 | .it _ => none
section
variable {P : Program} {G : World} {ρ : jh} {L : ja} {F : Fm} {ty : TypeId} {σ : Sg}
theorem zq {κ : Nat} {o : AO} {O : Obj} {l : List AV} (h : DenO σ κ o O) (hl : o.known = some l) : ∃ (M : List Value) (C : Array Value) (e : TypeId) (fr : Nat × Nat), O = .cells C e fr ∧ DenL σ l M ∧ ∀ (j : Nat) (v : Value), M[j]? = some v → C[j]? = some v := by
 cases o with
 | cells l' e =>
   cases hl
   obtain ⟨M, h1, rfl⟩ := h
   exact ⟨M, M.toArray, e, (0, 0), rfl, h1, fun j v hj => by simpa using hj⟩
 | row l' n e sz lo =>
   cases hl
   obtain ⟨M, cur, h1, rfl, _, _, _, _, _, h2⟩ := h
   refine ⟨M, cur, e, (0, 0), rfl, h1, fun j v hj => ?_⟩
   rw [← h2] at hj
   have h3 := (List.getElem?_eq_some_iff.1 hj).1
   rw [List.getElem?_take_of_lt (by simp at h3; omega)] at hj
   simpa using hj
 | rowF l' n e =>
   cases hl
   obtain ⟨M, cur, fr, h1, rfl, _, _, _, _, h2, _⟩ := h
   refine ⟨M, cur, e, fr, rfl, h1, fun j v hj => ?_⟩
   rw [← h2] at hj
   have h3 := (List.getElem?_eq_some_iff.1 hj).1
   rw [List.getElem?_take_of_lt (by simp at h3; omega)] at hj
   simpa using hj
 | map l' => cases hl
 | it i => cases hl
end
section
variable {α β γ : Type}
noncomputable def ob (x : Option α) (f : α → Option β) : Option β := Option.rec none f x
theorem jd {x : Option α} {f : α → Option β} {b : β} (h : ob x f = some b) : ∃ a, x = some a ∧ f a = some b := by
 cases x with
 | none => cases h
 | some a => exact ⟨a, rfl, h⟩
noncomputable def bo (c : Bool) (x : Option β) : Option β := Bool.rec none x c
theorem je {c : Bool} {x : Option β} {b : β} (h : bo c x = some b) : c = true ∧ x = some b := by
 cases c with
 | false => cases h
 | true => exact ⟨rfl, h⟩
noncomputable def nth (l : List α) : Nat → Option α := List.rec (motive := fun _ => Nat → Option α) (fun _ => none) (fun x _ ih n => Bool.rec (ih (Nat.pred n)) (some x) (Nat.beq n 0)) l
theorem qg : ∀ (l : List α) (n : Nat), nth l n = l[n]?
 | [], n => by simp [nth]
 | x :: l, n => by
   have h : nth (x :: l) n = Bool.rec (nth l (Nat.pred n)) (some x) (Nat.beq n 0) := rfl
   rw [h]
   cases n with
   | zero => rfl
   | succ n =>
     rw [show Nat.beq (n + 1) 0 = false from rfl]
     show nth l n = _
     rw [qg l n]
     simp
noncomputable def drop (l : List α) : Nat → List α := List.rec (motive := fun _ => Nat → List α) (fun _ => []) (fun x l ih n => Bool.rec (ih (Nat.pred n)) (x :: l) (Nat.beq n 0)) l
theorem qO : ∀ (l : List α) (n : Nat), drop l n = l.drop n
 | [], n => by simp [drop]
 | x :: l, n => by
   have h : drop (x :: l) n = Bool.rec (drop l (Nat.pred n)) (x :: l) (Nat.beq n 0) := rfl
   rw [h]
   cases n with
   | zero => rfl
   | succ n =>
     rw [show Nat.beq (n + 1) 0 = false from rfl]
     show drop l n = _
     rw [qO l n]
     simp
noncomputable def takeK (l : List α) (n : Nat) (k : List α → Option β) : Option β := Nat.rec (motive := fun _ => List α → (List α → Option β) → Option β) (fun _ k => k []) (fun _ ih l k => List.rec none (fun x l _ => ih l fun r => k (x :: r)) l) n l k
theorem qr : ∀ (n : Nat) (l : List α) (k : List α → Option β) {b : β}, takeK l n k = some b → n ≤ l.length ∧ k (l.take n) = some b
 | 0, l, k, b, h => ⟨Nat.zero_le _, by have h : k [] = some b := h; simpa using h⟩
 | n + 1, [], k, b, h => by cases h
 | n + 1, x :: l, k, b, h => by
   have h : takeK l n (fun r => k (x :: r)) = some b := h
   obtain ⟨h1, h2⟩ := qr n l _ h
   exact ⟨by simp; omega, by simpa using h2⟩
end
section
variable {β : Type}
def AV.asPtr (v : AV) (f : Nat → Nat → Option β) : Option β := match v with
 | .ptr i o => f i o
 | _ => none
theorem qH {v : AV} {f : Nat → Nat → Option β} {b : β} (h : v.asPtr f = some b) : ∃ i o, v = .ptr i o ∧ f i o = some b := by
 cases v <;> first | exact ⟨_, _, rfl, h⟩ | cases h
def AV.asBool (v : AV) (f : Bool → Option β) : Option β := match v with
 | .bool c => f c
 | _ => none
theorem qQ {v : AV} {f : Bool → Option β} {b : β} (h : v.asBool f = some b) : ∃ c, v = .bool c ∧ f c = some b := by
 cases v <;> first | exact ⟨_, rfl, h⟩ | cases h
def AV.asInt (v : AV) (f : IntKind → Int → Option β) : Option β := match v with
 | .int k n => f k n
 | _ => none
theorem qI {v : AV} {f : IntKind → Int → Option β} {b : β} (h : v.asInt f = some b) : ∃ k n, v = .int k n ∧ f k n = some b := by
 cases v <;> first | exact ⟨_, _, rfl, h⟩ | cases h
def AV.asNat (v : AV) (f : IntKind → Nat → Option β) : Option β := match v with
 | .int k (.ofNat n) => f k n
 | _ => none
theorem kJ {v : AV} {f : IntKind → Nat → Option β} {b : β} (h : v.asNat f = some b) : ∃ k n, v = .int k (Int.ofNat n) ∧ f k n = some b := by
 cases v with
 | int k n => cases n <;> first | exact ⟨_, _, rfl, h⟩ | cases h
 | _ => cases h
def AV.asTup (v : AV) (f : List AV → Option β) : Option β := match v with
 | .tup l => f l
 | _ => none
theorem Za {v : AV} {f : List AV → Option β} {b : β} (h : v.asTup f = some b) : ∃ l, v = .tup l ∧ f l = some b := by
 cases v <;> first | exact ⟨_, rfl, h⟩ | cases h
def AV.asAgg (v : AV) (f : List AV → Option β) : Option β := match v with
 | .agg l => f l
 | _ => none
end
def aeJ (P : Program) (t : Nat) : Bool := match P.underlying t with
 | some (.struct _) => true
 | some (.array _ _) => true
 | _ => false
section
variable {P : Program} {ρ : jh} {L : ja} {ty : TypeId}
theorem af4 {x : Operand} {b off : Nat} {t : TypeId} {ti : TypeInfo} {C : Array Value} {te : TypeId} {fr : Nat × Nat} (cs : List Value) (hx : ev ρ x = some (.pointer (some ⟨b, off, none⟩)))
 (ha : aeJ P t = true) (hi : P.info? t = some ti) (hn : cs.length = ti.size) (hm : (b, Obj.cells C te fr) ∈ L) (hv : ∀ j v, cs[j]? = some v → C[off + j]? = some v) : OpQ P ρ L (.load t x) ty (.agg cs.toArray) :=
 ⟨fun r hr w hw o ho _ => by
   have ha' : (isAgg t).run P w = .ok true w := by
    unfold aeJ at ha
    split at ha
    · rename_i hu; simp [isAgg, run_underlying hu]
    · rename_i hu; simp [isAgg, run_underlying hu]
    · cases ha
   have hc := run_loadCells_list (P := P) (w := w) ⟨b, off, none⟩ cs (fun j v hj => by rw [ku]; exact hw.cell hm (hv j v hj))
   simp [execOp, ho, hr _ _ hx, Instr.loadAt, Instr.sureAddr, loadVar, ha', sizeOf, typeInfo, hi, ← hn, hc]⟩
end
noncomputable def ldKind (P : Program) (t : Nat) : Option (Option Nat) := match qn P t with
 | true => some none
 | false => match P.info? t with
   | none => none
   | some ti => match aeJ P t with
     | true => some (some ti.size)
     | false => none
noncomputable def ldA (P : Program) (m : Mem) (t i o : Nat) : Option AV := ob (m.h.get i) fun b => ob b.known fun c => ob (ldKind P t) fun k => Option.rec (nth c o) (fun n => takeK (drop c o) n fun l => some (.agg l)) k
section
variable {P : Program} {G : World} {ρ : jh} {L : ja} {F : Fm} {ty : TypeId} {σ : Sg}
theorem K9 {m : Mem} (hm : yq σ m L) {t i o : Nat} {x : Operand} {v : AV} {y : Nat × Nat} (hx : ev ρ x = some (.pointer (some ⟨y.1, o, none⟩))) (hy : σ i = some y) (e : ldA P m t i o = some v) : ∃ V, OpQ P ρ L (.load t x) ty V ∧ Den σ v V := by
 obtain ⟨b, hb, e⟩ := jd e
 obtain ⟨cs, hcs, e⟩ := jd e
 obtain ⟨k, hk, e⟩ := jd e
 obtain ⟨O, h2, h3⟩ := hm i b y hb hy
 obtain ⟨M, C, te, fr, rfl, h4, h5⟩ := zq h2 hcs
 unfold ldKind at hk
 cases hp : qn P t with
 | true =>
   rw [hp] at hk
   cases hk
   have e : nth cs o = some v := e
   rw [qg] at e
   obtain ⟨V, k1, k2⟩ := h4.get e
   exact ⟨V, afN hx hp h3 (h5 _ _ k1), k2⟩
 | false =>
   rw [hp] at hk
   dsimp only at hk
   cases hi : P.info? t with
   | none => rw [hi] at hk; cases hk
   | some ti =>
     rw [hi] at hk
     dsimp only at hk
     cases hs : aeJ P t with
     | false => rw [hs] at hk; cases hk
     | true =>
       rw [hs] at hk
       cases hk
       have e : takeK (drop cs o) ti.size (fun l => some (AV.agg l)) = some v := e
       obtain ⟨e1, e2⟩ := qr _ _ _ e
       rw [qO] at e1 e2
       cases e2
       have hd := (h4.drop o).take ti.size
       have hL : ((M.drop o).take ti.size).length = ti.size := by rw [hd.length, List.length_take]; omega
       refine ⟨_, af4 ((M.drop o).take ti.size) hx hs hi hL h3 fun j u hj => h5 _ _ ?_, by simp only [Den]; exact ⟨_, hd, rfl⟩⟩
       have h6 := (List.getElem?_eq_some_iff.1 hj).1
       rw [List.getElem?_take_of_lt (by omega)] at hj
       rw [List.getElem?_drop] at hj
       exact hj
end
def yh (P : Program) (t : Nat) : Bool := match P.underlying t with
 | some (.slice _) => true
 | _ => false
def KE (P : Program) (t : Nat) : Bool := match P.underlying t with
 | some .string => true
 | _ => false
def acF (P : Program) (t : Nat) : Option IntKind := match P.underlying t with
 | some (.int k) => some k
 | _ => none
def zm (P : Program) (t : Nat) : Option Nat := match P.underlying t with
 | some (.slice e) => match P.info? e with
   | some ti => some ti.size
   | none => none
 | _ => none
def ajQ (l : List Nat) : Nat := l.length
noncomputable def lenN {α : Type} (l : List α) : Nat := List.rec 0 (fun _ _ ih => Nat.succ ih) l
theorem jP {α : Type} : ∀ l : List α, lenN l = l.length
 | [] => rfl
 | _ :: l => congrArg Nat.succ (jP l)
noncomputable def lenV (P : Program) (t : Nat) (v : AV) : Option AV := match v with
 | .slc0 _ => bo (yh P t) (some (.int .i64 0))
 | .slc _ _ n _ => bo (yh P t) (some (.int .i64 (Int.ofNat n)))
 | .slcE => bo (yh P t) (some (.int .i64 0))
 | .str l => bo (KE P t) (some (.int .i64 (Int.ofNat (lenN l))))
 | _ => none
noncomputable def idxV (P : Program) (t : Nat) (v w : AV) : Option AV := match v with
 | .slc i o n _ => w.asNat fun k j => bo (Nat.ble (Nat.succ j) n) (ob (zm P t) fun sz => some (.ptr i (Nat.add o (Nat.mul j sz))))
 | .ptr i o => w.asNat fun k j => ob (KB P t) fun a => bo (Nat.ble (Nat.succ j) a.1) (some (.ptr i (Nat.add o (Nat.mul j a.2))))
 | _ => none
noncomputable def nnV (v : AV) : Option AV := match v with
 | .ptr _ _ => some v
 | .ifc _ _ => some v
 | .fn _ _ => some v
 | _ => none
noncomputable def qOp (P : Program) (s : Fr AV) (m : Mem) (op : Op) : Option AV := match op with
 | .move x => opd s x
 | .assign x => opd s x
 | .pick c a b => ob (opd s c) fun v => v.asBool fun t => Bool.rec (opd s b) (opd s a) t
 | .nilCheck x => ob (opd s x) fun v => nnV v
 | .fieldAddr t x f => ob (opd s x) fun v => v.asPtr fun i o => ob (yo P t f) fun fo => some (.ptr i (Nat.add o fo))
 | .binOp o _ x y _ => ob (opd s x) fun a => ob (opd s y) fun b => binA o a b
 | .unOp o _ x => match o with
   | .not => ob (opd s x) fun v => v.asBool fun b => some (.bool (Bool.rec true false b))
   | _ => none
 | .extract x i => ob (opd s x) fun v => v.asTup fun l => nth l i
 | .load t x => ob (opd s x) fun v => v.asPtr fun i o => ldA P m t i o
 | .convert a b x => ob (opd s x) fun v => v.asInt fun k n => ob (P.underlying a) fun _ => ob (acF P b) fun k' => some (Int.rec (fun n => wrapN k' n) (fun j => .int k' (k'.wrap (Int.negSucc j))) n)
 | .indexAddr t x i => ob (opd s x) fun v => ob (opd s i) fun w => idxV P t v w
 | .call c => match c.callee with
   | .builtin .len => match c.args, c.argTypes with
     | ⟨[x]⟩, ⟨[t]⟩ => ob (opd s x) fun v => lenV P t v
     | _, _ => none
   | _ => none
 | .makeFunc f first cap => match f, first with
   | .func i, ⟨[]⟩ => ob (opds s cap.toList) fun l => some (.fn i l)
   | _, _ => none
 | _ => none
section
variable {P : Program} {G : World} {ρ : jh} {L : ja} {F : Fm} {ty : TypeId} {σ : Sg}
theorem aeK {f : FuncId} {xs : List Operand} {vs : List Value} (ha : km ρ xs = some vs) : OpQ P ρ L (.makeFunc (.func f) #[] xs.toArray) ty (.func (.func f) #[] vs.toArray) :=
 ⟨fun r hr w hw o ho _ => by
   have hm := kI hr xs vs ha
   simp [execOp, ho, Instr.makeFunc, hm]⟩
theorem aeL {x y : Operand} {b off m c sz k : Nat} {kk : IntKind} {t : TypeId} (hx : ev ρ x = some (.slice (some ⟨b, off, none⟩) m c)) (hy : ev ρ y = some (.int kk (Int.ofNat k))) (h1 : k < m) (he : zm P t = some sz) :
 OpQ P ρ L (.indexAddr t x y) ty (.pointer (some ⟨b, off + k * sz, none⟩)) := by
 unfold zm at he
 split at he
 · rename_i e hu
   split at he
   · rename_i ti hi
     cases he
     exact uX hx hy hu hi rfl (Int.natCast_nonneg k) (show (k : Int) < (m : Int) by omega)
   · cases he
 · cases he
theorem un {t : Nat} (h : yh P t = true) : ∃ e, P.underlying t = some (.slice e) := by
 unfold yh at h
 split at h
 · rename_i e he; exact ⟨e, he⟩
 · cases h
theorem uo {t : Nat} (h : KE P t = true) : P.underlying t = some .string := by
 unfold KE at h
 split at h
 · rename_i he; exact he
 · cases h
theorem acG {t : Nat} {k : IntKind} (h : acF P t = some k) : P.underlying t = some (.int k) := by
 unfold acF at h
 split at h
 · rename_i he; cases h; exact he
 · cases h
theorem acH {x : Operand} {t : Nat} {v r : AV} {V : Value} (h1 : ev ρ x = some V) (h2 : Den σ v V) (e : lenV P t v = some r) : ∃ R, OpQ P ρ L (.call ⟨.builtin .len, #[x], #[t]⟩) ty R ∧ Den σ r R := by
 unfold lenV at e
 split at e
 · obtain ⟨c, e⟩ := je e
   cases e
   obtain ⟨el, he⟩ := un c
   obtain rfl : V = .slice none 0 _ := by simpa only [Den] using h2
   exact ⟨_, ua h1 he, jO⟩
 · obtain ⟨c, e⟩ := je e
   cases e
   obtain ⟨el, he⟩ := un c
   simp only [Den] at h2
   obtain ⟨y, _, rfl⟩ := h2
   exact ⟨_, ua h1 he, jO⟩
 · obtain ⟨c, e⟩ := je e
   cases e
   obtain ⟨el, he⟩ := un c
   simp only [Den] at h2
   obtain ⟨a, y, rfl⟩ := h2
   exact ⟨_, ua h1 he, jO⟩
 · obtain ⟨c, e⟩ := je e
   cases e
   simp only [Den] at h2
   obtain ⟨_, rfl⟩ := h2
   refine ⟨_, uW h1 (uo c), ?_⟩
   rw [jP, List.length_map]
   exact jO
 · cases e
theorem acI {x y : Operand} {t : Nat} {v w r : AV} {V W : Value} (h1 : ev ρ x = some V) (h2 : Den σ v V) (h3 : ev ρ y = some W) (h4 : Den σ w W) (e : idxV P t v w = some r) : ∃ R, OpQ P ρ L (.indexAddr t x y) ty R ∧ Den σ r R := by
 unfold idxV at e
 split at e
 · obtain ⟨k, j, rfl, e⟩ := kJ e
   obtain ⟨c, e⟩ := je e
   obtain ⟨sz, hs, e⟩ := jd e
   cases e
   simp only [Den] at h2
   obtain ⟨z, hz, rfl⟩ := h2
   obtain rfl : W = .int k (Int.ofNat j) := by simpa only [Den] using h4
   exact ⟨_, aeL h1 h3 (Nat.le_of_ble_eq_true c) hs, by simp only [Den]; exact ⟨z, hz, rfl⟩⟩
 · obtain ⟨k, j, rfl, e⟩ := kJ e
   obtain ⟨a, ha, e⟩ := jd e
   obtain ⟨c, e⟩ := je e
   cases e
   simp only [Den] at h2
   obtain ⟨z, hz, rfl⟩ := h2
   obtain rfl : W = .int k (Int.ofNat j) := by simpa only [Den] using h4
   have hc := Nat.le_of_ble_eq_true c
   exact ⟨_, Z9 (i := Int.ofNat j) ha h1 h3 (Int.natCast_nonneg j) (show (j : Int) < (a.1 : Int) by omega), by simp only [Den]; exact ⟨z, hz, rfl⟩⟩
 · cases e
theorem aeM {s : Fr AV} {m : Mem} (hs : SlR σ s ρ) (hm : yq σ m L) {op : Op} {v : AV} (e : qOp P s m op = some v) : ∃ V, OpQ P ρ L op ty V ∧ Den σ v V := by
 unfold qOp at e
 split at e
 · obtain ⟨V, h1, h2⟩ := ju hs e
   exact ⟨V, j0 h1, h2⟩
 · obtain ⟨V, h1, h2⟩ := ju hs e
   exact ⟨V, kx h1, h2⟩
 · obtain ⟨c, hc, e⟩ := jd e
   obtain ⟨t, rfl, e⟩ := qQ e
   obtain ⟨C, h1, h2⟩ := ju hs hc
   obtain rfl : C = .bool _ := by simpa [Den] using h2
   cases t with
   | true =>
     obtain ⟨V, h3, h4⟩ := ju hs (show opd s _ = some v from e)
     exact ⟨V, KZ h1 h3, h4⟩
   | false =>
     obtain ⟨V, h3, h4⟩ := ju hs (show opd s _ = some v from e)
     exact ⟨V, KZ h1 h3, h4⟩
 · obtain ⟨c, hc, e⟩ := jd e
   obtain ⟨C, h1, h2⟩ := ju hs hc
   have h3 := h2
   unfold nnV at e
   split at e
   · cases e
     simp only [Den] at h2
     obtain ⟨y, _, rfl⟩ := h2
     exact ⟨_, Kx h1, h3⟩
   · cases e
     simp only [Den] at h2
     obtain ⟨y, _, rfl⟩ := h2
     exact ⟨_, ⟨fun r hr w hw o ho _ => by simp [execOp, ho, hr _ _ h1]⟩, h3⟩
   · cases e
     simp only [Den] at h2
     obtain ⟨y, _, rfl⟩ := h2
     exact ⟨_, ⟨fun r hr w hw o ho _ => by simp [execOp, ho, hr _ _ h1]⟩, h3⟩
   · cases e
 · obtain ⟨c, hc, e⟩ := jd e
   obtain ⟨i, o, rfl, e⟩ := qH e
   obtain ⟨fo, hf, e⟩ := jd e
   cases e
   obtain ⟨C, h1, h2⟩ := ju hs hc
   simp only [Den] at h2
   obtain ⟨y, hy, rfl⟩ := h2
   exact ⟨_, acu h1 hf, by simp only [Den]; exact ⟨y, hy, rfl⟩⟩
 · obtain ⟨a, hx, e⟩ := jd e
   obtain ⟨b, hy, e⟩ := jd e
   obtain ⟨A, h1, h2⟩ := ju hs hx
   obtain ⟨B, h3, h4⟩ := ju hs hy
   obtain ⟨V, h5, h6⟩ := acE (P := P) h2 h4 e
   exact ⟨V, qp h1 h3 h5, h6⟩
 · split at e
   · obtain ⟨c, hc, e⟩ := jd e
     obtain ⟨b, rfl, e⟩ := qQ e
     cases e
     obtain ⟨A, h1, h2⟩ := ju hs hc
     obtain rfl : A = .bool _ := by simpa [Den] using h2
     exact ⟨_, Vf h1, by cases b <;> exact jQ⟩
   · cases e
 · obtain ⟨c, hc, e⟩ := jd e
   obtain ⟨l, rfl, e'⟩ := Za e
   obtain ⟨A, h1, h2⟩ := ju hs hc
   simp only [Den] at h2
   obtain ⟨M, h3, rfl⟩ := h2
   rw [qg] at e'
   obtain ⟨V, h4, h5⟩ := h3.get e'
   exact ⟨V, kG h1 (by simpa using h4), h5⟩
 · obtain ⟨c, hc, e⟩ := jd e
   obtain ⟨i, o, rfl, e⟩ := qH e
   obtain ⟨A, h1, h2⟩ := ju hs hc
   simp only [Den] at h2
   obtain ⟨y, hy, rfl⟩ := h2
   exact K9 hm h1 hy e
 · obtain ⟨c, hc, e⟩ := jd e
   obtain ⟨k, n, rfl, e⟩ := qI e
   obtain ⟨d, ha, e⟩ := jd e
   obtain ⟨k', hb, e⟩ := jd e
   cases e
   obtain ⟨A, h1, h2⟩ := ju hs hc
   obtain rfl : A = .int _ _ := by simpa [Den] using h2
   refine ⟨_, zD h1 ha (acG hb), qf ?_ jO⟩
   cases n with
   | ofNat n => exact qj k' n
   | negSucc n => rfl
 · obtain ⟨a, hx, e⟩ := jd e
   obtain ⟨b, hy, e⟩ := jd e
   obtain ⟨A, h1, h2⟩ := ju hs hx
   obtain ⟨B, h3, h4⟩ := ju hs hy
   exact acI h1 h2 h3 h4 e
 · rename_i c
   obtain ⟨callee, args, ats⟩ := c
   dsimp only at e
   split at e
   · split at e
     · obtain ⟨a, hx, e⟩ := jd e
       obtain ⟨A, h1, h2⟩ := ju hs hx
       exact acH h1 h2 e
     · cases e
   · cases e
 · split at e
   · obtain ⟨l, hl, e⟩ := jd e
     cases e
     obtain ⟨Vs, h1, h2⟩ := zK hs hl
     exact ⟨_, aeK h1, by simp only [Den]; exact ⟨Vs, h2, rfl⟩⟩
   · cases e
 · cases e
end
end
section
open Go Go.RowKit
section
variable {G : World} {P : Program} {n : Nat} {ρ : jh} {L : ja} {ty : TypeId}
theorem op_callV {f : FuncId} {x : Operand} {xs : List Operand} {ats : Array TypeId} {vs cap : List Value} {Φ : Value → ja → Prop} (hb : jX P f = true) (hx : ev ρ x = some (.func (.func f) #[] cap.toArray)) (ha : km ρ xs = some vs) (h : Spec P G f (vs ++ cap).toArray L Φ) :
 OpT P G ρ L (.call ⟨.value x, xs.toArray, ats⟩) ty Φ :=
 ⟨fun r hr w hw o ho _ => by
   have hm := kI hr xs vs ha
   have hrf := hr _ _ hx
   have : execOp r o = callFunc f (vs ++ cap).toArray := by
    simp only [execOp, ho, resolve, hrf, Deferred.ofValue]
    show invoke (.fn (.func f) cap.toArray) _ = _
    simp only [invoke, List.map_toArray, hm]
    simp
   rw [this, kH hb]
   refine (h.out w hw).mono fun e w' ⟨v, L', h1, h2, h3⟩ => ⟨v, h1, L', h2, h3⟩⟩
end
end
section
open Go
section
variable {P : Program} {G : World} {ρ : jh} {L : ja} {op : Op} {ty : TypeId}
theorem ui {Φ Ψ : Value → ja → Prop} (h : OpT P G ρ L op ty Φ) (hp : ∀ v M, Φ v M → (M.map (·.1)).Nodup → Ψ v M) : OpT P G ρ L op ty Ψ :=
 ⟨fun r hr w hw o ho ht => Outcome.mono (fun v w' ⟨M, h1, h2⟩ => ⟨M, hp v M h1 h2.nodup, h2⟩) (h.out r hr w hw o ho ht)⟩
end
abbrev jU := Nat → List AV → Mem → Option (AV × Mem)
def kB (σ : Sg) (v : AV) (m' : Mem) (F : Fm) (u : Value) (M : ja) : Prop := ∃ σ' : Sg, σ.le σ' ∧ Den σ' v u ∧ MemR σ' m' F M
def jV (P : Program) (E : jU) : Prop := ∀ {G : World} {i : Nat} {args : List AV} {m : Mem} {v : AV} {m' : Mem} {σ : Sg} {As : List Value} {F : Fm} {L : ja}, E i args m = some (v, m') → DenL σ args As → MemR σ m F L → Spec P G i As.toArray L (kB σ v m' F)
def Qq : AV → Option (List AV)
 | .agg l => some l
 | .tup _ => none
 | .und => none
 | v => some [v]
def Wz : AV → Bool
 | .agg _ => false
 | .tup _ => false
 | .und => false
 | _ => true
section
variable {P : Program} {G : World} {ρ : jh} {L : ja} {F : Fm} {ty : TypeId} {σ : Sg}
theorem Vu {v : AV} {V : Value} (h : Den σ v V) (k : Wz v = true) : V.oneCell' = true := by
 cases v <;> first
  | (simp [Wz] at k; done)
  | (simp only [Den] at h; first | (subst h; rfl) | (obtain ⟨_, rfl⟩ := h; rfl) | (obtain ⟨_, _, rfl⟩ := h; rfl))
theorem Uv {v : AV} {V : Value} {l : List AV} (h : Den σ v V) (k : Qq v = some l) : ∃ M : List Value, DenL σ l M ∧ V.cells = M.toArray := by
 have hs : Wz v = true → l = [v] → ∃ M : List Value, DenL σ l M ∧ V.cells = M.toArray := fun h1 h2 => by
  have h3 := Vu h h1
  subst h2
  exact ⟨[V], .cons h .nil, by cases V <;> first | rfl | (simp [Value.oneCell'] at h3)⟩
 cases v with
 | agg m =>
   cases k
   simp only [Den] at h
   obtain ⟨M, h1, rfl⟩ := h
   exact ⟨M, h1, rfl⟩
 | tup m => cases k
 | und => cases k
 | _ => cases k; exact hs rfl rfl
theorem yu {b : Nat} {O : Obj} (h : (((b, O) :: L).map (·.1)).Nodup) : ∀ p ∈ L, p.1 ≠ b := fun p hp e => by
 rw [List.map_cons, List.nodup_cons] at h
 exact h.1 (List.mem_map.2 ⟨p, hp, e⟩)
theorem aab {V : Value} : Den σ .und V := by simp only [Den]
end
noncomputable def newK {β : Type} (m : Mem) (o : AO) (f : Nat → Mem → Option β) : Option β := bo (Nat.ble m.nx 999998) (Tr.setK 20 m.h m.nx o fun h => f m.nx ⟨h, Nat.succ m.nx⟩)
theorem uj {β : Type} {m : Mem} {o : AO} {f : Nat → Mem → Option β} {b : β} (e : newK m o f = some b) : m.nx + 1 < 1000000 ∧ f m.nx ⟨m.h.set 20 m.nx o, m.nx + 1⟩ = some b := by
 obtain ⟨h, e⟩ := je e
 rw [Tr.setK_eq] at e
 have := Nat.le_of_ble_eq_true h
 exact ⟨by omega, e⟩
noncomputable def putK {β : Type} (m : Mem) (i : Nat) (o : AO) (f : Mem → Option β) : Option β := bo (Nat.ble i 999998) (Tr.setK 20 m.h i o fun h => f ⟨h, m.nx⟩)
theorem ki {β : Type} {m : Mem} {i : Nat} {o : AO} {f : Mem → Option β} {b : β} (e : putK m i o f = some b) : i + 1 < 1000000 ∧ f ⟨m.h.set 20 i o, m.nx⟩ = some b := by
 obtain ⟨h, e⟩ := je e
 rw [Tr.setK_eq] at e
 have := Nat.le_of_ble_eq_true h
 exact ⟨by omega, e⟩
inductive Shp where
 | ptr
 | slc (n : Nat) (c : Cp)
 | mp
def Shp.av : Shp → Nat → AV
 | .ptr, i => .ptr i 0
 | .slc n c, i => .slc i 0 n c
 | .mp, i => .mp i
def Shp.val : Shp → Nat → Nat → Value
 | .ptr, b, _ => .pointer (some ⟨b, 0, none⟩)
 | .slc n c, b, κ => .slice (some ⟨b, 0, none⟩) n (c.of κ)
 | .mp, b, _ => .map (some b)
theorem Shp.den {σ : Sg} {i b κ : Nat} (h : σ i = some (b, κ)) (sh : Shp) : Den σ (sh.av i) (sh.val b κ) := by
 cases sh with
 | ptr => simp only [Shp.av, Den]; exact ⟨(b, κ), h, rfl⟩
 | slc n c => simp only [Shp.av, Den]; exact ⟨(b, κ), h, rfl⟩
 | mp => simp only [Shp.av, Den]; exact ⟨(b, κ), h, rfl⟩
def uN (σ : Sg) (o : AO) (sh : Shp) (L : ja) (u : Value) (M : ja) : Prop := ∃ (b κ : Nat) (O : Obj), u = sh.val b κ ∧ M = (b, O) :: L ∧ DenO σ κ o O
noncomputable def soft1 (P : Program) (s : Fr AV) (op : Op) : Option (AO × Shp) := match op with
 | .alloc t => ob (qY P t) fun z => some (.cells (ofL z.cells.toList) t, .ptr)
 | .box t x => ob (opd s x) fun v => ob (Qq v) fun l => some (.cells l t, .ptr)
 | _ => none
section
variable {P : Program} {G : World} {ρ : jh} {L : ja} {F : Fm} {ty : TypeId} {σ : Sg}
theorem aa4 {s : Fr AV} (hs : SlR σ s ρ) {op : Op} {o : AO} {sh : Shp} (e : soft1 P s op = some (o, sh)) : OpT P G ρ L op ty (uN σ o sh L) := by
 unfold soft1 at e
 split at e
 · obtain ⟨z, hz, e⟩ := jd e
   cases e
   refine (Qk (C := z.cells.toList.toArray) hz (by simp)).post ?_
   rintro _ _ ⟨b, rfl, rfl⟩
   exact ⟨_, ⟨b, 0, _, rfl, rfl, _, ud σ _, rfl⟩, fun w hw => hw⟩
 · obtain ⟨v, hx, e⟩ := jd e
   obtain ⟨l, hc, e⟩ := jd e
   cases e
   obtain ⟨U, h1, h2⟩ := ju hs hx
   obtain ⟨M, h3, h4⟩ := Uv h2 hc
   refine (YY h1 h4).post ?_
   rintro _ _ ⟨b, rfl, rfl⟩
   exact ⟨_, ⟨b, 0, _, rfl, rfl, _, h3, rfl⟩, fun w hw => hw⟩
 · cases e
theorem WA {op : Op} {m : Mem} (hm : MemR σ m F L) (hn : m.nx + 1 < 1000000) {o : AO} {sh : Shp} (h : OpT P G ρ L op ty (uN σ o sh L)) : OpT P G ρ L op ty (kB σ (sh.av m.nx) ⟨m.h.set 20 m.nx o, m.nx + 1⟩ F) := by
 refine ui h ?_
 rintro _ _ ⟨b, κ, O, rfl, rfl, hO⟩ hd
 have hf := hm.fresh m.nx (Nat.le_refl _)
 exact ⟨σ.put m.nx b κ, Sg.put_le hf, Shp.den (if_pos rfl) sh, hm.new (yu hd) (by omega) (hO.mono (Sg.put_le hf))⟩
end
noncomputable def setL {α : Type} (l : List α) : Nat → α → List α := List.rec (motive := fun _ => Nat → α → List α) (fun _ _ => []) (fun y l ih n x => Bool.rec (y :: ih (Nat.pred n) x) (x :: l) (Nat.beq n 0)) l
noncomputable def putsK {α β : Type} (l : List α) : Nat → List α → (List α → Option β) → Option β := List.rec (motive := fun _ => Nat → List α → (List α → Option β) → Option β) (fun _ vs k => List.rec (k []) (fun _ _ _ => none) vs)
 (fun y l ih n vs k => List.rec (motive := fun _ => Option β) (k (y :: l)) (fun v r _ => Bool.rec (ih (Nat.pred n) vs fun l => k (y :: l)) (ih 0 r fun l => k (v :: l)) (Nat.beq n 0)) vs) l
def kC {α : Type} : List α → Nat → List α → Option (List α)
 | l, _, [] => some l
 | [], _, _ :: _ => none
 | _ :: l, 0, v :: r => (kC l 0 r).map (v :: ·)
 | y :: l, n + 1, v :: r => (kC l n (v :: r)).map (y :: ·)
theorem j4 {α β : Type} : ∀ (l : List α) (n : Nat) (vs : List α) (k : List α → Option β) {b : β}, putsK l n vs k = some b → ∃ r, kC l n vs = some r ∧ k r = some b
 | [], n, [], k, b, h => ⟨[], by simp [kC], h⟩
 | [], n, v :: r, k, b, h => by cases h
 | y :: l, n, [], k, b, h => ⟨y :: l, by simp [kC], h⟩
 | y :: l, 0, v :: r, k, b, h => by
   obtain ⟨r', h1, h2⟩ := j4 l 0 r _ h
   exact ⟨v :: r', by simp [kC, h1], h2⟩
 | y :: l, n + 1, v :: r, k, b, h => by
   obtain ⟨r', h1, h2⟩ := j4 l n (v :: r) _ h
   exact ⟨y :: r', by simp [kC, h1], h2⟩
theorem j9 {α : Type} : ∀ (l : List α) (n : Nat) (vs : List α) {r : List α}, kC l n vs = some r → r.length = l.length ∧ (vs = [] ∨ n + vs.length ≤ l.length)
 | l, n, [], r, h => by
   have : r = l := by cases l <;> simpa [kC] using h.symm
   exact ⟨by rw [this], Or.inl rfl⟩
 | [], n, v :: vs, r, h => by simp [kC] at h
 | y :: l, 0, v :: vs, r, h => by
   simp only [kC, Option.map_eq_some_iff] at h
   obtain ⟨q, h1, rfl⟩ := h
   obtain ⟨h2, h3⟩ := j9 l 0 vs h1
   refine ⟨by simp [h2], Or.inr ?_⟩
   rcases h3 with rfl | h3
   · simp
   · simp; omega
 | y :: l, n + 1, v :: vs, r, h => by
   simp only [kC, Option.map_eq_some_iff] at h
   obtain ⟨q, h1, rfl⟩ := h
   obtain ⟨h2, h3⟩ := j9 l n (v :: vs) h1
   refine ⟨by simp [h2], Or.inr ?_⟩
   rcases h3 with h3 | h3
   · cases h3
   · simp at h3 ⊢; omega
theorem kj {σ : Sg} : ∀ {l : List AV} {n : Nat} {vs r : List AV} {L Vs : List Value}, kC l n vs = some r → DenL σ l L → DenL σ vs Vs → ∃ R, kC L n Vs = some R ∧ DenL σ r R
 | l, n, [], r, L, Vs, h, k1, k2 => by
   have : r = l := by cases l <;> simpa [kC] using h.symm
   rw [this, k2.inv0]
   exact ⟨L, by cases L <;> simp [kC], k1⟩
 | [], n, v :: vs, r, L, Vs, h, k1, k2 => by simp [kC] at h
 | y :: l, 0, v :: vs, r, L, Vs, h, k1, k2 => by
   simp only [kC, Option.map_eq_some_iff] at h
   obtain ⟨q, h1, rfl⟩ := h
   obtain ⟨Y, M, rfl, a1, a2⟩ := k1.inv
   obtain ⟨V, N, rfl, b1, b2⟩ := k2.inv
   obtain ⟨R, c1, c2⟩ := kj h1 a2 b2
   exact ⟨V :: R, by simp [kC, c1], .cons b1 c2⟩
 | y :: l, n + 1, v :: vs, r, L, Vs, h, k1, k2 => by
   simp only [kC, Option.map_eq_some_iff] at h
   obtain ⟨q, h1, rfl⟩ := h
   obtain ⟨Y, M, rfl, a1, a2⟩ := k1.inv
   obtain ⟨R, c1, c2⟩ := kj h1 a2 k2
   obtain ⟨V, N, rfl, b1, b2⟩ := k2.inv
   exact ⟨Y :: R, by simp [kC, c1], .cons a1 c2⟩
theorem ke {α : Type} : ∀ (l : List α) (n : Nat) (vs : List α) {r : List α}, kC l n vs = some r → r = l.take n ++ vs ++ l.drop (n + vs.length)
 | l, n, [], r, h => by
   have : r = l := by cases l <;> simpa [kC] using h.symm
   rw [this]; simp
 | [], n, v :: vs, r, h => by simp [kC] at h
 | y :: l, 0, v :: vs, r, h => by
   simp only [kC, Option.map_eq_some_iff] at h
   obtain ⟨q, h1, rfl⟩ := h
   have ih := ke l 0 vs h1
   rw [ih]; simp
 | y :: l, n + 1, v :: vs, r, h => by
   simp only [kC, Option.map_eq_some_iff] at h
   obtain ⟨q, h1, rfl⟩ := h
   have ih := ke l n (v :: vs) h1
   rw [ih]
   simp only [List.take_succ_cons, List.cons_append, List.length_cons]
   rw [show n + 1 + (vs.length + 1) = (n + (vs.length + 1)) + 1 by omega, List.drop_succ_cons]
def Zb (P : Program) (t k : Nat) : Bool := match P.info? t with
 | some i => Nat.beq i.size k
 | none => false
def qP (v : AV) : List AV := match v with
 | .agg l => l
 | v => [v]
noncomputable def allOneA (l : List AV) : Bool := List.rec true (fun v _ ih => Bool.rec false ih (Wz v)) l
noncomputable def storeA (P : Program) (m : Mem) (t i o : Nat) (v : AV) : Option Mem := ob (m.h.get i) fun b => bo (Nat.ble 1 (lenN (qP v)) && Zb P t (lenN (qP v))) (bo (allOneA (qP v)) (match b with
 | .cells l e => putsK l o (qP v) fun l => putK m i (.cells l e) some
 | .row l n e sz lo => putsK l o (qP v) fun l => putK m i (.row l n e sz lo) some
 | .rowF l n e => putsK l o (qP v) fun l => putK m i (.rowF l n e) some
 | .map _ => none
 | .it _ => none))
theorem kT (P : Program) (g o : Nat) (t : TypeId) (fz : Nat × Nat) : ∀ (vs : List Value) (i : Nat) (cur : Array Value) (w : World), w.heap[g]? = some (.cells cur t fz) → (fz = (0, 0) ∨ o + i + vs.length ≤ fz.1) → o + i + vs.length ≤ cur.size → (∀ v ∈ vs, v.oneCell' = true) →
 (storeCells ⟨g, o, none⟩ vs i).run P w = .ok () (w.setRow g (cur.toList.take (o + i) ++ vs ++ cur.toList.drop (o + i + vs.length)).toArray)
 | [], i, cur, w, hg, _, _, _ => by
   simp only [storeCells, List.append_nil, List.length_nil, Nat.add_zero, List.take_append_drop, Array.toArray_toList]
   rw [setRow_self w g cur t fz hg]
   rfl
 | v :: rest, i, cur, w, hg, hfz, hl, h1 => by
   have hi : o + i < cur.size := by simp at hl; omega
   have hadd : (⟨g, o, none⟩ : Addr).add i = ⟨g, o + i, none⟩ := by unfold Addr.add; split <;> simp_all
   have hcell : w.cell? ⟨g, o + i, none⟩ = some cur[o + i] := by simp [World.cell?, hg, hi]
   have hfro : w.frozen? ⟨g, o + i, none⟩ = false := by
    obtain ⟨lo, hi'⟩ := fz
    simp only [World.frozen?, hg, Bool.and_eq_false_iff, decide_eq_false_iff_not]
    rcases hfz with h | h
    · cases h; right; omega
    · left; simp at h; omega
   have hst : (store ((⟨g, o, none⟩ : Addr).add i) v).run P w = .ok () (w.setRow g (cur.setIfInBounds (o + i) v)) := by
    rw [hadd, run_store P w _ v _ (h1 v (by simp)), hcell]
    simp [hfro, setCell_eq_setRow w g (o + i) cur t fz v hg]
   have ih := kT P g o t fz rest (i + 1) (cur.setIfInBounds (o + i) v) (w.setRow g (cur.setIfInBounds (o + i) v)) (setRow_heap w g cur _ t _ hg) (by
    rcases hfz with h | h
    · exact Or.inl h
    · right; simp at h; omega) (by simp at hl ⊢; omega) (fun x hx => h1 x (by simp [hx]))
   simp only [storeCells, Sem.run_bind, hst, Result.andThen_ok, ih, setRow_setRow]
   congr 3
   have e := list_seg_step cur.toList (o + i) v rest (by simp at hl ⊢; omega)
   simpa [Array.toList_setIfInBounds, Nat.add_assoc] using e
section
variable {P : Program} {G : World} {ρ : jh} {L : ja} {F : Fm} {ty : TypeId} {σ : Sg}
theorem af5 {x y : Operand} {b off : Nat} {t : TypeId} {C : Array Value} {te : TypeId} {fr : Nat × Nat} {V : Value} {cs : List Value} (hx : ev ρ x = some (.pointer (some ⟨b, off, none⟩))) (hy : ev ρ y = some V) (hc : V.cells = cs.toArray)
 (ht : Zb P t cs.length = true) (hone : ∀ v ∈ cs, v.oneCell' = true) (hv : off + cs.length ≤ C.size) (hfr : fr = (0, 0) ∨ C.size ≤ fr.1) : OpV P G ρ ((b, Obj.cells C te fr) :: L) (.store t x y) ty undef ((b, Obj.cells (jJ C off cs) te fr) :: L) :=
 ⟨fun r hr w hw o ho _ => by
   unfold Zb at ht
   cases hi : P.info? t with
   | none => simp [hi] at ht
   | some i =>
     rw [hi] at ht
     have ht := Nat.eq_of_beq_eq_true ht
     have hb := hw.get _ (List.mem_cons_self ..)
     have hs := kT P b off te fr cs 0 C w hb (by rcases hfr with h | h; exact Or.inl h; right; omega) (by simpa using hv) hone
     have hrun : (execOp r o).run P w = .ok .skip (w.setRow b (jJ C off cs)) := by
      simp only [execOp, ho, hr _ _ hx, hr _ _ hy]
      simp [Instr.storeAt, Instr.sureAddr, storeVar, sizeOf, typeInfo, hi, ht, hc, hs, jJ]
     rw [hrun]
     exact ⟨_, ⟨rfl, rfl⟩, hw.update ⟨rfl, rfl, rfl, by simp [World.setRow]⟩ (setRow_heap w b C _ te fr hb) (fun j hj hne => by simp [World.setRow, Array.getElem?_modify, Ne.symm hne])⟩⟩
theorem uq : ∀ {l : List AV} {M : List Value}, DenL σ l M → allOneA l = true → ∀ V ∈ M, V.oneCell' = true
 | [], M, h, _ => by rw [h.inv0]; intro V hV; cases hV
 | v :: l, M, h, k => by
   obtain ⟨U, N, rfl, h1, h2⟩ := h.inv
   have k : Bool.rec false (allOneA l) (Wz v) = true := k
   cases ho : Wz v with
   | false => rw [ho] at k; cases k
   | true =>
     rw [ho] at k
     intro V hV
     rcases List.mem_cons.1 hV with rfl | hV
     · exact Vu h1 ho
     · exact uq h2 k V hV
theorem WB {v : AV} {V : Value} (h : Den σ v V) (k : allOneA (qP v) = true) : ∃ M : List Value, DenL σ (qP v) M ∧ V.cells = M.toArray := by
 have hs : qP v = [v] → ∃ M : List Value, DenL σ (qP v) M ∧ V.cells = M.toArray := fun e => by
  rw [e] at k ⊢
  have k : Bool.rec false true (Wz v) = true := k
  cases ho : Wz v with
  | false => rw [ho] at k; cases k
  | true =>
    have h3 := Vu h ho
    exact ⟨[V], .cons h .nil, by cases V <;> first | rfl | (simp [Value.oneCell'] at h3)⟩
 cases v with
 | agg m =>
   simp only [Den] at h
   obtain ⟨M, h1, rfl⟩ := h
   exact ⟨M, h1, rfl⟩
 | _ => exact hs rfl
theorem Zc {s : Fr AV} {m m' : Mem} (hs : SlR σ s ρ) (hm : MemR σ m F L) {t i o : Nat} {x y : Operand} {v : AV} (hx : opd s x = some (.ptr i o)) (hy : opd s y = some v) (e : storeA P m t i o v = some m') : OpT P G ρ L (.store t x y) ty (kB σ .und m' F) := by
 obtain ⟨b, hg, e⟩ := jd e
 obtain ⟨hsz, e⟩ := je e
 obtain ⟨ho, e⟩ := je e
 obtain ⟨X, hx1, hx2⟩ := ju hs hx
 simp only [Den] at hx2
 obtain ⟨z, hz, rfl⟩ := hx2
 obtain ⟨V, hy1, hy2⟩ := ju hs hy
 obtain ⟨O, hO, hOL⟩ := hm.get i _ z hg hz
 obtain ⟨Vs, hVs, hcs⟩ := WB hy2 ho
 have hone := uq hVs ho
 rw [jP, ← hVs.length, Bool.and_eq_true] at hsz
 obtain ⟨h1V, hsz⟩ := hsz
 have h1V := Nat.le_of_ble_eq_true h1V
 obtain ⟨A, B, hAB⟩ := List.append_of_mem hOL
 have hp : ∀ q, q = (z.1, O) → L.Perm (q :: (A ++ B)) := fun q hq => by rw [hAB, hq]; exact List.perm_middle
 have main : ∀ (C : Array Value) (te : TypeId) (ao : AO) (fr : Nat × Nat), (fr = (0, 0) ∨ C.size ≤ fr.1) → O = .cells C te fr → o + Vs.length ≤ C.size → DenO σ z.2 ao (.cells (jJ C o Vs) te fr) → i + 1 < 1000000 → m' = ⟨m.h.set 20 i ao, m.nx⟩ → OpT P G ρ L (.store t x y) ty (kB σ .und m' F) := fun C te ao fr h0 h1 h2 h3 h4 h5 => by
  subst h1 h5
  refine OpT.heap (fun w hw => hw.perm (hp _ rfl)) ((af5 hx1 hy1 hcs hsz hone h2 h0).post fun v' M' ⟨e1, e2⟩ => ⟨M', ?_, fun w hw => hw⟩)
  subst e2
  exact ⟨σ, σ.le_refl, aab, hm.write hg hz (hp _ rfl) (by omega) h3⟩
 cases b with
 | cells l te =>
   obtain ⟨r, hr, e⟩ := j4 _ _ _ _ e
   obtain ⟨hi, e⟩ := ki e
   cases e
   obtain ⟨M, hM, rfl⟩ := hO
   obtain ⟨R, hR1, hR2⟩ := kj hr hM hVs
   have hlen := (j9 _ _ _ hR1).2
   refine main _ te (.cells r te) _ (Or.inl rfl) rfl ?_ ⟨_, hR2, ?_⟩ hi rfl
   · rcases hlen with h | h
     · rw [h] at h1V; simp at h1V
     · simpa using h
   · rw [ke _ _ _ hR1]; simp [jJ]
 | row l n te sz lo =>
   obtain ⟨r, hr, e⟩ := j4 _ _ _ _ e
   obtain ⟨hi, e⟩ := ki e
   cases e
   obtain ⟨M, cur, hM, rfl, q1, q2, q6, q3, q4, q5⟩ := hO
   obtain ⟨R, hR1, hR2⟩ := kj hr hM hVs
   have hlen := (j9 _ _ _ hR1).2
   have hlen : o + Vs.length ≤ M.length := by
    rcases hlen with h | h
    · rw [h] at h1V; simp at h1V
    · exact h
   have hML : M.length = n * sz := by rw [hM.length]; exact q1
   have hcur : n * sz ≤ cur.size := by rw [q4]; exact Nat.mul_le_mul_right sz q2
   refine main _ te (.row r n te sz lo) _ (Or.inl rfl) rfl (by omega) ⟨R, _, hR2, rfl, by rw [← hR2.length, (j9 _ _ _ hR1).1]; exact hML, q2, q6, q3, by rw [← q4]; simp [jJ]; omega, ?_⟩ hi rfl
   rw [ke _ _ _ hR1, ← q5]
   simp only [jJ]
   rw [List.take_append, List.take_append, List.take_take, List.drop_take, List.take_take]
   simp only [List.length_take, List.length_append, Array.length_toList]
   have e1 : min o cur.size = o := by omega
   have e2 : min (n * sz) o = min o (n * sz) := Nat.min_comm _ _
   rw [e1, e2]
   rw [List.take_of_length_le (l := Vs) (by omega)]
 | rowF l n te =>
   obtain ⟨r, hr, e⟩ := j4 _ _ _ _ e
   obtain ⟨hi, e⟩ := ki e
   cases e
   obtain ⟨M, cur, fr, hM, rfl, q1, q2, q3, q4, q5, q7⟩ := hO
   obtain ⟨R, hR1, hR2⟩ := kj hr hM hVs
   have hlen := (j9 _ _ _ hR1).2
   have hlen : o + Vs.length ≤ M.length := by
    rcases hlen with h | h
    · rw [h] at h1V; simp at h1V
    · exact h
   have hML : M.length = n := by rw [hM.length]; exact q1
   have hcur : n ≤ cur.size := by rw [q4]; exact q2
   refine main _ te (.rowF r n te) fr (by rw [q4]; exact q7) rfl (by omega) ⟨R, _, fr, hR2, rfl, by rw [← hR2.length, (j9 _ _ _ hR1).1]; exact hML, q2, q3, by rw [← q4]; simp [jJ]; omega, ?_, q7⟩ hi rfl
   rw [ke _ _ _ hR1, ← q5]
   simp only [jJ]
   rw [List.take_append, List.take_append, List.take_take, List.drop_take, List.take_take]
   simp only [List.length_take, List.length_append, Array.length_toList]
   have e1 : min o cur.size = o := by omega
   have e2 : min (n) o = min o (n) := Nat.min_comm _ _
   rw [e1, e2]
   rw [List.take_of_length_le (l := Vs) (by omega)]
 | map l' => cases e
 | it i => cases e
end
end
section
open Go
noncomputable def sizesF (P : Program) (fs : List Field) : Option (List (Nat × Nat)) := List.rec (some []) (fun f _ ih => ob (P.info? f.type) fun ti => ob ih fun l => some ((f.offset, ti.size) :: l)) fs
noncomputable def fillA (pl : Nat → Option (Nat × Nat)) (s : Fr AV) (ps : List (Nat × Operand)) : List AV → Option (List AV) := List.rec (motive := fun _ => List AV → Option (List AV)) (fun C => some C)
 (fun p _ ih C => ob (pl p.1) fun q => ob (opd s p.2) fun v => ob (Qq v) fun cs => bo (Nat.beq (lenN cs) q.2) (bo (Nat.ble 1 (lenN cs)) (putsK C q.1 cs ih))) ps
noncomputable def plA (k : Nat) (i : Nat) : Option (Nat × Nat) := some (Nat.mul i k, k)
noncomputable def buildA (P : Program) (s : Fr AV) (t : Nat) (ps : List (Nat × Operand)) : Option AV := ob (qY P t) fun z => match P.underlying t with
 | some (.struct fs) => ob (sizesF P fs.toList) fun l => ob (fillA (nth l) s ps (ofL z.cells.toList)) fun C => some (.agg C)
 | some (.array _ e) => ob (P.info? e) fun ti => ob (fillA (plA ti.size) s ps (ofL z.cells.toList)) fun C => some (.agg C)
 | _ => none
section
variable {P : Program} {G : World} {ρ : jh} {L : ja} {F : Fm} {ty : TypeId} {σ : Sg}
theorem Qr : ∀ {fs : List Field} {l : List (Nat × Nat)}, sizesF P fs = some l → ∀ w : World, (fs.mapM fun f => do pure (f.offset, ← sizeOf f.type) : Sem (List (Nat × Nat))).run P w = .ok l w
 | [], l, h, w => by cases h; simp
 | f :: fs, l, h, w => by
   obtain ⟨ti, h1, h⟩ := jd (show ob (P.info? f.type) (fun ti => ob (sizesF P fs) fun l => some ((f.offset, ti.size) :: l)) = some l from h)
   obtain ⟨r, h2, h⟩ := jd h
   cases h
   have ih := Qr h2 w
   have hg : (do pure (f.offset, ← sizeOf f.type) : Sem (Nat × Nat)).run P w = .ok (f.offset, ti.size) w := by simp [sizeOf, typeInfo, h1]
   rw [List.mapM_cons, Sem.run_bind, hg]
   simp only [Result.andThen]
   rw [Sem.run_bind, ih]
   rfl
theorem WC {α : Type} : ∀ (l : List α) (n : Nat) (v : α) (vs : List α) {r : List α}, kC l n (v :: vs) = some r → n < l.length ∧ kC (l.set n v) (n + 1) vs = some r
 | [], n, v, vs, r, h => by simp [kC] at h
 | y :: l, 0, v, vs, r, h => by
   simp only [kC, Option.map_eq_some_iff] at h
   obtain ⟨q, h1, rfl⟩ := h
   refine ⟨by simp, ?_⟩
   cases vs with
   | nil =>
     have : q = l := by cases l <;> simpa [kC] using h1.symm
     simp [kC, this]
   | cons u us => simp [kC, h1]
 | y :: l, n + 1, v, vs, r, h => by
   simp only [kC, Option.map_eq_some_iff] at h
   obtain ⟨q, h1, rfl⟩ := h
   obtain ⟨h2, h3⟩ := WC l n v vs h1
   refine ⟨by simp; omega, ?_⟩
   cases vs with
   | nil =>
     have : l.set n v = q := by
      have : kC (l.set n v) (n + 1) [] = some (l.set n v) := by cases (l.set n v) <;> simp [kC]
      rw [this] at h3; cases h3; rfl
     simp [kC, this]
   | cons u us => simp [kC, h3]
theorem Uw (off : Nat) : ∀ (vs : List Value) (k : Nat) (C R : List Value), kC C (off + k) vs = some R → (vs.zipIdx k).foldl (fun (cs : Array Value) (p : Value × Nat) => cs.setIfInBounds (off + p.2) p.1) C.toArray = R.toArray
 | [], k, C, R, h => by
   have : C = R := by cases C <;> simpa [kC] using h
   rw [this]; rfl
 | v :: vs, k, C, R, h => by
   obtain ⟨h1, h2⟩ := WC C (off + k) v vs h
   simp only [List.zipIdx_cons, List.foldl_cons]
   have : (C.toArray).setIfInBounds (off + k) v = (C.set (off + k) v).toArray := by simp
   rw [this]
   exact Uw off vs (k + 1) _ R (by rw [← Nat.add_assoc]; exact h2)
theorem zL {s : Fr AV} (hs : SlR σ s ρ) {pl place : Nat → Option (Nat × Nat)} (hp : ∀ i q, pl i = some q → place i = some q) : ∀ (ps : List (Nat × Operand)) {C C' : List AV} {Cs : List Value}, fillA pl s ps C = some C' → DenL σ C Cs →
 ∃ vs Cs', qy ρ ps = some vs ∧ Instr.fill place Cs.toArray vs = some Cs'.toArray ∧ DenL σ C' Cs'
 | [], C, C', Cs, h, k => by cases h; exact ⟨[], Cs, rfl, rfl, k⟩
 | p :: ps, C, C', Cs, h, k => by
   obtain ⟨q, h1, h⟩ := jd (show ob (pl p.1) (fun q => ob (opd s p.2) fun v => ob (Qq v) fun cs => bo (Nat.beq (lenN cs) q.2) (bo (Nat.ble 1 (lenN cs)) (putsK C q.1 cs (fillA pl s ps)))) = some C' from h)
   obtain ⟨v, h2, h⟩ := jd h
   obtain ⟨cs, h3, h⟩ := jd h
   obtain ⟨h4, h⟩ := je h
   obtain ⟨h4', h⟩ := je h
   obtain ⟨C1, h5, h⟩ := j4 _ _ _ _ h
   obtain ⟨V, k1, k2⟩ := ju hs h2
   obtain ⟨M, k3, k4⟩ := Uv k2 h3
   obtain ⟨R, k5, k6⟩ := kj h5 k k3
   obtain ⟨vs, Cs', k7, k8, k9⟩ := zL hs hp ps h k6
   refine ⟨(p.1, V) :: vs, Cs', by simp [qy, k1, k7], ?_, k9⟩
   have h4 := Nat.eq_of_beq_eq_true h4
   have h4' := Nat.le_of_ble_eq_true h4'
   rw [jP, ← k3.length] at h4 h4'
   have hfit := (j9 _ _ _ k5).2
   have hfit : q.1 + M.length ≤ Cs.length := by
    rcases hfit with h | h
    · rw [h] at h4'; simp at h4'
    · exact h
   unfold Instr.fill
   rw [hp _ _ h1]
   dsimp only
   rw [k4]
   have e1 : ¬ ((decide (M.toArray.size ≠ q.2) || decide (q.1 + M.toArray.size > Cs.toArray.size)) = true) := by
    simp only [List.size_toArray, Bool.or_eq_true, decide_eq_true_eq, ne_eq, not_or]
    exact ⟨by omega, by omega⟩
   rw [if_neg e1]
   have e2 : (M.toArray.zipIdx.foldl (fun (cs : Array Value) (p : Value × Nat) => cs.setIfInBounds (q.1 + p.2) p.1) Cs.toArray) = R.toArray := by
    rw [← Array.foldl_toList]
    simp only [Array.toList_zipIdx]
    exact Uw q.1 M 0 Cs R k5
   rw [← k8]
   congr 1
theorem Zd {s : Fr AV} (hs : SlR σ s ρ) {t : Nat} {ps : List (Nat × Operand)} {v : AV} (e : buildA P s t ps = some v) : ∃ V, OpQ P ρ L (.build t ps.toArray) ty V ∧ Den σ v V := by
 obtain ⟨z, hz, e⟩ := jd e
 have hzr := kl (P := P) hz
 split at e
 · rename_i fs hu
   obtain ⟨l, hl, e⟩ := jd e
   obtain ⟨C, hC, e⟩ := jd e
   cases e
   have hsz := Qr (P := P) hl
   obtain ⟨vs, Cs', k1, k2, k3⟩ := zL hs (place := fun i => l.toArray[i]?) (fun i q h => by rw [qg] at h; simpa using h) ps hC (ud σ z.cells.toList)
   refine ⟨.agg Cs'.toArray, jb k1 ⟨fun w => ?_⟩, by simp only [Den]; exact ⟨Cs', k3, rfl⟩⟩
   have e1 : (fs.mapM fun f => do pure (f.offset, ← sizeOf f.type) : Sem (Array (Nat × Nat))).run P w = .ok l.toArray w := by
    rw [Array.mapM_eq_mapM_toList]
    show ((fs.toList.mapM fun f => do pure (f.offset, ← sizeOf f.type) : Sem (List (Nat × Nat))) >>= fun l => pure l.toArray : Sem (Array (Nat × Nat))).run P w = _
    rw [Sem.run_bind, hsz w]
    rfl
   have k2' : Instr.fill (fun i => l.toArray[i]?) z.cells vs = some Cs'.toArray := by simpa using k2
   simp only [Instr.build, Sem.run_bind, hzr w, run_underlying hu, Result.andThen, e1, k2']
   simp [k2']
 · rename_i n el hu
   obtain ⟨ti, hi, e⟩ := jd e
   obtain ⟨C, hC, e⟩ := jd e
   cases e
   obtain ⟨vs, Cs', k1, k2, k3⟩ := zL hs (place := fun i => some (i * ti.size, ti.size)) (fun i q h => h) ps hC (ud σ z.cells.toList)
   refine ⟨.agg Cs'.toArray, jb k1 ⟨fun w => ?_⟩, by simp only [Den]; exact ⟨Cs', k3, rfl⟩⟩
   have k2' : Instr.fill (fun i => some (i * ti.size, ti.size)) z.cells vs = some Cs'.toArray := by simpa using k2
   simp [Instr.build, hzr w, run_underlying hu, sizeOf, typeInfo, hi, k2']
 · cases e
end
end
section
open Go
noncomputable def natO (s : Fr AV) (x : Option Operand) (d : Nat) : Option Nat := Option.rec (some d) (fun y => ob (opd s y) fun v => v.asNat fun _ n => some n) x
noncomputable def bytesA (l : List AV) : Option (List Nat) := List.rec (some []) (fun v _ ih => v.asNat fun k b => bo (decide (k = .u8)) (bo (Nat.ble b 255) (ob ih fun r => some (b :: r)))) l
noncomputable def zeros (n : Nat) : List Nat := Nat.rec [] (fun _ ih => 0 :: ih) n
def isZ (v : AV) : Bool := match v with
 | .int .u8 (.ofNat b) => Nat.beq b 0
 | _ => false
theorem af6 {v : AV} (h : isZ v = true) : v = .int .u8 (.ofNat 0) := by
 unfold isZ at h
 split at h
 · rw [Nat.eq_of_beq_eq_true h]
 · cases h
noncomputable def zerosK (n : Nat) : List AV → Bool := Nat.rec (motive := fun _ => List AV → Bool) (fun _ => true) (fun _ ih l => List.rec false (fun v r _ => Bool.rec false (ih r) (isZ v)) l) n
theorem Ux : ∀ (n : Nat) (l : List AV), zerosK n l = true → n ≤ l.length ∧ bytesA (l.take n) = some (zeros n)
 | 0, l, h => ⟨Nat.zero_le _, by simp; rfl⟩
 | n + 1, [], h => by cases h
 | n + 1, v :: l, h => by
   have h : Bool.rec false (zerosK n l) (isZ v) = true := h
   cases hb : isZ v with
   | false => rw [hb] at h; cases h
   | true =>
     rw [hb] at h
     obtain rfl := af6 hb
     obtain ⟨h1, h2⟩ := Ux n l h
     refine ⟨by simp; omega, ?_⟩
     rw [List.take_succ_cons, show bytesA (AV.int .u8 (.ofNat 0) :: l.take n) = ob (bytesA (l.take n)) (fun r => some (0 :: r)) from rfl, h2]
     rfl
noncomputable def capLo (m : Mem) (i : Nat) (c : Cp) : Option Nat := Cp.rec (fun c => some c) (fun r => ob (m.h.get i) fun o => match o with
 | .row _ _ _ _ lo => some (Nat.sub lo r)
 | .rowF _ n _ => some (Nat.sub n r)
 | _ => none) c
def Cp.less : Cp → Nat → Cp
 | .num c, k => .num (c - k)
 | .rest r, k => .rest (r + k)
def Cp.isNum : Cp → Bool
 | .num _ => true
 | .rest _ => false
noncomputable def cutA' (m : Mem) (sz i o : Nat) (c : Cp) (l h : Nat) : Option AV := ob (capLo m i c) fun lo => bo (Nat.ble h lo) (bo (Nat.ble l h) (Bool.rec (some (.slc i (Nat.add o (Nat.mul l sz)) (Nat.sub h l) (c.less l)))
 (Bool.rec (Bool.rec none (some .slcE) (Nat.beq l h)) (some (.slc i o (Nat.sub h l) (c.less l))) c.isNum) (Nat.beq l lo)))
noncomputable def sliceV (P : Program) (s : Fr AV) (m : Mem) (t : Nat) (v : AV) (lo hi : Option Operand) : Option AV := match v with
 | .str b => bo (KE P t) (ob (natO s lo 0) fun l => ob (natO s hi (lenN b)) fun h => bo (Nat.ble l h) (bo (Bool.rec true (Nat.ble l (lenN b)) (Nat.beq l h)) (takeK (drop b l) (Nat.sub h l) fun r => some (.str r))))
 | .slc0 c => ob (zm P t) fun _ => ob (natO s lo 0) fun l => ob (natO s hi 0) fun h => bo (Nat.beq h 0) (bo (Nat.beq l 0) (some (.slc0 c)))
 | .slc i o n c => ob (zm P t) fun sz => ob (natO s lo 0) fun l => ob (natO s hi n) fun h => cutA' m sz i o c l h
 | .ptr i o => ob (KB P t) fun q => ob (natO s lo 0) fun l => ob (natO s hi q.1) fun h => cutA' m q.2 i o (.num q.1) l h
 | _ => none
noncomputable def assertV (P : Program) (t : Nat) (ok : Bool) (v : AV) : Option AV :=
 (fun (fail : Option AV) => match v with
 | .ifc u w => (match P.underlying t with
   | some (.interface want) => ob (P.info? u) fun ti => (match Instr.missingMethod want ti.methods with
     | none => some (Bool.rec v (.tup [v, .bool true]) ok)
     | some _ => fail)
   | some _ => Bool.rec fail (some (Bool.rec w (.tup [w, .bool true]) ok)) (Nat.beq u t)
   | none => none)
 | .nilI => ob (P.underlying t) fun _ => fail
 | _ => none) (Bool.rec none (ob (qY P t) fun z => some (.tup [ofV z, .bool false])) ok)
noncomputable def isIfc (P : Program) (t : Nat) : Option Bool := match P.underlying t with
 | some (.interface _) => some true
 | some _ => some false
 | none => none
noncomputable def convV (P : Program) (m : Mem) (a b : Nat) (v : AV) : Option AV := bo (KE P b) (match v with
 | .str l => ob (P.underlying a) fun _ => some (.str l)
 | .slc0 _ => ob (eltB P a) fun _ => some (.str [])
 | .slc i o n _ => ob (eltB P a) fun _ => ob (m.h.get i) fun x => ob x.known fun c => Bool.rec (takeK (drop c o) n fun l => ob (bytesA l) fun r => some (.str r)) (bo (zerosK n (drop c o)) (some (.str (zeros n)))) (Nat.ble 20000 n)
 | _ => none)
where eltB (P : Program) (a : Nat) : Option Unit := match P.underlying a with
 | some (.slice e) => (match P.underlying e with
   | some (.int .u8) => some ()
   | _ => none)
 | _ => none
section
variable {P : Program} {G : World} {ρ : jh} {L : ja} {F : Fm} {ty : TypeId} {σ : Sg}
theorem kK {s : Fr AV} (hs : SlR σ s ρ) {x : Option Operand} {d n : Nat} (h : natO s x d = some n) : (x = none ∧ n = d) ∨ ∃ y k, x = some y ∧ ev ρ y = some (.int k (Int.ofNat n)) := by
 cases x with
 | none => cases h; exact Or.inl ⟨rfl, rfl⟩
 | some y =>
   obtain ⟨v, h1, h⟩ := jd (show ob (opd s y) (fun v => v.asNat fun _ n => some n) = some n from h)
   obtain ⟨k, j, rfl, h⟩ := kJ h
   cases h
   obtain ⟨V, h2, h3⟩ := ju hs h1
   obtain rfl : V = .int k (Int.ofNat n) := by simpa [Den] using h3
   exact Or.inr ⟨y, k, rfl, h2⟩
theorem zt {b : Bool} {len cap l h : Nat} {lo hi : Option Value} (hlo : (lo = none ∧ l = 0) ∨ ∃ k, lo = some (.int k (Int.ofNat l))) (hhi : (hi = none ∧ h = len) ∨ ∃ k, hi = some (.int k (Int.ofNat h))) (h1 : l ≤ h) (h2 : h ≤ cap) (w : World) :
 (Instr.sliceBounds b len cap lo hi none).run P w = .ok (l, h, cap) w := by
 have b1 : ∀ (k : IntKind) (x y : Nat) (c : BoundsCode), x ≤ y → (Instr.sliceBound (.int k (x : Int)) y c).run P w = .ok x w := fun k x y c hxy => by
  simp [Instr.sliceBound, asIntOf, hxy]
 unfold Instr.sliceBounds
 rcases hlo with ⟨rfl, rfl⟩ | ⟨k, rfl⟩ <;> rcases hhi with ⟨rfl, rfl⟩ | ⟨k', rfl⟩ <;> simp [b1 _ _ _ _ h1, b1 _ _ _ _ h2, b1]
theorem yN {r : Operand → Value} (hr : zh ρ r) {x : Option Operand} {n d : Nat} (h : (x = none ∧ n = d) ∨ ∃ y k, x = some y ∧ ev ρ y = some (.int k (Int.ofNat n))) : (x.map r = none ∧ n = d) ∨ ∃ k, x.map r = some (.int k (Int.ofNat n)) := by
 rcases h with ⟨rfl, rfl⟩ | ⟨y, k, rfl, h⟩
 · exact Or.inl ⟨rfl, rfl⟩
 · exact Or.inr ⟨k, by simp [hr _ _ h]⟩
theorem aeN {x : Operand} {lo hi : Option Operand} {s : List UInt8} {l h : Nat} {t : TypeId} (hx : ev ρ x = some (.string (bs s))) (hlo : (lo = none ∧ l = 0) ∨ ∃ y k, lo = some y ∧ ev ρ y = some (.int k (Int.ofNat l))) (hhi : (hi = none ∧ h = s.length) ∨ ∃ y k, hi = some y ∧ ev ρ y = some (.int k (Int.ofNat h))) (ht : P.underlying t = some .string)
 (h1 : l ≤ h) (h2 : h ≤ s.length) : OpQ P ρ L (.slice t x lo hi none) ty (.string (bs ((s.drop l).take (h - l)))) :=
 ⟨fun r hr w hw o ho _ => by
   have e : (bs s).extract l h = bs ((s.drop l).take (h - l)) := by
    apply ByteArray.ext
    rw [ByteArray.data_extract]
    simp [bs, List.extract_eq_take_drop]
   have hb := zt (P := P) (b := false) (len := s.length) (cap := s.length) (yN hr hlo) (yN hr hhi) h1 h2 w
   simp [execOp, ho, hr _ _ hx, Instr.sliceAt, run_underlying ht, Instr.slice, hb, e]⟩
theorem aac {x : Operand} {lo hi : Option Operand} {a : Option Addr} {n c l h sz : Nat} {t : TypeId} (hx : ev ρ x = some (.slice a n c)) (hlo : (lo = none ∧ l = 0) ∨ ∃ y k, lo = some y ∧ ev ρ y = some (.int k (Int.ofNat l))) (hhi : (hi = none ∧ h = n) ∨ ∃ y k, hi = some y ∧ ev ρ y = some (.int k (Int.ofNat h))) (ht : zm P t = some sz)
 (h1 : l ≤ h) (h2 : h ≤ c) : OpQ P ρ L (.slice t x lo hi none) ty (.slice (if c = l then a else a.map (·.add (l * sz))) (h - l) (c - l)) :=
 ⟨fun r hr w hw o ho _ => by
   unfold zm at ht
   split at ht
   · rename_i e hu
     split at ht
     · rename_i ti hi'
       cases ht
       have hb := zt (P := P) (b := true) (len := n) (cap := c) (yN hr hlo) (yN hr hhi) h1 h2 w
       simp [execOp, ho, hr _ _ hx, Instr.sliceAt, run_underlying hu, Instr.slice, hb, sizeOf, typeInfo, hi']
     · cases ht
   · cases ht⟩
theorem aeO {x : Operand} {lo hi : Option Operand} {b off : Nat} {len l h sz : Nat} {t : TypeId} (hx : ev ρ x = some (.pointer (some ⟨b, off, none⟩))) (hlo : (lo = none ∧ l = 0) ∨ ∃ y k, lo = some y ∧ ev ρ y = some (.int k (Int.ofNat l))) (hhi : (hi = none ∧ h = len) ∨ ∃ y k, hi = some y ∧ ev ρ y = some (.int k (Int.ofNat h))) (ha : KB P t = some (len, sz))
 (h1 : l ≤ h) (h2 : h ≤ len) : OpQ P ρ L (.slice t x lo hi none) ty (.slice (some (if len = l then ⟨b, off, none⟩ else (⟨b, off, none⟩ : Addr).add (l * sz))) (h - l) (len - l)) :=
 ⟨fun r hr w hw o ho _ => by
   unfold KB at ha
   split at ha
   · rename_i n' e hu
     split at ha
     · rename_i ti hi'
       cases ha
       have hb := zt (P := P) (b := false) (len := len) (cap := len) (yN hr hlo) (yN hr hhi) h1 h2 w
       simp [execOp, ho, hr _ _ hx, Instr.sliceAt, run_underlying hu, Instr.sureAddr, hb, sizeOf, typeInfo, hi']
     · cases ha
   · cases ha⟩
theorem kO (b off k : Nat) : (⟨b, off, none⟩ : Addr).add k = ⟨b, off + k, none⟩ := by
 unfold Addr.add
 split
 · rename_i h; subst h; rfl
 · rfl
theorem Qs {m : Mem} (hm : yq σ m L) {i : Nat} {c : Cp} {lo : Nat} {y : Nat × Nat} (hy : σ i = some y) (e : capLo m i c = some lo) : lo ≤ c.of y.2 ∧ (c.isNum = true → c.of y.2 = lo) := by
 cases c with
 | num c => cases e; exact ⟨Nat.le_refl _, fun _ => rfl⟩
 | rest r =>
   obtain ⟨o, h1, e⟩ := jd (show ob (m.h.get i) (fun o => match o with | .row _ _ _ _ lo => some (Nat.sub lo r) | .rowF _ n _ => some (Nat.sub n r) | _ => none) = some lo from e)
   cases o with
   | row l n e' sz lo' =>
     cases e
     obtain ⟨O, ⟨M, cur, _, _, _, _, q, _⟩, _⟩ := hm i _ y h1 hy
     refine ⟨?_, fun h => by cases h⟩
     show lo' - r ≤ y.2 - r
     omega
   | cells l e' => cases e
   | rowF l n e' =>
     cases e
     obtain ⟨O, ⟨M, cur, fr, _, _, _, q, _⟩, _⟩ := hm i _ y h1 hy
     refine ⟨?_, fun h => by cases h⟩
     show n - r ≤ y.2 - r
     omega
   | map l => cases e
   | it i => cases e
theorem aad (c : Cp) (k κ : Nat) : (c.less k).of κ = c.of κ - k := by
 cases c with
 | num c => rfl
 | rest r => show κ - (r + k) = κ - r - k; omega
theorem Uy {m : Mem} (hm : yq σ m L) {sz i o l h : Nat} {c : Cp} {v : AV} {y : Nat × Nat} (hy : σ i = some y) (e : cutA' m sz i o c l h = some v) : l ≤ h ∧ h ≤ c.of y.2 ∧ Den σ v (.slice (if c.of y.2 = l then some ⟨y.1, o, none⟩ else some ⟨y.1, o + l * sz, none⟩) (h - l) (c.of y.2 - l)) := by
 obtain ⟨lo, h1, e⟩ := jd e
 obtain ⟨h2, e⟩ := je e
 obtain ⟨h3, e⟩ := je e
 have h2 := Nat.le_of_ble_eq_true h2
 have h3 := Nat.le_of_ble_eq_true h3
 obtain ⟨h4, h5⟩ := Qs hm hy h1
 refine ⟨h3, Nat.le_trans h2 h4, ?_⟩
 cases hb : Nat.beq l lo with
 | false =>
   rw [hb] at e
   cases e
   have hne : l ≠ lo := fun c => by rw [c, Nat.beq_refl] at hb; cases hb
   have : c.of y.2 ≠ l := by omega
   rw [if_neg this]
   simp only [Den]
   exact ⟨y, hy, by rw [aad]; rfl⟩
 | true =>
   rw [hb] at e
   have hl := Nat.eq_of_beq_eq_true hb
   cases hc : c.isNum with
   | true =>
     rw [hc] at e
     cases e
     rw [if_pos (by rw [h5 hc, hl])]
     simp only [Den]
     exact ⟨y, hy, by rw [aad]; rfl⟩
   | false =>
     rw [hc] at e
     cases hq : Nat.beq l h with
     | false => rw [hq] at e; cases e
     | true =>
       rw [hq] at e
       cases e
       have := Nat.eq_of_beq_eq_true hq
       simp only [Den]
       exact ⟨_, _, by rw [this, Nat.sub_self]⟩
theorem Ze {s : Fr AV} {m : Mem} (hs : SlR σ s ρ) (hm : yq σ m L) {t : Nat} {x : Operand} {lo hi : Option Operand} {u v : AV} (hx : opd s x = some u) (e : sliceV P s m t u lo hi = some v) : ∃ V, OpQ P ρ L (.slice t x lo hi none) ty V ∧ Den σ v V := by
 obtain ⟨U, h1, h2⟩ := ju hs hx
 unfold sliceV at e
 split at e
 · rename_i b
   obtain ⟨c, e⟩ := je e
   obtain ⟨l, k1, e⟩ := jd e
   obtain ⟨h, k2, e⟩ := jd e
   obtain ⟨k3, e⟩ := je e
   obtain ⟨k6, e⟩ := je e
   obtain ⟨k4, k5⟩ := qr _ _ _ e
   cases k5
   simp only [Den] at h2
   obtain ⟨hb, rfl⟩ := h2
   rw [jP] at k2 k6
   have k3 := Nat.le_of_ble_eq_true k3
   rw [qO, List.length_drop] at k4
   have k4 : h - l ≤ b.length - l := k4
   have k7 : h ≤ b.length := by
    by_cases c : l = h
    · subst c
      rw [bqT rfl] at k6
      exact Nat.le_of_ble_eq_true k6
    · omega
   rw [qO]
   refine ⟨_, aeN (s := _) h1 (kK hs k1) (by simpa using kK hs k2) (uo c) k3 (by simpa using k7), ?_⟩
   simp only [Den]
   exact ⟨fun b' hb' => hb b' (List.mem_of_mem_drop (List.mem_of_mem_take hb')), by unfold bsN; rw [List.map_take, List.map_drop]; rfl⟩
 · obtain ⟨sz, k0, e⟩ := jd e
   obtain ⟨l, k1, e⟩ := jd e
   obtain ⟨h, k2, e⟩ := jd e
   obtain ⟨k3, e⟩ := je e
   obtain ⟨k4, e⟩ := je e
   cases e
   obtain rfl := Nat.eq_of_beq_eq_true k3
   obtain rfl := Nat.eq_of_beq_eq_true k4
   obtain rfl : U = .slice none 0 _ := by simpa only [Den] using h2
   refine ⟨_, aac h1 (kK hs k1) (kK hs k2) k0 (Nat.le_refl _) (Nat.zero_le _), ?_⟩
   simp [Den]
 · obtain ⟨sz, k0, e⟩ := jd e
   obtain ⟨l, k1, e⟩ := jd e
   obtain ⟨h, k2, e⟩ := jd e
   simp only [Den] at h2
   obtain ⟨y, hy, rfl⟩ := h2
   obtain ⟨q1, q2, q3⟩ := Uy hm hy e
   refine ⟨_, aac h1 (kK hs k1) (kK hs k2) k0 q1 q2, ?_⟩
   simpa [kO] using q3
 · obtain ⟨q, k0, e⟩ := jd e
   obtain ⟨l, k1, e⟩ := jd e
   obtain ⟨h, k2, e⟩ := jd e
   simp only [Den] at h2
   obtain ⟨y, hy, rfl⟩ := h2
   obtain ⟨q1, q2, q3⟩ := Uy hm hy e
   have q2 : h ≤ q.1 := q2
   refine ⟨_, aeO h1 (kK hs k1) (kK hs k2) k0 q1 q2, ?_⟩
   have q3 : Den σ v (.slice (if q.1 = l then some ⟨y.1, _, none⟩ else some ⟨y.1, _ + l * q.2, none⟩) (h - l) (q.1 - l)) := q3
   rw [kO]
   split <;> rename_i c <;> simpa [c] using q3
 · cases e
end
end
section
open Go
section
variable {P : Program}
def Zf (P : Program) (d : Nat) (xs ys : Array Value) (f : Field) (b : Bool) : Prop := ∀ w, ∃ X Y, (part f.type xs f.offset).run P w = .ok X w ∧ (part f.type ys f.offset).run P w = .ok Y w ∧ (Op.equalIn d f.type X Y).run P w = .ok b w
def acJ (P : Program) (d : Nat) (xs ys : Array Value) : List Field → Bool → Prop
 | [], b => b = true
 | f :: fs, b => (f.name = "_" ∧ acJ P d xs ys fs b) ∨ (f.name ≠ "_" ∧ ((Zf P d xs ys f false ∧ b = false) ∨ (Zf P d xs ys f true ∧ acJ P d xs ys fs b)))
theorem Zg {d : Nat} {xs ys : Array Value} (w : World) : ∀ {fs : List Field} {b : Bool}, acJ P d xs ys fs b → (forIn fs ((none, ()) : Option Bool × Unit) fun f __s =>
 if f.name = "_" then pure (ForInStep.yield (none, ()))
 else do
  let __do_lift ← part f.type xs f.offset
  let __do_lift_1 ← part f.type ys f.offset
  let __do_lift ← Op.equalIn d f.type __do_lift __do_lift_1
  if __do_lift = false then pure (ForInStep.done (some false, ())) else pure (ForInStep.yield (none, ())) : Sem (Option Bool × Unit)).run P w = .ok (if b then (none, ()) else (some false, ())) w
 | [], b, h => by have h : b = true := h; subst h; simp
 | f :: fs, b, h => by
   rcases h with ⟨h1, h2⟩ | ⟨h1, ⟨h2, rfl⟩ | ⟨h2, h3⟩⟩
   · have ih := Zg w h2
     simp only [List.forIn_cons, h1, if_true, pure_bind]
     exact ih
   · obtain ⟨X, Y, k1, k2, k3⟩ := h2 w
     simp [List.forIn_cons, h1, k1, k2, k3]
   · have ih := Zg w h3
     obtain ⟨X, Y, k1, k2, k3⟩ := h2 w
     simp [List.forIn_cons, h1, k1, k2, k3]
     exact ih
theorem aa5 {d : Nat} {t : TypeId} {fs : Array Field} {xs ys : Array Value} {b : Bool} (h : P.underlying t = some (.struct fs)) (hs : P.stoodInHeld t = false) (hf : acJ P d xs ys fs.toList b) (w : World) : (Op.equalIn (d+1) t (.agg xs) (.agg ys)).run P w = .ok b w := by
 rw [Op.equalIn]
 simp only [Sem.run_bind, run_underlying h]
 simp [hs, Result.andThen]
 rw [← Array.forIn_toList]
 have := Zg w hf
 rw [this]
 cases b <;> simp
end
noncomputable def aggTy (P : Program) (t : Nat) : Option Bool := match P.underlying t with
 | some (.struct _) => some true
 | some (.array _ _) => some true
 | some _ => some false
 | none => none
noncomputable def partV (P : Program) (t : Nat) (l : List AV) (off : Nat) : Option AV := ob (aggTy P t) fun b => Bool.rec (nth l off) (ob (P.info? t) fun ti => takeK (drop l off) ti.size fun r => some (.agg r)) b
def Zh (P : Program) (t : Nat) : Bool := match P.underlying t with
 | some .bool => true
 | _ => false
def WD (P : Program) (t : Nat) : Bool := match P.underlying t with
 | some (.pointer _) => true
 | _ => false
def aa6 (P : Program) (t : Nat) : Bool := match P.underlying t with
 | some (.interface _) => true
 | _ => false
def KF (P : Program) (t : Nat) : Bool := match P.underlying t with
 | some (.map _ _) => true
 | _ => false
def WE (P : Program) (t : Nat) : Bool := match P.underlying t with
 | some (.func _ _ _) => true
 | _ => false
def Zi (P : Program) (t : Nat) : Bool := match P.underlying t with
 | some (.int _) => true
 | _ => false
noncomputable def eqBB (a b : Bool) : Bool := Bool.rec (Bool.rec true false b) b a
theorem Vv (a b : Bool) : eqBB a b = (a == b) := by cases a <;> cases b <;> rfl
noncomputable def eqII (a b : Int) : Bool := match a, b with
 | .ofNat a, .ofNat b => Nat.beq a b
 | a, b => decide (a = b)
theorem Qa (a b : Int) : eqII a b = (a == b) := by
 have h0 : ∀ a b : Int, decide (a = b) = (a == b) := fun _ _ => rfl
 unfold eqII
 split
 · rw [yL, ← h0]
   exact decide_eq_decide.2 ⟨fun h => by rw [h], fun h => Int.ofNat.inj h⟩
 · rfl
noncomputable def blankF (n : String) : Bool := decide (n = "_")
noncomputable def eqFs (P : Program) (ih : Nat → AV → AV → Option Bool) (x y : List AV) (fs : List Field) : Option Bool := List.rec (some true) (fun f _ r => Bool.rec (ob (partV P f.type x f.offset) fun a => ob (partV P f.type y f.offset) fun b => ob (ih f.type a b) fun c => Bool.rec (some false) r c) r (blankF f.name)) fs
noncomputable def eqStep (P : Program) (ih : Nat → AV → AV → Option Bool) (t : Nat) (a b : AV) : Option Bool := match a, b with
 | .bool x, .bool y => bo (Zh P t) (some (eqBB x y))
 | .int k x, .int k' y => bo (decide (k = k')) (bo (Zi P t) (some (eqII x y)))
 | .str l, .str m => bo (KE P t) (some (beqN l m))
 | .ptr0, .ptr0 => bo (WD P t) (some true)
 | .ptr0, .ptr _ _ => bo (WD P t) (some false)
 | .ptr _ _, .ptr0 => bo (WD P t) (some false)
 | .nilI, .nilI => bo (aa6 P t) (some true)
 | .nilI, .ifc _ _ => bo (aa6 P t) (some false)
 | .ifc _ _, .nilI => bo (aa6 P t) (some false)
 | .ifc u v, .ifc u' v' => bo (aa6 P t) (Bool.rec (some false) (ob (P.info? u) fun ti => bo ti.comparable (ih u v v')) (Nat.beq u u'))
 | .slc0 _, .slc0 _ => bo (yh P t) (some true)
 | .slc0 _, .slc _ _ _ _ => bo (yh P t) (some false)
 | .slc _ _ _ _, .slc0 _ => bo (yh P t) (some false)
 | .mp0, .mp0 => bo (KF P t) (some true)
 | .mp0, .mp _ => bo (KF P t) (some false)
 | .mp _, .mp0 => bo (KF P t) (some false)
 | .nilFn, .nilFn => bo (WE P t) (some true)
 | .fn _ _, .nilFn => bo (WE P t) (some false)
 | .nilFn, .fn _ _ => bo (WE P t) (some false)
 | .agg x, .agg y => (match P.underlying t with
   | some (.struct fs) => Bool.rec (eqFs P ih x y fs.toList) none (P.stoodInHeld t)
   | _ => none)
 | _, _ => none
noncomputable def eqA (P : Program) (d : Nat) : Nat → AV → AV → Option Bool := Nat.rec (fun _ _ _ => none) (fun _ ih t a b => eqStep P ih t a b) d
section
variable {P : Program} {G : World} {ρ : jh} {L : ja} {F : Fm} {ty : TypeId} {σ : Sg}
theorem yO {t off : Nat} {l : List AV} {Ls : List Value} {v : AV} (h : DenL σ l Ls) (e : partV P t l off = some v) : ∃ V, Den σ v V ∧ ∀ w, (part t Ls.toArray off).run P w = .ok V w := by
 obtain ⟨b, hb, e⟩ := jd e
 unfold aggTy at hb
 cases b with
 | false =>
   have e : nth l off = some v := e
   rw [qg] at e
   obtain ⟨V, h1, h2⟩ := h.get e
   refine ⟨V, h2, fun w => ?_⟩
   have ha : (isAgg t).run P w = .ok false w := by
    split at hb
    · cases hb
    · cases hb
    · rename_i d _ _ hu
      cases d <;> simp_all [isAgg, run_underlying hu]
    · cases hb
   simp [part, ha, h1]
 | true =>
   obtain ⟨ti, hi, e⟩ := jd (show ob (P.info? t) (fun ti => takeK (drop l off) ti.size fun r => some (.agg r)) = some v from e)
   obtain ⟨h1, h2⟩ := qr _ _ _ e
   cases h2
   rw [qO] at h1
   rw [qO]
   have hd := (h.drop off).take ti.size
   refine ⟨.agg ((Ls.drop off).take ti.size).toArray, by simp only [Den]; exact ⟨_, hd, rfl⟩, fun w => ?_⟩
   have ha : (isAgg t).run P w = .ok true w := by
    split at hb
    · rename_i hu; simp [isAgg, run_underlying hu]
    · rename_i hu; simp [isAgg, run_underlying hu]
    · cases hb
    · cases hb
   simp [part, ha, sizeOf, typeInfo, hi, List.extract_eq_take_drop]
def aeP (P : Program) (d : Nat) (ih : Nat → AV → AV → Option Bool) : Prop := ∀ {σ : Sg} {t : Nat} {a b : AV} {A B : Value} {c : Bool}, ih t a b = some c → Den σ a A → Den σ b B → ∀ w, (Op.equalIn d t A B).run P w = .ok c w
theorem Vw {d : Nat} {ih : Nat → AV → AV → Option Bool} (hi : aeP P d ih) {x y : List AV} {X Y : List Value} (hx : DenL σ x X) (hy : DenL σ y Y) : ∀ {fs : List Field} {b : Bool}, eqFs P ih x y fs = some b → acJ P d X.toArray Y.toArray fs b
 | [], b, e => by cases e; rfl
 | f :: fs, b, e => by
   have e : (Bool.rec (ob (partV P f.type x f.offset) fun a => ob (partV P f.type y f.offset) fun b => ob (ih f.type a b) fun c => Bool.rec (some false) (eqFs P ih x y fs) c) (eqFs P ih x y fs) (blankF f.name) : Option Bool) = some b := e
   cases hb : blankF f.name with
   | true =>
     rw [hb] at e
     exact Or.inl ⟨of_decide_eq_true hb, Vw hi hx hy e⟩
   | false =>
     rw [hb] at e
     obtain ⟨a, h1, e⟩ := jd e
     obtain ⟨b', h2, e⟩ := jd e
     obtain ⟨c, h3, e⟩ := jd e
     obtain ⟨A, k1, k2⟩ := yO hx h1
     obtain ⟨B, k3, k4⟩ := yO hy h2
     have hp : Zf P d X.toArray Y.toArray f c := fun w => ⟨A, B, k2 w, k4 w, hi h3 k1 k3 w⟩
     refine Or.inr ⟨of_decide_eq_false hb, ?_⟩
     cases c with
     | false => cases e; exact Or.inl ⟨hp, rfl⟩
     | true => exact Or.inr ⟨hp, Vw hi hx hy e⟩
theorem acK {t : Nat} (h : Zh P t = true) : P.underlying t = some .bool := by unfold Zh at h; split at h <;> first | assumption | cases h
theorem Vx {t : Nat} (h : WD P t = true) : ∃ e, P.underlying t = some (.pointer e) := by unfold WD at h; split at h <;> first | exact ⟨_, by assumption⟩ | cases h
theorem Vy {t : Nat} (h : aa6 P t = true) : ∃ e, P.underlying t = some (.interface e) := by unfold aa6 at h; split at h <;> first | exact ⟨_, by assumption⟩ | cases h
theorem zM {t : Nat} (h : KF P t = true) : ∃ k e, P.underlying t = some (.map k e) := by unfold KF at h; split at h <;> first | exact ⟨_, _, by assumption⟩ | cases h
theorem Vz {t : Nat} (h : WE P t = true) : ∃ a b c, P.underlying t = some (.func a b c) := by unfold WE at h; split at h <;> first | exact ⟨_, _, _, by assumption⟩ | cases h
theorem aeQ {t : Nat} (h : Zi P t = true) : ∃ k, P.underlying t = some (.int k) := by unfold Zi at h; split at h <;> first | exact ⟨_, by assumption⟩ | cases h
theorem acL (a b : ByteArray) : (a == b) = decide (a = b) := by
 have h : (a == b) = (a.data == b.data) := rfl
 rw [h]
 by_cases e : a.data = b.data
 · have : a = b := ByteArray.ext e
   simp [this]
 · have : a ≠ b := fun c => e (by rw [c])
   simp [e, this]
theorem af7 {l m : List Nat} (hl : ∀ b ∈ l, b < 256) (hm : ∀ b ∈ m, b < 256) : (bsN l == bsN m) = beqN l m := by
 rw [yr, acL]
 refine decide_eq_decide.2 ⟨fun h => uJ hl hm ?_, fun h => by rw [h]⟩
 have := congrArg (fun b : ByteArray => b.data.toList) h
 simpa [bsN, bs] using this
theorem aa7 {d : Nat} {ih : Nat → AV → AV → Option Bool} (hi : aeP P d ih) : aeP P (d + 1) (eqStep P ih) := by
 intro σ t a b A B c e ha hb w
 unfold eqStep at e
 split at e
 · obtain ⟨h, e⟩ := je e
   cases e
   obtain rfl : A = .bool _ := by simpa [Den] using ha
   obtain rfl : B = .bool _ := by simpa [Den] using hb
   simp [Op.equalIn, run_underlying (acK h), Vv]
 · obtain ⟨hk, e⟩ := je e
   obtain ⟨h, e⟩ := je e
   cases e
   obtain rfl : A = .int _ _ := by simpa [Den] using ha
   obtain rfl : B = .int _ _ := by simpa [Den] using hb
   obtain ⟨k, hu⟩ := aeQ h
   have hk := of_decide_eq_true hk
   subst hk
   simp [Op.equalIn, run_underlying hu, Qa]
 · obtain ⟨h, e⟩ := je e
   cases e
   simp only [Den] at ha hb
   obtain ⟨hl, rfl⟩ := ha
   obtain ⟨hm, rfl⟩ := hb
   rw [← af7 hl hm]
   simp [Op.equalIn, run_underlying (uo h)]
 · obtain ⟨h, e⟩ := je e
   cases e
   obtain rfl : A = .pointer none := by simpa [Den] using ha
   obtain rfl : B = .pointer none := by simpa [Den] using hb
   obtain ⟨k, hu⟩ := Vx h
   simp [Op.equalIn, run_underlying hu]
 · obtain ⟨h, e⟩ := je e
   cases e
   obtain rfl : A = .pointer none := by simpa [Den] using ha
   simp only [Den] at hb
   obtain ⟨y, _, rfl⟩ := hb
   obtain ⟨k, hu⟩ := Vx h
   simp [Op.equalIn, run_underlying hu]
 · obtain ⟨h, e⟩ := je e
   cases e
   obtain rfl : B = .pointer none := by simpa [Den] using hb
   simp only [Den] at ha
   obtain ⟨y, _, rfl⟩ := ha
   obtain ⟨k, hu⟩ := Vx h
   simp [Op.equalIn, run_underlying hu]
 · obtain ⟨h, e⟩ := je e
   cases e
   obtain rfl : A = .nilIface := by simpa [Den] using ha
   obtain rfl : B = .nilIface := by simpa [Den] using hb
   obtain ⟨k, hu⟩ := Vy h
   simp [Op.equalIn, run_underlying hu]
 · obtain ⟨h, e⟩ := je e
   cases e
   obtain rfl : A = .nilIface := by simpa [Den] using ha
   simp only [Den] at hb
   obtain ⟨y, _, rfl⟩ := hb
   obtain ⟨k, hu⟩ := Vy h
   simp [Op.equalIn, run_underlying hu]
 · obtain ⟨h, e⟩ := je e
   cases e
   obtain rfl : B = .nilIface := by simpa [Den] using hb
   simp only [Den] at ha
   obtain ⟨y, _, rfl⟩ := ha
   obtain ⟨k, hu⟩ := Vy h
   simp [Op.equalIn, run_underlying hu]
 · obtain ⟨h, e⟩ := je e
   simp only [Den] at ha hb
   obtain ⟨X, hx, rfl⟩ := ha
   obtain ⟨Y, hy, rfl⟩ := hb
   obtain ⟨k, hu⟩ := Vy h
   rename_i u v u' v' _
   cases hq : Nat.beq u u' with
   | false =>
     rw [hq] at e
     cases e
     have hne : u ≠ u' := fun c => by rw [c, Nat.beq_refl] at hq; cases hq
     simp [Op.equalIn, run_underlying hu, hne]
   | true =>
     rw [hq] at e
     obtain ⟨ti, hti, e⟩ := jd e
     obtain ⟨hc, e'⟩ := je e
     have := Nat.eq_of_beq_eq_true hq
     subst this
     have := hi e' hx hy w
     simp [Op.equalIn, run_underlying hu, typeInfo, hti, hc, this]
 · obtain ⟨h, e⟩ := je e
   cases e
   obtain rfl : A = .slice none 0 _ := by simpa only [Den] using ha
   obtain rfl : B = .slice none 0 _ := by simpa only [Den] using hb
   obtain ⟨k, hu⟩ := un h
   simp [Op.equalIn, run_underlying hu]
 · obtain ⟨h, e⟩ := je e
   cases e
   obtain rfl : A = .slice none 0 _ := by simpa only [Den] using ha
   simp only [Den] at hb
   obtain ⟨y, _, rfl⟩ := hb
   obtain ⟨k, hu⟩ := un h
   simp [Op.equalIn, run_underlying hu]
 · obtain ⟨h, e⟩ := je e
   cases e
   obtain rfl : B = .slice none 0 _ := by simpa only [Den] using hb
   simp only [Den] at ha
   obtain ⟨y, _, rfl⟩ := ha
   obtain ⟨k, hu⟩ := un h
   simp [Op.equalIn, run_underlying hu]
 · obtain ⟨h, e⟩ := je e
   cases e
   obtain rfl : A = .map none := by simpa [Den] using ha
   obtain rfl : B = .map none := by simpa [Den] using hb
   obtain ⟨k, v, hu⟩ := zM h
   simp [Op.equalIn, run_underlying hu]
 · obtain ⟨h, e⟩ := je e
   cases e
   obtain rfl : A = .map none := by simpa [Den] using ha
   simp only [Den] at hb
   obtain ⟨y, _, rfl⟩ := hb
   obtain ⟨k, v, hu⟩ := zM h
   simp [Op.equalIn, run_underlying hu]
 · obtain ⟨h, e⟩ := je e
   cases e
   obtain rfl : B = .map none := by simpa [Den] using hb
   simp only [Den] at ha
   obtain ⟨y, _, rfl⟩ := ha
   obtain ⟨k, v, hu⟩ := zM h
   simp [Op.equalIn, run_underlying hu]
 · obtain ⟨h, e⟩ := je e
   cases e
   obtain rfl : A = .nilFunc := by simpa [Den] using ha
   obtain rfl : B = .nilFunc := by simpa [Den] using hb
   obtain ⟨k, v, q, hu⟩ := Vz h
   simp [Op.equalIn, run_underlying hu]
 · obtain ⟨h, e⟩ := je e
   cases e
   obtain rfl : B = .nilFunc := by simpa [Den] using hb
   simp only [Den] at ha
   obtain ⟨y, _, rfl⟩ := ha
   obtain ⟨k, v, q, hu⟩ := Vz h
   simp [Op.equalIn, run_underlying hu]
 · obtain ⟨h, e⟩ := je e
   cases e
   obtain rfl : A = .nilFunc := by simpa [Den] using ha
   simp only [Den] at hb
   obtain ⟨y, _, rfl⟩ := hb
   obtain ⟨k, v, q, hu⟩ := Vz h
   simp [Op.equalIn, run_underlying hu]
 · simp only [Den] at ha hb
   obtain ⟨X, hx, rfl⟩ := ha
   obtain ⟨Y, hy, rfl⟩ := hb
   split at e
   · rename_i fs hu
     cases hs : P.stoodInHeld t with
     | true => rw [hs] at e; cases e
     | false =>
       rw [hs] at e
       exact aa5 hu hs (Vw hi hx hy e) w
   · cases e
 · cases e
theorem Qt (P : Program) : ∀ d : Nat, aeP P d (eqA P d)
 | 0 => fun e => by cases e
 | d + 1 => aa7 (Qt P d)
noncomputable def guardOk (P : Program) (t : Nat) (x y : Operand) (a b : AV) : Bool := match a, b with
 | .nilI, .nilI => (match x with
   | .const _ => true
   | _ => (match y with
     | .const _ => true
     | _ => false))
 | .agg _, .agg _ => Bool.rec true false (P.eqGuardType P.depth t)
 | _, _ => true
noncomputable def eqOp (P : Program) (o : BinOp) (t : Nat) (x y : Operand) (a b : AV) : Option AV := bo (guardOk P t x y a b) (ob (eqA P 10000 t a b) fun c => match o with
 | .eql => some (.bool c)
 | .neq => some (.bool (Bool.rec true false c))
 | _ => none)
theorem WF {a : AV} (h : Den σ a .nilIface) : a = .nilI ∨ a = .und := by
 cases a <;> first | exact Or.inl rfl | exact Or.inr rfl | (exfalso; simp [Den] at h)
theorem aae {a : AV} {C : Array Value} (h : Den σ a (.agg C)) : (∃ l, a = .agg l) ∨ a = .und := by
 cases a <;> first | exact Or.inl ⟨_, rfl⟩ | exact Or.inr rfl | (exfalso; simp [Den] at h)
theorem aeR {d t : Nat} {a b : AV} {c : Bool} (e : eqA P d t a b = some c) : a ≠ .und ∧ b ≠ .und := by
 cases d with
 | zero => cases e
 | succ d =>
   have e : eqStep P (eqA P d) t a b = some c := e
   refine ⟨fun h => ?_, fun h => ?_⟩
   · subst h; simp [eqStep] at e
   · subst h; cases a <;> simp [eqStep] at e
theorem Uz {o : BinOp} {t : Nat} {x y : Operand} {a b : AV} {A B : Value} (h : guardOk P t x y a b = true) (ha : Den σ a A) (hb : Den σ b B) (hu : a ≠ .und ∧ b ≠ .und) (w : World) : (eqGuard o t x y A B).run P w = .ok () w := by
 have h1 : A = .nilIface → B = .nilIface → (∃ v, x = .const v) ∨ ∃ v, y = .const v := fun e1 e2 => by
  subst e1 e2
  have e3 := (WF ha).resolve_right hu.1
  have e4 := (WF hb).resolve_right hu.2
  subst e3 e4
  unfold guardOk at h
  cases x <;> cases y <;> simp at h ⊢
 have h2 : ∀ C D, A = .agg C → B = .agg D → P.eqGuardType P.depth t = false := fun C D e1 e2 => by
  subst e1 e2
  obtain ⟨l, rfl⟩ := (aae ha).resolve_right hu.1
  obtain ⟨m, rfl⟩ := (aae hb).resolve_right hu.2
  unfold guardOk at h
  cases hq : P.eqGuardType P.depth t with
  | false => rfl
  | true => simp [hq] at h
 cases o <;> unfold eqGuard <;> try (simp; done)
 all_goals
  simp only [Bool.not_true, Bool.false_eq_true, if_false]
  split
  · rcases h1 rfl rfl with ⟨v, rfl⟩ | ⟨v, rfl⟩
    · simp
    · cases x <;> simp
  · have := h2 _ _ rfl rfl
    simp [this]
  · simp
theorem op_binG {op : BinOp} {t yt : TypeId} {x y : Operand} {a b v : Value} (hx : ev ρ x = some a) (hy : ev ρ y = some b) (h : ∀ w, (do eqGuard op t x y a b; binOp op t a b : Sem Value).run P w = .ok v w) : OpQ P ρ L (.binOp op t x y yt) ty v :=
 ⟨fun r hr w hw o ho _ => by
   have h1 := h w
   simp only [execOp, ho, hr _ _ hx, hr _ _ hy]
   rw [Sem.run_bind, h1]
   rfl⟩
theorem acM {o : BinOp} {t yt : Nat} {x y : Operand} {a b r : AV} {A B : Value} (hx : ev ρ x = some A) (ha : Den σ a A) (hy : ev ρ y = some B) (hb : Den σ b B) (hn : ∀ k n, a ≠ .int k n) (hs : ∀ l, a ≠ .str l) (e : eqOp P o t x y a b = some r) : ∃ R, OpQ P ρ L (.binOp o t x y yt) ty R ∧ Den σ r R := by
 obtain ⟨hg, e⟩ := je e
 obtain ⟨c, hc, e⟩ := jd e
 have hu := aeR hc
 have hrun := fun w => Qt P 10000 (σ := σ) hc ha hb w
 have hAi : ∀ k n, A ≠ .int k n := fun k n e => by
  subst e
  cases a <;> simp [Den] at ha
  · exact hn _ _ rfl
  · exact hu.1 rfl
 have hAs : ∀ s, A ≠ .string s := fun s e => by
  subst e
  cases a <;> simp [Den] at ha
  · exact hs _ rfl
  · exact hu.1 rfl
 have hAf : ∀ k n, A ≠ .float k n := fun k n e => by
  subst e
  cases a <;> simp [Den] at ha
  exact hu.1 rfl
 have hAc : ∀ k n m, A ≠ .complex k n m := fun k n m e => by
  subst e
  cases a <;> simp [Den] at ha
  exact hu.1 rfl
 have hbin1 : ∀ w, (binOp .eql t A B).run P w = .ok (.bool c) w := fun w => by
  have h := hrun w
  unfold binOp
  cases A <;> first
   | exact absurd rfl (hAi _ _)
   | exact absurd rfl (hAs _)
   | exact absurd rfl (hAf _ _)
   | exact absurd rfl (hAc _ _ _)
   | (simp [Op.equal, Op.maxDepth, h])
 have hbin2 : ∀ w, (binOp .neq t A B).run P w = .ok (.bool (!c)) w := fun w => by
  have h := hrun w
  unfold binOp
  cases A <;> first
   | exact absurd rfl (hAi _ _)
   | exact absurd rfl (hAs _)
   | exact absurd rfl (hAf _ _)
   | exact absurd rfl (hAc _ _ _)
   | (simp [Op.equal, Op.maxDepth, h])
 cases o <;> first | (cases e; done) | skip
 · cases e
   exact ⟨.bool c, op_binG hx hy fun w => by rw [Sem.run_bind, Uz hg ha hb hu w]; exact hbin1 w, jQ⟩
 · cases e
   exact ⟨.bool (!c), op_binG hx hy fun w => by rw [Sem.run_bind, Uz hg ha hb hu w]; exact hbin2 w, by cases c <;> exact jQ⟩
end
end
section
open Go
noncomputable def is2w (P : Program) (op : Op) : Bool := match op with
 | .unOp o _ _ => (match o with
   | .not => false
   | _ => true)
 | .build _ _ => true
 | .index _ _ _ => true
 | .slice _ _ _ _ _ => true
 | .makeInterface _ _ => true
 | .typeAssert _ _ _ _ => true
 | .convert _ b _ => (match P.underlying b with
   | some (.int _) => false
   | _ => true)
 | .call c => (match c.callee with
   | .builtin .min => true
   | .builtin .max => true
   | _ => false)
 | _ => false
noncomputable def minI (a b : Int) : Int := match a, b with
 | .ofNat a, .ofNat b => Bool.rec (.ofNat b) (.ofNat a) (Nat.ble a b)
 | a, b => min a b
noncomputable def maxI (a b : Int) : Int := match a, b with
 | .ofNat a, .ofNat b => Bool.rec (.ofNat a) (.ofNat b) (Nat.ble a b)
 | a, b => max a b
theorem aeS (a b : Int) : minI a b = min a b := by
 unfold minI
 split
 · rename_i a b
   rw [yM]
   by_cases h : a ≤ b
   · rw [decide_eq_true h]; exact (Int.min_eq_left (by exact Int.ofNat_le.2 h)).symm
   · rw [decide_eq_false h]; exact (Int.min_eq_right (by exact Int.ofNat_le.2 (by omega))).symm
 · rfl
theorem aeT (a b : Int) : maxI a b = max a b := by
 unfold maxI
 split
 · rename_i a b
   rw [yM]
   by_cases h : a ≤ b
   · rw [decide_eq_true h]; exact (Int.max_eq_right (by exact Int.ofNat_le.2 h)).symm
   · rw [decide_eq_false h]; exact (Int.max_eq_left (by exact Int.ofNat_le.2 (by omega))).symm
 · rfl
noncomputable def indexV (P : Program) (t : Nat) (v w : AV) : Option AV := match v with
 | .str l => bo (KE P t) (w.asNat fun _ j => ob (nth l j) fun b => some (.int .u8 (Int.ofNat b)))
 | .agg l => w.asNat fun _ j => (match P.underlying t with
   | some (.array n e) => bo (Nat.blt j n) (ob (P.info? e) fun ti => partV P e l (Nat.mul j ti.size))
   | _ => none)
 | _ => none
noncomputable def q2w (P : Program) (s : Fr AV) (m : Mem) (op : Op) : Option AV := match op with
 | .unOp o _ x => (match o with
   | .neg => ob (opd s x) fun v => v.asInt fun k n => some (.int k (k.wrap (0 - n)))
   | _ => none)
 | .build t ps => buildA P s t ps.toList
 | .index t x i => ob (opd s x) fun v => ob (opd s i) fun w => indexV P t v w
 | .slice t x lo hi mx => Option.rec (ob (opd s x) fun v => sliceV P s m t v lo hi) (fun _ => none) mx
 | .makeInterface t x => ob (isIfc P t) fun b => Bool.rec (ob (opd s x) fun v => some (.ifc t v)) none b
 | .typeAssert x _ t ok => ob (opd s x) fun v => assertV P t ok v
 | .convert a b x => ob (opd s x) fun v => convV P m a b v
 | .call c => (match c.callee with
   | .builtin .min => (match c.args with
     | ⟨[x, y]⟩ => ob (opd s x) fun v => ob (opd s y) fun w => v.asInt fun k a => w.asInt fun _ b => some (.int k (minI a b))
     | _ => none)
   | .builtin .max => (match c.args with
     | ⟨[x, y]⟩ => ob (opd s x) fun v => ob (opd s y) fun w => v.asInt fun k a => w.asInt fun _ b => some (.int k (maxI a b))
     | _ => none)
   | _ => none)
 | _ => none
section
variable {P : Program} {G : World} {ρ : jh} {L : ja} {F : Fm} {ty : TypeId} {σ : Sg}
theorem Qu : ∀ {l : List AV} {r : List Nat} {M : List Value}, bytesA l = some r → DenL σ l M → (∀ b ∈ r, b < 256) ∧ M = r.map fun b => Value.int .u8 (Int.ofNat b)
 | [], r, M, h, k => by cases h; rw [k.inv0]; simp
 | v :: l, r, M, h, k => by
   obtain ⟨kk, b, rfl, h⟩ := kJ (show v.asNat (fun k b => bo (decide (k = .u8)) (bo (Nat.ble b 255) (ob (bytesA l) fun r => some (b :: r)))) = some r from h)
   obtain ⟨h1, h⟩ := je h
   obtain ⟨h2, h⟩ := je h
   obtain ⟨r', h3, h⟩ := jd h
   cases h
   obtain ⟨V, N, rfl, k1, k2⟩ := k.inv
   obtain ⟨h4, rfl⟩ := Qu h3 k2
   obtain rfl : V = .int kk (Int.ofNat b) := by simpa [Den] using k1
   have h1 := of_decide_eq_true h1
   subst h1
   have h2 := Nat.le_of_ble_eq_true h2
   refine ⟨fun c hc => ?_, rfl⟩
   rcases List.mem_cons.1 hc with rfl | hc
   · omega
   · exact h4 c hc
theorem Zj {x y : Operand} {t : Nat} {v w r : AV} {V W : Value} (h1 : ev ρ x = some V) (h2 : Den σ v V) (h3 : ev ρ y = some W) (h4 : Den σ w W) (e : indexV P t v w = some r) : ∃ R, OpQ P ρ L (.index t x y) ty R ∧ Den σ r R := by
 unfold indexV at e
 split at e
 · obtain ⟨c, e⟩ := je e
   obtain ⟨k, j, rfl, e⟩ := kJ e
   obtain ⟨b, hb, e⟩ := jd e
   cases e
   simp only [Den] at h2
   obtain ⟨hl, rfl⟩ := h2
   obtain rfl : W = .int k (Int.ofNat j) := by simpa only [Den] using h4
   rw [qg] at hb
   have hlt := hl b (List.mem_of_getElem? hb)
   refine ⟨_, zE (c := UInt8.ofNat b) h1 h3 (uo c) (Int.natCast_nonneg j) (by show _ = _; simp [hb]), ?_⟩
   rw [UInt8.toNat_ofNat', Nat.mod_eq_of_lt hlt]
   exact jO
 · obtain ⟨k, j, rfl, e⟩ := kJ e
   split at e
   · rename_i n el hu
     obtain ⟨hlt, e⟩ := je e
     obtain ⟨ti, hi, e⟩ := jd e
     simp only [Den] at h2
     obtain ⟨M, hM, rfl⟩ := h2
     obtain rfl : W = .int k (Int.ofNat j) := by simpa only [Den] using h4
     obtain ⟨R, k1, k2⟩ := yO hM e
     have hlt : j < n := by simpa using hlt
     have k2 : ∀ w, (part el M.toArray (j * ti.size)).run P w = .ok R w := k2
     exact ⟨R, ⟨fun r' hr w hw o ho _ => by simp [execOp, ho, hr _ _ h1, hr _ _ h3, Instr.index, asIntOf, run_underlying hu, hlt, sizeOf, typeInfo, hi, k2]⟩, k1⟩
   · cases e
 · cases e
theorem WG {x : Operand} {xt t : Nat} {ok : Bool} {v r : AV} {V : Value} (h1 : ev ρ x = some V) (h2 : Den σ v V) (e : assertV P t ok v = some r) : ∃ R, OpQ P ρ L (.typeAssert x xt t ok) ty R ∧ Den σ r R := by
 have fail : ∀ R, (Bool.rec none (ob (qY P t) fun z => some (AV.tup [ofV z, .bool false])) ok : Option AV) = some R → ∃ z, qY P t = some z ∧ ok = true ∧ Den σ R (.tuple #[z, .bool false]) := fun R e => by
  cases ok with
  | false => cases e
  | true =>
    obtain ⟨z, hz, e⟩ := jd e
    cases e
    refine ⟨z, hz, rfl, ?_⟩
    simp only [Den]
    exact ⟨[z, .bool false], .cons (zJ σ z) (.cons jQ .nil), rfl⟩
 have hold : ∀ (w : AV) (W : Value), Den σ w W → Den σ (Bool.rec w (.tup [w, .bool true]) ok : AV) (if ok then .tuple #[W, .bool true] else W) := fun w W h => by
  cases ok with
  | false => exact h
  | true => simp only [Den, if_true]; exact ⟨[W, .bool true], .cons h (.cons jQ .nil), rfl⟩
 unfold assertV at e
 dsimp only at e
 split at e
 · rename_i u w
   have h2' := h2
   simp only [Den] at h2
   obtain ⟨W, hw, rfl⟩ := h2
   split at e
   · rename_i want hu
     obtain ⟨ti, hi, e⟩ := jd e
     split at e
     · rename_i hmm
       cases e
       refine ⟨_, ⟨fun r hr w' hw' o ho _ => ?_⟩, hold _ _ h2'⟩
       simp [execOp, ho, hr _ _ h1, Instr.typeAssert, run_underlying hu, typeInfo, hi, hmm]
     · rename_i mm hmm
       obtain ⟨z, hz, rfl, hd⟩ := fail _ e
       refine ⟨_, ⟨fun r hr w' hw' o ho _ => ?_⟩, hd⟩
       simp [execOp, ho, hr _ _ h1, Instr.typeAssert, run_underlying hu, typeInfo, hi, hmm, kl hz]
   · rename_i d hni hu
     cases hb : Nat.beq u t with
     | true =>
       rw [hb] at e
       cases e
       have := Nat.eq_of_beq_eq_true hb
       subst this
       refine ⟨_, ⟨fun r hr w' hw' o ho _ => ?_⟩, hold _ _ hw⟩
       have hrun : (Instr.typeAssert (.iface u W) xt u ok).run P w' = .ok (if ok then .tuple #[W, .bool true] else W) w' := by
        unfold Instr.typeAssert
        cases d <;> first | exact absurd rfl (hni _) | simp [run_underlying hu]
       simp [execOp, ho, hr _ _ h1, hrun]
     | false =>
       rw [hb] at e
       have hne : u ≠ t := fun c => by rw [c, Nat.beq_refl] at hb; cases hb
       obtain ⟨z, hz, rfl, hd⟩ := fail _ e
       refine ⟨_, ⟨fun r hr w' hw' o ho _ => ?_⟩, hd⟩
       have hrun : (Instr.typeAssert (.iface u W) xt t true).run P w' = .ok (.tuple #[z, .bool false]) w' := by
        unfold Instr.typeAssert
        cases d <;> first | exact absurd rfl (hni _) | simp [run_underlying hu, hne, kl hz]
       simp [execOp, ho, hr _ _ h1, hrun]
   · cases e
 · obtain ⟨d, hu, e⟩ := jd e
   obtain rfl : V = .nilIface := by simpa [Den] using h2
   obtain ⟨z, hz, rfl, hd⟩ := fail _ e
   refine ⟨_, ⟨fun r hr w' hw' o ho _ => ?_⟩, hd⟩
   cases d <;> simp [execOp, ho, hr _ _ h1, Instr.typeAssert, run_underlying hu, kl hz]
 · cases e
theorem aa8 {m : Mem} (hm : yq σ m L) {x : Operand} {a b : Nat} {v r : AV} {V : Value} (h1 : ev ρ x = some V) (h2 : Den σ v V) (e : convV P m a b v = some r) : ∃ R, OpQ P ρ L (.convert a b x) ty R ∧ Den σ r R := by
 obtain ⟨hb, e⟩ := je e
 have hb := uo hb
 have elt : ∀ u, convV.eltB P a = some u → ∃ el, P.underlying a = some (.slice el) ∧ P.underlying el = some (.int .u8) := fun u h => by
  unfold convV.eltB at h
  split at h
  · rename_i el he
    split at h
    · rename_i hee; exact ⟨el, he, hee⟩
    · cases h
  · cases h
 split at e
 · obtain ⟨d, hd, e⟩ := jd e
   cases e
   have h2' := h2
   simp only [Den] at h2
   obtain ⟨_, rfl⟩ := h2
   exact ⟨_, Kz h1 hd hb, h2'⟩
 · obtain ⟨u, hu, e⟩ := jd e
   cases e
   obtain ⟨el, he, hee⟩ := elt u hu
   obtain rfl : V = .slice none 0 _ := by simpa only [Den] using h2
   exact ⟨_, zi h1 he hee hb, by simp [Den, bsN]⟩
 · rename_i i o n c' _
   obtain ⟨u, hu, e⟩ := jd e
   obtain ⟨y, hy, e⟩ := jd e
   obtain ⟨c, hc, e⟩ := jd e
   obtain ⟨r', k1, k3, rfl⟩ : ∃ r', n ≤ (drop c o).length ∧ bytesA ((drop c o).take n) = some r' ∧ r = .str r' := by
    cases hz : Nat.ble 20000 n with
    | false =>
      rw [hz] at e
      obtain ⟨k1, k2⟩ := qr _ _ _ e
      obtain ⟨r', k3, k4⟩ := jd k2
      cases k4
      exact ⟨r', k1, k3, rfl⟩
    | true =>
      rw [hz] at e
      obtain ⟨k1, k2⟩ := je e
      cases k2
      obtain ⟨k3, k4⟩ := Ux _ _ k1
      exact ⟨_, k3, k4, rfl⟩
   obtain ⟨el, he, hee⟩ := elt u hu
   simp only [Den] at h2
   obtain ⟨z, hz, rfl⟩ := h2
   obtain ⟨O, q1, q2⟩ := hm _ y z hy hz
   obtain ⟨M, C, te, fr, rfl, q3, q4⟩ := zq q1 hc
   rw [qO] at k1 k3
   have q5 := (q3.drop o).take n
   obtain ⟨q6, q7⟩ := Qu k3 q5
   have hlen : r'.length = n := by
    have := congrArg List.length q7
    rw [List.length_map, List.length_take, List.length_drop, q3.length] at this
    simp at k1
    omega
   refine ⟨_, uV (C := C) (te := te) (fr := fr) (r'.map UInt8.ofNat) h1 (by simp [hlen]) he hee hb q2 (fun j hj => ?_), by simp only [Den]; exact ⟨q6, rfl⟩⟩
   have hj' : j < r'.length := by simpa using hj
   have e1 : ((M.drop o).take n)[j]? = some (Value.int .u8 (Int.ofNat r'[j])) := by rw [q7]; simp [hj']
   rw [List.getElem?_take_of_lt (by omega), List.getElem?_drop] at e1
   rw [q4 _ _ e1]
   have := q6 r'[j] (List.getElem_mem _)
   simp [UInt8.toNat_ofNat', Nat.mod_eq_of_lt this]
 · cases e
theorem aaf {s : Fr AV} {m : Mem} (hs : SlR σ s ρ) (hm : yq σ m L) {op : Op} {v : AV} (e : q2w P s m op = some v) : ∃ V, OpQ P ρ L op ty V ∧ Den σ v V := by
 unfold q2w at e
 split at e
 · split at e
   · obtain ⟨u, hx, e⟩ := jd e
     obtain ⟨k, n, rfl, e⟩ := qI e
     cases e
     obtain ⟨U, h1, h2⟩ := ju hs hx
     obtain rfl : U = .int k n := by simpa [Den] using h2
     exact ⟨_, ⟨fun r hr w hw o ho _ => by simp [execOp, ho, hr _ _ h1, Op.unary, Op.intArith]⟩, jO⟩
   · cases e
 · exact Zd hs e
 · obtain ⟨u, hx, e⟩ := jd e
   obtain ⟨u', hy, e⟩ := jd e
   obtain ⟨U, h1, h2⟩ := ju hs hx
   obtain ⟨U', h3, h4⟩ := ju hs hy
   exact Zj h1 h2 h3 h4 e
 · rename_i mx
   cases mx with
   | none =>
     obtain ⟨u, hx, e⟩ := jd e
     exact Ze hs hm hx e
   | some y => cases e
 · obtain ⟨b, hb, e⟩ := jd e
   cases b with
   | true => cases e
   | false =>
     obtain ⟨u, hx, e⟩ := jd e
     cases e
     obtain ⟨U, h1, h2⟩ := ju hs hx
     unfold isIfc at hb
     split at hb
     · cases hb
     · rename_i hni hu
       refine ⟨.iface _ U, ⟨fun r hr w hw o ho _ => ?_⟩, by simp only [Den]; exact ⟨U, h2, rfl⟩⟩
       rename_i d _
       cases d <;> simp_all [execOp, Instr.makeInterface, run_underlying hu] <;> simp [hr _ _ h1, Instr.makeInterface, run_underlying hu]
     · cases hb
 · obtain ⟨u, hx, e⟩ := jd e
   obtain ⟨U, h1, h2⟩ := ju hs hx
   exact WG h1 h2 e
 · obtain ⟨u, hx, e⟩ := jd e
   obtain ⟨U, h1, h2⟩ := ju hs hx
   exact aa8 hm h1 h2 e
 · rename_i c
   obtain ⟨callee, args, ats⟩ := c
   dsimp only at e
   split at e
   · split at e
     · rename_i x y
       obtain ⟨u, hx, e1⟩ := jd e
       obtain ⟨u', hy, e2⟩ := jd e1
       obtain ⟨k, a, hu, e3⟩ := qI e2
       obtain ⟨k', b, hu', e4⟩ := qI e3
       subst hu hu'
       cases e4
       obtain ⟨U, h1, h2⟩ := ju hs hx
       obtain ⟨U', h3, h4⟩ := ju hs hy
       obtain rfl : U = .int k a := by simpa [Den] using h2
       obtain rfl : U' = .int k' b := by simpa [Den] using h4
       exact ⟨_, acw h1 h3, by rw [aeS]; exact jO⟩
     · cases e
   · split at e
     · rename_i x y
       obtain ⟨u, hx, e1⟩ := jd e
       obtain ⟨u', hy, e2⟩ := jd e1
       obtain ⟨k, a, hu, e3⟩ := qI e2
       obtain ⟨k', b, hu', e4⟩ := qI e3
       subst hu hu'
       cases e4
       obtain ⟨U, h1, h2⟩ := ju hs hx
       obtain ⟨U', h3, h4⟩ := ju hs hy
       obtain rfl : U = .int k a := by simpa [Den] using h2
       obtain rfl : U' = .int k' b := by simpa [Den] using h4
       exact ⟨_, acx h1 h3, by rw [aeT]; exact jO⟩
     · cases e
   · cases e
 · cases e
end
end
section
open Go
noncomputable def repA {α : Type} (l : List α) (n : Nat) : List α := Nat.rec [] (fun _ ih => appN l ih) n
theorem yP {α : Type} (l : List α) (n : Nat) : repA l (n + 1) = l ++ repA l n := u6 _ _
theorem yv {α : Type} (l : List α) : ∀ n : Nat, (repA l n).length = n * l.length
 | 0 => by show ([] : List α).length = _; simp
 | n + 1 => by rw [yP, List.length_append, yv l n, Nat.succ_mul]; omega
theorem Qv {α : Type} (l : List α) : ∀ (n j : Nat), j < n * l.length → (repA l n)[j]? = l[j % l.length]?
 | 0, j, h => by simp at h
 | n + 1, j, h => by
   rw [yP]
   rw [Nat.succ_mul] at h
   by_cases c : j < l.length
   · rw [List.getElem?_append_left c, Nat.mod_eq_of_lt c]
   · rw [List.getElem?_append_right (by omega), Qv l n _ (by omega), ← Nat.mod_eq_sub_mod (by omega)]
theorem zN {σ : Sg} {l : List AV} {L : List Value} (h : DenL σ l L) : ∀ n : Nat, DenL σ (repA l n) (repA L n)
 | 0 => .nil
 | n + 1 => by rw [yP, yP]; exact h.append (zN h n)
theorem J8 (z : Value) (n : Nat) : ((Array.range (n * z.cells.size)).map fun j => z.cells[j % z.cells.size]!) = (repA z.cells.toList n).toArray := by
 apply Array.ext
 · simp [yv]
 · intro j h1 h2
   have hj : j < n * z.cells.size := by simpa using h1
   have hpos : 0 < z.cells.size := by
    rcases Nat.eq_zero_or_pos z.cells.size with h | h
    · rw [h] at hj; simp at hj
    · exact h
   have hm : j % z.cells.size < z.cells.size := Nat.mod_lt _ hpos
   have h3 := Qv z.cells.toList n j (by simpa using hj)
   have h4 : (repA z.cells.toList n).toArray[j]? = some ((repA z.cells.toList n).toArray[j]) := Array.getElem?_eq_getElem h2
   rw [List.getElem?_toArray, h3] at h4
   simp only [Array.length_toList] at h4
   rw [Array.getElem?_toList, Array.getElem?_eq_getElem hm] at h4
   simp only [Array.getElem_map, Array.getElem_range]
   rw [getElem!_pos z.cells _ hm]
   exact Option.some.inj h4
structure Elt where
 e : Nat
 sz : Nat
 by_ : Nat
 z : Value
noncomputable def eltA (P : Program) (t : Nat) : Option Elt := match P.underlying t with
 | some (.slice e) => ob (P.info? e) fun ti => ob ti.zero fun z => bo (Nat.beq (lenN z.cells.toList) ti.size) (bo (Nat.ble 1 ti.size) (some ⟨e, ti.size, ti.bytes, z⟩))
 | _ => none
noncomputable def isBytes (P : Program) (t : Nat) : Option Nat := match P.underlying t with
 | some (.slice e) => (match P.underlying e with
   | some (.int .u8) => some e
   | _ => none)
 | _ => none
noncomputable def mapB (l : List Nat) : List AV := List.rec [] (fun b _ ih => .int .u8 (Int.ofNat b) :: ih) l
noncomputable def soft2 (P : Program) (s : Fr AV) (op : Op) : Option (AO × Shp) := match op with
 | .buildSlice t n ps => ob (eltA P t) fun x => bo (Nat.ble (Nat.mul n x.sz) 16777216) (ob (fillA (plA x.sz) s ps.toList (repA (ofL x.z.cells.toList) n)) fun C => some (.cells C x.e, .slc n (.num n)))
 | .makeSlice t a b => ob (eltA P t) fun x => ob (opd s a) fun u => ob (opd s b) fun v => u.asNat fun _ l => v.asNat fun _ c => bo (Nat.ble l c) (bo (Nat.ble (Nat.mul x.by_ c) 100000000) (bo (Nat.ble c 1000000) (some (.cells (repA (ofL x.z.cells.toList) c) x.e, .slc l (.num c)))))
 | .makeMap t n => (match P.underlying t with
   | some (.map _ _) => Option.rec (some (.map [], .mp)) (fun y => ob (opd s y) fun v => v.asNat fun _ k => bo (Nat.ble k 1000000) (some (.map [], .mp))) n
   | _ => none)
 | _ => none
section
variable {P : Program} {G : World} {ρ : jh} {L : ja} {F : Fm} {ty : TypeId} {σ : Sg}
theorem yQ {t : Nat} {x : Elt} (h : eltA P t = some x) : ElemTy P t x.e x.sz x.by_ x.z := by
 unfold eltA at h
 split at h
 · rename_i e hu
   obtain ⟨ti, h1, h⟩ := jd h
   obtain ⟨z, h2, h⟩ := jd h
   obtain ⟨h3, h⟩ := je h
   obtain ⟨h4, h⟩ := je h
   cases h
   have h3 := Nat.eq_of_beq_eq_true h3
   rw [jP] at h3
   exact ⟨hu, ⟨ti, h1, h2, rfl, rfl⟩, by simpa using h3, Nat.le_of_ble_eq_true h4⟩
 · cases h
theorem aa9 {t : TypeId} {n : Option Operand} (hn : n = none ∨ ∃ y k j, n = some y ∧ ev ρ y = some (.int k (Int.ofNat j))) (ht : ∃ a b, P.underlying t = some (.map a b)) : OpNew P G ρ L (.makeMap t n) ty (fun b => .map (some b)) (.map #[] 0) :=
 .run fun r hr w o ho _ => by
  obtain ⟨a, b, ht⟩ := ht
  rcases hn with rfl | ⟨y, k, j, rfl, h1⟩
  · have h : (Instr.makeMap t none).run P w = .ok (.map (some w.heap.size)) (w.alloc (.map #[] 0)) := by simp [Instr.makeMap]
    simp [execOp, ho, h]
  · have h : (Instr.makeMap t (some (.int k (Int.ofNat j)))).run P w = .ok (.map (some w.heap.size)) (w.alloc (.map #[] 0)) := by simp [Instr.makeMap, run_underlying ht, asInt, asIntOf]
    simp [execOp, ho, hr _ _ h1]
    have h' : (Instr.makeMap t (some (.int k (j : Int)))).run P w = .ok (.map (some w.heap.size)) (w.alloc (.map #[] 0)) := h
    simp [h']
theorem aba {s : Fr AV} (hs : SlR σ s ρ) {op : Op} {o : AO} {sh : Shp} (e : soft2 P s op = some (o, sh)) : OpT P G ρ L op ty (uN σ o sh L) := by
 unfold soft2 at e
 split at e
 · rename_i t n ps
   obtain ⟨x, hx, e⟩ := jd e
   obtain ⟨hl, e⟩ := je e
   obtain ⟨C, hC, e⟩ := jd e
   cases e
   have E := yQ hx
   have hl := Nat.le_of_ble_eq_true hl
   have hl : n * x.sz ≤ 16777216 := hl
   obtain ⟨i, q2, q3, q4, q5⟩ := E.info
   obtain ⟨vs, Cs', k1, k2, k3⟩ := zL hs (place := fun i => some (i * x.sz, x.sz)) (fun i q h => h) ps.toList hC (zN (ud σ x.z.cells.toList) n)
   have hR : RowLit P t n vs x.e Cs'.toArray := ⟨fun w => by
    have hf : Instr.fill (fun i => some (i * x.sz, x.sz)) ((Array.range (n * x.sz)).map fun j => x.z.cells[j % x.z.cells.size]!) vs = some Cs'.toArray := by
     have h1 := J8 x.z n
     have h2 := E.cells
     rw [← h2] at k2 ⊢
     rw [h1]
     exact k2
    have hl2 : ¬ (16777216 < n * x.sz) := by omega
    by_cases h0 : n * x.sz = 0
    · have hn : n = 0 := by
       rcases Nat.mul_eq_zero.1 h0 with h | h
       · exact h
       · have := E.pos; omega
      subst hn
      have hf0 : Instr.fill (fun i => some (i * x.sz, x.sz)) #[] vs = some Cs'.toArray := by simpa [Array.range_zero'] using hf
      simp [Instr.buildSlice, run_underlying E.und, sizeOf, typeInfo, q2, q4, newRow, hf0, Array.range_zero']
    · simp [Instr.buildSlice, run_underlying E.und, sizeOf, typeInfo, q2, q4, hl2, h0, zeroValue, q3, hf, newRow]⟩
   refine (uI (ps := ps.toList) k1 hR).post ?_
   rintro _ _ ⟨b, rfl, rfl⟩
   exact ⟨_, ⟨b, n, _, rfl, rfl, Cs', k3, rfl⟩, fun w hw => hw⟩
 · obtain ⟨x, hx, e⟩ := jd e
   obtain ⟨u, hu, e⟩ := jd e
   obtain ⟨v, hv, e⟩ := jd e
   obtain ⟨k, l, hul, e⟩ := kJ e
   obtain ⟨k', c, hvc, e⟩ := kJ e
   obtain ⟨h1, e⟩ := je e
   obtain ⟨h2, e⟩ := je e
   obtain ⟨h3, e⟩ := je e
   cases e
   subst hul hvc
   have h1 := Nat.le_of_ble_eq_true h1
   have h2 := Nat.le_of_ble_eq_true h2
   have h2 : x.by_ * c ≤ 100000000 := h2
   have h3 := Nat.le_of_ble_eq_true h3
   have E := yQ hx
   obtain ⟨U, k1, k2⟩ := ju hs hu
   obtain ⟨V, k3, k4⟩ := ju hs hv
   obtain rfl : U = .int k (Int.ofNat l) := by simpa [Den] using k2
   obtain rfl : V = .int k' (Int.ofNat c) := by simpa [Den] using k4
   have hc : madeCells x.z.cells ((Int.ofNat c).toNat * x.sz) = (repA x.z.cells.toList c).toArray := by
    have h1 := J8 x.z c
    rw [← h1, E.cells]
    show madeCells x.z.cells (c * x.sz) = _
    unfold madeCells
    rw [E.cells]
   have h4 : (x.by_ : Int) * (c : Int) ≤ 281474976710656 := by
    have : ((x.by_ * c : Nat) : Int) ≤ 100000000 := by omega
    rw [Int.natCast_mul] at this
    omega
   refine (K6 E k1 k3 (Int.natCast_nonneg l) (by exact Int.ofNat_le.2 h1) h4 (by show (c : Int) ≤ _; omega) hc).post ?_
   rintro _ _ ⟨b, rfl, rfl⟩
   exact ⟨_, ⟨b, c, _, rfl, rfl, _, zN (ud σ _) c, rfl⟩, fun w hw => hw⟩
 · split at e
   · rename_i t n _ a b hu
     have key : (o, sh) = (AO.map [], Shp.mp) ∧ (n = none ∨ ∃ y k j, n = some y ∧ ev ρ y = some (.int k (Int.ofNat j))) := by
      cases n with
      | none => cases e; exact ⟨rfl, Or.inl rfl⟩
      | some y =>
        obtain ⟨v, hv, e⟩ := jd (show ob (opd s y) (fun v => v.asNat fun _ k => bo (Nat.ble k 1000000) (some (AO.map [], Shp.mp))) = some (o, sh) from e)
        obtain ⟨k, j, hvj, e⟩ := kJ e
        obtain ⟨_, e⟩ := je e
        cases e
        subst hvj
        obtain ⟨V, h1, h2⟩ := ju hs hv
        obtain rfl : V = .int k (Int.ofNat j) := by simpa [Den] using h2
        exact ⟨rfl, Or.inr ⟨y, k, j, rfl, h1⟩⟩
     obtain ⟨h1, h2⟩ := key
     cases h1
     refine (aa9 h2 ⟨a, b, hu⟩).post ?_
     rintro _ _ ⟨b, rfl, rfl⟩
     exact ⟨_, ⟨b, 0, _, rfl, rfl, #[], 0, ⟨rfl, Stm.nil 0⟩, rfl⟩, fun w hw => hw⟩
   · cases e
 · cases e
end
end
section
open Go
noncomputable def keyFs (P : Program) (ih : Nat → AV → Bool) (x : List AV) (fs : List Field) : Bool := List.rec true (fun f _ r => Bool.rec (Option.rec false (fun a => Bool.rec false r (ih f.type a)) (partV P f.type x f.offset)) r (blankF f.name)) fs
noncomputable def keyStep (P : Program) (ih : Nat → AV → Bool) (t : Nat) (v : AV) : Bool := match P.underlying t with
 | some (.interface _) => false
 | some (.array _ _) => false
 | some (.struct fs) => (match v with
   | .agg l => keyFs P ih l fs.toList
   | _ => false)
 | some _ => true
 | none => false
noncomputable def keyOk (P : Program) (d : Nat) : Nat → AV → Bool := Nat.rec (fun _ _ => false) (fun _ ih t v => keyStep P ih t v) d
noncomputable def flatK (v : AV) : Bool := match v with
 | .bool _ => true
 | .int _ _ => true
 | .str _ => true
 | _ => false
noncomputable def bitsK (v : AV) : Bool := match v with
 | .bool _ => true
 | .int _ _ => true
 | .str _ => true
 | .agg l => List.rec true (fun x _ ih => Bool.rec false ih (flatK x)) l
 | _ => false
section
variable {P : Program} {G : World} {ρ : jh} {L : ja} {F : Fm} {ty : TypeId} {σ : Sg}
def acN (P : Program) (d : Nat) (b : Bool) (xs : Array Value) : List Field → Prop
 | [] => True
 | f :: fs => (f.name = "_" ∨ ∃ X, (∀ w, (part f.type xs f.offset).run P w = .ok X w) ∧ ∀ w, (Instr.checkKey b d f.type X).run P w = .ok () w) ∧ acN P d b xs fs
theorem UA {d : Nat} {b : Bool} {xs : Array Value} (w : World) : ∀ {fs : List Field}, acN P d b xs fs → (forIn fs () fun f __s =>
 if f.name = "_" then pure (ForInStep.yield PUnit.unit) else do
  let __do_lift ← part f.type xs f.offset
  (fun a => ForInStep.yield PUnit.unit) <$> Instr.checkKey b d f.type __do_lift : Sem Unit).run P w = .ok () w
 | [], h => by simp
 | f :: fs, ⟨h1, h2⟩ => by
   have ih := UA w h2
   rcases h1 with h1 | ⟨X, k1, k2⟩
   · simp only [List.forIn_cons, h1, if_true, pure_bind]
     exact ih
   · by_cases c : f.name = "_"
     · simp only [List.forIn_cons, c, if_true, pure_bind]
       exact ih
     · simp [List.forIn_cons, c, k1, k2]
       exact ih
theorem uO : ∀ (d : Nat) {t : Nat} {v : AV} {V : Value} (b : Bool), keyOk P d t v = true → Den σ v V → ∀ w, (Instr.checkKey b d t V).run P w = .ok () w
 | 0, t, v, V, b, h, k, w => by cases h
 | d + 1, t, v, V, b, h, k, w => by
   have h : keyStep P (keyOk P d) t v = true := h
   unfold keyStep at h
   unfold Instr.checkKey
   split at h
   · cases h
   · cases h
   · rename_i fs hu
     split at h
     · rename_i l _
       simp only [Den] at k
       obtain ⟨X, hx, rfl⟩ := k
       have key : ∀ {fs : List Field}, keyFs P (keyOk P d) l fs = true → acN P d b X.toArray fs := fun {fs} h => by
        induction fs with
        | nil => trivial
        | cons f fs ih =>
          have h : (Bool.rec (Option.rec false (fun a => Bool.rec false (keyFs P (keyOk P d) l fs) (keyOk P d f.type a)) (partV P f.type l f.offset)) (keyFs P (keyOk P d) l fs) (blankF f.name) : Bool) = true := h
          cases hb : blankF f.name with
          | true => rw [hb] at h; exact ⟨Or.inl (of_decide_eq_true hb), ih h⟩
          | false =>
            rw [hb] at h
            cases hp : partV P f.type l f.offset with
            | none => rw [hp] at h; cases h
            | some a =>
              rw [hp] at h
              have h : (Bool.rec false (keyFs P (keyOk P d) l fs) (keyOk P d f.type a) : Bool) = true := h
              cases hq : keyOk P d f.type a with
              | false => rw [hq] at h; cases h
              | true =>
                rw [hq] at h
                obtain ⟨A, q1, q2⟩ := yO hx hp
                exact ⟨Or.inr ⟨A, q2, fun w => uO d b hq q1 w⟩, ih h⟩
       simp only [Sem.run_bind, run_underlying hu, Result.andThen]
       have := UA w (key h)
       simp
       rw [← Array.forIn_toList, this]
     · cases h
   · rename_i d' h1 h2 h3 hu
     simp only [Sem.run_bind, run_underlying hu, Result.andThen]
     cases d' <;> first | exact absurd rfl (h1 _) | exact absurd rfl (h2 _ _) | exact absurd rfl (h3 _) | simp
   · cases h
theorem ur {v : AV} {A B : Value} (h : flatK v = true) (ha : Den σ v A) (hb : Den σ v B) : A = B ∧ ∀ n, Instr.sameBits n A A = true := by
 unfold flatK at h
 split at h
 · obtain rfl : A = .bool _ := by simpa [Den] using ha
   obtain rfl : B = .bool _ := by simpa [Den] using hb
   exact ⟨rfl, fun n => by cases n <;> simp [Instr.sameBits]⟩
 · obtain rfl : A = .int _ _ := by simpa [Den] using ha
   obtain rfl : B = .int _ _ := by simpa [Den] using hb
   exact ⟨rfl, fun n => by cases n <;> simp [Instr.sameBits]⟩
 · simp only [Den] at ha hb
   obtain ⟨_, rfl⟩ := ha
   obtain ⟨_, rfl⟩ := hb
   exact ⟨rfl, fun n => by cases n <;> simp [Instr.sameBits, acL]⟩
 · cases h
theorem WH : ∀ {l : List AV} {A B : List Value}, (List.rec true (fun x _ ih => Bool.rec false ih (flatK x)) l : Bool) = true → DenL σ l A → DenL σ l B → A = B ∧ ∀ n, ∀ x ∈ A, Instr.sameBits n x x = true
 | [], A, B, h, ha, hb => by rw [ha.inv0, hb.inv0]; exact ⟨rfl, fun n x hx => by cases hx⟩
 | v :: l, A, B, h, ha, hb => by
   obtain ⟨X, A', rfl, a1, a2⟩ := ha.inv
   obtain ⟨Y, B', rfl, b1, b2⟩ := hb.inv
   have h : (Bool.rec false (List.rec true (fun x _ ih => Bool.rec false ih (flatK x)) l : Bool) (flatK v) : Bool) = true := h
   cases hf : flatK v with
   | false => rw [hf] at h; cases h
   | true =>
     rw [hf] at h
     obtain ⟨rfl, h2⟩ := WH h a2 b2
     obtain ⟨rfl, h4⟩ := ur hf a1 b1
     refine ⟨rfl, fun n x hx => ?_⟩
     rcases List.mem_cons.1 hx with rfl | hx
     · exact h4 n
     · exact h2 n x hx
theorem aeU {l : List Value} {n : Nat} (h : ∀ x ∈ l, Instr.sameBits n x x = true) : ((l.zip l).all fun (x, y) => Instr.sameBits n x y) = true := by
 induction l with
 | nil => rfl
 | cons x l ih =>
   simp only [List.zip_cons_cons, List.all_cons, Bool.and_eq_true]
   exact ⟨h x (List.mem_cons_self ..), ih fun y hy => h y (List.mem_cons_of_mem _ hy)⟩
theorem acO {v : AV} {A B : Value} (h : bitsK v = true) (ha : Den σ v A) (hb : Den σ v B) : A = B ∧ Instr.sameBits 10000 A A = true := by
 unfold bitsK at h
 split at h
 · exact ⟨(ur rfl ha hb).1, (ur rfl ha hb).2 _⟩
 · exact ⟨(ur rfl ha hb).1, (ur rfl ha hb).2 _⟩
 · exact ⟨(ur rfl ha hb).1, (ur rfl ha hb).2 _⟩
 · simp only [Den] at ha hb
   obtain ⟨X, hx, rfl⟩ := ha
   obtain ⟨Y, hy, rfl⟩ := hb
   obtain ⟨h1, h2⟩ := WH h hx hy
   subst h1
   refine ⟨rfl, ?_⟩
   have := aeU (n := 9999) (h2 9999)
   show (Instr.sameBits (9999 + 1) (.agg X.toArray) (.agg X.toArray)) = true
   rw [Instr.sameBits]
   simp only [BEq.rfl, Bool.true_and]
   exact this
 · cases h
def yw (P : Program) (kt : Nat) (K : Value) : List MapEntry → Nat → Option (Nat × Value) → Prop
 | [], i, r => r = none
 | e :: es, i, r => ((∀ w, (Op.equal kt K e.key).run P w = .ok false w) ∧ yw P kt K es (i + 1) r) ∨ ((∀ w, (Op.equal kt K e.key).run P w = .ok true w) ∧ r = some (i, e.val))
theorem WI {kt : Nat} {K : Value} : ∀ {es : List MapEntry} {i : Nat} {r : Option (Nat × Value)}, yw P kt K es i r → ∀ w, (Instr.findAsking kt K es i).run P w = .ok r w
 | [], i, r, h, w => by have h : r = none := h; subst h; simp [Instr.findAsking]
 | e :: es, i, r, h, w => by
   rcases h with ⟨h1, h2⟩ | ⟨h1, rfl⟩
   · simp [Instr.findAsking, h1, WI h2 w]
   · simp [Instr.findAsking, h1]
theorem Qw {kt : Nat} {d : TypeDesc} {A B : Value} {b : Bool} (hu : P.underlying kt = some d) (h : Instr.sameNow d A B = some b) (w : World) : (Op.equal kt A B).run P w = .ok b w := by
 unfold Instr.sameNow at h
 split at h
 · split at h
   · rename_i hk
     cases h
     show (Op.equalIn (9999 + 1) _ _ _).run P w = _
     rw [Op.equalIn]
     simp [run_underlying hu, hk]
   · cases h
 · cases h
   show (Op.equalIn (9999 + 1) _ _ _).run P w = _
   rw [Op.equalIn]
   simp [run_underlying hu]
 · cases h
   show (Op.equalIn (9999 + 1) _ _ _).run P w = _
   rw [Op.equalIn]
   simp [run_underlying hu]
 · cases h
theorem WJ {kt : Nat} {d : TypeDesc} {K : Value} (hu : P.underlying kt = some d) (w : World) : ∀ {es : List MapEntry} {i : Nat} {r q : Option (Nat × Value)}, yw P kt K es i r → Instr.findNow d K es i = some q → q = r
 | [], i, r, q, h, k => by have h : r = none := h; simp [Instr.findNow] at k; rw [h, k]
 | e :: es, i, r, q, h, k => by
   unfold Instr.findNow at k
   split at k
   · rename_i hs
     have h1 := Qw hu hs w
     rcases h with ⟨h2, _⟩ | ⟨_, rfl⟩
     · rw [h2 w] at h1; cases h1
     · cases k; rfl
   · rename_i hs
     have h1 := Qw hu hs w
     rcases h with ⟨_, h2⟩ | ⟨h2, _⟩
     · exact WJ hu w h2 k
     · rw [h2 w] at h1; cases h1
   · cases k
theorem uP {kt : Nat} {d : TypeDesc} {K : Value} (hu : P.underlying kt = some d) {es : List MapEntry} {r : Option (Nat × Value)} (h : yw P kt K es 0 r) (w : World) : (Instr.findKey kt K es).run P w = .ok r w := by
 unfold Instr.findKey
 simp only [Sem.run_bind, run_underlying hu, Result.andThen]
 cases hf : Instr.findNow d K es 0 with
 | none => exact WI h w
 | some q => rw [WJ hu w h hf]; rfl
end
noncomputable def findA (P : Program) (kt : Nat) (key : AV) (l : List (AV × AV)) : Option (Option AV) := List.rec (some none) (fun p _ ih => ob (eqA P 10000 kt key p.1) fun c => Bool.rec ih (some (some p.2)) c) l
noncomputable def flatE (a b : AV) : Bool := match a, b with
 | .bool a, .bool b => eqBB a b
 | .int k a, .int k' b => Bool.rec false (eqII a b) (decide (k = k'))
 | .str a, .str b => beqN a b
 | _, _ => false
noncomputable def flatL (l : List AV) : List AV → Bool := List.rec (motive := fun _ => List AV → Bool) (fun m => List.rec (motive := fun _ => Bool) true (fun _ _ _ => false) m) (fun a _ ih m => List.rec (motive := fun _ => Bool) false (fun b m _ => Bool.rec false (ih m) (flatE a b)) m) l
noncomputable def flatV (a b : AV) : Bool := match a, b with
 | .bool a, .bool b => eqBB a b
 | .int k a, .int k' b => Bool.rec false (eqII a b) (decide (k = k'))
 | .str a, .str b => beqN a b
 | .agg l, .agg m => flatL l m
 | _, _ => false
noncomputable def beqK (a b : AV) : Bool := Bool.rec false (bitsK a) (flatV a b)
noncomputable def putA (P : Program) (kt : Nat) (key v : AV) (l : List (AV × AV)) : Option (List (AV × AV)) := List.rec (some [(key, v)]) (fun p r ih => ob (eqA P 10000 kt key p.1) fun c => Bool.rec (ob ih fun q => some (p :: q)) (bo (beqK p.1 key) (some ((p.1, v) :: r))) c) l
noncomputable def delA (P : Program) (kt : Nat) (key : AV) (l : List (AV × AV)) : Option (List (AV × AV)) := List.rec (some []) (fun p r ih => ob (eqA P 10000 kt key p.1) fun c => Bool.rec (ob ih fun q => some (p :: q)) (some r) c) l
section
variable {P : Program} {G : World} {ρ : jh} {L : ja} {F : Fm} {ty : TypeId} {σ : Sg}
theorem acP {a b : AV} (h : flatE a b = true) : a = b := by
 unfold flatE at h
 split at h
 · rw [Vv] at h; rw [eq_of_beq h]
 · rename_i k x k' y
   cases hd : decide (k = k') with
   | false => rw [hd] at h; cases h
   | true =>
     rw [hd] at h
     have h : eqII x y = true := h
     rw [Qa] at h
     rw [of_decide_eq_true hd, eq_of_beq h]
 · rw [yr] at h; rw [of_decide_eq_true h]
 · cases h
theorem WK : ∀ {l m : List AV}, flatL l m = true → l = m
 | [], [], _ => rfl
 | [], _ :: _, h => by cases h
 | _ :: _, [], h => by cases h
 | a :: l, b :: m, h => by
   have h : (Bool.rec false (flatL l m) (flatE a b) : Bool) = true := h
   cases hf : flatE a b with
   | false => rw [hf] at h; cases h
   | true =>
     rw [hf] at h
     rw [acP hf, WK h]
theorem aeV {a b : AV} (h : beqK a b = true) : a = b ∧ bitsK a = true := by
 unfold beqK at h
 cases hb : flatV a b with
 | false => rw [hb] at h; cases h
 | true =>
   rw [hb] at h
   refine ⟨?_, h⟩
   unfold flatV at hb
   split at hb
   · rw [Vv] at hb; rw [eq_of_beq hb]
   · rename_i k x k' y
     cases hd : decide (k = k') with
     | false => rw [hd] at hb; cases hb
     | true =>
       rw [hd] at hb
       have hb : eqII x y = true := hb
       rw [Qa] at hb
       rw [of_decide_eq_true hd, eq_of_beq hb]
   · rw [yr] at hb; rw [of_decide_eq_true hb]
   · rw [WK hb]
   · cases hb
theorem DenM.inv {p : AV × AV} {l : List (AV × AV)} {L : List MapEntry} (h : DenM σ (p :: l) L) : ∃ e M, L = e :: M ∧ Den σ p.1 e.key ∧ Den σ p.2 e.val ∧ DenM σ l M := by simpa only [DenM] using h
theorem DenM.cons {p : AV × AV} {l : List (AV × AV)} {e : MapEntry} {L : List MapEntry} (h1 : Den σ p.1 e.key) (h2 : Den σ p.2 e.val) (h3 : DenM σ l L) : DenM σ (p :: l) (e :: L) := by simp only [DenM]; exact ⟨e, L, rfl, h1, h2, h3⟩
theorem DenM.inv0 {L : List MapEntry} (h : DenM σ [] L) : L = [] := by simpa only [DenM] using h
theorem DenM.len : ∀ {l : List (AV × AV)} {L : List MapEntry}, DenM σ l L → L.length = l.length
 | [], L, h => by rw [h.inv0]; rfl
 | p :: l, L, h => by
   obtain ⟨e, M, rfl, _, _, h3⟩ := h.inv
   simp [h3.len]
theorem WL {kt : Nat} {key : AV} {K : Value} (hk : Den σ key K) : ∀ {l : List (AV × AV)} {es : List MapEntry} {i : Nat} {r : Option AV}, findA P kt key l = some r → DenM σ l es → ∃ q, yw P kt K es i q ∧ ((r = none ∧ q = none) ∨ ∃ v j V, r = some v ∧ q = some (j, V) ∧ Den σ v V)
 | [], es, i, r, e, h => by
   cases e
   rw [h.inv0]
   exact ⟨none, rfl, Or.inl ⟨rfl, rfl⟩⟩
 | p :: l, es, i, r, e, h => by
   obtain ⟨en, M, rfl, h1, h2, h3⟩ := h.inv
   obtain ⟨c, hc, e⟩ := jd (show ob (eqA P 10000 kt key p.1) (fun c => Bool.rec (findA P kt key l) (some (some p.2)) c) = some r from e)
   have hrun : ∀ w, (Op.equal kt K en.key).run P w = .ok c w := fun w => Qt P 10000 (σ := σ) hc hk h1 w
   cases c with
   | true => cases e; exact ⟨_, Or.inr ⟨hrun, rfl⟩, Or.inr ⟨_, _, _, rfl, rfl, h2⟩⟩
   | false =>
     obtain ⟨q, q1, q2⟩ := WL hk (i := i + 1) e h3
     exact ⟨q, Or.inl ⟨hrun, q1⟩, q2⟩
end
end
section
open Go Go.MapKept
noncomputable def mapTy (P : Program) (t : Nat) : Option (Nat × Nat) := match P.underlying t with
 | some (.map k e) => some (k, e)
 | _ => none
noncomputable def mapEs (m : Mem) (v : AV) : Option (List (AV × AV)) := match v with
 | .mp0 => some []
 | .mp i => ob (m.h.get i) fun o => (match o with
   | .map l => some l
   | _ => none)
 | _ => none
noncomputable def lookupV (P : Program) (m : Mem) (t : Nat) (v key : AV) (ok : Bool) : Option AV := ob (mapTy P t) fun q => ob (mapEs m v) fun l => bo (keyOk P 10000 q.1 key) (ob (findA P q.1 key l) fun r =>
 Option.rec (ob (qY P q.2) fun z => some (Bool.rec (ofV z) (.tup [ofV z, .bool false]) ok)) (fun v => some (Bool.rec v (.tup [v, .bool true]) ok)) r)
noncomputable def mapLen (P : Program) (m : Mem) (t : Nat) (v : AV) : Option AV := ob (mapTy P t) fun _ => ob (mapEs m v) fun l => some (.int .i64 (Int.ofNat (lenN l)))
noncomputable def mapW (P : Program) (m : Mem) (t : Nat) (v key : AV) (f : Nat → List (AV × AV) → Option (List (AV × AV))) : Option Mem := ob (mapTy P t) fun q => (match v with
 | .mp i => ob (m.h.get i) fun o => (match o with
   | .map l => bo (keyOk P 10000 q.1 key) (ob (f q.1 l) fun l' => putK m i (.map l') some)
   | _ => none)
 | _ => none)
section
variable {P : Program} {G : World} {ρ : jh} {L : ja} {F : Fm} {ty : TypeId} {σ : Sg}
theorem zO {t : Nat} {q : Nat × Nat} (h : mapTy P t = some q) : P.underlying t = some (.map q.1 q.2) := by
 unfold mapTy at h
 split at h
 · rename_i hu; cases h; exact hu
 · cases h
theorem J9 {d t : Nat} {v : AV} (h : keyOk P d t v = true) : ∃ e, P.underlying t = some e := by
 cases d with
 | zero => cases h
 | succ d =>
   have h : keyStep P (keyOk P d) t v = true := h
   unfold keyStep at h
   cases hu : P.underlying t with
   | none => rw [hu] at h; cases h
   | some e => exact ⟨e, rfl⟩
theorem WM {m : Mem} (hm : yq σ m L) {v : AV} {V : Value} {l : List (AV × AV)} (hv : Den σ v V) (e : mapEs m v = some l) : (V = .map none ∧ l = []) ∨ ∃ b es clock, V = .map (some b) ∧ DenM σ l es.toList ∧ (b, Obj.map es clock) ∈ L := by
 unfold mapEs at e
 split at e
 · cases e
   obtain rfl : V = .map none := by simpa [Den] using hv
   exact Or.inl ⟨rfl, rfl⟩
 · obtain ⟨o, h1, e⟩ := jd e
   split at e
   · cases e
     simp only [Den] at hv
     obtain ⟨y, hy, rfl⟩ := hv
     obtain ⟨O, ⟨es, c, ⟨h2, _⟩, rfl⟩, h3⟩ := hm _ _ y h1 hy
     exact Or.inr ⟨y.1, es, c, rfl, h2, h3⟩
   · cases e
 · cases e
theorem WN {m : Mem} (hm : yq σ m L) {t : Nat} {x i : Operand} {v key r : AV} {V K : Value} {ok : Bool} (h1 : ev ρ x = some V) (h2 : Den σ v V) (h3 : ev ρ i = some K) (h4 : Den σ key K) (e : lookupV P m t v key ok = some r) : ∃ R, OpQ P ρ L (.lookup t x i ok) ty R ∧ Den σ r R := by
 obtain ⟨q, hq, e⟩ := jd e
 obtain ⟨l, hl, e⟩ := jd e
 obtain ⟨hk, e⟩ := je e
 obtain ⟨f, hf, e⟩ := jd e
 have hu := zO hq
 obtain ⟨kd, hkd⟩ := J9 hk
 have hold : ∀ (w : AV) (W : Value) (b : Bool), Den σ w W → Den σ (Bool.rec w (.tup [w, .bool b]) ok : AV) (if ok then .tuple #[W, .bool b] else W) := fun w W b h => by
  cases ok with
  | false => exact h
  | true => simp only [Den, if_true]; exact ⟨[W, .bool b], .cons h (.cons jQ .nil), rfl⟩
 have hE : ∃ es : Array MapEntry, DenM σ l es.toList ∧ ((V = .map none ∧ es = #[]) ∨ ∃ b clock, V = .map (some b) ∧ (b, Obj.map es clock) ∈ L) := by
  rcases WM hm h2 hl with ⟨rfl, rfl⟩ | ⟨b, es, clock, rfl, q1, q2⟩
  · exact ⟨#[], by simp [DenM], Or.inl ⟨rfl, rfl⟩⟩
  · exact ⟨es, q1, Or.inr ⟨b, clock, rfl, q2⟩⟩
 obtain ⟨es, hes, hV⟩ := hE
 obtain ⟨fr, k1, k2⟩ := WL h4 (i := 0) hf hes
 have hfind := fun w => uP hkd k1 w
 have hkey := fun w => uO 10000 es.isEmpty hk h4 w
 rcases k2 with ⟨rfl, rfl⟩ | ⟨u, j, U, rfl, rfl, hu2⟩
 · obtain ⟨z, hz, e⟩ := jd e
   cases e
   refine ⟨_, ⟨fun r hr w hw o ho _ => ?_⟩, hold _ z false (zJ σ z)⟩
   have hl : (Instr.lookup t V K ok).run P w = .ok (if ok then .tuple #[z, .bool false] else z) w := by
    rcases hV with ⟨rfl, rfl⟩ | ⟨b, clock, rfl, hb⟩
    · have hkey' := hkey w
      have hfind' := hfind w
      simp only [List.isEmpty_toArray, List.isEmpty_nil] at hkey'
      cases ok <;> simp [Instr.lookup, run_underlying hu, hkey', hfind', kl hz]
    · cases ok <;> simp [Instr.lookup, run_underlying hu, MapKept.run_getObj_map (show w.heap[b]? = some (Obj.map es clock) from hw.get _ hb), hkey, hfind, kl hz]
   simp [execOp, ho, hr _ _ h1, hr _ _ h3, hl]
 · cases e
   refine ⟨_, ⟨fun r hr w hw o ho _ => ?_⟩, hold _ U true hu2⟩
   have hl : (Instr.lookup t V K ok).run P w = .ok (if ok then .tuple #[U, .bool true] else U) w := by
    rcases hV with ⟨rfl, rfl⟩ | ⟨b, clock, rfl, hb⟩
    · simp [yw] at k1
    · cases ok <;> simp [Instr.lookup, run_underlying hu, MapKept.run_getObj_map (show w.heap[b]? = some (Obj.map es clock) from hw.get _ hb), hkey, hfind]
   simp [execOp, ho, hr _ _ h1, hr _ _ h3, hl]
end
end
section
open Go
section
variable {P : Program} {G : World} {ρ : jh} {L : ja} {F : Fm} {ty : TypeId} {σ : Sg}
theorem Qx {w : World} {b : Nat} {o o' : Obj} (hb : w.heap[b]? = some o) : (w.heap.setIfInBounds b o')[b]? = some o' := by
 rw [Array.getElem?_setIfInBounds_self_of_lt (Array.getElem?_eq_some_iff.1 hb).1]
theorem yR {op : Op} {b : Nat} {es es' : Array MapEntry} {clock clock' : Nat} {u : Value} (h : ∀ r, zh ρ r → ∀ w, w.heap[b]? = some (.map es clock) → ∀ o : Oper, o.op = op → o.type = ty →
 (execOp r o).run P w = .ok (.value u) { w with heap := w.heap.setIfInBounds b (.map es' clock') } ∨ (u = undef ∧ (execOp r o).run P w = .ok .skip { w with heap := w.heap.setIfInBounds b (.map es' clock') })) :
 OpV P G ρ ((b, .map es clock) :: L) op ty u ((b, .map es' clock') :: L) :=
 ⟨fun r hr w hw o ho ht => by
   have hb : w.heap[b]? = some (.map es clock) := hw.get _ (List.mem_cons_self ..)
   have hup : Heap G { w with heap := w.heap.setIfInBounds b (.map es' clock') } ((b, .map es' clock') :: L) :=
    hw.update ⟨rfl, rfl, rfl, by simp⟩ (Qx hb) (fun j hj hne => by simp [Array.getElem?_setIfInBounds_ne (Ne.symm hne)])
   rcases h r hr w hb o ho ht with h1 | ⟨rfl, h1⟩
   · rw [h1]; exact ⟨_, ⟨rfl, rfl⟩, hup⟩
   · rw [h1]; exact ⟨_, ⟨rfl, rfl⟩, hup⟩⟩
theorem aag {kt : Nat} {key v : AV} {K V : Value} (hk : Den σ key K) (hv : Den σ v V) (clock : Nat) : ∀ {l l' : List (AV × AV)} {es : List MapEntry} {i : Nat}, putA P kt key v l = some l' → DenM σ l es →
 (∃ (j : Nat) (e : MapEntry), yw P kt K es i (some (i + j, e.val)) ∧ es[j]? = some e ∧ e.key = K ∧ Instr.sameBits 10000 K K = true ∧ DenM σ l' (es.set j { e with val := V })) ∨ (yw P kt K es i none ∧ DenM σ l' (es ++ [{ key := K, val := V, born := clock }]))
 | [], l', es, i, e, h => by
   cases e
   rw [h.inv0]
   exact Or.inr ⟨rfl, .cons hk hv (by simp [DenM])⟩
 | p :: l, l', es, i, e, h => by
   obtain ⟨en, M, rfl, h1, h2, h3⟩ := h.inv
   obtain ⟨c, hc, e⟩ := jd (show ob (eqA P 10000 kt key p.1) (fun c => Bool.rec (ob (putA P kt key v l) fun q => some (p :: q)) (bo (beqK p.1 key) (some ((p.1, v) :: l))) c) = some l' from e)
   have hrun : ∀ w, (Op.equal kt K en.key).run P w = .ok c w := fun w => Qt P 10000 (σ := σ) hc hk h1 w
   cases c with
   | true =>
     obtain ⟨hb, e⟩ := je e
     cases e
     obtain ⟨h4, h5⟩ := aeV hb
     obtain ⟨h6, h7⟩ := acO h5 h1 (h4 ▸ hk)
     refine Or.inl ⟨0, en, Or.inr ⟨hrun, rfl⟩, rfl, h6, h6 ▸ h7, ?_⟩
     exact .cons (e := { en with val := V }) h1 hv h3
   | false =>
     obtain ⟨q, hq, e⟩ := jd e
     cases e
     rcases aag hk hv clock (i := i + 1) hq h3 with ⟨j, e', k1, k2, k3, k4, k5⟩ | ⟨k1, k2⟩
     · refine Or.inl ⟨j + 1, e', Or.inl ⟨hrun, ?_⟩, by simpa using k2, k3, k4, .cons h1 h2 k5⟩
       rw [show i + (j + 1) = i + 1 + j by omega]
       exact k1
     · exact Or.inr ⟨Or.inl ⟨hrun, k1⟩, .cons h1 h2 k2⟩
theorem aah {kt : Nat} {key : AV} {K : Value} (hk : Den σ key K) : ∀ {l l' : List (AV × AV)} {es : List MapEntry} {i : Nat}, delA P kt key l = some l' → DenM σ l es →
 (∃ (j : Nat) (e : MapEntry), yw P kt K es i (some (i + j, e.val)) ∧ j < es.length ∧ DenM σ l' (es.eraseIdx j)) ∨ (yw P kt K es i none ∧ DenM σ l' es)
 | [], l', es, i, e, h => by
   cases e
   have := h.inv0
   subst this
   exact Or.inr ⟨rfl, h⟩
 | p :: l, l', es, i, e, h => by
   obtain ⟨en, M, rfl, h1, h2, h3⟩ := h.inv
   obtain ⟨c, hc, e⟩ := jd (show ob (eqA P 10000 kt key p.1) (fun c => Bool.rec (ob (delA P kt key l) fun q => some (p :: q)) (some l) c) = some l' from e)
   have hrun : ∀ w, (Op.equal kt K en.key).run P w = .ok c w := fun w => Qt P 10000 (σ := σ) hc hk h1 w
   cases c with
   | true =>
     cases e
     exact Or.inl ⟨0, en, Or.inr ⟨hrun, rfl⟩, by simp, by simpa using h3⟩
   | false =>
     obtain ⟨q, hq, e⟩ := jd e
     cases e
     rcases aah hk (i := i + 1) hq h3 with ⟨j, e', k1, k2, k3⟩ | ⟨k1, k2⟩
     · refine Or.inl ⟨j + 1, e', Or.inl ⟨hrun, ?_⟩, by simp; omega, .cons h1 h2 k3⟩
       rw [show i + (j + 1) = i + 1 + j by omega]
       exact k1
     · exact Or.inr ⟨Or.inl ⟨hrun, k1⟩, .cons h1 h2 k2⟩
theorem Ka {op : Op} {m m' : Mem} (hm : MemR σ m F L) {i : Nat} {y : Nat × Nat} {l l' : List (AV × AV)} (hi : m.h.get i = some (.map l)) (hy : σ i = some y) (e : putK m i (.map l') some = some m') {v : AV} {u : Value} (hv : Den σ v u)
 (h : ∀ (es : Array MapEntry) (clock : Nat) (R : ja), DenM σ l es.toList → Stm es clock → ∃ es' clock', DenM σ l' es'.toList ∧ Stm es' clock' ∧ OpV P G ρ ((y.1, .map es clock) :: R) op ty u ((y.1, .map es' clock') :: R)) : OpT P G ρ L op ty (kB σ v m' F) := by
 obtain ⟨hn, e⟩ := ki e
 cases e
 obtain ⟨O, ⟨es, clock, ⟨h1, hst⟩, rfl⟩, h3⟩ := hm.get i _ y hi hy
 obtain ⟨A, B, hAB⟩ := List.append_of_mem h3
 have hp : L.Perm ((y.1, Obj.map es clock) :: (A ++ B)) := by rw [hAB]; exact List.perm_middle
 obtain ⟨es', clock', k1, k3, k2⟩ := h es clock (A ++ B) h1 hst
 refine OpT.heap (fun w hw => hw.perm hp) (k2.post fun u' M ⟨e1, e2⟩ => ⟨M, ?_, fun w hw => hw⟩)
 subst e1 e2
 exact ⟨σ, σ.le_refl, hv, hm.write hi hy hp (by omega) ⟨es', clock', ⟨k1, k3⟩, rfl⟩⟩
theorem Uh {m m' : Mem} (hm : MemR σ m F L) {t : Nat} {x i y : Operand} {v key val : AV} {V K W : Value} (h1 : ev ρ x = some V) (h2 : Den σ v V) (h3 : ev ρ i = some K) (h4 : Den σ key K) (h5 : ev ρ y = some W) (h6 : Den σ val W)
 (e : mapW P m t v key (fun kt l => putA P kt key val l) = some m') : OpT P G ρ L (.mapUpdate t x i y) ty (kB σ .und m' F) := by
 obtain ⟨q, hq, e⟩ := jd e
 split at e
 · rename_i id
   obtain ⟨o, ho, e⟩ := jd e
   split at e
   · rename_i l
     obtain ⟨hk, e⟩ := je e
     obtain ⟨l', hl', e⟩ := jd e
     simp only [Den] at h2
     obtain ⟨z, hz, rfl⟩ := h2
     have hu := zO hq
     obtain ⟨kd, hkd⟩ := J9 hk
     have hkey := fun w => uO 10000 false hk h4 w
     refine Ka (u := undef) hm ho hz e aab fun es clock R hes hst => ?_
     rcases aag h4 h6 clock (i := 0) hl' hes with ⟨j, en, k1, k2, k3, k4, k5⟩ | ⟨k1, k2⟩
     · have hfind := fun w => uP hkd k1 w
       have k2' : es[j]? = some en := by rw [← Array.getElem?_toList]; exact k2
       refine ⟨es.modify j fun e => { e with key := K, val := W }, clock, ?_, hst.modify _ _ fun _ => rfl, yR fun r hr w hb o ho _ => Or.inr ⟨rfl, ?_⟩⟩
       · have hlt := (Array.getElem?_eq_some_iff.1 k2').1
         have e1 : (es.modify j fun e => { e with key := K, val := W }).toList = es.toList.set j { en with val := W } := by
          apply List.ext_getElem?
          intro n
          rw [Array.getElem?_toList, Array.getElem?_modify, List.getElem?_set]
          by_cases c : j = n
          · subst c
            obtain ⟨hl2, he⟩ := Array.getElem?_eq_some_iff.1 k2'
            simp [hlt, ← k3, he]
          · simp [c]
         rw [e1]
         exact k5
       · have hrun : (Instr.mapUpdate t (.map (some z.1)) K W).run P w = .ok () { w with heap := w.heap.setIfInBounds z.1 (.map (es.modify j fun e => { e with key := K, val := W }) clock) } := by
          simp [Instr.mapUpdate, run_underlying hu, MapKept.run_getObj_map hb, hkey, hfind, k2', Instr.keyThatStays, k3, k4, MapKept.run_setObj_map _ hb]
         simp [execOp, ho, hr _ _ h1, hr _ _ h3, hr _ _ h5, hrun]
     · have hfind := fun w => uP hkd k1 w
       refine ⟨es.push { key := K, val := W, born := clock }, clock + 1, by simpa using k2, hst.push _ _, yR fun r hr w hb o ho _ => Or.inr ⟨rfl, ?_⟩⟩
       have hrun : (Instr.mapUpdate t (.map (some z.1)) K W).run P w = .ok () { w with heap := w.heap.setIfInBounds z.1 (.map (es.push { key := K, val := W, born := clock }) (clock + 1)) } := by
        simp [Instr.mapUpdate, run_underlying hu, MapKept.run_getObj_map hb, hkey, hfind, MapKept.run_setObj_map _ hb]
       simp [execOp, ho, hr _ _ h1, hr _ _ h3, hr _ _ h5, hrun]
   · cases e
 · cases e
theorem Zk {m m' : Mem} (hm : MemR σ m F L) {t t2 : Nat} {x i : Operand} {v key : AV} {V K : Value} (h1 : ev ρ x = some V) (h2 : Den σ v V) (h3 : ev ρ i = some K) (h4 : Den σ key K)
 (e : mapW P m t v key (fun kt l => delA P kt key l) = some m') : OpT P G ρ L (.call ⟨.builtin .delete, #[x, i], #[t, t2]⟩) ty (kB σ (.tup []) m' F) := by
 obtain ⟨q, hq, e⟩ := jd e
 split at e
 · rename_i id
   obtain ⟨o, ho, e⟩ := jd e
   split at e
   · rename_i l
     obtain ⟨hk, e⟩ := je e
     obtain ⟨l', hl', e⟩ := jd e
     simp only [Den] at h2
     obtain ⟨z, hz, rfl⟩ := h2
     have hu := zO hq
     obtain ⟨kd, hkd⟩ := J9 hk
     refine Ka (u := .tuple #[]) hm ho hz e (by simp only [Den, DenL]; exact ⟨[], rfl, rfl⟩) fun es clock R hes hst => ?_
     have hkey := fun w => uO 10000 es.isEmpty hk h4 w
     rcases aah h4 (i := 0) hl' hes with ⟨j, en, k1, k2, k3⟩ | ⟨k1, k2⟩
     · have hfind := fun w => uP hkd k1 w
       have e1 : (es.eraseIdxIfInBounds j).toList = es.toList.eraseIdx j := by
        unfold Array.eraseIdxIfInBounds
        rw [dif_pos (by simpa using k2)]
        simp
       refine ⟨es.eraseIdxIfInBounds j, clock, ?_, hst.sub (by rw [e1]; exact List.eraseIdx_sublist ..), yR fun r hr w hb o ho _ => Or.inl ?_⟩
       · rw [e1]
         exact k3
       · have hrun : (Builtin.delete_ #[t, t2] o.type #[.map (some z.1), K]).run P w = .ok (.tuple #[]) { w with heap := w.heap.setIfInBounds z.1 (.map (es.eraseIdxIfInBounds j) clock) } := by
          simp [Builtin.delete_, run_underlying hu, MapKept.run_getObj_map hb, hkey, hfind, MapKept.run_setObj_map _ hb]
         simp [execOp, ho, hr _ _ h1, hr _ _ h3, resolve, invoke, builtin, hrun, Result.andThen]
     · have hfind := fun w => uP hkd k1 w
       refine ⟨es, clock, k2, hst, yR fun r hr w hb o ho _ => Or.inl ?_⟩
       have hrun : (Builtin.delete_ #[t, t2] o.type #[.map (some z.1), K]).run P w = .ok (.tuple #[]) { w with heap := w.heap.setIfInBounds z.1 (.map es clock) } := by
        simp [Builtin.delete_, run_underlying hu, MapKept.run_getObj_map hb, hkey, hfind, MapKept.run_setObj_map _ hb]
       simp [execOp, ho, hr _ _ h1, hr _ _ h3, resolve, invoke, builtin, hrun, Result.andThen]
   · cases e
 · cases e
theorem Zl {m : Mem} (hm : yq σ m L) {t : Nat} {x : Operand} {v r : AV} {V : Value} (h1 : ev ρ x = some V) (h2 : Den σ v V) (e : mapLen P m t v = some r) : ∃ R, OpQ P ρ L (.call ⟨.builtin .len, #[x], #[t]⟩) ty R ∧ Den σ r R := by
 obtain ⟨q, hq, e⟩ := jd e
 obtain ⟨l, hl, e⟩ := jd e
 cases e
 have hu := zO hq
 rw [jP]
 rcases WM hm h2 hl with ⟨rfl, rfl⟩ | ⟨b, es, clock, rfl, q1, q2⟩
 · exact ⟨.int .i64 0, ⟨fun r hr w hw o ho _ => by simp [execOp, ho, hr _ _ h1, resolve, invoke, builtin, Builtin.len_, run_underlying hu, Result.andThen, goInt]⟩, jO⟩
 · refine ⟨.int .i64 (Int.ofNat l.length), ⟨fun r hr w hw o ho _ => ?_⟩, jO⟩
   have hb : w.heap[b]? = some (.map es clock) := hw.get _ q2
   have hlen : es.size = l.length := by rw [← Array.length_toList]; exact q1.len
   simp [execOp, ho, hr _ _ h1, resolve, invoke, builtin, Builtin.len_, run_underlying hu, MapKept.run_getObj_map hb, Result.andThen, goInt, hlen]
end
end
section
open Go
noncomputable def srcA (m : Mem) (sz : Nat) (v : AV) : Option (Nat × List AV) := match v with
 | .slc0 _ => some (0, [])
 | .slcE => some (0, [])
 | .slc i o n _ => ob (m.h.get i) fun x => ob x.known fun c => takeK (drop c o) (Nat.mul n sz) fun l => some (n, l)
 | _ => none
noncomputable def srcB (P : Program) (m : Mem) (t t2 sz e : Nat) (v : AV) : Option (Nat × List AV) := match v with
 | .str l => bo (KE P t2) (bo (Nat.beq sz 1) (Option.rec none (fun e' => bo (Nat.beq e' e) (some (lenN l, mapB l))) (isBytes P t)))
 | v => bo (Nat.beq t2 t) (srcA m sz v)
noncomputable def delK {β : Type} (m : Mem) (i : Nat) (f : Mem → Option β) : Option β := bo (Nat.ble i 999998) (Tr.setOK 20 m.h i none fun h => f ⟨h, m.nx⟩)
noncomputable def elseI (v : AV) (i : Nat) : Bool := match v with
 | .slc j _ _ _ => Bool.rec true false (Nat.beq j i)
 | _ => true
noncomputable def growX (x : Elt) (n : Nat) (c : Cp) (o : AO) : Option (List AV) := match o with
 | .cells l e => (match c with
   | .num c => bo (Nat.beq e x.e) (bo (Nat.beq (lenN l) (Nat.mul c x.sz)) (bo (Nat.ble n c) (bo (Nat.ble c 1000000) (takeK l (Nat.mul n x.sz) fun r => some r))))
   | _ => none)
 | .row l n' e sz lo => (match c with
   | .rest r => bo (Nat.beq r 0) (bo (Nat.beq n' n) (bo (Nat.beq e x.e) (bo (Nat.beq sz x.sz) (some l))))
   | _ => none)
 | _ => none
noncomputable def growA (P : Program) (m : Mem) (x : Elt) (i n : Nat) (c : Cp) (k : Nat) (news : List AV) : Option (AV × Mem) := ob (m.h.get i) fun o => ob (growX x n c o) fun xs => bo (Nat.ble (Nat.mul (Nat.add n k) (Nat.add x.by_ 1)) 100000000) (bo (Nat.ble 1 k) (delK m i fun m => newK m (.row (appN xs news) (Nat.add n k) x.e x.sz (Nat.add n k)) fun j m => some (.slc j 0 (Nat.add n k) (.rest 0), m)))
noncomputable def putIn (m : Mem) (x : Elt) (i o n : Nat) (k : Nat) (news : List AV) : Option Mem := ob (m.h.get i) fun b => match b with
 | .cells l e => bo (Nat.ble (Nat.add o (Nat.mul (Nat.add n k) x.sz)) (lenN l)) (putsK l (Nat.add o (Nat.mul n x.sz)) news fun l => putK m i (.cells l e) some)
 | .row l n' e sz lo => Bool.rec
    (bo (Nat.beq sz x.sz) (bo (Nat.beq (Nat.add o (Nat.mul n x.sz)) (lenN l)) (bo (Nat.ble (Nat.add n' k) lo) (putK m i (.row (appN l news) (Nat.add n' k) e sz lo) some))))
    (putsK l (Nat.add o (Nat.mul n x.sz)) news fun l => putK m i (.row l n' e sz lo) some) (Nat.ble (Nat.add o (Nat.mul (Nat.add n k) x.sz)) (lenN l))
 | _ => none
noncomputable def strOk (x : Elt) (v : AV) : Bool := match v with
 | .str _ => (match x.z with
   | .int k n => Bool.rec false (Bool.rec false (Nat.beq x.by_ 1) (decide (n = 0))) (decide (k = .u8))
   | _ => false)
 | _ => true
noncomputable def appA (P : Program) (m : Mem) (t t2 : Nat) (s v : AV) : Option (AV × Mem) := ob (eltA P t) fun x => ob (srcB P m t t2 x.sz x.e v) fun q => bo (allOneA q.2) (bo (strOk x v) (match s with
 | .slc0 c => bo (Nat.beq c 0) (Bool.rec (bo (Nat.ble (Nat.mul q.1 (Nat.add x.by_ 1)) 100000000) (newK m (.row q.2 q.1 x.e x.sz q.1) fun j m => some (.slc j 0 q.1 (.rest 0), m))) (some (.slc0 0, m)) (Nat.beq q.1 0))
 | .slc i o n c => ob (capLo m i c) fun lo => Bool.rec (bo (Nat.beq o 0) (bo (elseI v i) (growA P m x i n c q.1 q.2))) (ob (putIn m x i o n q.1 q.2) fun m => some (.slc i o (Nat.add n q.1) c, m)) (Nat.ble (Nat.add n q.1) lo)
 | _ => none))
def SrcE (P : Program) (L : ja) (t t2 : Nat) (u : Value) (k : Nat) (news : List Value) (sz : Nat) : Prop := news.length = k * sz ∧ (∀ v ∈ news, v.oneCell' = true) ∧
 ((t2 = t ∧ ((∃ a c, u = .slice a 0 c ∧ k = 0) ∨ ∃ b off c C te fr, u = .slice (some ⟨b, off, none⟩) k c ∧ (b, Obj.cells C te fr) ∈ L ∧ ∀ j x, news[j]? = some x → C[off + j]? = some x)) ∨
  (P.underlying t2 = some .string ∧ sz = 1 ∧ ∃ l : List UInt8, u = .string (bs l) ∧ l.length = k ∧ news = l.map fun c => Value.int .u8 (c.toNat : Int)))
section
variable {P : Program} {G : World} {ρ : jh} {L : ja} {F : Fm} {ty : TypeId} {σ : Sg}
theorem acQ {s x : Operand} {t t2 e : TypeId} {sz bytes : Nat} {z : Value} (E : ElemTy P t e sz bytes z) {b off n c k : Nat} {C : Array Value} {te : TypeId} {u : Value} {news : List Value} (hs : ev ρ s = some (.slice (some ⟨b, off, none⟩) n c)) (hx : ev ρ x = some u)
 (hsrc : SrcE P ((b, .cells C te (0, 0)) :: L) t t2 u k news sz) (hfit : n + k ≤ c) (hsz : off + (n + k) * sz ≤ C.size) :
 OpV P G ρ ((b, .cells C te (0, 0)) :: L) (.call ⟨.builtin .append, #[s, x], #[t, t2]⟩) ty (.slice (some ⟨b, off, none⟩) (n + k) c) ((b, .cells (jJ C (off + n * sz) news) te (0, 0)) :: L) :=
 ⟨fun r hr w hw o ho _ => by
   obtain ⟨i, q2, q3, q4, q5⟩ := E.info
   obtain ⟨hl, hone, hsrc⟩ := hsrc
   have hb := hw.get _ (List.mem_cons_self ..)
   have hfit2 : off + n * sz + 0 + news.length ≤ C.size := by rw [hl]; rw [Nat.add_mul] at hsz; omega
   have hst := run_storeCells_at (P := P) b (off + n * sz) te news 0 C w hb hfit2 hone
   have hadd : (⟨b, off, none⟩ : Addr).add (n * sz) = ⟨b, off + n * sz, none⟩ := kO _ _ _
   have hzero : P.underlying t2 = some (.slice e) ∨ P.underlying t2 = some .string := by
    rcases hsrc with ⟨rfl, _⟩ | ⟨h, _⟩
    · exact Or.inl E.und
    · exact Or.inr h
   have hlen : (Builtin.lenOf u).run P w = .ok k w := by
    rcases hsrc with ⟨_, ⟨a, c', rfl, rfl⟩ | ⟨b', off', c', C', te', fr', rfl, _⟩⟩ | ⟨_, _, l, rfl, h, _⟩
    · rfl
    · rfl
    · simp [Builtin.lenOf, h]
   have hfirst : (Builtin.firstCells sz k u).run P w = .ok news.toArray w := by
    rcases hsrc with ⟨_, ⟨a, c', rfl, rfl⟩ | ⟨b', off', c', C', te', fr', rfl, hm, hc⟩⟩ | ⟨_, rfl, l, rfl, h, rfl⟩
    · have : news = [] := List.eq_nil_of_length_eq_zero (by simpa using hl)
      subst this
      cases a with
      | none => rfl
      | some a =>
        have := run_loadCells_list (P := P) (w := w) a [] (by simp)
        simpa [Builtin.firstCells] using this
    · have := run_loadCells_list (P := P) (w := w) ⟨b', off', none⟩ news fun j v hj => by
       rw [kO]
       exact hw.cell hm (hc j v hj)
      rw [hl] at this
      simpa [Builtin.firstCells] using this
    · simp [Builtin.firstCells, ← h, bs]
   have hrun : (Builtin.append_ #[t, t2] o.type #[.slice (some ⟨b, off, none⟩) n c, u]).run P w = .ok (.slice (some ⟨b, off, none⟩) (n + k) c) (w.setRow b (jJ C (off + n * sz) news)) := by
    simp only [Nat.add_zero] at hst
    rcases hzero with hd | hd <;> simp [Builtin.append_, run_underlying E.und, run_underlying hd, sizeOf, typeInfo, q2, q4, hlen, hfit, hfirst, hadd, hst, jJ]
   have : (execOp r o).run P w = .ok (.value (.slice (some ⟨b, off, none⟩) (n + k) c)) (w.setRow b (jJ C (off + n * sz) news)) := by
    simp [execOp, ho, hr _ _ hs, hr _ _ hx, resolve, invoke, builtin, hrun, Result.andThen]
   rw [this]
   exact ⟨_, ⟨rfl, rfl⟩, hw.update ⟨rfl, rfl, rfl, by simp [World.setRow]⟩ (setRow_heap w b C _ te _ hb) (fun j hj hne => by simp [World.setRow, Array.getElem?_modify, Ne.symm hne])⟩⟩
end
end
end Go.Proofs.YtgjlbilcnlffgaaGreatDoor.Ev
