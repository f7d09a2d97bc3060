/-
 Part 1: Sl SlOp SlMem SlDraw SlTy SlMore St Hs Mc.
-/
import Derived.WalkKit
import Derived.WalkSpells
import Derived.WalkLawsBesides
import Derived.Lib.Hide
import Derived.Lib.ConvBytes
import Derived.OrdersHeld
import Derived.Maps.AppendAt
import Derived.Below
import Derived.Laws.MakeOwn
import Derived.Lib.AppendStr
import Derived.Laws.Cells
import Derived.Lib.MinMax
import Derived.ScopeJumps
set_option linter.unusedVariables false
set_option linter.unusedSimpArgs false
namespace Go.Proofs.YtbjkkoacclfejaaGreat
section
open Go.RowKit
abbrev ja := List (Nat × Obj)
structure Still (G w : World) : Prop where
 os : w.os = G.os
 tape : w.tape = G.tape
 output : w.output = G.output
 size : G.heap.size ≤ w.heap.size
theorem Still.refl (G : World) : Still G G := ⟨rfl, rfl, rfl, Nat.le_refl _⟩
theorem Still.trans {G w w' : World} (h : Still G w) (k : Still w w') : Still G w' := ⟨k.os.trans h.os, k.tape.trans h.tape, k.output.trans h.output, Nat.le_trans h.size k.size⟩
variable {G : World}
structure Heap (G w : World) (L : ja) : Prop where
 still : Still G w
 nodup : (L.map (·.1)).Nodup
 get : ∀ p, p ∈ L → w.heap[p.1]? = some p.2
theorem Heap.lt {w : World} {L : ja} (h : Heap G w L) {p : Nat × Obj} (hp : p ∈ L) : p.1 < w.heap.size :=
 (Array.getElem?_eq_some_iff.1 (h.get p hp)).1
theorem Heap.same {w w' : World} {L : ja} (h : Heap G w L) (s : Still w w') (e : w'.heap = w.heap) : Heap G w' L := ⟨h.still.trans s, h.nodup, fun p hp => by rw [e]; exact h.get p hp⟩
theorem Heap.drew {w : World} {L : ja} (h : Heap G w L) : Heap G w.drew L := h.same ⟨rfl, rfl, rfl, Nat.le_refl _⟩ rfl
theorem Heap.sub {w : World} {L L' : ja} (h : Heap G w L) (s : L'.Sublist L) : Heap G w L' :=
 ⟨h.still, h.nodup.sublist (s.map _), fun p hp => h.get p (s.subset hp)⟩
theorem Heap.perm {w : World} {L L' : ja} (h : Heap G w L) (s : L.Perm L') : Heap G w L' :=
 ⟨h.still, (s.map (·.1)).nodup_iff.1 h.nodup, fun p hp => h.get p (s.mem_iff.2 hp)⟩
theorem Heap.alloc {w : World} {L : ja} (h : Heap G w L) (o : Obj) : Heap G (w.alloc o) ((w.heap.size, o) :: L) := by
 refine ⟨h.still.trans ⟨rfl, rfl, rfl, by simp⟩, ?_, fun p hp => ?_⟩
 · rw [List.map_cons, List.nodup_cons]
   refine ⟨fun hm => ?_, h.nodup⟩
   obtain ⟨q, hq, e⟩ := List.mem_map.1 hm
   have := h.lt hq
   omega
 · rcases List.mem_cons.1 hp with rfl | hp
   · exact heap_alloc_new w o
   · have := h.lt hp
     rw [show (w.alloc o).heap[p.1]? = w.heap[p.1]? by show (w.heap.push o)[p.1]? = _; rw [Array.getElem?_push]; simp; omega]
     exact h.get p hp
theorem Heap.ne {w : World} {L : ja} {b : Nat} {o : Obj} (h : Heap G w ((b, o) :: L)) {p : Nat × Obj} (hp : p ∈ L) : p.1 ≠ b := by
 have := h.nodup
 rw [List.map_cons, List.nodup_cons] at this
 intro e
 exact this.1 (List.mem_map.2 ⟨p, hp, e⟩)
theorem Heap.update {w w' : World} {L : ja} {b : Nat} {o o' : Obj} (h : Heap G w ((b, o) :: L)) (s : Still w w') (hb : w'.heap[b]? = some o') (ho : ∀ j, j < w.heap.size → j ≠ b → w'.heap[j]? = w.heap[j]?) : Heap G w' ((b, o') :: L) := by
 refine ⟨h.still.trans s, h.nodup, fun p hp => ?_⟩
 rcases List.mem_cons.1 hp with rfl | hp
 · exact hb
 · rw [ho _ (h.lt (List.mem_cons_of_mem _ hp)) (h.ne hp)]
   exact h.get p (List.mem_cons_of_mem _ hp)
theorem Heap.tail {w : World} {L : ja} {p : Nat × Obj} (h : Heap G w (p :: L)) : Heap G w L := h.sub (List.sublist_cons_self _ _)
theorem Heap.cell {w : World} {L : ja} {b : Nat} {C : Array Value} {e : TypeId} {fr : Nat × Nat} (h : Heap G w L) (hm : (b, Obj.cells C e fr) ∈ L) {off : Nat} {v : Value} (hv : C[off]? = some v) :
 w.cell? ⟨b, off, none⟩ = some v := by
 unfold World.cell?
 rw [h.get _ hm]
 simpa using hv
def kU (w : World) : ja := w.heap.toList.zipIdx.map fun p => (p.2, p.1)
theorem Heap.all (w : World) : Heap w w (kU w) := by
 refine ⟨Still.refl _, ?_, fun p hp => ?_⟩
 · unfold kU
   rw [List.map_map, show ((fun x : Nat × Obj => x.1) ∘ fun p : Obj × Nat => (p.2, p.1)) = Prod.snd from rfl]
   rw [List.zipIdx_map_snd]
   exact List.nodup_range'
 · obtain ⟨q, hq, rfl⟩ := List.mem_map.1 hp
   have := List.mem_zipIdx_iff_getElem?.1 hq
   simpa using this
theorem ZD {w : World} {b : Nat} {o : Obj} (h : w.heap[b]? = some o) : (b, o) ∈ kU w := by
 refine List.mem_map.2 ⟨(o, b), ?_, rfl⟩
 rw [List.mem_zipIdx_iff_getElem?]
 simpa using h
abbrev jG := List (Nat × Value)
structure Env (n : Nat) (ρ : jG) (a : Act) : Prop where
 size : a.tmps.size = n
 defers : a.defers = []
 get : ∀ t v, ρ.lookup t = some v → a.tmps[t]? = some v
def ev (ρ : jG) : Operand → Option Value
 | .tmp t => ρ.lookup t
 | .const v => some v
 | .global g => some (.pointer (some ⟨g, 0, none⟩))
 | .func f => some (.func (.func f) #[] #[])
def KD (ρ : jG) (r : Operand → Value) : Prop := ∀ x v, ev ρ x = some v → r x = v
theorem Env.reads {n : Nat} {ρ : jG} {a : Act} (h : Env n ρ a) : KD ρ a.eval := by
 intro x v hx
 cases x with
 | tmp t =>
   show a.tmps.getD t undef = v
   rw [Array.getD_eq_getD_getElem?, h.get t v hx]
   rfl
 | const c => exact Option.some.inj hx
 | global g => exact Option.some.inj hx
 | func f => exact Option.some.inj hx
theorem Env.put {n : Nat} {ρ : jG} {a : Act} (h : Env n ρ a) (d : Nat) (hd : d < n) (v : Value) : Env n ((d, v) :: ρ) (a.put (some d) v) := by
 refine ⟨by show (a.tmps.setIfInBounds d v).size = n; simp [h.size], h.defers, fun t u hu => ?_⟩
 show (a.tmps.setIfInBounds d v)[t]? = some u
 rw [List.lookup_cons] at hu
 by_cases e : t = d
 · subst e
   simp at hu
   rw [Array.getElem?_setIfInBounds_self_of_lt (by rw [h.size]; exact hd), hu]
 · have e' : (t == d) = false := by simpa using e
   rw [e'] at hu
   rw [Array.getElem?_setIfInBounds_ne (Ne.symm e)]
   exact h.get t u hu
theorem Env.weak {n : Nat} {ρ ρ' : jG} {a : Act} (h : Env n ρ a) (hs : ∀ t v, ρ'.lookup t = some v → ρ.lookup t = some v) : Env n ρ' a :=
 ⟨h.size, h.defers, fun t v hv => h.get t v (hs t v hv)⟩
def Outcome (P : Program) (K : Value → World → Prop) : Result Next → Prop
 | .ok (.value v) w => K v w
 | .ok .skip w => K undef w
 | .ok (.enter f args) w => Calls P f args w fun e w' => ∃ v, e = .returned v ∧ K v w'
 | _ => False
structure OpT (P : Program) (G : World) (ρ : jG) (L : ja) (op : Op) (ty : TypeId) (Φ : Value → ja → Prop) : Prop where
 out : ∀ r, KD ρ r → ∀ w, Heap G w L → ∀ o : Oper, o.op = op → o.type = ty → Outcome P (fun v w' => ∃ L', Φ v L' ∧ Heap G w' L') ((execOp r o).run P w)
abbrev OpV (P : Program) (G : World) (ρ : jG) (L : ja) (op : Op) (ty : TypeId) (v : Value) (L' : ja) : Prop := OpT P G ρ L op ty fun u M => u = v ∧ M = L'
theorem OpT.wp {P : Program} {n : Nat} {ρ : jG} {L : ja} {o : Oper} {Φ : Value → ja → Prop} (h : OpT P G ρ L o.op o.type Φ) {a : Act} {w : World} (he : Env n ρ a) (hw : Heap G w L)
 {K : Act → World → Prop} {Q : Exit → Act → World → Prop} (hK : ∀ v L' w', Φ v L' → Heap G w' L' → K (a.put o.dst v) w') : o.wp P a w K Q := by
 have := h.out a.eval he.reads w hw o rfl rfl
 unfold Oper.wp
 revert this
 generalize (execOp a.eval o).run P w = r
 intro this
 match r, this with
 | .ok (.value v) w', ⟨L', h1, h2⟩ => exact hK v L' w' h1 h2
 | .ok .skip w', ⟨L', h1, h2⟩ => exact hK undef L' w' h1 h2
 | .ok (.enter f args) w', hc =>
   refine Calls.mono hc fun e w'' hh => ?_
   obtain ⟨v, rfl, L', h1, h2⟩ := hh
   exact hK v L' w'' h1 h2
structure T (P : Program) (G : World) (n : Nat) (ρ : jG) (L : ja) (c : Code) (Q : Exit → Act → World → Prop) : Prop where
 out : ∀ a w, Env n ρ a → Heap G w L → c.wp P Q a w
structure TL (P : Program) (G : World) (ops : Array Oper) (n : Nat) (ρ : jG) (L : ja) (l : List Oper) (Q : Exit → Act → World → Prop) : Prop where
 out : ∀ a w, Env n ρ a → Heap G w L → wpList P ops Q l a w
structure TQ (G : World) (n : Nat) (ρ : jG) (L : ja) (e : Exit) (Q : Exit → Act → World → Prop) : Prop where
 out : ∀ a w, Env n ρ a → Heap G w L → Q e a w
section
variable {P : Program} {n : Nat} {ρ : jG} {L : ja} {Q : Exit → Act → World → Prop}
theorem kh {x y : Code} (h : T P G n ρ L x (Exit.then (y.wp P Q) Q)) : T P G n ρ L (.seq x y) Q := ⟨fun a w he hw => wp_seq (h.out a w he hw)⟩
theorem uQ {id : Nat} {c : Code} (h : T P G n ρ L c (Exit.inBlock id Q)) : T P G n ρ L (.block id c) Q := ⟨fun a w he hw => wp_block (h.out a w he hw)⟩
theorem uF (h : TQ G n ρ L .normal Q) : T P G n ρ L .skip Q := ⟨fun a w he hw => wp_skip (h.out a w he hw)⟩
theorem uo {l : Nat} (h : TQ G n ρ L .normal Q) : T P G n ρ L (.label l) Q := ⟨fun a w he hw => wp_label (h.out a w he hw)⟩
theorem yS {id : Nat} (h : TQ G n ρ L (.exit id) Q) : T P G n ρ L (.exit id) Q := ⟨fun a w he hw => wp_exit (h.out a w he hw)⟩
theorem Vp {l : Nat} (h : TQ G n ρ L (.goto l) Q) : T P G n ρ L (.goto l) Q := ⟨fun a w he hw => wp_goto (h.out a w he hw)⟩
theorem KE (h : TQ G n ρ L .ret Q) : T P G n ρ L .ret Q := ⟨fun a w he hw => wp_ret (h.out a w he hw)⟩
theorem YC {c : Operand} {x y : Code} {b : Bool} (hc : ev ρ c = some (.bool b)) (ht : b = true → T P G n ρ L x Q) (hf : b = false → T P G n ρ L y Q) : T P G n ρ L (.cond c x y) Q :=
 ⟨fun a w he hw => wp_cond_split (he.reads c _ hc) (fun h => (ht h).out a w he hw) (fun h => (hf h).out a w he hw)⟩
theorem aeI {c : Operand} {x y : Code} (hc : ev ρ c = some (.bool true)) (ht : T P G n ρ L x Q) : T P G n ρ L (.cond c x y) Q := ⟨fun a w he hw => wp_cond_true (he.reads c _ hc) (ht.out a w he hw)⟩
theorem ac1 {c : Operand} {x y : Code} (hc : ev ρ c = some (.bool false)) (ht : T P G n ρ L y Q) : T P G n ρ L (.cond c x y) Q := ⟨fun a w he hw => wp_cond_false (he.reads c _ hc) (ht.out a w he hw)⟩
theorem jY {id : Nat} {l : List Oper} (h : TL P G l.toArray n ρ L l Q) : T P G n ρ L (.region id l.toArray false) Q := ⟨fun a w he hw => wp_region_lit (h.out a w he hw)⟩
theorem uh {ops : Array Oper} (h : TQ G n ρ L .normal Q) : TL P G ops n ρ L [] Q := ⟨fun a w he hw => wpList_nil (h.out a w he hw)⟩
theorem kZ {y : Code} {Q' : Exit → Act → World → Prop} (h : T P G n ρ L y Q) : TQ G n ρ L .normal (Exit.then (y.wp P Q) Q') := ⟨fun a w he hw => h.out a w he hw⟩
theorem kV {id : Nat} {K : Act → World → Prop} (h : TQ G n ρ L (.exit id) Q) : TQ G n ρ L (.exit id) (Exit.then K Q) := ⟨fun a w he hw => h.out a w he hw⟩
theorem kn {id : Nat} {K : Act → World → Prop} (h : TQ G n ρ L (.goto id) Q) : TQ G n ρ L (.goto id) (Exit.then K Q) := ⟨fun a w he hw => h.out a w he hw⟩
theorem qi {K : Act → World → Prop} (h : TQ G n ρ L .ret Q) : TQ G n ρ L .ret (Exit.then K Q) := ⟨fun a w he hw => h.out a w he hw⟩
theorem qT {id : Nat} (h : TQ G n ρ L .normal Q) : TQ G n ρ L .normal (Exit.inBlock id Q) := ⟨fun a w he hw => h.out a w he hw⟩
theorem kW {id : Nat} (h : TQ G n ρ L .ret Q) : TQ G n ρ L .ret (Exit.inBlock id Q) := ⟨fun a w he hw => h.out a w he hw⟩
theorem kM {id l : Nat} (h : TQ G n ρ L (.goto l) Q) : TQ G n ρ L (.goto l) (Exit.inBlock id Q) := ⟨fun a w he hw => h.out a w he hw⟩
theorem kN {id : Nat} (h : TQ G n ρ L .normal Q) : TQ G n ρ L (.exit id) (Exit.inBlock id Q) := ⟨fun a w he hw => by simp only [Exit.inBlock, if_true]; exact h.out a w he hw⟩
theorem kO {id id' : Nat} (hne : (id' == id) = false) (h : TQ G n ρ L (.exit id') Q) : TQ G n ρ L (.exit id') (Exit.inBlock id Q) := ⟨fun a w he hw => by
 have : id' ≠ id := by simpa using hne
 simp only [Exit.inBlock, this, if_false]; exact h.out a w he hw⟩
theorem jw {ops : Array Oper} {d : Nat} {op : Op} {ty : TypeId} {pos : String} {after : Array Edge} {rest : List Oper} {Φ : Value → ja → Prop}
 (h : OpT P G ρ L op ty Φ) (hd : Nat.blt d n = true) (hr : ∀ v L', Φ v L' → TL P G ops n ((d, v) :: ρ) L' rest Q) : TL P G ops n ρ L (⟨some d, op, ty, pos, after, none⟩ :: rest) Q :=
 ⟨fun a w he hw => wpList_plain rfl fun K hK => OpT.wp (o := ⟨some d, op, ty, pos, after, none⟩) h he hw fun v L' w' h1 h2 =>
   hK _ _ ((hr v L' h1).out _ _ (he.put d (by simpa using hd) v) h2)⟩
theorem jU {ops : Array Oper} {d : Nat} {op : Op} {ty : TypeId} {pos : String} {after : Array Edge} {rest : List Oper} {v : Value} {L' : ja}
 (h : OpV P G ρ L op ty v L') (hd : Nat.blt d n = true) (hr : TL P G ops n ((d, v) :: ρ) L' rest Q) : TL P G ops n ρ L (⟨some d, op, ty, pos, after, none⟩ :: rest) Q :=
 jw h hd fun _ _ ⟨h1, h2⟩ => h1 ▸ h2 ▸ hr
theorem ac2 {ops : Array Oper} {op : Op} {ty : TypeId} {pos : String} {after : Array Edge} {rest : List Oper} {Φ : Value → ja → Prop}
 (h : OpT P G ρ L op ty Φ) (hr : ∀ v L', Φ v L' → TL P G ops n ρ L' rest Q) : TL P G ops n ρ L (⟨none, op, ty, pos, after, none⟩ :: rest) Q :=
 ⟨fun a w he hw => wpList_plain rfl fun K hK => OpT.wp (o := ⟨none, op, ty, pos, after, none⟩) h he hw fun v L' w' h1 h2 => hK _ _ ((hr v L' h1).out _ _ he h2)⟩
theorem QE {ops : Array Oper} {op : Op} {ty : TypeId} {pos : String} {after : Array Edge} {rest : List Oper} {v : Value} {L' : ja}
 (h : OpV P G ρ L op ty v L') (hr : TL P G ops n ρ L' rest Q) : TL P G ops n ρ L (⟨none, op, ty, pos, after, none⟩ :: rest) Q := ac2 h fun _ _ ⟨_, h2⟩ => h2 ▸ hr
def jT (ops : Array Oper) (j : Nat) : Option Nat := (ops[j]?).bind (·.dst)
theorem JR {ops : Array Oper} {o : Oper} {j d : Nat} {b want : Bool} {a : Act} (he : Env n ρ a) (hg : o.guard = some (j, want)) (hs : jT ops j = some d) (hv : ρ.lookup d = some (.bool b)) :
 Region.wanted o (yielded ops a.tmps) = (b == want) := by
 have h1 := he.get d _ hv
 unfold Region.wanted
 rw [hg]
 simp only [jT] at hs
 simp [yielded, hs, h1]
theorem aez {ops : Array Oper} {d j dj : Nat} {op : Op} {ty : TypeId} {pos : String} {after : Array Edge} {rest : List Oper} {Φ : Value → ja → Prop} {want : Bool}
 (hs : jT ops j = some dj) (hv : ρ.lookup dj = some (.bool want))
 (h : OpT P G ρ L op ty Φ) (hd : Nat.blt d n = true) (hr : ∀ v L', Φ v L' → TL P G ops n ((d, v) :: ρ) L' rest Q) : TL P G ops n ρ L (⟨some d, op, ty, pos, after, some (j, want)⟩ :: rest) Q :=
 ⟨fun a w he hw => wpList_step fun K hK => by
   rw [JR he rfl hs hv]
   simp only [BEq.rfl, if_true]
   exact OpT.wp (o := ⟨some d, op, ty, pos, after, some (j, want)⟩) h he hw fun v L' w' h1 h2 => hK _ _ ((hr v L' h1).out _ _ (he.put d (by simpa using hd) v) h2)⟩
theorem aiU {ops : Array Oper} {d j dj : Nat} {op : Op} {ty : TypeId} {pos : String} {after : Array Edge} {rest : List Oper} {v : Value} {L' : ja} {want : Bool}
 (hs : jT ops j = some dj) (hv : ρ.lookup dj = some (.bool want))
 (h : OpV P G ρ L op ty v L') (hd : Nat.blt d n = true) (hr : TL P G ops n ((d, v) :: ρ) L' rest Q) : TL P G ops n ρ L (⟨some d, op, ty, pos, after, some (j, want)⟩ :: rest) Q :=
 aez hs hv h hd fun _ _ ⟨h1, h2⟩ => h1 ▸ h2 ▸ hr
theorem ac3 {ops : Array Oper} {d j dj : Nat} {op : Op} {ty : TypeId} {pos : String} {after : Array Edge} {rest : List Oper} {want : Bool}
 (hs : jT ops j = some dj) (hv : ρ.lookup dj = some (.bool !want)) (hd : Nat.blt d n = true) (hr : TL P G ops n ((d, undef) :: ρ) L rest Q) :
 TL P G ops n ρ L (⟨some d, op, ty, pos, after, some (j, want)⟩ :: rest) Q :=
 ⟨fun a w he hw => wpList_step fun K hK => by
   rw [JR he rfl hs hv, if_neg (by cases want <;> simp)]
   exact hK _ _ (hr.out _ _ (he.put d (by simpa using hd) undef) hw)⟩
theorem aeJ {c : Code} (ρ' : jG) {L' : ja} (hs : ∀ t v, ρ'.lookup t = some v → ρ.lookup t = some v) (hl : ∀ w, Heap G w L → Heap G w L') (h : T P G n ρ' L' c Q) : T P G n ρ L c Q :=
 ⟨fun a w he hw => h.out a w (he.weak hs) (hl w hw)⟩
theorem qI {ops : Array Oper} {l : List Oper} {L' : ja} (hl : ∀ w, Heap G w L → Heap G w L') (h : TL P G ops n ρ L' l Q) : TL P G ops n ρ L l Q := ⟨fun a w he hw => h.out a w he (hl w hw)⟩
theorem ju {e : Exit} {L' : ja} (hl : ∀ w, Heap G w L → Heap G w L') (h : TQ G n ρ L' e Q) : TQ G n ρ L e Q := ⟨fun a w he hw => h.out a w he (hl w hw)⟩
theorem aeK {c : Code} {L' : ja} (hl : ∀ w, Heap G w L → Heap G w L') (h : T P G n ρ L' c Q) : T P G n ρ L c Q := ⟨fun a w he hw => h.out a w he (hl w hw)⟩
def yq {σ : Type} (G : World) (n : Nat) (I : σ → Prop) (ρI : σ → jG) (LI : σ → ja) (μ : σ → Nat) (m : Nat) (a : Act) (w : World) : Prop := ∃ x, I x ∧ Env n (ρI x) a ∧ Heap G w (LI x) ∧ μ x < m
theorem aeL {σ : Type} {c : Code} (I : σ → Prop) (ρI : σ → jG) (LI : σ → ja) (μ : σ → Nat) (x0 : σ) (h0 : I x0) (hs : ∀ t v, (ρI x0).lookup t = some v → ρ.lookup t = some v) (hl : ∀ w, Heap G w L → Heap G w (LI x0))
 (round : ∀ x, I x → T P G n (ρI x) (LI x) c (Exit.then (yq G n I ρI LI μ (μ x)) Q)) : T P G n ρ L (.loop c) Q := by
 refine ⟨fun a w he hw b k cs => ?_⟩
 suffices H : ∀ m x, μ x = m → I x → ∀ a w, Env n (ρI x) a → Heap G w (LI x) → ∃ e a' w', Q e a' w' ∧ Arrives P (lone (b.at a (.code c :: .inLoop c :: k)) cs w) b k cs e a' w' by
  obtain ⟨e, a', w', hq, harr⟩ := H _ x0 rfl h0 a w (he.weak hs) (hl w hw)
  exact ⟨e, a', w', hq, .of_steps (.one step_loop) harr⟩
 intro m
 induction m using Nat.strongRecOn with
 | _ m ih =>
   intro x hx hI a w he hw
   obtain ⟨e, a₁, w₁, hq, harr⟩ := (round x hI).out a w he hw b (.inLoop c :: k) cs
   cases e with
   | normal =>
     obtain ⟨x', hI', he', hw', hlt⟩ := hq
     obtain ⟨e₂, a₂, w₂, hq₂, harr₂⟩ := ih (μ x') (hx ▸ hlt) x' rfl hI' a₁ w₁ he' hw'
     exact ⟨e₂, a₂, w₂, hq₂, .of_steps (Steps.trans harr (.one step_inLoop)) harr₂⟩
   | exit id => exact ⟨_, a₁, w₁, hq, .pass (x := .inLoop c) rfl (fun _ _ => .inl (by simp)) harr⟩
   | goto l => exact ⟨_, a₁, w₁, hq, .pass (x := .inLoop c) rfl (fun _ _ => .inl (by simp)) harr⟩
   | ret => exact ⟨_, a₁, w₁, hq, .pass (x := .inLoop c) rfl (fun _ _ => .inl (by simp)) harr⟩
   | panic ch => exact ⟨_, a₁, w₁, hq, .pass (x := .inLoop c) rfl (fun _ _ => .inl (by simp)) harr⟩
   | outgrown => exact ⟨_, a₁, w₁, hq, .pass (x := .inLoop c) rfl (fun _ _ => .inl (by simp)) harr⟩
theorem abc {σ : Type} {I : σ → Prop} {ρI : σ → jG} {LI : σ → ja} {μ : σ → Nat} {m : Nat} (x : σ) (hI : I x) (hs : ∀ t v, (ρI x).lookup t = some v → ρ.lookup t = some v) (hl : ∀ w, Heap G w L → Heap G w (LI x)) (hm : μ x < m) :
 TQ G n ρ L .normal (Exit.then (yq G n I ρI LI μ m) Q) := ⟨fun _ w he hw => ⟨x, hI, he.weak hs, hl w hw, hm⟩⟩
def kE (G : World) (Φ : Value → ja → Prop) (e : Ending) (w : World) : Prop := ∃ v L', e = .returned v ∧ Φ v L' ∧ Heap G w L'
structure Spec (P : Program) (G : World) (f : FuncId) (args : Array Value) (L : ja) (Φ : Value → ja → Prop) : Prop where
 out : ∀ w, Heap G w L → Calls P f args w (kE G Φ)
def yT : Nat → List Value → jG
 | _, [] => []
 | k, v :: vs => (k, v) :: yT (k + 1) vs
theorem Jd : ∀ (vs : List Value) (k t : Nat) (v : Value), (yT k vs).lookup t = some v → k ≤ t ∧ vs[t - k]? = some v
 | [], _, _, _, h => by simp [yT] at h
 | u :: vs, k, t, v, h => by
   simp only [yT, List.lookup_cons] at h
   by_cases e : t = k
   · subst e
     simp at h
     subst h
     simp
   · have e' : (t == k) = false := by simpa using e
     rw [e'] at h
     have ⟨h1, h2⟩ := Jd vs (k + 1) t v h
     refine ⟨by omega, ?_⟩
     rw [show t - k = (t - (k + 1)) + 1 by omega, List.getElem?_cons_succ]
     exact h2
theorem jm {f : FuncId} {fn : Func} {c : Code} {args : Array Value} {Φ : Value → ja → Prop} (hf : P.funcs[f]? = some fn) (hb : fn.body = some c) (hn : fn.ntmps = n) (hs : Nat.ble args.size n = true)
 (h : T P G n (yT 0 args.toList) L c (bodyPost P fn (kE G Φ))) : Spec P G f args L Φ := by
 refine ⟨fun w hw => calls_of_wp hf hb (h.out _ _ ⟨?_, rfl, fun t v hv => ?_⟩ hw)⟩
 · have : args.size ≤ n := by simpa using hs
   simp [hn]
   omega
 · obtain ⟨_, h2⟩ := Jd args.toList 0 t v hv
   have h3 : args[t]? = some v := by simpa using h2
   have h4 := (Array.getElem?_eq_some_iff.1 h3).1
   show (args ++ _)[t]? = some v
   rw [Array.getElem?_append_left h4]
   exact h3
theorem Spec.mono {f : FuncId} {args : Array Value} {Φ Ψ : Value → ja → Prop} (h : Spec P G f args L Φ) (hi : ∀ v L', Φ v L' → Ψ v L') : Spec P G f args L Ψ :=
 ⟨fun w hw => (h.out w hw).mono fun _ _ ⟨v, L', h1, h2, h3⟩ => ⟨v, L', h1, hi v L' h2, h3⟩⟩
theorem Spec.heap {f : FuncId} {args : Array Value} {L' : ja} {Φ : Value → ja → Prop} (hl : ∀ w, Heap G w L → Heap G w L') (h : Spec P G f args L' Φ) : Spec P G f args L Φ := ⟨fun w hw => h.out w (hl w hw)⟩
theorem Spec.ofBelow {f : FuncId} {args : Array Value} {v : Value} (h : ∀ w, Calls P f args w fun e w' => e = .returned v ∧ Below w.heap.size w w') : Spec P G f args L fun u L' => u = v ∧ L' = L :=
 ⟨fun w hw => (h w).mono fun _ w' ⟨h1, h2⟩ => ⟨v, L, h1, ⟨rfl, rfl⟩, hw.still.trans ⟨h2.os, h2.tape, h2.output, h2.size⟩, hw.nodup, fun p hp => (h2.block p.1 (hw.lt hp)).trans (hw.get p hp)⟩⟩
theorem Spec.ofSame {f : FuncId} {args : Array Value} {v : Value} (h : ∀ w, Calls P f args w fun e w' => e = .returned v ∧ w = w') : Spec P G f args L fun u L' => u = v ∧ L' = L :=
 ⟨fun w hw => (h w).mono fun _ w' ⟨h1, h2⟩ => ⟨v, L, h1, ⟨rfl, rfl⟩, h2 ▸ hw⟩⟩
theorem Spec.below {f : FuncId} {args : Array Value} {w : World} {v : Value} (h : Spec P w f args (kU w) fun u L' => u = v ∧ L' = kU w) :
 Calls P f args w fun e w' => e = .returned v ∧ Below w.heap.size w w' :=
 (h.out w (Heap.all w)).mono fun e w' ⟨u, L', h1, ⟨h2, h3⟩, h4⟩ => by
   subst h2 h3
   refine ⟨h1, h4.still.os, h4.still.tape, h4.still.output, h4.still.size, fun k hk => ?_⟩
   have hg : w.heap[k]? = some w.heap[k] := Array.getElem?_eq_getElem hk
   rw [hg]
   exact h4.get _ (ZD hg)
end
end
section
open Go.RowKit
variable {G : World} {P : Program} {n : Nat} {ρ : jG} {L : ja} {ty : TypeId}
theorem OpV.run {op : Op} {v : Value} {L' : ja} (h : ∀ r, KD ρ r → ∀ w, Heap G w L → ∀ o : Oper, o.op = op → o.type = ty → ∃ w', (execOp r o).run P w = .ok (.value v) w' ∧ Heap G w' L') : OpV P G ρ L op ty v L' :=
 ⟨fun r hr w hw o ho ht => by
   obtain ⟨w', h1, h2⟩ := h r hr w hw o ho ht
   rw [h1]
   exact ⟨L', ⟨rfl, rfl⟩, h2⟩⟩
theorem OpV.pure {op : Op} {v : Value} (h : ∀ r, KD ρ r → ∀ w, Heap G w L → ∀ o : Oper, o.op = op → o.type = ty → (execOp r o).run P w = .ok (.value v) w) : OpV P G ρ L op ty v L :=
 OpV.run fun r hr w hw o ho ht => ⟨w, h r hr w hw o ho ht, hw⟩
structure Has (w : World) (L : ja) : Prop where
 get : ∀ p, p ∈ L → w.heap[p.1]? = some p.2
theorem Has.cell {w : World} {L : ja} {b : Nat} {C : Array Value} {e : TypeId} {fr : Nat × Nat} (h : Has w L) (hm : (b, Obj.cells C e fr) ∈ L) {off : Nat} {v : Value} (hv : C[off]? = some v) :
 w.cell? ⟨b, off, none⟩ = some v := by
 unfold World.cell?
 rw [h.get _ hm]
 simpa using hv
theorem Heap.has {w : World} (h : Heap G w L) : Has w L := ⟨h.get⟩
structure OpQ (P : Program) (ρ : jG) (L : ja) (op : Op) (ty : TypeId) (v : Value) : Prop where
 out : ∀ r, KD ρ r → ∀ w, Has w L → ∀ o : Oper, o.op = op → o.type = ty → (execOp r o).run P w = .ok (.value v) w
theorem OpQ.v {op : Op} {v : Value} (h : OpQ P ρ L op ty v) : OpV P G ρ L op ty v L := .pure fun r hr w hw o ho ht => h.out r hr w hw.has o ho ht
theorem uq {x : Operand} {v : Value} (hx : ev ρ x = some v) : OpQ P ρ L (.move x) ty v :=
 ⟨fun r hr w hw o ho _ => by simp [execOp, ho, hr x v hx]⟩
theorem zy {x : Operand} {v : Value} (hx : ev ρ x = some v) : OpQ P ρ L (.assign x) ty v :=
 ⟨fun r hr w hw o ho _ => by simp [execOp, ho, hr x v hx]⟩
theorem ZE {c a b : Operand} {t : Bool} {v : Value} (hc : ev ρ c = some (.bool t)) (hv : ev ρ (if t then a else b) = some v) : OpQ P ρ L (.pick c a b) ty v :=
 ⟨fun r hr w hw o ho _ => by
   have h1 := hr _ _ hv
   simp [execOp, ho, hr _ _ hc, asBool]
   cases t <;> simpa using h1⟩
theorem YD {x : Operand} {vs : Array Value} {i : Nat} {v : Value} (hx : ev ρ x = some (.tuple vs)) (hv : vs[i]? = some v) : OpQ P ρ L (.extract x i) ty v :=
 ⟨fun r hr w hw o ho _ => by simp [execOp, ho, hr _ _ hx, Instr.extract, hv]⟩
theorem yU {x : Operand} {a : Addr} (hx : ev ρ x = some (.pointer (some a))) : OpQ P ρ L (.nilCheck x) ty (.pointer (some a)) :=
 ⟨fun r hr w hw o ho _ => by simp [execOp, ho, hr _ _ hx]⟩
theorem abd {x : Operand} {t : TypeId} {b : Bool} (hx : ev ρ x = some (.bool b)) : OpQ P ρ L (.unOp .not t x) ty (.bool (!b)) :=
 ⟨fun r hr w hw o ho _ => by simp [execOp, ho, hr _ _ hx, Op.unary]⟩
def InK : IntKind → Int → Prop
 | .i64, a => -9223372036854775808 ≤ a ∧ a ≤ 9223372036854775807
 | .u8, a => 0 ≤ a ∧ a ≤ 255
 | .u16, a => 0 ≤ a ∧ a ≤ 65535
 | .u32, a => 0 ≤ a ∧ a ≤ 4294967295
 | .u64, a => 0 ≤ a ∧ a ≤ 18446744073709551615
 | .i32, a => -2147483648 ≤ a ∧ a ≤ 2147483647
 | _, _ => False
theorem zz {k : IntKind} {a : Int} (h : InK k a) : k.wrap a = a := by
 cases k <;> first | exact IntWalk.i64_in _ h | exact IntWalk.u8_in _ h | exact IntWalk.u16_in _ h | exact IntWalk.u32_in _ h | exact IntWalk.u64_in _ h | exact IntWalk.i32_in _ h | exact h.elim
structure Bin (P : Program) (op : BinOp) (t : TypeId) (a b v : Value) : Prop where
 out : ∀ (x y : Operand) w, (do eqGuard op t x y a b; binOp op t a b : Sem Value).run P w = .ok v w
theorem qJ {op : BinOp} {t yt : TypeId} {x y : Operand} {a b v : Value} (hx : ev ρ x = some a) (hy : ev ρ y = some b) (h : Bin P op t a b v) : OpQ P ρ L (.binOp op t x y yt) ty v :=
 ⟨fun r hr w hw o ho _ => by
   have h1 := h.out x y w
   simp only [execOp, ho, hr _ _ hx, hr _ _ hy]
   rw [Sem.run_bind, h1]
   rfl⟩
section
variable {t : TypeId} {k : IntKind} {a b : Int}
theorem ac4 (h : InK k (a + b)) : Bin P .add t (.int k a) (.int k b) (.int k (a + b)) := ⟨fun x y w => by simp [eqGuard, binOp, Op.intArith, zz h]⟩
theorem ac5 (h : InK k (a - b)) : Bin P .sub t (.int k a) (.int k b) (.int k (a - b)) := ⟨fun x y w => by simp [eqGuard, binOp, Op.intArith, zz h]⟩
theorem ac6 (h : InK k (a * b)) : Bin P .mul t (.int k a) (.int k b) (.int k (a * b)) := ⟨fun x y w => by simp [eqGuard, binOp, Op.intArith, zz h]⟩
theorem ac7 (h1 : 0 ≤ a) (h2 : 1 ≤ b) (h : InK k (a / b)) : Bin P .quo t (.int k a) (.int k b) (.int k (a / b)) := ⟨fun x y w => by
 have hb : b ≠ 0 := by omega
 simp [eqGuard, binOp, Op.intDiv, hb, Int.tdiv_eq_ediv_of_nonneg h1, zz h]⟩
theorem ac8 (h1 : 0 ≤ a) (h2 : 1 ≤ b) : Bin P .rem t (.int k a) (.int k b) (.int k (a % b)) := ⟨fun x y w => by
 have hb : b ≠ 0 := by omega
 simp [eqGuard, binOp, Op.intDiv, hb, Int.tmod_eq_emod_of_nonneg h1]⟩
theorem ac9 : Bin P .eql t (.int k a) (.int k b) (.bool (a == b)) := ⟨fun x y w => by simp [eqGuard, binOp, Op.intCmp]⟩
theorem ada : Bin P .neq t (.int k a) (.int k b) (.bool (a != b)) := ⟨fun x y w => by simp [eqGuard, binOp, Op.intCmp]⟩
theorem adb : Bin P .lss t (.int k a) (.int k b) (.bool (decide (a < b))) := ⟨fun x y w => by simp [eqGuard, binOp, Op.intCmp]⟩
theorem adc : Bin P .leq t (.int k a) (.int k b) (.bool (decide (a ≤ b))) := ⟨fun x y w => by simp [eqGuard, binOp, Op.intCmp]⟩
theorem ZF : Bin P .gtr t (.int k a) (.int k b) (.bool (decide (b < a))) := ⟨fun x y w => by simp [eqGuard, binOp, Op.intCmp]⟩
theorem ade : Bin P .geq t (.int k a) (.int k b) (.bool (decide (b ≤ a))) := ⟨fun x y w => by simp [eqGuard, binOp, Op.intCmp]⟩
end
def bs (l : List UInt8) : ByteArray := ⟨l.toArray⟩
@[simp] theorem ain (l : List UInt8) : (bs l).data.toList = l := rfl
@[simp] theorem afx (l : List UInt8) : (bs l).toList = l := by rw [ByteArray.toList_eq]; rfl
@[simp] theorem Vq (l : List UInt8) : (bs l).size = l.length := by simp [bs, ByteArray.size]
section
variable {t : TypeId} {a b : List UInt8}
theorem abe : Bin P .eql t (.string (bs a)) (.string (bs b)) (.bool (a == b)) := ⟨fun x y w => by simp [eqGuard, binOp, Op.stringOp]⟩
theorem abf : Bin P .neq t (.string (bs a)) (.string (bs b)) (.bool (!(a == b))) := ⟨fun x y w => by simp [eqGuard, binOp, Op.stringOp]⟩
theorem abg : Bin P .lss t (.string (bs a)) (.string (bs b)) (.bool (Op.bytesLess a b)) := ⟨fun x y w => by simp [eqGuard, binOp, Op.stringOp]⟩
theorem abh : Bin P .gtr t (.string (bs a)) (.string (bs b)) (.bool (!(Op.bytesLess a b || a == b))) := ⟨fun x y w => by simp [eqGuard, binOp, Op.stringOp]⟩
theorem aai : bs a ++ bs b = bs (a ++ b) := by
 apply ByteArray.ext
 simp [bs]
theorem abi (h : a.length + b.length ≤ 9223372036854775807) : Bin P .add t (.string (bs a)) (.string (bs b)) (.string (bs (a ++ b))) := ⟨fun x y w => by
 simp [eqGuard, binOp, Op.stringOp, aai]
 omega⟩
end
theorem uG (t : TypeId) (x y : Value) : Op.equal t x y = Op.equalIn (9999 + 1) t x y := rfl
theorem Je {t : TypeId} {a b : Bool} (d : Nat) (w : World) (h : P.underlying t = some .bool) : (Op.equalIn (d + 1) t (.bool a) (.bool b)).run P w = .ok (a == b) w := by simp [Op.equalIn, run_underlying h]
theorem KF {t e : TypeId} {a : Option Addr} (d : Nat) (w : World) (h : P.underlying t = some (.pointer e)) : (Op.equalIn (d + 1) t (.pointer a) (.pointer none)).run P w = .ok a.isNone w := by
 cases a <;> simp [Op.equalIn, run_underlying h]
theorem abj {t : TypeId} {a b : Bool} (h : P.underlying t = some .bool) : Bin P .eql t (.bool a) (.bool b) (.bool (a == b)) := ⟨fun x y w => by
 simp only [eqGuard, binOp, uG]
 simp [Je 9999 w h]⟩
theorem abk {t : TypeId} {a b : Bool} (h : P.underlying t = some .bool) : Bin P .neq t (.bool a) (.bool b) (.bool (!(a == b))) := ⟨fun x y w => by
 simp only [eqGuard, binOp, uG]
 simp [Je 9999 w h]⟩
theorem Wh {t e : TypeId} {a : Option Addr} (h : P.underlying t = some (.pointer e)) : Bin P .eql t (.pointer a) (.pointer none) (.bool a.isNone) := ⟨fun x y w => by
 simp only [eqGuard, binOp, uG]
 simp [KF 9999 w h]⟩
theorem abl {t e : TypeId} {a : Option Addr} (h : P.underlying t = some (.pointer e)) : Bin P .neq t (.pointer a) (.pointer none) (.bool (!a.isNone)) := ⟨fun x y w => by
 simp only [eqGuard, binOp, uG]
 simp [KF 9999 w h]⟩
theorem Wi {s d : TypeId} {sd : TypeDesc} {k k' : IntKind} {x : Operand} {a : Int} (hx : ev ρ x = some (.int k a)) (h1 : P.underlying s = some sd) (h2 : P.underlying d = some (.int k')) (h : InK k' a) :
 OpQ P ρ L (.convert s d x) ty (.int k' a) :=
 ⟨fun r hr w hw o ho _ => by simp [execOp, ho, hr _ _ hx, convert, run_underlying h1, run_underlying h2, Conv.intToInt, zz h]⟩
theorem Vr {s d : TypeId} {sd : TypeDesc} {k k' : IntKind} {x : Operand} {a : Int} (hx : ev ρ x = some (.int k a)) (h1 : P.underlying s = some sd) (h2 : P.underlying d = some (.int k')) :
 OpQ P ρ L (.convert s d x) ty (.int k' (k'.wrap a)) :=
 ⟨fun r hr w hw o ho _ => by simp [execOp, ho, hr _ _ hx, convert, run_underlying h1, run_underlying h2, Conv.intToInt]⟩
theorem Wj {s d : TypeId} {sd : TypeDesc} {x : Operand} {a : ByteArray} (hx : ev ρ x = some (.string a)) (h1 : P.underlying s = some sd) (h2 : P.underlying d = some .string) :
 OpQ P ρ L (.convert s d x) ty (.string a) :=
 ⟨fun r hr w hw o ho _ => by simp [execOp, ho, hr _ _ hx, convert, run_underlying h1, run_underlying h2]⟩
theorem Vs {s d e : TypeId} {x : Operand} {b off cap : Nat} {C : Array Value} {te : TypeId} {fr : Nat × Nat} (l : List UInt8) {m : Nat} (hx : ev ρ x = some (.slice (some ⟨b, off, none⟩) m cap)) (hl : m = l.length)
 (h1 : P.underlying s = some (.slice e)) (he : P.underlying e = some (.int .u8)) (h2 : P.underlying d = some .string) (hm : (b, Obj.cells C te fr) ∈ L) (hc : ∀ j (hj : j < l.length), C[off + j]? = some (.int .u8 (l[j].toNat : Int))) :
 OpQ P ρ L (.convert s d x) ty (.string (bs l)) :=
 ⟨fun r hr w hw o ho _ => by
   subst hl
   simp [execOp, ho, hr _ _ hx]
   rw [run_convert_bytes_back w s d e ⟨b, off, none⟩ cap l h1 he h2 (fun j hj => by
    have : (⟨b, off, none⟩ : Addr).add j = ⟨b, off + j, none⟩ := by
     unfold Addr.add; split
     · rename_i h; subst h; rfl
     · rfl
    rw [this]; exact hw.cell hm (hc j hj))]
   rfl⟩
theorem YE {x : Operand} {s : List UInt8} {t : TypeId} (hx : ev ρ x = some (.string (bs s))) (ht : P.underlying t = some .string) : OpQ P ρ L (.call ⟨.builtin .len, #[x], #[t]⟩) ty (.int .i64 s.length) :=
 ⟨fun r hr w hw o ho _ => by simp [execOp, ho, hr _ _ hx, resolve, invoke, builtin, Builtin.len_, run_underlying ht, goInt]⟩
theorem Vt {x : Operand} {a : Option Addr} {m c : Nat} {t e : TypeId} (hx : ev ρ x = some (.slice a m c)) (ht : P.underlying t = some (.slice e)) : OpQ P ρ L (.call ⟨.builtin .len, #[x], #[t]⟩) ty (.int .i64 m) :=
 ⟨fun r hr w hw o ho _ => by simp [execOp, ho, hr _ _ hx, resolve, invoke, builtin, Builtin.len_, run_underlying ht, goInt]⟩
theorem qq (b o j : Nat) : (⟨b, o, none⟩ : Addr).add j = ⟨b, o + j, none⟩ := by
 unfold Addr.add; split
 · rename_i h; subst h; rfl
 · rfl
theorem Vu {x y : Operand} {s : List UInt8} {i : Int} {k : IntKind} {c : UInt8} {t : TypeId} (hx : ev ρ x = some (.string (bs s))) (hy : ev ρ y = some (.int k i)) (ht : P.underlying t = some .string) (h0 : 0 ≤ i) (hc : s[i.toNat]? = some c) :
 OpQ P ρ L (.index t x y) ty (.int .u8 (c.toNat : Int)) :=
 ⟨fun r hr w hw o ho _ => by
   have : (bs s)[i.toNat]? = some c := by
    obtain ⟨h1, h2⟩ := List.getElem?_eq_some_iff.1 hc
    rw [getElem?_pos (bs s) i.toNat (by rw [Vq]; exact h1), ← h2]
    rfl
   simp [execOp, ho, hr _ _ hx, hr _ _ hy, Instr.index, asIntOf, run_underlying ht, h0, this]⟩
theorem yr {x y : Operand} {b off m c sz : Nat} {i : Int} {k : IntKind} {t e : TypeId} {ti : TypeInfo} (hx : ev ρ x = some (.slice (some ⟨b, off, none⟩) m c)) (hy : ev ρ y = some (.int k i))
 (ht : P.underlying t = some (.slice e)) (hi : P.info? e = some ti) (hz : ti.size = sz) (h0 : 0 ≤ i) (h1 : i < m) : OpQ P ρ L (.indexAddr t x y) ty (.pointer (some ⟨b, off + i.toNat * sz, none⟩)) :=
 ⟨fun r hr w hw o ho _ => by simp [execOp, ho, hr _ _ hx, hr _ _ hy, Instr.indexAt, asIntOf, run_underlying ht, h0, h1, sizeOf, typeInfo, hi, hz, qq]⟩
theorem Vv {x : Operand} {b off : Nat} {s f : Nat} {fs : Array Field} {fi : Field} {ti : TypeInfo} {fo : Nat} (hx : ev ρ x = some (.pointer (some ⟨b, off, none⟩)))
 (ht : P.underlying s = some (.struct fs)) (hf : fs[f]? = some fi) (hi : P.info? fi.type = some ti) (hz : Nat.beq ti.size 0 = false) (hfo : fi.offset = fo) :
 OpQ P ρ L (.fieldAddr s x f) ty (.pointer (some ⟨b, off + fo, none⟩)) :=
 ⟨fun r hr w hw o ho _ => by
   have hz' : ti.size ≠ 0 := Nat.ne_of_beq_eq_false hz
   simp [execOp, ho, hr _ _ hx, Instr.fieldAt, run_underlying ht, hf, Instr.sureAddr, fieldPlace, sizeOf, typeInfo, hi, hz', qq, hfo]⟩
def UL : TypeDesc → Bool
 | .struct _ | .array _ _ => false
 | _ => true
theorem adf {x : Operand} {b off : Nat} {t : TypeId} {d : TypeDesc} {C : Array Value} {te : TypeId} {fr : Nat × Nat} {v : Value} (hx : ev ρ x = some (.pointer (some ⟨b, off, none⟩)))
 (ht : P.underlying t = some d) (hd : UL d = true) (hm : (b, Obj.cells C te fr) ∈ L) (hv : C[off]? = some v) : OpQ P ρ L (.load t x) ty v :=
 ⟨fun r hr w hw o ho _ => by
   have hc := hw.cell hm hv
   have ha : (isAgg t).run P w = .ok false w := by
    unfold isAgg
    simp [run_underlying ht]
    cases d <;> first | rfl | cases hd
   simp [execOp, ho, hr _ _ hx, Instr.loadAt, Instr.sureAddr, loadVar, ha, load, Sem.run, hc]⟩
theorem Heap.store {w : World} {b off : Nat} {C : Array Value} {te : TypeId} {v : Value} (h : Heap G w ((b, Obj.cells C te (0, 0)) :: L)) : Heap G (w.setCell ⟨b, off, none⟩ v) ((b, Obj.cells (C.setIfInBounds off v) te (0, 0)) :: L) := by
 have h0 := h.get _ (List.mem_cons_self ..)
 refine h.update ⟨rfl, rfl, rfl, by simp [World.setCell]⟩ ?_ (fun j hj hne => Below.heap_setCell w _ v j hne)
 show (w.heap.modify b _)[b]? = _
 rw [Array.getElem?_modify, if_pos rfl, h0]
 rfl
theorem jB {ops : Array Oper} {d : Nat} {op : Op} {pos : String} {after : Array Edge} {rest : List Oper} {v : Value} {Q : Exit → Act → World → Prop}
 (h : OpQ P ρ L op ty v) (hd : Nat.blt d n = true) (hr : TL P G ops n ((d, v) :: ρ) L rest Q) : TL P G ops n ρ L (⟨some d, op, ty, pos, after, none⟩ :: rest) Q := jU h.v hd hr
theorem agT {ops : Array Oper} {d j dj : Nat} {op : Op} {pos : String} {after : Array Edge} {rest : List Oper} {v : Value} {want : Bool} {Q : Exit → Act → World → Prop}
 (hs : jT ops j = some dj) (hv : ρ.lookup dj = some (.bool want))
 (h : OpQ P ρ L op ty v) (hd : Nat.blt d n = true) (hr : TL P G ops n ((d, v) :: ρ) L rest Q) : TL P G ops n ρ L (⟨some d, op, ty, pos, after, some (j, want)⟩ :: rest) Q := aiU hs hv h.v hd hr
theorem abm {x y : Operand} {b off : Nat} {t : TypeId} {ti : TypeInfo} {C : Array Value} {te : TypeId} {v u : Value} (hx : ev ρ x = some (.pointer (some ⟨b, off, none⟩))) (hy : ev ρ y = some v)
 (hi : P.info? t = some ti) (hz : ti.size = 1) (hone : v.oneCell' = true) (hv : C[off]? = some u) : OpV P G ρ ((b, Obj.cells C te (0, 0)) :: L) (.store t x y) ty undef ((b, Obj.cells (C.setIfInBounds off v) te (0, 0)) :: L) :=
 ⟨fun r hr w hw o ho _ => by
   have hc := hw.cell (List.mem_cons_self ..) hv
   have hf : w.frozen? ⟨b, off, none⟩ = false := by unfold World.frozen?; rw [hw.get _ (List.mem_cons_self ..)]; simp
   have hrun : (execOp r o).run P w = .ok .skip (w.setCell ⟨b, off, none⟩ v) := by
    simp only [execOp, ho, hr _ _ hx, hr _ _ hy]
    cases v <;> first | (cases hone; done) | simp [Instr.storeAt, Instr.sureAddr, storeVar, sizeOf, typeInfo, hi, hz, Value.cells, storeCells, qq, store, Sem.run, hc, hf]
   rw [hrun]
   exact ⟨_, ⟨rfl, rfl⟩, hw.store⟩⟩
end
section
open Go.RowKit Go.Lib
variable {G : World} {P : Program} {n : Nat} {ρ : jG} {L : ja} {ty : TypeId} {Q : Exit → Act → World → Prop}
theorem UM {α : Type} : ∀ {L : List α} (i : Nat) (p : α), L[i]? = some p → L.Perm (p :: L.eraseIdx i)
 | [], _, _, h => by simp at h
 | x :: L, 0, p, h => by simp at h; subst h; exact List.Perm.refl _
 | x :: L, i + 1, p, h => by
   have := UM (L := L) i p (by simpa using h)
   exact (this.cons x).trans (List.Perm.swap _ _ _)
theorem Heap.pick {w : World} {L : ja} (i : Nat) (p : Nat × Obj) (hp : L[i]? = some p) (h : Heap G w L) : Heap G w (p :: L.eraseIdx i) :=
 h.perm (UM i p hp)
theorem qk {ops : Array Oper} {l : List Oper} {L' : ja} (he : L.Perm L') (h : TL P G ops n ρ L' l Q) : TL P G ops n ρ L l Q := qI (fun w hw => hw.perm he) h
abbrev OpNew (P : Program) (G : World) (ρ : jG) (L : ja) (op : Op) (ty : TypeId) (mk : Nat → Value) (o : Obj) : Prop := OpT P G ρ L op ty fun v L' => ∃ b, v = mk b ∧ L' = (b, o) :: L
theorem OpNew.run {op : Op} {mk : Nat → Value} {ob : Obj} (h : ∀ r, KD ρ r → ∀ w, ∀ o : Oper, o.op = op → o.type = ty → (execOp r o).run P w = .ok (.value (mk w.heap.size)) (w.alloc ob)) : OpNew P G ρ L op ty mk ob :=
 ⟨fun r hr w hw o ho ht => by
   rw [h r hr w o ho ht]
   exact ⟨_, ⟨w.heap.size, rfl, rfl⟩, hw.alloc ob⟩⟩
theorem j0 {ops : Array Oper} {d : Nat} {op : Op} {pos : String} {after : Array Edge} {rest : List Oper} {mk : Nat → Value} {ob : Obj}
 (h : OpNew P G ρ L op ty mk ob) (hd : Nat.blt d n = true) (hr : ∀ b, TL P G ops n ((d, mk b) :: ρ) ((b, ob) :: L) rest Q) : TL P G ops n ρ L (⟨some d, op, ty, pos, after, none⟩ :: rest) Q :=
 jw h hd fun _ _ ⟨b, h1, h2⟩ => h1 ▸ h2 ▸ hr b
def JS (P : Program) (t : TypeId) : Option Value := (P.info? t).bind (·.zero)
theorem YF {t : TypeId} {z : Value} (h : JS P t = some z) (w : World) : (zeroValue t).run P w = .ok z w := by
 unfold JS at h
 cases hi : P.info? t with
 | none => simp [hi] at h
 | some i =>
   simp [hi] at h
   simp [zeroValue, typeInfo, hi, h]
theorem kk {t : TypeId} {z : Value} {C : Array Value} (h : JS P t = some z) (hc : z.cells = C) : OpNew P G ρ L (.alloc t) ty (fun b => .pointer (some ⟨b, 0, none⟩)) (.cells C t (0, 0)) :=
 .run fun r hr w o ho _ => by
  simp [execOp, ho, Instr.alloc, YF h w, newVar, newRow, hc]
theorem YG {t : TypeId} {x : Operand} {v : Value} {C : Array Value} (hx : ev ρ x = some v) (hc : v.cells = C) : OpNew P G ρ L (.box t x) ty (fun b => .pointer (some ⟨b, 0, none⟩)) (.cells C t (0, 0)) :=
 .run fun r hr w o ho _ => by
  simp [execOp, ho, hr _ _ hx, Instr.box, newVar, newRow, hc]
def ur (ρ : jG) : List (Nat × Operand) → Option (List (Nat × Value))
 | [] => some []
 | (i, x) :: r => match ev ρ x, ur ρ r with
   | some v, some vs => some ((i, v) :: vs)
   | _, _ => none
theorem yV {ρ : jG} {r : Operand → Value} (hr : KD ρ r) : ∀ (l : List (Nat × Operand)) (vs : List (Nat × Value)), ur ρ l = some vs → l.map (fun p => (p.1, r p.2)) = vs
 | [], vs, h => by simp [ur] at h; simp [h]
 | (i, x) :: l, vs, h => by
   simp only [ur] at h
   cases h1 : ev ρ x with
   | none => simp [h1] at h
   | some v =>
     cases h2 : ur ρ l with
     | none => simp [h1, h2] at h
     | some us =>
       simp [h1, h2] at h
       subst h
       simp [hr x v h1, yV hr l us h2]
structure RowLit (P : Program) (t : TypeId) (len : Nat) (vs : List (Nat × Value)) (e : TypeId) (C : Array Value) : Prop where
 out : ∀ w, (Instr.buildSlice t len vs.toArray).run P w = .ok (.slice (some ⟨w.heap.size, 0, none⟩) len len) (w.alloc (.cells C e (0, 0)))
theorem kr {t e : TypeId} {len : Nat} {ps : List (Nat × Operand)} {vs : List (Nat × Value)} {C : Array Value} (hp : ur ρ ps = some vs) (h : RowLit P t len vs e C) :
 OpNew P G ρ L (.buildSlice t len ps.toArray) ty (fun b => .slice (some ⟨b, 0, none⟩) len len) (.cells C e (0, 0)) :=
 .run fun r hr w o ho _ => by
  have := h.out w
  rw [← yV hr ps vs hp] at this
  simp [execOp, ho]
  rw [this]
  rfl
theorem adg {t e : TypeId} {v z : Value} {ti : TypeInfo} (ht : P.underlying t = some (.slice e)) (hi : P.info? e = some ti) (hz : ti.size = 1) (h0 : ti.zero = some z) (hzc : z.cells.size = 1) (hone : v.oneCell' = true) : RowLit P t 1 [(0, v)] e #[v] :=
 ⟨fun w => by
   obtain ⟨zc, hzc'⟩ : ∃ zc, z.cells = #[zc] := by
    match hh : z.cells, hzc with
    | ⟨[a]⟩, _ => exact ⟨a, rfl⟩
   have hv : v.cells = #[v] := by cases v <;> first | rfl | cases hone
   have hr1 : Array.range 1 = #[0] := by decide
   simp [Instr.buildSlice, run_underlying ht, sizeOf, typeInfo, hi, hz, zeroValue, h0, hzc', Instr.fill, hv, newRow, hr1]⟩
theorem adh {t e : TypeId} {ti : TypeInfo} (ht : P.underlying t = some (.slice e)) (hi : P.info? e = some ti) : RowLit P t 0 [] e #[] :=
 ⟨fun w => by simp [Instr.buildSlice, run_underlying ht, sizeOf, typeInfo, hi, Instr.fill, newRow, Array.range_zero']⟩
structure Built (P : Program) (t : TypeId) (vs : List (Nat × Value)) (v : Value) : Prop where
 out : ∀ w, (Instr.build t vs.toArray).run P w = .ok v w
theorem jl {t : TypeId} {ps : List (Nat × Operand)} {vs : List (Nat × Value)} {v : Value} (hp : ur ρ ps = some vs) (h : Built P t vs v) : OpQ P ρ L (.build t ps.toArray) ty v :=
 ⟨fun r hr w hw o ho _ => by
   have := h.out w
   rw [← yV hr ps vs hp] at this
   simp [execOp, ho]
   rw [this]
   rfl⟩
structure ElemTy (P : Program) (t e : TypeId) (sz bytes : Nat) (z : Value) : Prop where
 und : P.underlying t = some (.slice e)
 info : ∃ i, P.info? e = some i ∧ i.zero = some z ∧ i.size = sz ∧ i.bytes = bytes
 cells : z.cells.size = sz
 pos : 0 < sz
structure Row (e : TypeId) (sz : Nat) (v : Value) (m : Nat) (xs : List Value) (B : ja) : Prop where
 len : xs.length = m * sz
 is : (v = .slice none 0 0 ∧ m = 0 ∧ B = []) ∨ ∃ b cap cur, v = .slice (some ⟨b, 0, none⟩) m cap ∧ B = [(b, .cells cur e (0, 0))] ∧ m ≤ cap ∧ cap ≤ maxLen ∧ cur.size = cap * sz ∧ cur.toList.take (m * sz) = xs
theorem Row.nil (e : TypeId) (sz : Nat) : Row e sz (.slice none 0 0) 0 [] [] := ⟨by simp, Or.inl ⟨rfl, rfl, rfl⟩⟩
theorem Row.slice {e : TypeId} {sz : Nat} {v : Value} {m : Nat} {xs : List Value} {B : ja} (h : Row e sz v m xs B) : ∃ a c, v = .slice a m c := by
 rcases h.is with ⟨h1, h2, _⟩ | ⟨b, cap, _, h1, _⟩
 · exact ⟨none, 0, by rw [h1, h2]⟩
 · exact ⟨_, _, h1⟩
theorem Row.owns {e : TypeId} {sz : Nat} {v : Value} {m : Nat} {xs : List Value} {B : ja} (h : Row e sz v m xs B) {w : World} (hw : Heap G w (B ++ L)) : w.ownsRow 0 e sz v m xs := by
 refine ⟨h.len, ?_⟩
 rcases h.is with ⟨h1, h2, _⟩ | ⟨b, cap, cur, h1, h2, h3, h4, h5, h6⟩
 · exact Or.inl ⟨h1, h2⟩
 · subst h2
   exact Or.inr ⟨b, cap, cur, h1, Nat.zero_le _, hw.get (b, .cells cur e (0, 0)) (List.mem_append_left _ (List.mem_cons_self ..)), h3, h4, h5, h6⟩
theorem Row.after {e : TypeId} {sz : Nat} {v v' : Value} {m m' : Nat} {xs xs' : List Value} {B : ja} (h : Row e sz v m xs B) {w w' : World} (hw : Heap G w (B ++ L)) (ho : w'.ownsRow 0 e sz v' m' xs') (hg : w.grownBy w' v.ownBlock)
 (hat : v'.ownBlock = v.ownBlock ∨ v'.ownBlock = some w.heap.size) : ∃ B', Row e sz v' m' xs' B' ∧ Heap G w' (B' ++ L) := by
 have hst : Still w w' := ⟨hg.os, hg.tape, hg.output, hg.size⟩
 have hL : Heap G w L := hw.sub (List.sublist_append_right _ _)
 have hkeep : ∀ p, p ∈ L → w'.heap[p.1]? = some p.2 := fun p hp => by
  rw [hg.block p.1 (hL.lt hp) ?_]
  · exact hL.get p hp
  · rcases h.is with ⟨h1, _, _⟩ | ⟨b, cap, cur, h1, h2, _⟩
    · rw [h1]; simp [Value.ownBlock]
    · rw [h1]
      subst h2
      have := Heap.ne (b := b) (o := .cells cur e (0, 0)) (L := L) hw hp
      simpa [Value.ownBlock] using this
 rcases ho.2 with ⟨h1, h2⟩ | ⟨g, cap, cur, h1, _, hgc, h3, h4, h5, h6⟩
 · exact ⟨[], ⟨ho.1, Or.inl ⟨h1, h2, rfl⟩⟩, hL.still.trans hst, hL.nodup, hkeep⟩
 · refine ⟨[(g, .cells cur e (0, 0))], ⟨ho.1, Or.inr ⟨g, cap, cur, h1, rfl, h3, h4, h5, h6⟩⟩, hL.still.trans hst, ?_, fun p hp => ?_⟩
   · show ((g : Nat) :: L.map (·.1)).Nodup
     rw [List.nodup_cons]
     refine ⟨fun hm => ?_, hL.nodup⟩
     obtain ⟨p, hp, he⟩ := List.mem_map.1 hm
     rw [h1] at hat
     simp only [Value.ownBlock] at hat
     rcases hat with hat | hat
     · rcases h.is with ⟨q1, _, _⟩ | ⟨b, cap, cur, q1, q2, _⟩
       · rw [q1] at hat; simp at hat
       · rw [q1] at hat
         simp at hat
         subst q2
         exact Heap.ne (b := b) (o := .cells cur e (0, 0)) (L := L) hw hp (he.trans hat)
     · have := hL.lt hp
       simp at hat
       omega
   · rcases List.mem_cons.1 hp with rfl | hp
     · exact hgc
     · exact hkeep p hp
def Src (L : ja) (u : Value) (m : Nat) (news : List Value) (sz : Nat) : Prop :=
 news.length = m * sz ∧ (∀ x ∈ news, x.oneCell' = true) ∧ ((∃ c, u = .slice none 0 c ∧ m = 0) ∨ ∃ b off c C te fr, u = .slice (some ⟨b, off, none⟩) m c ∧ (b, Obj.cells C te fr) ∈ L ∧ ∀ j x, news[j]? = some x → C[off + j]? = some x)
theorem Wk (w : World) (t ty e : TypeId) (i : TypeInfo) (c : Nat) (ht : P.underlying t = some (.slice e)) (hi : P.info? e = some i) (base : Nat) (size : Nat)
 (v : Value) (m : Nat) (xs : List Value) (hown : w.ownsRow base e size v m xs) : (Builtin.append_ #[t, t] ty #[v, .slice none 0 c]).run P w = .ok v w := by
 rcases hown.2 with ⟨rfl, rfl⟩ | ⟨g, cap, cur, rfl, _, _, hnc, _⟩
 · simp [Builtin.append_, run_underlying ht, sizeOf, typeInfo, hi, Builtin.lenOf, Builtin.firstCells]
 · simp [Builtin.append_, run_underlying ht, sizeOf, typeInfo, hi, Builtin.lenOf, Builtin.firstCells, hnc, storeCells]
theorem uA {s x : Operand} {t e : TypeId} {sz bytes : Nat} {z v u : Value} {m k : Nat} {xs news : List Value} {B : ja} (E : ElemTy P t e sz bytes z) (hs : ev ρ s = some v) (hx : ev ρ x = some u)
 (hrow : Row e sz v m xs B) (hsrc : Src L u k news sz) (h63 : m + k ≤ maxLen) (hby : (m + k) * bytes ≤ 140737488355328) :
 OpT P G ρ (B ++ L) (.call ⟨.builtin .append, #[s, x], #[t, t]⟩) ty fun v' L' => ∃ B', Row e sz v' (m + k) (xs ++ news) B' ∧ L' = B' ++ L :=
 ⟨fun r hr w hw o ho _ => by
   obtain ⟨i, hi, hz0, hz1, hz2⟩ := E.info
   have hown := hrow.owns hw
   have key : ∃ v' w', (Builtin.append_ #[t, t] o.type #[v, u]).run P w = .ok v' w' ∧ w'.ownsRow 0 e sz v' (m + k) (xs ++ news) ∧ w.grownBy w' v.ownBlock ∧ (v'.ownBlock = v.ownBlock ∨ v'.ownBlock = some w.heap.size) := by
    obtain ⟨hl, hone, ⟨c, rfl, rfl⟩ | ⟨b, off, c, C, te, fr, rfl, hm, hc⟩⟩ := hsrc
    · have : news = [] := List.eq_nil_of_length_eq_zero (by simpa using hl)
      subst this
      exact ⟨v, w, Wk w t o.type e i c E.und hi 0 sz v m xs hown, by simpa using hown, ⟨rfl, rfl, rfl, Nat.le_refl _, fun _ _ _ => rfl⟩, Or.inl rfl⟩
    · obtain ⟨v', w', q1, q2, q3, _, q5⟩ := run_append_own_at w 0 t o.type e i z sz bytes E.und hi hz0 hz1 hz2 E.cells E.pos v m xs hown ⟨b, off, none⟩ k c news hl
       (fun j y hj => by rw [qq]; exact hw.cell (List.mem_append_right _ hm) (hc j y hj)) hone h63 hby (Nat.zero_le _)
      exact ⟨v', w', q1, q2, q3, q5⟩
   obtain ⟨v', w', hrun, q2, q3, q4⟩ := key
   obtain ⟨B', hB, hH⟩ := hrow.after hw q2 q3 q4
   have : (execOp r o).run P w = .ok (.value v') w' := by
    simp [execOp, ho, hr _ _ hs, hr _ _ hx, resolve, invoke, builtin, hrun, Result.andThen]
   rw [this]
   exact ⟨_, ⟨B', hB, rfl⟩, hH⟩⟩
theorem JT {ops : Array Oper} {d : Nat} {s x : Operand} {pos : String} {after : Array Edge} {rest : List Oper} {t e : TypeId} {sz bytes : Nat} {z v u : Value} {m k : Nat} {xs news : List Value} {B : ja} (E : ElemTy P t e sz bytes z)
 (hs : ev ρ s = some v) (hx : ev ρ x = some u) (hrow : Row e sz v m xs B) (hsrc : Src L u k news sz) (h63 : m + k ≤ maxLen) (hby : (m + k) * bytes ≤ 140737488355328) (hd : Nat.blt d n = true)
 (hr : ∀ v' B', Row e sz v' (m + k) (xs ++ news) B' → TL P G ops n ((d, v') :: ρ) (B' ++ L) rest Q) : TL P G ops n ρ (B ++ L) (⟨some d, .call ⟨.builtin .append, #[s, x], #[t, t]⟩, ty, pos, after, none⟩ :: rest) Q :=
 jw (uA E hs hx hrow hsrc h63 hby) hd fun v' _ ⟨B', h1, h2⟩ => h2 ▸ hr v' B' h1
theorem Vw {x lo hi : Operand} {s : List UInt8} {k k' : IntKind} {i j : Int} {t : TypeId} (hx : ev ρ x = some (.string (bs s))) (hlo : ev ρ lo = some (.int k i)) (hhi : ev ρ hi = some (.int k' j)) (ht : P.underlying t = some .string)
 (h0 : 0 ≤ i) (h1 : i ≤ j) (h2 : j ≤ s.length) : OpQ P ρ L (.slice t x (some lo) (some hi) none) ty (.string (bs ((s.take j.toNat).drop i.toNat))) :=
 ⟨fun r hr w hw o ho _ => by
   have e : (bs s).extract i.toNat j.toNat = bs ((s.take j.toNat).drop i.toNat) := by
    apply ByteArray.ext
    rw [ByteArray.data_extract]
    simp [bs, List.extract_eq_take_drop, List.drop_take]
   have h3 : 0 ≤ j := by omega
   have e1 : ((j.toNat : Nat) : Int) = j := by omega
   simp [execOp, ho, hr _ _ hx, hr _ _ hlo, hr _ _ hhi, Instr.sliceAt, run_underlying ht, Instr.slice, Instr.sliceBounds, Instr.sliceBound, asIntOf, h0, h1, h2, h3, e, e1]⟩
theorem Uz {x lo : Operand} {s : List UInt8} {k : IntKind} {i : Int} {t : TypeId} (hx : ev ρ x = some (.string (bs s))) (hlo : ev ρ lo = some (.int k i)) (ht : P.underlying t = some .string)
 (h0 : 0 ≤ i) (h1 : i ≤ s.length) : OpQ P ρ L (.slice t x (some lo) none none) ty (.string (bs (s.drop i.toNat))) :=
 ⟨fun r hr w hw o ho _ => by
   have e : (bs s).extract i.toNat s.length = bs (s.drop i.toNat) := by
    apply ByteArray.ext
    rw [ByteArray.data_extract]
    simp [bs, List.extract_eq_take_drop]
    exact List.take_of_length_le (by simp)
   simp [execOp, ho, hr _ _ hx, hr _ _ hlo, Instr.sliceAt, run_underlying ht, Instr.slice, Instr.sliceBounds, Instr.sliceBound, asIntOf, h0, h1, e]⟩
def qt (P : Program) (f : FuncId) : Bool := match P.funcs[f]? with
 | some fn => !(fn.name == "runtime.NumGoroutine") && !fn.body.isNone
 | none => false
theorem yu {f : FuncId} {args : Array Value} (h : qt P f = true) (w : World) : (callFunc f args).run P w = .ok (.enter f args) w := by
 unfold qt at h
 cases hf : P.funcs[f]? with
 | none => simp [hf] at h
 | some fn =>
   simp only [hf, Bool.and_eq_true, Bool.not_eq_true'] at h
   have h1 : ¬ fn.name = "runtime.NumGoroutine" := by simpa using h.1
   have h2 : ¬ fn.body = none := by intro e; rw [e] at h; simp at h
   simp [callFunc, hf, h1, h2]
def kY (ρ : jG) : List Operand → Option (List Value)
 | [] => some []
 | x :: r => match ev ρ x, kY ρ r with
   | some v, some vs => some (v :: vs)
   | _, _ => none
theorem yv {ρ : jG} {r : Operand → Value} (hr : KD ρ r) : ∀ (l : List Operand) (vs : List Value), kY ρ l = some vs → l.map r = vs
 | [], vs, h => by simp [kY] at h; simp [h]
 | x :: l, vs, h => by
   simp only [kY] at h
   cases h1 : ev ρ x with
   | none => simp [h1] at h
   | some v =>
     cases h2 : kY ρ l with
     | none => simp [h1, h2] at h
     | some us =>
       simp [h1, h2] at h
       subst h
       simp [hr x v h1, yv hr l us h2]
theorem jc {f : FuncId} {xs : List Operand} {ats : Array TypeId} {vs : List Value} {Φ : Value → ja → Prop} (hb : qt P f = true) (ha : kY ρ xs = some vs) (h : Spec P G f vs.toArray L Φ) :
 OpT P G ρ L (.call ⟨.value (.func f), xs.toArray, ats⟩) ty Φ :=
 ⟨fun r hr w hw o ho _ => by
   have hm := yv hr xs vs ha
   have hrf : r (.func f) = .func (.func f) #[] #[] := hr _ _ rfl
   have : execOp r o = callFunc f vs.toArray := by
    simp only [execOp, ho, resolve, hrf, Deferred.ofValue]
    show invoke (.fn (.func f) #[]) _ = _
    simp only [invoke, List.map_toArray, hm]
    simp
   rw [this, yu hb]
   refine (h.out w hw).mono fun e w' ⟨v, L', h1, h2, h3⟩ => ⟨v, h1, L', h2, h3⟩⟩
theorem adi {fn : Func} {a : Act} {ρ : jG} (he : Env n ρ a) (t : Nat) (v : Value) (hr : fn.results = #[.tmp t]) (hv : ρ.lookup t = some v) (w : World) : (results fn a.tmps).run P w = .ok v w := by
 have h1 : a.tmps.getD t undef = v := he.reads (.tmp t) v hv
 simp only [results, hr]
 simp
 simpa using h1
theorem ji {fn : Func} {Φ : Value → ja → Prop} (t : Nat) (v : Value) (hr : fn.results = #[.tmp t]) (hv : ρ.lookup t = some v) (h : Φ v L) : TQ G n ρ L .ret (bodyPost P fn (kE G Φ)) :=
 ⟨fun a w he hw => ⟨he.defers, v, adi he t v hr hv w, v, L, rfl, h, hw⟩⟩
end
section
open Go.RowKit
variable {G : World} {P : Program} {n : Nat} {ρ : jG} {L : ja} {ty : TypeId} {Q : Exit → Act → World → Prop} {ops : Array Oper}
def bindD (dst : Option Nat) (v : Value) (ρ : jG) : jG := match dst with
 | some d => (d, v) :: ρ
 | none => ρ
theorem Env.bindD {a : Act} (h : Env n ρ a) {dst : Option Nat} (hd : ∀ d, dst = some d → d < n) (v : Value) : Env n (bindD dst v ρ) (a.put dst v) := by
 cases dst with
 | none => exact h
 | some d => exact h.put d (hd d rfl) v
def YH (v : Value) (want : Bool) : Option Bool := match v with
 | .bool x => some (x == want)
 | .tuple _ => some false
 | _ => none
def Wants (ops : Array Oper) (ρ : jG) (o : Oper) (b : Bool) : Prop := match o.guard with
 | none => b = true
 | some (j, want) => ∃ dj x, jT ops j = some dj ∧ ρ.lookup dj = some x ∧ YH x want = some b
theorem Wl {o : Oper} {j d : Nat} {b want : Bool} {x : Value} {a : Act} (he : Env n ρ a) (hg : o.guard = some (j, want)) (hs : jT ops j = some d) (hv : ρ.lookup d = some x) (hx : YH x want = some b) : Region.wanted o (yielded ops a.tmps) = b := by
 cases x <;> simp only [YH, Option.some.injEq, reduceCtorEq] at hx
 · subst hx; exact JR he hg hs hv
 · subst hx
   have h1 := he.get d _ hv
   unfold Region.wanted
   rw [hg]
   simp only [jT] at hs
   simp [yielded, hs, h1]
theorem Wants.wanted {o : Oper} {b : Bool} (h : Wants ops ρ o b) {a : Act} (he : Env n ρ a) : Region.wanted o (yielded ops a.tmps) = b := by
 unfold Wants at h
 split at h
 · rename_i hg; subst h; simp [Region.wanted, hg]
 · rename_i j want hg
   obtain ⟨dj, x, h1, h2, h3⟩ := h
   exact Wl he hg h1 h2 h3
def abn (P : Program) (G : World) (ops : Array Oper) (n : Nat) (ρ : jG) (L : ja) (i : Nat) (keep : ja → Prop) (next : jG → ja → Prop) : Prop :=
 ∃ o, ops[i]? = some o ∧ (∀ d, o.dst = some d → d < n) ∧ ∃ b, Wants ops ρ o b ∧
  ((b = true ∧ ∃ Φ, OpT P G ρ L o.op o.type Φ ∧ ∀ v L', Φ v L' → keep L' ∧ next (bindD o.dst v ρ) L') ∨ (b = false ∧ keep L ∧ next (bindD o.dst undef ρ) L))
def TA (P : Program) (G : World) (ops : Array Oper) (n : Nat) (K : ja) (W : List Nat) (Q : Exit → Act → World → Prop) : Nat → Array Bool → jG → ja → Prop
 | 0, listed, ρ, L => Region.ready .any ops listed = [] ∧ TQ G n ρ L .normal Q
 | fuel + 1, listed, ρ, L => (Region.ready .any ops listed = [] → TQ G n ρ L .normal Q) ∧
   ∀ i ∈ Region.ready .any ops listed, abn P G ops n ρ L i (fun L' => i ∈ W ∨ ∀ p ∈ K, p ∈ L') (TA P G ops n K W Q fuel (listed.setIfInBounds i true))
theorem TA.sound {K : ja} {W : List Nat} : ∀ (fuel : Nat) (listed : Array Bool) (ρ : jG) (L : ja), TA P G ops n K W Q fuel listed ρ L → ∀ a w, Env n ρ a → Heap G w L → wpAny P .any ops Q fuel listed a w
 | 0, listed, ρ, L, h, a, w, he, hw => ⟨h.1, h.2.out a w he hw⟩
 | fuel + 1, listed, ρ, L, h, a, w, he, hw => by
   refine ⟨fun h0 => (h.1 h0).out a w he hw, fun i hi => ?_⟩
   obtain ⟨o, ho, hd, b, hb, hs⟩ := h.2 i hi
   unfold wpOp
   simp only [ho, hb.wanted he]
   rcases hs with ⟨rfl, Φ, hO, hn⟩ | ⟨rfl, _, hn⟩
   · rw [if_pos rfl]
     refine Or.inl (hO.wp he hw fun v L' w' h1 h2 => ?_)
     exact TA.sound fuel _ _ _ (hn v L' h1).2 _ _ (he.bindD hd v) h2
   · rw [if_neg (by simp)]
     exact TA.sound fuel _ _ _ hn _ _ (he.bindD hd undef) hw
def aio (Q : Exit → Act → World → Prop) (e : Exit) (a : Act) (w : World) : Prop := Q e a w
theorem jq {id : Nat} (hm : P.follows .mixedOrders = true) (K : ja) (W : List Nat) (h : TA P G ops n K W Q ops.size (Array.replicate ops.size false) ρ L) : T P G n ρ L (.region id ops true) Q :=
 ⟨fun a w he hw => wp_region_any hm (h.sound _ _ _ _ a _ he (hw.same ⟨rfl, rfl, rfl, Nat.le_refl _⟩ rfl))⟩
theorem abo {ρ ρ' : jG} (h : ∀ t, ρ.lookup t = ρ'.lookup t) (x : Operand) : ev ρ x = ev ρ' x := by cases x <;> simp [ev, h]
theorem Jf {ρ ρ' : jG} (h : ∀ t, ρ.lookup t = ρ'.lookup t) (dst : Option Nat) (v : Value) (t : Nat) : (bindD dst v ρ).lookup t = (bindD dst v ρ').lookup t := by
 cases dst with
 | none => exact h t
 | some d => simp only [bindD, List.lookup_cons, h]
theorem TQ.congr {ρ ρ' : jG} (h : ∀ t, ρ.lookup t = ρ'.lookup t) {e : Exit} (k : TQ G n ρ L e Q) : TQ G n ρ' L e Q := ⟨fun a w he hw => k.out a w (he.weak fun t v hv => by rw [← h]; exact hv) hw⟩
theorem TA.congr {K : ja} {W : List Nat} : ∀ (fuel : Nat) (listed : Array Bool) (ρ ρ' : jG) (L : ja), (∀ t, ρ.lookup t = ρ'.lookup t) → TA P G ops n K W Q fuel listed ρ L → TA P G ops n K W Q fuel listed ρ' L
 | 0, _, _, _, _, h, k => ⟨k.1, k.2.congr h⟩
 | fuel + 1, listed, ρ, ρ', L, h, k => by
   refine ⟨fun h0 => (k.1 h0).congr h, fun i hi => ?_⟩
   obtain ⟨o, ho, hd, b, hb, hs⟩ := k.2 i hi
   refine ⟨o, ho, hd, b, ?_, ?_⟩
   · unfold Wants at hb ⊢
     split at hb
     · exact hb
     · obtain ⟨dj, x, h1, h2, h3⟩ := hb
       exact ⟨dj, x, h1, by rw [← h]; exact h2, h3⟩
   · rcases hs with ⟨rfl, Φ, hO, hn⟩ | ⟨rfl, h1, hn⟩
     · refine Or.inl ⟨rfl, Φ, ⟨fun r hr => hO.out r fun x v hv => hr x v (by rw [← abo h]; exact hv)⟩, fun v L' hv => ⟨(hn v L' hv).1, TA.congr fuel _ _ _ _ (Jf h _ v) (hn v L' hv).2⟩⟩
     · exact Or.inr ⟨rfl, h1, TA.congr fuel _ _ _ _ (Jf h _ undef) hn⟩
def YI (ops : Array Oper) : Nat → Nat → Nat → Bool
 | 0, _, _ => false
 | f + 1, j, i => match ops[j]? with
   | none => false
   | some o => o.after.any fun e => Region.binds .any e && (e.on == i || YI ops f e.on i)
def QF (ops : Array Oper) (listed : Array Bool) : Prop := ∀ j o, ops[j]? = some o → listed.getD j false = true → ∀ e ∈ o.after, Region.binds .any e = true → listed.getD e.on false = true
theorem QG {listed : Array Bool} (hc : QF ops listed) (i : Nat) : ∀ (f j : Nat) (o : Oper), ops[j]? = some o → (∀ e ∈ o.after, Region.binds .any e = true → listed.getD e.on false = true) → YI ops f j i = true → listed.getD i false = true
 | 0, _, _, _, _, h => by simp [YI] at h
 | f + 1, j, o, ho, he, h => by
   simp only [YI, ho] at h
   obtain ⟨e, hm, hb⟩ := Array.any_eq_true'.1 h
   simp only [Bool.and_eq_true, Bool.or_eq_true, beq_iff_eq] at hb
   have hl := he e hm hb.1
   rcases hb.2 with rfl | hd
   · exact hl
   · cases hk : ops[e.on]? with
     | none => cases f <;> simp [YI, hk] at hd
     | some ok => exact QG hc i f e.on ok hk (fun e' hm' hb' => hc e.on ok hk hl e' hm' hb') hd
def Quiet (P : Program) (G : World) (ops : Array Oper) (K : ja) (ρ : jG) (o : Oper) (v : Value) : Prop :=
 (Wants ops ρ o true ∧ ∀ L', (∀ p ∈ K, p ∈ L') → OpV P G ρ L' o.op o.type v L') ∨ (Wants ops ρ o false ∧ v = undef)
theorem Wants.apart {o : Oper} {b : Bool} {d : Nat} {u : Value} (h : Wants ops ρ o b) (hn : d ∉ o.looksAt ops) : Wants ops ((d, u) :: ρ) o b := by
 unfold Wants at h ⊢
 split at h
 · exact h
 · rename_i j want hg
   obtain ⟨dj, x, h1, h2, h3⟩ := h
   refine ⟨dj, x, h1, ?_, h3⟩
   have hne : dj ≠ d := fun e => hn (by subst e; unfold Oper.looksAt; rw [hg]; exact List.mem_append_right _ (by unfold jT at h1; simp [h1]))
   rw [List.lookup_cons, show (dj == d) = false by simpa using hne]
   exact h2
theorem Wants.unput {o : Oper} {b : Bool} {d : Nat} {u : Value} (h : Wants ops ((d, u) :: ρ) o b) (hn : d ∉ o.looksAt ops) : Wants ops ρ o b := by
 unfold Wants at h ⊢
 split at h
 · exact h
 · rename_i j want hg
   obtain ⟨dj, x, h1, h2, h3⟩ := h
   refine ⟨dj, x, h1, ?_, h3⟩
   have hne : dj ≠ d := fun e => hn (by subst e; unfold Oper.looksAt; rw [hg]; exact List.mem_append_right _ (by unfold jT at h1; simp [h1]))
   rw [List.lookup_cons, show (dj == d) = false by simpa using hne] at h2
   exact h2
def UA (r : Operand → Value) (d : Nat) (u : Value) : Operand → Value
 | .tmp t => if t = d then u else r (.tmp t)
 | x => r x
theorem ZG {r : Operand → Value} {d : Nat} {u : Value} {x : Operand} (h : x ≠ .tmp d) : UA r d u x = r x := by
 cases x with
 | tmp t =>
   have : t ≠ d := fun e => h (by rw [e])
   simp [UA, this]
 | _ => rfl
theorem ZH {o : Oper} {d : Nat} (hn : d ∉ o.looksAt ops) : ∀ x ∈ o.op.operands, x ≠ .tmp d := fun x hx e => hn (by subst e; exact List.mem_append_left _ (List.mem_filterMap.2 ⟨.tmp d, by simpa using hx, rfl⟩))
theorem OpT.apart {o : Oper} {Φ : Value → ja → Prop} {d : Nat} {u : Value} (hs : ∀ cs b, o.op ≠ .select cs b) (h : OpT P G ρ L o.op o.type Φ) (hn : d ∉ o.looksAt ops) : OpT P G ((d, u) :: ρ) L o.op o.type Φ := by
 refine ⟨fun r hr w hw o' ho ht => ?_⟩
 have h1 := h.out (UA r d ((ρ.lookup d).getD (r (.tmp d)))) (fun x v hv => by
  cases x with
  | tmp t =>
    have hv' : ρ.lookup t = some v := hv
    by_cases e : t = d
    · subst e; simp [UA, hv']
    · simp only [UA, e, if_false]
      refine hr (.tmp t) v ?_
      show List.lookup t ((d, u) :: ρ) = some v
      rw [List.lookup_cons, show (t == d) = false by simpa using e]
      exact hv'
  | const c => exact hr _ v hv
  | global g => exact hr _ v hv
  | func f => exact hr _ v hv) w hw o' ho ht
 rw [execOp_congr (ρ := r) (ρ' := UA r d ((ρ.lookup d).getD (r (.tmp d)))) o' (by rw [ho]; exact hs) (fun x hx => by rw [ho] at hx; rw [ZG (ZH hn x hx)])]
 exact h1
theorem OpT.unput {o : Oper} {Φ : Value → ja → Prop} {d : Nat} {u : Value} (hs : ∀ cs b, o.op ≠ .select cs b) (h : OpT P G ((d, u) :: ρ) L o.op o.type Φ) (hn : d ∉ o.looksAt ops) : OpT P G ρ L o.op o.type Φ := by
 refine ⟨fun r hr w hw o' ho ht => ?_⟩
 have h1 := h.out (UA r d u) (fun x v hv => by
  cases x with
  | tmp t =>
    have hv' : List.lookup t ((d, u) :: ρ) = some v := hv
    rw [List.lookup_cons] at hv'
    by_cases e : t = d
    · subst e
      simp at hv'
      simp [UA, hv']
    · rw [show (t == d) = false by simpa using e] at hv'
      simp only [UA, e, if_false]
      exact hr (.tmp t) v hv'
  | const c => exact hr _ v hv
  | global g => exact hr _ v hv
  | func f => exact hr _ v hv) w hw o' ho ht
 rw [execOp_congr (ρ := r) (ρ' := UA r d u) o' (by rw [ho]; exact hs) (fun x hx => by rw [ho] at hx; rw [ZG (ZH hn x hx)])]
 exact h1
theorem Quiet.apart {K : ja} {o : Oper} {v : Value} {dst : Option Nat} {u : Value} (hs : ∀ cs b, o.op ≠ .select cs b) (h : Quiet P G ops K ρ o v) (hn : ∀ d, dst = some d → d ∉ o.looksAt ops) : Quiet P G ops K (bindD dst u ρ) o v := by
 cases dst with
 | none => exact h
 | some d =>
   rcases h with ⟨h1, h2⟩ | ⟨h1, h2⟩
   · exact Or.inl ⟨h1.apart (hn d rfl), fun L' hK => (h2 L' hK).apart hs (hn d rfl)⟩
   · exact Or.inr ⟨h1.apart (hn d rfl), h2⟩
theorem YJ {listed : Array Bool} {j : Nat} {oj : Oper} (hc : QF ops listed) (hoj : ops[j]? = some oj) (hall : ∀ e ∈ oj.after, Region.binds .any e = true → listed.getD e.on false = true) : QF ops (listed.setIfInBounds j true) := by
 have up : ∀ k, listed.getD k false = true → (listed.setIfInBounds j true).getD k false = true := fun k hk => by
  by_cases e : j = k
  · subst e
    by_cases hl : j < listed.size
    · simp [Array.getD_eq_getD_getElem?, hl]
    · simp [Array.getD_eq_getD_getElem?, Array.getElem?_eq_none (Nat.le_of_not_lt hl)] at hk
  · rw [Array.getD_eq_getD_getElem?, Array.getElem?_setIfInBounds_ne e, ← Array.getD_eq_getD_getElem?]
    exact hk
 intro k o hk hl e he hb
 by_cases ek : j = k
 · subst ek
   rw [hoj] at hk
   cases hk
   exact up _ (hall e he hb)
 · rw [Array.getD_eq_getD_getElem?, Array.getElem?_setIfInBounds_ne ek, ← Array.getD_eq_getD_getElem?] at hl
   exact up _ (hc k o hk hl e he hb)
theorem abp {K : ja} {W : List Nat} {i : Nat} {oi : Oper} {v : Value} (hi : ops[i]? = some oi) (hd : ∀ d, oi.dst = some d → d < n) (hsel : ∀ (j : Nat) (o : Oper) cs b, ops[j]? = some o → o.op ≠ .select cs b)
 (hW : ∀ j ∈ W, j ≠ i → YI ops ops.size j i = true) :
 ∀ (fuel : Nat) (listed : Array Bool) (ρ : jG) (L : ja), QF ops listed →
  (∀ j oj, ops[j]? = some oj → j ≠ i → listed.getD j true = false → (∀ e ∈ oj.after, Region.binds .any e = true → e.on ≠ i) → oi.apart ops oj = true) →
  i ∈ Region.ready .any ops listed → Quiet P G ops K ρ oi v → (∀ p ∈ K, p ∈ L) →
  TA P G ops n K W Q fuel (listed.setIfInBounds i true) (bindD oi.dst v ρ) L → TA P G ops n K W Q (fuel + 1) listed ρ L := by
 have own : ∀ (fuel : Nat) (listed : Array Bool) (ρ : jG) (L : ja), Quiet P G ops K ρ oi v → (∀ p ∈ K, p ∈ L) → TA P G ops n K W Q fuel (listed.setIfInBounds i true) (bindD oi.dst v ρ) L →
  abn P G ops n ρ L i (fun L' => i ∈ W ∨ ∀ p ∈ K, p ∈ L') (TA P G ops n K W Q fuel (listed.setIfInBounds i true)) := by
  intro fuel listed ρ L hq hK H
  rcases hq with ⟨h1, h2⟩ | ⟨h1, rfl⟩
  · refine ⟨oi, hi, hd, true, h1, Or.inl ⟨rfl, _, h2 L hK, ?_⟩⟩
    rintro _ _ ⟨rfl, rfl⟩
    exact ⟨Or.inr hK, H⟩
  · exact ⟨oi, hi, hd, false, h1, Or.inr ⟨rfl, Or.inr hK, H⟩⟩
 intro fuel
 induction fuel with
 | zero =>
   intro listed ρ L _ _ hr hq hK H
   refine ⟨fun h => (by rw [h] at hr; cases hr), fun j hj => ?_⟩
   by_cases hji : j = i
   · subst hji; exact own 0 listed ρ L hq hK H
   · have := ready_mono hj hji
     rw [H.1] at this
     cases this
 | succ fuel ih =>
   intro listed ρ L hc hfree hr hq hK H
   refine ⟨fun h => (by rw [h] at hr; cases hr), fun j hj => ?_⟩
   by_cases hji : j = i
   · subst hji; exact own _ listed ρ L hq hK H
   · obtain ⟨oj', hoj', hdj, b, hb, hs⟩ := H.2 j (ready_mono hj hji)
     obtain ⟨hjun, oj, hoj, hall0⟩ := mem_ready.1 hj
     have heq := Option.some.inj (hoj.symm.trans hoj')
     subst heq
     have hall : ∀ e ∈ oj.after, Region.binds .any e = true → listed.getD e.on false = true := fun e he hb => hall0 e he hb
     have hiun : listed.getD i false = false := by
      have h0 := (mem_ready.1 hr).1
      rcases Nat.lt_or_ge i listed.size with h' | h'
      · simp [h'] at h0 ⊢; exact h0
      · simp [Array.getElem?_eq_none h']
     have hnot : ∀ e ∈ oj.after, Region.binds .any e = true → e.on ≠ i := fun e he hb heq => by
      have h1 := hall e he hb
      rw [heq, hiun] at h1
      cases h1
     have hjW : j ∉ W := fun hjW => by
      have := QG hc i ops.size j oj hoj hall (hW j hjW hji)
      rw [hiun] at this
      cases this
     have hap := hfree j oj hoj hji hjun hnot
     obtain ⟨a1, a2, a3⟩ := Oper.apart_spec hap
     have hfree' : ∀ k ok, ops[k]? = some ok → k ≠ i → (listed.setIfInBounds j true).getD k true = false →
      (∀ e ∈ ok.after, Region.binds .any e = true → e.on ≠ i) → oi.apart ops ok = true := fun k ok hk hki hun hno => by
      refine hfree k ok hk hki ?_ hno
      by_cases hjk : j = k
      · subst hjk; exact hjun
      · rw [getD_set_ne true hjk] at hun; exact hun
     have hc' := YJ hc hoj hall
     have swap : ∀ (u : Value) (t : Nat), (bindD oj.dst u (bindD oi.dst v ρ)).lookup t = (bindD oi.dst v (bindD oj.dst u ρ)).lookup t := by
      intro u t
      cases h1 : oi.dst with
      | none => rfl
      | some d1 =>
        cases h2 : oj.dst with
        | none => rfl
        | some d2 =>
          have hne : d1 ≠ d2 := fun e => a2 d1 h1 (by rw [h2, e])
          simp only [bindD, List.lookup_cons]
          by_cases e1 : t = d1
          · subst e1
            rw [show (t == d2) = false by simpa using hne]
          · rw [show (t == d1) = false by simpa using e1]
     have hwant : Wants ops ρ oj b := by
      cases h1 : oi.dst with
      | none => rw [h1] at hb; exact hb
      | some d1 => rw [h1] at hb; exact Wants.unput hb (a1 d1 h1)
     refine ⟨oj, hoj, hdj, b, hwant, ?_⟩
     rcases hs with ⟨rfl, Φ, hO, hn⟩ | ⟨rfl, hkp, hn⟩
     · refine Or.inl ⟨rfl, Φ, ?_, fun u L' hu => ?_⟩
       · cases h1 : oi.dst with
         | none => rw [h1] at hO; exact hO
         | some d1 => rw [h1] at hO; exact OpT.unput (fun cs b => hsel j oj cs b hoj) hO (a1 d1 h1)
       · obtain ⟨k1, k2⟩ := hn u L' hu
         have hK' : ∀ p ∈ K, p ∈ L' := k1.resolve_left hjW
         refine ⟨Or.inr hK', ih (listed.setIfInBounds j true) _ L' hc' hfree' (ready_mono hr (Ne.symm hji)) (hq.apart (fun cs b => hsel i oi cs b hi) a3) hK' ?_⟩
         rw [Array.setIfInBounds_comm _ _ (Ne.symm hji)] at k2
         exact k2.congr _ _ _ _ _ (swap u)
     · refine Or.inr ⟨rfl, Or.inr hK, ih (listed.setIfInBounds j true) _ L hc' hfree' (ready_mono hr (Ne.symm hji)) (hq.apart (fun cs b => hsel i oi cs b hi) a3) hK ?_⟩
       rw [Array.setIfInBounds_comm _ _ (Ne.symm hji)] at hn
       exact hn.congr _ _ _ _ _ (swap undef)
def Wm (ops : Array Oper) (W : List Nat) (n : Nat) (listed : Array Bool) (i d : Nat) : Bool :=
 Region.noSelect ops && Region.free .any ops listed i && (Region.ready .any ops listed).contains i && (W.all fun j => j == i || YI ops ops.size j i) && Nat.blt d n &&
 ((List.range ops.size).all fun j => match ops[j]? with
   | some o => !listed.getD j false || o.after.all fun e => !Region.binds .any e || listed.getD e.on false
   | none => true)
theorem Vx {listed : Array Bool} (h : ((List.range ops.size).all fun j => match ops[j]? with
 | some o => !listed.getD j false || o.after.all fun e => !Region.binds .any e || listed.getD e.on false
 | none => true) = true) : QF ops listed := by
 intro j o ho hl e he hb
 have h1 := List.all_eq_true.1 h j (List.mem_range.2 (Array.getElem?_eq_some_iff.1 ho).1)
 simp only [ho, hl, Bool.not_true, Bool.false_or] at h1
 have h2 := Array.all_eq_true'.1 h1 e he
 simpa [hb] using h2
theorem jp {K : ja} {W : List Nat} {fuel : Nat} {listed : Array Bool} (i : Nat) {d : Nat} {oi : Oper} {v : Value} (hi : ops[i]? = some oi) (hd : oi.dst = some d) (ht : Wm ops W n listed i d = true)
 (hq : Quiet P G ops K ρ oi v) (hK : ∀ p ∈ K, p ∈ L) (h : TA P G ops n K W Q fuel (listed.setIfInBounds i true) ((d, v) :: ρ) L) : TA P G ops n K W Q (fuel + 1) listed ρ L := by
 simp only [Wm, Bool.and_eq_true] at ht
 obtain ⟨⟨⟨⟨⟨h1, h2⟩, h3⟩, h4⟩, h5⟩, h6⟩ := ht
 refine abp hi (fun d' e => by rw [hd] at e; cases e; simpa using h5) (Region.noSelect_spec h1) (fun j hj hne => ?_) fuel listed ρ L (Vx h6) (Region.free_spec hi h2) (by simpa using h3) hq hK (by rw [hd]; exact h)
 have := List.all_eq_true.1 h4 j hj
 simpa [hne] using this
theorem jL {K : ja} {d : Option Nat} {op : Op} {v : Value} {pos : String} {after : Array Edge} (h : OpQ P ρ K op ty v) : Quiet P G ops K ρ ⟨d, op, ty, pos, after, none⟩ v :=
 Or.inl ⟨rfl, fun L' hK => .pure fun r hr w hw o ho ht => h.out r hr w ⟨fun p hp => hw.get p (hK p hp)⟩ o ho ht⟩
theorem adj {K : ja} {d : Option Nat} {op : Op} {v : Value} {pos : String} {after : Array Edge} {j dj : Nat} {want : Bool} (hs : jT ops j = some dj) (hv : ρ.lookup dj = some (.bool want)) (h : OpQ P ρ K op ty v) : Quiet P G ops K ρ ⟨d, op, ty, pos, after, some (j, want)⟩ v :=
 Or.inl ⟨⟨dj, _, hs, hv, by simp [YH]⟩, fun L' hK => .pure fun r hr w hw o ho ht => h.out r hr w ⟨fun p hp => hw.get p (hK p hp)⟩ o ho ht⟩
theorem abq {K : ja} {d : Option Nat} {op : Op} {pos : String} {after : Array Edge} {j dj : Nat} {want : Bool} (hs : jT ops j = some dj) (hv : ρ.lookup dj = some (.bool !want)) : Quiet P G ops K ρ ⟨d, op, ty, pos, after, some (j, want)⟩ undef :=
 Or.inr ⟨⟨dj, _, hs, hv, by cases want <;> rfl⟩, rfl⟩
theorem Wn {K : ja} {d : Option Nat} {op : Op} {pos : String} {after : Array Edge} {j dj : Nat} {want : Bool} (hs : jT ops j = some dj) (hv : ρ.lookup dj = some undef) : Quiet P G ops K ρ ⟨d, op, ty, pos, after, some (j, want)⟩ undef :=
 Or.inr ⟨⟨dj, _, hs, hv, rfl⟩, rfl⟩
theorem jV {K : ja} {d : Option Nat} {f : FuncId} {xs : List Operand} {ats : Array TypeId} {vs : List Value} {v : Value} {pos : String} {after : Array Edge} (hb : qt P f = true) (ha : kY ρ xs = some vs)
 (h : ∀ L', (∀ p ∈ K, p ∈ L') → Spec P G f vs.toArray L' fun u M => u = v ∧ M = L') : Quiet P G ops K ρ ⟨d, .call ⟨.value (.func f), xs.toArray, ats⟩, ty, pos, after, none⟩ v :=
 Or.inl ⟨rfl, fun L' hK => jc hb ha (h L' hK)⟩
theorem Wo {K : ja} {d : Option Nat} {f : FuncId} {xs : List Operand} {ats : Array TypeId} {vs : List Value} {v : Value} {pos : String} {after : Array Edge} {j dj : Nat} {want : Bool} (hs : jT ops j = some dj) (hv : ρ.lookup dj = some (.bool want)) (hb : qt P f = true) (ha : kY ρ xs = some vs)
 (h : ∀ L', (∀ p ∈ K, p ∈ L') → Spec P G f vs.toArray L' fun u M => u = v ∧ M = L') : Quiet P G ops K ρ ⟨d, .call ⟨.value (.func f), xs.toArray, ats⟩, ty, pos, after, some (j, want)⟩ v :=
 Or.inl ⟨⟨dj, _, hs, hv, by simp [YH]⟩, fun L' hK => jc hb ha (h L' hK)⟩
theorem abr {K : ja} {W : List Nat} {fuel : Nat} {listed : Array Bool} (i : Nat) {oi : Oper} {Φ : Value → ja → Prop} (hr : Region.ready .any ops listed = [i]) (hi : ops[i]? = some oi) (hd : (oi.dst.all fun d => Nat.blt d n) = true) (hg : oi.guard = none)
 (hO : OpT P G ρ L oi.op oi.type Φ) (h : ∀ v L', Φ v L' → (i ∈ W ∨ ∀ p ∈ K, p ∈ L') ∧ TA P G ops n K W Q fuel (listed.setIfInBounds i true) (bindD oi.dst v ρ) L') : TA P G ops n K W Q (fuel + 1) listed ρ L := by
 refine ⟨fun h0 => (by rw [hr] at h0; cases h0), fun j hj => ?_⟩
 rw [hr] at hj
 obtain rfl : j = i := by simpa using hj
 exact ⟨oi, hi, fun d e => by rw [e] at hd; simpa using hd, true, by unfold Wants; rw [hg], Or.inl ⟨rfl, Φ, hO, h⟩⟩
def Up (P : Program) (G : World) (ops : Array Oper) (n : Nat) (K : ja) (W : List Nat) (Q : Exit → Act → World → Prop) (fuel : Nat) (listed : Array Bool) (ρ : jG) (L : ja) (i : Nat) : Prop :=
 abn P G ops n ρ L i (fun L' => i ∈ W ∨ ∀ p ∈ K, p ∈ L') (TA P G ops n K W Q fuel (listed.setIfInBounds i true))
theorem JU {K : ja} {W : List Nat} {fuel : Nat} {listed : Array Bool} (i j : Nat) (hr : Region.ready .any ops listed = [i, j]) (h1 : Up P G ops n K W Q fuel listed ρ L i) (h2 : Up P G ops n K W Q fuel listed ρ L j) : TA P G ops n K W Q (fuel + 1) listed ρ L := by
 refine ⟨fun h0 => (by rw [hr] at h0; cases h0), fun k hk => ?_⟩
 rw [hr] at hk
 simp at hk
 rcases hk with rfl | rfl
 · exact h1
 · exact h2
theorem agU {K : ja} {W : List Nat} {fuel : Nat} {listed : Array Bool} {i : Nat} {oi : Oper} {Φ : Value → ja → Prop} (hi : ops[i]? = some oi) (hd : (oi.dst.all fun d => Nat.blt d n) = true) (hg : oi.guard = none)
 (hO : OpT P G ρ L oi.op oi.type Φ) (h : ∀ v L', Φ v L' → (i ∈ W ∨ ∀ p ∈ K, p ∈ L') ∧ TA P G ops n K W Q fuel (listed.setIfInBounds i true) (bindD oi.dst v ρ) L') : Up P G ops n K W Q fuel listed ρ L i :=
 ⟨oi, hi, fun d e => by rw [e] at hd; simpa using hd, true, by unfold Wants; rw [hg], Or.inl ⟨rfl, Φ, hO, h⟩⟩
theorem Qq {K : ja} {W : List Nat} {fuel : Nat} {listed : Array Bool} (hr : Region.ready .any ops listed = []) (h : TQ G n ρ L .normal Q) : TA P G ops n K W Q fuel listed ρ L := by
 cases fuel with
 | zero => exact ⟨hr, h⟩
 | succ f => exact ⟨fun _ => h, by rw [hr]; simp⟩
theorem jF {K : ja} {W : List Nat} {fuel : Nat} {listed : Array Bool} (i : Nat) {d : Nat} {oi : Oper} {Φ : Value → ja → Prop} (hr : Region.ready .any ops listed = [i]) (hi : ops[i]? = some oi) (hd : oi.dst = some d) (hdn : Nat.blt d n = true) (hg : oi.guard = none)
 (hO : OpT P G ρ L oi.op oi.type Φ) (h : ∀ v L', Φ v L' → (i ∈ W ∨ ∀ p ∈ K, p ∈ L') ∧ TA P G ops n K W Q fuel (listed.setIfInBounds i true) ((d, v) :: ρ) L') : TA P G ops n K W Q (fuel + 1) listed ρ L :=
 abr i hr hi (by rw [hd]; exact hdn) hg hO (by rw [hd]; exact h)
theorem jZ {K : ja} {W : List Nat} {fuel : Nat} {listed : Array Bool} (i : Nat) {oi : Oper} {Φ : Value → ja → Prop} (hr : Region.ready .any ops listed = [i]) (hi : ops[i]? = some oi) (hd : oi.dst = none) (hg : oi.guard = none)
 (hO : OpT P G ρ L oi.op oi.type Φ) (h : ∀ v L', Φ v L' → (i ∈ W ∨ ∀ p ∈ K, p ∈ L') ∧ TA P G ops n K W Q fuel (listed.setIfInBounds i true) ρ L') : TA P G ops n K W Q (fuel + 1) listed ρ L :=
 abr i hr hi (by rw [hd]; rfl) hg hO (by rw [hd]; exact h)
theorem Vy {K : ja} {W : List Nat} {L' : ja} : ∀ {fuel : Nat} {listed : Array Bool} {ρ : jG}, (hl : ∀ w, Heap G w L → Heap G w L') → (hk : (∀ p ∈ K, p ∈ L') → ∀ p ∈ K, p ∈ L) → TA P G ops n K W Q fuel listed ρ L' → TA P G ops n K W Q fuel listed ρ L
 | 0, _, _, hl, _, h => ⟨h.1, ju hl h.2⟩
 | fuel + 1, listed, ρ, hl, hk, h => by
   refine ⟨fun h0 => ju hl (h.1 h0), fun i hi => ?_⟩
   obtain ⟨o, ho, hd, b, hb, hs⟩ := h.2 i hi
   refine ⟨o, ho, hd, b, hb, ?_⟩
   rcases hs with ⟨rfl, Φ, hO, hn⟩ | ⟨rfl, h1, hn⟩
   · exact Or.inl ⟨rfl, Φ, ⟨fun r hr w hw => hO.out r hr w (hl w hw)⟩, hn⟩
   · exact Or.inr ⟨rfl, h1.imp id hk, Vy hl hk hn⟩
theorem kd {K : ja} {d : Option Nat} {op : Op} {v : Value} {pos : String} {after : Array Edge} {j dj : Nat} {want b : Bool} (hs : jT ops j = some dj) (hv : ρ.lookup dj = some (.bool b)) (hb : b = want) (h : OpQ P ρ K op ty v) : Quiet P G ops K ρ ⟨d, op, ty, pos, after, some (j, want)⟩ v := adj hs (hb ▸ hv) h
theorem kx {K : ja} {d : Option Nat} {op : Op} {pos : String} {after : Array Edge} {j dj : Nat} {want b : Bool} (hs : jT ops j = some dj) (hv : ρ.lookup dj = some (.bool b)) (hb : b = !want) : Quiet P G ops K ρ ⟨d, op, ty, pos, after, some (j, want)⟩ undef := abq hs (hb ▸ hv)
theorem kt {K : ja} {d : Option Nat} {f : FuncId} {xs : List Operand} {ats : Array TypeId} {vs : List Value} {v : Value} {pos : String} {after : Array Edge} {j dj : Nat} {want b : Bool} (hs : jT ops j = some dj) (hv : ρ.lookup dj = some (.bool b)) (hb : b = want) (hf : qt P f = true) (ha : kY ρ xs = some vs)
 (h : ∀ L', (∀ p ∈ K, p ∈ L') → Spec P G f vs.toArray L' fun u M => u = v ∧ M = L') : Quiet P G ops K ρ ⟨d, .call ⟨.value (.func f), xs.toArray, ats⟩, ty, pos, after, some (j, want)⟩ v := Wo hs (hb ▸ hv) hf ha h
end
section
open Go.RowKit
variable {G : World} {P : Program} {n : Nat} {ρ : jG} {L : ja} {ty : TypeId} {Q : Exit → Act → World → Prop}
def Sub : jG → jG → Prop
 | [], _ => True
 | (t, v) :: r, ρ => ρ.lookup t = some v ∧ Sub r ρ
theorem Sub.get : ∀ {a b : jG}, Sub a b → ∀ t v, a.lookup t = some v → b.lookup t = some v
 | [], _, _, t, v, h => by simp at h
 | (s, u) :: r, b, h, t, v, hv => by
   rw [List.lookup_cons] at hv
   by_cases e : t = s
   · subst e; simp at hv; subst hv; exact h.1
   · rw [show (t == s) = false by simpa using e] at hv
     exact Sub.get h.2 t v hv
theorem jy {σ : Type} {c : Code} (I : σ → Prop) (ρI : σ → jG) (LI : σ → ja) (μ : σ → Nat) (x0 : σ) (h0 : I x0) (hs : Sub (ρI x0) ρ) (hl : ∀ w, Heap G w L → Heap G w (LI x0))
 (round : ∀ x, I x → T P G n (ρI x) (LI x) c (Exit.then (yq G n I ρI LI μ (μ x)) Q)) : T P G n ρ L (.loop c) Q := aeL I ρI LI μ x0 h0 hs.get hl round
theorem jh {σ : Type} {I : σ → Prop} {ρI : σ → jG} {LI : σ → ja} {μ : σ → Nat} {m : Nat} (x : σ) (hI : I x) (hs : Sub (ρI x) ρ) (hl : ∀ w, Heap G w L → Heap G w (LI x)) (hm : μ x < m) :
 TQ G n ρ L .normal (Exit.then (yq G n I ρI LI μ m) Q) := abc x hI hs.get hl hm
theorem Wp {c : Code} (ρ' : jG) (L' : ja) (hs : Sub ρ' ρ) (hl : ∀ w, Heap G w L → Heap G w L') (h : T P G n ρ' L' c Q) : T P G n ρ L c Q := aeJ ρ' hs.get hl h
theorem Jg {c : Operand} {x y : Code} {b : Bool} (hc : ev ρ c = some (.bool b)) (hb : b = true) (h : T P G n ρ L x Q) : T P G n ρ L (.cond c x y) Q := aeI (hb ▸ hc) h
theorem Vz {c : Operand} {x y : Code} {b : Bool} (hc : ev ρ c = some (.bool b)) (hb : b = false) (h : T P G n ρ L y Q) : T P G n ρ L (.cond c x y) Q := ac1 (hb ▸ hc) h
theorem yW {ops : Array Oper} {d j dj : Nat} {op : Op} {pos : String} {after : Array Edge} {rest : List Oper} {want b : Bool}
 (hs : jT ops j = some dj) (hv : ρ.lookup dj = some (.bool b)) (hb : b = !want) (hd : Nat.blt d n = true) (hr : TL P G ops n ((d, undef) :: ρ) L rest Q) : TL P G ops n ρ L (⟨some d, op, ty, pos, after, some (j, want)⟩ :: rest) Q :=
 ac3 hs (hb ▸ hv) hd hr
structure TG (P : Program) (G : World) (ops : Array Oper) (n : Nat) (ρ : jG) (L : ja) (d : Nat) (op : Op) (ty : TypeId) (rest : List Oper) (Q : Exit → Act → World → Prop) : Prop where
 out : ∀ pos after j want dj, jT ops j = some dj → ρ.lookup dj = some (.bool want) → TL P G ops n ρ L (⟨some d, op, ty, pos, after, some (j, want)⟩ :: rest) Q
theorem ql {ops : Array Oper} {d j dj : Nat} {op : Op} {pos : String} {after : Array Edge} {rest : List Oper} {want b : Bool}
 (hs : jT ops j = some dj) (hv : ρ.lookup dj = some (.bool b)) (hb : b = want) (h : TG P G ops n ρ L d op ty rest Q) : TL P G ops n ρ L (⟨some d, op, ty, pos, after, some (j, want)⟩ :: rest) Q := h.out pos after j want dj hs (hb ▸ hv)
theorem jN {ops : Array Oper} {d : Nat} {op : Op} {rest : List Oper} {v : Value} (h : OpQ P ρ L op ty v) (hd : Nat.blt d n = true) (hr : TL P G ops n ((d, v) :: ρ) L rest Q) : TG P G ops n ρ L d op ty rest Q :=
 ⟨fun pos after j want dj hs hv => agT hs hv h hd hr⟩
theorem uH {ops : Array Oper} {d : Nat} {op : Op} {rest : List Oper} {Φ : Value → ja → Prop} (h : OpT P G ρ L op ty Φ) (hd : Nat.blt d n = true) (hr : ∀ v L', Φ v L' → TL P G ops n ((d, v) :: ρ) L' rest Q) : TG P G ops n ρ L d op ty rest Q :=
 ⟨fun pos after j want dj hs hv => aez hs hv h hd hr⟩
theorem aeM {x : Operand} {t : TypeId} {k : IntKind} {a : Int} (hx : ev ρ x = some (.int k a)) (h : InK k (-a)) : OpQ P ρ L (.unOp .neg t x) ty (.int k (-a)) :=
 ⟨fun r hr w hw o ho _ => by
   have h' : k.wrap (0 - a) = -a := by rw [show (0 : Int) - a = -a by omega]; exact zz h
   simp only [execOp, ho, hr _ _ hx, Op.unary, Op.intArith, h']
   rfl⟩
theorem kf {ops : Array Oper} {d : Nat} {op : Op} {rest : List Oper} {v : Value} {L' : ja} (h : OpV P G ρ L op ty v L') (hd : Nat.blt d n = true) (hr : TL P G ops n ((d, v) :: ρ) L' rest Q) : TG P G ops n ρ L d op ty rest Q :=
 uH h hd fun _ _ ⟨h1, h2⟩ => h1 ▸ h2 ▸ hr
theorem kA {c a b : Operand} {t : Bool} {v : Value} (hc : ev ρ c = some (.bool t)) (ht : t = true) (hv : ev ρ a = some v) : OpQ P ρ L (.pick c a b) ty v := by subst ht; exact ZE hc hv
theorem ku {c a b : Operand} {t : Bool} {v : Value} (hc : ev ρ c = some (.bool t)) (ht : t = false) (hv : ev ρ b = some v) : OpQ P ρ L (.pick c a b) ty v := by subst ht; exact ZE hc hv
def Jh (P : Program) (t : TypeId) : Bool := match P.underlying t with
 | some d => UL d
 | none => false
def Ji (P : Program) (t : TypeId) : Bool := match P.info? t with
 | some i => Nat.beq i.size 1
 | none => false
def Jj (P : Program) (s f : Nat) : Option Nat := match P.underlying s with
 | some (.struct fs) => match fs[f]? with
   | some fi => match P.info? fi.type with
     | some ti => if Nat.beq ti.size 0 then none else some fi.offset
     | none => none
   | none => none
 | _ => none
theorem ui {x : Operand} {b off s f fo : Nat} (hx : ev ρ x = some (.pointer (some ⟨b, off, none⟩))) (h : Jj P s f = some fo) : OpQ P ρ L (.fieldAddr s x f) ty (.pointer (some ⟨b, off + fo, none⟩)) := by
 unfold Jj at h
 cases h1 : P.underlying s with
 | none => simp [h1] at h
 | some d =>
   cases d <;> simp [h1] at h
   rename_i fs
   cases h2 : fs[f]? with
   | none => simp [h2] at h
   | some fi =>
     cases h3 : P.info? fi.type with
     | none => simp [h2, h3] at h
     | some ti =>
       simp [h2, h3] at h
       exact Vv hx h1 h2 h3 (by cases hb : Nat.beq ti.size 0; rfl; simp [Nat.eq_of_beq_eq_true hb] at h) h.2
theorem Wq {x : Operand} {b off : Nat} {t : TypeId} {C : Array Value} {te : TypeId} {fr : Nat × Nat} {v : Value} (hx : ev ρ x = some (.pointer (some ⟨b, off, none⟩)))
 (ht : Jh P t = true) (hm : (b, Obj.cells C te fr) ∈ L) (hv : C[off]? = some v) : OpQ P ρ L (.load t x) ty v := by
 unfold Jh at ht
 cases h1 : P.underlying t with
 | none => simp [h1] at ht
 | some d => simp [h1] at ht; exact adf hx h1 ht hm hv
theorem ul {x y : Operand} {b off : Nat} {t : TypeId} {C C' : Array Value} {te : TypeId} {v u : Value} (hx : ev ρ x = some (.pointer (some ⟨b, off, none⟩))) (hy : ev ρ y = some v)
 (h1 : Ji P t = true) (hone : v.oneCell' = true) (hv : C[off]? = some u) (hC : C.setIfInBounds off v = C') : OpV P G ρ ((b, Obj.cells C te (0, 0)) :: L) (.store t x y) ty undef ((b, Obj.cells C' te (0, 0)) :: L) := by
 unfold Ji at h1
 cases h2 : P.info? t with
 | none => simp [h2] at h1
 | some ti => simp [h2] at h1; exact hC ▸ abm hx hy h2 h1 hone hv
theorem qG {ops : Array Oper} {x y : Operand} {pos : String} {after : Array Edge} {rest : List Oper} {b off : Nat} {t : TypeId} {C C' : Array Value} {te : TypeId} {v u : Value} (hx : ev ρ x = some (.pointer (some ⟨b, off, none⟩))) (hy : ev ρ y = some v)
 (h1 : Ji P t = true) (hone : v.oneCell' = true) (hv : C[off]? = some u) (hC : C.setIfInBounds off v = C') (h : TL P G ops n ρ ((b, Obj.cells C' te (0, 0)) :: L) rest Q) :
 TL P G ops n ρ ((b, Obj.cells C te (0, 0)) :: L) (⟨none, .store t x y, ty, pos, after, none⟩ :: rest) Q := QE (ul hx hy h1 hone hv hC) h
theorem aeN {x y : Operand} {b off m c sz bytes k : Nat} {t e : TypeId} {z : Value} (E : ElemTy P t e sz bytes z) (hx : ev ρ x = some (.slice (some ⟨b, off, none⟩) m c)) (hy : ev ρ y = some (.int .i64 (k : Nat))) (h1 : k < m) :
 OpQ P ρ L (.indexAddr t x y) ty (.pointer (some ⟨b, off + k * sz, none⟩)) := by
 obtain ⟨i, h2, h3, h4, h5⟩ := E.info
 have := yr (P := P) (ρ := ρ) (L := L) (ty := ty) hx hy E.und h2 h4 (by omega) (by omega)
 simpa using this
theorem adk {x y : Operand} {b off m c sz bytes : Nat} {i : Int} {t e : TypeId} {z : Value} (E : ElemTy P t e sz bytes z) (hx : ev ρ x = some (.slice (some ⟨b, off, none⟩) m c)) (hy : ev ρ y = some (.int .i64 i)) (h0 : 0 ≤ i) (h1 : i < m) :
 OpQ P ρ L (.indexAddr t x y) ty (.pointer (some ⟨b, off + i.toNat * sz, none⟩)) := by
 obtain ⟨ti, h2, h3, h4, h5⟩ := E.info
 exact yr hx hy E.und h2 h4 h0 h1
theorem Qr {t e : TypeId} {x : Operand} {bytes : Nat} {z v : Value} (E : ElemTy P t e 1 bytes z) (hx : ev ρ x = some v) (hone : v.oneCell' = true) :
 OpNew P G ρ L (.buildSlice t 1 #[(0, x)]) ty (fun b => .slice (some ⟨b, 0, none⟩) 1 1) (.cells #[v] e (0, 0)) := by
 obtain ⟨i, h2, h3, h4, h5⟩ := E.info
 exact kr (ps := [(0, x)]) (vs := [(0, v)]) (by simp [ur, hx]) (adg E.und h2 h4 h3 E.cells hone)
theorem yw {t e : TypeId} {bytes sz : Nat} {z : Value} (E : ElemTy P t e sz bytes z) : OpNew P G ρ L (.buildSlice t 0 #[]) ty (fun b => .slice (some ⟨b, 0, none⟩) 0 0) (.cells #[] e (0, 0)) := by
 obtain ⟨i, h2, h3, h4, h5⟩ := E.info
 exact kr (ps := []) (vs := []) rfl (adh E.und h2)
theorem adl {t e : TypeId} {x y : Operand} {sz bytes : Nat} {z : Value} {k k' : IntKind} {l c : Int} {C : Array Value} (E : ElemTy P t e sz bytes z) (hx : ev ρ x = some (.int k l)) (hy : ev ρ y = some (.int k' c)) (h0 : 0 ≤ l) (h1 : l ≤ c) (h2 : bytes * c ≤ 281474976710656) (h3 : c ≤ 9223372036854775807)
 (hC : madeCells z.cells (c.toNat * sz) = C) : OpNew P G ρ L (.makeSlice t x y) ty (fun b => .slice (some ⟨b, 0, none⟩) l.toNat c.toNat) (.cells C e (0, 0)) := by
 obtain ⟨i, q2, q3, q4, q5⟩ := E.info
 refine .run fun r hr w o ho _ => ?_
 have := run_make (P := P) w t e i z E.und q2 q3 k k' l c h0 h1 (by rw [q5]; exact h2) h3
 rw [q4, hC] at this
 simp [execOp, ho, hr _ _ hx, hr _ _ hy, this]
theorem Row.made {e : TypeId} {sz b c : Nat} {C : Array Value} (hs : C.size = c * sz) (hc : c ≤ maxLen) : Row e sz (.slice (some ⟨b, 0, none⟩) 0 c) 0 [] [(b, .cells C e (0, 0))] :=
 ⟨by simp, Or.inr ⟨b, c, C, rfl, rfl, Nat.zero_le _, hc, hs, by simp⟩⟩
theorem Src.one {b : Nat} {v : Value} {te : TypeId} (hm : (b, Obj.cells #[v] te (0, 0)) ∈ L) (hone : v.oneCell' = true) : Src L (.slice (some ⟨b, 0, none⟩) 1 1) 1 [v] 1 :=
 ⟨rfl, fun x hx => by simp at hx; subst hx; exact hone, Or.inr ⟨b, 0, 1, #[v], te, (0, 0), rfl, hm, fun j x hj => by
   cases j with
   | zero => simpa using hj
   | succ j => simp at hj⟩⟩
theorem qU {ops : Array Oper} {d : Nat} {s x : Operand} {pos : String} {after : Array Edge} {rest : List Oper} {t e te : TypeId} {bytes bl : Nat} {z v u : Value} {m : Nat} {xs : List Value} {B : ja} (E : ElemTy P t e 1 bytes z)
 (hs : ev ρ s = some v) (hx : ev ρ x = some (.slice (some ⟨bl, 0, none⟩) 1 1)) (hrow : Row e 1 v m xs B) (hone : u.oneCell' = true) (h63 : m + 1 ≤ maxLen) (hby : (m + 1) * bytes ≤ 140737488355328) (hd : Nat.blt d n = true)
 (hr : ∀ v' B', Row e 1 v' (m + 1) (xs ++ [u]) B' → TL P G ops n ((d, v') :: ρ) (B' ++ L) rest Q) : TL P G ops n ρ ((bl, .cells #[u] te (0, 0)) :: (B ++ L)) (⟨some d, .call ⟨.builtin .append, #[s, x], #[t, t]⟩, ty, pos, after, none⟩ :: rest) Q :=
 qk (L' := B ++ ((bl, .cells #[u] te (0, 0)) :: L)) List.perm_middle.symm (JT E hs hx hrow (Src.one (List.mem_cons_self ..) hone) h63 hby hd fun v' B' h => qI (fun w hw => hw.sub ((List.Sublist.refl B').append (List.sublist_cons_self _ _))) (hr v' B' h))
theorem Outcome.mono {K K' : Value → World → Prop} (h : ∀ v w, K v w → K' v w) {r : Result Next} (hr : Outcome P K r) : Outcome P K' r := by
 match r, hr with
 | .ok (.value v) w, hr => exact h _ _ hr
 | .ok .skip w, hr => exact h _ _ hr
 | .ok (.enter f args) w, hr => exact Calls.mono hr fun e w' ⟨v, h1, h2⟩ => ⟨v, h1, h _ _ h2⟩
theorem OpT.heap {op : Op} {Φ : Value → ja → Prop} {L' : ja} (hl : ∀ w, Heap G w L → Heap G w L') (h : OpT P G ρ L' op ty Φ) : OpT P G ρ L op ty Φ := ⟨fun r hr w hw => h.out r hr w (hl w hw)⟩
theorem OpT.post {op : Op} {Φ Ψ : Value → ja → Prop} (h : OpT P G ρ L op ty Φ) (hp : ∀ v M, Φ v M → ∃ M', Ψ v M' ∧ ∀ w, Heap G w M → Heap G w M') : OpT P G ρ L op ty Ψ :=
 ⟨fun r hr w hw o ho ht => Outcome.mono (fun v w' ⟨M, h1, h2⟩ => let ⟨M', h3, h4⟩ := hp v M h1; ⟨M', h3, h4 w' h2⟩) (h.out r hr w hw o ho ht)⟩
theorem adm {s x : Operand} {t e te : TypeId} {bytes bl : Nat} {z v u : Value} {m : Nat} {xs : List Value} {B : ja} (E : ElemTy P t e 1 bytes z) (hs : ev ρ s = some v) (hx : ev ρ x = some (.slice (some ⟨bl, 0, none⟩) 1 1))
 (hrow : Row e 1 v m xs B) (hone : u.oneCell' = true) (h63 : m + 1 ≤ maxLen) (hby : (m + 1) * bytes ≤ 140737488355328) :
 OpT P G ρ ((bl, .cells #[u] te (0, 0)) :: (B ++ L)) (.call ⟨.builtin .append, #[s, x], #[t, t]⟩) ty fun v' L' => ∃ B', Row e 1 v' (m + 1) (xs ++ [u]) B' ∧ L' = B' ++ L :=
 (OpT.heap (L' := B ++ ((bl, .cells #[u] te (0, 0)) :: L)) (fun w hw => hw.perm List.perm_middle.symm) (uA E hs hx hrow (Src.one (List.mem_cons_self ..) hone) h63 hby)).post fun v' M ⟨B', h1, h2⟩ =>
   ⟨B' ++ L, ⟨B', h1, rfl⟩, fun w hw => (h2 ▸ hw : Heap G w (B' ++ _)).sub ((List.Sublist.refl B').append (List.sublist_cons_self _ _))⟩
theorem VA {ops : Array Oper} {K : ja} {W : List Nat} {L' : ja} {fuel : Nat} {listed : Array Bool} (he : L.Perm L') (h : TA P G ops n K W Q fuel listed ρ L') : TA P G ops n K W Q fuel listed ρ L := Vy (fun w hw => hw.perm he) (fun hk p hp => he.mem_iff.2 (hk p hp)) h
theorem Ws {x hi : Operand} {a : Option Addr} {m c : Nat} {k : IntKind} {j : Int} {t e : TypeId} {sz bytes : Nat} {z : Value} (E : ElemTy P t e sz bytes z) (hx : ev ρ x = some (.slice a m c)) (hhi : ev ρ hi = some (.int k j)) (h0 : 0 ≤ j) (h1 : j ≤ c) :
 OpQ P ρ L (.slice t x none (some hi) none) ty (.slice a j.toNat c) :=
 ⟨fun r hr w hw o ho _ => by
   obtain ⟨i, q2, q3, q4, q5⟩ := E.info
   have e1 : (if c = 0 then a else a.map (·.add (0 * i.size))) = a := by
    split
    · rfl
    · cases a <;> simp [Addr.add]
   simp [execOp, ho, hr _ _ hx, hr _ _ hhi, Instr.sliceAt, run_underlying E.und, Instr.slice, Instr.sliceBounds, Instr.sliceBound, asIntOf, h0, h1, sizeOf, typeInfo, q2]
   simpa using e1⟩
theorem uR {fn : Func} {Φ : Value → ja → Prop} (hr : fn.results = #[]) (h : Φ (.tuple #[]) L) : TQ G n ρ L .ret (bodyPost P fn (kE G Φ)) :=
 ⟨fun a w he hw => ⟨he.defers, .tuple #[], by simp only [results, hr]; simp, _, L, rfl, h, hw⟩⟩
theorem jM {fn : Func} {Φ : Value → ja → Prop} (t u : Nat) (v x : Value) (hr : fn.results = #[.tmp t, .tmp u]) (hv : ρ.lookup t = some v) (hx : ρ.lookup u = some x) (h : Φ (.tuple #[v, x]) L) : TQ G n ρ L .ret (bodyPost P fn (kE G Φ)) :=
 ⟨fun a w he hw => ⟨he.defers, .tuple #[v, x], by
   have h1 : a.tmps.getD t undef = v := he.reads (.tmp t) v hv
   have h2 : a.tmps.getD u undef = x := he.reads (.tmp u) x hx
   simp only [results, hr]
   simp
   exact ⟨by simpa using h1, by simpa using h2⟩, _, L, rfl, h, hw⟩⟩
theorem ut {fn : Func} {Φ : Value → ja → Prop} (h : TQ G n ρ L .ret (bodyPost P fn (kE G Φ))) : TQ G n ρ L .normal (bodyPost P fn (kE G Φ)) := ⟨fun a w he hw => h.out a w he hw⟩
end
section
open Go.RowKit
variable {G : World} {P : Program} {n : Nat} {ρ : jG} {L : ja} {ty : TypeId} {Q : Exit → Act → World → Prop}
theorem qL {ops : Array Oper} {d j dj : Nat} {op : Op} {pos : String} {after : Array Edge} {rest : List Oper} {want : Bool}
 (hs : jT ops j = some dj) (hv : ρ.lookup dj = some undef) (hd : Nat.blt d n = true) (hr : TL P G ops n ((d, undef) :: ρ) L rest Q) : TL P G ops n ρ L (⟨some d, op, ty, pos, after, some (j, want)⟩ :: rest) Q :=
 ⟨fun a w he hw => wpList_step fun K hK => by
   have h1 := he.get dj _ hv
   have h2 : Region.wanted (⟨some d, op, ty, pos, after, some (j, want)⟩ : Oper) (yielded ops a.tmps) = false := by
    unfold jT at hs
    simp [Region.wanted, yielded, hs, h1, undef]
   rw [h2, if_neg (by simp)]
   exact hK _ _ (hr.out _ _ (he.put d (by simpa using hd) undef) hw)⟩
def ZI (P : Program) (t : TypeId) : Option (Nat × Nat) := match P.underlying t with
 | some (.array len e) => match P.info? e with
   | some i => some (len, i.size)
   | none => none
 | _ => none
theorem adn {x y : Operand} {b off len sz : Nat} {k : IntKind} {i : Int} {t : TypeId} (h : ZI P t = some (len, sz)) (hx : ev ρ x = some (.pointer (some ⟨b, off, none⟩))) (hy : ev ρ y = some (.int k i)) (h0 : 0 ≤ i) (h1 : i < len) :
 OpQ P ρ L (.indexAddr t x y) ty (.pointer (some ⟨b, off + i.toNat * sz, none⟩)) := by
 unfold ZI at h
 cases hu : P.underlying t with
 | none => simp [hu] at h
 | some d =>
   cases d <;> simp [hu] at h
   rename_i l e
   cases hi : P.info? e with
   | none => simp [hi] at h
   | some ti =>
     simp [hi] at h
     obtain ⟨rfl, rfl⟩ := h
     exact ⟨fun r hr w hw o ho _ => by simp [execOp, ho, hr _ _ hx, hr _ _ hy, Instr.indexAt, asIntOf, run_underlying hu, Instr.sureAddr, h0, h1, sizeOf, typeInfo, hi, qq]⟩
end
section
open Go.RowKit
section
variable {G : World} {P : Program} {n : Nat} {ρ : jG} {L : ja} {ty : TypeId} {Q : Exit → Act → World → Prop}
def j5 (P : Program) (t : TypeId) (k : Nat) : Bool := (match P.underlying t with | some (.struct _) => true | _ => false) && (match P.info? t with | some i => i.size == k | none => false)
theorem jA {x : Operand} {b off : Nat} {t : TypeId} {C : Array Value} {te : TypeId} {fr : Nat × Nat} (cs : List Value) (hx : ev ρ x = some (.pointer (some ⟨b, off, none⟩)))
 (ht : j5 P t cs.length = true) (hm : (b, Obj.cells C te fr) ∈ L) (hv : ∀ j v, cs[j]? = some v → C[off + j]? = some v) : OpQ P ρ L (.load t x) ty (.agg cs.toArray) :=
 ⟨fun r hr w hw o ho _ => by
   unfold j5 at ht
   cases hu : P.underlying t with
   | none => simp [hu] at ht
   | some d =>
     cases hi : P.info? t with
     | none => simp [hi] at ht
     | some i =>
       cases d with
       | struct fs =>
         simp [hu, hi] at ht
         have ha : (isAgg t).run P w = .ok true w := by
          unfold isAgg
          simp [run_underlying hu]
         have hc := run_loadCells_list (P := P) (w := w) ⟨b, off, none⟩ cs (fun j v hj => by rw [qq]; exact hw.cell hm (hv j v hj))
         simp [execOp, ho, hr _ _ hx, Instr.loadAt, Instr.sureAddr, loadVar, ha, sizeOf, typeInfo, hi, ht, hc]
       | _ => simp [hu] at ht⟩
theorem Jk {x : Operand} {b k : Nat} {t : TypeId} {C : Array Value} {te : TypeId} {fr : Nat × Nat} (hx : ev ρ x = some (.pointer (some ⟨b, 0, none⟩)))
 (ht : j5 P t k = true) (hm : (b, Obj.cells C te fr) ∈ L) (hk : C.size = k) : OpQ P ρ L (.load t x) ty (.agg C) := by
 have := jA (P := P) (ρ := ρ) (L := L) (ty := ty) (t := t) (te := te) (fr := fr) (C := C) C.toList hx (by rw [Array.length_toList, hk]; exact ht) hm (fun j v hj => by rw [Nat.zero_add]; simpa using hj)
 simpa using this
def qM (C : Array Value) (o : Nat) (vs : List Value) : Array Value := (C.toList.take o ++ vs ++ C.toList.drop (o + vs.length)).toArray
theorem yx {x y : Operand} {b off : Nat} {t : TypeId} {C : Array Value} {te : TypeId} {cs : List Value} (hx : ev ρ x = some (.pointer (some ⟨b, off, none⟩))) (hy : ev ρ y = some (.agg cs.toArray))
 (ht : j5 P t cs.length = true) (hone : ∀ v ∈ cs, v.oneCell' = true) (hv : off + cs.length ≤ C.size) : OpV P G ρ ((b, Obj.cells C te (0, 0)) :: L) (.store t x y) ty undef ((b, Obj.cells (qM C off cs) te (0, 0)) :: L) :=
 ⟨fun r hr w hw o ho _ => by
   unfold j5 at ht
   cases hi : P.info? t with
   | none => simp [hi] at ht
   | some i =>
     simp [hi] at ht
     have hb := hw.get _ (List.mem_cons_self ..)
     have hs := run_storeCells_at P b off te cs 0 C w hb (by simpa using hv) hone
     have hrun : (execOp r o).run P w = .ok .skip (w.setRow b (qM C off cs)) := by
      simp only [execOp, ho, hr _ _ hx, hr _ _ hy]
      simp [Instr.storeAt, Instr.sureAddr, storeVar, sizeOf, typeInfo, hi, ht, Value.cells, hs, qM]
     rw [hrun]
     exact ⟨_, ⟨rfl, rfl⟩, hw.update ⟨rfl, rfl, rfl, by simp [World.setRow]⟩ (setRow_heap w b C _ te _ hb) (fun j hj hne => by simp [World.setRow, Array.getElem?_modify, Ne.symm hne])⟩⟩
def JV (C : Array Value) : Bool := C.toList.all (·.oneCell')
theorem ud {ops : Array Oper} {x y : Operand} {pos : String} {after : Array Edge} {rest : List Oper} {b k : Nat} {t : TypeId} {C D : Array Value} {te : TypeId} (hx : ev ρ x = some (.pointer (some ⟨b, 0, none⟩))) (hy : ev ρ y = some (.agg D))
 (ht : j5 P t k = true) (hC : C.size = k) (hD : D.size = k) (hone : JV D = true) (h : TL P G ops n ρ ((b, Obj.cells D te (0, 0)) :: L) rest Q) : TL P G ops n ρ ((b, Obj.cells C te (0, 0)) :: L) (⟨none, .store t x y, ty, pos, after, none⟩ :: rest) Q := by
 have h1 := yx (G := G) (P := P) (ρ := ρ) (L := L) (ty := ty) (b := b) (C := C) (te := te) (t := t) (cs := D.toList) hx (by simpa using hy) (by rw [Array.length_toList, hD]; exact ht) (fun v hv => List.all_eq_true.1 hone v hv) (by rw [Array.length_toList, hD, hC]; omega)
 have h2 : qM C 0 D.toList = D := by
  unfold qM
  rw [List.drop_eq_nil_of_le (by simp; omega)]
  simp
 rw [h2] at h1
 exact QE h1 h
theorem Wt {sz : Nat} : ∀ (vs : List Value) (k : Nat) (pre rest : List Value), (∀ v ∈ vs, v.cells.size = sz) → pre.length = k * sz → rest.length = vs.length * sz →
 Instr.fill (fun i => some (i * sz, sz)) (pre ++ rest).toArray ((vs.zipIdx k).map fun p => (p.2, p.1)) = some (pre ++ vs.flatMap (·.cells.toList)).toArray
 | [], k, pre, rest, _, _, hr => by
   have : rest = [] := List.eq_nil_of_length_eq_zero (by simpa using hr)
   simp [Instr.fill, this]
 | v :: vs, k, pre, rest, hv, hp, hr => by
   have h1 := hv v (List.mem_cons_self ..)
   simp only [List.zipIdx_cons, List.map_cons, Instr.fill]
   have hlen : (v :: vs).length * sz = vs.length * sz + sz := by rw [List.length_cons, Nat.succ_mul]
   rw [if_neg (by simp [h1]; omega)]
   have key : ∀ (cs : List Value) (m : Nat) (pre rest : List Value), pre.length = k * sz + m → cs.length ≤ rest.length →
    (cs.zipIdx m).foldl (fun (a : Array Value) (p : Value × Nat) => a.setIfInBounds (k * sz + p.2) p.1) (pre ++ rest).toArray = (pre ++ cs ++ rest.drop cs.length).toArray := by
    intro cs
    induction cs with
    | nil => intro m pre rest _ _; simp
    | cons c cs ih =>
      intro m pre rest hp hl
      match rest, hl with
      | r :: rest, hl =>
        simp only [List.zipIdx_cons, List.foldl_cons]
        have e : (pre ++ r :: rest).toArray.setIfInBounds (k * sz + m) c = ((pre ++ [c]) ++ rest).toArray := by
         apply Array.ext'
         rw [Array.toList_setIfInBounds, ← hp]
         simp
        rw [e, ih (m + 1) (pre ++ [c]) rest (by simp; omega) (by simpa using hl)]
        simp
   have e1 : v.cells.zipIdx.foldl (fun cs (x : Value × Nat) => cs.setIfInBounds (k * sz + x.2) x.1) (pre ++ rest).toArray = (pre ++ v.cells.toList ++ rest.drop sz).toArray := by
    have := key v.cells.toList 0 pre rest (by simpa using hp) (by simp [h1]; omega)
    rw [← Array.foldl_toList, Array.toList_zipIdx]
    rw [this]
    simp [h1]
   show Instr.fill _ (v.cells.zipIdx.foldl (fun cs (x : Value × Nat) => cs.setIfInBounds (k * sz + x.2) x.1) (pre ++ rest).toArray) _ = _
   rw [e1]
   have := Wt vs (k + 1) (pre ++ v.cells.toList) (rest.drop sz) (fun u hu => hv u (List.mem_cons_of_mem _ hu)) (by simp [h1, hp, Nat.succ_mul]) (by simp; omega)
   rw [this]
   simp
theorem uS {t e : TypeId} {z : Value} {sz bytes len : Nat} {C : Array Value} (E : ElemTy P t e sz bytes z) (vs : List Value) (hn : vs.length = len) (hv : ∀ v ∈ vs, v.cells.size = sz) (hlim : len * sz ≤ 16777216) (hC : (vs.flatMap (·.cells.toList)).toArray = C) :
 RowLit P t len (vs.zipIdx.map fun p => (p.2, p.1)) e C :=
 ⟨fun w => by
   obtain ⟨i, q2, q3, q4, q5⟩ := E.info
   subst hn hC
   have hf := Wt vs 0 [] ((List.range (vs.length * sz)).map fun j => z.cells[j % z.cells.size]!) hv (by simp) (by simp)
   simp only [List.nil_append] at hf
   by_cases h0 : vs.length * sz = 0
   · have hvs : vs = [] := by
      rcases Nat.mul_eq_zero.1 h0 with h | h
      · exact List.eq_nil_of_length_eq_zero h
      · have := E.pos; omega
     subst hvs
     simp [Instr.buildSlice, run_underlying E.und, sizeOf, typeInfo, q2, newRow, Instr.fill, Array.range_zero']
   · have hf' : Instr.fill (fun i => some (i * sz, sz)) ((Array.range (vs.length * sz)).map fun j => z.cells[j % z.cells.size]!) (vs.zipIdx.map fun p => (p.2, p.1)) = some (vs.flatMap (·.cells.toList)).toArray := by
      rw [← hf]
      congr 1
      apply Array.ext'
      simp
     have hl2 : ¬ (16777216 < vs.length * sz) := by omega
     simp [Instr.buildSlice, run_underlying E.und, sizeOf, typeInfo, q2, q4, hl2, h0, zeroValue, q3, hf', newRow]⟩
end
end
section
open Go.RowKit
variable {G : World} {P : Program} {n : Nat} {ρ : jG} {L : ja} {ty : TypeId} {Q : Exit → Act → World → Prop}
theorem aeO {x y : Operand} {k k' : IntKind} {a b : Int} {ts : Array TypeId} (hx : ev ρ x = some (.int k a)) (hy : ev ρ y = some (.int k' b)) : OpQ P ρ L (.call ⟨.builtin .min, #[x, y], ts⟩) ty (.int k (min a b)) :=
 ⟨fun r hr w hw o ho _ => by simp [execOp, ho, hr _ _ hx, hr _ _ hy, resolve, invoke, builtin, Lib.run_min_ints, Result.andThen]⟩
theorem aeP {x y : Operand} {k k' : IntKind} {a b : Int} {ts : Array TypeId} (hx : ev ρ x = some (.int k a)) (hy : ev ρ y = some (.int k' b)) : OpQ P ρ L (.call ⟨.builtin .max, #[x, y], ts⟩) ty (.int k (max a b)) :=
 ⟨fun r hr w hw o ho _ => by simp [execOp, ho, hr _ _ hx, hr _ _ hy, resolve, invoke, builtin, Lib.run_max_ints, Result.andThen]⟩
theorem abs {ops : Array Oper} {x y : Operand} {pos : String} {after : Array Edge} {rest : List Oper} {b off : Nat} {t : TypeId} {C C' : Array Value} {te : TypeId} {v u : Value} {p : Nat × Obj} (hx : ev ρ x = some (.pointer (some ⟨b, off, none⟩))) (hy : ev ρ y = some v)
 (h1 : Ji P t = true) (hone : v.oneCell' = true) (hv : C[off]? = some u) (hC : C.setIfInBounds off v = C') (h : TL P G ops n ρ (p :: (b, Obj.cells C' te (0, 0)) :: L) rest Q) :
 TL P G ops n ρ (p :: (b, Obj.cells C te (0, 0)) :: L) (⟨none, .store t x y, ty, pos, after, none⟩ :: rest) Q :=
 qk (List.Perm.swap _ _ _) (qG hx hy h1 hone hv hC (qk (List.Perm.swap _ _ _) h))
theorem VC {c : Code} {Q' : Exit → Act → World → Prop} (h : T P G n ρ L c Q) (hi : ∀ e a w, Q e a w → Q' e a w) : T P G n ρ L c Q' := ⟨fun a w he hw b k cs => by
 obtain ⟨e, a', w', hq, h2⟩ := h.out a w he hw b k cs
 exact ⟨e, a', w', hi _ _ _ hq, h2⟩⟩
theorem yX {l : Nat} {J : Act → World → Prop} (h : TQ G n ρ L .ret Q) : TQ G n ρ L .ret (Exit.jump l J Q) := ⟨fun a w he hw => h.out a w he hw⟩
theorem Qs {σ : Type} {l m : Nat} {I : σ → Prop} {ρI : σ → jG} {LI : σ → ja} {μ : σ → Nat} (x : σ) (hI : I x) (hs : Sub (ρI x) ρ) (hl : ∀ w, Heap G w L → Heap G w (LI x)) (hm : μ x < m) : TQ G n ρ L (.goto l) (Exit.jump l (yq G n I ρI LI μ m) Q) :=
 ⟨fun a w he hw => ⟨rfl, x, hI, he.weak hs.get, hl w hw, hm⟩⟩
theorem abt {S : Nat → Prop} (h : ∃ m, S m) : ∃ m, S m ∧ ∀ k, S k → m ≤ k := by
 obtain ⟨m, hm⟩ := h
 induction m using Nat.strongRecOn with
 | _ m ih =>
   by_cases hk : ∃ k, k < m ∧ S k
   · obtain ⟨k, h1, h2⟩ := hk
     exact ih k h1 h2
   · exact ⟨m, hm, fun k hk' => Nat.le_of_not_lt fun hlt => hk ⟨k, hlt, hk'⟩⟩
open Classical in
noncomputable def leastOf (S : Nat → Prop) : Nat := if h : ∃ m, S m then Classical.choose (abt h) else 0
theorem Wu {S : Nat → Prop} (h : ∃ m, S m) : S (leastOf S) := by
 unfold leastOf
 rw [dif_pos h]
 exact (Classical.choose_spec (abt h)).1
theorem YK {S : Nat → Prop} {k : Nat} (hk : S k) : leastOf S ≤ k := by
 unfold leastOf
 rw [dif_pos ⟨k, hk⟩]
 exact (Classical.choose_spec (abt ⟨k, hk⟩)).2 k hk
theorem ado {σ : Type} {c rest : Code} (l : Nat) (hf : findLabel c l = some rest) (I : σ → Prop) (ρI : σ → jG) (LI : σ → ja) (μ : σ → Nat)
 (first : (∀ x, I x → T P G n (ρI x) (LI x) rest (Exit.jump l (fun a w => ∃ x, I x ∧ Env n (ρI x) a ∧ Heap G w (LI x)) Q)) → T P G n ρ L c (Exit.jump l (fun a w => ∃ x, I x ∧ Env n (ρI x) a ∧ Heap G w (LI x)) Q))
 (pass : ∀ x, I x → T P G n (ρI x) (LI x) rest (Exit.jump l (yq G n I ρI LI μ (μ x)) Q)) : T P G n ρ L (.scope c) Q := by
 have first' := first fun x hx => VC (pass x hx) fun e a w h => by
  cases e <;> first | exact h | exact ⟨h.1, by obtain ⟨y, h1, h2, h3, _⟩ := h.2; exact ⟨y, h1, h2, h3⟩⟩
 have hex : ∀ a w, (∃ x, I x ∧ Env n (ρI x) a ∧ Heap G w (LI x)) → ∃ m, ∃ x, I x ∧ Env n (ρI x) a ∧ Heap G w (LI x) ∧ μ x = m := fun a w ⟨x, h1, h2, h3⟩ => ⟨_, x, h1, h2, h3, rfl⟩
 refine ⟨fun a w he hw => wp_scope_jumps l (fun a w => ∃ x, I x ∧ Env n (ρI x) a ∧ Heap G w (LI x)) (fun a w => leastOf fun m => ∃ x, I x ∧ Env n (ρI x) a ∧ Heap G w (LI x) ∧ μ x = m) hf (first'.out a w he hw) fun a w hJ => ?_⟩
 obtain ⟨x, hI, h2, h3, hm⟩ := Wu (hex a w hJ)
 refine fun b k cs => ?_
 obtain ⟨e, a', w', hq, harr⟩ := (pass x hI).out a w h2 h3 b k cs
 refine ⟨e, a', w', ?_, harr⟩
 cases e with
 | goto l' =>
   obtain ⟨hl, y, g1, g2, g3, g4⟩ := hq
   exact ⟨hl, ⟨y, g1, g2, g3⟩, Nat.lt_of_le_of_lt (YK ⟨y, g1, g2, g3, rfl⟩) (hm ▸ g4)⟩
 | _ => exact hq
end
section
open Go.RowKit
structure Hd (Q : Prop) : Prop where out : Q
class FldC (P : Program) (t k : Nat) (o : outParam Nat) : Prop where out : Jj P t k = some o
class PlC (P : Program) (t : Nat) : Prop where out : Jh P t = true
class OnC (P : Program) (t : Nat) : Prop where out : Ji P t = true
class StC (P : Program) (t : Nat) (k : outParam Nat) : Prop where out : j5 P t k = true
class ZeC (P : Program) (t : Nat) (z : outParam Value) : Prop where out : JS P t = some z
class ArrC (P : Program) (t : Nat) (z : outParam (Nat × Nat)) : Prop where out : ZI P t = some z
class UndC (P : Program) (t : Nat) (d : outParam TypeDesc) : Prop where out : P.underlying t = some d
class EtC (P : Program) (t : Nat) (e sz bytes : outParam Nat) (z : outParam Value) : Prop where out : ElemTy P t e sz bytes z
theorem Qj {P : Program} {t k o : Nat} [h : FldC P t k o] : Jj P t k = some o := h.out
theorem plO {P : Program} {t : Nat} [h : PlC P t] : Jh P t = true := h.out
theorem onO {P : Program} {t : Nat} [h : OnC P t] : Ji P t = true := h.out
theorem stO {P : Program} {t k : Nat} [h : StC P t k] : j5 P t k = true := h.out
theorem stL {P : Program} {t k j : Nat} [h : StC P t j] (e : j = k := by exact rfl) : j5 P t k = true := e ▸ h.out
theorem zeO {P : Program} {t : Nat} {z : Value} [h : ZeC P t z] : JS P t = some z := h.out
theorem arO {P : Program} {t : Nat} {a b : Nat} [h : ArrC P t (a, b)] : ZI P t = some (a, b) := h.out
theorem unO {P : Program} {t : Nat} {d : TypeDesc} [h : UndC P t d] : P.underlying t = some d := h.out
theorem etO {P : Program} {t e sz bytes : Nat} {z : Value} [h : EtC P t e sz bytes z] : ElemTy P t e sz bytes z := h.out
theorem etM {P : Program} {t e sz bytes : Nat} {z : Value} (h : (P.info? e).map (fun i => (i.zero, i.size, i.bytes)) = some (some z, sz, bytes)) (hu : P.underlying t = some (.slice e)) (hs : z.cells.size = sz) (hz : 0 < sz) : EtC P t e sz bytes z := by
 obtain ⟨i, h1, h2, h3, h4⟩ := info_parts h
 exact ⟨⟨hu, ⟨i, h1, h2, h3, h4⟩, hs, hz⟩⟩
theorem aaj {P : Program} {G : World} {ρ : jG} {L : ja} {ty t : TypeId} {A : Array Value} (h : JS P t = some (.agg A)) : OpNew P G ρ L (.alloc t) ty (fun b => .pointer (some ⟨b, 0, none⟩)) (.cells A t (0, 0)) := kk h rfl
end
end Go.Proofs.YtbjkkoacclfejaaGreat
