/-
 Part 1: Sl SlOp SlMem SlDraw SlTy SlMore St Hs Mc Ty St2 OpG Rw Fr Au Vd Vc Fs St3 Mac Jc Jd Je.
-/
import Derived.WalkKit
import Derived.WalkSpells
import Derived.WalkLawsBesides
import Derived.Lib.Hide
import Derived.Lib.ConvBytes
import Derived.OrdersHeld
import Derived.Maps.AppendAt
import Derived.Below
import Derived.Laws.MakeOwn
import Derived.Lib.AppendStr
import Derived.Laws.Cells
import Derived.Lib.MinMax
import Derived.ScopeJumps
import Derived.Test.YtkpblofmoalnoaaGreatDoorProg
import Derived.ProofKit
import Derived.OpenShut
import Derived.ShutString
import Derived.ChangeOld
import Derived.Deep.Slices
import Derived.Deep.Strs
set_option linter.unusedVariables false
set_option linter.unusedSimpArgs false
namespace Go.Proofs.YtkpblofmoalnoaaGreatDoor
section
open Go.RowKit
abbrev jc := List (Nat × Obj)
structure Still (G w : World) : Prop where
 os : w.os = G.os
 tape : w.tape = G.tape
 output : w.output = G.output
 size : G.heap.size ≤ w.heap.size
theorem Still.refl (G : World) : Still G G := ⟨rfl, rfl, rfl, Nat.le_refl _⟩
theorem Still.trans {G w w' : World} (h : Still G w) (k : Still w w') : Still G w' := ⟨k.os.trans h.os, k.tape.trans h.tape, k.output.trans h.output, Nat.le_trans h.size k.size⟩
variable {G : World}
structure Heap (G w : World) (L : jc) : Prop where
 still : Still G w
 nodup : (L.map (·.1)).Nodup
 get : ∀ p, p ∈ L → w.heap[p.1]? = some p.2
theorem Heap.lt {w : World} {L : jc} (h : Heap G w L) {p : Nat × Obj} (hp : p ∈ L) : p.1 < w.heap.size :=
 (Array.getElem?_eq_some_iff.1 (h.get p hp)).1
theorem Heap.same {w w' : World} {L : jc} (h : Heap G w L) (s : Still w w') (e : w'.heap = w.heap) : Heap G w' L := ⟨h.still.trans s, h.nodup, fun p hp => by rw [e]; exact h.get p hp⟩
theorem Heap.drew {w : World} {L : jc} (h : Heap G w L) : Heap G w.drew L := h.same ⟨rfl, rfl, rfl, Nat.le_refl _⟩ rfl
theorem Heap.sub {w : World} {L L' : jc} (h : Heap G w L) (s : L'.Sublist L) : Heap G w L' :=
 ⟨h.still, h.nodup.sublist (s.map _), fun p hp => h.get p (s.subset hp)⟩
theorem Heap.perm {w : World} {L L' : jc} (h : Heap G w L) (s : L.Perm L') : Heap G w L' :=
 ⟨h.still, (s.map (·.1)).nodup_iff.1 h.nodup, fun p hp => h.get p (s.mem_iff.2 hp)⟩
theorem Heap.alloc {w : World} {L : jc} (h : Heap G w L) (o : Obj) : Heap G (w.alloc o) ((w.heap.size, o) :: L) := by
 refine ⟨h.still.trans ⟨rfl, rfl, rfl, by simp⟩, ?_, fun p hp => ?_⟩
 · rw [List.map_cons, List.nodup_cons]
   refine ⟨fun hm => ?_, h.nodup⟩
   obtain ⟨q, hq, e⟩ := List.mem_map.1 hm
   have := h.lt hq
   omega
 · rcases List.mem_cons.1 hp with rfl | hp
   · exact heap_alloc_new w o
   · have := h.lt hp
     rw [show (w.alloc o).heap[p.1]? = w.heap[p.1]? by show (w.heap.push o)[p.1]? = _; rw [Array.getElem?_push]; simp; omega]
     exact h.get p hp
theorem Heap.ne {w : World} {L : jc} {b : Nat} {o : Obj} (h : Heap G w ((b, o) :: L)) {p : Nat × Obj} (hp : p ∈ L) : p.1 ≠ b := by
 have := h.nodup
 rw [List.map_cons, List.nodup_cons] at this
 intro e
 exact this.1 (List.mem_map.2 ⟨p, hp, e⟩)
theorem Heap.update {w w' : World} {L : jc} {b : Nat} {o o' : Obj} (h : Heap G w ((b, o) :: L)) (s : Still w w') (hb : w'.heap[b]? = some o') (ho : ∀ j, j < w.heap.size → j ≠ b → w'.heap[j]? = w.heap[j]?) : Heap G w' ((b, o') :: L) := by
 refine ⟨h.still.trans s, h.nodup, fun p hp => ?_⟩
 rcases List.mem_cons.1 hp with rfl | hp
 · exact hb
 · rw [ho _ (h.lt (List.mem_cons_of_mem _ hp)) (h.ne hp)]
   exact h.get p (List.mem_cons_of_mem _ hp)
theorem Heap.new {w w' : World} {L : jc} {o' : Obj} (h : Heap G w L) (s : Still w w') (hb : w'.heap[w.heap.size]? = some o') (ho : ∀ j, j < w.heap.size → w'.heap[j]? = w.heap[j]?) : Heap G w' ((w.heap.size, o') :: L) := by
 refine ⟨h.still.trans s, (h.alloc o').nodup, fun p hp => ?_⟩
 rcases List.mem_cons.1 hp with rfl | hp
 · exact hb
 · rw [ho _ (h.lt hp)]
   exact h.get p hp
theorem Heap.tail {w : World} {L : jc} {p : Nat × Obj} (h : Heap G w (p :: L)) : Heap G w L := h.sub (List.sublist_cons_self _ _)
theorem Heap.cell {w : World} {L : jc} {b : Nat} {C : Array Value} {e : TypeId} {fr : Nat × Nat} (h : Heap G w L) (hm : (b, Obj.cells C e fr) ∈ L) {off : Nat} {v : Value} (hv : C[off]? = some v) :
 w.cell? ⟨b, off, none⟩ = some v := by
 unfold World.cell?
 rw [h.get _ hm]
 simpa using hv
def qG (w : World) : jc := w.heap.toList.zipIdx.map fun p => (p.2, p.1)
theorem Heap.all (w : World) : Heap w w (qG w) := by
 refine ⟨Still.refl _, ?_, fun p hp => ?_⟩
 · unfold qG
   rw [List.map_map, show ((fun x : Nat × Obj => x.1) ∘ fun p : Obj × Nat => (p.2, p.1)) = Prod.snd from rfl]
   rw [List.zipIdx_map_snd]
   exact List.nodup_range'
 · obtain ⟨q, hq, rfl⟩ := List.mem_map.1 hp
   have := List.mem_zipIdx_iff_getElem?.1 hq
   simpa using this
theorem qj {w : World} {b : Nat} {o : Obj} (h : w.heap[b]? = some o) : (b, o) ∈ qG w := by
 refine List.mem_map.2 ⟨(o, b), ?_, rfl⟩
 rw [List.mem_zipIdx_iff_getElem?]
 simpa using h
abbrev jn := List (Nat × Value)
structure Env (n : Nat) (ρ : jn) (a : Act) : Prop where
 size : a.tmps.size = n
 defers : a.defers = []
 get : ∀ t v, ρ.lookup t = some v → a.tmps[t]? = some v
def ev (ρ : jn) : Operand → Option Value
 | .tmp t => ρ.lookup t
 | .const v => some v
 | .global g => some (.pointer (some ⟨g, 0, none⟩))
 | .func f => some (.func (.func f) #[] #[])
def zZ (ρ : jn) (r : Operand → Value) : Prop := ∀ x v, ev ρ x = some v → r x = v
theorem Env.reads {n : Nat} {ρ : jn} {a : Act} (h : Env n ρ a) : zZ ρ a.eval := by
 intro x v hx
 cases x with
 | tmp t =>
   show a.tmps.getD t undef = v
   rw [Array.getD_eq_getD_getElem?, h.get t v hx]
   rfl
 | const c => exact Option.some.inj hx
 | global g => exact Option.some.inj hx
 | func f => exact Option.some.inj hx
theorem Env.put {n : Nat} {ρ : jn} {a : Act} (h : Env n ρ a) (d : Nat) (hd : d < n) (v : Value) : Env n ((d, v) :: ρ) (a.put (some d) v) := by
 refine ⟨by show (a.tmps.setIfInBounds d v).size = n; simp [h.size], h.defers, fun t u hu => ?_⟩
 show (a.tmps.setIfInBounds d v)[t]? = some u
 rw [List.lookup_cons] at hu
 by_cases e : t = d
 · subst e
   simp at hu
   rw [Array.getElem?_setIfInBounds_self_of_lt (by rw [h.size]; exact hd), hu]
 · have e' : (t == d) = false := by simpa using e
   rw [e'] at hu
   rw [Array.getElem?_setIfInBounds_ne (Ne.symm e)]
   exact h.get t u hu
theorem Env.weak {n : Nat} {ρ ρ' : jn} {a : Act} (h : Env n ρ a) (hs : ∀ t v, ρ'.lookup t = some v → ρ.lookup t = some v) : Env n ρ' a :=
 ⟨h.size, h.defers, fun t v hv => h.get t v (hs t v hv)⟩
def Outcome (P : Program) (K : Value → World → Prop) : Result Next → Prop
 | .ok (.value v) w => K v w
 | .ok .skip w => K undef w
 | .ok (.enter f args) w => Calls P f args w fun e w' => ∃ v, e = .returned v ∧ K v w'
 | _ => False
structure OpT (P : Program) (G : World) (ρ : jn) (L : jc) (op : Op) (ty : TypeId) (Φ : Value → jc → Prop) : Prop where
 out : ∀ r, zZ ρ r → ∀ w, Heap G w L → ∀ o : Oper, o.op = op → o.type = ty → Outcome P (fun v w' => ∃ L', Φ v L' ∧ Heap G w' L') ((execOp r o).run P w)
abbrev OpV (P : Program) (G : World) (ρ : jn) (L : jc) (op : Op) (ty : TypeId) (v : Value) (L' : jc) : Prop := OpT P G ρ L op ty fun u M => u = v ∧ M = L'
theorem OpT.wp {P : Program} {n : Nat} {ρ : jn} {L : jc} {o : Oper} {Φ : Value → jc → Prop} (h : OpT P G ρ L o.op o.type Φ) {a : Act} {w : World} (he : Env n ρ a) (hw : Heap G w L)
 {K : Act → World → Prop} {Q : Exit → Act → World → Prop} (hK : ∀ v L' w', Φ v L' → Heap G w' L' → K (a.put o.dst v) w') : o.wp P a w K Q := by
 have := h.out a.eval he.reads w hw o rfl rfl
 unfold Oper.wp
 revert this
 generalize (execOp a.eval o).run P w = r
 intro this
 match r, this with
 | .ok (.value v) w', ⟨L', h1, h2⟩ => exact hK v L' w' h1 h2
 | .ok .skip w', ⟨L', h1, h2⟩ => exact hK undef L' w' h1 h2
 | .ok (.enter f args) w', hc =>
   refine Calls.mono hc fun e w'' hh => ?_
   obtain ⟨v, rfl, L', h1, h2⟩ := hh
   exact hK v L' w'' h1 h2
structure T (P : Program) (G : World) (n : Nat) (ρ : jn) (L : jc) (c : Code) (Q : Exit → Act → World → Prop) : Prop where
 out : ∀ a w, Env n ρ a → Heap G w L → c.wp P Q a w
structure TL (P : Program) (G : World) (ops : Array Oper) (n : Nat) (ρ : jn) (L : jc) (l : List Oper) (Q : Exit → Act → World → Prop) : Prop where
 out : ∀ a w, Env n ρ a → Heap G w L → wpList P ops Q l a w
structure TQ (G : World) (n : Nat) (ρ : jn) (L : jc) (e : Exit) (Q : Exit → Act → World → Prop) : Prop where
 out : ∀ a w, Env n ρ a → Heap G w L → Q e a w
section
variable {P : Program} {n : Nat} {ρ : jn} {L : jc} {Q : Exit → Act → World → Prop}
theorem jT {x y : Code} (h : T P G n ρ L x (Exit.then (y.wp P Q) Q)) : T P G n ρ L (.seq x y) Q := ⟨fun a w he hw => wp_seq (h.out a w he hw)⟩
theorem um {id : Nat} {c : Code} (h : T P G n ρ L c (Exit.inBlock id Q)) : T P G n ρ L (.block id c) Q := ⟨fun a w he hw => wp_block (h.out a w he hw)⟩
theorem yG (h : TQ G n ρ L .normal Q) : T P G n ρ L .skip Q := ⟨fun a w he hw => wp_skip (h.out a w he hw)⟩
theorem yH {l : Nat} (h : TQ G n ρ L .normal Q) : T P G n ρ L (.label l) Q := ⟨fun a w he hw => wp_label (h.out a w he hw)⟩
theorem ze {id : Nat} (h : TQ G n ρ L (.exit id) Q) : T P G n ρ L (.exit id) Q := ⟨fun a w he hw => wp_exit (h.out a w he hw)⟩
theorem ahK {l : Nat} (h : TQ G n ρ L (.goto l) Q) : T P G n ρ L (.goto l) Q := ⟨fun a w he hw => wp_goto (h.out a w he hw)⟩
theorem Qr (h : TQ G n ρ L .ret Q) : T P G n ρ L .ret Q := ⟨fun a w he hw => wp_ret (h.out a w he hw)⟩
theorem Wp {c : Operand} {x y : Code} (hc : ev ρ c = some (.bool true)) (ht : T P G n ρ L x Q) : T P G n ρ L (.cond c x y) Q := ⟨fun a w he hw => wp_cond_true (he.reads c _ hc) (ht.out a w he hw)⟩
theorem QV {c : Operand} {x y : Code} (hc : ev ρ c = some (.bool false)) (ht : T P G n ρ L y Q) : T P G n ρ L (.cond c x y) Q := ⟨fun a w he hw => wp_cond_false (he.reads c _ hc) (ht.out a w he hw)⟩
theorem jY {id : Nat} {l : List Oper} (h : TL P G l.toArray n ρ L l Q) : T P G n ρ L (.region id l.toArray false) Q := ⟨fun a w he hw => wp_region_lit (h.out a w he hw)⟩
theorem uU {ops : Array Oper} (h : TQ G n ρ L .normal Q) : TL P G ops n ρ L [] Q := ⟨fun a w he hw => wpList_nil (h.out a w he hw)⟩
theorem qd {y : Code} {Q' : Exit → Act → World → Prop} (h : T P G n ρ L y Q) : TQ G n ρ L .normal (Exit.then (y.wp P Q) Q') := ⟨fun a w he hw => h.out a w he hw⟩
theorem kQ {id : Nat} {K : Act → World → Prop} (h : TQ G n ρ L (.exit id) Q) : TQ G n ρ L (.exit id) (Exit.then K Q) := ⟨fun a w he hw => h.out a w he hw⟩
theorem qH {id : Nat} {K : Act → World → Prop} (h : TQ G n ρ L (.goto id) Q) : TQ G n ρ L (.goto id) (Exit.then K Q) := ⟨fun a w he hw => h.out a w he hw⟩
theorem kC {K : Act → World → Prop} (h : TQ G n ρ L .ret Q) : TQ G n ρ L .ret (Exit.then K Q) := ⟨fun a w he hw => h.out a w he hw⟩
theorem uu {id : Nat} (h : TQ G n ρ L .normal Q) : TQ G n ρ L .normal (Exit.inBlock id Q) := ⟨fun a w he hw => h.out a w he hw⟩
theorem kb {id : Nat} (h : TQ G n ρ L .ret Q) : TQ G n ρ L .ret (Exit.inBlock id Q) := ⟨fun a w he hw => h.out a w he hw⟩
theorem qv {id l : Nat} (h : TQ G n ρ L (.goto l) Q) : TQ G n ρ L (.goto l) (Exit.inBlock id Q) := ⟨fun a w he hw => h.out a w he hw⟩
theorem kn {id : Nat} (h : TQ G n ρ L .normal Q) : TQ G n ρ L (.exit id) (Exit.inBlock id Q) := ⟨fun a w he hw => by simp only [Exit.inBlock, if_true]; exact h.out a w he hw⟩
theorem qa {id id' : Nat} (hne : (id' == id) = false) (h : TQ G n ρ L (.exit id') Q) : TQ G n ρ L (.exit id') (Exit.inBlock id Q) := ⟨fun a w he hw => by
 have : id' ≠ id := by simpa using hne
 simp only [Exit.inBlock, this, if_false]; exact h.out a w he hw⟩
theorem jX {ops : Array Oper} {d : Nat} {op : Op} {ty : TypeId} {pos : String} {after : Array Edge} {rest : List Oper} {Φ : Value → jc → Prop}
 (h : OpT P G ρ L op ty Φ) (hd : Nat.blt d n = true) (hr : ∀ v L', Φ v L' → TL P G ops n ((d, v) :: ρ) L' rest Q) : TL P G ops n ρ L (⟨some d, op, ty, pos, after, none⟩ :: rest) Q :=
 ⟨fun a w he hw => wpList_plain rfl fun K hK => OpT.wp (o := ⟨some d, op, ty, pos, after, none⟩) h he hw fun v L' w' h1 h2 =>
   hK _ _ ((hr v L' h1).out _ _ (he.put d (by simpa using hd) v) h2)⟩
theorem ji {ops : Array Oper} {d : Nat} {op : Op} {ty : TypeId} {pos : String} {after : Array Edge} {rest : List Oper} {v : Value} {L' : jc}
 (h : OpV P G ρ L op ty v L') (hd : Nat.blt d n = true) (hr : TL P G ops n ((d, v) :: ρ) L' rest Q) : TL P G ops n ρ L (⟨some d, op, ty, pos, after, none⟩ :: rest) Q :=
 jX h hd fun _ _ ⟨h1, h2⟩ => h1 ▸ h2 ▸ hr
theorem abz {ops : Array Oper} {op : Op} {ty : TypeId} {pos : String} {after : Array Edge} {rest : List Oper} {Φ : Value → jc → Prop}
 (h : OpT P G ρ L op ty Φ) (hr : ∀ v L', Φ v L' → TL P G ops n ρ L' rest Q) : TL P G ops n ρ L (⟨none, op, ty, pos, after, none⟩ :: rest) Q :=
 ⟨fun a w he hw => wpList_plain rfl fun K hK => OpT.wp (o := ⟨none, op, ty, pos, after, none⟩) h he hw fun v L' w' h1 h2 => hK _ _ ((hr v L' h1).out _ _ he h2)⟩
theorem Uh {ops : Array Oper} {op : Op} {ty : TypeId} {pos : String} {after : Array Edge} {rest : List Oper} {v : Value} {L' : jc}
 (h : OpV P G ρ L op ty v L') (hr : TL P G ops n ρ L' rest Q) : TL P G ops n ρ L (⟨none, op, ty, pos, after, none⟩ :: rest) Q := abz h fun _ _ ⟨_, h2⟩ => h2 ▸ hr
def jJ (ops : Array Oper) (j : Nat) : Option Nat := (ops[j]?).bind (·.dst)
theorem KU {ops : Array Oper} {o : Oper} {j d : Nat} {b want : Bool} {a : Act} (he : Env n ρ a) (hg : o.guard = some (j, want)) (hs : jJ ops j = some d) (hv : ρ.lookup d = some (.bool b)) :
 Region.wanted o (yielded ops a.tmps) = (b == want) := by
 have h1 := he.get d _ hv
 unfold Region.wanted
 rw [hg]
 simp only [jJ] at hs
 simp [yielded, hs, h1]
theorem adM {ops : Array Oper} {d j dj : Nat} {op : Op} {ty : TypeId} {pos : String} {after : Array Edge} {rest : List Oper} {Φ : Value → jc → Prop} {want : Bool}
 (hs : jJ ops j = some dj) (hv : ρ.lookup dj = some (.bool want))
 (h : OpT P G ρ L op ty Φ) (hd : Nat.blt d n = true) (hr : ∀ v L', Φ v L' → TL P G ops n ((d, v) :: ρ) L' rest Q) : TL P G ops n ρ L (⟨some d, op, ty, pos, after, some (j, want)⟩ :: rest) Q :=
 ⟨fun a w he hw => wpList_step fun K hK => by
   rw [KU he rfl hs hv]
   simp only [BEq.rfl, if_true]
   exact OpT.wp (o := ⟨some d, op, ty, pos, after, some (j, want)⟩) h he hw fun v L' w' h1 h2 => hK _ _ ((hr v L' h1).out _ _ (he.put d (by simpa using hd) v) h2)⟩
theorem akx {ops : Array Oper} {d j dj : Nat} {op : Op} {ty : TypeId} {pos : String} {after : Array Edge} {rest : List Oper} {v : Value} {L' : jc} {want : Bool}
 (hs : jJ ops j = some dj) (hv : ρ.lookup dj = some (.bool want))
 (h : OpV P G ρ L op ty v L') (hd : Nat.blt d n = true) (hr : TL P G ops n ((d, v) :: ρ) L' rest Q) : TL P G ops n ρ L (⟨some d, op, ty, pos, after, some (j, want)⟩ :: rest) Q :=
 adM hs hv h hd fun _ _ ⟨h1, h2⟩ => h1 ▸ h2 ▸ hr
theorem abA {ops : Array Oper} {d j dj : Nat} {op : Op} {ty : TypeId} {pos : String} {after : Array Edge} {rest : List Oper} {want : Bool}
 (hs : jJ ops j = some dj) (hv : ρ.lookup dj = some (.bool !want)) (hd : Nat.blt d n = true) (hr : TL P G ops n ((d, undef) :: ρ) L rest Q) :
 TL P G ops n ρ L (⟨some d, op, ty, pos, after, some (j, want)⟩ :: rest) Q :=
 ⟨fun a w he hw => wpList_step fun K hK => by
   rw [KU he rfl hs hv, if_neg (by cases want <;> simp)]
   exact hK _ _ (hr.out _ _ (he.put d (by simpa using hd) undef) hw)⟩
theorem aam {c : Code} (ρ' : jn) {L' : jc} (hs : ∀ t v, ρ'.lookup t = some v → ρ.lookup t = some v) (hl : ∀ w, Heap G w L → Heap G w L') (h : T P G n ρ' L' c Q) : T P G n ρ L c Q :=
 ⟨fun a w he hw => h.out a w (he.weak hs) (hl w hw)⟩
theorem QW {ops : Array Oper} {l : List Oper} {L' : jc} (hl : ∀ w, Heap G w L → Heap G w L') (h : TL P G ops n ρ L' l Q) : TL P G ops n ρ L l Q := ⟨fun a w he hw => h.out a w he (hl w hw)⟩
theorem jr {e : Exit} {L' : jc} (hl : ∀ w, Heap G w L → Heap G w L') (h : TQ G n ρ L' e Q) : TQ G n ρ L e Q := ⟨fun a w he hw => h.out a w he (hl w hw)⟩
theorem Wq {c : Code} {L' : jc} (hl : ∀ w, Heap G w L → Heap G w L') (h : T P G n ρ L' c Q) : T P G n ρ L c Q := ⟨fun a w he hw => h.out a w he (hl w hw)⟩
def QX {σ : Type} (G : World) (n : Nat) (I : σ → Prop) (ρI : σ → jn) (LI : σ → jc) (μ : σ → Nat) (m : Nat) (a : Act) (w : World) : Prop := ∃ x, I x ∧ Env n (ρI x) a ∧ Heap G w (LI x) ∧ μ x < m
theorem ahL {σ : Type} {c : Code} (I : σ → Prop) (ρI : σ → jn) (LI : σ → jc) (μ : σ → Nat) (x0 : σ) (h0 : I x0) (hs : ∀ t v, (ρI x0).lookup t = some v → ρ.lookup t = some v) (hl : ∀ w, Heap G w L → Heap G w (LI x0))
 (round : ∀ x, I x → T P G n (ρI x) (LI x) c (Exit.then (QX G n I ρI LI μ (μ x)) Q)) : T P G n ρ L (.loop c) Q := by
 refine ⟨fun a w he hw b k cs => ?_⟩
 suffices H : ∀ m x, μ x = m → I x → ∀ a w, Env n (ρI x) a → Heap G w (LI x) → ∃ e a' w', Q e a' w' ∧ Arrives P (lone (b.at a (.code c :: .inLoop c :: k)) cs w) b k cs e a' w' by
  obtain ⟨e, a', w', hq, harr⟩ := H _ x0 rfl h0 a w (he.weak hs) (hl w hw)
  exact ⟨e, a', w', hq, .of_steps (.one step_loop) harr⟩
 intro m
 induction m using Nat.strongRecOn with
 | _ m ih =>
   intro x hx hI a w he hw
   obtain ⟨e, a₁, w₁, hq, harr⟩ := (round x hI).out a w he hw b (.inLoop c :: k) cs
   cases e with
   | normal =>
     obtain ⟨x', hI', he', hw', hlt⟩ := hq
     obtain ⟨e₂, a₂, w₂, hq₂, harr₂⟩ := ih (μ x') (hx ▸ hlt) x' rfl hI' a₁ w₁ he' hw'
     exact ⟨e₂, a₂, w₂, hq₂, .of_steps (Steps.trans harr (.one step_inLoop)) harr₂⟩
   | exit id => exact ⟨_, a₁, w₁, hq, .pass (x := .inLoop c) rfl (fun _ _ => .inl (by simp)) harr⟩
   | goto l => exact ⟨_, a₁, w₁, hq, .pass (x := .inLoop c) rfl (fun _ _ => .inl (by simp)) harr⟩
   | ret => exact ⟨_, a₁, w₁, hq, .pass (x := .inLoop c) rfl (fun _ _ => .inl (by simp)) harr⟩
   | panic ch => exact ⟨_, a₁, w₁, hq, .pass (x := .inLoop c) rfl (fun _ _ => .inl (by simp)) harr⟩
   | outgrown => exact ⟨_, a₁, w₁, hq, .pass (x := .inLoop c) rfl (fun _ _ => .inl (by simp)) harr⟩
theorem adN {σ : Type} {I : σ → Prop} {ρI : σ → jn} {LI : σ → jc} {μ : σ → Nat} {m : Nat} (x : σ) (hI : I x) (hs : ∀ t v, (ρI x).lookup t = some v → ρ.lookup t = some v) (hl : ∀ w, Heap G w L → Heap G w (LI x)) (hm : μ x < m) :
 TQ G n ρ L .normal (Exit.then (QX G n I ρI LI μ m) Q) := ⟨fun _ w he hw => ⟨x, hI, he.weak hs, hl w hw, hm⟩⟩
def jU (G : World) (Φ : Value → jc → Prop) (e : Ending) (w : World) : Prop := ∃ v L', e = .returned v ∧ Φ v L' ∧ Heap G w L'
structure Spec (P : Program) (G : World) (f : FuncId) (args : Array Value) (L : jc) (Φ : Value → jc → Prop) : Prop where
 out : ∀ w, Heap G w L → Calls P f args w (jU G Φ)
def qC : Nat → List Value → jn
 | _, [] => []
 | k, v :: vs => (k, v) :: qC (k + 1) vs
theorem q9 : ∀ (vs : List Value) (k t : Nat) (v : Value), (qC k vs).lookup t = some v → k ≤ t ∧ vs[t - k]? = some v
 | [], _, _, _, h => by simp [qC] at h
 | u :: vs, k, t, v, h => by
   simp only [qC, List.lookup_cons] at h
   by_cases e : t = k
   · subst e
     simp at h
     subst h
     simp
   · have e' : (t == k) = false := by simpa using e
     rw [e'] at h
     have ⟨h1, h2⟩ := q9 vs (k + 1) t v h
     refine ⟨by omega, ?_⟩
     rw [show t - k = (t - (k + 1)) + 1 by omega, List.getElem?_cons_succ]
     exact h2
theorem ju {f : FuncId} {fn : Func} {c : Code} {args : Array Value} {Φ : Value → jc → Prop} (hf : P.funcs[f]? = some fn) (hb : fn.body = some c) (hn : fn.ntmps = n) (hs : Nat.ble args.size n = true)
 (h : T P G n (qC 0 args.toList) L c (bodyPost P fn (jU G Φ))) : Spec P G f args L Φ := by
 refine ⟨fun w hw => calls_of_wp hf hb (h.out _ _ ⟨?_, rfl, fun t v hv => ?_⟩ hw)⟩
 · have : args.size ≤ n := by simpa using hs
   simp [hn]
   omega
 · obtain ⟨_, h2⟩ := q9 args.toList 0 t v hv
   have h3 : args[t]? = some v := by simpa using h2
   have h4 := (Array.getElem?_eq_some_iff.1 h3).1
   show (args ++ _)[t]? = some v
   rw [Array.getElem?_append_left h4]
   exact h3
theorem Spec.mono {f : FuncId} {args : Array Value} {Φ Ψ : Value → jc → Prop} (h : Spec P G f args L Φ) (hi : ∀ v L', Φ v L' → Ψ v L') : Spec P G f args L Ψ :=
 ⟨fun w hw => (h.out w hw).mono fun _ _ ⟨v, L', h1, h2, h3⟩ => ⟨v, L', h1, hi v L' h2, h3⟩⟩
theorem Spec.heap {f : FuncId} {args : Array Value} {L' : jc} {Φ : Value → jc → Prop} (hl : ∀ w, Heap G w L → Heap G w L') (h : Spec P G f args L' Φ) : Spec P G f args L Φ := ⟨fun w hw => h.out w (hl w hw)⟩
theorem Spec.ofBelow {f : FuncId} {args : Array Value} {v : Value} (h : ∀ w, Calls P f args w fun e w' => e = .returned v ∧ Below w.heap.size w w') : Spec P G f args L fun u L' => u = v ∧ L' = L :=
 ⟨fun w hw => (h w).mono fun _ w' ⟨h1, h2⟩ => ⟨v, L, h1, ⟨rfl, rfl⟩, hw.still.trans ⟨h2.os, h2.tape, h2.output, h2.size⟩, hw.nodup, fun p hp => (h2.block p.1 (hw.lt hp)).trans (hw.get p hp)⟩⟩
theorem Spec.ofSame {f : FuncId} {args : Array Value} {v : Value} (h : ∀ w, Calls P f args w fun e w' => e = .returned v ∧ w = w') : Spec P G f args L fun u L' => u = v ∧ L' = L :=
 ⟨fun w hw => (h w).mono fun _ w' ⟨h1, h2⟩ => ⟨v, L, h1, ⟨rfl, rfl⟩, h2 ▸ hw⟩⟩
theorem Spec.below {f : FuncId} {args : Array Value} {w : World} {v : Value} (h : Spec P w f args (qG w) fun u L' => u = v ∧ L' = qG w) :
 Calls P f args w fun e w' => e = .returned v ∧ Below w.heap.size w w' :=
 (h.out w (Heap.all w)).mono fun e w' ⟨u, L', h1, ⟨h2, h3⟩, h4⟩ => by
   subst h2 h3
   refine ⟨h1, h4.still.os, h4.still.tape, h4.still.output, h4.still.size, fun k hk => ?_⟩
   have hg : w.heap[k]? = some w.heap[k] := Array.getElem?_eq_getElem hk
   rw [hg]
   exact h4.get _ (qj hg)
end
end
section
open Go.RowKit
variable {G : World} {P : Program} {n : Nat} {ρ : jn} {L : jc} {ty : TypeId}
theorem OpV.run {op : Op} {v : Value} {L' : jc} (h : ∀ r, zZ ρ r → ∀ w, Heap G w L → ∀ o : Oper, o.op = op → o.type = ty → ∃ w', (execOp r o).run P w = .ok (.value v) w' ∧ Heap G w' L') : OpV P G ρ L op ty v L' :=
 ⟨fun r hr w hw o ho ht => by
   obtain ⟨w', h1, h2⟩ := h r hr w hw o ho ht
   rw [h1]
   exact ⟨L', ⟨rfl, rfl⟩, h2⟩⟩
theorem OpV.pure {op : Op} {v : Value} (h : ∀ r, zZ ρ r → ∀ w, Heap G w L → ∀ o : Oper, o.op = op → o.type = ty → (execOp r o).run P w = .ok (.value v) w) : OpV P G ρ L op ty v L :=
 OpV.run fun r hr w hw o ho ht => ⟨w, h r hr w hw o ho ht, hw⟩
structure Has (w : World) (L : jc) : Prop where
 get : ∀ p, p ∈ L → w.heap[p.1]? = some p.2
theorem Has.cell {w : World} {L : jc} {b : Nat} {C : Array Value} {e : TypeId} {fr : Nat × Nat} (h : Has w L) (hm : (b, Obj.cells C e fr) ∈ L) {off : Nat} {v : Value} (hv : C[off]? = some v) :
 w.cell? ⟨b, off, none⟩ = some v := by
 unfold World.cell?
 rw [h.get _ hm]
 simpa using hv
theorem Heap.has {w : World} (h : Heap G w L) : Has w L := ⟨h.get⟩
structure OpQ (P : Program) (ρ : jn) (L : jc) (op : Op) (ty : TypeId) (v : Value) : Prop where
 out : ∀ r, zZ ρ r → ∀ w, Has w L → ∀ o : Oper, o.op = op → o.type = ty → (execOp r o).run P w = .ok (.value v) w
theorem OpQ.v {op : Op} {v : Value} (h : OpQ P ρ L op ty v) : OpV P G ρ L op ty v L := .pure fun r hr w hw o ho ht => h.out r hr w hw.has o ho ht
theorem qk {x : Operand} {v : Value} (hx : ev ρ x = some v) : OpQ P ρ L (.move x) ty v :=
 ⟨fun r hr w hw o ho _ => by simp [execOp, ho, hr x v hx]⟩
theorem uh {x : Operand} {v : Value} (hx : ev ρ x = some v) : OpQ P ρ L (.assign x) ty v :=
 ⟨fun r hr w hw o ho _ => by simp [execOp, ho, hr x v hx]⟩
theorem QY {c a b : Operand} {t : Bool} {v : Value} (hc : ev ρ c = some (.bool t)) (hv : ev ρ (if t then a else b) = some v) : OpQ P ρ L (.pick c a b) ty v :=
 ⟨fun r hr w hw o ho _ => by
   have h1 := hr _ _ hv
   simp [execOp, ho, hr _ _ hc, asBool]
   cases t <;> simpa using h1⟩
theorem uV {x : Operand} {vs : Array Value} {i : Nat} {v : Value} (hx : ev ρ x = some (.tuple vs)) (hv : vs[i]? = some v) : OpQ P ρ L (.extract x i) ty v :=
 ⟨fun r hr w hw o ho _ => by simp [execOp, ho, hr _ _ hx, Instr.extract, hv]⟩
theorem Qs {x : Operand} {a : Addr} (hx : ev ρ x = some (.pointer (some a))) : OpQ P ρ L (.nilCheck x) ty (.pointer (some a)) :=
 ⟨fun r hr w hw o ho _ => by simp [execOp, ho, hr _ _ hx]⟩
theorem Ws {x : Operand} {t : TypeId} {b : Bool} (hx : ev ρ x = some (.bool b)) : OpQ P ρ L (.unOp .not t x) ty (.bool (!b)) :=
 ⟨fun r hr w hw o ho _ => by simp [execOp, ho, hr _ _ hx, Op.unary]⟩
def InK : IntKind → Int → Prop
 | .i64, a => -9223372036854775808 ≤ a ∧ a ≤ 9223372036854775807
 | .u8, a => 0 ≤ a ∧ a ≤ 255
 | .u16, a => 0 ≤ a ∧ a ≤ 65535
 | .u32, a => 0 ≤ a ∧ a ≤ 4294967295
 | .u64, a => 0 ≤ a ∧ a ≤ 18446744073709551615
 | .i32, a => -2147483648 ≤ a ∧ a ≤ 2147483647
 | _, _ => False
theorem zC {k : IntKind} {a : Int} (h : InK k a) : k.wrap a = a := by
 cases k <;> first | exact IntWalk.i64_in _ h | exact IntWalk.u8_in _ h | exact IntWalk.u16_in _ h | exact IntWalk.u32_in _ h | exact IntWalk.u64_in _ h | exact IntWalk.i32_in _ h | exact h.elim
structure Bin (P : Program) (op : BinOp) (t : TypeId) (a b v : Value) : Prop where
 out : ∀ (x y : Operand) w, (do eqGuard op t x y a b; binOp op t a b : Sem Value).run P w = .ok v w
theorem kF {op : BinOp} {t yt : TypeId} {x y : Operand} {a b v : Value} (hx : ev ρ x = some a) (hy : ev ρ y = some b) (h : Bin P op t a b v) : OpQ P ρ L (.binOp op t x y yt) ty v :=
 ⟨fun r hr w hw o ho _ => by
   have h1 := h.out x y w
   simp only [execOp, ho, hr _ _ hx, hr _ _ hy]
   rw [Sem.run_bind, h1]
   rfl⟩
section
variable {t : TypeId} {k : IntKind} {a b : Int}
theorem Wt (h : InK k (a + b)) : Bin P .add t (.int k a) (.int k b) (.int k (a + b)) := ⟨fun x y w => by simp [eqGuard, binOp, Op.intArith, zC h]⟩
theorem af3 (h : InK k (a - b)) : Bin P .sub t (.int k a) (.int k b) (.int k (a - b)) := ⟨fun x y w => by simp [eqGuard, binOp, Op.intArith, zC h]⟩
theorem af4 (h : InK k (a * b)) : Bin P .mul t (.int k a) (.int k b) (.int k (a * b)) := ⟨fun x y w => by simp [eqGuard, binOp, Op.intArith, zC h]⟩
theorem Ys : Bin P .add t (.int k a) (.int k b) (.int k (k.wrap (a + b))) := ⟨fun x y w => by simp [eqGuard, binOp, Op.intArith]⟩
theorem Ui : Bin P .sub t (.int k a) (.int k b) (.int k (k.wrap (a - b))) := ⟨fun x y w => by simp [eqGuard, binOp, Op.intArith]⟩
theorem Yt : Bin P .mul t (.int k a) (.int k b) (.int k (k.wrap (a * b))) := ⟨fun x y w => by simp [eqGuard, binOp, Op.intArith]⟩
theorem af5 (h1 : 0 ≤ a) (h2 : 1 ≤ b) (h : InK k (a / b)) : Bin P .quo t (.int k a) (.int k b) (.int k (a / b)) := ⟨fun x y w => by
 have hb : b ≠ 0 := by omega
 simp [eqGuard, binOp, Op.intDiv, hb, Int.tdiv_eq_ediv_of_nonneg h1, zC h]⟩
theorem abB (h1 : 0 ≤ a) (h2 : 1 ≤ b) : Bin P .rem t (.int k a) (.int k b) (.int k (a % b)) := ⟨fun x y w => by
 have hb : b ≠ 0 := by omega
 simp [eqGuard, binOp, Op.intDiv, hb, Int.tmod_eq_emod_of_nonneg h1]⟩
theorem Wu : Bin P .eql t (.int k a) (.int k b) (.bool (a == b)) := ⟨fun x y w => by simp [eqGuard, binOp, Op.intCmp]⟩
theorem Wv : Bin P .neq t (.int k a) (.int k b) (.bool (a != b)) := ⟨fun x y w => by simp [eqGuard, binOp, Op.intCmp]⟩
theorem QZ : Bin P .lss t (.int k a) (.int k b) (.bool (decide (a < b))) := ⟨fun x y w => by simp [eqGuard, binOp, Op.intCmp]⟩
theorem Ww : Bin P .leq t (.int k a) (.int k b) (.bool (decide (a ≤ b))) := ⟨fun x y w => by simp [eqGuard, binOp, Op.intCmp]⟩
theorem Wx : Bin P .gtr t (.int k a) (.int k b) (.bool (decide (b < a))) := ⟨fun x y w => by simp [eqGuard, binOp, Op.intCmp]⟩
theorem Wy : Bin P .geq t (.int k a) (.int k b) (.bool (decide (b ≤ a))) := ⟨fun x y w => by simp [eqGuard, binOp, Op.intCmp]⟩
end
def bs (l : List UInt8) : ByteArray := ⟨l.toArray⟩
@[simp] theorem aki (l : List UInt8) : (bs l).data.toList = l := rfl
@[simp] theorem aiX (l : List UInt8) : (bs l).toList = l := by rw [ByteArray.toList_eq]; rfl
@[simp] theorem ks (l : List UInt8) : (bs l).size = l.length := by simp [bs, ByteArray.size]
section
variable {t : TypeId} {a b : List UInt8}
theorem Yu : Bin P .eql t (.string (bs a)) (.string (bs b)) (.bool (a == b)) := ⟨fun x y w => by simp [eqGuard, binOp, Op.stringOp]⟩
theorem Yv : Bin P .neq t (.string (bs a)) (.string (bs b)) (.bool (!(a == b))) := ⟨fun x y w => by simp [eqGuard, binOp, Op.stringOp]⟩
theorem Yw : Bin P .lss t (.string (bs a)) (.string (bs b)) (.bool (Op.bytesLess a b)) := ⟨fun x y w => by simp [eqGuard, binOp, Op.stringOp]⟩
theorem Yx : Bin P .gtr t (.string (bs a)) (.string (bs b)) (.bool (!(Op.bytesLess a b || a == b))) := ⟨fun x y w => by simp [eqGuard, binOp, Op.stringOp]⟩
theorem acv : bs a ++ bs b = bs (a ++ b) := by
 apply ByteArray.ext
 simp [bs]
theorem yw (h : a.length + b.length ≤ 9223372036854775807) : Bin P .add t (.string (bs a)) (.string (bs b)) (.string (bs (a ++ b))) := ⟨fun x y w => by
 simp [eqGuard, binOp, Op.stringOp, acv]
 omega⟩
end
theorem ql (t : TypeId) (x y : Value) : Op.equal t x y = Op.equalIn (9999 + 1) t x y := rfl
theorem Kb {t : TypeId} {a b : Bool} (d : Nat) (w : World) (h : P.underlying t = some .bool) : (Op.equalIn (d + 1) t (.bool a) (.bool b)).run P w = .ok (a == b) w := by simp [Op.equalIn, run_underlying h]
theorem Qt {t e : TypeId} {a : Option Addr} (d : Nat) (w : World) (h : P.underlying t = some (.pointer e)) : (Op.equalIn (d + 1) t (.pointer a) (.pointer none)).run P w = .ok a.isNone w := by
 cases a <;> simp [Op.equalIn, run_underlying h]
theorem adO {t : TypeId} {a b : Bool} (h : P.underlying t = some .bool) : Bin P .eql t (.bool a) (.bool b) (.bool (a == b)) := ⟨fun x y w => by
 simp only [eqGuard, binOp, ql]
 simp [Kb 9999 w h]⟩
theorem adP {t : TypeId} {a b : Bool} (h : P.underlying t = some .bool) : Bin P .neq t (.bool a) (.bool b) (.bool (!(a == b))) := ⟨fun x y w => by
 simp only [eqGuard, binOp, ql]
 simp [Kb 9999 w h]⟩
theorem adQ {t e : TypeId} {a : Option Addr} (h : P.underlying t = some (.pointer e)) : Bin P .eql t (.pointer a) (.pointer none) (.bool a.isNone) := ⟨fun x y w => by
 simp only [eqGuard, binOp, ql]
 simp [Qt 9999 w h]⟩
theorem adR {t e : TypeId} {a : Option Addr} (h : P.underlying t = some (.pointer e)) : Bin P .neq t (.pointer a) (.pointer none) (.bool (!a.isNone)) := ⟨fun x y w => by
 simp only [eqGuard, binOp, ql]
 simp [Qt 9999 w h]⟩
theorem Yy {s d : TypeId} {sd : TypeDesc} {k k' : IntKind} {x : Operand} {a : Int} (hx : ev ρ x = some (.int k a)) (h1 : P.underlying s = some sd) (h2 : P.underlying d = some (.int k')) (h : InK k' a) :
 OpQ P ρ L (.convert s d x) ty (.int k' a) :=
 ⟨fun r hr w hw o ho _ => by simp [execOp, ho, hr _ _ hx, convert, run_underlying h1, run_underlying h2, Conv.intToInt, zC h]⟩
theorem Kc {s d : TypeId} {sd : TypeDesc} {k k' : IntKind} {x : Operand} {a : Int} (hx : ev ρ x = some (.int k a)) (h1 : P.underlying s = some sd) (h2 : P.underlying d = some (.int k')) :
 OpQ P ρ L (.convert s d x) ty (.int k' (k'.wrap a)) :=
 ⟨fun r hr w hw o ho _ => by simp [execOp, ho, hr _ _ hx, convert, run_underlying h1, run_underlying h2, Conv.intToInt]⟩
theorem Qu {s d : TypeId} {sd : TypeDesc} {x : Operand} {a : ByteArray} (hx : ev ρ x = some (.string a)) (h1 : P.underlying s = some sd) (h2 : P.underlying d = some .string) :
 OpQ P ρ L (.convert s d x) ty (.string a) :=
 ⟨fun r hr w hw o ho _ => by simp [execOp, ho, hr _ _ hx, convert, run_underlying h1, run_underlying h2]⟩
theorem kR {s d e : TypeId} {x : Operand} {b off cap : Nat} {C : Array Value} {te : TypeId} {fr : Nat × Nat} (l : List UInt8) {m : Nat} (hx : ev ρ x = some (.slice (some ⟨b, off, none⟩) m cap)) (hl : m = l.length)
 (h1 : P.underlying s = some (.slice e)) (he : P.underlying e = some (.int .u8)) (h2 : P.underlying d = some .string) (hm : (b, Obj.cells C te fr) ∈ L) (hc : ∀ j (hj : j < l.length), C[off + j]? = some (.int .u8 (l[j].toNat : Int))) :
 OpQ P ρ L (.convert s d x) ty (.string (bs l)) :=
 ⟨fun r hr w hw o ho _ => by
   subst hl
   simp [execOp, ho, hr _ _ hx]
   rw [run_convert_bytes_back w s d e ⟨b, off, none⟩ cap l h1 he h2 (fun j hj => by
    have : (⟨b, off, none⟩ : Addr).add j = ⟨b, off + j, none⟩ := by
     unfold Addr.add; split
     · rename_i h; subst h; rfl
     · rfl
    rw [this]; exact hw.cell hm (hc j hj))]
   rfl⟩
theorem z3 {s d e : TypeId} {x : Operand} {m c : Nat} (hx : ev ρ x = some (.slice none m c)) (h1 : P.underlying s = some (.slice e)) (he : P.underlying e = some (.int .u8)) (h2 : P.underlying d = some .string) :
 OpQ P ρ L (.convert s d x) ty (.string (bs [])) :=
 ⟨fun r hr w hw o ho _ => by
   simp [execOp, ho, hr _ _ hx, convert, run_underlying h1, run_underlying h2, run_underlying he, Conv.bytesToString]
   rfl⟩
theorem yI {x : Operand} {s : List UInt8} {t : TypeId} (hx : ev ρ x = some (.string (bs s))) (ht : P.underlying t = some .string) : OpQ P ρ L (.call ⟨.builtin .len, #[x], #[t]⟩) ty (.int .i64 s.length) :=
 ⟨fun r hr w hw o ho _ => by simp [execOp, ho, hr _ _ hx, resolve, invoke, builtin, Builtin.len_, run_underlying ht, goInt]⟩
theorem uF {x : Operand} {a : Option Addr} {m c : Nat} {t e : TypeId} (hx : ev ρ x = some (.slice a m c)) (ht : P.underlying t = some (.slice e)) : OpQ P ρ L (.call ⟨.builtin .len, #[x], #[t]⟩) ty (.int .i64 m) :=
 ⟨fun r hr w hw o ho _ => by simp [execOp, ho, hr _ _ hx, resolve, invoke, builtin, Builtin.len_, run_underlying ht, goInt]⟩
theorem kT (b o j : Nat) : (⟨b, o, none⟩ : Addr).add j = ⟨b, o + j, none⟩ := by
 unfold Addr.add; split
 · rename_i h; subst h; rfl
 · rfl
theorem Kd {x y : Operand} {s : List UInt8} {i : Int} {k : IntKind} {c : UInt8} {t : TypeId} (hx : ev ρ x = some (.string (bs s))) (hy : ev ρ y = some (.int k i)) (ht : P.underlying t = some .string) (h0 : 0 ≤ i) (hc : s[i.toNat]? = some c) :
 OpQ P ρ L (.index t x y) ty (.int .u8 (c.toNat : Int)) :=
 ⟨fun r hr w hw o ho _ => by
   have : (bs s)[i.toNat]? = some c := by
    obtain ⟨h1, h2⟩ := List.getElem?_eq_some_iff.1 hc
    rw [getElem?_pos (bs s) i.toNat (by rw [ks]; exact h1), ← h2]
    rfl
   simp [execOp, ho, hr _ _ hx, hr _ _ hy, Instr.index, asIntOf, run_underlying ht, h0, this]⟩
theorem uG {x y : Operand} {b off m c sz : Nat} {i : Int} {k : IntKind} {t e : TypeId} {ti : TypeInfo} (hx : ev ρ x = some (.slice (some ⟨b, off, none⟩) m c)) (hy : ev ρ y = some (.int k i))
 (ht : P.underlying t = some (.slice e)) (hi : P.info? e = some ti) (hz : ti.size = sz) (h0 : 0 ≤ i) (h1 : i < m) : OpQ P ρ L (.indexAddr t x y) ty (.pointer (some ⟨b, off + i.toNat * sz, none⟩)) :=
 ⟨fun r hr w hw o ho _ => by simp [execOp, ho, hr _ _ hx, hr _ _ hy, Instr.indexAt, asIntOf, run_underlying ht, h0, h1, sizeOf, typeInfo, hi, hz, kT]⟩
theorem Wz {x : Operand} {b off : Nat} {s f : Nat} {fs : Array Field} {fi : Field} {ti : TypeInfo} {fo : Nat} (hx : ev ρ x = some (.pointer (some ⟨b, off, none⟩)))
 (ht : P.underlying s = some (.struct fs)) (hf : fs[f]? = some fi) (hi : P.info? fi.type = some ti) (hz : Nat.beq ti.size 0 = false) (hfo : fi.offset = fo) :
 OpQ P ρ L (.fieldAddr s x f) ty (.pointer (some ⟨b, off + fo, none⟩)) :=
 ⟨fun r hr w hw o ho _ => by
   have hz' : ti.size ≠ 0 := Nat.ne_of_beq_eq_false hz
   simp [execOp, ho, hr _ _ hx, Instr.fieldAt, run_underlying ht, hf, Instr.sureAddr, fieldPlace, sizeOf, typeInfo, hi, hz', kT, hfo]⟩
def KV : TypeDesc → Bool
 | .struct _ | .array _ _ => false
 | _ => true
theorem af6 {x : Operand} {b off : Nat} {t : TypeId} {d : TypeDesc} {C : Array Value} {te : TypeId} {fr : Nat × Nat} {v : Value} (hx : ev ρ x = some (.pointer (some ⟨b, off, none⟩)))
 (ht : P.underlying t = some d) (hd : KV d = true) (hm : (b, Obj.cells C te fr) ∈ L) (hv : C[off]? = some v) : OpQ P ρ L (.load t x) ty v :=
 ⟨fun r hr w hw o ho _ => by
   have hc := hw.cell hm hv
   have ha : (isAgg t).run P w = .ok false w := by
    unfold isAgg
    simp [run_underlying ht]
    cases d <;> first | rfl | cases hd
   simp [execOp, ho, hr _ _ hx, Instr.loadAt, Instr.sureAddr, loadVar, ha, load, Sem.run, hc]⟩
theorem Heap.store {w : World} {b off : Nat} {C : Array Value} {te : TypeId} {v : Value} (h : Heap G w ((b, Obj.cells C te (0, 0)) :: L)) : Heap G (w.setCell ⟨b, off, none⟩ v) ((b, Obj.cells (C.setIfInBounds off v) te (0, 0)) :: L) := by
 have h0 := h.get _ (List.mem_cons_self ..)
 refine h.update ⟨rfl, rfl, rfl, by simp [World.setCell]⟩ ?_ (fun j hj hne => Below.heap_setCell w _ v j hne)
 show (w.heap.modify b _)[b]? = _
 rw [Array.getElem?_modify, if_pos rfl, h0]
 rfl
theorem jl {ops : Array Oper} {d : Nat} {op : Op} {pos : String} {after : Array Edge} {rest : List Oper} {v : Value} {Q : Exit → Act → World → Prop}
 (h : OpQ P ρ L op ty v) (hd : Nat.blt d n = true) (hr : TL P G ops n ((d, v) :: ρ) L rest Q) : TL P G ops n ρ L (⟨some d, op, ty, pos, after, none⟩ :: rest) Q := ji h.v hd hr
theorem ai9 {ops : Array Oper} {d j dj : Nat} {op : Op} {pos : String} {after : Array Edge} {rest : List Oper} {v : Value} {want : Bool} {Q : Exit → Act → World → Prop}
 (hs : jJ ops j = some dj) (hv : ρ.lookup dj = some (.bool want))
 (h : OpQ P ρ L op ty v) (hd : Nat.blt d n = true) (hr : TL P G ops n ((d, v) :: ρ) L rest Q) : TL P G ops n ρ L (⟨some d, op, ty, pos, after, some (j, want)⟩ :: rest) Q := akx hs hv h.v hd hr
theorem adS {x y : Operand} {b off : Nat} {t : TypeId} {ti : TypeInfo} {C : Array Value} {te : TypeId} {v u : Value} (hx : ev ρ x = some (.pointer (some ⟨b, off, none⟩))) (hy : ev ρ y = some v)
 (hi : P.info? t = some ti) (hz : ti.size = 1) (hone : v.oneCell' = true) (hv : C[off]? = some u) : OpV P G ρ ((b, Obj.cells C te (0, 0)) :: L) (.store t x y) ty undef ((b, Obj.cells (C.setIfInBounds off v) te (0, 0)) :: L) :=
 ⟨fun r hr w hw o ho _ => by
   have hc := hw.cell (List.mem_cons_self ..) hv
   have hf : w.frozen? ⟨b, off, none⟩ = false := by unfold World.frozen?; rw [hw.get _ (List.mem_cons_self ..)]; simp
   have hrun : (execOp r o).run P w = .ok .skip (w.setCell ⟨b, off, none⟩ v) := by
    simp only [execOp, ho, hr _ _ hx, hr _ _ hy]
    cases v <;> first | (cases hone; done) | simp [Instr.storeAt, Instr.sureAddr, storeVar, sizeOf, typeInfo, hi, hz, Value.cells, storeCells, kT, store, Sem.run, hc, hf]
   rw [hrun]
   exact ⟨_, ⟨rfl, rfl⟩, hw.store⟩⟩
end
section
open Go.RowKit Go.Lib
variable {G : World} {P : Program} {n : Nat} {ρ : jn} {L : jc} {ty : TypeId} {Q : Exit → Act → World → Prop}
theorem VA {α : Type} : ∀ {L : List α} (i : Nat) (p : α), L[i]? = some p → L.Perm (p :: L.eraseIdx i)
 | [], _, _, h => by simp at h
 | x :: L, 0, p, h => by simp at h; subst h; exact List.Perm.refl _
 | x :: L, i + 1, p, h => by
   have := VA (L := L) i p (by simpa using h)
   exact (this.cons x).trans (List.Perm.swap _ _ _)
theorem Heap.pick {w : World} {L : jc} (i : Nat) (p : Nat × Obj) (hp : L[i]? = some p) (h : Heap G w L) : Heap G w (p :: L.eraseIdx i) :=
 h.perm (VA i p hp)
theorem ku {ops : Array Oper} {l : List Oper} {L' : jc} (he : L.Perm L') (h : TL P G ops n ρ L' l Q) : TL P G ops n ρ L l Q := QW (fun w hw => hw.perm he) h
abbrev OpNew (P : Program) (G : World) (ρ : jn) (L : jc) (op : Op) (ty : TypeId) (mk : Nat → Value) (o : Obj) : Prop := OpT P G ρ L op ty fun v L' => ∃ b, v = mk b ∧ L' = (b, o) :: L
theorem OpNew.run {op : Op} {mk : Nat → Value} {ob : Obj} (h : ∀ r, zZ ρ r → ∀ w, ∀ o : Oper, o.op = op → o.type = ty → (execOp r o).run P w = .ok (.value (mk w.heap.size)) (w.alloc ob)) : OpNew P G ρ L op ty mk ob :=
 ⟨fun r hr w hw o ho ht => by
   rw [h r hr w o ho ht]
   exact ⟨_, ⟨w.heap.size, rfl, rfl⟩, hw.alloc ob⟩⟩
theorem kM {ops : Array Oper} {d : Nat} {op : Op} {pos : String} {after : Array Edge} {rest : List Oper} {mk : Nat → Value} {ob : Obj}
 (h : OpNew P G ρ L op ty mk ob) (hd : Nat.blt d n = true) (hr : ∀ b, TL P G ops n ((d, mk b) :: ρ) ((b, ob) :: L) rest Q) : TL P G ops n ρ L (⟨some d, op, ty, pos, after, none⟩ :: rest) Q :=
 jX h hd fun _ _ ⟨b, h1, h2⟩ => h1 ▸ h2 ▸ hr b
def uC (P : Program) (t : TypeId) : Option Value := (P.info? t).bind (·.zero)
theorem kG {t : TypeId} {z : Value} (h : uC P t = some z) (w : World) : (zeroValue t).run P w = .ok z w := by
 unfold uC at h
 cases hi : P.info? t with
 | none => simp [hi] at h
 | some i =>
   simp [hi] at h
   simp [zeroValue, typeInfo, hi, h]
theorem Uj {t : TypeId} {z : Value} {C : Array Value} (h : uC P t = some z) (hc : z.cells = C) : OpNew P G ρ L (.alloc t) ty (fun b => .pointer (some ⟨b, 0, none⟩)) (.cells C t (0, 0)) :=
 .run fun r hr w o ho _ => by
  simp [execOp, ho, Instr.alloc, kG h w, newVar, newRow, hc]
theorem aan {t : TypeId} {x : Operand} {v : Value} {C : Array Value} (hx : ev ρ x = some v) (hc : v.cells = C) : OpNew P G ρ L (.box t x) ty (fun b => .pointer (some ⟨b, 0, none⟩)) (.cells C t (0, 0)) :=
 .run fun r hr w o ho _ => by
  simp [execOp, ho, hr _ _ hx, Instr.box, newVar, newRow, hc]
def ua (ρ : jn) : List (Nat × Operand) → Option (List (Nat × Value))
 | [] => some []
 | (i, x) :: r => match ev ρ x, ua ρ r with
   | some v, some vs => some ((i, v) :: vs)
   | _, _ => none
theorem zf {ρ : jn} {r : Operand → Value} (hr : zZ ρ r) : ∀ (l : List (Nat × Operand)) (vs : List (Nat × Value)), ua ρ l = some vs → l.map (fun p => (p.1, r p.2)) = vs
 | [], vs, h => by simp [ua] at h; simp [h]
 | (i, x) :: l, vs, h => by
   simp only [ua] at h
   cases h1 : ev ρ x with
   | none => simp [h1] at h
   | some v =>
     cases h2 : ua ρ l with
     | none => simp [h1, h2] at h
     | some us =>
       simp [h1, h2] at h
       subst h
       simp [hr x v h1, zf hr l us h2]
structure RowLit (P : Program) (t : TypeId) (len : Nat) (vs : List (Nat × Value)) (e : TypeId) (C : Array Value) : Prop where
 out : ∀ w, (Instr.buildSlice t len vs.toArray).run P w = .ok (.slice (some ⟨w.heap.size, 0, none⟩) len len) (w.alloc (.cells C e (0, 0)))
theorem qb {t e : TypeId} {len : Nat} {ps : List (Nat × Operand)} {vs : List (Nat × Value)} {C : Array Value} (hp : ua ρ ps = some vs) (h : RowLit P t len vs e C) :
 OpNew P G ρ L (.buildSlice t len ps.toArray) ty (fun b => .slice (some ⟨b, 0, none⟩) len len) (.cells C e (0, 0)) :=
 .run fun r hr w o ho _ => by
  have := h.out w
  rw [← zf hr ps vs hp] at this
  simp [execOp, ho]
  rw [this]
  rfl
theorem af7 {t e : TypeId} {v z : Value} {ti : TypeInfo} (ht : P.underlying t = some (.slice e)) (hi : P.info? e = some ti) (hz : ti.size = 1) (h0 : ti.zero = some z) (hzc : z.cells.size = 1) (hone : v.oneCell' = true) : RowLit P t 1 [(0, v)] e #[v] :=
 ⟨fun w => by
   obtain ⟨zc, hzc'⟩ : ∃ zc, z.cells = #[zc] := by
    match hh : z.cells, hzc with
    | ⟨[a]⟩, _ => exact ⟨a, rfl⟩
   have hv : v.cells = #[v] := by cases v <;> first | rfl | cases hone
   have hr1 : Array.range 1 = #[0] := by decide
   simp [Instr.buildSlice, run_underlying ht, sizeOf, typeInfo, hi, hz, zeroValue, h0, hzc', Instr.fill, hv, newRow, hr1]⟩
structure Built (P : Program) (t : TypeId) (vs : List (Nat × Value)) (v : Value) : Prop where
 out : ∀ w, (Instr.build t vs.toArray).run P w = .ok v w
theorem ja {t : TypeId} {ps : List (Nat × Operand)} {vs : List (Nat × Value)} {v : Value} (hp : ua ρ ps = some vs) (h : Built P t vs v) : OpQ P ρ L (.build t ps.toArray) ty v :=
 ⟨fun r hr w hw o ho _ => by
   have := h.out w
   rw [← zf hr ps vs hp] at this
   simp [execOp, ho]
   rw [this]
   rfl⟩
structure ElemTy (P : Program) (t e : TypeId) (sz bytes : Nat) (z : Value) : Prop where
 und : P.underlying t = some (.slice e)
 info : ∃ i, P.info? e = some i ∧ i.zero = some z ∧ i.size = sz ∧ i.bytes = bytes
 cells : z.cells.size = sz
 pos : 0 < sz
structure Row (e : TypeId) (sz : Nat) (v : Value) (m : Nat) (xs : List Value) (B : jc) : Prop where
 len : xs.length = m * sz
 is : (v = .slice none 0 0 ∧ m = 0 ∧ B = []) ∨ ∃ b cap cur, v = .slice (some ⟨b, 0, none⟩) m cap ∧ B = [(b, .cells cur e (0, 0))] ∧ m ≤ cap ∧ cap ≤ maxLen ∧ cur.size = cap * sz ∧ cur.toList.take (m * sz) = xs
theorem Row.nil (e : TypeId) (sz : Nat) : Row e sz (.slice none 0 0) 0 [] [] := ⟨by simp, Or.inl ⟨rfl, rfl, rfl⟩⟩
theorem Row.slice {e : TypeId} {sz : Nat} {v : Value} {m : Nat} {xs : List Value} {B : jc} (h : Row e sz v m xs B) : ∃ a c, v = .slice a m c := by
 rcases h.is with ⟨h1, h2, _⟩ | ⟨b, cap, _, h1, _⟩
 · exact ⟨none, 0, by rw [h1, h2]⟩
 · exact ⟨_, _, h1⟩
theorem Row.owns {e : TypeId} {sz : Nat} {v : Value} {m : Nat} {xs : List Value} {B : jc} (h : Row e sz v m xs B) {w : World} (hw : Heap G w (B ++ L)) : w.ownsRow 0 e sz v m xs := by
 refine ⟨h.len, ?_⟩
 rcases h.is with ⟨h1, h2, _⟩ | ⟨b, cap, cur, h1, h2, h3, h4, h5, h6⟩
 · exact Or.inl ⟨h1, h2⟩
 · subst h2
   exact Or.inr ⟨b, cap, cur, h1, Nat.zero_le _, hw.get (b, .cells cur e (0, 0)) (List.mem_append_left _ (List.mem_cons_self ..)), h3, h4, h5, h6⟩
theorem Row.after {e : TypeId} {sz : Nat} {v v' : Value} {m m' : Nat} {xs xs' : List Value} {B : jc} (h : Row e sz v m xs B) {w w' : World} (hw : Heap G w (B ++ L)) (ho : w'.ownsRow 0 e sz v' m' xs') (hg : w.grownBy w' v.ownBlock)
 (hat : v'.ownBlock = v.ownBlock ∨ v'.ownBlock = some w.heap.size) : ∃ B', Row e sz v' m' xs' B' ∧ Heap G w' (B' ++ L) := by
 have hst : Still w w' := ⟨hg.os, hg.tape, hg.output, hg.size⟩
 have hL : Heap G w L := hw.sub (List.sublist_append_right _ _)
 have hkeep : ∀ p, p ∈ L → w'.heap[p.1]? = some p.2 := fun p hp => by
  rw [hg.block p.1 (hL.lt hp) ?_]
  · exact hL.get p hp
  · rcases h.is with ⟨h1, _, _⟩ | ⟨b, cap, cur, h1, h2, _⟩
    · rw [h1]; simp [Value.ownBlock]
    · rw [h1]
      subst h2
      have := Heap.ne (b := b) (o := .cells cur e (0, 0)) (L := L) hw hp
      simpa [Value.ownBlock] using this
 rcases ho.2 with ⟨h1, h2⟩ | ⟨g, cap, cur, h1, _, hgc, h3, h4, h5, h6⟩
 · exact ⟨[], ⟨ho.1, Or.inl ⟨h1, h2, rfl⟩⟩, hL.still.trans hst, hL.nodup, hkeep⟩
 · refine ⟨[(g, .cells cur e (0, 0))], ⟨ho.1, Or.inr ⟨g, cap, cur, h1, rfl, h3, h4, h5, h6⟩⟩, hL.still.trans hst, ?_, fun p hp => ?_⟩
   · show ((g : Nat) :: L.map (·.1)).Nodup
     rw [List.nodup_cons]
     refine ⟨fun hm => ?_, hL.nodup⟩
     obtain ⟨p, hp, he⟩ := List.mem_map.1 hm
     rw [h1] at hat
     simp only [Value.ownBlock] at hat
     rcases hat with hat | hat
     · rcases h.is with ⟨q1, _, _⟩ | ⟨b, cap, cur, q1, q2, _⟩
       · rw [q1] at hat; simp at hat
       · rw [q1] at hat
         simp at hat
         subst q2
         exact Heap.ne (b := b) (o := .cells cur e (0, 0)) (L := L) hw hp (he.trans hat)
     · have := hL.lt hp
       simp at hat
       omega
   · rcases List.mem_cons.1 hp with rfl | hp
     · exact hgc
     · exact hkeep p hp
def Src (L : jc) (u : Value) (m : Nat) (news : List Value) (sz : Nat) : Prop :=
 news.length = m * sz ∧ (∀ x ∈ news, x.oneCell' = true) ∧ ((∃ c, u = .slice none 0 c ∧ m = 0) ∨ ∃ b off c C te fr, u = .slice (some ⟨b, off, none⟩) m c ∧ (b, Obj.cells C te fr) ∈ L ∧ ∀ j x, news[j]? = some x → C[off + j]? = some x)
theorem adT (w : World) (t ty e : TypeId) (i : TypeInfo) (c : Nat) (ht : P.underlying t = some (.slice e)) (hi : P.info? e = some i) (base : Nat) (size : Nat)
 (v : Value) (m : Nat) (xs : List Value) (hown : w.ownsRow base e size v m xs) : (Builtin.append_ #[t, t] ty #[v, .slice none 0 c]).run P w = .ok v w := by
 rcases hown.2 with ⟨rfl, rfl⟩ | ⟨g, cap, cur, rfl, _, _, hnc, _⟩
 · simp [Builtin.append_, run_underlying ht, sizeOf, typeInfo, hi, Builtin.lenOf, Builtin.firstCells]
 · simp [Builtin.append_, run_underlying ht, sizeOf, typeInfo, hi, Builtin.lenOf, Builtin.firstCells, hnc, storeCells]
theorem zD {s x : Operand} {t e : TypeId} {sz bytes : Nat} {z v u : Value} {m k : Nat} {xs news : List Value} {B : jc} (E : ElemTy P t e sz bytes z) (hs : ev ρ s = some v) (hx : ev ρ x = some u)
 (hrow : Row e sz v m xs B) (hsrc : Src L u k news sz) (h63 : m + k ≤ maxLen) (hby : (m + k) * bytes ≤ 140737488355328) :
 OpT P G ρ (B ++ L) (.call ⟨.builtin .append, #[s, x], #[t, t]⟩) ty fun v' L' => ∃ B', Row e sz v' (m + k) (xs ++ news) B' ∧ L' = B' ++ L :=
 ⟨fun r hr w hw o ho _ => by
   obtain ⟨i, hi, hz0, hz1, hz2⟩ := E.info
   have hown := hrow.owns hw
   have key : ∃ v' w', (Builtin.append_ #[t, t] o.type #[v, u]).run P w = .ok v' w' ∧ w'.ownsRow 0 e sz v' (m + k) (xs ++ news) ∧ w.grownBy w' v.ownBlock ∧ (v'.ownBlock = v.ownBlock ∨ v'.ownBlock = some w.heap.size) := by
    obtain ⟨hl, hone, ⟨c, rfl, rfl⟩ | ⟨b, off, c, C, te, fr, rfl, hm, hc⟩⟩ := hsrc
    · have : news = [] := List.eq_nil_of_length_eq_zero (by simpa using hl)
      subst this
      exact ⟨v, w, adT w t o.type e i c E.und hi 0 sz v m xs hown, by simpa using hown, ⟨rfl, rfl, rfl, Nat.le_refl _, fun _ _ _ => rfl⟩, Or.inl rfl⟩
    · obtain ⟨v', w', q1, q2, q3, _, q5⟩ := run_append_own_at w 0 t o.type e i z sz bytes E.und hi hz0 hz1 hz2 E.cells E.pos v m xs hown ⟨b, off, none⟩ k c news hl
       (fun j y hj => by rw [kT]; exact hw.cell (List.mem_append_right _ hm) (hc j y hj)) hone h63 hby (Nat.zero_le _)
      exact ⟨v', w', q1, q2, q3, q5⟩
   obtain ⟨v', w', hrun, q2, q3, q4⟩ := key
   obtain ⟨B', hB, hH⟩ := hrow.after hw q2 q3 q4
   have : (execOp r o).run P w = .ok (.value v') w' := by
    simp [execOp, ho, hr _ _ hs, hr _ _ hx, resolve, invoke, builtin, hrun, Result.andThen]
   rw [this]
   exact ⟨_, ⟨B', hB, rfl⟩, hH⟩⟩
theorem acw {ops : Array Oper} {d : Nat} {s x : Operand} {pos : String} {after : Array Edge} {rest : List Oper} {t e : TypeId} {sz bytes : Nat} {z v u : Value} {m k : Nat} {xs news : List Value} {B : jc} (E : ElemTy P t e sz bytes z)
 (hs : ev ρ s = some v) (hx : ev ρ x = some u) (hrow : Row e sz v m xs B) (hsrc : Src L u k news sz) (h63 : m + k ≤ maxLen) (hby : (m + k) * bytes ≤ 140737488355328) (hd : Nat.blt d n = true)
 (hr : ∀ v' B', Row e sz v' (m + k) (xs ++ news) B' → TL P G ops n ((d, v') :: ρ) (B' ++ L) rest Q) : TL P G ops n ρ (B ++ L) (⟨some d, .call ⟨.builtin .append, #[s, x], #[t, t]⟩, ty, pos, after, none⟩ :: rest) Q :=
 jX (zD E hs hx hrow hsrc h63 hby) hd fun v' _ ⟨B', h1, h2⟩ => h2 ▸ hr v' B' h1
theorem z4 {s x : Operand} {t e tu : TypeId} {v : Value} {m : Nat} {xs : List Value} {l : List UInt8} {B : jc} (E : ElemTy P t e 1 1 (.int .u8 0)) (hu : P.underlying tu = some .string) (hs : ev ρ s = some v) (hx : ev ρ x = some (.string (bs l)))
 (hrow : Row e 1 v m xs B) (h63 : m + l.length ≤ 140737488355328) :
 OpT P G ρ (B ++ L) (.call ⟨.builtin .append, #[s, x], #[t, tu]⟩) ty fun v' L' => ∃ B', Row e 1 v' (m + l.length) (xs ++ l.map fun c => Value.int .u8 (c.toNat : Int)) B' ∧ L' = B' ++ L :=
 ⟨fun r hr w hw o ho _ => by
   obtain ⟨i, hi, hz0, hz1, hz2⟩ := E.info
   have hown := hrow.owns hw
   have hml : m + (bs l).size ≤ maxLen := by rw [ks]; unfold maxLen; omega
   obtain ⟨v', w', hrun, q2, q3, _⟩ := run_append_own_string w 0 t tu o.type e i E.und hu hi hz0 hz1 hz2 v m xs hown (bs l) hml (by rw [ks]; exact h63) (Nat.zero_le _)
   have q4 : v'.ownBlock = v.ownBlock ∨ v'.ownBlock = some w.heap.size := by
    rcases hrow.is with ⟨h1, h2, _⟩ | ⟨b, cap, cur, h1, h2, h3, h4, h5, h6⟩
    · subst h1
      by_cases h0 : 0 < (bs l).size
      · have := run_append_nil_string (P := P) w t tu o.type e i (.int .u8 0) E.und hu hi hz0 (bs l) h0 (by rw [ks]; omega) (by rw [ks, hz2]; omega)
        rw [this] at hrun
        cases hrun
        exact Or.inr rfl
      · have hl0 : l = [] := List.eq_nil_of_length_eq_zero (by rw [ks] at h0; omega)
        subst hl0
        have : (Builtin.append_ #[t, tu] o.type #[.slice none 0 0, .string (bs [])]).run P w = .ok (.slice none 0 0) w := by
         simp [Builtin.append_, run_underlying E.und, run_underlying hu, sizeOf, typeInfo, hi, Builtin.lenOf, Builtin.firstCells]
        rw [this] at hrun
        cases hrun
        exact Or.inl rfl
    · subst h1
      subst h2
      have hg : w.heap[b]? = some (.cells cur e (0, 0)) := hw.get (b, .cells cur e (0, 0)) (List.mem_append_left _ (List.mem_cons_self ..))
      by_cases hroom : m + (bs l).size ≤ cap
      · have := run_append_room_string (P := P) w t tu o.type e i E.und hu hi hz1 b m cap cur hg (bs l) hroom (by rw [h5]; omega)
        rw [this] at hrun
        cases hrun
        exact Or.inl rfl
      · have hnx : Builtin.nextslicecap (m + (bs l).size) cap * i.bytes ≤ 281474976710656 := by
         rw [hz2, Nat.mul_one]
         exact Nat.le_trans (nextslicecap_le (by omega)) (by rw [ks]; omega)
        have := run_append_grow_string (P := P) w t tu o.type e i (.int .u8 0) E.und hu hi hz0 ⟨b, 0, none⟩ m cap xs (by rw [hz1]; exact hrow.len) (fun j u hj => by
         rw [kT, Nat.zero_add]
         refine hw.cell (List.mem_append_left _ (List.mem_cons_self ..)) ?_
         have hjl := (List.getElem?_eq_some_iff.1 hj).1
         have hlen := hrow.len
         rw [← h6, List.getElem?_take_of_lt (by omega)] at hj
         simpa using hj) (bs l) (by omega) (by rw [ks]; omega) hnx
        rw [this] at hrun
        cases hrun
        exact Or.inr rfl
   obtain ⟨B', hB, hH⟩ := hrow.after hw q2 q3 q4
   have : (execOp r o).run P w = .ok (.value v') w' := by
    simp [execOp, ho, hr _ _ hs, hr _ _ hx, resolve, invoke, builtin, hrun, Result.andThen]
   rw [this]
   rw [ks] at hB
   exact ⟨_, ⟨B', hB, rfl⟩, hH⟩⟩
theorem WA {x lo hi : Operand} {s : List UInt8} {k k' : IntKind} {i j : Int} {t : TypeId} (hx : ev ρ x = some (.string (bs s))) (hlo : ev ρ lo = some (.int k i)) (hhi : ev ρ hi = some (.int k' j)) (ht : P.underlying t = some .string)
 (h0 : 0 ≤ i) (h1 : i ≤ j) (h2 : j ≤ s.length) : OpQ P ρ L (.slice t x (some lo) (some hi) none) ty (.string (bs ((s.take j.toNat).drop i.toNat))) :=
 ⟨fun r hr w hw o ho _ => by
   have e : (bs s).extract i.toNat j.toNat = bs ((s.take j.toNat).drop i.toNat) := by
    apply ByteArray.ext
    rw [ByteArray.data_extract]
    simp [bs, List.extract_eq_take_drop, List.drop_take]
   have h3 : 0 ≤ j := by omega
   have e1 : ((j.toNat : Nat) : Int) = j := by omega
   simp [execOp, ho, hr _ _ hx, hr _ _ hlo, hr _ _ hhi, Instr.sliceAt, run_underlying ht, Instr.slice, Instr.sliceBounds, Instr.sliceBound, asIntOf, h0, h1, h2, h3, e, e1]⟩
theorem z5 {x lo : Operand} {s : List UInt8} {k : IntKind} {i : Int} {t : TypeId} (hx : ev ρ x = some (.string (bs s))) (hlo : ev ρ lo = some (.int k i)) (ht : P.underlying t = some .string)
 (h0 : 0 ≤ i) (h1 : i ≤ s.length) : OpQ P ρ L (.slice t x (some lo) none none) ty (.string (bs (s.drop i.toNat))) :=
 ⟨fun r hr w hw o ho _ => by
   have e : (bs s).extract i.toNat s.length = bs (s.drop i.toNat) := by
    apply ByteArray.ext
    rw [ByteArray.data_extract]
    simp [bs, List.extract_eq_take_drop]
    exact List.take_of_length_le (by simp)
   simp [execOp, ho, hr _ _ hx, hr _ _ hlo, Instr.sliceAt, run_underlying ht, Instr.slice, Instr.sliceBounds, Instr.sliceBound, asIntOf, h0, h1, e]⟩
def ke (P : Program) (f : FuncId) : Bool := match P.funcs[f]? with
 | some fn => !(fn.name == "runtime.NumGoroutine") && !fn.body.isNone
 | none => false
theorem qm {f : FuncId} {args : Array Value} (h : ke P f = true) (w : World) : (callFunc f args).run P w = .ok (.enter f args) w := by
 unfold ke at h
 cases hf : P.funcs[f]? with
 | none => simp [hf] at h
 | some fn =>
   simp only [hf, Bool.and_eq_true, Bool.not_eq_true'] at h
   have h1 : ¬ fn.name = "runtime.NumGoroutine" := by simpa using h.1
   have h2 : ¬ fn.body = none := by intro e; rw [e] at h; simp at h
   simp [callFunc, hf, h1, h2]
def kw (ρ : jn) : List Operand → Option (List Value)
 | [] => some []
 | x :: r => match ev ρ x, kw ρ r with
   | some v, some vs => some (v :: vs)
   | _, _ => none
theorem qn {ρ : jn} {r : Operand → Value} (hr : zZ ρ r) : ∀ (l : List Operand) (vs : List Value), kw ρ l = some vs → l.map r = vs
 | [], vs, h => by simp [kw] at h; simp [h]
 | x :: l, vs, h => by
   simp only [kw] at h
   cases h1 : ev ρ x with
   | none => simp [h1] at h
   | some v =>
     cases h2 : kw ρ l with
     | none => simp [h1, h2] at h
     | some us =>
       simp [h1, h2] at h
       subst h
       simp [hr x v h1, qn hr l us h2]
theorem jb {f : FuncId} {xs : List Operand} {ats : Array TypeId} {vs : List Value} {Φ : Value → jc → Prop} (hb : ke P f = true) (ha : kw ρ xs = some vs) (h : Spec P G f vs.toArray L Φ) :
 OpT P G ρ L (.call ⟨.value (.func f), xs.toArray, ats⟩) ty Φ :=
 ⟨fun r hr w hw o ho _ => by
   have hm := qn hr xs vs ha
   have hrf : r (.func f) = .func (.func f) #[] #[] := hr _ _ rfl
   have : execOp r o = callFunc f vs.toArray := by
    simp only [execOp, ho, resolve, hrf, Deferred.ofValue]
    show invoke (.fn (.func f) #[]) _ = _
    simp only [invoke, List.map_toArray, hm]
    simp
   rw [this, qm hb]
   refine (h.out w hw).mono fun e w' ⟨v, L', h1, h2, h3⟩ => ⟨v, h1, L', h2, h3⟩⟩
theorem af8 {fn : Func} {a : Act} {ρ : jn} (he : Env n ρ a) (t : Nat) (v : Value) (hr : fn.results = #[.tmp t]) (hv : ρ.lookup t = some v) (w : World) : (results fn a.tmps).run P w = .ok v w := by
 have h1 : a.tmps.getD t undef = v := he.reads (.tmp t) v hv
 simp only [results, hr]
 simp
 simpa using h1
theorem js {fn : Func} {Φ : Value → jc → Prop} (t : Nat) (v : Value) (hr : fn.results = #[.tmp t]) (hv : ρ.lookup t = some v) (h : Φ v L) : TQ G n ρ L .ret (bodyPost P fn (jU G Φ)) :=
 ⟨fun a w he hw => ⟨he.defers, v, af8 he t v hr hv w, v, L, rfl, h, hw⟩⟩
end
section
open Go.RowKit
variable {G : World} {P : Program} {n : Nat} {ρ : jn} {L : jc} {ty : TypeId} {Q : Exit → Act → World → Prop} {ops : Array Oper}
def bindD (dst : Option Nat) (v : Value) (ρ : jn) : jn := match dst with
 | some d => (d, v) :: ρ
 | none => ρ
theorem Env.bindD {a : Act} (h : Env n ρ a) {dst : Option Nat} (hd : ∀ d, dst = some d → d < n) (v : Value) : Env n (bindD dst v ρ) (a.put dst v) := by
 cases dst with
 | none => exact h
 | some d => exact h.put d (hd d rfl) v
def Yz (v : Value) (want : Bool) : Option Bool := match v with
 | .bool x => some (x == want)
 | .tuple _ => some false
 | _ => none
def Wants (ops : Array Oper) (ρ : jn) (o : Oper) (b : Bool) : Prop := match o.guard with
 | none => b = true
 | some (j, want) => ∃ dj x, jJ ops j = some dj ∧ ρ.lookup dj = some x ∧ Yz x want = some b
theorem YA {o : Oper} {j d : Nat} {b want : Bool} {x : Value} {a : Act} (he : Env n ρ a) (hg : o.guard = some (j, want)) (hs : jJ ops j = some d) (hv : ρ.lookup d = some x) (hx : Yz x want = some b) : Region.wanted o (yielded ops a.tmps) = b := by
 cases x <;> simp only [Yz, Option.some.injEq, reduceCtorEq] at hx
 · subst hx; exact KU he hg hs hv
 · subst hx
   have h1 := he.get d _ hv
   unfold Region.wanted
   rw [hg]
   simp only [jJ] at hs
   simp [yielded, hs, h1]
theorem Wants.wanted {o : Oper} {b : Bool} (h : Wants ops ρ o b) {a : Act} (he : Env n ρ a) : Region.wanted o (yielded ops a.tmps) = b := by
 unfold Wants at h
 split at h
 · rename_i hg; subst h; simp [Region.wanted, hg]
 · rename_i j want hg
   obtain ⟨dj, x, h1, h2, h3⟩ := h
   exact YA he hg h1 h2 h3
def VB (P : Program) (G : World) (ops : Array Oper) (n : Nat) (ρ : jn) (L : jc) (i : Nat) (keep : jc → Prop) (next : jn → jc → Prop) : Prop :=
 ∃ o, ops[i]? = some o ∧ (∀ d, o.dst = some d → d < n) ∧ ∃ b, Wants ops ρ o b ∧
  ((b = true ∧ ∃ Φ, OpT P G ρ L o.op o.type Φ ∧ ∀ v L', Φ v L' → keep L' ∧ next (bindD o.dst v ρ) L') ∨ (b = false ∧ keep L ∧ next (bindD o.dst undef ρ) L))
def TA (P : Program) (G : World) (ops : Array Oper) (n : Nat) (K : jc) (W : List Nat) (Q : Exit → Act → World → Prop) : Nat → Array Bool → jn → jc → Prop
 | 0, listed, ρ, L => Region.ready .any ops listed = [] ∧ TQ G n ρ L .normal Q
 | fuel + 1, listed, ρ, L => (Region.ready .any ops listed = [] → TQ G n ρ L .normal Q) ∧
   ∀ i ∈ Region.ready .any ops listed, VB P G ops n ρ L i (fun L' => i ∈ W ∨ ∀ p ∈ K, p ∈ L') (TA P G ops n K W Q fuel (listed.setIfInBounds i true))
theorem TA.sound {K : jc} {W : List Nat} : ∀ (fuel : Nat) (listed : Array Bool) (ρ : jn) (L : jc), TA P G ops n K W Q fuel listed ρ L → ∀ a w, Env n ρ a → Heap G w L → wpAny P .any ops Q fuel listed a w
 | 0, listed, ρ, L, h, a, w, he, hw => ⟨h.1, h.2.out a w he hw⟩
 | fuel + 1, listed, ρ, L, h, a, w, he, hw => by
   refine ⟨fun h0 => (h.1 h0).out a w he hw, fun i hi => ?_⟩
   obtain ⟨o, ho, hd, b, hb, hs⟩ := h.2 i hi
   unfold wpOp
   simp only [ho, hb.wanted he]
   rcases hs with ⟨rfl, Φ, hO, hn⟩ | ⟨rfl, _, hn⟩
   · rw [if_pos rfl]
     refine Or.inl (hO.wp he hw fun v L' w' h1 h2 => ?_)
     exact TA.sound fuel _ _ _ (hn v L' h1).2 _ _ (he.bindD hd v) h2
   · rw [if_neg (by simp)]
     exact TA.sound fuel _ _ _ hn _ _ (he.bindD hd undef) hw
def akj (Q : Exit → Act → World → Prop) (e : Exit) (a : Act) (w : World) : Prop := Q e a w
theorem jR {id : Nat} (hm : P.follows .mixedOrders = true) (K : jc) (W : List Nat) (h : TA P G ops n K W Q ops.size (Array.replicate ops.size false) ρ L) : T P G n ρ L (.region id ops true) Q :=
 ⟨fun a w he hw => wp_region_any hm (h.sound _ _ _ _ a _ he (hw.same ⟨rfl, rfl, rfl, Nat.le_refl _⟩ rfl))⟩
theorem YB {ρ ρ' : jn} (h : ∀ t, ρ.lookup t = ρ'.lookup t) (x : Operand) : ev ρ x = ev ρ' x := by cases x <;> simp [ev, h]
theorem uH {ρ ρ' : jn} (h : ∀ t, ρ.lookup t = ρ'.lookup t) (dst : Option Nat) (v : Value) (t : Nat) : (bindD dst v ρ).lookup t = (bindD dst v ρ').lookup t := by
 cases dst with
 | none => exact h t
 | some d => simp only [bindD, List.lookup_cons, h]
theorem TQ.congr {ρ ρ' : jn} (h : ∀ t, ρ.lookup t = ρ'.lookup t) {e : Exit} (k : TQ G n ρ L e Q) : TQ G n ρ' L e Q := ⟨fun a w he hw => k.out a w (he.weak fun t v hv => by rw [← h]; exact hv) hw⟩
theorem TA.congr {K : jc} {W : List Nat} : ∀ (fuel : Nat) (listed : Array Bool) (ρ ρ' : jn) (L : jc), (∀ t, ρ.lookup t = ρ'.lookup t) → TA P G ops n K W Q fuel listed ρ L → TA P G ops n K W Q fuel listed ρ' L
 | 0, _, _, _, _, h, k => ⟨k.1, k.2.congr h⟩
 | fuel + 1, listed, ρ, ρ', L, h, k => by
   refine ⟨fun h0 => (k.1 h0).congr h, fun i hi => ?_⟩
   obtain ⟨o, ho, hd, b, hb, hs⟩ := k.2 i hi
   refine ⟨o, ho, hd, b, ?_, ?_⟩
   · unfold Wants at hb ⊢
     split at hb
     · exact hb
     · obtain ⟨dj, x, h1, h2, h3⟩ := hb
       exact ⟨dj, x, h1, by rw [← h]; exact h2, h3⟩
   · rcases hs with ⟨rfl, Φ, hO, hn⟩ | ⟨rfl, h1, hn⟩
     · refine Or.inl ⟨rfl, Φ, ⟨fun r hr => hO.out r fun x v hv => hr x v (by rw [← YB h]; exact hv)⟩, fun v L' hv => ⟨(hn v L' hv).1, TA.congr fuel _ _ _ _ (uH h _ v) (hn v L' hv).2⟩⟩
     · exact Or.inr ⟨rfl, h1, TA.congr fuel _ _ _ _ (uH h _ undef) hn⟩
def aao (ops : Array Oper) : Nat → Nat → Nat → Bool
 | 0, _, _ => false
 | f + 1, j, i => match ops[j]? with
   | none => false
   | some o => o.after.any fun e => Region.binds .any e && (e.on == i || aao ops f e.on i)
def z9 (ops : Array Oper) (listed : Array Bool) : Prop := ∀ j o, ops[j]? = some o → listed.getD j false = true → ∀ e ∈ o.after, Region.binds .any e = true → listed.getD e.on false = true
theorem Uk {listed : Array Bool} (hc : z9 ops listed) (i : Nat) : ∀ (f j : Nat) (o : Oper), ops[j]? = some o → (∀ e ∈ o.after, Region.binds .any e = true → listed.getD e.on false = true) → aao ops f j i = true → listed.getD i false = true
 | 0, _, _, _, _, h => by simp [aao] at h
 | f + 1, j, o, ho, he, h => by
   simp only [aao, ho] at h
   obtain ⟨e, hm, hb⟩ := Array.any_eq_true'.1 h
   simp only [Bool.and_eq_true, Bool.or_eq_true, beq_iff_eq] at hb
   have hl := he e hm hb.1
   rcases hb.2 with rfl | hd
   · exact hl
   · cases hk : ops[e.on]? with
     | none => cases f <;> simp [aao, hk] at hd
     | some ok => exact Uk hc i f e.on ok hk (fun e' hm' hb' => hc e.on ok hk hl e' hm' hb') hd
def Quiet (P : Program) (G : World) (ops : Array Oper) (K : jc) (ρ : jn) (o : Oper) (v : Value) : Prop :=
 (Wants ops ρ o true ∧ ∀ L', (∀ p ∈ K, p ∈ L') → OpV P G ρ L' o.op o.type v L') ∨ (Wants ops ρ o false ∧ v = undef)
theorem Wants.apart {o : Oper} {b : Bool} {d : Nat} {u : Value} (h : Wants ops ρ o b) (hn : d ∉ o.looksAt ops) : Wants ops ((d, u) :: ρ) o b := by
 unfold Wants at h ⊢
 split at h
 · exact h
 · rename_i j want hg
   obtain ⟨dj, x, h1, h2, h3⟩ := h
   refine ⟨dj, x, h1, ?_, h3⟩
   have hne : dj ≠ d := fun e => hn (by subst e; unfold Oper.looksAt; rw [hg]; exact List.mem_append_right _ (by unfold jJ at h1; simp [h1]))
   rw [List.lookup_cons, show (dj == d) = false by simpa using hne]
   exact h2
theorem Wants.unput {o : Oper} {b : Bool} {d : Nat} {u : Value} (h : Wants ops ((d, u) :: ρ) o b) (hn : d ∉ o.looksAt ops) : Wants ops ρ o b := by
 unfold Wants at h ⊢
 split at h
 · exact h
 · rename_i j want hg
   obtain ⟨dj, x, h1, h2, h3⟩ := h
   refine ⟨dj, x, h1, ?_, h3⟩
   have hne : dj ≠ d := fun e => hn (by subst e; unfold Oper.looksAt; rw [hg]; exact List.mem_append_right _ (by unfold jJ at h1; simp [h1]))
   rw [List.lookup_cons, show (dj == d) = false by simpa using hne] at h2
   exact h2
def Vk (r : Operand → Value) (d : Nat) (u : Value) : Operand → Value
 | .tmp t => if t = d then u else r (.tmp t)
 | x => r x
theorem abC {r : Operand → Value} {d : Nat} {u : Value} {x : Operand} (h : x ≠ .tmp d) : Vk r d u x = r x := by
 cases x with
 | tmp t =>
   have : t ≠ d := fun e => h (by rw [e])
   simp [Vk, this]
 | _ => rfl
theorem abD {o : Oper} {d : Nat} (hn : d ∉ o.looksAt ops) : ∀ x ∈ o.op.operands, x ≠ .tmp d := fun x hx e => hn (by subst e; exact List.mem_append_left _ (List.mem_filterMap.2 ⟨.tmp d, by simpa using hx, rfl⟩))
theorem OpT.apart {o : Oper} {Φ : Value → jc → Prop} {d : Nat} {u : Value} (hs : ∀ cs b, o.op ≠ .select cs b) (h : OpT P G ρ L o.op o.type Φ) (hn : d ∉ o.looksAt ops) : OpT P G ((d, u) :: ρ) L o.op o.type Φ := by
 refine ⟨fun r hr w hw o' ho ht => ?_⟩
 have h1 := h.out (Vk r d ((ρ.lookup d).getD (r (.tmp d)))) (fun x v hv => by
  cases x with
  | tmp t =>
    have hv' : ρ.lookup t = some v := hv
    by_cases e : t = d
    · subst e; simp [Vk, hv']
    · simp only [Vk, e, if_false]
      refine hr (.tmp t) v ?_
      show List.lookup t ((d, u) :: ρ) = some v
      rw [List.lookup_cons, show (t == d) = false by simpa using e]
      exact hv'
  | const c => exact hr _ v hv
  | global g => exact hr _ v hv
  | func f => exact hr _ v hv) w hw o' ho ht
 rw [execOp_congr (ρ := r) (ρ' := Vk r d ((ρ.lookup d).getD (r (.tmp d)))) o' (by rw [ho]; exact hs) (fun x hx => by rw [ho] at hx; rw [abC (abD hn x hx)])]
 exact h1
theorem OpT.unput {o : Oper} {Φ : Value → jc → Prop} {d : Nat} {u : Value} (hs : ∀ cs b, o.op ≠ .select cs b) (h : OpT P G ((d, u) :: ρ) L o.op o.type Φ) (hn : d ∉ o.looksAt ops) : OpT P G ρ L o.op o.type Φ := by
 refine ⟨fun r hr w hw o' ho ht => ?_⟩
 have h1 := h.out (Vk r d u) (fun x v hv => by
  cases x with
  | tmp t =>
    have hv' : List.lookup t ((d, u) :: ρ) = some v := hv
    rw [List.lookup_cons] at hv'
    by_cases e : t = d
    · subst e
      simp at hv'
      simp [Vk, hv']
    · rw [show (t == d) = false by simpa using e] at hv'
      simp only [Vk, e, if_false]
      exact hr (.tmp t) v hv'
  | const c => exact hr _ v hv
  | global g => exact hr _ v hv
  | func f => exact hr _ v hv) w hw o' ho ht
 rw [execOp_congr (ρ := r) (ρ' := Vk r d u) o' (by rw [ho]; exact hs) (fun x hx => by rw [ho] at hx; rw [abC (abD hn x hx)])]
 exact h1
theorem Quiet.apart {K : jc} {o : Oper} {v : Value} {dst : Option Nat} {u : Value} (hs : ∀ cs b, o.op ≠ .select cs b) (h : Quiet P G ops K ρ o v) (hn : ∀ d, dst = some d → d ∉ o.looksAt ops) : Quiet P G ops K (bindD dst u ρ) o v := by
 cases dst with
 | none => exact h
 | some d =>
   rcases h with ⟨h1, h2⟩ | ⟨h1, h2⟩
   · exact Or.inl ⟨h1.apart (hn d rfl), fun L' hK => (h2 L' hK).apart hs (hn d rfl)⟩
   · exact Or.inr ⟨h1.apart (hn d rfl), h2⟩
theorem Ja {listed : Array Bool} {j : Nat} {oj : Oper} (hc : z9 ops listed) (hoj : ops[j]? = some oj) (hall : ∀ e ∈ oj.after, Region.binds .any e = true → listed.getD e.on false = true) : z9 ops (listed.setIfInBounds j true) := by
 have up : ∀ k, listed.getD k false = true → (listed.setIfInBounds j true).getD k false = true := fun k hk => by
  by_cases e : j = k
  · subst e
    by_cases hl : j < listed.size
    · simp [Array.getD_eq_getD_getElem?, hl]
    · simp [Array.getD_eq_getD_getElem?, Array.getElem?_eq_none (Nat.le_of_not_lt hl)] at hk
  · rw [Array.getD_eq_getD_getElem?, Array.getElem?_setIfInBounds_ne e, ← Array.getD_eq_getD_getElem?]
    exact hk
 intro k o hk hl e he hb
 by_cases ek : j = k
 · subst ek
   rw [hoj] at hk
   cases hk
   exact up _ (hall e he hb)
 · rw [Array.getD_eq_getD_getElem?, Array.getElem?_setIfInBounds_ne ek, ← Array.getD_eq_getD_getElem?] at hl
   exact up _ (hc k o hk hl e he hb)
theorem adU {K : jc} {W : List Nat} {i : Nat} {oi : Oper} {v : Value} (hi : ops[i]? = some oi) (hd : ∀ d, oi.dst = some d → d < n) (hsel : ∀ (j : Nat) (o : Oper) cs b, ops[j]? = some o → o.op ≠ .select cs b)
 (hW : ∀ j ∈ W, j ≠ i → aao ops ops.size j i = true) :
 ∀ (fuel : Nat) (listed : Array Bool) (ρ : jn) (L : jc), z9 ops listed →
  (∀ j oj, ops[j]? = some oj → j ≠ i → listed.getD j true = false → (∀ e ∈ oj.after, Region.binds .any e = true → e.on ≠ i) → oi.apart ops oj = true) →
  i ∈ Region.ready .any ops listed → Quiet P G ops K ρ oi v → (∀ p ∈ K, p ∈ L) →
  TA P G ops n K W Q fuel (listed.setIfInBounds i true) (bindD oi.dst v ρ) L → TA P G ops n K W Q (fuel + 1) listed ρ L := by
 have own : ∀ (fuel : Nat) (listed : Array Bool) (ρ : jn) (L : jc), Quiet P G ops K ρ oi v → (∀ p ∈ K, p ∈ L) → TA P G ops n K W Q fuel (listed.setIfInBounds i true) (bindD oi.dst v ρ) L →
  VB P G ops n ρ L i (fun L' => i ∈ W ∨ ∀ p ∈ K, p ∈ L') (TA P G ops n K W Q fuel (listed.setIfInBounds i true)) := by
  intro fuel listed ρ L hq hK H
  rcases hq with ⟨h1, h2⟩ | ⟨h1, rfl⟩
  · refine ⟨oi, hi, hd, true, h1, Or.inl ⟨rfl, _, h2 L hK, ?_⟩⟩
    rintro _ _ ⟨rfl, rfl⟩
    exact ⟨Or.inr hK, H⟩
  · exact ⟨oi, hi, hd, false, h1, Or.inr ⟨rfl, Or.inr hK, H⟩⟩
 intro fuel
 induction fuel with
 | zero =>
   intro listed ρ L _ _ hr hq hK H
   refine ⟨fun h => (by rw [h] at hr; cases hr), fun j hj => ?_⟩
   by_cases hji : j = i
   · subst hji; exact own 0 listed ρ L hq hK H
   · have := ready_mono hj hji
     rw [H.1] at this
     cases this
 | succ fuel ih =>
   intro listed ρ L hc hfree hr hq hK H
   refine ⟨fun h => (by rw [h] at hr; cases hr), fun j hj => ?_⟩
   by_cases hji : j = i
   · subst hji; exact own _ listed ρ L hq hK H
   · obtain ⟨oj', hoj', hdj, b, hb, hs⟩ := H.2 j (ready_mono hj hji)
     obtain ⟨hjun, oj, hoj, hall0⟩ := mem_ready.1 hj
     have heq := Option.some.inj (hoj.symm.trans hoj')
     subst heq
     have hall : ∀ e ∈ oj.after, Region.binds .any e = true → listed.getD e.on false = true := fun e he hb => hall0 e he hb
     have hiun : listed.getD i false = false := by
      have h0 := (mem_ready.1 hr).1
      rcases Nat.lt_or_ge i listed.size with h' | h'
      · simp [h'] at h0 ⊢; exact h0
      · simp [Array.getElem?_eq_none h']
     have hnot : ∀ e ∈ oj.after, Region.binds .any e = true → e.on ≠ i := fun e he hb heq => by
      have h1 := hall e he hb
      rw [heq, hiun] at h1
      cases h1
     have hjW : j ∉ W := fun hjW => by
      have := Uk hc i ops.size j oj hoj hall (hW j hjW hji)
      rw [hiun] at this
      cases this
     have hap := hfree j oj hoj hji hjun hnot
     obtain ⟨a1, a2, a3⟩ := Oper.apart_spec hap
     have hfree' : ∀ k ok, ops[k]? = some ok → k ≠ i → (listed.setIfInBounds j true).getD k true = false →
      (∀ e ∈ ok.after, Region.binds .any e = true → e.on ≠ i) → oi.apart ops ok = true := fun k ok hk hki hun hno => by
      refine hfree k ok hk hki ?_ hno
      by_cases hjk : j = k
      · subst hjk; exact hjun
      · rw [getD_set_ne true hjk] at hun; exact hun
     have hc' := Ja hc hoj hall
     have swap : ∀ (u : Value) (t : Nat), (bindD oj.dst u (bindD oi.dst v ρ)).lookup t = (bindD oi.dst v (bindD oj.dst u ρ)).lookup t := by
      intro u t
      cases h1 : oi.dst with
      | none => rfl
      | some d1 =>
        cases h2 : oj.dst with
        | none => rfl
        | some d2 =>
          have hne : d1 ≠ d2 := fun e => a2 d1 h1 (by rw [h2, e])
          simp only [bindD, List.lookup_cons]
          by_cases e1 : t = d1
          · subst e1
            rw [show (t == d2) = false by simpa using hne]
          · rw [show (t == d1) = false by simpa using e1]
     have hwant : Wants ops ρ oj b := by
      cases h1 : oi.dst with
      | none => rw [h1] at hb; exact hb
      | some d1 => rw [h1] at hb; exact Wants.unput hb (a1 d1 h1)
     refine ⟨oj, hoj, hdj, b, hwant, ?_⟩
     rcases hs with ⟨rfl, Φ, hO, hn⟩ | ⟨rfl, hkp, hn⟩
     · refine Or.inl ⟨rfl, Φ, ?_, fun u L' hu => ?_⟩
       · cases h1 : oi.dst with
         | none => rw [h1] at hO; exact hO
         | some d1 => rw [h1] at hO; exact OpT.unput (fun cs b => hsel j oj cs b hoj) hO (a1 d1 h1)
       · obtain ⟨k1, k2⟩ := hn u L' hu
         have hK' : ∀ p ∈ K, p ∈ L' := k1.resolve_left hjW
         refine ⟨Or.inr hK', ih (listed.setIfInBounds j true) _ L' hc' hfree' (ready_mono hr (Ne.symm hji)) (hq.apart (fun cs b => hsel i oi cs b hi) a3) hK' ?_⟩
         rw [Array.setIfInBounds_comm _ _ (Ne.symm hji)] at k2
         exact k2.congr _ _ _ _ _ (swap u)
     · refine Or.inr ⟨rfl, Or.inr hK, ih (listed.setIfInBounds j true) _ L hc' hfree' (ready_mono hr (Ne.symm hji)) (hq.apart (fun cs b => hsel i oi cs b hi) a3) hK ?_⟩
       rw [Array.setIfInBounds_comm _ _ (Ne.symm hji)] at hn
       exact hn.congr _ _ _ _ _ (swap undef)
def YC (ops : Array Oper) (W : List Nat) (n : Nat) (listed : Array Bool) (i d : Nat) : Bool :=
 Region.noSelect ops && Region.free .any ops listed i && (Region.ready .any ops listed).contains i && (W.all fun j => j == i || aao ops ops.size j i) && Nat.blt d n &&
 ((List.range ops.size).all fun j => match ops[j]? with
   | some o => !listed.getD j false || o.after.all fun e => !Region.binds .any e || listed.getD e.on false
   | none => true)
theorem WB {listed : Array Bool} (h : ((List.range ops.size).all fun j => match ops[j]? with
  | some o => !listed.getD j false || o.after.all fun e => !Region.binds .any e || listed.getD e.on false
  | none => true) = true) : z9 ops listed := by
 intro j o ho hl e he hb
 have h1 := List.all_eq_true.1 h j (List.mem_range.2 (Array.getElem?_eq_some_iff.1 ho).1)
 simp only [ho, hl, Bool.not_true, Bool.false_or] at h1
 have h2 := Array.all_eq_true'.1 h1 e he
 simpa [hb] using h2
theorem jG {K : jc} {W : List Nat} {fuel : Nat} {listed : Array Bool} (i : Nat) {d : Nat} {oi : Oper} {v : Value} (hi : ops[i]? = some oi) (hd : oi.dst = some d) (ht : YC ops W n listed i d = true)
 (hq : Quiet P G ops K ρ oi v) (hK : ∀ p ∈ K, p ∈ L) (h : TA P G ops n K W Q fuel (listed.setIfInBounds i true) ((d, v) :: ρ) L) : TA P G ops n K W Q (fuel + 1) listed ρ L := by
 simp only [YC, Bool.and_eq_true] at ht
 obtain ⟨⟨⟨⟨⟨h1, h2⟩, h3⟩, h4⟩, h5⟩, h6⟩ := ht
 refine adU hi (fun d' e => by rw [hd] at e; cases e; simpa using h5) (Region.noSelect_spec h1) (fun j hj hne => ?_) fuel listed ρ L (WB h6) (Region.free_spec hi h2) (by simpa using h3) hq hK (by rw [hd]; exact h)
 have := List.all_eq_true.1 h4 j hj
 simpa [hne] using this
theorem kz {K : jc} {d : Option Nat} {op : Op} {v : Value} {pos : String} {after : Array Edge} (h : OpQ P ρ K op ty v) : Quiet P G ops K ρ ⟨d, op, ty, pos, after, none⟩ v :=
 Or.inl ⟨rfl, fun L' hK => .pure fun r hr w hw o ho ht => h.out r hr w ⟨fun p hp => hw.get p (hK p hp)⟩ o ho ht⟩
theorem af9 {K : jc} {d : Option Nat} {op : Op} {v : Value} {pos : String} {after : Array Edge} {j dj : Nat} {want : Bool} (hs : jJ ops j = some dj) (hv : ρ.lookup dj = some (.bool want)) (h : OpQ P ρ K op ty v) : Quiet P G ops K ρ ⟨d, op, ty, pos, after, some (j, want)⟩ v :=
 Or.inl ⟨⟨dj, _, hs, hv, by simp [Yz]⟩, fun L' hK => .pure fun r hr w hw o ho ht => h.out r hr w ⟨fun p hp => hw.get p (hK p hp)⟩ o ho ht⟩
theorem adV {K : jc} {d : Option Nat} {op : Op} {pos : String} {after : Array Edge} {j dj : Nat} {want : Bool} (hs : jJ ops j = some dj) (hv : ρ.lookup dj = some (.bool !want)) : Quiet P G ops K ρ ⟨d, op, ty, pos, after, some (j, want)⟩ undef :=
 Or.inr ⟨⟨dj, _, hs, hv, by cases want <;> rfl⟩, rfl⟩
theorem kD {K : jc} {d : Option Nat} {op : Op} {pos : String} {after : Array Edge} {j dj : Nat} {want : Bool} (hs : jJ ops j = some dj) (hv : ρ.lookup dj = some undef) : Quiet P G ops K ρ ⟨d, op, ty, pos, after, some (j, want)⟩ undef :=
 Or.inr ⟨⟨dj, _, hs, hv, rfl⟩, rfl⟩
theorem qo {K : jc} {d : Option Nat} {f : FuncId} {xs : List Operand} {ats : Array TypeId} {vs : List Value} {v : Value} {pos : String} {after : Array Edge} (hb : ke P f = true) (ha : kw ρ xs = some vs)
 (h : ∀ L', (∀ p ∈ K, p ∈ L') → Spec P G f vs.toArray L' fun u M => u = v ∧ M = L') : Quiet P G ops K ρ ⟨d, .call ⟨.value (.func f), xs.toArray, ats⟩, ty, pos, after, none⟩ v :=
 Or.inl ⟨rfl, fun L' hK => jb hb ha (h L' hK)⟩
theorem YD {K : jc} {d : Option Nat} {f : FuncId} {xs : List Operand} {ats : Array TypeId} {vs : List Value} {v : Value} {pos : String} {after : Array Edge} {j dj : Nat} {want : Bool} (hs : jJ ops j = some dj) (hv : ρ.lookup dj = some (.bool want)) (hb : ke P f = true) (ha : kw ρ xs = some vs)
 (h : ∀ L', (∀ p ∈ K, p ∈ L') → Spec P G f vs.toArray L' fun u M => u = v ∧ M = L') : Quiet P G ops K ρ ⟨d, .call ⟨.value (.func f), xs.toArray, ats⟩, ty, pos, after, some (j, want)⟩ v :=
 Or.inl ⟨⟨dj, _, hs, hv, by simp [Yz]⟩, fun L' hK => jb hb ha (h L' hK)⟩
theorem adW {K : jc} {W : List Nat} {fuel : Nat} {listed : Array Bool} (i : Nat) {oi : Oper} {Φ : Value → jc → Prop} (hr : Region.ready .any ops listed = [i]) (hi : ops[i]? = some oi) (hd : (oi.dst.all fun d => Nat.blt d n) = true) (hg : oi.guard = none)
 (hO : OpT P G ρ L oi.op oi.type Φ) (h : ∀ v L', Φ v L' → (i ∈ W ∨ ∀ p ∈ K, p ∈ L') ∧ TA P G ops n K W Q fuel (listed.setIfInBounds i true) (bindD oi.dst v ρ) L') : TA P G ops n K W Q (fuel + 1) listed ρ L := by
 refine ⟨fun h0 => (by rw [hr] at h0; cases h0), fun j hj => ?_⟩
 rw [hr] at hj
 obtain rfl : j = i := by simpa using hj
 exact ⟨oi, hi, fun d e => by rw [e] at hd; simpa using hd, true, by unfold Wants; rw [hg], Or.inl ⟨rfl, Φ, hO, h⟩⟩
def Up (P : Program) (G : World) (ops : Array Oper) (n : Nat) (K : jc) (W : List Nat) (Q : Exit → Act → World → Prop) (fuel : Nat) (listed : Array Bool) (ρ : jn) (L : jc) (i : Nat) : Prop :=
 VB P G ops n ρ L i (fun L' => i ∈ W ∨ ∀ p ∈ K, p ∈ L') (TA P G ops n K W Q fuel (listed.setIfInBounds i true))
theorem WC {K : jc} {W : List Nat} {fuel : Nat} {listed : Array Bool} (hr : Region.ready .any ops listed = []) (h : TQ G n ρ L .normal Q) : TA P G ops n K W Q fuel listed ρ L := by
 cases fuel with
 | zero => exact ⟨hr, h⟩
 | succ f => exact ⟨fun _ => h, by rw [hr]; simp⟩
theorem qS {K : jc} {W : List Nat} {fuel : Nat} {listed : Array Bool} (i : Nat) {d : Nat} {oi : Oper} {Φ : Value → jc → Prop} (hr : Region.ready .any ops listed = [i]) (hi : ops[i]? = some oi) (hd : oi.dst = some d) (hdn : Nat.blt d n = true) (hg : oi.guard = none)
 (hO : OpT P G ρ L oi.op oi.type Φ) (h : ∀ v L', Φ v L' → (i ∈ W ∨ ∀ p ∈ K, p ∈ L') ∧ TA P G ops n K W Q fuel (listed.setIfInBounds i true) ((d, v) :: ρ) L') : TA P G ops n K W Q (fuel + 1) listed ρ L :=
 adW i hr hi (by rw [hd]; exact hdn) hg hO (by rw [hd]; exact h)
theorem uI {K : jc} {W : List Nat} {fuel : Nat} {listed : Array Bool} (i : Nat) {oi : Oper} {Φ : Value → jc → Prop} (hr : Region.ready .any ops listed = [i]) (hi : ops[i]? = some oi) (hd : oi.dst = none) (hg : oi.guard = none)
 (hO : OpT P G ρ L oi.op oi.type Φ) (h : ∀ v L', Φ v L' → (i ∈ W ∨ ∀ p ∈ K, p ∈ L') ∧ TA P G ops n K W Q fuel (listed.setIfInBounds i true) ρ L') : TA P G ops n K W Q (fuel + 1) listed ρ L :=
 adW i hr hi (by rw [hd]; rfl) hg hO (by rw [hd]; exact h)
theorem WD {K : jc} {W : List Nat} {L' : jc} : ∀ {fuel : Nat} {listed : Array Bool} {ρ : jn}, (hl : ∀ w, Heap G w L → Heap G w L') → (hk : (∀ p ∈ K, p ∈ L') → ∀ p ∈ K, p ∈ L) → TA P G ops n K W Q fuel listed ρ L' → TA P G ops n K W Q fuel listed ρ L
 | 0, _, _, hl, _, h => ⟨h.1, jr hl h.2⟩
 | fuel + 1, listed, ρ, hl, hk, h => by
   refine ⟨fun h0 => jr hl (h.1 h0), fun i hi => ?_⟩
   obtain ⟨o, ho, hd, b, hb, hs⟩ := h.2 i hi
   refine ⟨o, ho, hd, b, hb, ?_⟩
   rcases hs with ⟨rfl, Φ, hO, hn⟩ | ⟨rfl, h1, hn⟩
   · exact Or.inl ⟨rfl, Φ, ⟨fun r hr w hw => hO.out r hr w (hl w hw)⟩, hn⟩
   · exact Or.inr ⟨rfl, h1.imp id hk, WD hl hk hn⟩
theorem Ul {K : jc} {d : Option Nat} {op : Op} {v : Value} {pos : String} {after : Array Edge} {j dj : Nat} {want b : Bool} (hs : jJ ops j = some dj) (hv : ρ.lookup dj = some (.bool b)) (hb : b = want) (h : OpQ P ρ K op ty v) : Quiet P G ops K ρ ⟨d, op, ty, pos, after, some (j, want)⟩ v := af9 hs (hb ▸ hv) h
theorem qw {K : jc} {d : Option Nat} {op : Op} {pos : String} {after : Array Edge} {j dj : Nat} {want b : Bool} (hs : jJ ops j = some dj) (hv : ρ.lookup dj = some (.bool b)) (hb : b = !want) : Quiet P G ops K ρ ⟨d, op, ty, pos, after, some (j, want)⟩ undef := adV hs (hb ▸ hv)
theorem jZ {K : jc} {d : Option Nat} {f : FuncId} {xs : List Operand} {ats : Array TypeId} {vs : List Value} {v : Value} {pos : String} {after : Array Edge} {j dj : Nat} {want b : Bool} (hs : jJ ops j = some dj) (hv : ρ.lookup dj = some (.bool b)) (hb : b = want) (hf : ke P f = true) (ha : kw ρ xs = some vs)
 (h : ∀ L', (∀ p ∈ K, p ∈ L') → Spec P G f vs.toArray L' fun u M => u = v ∧ M = L') : Quiet P G ops K ρ ⟨d, .call ⟨.value (.func f), xs.toArray, ats⟩, ty, pos, after, some (j, want)⟩ v := YD hs (hb ▸ hv) hf ha h
end
section
open Go.RowKit
variable {G : World} {P : Program} {n : Nat} {ρ : jn} {L : jc} {ty : TypeId} {Q : Exit → Act → World → Prop}
def Sub : jn → jn → Prop
 | [], _ => True
 | (t, v) :: r, ρ => ρ.lookup t = some v ∧ Sub r ρ
theorem Sub.get : ∀ {a b : jn}, Sub a b → ∀ t v, a.lookup t = some v → b.lookup t = some v
 | [], _, _, t, v, h => by simp at h
 | (s, u) :: r, b, h, t, v, hv => by
   rw [List.lookup_cons] at hv
   by_cases e : t = s
   · subst e; simp at hv; subst hv; exact h.1
   · rw [show (t == s) = false by simpa using e] at hv
     exact Sub.get h.2 t v hv
theorem jK {σ : Type} {c : Code} (I : σ → Prop) (ρI : σ → jn) (LI : σ → jc) (μ : σ → Nat) (x0 : σ) (h0 : I x0) (hs : Sub (ρI x0) ρ) (hl : ∀ w, Heap G w L → Heap G w (LI x0))
 (round : ∀ x, I x → T P G n (ρI x) (LI x) c (Exit.then (QX G n I ρI LI μ (μ x)) Q)) : T P G n ρ L (.loop c) Q := ahL I ρI LI μ x0 h0 hs.get hl round
theorem jz {σ : Type} {I : σ → Prop} {ρI : σ → jn} {LI : σ → jc} {μ : σ → Nat} {m : Nat} (x : σ) (hI : I x) (hs : Sub (ρI x) ρ) (hl : ∀ w, Heap G w L → Heap G w (LI x)) (hm : μ x < m) :
 TQ G n ρ L .normal (Exit.then (QX G n I ρI LI μ m) Q) := adN x hI hs.get hl hm
theorem ahx {c : Code} (ρ' : jn) (L' : jc) (hs : Sub ρ' ρ) (hl : ∀ w, Heap G w L → Heap G w L') (h : T P G n ρ' L' c Q) : T P G n ρ L c Q := aam ρ' hs.get hl h
theorem VC {c : Operand} {x y : Code} {b : Bool} (hc : ev ρ c = some (.bool b)) (hb : b = true) (h : T P G n ρ L x Q) : T P G n ρ L (.cond c x y) Q := Wp (hb ▸ hc) h
theorem acx {c : Operand} {x y : Code} {b : Bool} (hc : ev ρ c = some (.bool b)) (hb : b = false) (h : T P G n ρ L y Q) : T P G n ρ L (.cond c x y) Q := QV (hb ▸ hc) h
theorem KW {ops : Array Oper} {d j dj : Nat} {op : Op} {pos : String} {after : Array Edge} {rest : List Oper} {want b : Bool}
 (hs : jJ ops j = some dj) (hv : ρ.lookup dj = some (.bool b)) (hb : b = !want) (hd : Nat.blt d n = true) (hr : TL P G ops n ((d, undef) :: ρ) L rest Q) : TL P G ops n ρ L (⟨some d, op, ty, pos, after, some (j, want)⟩ :: rest) Q :=
 abA hs (hb ▸ hv) hd hr
structure TG (P : Program) (G : World) (ops : Array Oper) (n : Nat) (ρ : jn) (L : jc) (d : Nat) (op : Op) (ty : TypeId) (rest : List Oper) (Q : Exit → Act → World → Prop) : Prop where
 out : ∀ pos after j want dj, jJ ops j = some dj → ρ.lookup dj = some (.bool want) → TL P G ops n ρ L (⟨some d, op, ty, pos, after, some (j, want)⟩ :: rest) Q
theorem zE {ops : Array Oper} {d j dj : Nat} {op : Op} {pos : String} {after : Array Edge} {rest : List Oper} {want b : Bool}
 (hs : jJ ops j = some dj) (hv : ρ.lookup dj = some (.bool b)) (hb : b = want) (h : TG P G ops n ρ L d op ty rest Q) : TL P G ops n ρ L (⟨some d, op, ty, pos, after, some (j, want)⟩ :: rest) Q := h.out pos after j want dj hs (hb ▸ hv)
theorem jf {ops : Array Oper} {d : Nat} {op : Op} {rest : List Oper} {v : Value} (h : OpQ P ρ L op ty v) (hd : Nat.blt d n = true) (hr : TL P G ops n ((d, v) :: ρ) L rest Q) : TG P G ops n ρ L d op ty rest Q :=
 ⟨fun pos after j want dj hs hv => ai9 hs hv h hd hr⟩
theorem adX {ops : Array Oper} {d : Nat} {op : Op} {rest : List Oper} {Φ : Value → jc → Prop} (h : OpT P G ρ L op ty Φ) (hd : Nat.blt d n = true) (hr : ∀ v L', Φ v L' → TL P G ops n ((d, v) :: ρ) L' rest Q) : TG P G ops n ρ L d op ty rest Q :=
 ⟨fun pos after j want dj hs hv => adM hs hv h hd hr⟩
theorem ahM {x : Operand} {t : TypeId} {k : IntKind} {a : Int} (hx : ev ρ x = some (.int k a)) (h : InK k (-a)) : OpQ P ρ L (.unOp .neg t x) ty (.int k (-a)) :=
 ⟨fun r hr w hw o ho _ => by
   have h' : k.wrap (0 - a) = -a := by rw [show (0 : Int) - a = -a by omega]; exact zC h
   simp only [execOp, ho, hr _ _ hx, Op.unary, Op.intArith, h']
   rfl⟩
theorem jk {ops : Array Oper} {d : Nat} {op : Op} {rest : List Oper} {v : Value} {L' : jc} (h : OpV P G ρ L op ty v L') (hd : Nat.blt d n = true) (hr : TL P G ops n ((d, v) :: ρ) L' rest Q) : TG P G ops n ρ L d op ty rest Q :=
 adX h hd fun _ _ ⟨h1, h2⟩ => h1 ▸ h2 ▸ hr
theorem kU {c a b : Operand} {t : Bool} {v : Value} (hc : ev ρ c = some (.bool t)) (ht : t = true) (hv : ev ρ a = some v) : OpQ P ρ L (.pick c a b) ty v := by subst ht; exact QY hc hv
theorem kV {c a b : Operand} {t : Bool} {v : Value} (hc : ev ρ c = some (.bool t)) (ht : t = false) (hv : ev ρ b = some v) : OpQ P ρ L (.pick c a b) ty v := by subst ht; exact QY hc hv
def qT (P : Program) (t : TypeId) : Bool := match P.underlying t with
 | some d => KV d
 | none => false
def Ke (P : Program) (t : TypeId) : Bool := match P.info? t with
 | some i => Nat.beq i.size 1
 | none => false
def zg (P : Program) (s f : Nat) : Option Nat := match P.underlying s with
 | some (.struct fs) => match fs[f]? with
   | some fi => match P.info? fi.type with
     | some ti => if Nat.beq ti.size 0 then none else some fi.offset
     | none => none
   | none => none
 | _ => none
theorem adY {x : Operand} {b off s f fo : Nat} (hx : ev ρ x = some (.pointer (some ⟨b, off, none⟩))) (h : zg P s f = some fo) : OpQ P ρ L (.fieldAddr s x f) ty (.pointer (some ⟨b, off + fo, none⟩)) := by
 unfold zg at h
 cases h1 : P.underlying s with
 | none => simp [h1] at h
 | some d =>
   cases d <;> simp [h1] at h
   rename_i fs
   cases h2 : fs[f]? with
   | none => simp [h2] at h
   | some fi =>
     cases h3 : P.info? fi.type with
     | none => simp [h2, h3] at h
     | some ti =>
       simp [h2, h3] at h
       exact Wz hx h1 h2 h3 (by cases hb : Nat.beq ti.size 0; rfl; simp [Nat.eq_of_beq_eq_true hb] at h) h.2
theorem abE {x : Operand} {b off : Nat} {t : TypeId} {C : Array Value} {te : TypeId} {fr : Nat × Nat} {v : Value} (hx : ev ρ x = some (.pointer (some ⟨b, off, none⟩)))
 (ht : qT P t = true) (hm : (b, Obj.cells C te fr) ∈ L) (hv : C[off]? = some v) : OpQ P ρ L (.load t x) ty v := by
 unfold qT at ht
 cases h1 : P.underlying t with
 | none => simp [h1] at ht
 | some d => simp [h1] at ht; exact af6 hx h1 ht hm hv
theorem VD {x y : Operand} {b off : Nat} {t : TypeId} {C C' : Array Value} {te : TypeId} {v u : Value} (hx : ev ρ x = some (.pointer (some ⟨b, off, none⟩))) (hy : ev ρ y = some v)
 (h1 : Ke P t = true) (hone : v.oneCell' = true) (hv : C[off]? = some u) (hC : C.setIfInBounds off v = C') : OpV P G ρ ((b, Obj.cells C te (0, 0)) :: L) (.store t x y) ty undef ((b, Obj.cells C' te (0, 0)) :: L) := by
 unfold Ke at h1
 cases h2 : P.info? t with
 | none => simp [h2] at h1
 | some ti => simp [h2] at h1; exact hC ▸ adS hx hy h2 h1 hone hv
theorem VE {ops : Array Oper} {x y : Operand} {pos : String} {after : Array Edge} {rest : List Oper} {b off : Nat} {t : TypeId} {C C' : Array Value} {te : TypeId} {v u : Value} (hx : ev ρ x = some (.pointer (some ⟨b, off, none⟩))) (hy : ev ρ y = some v)
 (h1 : Ke P t = true) (hone : v.oneCell' = true) (hv : C[off]? = some u) (hC : C.setIfInBounds off v = C') (h : TL P G ops n ρ ((b, Obj.cells C' te (0, 0)) :: L) rest Q) :
 TL P G ops n ρ ((b, Obj.cells C te (0, 0)) :: L) (⟨none, .store t x y, ty, pos, after, none⟩ :: rest) Q := Uh (VD hx hy h1 hone hv hC) h
theorem ahN {x y : Operand} {b off m c sz bytes k : Nat} {t e : TypeId} {z : Value} (E : ElemTy P t e sz bytes z) (hx : ev ρ x = some (.slice (some ⟨b, off, none⟩) m c)) (hy : ev ρ y = some (.int .i64 (k : Nat))) (h1 : k < m) :
 OpQ P ρ L (.indexAddr t x y) ty (.pointer (some ⟨b, off + k * sz, none⟩)) := by
 obtain ⟨i, h2, h3, h4, h5⟩ := E.info
 have := uG (P := P) (ρ := ρ) (L := L) (ty := ty) hx hy E.und h2 h4 (by omega) (by omega)
 simpa using this
theorem aga {x y : Operand} {b off m c sz bytes : Nat} {i : Int} {t e : TypeId} {z : Value} (E : ElemTy P t e sz bytes z) (hx : ev ρ x = some (.slice (some ⟨b, off, none⟩) m c)) (hy : ev ρ y = some (.int .i64 i)) (h0 : 0 ≤ i) (h1 : i < m) :
 OpQ P ρ L (.indexAddr t x y) ty (.pointer (some ⟨b, off + i.toNat * sz, none⟩)) := by
 obtain ⟨ti, h2, h3, h4, h5⟩ := E.info
 exact uG hx hy E.und h2 h4 h0 h1
theorem Q0 {t e : TypeId} {x : Operand} {bytes : Nat} {z v : Value} (E : ElemTy P t e 1 bytes z) (hx : ev ρ x = some v) (hone : v.oneCell' = true) :
 OpNew P G ρ L (.buildSlice t 1 #[(0, x)]) ty (fun b => .slice (some ⟨b, 0, none⟩) 1 1) (.cells #[v] e (0, 0)) := by
 obtain ⟨i, h2, h3, h4, h5⟩ := E.info
 exact qb (ps := [(0, x)]) (vs := [(0, v)]) (by simp [ua, hx]) (af7 E.und h2 h4 h3 E.cells hone)
theorem Q1 {t e : TypeId} {x y : Operand} {sz bytes : Nat} {z : Value} {k k' : IntKind} {l c : Int} {C : Array Value} (E : ElemTy P t e sz bytes z) (hx : ev ρ x = some (.int k l)) (hy : ev ρ y = some (.int k' c)) (h0 : 0 ≤ l) (h1 : l ≤ c) (h2 : bytes * c ≤ 281474976710656) (h3 : c ≤ 9223372036854775807)
 (hC : madeCells z.cells (c.toNat * sz) = C) : OpNew P G ρ L (.makeSlice t x y) ty (fun b => .slice (some ⟨b, 0, none⟩) l.toNat c.toNat) (.cells C e (0, 0)) := by
 obtain ⟨i, q2, q3, q4, q5⟩ := E.info
 refine .run fun r hr w o ho _ => ?_
 have := run_make (P := P) w t e i z E.und q2 q3 k k' l c h0 h1 (by rw [q5]; exact h2) h3
 rw [q4, hC] at this
 simp [execOp, ho, hr _ _ hx, hr _ _ hy, this]
theorem Row.made {e : TypeId} {sz b c : Nat} {C : Array Value} (hs : C.size = c * sz) (hc : c ≤ maxLen) : Row e sz (.slice (some ⟨b, 0, none⟩) 0 c) 0 [] [(b, .cells C e (0, 0))] :=
 ⟨by simp, Or.inr ⟨b, c, C, rfl, rfl, Nat.zero_le _, hc, hs, by simp⟩⟩
theorem Src.one {b : Nat} {v : Value} {te : TypeId} (hm : (b, Obj.cells #[v] te (0, 0)) ∈ L) (hone : v.oneCell' = true) : Src L (.slice (some ⟨b, 0, none⟩) 1 1) 1 [v] 1 :=
 ⟨rfl, fun x hx => by simp at hx; subst hx; exact hone, Or.inr ⟨b, 0, 1, #[v], te, (0, 0), rfl, hm, fun j x hj => by
   cases j with
   | zero => simpa using hj
   | succ j => simp at hj⟩⟩
theorem zh {s d e : TypeId} {x : Operand} {v : Value} {l : List UInt8} {B : jc} (hx : ev ρ x = some v) (h1 : P.underlying s = some (.slice e)) (he : P.underlying e = some (.int .u8)) (h2 : P.underlying d = some .string)
 (hr : Row e 1 v l.length (l.map fun c => Value.int .u8 (c.toNat : Int)) B) (hB : ∀ p ∈ B, p ∈ L) : OpQ P ρ L (.convert s d x) ty (.string (bs l)) := by
 rcases hr.is with ⟨h3, h4, _⟩ | ⟨b, cap, cur, h3, h4, h5, h6, h7, h8⟩
 · subst h3
   have : l = [] := List.eq_nil_of_length_eq_zero h4
   subst this
   exact z3 hx h1 he h2
 · subst h3
   refine kR (C := cur) (te := e) (fr := (0, 0)) l hx rfl h1 he h2 (hB _ (by rw [h4]; exact List.mem_cons_self ..)) (fun j hj => ?_)
   have : (cur.toList.take (l.length * 1))[j]? = some (Value.int .u8 (l[j].toNat : Int)) := by rw [h8]; simp [hj]
   rw [List.getElem?_take_of_lt (by omega)] at this
   simpa using this
theorem yj {ops : Array Oper} {d : Nat} {s x : Operand} {pos : String} {after : Array Edge} {rest : List Oper} {t e te : TypeId} {bytes bl : Nat} {z v u : Value} {m : Nat} {xs : List Value} {B : jc} (E : ElemTy P t e 1 bytes z)
 (hs : ev ρ s = some v) (hx : ev ρ x = some (.slice (some ⟨bl, 0, none⟩) 1 1)) (hrow : Row e 1 v m xs B) (hone : u.oneCell' = true) (h63 : m + 1 ≤ maxLen) (hby : (m + 1) * bytes ≤ 140737488355328) (hd : Nat.blt d n = true)
 (hr : ∀ v' B', Row e 1 v' (m + 1) (xs ++ [u]) B' → TL P G ops n ((d, v') :: ρ) (B' ++ L) rest Q) : TL P G ops n ρ ((bl, .cells #[u] te (0, 0)) :: (B ++ L)) (⟨some d, .call ⟨.builtin .append, #[s, x], #[t, t]⟩, ty, pos, after, none⟩ :: rest) Q :=
 ku (L' := B ++ ((bl, .cells #[u] te (0, 0)) :: L)) List.perm_middle.symm (acw E hs hx hrow (Src.one (List.mem_cons_self ..) hone) h63 hby hd fun v' B' h => QW (fun w hw => hw.sub ((List.Sublist.refl B').append (List.sublist_cons_self _ _))) (hr v' B' h))
theorem agb {ops : Array Oper} {d : Nat} {s x : Operand} {pos : String} {after : Array Edge} {rest : List Oper} {t e tu : TypeId} {v : Value} {m : Nat} {xs : List Value} {l : List UInt8} {B : jc} (E : ElemTy P t e 1 1 (.int .u8 0)) (hu : P.underlying tu = some .string)
 (hs : ev ρ s = some v) (hx : ev ρ x = some (.string (bs l))) (hrow : Row e 1 v m xs B) (h63 : m + l.length ≤ 140737488355328) (hd : Nat.blt d n = true)
 (hr : ∀ v' B', Row e 1 v' (m + l.length) (xs ++ l.map fun c => Value.int .u8 (c.toNat : Int)) B' → TL P G ops n ((d, v') :: ρ) (B' ++ L) rest Q) : TL P G ops n ρ (B ++ L) (⟨some d, .call ⟨.builtin .append, #[s, x], #[t, tu]⟩, ty, pos, after, none⟩ :: rest) Q :=
 jX (z4 E hu hs hx hrow h63) hd fun v' _ ⟨B', h1, h2⟩ => h2 ▸ hr v' B' h1
theorem Outcome.mono {K K' : Value → World → Prop} (h : ∀ v w, K v w → K' v w) {r : Result Next} (hr : Outcome P K r) : Outcome P K' r := by
 match r, hr with
 | .ok (.value v) w, hr => exact h _ _ hr
 | .ok .skip w, hr => exact h _ _ hr
 | .ok (.enter f args) w, hr => exact Calls.mono hr fun e w' ⟨v, h1, h2⟩ => ⟨v, h1, h _ _ h2⟩
theorem OpT.heap {op : Op} {Φ : Value → jc → Prop} {L' : jc} (hl : ∀ w, Heap G w L → Heap G w L') (h : OpT P G ρ L' op ty Φ) : OpT P G ρ L op ty Φ := ⟨fun r hr w hw => h.out r hr w (hl w hw)⟩
theorem OpT.post {op : Op} {Φ Ψ : Value → jc → Prop} (h : OpT P G ρ L op ty Φ) (hp : ∀ v M, Φ v M → ∃ M', Ψ v M' ∧ ∀ w, Heap G w M → Heap G w M') : OpT P G ρ L op ty Ψ :=
 ⟨fun r hr w hw o ho ht => Outcome.mono (fun v w' ⟨M, h1, h2⟩ => let ⟨M', h3, h4⟩ := hp v M h1; ⟨M', h3, h4 w' h2⟩) (h.out r hr w hw o ho ht)⟩
theorem WE {s x : Operand} {t e te : TypeId} {bytes bl : Nat} {z v u : Value} {m : Nat} {xs : List Value} {B : jc} (E : ElemTy P t e 1 bytes z) (hs : ev ρ s = some v) (hx : ev ρ x = some (.slice (some ⟨bl, 0, none⟩) 1 1))
 (hrow : Row e 1 v m xs B) (hone : u.oneCell' = true) (h63 : m + 1 ≤ maxLen) (hby : (m + 1) * bytes ≤ 140737488355328) :
 OpT P G ρ ((bl, .cells #[u] te (0, 0)) :: (B ++ L)) (.call ⟨.builtin .append, #[s, x], #[t, t]⟩) ty fun v' L' => ∃ B', Row e 1 v' (m + 1) (xs ++ [u]) B' ∧ L' = B' ++ L :=
 (OpT.heap (L' := B ++ ((bl, .cells #[u] te (0, 0)) :: L)) (fun w hw => hw.perm List.perm_middle.symm) (zD E hs hx hrow (Src.one (List.mem_cons_self ..) hone) h63 hby)).post fun v' M ⟨B', h1, h2⟩ =>
   ⟨B' ++ L, ⟨B', h1, rfl⟩, fun w hw => (h2 ▸ hw : Heap G w (B' ++ _)).sub ((List.Sublist.refl B').append (List.sublist_cons_self _ _))⟩
theorem un {ops : Array Oper} {K : jc} {W : List Nat} {L' : jc} {fuel : Nat} {listed : Array Bool} (he : L.Perm L') (h : TA P G ops n K W Q fuel listed ρ L') : TA P G ops n K W Q fuel listed ρ L := WD (fun w hw => hw.perm he) (fun hk p hp => he.mem_iff.2 (hk p hp)) h
theorem Qv {x hi : Operand} {a : Option Addr} {m c : Nat} {k : IntKind} {j : Int} {t e : TypeId} {sz bytes : Nat} {z : Value} (E : ElemTy P t e sz bytes z) (hx : ev ρ x = some (.slice a m c)) (hhi : ev ρ hi = some (.int k j)) (h0 : 0 ≤ j) (h1 : j ≤ c) :
 OpQ P ρ L (.slice t x none (some hi) none) ty (.slice a j.toNat c) :=
 ⟨fun r hr w hw o ho _ => by
   obtain ⟨i, q2, q3, q4, q5⟩ := E.info
   have e1 : (if c = 0 then a else a.map (·.add (0 * i.size))) = a := by
    split
    · rfl
    · cases a <;> simp [Addr.add]
   simp [execOp, ho, hr _ _ hx, hr _ _ hhi, Instr.sliceAt, run_underlying E.und, Instr.slice, Instr.sliceBounds, Instr.sliceBound, asIntOf, h0, h1, sizeOf, typeInfo, q2]
   simpa using e1⟩
theorem Row.cut0 {e : TypeId} {sz : Nat} {a : Option Addr} {m m' c : Nat} {xs : List Value} {B : jc} (h : Row e sz (.slice a m c) m' xs B) : Row e sz (.slice a 0 c) 0 [] B := by
 rcases h.is with ⟨h1, h2, h3⟩ | ⟨b, cap, cur, h1, h2, h3, h4, h5, h6⟩
 · cases h1; subst h3; exact Row.nil e sz
 · cases h1
   exact ⟨by simp, Or.inr ⟨b, _, cur, rfl, h2, Nat.zero_le _, h4, h5, by simp⟩⟩
theorem uo {fn : Func} {Φ : Value → jc → Prop} (hr : fn.results = #[]) (h : Φ (.tuple #[]) L) : TQ G n ρ L .ret (bodyPost P fn (jU G Φ)) :=
 ⟨fun a w he hw => ⟨he.defers, .tuple #[], by simp only [results, hr]; simp, _, L, rfl, h, hw⟩⟩
theorem jF {fn : Func} {Φ : Value → jc → Prop} (t u : Nat) (v x : Value) (hr : fn.results = #[.tmp t, .tmp u]) (hv : ρ.lookup t = some v) (hx : ρ.lookup u = some x) (h : Φ (.tuple #[v, x]) L) : TQ G n ρ L .ret (bodyPost P fn (jU G Φ)) :=
 ⟨fun a w he hw => ⟨he.defers, .tuple #[v, x], by
   have h1 : a.tmps.getD t undef = v := he.reads (.tmp t) v hv
   have h2 : a.tmps.getD u undef = x := he.reads (.tmp u) x hx
   simp only [results, hr]
   simp
   exact ⟨by simpa using h1, by simpa using h2⟩, _, L, rfl, h, hw⟩⟩
theorem yk {fn : Func} {Φ : Value → jc → Prop} (h : TQ G n ρ L .ret (bodyPost P fn (jU G Φ))) : TQ G n ρ L .normal (bodyPost P fn (jU G Φ)) := ⟨fun a w he hw => h.out a w he hw⟩
end
section
open Go.RowKit
variable {G : World} {P : Program} {n : Nat} {ρ : jn} {L : jc} {ty : TypeId} {Q : Exit → Act → World → Prop}
theorem ui {ops : Array Oper} {d j dj : Nat} {op : Op} {pos : String} {after : Array Edge} {rest : List Oper} {want : Bool}
 (hs : jJ ops j = some dj) (hv : ρ.lookup dj = some undef) (hd : Nat.blt d n = true) (hr : TL P G ops n ((d, undef) :: ρ) L rest Q) : TL P G ops n ρ L (⟨some d, op, ty, pos, after, some (j, want)⟩ :: rest) Q :=
 ⟨fun a w he hw => wpList_step fun K hK => by
   have h1 := he.get dj _ hv
   have h2 : Region.wanted (⟨some d, op, ty, pos, after, some (j, want)⟩ : Oper) (yielded ops a.tmps) = false := by
    unfold jJ at hs
    simp [Region.wanted, yielded, hs, h1, undef]
   rw [h2, if_neg (by simp)]
   exact hK _ _ (hr.out _ _ (he.put d (by simpa using hd) undef) hw)⟩
def Qw (P : Program) (t : TypeId) : Option (Nat × Nat) := match P.underlying t with
 | some (.array len e) => match P.info? e with
   | some i => some (len, i.size)
   | none => none
 | _ => none
theorem abF {x y : Operand} {b off len sz : Nat} {k : IntKind} {i : Int} {t : TypeId} (h : Qw P t = some (len, sz)) (hx : ev ρ x = some (.pointer (some ⟨b, off, none⟩))) (hy : ev ρ y = some (.int k i)) (h0 : 0 ≤ i) (h1 : i < len) :
 OpQ P ρ L (.indexAddr t x y) ty (.pointer (some ⟨b, off + i.toNat * sz, none⟩)) := by
 unfold Qw at h
 cases hu : P.underlying t with
 | none => simp [hu] at h
 | some d =>
   cases d <;> simp [hu] at h
   rename_i l e
   cases hi : P.info? e with
   | none => simp [hi] at h
   | some ti =>
     simp [hi] at h
     obtain ⟨rfl, rfl⟩ := h
     exact ⟨fun r hr w hw o ho _ => by simp [execOp, ho, hr _ _ hx, hr _ _ hy, Instr.indexAt, asIntOf, run_underlying hu, Instr.sureAddr, h0, h1, sizeOf, typeInfo, hi, kT]⟩
end
section
open Go.RowKit
section
variable {G : World} {P : Program} {n : Nat} {ρ : jn} {L : jc} {ty : TypeId} {Q : Exit → Act → World → Prop}
def j8 (P : Program) (t : TypeId) (k : Nat) : Bool := (match P.underlying t with | some (.struct _) => true | _ => false) && (match P.info? t with | some i => i.size == k | none => false)
theorem ub {x : Operand} {b off : Nat} {t : TypeId} {C : Array Value} {te : TypeId} {fr : Nat × Nat} (cs : List Value) (hx : ev ρ x = some (.pointer (some ⟨b, off, none⟩)))
 (ht : j8 P t cs.length = true) (hm : (b, Obj.cells C te fr) ∈ L) (hv : ∀ j v, cs[j]? = some v → C[off + j]? = some v) : OpQ P ρ L (.load t x) ty (.agg cs.toArray) :=
 ⟨fun r hr w hw o ho _ => by
   unfold j8 at ht
   cases hu : P.underlying t with
   | none => simp [hu] at ht
   | some d =>
     cases hi : P.info? t with
     | none => simp [hi] at ht
     | some i =>
       cases d with
       | struct fs =>
         simp [hu, hi] at ht
         have ha : (isAgg t).run P w = .ok true w := by
          unfold isAgg
          simp [run_underlying hu]
         have hc := run_loadCells_list (P := P) (w := w) ⟨b, off, none⟩ cs (fun j v hj => by rw [kT]; exact hw.cell hm (hv j v hj))
         simp [execOp, ho, hr _ _ hx, Instr.loadAt, Instr.sureAddr, loadVar, ha, sizeOf, typeInfo, hi, ht, hc]
       | _ => simp [hu] at ht⟩
theorem adZ {x : Operand} {b k : Nat} {t : TypeId} {C : Array Value} {te : TypeId} {fr : Nat × Nat} (hx : ev ρ x = some (.pointer (some ⟨b, 0, none⟩)))
 (ht : j8 P t k = true) (hm : (b, Obj.cells C te fr) ∈ L) (hk : C.size = k) : OpQ P ρ L (.load t x) ty (.agg C) := by
 have := ub (P := P) (ρ := ρ) (L := L) (ty := ty) (t := t) (te := te) (fr := fr) (C := C) C.toList hx (by rw [Array.length_toList, hk]; exact ht) hm (fun j v hj => by rw [Nat.zero_add]; simpa using hj)
 simpa using this
def jQ (C : Array Value) (o : Nat) (vs : List Value) : Array Value := (C.toList.take o ++ vs ++ C.toList.drop (o + vs.length)).toArray
theorem Um {x y : Operand} {b off : Nat} {t : TypeId} {C : Array Value} {te : TypeId} {cs : List Value} (hx : ev ρ x = some (.pointer (some ⟨b, off, none⟩))) (hy : ev ρ y = some (.agg cs.toArray))
 (ht : j8 P t cs.length = true) (hone : ∀ v ∈ cs, v.oneCell' = true) (hv : off + cs.length ≤ C.size) : OpV P G ρ ((b, Obj.cells C te (0, 0)) :: L) (.store t x y) ty undef ((b, Obj.cells (jQ C off cs) te (0, 0)) :: L) :=
 ⟨fun r hr w hw o ho _ => by
   unfold j8 at ht
   cases hi : P.info? t with
   | none => simp [hi] at ht
   | some i =>
     simp [hi] at ht
     have hb := hw.get _ (List.mem_cons_self ..)
     have hs := run_storeCells_at P b off te cs 0 C w hb (by simpa using hv) hone
     have hrun : (execOp r o).run P w = .ok .skip (w.setRow b (jQ C off cs)) := by
      simp only [execOp, ho, hr _ _ hx, hr _ _ hy]
      simp [Instr.storeAt, Instr.sureAddr, storeVar, sizeOf, typeInfo, hi, ht, Value.cells, hs, jQ]
     rw [hrun]
     exact ⟨_, ⟨rfl, rfl⟩, hw.update ⟨rfl, rfl, rfl, by simp [World.setRow]⟩ (setRow_heap w b C _ te _ hb) (fun j hj hne => by simp [World.setRow, Array.getElem?_modify, Ne.symm hne])⟩⟩
def WF (C : Array Value) : Bool := C.toList.all (·.oneCell')
theorem zi {ops : Array Oper} {x y : Operand} {pos : String} {after : Array Edge} {rest : List Oper} {b k : Nat} {t : TypeId} {C D : Array Value} {te : TypeId} (hx : ev ρ x = some (.pointer (some ⟨b, 0, none⟩))) (hy : ev ρ y = some (.agg D))
 (ht : j8 P t k = true) (hC : C.size = k) (hD : D.size = k) (hone : WF D = true) (h : TL P G ops n ρ ((b, Obj.cells D te (0, 0)) :: L) rest Q) : TL P G ops n ρ ((b, Obj.cells C te (0, 0)) :: L) (⟨none, .store t x y, ty, pos, after, none⟩ :: rest) Q := by
 have h1 := Um (G := G) (P := P) (ρ := ρ) (L := L) (ty := ty) (b := b) (C := C) (te := te) (t := t) (cs := D.toList) hx (by simpa using hy) (by rw [Array.length_toList, hD]; exact ht) (fun v hv => List.all_eq_true.1 hone v hv) (by rw [Array.length_toList, hD, hC]; omega)
 have h2 : jQ C 0 D.toList = D := by
  unfold jQ
  rw [List.drop_eq_nil_of_le (by simp; omega)]
  simp
 rw [h2] at h1
 exact Uh h1 h
theorem YE {sz : Nat} : ∀ (vs : List Value) (k : Nat) (pre rest : List Value), (∀ v ∈ vs, v.cells.size = sz) → pre.length = k * sz → rest.length = vs.length * sz →
 Instr.fill (fun i => some (i * sz, sz)) (pre ++ rest).toArray ((vs.zipIdx k).map fun p => (p.2, p.1)) = some (pre ++ vs.flatMap (·.cells.toList)).toArray
 | [], k, pre, rest, _, _, hr => by
   have : rest = [] := List.eq_nil_of_length_eq_zero (by simpa using hr)
   simp [Instr.fill, this]
 | v :: vs, k, pre, rest, hv, hp, hr => by
   have h1 := hv v (List.mem_cons_self ..)
   simp only [List.zipIdx_cons, List.map_cons, Instr.fill]
   have hlen : (v :: vs).length * sz = vs.length * sz + sz := by rw [List.length_cons, Nat.succ_mul]
   rw [if_neg (by simp [h1]; omega)]
   have key : ∀ (cs : List Value) (m : Nat) (pre rest : List Value), pre.length = k * sz + m → cs.length ≤ rest.length →
    (cs.zipIdx m).foldl (fun (a : Array Value) (p : Value × Nat) => a.setIfInBounds (k * sz + p.2) p.1) (pre ++ rest).toArray = (pre ++ cs ++ rest.drop cs.length).toArray := by
    intro cs
    induction cs with
    | nil => intro m pre rest _ _; simp
    | cons c cs ih =>
      intro m pre rest hp hl
      match rest, hl with
      | r :: rest, hl =>
        simp only [List.zipIdx_cons, List.foldl_cons]
        have e : (pre ++ r :: rest).toArray.setIfInBounds (k * sz + m) c = ((pre ++ [c]) ++ rest).toArray := by
         apply Array.ext'
         rw [Array.toList_setIfInBounds, ← hp]
         simp
        rw [e, ih (m + 1) (pre ++ [c]) rest (by simp; omega) (by simpa using hl)]
        simp
   have e1 : v.cells.zipIdx.foldl (fun cs (x : Value × Nat) => cs.setIfInBounds (k * sz + x.2) x.1) (pre ++ rest).toArray = (pre ++ v.cells.toList ++ rest.drop sz).toArray := by
    have := key v.cells.toList 0 pre rest (by simpa using hp) (by simp [h1]; omega)
    rw [← Array.foldl_toList, Array.toList_zipIdx]
    rw [this]
    simp [h1]
   show Instr.fill _ (v.cells.zipIdx.foldl (fun cs (x : Value × Nat) => cs.setIfInBounds (k * sz + x.2) x.1) (pre ++ rest).toArray) _ = _
   rw [e1]
   have := YE vs (k + 1) (pre ++ v.cells.toList) (rest.drop sz) (fun u hu => hv u (List.mem_cons_of_mem _ hu)) (by simp [h1, hp, Nat.succ_mul]) (by simp; omega)
   rw [this]
   simp
theorem Q2 {t e : TypeId} {z : Value} {sz bytes len : Nat} {C : Array Value} (E : ElemTy P t e sz bytes z) (vs : List Value) (hn : vs.length = len) (hv : ∀ v ∈ vs, v.cells.size = sz) (hlim : len * sz ≤ 16777216) (hC : (vs.flatMap (·.cells.toList)).toArray = C) :
 RowLit P t len (vs.zipIdx.map fun p => (p.2, p.1)) e C :=
 ⟨fun w => by
   obtain ⟨i, q2, q3, q4, q5⟩ := E.info
   subst hn hC
   have hf := YE vs 0 [] ((List.range (vs.length * sz)).map fun j => z.cells[j % z.cells.size]!) hv (by simp) (by simp)
   simp only [List.nil_append] at hf
   by_cases h0 : vs.length * sz = 0
   · have hvs : vs = [] := by
      rcases Nat.mul_eq_zero.1 h0 with h | h
      · exact List.eq_nil_of_length_eq_zero h
      · have := E.pos; omega
     subst hvs
     simp [Instr.buildSlice, run_underlying E.und, sizeOf, typeInfo, q2, newRow, Instr.fill, Array.range_zero']
   · have hf' : Instr.fill (fun i => some (i * sz, sz)) ((Array.range (vs.length * sz)).map fun j => z.cells[j % z.cells.size]!) (vs.zipIdx.map fun p => (p.2, p.1)) = some (vs.flatMap (·.cells.toList)).toArray := by
      rw [← hf]
      congr 1
      apply Array.ext'
      simp
     have hl2 : ¬ (16777216 < vs.length * sz) := by omega
     simp [Instr.buildSlice, run_underlying E.und, sizeOf, typeInfo, q2, q4, hl2, h0, zeroValue, q3, hf', newRow]⟩
end
end
section
open Go.RowKit
variable {G : World} {P : Program} {n : Nat} {ρ : jn} {L : jc} {ty : TypeId} {Q : Exit → Act → World → Prop}
theorem ad0 {x y : Operand} {k k' : IntKind} {a b : Int} {ts : Array TypeId} (hx : ev ρ x = some (.int k a)) (hy : ev ρ y = some (.int k' b)) : OpQ P ρ L (.call ⟨.builtin .min, #[x, y], ts⟩) ty (.int k (min a b)) :=
 ⟨fun r hr w hw o ho _ => by simp [execOp, ho, hr _ _ hx, hr _ _ hy, resolve, invoke, builtin, Lib.run_min_ints, Result.andThen]⟩
theorem ad1 {x y : Operand} {k k' : IntKind} {a b : Int} {ts : Array TypeId} (hx : ev ρ x = some (.int k a)) (hy : ev ρ y = some (.int k' b)) : OpQ P ρ L (.call ⟨.builtin .max, #[x, y], ts⟩) ty (.int k (max a b)) :=
 ⟨fun r hr w hw o ho _ => by simp [execOp, ho, hr _ _ hx, hr _ _ hy, resolve, invoke, builtin, Lib.run_max_ints, Result.andThen]⟩
theorem aky {ops : Array Oper} {x y : Operand} {pos : String} {after : Array Edge} {rest : List Oper} {b off : Nat} {t : TypeId} {C C' : Array Value} {te : TypeId} {v u : Value} {p : Nat × Obj} (hx : ev ρ x = some (.pointer (some ⟨b, off, none⟩))) (hy : ev ρ y = some v)
 (h1 : Ke P t = true) (hone : v.oneCell' = true) (hv : C[off]? = some u) (hC : C.setIfInBounds off v = C') (h : TL P G ops n ρ (p :: (b, Obj.cells C' te (0, 0)) :: L) rest Q) :
 TL P G ops n ρ (p :: (b, Obj.cells C te (0, 0)) :: L) (⟨none, .store t x y, ty, pos, after, none⟩ :: rest) Q :=
 ku (List.Perm.swap _ _ _) (VE hx hy h1 hone hv hC (ku (List.Perm.swap _ _ _) h))
theorem ad2 {c : Code} {Q' : Exit → Act → World → Prop} (h : T P G n ρ L c Q) (hi : ∀ e a w, Q e a w → Q' e a w) : T P G n ρ L c Q' := ⟨fun a w he hw b k cs => by
 obtain ⟨e, a', w', hq, h2⟩ := h.out a w he hw b k cs
 exact ⟨e, a', w', hi _ _ _ hq, h2⟩⟩
theorem aja {S : Nat → Prop} (h : ∃ m, S m) : ∃ m, S m ∧ ∀ k, S k → m ≤ k := by
 obtain ⟨m, hm⟩ := h
 induction m using Nat.strongRecOn with
 | _ m ih =>
   by_cases hk : ∃ k, k < m ∧ S k
   · obtain ⟨k, h1, h2⟩ := hk
     exact ih k h1 h2
   · exact ⟨m, hm, fun k hk' => Nat.le_of_not_lt fun hlt => hk ⟨k, hlt, hk'⟩⟩
open Classical in
noncomputable def leastOf (S : Nat → Prop) : Nat := if h : ∃ m, S m then Classical.choose (aja h) else 0
end
section
open Go.RowKit
structure Hd (Q : Prop) : Prop where out : Q
class FldC (P : Program) (t k : Nat) (o : outParam Nat) : Prop where out : zg P t k = some o
class PlC (P : Program) (t : Nat) : Prop where out : qT P t = true
class OnC (P : Program) (t : Nat) : Prop where out : Ke P t = true
class StC (P : Program) (t : Nat) (k : outParam Nat) : Prop where out : j8 P t k = true
class ZeC (P : Program) (t : Nat) (z : outParam Value) : Prop where out : uC P t = some z
class ArrC (P : Program) (t : Nat) (z : outParam (Nat × Nat)) : Prop where out : Qw P t = some z
class UndC (P : Program) (t : Nat) (d : outParam TypeDesc) : Prop where out : P.underlying t = some d
class EtC (P : Program) (t : Nat) (e sz bytes : outParam Nat) (z : outParam Value) : Prop where out : ElemTy P t e sz bytes z
theorem akz {P : Program} {t k o : Nat} [h : FldC P t k o] : zg P t k = some o := h.out
theorem plO {P : Program} {t : Nat} [h : PlC P t] : qT P t = true := h.out
theorem onO {P : Program} {t : Nat} [h : OnC P t] : Ke P t = true := h.out
theorem stO {P : Program} {t k : Nat} [h : StC P t k] : j8 P t k = true := h.out
theorem stL {P : Program} {t k j : Nat} [h : StC P t j] (e : j = k := by exact rfl) : j8 P t k = true := e ▸ h.out
theorem zeO {P : Program} {t : Nat} {z : Value} [h : ZeC P t z] : uC P t = some z := h.out
theorem arO {P : Program} {t : Nat} {a b : Nat} [h : ArrC P t (a, b)] : Qw P t = some (a, b) := h.out
theorem unO {P : Program} {t : Nat} {d : TypeDesc} [h : UndC P t d] : P.underlying t = some d := h.out
theorem etO {P : Program} {t e sz bytes : Nat} {z : Value} [h : EtC P t e sz bytes z] : ElemTy P t e sz bytes z := h.out
theorem etM {P : Program} {t e sz bytes : Nat} {z : Value} (h : (P.info? e).map (fun i => (i.zero, i.size, i.bytes)) = some (some z, sz, bytes)) (hu : P.underlying t = some (.slice e)) (hs : z.cells.size = sz) (hz : 0 < sz) : EtC P t e sz bytes z := by
 obtain ⟨i, h1, h2, h3, h4⟩ := info_parts h
 exact ⟨⟨hu, ⟨i, h1, h2, h3, h4⟩, hs, hz⟩⟩
theorem acy {P : Program} {G : World} {ρ : jn} {L : jc} {ty t : TypeId} {A : Array Value} (h : uC P t = some (.agg A)) : OpNew P G ρ L (.alloc t) ty (fun b => .pointer (some ⟨b, 0, none⟩)) (.cells A t (0, 0)) := Uj h rfl
end
section
open Go.RowKit
theorem jo : Tryz.prog.follows .mixedOrders = true := by kernel_rfl
instance alq : OnC Tryz.prog 2 := ⟨by kernel_rfl⟩
instance al2 : PlC Tryz.prog 3 := ⟨by kernel_rfl⟩
instance alr : OnC Tryz.prog 3 := ⟨by kernel_rfl⟩
instance akA : ZeC Tryz.prog 3 (.int .i64 0) := ⟨by kernel_rfl⟩
instance al3 : PlC Tryz.prog 4 := ⟨by kernel_rfl⟩
instance al4 : PlC Tryz.prog 5 := ⟨by kernel_rfl⟩
instance als : OnC Tryz.prog 5 := ⟨by kernel_rfl⟩
instance al5 : PlC Tryz.prog 9 := ⟨by kernel_rfl⟩
instance alt : OnC Tryz.prog 9 := ⟨by kernel_rfl⟩
instance alu : PlC Tryz.prog 23 := ⟨by kernel_rfl⟩
instance akB : OnC Tryz.prog 23 := ⟨by kernel_rfl⟩
instance akC : EtC Tryz.prog 23 45 3 24 (.agg #[(.string (bs [])), (.int .u8 0), (.int .u16 0)]) := etM (by kernel_rfl) Tryz.underlying23 rfl (by decide)
instance akk : ZeC Tryz.prog 25 (.agg #[(.int .i64 0), (.int .i64 0), (.int .i64 0), (.int .i64 0), (.int .i64 0), (.int .i64 0), (.int .i64 0), (.int .i64 0), (.int .i64 0), (.int .i64 0), (.int .i64 0), (.int .i64 0), (.slice none 0 0)]) := ⟨by kernel_rfl⟩
instance alv : StC Tryz.prog 25 13 := ⟨by kernel_rfl⟩
instance ajb : FldC Tryz.prog 25 0 0 := ⟨by kernel_rfl⟩
instance ajc : FldC Tryz.prog 25 1 1 := ⟨by kernel_rfl⟩
instance ajd : FldC Tryz.prog 25 2 2 := ⟨by kernel_rfl⟩
instance aje : FldC Tryz.prog 25 3 3 := ⟨by kernel_rfl⟩
instance ajf : FldC Tryz.prog 25 4 4 := ⟨by kernel_rfl⟩
instance ajg : FldC Tryz.prog 25 5 5 := ⟨by kernel_rfl⟩
instance ajh : FldC Tryz.prog 25 6 6 := ⟨by kernel_rfl⟩
instance aji : FldC Tryz.prog 25 7 7 := ⟨by kernel_rfl⟩
instance ajj : FldC Tryz.prog 25 8 8 := ⟨by kernel_rfl⟩
instance ajk : FldC Tryz.prog 25 9 9 := ⟨by kernel_rfl⟩
instance aiY : FldC Tryz.prog 25 10 10 := ⟨by kernel_rfl⟩
instance aiZ : FldC Tryz.prog 25 11 11 := ⟨by kernel_rfl⟩
instance ai0 : FldC Tryz.prog 25 12 12 := ⟨by kernel_rfl⟩
instance alw : PlC Tryz.prog 26 := ⟨by kernel_rfl⟩
instance akD : OnC Tryz.prog 26 := ⟨by kernel_rfl⟩
instance alx : PlC Tryz.prog 27 := ⟨by kernel_rfl⟩
instance akE : OnC Tryz.prog 27 := ⟨by kernel_rfl⟩
instance akF : EtC Tryz.prog 27 26 1 8 (.int .u64 0) := etM (by kernel_rfl) Tryz.underlying27 rfl (by decide)
instance aly : PlC Tryz.prog 28 := ⟨by kernel_rfl⟩
instance akG : OnC Tryz.prog 28 := ⟨by kernel_rfl⟩
instance akH : EtC Tryz.prog 28 60 4 40 (.agg #[(.int .u8 0), (.int .i64 0), (.int .i64 0), (.string (bs []))]) := etM (by kernel_rfl) Tryz.underlying28 rfl (by decide)
instance akl : ZeC Tryz.prog 30 (.agg #[(.int .i64 0), (.int .i64 0), (.int .i64 0), (.int .i64 0), (.int .i64 0), (.int .i64 0), (.int .i64 0), (.int .i64 0), (.int .i64 0), (.int .i64 0), (.int .i64 0), (.int .i64 0), (.slice none 0 0), (.int .u64 0), (.slice none 0 0), (.slice none 0 0)]) := ⟨by kernel_rfl⟩
instance alz : StC Tryz.prog 30 16 := ⟨by kernel_rfl⟩
instance ajl : FldC Tryz.prog 30 0 0 := ⟨by kernel_rfl⟩
instance ajm : FldC Tryz.prog 30 1 13 := ⟨by kernel_rfl⟩
instance ajn : FldC Tryz.prog 30 2 14 := ⟨by kernel_rfl⟩
instance ajo : FldC Tryz.prog 30 3 15 := ⟨by kernel_rfl⟩
instance akI : OnC Tryz.prog 31 := ⟨by kernel_rfl⟩
instance akm : ZeC Tryz.prog 31 (.int .i64 0) := ⟨by kernel_rfl⟩
instance alA : PlC Tryz.prog 34 := ⟨by kernel_rfl⟩
instance akJ : OnC Tryz.prog 34 := ⟨by kernel_rfl⟩
instance akK : EtC Tryz.prog 34 42 4 40 (.agg #[(.int .u8 0), (.int .i64 0), (.int .i64 0), (.string (bs []))]) := etM (by kernel_rfl) Tryz.underlying34 rfl (by decide)
instance akn : ZeC Tryz.prog 36 (.agg #[(.int .i64 0), (.int .i64 0), (.int .i64 0), (.int .i64 0), (.int .i64 0), (.int .i64 0), (.int .i64 0), (.int .i64 0), (.int .i64 0), (.int .i64 0), (.int .i64 0), (.int .i64 0), (.slice none 0 0), (.int .u64 0), (.slice none 0 0), (.slice none 0 0)]) := ⟨by kernel_rfl⟩
instance alB : StC Tryz.prog 36 16 := ⟨by kernel_rfl⟩
instance ajp : FldC Tryz.prog 36 0 0 := ⟨by kernel_rfl⟩
instance ajq : FldC Tryz.prog 36 1 13 := ⟨by kernel_rfl⟩
instance ajr : FldC Tryz.prog 36 2 14 := ⟨by kernel_rfl⟩
instance ajs : FldC Tryz.prog 36 3 15 := ⟨by kernel_rfl⟩
instance ako : ZeC Tryz.prog 42 (.agg #[(.int .u8 0), (.int .i64 0), (.int .i64 0), (.string (bs []))]) := ⟨by kernel_rfl⟩
instance alC : StC Tryz.prog 42 4 := ⟨by kernel_rfl⟩
instance ajt : FldC Tryz.prog 42 0 0 := ⟨by kernel_rfl⟩
instance aju : FldC Tryz.prog 42 1 1 := ⟨by kernel_rfl⟩
instance ajv : FldC Tryz.prog 42 2 2 := ⟨by kernel_rfl⟩
instance ajw : FldC Tryz.prog 42 3 3 := ⟨by kernel_rfl⟩
instance alD : PlC Tryz.prog 43 := ⟨by kernel_rfl⟩
instance akL : OnC Tryz.prog 43 := ⟨by kernel_rfl⟩
instance akp : ZeC Tryz.prog 45 (.agg #[(.string (bs [])), (.int .u8 0), (.int .u16 0)]) := ⟨by kernel_rfl⟩
instance alE : StC Tryz.prog 45 3 := ⟨by kernel_rfl⟩
instance ajx : FldC Tryz.prog 45 0 0 := ⟨by kernel_rfl⟩
instance ajy : FldC Tryz.prog 45 1 1 := ⟨by kernel_rfl⟩
instance ajz : FldC Tryz.prog 45 2 2 := ⟨by kernel_rfl⟩
instance alF : PlC Tryz.prog 50 := ⟨by kernel_rfl⟩
instance akM : OnC Tryz.prog 50 := ⟨by kernel_rfl⟩
instance akN : EtC Tryz.prog 50 9 1 16 (.string (bs [])) := etM (by kernel_rfl) Tryz.underlying50 rfl (by decide)
instance akq : ZeC Tryz.prog 60 (.agg #[(.int .u8 0), (.int .i64 0), (.int .i64 0), (.string (bs []))]) := ⟨by kernel_rfl⟩
instance alG : StC Tryz.prog 60 4 := ⟨by kernel_rfl⟩
instance akr : ZeC Tryz.prog 69 (.agg #[(.int .i64 0), (.string (bs [])), (.bool false)]) := ⟨by kernel_rfl⟩
instance alH : StC Tryz.prog 69 3 := ⟨by kernel_rfl⟩
instance ajA : FldC Tryz.prog 69 0 0 := ⟨by kernel_rfl⟩
instance ajB : FldC Tryz.prog 69 1 1 := ⟨by kernel_rfl⟩
instance ajC : FldC Tryz.prog 69 2 2 := ⟨by kernel_rfl⟩
instance alI : PlC Tryz.prog 75 := ⟨by kernel_rfl⟩
instance akO : OnC Tryz.prog 75 := ⟨by kernel_rfl⟩
instance alJ : PlC Tryz.prog 76 := ⟨by kernel_rfl⟩
instance akP : OnC Tryz.prog 76 := ⟨by kernel_rfl⟩
instance akQ : EtC Tryz.prog 76 5 1 1 (.int .u8 0) := etM (by kernel_rfl) Tryz.underlying76 rfl (by decide)
instance aks : ZeC Tryz.prog 78 (.agg #[(.pointer none), (.slice none 0 0)]) := ⟨by kernel_rfl⟩
instance ajD : FldC Tryz.prog 78 0 0 := ⟨by kernel_rfl⟩
instance ajE : FldC Tryz.prog 78 1 1 := ⟨by kernel_rfl⟩
instance akR : EtC Tryz.prog 90 3 1 8 (.int .i64 0) := etM (by kernel_rfl) Tryz.underlying90 rfl (by decide)
instance ajF : ZeC Tryz.prog 102 (.agg #[(.int .i64 0), (.int .i64 0), (.int .i64 0), (.int .i64 0), (.int .i64 0), (.int .i64 0), (.int .i64 0), (.int .i64 0), (.int .i64 0), (.int .i64 0), (.int .i64 0), (.int .i64 0)]) := ⟨by kernel_rfl⟩
instance akt : ArrC Tryz.prog 102 (12, 1) := ⟨by kernel_rfl⟩
instance ajG : ZeC Tryz.prog 107 (.agg #[(.string (bs [])), (.int .i64 0)]) := ⟨by kernel_rfl⟩
instance akS : StC Tryz.prog 107 2 := ⟨by kernel_rfl⟩
instance ai1 : FldC Tryz.prog 107 0 0 := ⟨by kernel_rfl⟩
instance ai2 : FldC Tryz.prog 107 1 1 := ⟨by kernel_rfl⟩
instance aku : ArrC Tryz.prog 109 (12, 1) := ⟨by kernel_rfl⟩
instance ajH : ZeC Tryz.prog 111 (.agg #[(.string (bs [])), (.int .u8 0), (.int .u16 0)]) := ⟨by kernel_rfl⟩
instance akT : StC Tryz.prog 111 3 := ⟨by kernel_rfl⟩
instance ai3 : FldC Tryz.prog 111 0 0 := ⟨by kernel_rfl⟩
instance ajI : ZeC Tryz.prog 189 (.agg #[(.slice none 0 0), (.slice none 0 0), (.int .i64 0), (.int .i64 0)]) := ⟨by kernel_rfl⟩
instance ai4 : FldC Tryz.prog 189 0 0 := ⟨by kernel_rfl⟩
instance ai5 : FldC Tryz.prog 189 1 1 := ⟨by kernel_rfl⟩
instance ai6 : FldC Tryz.prog 189 2 2 := ⟨by kernel_rfl⟩
instance ai7 : FldC Tryz.prog 189 3 3 := ⟨by kernel_rfl⟩
theorem jp  : Built Tryz.prog 25 [] (.agg #[(.int .i64 0), (.int .i64 0), (.int .i64 0), (.int .i64 0), (.int .i64 0), (.int .i64 0), (.int .i64 0), (.int .i64 0), (.int .i64 0), (.int .i64 0), (.int .i64 0), (.int .i64 0), (.slice none 0 0)]) := ⟨fun w => by kernel_rfl⟩
theorem j7 (x0 : Int) (x1 : Int) (x2 : Int) (x3 : Int) (x4 : Int) (x5 : Int) (x6 : Int) (x7 : Int) (x8 : Int) (x9 : Int) (x10 : Int) (x11 : Int) : Built Tryz.prog 25 [(0, .int .i64 x0), (1, .int .i64 x1), (2, .int .i64 x2), (3, .int .i64 x3), (4, .int .i64 x4), (5, .int .i64 x5), (6, .int .i64 x6), (7, .int .i64 x7), (8, .int .i64 x8), (9, .int .i64 x9), (10, .int .i64 x10), (11, .int .i64 x11)] (.agg #[.int .i64 x0, .int .i64 x1, .int .i64 x2, .int .i64 x3, .int .i64 x4, .int .i64 x5, .int .i64 x6, .int .i64 x7, .int .i64 x8, .int .i64 x9, .int .i64 x10, .int .i64 x11, (.slice none 0 0)]) := ⟨fun w => by kernel_rfl⟩
theorem kH (x0 : Int) (x1 : Int) (x2 : Int) (x3 : Int) (x4 : Int) (x5 : Int) (x6 : Int) (x7 : Int) (x8 : Int) (x9 : Int) (x10 : Int) (x11 : Int) (x12 : Option Addr) (m12 c12 : Nat) : Built Tryz.prog 25 [(0, .int .i64 x0), (1, .int .i64 x1), (2, .int .i64 x2), (3, .int .i64 x3), (4, .int .i64 x4), (5, .int .i64 x5), (6, .int .i64 x6), (7, .int .i64 x7), (8, .int .i64 x8), (9, .int .i64 x9), (10, .int .i64 x10), (11, .int .i64 x11), (12, .slice x12 m12 c12)] (.agg #[.int .i64 x0, .int .i64 x1, .int .i64 x2, .int .i64 x3, .int .i64 x4, .int .i64 x5, .int .i64 x6, .int .i64 x7, .int .i64 x8, .int .i64 x9, .int .i64 x10, .int .i64 x11, .slice x12 m12 c12]) := ⟨fun w => by kernel_rfl⟩
theorem ahO  : Built Tryz.prog 30 [] (.agg #[(.int .i64 0), (.int .i64 0), (.int .i64 0), (.int .i64 0), (.int .i64 0), (.int .i64 0), (.int .i64 0), (.int .i64 0), (.int .i64 0), (.int .i64 0), (.int .i64 0), (.int .i64 0), (.slice none 0 0), (.int .u64 0), (.slice none 0 0), (.slice none 0 0)]) := ⟨fun w => by kernel_rfl⟩
theorem agc (x0 x1 x2 x3 x4 x5 x6 x7 x8 x9 x10 x11 x12 : Value) : Built Tryz.prog 30 [(0, .agg #[x0, x1, x2, x3, x4, x5, x6, x7, x8, x9, x10, x11, x12])] (.agg #[x0, x1, x2, x3, x4, x5, x6, x7, x8, x9, x10, x11, x12, (.int .u64 0), (.slice none 0 0), (.slice none 0 0)]) := ⟨fun w => by kernel_rfl⟩
theorem YF (x0 x1 x2 x3 x4 x5 x6 x7 x8 x9 x10 x11 x12 : Value) (x13 : Int) (x14 : Option Addr) (m14 c14 : Nat) : Built Tryz.prog 30 [(0, .agg #[x0, x1, x2, x3, x4, x5, x6, x7, x8, x9, x10, x11, x12]), (1, .int .u64 x13), (2, .slice x14 m14 c14)] (.agg #[x0, x1, x2, x3, x4, x5, x6, x7, x8, x9, x10, x11, x12, .int .u64 x13, .slice x14 m14 c14, (.slice none 0 0)]) := ⟨fun w => by kernel_rfl⟩
theorem ahP  : Built Tryz.prog 36 [] (.agg #[(.int .i64 0), (.int .i64 0), (.int .i64 0), (.int .i64 0), (.int .i64 0), (.int .i64 0), (.int .i64 0), (.int .i64 0), (.int .i64 0), (.int .i64 0), (.int .i64 0), (.int .i64 0), (.slice none 0 0), (.int .u64 0), (.slice none 0 0), (.slice none 0 0)]) := ⟨fun w => by kernel_rfl⟩
theorem agd (x0 : Int) : Built Tryz.prog 42 [(0, .int .u8 x0)] (.agg #[.int .u8 x0, (.int .i64 0), (.int .i64 0), (.string (bs []))]) := ⟨fun w => by kernel_rfl⟩
theorem jM  : Built Tryz.prog 45 [] (.agg #[(.string (bs [])), (.int .u8 0), (.int .u16 0)]) := ⟨fun w => by kernel_rfl⟩
theorem jm (x0 : ByteArray) : Built Tryz.prog 45 [(0, .string x0)] (.agg #[.string x0, (.int .u8 0), (.int .u16 0)]) := ⟨fun w => by kernel_rfl⟩
theorem age (x0 : Int) : Built Tryz.prog 45 [(1, .int .u8 x0)] (.agg #[(.string (bs [])), .int .u8 x0, (.int .u16 0)]) := ⟨fun w => by kernel_rfl⟩
theorem ahQ  : Built Tryz.prog 60 [] (.agg #[(.int .u8 0), (.int .i64 0), (.int .i64 0), (.string (bs []))]) := ⟨fun w => by kernel_rfl⟩
theorem YG (x0 : Int) (x1 : Int) (x2 : ByteArray) : Built Tryz.prog 60 [(0, .int .u8 x0), (1, .int .i64 x1), (3, .string x2)] (.agg #[.int .u8 x0, .int .i64 x1, (.int .i64 0), .string x2]) := ⟨fun w => by kernel_rfl⟩
theorem acz (x0 : Int) (x1 : Int) : Built Tryz.prog 60 [(0, .int .u8 x0), (2, .int .i64 x1)] (.agg #[.int .u8 x0, (.int .i64 0), .int .i64 x1, (.string (bs []))]) := ⟨fun w => by kernel_rfl⟩
theorem YH (x0 : Int) (x1 : ByteArray) (x2 : Bool) : Built Tryz.prog 69 [(0, .int .i64 x0), (1, .string x1), (2, .bool x2)] (.agg #[.int .i64 x0, .string x1, .bool x2]) := ⟨fun w => by kernel_rfl⟩
theorem jq (x0 : ByteArray) (x1 : Int) : Built Tryz.prog 107 [(0, .string x0), (1, .int .i64 x1)] (.agg #[.string x0, .int .i64 x1]) := ⟨fun w => by kernel_rfl⟩
theorem jy (x0 x1 x2 : Value) : Built Tryz.prog 111 [(0, .agg #[x0, x1, x2])] (.agg #[x0, x1, x2]) := ⟨fun w => by kernel_rfl⟩
instance al6 : UndC Tryz.prog 2 (.int .i64) := ⟨Tryz.underlying2⟩
instance al7 : UndC Tryz.prog 3 (.int .i64) := ⟨Tryz.underlying3⟩
instance al8 : UndC Tryz.prog 4 .bool := ⟨Tryz.underlying4⟩
instance al9 : UndC Tryz.prog 5 (.int .u8) := ⟨Tryz.underlying5⟩
instance ama : UndC Tryz.prog 9 .string := ⟨Tryz.underlying9⟩
instance alK : UndC Tryz.prog 21 (.int .i32) := ⟨Tryz.underlying21⟩
instance alL : UndC Tryz.prog 23 (.slice 45) := ⟨Tryz.underlying23⟩
instance alM : UndC Tryz.prog 26 (.int .u64) := ⟨Tryz.underlying26⟩
instance alN : UndC Tryz.prog 27 (.slice 26) := ⟨Tryz.underlying27⟩
instance alO : UndC Tryz.prog 28 (.slice 60) := ⟨Tryz.underlying28⟩
instance alP : UndC Tryz.prog 31 (.int .i64) := ⟨Tryz.underlying31⟩
instance alQ : UndC Tryz.prog 34 (.slice 42) := ⟨Tryz.underlying34⟩
instance alR : UndC Tryz.prog 43 (.int .u16) := ⟨Tryz.underlying43⟩
instance alS : UndC Tryz.prog 50 (.slice 9) := ⟨Tryz.underlying50⟩
instance alT : UndC Tryz.prog 75 (.pointer 78) := ⟨Tryz.underlying75⟩
instance alU : UndC Tryz.prog 76 (.slice 5) := ⟨Tryz.underlying76⟩
instance alV : UndC Tryz.prog 90 (.slice 3) := ⟨Tryz.underlying90⟩
instance akU : UndC Tryz.prog 102 (.array 12 3) := ⟨Tryz.underlying102⟩
instance akV : UndC Tryz.prog 109 (.array 12 9) := ⟨Tryz.underlying109⟩
instance akW : UndC Tryz.prog 122 (.pointer 5) := ⟨Tryz.underlying122⟩
instance akX : UndC Tryz.prog 134 (.int .u64) := ⟨Tryz.underlying134⟩
instance akY : UndC Tryz.prog 200 (.array 20 26) := ⟨Tryz.underlying200⟩
instance akZ : UndC Tryz.prog 342 (.array 32 5) := ⟨Tryz.underlying342⟩
instance ak0 : UndC Tryz.prog 343 (.array 64 5) := ⟨Tryz.underlying343⟩
instance ak1 : UndC Tryz.prog 476 (.pointer 478) := ⟨Tryz.underlying476⟩
instance ak2 : UndC Tryz.prog 484 (.array 8 43) := ⟨Tryz.underlying484⟩
end
section
open Go.RowKit
variable {G : World} {P : Program} {n : Nat} {ρ : jn} {L : jc} {ty : TypeId} {Q : Exit → Act → World → Prop}
theorem WG {fn : Func} {Φ : Value → jc → Prop} (a t : Nat) {b k : Nat} {C : Array Value} {te : TypeId} {fr : Nat × Nat} {L' : jc} (hr : fn.results = #[.cell a t]) (hv : ρ.lookup a = some (.pointer (some ⟨b, 0, none⟩)))
 (ht : j8 P t k = true) (hm : (b, Obj.cells C te fr) ∈ L) (hk : C.size = k) (hl : ∀ w, Heap G w L → Heap G w L') (h : Φ (.agg C) L') : TQ G n ρ L .ret (bodyPost P fn (jU G Φ)) :=
 ⟨fun ac w he hw => ⟨he.defers, .agg C, by
   have h1 : ac.tmps.getD a undef = .pointer (some ⟨b, 0, none⟩) := he.reads (.tmp a) _ hv
   unfold j8 at ht
   cases hu : P.underlying t with
   | none => simp [hu] at ht
   | some d =>
     cases hi : P.info? t with
     | none => simp [hi] at ht
     | some i =>
       cases d with
       | struct fs =>
         simp [hu, hi] at ht
         have ha : (isAgg t).run P w = .ok true w := by
          unfold isAgg
          simp [run_underlying hu]
         have hc := run_loadCells_list (P := P) (w := w) ⟨b, 0, none⟩ C.toList (fun j v hj => by rw [kT, Nat.zero_add]; exact hw.cell hm (by simpa using hj))
         rw [Array.length_toList, hk] at hc
         rw [Array.getD_eq_getD_getElem?] at h1
         simp only [results, hr]
         simp [h1, asAddr, loadVar, ha, sizeOf, typeInfo, hi, ht, hc]
       | _ => simp [hu] at ht, _, L', rfl, h, hl w hw⟩⟩
end
section
open Go.ChangeShapes Go.WideShapes Go.ChangeAt Go.RowKit
abbrev Rp (α : Type) := jc → List Value → α → Prop
def Vl {α : Type} (r : Rp α) : Prop := ∀ L L' cs a, (∀ p ∈ L, p ∈ L') → r L cs a → r L' cs a
def ajJ (k : IntKind) (n : Int) : Prop := (Lit.int k n).wf = true
def amb (k : IntKind) : Rp Int := fun _ cs n => cs = [.int k n] ∧ ajJ k n
def alW : Rp Bool := fun _ cs b => cs = [.bool b]
def WH : Rp (List UInt8) := fun _ cs s => cs = [.string (bs s)] ∧ s.length ≤ maxLen
def sliceR {α : Type} (sz : Nat) (r : Rp α) : Rp (List α) := fun L cs l => ∃ a cap, cs = [.slice a l.length cap] ∧ l.length ≤ cap ∧ cap ≤ maxLen ∧ (l = [] ∨ ∃ b off C te fr, a = some ⟨b, off, none⟩ ∧ (b, Obj.cells C te fr) ∈ L ∧
 ∀ i x, l[i]? = some x → ∃ cs', cs'.length = sz ∧ r L cs' x ∧ ∀ j v, cs'[j]? = some v → C[off + i * sz + j]? = some v)
theorem qp {α : Type} {sz : Nat} {r : Rp α} (h : Vl r) : Vl (sliceR sz r) := by
 rintro L L' cs l hL ⟨a, cap, h1, h2, h3, h4⟩
 refine ⟨a, cap, h1, h2, h3, h4.imp id ?_⟩
 rintro ⟨b, off, C, te, fr, q1, q2, q3⟩
 refine ⟨b, off, C, te, fr, q1, hL _ q2, fun i x hx => ?_⟩
 obtain ⟨cs', k1, k2, k3⟩ := q3 i x hx
 exact ⟨cs', k1, h L L' cs' x hL k2, k3⟩
section
variable {H : Type} {enc : TypeId × Value → H} {P : Program} {W : World}
def Opens {α : Type} (enc : TypeId × Value → H) (P : Program) (W : World) (t : TypeId) (n : Nat) (r : Rp α) : Prop := ∀ fuel cs x, DataW.trod enc P W 0 (fun _ => true) true fuel t cs = some x → cs.length = n ∧ ∃ a, r (qG W) cs a
theorem Opens.at {α : Type} {r : Rp α} {t : TypeId} {n : Nat} (h : Opens enc P W t n r) {fuel : Nat} {cs : List Value} {x : DataW H × List MemPlace} (hx : DataW.trod enc P W 0 (fun _ => true) true fuel t cs = some x) : ∃ a, r (qG W) cs a := (h fuel cs x hx).2
end
end
section
open Go.RowKit
def Laid {α : Type} (r : Rp α) (sz : Nat) (L : jc) : List Value → List α → Prop
 | xs, [] => xs = []
 | xs, x :: l => ∃ c ys, xs = c ++ ys ∧ c.length = sz ∧ r L c x ∧ Laid r sz L ys l
section
variable {α : Type} {r : Rp α} {sz : Nat} {L : jc}
theorem Laid.mono (hr : Vl r) {L' : jc} (hL : ∀ p ∈ L, p ∈ L') : ∀ {l : List α} {xs : List Value}, Laid r sz L xs l → Laid r sz L' xs l
 | [], _, h => h
 | x :: l, _, ⟨c, ys, h1, h2, h3, h4⟩ => ⟨c, ys, h1, h2, hr _ _ _ _ hL h3, Laid.mono hr hL h4⟩
theorem Laid.append : ∀ {l m : List α} {xs ys : List Value}, Laid r sz L xs l → Laid r sz L ys m → Laid r sz L (xs ++ ys) (l ++ m)
 | [], m, _, _, h, k => by rw [show _ = [] from h]; exact k
 | x :: l, m, _, ys, ⟨c, zs, h1, h2, h3, h4⟩, k => ⟨c, zs ++ ys, by rw [h1, List.append_assoc], h2, h3, h4.append k⟩
theorem Laid.one {c : List Value} {x : α} (hn : c.length = sz) (h : r L c x) : Laid r sz L c [x] := ⟨c, [], by simp, hn, h, rfl⟩
theorem Laid.len : ∀ {l : List α} {xs : List Value}, Laid r sz L xs l → xs.length = l.length * sz
 | [], _, h => by rw [show _ = [] from h]; simp
 | x :: l, _, ⟨c, zs, h1, h2, h3, h4⟩ => by rw [h1, List.length_append, h2, h4.len, List.length_cons, Nat.succ_mul]; omega
theorem Laid.at : ∀ {l : List α} {xs : List Value}, Laid r sz L xs l → ∀ {i : Nat} {x : α}, l[i]? = some x → ∃ c, c.length = sz ∧ r L c x ∧ ∀ j v, c[j]? = some v → xs[i * sz + j]? = some v
 | [], _, _, i, x, h => by simp at h
 | y :: l, _, ⟨c, zs, h1, h2, h3, h4⟩, 0, x, h => by
   simp at h
   subst h
   refine ⟨c, h2, h3, fun j v hj => ?_⟩
   have := (List.getElem?_eq_some_iff.1 hj).1
   rw [h1, Nat.zero_mul, Nat.zero_add, List.getElem?_append_left this]
   exact hj
 | y :: l, _, ⟨c, zs, h1, h2, h3, h4⟩, i + 1, x, h => by
   obtain ⟨d, k1, k2, k3⟩ := h4.at (i := i) (x := x) (by simpa using h)
   refine ⟨d, k1, k2, fun j v hj => ?_⟩
   rw [h1, List.getElem?_append_right (by rw [h2, Nat.succ_mul]; omega), h2, ← k3 j v hj]
   congr 1
   rw [Nat.succ_mul]
   omega
theorem Laid.take : ∀ {l : List α} {xs : List Value} (k : Nat), Laid r sz L xs l → k ≤ l.length → Laid r sz L (xs.take (k * sz)) (l.take k)
 | l, xs, 0, h, _ => by simp [Laid]
 | [], xs, k + 1, h, hk => by simp at hk
 | x :: l, _, k + 1, ⟨c, zs, h1, h2, h3, h4⟩, hk => by
   refine ⟨c, zs.take (k * sz), ?_, h2, h3, h4.take k (by simpa using hk)⟩
   rw [h1, List.take_append, h2, List.take_of_length_le (by rw [h2, Nat.succ_mul]; omega)]
   congr 2
   rw [Nat.succ_mul]
   omega
structure ORow (r : Rp α) (e : TypeId) (sz : Nat) (L : jc) (a : Option Addr) (c : Nat) (l : List α) (B : jc) : Prop where
 ex : ∃ xs, Row e sz (.slice a l.length c) l.length xs B ∧ Laid r sz L xs l ∧ ∀ x ∈ xs, x.oneCell' = true
theorem ORow.nil (e : TypeId) : ORow r e sz L none 0 [] [] := ⟨[], Row.nil _ _, rfl, by simp⟩
theorem ORow.mono (hr : Vl r) {L' : jc} (hL : ∀ p ∈ L, p ∈ L') {e : TypeId} {a : Option Addr} {c : Nat} {l : List α} {B : jc} (h : ORow r e sz L a c l B) : ORow r e sz L' a c l B := by
 obtain ⟨xs, h1, h2, h3⟩ := h.ex
 exact ⟨xs, h1, h2.mono hr hL, h3⟩
theorem ORow.sliceR (hr : Vl r) {L' : jc} {e : TypeId} {a : Option Addr} {c : Nat} {l : List α} {B : jc} (h : ORow r e sz L a c l B) (hL : ∀ p ∈ L, p ∈ L') (hB : ∀ p ∈ B, p ∈ L') : sliceR sz r L' [.slice a l.length c] l := by
 obtain ⟨xs, h1, h2, h3⟩ := h.ex
 have h2' := h2.mono hr hL
 rcases h1.is with ⟨q1, q2, q3⟩ | ⟨b, cap, cur, q1, q2, q3, q4, q5, q6⟩
 · obtain ⟨rfl, e1, rfl⟩ := Value.slice.inj q1
   exact ⟨none, 0, rfl, by omega, by unfold maxLen; omega, Or.inl (List.eq_nil_of_length_eq_zero q2)⟩
 · obtain ⟨rfl, e1, rfl⟩ := Value.slice.inj q1
   refine ⟨_, c, rfl, q3, q4, Or.inr ⟨b, 0, cur, e, (0, 0), rfl, hB _ (by rw [q2]; exact List.mem_cons_self ..), fun i x hx => ?_⟩⟩
   obtain ⟨cs', k1, k2, k3⟩ := h2'.at hx
   refine ⟨cs', k1, k2, fun j v hj => ?_⟩
   have hil := (List.getElem?_eq_some_iff.1 hx).1
   have hjl := (List.getElem?_eq_some_iff.1 hj).1
   have hlt : i * sz + j < l.length * sz := by
    have : (i + 1) * sz ≤ l.length * sz := Nat.mul_le_mul_right _ hil
    rw [Nat.succ_mul] at this
    omega
   have := k3 j v hj
   rw [← q6, List.getElem?_take_of_lt hlt] at this
   rw [Nat.zero_add]
   simpa using this
theorem sliceR.cut {a : Option Addr} {m c : Nat} {l : List α} (h : sliceR sz r L [.slice a m c] l) : m = l.length ∧ m ≤ c ∧ c ≤ maxLen ∧ (l = [] ∨ ∃ b off C te fr, a = some ⟨b, off, none⟩ ∧ (b, Obj.cells C te fr) ∈ L ∧
 ∀ i x, l[i]? = some x → ∃ cs', cs'.length = sz ∧ r L cs' x ∧ ∀ j v, cs'[j]? = some v → C[off + i * sz + j]? = some v) := by
 obtain ⟨a', c', h1, h2, h3, h4⟩ := h
 simp only [List.cons.injEq, and_true] at h1
 obtain ⟨rfl, rfl, rfl⟩ := Value.slice.inj h1
 exact ⟨rfl, h2, h3, h4⟩
theorem sliceR.val {cs : List Value} {l : List α} (h : sliceR sz r L cs l) : ∃ a c, cs = [.slice a l.length c] ∧ sliceR sz r L [.slice a l.length c] l := by
 obtain ⟨a, c, h1, h2⟩ := h
 exact ⟨a, c, h1, a, c, rfl, h2⟩
theorem sliceR.nil : sliceR sz r L [.slice none 0 0] ([] : List α) := ⟨none, 0, rfl, by simp, by unfold maxLen; omega, Or.inl rfl⟩
end
section
variable {G : World} {P : Program} {n : Nat} {ρ : jn} {L : jc} {ty : TypeId} {Q : Exit → Act → World → Prop}
theorem agf {s x : Operand} {t e te : TypeId} {sz bytes bl : Nat} {z v : Value} {cs : List Value} {m : Nat} {xs : List Value} {B : jc} (E : ElemTy P t e sz bytes z) (hs : ev ρ s = some v) (hx : ev ρ x = some (.slice (some ⟨bl, 0, none⟩) 1 1))
 (hrow : Row e sz v m xs B) (hn : cs.length = sz) (hone : ∀ v ∈ cs, v.oneCell' = true) (h63 : m + 1 ≤ maxLen) (hby : (m + 1) * bytes ≤ 140737488355328) :
 OpT P G ρ ((bl, .cells cs.toArray te (0, 0)) :: (B ++ L)) (.call ⟨.builtin .append, #[s, x], #[t, t]⟩) ty fun v' L' => ∃ B', Row e sz v' (m + 1) (xs ++ cs) B' ∧ L' = B' ++ L :=
 (OpT.heap (L' := B ++ ((bl, .cells cs.toArray te (0, 0)) :: L)) (fun w hw => hw.perm List.perm_middle.symm) (zD E hs hx hrow ⟨by omega, hone, Or.inr ⟨bl, 0, 1, cs.toArray, te, (0, 0), rfl, List.mem_cons_self .., fun j y hj => by rw [Nat.zero_add]; simpa using hj⟩⟩ h63 hby)).post fun v' M ⟨B', h1, h2⟩ =>
   ⟨B' ++ L, ⟨B', h1, rfl⟩, fun w hw => (h2 ▸ hw : Heap G w (B' ++ _)).sub ((List.Sublist.refl B').append (List.sublist_cons_self _ _))⟩
theorem uJ {α : Type} {r : Rp α} {s x : Operand} {t e te : TypeId} {sz bytes bl : Nat} {z : Value} {a : Option Addr} {c : Nat} {cs : List Value} {y : α} {l : List α} {B L0 : jc} (E : ElemTy P t e sz bytes z) (hs : ev ρ s = some (.slice a l.length c)) (hx : ev ρ x = some (.slice (some ⟨bl, 0, none⟩) 1 1))
 (hrow : ORow r e sz L0 a c l B) (hn : cs.length = sz) (hone : ∀ v ∈ cs, v.oneCell' = true) (hy : r L0 cs y) (h63 : l.length + 1 ≤ maxLen) (hby : (l.length + 1) * bytes ≤ 140737488355328) :
 OpT P G ρ ((bl, .cells cs.toArray te (0, 0)) :: (B ++ L)) (.call ⟨.builtin .append, #[s, x], #[t, t]⟩) ty fun v' L' => ∃ a' c' B', v' = .slice a' (l ++ [y]).length c' ∧ ORow r e sz L0 a' c' (l ++ [y]) B' ∧ L' = B' ++ L := by
 obtain ⟨xs, h1, h2, h3⟩ := hrow.ex
 refine (agf E hs hx h1 hn hone h63 hby).post fun v' M ⟨B', k1, k2⟩ => ?_
 obtain ⟨a', c', rfl⟩ := k1.slice
 have hlen : (l ++ [y]).length = l.length + 1 := by simp
 refine ⟨M, ⟨a', c', B', by rw [hlen], ⟨xs ++ cs, by rw [hlen]; exact k1, h2.append (Laid.one hn hy), fun x hx => ?_⟩, k2⟩, fun w hw => hw⟩
 rcases List.mem_append.1 hx with hx | hx
 · exact h3 x hx
 · exact hone x hx
theorem Q3 {t e : TypeId} {x : Operand} {sz bytes : Nat} {z : Value} {cs : List Value} (E : ElemTy P t e sz bytes z) (hx : ev ρ x = some (.agg cs.toArray)) (hn : cs.length = sz) (hsz : sz ≤ 1000) :
 OpNew P G ρ L (.buildSlice t 1 #[(0, x)]) ty (fun b => .slice (some ⟨b, 0, none⟩) 1 1) (.cells cs.toArray e (0, 0)) :=
 qb (ps := [(0, x)]) (vs := [(0, .agg cs.toArray)]) (by simp [ua, hx]) (Q2 E [.agg cs.toArray] rfl (fun v hv => by rw [List.mem_singleton.1 hv]; simpa [Value.cells] using hn) (by omega) (by simp [Value.cells]))
end
end
section
open Go.RowKit
open Classical in
noncomputable def hit (p q : Nat × Obj) : Nat := if p = q then 1 else 0
noncomputable def cnt (p : Nat × Obj) : jc → Nat
 | [] => 0
 | q :: L => hit p q + cnt p L
theorem jI (p : Nat × Obj) : cnt p [] = 0 := rfl
theorem jC (p q : Nat × Obj) (L : jc) : cnt p (q :: L) = hit p q + cnt p L := rfl
theorem jw (p : Nat × Obj) : ∀ A B : jc, cnt p (A ++ B) = cnt p A + cnt p B
 | [], B => by simp [cnt]
 | q :: A, B => by rw [List.cons_append, jC, jC, jw p A B]; omega
theorem cnt_pos {p : Nat × Obj} : ∀ {L : jc}, p ∈ L ↔ 1 ≤ cnt p L
 | [] => by simp [cnt]
 | q :: L => by
   rw [jC, List.mem_cons, cnt_pos (L := L)]
   unfold hit
   by_cases h : p = q
   · rw [if_pos h]; simp [h]
   · rw [if_neg h]; simp [h]
theorem YI {p : Nat × Obj} : ∀ {L : jc}, (L.map (·.1)).Nodup → cnt p L ≤ 1
 | [], _ => by simp [cnt]
 | q :: L, h => by
   rw [List.map_cons, List.nodup_cons] at h
   rw [jC]
   have h2 := YI (p := p) h.2
   unfold hit
   by_cases e : p = q
   · subst e
     rw [if_pos rfl]
     by_cases h0 : 1 ≤ cnt p L
     · exact absurd (List.mem_map.2 ⟨p, cnt_pos.2 h0, rfl⟩) h.1
     · omega
   · rw [if_neg e]; omega
theorem YJ : ∀ {L : jc}, (L.map (·.1)).Nodup → ∀ {p q : Nat × Obj}, p ∈ L → q ∈ L → p.1 = q.1 → p = q
 | [], _, p, q, h, _, _ => by simp at h
 | r :: L, hn, p, q, hp, hq, e => by
   rw [List.map_cons, List.nodup_cons] at hn
   rcases List.mem_cons.1 hp with rfl | hp' <;> rcases List.mem_cons.1 hq with rfl | hq'
   · rfl
   · exact absurd (List.mem_map.2 ⟨q, hq', e.symm⟩) hn.1
   · exact absurd (List.mem_map.2 ⟨p, hp', e⟩) hn.1
   · exact YJ hn.2 hp' hq' e
theorem Qx : ∀ {L L' : jc}, (∀ p, cnt p L' ≤ cnt p L) → (L.map (·.1)).Nodup → (L'.map (·.1)).Nodup
 | L, [], _, _ => by simp
 | L, q :: L', h, hn => by
   rw [List.map_cons, List.nodup_cons]
   refine ⟨fun hm => ?_, Qx (L := L) (fun p => by have := h p; rw [jC] at this; omega) hn⟩
   obtain ⟨r, hr, e⟩ := List.mem_map.1 hm
   have h1 : 1 ≤ cnt r L' := cnt_pos.1 hr
   have hq : q ∈ L := cnt_pos.2 (by have := h q; rw [jC] at this; have h0 : hit q q = 1 := by simp [hit]
                                    omega)
   have hr' : r ∈ L := cnt_pos.2 (by have := h r; rw [jC] at this; omega)
   have := YJ hn hr' hq e
   subst this
   have h2 := h r
   rw [jC] at h2
   have h3 := YI (p := r) hn
   have h0 : hit r r = 1 := by simp [hit]
   omega
variable {G : World} {P : Program} {n : Nat} {ρ : jn} {L : jc} {ty : TypeId} {Q : Exit → Act → World → Prop}
theorem Heap.cnt {w : World} {L' : jc} (h : Heap G w L) (hc : ∀ p, Go.Proofs.YtkpblofmoalnoaaGreatDoor.cnt p L' ≤ Go.Proofs.YtkpblofmoalnoaaGreatDoor.cnt p L) : Heap G w L' :=
 ⟨h.still, Qx hc h.nodup, fun p hp => h.get p (cnt_pos.2 (Nat.le_trans (cnt_pos.1 hp) (hc p)))⟩
theorem qD {L' : jc} (hc : ∀ p, cnt p L' ≤ cnt p L) : ∀ p ∈ L', p ∈ L := fun p hp => cnt_pos.2 (Nat.le_trans (cnt_pos.1 hp) (hc p))
section
variable {α : Type} {r : Rp α} {sz : Nat}
theorem Laid.set : ∀ {l : List α} {xs : List Value} {i : Nat} {y : α} {cs : List Value}, Laid r sz L xs l → i < l.length → cs.length = sz → r L cs y → Laid r sz L (xs.take (i * sz) ++ cs ++ xs.drop (i * sz + sz)) (l.set i y)
 | [], _, i, y, cs, _, hi, _, _ => by simp at hi
 | x :: l, _, 0, y, cs, ⟨c, zs, h1, h2, h3, h4⟩, _, hn, hy => by
   refine ⟨cs, zs, ?_, hn, hy, h4⟩
   rw [h1, Nat.zero_mul, List.take_zero, List.nil_append, Nat.zero_add, ← h2, List.drop_left]
 | x :: l, _, i + 1, y, cs, ⟨c, zs, h1, h2, h3, h4⟩, hi, hn, hy => by
   refine ⟨c, zs.take (i * sz) ++ cs ++ zs.drop (i * sz + sz), ?_, h2, h3, h4.set (by simpa using hi) hn hy⟩
   rw [h1, Nat.succ_mul, List.take_append, List.drop_append, h2, List.take_of_length_le (by omega), List.drop_of_length_le (l := c) (by omega)]
   rw [show i * sz + sz - sz = i * sz by omega, show i * sz + sz + sz - sz = i * sz + sz by omega]
   simp
theorem ORow.set {e : TypeId} {a : Option Addr} {c : Nat} {l : List α} {B : jc} {i b : Nat} {y : α} {cs : List Value} {cur cur' : Array Value} (h : ORow r e sz L a c l B) (hB : B = [(b, .cells cur e (0, 0))]) (hi : i < l.length) (hn : cs.length = sz) (hy : r L cs y) (hone : ∀ v ∈ cs, v.oneCell' = true)
 (hs : cur'.size = cur.size) (hin : ∀ j v, cs[j]? = some v → cur'[i * sz + j]? = some v) (hout : ∀ k, k < i * sz ∨ i * sz + sz ≤ k → cur'[k]? = cur[k]?) : ORow r e sz L a c (l.set i y) [(b, .cells cur' e (0, 0))] := by
 obtain ⟨xs, h1, h2, h3⟩ := h.ex
 have hlen := h2.len
 have hle : i * sz + sz ≤ l.length * sz := by
  have : (i + 1) * sz ≤ l.length * sz := Nat.mul_le_mul_right _ hi
  rw [Nat.succ_mul] at this
  exact this
 rcases h1.is with ⟨_, _, q3⟩ | ⟨b', cap, cur0, q1, q2, q3, q4, q5, q6⟩
 · rw [q3] at hB; simp at hB
 · rw [q2] at hB
   simp only [List.cons.injEq, Prod.mk.injEq, Obj.cells.injEq, and_true] at hB
   obtain ⟨rfl, rfl⟩ := hB
   refine ⟨xs.take (i * sz) ++ cs ++ xs.drop (i * sz + sz), ⟨?_, Or.inr ⟨b', cap, cur', ?_, rfl, ?_, q4, by rw [hs]; exact q5, ?_⟩⟩, h2.set hi hn hy, fun v hv => ?_⟩
   · simp only [List.length_append, List.length_take, List.length_drop, List.length_set, hlen, hn]; omega
   · rw [List.length_set]; exact q1
   · rw [List.length_set]; exact q3
   · rw [List.length_set]
     apply List.ext_getElem?
     intro k
     have hx : ∀ k, k < l.length * sz → xs[k]? = cur0[k]? := fun k hk => by
      rw [← q6, List.getElem?_take_of_lt hk]; simp
     by_cases hk : k < l.length * sz
     · rw [List.getElem?_take_of_lt hk, Array.getElem?_toList]
       by_cases k1 : k < i * sz
       · rw [hout k (Or.inl k1), List.append_assoc, List.getElem?_append_left (by rw [List.length_take]; omega), List.getElem?_take_of_lt k1, hx k hk]
       · by_cases k2 : k < i * sz + sz
         · rw [List.append_assoc, List.getElem?_append_right (by rw [List.length_take]; omega), List.getElem?_append_left (by rw [List.length_take]; omega)]
           have hm : min (i * sz) xs.length = i * sz := by omega
           rw [List.length_take, hm]
           obtain ⟨v, hv⟩ : ∃ v, cs[k - i * sz]? = some v := ⟨_, List.getElem?_eq_getElem (by omega)⟩
           rw [hv]
           have := hin _ v hv
           rw [show i * sz + (k - i * sz) = k by omega] at this
           exact this
         · rw [hout k (Or.inr (by omega)), List.getElem?_append_right (by simp only [List.length_append, List.length_take]; omega)]
           have hm : (xs.take (i * sz) ++ cs).length = i * sz + sz := by simp only [List.length_append, List.length_take]; omega
           rw [hm, List.getElem?_drop, show i * sz + sz + (k - (i * sz + sz)) = k by omega, hx k hk]
     · rw [List.getElem?_eq_none (by simp; omega), List.getElem?_eq_none (by simp only [List.length_append, List.length_take, List.length_drop]; omega)]
   · rcases List.mem_append.1 hv with hv | hv
     · rcases List.mem_append.1 hv with hv | hv
       · exact h3 v (List.mem_of_mem_take hv)
       · exact hone v hv
     · exact h3 v (List.mem_of_mem_drop hv)
theorem ORow.block {e : TypeId} {a : Option Addr} {c : Nat} {l : List α} {B : jc} (h : ORow r e sz L a c l B) (hl : l ≠ []) : ∃ b cur, a = some ⟨b, 0, none⟩ ∧ B = [(b, .cells cur e (0, 0))] ∧ l.length ≤ c ∧ c ≤ maxLen ∧ cur.size = c * sz ∧
 ∀ i x, l[i]? = some x → ∃ cs, cs.length = sz ∧ r L cs x ∧ (∀ v ∈ cs, v.oneCell' = true) ∧ ∀ j v, cs[j]? = some v → cur[i * sz + j]? = some v := by
 obtain ⟨xs, h1, h2, h3⟩ := h.ex
 rcases h1.is with ⟨_, q2, _⟩ | ⟨b, cap, cur, q1, q2, q3, q4, q5, q6⟩
 · exact absurd (List.eq_nil_of_length_eq_zero q2) hl
 · obtain ⟨rfl, _, rfl⟩ := Value.slice.inj q1
   refine ⟨b, cur, rfl, q2, q3, q4, q5, fun i x hx => ?_⟩
   obtain ⟨cs, k1, k2, k3⟩ := h2.at hx
   refine ⟨cs, k1, k2, fun v hv => ?_, fun j v hj => ?_⟩
   · obtain ⟨j, hj⟩ := List.getElem?_of_mem hv
     exact h3 v (List.mem_of_getElem? (k3 j v hj))
   · have hil := (List.getElem?_eq_some_iff.1 hx).1
     have hjl := (List.getElem?_eq_some_iff.1 hj).1
     have hlt : i * sz + j < l.length * sz := by
      have : (i + 1) * sz ≤ l.length * sz := Nat.mul_le_mul_right _ hil
      rw [Nat.succ_mul] at this
      omega
     have := k3 j v hj
     rw [← q6, List.getElem?_take_of_lt hlt] at this
     simpa using this
end
end
section
open Go.RowKit
theorem dT {p : Prop} [Decidable p] (h : p) : decide p = true := decide_eq_true h
theorem dF {p : Prop} [Decidable p] (h : ¬ p) : decide p = false := decide_eq_false h
section
variable {α : Type} [BEq α] [LawfulBEq α] {a b : α}
theorem eT (h : a = b) : (a == b) = true := beq_iff_eq.2 h
theorem eF (h : ¬ a = b) : (a == b) = false := beq_false_of_ne h
theorem nT (h : ¬ a = b) : (a != b) = true := bne_iff_ne.2 h
theorem nF (h : a = b) : (a != b) = false := by rw [h]; simp
end
theorem xT {b : Bool} (h : b = false) : (!b) = true := by rw [h]; rfl
theorem xF {b : Bool} (h : b = true) : (!b) = false := by rw [h]; rfl
variable {G : World} {P : Program} {n : Nat} {ρ : jn} {L : jc} {ty : TypeId} {Q : Exit → Act → World → Prop}
section
variable {c : Operand} {x y : Code}
end
section
variable {ops : Array Oper} {d j dj : Nat} {op : Op} {pos : String} {after : Array Edge} {rest : List Oper}
end
theorem qU {t : TypeId} {x : Operand} {C : Array Value} (hx : ev ρ x = some (.agg C)) : OpNew P G ρ L (.box t x) ty (fun b => .pointer (some ⟨b, 0, none⟩)) (.cells C t (0, 0)) := aan hx rfl
theorem Un {a : Nat} {b k : Nat} {t : TypeId} {C : Array Value} {te : TypeId} {fr : Nat × Nat} {ac : Act} {w : World} (he : Env n ρ ac) (hv : ρ.lookup a = some (.pointer (some ⟨b, 0, none⟩))) (ht : j8 P t k = true) (hg : w.heap[b]? = some (.cells C te fr)) (hk : C.size = k) :
 ac.tmps.getD a undef = .pointer (some ⟨b, 0, none⟩) ∧ (loadVar t ⟨b, 0, none⟩).run P w = .ok (.agg C) w := by
 have h1 : ac.tmps.getD a undef = .pointer (some ⟨b, 0, none⟩) := he.reads (.tmp a) _ hv
 refine ⟨h1, ?_⟩
 unfold j8 at ht
 cases hu : P.underlying t with
 | none => simp [hu] at ht
 | some d =>
   cases hi : P.info? t with
   | none => simp [hi] at ht
   | some i =>
     cases d with
     | struct fs =>
       simp [hu, hi] at ht
       have ha : (isAgg t).run P w = .ok true w := by
        unfold isAgg
        simp [run_underlying hu]
       have hc := run_loadCells_list (P := P) (w := w) ⟨b, 0, none⟩ C.toList (fun j v hj => by
        rw [kT, Nat.zero_add]
        unfold World.cell?
        rw [hg]
        simpa using hj)
       rw [Array.length_toList, hk] at hc
       simp [loadVar, ha, sizeOf, typeInfo, hi, ht, hc]
     | _ => simp [hu] at ht
theorem qO {fn : Func} {Φ : Value → jc → Prop} (a t u : Nat) {b k : Nat} {C : Array Value} {te : TypeId} {fr : Nat × Nat} {x : Value} {L' : jc} (hr : fn.results = #[.cell a t, .tmp u]) (hv : ρ.lookup a = some (.pointer (some ⟨b, 0, none⟩))) (hx : ρ.lookup u = some x)
 (ht : j8 P t k = true) (hm : (b, Obj.cells C te fr) ∈ L) (hk : C.size = k) (hl : ∀ w, Heap G w L → Heap G w L') (h : Φ (.tuple #[.agg C, x]) L') : TQ G n ρ L .ret (bodyPost P fn (jU G Φ)) :=
 ⟨fun ac w he hw => ⟨he.defers, .tuple #[.agg C, x], by
   obtain ⟨h1, h0⟩ := Un he hv ht (hw.get _ hm) hk
   have h2 : ac.tmps.getD u undef = x := he.reads (.tmp u) x hx
   rw [Array.getD_eq_getD_getElem?] at h1 h2
   simp only [results, hr]
   simp
   simp [h1, asAddr, h0, h2], _, L', rfl, h, hl w hw⟩⟩
theorem kj {fn : Func} {Φ : Value → jc → Prop} (a t u s : Nat) {b k : Nat} {C : Array Value} {te : TypeId} {fr : Nat × Nat} {x y : Value} {L' : jc} (hr : fn.results = #[.cell a t, .tmp u, .tmp s]) (hv : ρ.lookup a = some (.pointer (some ⟨b, 0, none⟩))) (hx : ρ.lookup u = some x) (hy : ρ.lookup s = some y)
 (ht : j8 P t k = true) (hm : (b, Obj.cells C te fr) ∈ L) (hk : C.size = k) (hl : ∀ w, Heap G w L → Heap G w L') (h : Φ (.tuple #[.agg C, x, y]) L') : TQ G n ρ L .ret (bodyPost P fn (jU G Φ)) :=
 ⟨fun ac w he hw => ⟨he.defers, .tuple #[.agg C, x, y], by
   obtain ⟨h1, h0⟩ := Un he hv ht (hw.get _ hm) hk
   have h2 : ac.tmps.getD u undef = x := he.reads (.tmp u) x hx
   have h3 : ac.tmps.getD s undef = y := he.reads (.tmp s) y hy
   rw [Array.getD_eq_getD_getElem?] at h1 h2 h3
   simp only [results, hr]
   simp
   simp [h1, asAddr, h0, h2, h3], _, L', rfl, h, hl w hw⟩⟩
end
section
open Go.RowKit
namespace Vd
abbrev Bytes := List UInt8
structure RSet where
 name : Bytes
 kind : Int
 cls : Int
 ttl : Int
 data : List Bytes
deriving DecidableEq
structure Vdt where
 code : Int
 sets : List RSet
 soa : List RSet
deriving DecidableEq
structure Vote where
 up : Int
 vd : Vdt
 time : Int
deriving DecidableEq
structure Rec where
 name : Bytes
 kind : Int
 cls : Int
 ttl : Int
 data : Bytes
deriving DecidableEq
structure Quest where
 name : Bytes
 kind : Int
 cls : Int
deriving DecidableEq
def RSet.none : RSet := ⟨[], 0, 0, 0, []⟩
def Vdt.none : Vdt := ⟨0, [], []⟩
instance : Inhabited RSet := ⟨RSet.none⟩
instance : Inhabited Vdt := ⟨Vdt.none⟩
instance : Inhabited Vote := ⟨⟨0, Vdt.none, 0⟩⟩
instance : Inhabited Rec := ⟨⟨[], 0, 0, 0, []⟩⟩
end Vd
open Vd (RSet Vdt Vote Rec Quest)
def rsR : Rp RSet := fun L cs s => ∃ d, cs = [.string (bs s.name), .int .u16 s.kind, .int .u16 s.cls, .int .u32 s.ttl, d] ∧ sliceR 1 WH L [d] s.data ∧ s.name.length ≤ maxLen ∧ (0 ≤ s.kind ∧ s.kind ≤ 65535) ∧ (0 ≤ s.cls ∧ s.cls ≤ 65535) ∧ (0 ≤ s.ttl ∧ s.ttl ≤ 4294967295)
def vdR : Rp Vdt := fun L cs v => ∃ a b, cs = [.int .u8 v.code, a, b] ∧ sliceR 5 rsR L [a] v.sets ∧ sliceR 5 rsR L [b] v.soa ∧ (0 ≤ v.code ∧ v.code ≤ 255)
def alX : Rp Vote := fun L cs x => ∃ a b, cs = [.int .i64 x.up, .int .u8 x.vd.code, a, b, .int .u32 x.time] ∧ sliceR 5 rsR L [a] x.vd.sets ∧ sliceR 5 rsR L [b] x.vd.soa ∧ (0 ≤ x.vd.code ∧ x.vd.code ≤ 255) ∧ (0 ≤ x.time ∧ x.time ≤ 4294967295) ∧ (-9223372036854775808 ≤ x.up ∧ x.up ≤ 9223372036854775807)
def amc : Rp Rec := fun L cs x => cs = [.string (bs x.name), .int .u16 x.kind, .int .u16 x.cls, .int .u32 x.ttl, .string (bs x.data)] ∧ x.name.length ≤ maxLen ∧ x.data.length ≤ maxLen ∧ (0 ≤ x.kind ∧ x.kind ≤ 65535) ∧ (0 ≤ x.cls ∧ x.cls ≤ 65535) ∧ (0 ≤ x.ttl ∧ x.ttl ≤ 4294967295)
theorem rsR.len {L : jc} {cs : List Value} {s : RSet} (h : rsR L cs s) : cs.length = 5 := by obtain ⟨d, rfl, _⟩ := h; rfl
theorem rsR.one {L : jc} {cs : List Value} {s : RSet} (h : rsR L cs s) : ∀ v ∈ cs, v.oneCell' = true := by
 obtain ⟨d, rfl, hd, _⟩ := h
 obtain ⟨a, c, e, _⟩ := hd
 simp only [List.cons.injEq, and_true] at e
 subst e
 intro v hv
 simp only [List.mem_cons, List.not_mem_nil, or_false] at hv
 rcases hv with rfl | rfl | rfl | rfl | rfl <;> rfl
end
section
open Go.RowKit
open Vd (RSet Vdt Vote Rec Quest)
section
variable {P : Program}
theorem Vm {t e : TypeId} {a : Option Addr} {m c : Nat} (d : Nat) (w : World) (h : P.underlying t = some (.slice e)) : (Op.equalIn (d + 1) t (.slice a m c) (.slice none 0 0)).run P w = .ok a.isNone w := by
 cases a <;> simp [Op.equalIn, run_underlying h]
theorem ad3 {t e : TypeId} {a : Option Addr} {m c : Nat} (h : P.underlying t = some (.slice e)) : Bin P .eql t (.slice a m c) (.slice none 0 0) (.bool a.isNone) := ⟨fun x y w => by
 simp only [eqGuard, binOp, ql]
 simp [Vm 9999 w h]⟩
end
section
variable {α : Type} {r : Rp α} {sz : Nat} {G : World} {P : Program} {ρ : jn} {L : jc} {ty : TypeId}
end
end
section
open Go.RowKit
variable {G : World} {P : Program} {n : Nat} {ρ : jn} {L : jc} {ty : TypeId} {Q : Exit → Act → World → Prop}
def yx (a : Option Addr) (c k sz : Nat) : Option Addr := if c = k then a else a.map (·.add (k * sz))
theorem aap {x lo : Operand} {a : Option Addr} {m c : Nat} {k : IntKind} {i : Int} {t e : TypeId} {sz bytes : Nat} {z : Value} (E : ElemTy P t e sz bytes z) (hx : ev ρ x = some (.slice a m c)) (hlo : ev ρ lo = some (.int k i)) (h0 : 0 ≤ i) (h1 : i ≤ m) :
 OpQ P ρ L (.slice t x (some lo) none none) ty (.slice (yx a c i.toNat sz) (m - i.toNat) (c - i.toNat)) :=
 ⟨fun r hr w hw o ho _ => by
   obtain ⟨inf, q2, q3, q4, q5⟩ := E.info
   simp [execOp, ho, hr _ _ hx, hr _ _ hlo, Instr.sliceAt, run_underlying E.und, Instr.slice, Instr.sliceBounds, Instr.sliceBound, asIntOf, h0, h1, sizeOf, typeInfo, q2, q4, yx]⟩
theorem aaq {x lo hi : Operand} {a : Option Addr} {m c : Nat} {k k' : IntKind} {i j : Int} {t e : TypeId} {sz bytes : Nat} {z : Value} (E : ElemTy P t e sz bytes z) (hx : ev ρ x = some (.slice a m c)) (hlo : ev ρ lo = some (.int k i)) (hhi : ev ρ hi = some (.int k' j)) (h0 : 0 ≤ i) (h1 : i ≤ j) (h2 : j ≤ c) :
 OpQ P ρ L (.slice t x (some lo) (some hi) none) ty (.slice (yx a c i.toNat sz) (j.toNat - i.toNat) (c - i.toNat)) :=
 ⟨fun r hr w hw o ho _ => by
   obtain ⟨inf, q2, q3, q4, q5⟩ := E.info
   have h3 : 0 ≤ j := by omega
   have e1 : ((j.toNat : Nat) : Int) = j := by omega
   simp [execOp, ho, hr _ _ hx, hr _ _ hlo, hr _ _ hhi, Instr.sliceAt, run_underlying E.und, Instr.slice, Instr.sliceBounds, Instr.sliceBound, asIntOf, h0, h1, h2, h3, e1, sizeOf, typeInfo, q2, q4, yx]⟩
section
variable {α : Type} {r : Rp α} {sz : Nat}
theorem sliceR.take {a : Option Addr} {m c : Nat} {l : List α} (h : sliceR sz r L [.slice a m c] l) {k : Nat} (hk : k ≤ l.length) : sliceR sz r L [.slice a k c] (l.take k) := by
 obtain ⟨h1, h2, h3, h4⟩ := sliceR.cut h
 refine ⟨a, c, by rw [List.length_take, Nat.min_eq_left hk], by rw [List.length_take]; omega, h3, ?_⟩
 rcases h4 with rfl | ⟨b, off, C, te, fr, rfl, q2, q3⟩
 · left; simp
 · right
   refine ⟨b, off, C, te, fr, rfl, q2, fun i x hx => ?_⟩
   refine q3 i x ?_
   rw [List.getElem?_take] at hx
   split at hx
   · exact hx
   · cases hx
theorem sliceR.drop {a : Option Addr} {m c : Nat} {l : List α} (h : sliceR sz r L [.slice a m c] l) {k : Nat} (hk : k ≤ l.length) : sliceR sz r L [.slice (yx a c k sz) (m - k) (c - k)] (l.drop k) := by
 obtain ⟨h1, h2, h3, h4⟩ := sliceR.cut h
 refine ⟨yx a c k sz, c - k, by rw [List.length_drop, h1], by rw [List.length_drop]; omega, by omega, ?_⟩
 by_cases hkl : k = l.length
 · left; rw [hkl, List.drop_length]
 · rcases h4 with rfl | ⟨b, off, C, te, fr, rfl, q2, q3⟩
   · left; simp
   · right
     have hc : ¬ c = k := by omega
     refine ⟨b, off + k * sz, C, te, fr, by unfold yx; rw [if_neg hc]; simp [kT], q2, fun i x hx => ?_⟩
     rw [List.getElem?_drop] at hx
     obtain ⟨cs', k1, k2, k3⟩ := q3 (k + i) x hx
     refine ⟨cs', k1, k2, fun j v hj => ?_⟩
     rw [← k3 j v hj]
     congr 1
     rw [Nat.add_mul]
     omega
theorem sliceR.at {a : Option Addr} {m c : Nat} {l : List α} (h : sliceR sz r L [.slice a m c] l) {i : Nat} {x : α} (hx : l[i]? = some x) : ∃ b off C te fr, a = some ⟨b, off, none⟩ ∧ (b, Obj.cells C te fr) ∈ L ∧ ∃ cs, cs.length = sz ∧ r L cs x ∧ ∀ j v, cs[j]? = some v → C[off + i * sz + j]? = some v := by
 obtain ⟨_, _, _, h4⟩ := sliceR.cut h
 rcases h4 with rfl | ⟨b, off, C, te, fr, rfl, q2, q3⟩
 · simp at hx
 · exact ⟨b, off, C, te, fr, rfl, q2, q3 i x hx⟩
theorem sliceR.imp {r' : Rp α} {L' : jc} {cs : List Value} {l : List α} (h : sliceR sz r L cs l) (hL : ∀ p ∈ L, p ∈ L') (hr : ∀ cs x, x ∈ l → r L cs x → r' L' cs x) : sliceR sz r' L' cs l := by
 obtain ⟨a, cap, h1, h2, h3, h4⟩ := h
 refine ⟨a, cap, h1, h2, h3, h4.imp id ?_⟩
 rintro ⟨b, off, C, te, fr, q1, q2, q3⟩
 refine ⟨b, off, C, te, fr, q1, hL _ q2, fun i x hx => ?_⟩
 obtain ⟨cs', k1, k2, k3⟩ := q3 i x hx
 exact ⟨cs', k1, hr cs' x (List.mem_of_getElem? hx) k2, k3⟩
theorem Laid.imp {r' : Rp α} {L' : jc} : ∀ {l : List α} {xs : List Value}, Laid r sz L xs l → (∀ cs x, x ∈ l → r L cs x → r' L' cs x) → Laid r' sz L' xs l
 | [], _, h, _ => h
 | x :: l, _, ⟨c, ys, h1, h2, h3, h4⟩, hr => ⟨c, ys, h1, h2, hr c x (List.mem_cons_self ..) h3, Laid.imp h4 fun cs y hy => hr cs y (List.mem_cons_of_mem _ hy)⟩
theorem ORow.imp {r' : Rp α} {L' : jc} {e : TypeId} {a : Option Addr} {c : Nat} {l : List α} {B : jc} (h : ORow r e sz L a c l B) (hr : ∀ cs x, x ∈ l → r L cs x → r' L' cs x) : ORow r' e sz L' a c l B := by
 obtain ⟨xs, h1, h2, h3⟩ := h.ex
 exact ⟨xs, h1, h2.imp hr, h3⟩
theorem ORow.cut0 {e : TypeId} {a : Option Addr} {c : Nat} {l : List α} {B : jc} (h : ORow r e sz L a c l B) : ORow r e sz L a c [] B := by
 obtain ⟨xs, h1, h2, h3⟩ := h.ex
 exact ⟨[], by simpa using h1.cut0, rfl, by simp⟩
theorem ORow.one {e : TypeId} {a : Option Addr} {c : Nat} {l : List α} {B : jc} (h : ORow r e sz L a c l B) : (a = none ∧ B = [] ∧ l = [] ∧ c = 0) ∨ ∃ b cur, a = some ⟨b, 0, none⟩ ∧ B = [(b, .cells cur e (0, 0))] ∧ cur.size = c * sz ∧ l.length ≤ c := by
 obtain ⟨xs, h1, h2, h3⟩ := h.ex
 rcases h1.is with ⟨q1, q2, q3⟩ | ⟨b, cap, cur, q1, q2, q3, q4, q5, q6⟩
 · obtain ⟨rfl, _, rfl⟩ := Value.slice.inj q1
   exact Or.inl ⟨rfl, q3, List.eq_nil_of_length_eq_zero q2, rfl⟩
 · obtain ⟨rfl, _, rfl⟩ := Value.slice.inj q1
   exact Or.inr ⟨b, cur, rfl, q2, q5, q3⟩
theorem ORow.cap {e : TypeId} {a : Option Addr} {c : Nat} {l : List α} {B : jc} (h : ORow r e sz L a c l B) : l.length ≤ c ∧ c ≤ maxLen := by
 obtain ⟨xs, h1, h2, h3⟩ := h.ex
 rcases h1.is with ⟨q1, q2, q3⟩ | ⟨b, cap, cur, q1, q2, q3, q4, q5, q6⟩
 · obtain ⟨rfl, _, rfl⟩ := Value.slice.inj q1
   exact ⟨by omega, by unfold maxLen; omega⟩
 · obtain ⟨rfl, _, rfl⟩ := Value.slice.inj q1
   exact ⟨q3, q4⟩
end
def Wr (N : jc) : Prop := ∀ p ∈ N, ∃ C te, p.2 = Obj.cells C te (0, 0)
theorem Wr.nil : Wr [] := fun p hp => absurd hp (by simp)
theorem Wr.append {A B : jc} (h : Wr A) (k : Wr B) : Wr (A ++ B) := fun p hp => (List.mem_append.1 hp).elim (h p) (k p)
theorem Wr.cons {b : Nat} {C : Array Value} {te : TypeId} {B : jc} (k : Wr B) : Wr ((b, .cells C te (0, 0)) :: B) := fun p hp => by
 rcases List.mem_cons.1 hp with rfl | hp
 · exact ⟨C, te, rfl⟩
 · exact k p hp
theorem ORow.wr {α : Type} {r : Rp α} {sz : Nat} {e : TypeId} {a : Option Addr} {c : Nat} {l : List α} {B : jc} (h : ORow r e sz L a c l B) : Wr B := by
 rcases h.one with ⟨_, rfl, _⟩ | ⟨b, cur, _, rfl, _⟩
 · exact Wr.nil
 · exact Wr.cons Wr.nil
theorem kA {ops : Array Oper} {l : List Oper} {L' : jc} (h : TL P G ops n ρ L' l Q) (hc : ∀ p, cnt p L' ≤ cnt p L) : TL P G ops n ρ L l Q := QW (fun w hw => hw.cnt hc) h
theorem ahR {e : Exit} {L' : jc} (h : TQ G n ρ L' e Q) (hc : ∀ p, cnt p L' ≤ cnt p L) : TQ G n ρ L e Q := jr (fun w hw => hw.cnt hc) h
end
section
open Go.RowKit
variable {G : World} {P : Program} {n : Nat} {ρ : jn} {L : jc} {ty : TypeId} {Q : Exit → Act → World → Prop}
def Mid {σ : Type} (G : World) (n : Nat) (I : σ → Prop) (ρI : σ → jn) (LI : σ → jc) (a : Act) (w : World) : Prop := ∃ x, I x ∧ Env n (ρI x) a ∧ Heap G w (LI x)
theorem ahy {σ : Type} {x y : Code} (I : σ → Prop) (ρI : σ → jn) (LI : σ → jc) (hx : T P G n ρ L x (Exit.then (Mid G n I ρI LI) Q)) (hy : ∀ s, I s → T P G n (ρI s) (LI s) y Q) : T P G n ρ L (.seq x y) Q :=
 jT (ad2 hx fun e a w h => by
  cases e with
  | normal =>
    obtain ⟨s, h1, h2, h3⟩ := h
    exact (hy s h1).out a w h2 h3
  | _ => exact h)
theorem zj {σ : Type} {I : σ → Prop} {ρI : σ → jn} {LI : σ → jc} (x : σ) (hI : I x) (hs : Sub (ρI x) ρ) (hl : ∀ w, Heap G w L → Heap G w (LI x)) : TQ G n ρ L .normal (Exit.then (Mid G n I ρI LI) Q) :=
 ⟨fun a w he hw => ⟨x, hI, he.weak hs.get, hl w hw⟩⟩
end
section
open Go.RowKit
theorem je {p : Prop} (h : p := by kernel_rfl) : p := h
theorem jj {p : Prop} (h : p := by omega) : p := h
theorem Vn {p : Prop} (h : p := by first | assumption | rfl) : p := h
theorem kl {p : Prop} (h : p := by intro p; (try simp only [jw, jC, jI]) <;> omega) : p := h
theorem j4 {A B : jc} (h : ∀ p, cnt p A ≤ cnt p B := by intro p; (try simp only [jw, jC, jI]) <;> omega) : ∀ p ∈ A, p ∈ B := qD h
theorem QO {p : Prop} (h : p := by first | assumption | with_reducible rfl | omega) : p := h
theorem ajK {p : Prop} (h : p := by first | assumption | (apply dT; (· exact QO)) | (apply dF; (· exact QO)) | (apply eT; (· exact QO)) | (apply eF; (· exact QO)) | (apply nT; (· exact QO)) | (apply nF; (· exact QO))) : p := h
theorem kB {p : Prop} (h : p := by first | with_reducible rfl | assumption | exact Bool.not_false | exact Bool.not_true | (apply dT; (· exact QO)) | (apply dF; (· exact QO)) | (apply eT; (· exact QO)) | (apply eF; (· exact QO)) | (apply nT; (· exact QO)) | (apply nF; (· exact QO)) | (apply xT; exact ajK) | (apply xF; exact ajK)) : p := h
theorem YK {p : Prop} (h : p := by first | with_reducible rfl | assumption | exact Bool.not_false | exact Bool.not_true) : p := h
theorem uD {p : Prop} (h : p := by repeat (first | assumption | exact List.mem_cons_self | (apply List.mem_append_left; first | assumption | exact List.mem_cons_self) | apply List.mem_cons_of_mem | apply List.mem_append_right)) : p := h
theorem jL {p : Prop} (h : p := by repeat (first | exact trivial | refine ⟨rfl, ?_⟩)) : p := h
section
variable {P : Program} {G : World} {n : Nat} {ρ : jn} {L : jc} {op : Op} {ty : TypeId} {v : Value} {Q : Exit → Act → World → Prop} {ops : Array Oper}
theorem ak3 {o : BinOp} {t : TypeId} {a b : Value} (h : Bin P o t a b v := by first | (apply Wt; (· exact ⟨jj, jj⟩)) | (apply af3; (· exact ⟨jj, jj⟩)) | (apply af4; (· exact ⟨jj, jj⟩)) | (apply af5; (· omega); (· omega); (· exact ⟨jj, jj⟩)) | (apply abB; (· omega); (· omega)) | (apply Wu) | (apply Wv) | (apply QZ) | (apply Ww) | (apply Wx) | (apply Wy) | (apply Yu) | (apply Yv) | (apply Yw) | (apply Yx) | (apply yw; first | omega | (simp only [List.length_cons, List.length_nil]; omega)) | (apply adO; (· exact unO)) | (apply adP; (· exact unO)) | (apply adQ; (· exact unO)) | (apply adR; (· exact unO)) | (apply ad3; (· exact unO))) : Bin P o t a b v := h
theorem Kf  (h : OpQ P ρ L op ty v := by first | (apply qk; (· exact rfl)) | (apply uh; (· exact rfl)) | (apply adY; (· exact rfl); (· exact akz)) | (apply abE; (· exact rfl); (· exact plO); (· exact uD); (· exact Vn)) | (apply kF; (· exact rfl); (· exact rfl); (· exact ak3)) | (apply ahN; (· exact etO); (· exact rfl); (· exact rfl); (· omega)) | (apply aga; (· exact etO); (· exact rfl); (· exact rfl); (· omega); (· omega)) | (apply uF; (· exact rfl); (· exact unO)) | (apply yI; (· exact rfl); (· exact unO)) | (apply Qs; (· exact rfl)) | (apply Ws; (· exact rfl)) | (apply uV; (· exact rfl); (· exact rfl)) | (apply Yy; (· exact rfl); (· exact unO); (· exact unO); (· exact ⟨jj, jj⟩)) | (apply Qu; (· exact rfl); (· exact unO); (· exact unO)) | (apply Kc; (· exact rfl); (· exact unO); (· exact unO)) | (apply ad0; (· exact rfl); (· exact rfl)) | (apply ad1; (· exact rfl); (· exact rfl)) | (apply Kd; (· exact rfl); (· exact rfl); (· exact unO); (· omega); (· exact Vn)) | (apply abF; (· exact arO); (· exact rfl); (· exact rfl); (· omega); (· omega)) | (apply WA; (· exact rfl); (· exact rfl); (· exact rfl); (· exact unO); (· omega); (· omega); (· omega)) | (apply z5; (· exact rfl); (· exact rfl); (· exact unO); (· omega); (· omega)) | (apply Qv; (· exact etO); (· exact rfl); (· exact rfl); (· omega); (· omega)) | (apply aap; (· exact etO); (· exact rfl); (· exact rfl); (· omega); (· omega)) | (apply aaq; (· exact etO); (· exact rfl); (· exact rfl); (· exact rfl); (· omega); (· omega); (· omega)) | (apply adZ; (· exact rfl); (· exact stO); (· exact uD); (· exact Vn)) | (apply ahM; (· exact rfl); (· exact ⟨jj, jj⟩))) : OpQ P ρ L op ty v := h
theorem qqQ {K : jc} {o : Oper} (h : Quiet P G ops K ρ o v := by first | (apply kz; (· exact Kf)) | (apply kz; (apply kU; (· exact rfl); (· exact kB); (· exact rfl))) | (apply kz; (apply kV; (· exact rfl); (· exact kB); (· exact rfl))) | (apply Ul; (· exact rfl); (· exact rfl); (· exact kB); (· exact Kf)) | (apply Ul; (· exact rfl); (· exact rfl); (· exact kB); (apply kU; (· exact rfl); (· exact kB); (· exact rfl))) | (apply Ul; (· exact rfl); (· exact rfl); (· exact kB); (apply kV; (· exact rfl); (· exact kB); (· exact rfl))) | (apply qw; (· exact rfl); (· exact rfl); (· exact kB)) | (apply kD; (· exact rfl); (· exact rfl))) : Quiet P G ops K ρ o v := h
theorem tkQ {K : jc} {W : List Nat} {fuel : Nat} {listed : Array Bool} (i : Nat) {d : Nat} {oi : Oper} (h : TA P G ops n K W Q fuel (listed.setIfInBounds i true) ((d, v) :: ρ) L) (hi : ops[i]? = some oi := by rfl) (hd : oi.dst = some d := by rfl) (ht : YC ops W n listed i d = true := by kernel_rfl)
 (hq : Quiet P G ops K ρ oi v := by exact qqQ) (hK : ∀ p ∈ K, p ∈ L := by first | assumption | (intro p hp; grind)) : TA P G ops n K W Q (fuel + 1) listed ρ L := jG i hi hd ht hq hK h
theorem tdQ {K : jc} {W : List Nat} {fuel : Nat} {listed : Array Bool} (h : TQ G n ρ L .normal Q) (hr : Region.ready .any ops listed = [] := by kernel_rfl) : TA P G ops n K W Q fuel listed ρ L := WC hr h
theorem jx {d : Nat} {pos : String} {after : Array Edge} {rest : List Oper} {mk : Nat → Value} {ob : Obj} (hr : ∀ b, TL P G ops n ((d, mk b) :: ρ) ((b, ob) :: L) rest Q) (h : OpNew P G ρ L op ty mk ob := by first | (apply acy; exact zeO) | (apply Uj; (· exact zeO); (· exact rfl))) (hd : Nat.blt d n = true := by exact rfl) :
 TL P G ops n ρ L (⟨some d, op, ty, pos, after, none⟩ :: rest) Q := kM h hd hr
theorem kh {d : Nat} {pos : String} {after : Array Edge} {rest : List Oper} {mk : Nat → Value} {ob : Obj} (hr : ∀ b, TL P G ops n ((d, mk b) :: ρ) ((b, ob) :: L) rest Q) (h : OpNew P G ρ L op ty mk ob := by first | (apply qU; exact rfl) | (apply aan; (· exact rfl); (· exact rfl))) (hd : Nat.blt d n = true := by exact rfl) :
 TL P G ops n ρ L (⟨some d, op, ty, pos, after, none⟩ :: rest) Q := kM h hd hr
theorem jD {d : Nat} {pos : String} {after : Array Edge} {rest : List Oper} {mk : Nat → Value} {ob : Obj} (hr : ∀ b, TL P G ops n ((d, mk b) :: ρ) ((b, ob) :: L) rest Q) (h : OpNew P G ρ L op ty mk ob := by first | (apply Q3; (· exact etO); (· exact rfl); (· exact rfl); (· decide)) | (apply Q0; (· exact etO); (· exact rfl); (· exact rfl))) (hd : Nat.blt d n = true := by exact rfl) :
 TL P G ops n ρ L (⟨some d, op, ty, pos, after, none⟩ :: rest) Q := kM h hd hr
end
theorem goA {P Q : Prop} (k : Q) (run : Hd Q → P := by intro k; (repeat1' (first | with_reducible apply qd | with_reducible apply uU | (apply jl; (· exact Kf); (· exact rfl)) | with_reducible apply jY | with_reducible apply jT | with_reducible apply um | with_reducible apply uu | with_reducible apply yG | with_reducible apply yH | with_reducible apply ze | with_reducible apply Qr | with_reducible apply kQ | with_reducible apply kC | with_reducible apply qH | with_reducible apply kn | with_reducible apply kb | with_reducible apply qv | with_reducible apply yk | (apply qa; (· decide)) | (apply jl; (· apply kU; (· exact rfl); (· exact kB); (· exact rfl)); (· exact rfl)) | (apply jl; (· apply kV; (· exact rfl); (· exact kB); (· exact rfl)); (· exact rfl)) | (apply zE; (· exact rfl); (· exact rfl); (· exact kB)) | (apply jf; (· exact Kf); (· exact rfl)) | (apply jf; (· apply kU; (· exact rfl); (· exact kB); (· exact rfl)); (· exact rfl)) | (apply jf; (· apply kV; (· exact rfl); (· exact kB); (· exact rfl)); (· exact rfl)) | (apply KW; (· exact rfl); (· exact rfl); (· exact kB); (· exact rfl)) | (apply ui; (· exact rfl); (· exact rfl); (· exact rfl)) | (apply zi; (· exact rfl); (· exact rfl); (· exact stO); (· exact rfl); (· exact rfl); (· exact rfl)) | (apply VE; (· exact rfl); (· exact rfl); (· exact onO); (· exact rfl); (· exact Vn); (· exact rfl)) | (apply VC; (· exact rfl); (· exact kB)) | (apply acx; (· exact rfl); (· exact kB)))); exact k.out) : P := run ⟨k⟩
theorem goC {P Q : Prop} (k : Q) (run : Hd Q → P := by intro k; (repeat1' (first | with_reducible apply qd | with_reducible apply uU | (apply jl; (· exact Kf); (· exact rfl)) | with_reducible apply jY | with_reducible apply jT | with_reducible apply um | with_reducible apply uu | with_reducible apply yG | with_reducible apply yH | with_reducible apply ze | with_reducible apply Qr | with_reducible apply kQ | with_reducible apply kC | with_reducible apply qH | with_reducible apply kn | with_reducible apply kb | with_reducible apply qv | with_reducible apply yk | (apply qa; (· decide)) | (apply jl; (· apply kU; (· exact rfl); (· exact YK); (· exact rfl)); (· exact rfl)) | (apply jl; (· apply kV; (· exact rfl); (· exact YK); (· exact rfl)); (· exact rfl)) | (apply zE; (· exact rfl); (· exact rfl); (· exact YK)) | (apply jf; (· exact Kf); (· exact rfl)) | (apply jf; (· apply kU; (· exact rfl); (· exact YK); (· exact rfl)); (· exact rfl)) | (apply jf; (· apply kV; (· exact rfl); (· exact YK); (· exact rfl)); (· exact rfl)) | (apply KW; (· exact rfl); (· exact rfl); (· exact YK); (· exact rfl)) | (apply ui; (· exact rfl); (· exact rfl); (· exact rfl)) | (apply zi; (· exact rfl); (· exact rfl); (· exact stO); (· exact rfl); (· exact rfl); (· exact rfl)) | (apply VE; (· exact rfl); (· exact rfl); (· exact onO); (· exact rfl); (· exact Vn); (· exact rfl)) | (apply VC; (· exact rfl); (· exact YK)) | (apply acx; (· exact rfl); (· exact YK)))); exact k.out) : P := run ⟨k⟩
theorem goE {P Q : Prop} (k : Q) (run : Hd Q → P := by intro k; (repeat1' (first | with_reducible apply qd | with_reducible apply uU | (apply jl; (· exact Kf); (· exact rfl)) | with_reducible apply jY | with_reducible apply jT | with_reducible apply um | with_reducible apply uu | with_reducible apply yG | with_reducible apply yH | with_reducible apply ze | with_reducible apply Qr | with_reducible apply kQ | with_reducible apply kC | with_reducible apply qH | with_reducible apply kn | with_reducible apply kb | with_reducible apply qv | with_reducible apply yk | (apply qa; (· decide)) | (apply jl; (· apply kU; (· exact rfl); (· exact kB); (· exact rfl)); (· exact rfl)) | (apply jl; (· apply kV; (· exact rfl); (· exact kB); (· exact rfl)); (· exact rfl)) | (apply zE; (· exact rfl); (· exact rfl); (· exact kB)) | (apply jf; (· exact Kf); (· exact rfl)) | (apply jf; (· apply kU; (· exact rfl); (· exact kB); (· exact rfl)); (· exact rfl)) | (apply jf; (· apply kV; (· exact rfl); (· exact kB); (· exact rfl)); (· exact rfl)) | (apply KW; (· exact rfl); (· exact rfl); (· exact kB); (· exact rfl)) | (apply ui; (· exact rfl); (· exact rfl); (· exact rfl)) | (apply zi; (· exact rfl); (· exact rfl); (· exact stO); (· exact rfl); (· exact rfl); (· exact rfl)) | (apply VC; (· exact rfl); (· exact kB)) | (apply acx; (· exact rfl); (· exact kB)))); exact k.out) : P := run ⟨k⟩
theorem goF {P Q : Prop} (k : Q) (run : Hd Q → P := by intro k; (repeat1' (first | with_reducible apply qd | with_reducible apply uU | (apply jl; (· exact Kf); (· exact rfl)) | with_reducible apply jY | with_reducible apply um | with_reducible apply uu | with_reducible apply yG | with_reducible apply yH | with_reducible apply ze | with_reducible apply Qr | with_reducible apply kQ | with_reducible apply kC | with_reducible apply qH | with_reducible apply kn | with_reducible apply kb | with_reducible apply qv | with_reducible apply yk | (apply qa; (· decide)) | (apply jl; (· apply kU; (· exact rfl); (· exact kB); (· exact rfl)); (· exact rfl)) | (apply jl; (· apply kV; (· exact rfl); (· exact kB); (· exact rfl)); (· exact rfl)) | (apply zE; (· exact rfl); (· exact rfl); (· exact kB)) | (apply jf; (· exact Kf); (· exact rfl)) | (apply jf; (· apply kU; (· exact rfl); (· exact kB); (· exact rfl)); (· exact rfl)) | (apply jf; (· apply kV; (· exact rfl); (· exact kB); (· exact rfl)); (· exact rfl)) | (apply KW; (· exact rfl); (· exact rfl); (· exact kB); (· exact rfl)) | (apply ui; (· exact rfl); (· exact rfl); (· exact rfl)) | (apply zi; (· exact rfl); (· exact rfl); (· exact stO); (· exact rfl); (· exact rfl); (· exact rfl)) | (apply VE; (· exact rfl); (· exact rfl); (· exact onO); (· exact rfl); (· exact Vn); (· exact rfl)) | (apply VC; (· exact rfl); (· exact kB)) | (apply acx; (· exact rfl); (· exact kB)))); exact k.out) : P := run ⟨k⟩
theorem agh {P : Program} {ρ : jn} {L : jc} {op : Op} {ty : TypeId} {v : Value} (h : OpQ P ρ L op ty v := by apply ja; (· exact rfl); (· first | exact jp | exact j7 _ _ _ _ _ _ _ _ _ _ _ _ | exact kH _ _ _ _ _ _ _ _ _ _ _ _ _ _ _ | exact ahO | exact agc _ _ _ _ _ _ _ _ _ _ _ _ _ | exact YF _ _ _ _ _ _ _ _ _ _ _ _ _ _ _ _ _ | exact ahP | exact agd _ | exact jM | exact jm _ | exact age _ | exact ahQ | exact YG _ _ _ | exact acz _ _ | exact YH _ _ _ | exact jq _ _ | exact jy _ _ _)) : OpQ P ρ L op ty v := h
end
end Go.Proofs.YtkpblofmoalnoaaGreatDoor
namespace Go.Proofs.YtkpblofmoalnoaaGreatDoor.Ev
open Go
inductive Tr (α : Type) where
 | leaf
 | node (v : Option α) (l r : Tr α)
theorem bqT {a b : Nat} (h : a = b) : Nat.beq a b = true := by subst h; exact Nat.beq_refl a
theorem bqF {a b : Nat} (h : a ≠ b) : Nat.beq a b = false := by
 cases e : Nat.beq a b with
 | false => rfl
 | true => exact absurd (Nat.eq_of_beq_eq_true e) h
section
variable {α β : Type}
noncomputable def Tr.get (t : Tr α) : Nat → Option α := Tr.rec (motive := fun _ => Nat → Option α) (fun _ => none) (fun v l r gl gr n => Bool.rec (Bool.rec (gr (Nat.div (Nat.pred n) 2)) (gl (Nat.div n 2)) (Nat.beq (Nat.mod n 2) 1)) v (Nat.beq n 0)) t
noncomputable def Tr.setOK (f : Nat) : Tr α → Nat → Option α → (Tr α → β) → β := Nat.rec (motive := fun _ => Tr α → Nat → Option α → (Tr α → β) → β) (fun t _ _ k => k t)
 (fun _ ih t n x k => Tr.rec (motive := fun _ => β)
   (Bool.rec (Bool.rec (ih .leaf (Nat.div (Nat.pred n) 2) x (fun r => k (.node none .leaf r))) (ih .leaf (Nat.div n 2) x (fun l => k (.node none l .leaf))) (Nat.beq (Nat.mod n 2) 1)) (k (.node x .leaf .leaf)) (Nat.beq n 0))
   (fun v l r _ _ => Bool.rec (Bool.rec (ih r (Nat.div (Nat.pred n) 2) x (fun r => k (.node v l r))) (ih l (Nat.div n 2) x (fun l => k (.node v l r))) (Nat.beq (Nat.mod n 2) 1)) (k (.node x l r)) (Nat.beq n 0)) t) f
def Tr.parts : Tr α → Option α × Tr α × Tr α
 | .leaf => (none, .leaf, .leaf)
 | .node v l r => (v, l, r)
def Tr.setO : Nat → Tr α → Nat → Option α → Tr α
 | 0, t, _, _ => t
 | f + 1, t, n, x =>
   if n = 0 then .node x t.parts.2.1 t.parts.2.2 else if n % 2 = 1 then .node t.parts.1 (Tr.setO f t.parts.2.1 (n / 2) x) t.parts.2.2 else .node t.parts.1 t.parts.2.1 (Tr.setO f t.parts.2.2 ((n - 1) / 2) x)
def Tr.set (f : Nat) (t : Tr α) (n : Nat) (x : α) : Tr α := Tr.setO f t n (some x)
def Tr.del (f : Nat) (t : Tr α) (n : Nat) : Tr α := Tr.setO f t n none
theorem Tr.get_leaf (n : Nat) : (Tr.leaf : Tr α).get n = none := rfl
theorem Tr.get_node (v : Option α) (l r : Tr α) (n : Nat) : (Tr.node v l r).get n = if n = 0 then v else if n % 2 = 1 then l.get (n / 2) else r.get ((n - 1) / 2) := by
 have h0 : (Tr.node v l r).get n = Bool.rec (Bool.rec (r.get (Nat.div (Nat.pred n) 2)) (l.get (Nat.div n 2)) (Nat.beq (Nat.mod n 2) 1)) v (Nat.beq n 0) := rfl
 rw [h0]
 by_cases e : n = 0
 · rw [if_pos e, bqT e]
 · have e' : Nat.beq n 0 = false := bqF e
   rw [if_neg e, e']
   by_cases e2 : n % 2 = 1
   · rw [if_pos e2, show Nat.beq (Nat.mod n 2) 1 = true from bqT e2]
     rfl
   · rw [if_neg e2, show Nat.beq (Nat.mod n 2) 1 = false from bqF e2]
     rfl
theorem Tr.setOK_eq : ∀ (f : Nat) (t : Tr α) (n : Nat) (x : Option α) (k : Tr α → β), Tr.setOK f t n x k = k (Tr.setO f t n x)
 | 0, t, n, x, k => rfl
 | f + 1, t, n, x, k => by
   have ih := Tr.setOK_eq f
   have h0 : Tr.setOK (f + 1) t n x k = Tr.rec (motive := fun _ => β)
    (Bool.rec (Bool.rec (Tr.setOK f .leaf (Nat.div (Nat.pred n) 2) x (fun r => k (.node none .leaf r))) (Tr.setOK f .leaf (Nat.div n 2) x (fun l => k (.node none l .leaf))) (Nat.beq (Nat.mod n 2) 1)) (k (.node x .leaf .leaf)) (Nat.beq n 0))
    (fun v l r _ _ => Bool.rec (Bool.rec (Tr.setOK f r (Nat.div (Nat.pred n) 2) x (fun r => k (.node v l r))) (Tr.setOK f l (Nat.div n 2) x (fun l => k (.node v l r))) (Nat.beq (Nat.mod n 2) 1)) (k (.node x l r)) (Nat.beq n 0)) t := rfl
   rw [h0]
   unfold Tr.setO
   by_cases e : n = 0
   · rw [if_pos e, show Nat.beq n 0 = true from bqT e]
     cases t <;> rfl
   · rw [if_neg e, show Nat.beq n 0 = false from bqF e]
     by_cases e2 : n % 2 = 1
     · rw [if_pos e2, show Nat.beq (Nat.mod n 2) 1 = true from bqT e2]
       cases t with
       | leaf => exact ih _ _ _ _
       | node v l r => exact ih _ _ _ _
     · rw [if_neg e2, show Nat.beq (Nat.mod n 2) 1 = false from bqF e2]
       cases t with
       | leaf => exact ih _ _ _ _
       | node v l r => exact ih _ _ _ _
noncomputable def Tr.setK (f : Nat) (t : Tr α) (n : Nat) (x : α) (k : Tr α → β) : β := Tr.setOK f t n (some x) k
theorem Tr.setK_eq (f : Nat) (t : Tr α) (n : Nat) (x : α) (k : Tr α → β) : Tr.setK f t n x k = k (Tr.set f t n x) := Tr.setOK_eq f t n (some x) k
theorem Tr.get_setO : ∀ (f : Nat) (t : Tr α) (n : Nat) (x : Option α), n + 1 < 2 ^ f → ∀ m, (Tr.setO f t n x).get m = if m = n then x else t.get m
 | 0, t, n, x, h, m => by simp at h
 | f + 1, t, n, x, h, m => by
   have ih := Tr.get_setO f
   have hp : 2 ^ (f + 1) = 2 * 2 ^ f := by rw [Nat.pow_succ]; omega
   unfold Tr.setO
   have hg : t.get m = if m = 0 then t.parts.1 else if m % 2 = 1 then t.parts.2.1.get (m / 2) else t.parts.2.2.get ((m - 1) / 2) := by
    cases t with
    | leaf => simp [Tr.get_leaf, Tr.parts]
    | node v l r => exact Tr.get_node v l r m
   rw [hg]
   generalize t.parts.1 = v
   generalize t.parts.2.1 = l
   generalize t.parts.2.2 = r
   by_cases e : n = 0
   · rw [if_pos e, Tr.get_node]
     subst e
     by_cases em : m = 0
     · rw [if_pos em, if_pos em]
     · rw [if_neg em, if_neg em, if_neg em]
   · rw [if_neg e]
     by_cases e2 : n % 2 = 1
     · rw [if_pos e2, Tr.get_node, ih l (n / 2) x (by omega)]
       by_cases em : m = 0
       · rw [if_pos em, if_pos em, if_neg (by omega)]
       · rw [if_neg em, if_neg em]
         by_cases em2 : m % 2 = 1
         · rw [if_pos em2, if_pos em2]
           by_cases eq : m = n
           · rw [if_pos eq, if_pos (by omega)]
           · rw [if_neg eq, if_neg (by omega)]
         · rw [if_neg em2, if_neg em2, if_neg (by omega)]
     · rw [if_neg e2, Tr.get_node, ih r ((n - 1) / 2) x (by omega)]
       by_cases em : m = 0
       · rw [if_pos em, if_pos em, if_neg (by omega)]
       · rw [if_neg em, if_neg em]
         by_cases em2 : m % 2 = 1
         · rw [if_pos em2, if_pos em2, if_neg (by omega)]
         · rw [if_neg em2, if_neg em2]
           by_cases eq : m = n
           · rw [if_pos eq, if_pos (by omega)]
           · rw [if_neg eq, if_neg (by omega)]
theorem Tr.get_set (f : Nat) (t : Tr α) (n : Nat) (x : α) (h : n + 1 < 2 ^ f) (m : Nat) : (Tr.set f t n x).get m = if m = n then some x else t.get m := Tr.get_setO f t n (some x) h m
theorem Tr.get_del (f : Nat) (t : Tr α) (n : Nat) (h : n + 1 < 2 ^ f) (m : Nat) : (Tr.del f t n).get m = if m = n then none else t.get m := Tr.get_setO f t n none h m
end
inductive Fr (α : Type) where
 | base (thr : Nat) (t : Tr α)
 | put (d : Nat) (v : α) (r : Fr α)
section
variable {α β : Type}
noncomputable def Fr.get (s : Fr α) : Nat → Option α := Fr.rec (motive := fun _ => Nat → Option α) (fun thr t d => Bool.rec none (t.get d) (Nat.ble (Nat.succ d) thr)) (fun d' v _ ih d => Bool.rec (ih d) (some v) (Nat.beq d' d)) s
theorem Fr.get_base (thr : Nat) (t : Tr α) (d : Nat) : (Fr.base thr t).get d = if d < thr then t.get d else none := by
 have h0 : (Fr.base thr t).get d = Bool.rec none (t.get d) (Nat.ble (Nat.succ d) thr) := rfl
 rw [h0]
 by_cases e : d < thr
 · rw [if_pos e, Nat.ble_eq_true_of_le e]
 · rw [if_neg e]
   cases h : Nat.ble (Nat.succ d) thr with
   | false => rfl
   | true => exact absurd (Nat.le_of_ble_eq_true h) e
theorem Fr.get_put (d' : Nat) (v : α) (r : Fr α) (d : Nat) : (Fr.put d' v r).get d = if d' = d then some v else r.get d := by
 have h0 : (Fr.put d' v r).get d = Bool.rec (r.get d) (some v) (Nat.beq d' d) := rfl
 rw [h0]
 by_cases e : d' = d
 · rw [if_pos e, bqT e]
 · rw [if_neg e, bqF e]
def Fr.thr : Fr α → Nat
 | .base thr _ => thr
 | .put _ _ r => r.thr
def Fr.tree : Fr α → Tr α
 | .base _ t => t
 | .put d v r => if d < r.thr then Tr.set 20 r.tree d v else r.tree
noncomputable def Fr.flushK (s : Fr α) : (Nat → Tr α → β) → β := Fr.rec (motive := fun _ => (Nat → Tr α → β) → β) (fun thr t k => k thr t) (fun d v _ ih k => ih fun thr t => Bool.rec (k thr t) (Tr.setK 20 t d v fun t => k thr t) (Nat.ble (Nat.succ d) thr)) s
theorem Fr.flushK_eq (s : Fr α) (k : Nat → Tr α → β) : s.flushK k = k s.thr s.tree := by
 induction s generalizing k with
 | base thr t => rfl
 | put d v r ih =>
   have h0 : (Fr.put d v r).flushK k = r.flushK fun thr t => Bool.rec (k thr t) (Tr.setK 20 t d v fun t => k thr t) (Nat.ble (Nat.succ d) thr) := rfl
   rw [h0, ih]
   show _ = k r.thr (if d < r.thr then Tr.set 20 r.tree d v else r.tree)
   by_cases e : d < r.thr
   · rw [if_pos e, Nat.ble_eq_true_of_le e]
     exact Tr.setK_eq ..
   · rw [if_neg e]
     cases h : Nat.ble (Nat.succ d) r.thr with
     | false => rfl
     | true => exact absurd (Nat.le_of_ble_eq_true h) e
theorem Fr.tree_get (s : Fr α) (ht : s.thr ≤ 1000000) : ∀ d v, d < s.thr → s.tree.get d = some v → s.get d = some v := by
 induction s with
 | base thr t =>
   intro d v hd h
   have hd' : d < thr := hd
   rw [Fr.get_base, if_pos hd']
   exact h
 | put d' v' r ih =>
   intro d v hd h
   rw [Fr.get_put]
   have ht' : r.thr ≤ 1000000 := ht
   unfold Fr.tree at h
   by_cases e : d' < r.thr
   · rw [if_pos e, Tr.get_set 20 _ _ _ (by omega)] at h
     by_cases c : d = d'
     · subst c; rw [if_pos rfl] at h ⊢; exact h
     · rw [if_neg c] at h
       rw [if_neg (Ne.symm c)]
       exact ih ht d v hd h
   · rw [if_neg e] at h
     have hd' : d < r.thr := hd
     rw [if_neg (by omega)]
     exact ih ht d v hd h
end
end Go.Proofs.YtkpblofmoalnoaaGreatDoor.Ev
namespace Go.Proofs.YtkpblofmoalnoaaGreatDoor.Ev
open Go
inductive Cp where
 | num (c : Nat)
 | rest (k : Nat)
inductive AV where
 | bool (b : Bool)
 | int (k : IntKind) (n : Int)
 | str (s : List Nat)
 | ptr0
 | ptr (i o : Nat)
 | ptrK (i : Nat)
 | slc0 (c : Nat)
 | slc (i o len : Nat) (cap : Cp)
 | slcE
 | mp0
 | mp (i : Nat)
 | fn (f : Nat) (cap : List AV)
 | nilFn
 | ifc (t : Nat) (v : AV)
 | nilI
 | agg (l : List AV)
 | tup (l : List AV)
 | und
abbrev Sg := Nat → Option (Nat × Nat)
def Sg.le (σ σ' : Sg) : Prop := ∀ i x, σ i = some x → σ' i = some x
theorem Sg.le_refl (σ : Sg) : σ.le σ := fun _ _ h => h
theorem Sg.le_trans {a b c : Sg} (h : a.le b) (k : b.le c) : a.le c := fun i x e => k i x (h i x e)
def Cp.of (κ : Nat) : Cp → Nat
 | .num c => c
 | .rest k => κ - k
def bsN (l : List Nat) : ByteArray := bs (l.map UInt8.ofNat)
mutual
def Den (σ : Sg) : AV → Value → Prop
 | .bool b, V => V = .bool b
 | .int k n, V => V = .int k n
 | .str l, V => (∀ b ∈ l, b < 256) ∧ V = .string (bsN l)
 | .ptr0, V => V = .pointer none
 | .ptr i o, V => ∃ x, σ i = some x ∧ V = .pointer (some ⟨x.1, o, none⟩)
 | .ptrK i, V => ∃ x, σ i = some x ∧ V = .pointer (some ⟨x.1, x.2, none⟩)
 | .slc0 c, V => V = .slice none 0 c
 | .slc i o n c, V => ∃ x, σ i = some x ∧ V = .slice (some ⟨x.1, o, none⟩) n (c.of x.2)
 | .slcE, V => ∃ a c, V = .slice a 0 c
 | .mp0, V => V = .map none
 | .mp i, V => ∃ x, σ i = some x ∧ V = .map (some x.1)
 | .fn f l, V => ∃ L, DenL σ l L ∧ V = .func (.func f) #[] L.toArray
 | .nilFn, V => V = .nilFunc
 | .ifc t v, V => ∃ U, Den σ v U ∧ V = .iface t U
 | .nilI, V => V = .nilIface
 | .agg l, V => ∃ L, DenL σ l L ∧ V = .agg L.toArray
 | .tup l, V => ∃ L, DenL σ l L ∧ V = .tuple L.toArray
 | .und, V => True
def DenL (σ : Sg) : List AV → List Value → Prop
 | [], L => L = []
 | v :: l, L => ∃ U M, L = U :: M ∧ Den σ v U ∧ DenL σ l M
end
mutual
theorem Den.mono {σ σ' : Sg} (h : σ.le σ') : ∀ (v : AV) {V : Value}, Den σ v V → Den σ' v V
 | .bool _, V, k => by simpa [Den] using k
 | .int _ _, V, k => by simpa [Den] using k
 | .str _, V, k => by simpa [Den] using k
 | .ptr0, V, k => by simpa [Den] using k
 | .ptr i o, V, k => by
   simp only [Den] at k ⊢
   obtain ⟨x, e, rfl⟩ := k
   exact ⟨x, h i x e, rfl⟩
 | .ptrK i, V, k => by
   simp only [Den] at k ⊢
   obtain ⟨x, e, rfl⟩ := k
   exact ⟨x, h i x e, rfl⟩
 | .slc0 _, V, k => by simpa [Den] using k
 | .slc i o n c, V, k => by
   simp only [Den] at k ⊢
   obtain ⟨x, e, rfl⟩ := k
   exact ⟨x, h i x e, rfl⟩
 | .slcE, V, k => by simpa [Den] using k
 | .mp0, V, k => by simpa [Den] using k
 | .mp i, V, k => by
   simp only [Den] at k ⊢
   obtain ⟨x, e, rfl⟩ := k
   exact ⟨x, h i x e, rfl⟩
 | .fn f l, V, k => by
   simp only [Den] at k ⊢
   obtain ⟨L, e, rfl⟩ := k
   exact ⟨L, DenL.mono h l e, rfl⟩
 | .nilFn, V, k => by simpa [Den] using k
 | .ifc t v, V, k => by
   simp only [Den] at k ⊢
   obtain ⟨L, e, rfl⟩ := k
   exact ⟨L, Den.mono h v e, rfl⟩
 | .nilI, V, k => by simpa [Den] using k
 | .agg l, V, k => by
   simp only [Den] at k ⊢
   obtain ⟨L, e, rfl⟩ := k
   exact ⟨L, DenL.mono h l e, rfl⟩
 | .tup l, V, k => by
   simp only [Den] at k ⊢
   obtain ⟨L, e, rfl⟩ := k
   exact ⟨L, DenL.mono h l e, rfl⟩
 | .und, V, k => by simp only [Den]
theorem DenL.mono {σ σ' : Sg} (h : σ.le σ') : ∀ (l : List AV) {L : List Value}, DenL σ l L → DenL σ' l L
 | [], L, k => by simpa [DenL] using k
 | v :: l, L, k => by
   simp only [DenL] at k ⊢
   obtain ⟨U, M, rfl, k1, k2⟩ := k
   exact ⟨U, M, rfl, Den.mono h v k1, DenL.mono h l k2⟩
end
section
variable {σ : Sg}
theorem DenL.nil : DenL σ [] [] := by simp [DenL]
theorem DenL.cons {v : AV} {V : Value} {l : List AV} {L : List Value} (h : Den σ v V) (k : DenL σ l L) : DenL σ (v :: l) (V :: L) := by simp only [DenL]; exact ⟨V, L, rfl, h, k⟩
theorem DenL.inv {v : AV} {l : List AV} {L : List Value} (h : DenL σ (v :: l) L) : ∃ V M, L = V :: M ∧ Den σ v V ∧ DenL σ l M := by simpa only [DenL] using h
theorem DenL.inv0 {L : List Value} (h : DenL σ [] L) : L = [] := by simpa [DenL] using h
theorem DenL.length : ∀ {l : List AV} {L : List Value}, DenL σ l L → L.length = l.length
 | [], L, h => by rw [h.inv0]; rfl
 | v :: l, L, h => by
   obtain ⟨V, M, rfl, _, h2⟩ := h.inv
   simp [h2.length]
theorem DenL.get : ∀ {l : List AV} {L : List Value}, DenL σ l L → ∀ {i : Nat} {v : AV}, l[i]? = some v → ∃ V, L[i]? = some V ∧ Den σ v V
 | [], L, h, i, v, e => by simp at e
 | u :: l, L, h, i, v, e => by
   obtain ⟨V, M, rfl, h1, h2⟩ := h.inv
   cases i with
   | zero => simp at e; subst e; exact ⟨V, rfl, h1⟩
   | succ i => simp at e; simpa using h2.get e
theorem DenL.append : ∀ {l m : List AV} {L M : List Value}, DenL σ l L → DenL σ m M → DenL σ (l ++ m) (L ++ M)
 | [], m, L, M, h, k => by rw [h.inv0]; simpa using k
 | u :: l, m, L, M, h, k => by
   obtain ⟨V, N, rfl, h1, h2⟩ := h.inv
   exact .cons h1 (h2.append k)
theorem DenL.take : ∀ {l : List AV} {L : List Value} (n : Nat), DenL σ l L → DenL σ (l.take n) (L.take n)
 | l, L, 0, h => by simpa using DenL.nil
 | [], L, n + 1, h => by rw [h.inv0]; simpa using DenL.nil
 | u :: l, L, n + 1, h => by
   obtain ⟨V, N, rfl, h1, h2⟩ := h.inv
   exact .cons h1 (h2.take n)
theorem DenL.drop : ∀ {l : List AV} {L : List Value} (n : Nat), DenL σ l L → DenL σ (l.drop n) (L.drop n)
 | l, L, 0, h => by simpa using h
 | [], L, n + 1, h => by rw [h.inv0]; simpa using DenL.nil
 | u :: l, L, n + 1, h => by
   obtain ⟨V, N, rfl, h1, h2⟩ := h.inv
   simpa using h2.drop n
theorem DenL.set : ∀ {l : List AV} {L : List Value} (n : Nat) {v : AV} {V : Value}, DenL σ l L → Den σ v V → DenL σ (l.set n v) (L.set n V)
 | [], L, n, v, V, h, k => by rw [h.inv0]; simpa using DenL.nil
 | u :: l, L, n, v, V, h, k => by
   obtain ⟨U, N, rfl, h1, h2⟩ := h.inv
   cases n with
   | zero => exact .cons k h2
   | succ n => exact .cons h1 (h2.set n k)
end
def Glb (σ : Sg) : Prop := ∀ g, g < 100 → σ g = some (g, 0)
theorem Glb.mono {σ σ' : Sg} (h : Glb σ) (k : σ.le σ') : Glb σ' := fun g hg => k g _ (h g hg)
structure SlR (σ : Sg) (s : Fr AV) (ρ : jn) : Prop where
 get : ∀ d v, s.get d = some v → ∃ V, ρ.lookup d = some V ∧ Den σ v V
 glb : Glb σ
theorem SlR.mono {σ σ' : Sg} {s : Fr AV} {ρ : jn} (h : SlR σ s ρ) (k : σ.le σ') : SlR σ' s ρ := ⟨fun d v e => by
 obtain ⟨V, h1, h2⟩ := h.get d v e
 exact ⟨V, h1, h2.mono k v⟩, h.glb.mono k⟩
theorem SlR.leaf {σ : Sg} {thr : Nat} {ρ : jn} (hg : Glb σ) : SlR σ (.base thr .leaf) ρ := ⟨fun d v h => (by
 rw [Fr.get_base, Tr.get_leaf] at h
 split at h <;> cases h), hg⟩
theorem SlR.put {σ : Sg} {s : Fr AV} {ρ : jn} (h : SlR σ s ρ) {d : Nat} {v : AV} {V : Value} (k : Den σ v V) : SlR σ (.put d v s) ((d, V) :: ρ) := ⟨fun m u e => by
 rw [Fr.get_put] at e
 by_cases c : d = m
 · rw [if_pos c] at e
   cases e
   subst c
   exact ⟨V, by simp [List.lookup_cons], k⟩
 · rw [if_neg c] at e
   obtain ⟨U, h1, h2⟩ := h.get m u e
   have c' : (m == d) = false := by simpa using fun x => c x.symm
   exact ⟨U, by rw [List.lookup_cons, c']; exact h1, h2⟩, h.glb⟩
theorem SlR.flush {σ : Sg} {s : Fr AV} {ρ : jn} (h : SlR σ s ρ) (ht : s.thr ≤ 1000000) : SlR σ (.base s.thr s.tree) ρ := ⟨fun m u e => (by
 rw [Fr.get_base] at e
 split at e
 · rename_i hm
   exact h.get m u (s.tree_get ht m u hm e)
 · cases e), h.glb⟩
end Go.Proofs.YtkpblofmoalnoaaGreatDoor.Ev
namespace Go.Proofs.YtkpblofmoalnoaaGreatDoor.Ev
open Go
def Qy : List UInt8 → List Nat
 | [] => []
 | b :: l => b.toNat :: Qy l
theorem Uo : ∀ l : List UInt8, (Qy l).map UInt8.ofNat = l
 | [] => rfl
 | b :: l => by simp [Qy, Uo l]
theorem YL : ∀ l : List UInt8, ∀ b ∈ Qy l, b < 256
 | [], b, h => by simp [Qy] at h
 | c :: l, b, h => by
   rcases List.mem_cons.1 (show b ∈ c.toNat :: Qy l from h) with rfl | h
   · exact c.toNat_lt
   · exact YL l b h
theorem ad4 (s : ByteArray) : bsN (Qy s.data.toList) = s := by
 unfold bsN bs
 rw [Uo]
mutual
def ofV : Value → AV
 | .bool b => .bool b
 | .int k n => .int k n
 | .string s => .str (Qy s.data.toList)
 | .pointer none => .ptr0
 | .slice none 0 c => .slc0 c
 | .map none => .mp0
 | .nilFunc => .nilFn
 | .iface t v => .ifc t (ofV v)
 | .nilIface => .nilI
 | .agg ⟨l⟩ => .agg (ofL l)
 | .tuple ⟨l⟩ => .tup (ofL l)
 | _ => .und
def ofL : List Value → List AV
 | [] => []
 | v :: l => ofV v :: ofL l
end
mutual
theorem Kg (σ : Sg) : ∀ v : Value, Den σ (ofV v) v
 | .bool b => by simp [ofV, Den]
 | .int k n => by simp [ofV, Den]
 | .string s => by simp only [ofV, Den]; exact ⟨YL _, by rw [ad4]⟩
 | .pointer none => by simp [ofV, Den]
 | .pointer (some a) => by simp [ofV, Den]
 | .slice none 0 c => by simp [ofV, Den]
 | .slice none (n + 1) c => by simp [ofV, Den]
 | .slice (some a) n c => by simp [ofV, Den]
 | .map none => by simp [ofV, Den]
 | .map (some a) => by simp [ofV, Den]
 | .nilFunc => by simp [ofV, Den]
 | .iface t v => by simp only [ofV, Den]; exact ⟨v, Kg σ v, rfl⟩
 | .nilIface => by simp [ofV, Den]
 | .agg ⟨l⟩ => by simp only [ofV, Den]; exact ⟨l, uK σ l, rfl⟩
 | .tuple ⟨l⟩ => by simp only [ofV, Den]; exact ⟨l, uK σ l, rfl⟩
 | .float _ _ => by simp [ofV, Den]
 | .complex _ _ _ => by simp [ofV, Den]
 | .chan _ => by simp [ofV, Den]
 | .func _ _ _ => by simp [ofV, Den]
theorem uK (σ : Sg) : ∀ l : List Value, DenL σ (ofL l) l
 | [] => by simp [ofL, DenL]
 | v :: l => by simp only [ofL]; exact .cons (Kg σ v) (uK σ l)
end
noncomputable def opd (s : Fr AV) (x : Operand) : Option AV := match x with
 | .tmp t => s.get t
 | .const v => some (ofV v)
 | .global g => Bool.rec none (some (.ptr g 0)) (Nat.blt g 100)
 | .func f => some (.fn f [])
theorem jE {σ : Sg} {s : Fr AV} {ρ : jn} (h : SlR σ s ρ) {x : Operand} {v : AV} (e : opd s x = some v) : ∃ V, ev ρ x = some V ∧ Den σ v V := by
 cases x with
 | tmp t => exact h.get t v e
 | const c => cases e; exact ⟨c, rfl, Kg σ c⟩
 | global g =>
   have e : Bool.rec none (some (AV.ptr g 0)) (Nat.blt g 100) = some v := e
   cases hb : Nat.blt g 100 with
   | false => rw [hb] at e; cases e
   | true =>
     rw [hb] at e
     cases e
     have hg : g < 100 := by simpa using hb
     exact ⟨_, rfl, by simp only [Den]; exact ⟨(g, 0), h.glb g hg, rfl⟩⟩
 | func f => cases e; exact ⟨_, rfl, by simp only [Den]; exact ⟨[], DenL.nil, rfl⟩⟩
noncomputable def opds (s : Fr AV) (l : List Operand) : Option (List AV) := List.rec (some []) (fun x _ ih => Option.rec none (fun v => Option.rec none (fun vs => some (v :: vs)) ih) (opd s x)) l
theorem Kh {σ : Sg} {s : Fr AV} {ρ : jn} (h : SlR σ s ρ) : ∀ {l : List Operand} {vs : List AV}, opds s l = some vs → ∃ Vs, kw ρ l = some Vs ∧ DenL σ vs Vs
 | [], vs, e => by cases e; exact ⟨[], rfl, DenL.nil⟩
 | x :: l, vs, e => by
   have e : Option.rec none (fun v => Option.rec none (fun vs => some (v :: vs)) (opds s l)) (opd s x) = some vs := e
   cases e1 : opd s x with
   | none => rw [e1] at e; cases e
   | some v =>
     rw [e1] at e
     cases e2 : opds s l with
     | none => rw [e2] at e; cases e
     | some us =>
       rw [e2] at e
       cases e
       obtain ⟨V, h1, h2⟩ := jE h e1
       obtain ⟨Vs, h3, h4⟩ := Kh h e2
       exact ⟨V :: Vs, by simp [kw, h1, h3], .cons h2 h4⟩
inductive AO where
 | cells (l : List AV) (e : Nat)
 | row (l : List AV) (n e sz lo : Nat)
 | rowF (l : List AV) (n e : Nat)
 | map (l : List (AV × AV))
 | it (i : Nat)
def Stm (es : Array MapEntry) (clock : Nat) : Prop := (∀ x ∈ es.toList, x.born < clock) ∧ (es.toList.map (·.born)).Nodup
theorem Stm.nil (clock : Nat) : Stm #[] clock := ⟨by simp, by simp⟩
theorem Stm.push {es : Array MapEntry} {clock : Nat} (h : Stm es clock) (key val : Value) : Stm (es.push { key, val, born := clock }) (clock + 1) := by
 obtain ⟨h1, h2⟩ := h
 refine ⟨fun x hx => ?_, ?_⟩
 · rw [Array.toList_push, List.mem_append] at hx
   rcases hx with hx | hx
   · have := h1 x hx; omega
   · obtain rfl : x = _ := by simpa using hx
     exact Nat.lt_succ_self _
 · rw [Array.toList_push, List.map_append, List.nodup_append]
   refine ⟨h2, by simp, fun a ha b hb => ?_⟩
   obtain ⟨x, hx, rfl⟩ := List.mem_map.1 ha
   obtain rfl : b = clock := by simpa using hb
   have := h1 x hx
   omega
theorem Stm.modify {es : Array MapEntry} {clock : Nat} (h : Stm es clock) (i : Nat) (f : MapEntry → MapEntry) (hf : ∀ e, (f e).born = e.born) : Stm (es.modify i f) clock := by
 have e : (es.modify i f).toList.map (·.born) = es.toList.map (·.born) := by
  apply List.ext_getElem?
  intro n
  simp only [List.getElem?_map, Array.getElem?_toList, Array.getElem?_modify]
  by_cases c : i = n
  · subst c; cases es[i]? <;> simp [hf]
  · simp [c]
 refine ⟨fun x hx => ?_, by rw [e]; exact h.2⟩
 have hx' : x.born ∈ (es.modify i f).toList.map (·.born) := List.mem_map.2 ⟨x, hx, rfl⟩
 rw [e] at hx'
 obtain ⟨y, hy, e2⟩ := List.mem_map.1 hx'
 rw [← e2]
 exact h.1 y hy
theorem Stm.sub {es es' : Array MapEntry} {clock : Nat} (h : Stm es clock) (hs : es'.toList.Sublist es.toList) : Stm es' clock :=
 ⟨fun x hx => h.1 x (hs.subset hx), (hs.map _).nodup h.2⟩
def DenM (σ : Sg) : List (AV × AV) → List MapEntry → Prop
 | [], L => L = []
 | p :: l, L => ∃ e M, L = e :: M ∧ Den σ p.1 e.key ∧ Den σ p.2 e.val ∧ DenM σ l M
theorem DenM.mono {σ σ' : Sg} (h : σ.le σ') : ∀ (l : List (AV × AV)) {L : List MapEntry}, DenM σ l L → DenM σ' l L
 | [], L, k => by simpa [DenM] using k
 | p :: l, L, k => by
   simp only [DenM] at k ⊢
   obtain ⟨e, M, rfl, k1, k2, k3⟩ := k
   exact ⟨e, M, rfl, Den.mono h _ k1, Den.mono h _ k2, DenM.mono h l k3⟩
def DenO (σ : Sg) (κ : Nat) : AO → Obj → Prop
 | .cells l e, O => ∃ L : List Value, DenL σ l L ∧ O = .cells L.toArray e (0, 0)
 | .row l n e sz lo, O => ∃ (L : List Value) (cur : Array Value), DenL σ l L ∧ O = .cells cur e (0, 0) ∧ l.length = n * sz ∧ n ≤ κ ∧ lo ≤ κ ∧ κ ≤ maxLen ∧ cur.size = κ * sz ∧ cur.toList.take (n * sz) = L
 | .rowF l n e, O => ∃ (L : List Value) (cur : Array Value) (fr : Nat × Nat), DenL σ l L ∧ O = .cells cur e fr ∧ l.length = n ∧ n ≤ κ ∧ κ ≤ maxLen ∧ cur.size = κ ∧ cur.toList.take n = L ∧ (fr = (0, 0) ∨ κ ≤ fr.1)
 | .map l, O => ∃ (es : Array MapEntry) (clock : Nat), (DenM σ l es.toList ∧ Stm es clock) ∧ O = .map es clock
 | .it i, O => ∃ (x : Nat × Nat) (since : Nat) (seen : Array Nat) (last : Nat), σ i = some x ∧ O = .mapIter (some x.1) since seen last
theorem DenO.mono {σ σ' : Sg} (h : σ.le σ') {κ : Nat} {o : AO} {O : Obj} (k : DenO σ κ o O) : DenO σ' κ o O := by
 cases o with
 | cells l e => obtain ⟨L, h1, h2⟩ := k; exact ⟨L, h1.mono h _, h2⟩
 | row l n e sz lo => obtain ⟨L, cur, h1, h2⟩ := k; exact ⟨L, cur, h1.mono h _, h2⟩
 | rowF l n e => obtain ⟨L, cur, fr, h1, h2⟩ := k; exact ⟨L, cur, fr, h1.mono h _, h2⟩
 | map l => obtain ⟨es, c, ⟨h1, h3⟩, h2⟩ := k; exact ⟨es, c, ⟨h1.mono h _, h3⟩, h2⟩
 | it i => obtain ⟨x, a, b, c, h1, h2⟩ := k; exact ⟨x, a, b, c, h i x h1, h2⟩
structure Mem where
 h : Tr AO
 nx : Nat
structure Fm where
 b : jc
 z : Nat → Option AO
 d : Nat → Prop
def zk (σ : Sg) (m : Mem) (L : jc) : Prop := ∀ i o x, m.h.get i = some o → σ i = some x → ∃ O, DenO σ x.2 o O ∧ (x.1, O) ∈ L
structure MemR (σ : Sg) (m : Mem) (F : Fm) (L : jc) : Prop where
 get : zk σ m L
 inj : ∀ i j o o' x y, m.h.get i = some o → m.h.get j = some o' → σ i = some x → σ j = some y → x.1 = y.1 → i = j
 frame : ∀ p ∈ F.b, p ∈ L
 apart : ∀ i o x, m.h.get i = some o → σ i = some x → ∀ p ∈ F.b, p.1 ≠ x.1
 ghost : ∀ i o, F.z i = some o → σ i = none ∧ m.h.get i = some o ∧ i < m.nx
 fresh : ∀ i, m.nx ≤ i → σ i = none
 below : ∀ i o, m.h.get i = some o → i < m.nx
 glb : Glb σ
 dead : ∀ i, F.d i → σ i = none ∧ F.z i = none ∧ i < m.nx
def Sg.put (σ : Sg) (i b κ : Nat) : Sg := fun j => if j = i then some (b, κ) else σ j
theorem Sg.put_le {σ : Sg} {i b κ : Nat} (h : σ i = none) : σ.le (σ.put i b κ) := fun j x e => by
 unfold Sg.put
 by_cases c : j = i
 · subst c; rw [h] at e; cases e
 · rw [if_neg c]; exact e
theorem MemR.new {σ : Sg} {m : Mem} {F : Fm} {L : jc} (h : MemR σ m F L) {o : AO} {O : Obj} {b κ : Nat} (hb : ∀ p ∈ L, p.1 ≠ b) (hn : m.nx + 1 < 2 ^ 20) (hO : DenO (σ.put m.nx b κ) κ o O) : MemR (σ.put m.nx b κ) ⟨m.h.set 20 m.nx o, m.nx + 1⟩ F ((b, O) :: L) := by
 have hf := h.fresh m.nx (Nat.le_refl _)
 have hle := Sg.put_le (b := b) (κ := κ) hf
 have hp : ∀ i, i ≠ m.nx → σ.put m.nx b κ i = σ i := fun i hi => if_neg hi
 have hs : σ.put m.nx b κ m.nx = some (b, κ) := if_pos rfl
 have hg := Tr.get_set 20 m.h m.nx o hn
 refine ⟨fun i u x e ex => ?_, fun i j u u' x y e e' ex ey exy => ?_, fun p hp => List.mem_cons_of_mem _ (h.frame p hp), fun i u x e ex p hp' => ?_, fun i u e => ?_, fun i hi => ?_, fun i u e => ?_, h.glb.mono hle, fun i e => (by obtain ⟨h1, h2, h3⟩ := h.dead i e; exact ⟨by rw [hp i (by omega)]; exact h1, h2, by dsimp only; omega⟩)⟩
 · dsimp only at e
   rw [hg] at e
   by_cases c : i = m.nx
   · rw [if_pos c] at e
     cases e
     subst c
     rw [hs] at ex
     cases ex
     exact ⟨O, hO, List.mem_cons_self ..⟩
   · rw [if_neg c] at e
     rw [hp i c] at ex
     obtain ⟨U, h2, h3⟩ := h.get i u x e ex
     exact ⟨U, h2.mono hle, List.mem_cons_of_mem _ h3⟩
 · dsimp only at e e'
   rw [hg] at e e'
   by_cases c : i = m.nx
   · subst c
     by_cases c' : j = m.nx
     · exact c'.symm
     · rw [if_neg c'] at e'
       rw [hs] at ex
       cases ex
       rw [hp j c'] at ey
       obtain ⟨U, _, h3⟩ := h.get j u' y e' ey
       exact absurd exy.symm (hb _ h3)
   · rw [if_neg c] at e
     rw [hp i c] at ex
     by_cases c' : j = m.nx
     · subst c'
       rw [hs] at ey
       cases ey
       obtain ⟨U, _, h3⟩ := h.get i u x e ex
       exact absurd exy (hb _ h3)
     · rw [if_neg c'] at e'
       rw [hp j c'] at ey
       exact h.inj i j u u' x y e e' ex ey exy
 · dsimp only at e
   rw [hg] at e
   by_cases c : i = m.nx
   · subst c
     rw [hs] at ex
     cases ex
     exact hb p (h.frame p hp')
   · rw [if_neg c] at e
     rw [hp i c] at ex
     exact h.apart i u x e ex p hp'
 · obtain ⟨h1, h2, h3⟩ := h.ghost i u e
   have c : i ≠ m.nx := by omega
   exact ⟨by rw [hp i c]; exact h1, by dsimp only; rw [hg, if_neg c]; exact h2, by dsimp only; omega⟩
 · rw [hp i (by dsimp only at hi; omega)]
   exact h.fresh i (by dsimp only at hi; omega)
 · dsimp only at e ⊢
   rw [hg] at e
   by_cases c : i = m.nx
   · omega
   · rw [if_neg c] at e
     have := h.below i u e
     omega
theorem MemR.write {σ : Sg} {m : Mem} {F : Fm} {L R : jc} (h : MemR σ m F L) {i : Nat} {o : AO} {x : Nat × Nat} {O O' : Obj} {o' : AO} (hi : m.h.get i = some o) (hx : σ i = some x) (hL : L.Perm ((x.1, O) :: R)) (hn : i + 1 < 2 ^ 20) (hO : DenO σ x.2 o' O') :
 MemR σ ⟨m.h.set 20 i o', m.nx⟩ F ((x.1, O') :: R) := by
 have hg := Tr.get_set 20 m.h i o' hn
 have hmem : ∀ p, p ∈ L → p.1 ≠ x.1 → p ∈ (x.1, O') :: R := fun p hp hne => by
  rcases List.mem_cons.1 (hL.mem_iff.1 hp) with e | e
  · exact absurd (by rw [e]) hne
  · exact List.mem_cons_of_mem _ e
 refine ⟨fun j u y e ey => ?_, fun j k u u' y z e e' ey ez hyz => ?_, fun p hp => hmem p (h.frame p hp) (h.apart i o x hi hx p hp), fun j u y e ey p hp => ?_, fun j u e => ?_, h.fresh, fun j u e => ?_, h.glb, h.dead⟩
 · dsimp only at e
   rw [hg] at e
   by_cases c : j = i
   · rw [if_pos c] at e
     cases e
     subst c
     rw [hx] at ey
     cases ey
     exact ⟨O', hO, List.mem_cons_self ..⟩
   · rw [if_neg c] at e
     obtain ⟨U, h2, h3⟩ := h.get j u y e ey
     exact ⟨U, h2, hmem _ h3 fun k => c (h.inj j i u o y x e hi ey hx k)⟩
 · have f : ∀ j u, (m.h.set 20 i o').get j = some u → ∃ v, m.h.get j = some v := fun j u e => by
    rw [hg] at e
    by_cases c : j = i
    · subst c; exact ⟨o, hi⟩
    · rw [if_neg c] at e; exact ⟨u, e⟩
   obtain ⟨v, hv⟩ := f j u e
   obtain ⟨v', hv'⟩ := f k u' e'
   exact h.inj j k v v' y z hv hv' ey ez hyz
 · dsimp only at e
   rw [hg] at e
   by_cases c : j = i
   · subst c
     rw [hx] at ey
     cases ey
     exact h.apart j o x hi hx p hp
   · rw [if_neg c] at e
     exact h.apart j u y e ey p hp
 · obtain ⟨h1, h2, h3⟩ := h.ghost j u e
   have c : j ≠ i := fun c => by rw [c, hx] at h1; cases h1
   exact ⟨h1, by dsimp only; rw [hg, if_neg c]; exact h2, h3⟩
 · dsimp only at e ⊢
   rw [hg] at e
   by_cases c : j = i
   · subst c; exact h.below j o hi
   · rw [if_neg c] at e; exact h.below j u e
theorem MemR.plan {σ : Sg} {m : Mem} {F : Fm} {L : jc} (h : MemR σ m F L) (o : AO) (hn : m.nx + 1 < 2 ^ 20) : MemR σ ⟨m.h.set 20 m.nx o, m.nx + 1⟩ ⟨F.b, fun j => if j = m.nx then some o else F.z j, F.d⟩ L := by
 have hf := h.fresh m.nx (Nat.le_refl _)
 have hg := Tr.get_set 20 m.h m.nx o hn
 have hne : ∀ i x, σ i = some x → i ≠ m.nx := fun i x e c => by rw [c, hf] at e; cases e
 refine ⟨fun i u x e ex => ?_, fun i j u u' x y e e' ex ey exy => ?_, h.frame, fun i u x e ex p hp' => ?_, fun i u e => ?_, fun i hi => h.fresh i (by dsimp only at hi; omega), fun i u e => ?_, h.glb, fun i e => (by obtain ⟨h1, h2, h3⟩ := h.dead i e; exact ⟨h1, by dsimp only; rw [if_neg (by omega)]; exact h2, by dsimp only; omega⟩)⟩
 · dsimp only at e
   rw [hg, if_neg (hne i x ex)] at e
   exact h.get i u x e ex
 · dsimp only at e e'
   rw [hg, if_neg (hne i x ex)] at e
   rw [hg, if_neg (hne j y ey)] at e'
   exact h.inj i j u u' x y e e' ex ey exy
 · dsimp only at e
   rw [hg, if_neg (hne i x ex)] at e
   exact h.apart i u x e ex p hp'
 · dsimp only at e ⊢
   by_cases c : i = m.nx
   · rw [if_pos c] at e
     cases e
     subst c
     exact ⟨hf, by rw [hg, if_pos rfl], by omega⟩
   · rw [if_neg c] at e
     obtain ⟨h1, h2, h3⟩ := h.ghost i u e
     exact ⟨h1, by rw [hg, if_neg c]; exact h2, by omega⟩
 · dsimp only at e ⊢
   rw [hg] at e
   by_cases c : i = m.nx
   · omega
   · rw [if_neg c] at e
     have := h.below i u e
     omega
theorem MemR.real {σ : Sg} {m : Mem} {F : Fm} {L : jc} (h : MemR σ m F L) {i : Nat} {o : AO} {O : Obj} {b κ : Nat} (hz : F.z i = some o) (hb : ∀ p ∈ L, p.1 ≠ b) (hO : DenO (σ.put i b κ) κ o O) : MemR (σ.put i b κ) m ⟨F.b, fun j => if j = i then none else F.z j, F.d⟩ ((b, O) :: L) := by
 obtain ⟨hf, hi, hlt⟩ := h.ghost i o hz
 have hle := Sg.put_le (b := b) (κ := κ) hf
 have hp : ∀ j, j ≠ i → σ.put i b κ j = σ j := fun j hj => if_neg hj
 have hs : σ.put i b κ i = some (b, κ) := if_pos rfl
 refine ⟨fun j u x e ex => ?_, fun j k u u' x y e e' ex ey exy => ?_, fun p hp => List.mem_cons_of_mem _ (h.frame p hp), fun j u x e ex p hp' => ?_, fun j u e => ?_, fun j hj => ?_, h.below, h.glb.mono hle, fun j e => (by obtain ⟨h1, h2, h3⟩ := h.dead j e; have c : j ≠ i := (fun c => by rw [c, hz] at h2; cases h2); exact ⟨by rw [hp j c]; exact h1, by dsimp only; rw [if_neg c]; exact h2, h3⟩)⟩
 · by_cases c : j = i
   · subst c
     rw [hi] at e
     cases e
     rw [hs] at ex
     cases ex
     exact ⟨O, hO, List.mem_cons_self ..⟩
   · rw [hp j c] at ex
     obtain ⟨U, h2, h3⟩ := h.get j u x e ex
     exact ⟨U, h2.mono hle, List.mem_cons_of_mem _ h3⟩
 · by_cases c : j = i
   · subst c
     by_cases c' : k = j
     · exact c'.symm
     · rw [hs] at ex
       cases ex
       rw [hp k c'] at ey
       obtain ⟨U, _, h3⟩ := h.get k u' y e' ey
       exact absurd exy.symm (hb _ h3)
   · rw [hp j c] at ex
     by_cases c' : k = i
     · subst c'
       rw [hs] at ey
       cases ey
       obtain ⟨U, _, h3⟩ := h.get j u x e ex
       exact absurd exy (hb _ h3)
     · rw [hp k c'] at ey
       exact h.inj j k u u' x y e e' ex ey exy
 · by_cases c : j = i
   · subst c
     rw [hs] at ex
     cases ex
     exact hb p (h.frame p hp')
   · rw [hp j c] at ex
     exact h.apart j u x e ex p hp'
 · dsimp only at e
   by_cases c : j = i
   · rw [if_pos c] at e; cases e
   · rw [if_neg c] at e
     obtain ⟨h1, h2, h3⟩ := h.ghost j u e
     exact ⟨by rw [hp j c]; exact h1, h2, h3⟩
 · rw [hp j (by omega)]
   exact h.fresh j hj
theorem MemR.ghosts {σ : Sg} {m : Mem} {F : Fm} {L : jc} (h : MemR σ m F L) {z : Nat → Option AO} (hz : ∀ i o, z i = some o → F.z i = some o) : MemR σ m ⟨F.b, z, F.d⟩ L :=
 ⟨h.get, h.inj, h.frame, h.apart, fun i o e => h.ghost i o (hz i o e), h.fresh, h.below, h.glb, fun i e => (by obtain ⟨h1, h2, h3⟩ := h.dead i e; refine ⟨h1, ?_, h3⟩; show z i = none; cases hzi : z i with | none => rfl | some o => rw [hz i o hzi] at h2; cases h2)⟩
end Go.Proofs.YtkpblofmoalnoaaGreatDoor.Ev
