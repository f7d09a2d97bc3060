/-
  Part 1: Sl SlOp SlMem SlDraw SlTy Jc Jd Je SlMore St Jf Jg J0 Jh Hs Ju Jv Jx.
-/
import Derived.WalkKit
import Derived.WalkSpells
import Derived.WalkLawsBesides
import Derived.Lib.Hide
import Derived.Lib.ConvBytes
import Derived.OrdersHeld
import Derived.Maps.AppendAt
import Derived.Below
import Derived.Laws.MakeOwn
import Derived.Lib.AppendStr
import Derived.Laws.Cells
import Derived.Lib.MinMax
import Derived.ScopeJumps
namespace Go.Proofs.YtlicehodjhoamaaGreatDoor
open Go.RowKit
set_option linter.unusedVariables false
set_option linter.unusedSimpArgs false

/-! ### memory -/
abbrev Blocks := List (Nat × Obj)
/-- What no call here changes. -/
structure Still (G w : World) : Prop where
  os : w.os = G.os
  tape : w.tape = G.tape
  output : w.output = G.output
  size : G.heap.size ≤ w.heap.size
theorem Still.refl (G : World) : Still G G := ⟨rfl, rfl, rfl, Nat.le_refl _⟩
theorem Still.trans {G w w' : World} (h : Still G w) (k : Still w w') : Still G w' := ⟨k.os.trans h.os, k.tape.trans h.tape, k.output.trans h.output, Nat.le_trans h.size k.size⟩
variable {G : World}
structure Heap (G w : World) (L : Blocks) : Prop where
  still : Still G w
  nodup : (L.map (·.1)).Nodup
  get : ∀ p, p ∈ L → w.heap[p.1]? = some p.2

theorem Heap.lt {w : World} {L : Blocks} (h : Heap G w L) {p : Nat × Obj} (hp : p ∈ L) : p.1 < w.heap.size :=
  (Array.getElem?_eq_some_iff.1 (h.get p hp)).1
theorem Heap.same {w w' : World} {L : Blocks} (h : Heap G w L) (s : Still w w') (e : w'.heap = w.heap) : Heap G w' L := ⟨h.still.trans s, h.nodup, fun p hp => by rw [e]; exact h.get p hp⟩
theorem Heap.drew {w : World} {L : Blocks} (h : Heap G w L) : Heap G w.drew L := h.same ⟨rfl, rfl, rfl, Nat.le_refl _⟩ rfl
theorem Heap.sub {w : World} {L L' : Blocks} (h : Heap G w L) (s : L'.Sublist L) : Heap G w L' :=
  ⟨h.still, h.nodup.sublist (s.map _), fun p hp => h.get p (s.subset hp)⟩
theorem Heap.perm {w : World} {L L' : Blocks} (h : Heap G w L) (s : L.Perm L') : Heap G w L' :=
  ⟨h.still, (s.map (·.1)).nodup_iff.1 h.nodup, fun p hp => h.get p (s.mem_iff.2 hp)⟩
theorem Heap.alloc {w : World} {L : Blocks} (h : Heap G w L) (o : Obj) : Heap G (w.alloc o) ((w.heap.size, o) :: L) := by
  refine ⟨h.still.trans ⟨rfl, rfl, rfl, by simp⟩, ?_, fun p hp => ?_⟩
  · rw [List.map_cons, List.nodup_cons]
    refine ⟨fun hm => ?_, h.nodup⟩
    obtain ⟨q, hq, e⟩ := List.mem_map.1 hm
    have := h.lt hq
    omega
  · rcases List.mem_cons.1 hp with rfl | hp
    · exact heap_alloc_new w o
    · have := h.lt hp
      rw [show (w.alloc o).heap[p.1]? = w.heap[p.1]? by show (w.heap.push o)[p.1]? = _; rw [Array.getElem?_push]; simp; omega]
      exact h.get p hp
theorem Heap.ne {w : World} {L : Blocks} {b : Nat} {o : Obj} (h : Heap G w ((b, o) :: L)) {p : Nat × Obj} (hp : p ∈ L) : p.1 ≠ b := by
  have := h.nodup
  rw [List.map_cons, List.nodup_cons] at this
  intro e
  exact this.1 (List.mem_map.2 ⟨p, hp, e⟩)
/-- One block is written, all others are as they were. -/
theorem Heap.update {w w' : World} {L : Blocks} {b : Nat} {o o' : Obj} (h : Heap G w ((b, o) :: L)) (s : Still w w') (hb : w'.heap[b]? = some o') (ho : ∀ j, j < w.heap.size → j ≠ b → w'.heap[j]? = w.heap[j]?) : Heap G w' ((b, o') :: L) := by
  refine ⟨h.still.trans s, h.nodup, fun p hp => ?_⟩
  rcases List.mem_cons.1 hp with rfl | hp
  · exact hb
  · rw [ho _ (h.lt (List.mem_cons_of_mem _ hp)) (h.ne hp)]
    exact h.get p (List.mem_cons_of_mem _ hp)
theorem Heap.new {w w' : World} {L : Blocks} {o' : Obj} (h : Heap G w L) (s : Still w w') (hb : w'.heap[w.heap.size]? = some o') (ho : ∀ j, j < w.heap.size → w'.heap[j]? = w.heap[j]?) : Heap G w' ((w.heap.size, o') :: L) := by
  refine ⟨h.still.trans s, (h.alloc o').nodup, fun p hp => ?_⟩
  rcases List.mem_cons.1 hp with rfl | hp
  · exact hb
  · rw [ho _ (h.lt hp)]
    exact h.get p hp
theorem Heap.tail {w : World} {L : Blocks} {p : Nat × Obj} (h : Heap G w (p :: L)) : Heap G w L := h.sub (List.sublist_cons_self _ _)
theorem Heap.cell {w : World} {L : Blocks} {b : Nat} {C : Array Value} {e : TypeId} {fr : Nat × Nat} (h : Heap G w L) (hm : (b, Obj.cells C e fr) ∈ L) {off : Nat} {v : Value} (hv : C[off]? = some v) :
    w.cell? ⟨b, off, none⟩ = some v := by
  unfold World.cell?
  rw [h.get _ hm]
  simpa using hv
/-- What is in memory from the first on: all blocks of a world. -/
def allBlocks (w : World) : Blocks := w.heap.toList.zipIdx.map fun p => (p.2, p.1)
theorem Heap.all (w : World) : Heap w w (allBlocks w) := by
  refine ⟨Still.refl _, ?_, fun p hp => ?_⟩
  · unfold allBlocks
    rw [List.map_map, show ((fun x : Nat × Obj => x.1) ∘ fun p : Obj × Nat => (p.2, p.1)) = Prod.snd from rfl]
    rw [List.zipIdx_map_snd]
    exact List.nodup_range'
  · obtain ⟨q, hq, rfl⟩ := List.mem_map.1 hp
    have := List.mem_zipIdx_iff_getElem?.1 hq
    simpa using this
theorem mem_all {w : World} {b : Nat} {o : Obj} (h : w.heap[b]? = some o) : (b, o) ∈ allBlocks w := by
  refine List.mem_map.2 ⟨(o, b), ?_, rfl⟩
  rw [List.mem_zipIdx_iff_getElem?]
  simpa using h

/-! ### slots -/
abbrev Slots := List (Nat × Value)
structure Env (n : Nat) (ρ : Slots) (a : Act) : Prop where
  size : a.tmps.size = n
  defers : a.defers = []
  get : ∀ t v, ρ.lookup t = some v → a.tmps[t]? = some v
def ev (ρ : Slots) : Operand → Option Value
  | .tmp t => ρ.lookup t
  | .const v => some v
  | .global g => some (.pointer (some ⟨g, 0, none⟩))
  | .func f => some (.func (.func f) #[] #[])
/-- What operands read as. -/
def Reads (ρ : Slots) (r : Operand → Value) : Prop := ∀ x v, ev ρ x = some v → r x = v
theorem Env.reads {n : Nat} {ρ : Slots} {a : Act} (h : Env n ρ a) : Reads ρ a.eval := by
  intro x v hx
  cases x with
  | tmp t =>
    show a.tmps.getD t undef = v
    rw [Array.getD_eq_getD_getElem?, h.get t v hx]
    rfl
  | const c => exact Option.some.inj hx
  | global g => exact Option.some.inj hx
  | func f => exact Option.some.inj hx
theorem Env.put {n : Nat} {ρ : Slots} {a : Act} (h : Env n ρ a) (d : Nat) (hd : d < n) (v : Value) : Env n ((d, v) :: ρ) (a.put (some d) v) := by
  refine ⟨by show (a.tmps.setIfInBounds d v).size = n; simp [h.size], h.defers, fun t u hu => ?_⟩
  show (a.tmps.setIfInBounds d v)[t]? = some u
  rw [List.lookup_cons] at hu
  by_cases e : t = d
  · subst e
    simp at hu
    rw [Array.getElem?_setIfInBounds_self_of_lt (by rw [h.size]; exact hd), hu]
  · have e' : (t == d) = false := by simpa using e
    rw [e'] at hu
    rw [Array.getElem?_setIfInBounds_ne (Ne.symm e)]
    exact h.get t u hu
theorem Env.weak {n : Nat} {ρ ρ' : Slots} {a : Act} (h : Env n ρ a) (hs : ∀ t v, ρ'.lookup t = some v → ρ.lookup t = some v) : Env n ρ' a :=
  ⟨h.size, h.defers, fun t v hv => h.get t v (hs t v hv)⟩

/-! ### one operation -/
/-- What a run comes to: a value, in a world. -/
def Outcome (P : Program) (K : Value → World → Prop) : Result Next → Prop
  | .ok (.value v) w => K v w
  | .ok .skip w => K undef w
  | .ok (.enter f args) w => Calls P f args w fun e w' => ∃ v, e = .returned v ∧ K v w'
  | _ => False
structure OpT (P : Program) (G : World) (ρ : Slots) (L : Blocks) (op : Op) (ty : TypeId) (Φ : Value → Blocks → Prop) : Prop where
  out : ∀ r, Reads ρ r → ∀ w, Heap G w L → ∀ o : Oper, o.op = op → o.type = ty → Outcome P (fun v w' => ∃ L', Φ v L' ∧ Heap G w' L') ((execOp r o).run P w)
/-- The value, and the blocks behind it. -/
abbrev OpV (P : Program) (G : World) (ρ : Slots) (L : Blocks) (op : Op) (ty : TypeId) (v : Value) (L' : Blocks) : Prop := OpT P G ρ L op ty fun u M => u = v ∧ M = L'

theorem OpT.wp {P : Program} {n : Nat} {ρ : Slots} {L : Blocks} {o : Oper} {Φ : Value → Blocks → Prop} (h : OpT P G ρ L o.op o.type Φ) {a : Act} {w : World} (he : Env n ρ a) (hw : Heap G w L)
    {K : Act → World → Prop} {Q : Exit → Act → World → Prop} (hK : ∀ v L' w', Φ v L' → Heap G w' L' → K (a.put o.dst v) w') : o.wp P a w K Q := by
  have := h.out a.eval he.reads w hw o rfl rfl
  unfold Oper.wp
  revert this
  generalize (execOp a.eval o).run P w = r
  intro this
  match r, this with
  | .ok (.value v) w', ⟨L', h1, h2⟩ => exact hK v L' w' h1 h2
  | .ok .skip w', ⟨L', h1, h2⟩ => exact hK undef L' w' h1 h2
  | .ok (.enter f args) w', hc =>
    refine Calls.mono hc fun e w'' hh => ?_
    obtain ⟨v, rfl, L', h1, h2⟩ := hh
    exact hK v L' w'' h1 h2

/-! ### code -/
structure T (P : Program) (G : World) (n : Nat) (ρ : Slots) (L : Blocks) (c : Code) (Q : Exit → Act → World → Prop) : Prop where
  out : ∀ a w, Env n ρ a → Heap G w L → c.wp P Q a w
structure TL (P : Program) (G : World) (ops : Array Oper) (n : Nat) (ρ : Slots) (L : Blocks) (l : List Oper) (Q : Exit → Act → World → Prop) : Prop where
  out : ∀ a w, Env n ρ a → Heap G w L → wpList P ops Q l a w
structure TQ (G : World) (n : Nat) (ρ : Slots) (L : Blocks) (e : Exit) (Q : Exit → Act → World → Prop) : Prop where
  out : ∀ a w, Env n ρ a → Heap G w L → Q e a w
section
variable {P : Program} {n : Nat} {ρ : Slots} {L : Blocks} {Q : Exit → Act → World → Prop}
theorem T_seq {x y : Code} (h : T P G n ρ L x (Exit.then (y.wp P Q) Q)) : T P G n ρ L (.seq x y) Q := ⟨fun a w he hw => wp_seq (h.out a w he hw)⟩
theorem T_block {id : Nat} {c : Code} (h : T P G n ρ L c (Exit.inBlock id Q)) : T P G n ρ L (.block id c) Q := ⟨fun a w he hw => wp_block (h.out a w he hw)⟩
theorem T_skip (h : TQ G n ρ L .normal Q) : T P G n ρ L .skip Q := ⟨fun a w he hw => wp_skip (h.out a w he hw)⟩
theorem T_label {l : Nat} (h : TQ G n ρ L .normal Q) : T P G n ρ L (.label l) Q := ⟨fun a w he hw => wp_label (h.out a w he hw)⟩
theorem T_exit {id : Nat} (h : TQ G n ρ L (.exit id) Q) : T P G n ρ L (.exit id) Q := ⟨fun a w he hw => wp_exit (h.out a w he hw)⟩
theorem T_goto {l : Nat} (h : TQ G n ρ L (.goto l) Q) : T P G n ρ L (.goto l) Q := ⟨fun a w he hw => wp_goto (h.out a w he hw)⟩
theorem T_ret (h : TQ G n ρ L .ret Q) : T P G n ρ L .ret Q := ⟨fun a w he hw => wp_ret (h.out a w he hw)⟩
theorem T_true {c : Operand} {x y : Code} (hc : ev ρ c = some (.bool true)) (ht : T P G n ρ L x Q) : T P G n ρ L (.cond c x y) Q := ⟨fun a w he hw => wp_cond_true (he.reads c _ hc) (ht.out a w he hw)⟩
theorem T_false {c : Operand} {x y : Code} (hc : ev ρ c = some (.bool false)) (ht : T P G n ρ L y Q) : T P G n ρ L (.cond c x y) Q := ⟨fun a w he hw => wp_cond_false (he.reads c _ hc) (ht.out a w he hw)⟩
theorem T_region {id : Nat} {l : List Oper} (h : TL P G l.toArray n ρ L l Q) : T P G n ρ L (.region id l.toArray false) Q := ⟨fun a w he hw => wp_region_lit (h.out a w he hw)⟩
theorem TL_nil {ops : Array Oper} (h : TQ G n ρ L .normal Q) : TL P G ops n ρ L [] Q := ⟨fun a w he hw => wpList_nil (h.out a w he hw)⟩
theorem TQ_then {y : Code} {Q' : Exit → Act → World → Prop} (h : T P G n ρ L y Q) : TQ G n ρ L .normal (Exit.then (y.wp P Q) Q') := ⟨fun a w he hw => h.out a w he hw⟩
theorem TQ_then_exit {id : Nat} {K : Act → World → Prop} (h : TQ G n ρ L (.exit id) Q) : TQ G n ρ L (.exit id) (Exit.then K Q) := ⟨fun a w he hw => h.out a w he hw⟩
theorem TQ_then_goto {id : Nat} {K : Act → World → Prop} (h : TQ G n ρ L (.goto id) Q) : TQ G n ρ L (.goto id) (Exit.then K Q) := ⟨fun a w he hw => h.out a w he hw⟩
theorem TQ_then_ret {K : Act → World → Prop} (h : TQ G n ρ L .ret Q) : TQ G n ρ L .ret (Exit.then K Q) := ⟨fun a w he hw => h.out a w he hw⟩
theorem TQ_block {id : Nat} (h : TQ G n ρ L .normal Q) : TQ G n ρ L .normal (Exit.inBlock id Q) := ⟨fun a w he hw => h.out a w he hw⟩
theorem TQ_block_ret {id : Nat} (h : TQ G n ρ L .ret Q) : TQ G n ρ L .ret (Exit.inBlock id Q) := ⟨fun a w he hw => h.out a w he hw⟩
theorem TQ_block_goto {id l : Nat} (h : TQ G n ρ L (.goto l) Q) : TQ G n ρ L (.goto l) (Exit.inBlock id Q) := ⟨fun a w he hw => h.out a w he hw⟩
theorem TQ_block_exit {id : Nat} (h : TQ G n ρ L .normal Q) : TQ G n ρ L (.exit id) (Exit.inBlock id Q) := ⟨fun a w he hw => by simp only [Exit.inBlock, if_true]; exact h.out a w he hw⟩
theorem TQ_block_past {id id' : Nat} (hne : (id' == id) = false) (h : TQ G n ρ L (.exit id') Q) : TQ G n ρ L (.exit id') (Exit.inBlock id Q) := ⟨fun a w he hw => by
  have : id' ≠ id := by simpa using hne
  simp only [Exit.inBlock, this, if_false]; exact h.out a w he hw⟩

/-- An operation with a slot, unguarded. -/
theorem TL_opT {ops : Array Oper} {d : Nat} {op : Op} {ty : TypeId} {pos : String} {after : Array Edge} {rest : List Oper} {Φ : Value → Blocks → Prop}
    (h : OpT P G ρ L op ty Φ) (hd : Nat.blt d n = true) (hr : ∀ v L', Φ v L' → TL P G ops n ((d, v) :: ρ) L' rest Q) : TL P G ops n ρ L (⟨some d, op, ty, pos, after, none⟩ :: rest) Q :=
  ⟨fun a w he hw => wpList_plain rfl fun K hK => OpT.wp (o := ⟨some d, op, ty, pos, after, none⟩) h he hw fun v L' w' h1 h2 =>
    hK _ _ ((hr v L' h1).out _ _ (he.put d (by simpa using hd) v) h2)⟩
theorem TL_op {ops : Array Oper} {d : Nat} {op : Op} {ty : TypeId} {pos : String} {after : Array Edge} {rest : List Oper} {v : Value} {L' : Blocks}
    (h : OpV P G ρ L op ty v L') (hd : Nat.blt d n = true) (hr : TL P G ops n ((d, v) :: ρ) L' rest Q) : TL P G ops n ρ L (⟨some d, op, ty, pos, after, none⟩ :: rest) Q :=
  TL_opT h hd fun _ _ ⟨h1, h2⟩ => h1 ▸ h2 ▸ hr
theorem TL_opNT {ops : Array Oper} {op : Op} {ty : TypeId} {pos : String} {after : Array Edge} {rest : List Oper} {Φ : Value → Blocks → Prop}
    (h : OpT P G ρ L op ty Φ) (hr : ∀ v L', Φ v L' → TL P G ops n ρ L' rest Q) : TL P G ops n ρ L (⟨none, op, ty, pos, after, none⟩ :: rest) Q :=
  ⟨fun a w he hw => wpList_plain rfl fun K hK => OpT.wp (o := ⟨none, op, ty, pos, after, none⟩) h he hw fun v L' w' h1 h2 => hK _ _ ((hr v L' h1).out _ _ he h2)⟩
theorem TL_opN {ops : Array Oper} {op : Op} {ty : TypeId} {pos : String} {after : Array Edge} {rest : List Oper} {v : Value} {L' : Blocks}
    (h : OpV P G ρ L op ty v L') (hr : TL P G ops n ρ L' rest Q) : TL P G ops n ρ L (⟨none, op, ty, pos, after, none⟩ :: rest) Q := TL_opNT h fun _ _ ⟨_, h2⟩ => h2 ▸ hr
/-- The slot of a guard. -/
def guardSlot (ops : Array Oper) (j : Nat) : Option Nat := (ops[j]?).bind (·.dst)
theorem wanted_of {ops : Array Oper} {o : Oper} {j d : Nat} {b want : Bool} {a : Act} (he : Env n ρ a) (hg : o.guard = some (j, want)) (hs : guardSlot ops j = some d) (hv : ρ.lookup d = some (.bool b)) :
    Region.wanted o (yielded ops a.tmps) = (b == want) := by
  have h1 := he.get d _ hv
  unfold Region.wanted
  rw [hg]
  simp only [guardSlot] at hs
  simp [yielded, hs, h1]
/-- A guarded operation that is wanted. -/
theorem TL_gT {ops : Array Oper} {d j dj : Nat} {op : Op} {ty : TypeId} {pos : String} {after : Array Edge} {rest : List Oper} {Φ : Value → Blocks → Prop} {want : Bool}
    (hs : guardSlot ops j = some dj) (hv : ρ.lookup dj = some (.bool want))
    (h : OpT P G ρ L op ty Φ) (hd : Nat.blt d n = true) (hr : ∀ v L', Φ v L' → TL P G ops n ((d, v) :: ρ) L' rest Q) : TL P G ops n ρ L (⟨some d, op, ty, pos, after, some (j, want)⟩ :: rest) Q :=
  ⟨fun a w he hw => wpList_step fun K hK => by
    rw [wanted_of he rfl hs hv]
    simp only [BEq.rfl, if_true]
    exact OpT.wp (o := ⟨some d, op, ty, pos, after, some (j, want)⟩) h he hw fun v L' w' h1 h2 => hK _ _ ((hr v L' h1).out _ _ (he.put d (by simpa using hd) v) h2)⟩
/-- One that is not. -/
theorem TL_skip {ops : Array Oper} {d j dj : Nat} {op : Op} {ty : TypeId} {pos : String} {after : Array Edge} {rest : List Oper} {want : Bool}
    (hs : guardSlot ops j = some dj) (hv : ρ.lookup dj = some (.bool !want)) (hd : Nat.blt d n = true) (hr : TL P G ops n ((d, undef) :: ρ) L rest Q) :
    TL P G ops n ρ L (⟨some d, op, ty, pos, after, some (j, want)⟩ :: rest) Q :=
  ⟨fun a w he hw => wpList_step fun K hK => by
    rw [wanted_of he rfl hs hv, if_neg (by cases want <;> simp)]
    exact hK _ _ (hr.out _ _ (he.put d (by simpa using hd) undef) hw)⟩
/-- What need not be known any more. -/
theorem T_weak {c : Code} (ρ' : Slots) {L' : Blocks} (hs : ∀ t v, ρ'.lookup t = some v → ρ.lookup t = some v) (hl : ∀ w, Heap G w L → Heap G w L') (h : T P G n ρ' L' c Q) : T P G n ρ L c Q :=
  ⟨fun a w he hw => h.out a w (he.weak hs) (hl w hw)⟩
theorem TL_heap {ops : Array Oper} {l : List Oper} {L' : Blocks} (hl : ∀ w, Heap G w L → Heap G w L') (h : TL P G ops n ρ L' l Q) : TL P G ops n ρ L l Q := ⟨fun a w he hw => h.out a w he (hl w hw)⟩
theorem TQ_heap {e : Exit} {L' : Blocks} (hl : ∀ w, Heap G w L → Heap G w L') (h : TQ G n ρ L' e Q) : TQ G n ρ L e Q := ⟨fun a w he hw => h.out a w he (hl w hw)⟩
theorem T_heap {c : Code} {L' : Blocks} (hl : ∀ w, Heap G w L → Heap G w L') (h : T P G n ρ L' c Q) : T P G n ρ L c Q := ⟨fun a w he hw => h.out a w he (hl w hw)⟩
/-- A LOOP: its state is of some type; slots and blocks are functions of it. -/
def LoopInv {σ : Type} (G : World) (n : Nat) (I : σ → Prop) (ρI : σ → Slots) (LI : σ → Blocks) (μ : σ → Nat) (m : Nat) (a : Act) (w : World) : Prop := ∃ x, I x ∧ Env n (ρI x) a ∧ Heap G w (LI x) ∧ μ x < m
theorem T_loop {σ : Type} {c : Code} (I : σ → Prop) (ρI : σ → Slots) (LI : σ → Blocks) (μ : σ → Nat) (x0 : σ) (h0 : I x0) (hs : ∀ t v, (ρI x0).lookup t = some v → ρ.lookup t = some v) (hl : ∀ w, Heap G w L → Heap G w (LI x0))
    (round : ∀ x, I x → T P G n (ρI x) (LI x) c (Exit.then (LoopInv G n I ρI LI μ (μ x)) Q)) : T P G n ρ L (.loop c) Q := by
  refine ⟨fun a w he hw b k cs => ?_⟩
  suffices H : ∀ m x, μ x = m → I x → ∀ a w, Env n (ρI x) a → Heap G w (LI x) → ∃ e a' w', Q e a' w' ∧ Arrives P (lone (b.at a (.code c :: .inLoop c :: k)) cs w) b k cs e a' w' by
    obtain ⟨e, a', w', hq, harr⟩ := H _ x0 rfl h0 a w (he.weak hs) (hl w hw)
    exact ⟨e, a', w', hq, .of_steps (.one step_loop) harr⟩
  intro m
  induction m using Nat.strongRecOn with
  | _ m ih =>
    intro x hx hI a w he hw
    obtain ⟨e, a₁, w₁, hq, harr⟩ := (round x hI).out a w he hw b (.inLoop c :: k) cs
    cases e with
    | normal =>
      obtain ⟨x', hI', he', hw', hlt⟩ := hq
      obtain ⟨e₂, a₂, w₂, hq₂, harr₂⟩ := ih (μ x') (hx ▸ hlt) x' rfl hI' a₁ w₁ he' hw'
      exact ⟨e₂, a₂, w₂, hq₂, .of_steps (Steps.trans harr (.one step_inLoop)) harr₂⟩
    | exit id => exact ⟨_, a₁, w₁, hq, .pass (x := .inLoop c) rfl (fun _ _ => .inl (by simp)) harr⟩
    | goto l => exact ⟨_, a₁, w₁, hq, .pass (x := .inLoop c) rfl (fun _ _ => .inl (by simp)) harr⟩
    | ret => exact ⟨_, a₁, w₁, hq, .pass (x := .inLoop c) rfl (fun _ _ => .inl (by simp)) harr⟩
    | panic ch => exact ⟨_, a₁, w₁, hq, .pass (x := .inLoop c) rfl (fun _ _ => .inl (by simp)) harr⟩
    | outgrown => exact ⟨_, a₁, w₁, hq, .pass (x := .inLoop c) rfl (fun _ _ => .inl (by simp)) harr⟩
/-- The round's end. -/
theorem TQ_round {σ : Type} {I : σ → Prop} {ρI : σ → Slots} {LI : σ → Blocks} {μ : σ → Nat} {m : Nat} (x : σ) (hI : I x) (hs : ∀ t v, (ρI x).lookup t = some v → ρ.lookup t = some v) (hl : ∀ w, Heap G w L → Heap G w (LI x)) (hm : μ x < m) :
    TQ G n ρ L .normal (Exit.then (LoopInv G n I ρI LI μ m) Q) := ⟨fun _ w he hw => ⟨x, hI, he.weak hs, hl w hw, hm⟩⟩

/-! ### functions -/
def RetPost (G : World) (Φ : Value → Blocks → Prop) (e : Ending) (w : World) : Prop := ∃ v L', e = .returned v ∧ Φ v L' ∧ Heap G w L'
structure Spec (P : Program) (G : World) (f : FuncId) (args : Array Value) (L : Blocks) (Φ : Value → Blocks → Prop) : Prop where
  out : ∀ w, Heap G w L → Calls P f args w (RetPost G Φ)
def argSlots : Nat → List Value → Slots
  | _, [] => []
  | k, v :: vs => (k, v) :: argSlots (k + 1) vs
theorem argSlots_get : ∀ (vs : List Value) (k t : Nat) (v : Value), (argSlots k vs).lookup t = some v → k ≤ t ∧ vs[t - k]? = some v
  | [], _, _, _, h => by simp [argSlots] at h
  | u :: vs, k, t, v, h => by
    simp only [argSlots, List.lookup_cons] at h
    by_cases e : t = k
    · subst e
      simp at h
      subst h
      simp
    · have e' : (t == k) = false := by simpa using e
      rw [e'] at h
      have ⟨h1, h2⟩ := argSlots_get vs (k + 1) t v h
      refine ⟨by omega, ?_⟩
      rw [show t - k = (t - (k + 1)) + 1 by omega, List.getElem?_cons_succ]
      exact h2
theorem Spec_of {f : FuncId} {fn : Func} {c : Code} {args : Array Value} {Φ : Value → Blocks → Prop} (hf : P.funcs[f]? = some fn) (hb : fn.body = some c) (hn : fn.ntmps = n) (hs : Nat.ble args.size n = true)
    (h : T P G n (argSlots 0 args.toList) L c (bodyPost P fn (RetPost G Φ))) : Spec P G f args L Φ := by
  refine ⟨fun w hw => calls_of_wp hf hb (h.out _ _ ⟨?_, rfl, fun t v hv => ?_⟩ hw)⟩
  · have : args.size ≤ n := by simpa using hs
    simp [hn]
    omega
  · obtain ⟨_, h2⟩ := argSlots_get args.toList 0 t v hv
    have h3 : args[t]? = some v := by simpa using h2
    have h4 := (Array.getElem?_eq_some_iff.1 h3).1
    show (args ++ _)[t]? = some v
    rw [Array.getElem?_append_left h4]
    exact h3
theorem Spec.mono {f : FuncId} {args : Array Value} {Φ Ψ : Value → Blocks → Prop} (h : Spec P G f args L Φ) (hi : ∀ v L', Φ v L' → Ψ v L') : Spec P G f args L Ψ :=
  ⟨fun w hw => (h.out w hw).mono fun _ _ ⟨v, L', h1, h2, h3⟩ => ⟨v, L', h1, hi v L' h2, h3⟩⟩
theorem Spec.heap {f : FuncId} {args : Array Value} {L' : Blocks} {Φ : Value → Blocks → Prop} (hl : ∀ w, Heap G w L → Heap G w L') (h : Spec P G f args L' Φ) : Spec P G f args L Φ := ⟨fun w hw => h.out w (hl w hw)⟩
/-- And back. -/
theorem Spec.below {f : FuncId} {args : Array Value} {w : World} {v : Value} (h : Spec P w f args (allBlocks w) fun u L' => u = v ∧ L' = allBlocks w) :
    Calls P f args w fun e w' => e = .returned v ∧ Below w.heap.size w w' :=
  (h.out w (Heap.all w)).mono fun e w' ⟨u, L', h1, ⟨h2, h3⟩, h4⟩ => by
    subst h2 h3
    refine ⟨h1, h4.still.os, h4.still.tape, h4.still.output, h4.still.size, fun k hk => ?_⟩
    have hg : w.heap[k]? = some w.heap[k] := Array.getElem?_eq_getElem hk
    rw [hg]
    exact h4.get _ (mem_all hg)
end
end Go.Proofs.YtlicehodjhoamaaGreatDoor
namespace Go.Proofs.YtlicehodjhoamaaGreatDoor
open Go.RowKit
set_option linter.unusedVariables false
set_option linter.unusedSimpArgs false
variable {G : World} {P : Program} {n : Nat} {ρ : Slots} {L : Blocks} {ty : TypeId}

theorem OpV.run {op : Op} {v : Value} {L' : Blocks} (h : ∀ r, Reads ρ r → ∀ w, Heap G w L → ∀ o : Oper, o.op = op → o.type = ty → ∃ w', (execOp r o).run P w = .ok (.value v) w' ∧ Heap G w' L') : OpV P G ρ L op ty v L' :=
  ⟨fun r hr w hw o ho ht => by
    obtain ⟨w', h1, h2⟩ := h r hr w hw o ho ht
    rw [h1]
    exact ⟨L', ⟨rfl, rfl⟩, h2⟩⟩
/-- A run that changes no world. -/
theorem OpV.pure {op : Op} {v : Value} (h : ∀ r, Reads ρ r → ∀ w, Heap G w L → ∀ o : Oper, o.op = op → o.type = ty → (execOp r o).run P w = .ok (.value v) w) : OpV P G ρ L op ty v L :=
  OpV.run fun r hr w hw o ho ht => ⟨w, h r hr w hw o ho ht, hw⟩

/-- What blocks are known to be there. -/
structure Has (w : World) (L : Blocks) : Prop where
  get : ∀ p, p ∈ L → w.heap[p.1]? = some p.2
theorem Has.cell {w : World} {L : Blocks} {b : Nat} {C : Array Value} {e : TypeId} {fr : Nat × Nat} (h : Has w L) (hm : (b, Obj.cells C e fr) ∈ L) {off : Nat} {v : Value} (hv : C[off]? = some v) :
    w.cell? ⟨b, off, none⟩ = some v := by
  unfold World.cell?
  rw [h.get _ hm]
  simpa using hv
theorem Heap.has {w : World} (h : Heap G w L) : Has w L := ⟨h.get⟩
/-- An operation that only computes and reads. -/
structure OpQ (P : Program) (ρ : Slots) (L : Blocks) (op : Op) (ty : TypeId) (v : Value) : Prop where
  out : ∀ r, Reads ρ r → ∀ w, Has w L → ∀ o : Oper, o.op = op → o.type = ty → (execOp r o).run P w = .ok (.value v) w
theorem OpQ.v {op : Op} {v : Value} (h : OpQ P ρ L op ty v) : OpV P G ρ L op ty v L := .pure fun r hr w hw o ho ht => h.out r hr w hw.has o ho ht

theorem op_move {x : Operand} {v : Value} (hx : ev ρ x = some v) : OpQ P ρ L (.move x) ty v :=
  ⟨fun r hr w hw o ho _ => by simp [execOp, ho, hr x v hx]⟩
theorem op_assign {x : Operand} {v : Value} (hx : ev ρ x = some v) : OpQ P ρ L (.assign x) ty v :=
  ⟨fun r hr w hw o ho _ => by simp [execOp, ho, hr x v hx]⟩
theorem op_pick {c a b : Operand} {t : Bool} {v : Value} (hc : ev ρ c = some (.bool t)) (hv : ev ρ (if t then a else b) = some v) : OpQ P ρ L (.pick c a b) ty v :=
  ⟨fun r hr w hw o ho _ => by
    have h1 := hr _ _ hv
    simp [execOp, ho, hr _ _ hc, asBool]
    cases t <;> simpa using h1⟩
theorem op_extract {x : Operand} {vs : Array Value} {i : Nat} {v : Value} (hx : ev ρ x = some (.tuple vs)) (hv : vs[i]? = some v) : OpQ P ρ L (.extract x i) ty v :=
  ⟨fun r hr w hw o ho _ => by simp [execOp, ho, hr _ _ hx, Instr.extract, hv]⟩
theorem op_nilCheck {x : Operand} {a : Addr} (hx : ev ρ x = some (.pointer (some a))) : OpQ P ρ L (.nilCheck x) ty (.pointer (some a)) :=
  ⟨fun r hr w hw o ho _ => by simp [execOp, ho, hr _ _ hx]⟩
theorem op_not {x : Operand} {t : TypeId} {b : Bool} (hx : ev ρ x = some (.bool b)) : OpQ P ρ L (.unOp .not t x) ty (.bool (!b)) :=
  ⟨fun r hr w hw o ho _ => by simp [execOp, ho, hr _ _ hx, Op.unary]⟩

/-! ### numbers -/
def InK : IntKind → Int → Prop
  | .i64, a => -9223372036854775808 ≤ a ∧ a ≤ 9223372036854775807
  | .u8, a => 0 ≤ a ∧ a ≤ 255
  | .u16, a => 0 ≤ a ∧ a ≤ 65535
  | .u32, a => 0 ≤ a ∧ a ≤ 4294967295
  | .u64, a => 0 ≤ a ∧ a ≤ 18446744073709551615
  | .i32, a => -2147483648 ≤ a ∧ a ≤ 2147483647
  | _, _ => False
theorem wrap_in {k : IntKind} {a : Int} (h : InK k a) : k.wrap a = a := by
  cases k <;> first | exact IntWalk.i64_in _ h | exact IntWalk.u8_in _ h | exact IntWalk.u16_in _ h | exact IntWalk.u32_in _ h | exact IntWalk.u64_in _ h | exact IntWalk.i32_in _ h | exact h.elim

/-- What an operator makes of two values. -/
structure Bin (P : Program) (op : BinOp) (t : TypeId) (a b v : Value) : Prop where
  out : ∀ (x y : Operand) w, (do eqGuard op t x y a b; binOp op t a b : Sem Value).run P w = .ok v w
theorem op_bin {op : BinOp} {t yt : TypeId} {x y : Operand} {a b v : Value} (hx : ev ρ x = some a) (hy : ev ρ y = some b) (h : Bin P op t a b v) : OpQ P ρ L (.binOp op t x y yt) ty v :=
  ⟨fun r hr w hw o ho _ => by
    have h1 := h.out x y w
    simp only [execOp, ho, hr _ _ hx, hr _ _ hy]
    rw [Sem.run_bind, h1]
    rfl⟩
section
variable {t : TypeId} {k : IntKind} {a b : Int}
theorem bin_add (h : InK k (a + b)) : Bin P .add t (.int k a) (.int k b) (.int k (a + b)) := ⟨fun x y w => by simp [eqGuard, binOp, Op.intArith, wrap_in h]⟩
theorem bin_addW : Bin P .add t (.int k a) (.int k b) (.int k (k.wrap (a + b))) := ⟨fun x y w => by simp [eqGuard, binOp, Op.intArith]⟩
theorem bin_subW : Bin P .sub t (.int k a) (.int k b) (.int k (k.wrap (a - b))) := ⟨fun x y w => by simp [eqGuard, binOp, Op.intArith]⟩
theorem bin_mulW : Bin P .mul t (.int k a) (.int k b) (.int k (k.wrap (a * b))) := ⟨fun x y w => by simp [eqGuard, binOp, Op.intArith]⟩
theorem bin_rem (h1 : 0 ≤ a) (h2 : 1 ≤ b) : Bin P .rem t (.int k a) (.int k b) (.int k (a % b)) := ⟨fun x y w => by
  have hb : b ≠ 0 := by omega
  simp [eqGuard, binOp, Op.intDiv, hb, Int.tmod_eq_emod_of_nonneg h1]⟩
theorem bin_eql : Bin P .eql t (.int k a) (.int k b) (.bool (a == b)) := ⟨fun x y w => by simp [eqGuard, binOp, Op.intCmp]⟩
theorem bin_neq : Bin P .neq t (.int k a) (.int k b) (.bool (a != b)) := ⟨fun x y w => by simp [eqGuard, binOp, Op.intCmp]⟩
theorem bin_lss : Bin P .lss t (.int k a) (.int k b) (.bool (decide (a < b))) := ⟨fun x y w => by simp [eqGuard, binOp, Op.intCmp]⟩
theorem bin_leq : Bin P .leq t (.int k a) (.int k b) (.bool (decide (a ≤ b))) := ⟨fun x y w => by simp [eqGuard, binOp, Op.intCmp]⟩
theorem bin_gtr : Bin P .gtr t (.int k a) (.int k b) (.bool (decide (b < a))) := ⟨fun x y w => by simp [eqGuard, binOp, Op.intCmp]⟩
theorem bin_geq : Bin P .geq t (.int k a) (.int k b) (.bool (decide (b ≤ a))) := ⟨fun x y w => by simp [eqGuard, binOp, Op.intCmp]⟩
end
/-! ### strings -/
def bs (l : List UInt8) : ByteArray := ⟨l.toArray⟩
@[simp] theorem bs_data (l : List UInt8) : (bs l).data.toList = l := rfl
@[simp] theorem bs_toList (l : List UInt8) : (bs l).toList = l := by rw [ByteArray.toList_eq]; rfl
@[simp] theorem bs_size (l : List UInt8) : (bs l).size = l.length := by simp [bs, ByteArray.size]
section
variable {t : TypeId} {a b : List UInt8}
theorem sbin_eql : Bin P .eql t (.string (bs a)) (.string (bs b)) (.bool (a == b)) := ⟨fun x y w => by simp [eqGuard, binOp, Op.stringOp]⟩
theorem sbin_neq : Bin P .neq t (.string (bs a)) (.string (bs b)) (.bool (!(a == b))) := ⟨fun x y w => by simp [eqGuard, binOp, Op.stringOp]⟩
theorem sbin_lss : Bin P .lss t (.string (bs a)) (.string (bs b)) (.bool (Op.bytesLess a b)) := ⟨fun x y w => by simp [eqGuard, binOp, Op.stringOp]⟩
theorem sbin_gtr : Bin P .gtr t (.string (bs a)) (.string (bs b)) (.bool (!(Op.bytesLess a b || a == b))) := ⟨fun x y w => by simp [eqGuard, binOp, Op.stringOp]⟩
theorem bs_append : bs a ++ bs b = bs (a ++ b) := by
  apply ByteArray.ext
  simp [bs]
theorem sbin_add (h : a.length + b.length ≤ 9223372036854775807) : Bin P .add t (.string (bs a)) (.string (bs b)) (.string (bs (a ++ b))) := ⟨fun x y w => by
  simp [eqGuard, binOp, Op.stringOp, bs_append]
  omega⟩
end
/-- booleans, pointers -/
theorem equal_open (t : TypeId) (x y : Value) : Op.equal t x y = Op.equalIn (9999 + 1) t x y := rfl
theorem equalIn_nil {t e : TypeId} {a : Option Addr} (d : Nat) (w : World) (h : P.underlying t = some (.pointer e)) : (Op.equalIn (d + 1) t (.pointer a) (.pointer none)).run P w = .ok a.isNone w := by
  cases a <;> simp [Op.equalIn, run_underlying h]
theorem pbin_eql {t e : TypeId} {a : Option Addr} (h : P.underlying t = some (.pointer e)) : Bin P .eql t (.pointer a) (.pointer none) (.bool a.isNone) := ⟨fun x y w => by
  simp only [eqGuard, binOp, equal_open]
  simp [equalIn_nil 9999 w h]⟩
theorem pbin_neq {t e : TypeId} {a : Option Addr} (h : P.underlying t = some (.pointer e)) : Bin P .neq t (.pointer a) (.pointer none) (.bool (!a.isNone)) := ⟨fun x y w => by
  simp only [eqGuard, binOp, equal_open]
  simp [equalIn_nil 9999 w h]⟩

/-! ### conversions -/
theorem op_conv_intW {s d : TypeId} {sd : TypeDesc} {k k' : IntKind} {x : Operand} {a : Int} (hx : ev ρ x = some (.int k a)) (h1 : P.underlying s = some sd) (h2 : P.underlying d = some (.int k')) :
    OpQ P ρ L (.convert s d x) ty (.int k' (k'.wrap a)) :=
  ⟨fun r hr w hw o ho _ => by simp [execOp, ho, hr _ _ hx, convert, run_underlying h1, run_underlying h2, Conv.intToInt]⟩
theorem op_conv_str {s d : TypeId} {sd : TypeDesc} {x : Operand} {a : ByteArray} (hx : ev ρ x = some (.string a)) (h1 : P.underlying s = some sd) (h2 : P.underlying d = some .string) :
    OpQ P ρ L (.convert s d x) ty (.string a) :=
  ⟨fun r hr w hw o ho _ => by simp [execOp, ho, hr _ _ hx, convert, run_underlying h1, run_underlying h2]⟩
/-- 'string(b)' -/
theorem op_conv_back {s d e : TypeId} {x : Operand} {b off cap : Nat} {C : Array Value} {te : TypeId} {fr : Nat × Nat} (l : List UInt8) {m : Nat} (hx : ev ρ x = some (.slice (some ⟨b, off, none⟩) m cap)) (hl : m = l.length)
    (h1 : P.underlying s = some (.slice e)) (he : P.underlying e = some (.int .u8)) (h2 : P.underlying d = some .string) (hm : (b, Obj.cells C te fr) ∈ L) (hc : ∀ j (hj : j < l.length), C[off + j]? = some (.int .u8 (l[j].toNat : Int))) :
    OpQ P ρ L (.convert s d x) ty (.string (bs l)) :=
  ⟨fun r hr w hw o ho _ => by
    subst hl
    simp [execOp, ho, hr _ _ hx]
    rw [run_convert_bytes_back w s d e ⟨b, off, none⟩ cap l h1 he h2 (fun j hj => by
      have : (⟨b, off, none⟩ : Addr).add j = ⟨b, off + j, none⟩ := by
        unfold Addr.add; split
        · rename_i h; subst h; rfl
        · rfl
      rw [this]; exact hw.cell hm (hc j hj))]
    rfl⟩
theorem op_conv_back0 {s d e : TypeId} {x : Operand} {m c : Nat} (hx : ev ρ x = some (.slice none m c)) (h1 : P.underlying s = some (.slice e)) (he : P.underlying e = some (.int .u8)) (h2 : P.underlying d = some .string) :
    OpQ P ρ L (.convert s d x) ty (.string (bs [])) :=
  ⟨fun r hr w hw o ho _ => by
    simp [execOp, ho, hr _ _ hx, convert, run_underlying h1, run_underlying h2, run_underlying he, Conv.bytesToString]
    rfl⟩
/-! ### builtins without memory -/
theorem op_len_str {x : Operand} {s : List UInt8} {t : TypeId} (hx : ev ρ x = some (.string (bs s))) (ht : P.underlying t = some .string) : OpQ P ρ L (.call ⟨.builtin .len, #[x], #[t]⟩) ty (.int .i64 s.length) :=
  ⟨fun r hr w hw o ho _ => by simp [execOp, ho, hr _ _ hx, resolve, invoke, builtin, Builtin.len_, run_underlying ht, goInt]⟩
theorem op_len_slice {x : Operand} {a : Option Addr} {m c : Nat} {t e : TypeId} (hx : ev ρ x = some (.slice a m c)) (ht : P.underlying t = some (.slice e)) : OpQ P ρ L (.call ⟨.builtin .len, #[x], #[t]⟩) ty (.int .i64 m) :=
  ⟨fun r hr w hw o ho _ => by simp [execOp, ho, hr _ _ hx, resolve, invoke, builtin, Builtin.len_, run_underlying ht, goInt]⟩
/-! ### addresses -/
theorem addr_add (b o j : Nat) : (⟨b, o, none⟩ : Addr).add j = ⟨b, o + j, none⟩ := by
  unfold Addr.add; split
  · rename_i h; subst h; rfl
  · rfl
theorem op_index_str {x y : Operand} {s : List UInt8} {i : Int} {k : IntKind} {c : UInt8} {t : TypeId} (hx : ev ρ x = some (.string (bs s))) (hy : ev ρ y = some (.int k i)) (ht : P.underlying t = some .string) (h0 : 0 ≤ i) (hc : s[i.toNat]? = some c) :
    OpQ P ρ L (.index t x y) ty (.int .u8 (c.toNat : Int)) :=
  ⟨fun r hr w hw o ho _ => by
    have : (bs s)[i.toNat]? = some c := by
      obtain ⟨h1, h2⟩ := List.getElem?_eq_some_iff.1 hc
      rw [getElem?_pos (bs s) i.toNat (by rw [bs_size]; exact h1), ← h2]
      rfl
    simp [execOp, ho, hr _ _ hx, hr _ _ hy, Instr.index, asIntOf, run_underlying ht, h0, this]⟩
theorem op_indexAddr {x y : Operand} {b off m c sz : Nat} {i : Int} {k : IntKind} {t e : TypeId} {ti : TypeInfo} (hx : ev ρ x = some (.slice (some ⟨b, off, none⟩) m c)) (hy : ev ρ y = some (.int k i))
    (ht : P.underlying t = some (.slice e)) (hi : P.info? e = some ti) (hz : ti.size = sz) (h0 : 0 ≤ i) (h1 : i < m) : OpQ P ρ L (.indexAddr t x y) ty (.pointer (some ⟨b, off + i.toNat * sz, none⟩)) :=
  ⟨fun r hr w hw o ho _ => by simp [execOp, ho, hr _ _ hx, hr _ _ hy, Instr.indexAt, asIntOf, run_underlying ht, h0, h1, sizeOf, typeInfo, hi, hz, addr_add]⟩
theorem op_fieldAddr {x : Operand} {b off : Nat} {s f : Nat} {fs : Array Field} {fi : Field} {ti : TypeInfo} {fo : Nat} (hx : ev ρ x = some (.pointer (some ⟨b, off, none⟩)))
    (ht : P.underlying s = some (.struct fs)) (hf : fs[f]? = some fi) (hi : P.info? fi.type = some ti) (hz : Nat.beq ti.size 0 = false) (hfo : fi.offset = fo) :
    OpQ P ρ L (.fieldAddr s x f) ty (.pointer (some ⟨b, off + fo, none⟩)) :=
  ⟨fun r hr w hw o ho _ => by
    have hz' : ti.size ≠ 0 := Nat.ne_of_beq_eq_false hz
    simp [execOp, ho, hr _ _ hx, Instr.fieldAt, run_underlying ht, hf, Instr.sureAddr, fieldPlace, sizeOf, typeInfo, hi, hz', addr_add, hfo]⟩
/-! ### loads and stores -/
def plainDesc : TypeDesc → Bool
  | .struct _ | .array _ _ => false
  | _ => true
theorem op_load {x : Operand} {b off : Nat} {t : TypeId} {d : TypeDesc} {C : Array Value} {te : TypeId} {fr : Nat × Nat} {v : Value} (hx : ev ρ x = some (.pointer (some ⟨b, off, none⟩)))
    (ht : P.underlying t = some d) (hd : plainDesc d = true) (hm : (b, Obj.cells C te fr) ∈ L) (hv : C[off]? = some v) : OpQ P ρ L (.load t x) ty v :=
  ⟨fun r hr w hw o ho _ => by
    have hc := hw.cell hm hv
    have ha : (isAgg t).run P w = .ok false w := by
      unfold isAgg
      simp [run_underlying ht]
      cases d <;> first | rfl | cases hd
    simp [execOp, ho, hr _ _ hx, Instr.loadAt, Instr.sureAddr, loadVar, ha, load, Sem.run, hc]⟩
theorem Heap.store {w : World} {b off : Nat} {C : Array Value} {te : TypeId} {v : Value} (h : Heap G w ((b, Obj.cells C te (0, 0)) :: L)) : Heap G (w.setCell ⟨b, off, none⟩ v) ((b, Obj.cells (C.setIfInBounds off v) te (0, 0)) :: L) := by
  have h0 := h.get _ (List.mem_cons_self ..)
  refine h.update ⟨rfl, rfl, rfl, by simp [World.setCell]⟩ ?_ (fun j hj hne => Below.heap_setCell w _ v j hne)
  show (w.heap.modify b _)[b]? = _
  rw [Array.getElem?_modify, if_pos rfl, h0]
  rfl
theorem TL_q {ops : Array Oper} {d : Nat} {op : Op} {pos : String} {after : Array Edge} {rest : List Oper} {v : Value} {Q : Exit → Act → World → Prop}
    (h : OpQ P ρ L op ty v) (hd : Nat.blt d n = true) (hr : TL P G ops n ((d, v) :: ρ) L rest Q) : TL P G ops n ρ L (⟨some d, op, ty, pos, after, none⟩ :: rest) Q := TL_op h.v hd hr
theorem op_store {x y : Operand} {b off : Nat} {t : TypeId} {ti : TypeInfo} {C : Array Value} {te : TypeId} {v u : Value} (hx : ev ρ x = some (.pointer (some ⟨b, off, none⟩))) (hy : ev ρ y = some v)
    (hi : P.info? t = some ti) (hz : ti.size = 1) (hone : v.oneCell' = true) (hv : C[off]? = some u) : OpV P G ρ ((b, Obj.cells C te (0, 0)) :: L) (.store t x y) ty undef ((b, Obj.cells (C.setIfInBounds off v) te (0, 0)) :: L) :=
  ⟨fun r hr w hw o ho _ => by
    have hc := hw.cell (List.mem_cons_self ..) hv
    have hf : w.frozen? ⟨b, off, none⟩ = false := by unfold World.frozen?; rw [hw.get _ (List.mem_cons_self ..)]; simp
    have hrun : (execOp r o).run P w = .ok .skip (w.setCell ⟨b, off, none⟩ v) := by
      simp only [execOp, ho, hr _ _ hx, hr _ _ hy]
      cases v <;> first | (cases hone; done) | simp [Instr.storeAt, Instr.sureAddr, storeVar, sizeOf, typeInfo, hi, hz, Value.cells, storeCells, addr_add, store, Sem.run, hc, hf]
    rw [hrun]
    exact ⟨_, ⟨rfl, rfl⟩, hw.store⟩⟩
end Go.Proofs.YtlicehodjhoamaaGreatDoor
namespace Go.Proofs.YtlicehodjhoamaaGreatDoor
open Go.RowKit Go.Lib
set_option linter.unusedVariables false
set_option linter.unusedSimpArgs false
variable {G : World} {P : Program} {n : Nat} {ρ : Slots} {L : Blocks} {ty : TypeId} {Q : Exit → Act → World → Prop}

/-! ### blocks in a list: one to the front, one away -/
theorem perm_pick {α : Type} : ∀ {L : List α} (i : Nat) (p : α), L[i]? = some p → L.Perm (p :: L.eraseIdx i)
  | [], _, _, h => by simp at h
  | x :: L, 0, p, h => by simp at h; subst h; exact List.Perm.refl _
  | x :: L, i + 1, p, h => by
    have := perm_pick (L := L) i p (by simpa using h)
    exact (this.cons x).trans (List.Perm.swap _ _ _)
theorem Heap.pick {w : World} {L : Blocks} (i : Nat) (p : Nat × Obj) (hp : L[i]? = some p) (h : Heap G w L) : Heap G w (p :: L.eraseIdx i) :=
  h.perm (perm_pick i p hp)
/-! ### new blocks -/
/-- A new block, and the value that leads to it. -/
abbrev OpNew (P : Program) (G : World) (ρ : Slots) (L : Blocks) (op : Op) (ty : TypeId) (mk : Nat → Value) (o : Obj) : Prop := OpT P G ρ L op ty fun v L' => ∃ b, v = mk b ∧ L' = (b, o) :: L
theorem OpNew.run {op : Op} {mk : Nat → Value} {ob : Obj} (h : ∀ r, Reads ρ r → ∀ w, ∀ o : Oper, o.op = op → o.type = ty → (execOp r o).run P w = .ok (.value (mk w.heap.size)) (w.alloc ob)) : OpNew P G ρ L op ty mk ob :=
  ⟨fun r hr w hw o ho ht => by
    rw [h r hr w o ho ht]
    exact ⟨_, ⟨w.heap.size, rfl, rfl⟩, hw.alloc ob⟩⟩
theorem TL_new {ops : Array Oper} {d : Nat} {op : Op} {pos : String} {after : Array Edge} {rest : List Oper} {mk : Nat → Value} {ob : Obj}
    (h : OpNew P G ρ L op ty mk ob) (hd : Nat.blt d n = true) (hr : ∀ b, TL P G ops n ((d, mk b) :: ρ) ((b, ob) :: L) rest Q) : TL P G ops n ρ L (⟨some d, op, ty, pos, after, none⟩ :: rest) Q :=
  TL_opT h hd fun _ _ ⟨b, h1, h2⟩ => h1 ▸ h2 ▸ hr b
def zeroOf (P : Program) (t : TypeId) : Option Value := (P.info? t).bind (·.zero)
theorem zeroOf_run {t : TypeId} {z : Value} (h : zeroOf P t = some z) (w : World) : (zeroValue t).run P w = .ok z w := by
  unfold zeroOf at h
  cases hi : P.info? t with
  | none => simp [hi] at h
  | some i =>
    simp [hi] at h
    simp [zeroValue, typeInfo, hi, h]
theorem op_alloc {t : TypeId} {z : Value} {C : Array Value} (h : zeroOf P t = some z) (hc : z.cells = C) : OpNew P G ρ L (.alloc t) ty (fun b => .pointer (some ⟨b, 0, none⟩)) (.cells C t (0, 0)) :=
  .run fun r hr w o ho _ => by
    simp [execOp, ho, Instr.alloc, zeroOf_run h w, newVar, newRow, hc]
theorem op_box {t : TypeId} {x : Operand} {v : Value} {C : Array Value} (hx : ev ρ x = some v) (hc : v.cells = C) : OpNew P G ρ L (.box t x) ty (fun b => .pointer (some ⟨b, 0, none⟩)) (.cells C t (0, 0)) :=
  .run fun r hr w o ho _ => by
    simp [execOp, ho, hr _ _ hx, Instr.box, newVar, newRow, hc]
def evParts (ρ : Slots) : List (Nat × Operand) → Option (List (Nat × Value))
  | [] => some []
  | (i, x) :: r => match ev ρ x, evParts ρ r with
    | some v, some vs => some ((i, v) :: vs)
    | _, _ => none
theorem evParts_map {ρ : Slots} {r : Operand → Value} (hr : Reads ρ r) : ∀ (l : List (Nat × Operand)) (vs : List (Nat × Value)), evParts ρ l = some vs → l.map (fun p => (p.1, r p.2)) = vs
  | [], vs, h => by simp [evParts] at h; simp [h]
  | (i, x) :: l, vs, h => by
    simp only [evParts] at h
    cases h1 : ev ρ x with
    | none => simp [h1] at h
    | some v =>
      cases h2 : evParts ρ l with
      | none => simp [h1, h2] at h
      | some us =>
        simp [h1, h2] at h
        subst h
        simp [hr x v h1, evParts_map hr l us h2]
/-- The row of elements that a literal lays. -/
structure RowLit (P : Program) (t : TypeId) (len : Nat) (vs : List (Nat × Value)) (e : TypeId) (C : Array Value) : Prop where
  out : ∀ w, (Instr.buildSlice t len vs.toArray).run P w = .ok (.slice (some ⟨w.heap.size, 0, none⟩) len len) (w.alloc (.cells C e (0, 0)))
theorem op_buildSlice {t e : TypeId} {len : Nat} {ps : List (Nat × Operand)} {vs : List (Nat × Value)} {C : Array Value} (hp : evParts ρ ps = some vs) (h : RowLit P t len vs e C) :
    OpNew P G ρ L (.buildSlice t len ps.toArray) ty (fun b => .slice (some ⟨b, 0, none⟩) len len) (.cells C e (0, 0)) :=
  .run fun r hr w o ho _ => by
    have := h.out w
    rw [← evParts_map hr ps vs hp] at this
    simp [execOp, ho]
    rw [this]
    rfl
/-- A struct's value out of its parts. -/
structure Built (P : Program) (t : TypeId) (vs : List (Nat × Value)) (v : Value) : Prop where
  out : ∀ w, (Instr.build t vs.toArray).run P w = .ok v w
theorem op_build {t : TypeId} {ps : List (Nat × Operand)} {vs : List (Nat × Value)} {v : Value} (hp : evParts ρ ps = some vs) (h : Built P t vs v) : OpQ P ρ L (.build t ps.toArray) ty v :=
  ⟨fun r hr w hw o ho _ => by
    have := h.out w
    rw [← evParts_map hr ps vs hp] at this
    simp [execOp, ho]
    rw [this]
    rfl⟩

/-! ### rows of one's own -/
/-- What the table says of a slice's type. -/
structure ElemTy (P : Program) (t e : TypeId) (sz bytes : Nat) (z : Value) : Prop where
  und : P.underlying t = some (.slice e)
  info : ∃ i, P.info? e = some i ∧ i.zero = some z ∧ i.size = sz ∧ i.bytes = bytes
  cells : z.cells.size = sz
  pos : 0 < sz
structure Row (e : TypeId) (sz : Nat) (v : Value) (m : Nat) (xs : List Value) (B : Blocks) : Prop where
  len : xs.length = m * sz
  is : (v = .slice none 0 0 ∧ m = 0 ∧ B = []) ∨ ∃ b cap cur, v = .slice (some ⟨b, 0, none⟩) m cap ∧ B = [(b, .cells cur e (0, 0))] ∧ m ≤ cap ∧ cap ≤ maxLen ∧ cur.size = cap * sz ∧ cur.toList.take (m * sz) = xs
theorem Row.nil (e : TypeId) (sz : Nat) : Row e sz (.slice none 0 0) 0 [] [] := ⟨by simp, Or.inl ⟨rfl, rfl, rfl⟩⟩
theorem Row.slice {e : TypeId} {sz : Nat} {v : Value} {m : Nat} {xs : List Value} {B : Blocks} (h : Row e sz v m xs B) : ∃ a c, v = .slice a m c := by
  rcases h.is with ⟨h1, h2, _⟩ | ⟨b, cap, _, h1, _⟩
  · exact ⟨none, 0, by rw [h1, h2]⟩
  · exact ⟨_, _, h1⟩
theorem Row.owns {e : TypeId} {sz : Nat} {v : Value} {m : Nat} {xs : List Value} {B : Blocks} (h : Row e sz v m xs B) {w : World} (hw : Heap G w (B ++ L)) : w.ownsRow 0 e sz v m xs := by
  refine ⟨h.len, ?_⟩
  rcases h.is with ⟨h1, h2, _⟩ | ⟨b, cap, cur, h1, h2, h3, h4, h5, h6⟩
  · exact Or.inl ⟨h1, h2⟩
  · subst h2
    exact Or.inr ⟨b, cap, cur, h1, Nat.zero_le _, hw.get (b, .cells cur e (0, 0)) (List.mem_append_left _ (List.mem_cons_self ..)), h3, h4, h5, h6⟩
theorem Row.after {e : TypeId} {sz : Nat} {v v' : Value} {m m' : Nat} {xs xs' : List Value} {B : Blocks} (h : Row e sz v m xs B) {w w' : World} (hw : Heap G w (B ++ L)) (ho : w'.ownsRow 0 e sz v' m' xs') (hg : w.grownBy w' v.ownBlock)
    (hat : v'.ownBlock = v.ownBlock ∨ v'.ownBlock = some w.heap.size) : ∃ B', Row e sz v' m' xs' B' ∧ Heap G w' (B' ++ L) := by
  have hst : Still w w' := ⟨hg.os, hg.tape, hg.output, hg.size⟩
  have hL : Heap G w L := hw.sub (List.sublist_append_right _ _)
  have hkeep : ∀ p, p ∈ L → w'.heap[p.1]? = some p.2 := fun p hp => by
    rw [hg.block p.1 (hL.lt hp) ?_]
    · exact hL.get p hp
    · rcases h.is with ⟨h1, _, _⟩ | ⟨b, cap, cur, h1, h2, _⟩
      · rw [h1]; simp [Value.ownBlock]
      · rw [h1]
        subst h2
        have := Heap.ne (b := b) (o := .cells cur e (0, 0)) (L := L) hw hp
        simpa [Value.ownBlock] using this
  rcases ho.2 with ⟨h1, h2⟩ | ⟨g, cap, cur, h1, _, hgc, h3, h4, h5, h6⟩
  · exact ⟨[], ⟨ho.1, Or.inl ⟨h1, h2, rfl⟩⟩, hL.still.trans hst, hL.nodup, hkeep⟩
  · refine ⟨[(g, .cells cur e (0, 0))], ⟨ho.1, Or.inr ⟨g, cap, cur, h1, rfl, h3, h4, h5, h6⟩⟩, hL.still.trans hst, ?_, fun p hp => ?_⟩
    · show ((g : Nat) :: L.map (·.1)).Nodup
      rw [List.nodup_cons]
      refine ⟨fun hm => ?_, hL.nodup⟩
      obtain ⟨p, hp, he⟩ := List.mem_map.1 hm
      rw [h1] at hat
      simp only [Value.ownBlock] at hat
      rcases hat with hat | hat
      · rcases h.is with ⟨q1, _, _⟩ | ⟨b, cap, cur, q1, q2, _⟩
        · rw [q1] at hat; simp at hat
        · rw [q1] at hat
          simp at hat
          subst q2
          exact Heap.ne (b := b) (o := .cells cur e (0, 0)) (L := L) hw hp (he.trans hat)
      · have := hL.lt hp
        simp at hat
        omega
    · rcases List.mem_cons.1 hp with rfl | hp
      · exact hgc
      · exact hkeep p hp
/-- What is appended: the cells of a slice. -/
def Src (L : Blocks) (u : Value) (m : Nat) (news : List Value) (sz : Nat) : Prop :=
  news.length = m * sz ∧ (∀ x ∈ news, x.oneCell' = true) ∧ ((∃ c, u = .slice none 0 c ∧ m = 0) ∨ ∃ b off c C te fr, u = .slice (some ⟨b, off, none⟩) m c ∧ (b, Obj.cells C te fr) ∈ L ∧ ∀ j x, news[j]? = some x → C[off + j]? = some x)
theorem run_app0 (w : World) (t ty e : TypeId) (i : TypeInfo) (c : Nat) (ht : P.underlying t = some (.slice e)) (hi : P.info? e = some i) (base : Nat) (size : Nat)
    (v : Value) (m : Nat) (xs : List Value) (hown : w.ownsRow base e size v m xs) : (Builtin.append_ #[t, t] ty #[v, .slice none 0 c]).run P w = .ok v w := by
  rcases hown.2 with ⟨rfl, rfl⟩ | ⟨g, cap, cur, rfl, _, _, hnc, _⟩
  · simp [Builtin.append_, run_underlying ht, sizeOf, typeInfo, hi, Builtin.lenOf, Builtin.firstCells]
  · simp [Builtin.append_, run_underlying ht, sizeOf, typeInfo, hi, Builtin.lenOf, Builtin.firstCells, hnc, storeCells]
theorem op_append {s x : Operand} {t e : TypeId} {sz bytes : Nat} {z v u : Value} {m k : Nat} {xs news : List Value} {B : Blocks} (E : ElemTy P t e sz bytes z) (hs : ev ρ s = some v) (hx : ev ρ x = some u)
    (hrow : Row e sz v m xs B) (hsrc : Src L u k news sz) (h63 : m + k ≤ maxLen) (hby : (m + k) * bytes ≤ 140737488355328) :
    OpT P G ρ (B ++ L) (.call ⟨.builtin .append, #[s, x], #[t, t]⟩) ty fun v' L' => ∃ B', Row e sz v' (m + k) (xs ++ news) B' ∧ L' = B' ++ L :=
  ⟨fun r hr w hw o ho _ => by
    obtain ⟨i, hi, hz0, hz1, hz2⟩ := E.info
    have hown := hrow.owns hw
    have key : ∃ v' w', (Builtin.append_ #[t, t] o.type #[v, u]).run P w = .ok v' w' ∧ w'.ownsRow 0 e sz v' (m + k) (xs ++ news) ∧ w.grownBy w' v.ownBlock ∧ (v'.ownBlock = v.ownBlock ∨ v'.ownBlock = some w.heap.size) := by
      obtain ⟨hl, hone, ⟨c, rfl, rfl⟩ | ⟨b, off, c, C, te, fr, rfl, hm, hc⟩⟩ := hsrc
      · have : news = [] := List.eq_nil_of_length_eq_zero (by simpa using hl)
        subst this
        exact ⟨v, w, run_app0 w t o.type e i c E.und hi 0 sz v m xs hown, by simpa using hown, ⟨rfl, rfl, rfl, Nat.le_refl _, fun _ _ _ => rfl⟩, Or.inl rfl⟩
      · obtain ⟨v', w', q1, q2, q3, _, q5⟩ := run_append_own_at w 0 t o.type e i z sz bytes E.und hi hz0 hz1 hz2 E.cells E.pos v m xs hown ⟨b, off, none⟩ k c news hl
          (fun j y hj => by rw [addr_add]; exact hw.cell (List.mem_append_right _ hm) (hc j y hj)) hone h63 hby (Nat.zero_le _)
        exact ⟨v', w', q1, q2, q3, q5⟩
    obtain ⟨v', w', hrun, q2, q3, q4⟩ := key
    obtain ⟨B', hB, hH⟩ := hrow.after hw q2 q3 q4
    have : (execOp r o).run P w = .ok (.value v') w' := by
      simp [execOp, ho, hr _ _ hs, hr _ _ hx, resolve, invoke, builtin, hrun, Result.andThen]
    rw [this]
    exact ⟨_, ⟨B', hB, rfl⟩, hH⟩⟩
/-- bytes of a string -/
theorem op_append_str {s x : Operand} {t e tu : TypeId} {v : Value} {m : Nat} {xs : List Value} {l : List UInt8} {B : Blocks} (E : ElemTy P t e 1 1 (.int .u8 0)) (hu : P.underlying tu = some .string) (hs : ev ρ s = some v) (hx : ev ρ x = some (.string (bs l)))
    (hrow : Row e 1 v m xs B) (h63 : m + l.length ≤ 140737488355328) :
    OpT P G ρ (B ++ L) (.call ⟨.builtin .append, #[s, x], #[t, tu]⟩) ty fun v' L' => ∃ B', Row e 1 v' (m + l.length) (xs ++ l.map fun c => Value.int .u8 (c.toNat : Int)) B' ∧ L' = B' ++ L :=
  ⟨fun r hr w hw o ho _ => by
    obtain ⟨i, hi, hz0, hz1, hz2⟩ := E.info
    have hown := hrow.owns hw
    have hml : m + (bs l).size ≤ maxLen := by rw [bs_size]; unfold maxLen; omega
    obtain ⟨v', w', hrun, q2, q3, _⟩ := run_append_own_string w 0 t tu o.type e i E.und hu hi hz0 hz1 hz2 v m xs hown (bs l) hml (by rw [bs_size]; exact h63) (Nat.zero_le _)
    have q4 : v'.ownBlock = v.ownBlock ∨ v'.ownBlock = some w.heap.size := by
      rcases hrow.is with ⟨h1, h2, _⟩ | ⟨b, cap, cur, h1, h2, h3, h4, h5, h6⟩
      · subst h1
        by_cases h0 : 0 < (bs l).size
        · have := run_append_nil_string (P := P) w t tu o.type e i (.int .u8 0) E.und hu hi hz0 (bs l) h0 (by rw [bs_size]; omega) (by rw [bs_size, hz2]; omega)
          rw [this] at hrun
          cases hrun
          exact Or.inr rfl
        · have hl0 : l = [] := List.eq_nil_of_length_eq_zero (by rw [bs_size] at h0; omega)
          subst hl0
          have : (Builtin.append_ #[t, tu] o.type #[.slice none 0 0, .string (bs [])]).run P w = .ok (.slice none 0 0) w := by
            simp [Builtin.append_, run_underlying E.und, run_underlying hu, sizeOf, typeInfo, hi, Builtin.lenOf, Builtin.firstCells]
          rw [this] at hrun
          cases hrun
          exact Or.inl rfl
      · subst h1
        subst h2
        have hg : w.heap[b]? = some (.cells cur e (0, 0)) := hw.get (b, .cells cur e (0, 0)) (List.mem_append_left _ (List.mem_cons_self ..))
        by_cases hroom : m + (bs l).size ≤ cap
        · have := run_append_room_string (P := P) w t tu o.type e i E.und hu hi hz1 b m cap cur hg (bs l) hroom (by rw [h5]; omega)
          rw [this] at hrun
          cases hrun
          exact Or.inl rfl
        · have hnx : Builtin.nextslicecap (m + (bs l).size) cap * i.bytes ≤ 281474976710656 := by
            rw [hz2, Nat.mul_one]
            exact Nat.le_trans (nextslicecap_le (by omega)) (by rw [bs_size]; omega)
          have := run_append_grow_string (P := P) w t tu o.type e i (.int .u8 0) E.und hu hi hz0 ⟨b, 0, none⟩ m cap xs (by rw [hz1]; exact hrow.len) (fun j u hj => by
            rw [addr_add, Nat.zero_add]
            refine hw.cell (List.mem_append_left _ (List.mem_cons_self ..)) ?_
            have hjl := (List.getElem?_eq_some_iff.1 hj).1
            have hlen := hrow.len
            rw [← h6, List.getElem?_take_of_lt (by omega)] at hj
            simpa using hj) (bs l) (by omega) (by rw [bs_size]; omega) hnx
          rw [this] at hrun
          cases hrun
          exact Or.inr rfl
    obtain ⟨B', hB, hH⟩ := hrow.after hw q2 q3 q4
    have : (execOp r o).run P w = .ok (.value v') w' := by
      simp [execOp, ho, hr _ _ hs, hr _ _ hx, resolve, invoke, builtin, hrun, Result.andThen]
    rw [this]
    rw [bs_size] at hB
    exact ⟨_, ⟨B', hB, rfl⟩, hH⟩⟩

/-! ### slices of slices and strings -/
theorem op_slice_from {x lo : Operand} {s : List UInt8} {k : IntKind} {i : Int} {t : TypeId} (hx : ev ρ x = some (.string (bs s))) (hlo : ev ρ lo = some (.int k i)) (ht : P.underlying t = some .string)
    (h0 : 0 ≤ i) (h1 : i ≤ s.length) : OpQ P ρ L (.slice t x (some lo) none none) ty (.string (bs (s.drop i.toNat))) :=
  ⟨fun r hr w hw o ho _ => by
    have e : (bs s).extract i.toNat s.length = bs (s.drop i.toNat) := by
      apply ByteArray.ext
      rw [ByteArray.data_extract]
      simp [bs, List.extract_eq_take_drop]
      exact List.take_of_length_le (by simp)
    simp [execOp, ho, hr _ _ hx, hr _ _ hlo, Instr.sliceAt, run_underlying ht, Instr.slice, Instr.sliceBounds, Instr.sliceBound, asIntOf, h0, h1, e]⟩

/-! ### calls -/
/-- The function is there, and has a text. -/
def hasBody (P : Program) (f : FuncId) : Bool := match P.funcs[f]? with
  | some fn => !(fn.name == "runtime.NumGoroutine") && !fn.body.isNone
  | none => false
theorem run_callFunc {f : FuncId} {args : Array Value} (h : hasBody P f = true) (w : World) : (callFunc f args).run P w = .ok (.enter f args) w := by
  unfold hasBody at h
  cases hf : P.funcs[f]? with
  | none => simp [hf] at h
  | some fn =>
    simp only [hf, Bool.and_eq_true, Bool.not_eq_true'] at h
    have h1 : ¬ fn.name = "runtime.NumGoroutine" := by simpa using h.1
    have h2 : ¬ fn.body = none := by intro e; rw [e] at h; simp at h
    simp [callFunc, hf, h1, h2]
def evArgs (ρ : Slots) : List Operand → Option (List Value)
  | [] => some []
  | x :: r => match ev ρ x, evArgs ρ r with
    | some v, some vs => some (v :: vs)
    | _, _ => none
theorem evArgs_map {ρ : Slots} {r : Operand → Value} (hr : Reads ρ r) : ∀ (l : List Operand) (vs : List Value), evArgs ρ l = some vs → l.map r = vs
  | [], vs, h => by simp [evArgs] at h; simp [h]
  | x :: l, vs, h => by
    simp only [evArgs] at h
    cases h1 : ev ρ x with
    | none => simp [h1] at h
    | some v =>
      cases h2 : evArgs ρ l with
      | none => simp [h1, h2] at h
      | some us =>
        simp [h1, h2] at h
        subst h
        simp [hr x v h1, evArgs_map hr l us h2]
theorem op_call {f : FuncId} {xs : List Operand} {ats : Array TypeId} {vs : List Value} {Φ : Value → Blocks → Prop} (hb : hasBody P f = true) (ha : evArgs ρ xs = some vs) (h : Spec P G f vs.toArray L Φ) :
    OpT P G ρ L (.call ⟨.value (.func f), xs.toArray, ats⟩) ty Φ :=
  ⟨fun r hr w hw o ho _ => by
    have hm := evArgs_map hr xs vs ha
    have hrf : r (.func f) = .func (.func f) #[] #[] := hr _ _ rfl
    have : execOp r o = callFunc f vs.toArray := by
      simp only [execOp, ho, resolve, hrf, Deferred.ofValue]
      show invoke (.fn (.func f) #[]) _ = _
      simp only [invoke, List.map_toArray, hm]
      simp
    rw [this, run_callFunc hb]
    refine (h.out w hw).mono fun e w' ⟨v, L', h1, h2, h3⟩ => ⟨v, h1, L', h2, h3⟩⟩

/-! ### returns -/
theorem ret_run {fn : Func} {a : Act} {ρ : Slots} (he : Env n ρ a) (t : Nat) (v : Value) (hr : fn.results = #[.tmp t]) (hv : ρ.lookup t = some v) (w : World) : (results fn a.tmps).run P w = .ok v w := by
  have h1 : a.tmps.getD t undef = v := he.reads (.tmp t) v hv
  simp only [results, hr]
  simp
  simpa using h1
theorem TQ_ret1 {fn : Func} {Φ : Value → Blocks → Prop} (t : Nat) (v : Value) (hr : fn.results = #[.tmp t]) (hv : ρ.lookup t = some v) (h : Φ v L) : TQ G n ρ L .ret (bodyPost P fn (RetPost G Φ)) :=
  ⟨fun a w he hw => ⟨he.defers, v, ret_run he t v hr hv w, v, L, rfl, h, hw⟩⟩
end Go.Proofs.YtlicehodjhoamaaGreatDoor
namespace Go.Proofs.YtlicehodjhoamaaGreatDoor
open Go.RowKit
set_option linter.unusedVariables false
set_option linter.unusedSimpArgs false
variable {G : World} {P : Program} {n : Nat} {ρ : Slots} {L : Blocks} {ty : TypeId} {Q : Exit → Act → World → Prop} {ops : Array Oper}

def bindD (dst : Option Nat) (v : Value) (ρ : Slots) : Slots := match dst with
  | some d => (d, v) :: ρ
  | none => ρ
theorem Env.bindD {a : Act} (h : Env n ρ a) {dst : Option Nat} (hd : ∀ d, dst = some d → d < n) (v : Value) : Env n (bindD dst v ρ) (a.put dst v) := by
  cases dst with
  | none => exact h
  | some d => exact h.put d (hd d rfl) v
/-- The guard says yes, as the slots tell. -/
def gsay (v : Value) (want : Bool) : Option Bool := match v with
  | .bool x => some (x == want)
  | .tuple _ => some false
  | _ => none
def Wants (ops : Array Oper) (ρ : Slots) (o : Oper) (b : Bool) : Prop := match o.guard with
  | none => b = true
  | some (j, want) => ∃ dj x, guardSlot ops j = some dj ∧ ρ.lookup dj = some x ∧ gsay x want = some b
theorem wanted_gsay {o : Oper} {j d : Nat} {b want : Bool} {x : Value} {a : Act} (he : Env n ρ a) (hg : o.guard = some (j, want)) (hs : guardSlot ops j = some d) (hv : ρ.lookup d = some x) (hx : gsay x want = some b) : Region.wanted o (yielded ops a.tmps) = b := by
  cases x <;> simp only [gsay, Option.some.injEq, reduceCtorEq] at hx
  · subst hx; exact wanted_of he hg hs hv
  · subst hx
    have h1 := he.get d _ hv
    unfold Region.wanted
    rw [hg]
    simp only [guardSlot] at hs
    simp [yielded, hs, h1]
theorem Wants.wanted {o : Oper} {b : Bool} (h : Wants ops ρ o b) {a : Act} (he : Env n ρ a) : Region.wanted o (yielded ops a.tmps) = b := by
  unfold Wants at h
  split at h
  · rename_i hg; subst h; simp [Region.wanted, hg]
  · rename_i j want hg
    obtain ⟨dj, x, h1, h2, h3⟩ := h
    exact wanted_gsay he hg h1 h2 h3
/-- One operation that comes up. -/
def StepD (P : Program) (G : World) (ops : Array Oper) (n : Nat) (ρ : Slots) (L : Blocks) (i : Nat) (keep : Blocks → Prop) (next : Slots → Blocks → Prop) : Prop :=
  ∃ o, ops[i]? = some o ∧ (∀ d, o.dst = some d → d < n) ∧ ∃ b, Wants ops ρ o b ∧
    ((b = true ∧ ∃ Φ, OpT P G ρ L o.op o.type Φ ∧ ∀ v L', Φ v L' → keep L' ∧ next (bindD o.dst v ρ) L') ∨ (b = false ∧ keep L ∧ next (bindD o.dst undef ρ) L))
/-- Whatever order is picked from here on. K: blocks that stay as they are till an operation of W has come up. -/
def TA (P : Program) (G : World) (ops : Array Oper) (n : Nat) (K : Blocks) (W : List Nat) (Q : Exit → Act → World → Prop) : Nat → Array Bool → Slots → Blocks → Prop
  | 0, listed, ρ, L => Region.ready .any ops listed = [] ∧ TQ G n ρ L .normal Q
  | fuel + 1, listed, ρ, L => (Region.ready .any ops listed = [] → TQ G n ρ L .normal Q) ∧
    ∀ i ∈ Region.ready .any ops listed, StepD P G ops n ρ L i (fun L' => i ∈ W ∨ ∀ p ∈ K, p ∈ L') (TA P G ops n K W Q fuel (listed.setIfInBounds i true))

theorem TA.sound {K : Blocks} {W : List Nat} : ∀ (fuel : Nat) (listed : Array Bool) (ρ : Slots) (L : Blocks), TA P G ops n K W Q fuel listed ρ L → ∀ a w, Env n ρ a → Heap G w L → wpAny P .any ops Q fuel listed a w
  | 0, listed, ρ, L, h, a, w, he, hw => ⟨h.1, h.2.out a w he hw⟩
  | fuel + 1, listed, ρ, L, h, a, w, he, hw => by
    refine ⟨fun h0 => (h.1 h0).out a w he hw, fun i hi => ?_⟩
    obtain ⟨o, ho, hd, b, hb, hs⟩ := h.2 i hi
    unfold wpOp
    simp only [ho, hb.wanted he]
    rcases hs with ⟨rfl, Φ, hO, hn⟩ | ⟨rfl, _, hn⟩
    · rw [if_pos rfl]
      refine Or.inl (hO.wp he hw fun v L' w' h1 h2 => ?_)
      exact TA.sound fuel _ _ _ (hn v L' h1).2 _ _ (he.bindD hd v) h2
    · rw [if_neg (by simp)]
      exact TA.sound fuel _ _ _ hn _ _ (he.bindD hd undef) hw

def NoPanic (Q : Exit → Act → World → Prop) (e : Exit) (a : Act) (w : World) : Prop := Q e a w
theorem T_draw {id : Nat} (hm : P.follows .mixedOrders = true) (K : Blocks) (W : List Nat) (h : TA P G ops n K W Q ops.size (Array.replicate ops.size false) ρ L) : T P G n ρ L (.region id ops true) Q :=
  ⟨fun a w he hw => wp_region_any hm (h.sound _ _ _ _ a _ he (hw.same ⟨rfl, rfl, rfl, Nat.le_refl _⟩ rfl))⟩

/-! ### slots that say the same -/
theorem ev_congr {ρ ρ' : Slots} (h : ∀ t, ρ.lookup t = ρ'.lookup t) (x : Operand) : ev ρ x = ev ρ' x := by cases x <;> simp [ev, h]
theorem lookup_bindD {ρ ρ' : Slots} (h : ∀ t, ρ.lookup t = ρ'.lookup t) (dst : Option Nat) (v : Value) (t : Nat) : (bindD dst v ρ).lookup t = (bindD dst v ρ').lookup t := by
  cases dst with
  | none => exact h t
  | some d => simp only [bindD, List.lookup_cons, h]
theorem TQ.congr {ρ ρ' : Slots} (h : ∀ t, ρ.lookup t = ρ'.lookup t) {e : Exit} (k : TQ G n ρ L e Q) : TQ G n ρ' L e Q := ⟨fun a w he hw => k.out a w (he.weak fun t v hv => by rw [← h]; exact hv) hw⟩
theorem TA.congr {K : Blocks} {W : List Nat} : ∀ (fuel : Nat) (listed : Array Bool) (ρ ρ' : Slots) (L : Blocks), (∀ t, ρ.lookup t = ρ'.lookup t) → TA P G ops n K W Q fuel listed ρ L → TA P G ops n K W Q fuel listed ρ' L
  | 0, _, _, _, _, h, k => ⟨k.1, k.2.congr h⟩
  | fuel + 1, listed, ρ, ρ', L, h, k => by
    refine ⟨fun h0 => (k.1 h0).congr h, fun i hi => ?_⟩
    obtain ⟨o, ho, hd, b, hb, hs⟩ := k.2 i hi
    refine ⟨o, ho, hd, b, ?_, ?_⟩
    · unfold Wants at hb ⊢
      split at hb
      · exact hb
      · obtain ⟨dj, x, h1, h2, h3⟩ := hb
        exact ⟨dj, x, h1, by rw [← h]; exact h2, h3⟩
    · rcases hs with ⟨rfl, Φ, hO, hn⟩ | ⟨rfl, h1, hn⟩
      · refine Or.inl ⟨rfl, Φ, ⟨fun r hr => hO.out r fun x v hv => hr x v (by rw [← ev_congr h]; exact hv)⟩, fun v L' hv => ⟨(hn v L' hv).1, TA.congr fuel _ _ _ _ (lookup_bindD h _ v) (hn v L' hv).2⟩⟩
      · exact Or.inr ⟨rfl, h1, TA.congr fuel _ _ _ _ (lookup_bindD h _ undef) hn⟩

/-! ### what waits for what -/
def depT (ops : Array Oper) : Nat → Nat → Nat → Bool
  | 0, _, _ => false
  | f + 1, j, i => match ops[j]? with
    | none => false
    | some o => o.after.any fun e => Region.binds .any e && (e.on == i || depT ops f e.on i)
def Closed (ops : Array Oper) (listed : Array Bool) : Prop := ∀ j o, ops[j]? = some o → listed.getD j false = true → ∀ e ∈ o.after, Region.binds .any e = true → listed.getD e.on false = true
theorem dep_listed {listed : Array Bool} (hc : Closed ops listed) (i : Nat) : ∀ (f j : Nat) (o : Oper), ops[j]? = some o → (∀ e ∈ o.after, Region.binds .any e = true → listed.getD e.on false = true) → depT ops f j i = true → listed.getD i false = true
  | 0, _, _, _, _, h => by simp [depT] at h
  | f + 1, j, o, ho, he, h => by
    simp only [depT, ho] at h
    obtain ⟨e, hm, hb⟩ := Array.any_eq_true'.1 h
    simp only [Bool.and_eq_true, Bool.or_eq_true, beq_iff_eq] at hb
    have hl := he e hm hb.1
    rcases hb.2 with rfl | hd
    · exact hl
    · cases hk : ops[e.on]? with
      | none => cases f <;> simp [depT, hk] at hd
      | some ok => exact dep_listed hc i f e.on ok hk (fun e' hm' hb' => hc e.on ok hk hl e' hm' hb') hd

/-- An operation that only reads K (or whose guard says no). -/
def Quiet (P : Program) (G : World) (ops : Array Oper) (K : Blocks) (ρ : Slots) (o : Oper) (v : Value) : Prop :=
  (Wants ops ρ o true ∧ ∀ L', (∀ p ∈ K, p ∈ L') → OpV P G ρ L' o.op o.type v L') ∨ (Wants ops ρ o false ∧ v = undef)

theorem Wants.apart {o : Oper} {b : Bool} {d : Nat} {u : Value} (h : Wants ops ρ o b) (hn : d ∉ o.looksAt ops) : Wants ops ((d, u) :: ρ) o b := by
  unfold Wants at h ⊢
  split at h
  · exact h
  · rename_i j want hg
    obtain ⟨dj, x, h1, h2, h3⟩ := h
    refine ⟨dj, x, h1, ?_, h3⟩
    have hne : dj ≠ d := fun e => hn (by subst e; unfold Oper.looksAt; rw [hg]; exact List.mem_append_right _ (by unfold guardSlot at h1; simp [h1]))
    rw [List.lookup_cons, show (dj == d) = false by simpa using hne]
    exact h2
theorem Wants.unput {o : Oper} {b : Bool} {d : Nat} {u : Value} (h : Wants ops ((d, u) :: ρ) o b) (hn : d ∉ o.looksAt ops) : Wants ops ρ o b := by
  unfold Wants at h ⊢
  split at h
  · exact h
  · rename_i j want hg
    obtain ⟨dj, x, h1, h2, h3⟩ := h
    refine ⟨dj, x, h1, ?_, h3⟩
    have hne : dj ≠ d := fun e => hn (by subst e; unfold Oper.looksAt; rw [hg]; exact List.mem_append_right _ (by unfold guardSlot at h1; simp [h1]))
    rw [List.lookup_cons, show (dj == d) = false by simpa using hne] at h2
    exact h2
def setR (r : Operand → Value) (d : Nat) (u : Value) : Operand → Value
  | .tmp t => if t = d then u else r (.tmp t)
  | x => r x
theorem setR_ne {r : Operand → Value} {d : Nat} {u : Value} {x : Operand} (h : x ≠ .tmp d) : setR r d u x = r x := by
  cases x with
  | tmp t =>
    have : t ≠ d := fun e => h (by rw [e])
    simp [setR, this]
  | _ => rfl
theorem no_look {o : Oper} {d : Nat} (hn : d ∉ o.looksAt ops) : ∀ x ∈ o.op.operands, x ≠ .tmp d := fun x hx e => hn (by subst e; exact List.mem_append_left _ (List.mem_filterMap.2 ⟨.tmp d, by simpa using hx, rfl⟩))
/-- An operation that does not look at a slot. -/
theorem OpT.apart {o : Oper} {Φ : Value → Blocks → Prop} {d : Nat} {u : Value} (hs : ∀ cs b, o.op ≠ .select cs b) (h : OpT P G ρ L o.op o.type Φ) (hn : d ∉ o.looksAt ops) : OpT P G ((d, u) :: ρ) L o.op o.type Φ := by
  refine ⟨fun r hr w hw o' ho ht => ?_⟩
  have h1 := h.out (setR r d ((ρ.lookup d).getD (r (.tmp d)))) (fun x v hv => by
    cases x with
    | tmp t =>
      have hv' : ρ.lookup t = some v := hv
      by_cases e : t = d
      · subst e; simp [setR, hv']
      · simp only [setR, e, if_false]
        refine hr (.tmp t) v ?_
        show List.lookup t ((d, u) :: ρ) = some v
        rw [List.lookup_cons, show (t == d) = false by simpa using e]
        exact hv'
    | const c => exact hr _ v hv
    | global g => exact hr _ v hv
    | func f => exact hr _ v hv) w hw o' ho ht
  rw [execOp_congr (ρ := r) (ρ' := setR r d ((ρ.lookup d).getD (r (.tmp d)))) o' (by rw [ho]; exact hs) (fun x hx => by rw [ho] at hx; rw [setR_ne (no_look hn x hx)])]
  exact h1
theorem OpT.unput {o : Oper} {Φ : Value → Blocks → Prop} {d : Nat} {u : Value} (hs : ∀ cs b, o.op ≠ .select cs b) (h : OpT P G ((d, u) :: ρ) L o.op o.type Φ) (hn : d ∉ o.looksAt ops) : OpT P G ρ L o.op o.type Φ := by
  refine ⟨fun r hr w hw o' ho ht => ?_⟩
  have h1 := h.out (setR r d u) (fun x v hv => by
    cases x with
    | tmp t =>
      have hv' : List.lookup t ((d, u) :: ρ) = some v := hv
      rw [List.lookup_cons] at hv'
      by_cases e : t = d
      · subst e
        simp at hv'
        simp [setR, hv']
      · rw [show (t == d) = false by simpa using e] at hv'
        simp only [setR, e, if_false]
        exact hr (.tmp t) v hv'
    | const c => exact hr _ v hv
    | global g => exact hr _ v hv
    | func f => exact hr _ v hv) w hw o' ho ht
  rw [execOp_congr (ρ := r) (ρ' := setR r d u) o' (by rw [ho]; exact hs) (fun x hx => by rw [ho] at hx; rw [setR_ne (no_look hn x hx)])]
  exact h1
theorem Quiet.apart {K : Blocks} {o : Oper} {v : Value} {dst : Option Nat} {u : Value} (hs : ∀ cs b, o.op ≠ .select cs b) (h : Quiet P G ops K ρ o v) (hn : ∀ d, dst = some d → d ∉ o.looksAt ops) : Quiet P G ops K (bindD dst u ρ) o v := by
  cases dst with
  | none => exact h
  | some d =>
    rcases h with ⟨h1, h2⟩ | ⟨h1, h2⟩
    · exact Or.inl ⟨h1.apart (hn d rfl), fun L' hK => (h2 L' hK).apart hs (hn d rfl)⟩
    · exact Or.inr ⟨h1.apart (hn d rfl), h2⟩
theorem closed_set {listed : Array Bool} {j : Nat} {oj : Oper} (hc : Closed ops listed) (hoj : ops[j]? = some oj) (hall : ∀ e ∈ oj.after, Region.binds .any e = true → listed.getD e.on false = true) : Closed ops (listed.setIfInBounds j true) := by
  have up : ∀ k, listed.getD k false = true → (listed.setIfInBounds j true).getD k false = true := fun k hk => by
    by_cases e : j = k
    · subst e
      by_cases hl : j < listed.size
      · simp [Array.getD_eq_getD_getElem?, hl]
      · simp [Array.getD_eq_getD_getElem?, Array.getElem?_eq_none (Nat.le_of_not_lt hl)] at hk
    · rw [Array.getD_eq_getD_getElem?, Array.getElem?_setIfInBounds_ne e, ← Array.getD_eq_getD_getElem?]
      exact hk
  intro k o hk hl e he hb
  by_cases ek : j = k
  · subst ek
    rw [hoj] at hk
    cases hk
    exact up _ (hall e he hb)
  · rw [Array.getD_eq_getD_getElem?, Array.getElem?_setIfInBounds_ne ek, ← Array.getD_eq_getD_getElem?] at hl
    exact up _ (hc k o hk hl e he hb)

/-- **An operation that only reads K may be taken first.** -/
theorem TA_first {K : Blocks} {W : List Nat} {i : Nat} {oi : Oper} {v : Value} (hi : ops[i]? = some oi) (hd : ∀ d, oi.dst = some d → d < n) (hsel : ∀ (j : Nat) (o : Oper) cs b, ops[j]? = some o → o.op ≠ .select cs b)
    (hW : ∀ j ∈ W, j ≠ i → depT ops ops.size j i = true) :
    ∀ (fuel : Nat) (listed : Array Bool) (ρ : Slots) (L : Blocks), Closed ops listed →
      (∀ j oj, ops[j]? = some oj → j ≠ i → listed.getD j true = false → (∀ e ∈ oj.after, Region.binds .any e = true → e.on ≠ i) → oi.apart ops oj = true) →
      i ∈ Region.ready .any ops listed → Quiet P G ops K ρ oi v → (∀ p ∈ K, p ∈ L) →
      TA P G ops n K W Q fuel (listed.setIfInBounds i true) (bindD oi.dst v ρ) L → TA P G ops n K W Q (fuel + 1) listed ρ L := by
  have own : ∀ (fuel : Nat) (listed : Array Bool) (ρ : Slots) (L : Blocks), Quiet P G ops K ρ oi v → (∀ p ∈ K, p ∈ L) → TA P G ops n K W Q fuel (listed.setIfInBounds i true) (bindD oi.dst v ρ) L →
      StepD P G ops n ρ L i (fun L' => i ∈ W ∨ ∀ p ∈ K, p ∈ L') (TA P G ops n K W Q fuel (listed.setIfInBounds i true)) := by
    intro fuel listed ρ L hq hK H
    rcases hq with ⟨h1, h2⟩ | ⟨h1, rfl⟩
    · refine ⟨oi, hi, hd, true, h1, Or.inl ⟨rfl, _, h2 L hK, ?_⟩⟩
      rintro _ _ ⟨rfl, rfl⟩
      exact ⟨Or.inr hK, H⟩
    · exact ⟨oi, hi, hd, false, h1, Or.inr ⟨rfl, Or.inr hK, H⟩⟩
  intro fuel
  induction fuel with
  | zero =>
    intro listed ρ L _ _ hr hq hK H
    refine ⟨fun h => (by rw [h] at hr; cases hr), fun j hj => ?_⟩
    by_cases hji : j = i
    · subst hji; exact own 0 listed ρ L hq hK H
    · have := ready_mono hj hji
      rw [H.1] at this
      cases this
  | succ fuel ih =>
    intro listed ρ L hc hfree hr hq hK H
    refine ⟨fun h => (by rw [h] at hr; cases hr), fun j hj => ?_⟩
    by_cases hji : j = i
    · subst hji; exact own _ listed ρ L hq hK H
    · obtain ⟨oj', hoj', hdj, b, hb, hs⟩ := H.2 j (ready_mono hj hji)
      obtain ⟨hjun, oj, hoj, hall0⟩ := mem_ready.1 hj
      have heq := Option.some.inj (hoj.symm.trans hoj')
      subst heq
      have hall : ∀ e ∈ oj.after, Region.binds .any e = true → listed.getD e.on false = true := fun e he hb => hall0 e he hb
      have hiun : listed.getD i false = false := by
        have h0 := (mem_ready.1 hr).1
        rcases Nat.lt_or_ge i listed.size with h' | h'
        · simp [h'] at h0 ⊢; exact h0
        · simp [Array.getElem?_eq_none h']
      have hnot : ∀ e ∈ oj.after, Region.binds .any e = true → e.on ≠ i := fun e he hb heq => by
        have h1 := hall e he hb
        rw [heq, hiun] at h1
        cases h1
      have hjW : j ∉ W := fun hjW => by
        have := dep_listed hc i ops.size j oj hoj hall (hW j hjW hji)
        rw [hiun] at this
        cases this
      have hap := hfree j oj hoj hji hjun hnot
      obtain ⟨a1, a2, a3⟩ := Oper.apart_spec hap
      have hfree' : ∀ k ok, ops[k]? = some ok → k ≠ i → (listed.setIfInBounds j true).getD k true = false →
          (∀ e ∈ ok.after, Region.binds .any e = true → e.on ≠ i) → oi.apart ops ok = true := fun k ok hk hki hun hno => by
        refine hfree k ok hk hki ?_ hno
        by_cases hjk : j = k
        · subst hjk; exact hjun
        · rw [getD_set_ne true hjk] at hun; exact hun
      have hc' := closed_set hc hoj hall
      have swap : ∀ (u : Value) (t : Nat), (bindD oj.dst u (bindD oi.dst v ρ)).lookup t = (bindD oi.dst v (bindD oj.dst u ρ)).lookup t := by
        intro u t
        cases h1 : oi.dst with
        | none => rfl
        | some d1 =>
          cases h2 : oj.dst with
          | none => rfl
          | some d2 =>
            have hne : d1 ≠ d2 := fun e => a2 d1 h1 (by rw [h2, e])
            simp only [bindD, List.lookup_cons]
            by_cases e1 : t = d1
            · subst e1
              rw [show (t == d2) = false by simpa using hne]
            · rw [show (t == d1) = false by simpa using e1]
      have hwant : Wants ops ρ oj b := by
        cases h1 : oi.dst with
        | none => rw [h1] at hb; exact hb
        | some d1 => rw [h1] at hb; exact Wants.unput hb (a1 d1 h1)
      refine ⟨oj, hoj, hdj, b, hwant, ?_⟩
      rcases hs with ⟨rfl, Φ, hO, hn⟩ | ⟨rfl, hkp, hn⟩
      · refine Or.inl ⟨rfl, Φ, ?_, fun u L' hu => ?_⟩
        · cases h1 : oi.dst with
          | none => rw [h1] at hO; exact hO
          | some d1 => rw [h1] at hO; exact OpT.unput (fun cs b => hsel j oj cs b hoj) hO (a1 d1 h1)
        · obtain ⟨k1, k2⟩ := hn u L' hu
          have hK' : ∀ p ∈ K, p ∈ L' := k1.resolve_left hjW
          refine ⟨Or.inr hK', ih (listed.setIfInBounds j true) _ L' hc' hfree' (ready_mono hr (Ne.symm hji)) (hq.apart (fun cs b => hsel i oi cs b hi) a3) hK' ?_⟩
          rw [Array.setIfInBounds_comm _ _ (Ne.symm hji)] at k2
          exact k2.congr _ _ _ _ _ (swap u)
      · refine Or.inr ⟨rfl, Or.inr hK, ih (listed.setIfInBounds j true) _ L hc' hfree' (ready_mono hr (Ne.symm hji)) (hq.apart (fun cs b => hsel i oi cs b hi) a3) hK ?_⟩
        rw [Array.setIfInBounds_comm _ _ (Ne.symm hji)] at hn
        exact hn.congr _ _ _ _ _ (swap undef)

/-! ### the moves -/
/-- All that the rule of the region's form asks, at once. -/
def takes (ops : Array Oper) (W : List Nat) (n : Nat) (listed : Array Bool) (i d : Nat) : Bool :=
  Region.noSelect ops && Region.free .any ops listed i && (Region.ready .any ops listed).contains i && (W.all fun j => j == i || depT ops ops.size j i) && Nat.blt d n &&
  ((List.range ops.size).all fun j => match ops[j]? with
    | some o => !listed.getD j false || o.after.all fun e => !Region.binds .any e || listed.getD e.on false
    | none => true)
theorem takes_closed {listed : Array Bool} (h : ((List.range ops.size).all fun j => match ops[j]? with
    | some o => !listed.getD j false || o.after.all fun e => !Region.binds .any e || listed.getD e.on false
    | none => true) = true) : Closed ops listed := by
  intro j o ho hl e he hb
  have h1 := List.all_eq_true.1 h j (List.mem_range.2 (Array.getElem?_eq_some_iff.1 ho).1)
  simp only [ho, hl, Bool.not_true, Bool.false_or] at h1
  have h2 := Array.all_eq_true'.1 h1 e he
  simpa [hb] using h2
theorem TA_take {K : Blocks} {W : List Nat} {fuel : Nat} {listed : Array Bool} (i : Nat) {d : Nat} {oi : Oper} {v : Value} (hi : ops[i]? = some oi) (hd : oi.dst = some d) (ht : takes ops W n listed i d = true)
    (hq : Quiet P G ops K ρ oi v) (hK : ∀ p ∈ K, p ∈ L) (h : TA P G ops n K W Q fuel (listed.setIfInBounds i true) ((d, v) :: ρ) L) : TA P G ops n K W Q (fuel + 1) listed ρ L := by
  simp only [takes, Bool.and_eq_true] at ht
  obtain ⟨⟨⟨⟨⟨h1, h2⟩, h3⟩, h4⟩, h5⟩, h6⟩ := ht
  refine TA_first hi (fun d' e => by rw [hd] at e; cases e; simpa using h5) (Region.noSelect_spec h1) (fun j hj hne => ?_) fuel listed ρ L (takes_closed h6) (Region.free_spec hi h2) (by simpa using h3) hq hK (by rw [hd]; exact h)
  have := List.all_eq_true.1 h4 j hj
  simpa [hne] using this
/-- Quiet, unguarded. -/
theorem quiet_q {K : Blocks} {d : Option Nat} {op : Op} {v : Value} {pos : String} {after : Array Edge} (h : OpQ P ρ K op ty v) : Quiet P G ops K ρ ⟨d, op, ty, pos, after, none⟩ v :=
  Or.inl ⟨rfl, fun L' hK => .pure fun r hr w hw o ho ht => h.out r hr w ⟨fun p hp => hw.get p (hK p hp)⟩ o ho ht⟩
/-- The one that may come up. -/
theorem TA_one {K : Blocks} {W : List Nat} {fuel : Nat} {listed : Array Bool} (i : Nat) {oi : Oper} {Φ : Value → Blocks → Prop} (hr : Region.ready .any ops listed = [i]) (hi : ops[i]? = some oi) (hd : (oi.dst.all fun d => Nat.blt d n) = true) (hg : oi.guard = none)
    (hO : OpT P G ρ L oi.op oi.type Φ) (h : ∀ v L', Φ v L' → (i ∈ W ∨ ∀ p ∈ K, p ∈ L') ∧ TA P G ops n K W Q fuel (listed.setIfInBounds i true) (bindD oi.dst v ρ) L') : TA P G ops n K W Q (fuel + 1) listed ρ L := by
  refine ⟨fun h0 => (by rw [hr] at h0; cases h0), fun j hj => ?_⟩
  rw [hr] at hj
  obtain rfl : j = i := by simpa using hj
  exact ⟨oi, hi, fun d e => by rw [e] at hd; simpa using hd, true, by unfold Wants; rw [hg], Or.inl ⟨rfl, Φ, hO, h⟩⟩
/-- One of several that may come up. -/
def Up (P : Program) (G : World) (ops : Array Oper) (n : Nat) (K : Blocks) (W : List Nat) (Q : Exit → Act → World → Prop) (fuel : Nat) (listed : Array Bool) (ρ : Slots) (L : Blocks) (i : Nat) : Prop :=
  StepD P G ops n ρ L i (fun L' => i ∈ W ∨ ∀ p ∈ K, p ∈ L') (TA P G ops n K W Q fuel (listed.setIfInBounds i true))
theorem TA_done {K : Blocks} {W : List Nat} {fuel : Nat} {listed : Array Bool} (hr : Region.ready .any ops listed = []) (h : TQ G n ρ L .normal Q) : TA P G ops n K W Q fuel listed ρ L := by
  cases fuel with
  | zero => exact ⟨hr, h⟩
  | succ f => exact ⟨fun _ => h, by rw [hr]; simp⟩
theorem TA_oneD {K : Blocks} {W : List Nat} {fuel : Nat} {listed : Array Bool} (i : Nat) {d : Nat} {oi : Oper} {Φ : Value → Blocks → Prop} (hr : Region.ready .any ops listed = [i]) (hi : ops[i]? = some oi) (hd : oi.dst = some d) (hdn : Nat.blt d n = true) (hg : oi.guard = none)
    (hO : OpT P G ρ L oi.op oi.type Φ) (h : ∀ v L', Φ v L' → (i ∈ W ∨ ∀ p ∈ K, p ∈ L') ∧ TA P G ops n K W Q fuel (listed.setIfInBounds i true) ((d, v) :: ρ) L') : TA P G ops n K W Q (fuel + 1) listed ρ L :=
  TA_one i hr hi (by rw [hd]; exact hdn) hg hO (by rw [hd]; exact h)
theorem TA_heap {K : Blocks} {W : List Nat} {L' : Blocks} : ∀ {fuel : Nat} {listed : Array Bool} {ρ : Slots}, (hl : ∀ w, Heap G w L → Heap G w L') → (hk : (∀ p ∈ K, p ∈ L') → ∀ p ∈ K, p ∈ L) → TA P G ops n K W Q fuel listed ρ L' → TA P G ops n K W Q fuel listed ρ L
  | 0, _, _, hl, _, h => ⟨h.1, TQ_heap hl h.2⟩
  | fuel + 1, listed, ρ, hl, hk, h => by
    refine ⟨fun h0 => TQ_heap hl (h.1 h0), fun i hi => ?_⟩
    obtain ⟨o, ho, hd, b, hb, hs⟩ := h.2 i hi
    refine ⟨o, ho, hd, b, hb, ?_⟩
    rcases hs with ⟨rfl, Φ, hO, hn⟩ | ⟨rfl, h1, hn⟩
    · exact Or.inl ⟨rfl, Φ, ⟨fun r hr w hw => hO.out r hr w (hl w hw)⟩, hn⟩
    · exact Or.inr ⟨rfl, h1.imp id hk, TA_heap hl hk hn⟩
end Go.Proofs.YtlicehodjhoamaaGreatDoor
namespace Go.Proofs.YtlicehodjhoamaaGreatDoor
open Go.RowKit
set_option linter.unusedVariables false
set_option linter.unusedSimpArgs false
variable {G : World} {P : Program} {n : Nat} {ρ : Slots} {L : Blocks} {ty : TypeId} {Q : Exit → Act → World → Prop}

/-- Slots that are among others. -/
def Sub : Slots → Slots → Prop
  | [], _ => True
  | (t, v) :: r, ρ => ρ.lookup t = some v ∧ Sub r ρ
theorem Sub.get : ∀ {a b : Slots}, Sub a b → ∀ t v, a.lookup t = some v → b.lookup t = some v
  | [], _, _, t, v, h => by simp at h
  | (s, u) :: r, b, h, t, v, hv => by
    rw [List.lookup_cons] at hv
    by_cases e : t = s
    · subst e; simp at hv; subst hv; exact h.1
    · rw [show (t == s) = false by simpa using e] at hv
      exact Sub.get h.2 t v hv
theorem T_loopS {σ : Type} {c : Code} (I : σ → Prop) (ρI : σ → Slots) (LI : σ → Blocks) (μ : σ → Nat) (x0 : σ) (h0 : I x0) (hs : Sub (ρI x0) ρ) (hl : ∀ w, Heap G w L → Heap G w (LI x0))
    (round : ∀ x, I x → T P G n (ρI x) (LI x) c (Exit.then (LoopInv G n I ρI LI μ (μ x)) Q)) : T P G n ρ L (.loop c) Q := T_loop I ρI LI μ x0 h0 hs.get hl round
theorem TQ_roundS {σ : Type} {I : σ → Prop} {ρI : σ → Slots} {LI : σ → Blocks} {μ : σ → Nat} {m : Nat} (x : σ) (hI : I x) (hs : Sub (ρI x) ρ) (hl : ∀ w, Heap G w L → Heap G w (LI x)) (hm : μ x < m) :
    TQ G n ρ L .normal (Exit.then (LoopInv G n I ρI LI μ m) Q) := TQ_round x hI hs.get hl hm
theorem T_yes {c : Operand} {x y : Code} {b : Bool} (hc : ev ρ c = some (.bool b)) (hb : b = true) (h : T P G n ρ L x Q) : T P G n ρ L (.cond c x y) Q := T_true (hb ▸ hc) h
theorem T_no {c : Operand} {x y : Code} {b : Bool} (hc : ev ρ c = some (.bool b)) (hb : b = false) (h : T P G n ρ L y Q) : T P G n ρ L (.cond c x y) Q := T_false (hb ▸ hc) h
/-- A guarded operation that is wanted, as if it were unguarded. -/
structure TG (P : Program) (G : World) (ops : Array Oper) (n : Nat) (ρ : Slots) (L : Blocks) (d : Nat) (op : Op) (ty : TypeId) (rest : List Oper) (Q : Exit → Act → World → Prop) : Prop where
  out : ∀ pos after j want dj, guardSlot ops j = some dj → ρ.lookup dj = some (.bool want) → TL P G ops n ρ L (⟨some d, op, ty, pos, after, some (j, want)⟩ :: rest) Q
/-! ### closed facts -/
def plainTy (P : Program) (t : TypeId) : Bool := match P.underlying t with
  | some d => plainDesc d
  | none => false
def oneTy (P : Program) (t : TypeId) : Bool := match P.info? t with
  | some i => Nat.beq i.size 1
  | none => false
def fieldOff (P : Program) (s f : Nat) : Option Nat := match P.underlying s with
  | some (.struct fs) => match fs[f]? with
    | some fi => match P.info? fi.type with
      | some ti => if Nat.beq ti.size 0 then none else some fi.offset
      | none => none
    | none => none
  | _ => none
theorem op_fld {x : Operand} {b off s f fo : Nat} (hx : ev ρ x = some (.pointer (some ⟨b, off, none⟩))) (h : fieldOff P s f = some fo) : OpQ P ρ L (.fieldAddr s x f) ty (.pointer (some ⟨b, off + fo, none⟩)) := by
  unfold fieldOff at h
  cases h1 : P.underlying s with
  | none => simp [h1] at h
  | some d =>
    cases d <;> simp [h1] at h
    rename_i fs
    cases h2 : fs[f]? with
    | none => simp [h2] at h
    | some fi =>
      cases h3 : P.info? fi.type with
      | none => simp [h2, h3] at h
      | some ti =>
        simp [h2, h3] at h
        exact op_fieldAddr hx h1 h2 h3 (by cases hb : Nat.beq ti.size 0; rfl; simp [Nat.eq_of_beq_eq_true hb] at h) h.2
theorem op_ld {x : Operand} {b off : Nat} {t : TypeId} {C : Array Value} {te : TypeId} {fr : Nat × Nat} {v : Value} (hx : ev ρ x = some (.pointer (some ⟨b, off, none⟩)))
    (ht : plainTy P t = true) (hm : (b, Obj.cells C te fr) ∈ L) (hv : C[off]? = some v) : OpQ P ρ L (.load t x) ty v := by
  unfold plainTy at ht
  cases h1 : P.underlying t with
  | none => simp [h1] at ht
  | some d => simp [h1] at ht; exact op_load hx h1 ht hm hv
theorem op_st {x y : Operand} {b off : Nat} {t : TypeId} {C C' : Array Value} {te : TypeId} {v u : Value} (hx : ev ρ x = some (.pointer (some ⟨b, off, none⟩))) (hy : ev ρ y = some v)
    (h1 : oneTy P t = true) (hone : v.oneCell' = true) (hv : C[off]? = some u) (hC : C.setIfInBounds off v = C') : OpV P G ρ ((b, Obj.cells C te (0, 0)) :: L) (.store t x y) ty undef ((b, Obj.cells C' te (0, 0)) :: L) := by
  unfold oneTy at h1
  cases h2 : P.info? t with
  | none => simp [h2] at h1
  | some ti => simp [h2] at h1; exact hC ▸ op_store hx hy h2 h1 hone hv
theorem TL_st {ops : Array Oper} {x y : Operand} {pos : String} {after : Array Edge} {rest : List Oper} {b off : Nat} {t : TypeId} {C C' : Array Value} {te : TypeId} {v u : Value} (hx : ev ρ x = some (.pointer (some ⟨b, off, none⟩))) (hy : ev ρ y = some v)
    (h1 : oneTy P t = true) (hone : v.oneCell' = true) (hv : C[off]? = some u) (hC : C.setIfInBounds off v = C') (h : TL P G ops n ρ ((b, Obj.cells C' te (0, 0)) :: L) rest Q) :
    TL P G ops n ρ ((b, Obj.cells C te (0, 0)) :: L) (⟨none, .store t x y, ty, pos, after, none⟩ :: rest) Q := TL_opN (op_st hx hy h1 hone hv hC) h
theorem op_idx {x y : Operand} {b off m c sz bytes k : Nat} {t e : TypeId} {z : Value} (E : ElemTy P t e sz bytes z) (hx : ev ρ x = some (.slice (some ⟨b, off, none⟩) m c)) (hy : ev ρ y = some (.int .i64 (k : Nat))) (h1 : k < m) :
    OpQ P ρ L (.indexAddr t x y) ty (.pointer (some ⟨b, off + k * sz, none⟩)) := by
  obtain ⟨i, h2, h3, h4, h5⟩ := E.info
  have := op_indexAddr (P := P) (ρ := ρ) (L := L) (ty := ty) hx hy E.und h2 h4 (by omega) (by omega)
  simpa using this
theorem op_idxI {x y : Operand} {b off m c sz bytes : Nat} {i : Int} {t e : TypeId} {z : Value} (E : ElemTy P t e sz bytes z) (hx : ev ρ x = some (.slice (some ⟨b, off, none⟩) m c)) (hy : ev ρ y = some (.int .i64 i)) (h0 : 0 ≤ i) (h1 : i < m) :
    OpQ P ρ L (.indexAddr t x y) ty (.pointer (some ⟨b, off + i.toNat * sz, none⟩)) := by
  obtain ⟨ti, h2, h3, h4, h5⟩ := E.info
  exact op_indexAddr hx hy E.und h2 h4 h0 h1
theorem op_make {t e : TypeId} {x y : Operand} {sz bytes : Nat} {z : Value} {k k' : IntKind} {l c : Int} {C : Array Value} (E : ElemTy P t e sz bytes z) (hx : ev ρ x = some (.int k l)) (hy : ev ρ y = some (.int k' c)) (h0 : 0 ≤ l) (h1 : l ≤ c) (h2 : bytes * c ≤ 281474976710656) (h3 : c ≤ 9223372036854775807)
    (hC : madeCells z.cells (c.toNat * sz) = C) : OpNew P G ρ L (.makeSlice t x y) ty (fun b => .slice (some ⟨b, 0, none⟩) l.toNat c.toNat) (.cells C e (0, 0)) := by
  obtain ⟨i, q2, q3, q4, q5⟩ := E.info
  refine .run fun r hr w o ho _ => ?_
  have := run_make (P := P) w t e i z E.und q2 q3 k k' l c h0 h1 (by rw [q5]; exact h2) h3
  rw [q4, hC] at this
  simp [execOp, ho, hr _ _ hx, hr _ _ hy, this]
/-- What one cell of a new block holds, as what is appended. -/
theorem Src.one {b : Nat} {v : Value} {te : TypeId} (hm : (b, Obj.cells #[v] te (0, 0)) ∈ L) (hone : v.oneCell' = true) : Src L (.slice (some ⟨b, 0, none⟩) 1 1) 1 [v] 1 :=
  ⟨rfl, fun x hx => by simp at hx; subst hx; exact hone, Or.inr ⟨b, 0, 1, #[v], te, (0, 0), rfl, hm, fun j x hj => by
    cases j with
    | zero => simpa using hj
    | succ j => simp at hj⟩⟩
theorem Outcome.mono {K K' : Value → World → Prop} (h : ∀ v w, K v w → K' v w) {r : Result Next} (hr : Outcome P K r) : Outcome P K' r := by
  match r, hr with
  | .ok (.value v) w, hr => exact h _ _ hr
  | .ok .skip w, hr => exact h _ _ hr
  | .ok (.enter f args) w, hr => exact Calls.mono hr fun e w' ⟨v, h1, h2⟩ => ⟨v, h1, h _ _ h2⟩
theorem OpT.heap {op : Op} {Φ : Value → Blocks → Prop} {L' : Blocks} (hl : ∀ w, Heap G w L → Heap G w L') (h : OpT P G ρ L' op ty Φ) : OpT P G ρ L op ty Φ := ⟨fun r hr w hw => h.out r hr w (hl w hw)⟩
theorem OpT.post {op : Op} {Φ Ψ : Value → Blocks → Prop} (h : OpT P G ρ L op ty Φ) (hp : ∀ v M, Φ v M → ∃ M', Ψ v M' ∧ ∀ w, Heap G w M → Heap G w M') : OpT P G ρ L op ty Ψ :=
  ⟨fun r hr w hw o ho ht => Outcome.mono (fun v w' ⟨M, h1, h2⟩ => let ⟨M', h3, h4⟩ := hp v M h1; ⟨M', h3, h4 w' h2⟩) (h.out r hr w hw o ho ht)⟩
theorem TA_perm {ops : Array Oper} {K : Blocks} {W : List Nat} {L' : Blocks} {fuel : Nat} {listed : Array Bool} (he : L.Perm L') (h : TA P G ops n K W Q fuel listed ρ L') : TA P G ops n K W Q fuel listed ρ L := TA_heap (fun w hw => hw.perm he) (fun hk p hp => he.mem_iff.2 (hk p hp)) h
theorem TQ_ret0 {fn : Func} {Φ : Value → Blocks → Prop} (hr : fn.results = #[]) (h : Φ (.tuple #[]) L) : TQ G n ρ L .ret (bodyPost P fn (RetPost G Φ)) :=
  ⟨fun a w he hw => ⟨he.defers, .tuple #[], by simp only [results, hr]; simp, _, L, rfl, h, hw⟩⟩
theorem TQ_fall {fn : Func} {Φ : Value → Blocks → Prop} (h : TQ G n ρ L .ret (bodyPost P fn (RetPost G Φ))) : TQ G n ρ L .normal (bodyPost P fn (RetPost G Φ)) := ⟨fun a w he hw => h.out a w he hw⟩
end Go.Proofs.YtlicehodjhoamaaGreatDoor
namespace Go.Proofs.YtlicehodjhoamaaGreatDoor.Ev
open Go
set_option linter.unusedVariables false
set_option linter.unusedSimpArgs false
inductive Tr (α : Type) where
  | leaf
  | node (v : Option α) (l r : Tr α)
theorem bqT {a b : Nat} (h : a = b) : Nat.beq a b = true := by subst h; exact Nat.beq_refl a
theorem bqF {a b : Nat} (h : a ≠ b) : Nat.beq a b = false := by
  cases e : Nat.beq a b with
  | false => rfl
  | true => exact absurd (Nat.eq_of_beq_eq_true e) h
section
variable {α β : Type}
noncomputable def Tr.get (t : Tr α) : Nat → Option α := Tr.rec (motive := fun _ => Nat → Option α) (fun _ => none) (fun v l r gl gr n => Bool.rec (Bool.rec (gr (Nat.div (Nat.pred n) 2)) (gl (Nat.div n 2)) (Nat.beq (Nat.mod n 2) 1)) v (Nat.beq n 0)) t
noncomputable def Tr.setOK (f : Nat) : Tr α → Nat → Option α → (Tr α → β) → β := Nat.rec (motive := fun _ => Tr α → Nat → Option α → (Tr α → β) → β) (fun t _ _ k => k t)
  (fun _ ih t n x k => Tr.rec (motive := fun _ => β)
    (Bool.rec (Bool.rec (ih .leaf (Nat.div (Nat.pred n) 2) x (fun r => k (.node none .leaf r))) (ih .leaf (Nat.div n 2) x (fun l => k (.node none l .leaf))) (Nat.beq (Nat.mod n 2) 1)) (k (.node x .leaf .leaf)) (Nat.beq n 0))
    (fun v l r _ _ => Bool.rec (Bool.rec (ih r (Nat.div (Nat.pred n) 2) x (fun r => k (.node v l r))) (ih l (Nat.div n 2) x (fun l => k (.node v l r))) (Nat.beq (Nat.mod n 2) 1)) (k (.node x l r)) (Nat.beq n 0)) t) f
def Tr.parts : Tr α → Option α × Tr α × Tr α
  | .leaf => (none, .leaf, .leaf)
  | .node v l r => (v, l, r)
/-- In plain words. -/
def Tr.setO : Nat → Tr α → Nat → Option α → Tr α
  | 0, t, _, _ => t
  | f + 1, t, n, x =>
    if n = 0 then .node x t.parts.2.1 t.parts.2.2 else if n % 2 = 1 then .node t.parts.1 (Tr.setO f t.parts.2.1 (n / 2) x) t.parts.2.2 else .node t.parts.1 t.parts.2.1 (Tr.setO f t.parts.2.2 ((n - 1) / 2) x)
def Tr.set (f : Nat) (t : Tr α) (n : Nat) (x : α) : Tr α := Tr.setO f t n (some x)
/-- One away. -/
def Tr.del (f : Nat) (t : Tr α) (n : Nat) : Tr α := Tr.setO f t n none
theorem Tr.get_leaf (n : Nat) : (Tr.leaf : Tr α).get n = none := rfl
theorem Tr.get_node (v : Option α) (l r : Tr α) (n : Nat) : (Tr.node v l r).get n = if n = 0 then v else if n % 2 = 1 then l.get (n / 2) else r.get ((n - 1) / 2) := by
  have h0 : (Tr.node v l r).get n = Bool.rec (Bool.rec (r.get (Nat.div (Nat.pred n) 2)) (l.get (Nat.div n 2)) (Nat.beq (Nat.mod n 2) 1)) v (Nat.beq n 0) := rfl
  rw [h0]
  by_cases e : n = 0
  · rw [if_pos e, bqT e]
  · have e' : Nat.beq n 0 = false := bqF e
    rw [if_neg e, e']
    by_cases e2 : n % 2 = 1
    · rw [if_pos e2, show Nat.beq (Nat.mod n 2) 1 = true from bqT e2]
      rfl
    · rw [if_neg e2, show Nat.beq (Nat.mod n 2) 1 = false from bqF e2]
      rfl
theorem Tr.setOK_eq : ∀ (f : Nat) (t : Tr α) (n : Nat) (x : Option α) (k : Tr α → β), Tr.setOK f t n x k = k (Tr.setO f t n x)
  | 0, t, n, x, k => rfl
  | f + 1, t, n, x, k => by
    have ih := Tr.setOK_eq f
    have h0 : Tr.setOK (f + 1) t n x k = Tr.rec (motive := fun _ => β)
      (Bool.rec (Bool.rec (Tr.setOK f .leaf (Nat.div (Nat.pred n) 2) x (fun r => k (.node none .leaf r))) (Tr.setOK f .leaf (Nat.div n 2) x (fun l => k (.node none l .leaf))) (Nat.beq (Nat.mod n 2) 1)) (k (.node x .leaf .leaf)) (Nat.beq n 0))
      (fun v l r _ _ => Bool.rec (Bool.rec (Tr.setOK f r (Nat.div (Nat.pred n) 2) x (fun r => k (.node v l r))) (Tr.setOK f l (Nat.div n 2) x (fun l => k (.node v l r))) (Nat.beq (Nat.mod n 2) 1)) (k (.node x l r)) (Nat.beq n 0)) t := rfl
    rw [h0]
    unfold Tr.setO
    by_cases e : n = 0
    · rw [if_pos e, show Nat.beq n 0 = true from bqT e]
      cases t <;> rfl
    · rw [if_neg e, show Nat.beq n 0 = false from bqF e]
      by_cases e2 : n % 2 = 1
      · rw [if_pos e2, show Nat.beq (Nat.mod n 2) 1 = true from bqT e2]
        cases t with
        | leaf => exact ih _ _ _ _
        | node v l r => exact ih _ _ _ _
      · rw [if_neg e2, show Nat.beq (Nat.mod n 2) 1 = false from bqF e2]
        cases t with
        | leaf => exact ih _ _ _ _
        | node v l r => exact ih _ _ _ _
noncomputable def Tr.setK (f : Nat) (t : Tr α) (n : Nat) (x : α) (k : Tr α → β) : β := Tr.setOK f t n (some x) k
theorem Tr.setK_eq (f : Nat) (t : Tr α) (n : Nat) (x : α) (k : Tr α → β) : Tr.setK f t n x k = k (Tr.set f t n x) := Tr.setOK_eq f t n (some x) k
theorem Tr.get_setO : ∀ (f : Nat) (t : Tr α) (n : Nat) (x : Option α), n + 1 < 2 ^ f → ∀ m, (Tr.setO f t n x).get m = if m = n then x else t.get m
  | 0, t, n, x, h, m => by simp at h
  | f + 1, t, n, x, h, m => by
    have ih := Tr.get_setO f
    have hp : 2 ^ (f + 1) = 2 * 2 ^ f := by rw [Nat.pow_succ]; omega
    unfold Tr.setO
    have hg : t.get m = if m = 0 then t.parts.1 else if m % 2 = 1 then t.parts.2.1.get (m / 2) else t.parts.2.2.get ((m - 1) / 2) := by
      cases t with
      | leaf => simp [Tr.get_leaf, Tr.parts]
      | node v l r => exact Tr.get_node v l r m
    rw [hg]
    generalize t.parts.1 = v
    generalize t.parts.2.1 = l
    generalize t.parts.2.2 = r
    by_cases e : n = 0
    · rw [if_pos e, Tr.get_node]
      subst e
      by_cases em : m = 0
      · rw [if_pos em, if_pos em]
      · rw [if_neg em, if_neg em, if_neg em]
    · rw [if_neg e]
      by_cases e2 : n % 2 = 1
      · rw [if_pos e2, Tr.get_node, ih l (n / 2) x (by omega)]
        by_cases em : m = 0
        · rw [if_pos em, if_pos em, if_neg (by omega)]
        · rw [if_neg em, if_neg em]
          by_cases em2 : m % 2 = 1
          · rw [if_pos em2, if_pos em2]
            by_cases eq : m = n
            · rw [if_pos eq, if_pos (by omega)]
            · rw [if_neg eq, if_neg (by omega)]
          · rw [if_neg em2, if_neg em2, if_neg (by omega)]
      · rw [if_neg e2, Tr.get_node, ih r ((n - 1) / 2) x (by omega)]
        by_cases em : m = 0
        · rw [if_pos em, if_pos em, if_neg (by omega)]
        · rw [if_neg em, if_neg em]
          by_cases em2 : m % 2 = 1
          · rw [if_pos em2, if_pos em2, if_neg (by omega)]
          · rw [if_neg em2, if_neg em2]
            by_cases eq : m = n
            · rw [if_pos eq, if_pos (by omega)]
            · rw [if_neg eq, if_neg (by omega)]
theorem Tr.get_set (f : Nat) (t : Tr α) (n : Nat) (x : α) (h : n + 1 < 2 ^ f) (m : Nat) : (Tr.set f t n x).get m = if m = n then some x else t.get m := Tr.get_setO f t n (some x) h m
theorem Tr.get_del (f : Nat) (t : Tr α) (n : Nat) (h : n + 1 < 2 ^ f) (m : Nat) : (Tr.del f t n).get m = if m = n then none else t.get m := Tr.get_setO f t n none h m
end
/-! ### frames: what is laid lately is a list, the rest a tree -/
inductive Fr (α : Type) where
  | base (thr : Nat) (t : Tr α)
  | put (d : Nat) (v : α) (r : Fr α)
section
variable {α β : Type}
noncomputable def Fr.get (s : Fr α) : Nat → Option α := Fr.rec (motive := fun _ => Nat → Option α) (fun thr t d => Bool.rec none (t.get d) (Nat.ble (Nat.succ d) thr)) (fun d' v _ ih d => Bool.rec (ih d) (some v) (Nat.beq d' d)) s
theorem Fr.get_base (thr : Nat) (t : Tr α) (d : Nat) : (Fr.base thr t).get d = if d < thr then t.get d else none := by
  have h0 : (Fr.base thr t).get d = Bool.rec none (t.get d) (Nat.ble (Nat.succ d) thr) := rfl
  rw [h0]
  by_cases e : d < thr
  · rw [if_pos e, Nat.ble_eq_true_of_le e]
  · rw [if_neg e]
    cases h : Nat.ble (Nat.succ d) thr with
    | false => rfl
    | true => exact absurd (Nat.le_of_ble_eq_true h) e
theorem Fr.get_put (d' : Nat) (v : α) (r : Fr α) (d : Nat) : (Fr.put d' v r).get d = if d' = d then some v else r.get d := by
  have h0 : (Fr.put d' v r).get d = Bool.rec (r.get d) (some v) (Nat.beq d' d) := rfl
  rw [h0]
  by_cases e : d' = d
  · rw [if_pos e, bqT e]
  · rw [if_neg e, bqF e]
def Fr.thr : Fr α → Nat
  | .base thr _ => thr
  | .put _ _ r => r.thr
def Fr.tree : Fr α → Tr α
  | .base _ t => t
  | .put d v r => if d < r.thr then Tr.set 20 r.tree d v else r.tree
/-- What is laid goes into the tree. -/
noncomputable def Fr.flushK (s : Fr α) : (Nat → Tr α → β) → β := Fr.rec (motive := fun _ => (Nat → Tr α → β) → β) (fun thr t k => k thr t) (fun d v _ ih k => ih fun thr t => Bool.rec (k thr t) (Tr.setK 20 t d v fun t => k thr t) (Nat.ble (Nat.succ d) thr)) s
theorem Fr.flushK_eq (s : Fr α) (k : Nat → Tr α → β) : s.flushK k = k s.thr s.tree := by
  induction s generalizing k with
  | base thr t => rfl
  | put d v r ih =>
    have h0 : (Fr.put d v r).flushK k = r.flushK fun thr t => Bool.rec (k thr t) (Tr.setK 20 t d v fun t => k thr t) (Nat.ble (Nat.succ d) thr) := rfl
    rw [h0, ih]
    show _ = k r.thr (if d < r.thr then Tr.set 20 r.tree d v else r.tree)
    by_cases e : d < r.thr
    · rw [if_pos e, Nat.ble_eq_true_of_le e]
      exact Tr.setK_eq ..
    · rw [if_neg e]
      cases h : Nat.ble (Nat.succ d) r.thr with
      | false => rfl
      | true => exact absurd (Nat.le_of_ble_eq_true h) e
theorem Fr.tree_get (s : Fr α) (ht : s.thr ≤ 1000000) : ∀ d v, d < s.thr → s.tree.get d = some v → s.get d = some v := by
  induction s with
  | base thr t =>
    intro d v hd h
    have hd' : d < thr := hd
    rw [Fr.get_base, if_pos hd']
    exact h
  | put d' v' r ih =>
    intro d v hd h
    rw [Fr.get_put]
    have ht' : r.thr ≤ 1000000 := ht
    unfold Fr.tree at h
    by_cases e : d' < r.thr
    · rw [if_pos e, Tr.get_set 20 _ _ _ (by omega)] at h
      by_cases c : d = d'
      · subst c; rw [if_pos rfl] at h ⊢; exact h
      · rw [if_neg c] at h
        rw [if_neg (Ne.symm c)]
        exact ih ht d v hd h
    · rw [if_neg e] at h
      have hd' : d < r.thr := hd
      rw [if_neg (by omega)]
      exact ih ht d v hd h
end
end Go.Proofs.YtlicehodjhoamaaGreatDoor.Ev
namespace Go.Proofs.YtlicehodjhoamaaGreatDoor.Ev
open Go
set_option linter.unusedVariables false
set_option linter.unusedSimpArgs false
/-- A slice's capacity: a number, or what a row has, less so many. -/
inductive Cp where
  | num (c : Nat)
  | rest (k : Nat)
inductive AV where
  | bool (b : Bool)
  | int (k : IntKind) (n : Int)
  | str (s : List Nat)
  | ptr0
  | ptr (i o : Nat)
  | ptrK (i : Nat)
  | slc0 (c : Nat)
  | slc (i o len : Nat) (cap : Cp)
  | slcE
  | mp0
  | mp (i : Nat)
  | fn (f : Nat) (cap : List AV)
  | nilFn
  | ifc (t : Nat) (v : AV)
  | nilI
  | agg (l : List AV)
  | tup (l : List AV)
  | und
/-- Blocks by their abstract numbers: the number, and the capacity of the row in it. -/
abbrev Sg := Nat → Option (Nat × Nat)
def Sg.le (σ σ' : Sg) : Prop := ∀ i x, σ i = some x → σ' i = some x
theorem Sg.le_refl (σ : Sg) : σ.le σ := fun _ _ h => h
theorem Sg.le_trans {a b c : Sg} (h : a.le b) (k : b.le c) : a.le c := fun i x e => k i x (h i x e)
def Cp.of (κ : Nat) : Cp → Nat
  | .num c => c
  | .rest k => κ - k
def bsN (l : List Nat) : ByteArray := bs (l.map UInt8.ofNat)
mutual
def Den (σ : Sg) : AV → Value → Prop
  | .bool b, V => V = .bool b
  | .int k n, V => V = .int k n
  | .str l, V => (∀ b ∈ l, b < 256) ∧ V = .string (bsN l)
  | .ptr0, V => V = .pointer none
  | .ptr i o, V => ∃ x, σ i = some x ∧ V = .pointer (some ⟨x.1, o, none⟩)
  | .ptrK i, V => ∃ x, σ i = some x ∧ V = .pointer (some ⟨x.1, x.2, none⟩)
  | .slc0 c, V => V = .slice none 0 c
  | .slc i o n c, V => ∃ x, σ i = some x ∧ V = .slice (some ⟨x.1, o, none⟩) n (c.of x.2)
  | .slcE, V => ∃ a c, V = .slice a 0 c
  | .mp0, V => V = .map none
  | .mp i, V => ∃ x, σ i = some x ∧ V = .map (some x.1)
  | .fn f l, V => ∃ L, DenL σ l L ∧ V = .func (.func f) #[] L.toArray
  | .nilFn, V => V = .nilFunc
  | .ifc t v, V => ∃ U, Den σ v U ∧ V = .iface t U
  | .nilI, V => V = .nilIface
  | .agg l, V => ∃ L, DenL σ l L ∧ V = .agg L.toArray
  | .tup l, V => ∃ L, DenL σ l L ∧ V = .tuple L.toArray
  | .und, V => True
def DenL (σ : Sg) : List AV → List Value → Prop
  | [], L => L = []
  | v :: l, L => ∃ U M, L = U :: M ∧ Den σ v U ∧ DenL σ l M
end
mutual
theorem Den.mono {σ σ' : Sg} (h : σ.le σ') : ∀ (v : AV) {V : Value}, Den σ v V → Den σ' v V
  | .bool _, V, k => by simpa [Den] using k
  | .int _ _, V, k => by simpa [Den] using k
  | .str _, V, k => by simpa [Den] using k
  | .ptr0, V, k => by simpa [Den] using k
  | .ptr i o, V, k => by
    simp only [Den] at k ⊢
    obtain ⟨x, e, rfl⟩ := k
    exact ⟨x, h i x e, rfl⟩
  | .ptrK i, V, k => by
    simp only [Den] at k ⊢
    obtain ⟨x, e, rfl⟩ := k
    exact ⟨x, h i x e, rfl⟩
  | .slc0 _, V, k => by simpa [Den] using k
  | .slc i o n c, V, k => by
    simp only [Den] at k ⊢
    obtain ⟨x, e, rfl⟩ := k
    exact ⟨x, h i x e, rfl⟩
  | .slcE, V, k => by simpa [Den] using k
  | .mp0, V, k => by simpa [Den] using k
  | .mp i, V, k => by
    simp only [Den] at k ⊢
    obtain ⟨x, e, rfl⟩ := k
    exact ⟨x, h i x e, rfl⟩
  | .fn f l, V, k => by
    simp only [Den] at k ⊢
    obtain ⟨L, e, rfl⟩ := k
    exact ⟨L, DenL.mono h l e, rfl⟩
  | .nilFn, V, k => by simpa [Den] using k
  | .ifc t v, V, k => by
    simp only [Den] at k ⊢
    obtain ⟨L, e, rfl⟩ := k
    exact ⟨L, Den.mono h v e, rfl⟩
  | .nilI, V, k => by simpa [Den] using k
  | .agg l, V, k => by
    simp only [Den] at k ⊢
    obtain ⟨L, e, rfl⟩ := k
    exact ⟨L, DenL.mono h l e, rfl⟩
  | .tup l, V, k => by
    simp only [Den] at k ⊢
    obtain ⟨L, e, rfl⟩ := k
    exact ⟨L, DenL.mono h l e, rfl⟩
  | .und, V, k => by simp only [Den]
theorem DenL.mono {σ σ' : Sg} (h : σ.le σ') : ∀ (l : List AV) {L : List Value}, DenL σ l L → DenL σ' l L
  | [], L, k => by simpa [DenL] using k
  | v :: l, L, k => by
    simp only [DenL] at k ⊢
    obtain ⟨U, M, rfl, k1, k2⟩ := k
    exact ⟨U, M, rfl, Den.mono h v k1, DenL.mono h l k2⟩
end
section
variable {σ : Sg}
theorem DenL.nil : DenL σ [] [] := by simp [DenL]
theorem DenL.cons {v : AV} {V : Value} {l : List AV} {L : List Value} (h : Den σ v V) (k : DenL σ l L) : DenL σ (v :: l) (V :: L) := by simp only [DenL]; exact ⟨V, L, rfl, h, k⟩
theorem DenL.inv {v : AV} {l : List AV} {L : List Value} (h : DenL σ (v :: l) L) : ∃ V M, L = V :: M ∧ Den σ v V ∧ DenL σ l M := by simpa only [DenL] using h
theorem DenL.inv0 {L : List Value} (h : DenL σ [] L) : L = [] := by simpa [DenL] using h
theorem DenL.length : ∀ {l : List AV} {L : List Value}, DenL σ l L → L.length = l.length
  | [], L, h => by rw [h.inv0]; rfl
  | v :: l, L, h => by
    obtain ⟨V, M, rfl, _, h2⟩ := h.inv
    simp [h2.length]
theorem DenL.get : ∀ {l : List AV} {L : List Value}, DenL σ l L → ∀ {i : Nat} {v : AV}, l[i]? = some v → ∃ V, L[i]? = some V ∧ Den σ v V
  | [], L, h, i, v, e => by simp at e
  | u :: l, L, h, i, v, e => by
    obtain ⟨V, M, rfl, h1, h2⟩ := h.inv
    cases i with
    | zero => simp at e; subst e; exact ⟨V, rfl, h1⟩
    | succ i => simp at e; simpa using h2.get e
theorem DenL.append : ∀ {l m : List AV} {L M : List Value}, DenL σ l L → DenL σ m M → DenL σ (l ++ m) (L ++ M)
  | [], m, L, M, h, k => by rw [h.inv0]; simpa using k
  | u :: l, m, L, M, h, k => by
    obtain ⟨V, N, rfl, h1, h2⟩ := h.inv
    exact .cons h1 (h2.append k)
theorem DenL.take : ∀ {l : List AV} {L : List Value} (n : Nat), DenL σ l L → DenL σ (l.take n) (L.take n)
  | l, L, 0, h => by simpa using DenL.nil
  | [], L, n + 1, h => by rw [h.inv0]; simpa using DenL.nil
  | u :: l, L, n + 1, h => by
    obtain ⟨V, N, rfl, h1, h2⟩ := h.inv
    exact .cons h1 (h2.take n)
theorem DenL.drop : ∀ {l : List AV} {L : List Value} (n : Nat), DenL σ l L → DenL σ (l.drop n) (L.drop n)
  | l, L, 0, h => by simpa using h
  | [], L, n + 1, h => by rw [h.inv0]; simpa using DenL.nil
  | u :: l, L, n + 1, h => by
    obtain ⟨V, N, rfl, h1, h2⟩ := h.inv
    simpa using h2.drop n
theorem DenL.set : ∀ {l : List AV} {L : List Value} (n : Nat) {v : AV} {V : Value}, DenL σ l L → Den σ v V → DenL σ (l.set n v) (L.set n V)
  | [], L, n, v, V, h, k => by rw [h.inv0]; simpa using DenL.nil
  | u :: l, L, n, v, V, h, k => by
    obtain ⟨U, N, rfl, h1, h2⟩ := h.inv
    cases n with
    | zero => exact .cons k h2
    | succ n => exact .cons h1 (h2.set n k)
end
/-! ### slots -/
/-- The first hundred numbers are the blocks of the program's variables. -/
def Glb (σ : Sg) : Prop := ∀ g, g < 100 → σ g = some (g, 0)
theorem Glb.mono {σ σ' : Sg} (h : Glb σ) (k : σ.le σ') : Glb σ' := fun g hg => k g _ (h g hg)
structure SlR (σ : Sg) (s : Fr AV) (ρ : Slots) : Prop where
  get : ∀ d v, s.get d = some v → ∃ V, ρ.lookup d = some V ∧ Den σ v V
  glb : Glb σ
theorem SlR.mono {σ σ' : Sg} {s : Fr AV} {ρ : Slots} (h : SlR σ s ρ) (k : σ.le σ') : SlR σ' s ρ := ⟨fun d v e => by
  obtain ⟨V, h1, h2⟩ := h.get d v e
  exact ⟨V, h1, h2.mono k v⟩, h.glb.mono k⟩
theorem SlR.leaf {σ : Sg} {thr : Nat} {ρ : Slots} (hg : Glb σ) : SlR σ (.base thr .leaf) ρ := ⟨fun d v h => (by
  rw [Fr.get_base, Tr.get_leaf] at h
  split at h <;> cases h), hg⟩
theorem SlR.put {σ : Sg} {s : Fr AV} {ρ : Slots} (h : SlR σ s ρ) {d : Nat} {v : AV} {V : Value} (k : Den σ v V) : SlR σ (.put d v s) ((d, V) :: ρ) := ⟨fun m u e => by
  rw [Fr.get_put] at e
  by_cases c : d = m
  · rw [if_pos c] at e
    cases e
    subst c
    exact ⟨V, by simp [List.lookup_cons], k⟩
  · rw [if_neg c] at e
    obtain ⟨U, h1, h2⟩ := h.get m u e
    have c' : (m == d) = false := by simpa using fun x => c x.symm
    exact ⟨U, by rw [List.lookup_cons, c']; exact h1, h2⟩, h.glb⟩
theorem SlR.flush {σ : Sg} {s : Fr AV} {ρ : Slots} (h : SlR σ s ρ) (ht : s.thr ≤ 1000000) : SlR σ (.base s.thr s.tree) ρ := ⟨fun m u e => (by
  rw [Fr.get_base] at e
  split at e
  · rename_i hm
    exact h.get m u (s.tree_get ht m u hm e)
  · cases e), h.glb⟩
end Go.Proofs.YtlicehodjhoamaaGreatDoor.Ev
namespace Go.Proofs.YtlicehodjhoamaaGreatDoor.Ev
open Go
set_option linter.unusedVariables false
set_option linter.unusedSimpArgs false
def natsB : List UInt8 → List Nat
  | [] => []
  | b :: l => b.toNat :: natsB l
theorem natsB_back : ∀ l : List UInt8, (natsB l).map UInt8.ofNat = l
  | [] => rfl
  | b :: l => by simp [natsB, natsB_back l]
theorem natsB_lt : ∀ l : List UInt8, ∀ b ∈ natsB l, b < 256
  | [], b, h => by simp [natsB] at h
  | c :: l, b, h => by
    rcases List.mem_cons.1 (show b ∈ c.toNat :: natsB l from h) with rfl | h
    · exact c.toNat_lt
    · exact natsB_lt l b h
theorem bsN_nats (s : ByteArray) : bsN (natsB s.data.toList) = s := by
  unfold bsN bs
  rw [natsB_back]
mutual
def ofV : Value → AV
  | .bool b => .bool b
  | .int k n => .int k n
  | .string s => .str (natsB s.data.toList)
  | .pointer none => .ptr0
  | .slice none 0 c => .slc0 c
  | .map none => .mp0
  | .nilFunc => .nilFn
  | .iface t v => .ifc t (ofV v)
  | .nilIface => .nilI
  | .agg ⟨l⟩ => .agg (ofL l)
  | .tuple ⟨l⟩ => .tup (ofL l)
  | _ => .und
def ofL : List Value → List AV
  | [] => []
  | v :: l => ofV v :: ofL l
end
mutual
theorem ofV_den (σ : Sg) : ∀ v : Value, Den σ (ofV v) v
  | .bool b => by simp [ofV, Den]
  | .int k n => by simp [ofV, Den]
  | .string s => by simp only [ofV, Den]; exact ⟨natsB_lt _, by rw [bsN_nats]⟩
  | .pointer none => by simp [ofV, Den]
  | .pointer (some a) => by simp [ofV, Den]
  | .slice none 0 c => by simp [ofV, Den]
  | .slice none (n + 1) c => by simp [ofV, Den]
  | .slice (some a) n c => by simp [ofV, Den]
  | .map none => by simp [ofV, Den]
  | .map (some a) => by simp [ofV, Den]
  | .nilFunc => by simp [ofV, Den]
  | .iface t v => by simp only [ofV, Den]; exact ⟨v, ofV_den σ v, rfl⟩
  | .nilIface => by simp [ofV, Den]
  | .agg ⟨l⟩ => by simp only [ofV, Den]; exact ⟨l, ofL_den σ l, rfl⟩
  | .tuple ⟨l⟩ => by simp only [ofV, Den]; exact ⟨l, ofL_den σ l, rfl⟩
  | .float _ _ => by simp [ofV, Den]
  | .complex _ _ _ => by simp [ofV, Den]
  | .chan _ => by simp [ofV, Den]
  | .func _ _ _ => by simp [ofV, Den]
theorem ofL_den (σ : Sg) : ∀ l : List Value, DenL σ (ofL l) l
  | [] => by simp [ofL, DenL]
  | v :: l => by simp only [ofL]; exact .cons (ofV_den σ v) (ofL_den σ l)
end
/-! ### operands -/
/-- What an operand reads as. -/
noncomputable def opd (s : Fr AV) (x : Operand) : Option AV := match x with
  | .tmp t => s.get t
  | .const v => some (ofV v)
  | .global g => Bool.rec none (some (.ptr g 0)) (Nat.blt g 100)
  | .func f => some (.fn f [])
theorem opd_den {σ : Sg} {s : Fr AV} {ρ : Slots} (h : SlR σ s ρ) {x : Operand} {v : AV} (e : opd s x = some v) : ∃ V, ev ρ x = some V ∧ Den σ v V := by
  cases x with
  | tmp t => exact h.get t v e
  | const c => cases e; exact ⟨c, rfl, ofV_den σ c⟩
  | global g =>
    have e : Bool.rec none (some (AV.ptr g 0)) (Nat.blt g 100) = some v := e
    cases hb : Nat.blt g 100 with
    | false => rw [hb] at e; cases e
    | true =>
      rw [hb] at e
      cases e
      have hg : g < 100 := by simpa using hb
      exact ⟨_, rfl, by simp only [Den]; exact ⟨(g, 0), h.glb g hg, rfl⟩⟩
  | func f => cases e; exact ⟨_, rfl, by simp only [Den]; exact ⟨[], DenL.nil, rfl⟩⟩
noncomputable def opds (s : Fr AV) (l : List Operand) : Option (List AV) := List.rec (some []) (fun x _ ih => Option.rec none (fun v => Option.rec none (fun vs => some (v :: vs)) ih) (opd s x)) l
theorem opds_den {σ : Sg} {s : Fr AV} {ρ : Slots} (h : SlR σ s ρ) : ∀ {l : List Operand} {vs : List AV}, opds s l = some vs → ∃ Vs, evArgs ρ l = some Vs ∧ DenL σ vs Vs
  | [], vs, e => by cases e; exact ⟨[], rfl, DenL.nil⟩
  | x :: l, vs, e => by
    have e : Option.rec none (fun v => Option.rec none (fun vs => some (v :: vs)) (opds s l)) (opd s x) = some vs := e
    cases e1 : opd s x with
    | none => rw [e1] at e; cases e
    | some v =>
      rw [e1] at e
      cases e2 : opds s l with
      | none => rw [e2] at e; cases e
      | some us =>
        rw [e2] at e
        cases e
        obtain ⟨V, h1, h2⟩ := opd_den h e1
        obtain ⟨Vs, h3, h4⟩ := opds_den h e2
        exact ⟨V :: Vs, by simp [evArgs, h1, h3], .cons h2 h4⟩
/-! ### memory -/
/-- An object: its cells; a row of which so many elements are known, and that has room for lo at least; a row of bytes whose end is marked; a map's entries. -/
inductive AO where
  | cells (l : List AV) (e : Nat)
  | row (l : List AV) (n e sz lo : Nat)
  | rowF (l : List AV) (n e : Nat)
  | map (l : List (AV × AV))
  | it (i : Nat)
/-- Entries bear numbers of their own, under the clock. -/
def Stm (es : Array MapEntry) (clock : Nat) : Prop := (∀ x ∈ es.toList, x.born < clock) ∧ (es.toList.map (·.born)).Nodup
theorem Stm.nil (clock : Nat) : Stm #[] clock := ⟨by simp, by simp⟩
theorem Stm.push {es : Array MapEntry} {clock : Nat} (h : Stm es clock) (key val : Value) : Stm (es.push { key, val, born := clock }) (clock + 1) := by
  obtain ⟨h1, h2⟩ := h
  refine ⟨fun x hx => ?_, ?_⟩
  · rw [Array.toList_push, List.mem_append] at hx
    rcases hx with hx | hx
    · have := h1 x hx; omega
    · obtain rfl : x = _ := by simpa using hx
      exact Nat.lt_succ_self _
  · rw [Array.toList_push, List.map_append, List.nodup_append]
    refine ⟨h2, by simp, fun a ha b hb => ?_⟩
    obtain ⟨x, hx, rfl⟩ := List.mem_map.1 ha
    obtain rfl : b = clock := by simpa using hb
    have := h1 x hx
    omega
theorem Stm.modify {es : Array MapEntry} {clock : Nat} (h : Stm es clock) (i : Nat) (f : MapEntry → MapEntry) (hf : ∀ e, (f e).born = e.born) : Stm (es.modify i f) clock := by
  have e : (es.modify i f).toList.map (·.born) = es.toList.map (·.born) := by
    apply List.ext_getElem?
    intro n
    simp only [List.getElem?_map, Array.getElem?_toList, Array.getElem?_modify]
    by_cases c : i = n
    · subst c; cases es[i]? <;> simp [hf]
    · simp [c]
  refine ⟨fun x hx => ?_, by rw [e]; exact h.2⟩
  have hx' : x.born ∈ (es.modify i f).toList.map (·.born) := List.mem_map.2 ⟨x, hx, rfl⟩
  rw [e] at hx'
  obtain ⟨y, hy, e2⟩ := List.mem_map.1 hx'
  rw [← e2]
  exact h.1 y hy
theorem Stm.sub {es es' : Array MapEntry} {clock : Nat} (h : Stm es clock) (hs : es'.toList.Sublist es.toList) : Stm es' clock :=
  ⟨fun x hx => h.1 x (hs.subset hx), (hs.map _).nodup h.2⟩
def DenM (σ : Sg) : List (AV × AV) → List MapEntry → Prop
  | [], L => L = []
  | p :: l, L => ∃ e M, L = e :: M ∧ Den σ p.1 e.key ∧ Den σ p.2 e.val ∧ DenM σ l M
theorem DenM.mono {σ σ' : Sg} (h : σ.le σ') : ∀ (l : List (AV × AV)) {L : List MapEntry}, DenM σ l L → DenM σ' l L
  | [], L, k => by simpa [DenM] using k
  | p :: l, L, k => by
    simp only [DenM] at k ⊢
    obtain ⟨e, M, rfl, k1, k2, k3⟩ := k
    exact ⟨e, M, rfl, Den.mono h _ k1, Den.mono h _ k2, DenM.mono h l k3⟩
def DenO (σ : Sg) (κ : Nat) : AO → Obj → Prop
  | .cells l e, O => ∃ L : List Value, DenL σ l L ∧ O = .cells L.toArray e (0, 0)
  | .row l n e sz lo, O => ∃ (L : List Value) (cur : Array Value), DenL σ l L ∧ O = .cells cur e (0, 0) ∧ l.length = n * sz ∧ n ≤ κ ∧ lo ≤ κ ∧ κ ≤ maxLen ∧ cur.size = κ * sz ∧ cur.toList.take (n * sz) = L
  | .rowF l n e, O => ∃ (L : List Value) (cur : Array Value) (fr : Nat × Nat), DenL σ l L ∧ O = .cells cur e fr ∧ l.length = n ∧ n ≤ κ ∧ κ ≤ maxLen ∧ cur.size = κ ∧ cur.toList.take n = L ∧ (fr = (0, 0) ∨ κ ≤ fr.1)
  | .map l, O => ∃ (es : Array MapEntry) (clock : Nat), (DenM σ l es.toList ∧ Stm es clock) ∧ O = .map es clock
  | .it i, O => ∃ (x : Nat × Nat) (since : Nat) (seen : Array Nat) (last : Nat), σ i = some x ∧ O = .mapIter (some x.1) since seen last
theorem DenO.mono {σ σ' : Sg} (h : σ.le σ') {κ : Nat} {o : AO} {O : Obj} (k : DenO σ κ o O) : DenO σ' κ o O := by
  cases o with
  | cells l e => obtain ⟨L, h1, h2⟩ := k; exact ⟨L, h1.mono h _, h2⟩
  | row l n e sz lo => obtain ⟨L, cur, h1, h2⟩ := k; exact ⟨L, cur, h1.mono h _, h2⟩
  | rowF l n e => obtain ⟨L, cur, fr, h1, h2⟩ := k; exact ⟨L, cur, fr, h1.mono h _, h2⟩
  | map l => obtain ⟨es, c, ⟨h1, h3⟩, h2⟩ := k; exact ⟨es, c, ⟨h1.mono h _, h3⟩, h2⟩
  | it i => obtain ⟨x, a, b, c, h1, h2⟩ := k; exact ⟨x, a, b, c, h i x h1, h2⟩
structure Mem where
  h : Tr AO
  nx : Nat
/-- Beside: blocks that are there and that nobody here touches; objects that are not there yet; numbers that stand for nothing. -/
structure Fm where
  b : Blocks
  z : Nat → Option AO
  d : Nat → Prop
/-- What is known of objects is so. -/
def MemG (σ : Sg) (m : Mem) (L : Blocks) : Prop := ∀ i o x, m.h.get i = some o → σ i = some x → ∃ O, DenO σ x.2 o O ∧ (x.1, O) ∈ L
/-- The memory: L has the blocks, and F beside. -/
structure MemR (σ : Sg) (m : Mem) (F : Fm) (L : Blocks) : Prop where
  get : MemG σ m L
  inj : ∀ i j o o' x y, m.h.get i = some o → m.h.get j = some o' → σ i = some x → σ j = some y → x.1 = y.1 → i = j
  frame : ∀ p ∈ F.b, p ∈ L
  apart : ∀ i o x, m.h.get i = some o → σ i = some x → ∀ p ∈ F.b, p.1 ≠ x.1
  ghost : ∀ i o, F.z i = some o → σ i = none ∧ m.h.get i = some o ∧ i < m.nx
  fresh : ∀ i, m.nx ≤ i → σ i = none
  below : ∀ i o, m.h.get i = some o → i < m.nx
  glb : Glb σ
  dead : ∀ i, F.d i → σ i = none ∧ F.z i = none ∧ i < m.nx
def Sg.put (σ : Sg) (i b κ : Nat) : Sg := fun j => if j = i then some (b, κ) else σ j
theorem Sg.put_le {σ : Sg} {i b κ : Nat} (h : σ i = none) : σ.le (σ.put i b κ) := fun j x e => by
  unfold Sg.put
  by_cases c : j = i
  · subst c; rw [h] at e; cases e
  · rw [if_neg c]; exact e
/-- One block more. -/
theorem MemR.new {σ : Sg} {m : Mem} {F : Fm} {L : Blocks} (h : MemR σ m F L) {o : AO} {O : Obj} {b κ : Nat} (hb : ∀ p ∈ L, p.1 ≠ b) (hn : m.nx + 1 < 2 ^ 20) (hO : DenO (σ.put m.nx b κ) κ o O) : MemR (σ.put m.nx b κ) ⟨m.h.set 20 m.nx o, m.nx + 1⟩ F ((b, O) :: L) := by
  have hf := h.fresh m.nx (Nat.le_refl _)
  have hle := Sg.put_le (b := b) (κ := κ) hf
  have hp : ∀ i, i ≠ m.nx → σ.put m.nx b κ i = σ i := fun i hi => if_neg hi
  have hs : σ.put m.nx b κ m.nx = some (b, κ) := if_pos rfl
  have hg := Tr.get_set 20 m.h m.nx o hn
  refine ⟨fun i u x e ex => ?_, fun i j u u' x y e e' ex ey exy => ?_, fun p hp => List.mem_cons_of_mem _ (h.frame p hp), fun i u x e ex p hp' => ?_, fun i u e => ?_, fun i hi => ?_, fun i u e => ?_, h.glb.mono hle, fun i e => (by obtain ⟨h1, h2, h3⟩ := h.dead i e; exact ⟨by rw [hp i (by omega)]; exact h1, h2, by dsimp only; omega⟩)⟩
  · dsimp only at e
    rw [hg] at e
    by_cases c : i = m.nx
    · rw [if_pos c] at e
      cases e
      subst c
      rw [hs] at ex
      cases ex
      exact ⟨O, hO, List.mem_cons_self ..⟩
    · rw [if_neg c] at e
      rw [hp i c] at ex
      obtain ⟨U, h2, h3⟩ := h.get i u x e ex
      exact ⟨U, h2.mono hle, List.mem_cons_of_mem _ h3⟩
  · dsimp only at e e'
    rw [hg] at e e'
    by_cases c : i = m.nx
    · subst c
      by_cases c' : j = m.nx
      · exact c'.symm
      · rw [if_neg c'] at e'
        rw [hs] at ex
        cases ex
        rw [hp j c'] at ey
        obtain ⟨U, _, h3⟩ := h.get j u' y e' ey
        exact absurd exy.symm (hb _ h3)
    · rw [if_neg c] at e
      rw [hp i c] at ex
      by_cases c' : j = m.nx
      · subst c'
        rw [hs] at ey
        cases ey
        obtain ⟨U, _, h3⟩ := h.get i u x e ex
        exact absurd exy (hb _ h3)
      · rw [if_neg c'] at e'
        rw [hp j c'] at ey
        exact h.inj i j u u' x y e e' ex ey exy
  · dsimp only at e
    rw [hg] at e
    by_cases c : i = m.nx
    · subst c
      rw [hs] at ex
      cases ex
      exact hb p (h.frame p hp')
    · rw [if_neg c] at e
      rw [hp i c] at ex
      exact h.apart i u x e ex p hp'
  · obtain ⟨h1, h2, h3⟩ := h.ghost i u e
    have c : i ≠ m.nx := by omega
    exact ⟨by rw [hp i c]; exact h1, by dsimp only; rw [hg, if_neg c]; exact h2, by dsimp only; omega⟩
  · rw [hp i (by dsimp only at hi; omega)]
    exact h.fresh i (by dsimp only at hi; omega)
  · dsimp only at e ⊢
    rw [hg] at e
    by_cases c : i = m.nx
    · omega
    · rw [if_neg c] at e
      have := h.below i u e
      omega
/-- One block is written. -/
theorem MemR.write {σ : Sg} {m : Mem} {F : Fm} {L R : Blocks} (h : MemR σ m F L) {i : Nat} {o : AO} {x : Nat × Nat} {O O' : Obj} {o' : AO} (hi : m.h.get i = some o) (hx : σ i = some x) (hL : L.Perm ((x.1, O) :: R)) (hn : i + 1 < 2 ^ 20) (hO : DenO σ x.2 o' O') :
    MemR σ ⟨m.h.set 20 i o', m.nx⟩ F ((x.1, O') :: R) := by
  have hg := Tr.get_set 20 m.h i o' hn
  have hmem : ∀ p, p ∈ L → p.1 ≠ x.1 → p ∈ (x.1, O') :: R := fun p hp hne => by
    rcases List.mem_cons.1 (hL.mem_iff.1 hp) with e | e
    · exact absurd (by rw [e]) hne
    · exact List.mem_cons_of_mem _ e
  refine ⟨fun j u y e ey => ?_, fun j k u u' y z e e' ey ez hyz => ?_, fun p hp => hmem p (h.frame p hp) (h.apart i o x hi hx p hp), fun j u y e ey p hp => ?_, fun j u e => ?_, h.fresh, fun j u e => ?_, h.glb, h.dead⟩
  · dsimp only at e
    rw [hg] at e
    by_cases c : j = i
    · rw [if_pos c] at e
      cases e
      subst c
      rw [hx] at ey
      cases ey
      exact ⟨O', hO, List.mem_cons_self ..⟩
    · rw [if_neg c] at e
      obtain ⟨U, h2, h3⟩ := h.get j u y e ey
      exact ⟨U, h2, hmem _ h3 fun k => c (h.inj j i u o y x e hi ey hx k)⟩
  · have f : ∀ j u, (m.h.set 20 i o').get j = some u → ∃ v, m.h.get j = some v := fun j u e => by
      rw [hg] at e
      by_cases c : j = i
      · subst c; exact ⟨o, hi⟩
      · rw [if_neg c] at e; exact ⟨u, e⟩
    obtain ⟨v, hv⟩ := f j u e
    obtain ⟨v', hv'⟩ := f k u' e'
    exact h.inj j k v v' y z hv hv' ey ez hyz
  · dsimp only at e
    rw [hg] at e
    by_cases c : j = i
    · subst c
      rw [hx] at ey
      cases ey
      exact h.apart j o x hi hx p hp
    · rw [if_neg c] at e
      exact h.apart j u y e ey p hp
  · obtain ⟨h1, h2, h3⟩ := h.ghost j u e
    have c : j ≠ i := fun c => by rw [c, hx] at h1; cases h1
    exact ⟨h1, by dsimp only; rw [hg, if_neg c]; exact h2, h3⟩
  · dsimp only at e ⊢
    rw [hg] at e
    by_cases c : j = i
    · subst c; exact h.below j o hi
    · rw [if_neg c] at e; exact h.below j u e
/-! ### objects that are not there yet -/
/-- One more that is not there yet. -/
theorem MemR.plan {σ : Sg} {m : Mem} {F : Fm} {L : Blocks} (h : MemR σ m F L) (o : AO) (hn : m.nx + 1 < 2 ^ 20) : MemR σ ⟨m.h.set 20 m.nx o, m.nx + 1⟩ ⟨F.b, fun j => if j = m.nx then some o else F.z j, F.d⟩ L := by
  have hf := h.fresh m.nx (Nat.le_refl _)
  have hg := Tr.get_set 20 m.h m.nx o hn
  have hne : ∀ i x, σ i = some x → i ≠ m.nx := fun i x e c => by rw [c, hf] at e; cases e
  refine ⟨fun i u x e ex => ?_, fun i j u u' x y e e' ex ey exy => ?_, h.frame, fun i u x e ex p hp' => ?_, fun i u e => ?_, fun i hi => h.fresh i (by dsimp only at hi; omega), fun i u e => ?_, h.glb, fun i e => (by obtain ⟨h1, h2, h3⟩ := h.dead i e; exact ⟨h1, by dsimp only; rw [if_neg (by omega)]; exact h2, by dsimp only; omega⟩)⟩
  · dsimp only at e
    rw [hg, if_neg (hne i x ex)] at e
    exact h.get i u x e ex
  · dsimp only at e e'
    rw [hg, if_neg (hne i x ex)] at e
    rw [hg, if_neg (hne j y ey)] at e'
    exact h.inj i j u u' x y e e' ex ey exy
  · dsimp only at e
    rw [hg, if_neg (hne i x ex)] at e
    exact h.apart i u x e ex p hp'
  · dsimp only at e ⊢
    by_cases c : i = m.nx
    · rw [if_pos c] at e
      cases e
      subst c
      exact ⟨hf, by rw [hg, if_pos rfl], by omega⟩
    · rw [if_neg c] at e
      obtain ⟨h1, h2, h3⟩ := h.ghost i u e
      exact ⟨h1, by rw [hg, if_neg c]; exact h2, by omega⟩
  · dsimp only at e ⊢
    rw [hg] at e
    by_cases c : i = m.nx
    · omega
    · rw [if_neg c] at e
      have := h.below i u e
      omega
/-- It comes. -/
theorem MemR.real {σ : Sg} {m : Mem} {F : Fm} {L : Blocks} (h : MemR σ m F L) {i : Nat} {o : AO} {O : Obj} {b κ : Nat} (hz : F.z i = some o) (hb : ∀ p ∈ L, p.1 ≠ b) (hO : DenO (σ.put i b κ) κ o O) : MemR (σ.put i b κ) m ⟨F.b, fun j => if j = i then none else F.z j, F.d⟩ ((b, O) :: L) := by
  obtain ⟨hf, hi, hlt⟩ := h.ghost i o hz
  have hle := Sg.put_le (b := b) (κ := κ) hf
  have hp : ∀ j, j ≠ i → σ.put i b κ j = σ j := fun j hj => if_neg hj
  have hs : σ.put i b κ i = some (b, κ) := if_pos rfl
  refine ⟨fun j u x e ex => ?_, fun j k u u' x y e e' ex ey exy => ?_, fun p hp => List.mem_cons_of_mem _ (h.frame p hp), fun j u x e ex p hp' => ?_, fun j u e => ?_, fun j hj => ?_, h.below, h.glb.mono hle, fun j e => (by obtain ⟨h1, h2, h3⟩ := h.dead j e; have c : j ≠ i := (fun c => by rw [c, hz] at h2; cases h2); exact ⟨by rw [hp j c]; exact h1, by dsimp only; rw [if_neg c]; exact h2, h3⟩)⟩
  · by_cases c : j = i
    · subst c
      rw [hi] at e
      cases e
      rw [hs] at ex
      cases ex
      exact ⟨O, hO, List.mem_cons_self ..⟩
    · rw [hp j c] at ex
      obtain ⟨U, h2, h3⟩ := h.get j u x e ex
      exact ⟨U, h2.mono hle, List.mem_cons_of_mem _ h3⟩
  · by_cases c : j = i
    · subst c
      by_cases c' : k = j
      · exact c'.symm
      · rw [hs] at ex
        cases ex
        rw [hp k c'] at ey
        obtain ⟨U, _, h3⟩ := h.get k u' y e' ey
        exact absurd exy.symm (hb _ h3)
    · rw [hp j c] at ex
      by_cases c' : k = i
      · subst c'
        rw [hs] at ey
        cases ey
        obtain ⟨U, _, h3⟩ := h.get j u x e ex
        exact absurd exy (hb _ h3)
      · rw [hp k c'] at ey
        exact h.inj j k u u' x y e e' ex ey exy
  · by_cases c : j = i
    · subst c
      rw [hs] at ex
      cases ex
      exact hb p (h.frame p hp')
    · rw [hp j c] at ex
      exact h.apart j u x e ex p hp'
  · dsimp only at e
    by_cases c : j = i
    · rw [if_pos c] at e; cases e
    · rw [if_neg c] at e
      obtain ⟨h1, h2, h3⟩ := h.ghost j u e
      exact ⟨by rw [hp j c]; exact h1, h2, h3⟩
  · rw [hp j (by omega)]
    exact h.fresh j hj
/-- Less is said of what is not there yet. -/
theorem MemR.ghosts {σ : Sg} {m : Mem} {F : Fm} {L : Blocks} (h : MemR σ m F L) {z : Nat → Option AO} (hz : ∀ i o, z i = some o → F.z i = some o) : MemR σ m ⟨F.b, z, F.d⟩ L :=
  ⟨h.get, h.inj, h.frame, h.apart, fun i o e => h.ghost i o (hz i o e), h.fresh, h.below, h.glb, fun i e => (by obtain ⟨h1, h2, h3⟩ := h.dead i e; refine ⟨h1, ?_, h3⟩; show z i = none; cases hzi : z i with | none => rfl | some o => rw [hz i o hzi] at h2; cases h2)⟩
end Go.Proofs.YtlicehodjhoamaaGreatDoor.Ev
namespace Go.Proofs.YtlicehodjhoamaaGreatDoor
open Go.RowKit
set_option linter.unusedVariables false
set_option linter.unusedSimpArgs false
variable {G : World} {P : Program} {n : Nat} {ρ : Slots} {L : Blocks} {ty : TypeId} {Q : Exit → Act → World → Prop}
/-- A guard whose own operation was not wanted. -/
theorem TL_gundef {ops : Array Oper} {d j dj : Nat} {op : Op} {pos : String} {after : Array Edge} {rest : List Oper} {want : Bool}
    (hs : guardSlot ops j = some dj) (hv : ρ.lookup dj = some undef) (hd : Nat.blt d n = true) (hr : TL P G ops n ((d, undef) :: ρ) L rest Q) : TL P G ops n ρ L (⟨some d, op, ty, pos, after, some (j, want)⟩ :: rest) Q :=
  ⟨fun a w he hw => wpList_step fun K hK => by
    have h1 := he.get dj _ hv
    have h2 : Region.wanted (⟨some d, op, ty, pos, after, some (j, want)⟩ : Oper) (yielded ops a.tmps) = false := by
      unfold guardSlot at hs
      simp [Region.wanted, yielded, hs, h1, undef]
    rw [h2, if_neg (by simp)]
    exact hK _ _ (hr.out _ _ (he.put d (by simpa using hd) undef) hw)⟩
/-- An array's type: how many, of how many cells each. -/
def arrTy (P : Program) (t : TypeId) : Option (Nat × Nat) := match P.underlying t with
  | some (.array len e) => match P.info? e with
    | some i => some (len, i.size)
    | none => none
  | _ => none
theorem op_idxA {x y : Operand} {b off len sz : Nat} {k : IntKind} {i : Int} {t : TypeId} (h : arrTy P t = some (len, sz)) (hx : ev ρ x = some (.pointer (some ⟨b, off, none⟩))) (hy : ev ρ y = some (.int k i)) (h0 : 0 ≤ i) (h1 : i < len) :
    OpQ P ρ L (.indexAddr t x y) ty (.pointer (some ⟨b, off + i.toNat * sz, none⟩)) := by
  unfold arrTy at h
  cases hu : P.underlying t with
  | none => simp [hu] at h
  | some d =>
    cases d <;> simp [hu] at h
    rename_i l e
    cases hi : P.info? e with
    | none => simp [hi] at h
    | some ti =>
      simp [hi] at h
      obtain ⟨rfl, rfl⟩ := h
      exact ⟨fun r hr w hw o ho _ => by simp [execOp, ho, hr _ _ hx, hr _ _ hy, Instr.indexAt, asIntOf, run_underlying hu, Instr.sureAddr, h0, h1, sizeOf, typeInfo, hi, addr_add]⟩
end Go.Proofs.YtlicehodjhoamaaGreatDoor
namespace Go.Proofs.YtlicehodjhoamaaGreatDoor
open Go.RowKit
set_option linter.unusedVariables false
set_option linter.unusedSimpArgs false
section
variable {G : World} {P : Program} {n : Nat} {ρ : Slots} {L : Blocks} {ty : TypeId} {Q : Exit → Act → World → Prop}
/-- A struct's type: how many cells. -/
def structTy (P : Program) (t : TypeId) (k : Nat) : Bool := (match P.underlying t with | some (.struct _) => true | _ => false) && (match P.info? t with | some i => i.size == k | none => false)
/-- A row's cells from one place on. -/
def putAt (C : Array Value) (o : Nat) (vs : List Value) : Array Value := (C.toList.take o ++ vs ++ C.toList.drop (o + vs.length)).toArray
def allOne (C : Array Value) : Bool := C.toList.all (·.oneCell')
end
end Go.Proofs.YtlicehodjhoamaaGreatDoor
namespace Go.Proofs.YtlicehodjhoamaaGreatDoor.Ev
open Go
set_option linter.unusedVariables false
set_option linter.unusedSimpArgs false
theorem map_ofNat_inj : ∀ {l m : List Nat}, (∀ b ∈ l, b < 256) → (∀ b ∈ m, b < 256) → l.map UInt8.ofNat = m.map UInt8.ofNat → l = m
  | [], [], _, _, _ => rfl
  | [], _ :: _, _, _, h => by simp at h
  | _ :: _, [], _, _, h => by simp at h
  | a :: l, b :: m, hl, hm, h => by
    simp only [List.map_cons, List.cons.injEq] at h
    have h1 : a = b := by
      have := congrArg UInt8.toNat h.1
      simpa [UInt8.toNat_ofNat', Nat.mod_eq_of_lt (hl a (List.mem_cons_self ..)), Nat.mod_eq_of_lt (hm b (List.mem_cons_self ..))] using this
    rw [h1, map_ofNat_inj (fun c hc => hl c (List.mem_cons_of_mem _ hc)) (fun c hc => hm c (List.mem_cons_of_mem _ hc)) h.2]
noncomputable def beqN : List Nat → List Nat → Bool := fun l => List.rec (motive := fun _ => List Nat → Bool) (fun m => List.rec (motive := fun _ => Bool) true (fun _ _ _ => false) m) (fun a _ ih m => List.rec (motive := fun _ => Bool) false (fun b m _ => Bool.rec false (ih m) (Nat.beq a b)) m) l
theorem beqN_iff : ∀ l m : List Nat, beqN l m = decide (l = m)
  | [], [] => rfl
  | [], _ :: _ => rfl
  | _ :: _, [] => rfl
  | a :: l, b :: m => by
    have h : beqN (a :: l) (b :: m) = Bool.rec false (beqN l m) (Nat.beq a b) := rfl
    rw [h]
    by_cases e : a = b
    · rw [bqT e, beqN_iff l m]
      simp [e]
    · rw [bqF e]
      simp [e]
theorem str_eq {l m : List Nat} (hl : ∀ b ∈ l, b < 256) (hm : ∀ b ∈ m, b < 256) : (l.map UInt8.ofNat == m.map UInt8.ofNat) = beqN l m := by
  rw [beqN_iff]
  by_cases e : l = m
  · subst e; simp
  · rw [decide_eq_false e]
    exact beq_false_of_ne fun h => e (map_ofNat_inj hl hm h)
noncomputable def ltN : List Nat → List Nat → Bool := fun l => List.rec (motive := fun _ => List Nat → Bool) (fun m => List.rec (motive := fun _ => Bool) false (fun _ _ _ => true) m) (fun a _ ih m => List.rec (motive := fun _ => Bool) false (fun b m _ => Bool.rec (Nat.ble (Nat.succ a) b) (ih m) (Nat.beq a b)) m) l
theorem u8_lt {a b : Nat} (ha : a < 256) (hb : b < 256) : (UInt8.ofNat a < UInt8.ofNat b) ↔ a < b := by
  rw [UInt8.lt_iff_toNat_lt, UInt8.toNat_ofNat', UInt8.toNat_ofNat', Nat.mod_eq_of_lt ha, Nat.mod_eq_of_lt hb]
theorem u8_eq {a b : Nat} (ha : a < 256) (hb : b < 256) : (UInt8.ofNat a = UInt8.ofNat b) ↔ a = b := by
  constructor
  · intro h
    have := congrArg UInt8.toNat h
    rwa [UInt8.toNat_ofNat', UInt8.toNat_ofNat', Nat.mod_eq_of_lt ha, Nat.mod_eq_of_lt hb] at this
  · intro h; rw [h]
theorem ltN_eq : ∀ {l m : List Nat}, (∀ b ∈ l, b < 256) → (∀ b ∈ m, b < 256) → ltN l m = Op.bytesLess (l.map UInt8.ofNat) (m.map UInt8.ofNat)
  | [], [], _, _ => rfl
  | [], _ :: _, _, _ => rfl
  | _ :: _, [], _, _ => rfl
  | a :: l, b :: m, hl, hm => by
    have h : ltN (a :: l) (b :: m) = Bool.rec (Nat.ble (Nat.succ a) b) (ltN l m) (Nat.beq a b) := rfl
    have ha := hl a (List.mem_cons_self ..)
    have hb := hm b (List.mem_cons_self ..)
    rw [h, ltN_eq (fun c hc => hl c (List.mem_cons_of_mem _ hc)) fun c hc => hm c (List.mem_cons_of_mem _ hc)]
    simp only [List.map_cons, Op.bytesLess]
    by_cases e : a = b
    · subst e
      rw [bqT rfl]
      simp
    · rw [bqF e]
      have e2 : (UInt8.ofNat a == UInt8.ofNat b) = false := beq_false_of_ne fun h => e ((u8_eq ha hb).1 h)
      rw [e2, Bool.false_and, Bool.or_false]
      show Nat.ble (a + 1) b = decide (UInt8.ofNat a < UInt8.ofNat b)
      rw [decide_eq_decide.2 (u8_lt ha hb)]
      by_cases c : a < b
      · rw [decide_eq_true c]; exact Nat.ble_eq_true_of_le c
      · rw [decide_eq_false c]
        cases h : Nat.ble (a + 1) b with
        | false => rfl
        | true => exact absurd (Nat.le_of_ble_eq_true h) c
noncomputable def appN {α : Type} (l m : List α) : List α := List.rec m (fun x _ ih => x :: ih) l
theorem appN_eq {α : Type} : ∀ l m : List α, appN l m = l ++ m
  | [], _ => rfl
  | x :: l, m => congrArg (x :: ·) (appN_eq l m)
noncomputable def lenF {α : Type} (l : List α) : Nat := List.rec 0 (fun _ _ ih => Nat.succ ih) l
theorem lenF_eq {α : Type} : ∀ l : List α, lenF l = l.length
  | [] => rfl
  | _ :: l => congrArg Nat.succ (lenF_eq l)
/-- The greatest number of a kind. -/
def maxK : IntKind → Nat
  | .i8 => 127
  | .i16 => 32767
  | .i32 => 2147483647
  | .i64 => 9223372036854775807
  | .u8 => 255
  | .u16 => 65535
  | .u32 => 4294967295
  | .u64 => 18446744073709551615
theorem wrap_maxK {k : IntKind} {n : Nat} (h : n ≤ maxK k) : k.wrap (Int.ofNat n) = Int.ofNat n := by
  have e : (Int.ofNat n) = (n : Int) := rfl
  cases k <;> simp only [maxK] at h <;> simp only [IntKind.wrap, IntKind.bits, IntKind.signed, e, Nat.reduceSub, Int.reducePow, Bool.true_and, Bool.false_and, decide_eq_true_eq, Bool.false_eq_true, if_false] <;> first | omega | (split <;> omega)
noncomputable def wrapN (k : IntKind) (n : Nat) : AV := Bool.rec (.int k (k.wrap (Int.ofNat n))) (.int k (Int.ofNat n)) (Nat.ble n (maxK k))
theorem wrapN_eq (k : IntKind) (n : Nat) : wrapN k n = .int k (k.wrap (Int.ofNat n)) := by
  unfold wrapN
  cases h : Nat.ble n (maxK k) with
  | false => rfl
  | true => rw [wrap_maxK (Nat.le_of_ble_eq_true h)]
def bitsN : IntKind → Nat
  | .i8 => 8
  | .i16 => 16
  | .i32 => 32
  | .i64 => 64
  | .u8 => 8
  | .u16 => 16
  | .u32 => 32
  | .u64 => 64
theorem bitsN_eq (k : IntKind) : bitsN k = k.bits := by cases k <;> rfl
def pow2 : IntKind → Nat
  | .i8 => 256
  | .i16 => 65536
  | .i32 => 4294967296
  | .i64 => 18446744073709551616
  | .u8 => 256
  | .u16 => 65536
  | .u32 => 4294967296
  | .u64 => 18446744073709551616
theorem pow2_eq (k : IntKind) : pow2 k = 2 ^ k.bits := by cases k <;> rfl
noncomputable def minN (a b : Nat) : Nat := Bool.rec b a (Nat.ble a b)
theorem minN_eq (a b : Nat) : minN a b = min a b := by
  unfold minN
  cases h : Nat.ble a b with
  | true => exact (Nat.min_eq_left (Nat.le_of_ble_eq_true h)).symm
  | false => exact (Nat.min_eq_right (by
      rcases Nat.le_total b a with h1 | h1
      · exact h1
      · rw [Nat.ble_eq_true_of_le h1] at h; cases h)).symm
/-- Two numbers that are not below zero. -/
noncomputable def binI (o : BinOp) (k : IntKind) (a b : Nat) : Option AV := match o with
  | .add => some (wrapN k (Nat.add a b))
  | .sub => some (Bool.rec (.int k (k.wrap (Int.ofNat a - Int.ofNat b))) (wrapN k (Nat.sub a b)) (Nat.ble b a))
  | .mul => some (wrapN k (Nat.mul a b))
  | .eql => some (.bool (Nat.beq a b))
  | .neq => some (.bool (Bool.rec true false (Nat.beq a b)))
  | .lss => some (.bool (Nat.ble (Nat.succ a) b))
  | .leq => some (.bool (Nat.ble a b))
  | .gtr => some (.bool (Nat.ble (Nat.succ b) a))
  | .geq => some (.bool (Nat.ble b a))
  | .rem => Bool.rec (some (.int k (Int.ofNat (Nat.mod a b)))) none (Nat.beq b 0)
  | .quo => Bool.rec (some (wrapN k (Nat.div a b))) none (Nat.beq b 0)
  | .and => some (wrapN k (Nat.land (Nat.mod a (pow2 k)) (Nat.mod b (pow2 k))))
  | .or => some (wrapN k (Nat.lor (Nat.mod a (pow2 k)) (Nat.mod b (pow2 k))))
  | .xor => some (wrapN k (Nat.xor (Nat.mod a (pow2 k)) (Nat.mod b (pow2 k))))
  | .andNot => some (wrapN k (Nat.land (Nat.mod a (pow2 k)) (Nat.sub (Nat.sub (pow2 k) 1) (Nat.mod b (pow2 k)))))
  | _ => none
/-- A shift. -/
noncomputable def shA (o : BinOp) (k : IntKind) (a b : Int) (d : Option AV) : Option AV := match o with
  | .shl => (match a, b with
    | .ofNat a, .ofNat b => some (wrapN k (Nat.mul a (Nat.pow 2 (minN b (bitsN k)))))
    | _, _ => none)
  | .shr => (match a, b with
    | .ofNat a, .ofNat b => some (.int k (Int.ofNat (Nat.div a (Nat.pow 2 (minN b (bitsN k))))))
    | _, _ => none)
  | _ => d
/-- Two numbers. -/
noncomputable def binZ (o : BinOp) (k : IntKind) (a b : Int) : Option AV := match o with
  | .add => some (.int k (k.wrap (a + b)))
  | .sub => some (.int k (k.wrap (a - b)))
  | .mul => some (.int k (k.wrap (a * b)))
  | .eql => some (.bool (decide (a = b)))
  | .neq => some (.bool (!decide (a = b)))
  | .lss => some (.bool (decide (a < b)))
  | .leq => some (.bool (decide (a ≤ b)))
  | .gtr => some (.bool (decide (b < a)))
  | .geq => some (.bool (decide (b ≤ a)))
  | .quo => Bool.rec (some (.int k (k.wrap (Int.tdiv a b)))) none (decide (b = 0))
  | _ => none
noncomputable def binN (o : BinOp) (k : IntKind) (a b : Int) : Option AV := match a, b with
  | .ofNat a, .ofNat b => binI o k a b
  | a, b => binZ o k a b
/-- What two values come to. -/
noncomputable def binA (o : BinOp) (a b : AV) : Option AV := match a, b with
  | .int k a, .int k' b => shA o k a b (Bool.rec none (binN o k a b) (decide (k = k')))
  | .str l, .str m => match o with
    | .eql => some (.bool (beqN l m))
    | .neq => some (.bool (Bool.rec true false (beqN l m)))
    | .lss => some (.bool (ltN l m))
    | .gtr => some (.bool (Bool.rec (Bool.rec true false (beqN l m)) false (ltN l m)))
    | .add => Bool.rec none (some (.str (appN l m))) (Nat.ble (Nat.add (lenF l) (lenF m)) 1000000)
    | _ => none
  | _, _ => none
section
variable {P : Program} {G : World} {ρ : Slots} {L : Blocks} {ty : TypeId} {σ : Sg}
theorem bin_quoW {t : TypeId} {k : IntKind} {a b : Int} (h1 : 0 ≤ a) (h2 : 1 ≤ b) : Bin P .quo t (.int k a) (.int k b) (.int k (k.wrap (a / b))) := ⟨fun x y w => by
  have hb : b ≠ 0 := by omega
  simp [eqGuard, binOp, Op.intDiv, hb, Int.tdiv_eq_ediv_of_nonneg h1]⟩
theorem den_int {k : IntKind} {n : Int} : Den σ (.int k n) (.int k n) := by simp [Den]
theorem den_bool {b : Bool} : Den σ (.bool b) (.bool b) := by simp [Den]
theorem den_to {v : AV} {b : Value} {v' : AV} (e : v' = v) (h : Den σ v b) : Den σ v' b := e ▸ h
theorem binZ_den {o : BinOp} {t : TypeId} {k : IntKind} {a b : Int} {v : AV} (e : binZ o k a b = some v) : ∃ V, Bin P o t (.int k a) (.int k b) V ∧ Den σ v V := by
  unfold binZ at e
  split at e
  · cases e; exact ⟨_, bin_addW, den_int⟩
  · cases e; exact ⟨_, bin_subW, den_int⟩
  · cases e; exact ⟨_, bin_mulW, den_int⟩
  · cases e; exact ⟨_, bin_eql, den_bool⟩
  · cases e; exact ⟨_, bin_neq, den_bool⟩
  · cases e; exact ⟨_, bin_lss, den_bool⟩
  · cases e; exact ⟨_, bin_leq, den_bool⟩
  · cases e; exact ⟨_, bin_gtr, den_bool⟩
  · cases e; exact ⟨_, bin_geq, den_bool⟩
  · cases h : decide (b = 0) with
    | true => rw [h] at e; cases e
    | false =>
      rw [h] at e
      cases e
      have hb : b ≠ 0 := of_decide_eq_false h
      exact ⟨_, ⟨fun x y w => by simp [eqGuard, binOp, Op.intDiv, hb]⟩, den_int⟩
  · cases e
theorem beq_dec (a b : Nat) : Nat.beq a b = decide (a = b) := by
  by_cases h : a = b
  · rw [bqT h, decide_eq_true h]
  · rw [bqF h, decide_eq_false h]
theorem ble_dec (a b : Nat) : Nat.ble a b = decide (a ≤ b) := by
  by_cases h : a ≤ b
  · rw [Nat.ble_eq_true_of_le h, decide_eq_true h]
  · rw [decide_eq_false h]
    cases e : Nat.ble a b with
    | false => rfl
    | true => exact absurd (Nat.le_of_ble_eq_true e) h
theorem binI_den {o : BinOp} {t : TypeId} {k : IntKind} {a b : Nat} {v : AV} (e : binI o k a b = some v) : ∃ V, Bin P o t (.int k (Int.ofNat a)) (.int k (Int.ofNat b)) V ∧ Den σ v V := by
  unfold binI at e
  split at e
  · cases e; refine ⟨_, bin_addW, den_to (wrapN_eq ..) den_int⟩
  · cases e
    refine ⟨_, bin_subW, ?_⟩
    cases h : Nat.ble b a with
    | false => exact den_int
    | true =>
      have h' := Nat.le_of_ble_eq_true h
      have e2 : Int.ofNat (Nat.sub a b) = Int.ofNat a - Int.ofNat b := by
        show ((a - b : Nat) : Int) = (a : Int) - (b : Int)
        omega
      exact den_to (wrapN_eq ..) (by rw [e2]; exact den_int)
  · cases e; refine ⟨_, bin_mulW, den_to (wrapN_eq ..) ?_⟩
    have e2 : Int.ofNat (Nat.mul a b) = Int.ofNat a * Int.ofNat b := by
      show ((a * b : Nat) : Int) = (a : Int) * (b : Int)
      exact Int.natCast_mul a b
    rw [e2]; exact den_int
  · cases e; refine ⟨_, bin_eql, ?_⟩
    rw [beq_dec]
    refine den_to (v := .bool (Int.ofNat a == Int.ofNat b)) ?_ den_bool
    congr 1
    by_cases h : a = b
    · subst h; simp
    · have h' : Int.ofNat a ≠ Int.ofNat b := fun x => h (Int.ofNat.inj x)
      rw [decide_eq_false h]
      exact (beq_false_of_ne h').symm
  · cases e; refine ⟨_, bin_neq, den_to (v := .bool (Int.ofNat a != Int.ofNat b)) ?_ den_bool⟩
    rw [beq_dec]
    by_cases h : a = b
    · subst h; simp
    · have h' : Int.ofNat a ≠ Int.ofNat b := fun x => h (Int.ofNat.inj x)
      rw [decide_eq_false h]
      congr 1
      exact (bne_iff_ne.2 h').symm
  · cases e; refine ⟨_, bin_lss, den_to (v := .bool (decide (Int.ofNat a < Int.ofNat b))) ?_ den_bool⟩
    rw [ble_dec]; congr 1; apply decide_eq_decide.2; show a + 1 ≤ b ↔ (a : Int) < (b : Int); omega
  · cases e; refine ⟨_, bin_leq, den_to (v := .bool (decide (Int.ofNat a ≤ Int.ofNat b))) ?_ den_bool⟩
    rw [ble_dec]; congr 1; apply decide_eq_decide.2; show a ≤ b ↔ (a : Int) ≤ (b : Int); omega
  · cases e; refine ⟨_, bin_gtr, den_to (v := .bool (decide (Int.ofNat b < Int.ofNat a))) ?_ den_bool⟩
    rw [ble_dec]; congr 1; apply decide_eq_decide.2; show b + 1 ≤ a ↔ (b : Int) < (a : Int); omega
  · cases e; refine ⟨_, bin_geq, den_to (v := .bool (decide (Int.ofNat b ≤ Int.ofNat a))) ?_ den_bool⟩
    rw [ble_dec]; congr 1; apply decide_eq_decide.2; show b ≤ a ↔ (b : Int) ≤ (a : Int); omega
  · rw [beq_dec] at e
    by_cases h : b = 0
    · rw [decide_eq_true h] at e; cases e
    · rw [decide_eq_false h] at e
      cases e
      exact ⟨_, bin_rem (Int.natCast_nonneg a) (show (1 : Int) ≤ (b : Int) by omega), den_int⟩
  · rw [beq_dec] at e
    by_cases h : b = 0
    · rw [decide_eq_true h] at e; cases e
    · rw [decide_eq_false h] at e
      cases e
      exact ⟨_, bin_quoW (Int.natCast_nonneg a) (show (1 : Int) ≤ (b : Int) by omega), den_to (wrapN_eq ..) den_int⟩
  · cases e
    refine ⟨_, ⟨fun x y w => by simp [eqGuard, binOp, Op.intBits]; rfl⟩, den_to (wrapN_eq ..) ?_⟩
    rw [← pow2_eq]
    exact den_int
  · cases e
    refine ⟨_, ⟨fun x y w => by simp [eqGuard, binOp, Op.intBits]; rfl⟩, den_to (wrapN_eq ..) ?_⟩
    rw [← pow2_eq]
    exact den_int
  · cases e
    refine ⟨_, ⟨fun x y w => by simp [eqGuard, binOp, Op.intBits]; rfl⟩, den_to (wrapN_eq ..) ?_⟩
    rw [← pow2_eq]
    exact den_int
  · cases e
    refine ⟨_, ⟨fun x y w => by simp [eqGuard, binOp, Op.intBits]; rfl⟩, den_to (wrapN_eq ..) ?_⟩
    rw [← pow2_eq]
    exact den_int
  · cases e
theorem shl_den {t : TypeId} {k k' : IntKind} {a b : Int} {d : Option AV} {v : AV} (e : shA .shl k a b d = some v) : ∃ V, Bin P .shl t (.int k a) (.int k' b) V ∧ Den σ v V := by
  unfold shA at e
  dsimp only at e
  split at e
  · rename_i a b
    cases e
    refine ⟨.int k (k.wrap (Int.ofNat a * 2 ^ min b k.bits)), ⟨fun x y w => ?_⟩, den_to (wrapN_eq ..) ?_⟩
    · have hb : ¬ ((b : Int) < 0) := by omega
      simp [eqGuard, binOp, Op.shift, hb]
    · rw [minN_eq, bitsN_eq]
      have : Int.ofNat (Nat.mul a (Nat.pow 2 (min b k.bits))) = Int.ofNat a * 2 ^ min b k.bits := by
        show ((a * 2 ^ min b k.bits : Nat) : Int) = (a : Int) * 2 ^ min b k.bits
        simp
      rw [this]
      exact den_int
  · cases e
theorem shr_den {t : TypeId} {k k' : IntKind} {a b : Int} {d : Option AV} {v : AV} (e : shA .shr k a b d = some v) : ∃ V, Bin P .shr t (.int k a) (.int k' b) V ∧ Den σ v V := by
  unfold shA at e
  dsimp only at e
  split at e
  · rename_i a b
    cases e
    refine ⟨.int k ((Int.ofNat a).fdiv (2 ^ min b k.bits)), ⟨fun x y w => ?_⟩, ?_⟩
    · have hb : ¬ ((b : Int) < 0) := by omega
      simp [eqGuard, binOp, Op.shift, hb]
    · rw [minN_eq, bitsN_eq]
      have : Int.ofNat (Nat.div a (Nat.pow 2 (min b k.bits))) = (Int.ofNat a).fdiv (2 ^ min b k.bits) := by
        show ((a / 2 ^ min b k.bits : Nat) : Int) = (a : Int).fdiv (2 ^ min b k.bits)
        rw [Int.fdiv_eq_ediv_of_nonneg _ (by exact Int.pow_nonneg (by omega))]
        simp
      rw [this]
      exact den_int
  · cases e
theorem binA_den {o : BinOp} {t : TypeId} {a b v : AV} {A B : Value} (ha : Den σ a A) (hb : Den σ b B) (e : binA o a b = some v) : ∃ V, Bin P o t A B V ∧ Den σ v V := by
  unfold binA at e
  split at e
  · rename_i k a k' b
    obtain rfl : A = .int k a := by simpa [Den] using ha
    obtain rfl : B = .int k' b := by simpa [Den] using hb
    have back : Bool.rec none (binN o k a b) (decide (k = k')) = some v → ∃ V, Bin P o t (.int k a) (.int k' b) V ∧ Den σ v V := fun e => ?_
    · cases o <;> first | exact back e | exact shl_den e | exact shr_den e
    by_cases hk : k = k'
    · subst hk
      rw [decide_eq_true rfl] at e
      have e : binN o k a b = some v := e
      unfold binN at e
      split at e
      · exact binI_den e
      · exact binZ_den e
    · rw [decide_eq_false hk] at e
      cases e
  · rename_i l m
    obtain ⟨hl, rfl⟩ : (∀ b ∈ l, b < 256) ∧ A = .string (bsN l) := by simpa only [Den] using ha
    obtain ⟨hm, rfl⟩ : (∀ b ∈ m, b < 256) ∧ B = .string (bsN m) := by simpa only [Den] using hb
    split at e
    · cases e; exact ⟨_, sbin_eql, by rw [str_eq hl hm]; exact den_bool⟩
    · cases e; exact ⟨_, sbin_neq, by rw [str_eq hl hm]; cases beqN l m <;> exact den_bool⟩
    · cases e; exact ⟨_, sbin_lss, by rw [← ltN_eq hl hm]; exact den_bool⟩
    · cases e; exact ⟨_, sbin_gtr, by rw [← ltN_eq hl hm, str_eq hl hm]; cases beqN l m <;> cases ltN l m <;> exact den_bool⟩
    · cases hb : Nat.ble (Nat.add (lenF l) (lenF m)) 1000000 with
      | false => rw [hb] at e; cases e
      | true =>
        rw [hb] at e
        cases e
        have hb := Nat.le_of_ble_eq_true hb
        have hb : lenF l + lenF m ≤ 1000000 := hb
        rw [lenF_eq, lenF_eq] at hb
        refine ⟨_, sbin_add (by simp; omega), ?_⟩
        rw [appN_eq]
        simp only [Den]
        refine ⟨fun b hb => ?_, by unfold bsN; rw [List.map_append]⟩
        rcases List.mem_append.1 hb with h | h
        · exact hl b h
        · exact hm b h
    · cases e
  · cases e
end
end Go.Proofs.YtlicehodjhoamaaGreatDoor.Ev
namespace Go.Proofs.YtlicehodjhoamaaGreatDoor.Ev
open Go
set_option linter.unusedVariables false
set_option linter.unusedSimpArgs false
/-- The cells that are known of a block. -/
def AO.known : AO → Option (List AV)
  | .cells l _ => some l
  | .row l _ _ _ _ => some l
  | .rowF l _ _ => some l
  | .map _ => none
  | .it _ => none
section
variable {P : Program} {G : World} {ρ : Slots} {L : Blocks} {F : Fm} {ty : TypeId} {σ : Sg}
theorem denO_known {κ : Nat} {o : AO} {O : Obj} {l : List AV} (h : DenO σ κ o O) (hl : o.known = some l) : ∃ (M : List Value) (C : Array Value) (e : TypeId) (fr : Nat × Nat), O = .cells C e fr ∧ DenL σ l M ∧ ∀ (j : Nat) (v : Value), M[j]? = some v → C[j]? = some v := by
  cases o with
  | cells l' e =>
    cases hl
    obtain ⟨M, h1, rfl⟩ := h
    exact ⟨M, M.toArray, e, (0, 0), rfl, h1, fun j v hj => by simpa using hj⟩
  | row l' n e sz lo =>
    cases hl
    obtain ⟨M, cur, h1, rfl, _, _, _, _, _, h2⟩ := h
    refine ⟨M, cur, e, (0, 0), rfl, h1, fun j v hj => ?_⟩
    rw [← h2] at hj
    have h3 := (List.getElem?_eq_some_iff.1 hj).1
    rw [List.getElem?_take_of_lt (by simp at h3; omega)] at hj
    simpa using hj
  | rowF l' n e =>
    cases hl
    obtain ⟨M, cur, fr, h1, rfl, _, _, _, _, h2, _⟩ := h
    refine ⟨M, cur, e, fr, rfl, h1, fun j v hj => ?_⟩
    rw [← h2] at hj
    have h3 := (List.getElem?_eq_some_iff.1 hj).1
    rw [List.getElem?_take_of_lt (by simp at h3; omega)] at hj
    simpa using hj
  | map l' => cases hl
  | it i => cases hl
end
/-! ### small words -/
section
variable {α β γ : Type}
noncomputable def ob (x : Option α) (f : α → Option β) : Option β := Option.rec none f x
theorem ob_some {x : Option α} {f : α → Option β} {b : β} (h : ob x f = some b) : ∃ a, x = some a ∧ f a = some b := by
  cases x with
  | none => cases h
  | some a => exact ⟨a, rfl, h⟩
noncomputable def bo (c : Bool) (x : Option β) : Option β := Bool.rec none x c
theorem bo_some {c : Bool} {x : Option β} {b : β} (h : bo c x = some b) : c = true ∧ x = some b := by
  cases c with
  | false => cases h
  | true => exact ⟨rfl, h⟩
/-- The n-th of a list. -/
noncomputable def nth (l : List α) : Nat → Option α := List.rec (motive := fun _ => Nat → Option α) (fun _ => none) (fun x _ ih n => Bool.rec (ih (Nat.pred n)) (some x) (Nat.beq n 0)) l
theorem nth_eq : ∀ (l : List α) (n : Nat), nth l n = l[n]?
  | [], n => by simp [nth]
  | x :: l, n => by
    have h : nth (x :: l) n = Bool.rec (nth l (Nat.pred n)) (some x) (Nat.beq n 0) := rfl
    rw [h]
    cases n with
    | zero => rfl
    | succ n =>
      rw [show Nat.beq (n + 1) 0 = false from rfl]
      show nth l n = _
      rw [nth_eq l n]
      simp
noncomputable def drop (l : List α) : Nat → List α := List.rec (motive := fun _ => Nat → List α) (fun _ => []) (fun x l ih n => Bool.rec (ih (Nat.pred n)) (x :: l) (Nat.beq n 0)) l
theorem drop_eq : ∀ (l : List α) (n : Nat), drop l n = l.drop n
  | [], n => by simp [drop]
  | x :: l, n => by
    have h : drop (x :: l) n = Bool.rec (drop l (Nat.pred n)) (x :: l) (Nat.beq n 0) := rfl
    rw [h]
    cases n with
    | zero => rfl
    | succ n =>
      rw [show Nat.beq (n + 1) 0 = false from rfl]
      show drop l n = _
      rw [drop_eq l n]
      simp
/-- So many of the first, if there are so many. -/
noncomputable def takeK (l : List α) (n : Nat) (k : List α → Option β) : Option β := Nat.rec (motive := fun _ => List α → (List α → Option β) → Option β) (fun _ k => k []) (fun _ ih l k => List.rec none (fun x l _ => ih l fun r => k (x :: r)) l) n l k
theorem takeK_some : ∀ (n : Nat) (l : List α) (k : List α → Option β) {b : β}, takeK l n k = some b → n ≤ l.length ∧ k (l.take n) = some b
  | 0, l, k, b, h => ⟨Nat.zero_le _, by have h : k [] = some b := h; simpa using h⟩
  | n + 1, [], k, b, h => by cases h
  | n + 1, x :: l, k, b, h => by
    have h : takeK l n (fun r => k (x :: r)) = some b := h
    obtain ⟨h1, h2⟩ := takeK_some n l _ h
    exact ⟨by simp; omega, by simpa using h2⟩
end
section
variable {β : Type}
def AV.asPtr (v : AV) (f : Nat → Nat → Option β) : Option β := match v with
  | .ptr i o => f i o
  | _ => none
theorem asPtr_some {v : AV} {f : Nat → Nat → Option β} {b : β} (h : v.asPtr f = some b) : ∃ i o, v = .ptr i o ∧ f i o = some b := by
  cases v <;> first | exact ⟨_, _, rfl, h⟩ | cases h
def AV.asBool (v : AV) (f : Bool → Option β) : Option β := match v with
  | .bool c => f c
  | _ => none
theorem asBool_some {v : AV} {f : Bool → Option β} {b : β} (h : v.asBool f = some b) : ∃ c, v = .bool c ∧ f c = some b := by
  cases v <;> first | exact ⟨_, rfl, h⟩ | cases h
def AV.asInt (v : AV) (f : IntKind → Int → Option β) : Option β := match v with
  | .int k n => f k n
  | _ => none
theorem asInt_some {v : AV} {f : IntKind → Int → Option β} {b : β} (h : v.asInt f = some b) : ∃ k n, v = .int k n ∧ f k n = some b := by
  cases v <;> first | exact ⟨_, _, rfl, h⟩ | cases h
/-- A number that is not below zero. -/
def AV.asNat (v : AV) (f : IntKind → Nat → Option β) : Option β := match v with
  | .int k (.ofNat n) => f k n
  | _ => none
theorem asNat_some {v : AV} {f : IntKind → Nat → Option β} {b : β} (h : v.asNat f = some b) : ∃ k n, v = .int k (Int.ofNat n) ∧ f k n = some b := by
  cases v with
  | int k n => cases n <;> first | exact ⟨_, _, rfl, h⟩ | cases h
  | _ => cases h
def AV.asTup (v : AV) (f : List AV → Option β) : Option β := match v with
  | .tup l => f l
  | _ => none
theorem asTup_some {v : AV} {f : List AV → Option β} {b : β} (h : v.asTup f = some b) : ∃ l, v = .tup l ∧ f l = some b := by
  cases v <;> first | exact ⟨_, rfl, h⟩ | cases h
def AV.asAgg (v : AV) (f : List AV → Option β) : Option β := match v with
  | .agg l => f l
  | _ => none
end
/-! ### a load -/
def aggB (P : Program) (t : Nat) : Bool := match P.underlying t with
  | some (.struct _) => true
  | some (.array _ _) => true
  | _ => false
section
variable {P : Program} {ρ : Slots} {L : Blocks} {ty : TypeId}
theorem op_ldG {x : Operand} {b off : Nat} {t : TypeId} {ti : TypeInfo} {C : Array Value} {te : TypeId} {fr : Nat × Nat} (cs : List Value) (hx : ev ρ x = some (.pointer (some ⟨b, off, none⟩)))
    (ha : aggB P t = true) (hi : P.info? t = some ti) (hn : cs.length = ti.size) (hm : (b, Obj.cells C te fr) ∈ L) (hv : ∀ j v, cs[j]? = some v → C[off + j]? = some v) : OpQ P ρ L (.load t x) ty (.agg cs.toArray) :=
  ⟨fun r hr w hw o ho _ => by
    have ha' : (isAgg t).run P w = .ok true w := by
      unfold aggB at ha
      split at ha
      · rename_i hu; simp [isAgg, run_underlying hu]
      · rename_i hu; simp [isAgg, run_underlying hu]
      · cases ha
    have hc := run_loadCells_list (P := P) (w := w) ⟨b, off, none⟩ cs (fun j v hj => by rw [addr_add]; exact hw.cell hm (hv j v hj))
    simp [execOp, ho, hr _ _ hx, Instr.loadAt, Instr.sureAddr, loadVar, ha', sizeOf, typeInfo, hi, ← hn, hc]⟩
end
/-- How a load of a type goes: one cell, or so many. -/
noncomputable def ldKind (P : Program) (t : Nat) : Option (Option Nat) := match plainTy P t with
  | true => some none
  | false => match P.info? t with
    | none => none
    | some ti => match aggB P t with
      | true => some (some ti.size)
      | false => none
noncomputable def ldA (P : Program) (m : Mem) (t i o : Nat) : Option AV := ob (m.h.get i) fun b => ob b.known fun c => ob (ldKind P t) fun k => Option.rec (nth c o) (fun n => takeK (drop c o) n fun l => some (.agg l)) k
section
variable {P : Program} {G : World} {ρ : Slots} {L : Blocks} {F : Fm} {ty : TypeId} {σ : Sg}
theorem ldA_den {m : Mem} (hm : MemG σ m L) {t i o : Nat} {x : Operand} {v : AV} {y : Nat × Nat} (hx : ev ρ x = some (.pointer (some ⟨y.1, o, none⟩))) (hy : σ i = some y) (e : ldA P m t i o = some v) : ∃ V, OpQ P ρ L (.load t x) ty V ∧ Den σ v V := by
  obtain ⟨b, hb, e⟩ := ob_some e
  obtain ⟨cs, hcs, e⟩ := ob_some e
  obtain ⟨k, hk, e⟩ := ob_some e
  obtain ⟨O, h2, h3⟩ := hm i b y hb hy
  obtain ⟨M, C, te, fr, rfl, h4, h5⟩ := denO_known h2 hcs
  unfold ldKind at hk
  cases hp : plainTy P t with
  | true =>
    rw [hp] at hk
    cases hk
    have e : nth cs o = some v := e
    rw [nth_eq] at e
    obtain ⟨V, k1, k2⟩ := h4.get e
    exact ⟨V, op_ld hx hp h3 (h5 _ _ k1), k2⟩
  | false =>
    rw [hp] at hk
    dsimp only at hk
    cases hi : P.info? t with
    | none => rw [hi] at hk; cases hk
    | some ti =>
      rw [hi] at hk
      dsimp only at hk
      cases hs : aggB P t with
      | false => rw [hs] at hk; cases hk
      | true =>
        rw [hs] at hk
        cases hk
        have e : takeK (drop cs o) ti.size (fun l => some (AV.agg l)) = some v := e
        obtain ⟨e1, e2⟩ := takeK_some _ _ _ e
        rw [drop_eq] at e1 e2
        cases e2
        have hd := (h4.drop o).take ti.size
        have hL : ((M.drop o).take ti.size).length = ti.size := by rw [hd.length, List.length_take]; omega
        refine ⟨_, op_ldG ((M.drop o).take ti.size) hx hs hi hL h3 fun j u hj => h5 _ _ ?_, by simp only [Den]; exact ⟨_, hd, rfl⟩⟩
        have h6 := (List.getElem?_eq_some_iff.1 hj).1
        rw [List.getElem?_take_of_lt (by omega)] at hj
        rw [List.getElem?_drop] at hj
        exact hj
end
/-! ### conversions, indices, lengths -/
def isSlc (P : Program) (t : Nat) : Bool := match P.underlying t with
  | some (.slice _) => true
  | _ => false
def isStr (P : Program) (t : Nat) : Bool := match P.underlying t with
  | some .string => true
  | _ => false
def intTy (P : Program) (t : Nat) : Option IntKind := match P.underlying t with
  | some (.int k) => some k
  | _ => none
/-- The size of a slice's elements. -/
def eltSz (P : Program) (t : Nat) : Option Nat := match P.underlying t with
  | some (.slice e) => match P.info? e with
    | some ti => some ti.size
    | none => none
  | _ => none
def lenA (l : List Nat) : Nat := l.length
noncomputable def lenN {α : Type} (l : List α) : Nat := List.rec 0 (fun _ _ ih => Nat.succ ih) l
theorem lenN_eq {α : Type} : ∀ l : List α, lenN l = l.length
  | [] => rfl
  | _ :: l => congrArg Nat.succ (lenN_eq l)
noncomputable def lenV (P : Program) (t : Nat) (v : AV) : Option AV := match v with
  | .slc0 _ => bo (isSlc P t) (some (.int .i64 0))
  | .slc _ _ n _ => bo (isSlc P t) (some (.int .i64 (Int.ofNat n)))
  | .slcE => bo (isSlc P t) (some (.int .i64 0))
  | .str l => bo (isStr P t) (some (.int .i64 (Int.ofNat (lenN l))))
  | _ => none
noncomputable def idxV (P : Program) (t : Nat) (v w : AV) : Option AV := match v with
  | .slc i o n _ => w.asNat fun k j => bo (Nat.ble (Nat.succ j) n) (ob (eltSz P t) fun sz => some (.ptr i (Nat.add o (Nat.mul j sz))))
  | .ptr i o => w.asNat fun k j => ob (arrTy P t) fun a => bo (Nat.ble (Nat.succ j) a.1) (some (.ptr i (Nat.add o (Nat.mul j a.2))))
  | _ => none
/-- What is not nil. -/
noncomputable def nnV (v : AV) : Option AV := match v with
  | .ptr _ _ => some v
  | .ifc _ _ => some v
  | .fn _ _ => some v
  | _ => none
/-- An operation that only computes and reads. -/
noncomputable def qOp (P : Program) (s : Fr AV) (m : Mem) (op : Op) : Option AV := match op with
  | .move x => opd s x
  | .assign x => opd s x
  | .pick c a b => ob (opd s c) fun v => v.asBool fun t => Bool.rec (opd s b) (opd s a) t
  | .nilCheck x => ob (opd s x) fun v => nnV v
  | .fieldAddr t x f => ob (opd s x) fun v => v.asPtr fun i o => ob (fieldOff P t f) fun fo => some (.ptr i (Nat.add o fo))
  | .binOp o _ x y _ => ob (opd s x) fun a => ob (opd s y) fun b => binA o a b
  | .unOp o _ x => match o with
    | .not => ob (opd s x) fun v => v.asBool fun b => some (.bool (Bool.rec true false b))
    | _ => none
  | .extract x i => ob (opd s x) fun v => v.asTup fun l => nth l i
  | .load t x => ob (opd s x) fun v => v.asPtr fun i o => ldA P m t i o
  | .convert a b x => ob (opd s x) fun v => v.asInt fun k n => ob (P.underlying a) fun _ => ob (intTy P b) fun k' => some (Int.rec (fun n => wrapN k' n) (fun j => .int k' (k'.wrap (Int.negSucc j))) n)
  | .indexAddr t x i => ob (opd s x) fun v => ob (opd s i) fun w => idxV P t v w
  | .call c => match c.callee with
    | .builtin .len => match c.args, c.argTypes with
      | ⟨[x]⟩, ⟨[t]⟩ => ob (opd s x) fun v => lenV P t v
      | _, _ => none
    | _ => none
  | .makeFunc f first cap => match f, first with
    | .func i, ⟨[]⟩ => ob (opds s cap.toList) fun l => some (.fn i l)
    | _, _ => none
  | _ => none
section
variable {P : Program} {G : World} {ρ : Slots} {L : Blocks} {F : Fm} {ty : TypeId} {σ : Sg}
theorem op_mkFn {f : FuncId} {xs : List Operand} {vs : List Value} (ha : evArgs ρ xs = some vs) : OpQ P ρ L (.makeFunc (.func f) #[] xs.toArray) ty (.func (.func f) #[] vs.toArray) :=
  ⟨fun r hr w hw o ho _ => by
    have hm := evArgs_map hr xs vs ha
    simp [execOp, ho, Instr.makeFunc, hm]⟩
theorem op_idxS {x y : Operand} {b off m c sz k : Nat} {kk : IntKind} {t : TypeId} (hx : ev ρ x = some (.slice (some ⟨b, off, none⟩) m c)) (hy : ev ρ y = some (.int kk (Int.ofNat k))) (h1 : k < m) (he : eltSz P t = some sz) :
    OpQ P ρ L (.indexAddr t x y) ty (.pointer (some ⟨b, off + k * sz, none⟩)) := by
  unfold eltSz at he
  split at he
  · rename_i e hu
    split at he
    · rename_i ti hi
      cases he
      exact op_indexAddr hx hy hu hi rfl (Int.natCast_nonneg k) (show (k : Int) < (m : Int) by omega)
    · cases he
  · cases he
theorem isSlc_ok {t : Nat} (h : isSlc P t = true) : ∃ e, P.underlying t = some (.slice e) := by
  unfold isSlc at h
  split at h
  · rename_i e he; exact ⟨e, he⟩
  · cases h
theorem isStr_ok {t : Nat} (h : isStr P t = true) : P.underlying t = some .string := by
  unfold isStr at h
  split at h
  · rename_i he; exact he
  · cases h
theorem intTy_ok {t : Nat} {k : IntKind} (h : intTy P t = some k) : P.underlying t = some (.int k) := by
  unfold intTy at h
  split at h
  · rename_i he; cases h; exact he
  · cases h
theorem lenV_den {x : Operand} {t : Nat} {v r : AV} {V : Value} (h1 : ev ρ x = some V) (h2 : Den σ v V) (e : lenV P t v = some r) : ∃ R, OpQ P ρ L (.call ⟨.builtin .len, #[x], #[t]⟩) ty R ∧ Den σ r R := by
  unfold lenV at e
  split at e
  · obtain ⟨c, e⟩ := bo_some e
    cases e
    obtain ⟨el, he⟩ := isSlc_ok c
    obtain rfl : V = .slice none 0 _ := by simpa only [Den] using h2
    exact ⟨_, op_len_slice h1 he, den_int⟩
  · obtain ⟨c, e⟩ := bo_some e
    cases e
    obtain ⟨el, he⟩ := isSlc_ok c
    simp only [Den] at h2
    obtain ⟨y, _, rfl⟩ := h2
    exact ⟨_, op_len_slice h1 he, den_int⟩
  · obtain ⟨c, e⟩ := bo_some e
    cases e
    obtain ⟨el, he⟩ := isSlc_ok c
    simp only [Den] at h2
    obtain ⟨a, y, rfl⟩ := h2
    exact ⟨_, op_len_slice h1 he, den_int⟩
  · obtain ⟨c, e⟩ := bo_some e
    cases e
    simp only [Den] at h2
    obtain ⟨_, rfl⟩ := h2
    refine ⟨_, op_len_str h1 (isStr_ok c), ?_⟩
    rw [lenN_eq, List.length_map]
    exact den_int
  · cases e
theorem idxV_den {x y : Operand} {t : Nat} {v w r : AV} {V W : Value} (h1 : ev ρ x = some V) (h2 : Den σ v V) (h3 : ev ρ y = some W) (h4 : Den σ w W) (e : idxV P t v w = some r) : ∃ R, OpQ P ρ L (.indexAddr t x y) ty R ∧ Den σ r R := by
  unfold idxV at e
  split at e
  · obtain ⟨k, j, rfl, e⟩ := asNat_some e
    obtain ⟨c, e⟩ := bo_some e
    obtain ⟨sz, hs, e⟩ := ob_some e
    cases e
    simp only [Den] at h2
    obtain ⟨z, hz, rfl⟩ := h2
    obtain rfl : W = .int k (Int.ofNat j) := by simpa only [Den] using h4
    exact ⟨_, op_idxS h1 h3 (Nat.le_of_ble_eq_true c) hs, by simp only [Den]; exact ⟨z, hz, rfl⟩⟩
  · obtain ⟨k, j, rfl, e⟩ := asNat_some e
    obtain ⟨a, ha, e⟩ := ob_some e
    obtain ⟨c, e⟩ := bo_some e
    cases e
    simp only [Den] at h2
    obtain ⟨z, hz, rfl⟩ := h2
    obtain rfl : W = .int k (Int.ofNat j) := by simpa only [Den] using h4
    have hc := Nat.le_of_ble_eq_true c
    exact ⟨_, op_idxA (i := Int.ofNat j) ha h1 h3 (Int.natCast_nonneg j) (show (j : Int) < (a.1 : Int) by omega), by simp only [Den]; exact ⟨z, hz, rfl⟩⟩
  · cases e
theorem qOp_den {s : Fr AV} {m : Mem} (hs : SlR σ s ρ) (hm : MemG σ m L) {op : Op} {v : AV} (e : qOp P s m op = some v) : ∃ V, OpQ P ρ L op ty V ∧ Den σ v V := by
  unfold qOp at e
  split at e
  · obtain ⟨V, h1, h2⟩ := opd_den hs e
    exact ⟨V, op_move h1, h2⟩
  · obtain ⟨V, h1, h2⟩ := opd_den hs e
    exact ⟨V, op_assign h1, h2⟩
  · obtain ⟨c, hc, e⟩ := ob_some e
    obtain ⟨t, rfl, e⟩ := asBool_some e
    obtain ⟨C, h1, h2⟩ := opd_den hs hc
    obtain rfl : C = .bool _ := by simpa [Den] using h2
    cases t with
    | true =>
      obtain ⟨V, h3, h4⟩ := opd_den hs (show opd s _ = some v from e)
      exact ⟨V, op_pick h1 h3, h4⟩
    | false =>
      obtain ⟨V, h3, h4⟩ := opd_den hs (show opd s _ = some v from e)
      exact ⟨V, op_pick h1 h3, h4⟩
  · obtain ⟨c, hc, e⟩ := ob_some e
    obtain ⟨C, h1, h2⟩ := opd_den hs hc
    have h3 := h2
    unfold nnV at e
    split at e
    · cases e
      simp only [Den] at h2
      obtain ⟨y, _, rfl⟩ := h2
      exact ⟨_, op_nilCheck h1, h3⟩
    · cases e
      simp only [Den] at h2
      obtain ⟨y, _, rfl⟩ := h2
      exact ⟨_, ⟨fun r hr w hw o ho _ => by simp [execOp, ho, hr _ _ h1]⟩, h3⟩
    · cases e
      simp only [Den] at h2
      obtain ⟨y, _, rfl⟩ := h2
      exact ⟨_, ⟨fun r hr w hw o ho _ => by simp [execOp, ho, hr _ _ h1]⟩, h3⟩
    · cases e
  · obtain ⟨c, hc, e⟩ := ob_some e
    obtain ⟨i, o, rfl, e⟩ := asPtr_some e
    obtain ⟨fo, hf, e⟩ := ob_some e
    cases e
    obtain ⟨C, h1, h2⟩ := opd_den hs hc
    simp only [Den] at h2
    obtain ⟨y, hy, rfl⟩ := h2
    exact ⟨_, op_fld h1 hf, by simp only [Den]; exact ⟨y, hy, rfl⟩⟩
  · obtain ⟨a, hx, e⟩ := ob_some e
    obtain ⟨b, hy, e⟩ := ob_some e
    obtain ⟨A, h1, h2⟩ := opd_den hs hx
    obtain ⟨B, h3, h4⟩ := opd_den hs hy
    obtain ⟨V, h5, h6⟩ := binA_den (P := P) h2 h4 e
    exact ⟨V, op_bin h1 h3 h5, h6⟩
  · split at e
    · obtain ⟨c, hc, e⟩ := ob_some e
      obtain ⟨b, rfl, e⟩ := asBool_some e
      cases e
      obtain ⟨A, h1, h2⟩ := opd_den hs hc
      obtain rfl : A = .bool _ := by simpa [Den] using h2
      exact ⟨_, op_not h1, by cases b <;> exact den_bool⟩
    · cases e
  · obtain ⟨c, hc, e⟩ := ob_some e
    obtain ⟨l, rfl, e'⟩ := asTup_some e
    obtain ⟨A, h1, h2⟩ := opd_den hs hc
    simp only [Den] at h2
    obtain ⟨M, h3, rfl⟩ := h2
    rw [nth_eq] at e'
    obtain ⟨V, h4, h5⟩ := h3.get e'
    exact ⟨V, op_extract h1 (by simpa using h4), h5⟩
  · obtain ⟨c, hc, e⟩ := ob_some e
    obtain ⟨i, o, rfl, e⟩ := asPtr_some e
    obtain ⟨A, h1, h2⟩ := opd_den hs hc
    simp only [Den] at h2
    obtain ⟨y, hy, rfl⟩ := h2
    exact ldA_den hm h1 hy e
  · obtain ⟨c, hc, e⟩ := ob_some e
    obtain ⟨k, n, rfl, e⟩ := asInt_some e
    obtain ⟨d, ha, e⟩ := ob_some e
    obtain ⟨k', hb, e⟩ := ob_some e
    cases e
    obtain ⟨A, h1, h2⟩ := opd_den hs hc
    obtain rfl : A = .int _ _ := by simpa [Den] using h2
    refine ⟨_, op_conv_intW h1 ha (intTy_ok hb), den_to ?_ den_int⟩
    cases n with
    | ofNat n => exact wrapN_eq k' n
    | negSucc n => rfl
  · obtain ⟨a, hx, e⟩ := ob_some e
    obtain ⟨b, hy, e⟩ := ob_some e
    obtain ⟨A, h1, h2⟩ := opd_den hs hx
    obtain ⟨B, h3, h4⟩ := opd_den hs hy
    exact idxV_den h1 h2 h3 h4 e
  · rename_i c
    obtain ⟨callee, args, ats⟩ := c
    dsimp only at e
    split at e
    · split at e
      · obtain ⟨a, hx, e⟩ := ob_some e
        obtain ⟨A, h1, h2⟩ := opd_den hs hx
        exact lenV_den h1 h2 e
      · cases e
    · cases e
  · split at e
    · obtain ⟨l, hl, e⟩ := ob_some e
      cases e
      obtain ⟨Vs, h1, h2⟩ := opds_den hs hl
      exact ⟨_, op_mkFn h1, by simp only [Den]; exact ⟨Vs, h2, rfl⟩⟩
    · cases e
  · cases e
end
end Go.Proofs.YtlicehodjhoamaaGreatDoor.Ev
namespace Go.Proofs.YtlicehodjhoamaaGreatDoor.Ev
open Go Go.RowKit
set_option linter.unusedVariables false
set_option linter.unusedSimpArgs false
section
variable {G : World} {P : Program} {n : Nat} {ρ : Slots} {L : Blocks} {ty : TypeId}
theorem op_callV {f : FuncId} {x : Operand} {xs : List Operand} {ats : Array TypeId} {vs cap : List Value} {Φ : Value → Blocks → Prop} (hb : hasBody P f = true) (hx : ev ρ x = some (.func (.func f) #[] cap.toArray)) (ha : evArgs ρ xs = some vs) (h : Spec P G f (vs ++ cap).toArray L Φ) :
    OpT P G ρ L (.call ⟨.value x, xs.toArray, ats⟩) ty Φ :=
  ⟨fun r hr w hw o ho _ => by
    have hm := evArgs_map hr xs vs ha
    have hrf := hr _ _ hx
    have : execOp r o = callFunc f (vs ++ cap).toArray := by
      simp only [execOp, ho, resolve, hrf, Deferred.ofValue]
      show invoke (.fn (.func f) cap.toArray) _ = _
      simp only [invoke, List.map_toArray, hm]
      simp
    rw [this, run_callFunc hb]
    refine (h.out w hw).mono fun e w' ⟨v, L', h1, h2, h3⟩ => ⟨v, h1, L', h2, h3⟩⟩
end
end Go.Proofs.YtlicehodjhoamaaGreatDoor.Ev
namespace Go.Proofs.YtlicehodjhoamaaGreatDoor.Ev
open Go
set_option linter.unusedVariables false
set_option linter.unusedSimpArgs false
section
variable {P : Program} {G : World} {ρ : Slots} {L : Blocks} {op : Op} {ty : TypeId}
theorem OpT_postN {Φ Ψ : Value → Blocks → Prop} (h : OpT P G ρ L op ty Φ) (hp : ∀ v M, Φ v M → (M.map (·.1)).Nodup → Ψ v M) : OpT P G ρ L op ty Ψ :=
  ⟨fun r hr w hw o ho ht => Outcome.mono (fun v w' ⟨M, h1, h2⟩ => ⟨M, hp v M h1 h2.nodup, h2⟩) (h.out r hr w hw o ho ht)⟩
end
/-- What a call comes to. -/
abbrev FunE := Nat → List AV → Mem → Option (AV × Mem)
/-- What an operation leaves. -/
def Post (σ : Sg) (v : AV) (m' : Mem) (F : Fm) (u : Value) (M : Blocks) : Prop := ∃ σ' : Sg, σ.le σ' ∧ Den σ' v u ∧ MemR σ' m' F M
/-- The calls are right. -/
def FunOk (P : Program) (E : FunE) : Prop := ∀ {G : World} {i : Nat} {args : List AV} {m : Mem} {v : AV} {m' : Mem} {σ : Sg} {As : List Value} {F : Fm} {L : Blocks}, E i args m = some (v, m') → DenL σ args As → MemR σ m F L → Spec P G i As.toArray L (Post σ v m' F)
def cellsA : AV → Option (List AV)
  | .agg l => some l
  | .tup _ => none
  | .und => none
  | v => some [v]
def oneA : AV → Bool
  | .agg _ => false
  | .tup _ => false
  | .und => false
  | _ => true
section
variable {P : Program} {G : World} {ρ : Slots} {L : Blocks} {F : Fm} {ty : TypeId} {σ : Sg}
theorem one_den {v : AV} {V : Value} (h : Den σ v V) (k : oneA v = true) : V.oneCell' = true := by
  cases v <;> first
    | (simp [oneA] at k; done)
    | (simp only [Den] at h; first | (subst h; rfl) | (obtain ⟨_, rfl⟩ := h; rfl) | (obtain ⟨_, _, rfl⟩ := h; rfl))
theorem cells_den {v : AV} {V : Value} {l : List AV} (h : Den σ v V) (k : cellsA v = some l) : ∃ M : List Value, DenL σ l M ∧ V.cells = M.toArray := by
  have hs : oneA v = true → l = [v] → ∃ M : List Value, DenL σ l M ∧ V.cells = M.toArray := fun h1 h2 => by
    have h3 := one_den h h1
    subst h2
    exact ⟨[V], .cons h .nil, by cases V <;> first | rfl | (simp [Value.oneCell'] at h3)⟩
  cases v with
  | agg m =>
    cases k
    simp only [Den] at h
    obtain ⟨M, h1, rfl⟩ := h
    exact ⟨M, h1, rfl⟩
  | tup m => cases k
  | und => cases k
  | _ => cases k; exact hs rfl rfl
theorem fresh_of {b : Nat} {O : Obj} (h : (((b, O) :: L).map (·.1)).Nodup) : ∀ p ∈ L, p.1 ≠ b := fun p hp e => by
  rw [List.map_cons, List.nodup_cons] at h
  exact h.1 (List.mem_map.2 ⟨p, hp, e⟩)
theorem und_den {V : Value} : Den σ .und V := by simp only [Den]
end
/-- A block is laid: its number, the memory. -/
noncomputable def newK {β : Type} (m : Mem) (o : AO) (f : Nat → Mem → Option β) : Option β := bo (Nat.ble m.nx 999998) (Tr.setK 20 m.h m.nx o fun h => f m.nx ⟨h, Nat.succ m.nx⟩)
theorem newK_some {β : Type} {m : Mem} {o : AO} {f : Nat → Mem → Option β} {b : β} (e : newK m o f = some b) : m.nx + 1 < 1000000 ∧ f m.nx ⟨m.h.set 20 m.nx o, m.nx + 1⟩ = some b := by
  obtain ⟨h, e⟩ := bo_some e
  rw [Tr.setK_eq] at e
  have := Nat.le_of_ble_eq_true h
  exact ⟨by omega, e⟩
/-- A block is written. -/
noncomputable def putK {β : Type} (m : Mem) (i : Nat) (o : AO) (f : Mem → Option β) : Option β := bo (Nat.ble i 999998) (Tr.setK 20 m.h i o fun h => f ⟨h, m.nx⟩)
theorem putK_some {β : Type} {m : Mem} {i : Nat} {o : AO} {f : Mem → Option β} {b : β} (e : putK m i o f = some b) : i + 1 < 1000000 ∧ f ⟨m.h.set 20 i o, m.nx⟩ = some b := by
  obtain ⟨h, e⟩ := bo_some e
  rw [Tr.setK_eq] at e
  have := Nat.le_of_ble_eq_true h
  exact ⟨by omega, e⟩
/-- How a new block is told. -/
inductive Shp where
  | ptr
  | slc (n : Nat) (c : Cp)
  | mp
def Shp.av : Shp → Nat → AV
  | .ptr, i => .ptr i 0
  | .slc n c, i => .slc i 0 n c
  | .mp, i => .mp i
def Shp.val : Shp → Nat → Nat → Value
  | .ptr, b, _ => .pointer (some ⟨b, 0, none⟩)
  | .slc n c, b, κ => .slice (some ⟨b, 0, none⟩) n (c.of κ)
  | .mp, b, _ => .map (some b)
theorem Shp.den {σ : Sg} {i b κ : Nat} (h : σ i = some (b, κ)) (sh : Shp) : Den σ (sh.av i) (sh.val b κ) := by
  cases sh with
  | ptr => simp only [Shp.av, Den]; exact ⟨(b, κ), h, rfl⟩
  | slc n c => simp only [Shp.av, Den]; exact ⟨(b, κ), h, rfl⟩
  | mp => simp only [Shp.av, Den]; exact ⟨(b, κ), h, rfl⟩
/-- What an operation that lays a block leaves. -/
def SoftPost (σ : Sg) (o : AO) (sh : Shp) (L : Blocks) (u : Value) (M : Blocks) : Prop := ∃ (b κ : Nat) (O : Obj), u = sh.val b κ ∧ M = (b, O) :: L ∧ DenO σ κ o O
noncomputable def soft1 (P : Program) (s : Fr AV) (op : Op) : Option (AO × Shp) := match op with
  | .alloc t => ob (zeroOf P t) fun z => some (.cells (ofL z.cells.toList) t, .ptr)
  | .box t x => ob (opd s x) fun v => ob (cellsA v) fun l => some (.cells l t, .ptr)
  | _ => none
section
variable {P : Program} {G : World} {ρ : Slots} {L : Blocks} {F : Fm} {ty : TypeId} {σ : Sg}
theorem soft1_den {s : Fr AV} (hs : SlR σ s ρ) {op : Op} {o : AO} {sh : Shp} (e : soft1 P s op = some (o, sh)) : OpT P G ρ L op ty (SoftPost σ o sh L) := by
  unfold soft1 at e
  split at e
  · obtain ⟨z, hz, e⟩ := ob_some e
    cases e
    refine (op_alloc (C := z.cells.toList.toArray) hz (by simp)).post ?_
    rintro _ _ ⟨b, rfl, rfl⟩
    exact ⟨_, ⟨b, 0, _, rfl, rfl, _, ofL_den σ _, rfl⟩, fun w hw => hw⟩
  · obtain ⟨v, hx, e⟩ := ob_some e
    obtain ⟨l, hc, e⟩ := ob_some e
    cases e
    obtain ⟨U, h1, h2⟩ := opd_den hs hx
    obtain ⟨M, h3, h4⟩ := cells_den h2 hc
    refine (op_box h1 h4).post ?_
    rintro _ _ ⟨b, rfl, rfl⟩
    exact ⟨_, ⟨b, 0, _, rfl, rfl, _, h3, rfl⟩, fun w hw => hw⟩
  · cases e
theorem new_post {op : Op} {m : Mem} (hm : MemR σ m F L) (hn : m.nx + 1 < 1000000) {o : AO} {sh : Shp} (h : OpT P G ρ L op ty (SoftPost σ o sh L)) : OpT P G ρ L op ty (Post σ (sh.av m.nx) ⟨m.h.set 20 m.nx o, m.nx + 1⟩ F) := by
  refine OpT_postN h ?_
  rintro _ _ ⟨b, κ, O, rfl, rfl, hO⟩ hd
  have hf := hm.fresh m.nx (Nat.le_refl _)
  exact ⟨σ.put m.nx b κ, Sg.put_le hf, Shp.den (if_pos rfl) sh, hm.new (fresh_of hd) (by omega) (hO.mono (Sg.put_le hf))⟩
end
/-- A list with another at a place. -/
noncomputable def setL {α : Type} (l : List α) : Nat → α → List α := List.rec (motive := fun _ => Nat → α → List α) (fun _ _ => []) (fun y l ih n x => Bool.rec (y :: ih (Nat.pred n) x) (x :: l) (Nat.beq n 0)) l
/-- So many put into a list from a place on; none if there is no room. -/
noncomputable def putsK {α β : Type} (l : List α) : Nat → List α → (List α → Option β) → Option β := List.rec (motive := fun _ => Nat → List α → (List α → Option β) → Option β) (fun _ vs k => List.rec (k []) (fun _ _ _ => none) vs)
  (fun y l ih n vs k => List.rec (motive := fun _ => Option β) (k (y :: l)) (fun v r _ => Bool.rec (ih (Nat.pred n) vs fun l => k (y :: l)) (ih 0 r fun l => k (v :: l)) (Nat.beq n 0)) vs) l
/-- In plain words. -/
def puts {α : Type} : List α → Nat → List α → Option (List α)
  | l, _, [] => some l
  | [], _, _ :: _ => none
  | _ :: l, 0, v :: r => (puts l 0 r).map (v :: ·)
  | y :: l, n + 1, v :: r => (puts l n (v :: r)).map (y :: ·)
theorem putsK_some {α β : Type} : ∀ (l : List α) (n : Nat) (vs : List α) (k : List α → Option β) {b : β}, putsK l n vs k = some b → ∃ r, puts l n vs = some r ∧ k r = some b
  | [], n, [], k, b, h => ⟨[], by simp [puts], h⟩
  | [], n, v :: r, k, b, h => by cases h
  | y :: l, n, [], k, b, h => ⟨y :: l, by simp [puts], h⟩
  | y :: l, 0, v :: r, k, b, h => by
    obtain ⟨r', h1, h2⟩ := putsK_some l 0 r _ h
    exact ⟨v :: r', by simp [puts, h1], h2⟩
  | y :: l, n + 1, v :: r, k, b, h => by
    obtain ⟨r', h1, h2⟩ := putsK_some l n (v :: r) _ h
    exact ⟨y :: r', by simp [puts, h1], h2⟩
theorem puts_len {α : Type} : ∀ (l : List α) (n : Nat) (vs : List α) {r : List α}, puts l n vs = some r → r.length = l.length ∧ (vs = [] ∨ n + vs.length ≤ l.length)
  | l, n, [], r, h => by
    have : r = l := by cases l <;> simpa [puts] using h.symm
    exact ⟨by rw [this], Or.inl rfl⟩
  | [], n, v :: vs, r, h => by simp [puts] at h
  | y :: l, 0, v :: vs, r, h => by
    simp only [puts, Option.map_eq_some_iff] at h
    obtain ⟨q, h1, rfl⟩ := h
    obtain ⟨h2, h3⟩ := puts_len l 0 vs h1
    refine ⟨by simp [h2], Or.inr ?_⟩
    rcases h3 with rfl | h3
    · simp
    · simp; omega
  | y :: l, n + 1, v :: vs, r, h => by
    simp only [puts, Option.map_eq_some_iff] at h
    obtain ⟨q, h1, rfl⟩ := h
    obtain ⟨h2, h3⟩ := puts_len l n (v :: vs) h1
    refine ⟨by simp [h2], Or.inr ?_⟩
    rcases h3 with h3 | h3
    · cases h3
    · simp at h3 ⊢; omega
theorem denL_puts {σ : Sg} : ∀ {l : List AV} {n : Nat} {vs r : List AV} {L Vs : List Value}, puts l n vs = some r → DenL σ l L → DenL σ vs Vs → ∃ R, puts L n Vs = some R ∧ DenL σ r R
  | l, n, [], r, L, Vs, h, k1, k2 => by
    have : r = l := by cases l <;> simpa [puts] using h.symm
    rw [this, k2.inv0]
    exact ⟨L, by cases L <;> simp [puts], k1⟩
  | [], n, v :: vs, r, L, Vs, h, k1, k2 => by simp [puts] at h
  | y :: l, 0, v :: vs, r, L, Vs, h, k1, k2 => by
    simp only [puts, Option.map_eq_some_iff] at h
    obtain ⟨q, h1, rfl⟩ := h
    obtain ⟨Y, M, rfl, a1, a2⟩ := k1.inv
    obtain ⟨V, N, rfl, b1, b2⟩ := k2.inv
    obtain ⟨R, c1, c2⟩ := denL_puts h1 a2 b2
    exact ⟨V :: R, by simp [puts, c1], .cons b1 c2⟩
  | y :: l, n + 1, v :: vs, r, L, Vs, h, k1, k2 => by
    simp only [puts, Option.map_eq_some_iff] at h
    obtain ⟨q, h1, rfl⟩ := h
    obtain ⟨Y, M, rfl, a1, a2⟩ := k1.inv
    obtain ⟨R, c1, c2⟩ := denL_puts h1 a2 k2
    obtain ⟨V, N, rfl, b1, b2⟩ := k2.inv
    exact ⟨Y :: R, by simp [puts, c1], .cons a1 c2⟩
theorem puts_putAt {α : Type} : ∀ (l : List α) (n : Nat) (vs : List α) {r : List α}, puts l n vs = some r → r = l.take n ++ vs ++ l.drop (n + vs.length)
  | l, n, [], r, h => by
    have : r = l := by cases l <;> simpa [puts] using h.symm
    rw [this]; simp
  | [], n, v :: vs, r, h => by simp [puts] at h
  | y :: l, 0, v :: vs, r, h => by
    simp only [puts, Option.map_eq_some_iff] at h
    obtain ⟨q, h1, rfl⟩ := h
    have ih := puts_putAt l 0 vs h1
    rw [ih]; simp
  | y :: l, n + 1, v :: vs, r, h => by
    simp only [puts, Option.map_eq_some_iff] at h
    obtain ⟨q, h1, rfl⟩ := h
    have ih := puts_putAt l n (v :: vs) h1
    rw [ih]
    simp only [List.take_succ_cons, List.cons_append, List.length_cons]
    rw [show n + 1 + (vs.length + 1) = (n + (vs.length + 1)) + 1 by omega, List.drop_succ_cons]
def sizeIs (P : Program) (t k : Nat) : Bool := match P.info? t with
  | some i => Nat.beq i.size k
  | none => false
def stCells (v : AV) : List AV := match v with
  | .agg l => l
  | v => [v]
noncomputable def allOneA (l : List AV) : Bool := List.rec true (fun v _ ih => Bool.rec false ih (oneA v)) l
noncomputable def storeA (P : Program) (m : Mem) (t i o : Nat) (v : AV) : Option Mem := ob (m.h.get i) fun b => bo (Nat.ble 1 (lenN (stCells v)) && sizeIs P t (lenN (stCells v))) (bo (allOneA (stCells v)) (match b with
  | .cells l e => putsK l o (stCells v) fun l => putK m i (.cells l e) some
  | .row l n e sz lo => putsK l o (stCells v) fun l => putK m i (.row l n e sz lo) some
  | .rowF l n e => putsK l o (stCells v) fun l => putK m i (.rowF l n e) some
  | .map _ => none
  | .it _ => none))
theorem run_storeCells_fr (P : Program) (g o : Nat) (t : TypeId) (fz : Nat × Nat) : ∀ (vs : List Value) (i : Nat) (cur : Array Value) (w : World), w.heap[g]? = some (.cells cur t fz) → (fz = (0, 0) ∨ o + i + vs.length ≤ fz.1) → o + i + vs.length ≤ cur.size → (∀ v ∈ vs, v.oneCell' = true) →
    (storeCells ⟨g, o, none⟩ vs i).run P w = .ok () (w.setRow g (cur.toList.take (o + i) ++ vs ++ cur.toList.drop (o + i + vs.length)).toArray)
  | [], i, cur, w, hg, _, _, _ => by
    simp only [storeCells, List.append_nil, List.length_nil, Nat.add_zero, List.take_append_drop, Array.toArray_toList]
    rw [setRow_self w g cur t fz hg]
    rfl
  | v :: rest, i, cur, w, hg, hfz, hl, h1 => by
    have hi : o + i < cur.size := by simp at hl; omega
    have hadd : (⟨g, o, none⟩ : Addr).add i = ⟨g, o + i, none⟩ := by unfold Addr.add; split <;> simp_all
    have hcell : w.cell? ⟨g, o + i, none⟩ = some cur[o + i] := by simp [World.cell?, hg, hi]
    have hfro : w.frozen? ⟨g, o + i, none⟩ = false := by
      obtain ⟨lo, hi'⟩ := fz
      simp only [World.frozen?, hg, Bool.and_eq_false_iff, decide_eq_false_iff_not]
      rcases hfz with h | h
      · cases h; right; omega
      · left; simp at h; omega
    have hst : (store ((⟨g, o, none⟩ : Addr).add i) v).run P w = .ok () (w.setRow g (cur.setIfInBounds (o + i) v)) := by
      rw [hadd, run_store P w _ v _ (h1 v (by simp)), hcell]
      simp [hfro, setCell_eq_setRow w g (o + i) cur t fz v hg]
    have ih := run_storeCells_fr P g o t fz rest (i + 1) (cur.setIfInBounds (o + i) v) (w.setRow g (cur.setIfInBounds (o + i) v)) (setRow_heap w g cur _ t _ hg) (by
      rcases hfz with h | h
      · exact Or.inl h
      · right; simp at h; omega) (by simp at hl ⊢; omega) (fun x hx => h1 x (by simp [hx]))
    simp only [storeCells, Sem.run_bind, hst, Result.andThen_ok, ih, setRow_setRow]
    congr 3
    have e := list_seg_step cur.toList (o + i) v rest (by simp at hl ⊢; omega)
    simpa [Array.toList_setIfInBounds, Nat.add_assoc] using e
section
variable {P : Program} {G : World} {ρ : Slots} {L : Blocks} {F : Fm} {ty : TypeId} {σ : Sg}
/-- A store of so many cells. -/
theorem op_stW {x y : Operand} {b off : Nat} {t : TypeId} {C : Array Value} {te : TypeId} {fr : Nat × Nat} {V : Value} {cs : List Value} (hx : ev ρ x = some (.pointer (some ⟨b, off, none⟩))) (hy : ev ρ y = some V) (hc : V.cells = cs.toArray)
    (ht : sizeIs P t cs.length = true) (hone : ∀ v ∈ cs, v.oneCell' = true) (hv : off + cs.length ≤ C.size) (hfr : fr = (0, 0) ∨ C.size ≤ fr.1) : OpV P G ρ ((b, Obj.cells C te fr) :: L) (.store t x y) ty undef ((b, Obj.cells (putAt C off cs) te fr) :: L) :=
  ⟨fun r hr w hw o ho _ => by
    unfold sizeIs at ht
    cases hi : P.info? t with
    | none => simp [hi] at ht
    | some i =>
      rw [hi] at ht
      have ht := Nat.eq_of_beq_eq_true ht
      have hb := hw.get _ (List.mem_cons_self ..)
      have hs := run_storeCells_fr P b off te fr cs 0 C w hb (by rcases hfr with h | h; exact Or.inl h; right; omega) (by simpa using hv) hone
      have hrun : (execOp r o).run P w = .ok .skip (w.setRow b (putAt C off cs)) := by
        simp only [execOp, ho, hr _ _ hx, hr _ _ hy]
        simp [Instr.storeAt, Instr.sureAddr, storeVar, sizeOf, typeInfo, hi, ht, hc, hs, putAt]
      rw [hrun]
      exact ⟨_, ⟨rfl, rfl⟩, hw.update ⟨rfl, rfl, rfl, by simp [World.setRow]⟩ (setRow_heap w b C _ te fr hb) (fun j hj hne => by simp [World.setRow, Array.getElem?_modify, Ne.symm hne])⟩⟩
theorem allOne_den : ∀ {l : List AV} {M : List Value}, DenL σ l M → allOneA l = true → ∀ V ∈ M, V.oneCell' = true
  | [], M, h, _ => by rw [h.inv0]; intro V hV; cases hV
  | v :: l, M, h, k => by
    obtain ⟨U, N, rfl, h1, h2⟩ := h.inv
    have k : Bool.rec false (allOneA l) (oneA v) = true := k
    cases ho : oneA v with
    | false => rw [ho] at k; cases k
    | true =>
      rw [ho] at k
      intro V hV
      rcases List.mem_cons.1 hV with rfl | hV
      · exact one_den h1 ho
      · exact allOne_den h2 k V hV
theorem stCells_den {v : AV} {V : Value} (h : Den σ v V) (k : allOneA (stCells v) = true) : ∃ M : List Value, DenL σ (stCells v) M ∧ V.cells = M.toArray := by
  have hs : stCells v = [v] → ∃ M : List Value, DenL σ (stCells v) M ∧ V.cells = M.toArray := fun e => by
    rw [e] at k ⊢
    have k : Bool.rec false true (oneA v) = true := k
    cases ho : oneA v with
    | false => rw [ho] at k; cases k
    | true =>
      have h3 := one_den h ho
      exact ⟨[V], .cons h .nil, by cases V <;> first | rfl | (simp [Value.oneCell'] at h3)⟩
  cases v with
  | agg m =>
    simp only [Den] at h
    obtain ⟨M, h1, rfl⟩ := h
    exact ⟨M, h1, rfl⟩
  | _ => exact hs rfl
theorem storeA_den {s : Fr AV} {m m' : Mem} (hs : SlR σ s ρ) (hm : MemR σ m F L) {t i o : Nat} {x y : Operand} {v : AV} (hx : opd s x = some (.ptr i o)) (hy : opd s y = some v) (e : storeA P m t i o v = some m') : OpT P G ρ L (.store t x y) ty (Post σ .und m' F) := by
  obtain ⟨b, hg, e⟩ := ob_some e
  obtain ⟨hsz, e⟩ := bo_some e
  obtain ⟨ho, e⟩ := bo_some e
  obtain ⟨X, hx1, hx2⟩ := opd_den hs hx
  simp only [Den] at hx2
  obtain ⟨z, hz, rfl⟩ := hx2
  obtain ⟨V, hy1, hy2⟩ := opd_den hs hy
  obtain ⟨O, hO, hOL⟩ := hm.get i _ z hg hz
  obtain ⟨Vs, hVs, hcs⟩ := stCells_den hy2 ho
  have hone := allOne_den hVs ho
  rw [lenN_eq, ← hVs.length, Bool.and_eq_true] at hsz
  obtain ⟨h1V, hsz⟩ := hsz
  have h1V := Nat.le_of_ble_eq_true h1V
  obtain ⟨A, B, hAB⟩ := List.append_of_mem hOL
  have hp : ∀ q, q = (z.1, O) → L.Perm (q :: (A ++ B)) := fun q hq => by rw [hAB, hq]; exact List.perm_middle
  have main : ∀ (C : Array Value) (te : TypeId) (ao : AO) (fr : Nat × Nat), (fr = (0, 0) ∨ C.size ≤ fr.1) → O = .cells C te fr → o + Vs.length ≤ C.size → DenO σ z.2 ao (.cells (putAt C o Vs) te fr) → i + 1 < 1000000 → m' = ⟨m.h.set 20 i ao, m.nx⟩ → OpT P G ρ L (.store t x y) ty (Post σ .und m' F) := fun C te ao fr h0 h1 h2 h3 h4 h5 => by
    subst h1 h5
    refine OpT.heap (fun w hw => hw.perm (hp _ rfl)) ((op_stW hx1 hy1 hcs hsz hone h2 h0).post fun v' M' ⟨e1, e2⟩ => ⟨M', ?_, fun w hw => hw⟩)
    subst e2
    exact ⟨σ, σ.le_refl, und_den, hm.write hg hz (hp _ rfl) (by omega) h3⟩
  cases b with
  | cells l te =>
    obtain ⟨r, hr, e⟩ := putsK_some _ _ _ _ e
    obtain ⟨hi, e⟩ := putK_some e
    cases e
    obtain ⟨M, hM, rfl⟩ := hO
    obtain ⟨R, hR1, hR2⟩ := denL_puts hr hM hVs
    have hlen := (puts_len _ _ _ hR1).2
    refine main _ te (.cells r te) _ (Or.inl rfl) rfl ?_ ⟨_, hR2, ?_⟩ hi rfl
    · rcases hlen with h | h
      · rw [h] at h1V; simp at h1V
      · simpa using h
    · rw [puts_putAt _ _ _ hR1]; simp [putAt]
  | row l n te sz lo =>
    obtain ⟨r, hr, e⟩ := putsK_some _ _ _ _ e
    obtain ⟨hi, e⟩ := putK_some e
    cases e
    obtain ⟨M, cur, hM, rfl, q1, q2, q6, q3, q4, q5⟩ := hO
    obtain ⟨R, hR1, hR2⟩ := denL_puts hr hM hVs
    have hlen := (puts_len _ _ _ hR1).2
    have hlen : o + Vs.length ≤ M.length := by
      rcases hlen with h | h
      · rw [h] at h1V; simp at h1V
      · exact h
    have hML : M.length = n * sz := by rw [hM.length]; exact q1
    have hcur : n * sz ≤ cur.size := by rw [q4]; exact Nat.mul_le_mul_right sz q2
    refine main _ te (.row r n te sz lo) _ (Or.inl rfl) rfl (by omega) ⟨R, _, hR2, rfl, by rw [← hR2.length, (puts_len _ _ _ hR1).1]; exact hML, q2, q6, q3, by rw [← q4]; simp [putAt]; omega, ?_⟩ hi rfl
    rw [puts_putAt _ _ _ hR1, ← q5]
    simp only [putAt]
    rw [List.take_append, List.take_append, List.take_take, List.drop_take, List.take_take]
    simp only [List.length_take, List.length_append, Array.length_toList]
    have e1 : min o cur.size = o := by omega
    have e2 : min (n * sz) o = min o (n * sz) := Nat.min_comm _ _
    rw [e1, e2]
    rw [List.take_of_length_le (l := Vs) (by omega)]
  | rowF l n te =>
    obtain ⟨r, hr, e⟩ := putsK_some _ _ _ _ e
    obtain ⟨hi, e⟩ := putK_some e
    cases e
    obtain ⟨M, cur, fr, hM, rfl, q1, q2, q3, q4, q5, q7⟩ := hO
    obtain ⟨R, hR1, hR2⟩ := denL_puts hr hM hVs
    have hlen := (puts_len _ _ _ hR1).2
    have hlen : o + Vs.length ≤ M.length := by
      rcases hlen with h | h
      · rw [h] at h1V; simp at h1V
      · exact h
    have hML : M.length = n := by rw [hM.length]; exact q1
    have hcur : n ≤ cur.size := by rw [q4]; exact q2
    refine main _ te (.rowF r n te) fr (by rw [q4]; exact q7) rfl (by omega) ⟨R, _, fr, hR2, rfl, by rw [← hR2.length, (puts_len _ _ _ hR1).1]; exact hML, q2, q3, by rw [← q4]; simp [putAt]; omega, ?_, q7⟩ hi rfl
    rw [puts_putAt _ _ _ hR1, ← q5]
    simp only [putAt]
    rw [List.take_append, List.take_append, List.take_take, List.drop_take, List.take_take]
    simp only [List.length_take, List.length_append, Array.length_toList]
    have e1 : min o cur.size = o := by omega
    have e2 : min (n) o = min o (n) := Nat.min_comm _ _
    rw [e1, e2]
    rw [List.take_of_length_le (l := Vs) (by omega)]
  | map l' => cases e
  | it i => cases e
end
end Go.Proofs.YtlicehodjhoamaaGreatDoor.Ev
namespace Go.Proofs.YtlicehodjhoamaaGreatDoor
open Go.RowKit
set_option linter.unusedVariables false
set_option linter.unusedSimpArgs false
variable {G : World} {P : Program} {n : Nat} {ρ : Slots} {L : Blocks} {ty : TypeId} {Q : Exit → Act → World → Prop}
theorem op_min {x y : Operand} {k k' : IntKind} {a b : Int} {ts : Array TypeId} (hx : ev ρ x = some (.int k a)) (hy : ev ρ y = some (.int k' b)) : OpQ P ρ L (.call ⟨.builtin .min, #[x, y], ts⟩) ty (.int k (min a b)) :=
  ⟨fun r hr w hw o ho _ => by simp [execOp, ho, hr _ _ hx, hr _ _ hy, resolve, invoke, builtin, Lib.run_min_ints, Result.andThen]⟩
theorem op_max {x y : Operand} {k k' : IntKind} {a b : Int} {ts : Array TypeId} (hx : ev ρ x = some (.int k a)) (hy : ev ρ y = some (.int k' b)) : OpQ P ρ L (.call ⟨.builtin .max, #[x, y], ts⟩) ty (.int k (max a b)) :=
  ⟨fun r hr w hw o ho _ => by simp [execOp, ho, hr _ _ hx, hr _ _ hy, resolve, invoke, builtin, Lib.run_max_ints, Result.andThen]⟩
theorem least {S : Nat → Prop} (h : ∃ m, S m) : ∃ m, S m ∧ ∀ k, S k → m ≤ k := by
  obtain ⟨m, hm⟩ := h
  induction m using Nat.strongRecOn with
  | _ m ih =>
    by_cases hk : ∃ k, k < m ∧ S k
    · obtain ⟨k, h1, h2⟩ := hk
      exact ih k h1 h2
    · exact ⟨m, hm, fun k hk' => Nat.le_of_not_lt fun hlt => hk ⟨k, hlt, hk'⟩⟩
open Classical in
noncomputable def leastOf (S : Nat → Prop) : Nat := if h : ∃ m, S m then Classical.choose (least h) else 0
end Go.Proofs.YtlicehodjhoamaaGreatDoor
namespace Go.Proofs.YtlicehodjhoamaaGreatDoor.Ev
open Go
set_option linter.unusedVariables false
set_option linter.unusedSimpArgs false
/-! ### structs and arrays out of parts -/
noncomputable def sizesF (P : Program) (fs : List Field) : Option (List (Nat × Nat)) := List.rec (some []) (fun f _ ih => ob (P.info? f.type) fun ti => ob ih fun l => some ((f.offset, ti.size) :: l)) fs
noncomputable def fillA (pl : Nat → Option (Nat × Nat)) (s : Fr AV) (ps : List (Nat × Operand)) : List AV → Option (List AV) := List.rec (motive := fun _ => List AV → Option (List AV)) (fun C => some C)
  (fun p _ ih C => ob (pl p.1) fun q => ob (opd s p.2) fun v => ob (cellsA v) fun cs => bo (Nat.beq (lenN cs) q.2) (bo (Nat.ble 1 (lenN cs)) (putsK C q.1 cs ih))) ps
noncomputable def plA (k : Nat) (i : Nat) : Option (Nat × Nat) := some (Nat.mul i k, k)
noncomputable def buildA (P : Program) (s : Fr AV) (t : Nat) (ps : List (Nat × Operand)) : Option AV := ob (zeroOf P t) fun z => match P.underlying t with
  | some (.struct fs) => ob (sizesF P fs.toList) fun l => ob (fillA (nth l) s ps (ofL z.cells.toList)) fun C => some (.agg C)
  | some (.array _ e) => ob (P.info? e) fun ti => ob (fillA (plA ti.size) s ps (ofL z.cells.toList)) fun C => some (.agg C)
  | _ => none
section
variable {P : Program} {G : World} {ρ : Slots} {L : Blocks} {F : Fm} {ty : TypeId} {σ : Sg}
theorem sizesF_run : ∀ {fs : List Field} {l : List (Nat × Nat)}, sizesF P fs = some l → ∀ w : World, (fs.mapM fun f => do pure (f.offset, ← sizeOf f.type) : Sem (List (Nat × Nat))).run P w = .ok l w
  | [], l, h, w => by cases h; simp
  | f :: fs, l, h, w => by
    obtain ⟨ti, h1, h⟩ := ob_some (show ob (P.info? f.type) (fun ti => ob (sizesF P fs) fun l => some ((f.offset, ti.size) :: l)) = some l from h)
    obtain ⟨r, h2, h⟩ := ob_some h
    cases h
    have ih := sizesF_run h2 w
    have hg : (do pure (f.offset, ← sizeOf f.type) : Sem (Nat × Nat)).run P w = .ok (f.offset, ti.size) w := by simp [sizeOf, typeInfo, h1]
    rw [List.mapM_cons, Sem.run_bind, hg]
    simp only [Result.andThen]
    rw [Sem.run_bind, ih]
    rfl
theorem puts_set {α : Type} : ∀ (l : List α) (n : Nat) (v : α) (vs : List α) {r : List α}, puts l n (v :: vs) = some r → n < l.length ∧ puts (l.set n v) (n + 1) vs = some r
  | [], n, v, vs, r, h => by simp [puts] at h
  | y :: l, 0, v, vs, r, h => by
    simp only [puts, Option.map_eq_some_iff] at h
    obtain ⟨q, h1, rfl⟩ := h
    refine ⟨by simp, ?_⟩
    cases vs with
    | nil =>
      have : q = l := by cases l <;> simpa [puts] using h1.symm
      simp [puts, this]
    | cons u us => simp [puts, h1]
  | y :: l, n + 1, v, vs, r, h => by
    simp only [puts, Option.map_eq_some_iff] at h
    obtain ⟨q, h1, rfl⟩ := h
    obtain ⟨h2, h3⟩ := puts_set l n v vs h1
    refine ⟨by simp; omega, ?_⟩
    cases vs with
    | nil =>
      have : l.set n v = q := by
        have : puts (l.set n v) (n + 1) [] = some (l.set n v) := by cases (l.set n v) <;> simp [puts]
        rw [this] at h3; cases h3; rfl
      simp [puts, this]
    | cons u us => simp [puts, h3]
theorem fold_puts (off : Nat) : ∀ (vs : List Value) (k : Nat) (C R : List Value), puts C (off + k) vs = some R → (vs.zipIdx k).foldl (fun (cs : Array Value) (p : Value × Nat) => cs.setIfInBounds (off + p.2) p.1) C.toArray = R.toArray
  | [], k, C, R, h => by
    have : C = R := by cases C <;> simpa [puts] using h
    rw [this]; rfl
  | v :: vs, k, C, R, h => by
    obtain ⟨h1, h2⟩ := puts_set C (off + k) v vs h
    simp only [List.zipIdx_cons, List.foldl_cons]
    have : (C.toArray).setIfInBounds (off + k) v = (C.set (off + k) v).toArray := by simp
    rw [this]
    exact fold_puts off vs (k + 1) _ R (by rw [← Nat.add_assoc]; exact h2)
theorem fillA_ok {s : Fr AV} (hs : SlR σ s ρ) {pl place : Nat → Option (Nat × Nat)} (hp : ∀ i q, pl i = some q → place i = some q) : ∀ (ps : List (Nat × Operand)) {C C' : List AV} {Cs : List Value}, fillA pl s ps C = some C' → DenL σ C Cs →
    ∃ vs Cs', evParts ρ ps = some vs ∧ Instr.fill place Cs.toArray vs = some Cs'.toArray ∧ DenL σ C' Cs'
  | [], C, C', Cs, h, k => by cases h; exact ⟨[], Cs, rfl, rfl, k⟩
  | p :: ps, C, C', Cs, h, k => by
    obtain ⟨q, h1, h⟩ := ob_some (show ob (pl p.1) (fun q => ob (opd s p.2) fun v => ob (cellsA v) fun cs => bo (Nat.beq (lenN cs) q.2) (bo (Nat.ble 1 (lenN cs)) (putsK C q.1 cs (fillA pl s ps)))) = some C' from h)
    obtain ⟨v, h2, h⟩ := ob_some h
    obtain ⟨cs, h3, h⟩ := ob_some h
    obtain ⟨h4, h⟩ := bo_some h
    obtain ⟨h4', h⟩ := bo_some h
    obtain ⟨C1, h5, h⟩ := putsK_some _ _ _ _ h
    obtain ⟨V, k1, k2⟩ := opd_den hs h2
    obtain ⟨M, k3, k4⟩ := cells_den k2 h3
    obtain ⟨R, k5, k6⟩ := denL_puts h5 k k3
    obtain ⟨vs, Cs', k7, k8, k9⟩ := fillA_ok hs hp ps h k6
    refine ⟨(p.1, V) :: vs, Cs', by simp [evParts, k1, k7], ?_, k9⟩
    have h4 := Nat.eq_of_beq_eq_true h4
    have h4' := Nat.le_of_ble_eq_true h4'
    rw [lenN_eq, ← k3.length] at h4 h4'
    have hfit := (puts_len _ _ _ k5).2
    have hfit : q.1 + M.length ≤ Cs.length := by
      rcases hfit with h | h
      · rw [h] at h4'; simp at h4'
      · exact h
    unfold Instr.fill
    rw [hp _ _ h1]
    dsimp only
    rw [k4]
    have e1 : ¬ ((decide (M.toArray.size ≠ q.2) || decide (q.1 + M.toArray.size > Cs.toArray.size)) = true) := by
      simp only [List.size_toArray, Bool.or_eq_true, decide_eq_true_eq, ne_eq, not_or]
      exact ⟨by omega, by omega⟩
    rw [if_neg e1]
    have e2 : (M.toArray.zipIdx.foldl (fun (cs : Array Value) (p : Value × Nat) => cs.setIfInBounds (q.1 + p.2) p.1) Cs.toArray) = R.toArray := by
      rw [← Array.foldl_toList]
      simp only [Array.toList_zipIdx]
      exact fold_puts q.1 M 0 Cs R k5
    rw [← k8]
    congr 1
theorem buildA_den {s : Fr AV} (hs : SlR σ s ρ) {t : Nat} {ps : List (Nat × Operand)} {v : AV} (e : buildA P s t ps = some v) : ∃ V, OpQ P ρ L (.build t ps.toArray) ty V ∧ Den σ v V := by
  obtain ⟨z, hz, e⟩ := ob_some e
  have hzr := zeroOf_run (P := P) hz
  split at e
  · rename_i fs hu
    obtain ⟨l, hl, e⟩ := ob_some e
    obtain ⟨C, hC, e⟩ := ob_some e
    cases e
    have hsz := sizesF_run (P := P) hl
    obtain ⟨vs, Cs', k1, k2, k3⟩ := fillA_ok hs (place := fun i => l.toArray[i]?) (fun i q h => by rw [nth_eq] at h; simpa using h) ps hC (ofL_den σ z.cells.toList)
    refine ⟨.agg Cs'.toArray, op_build k1 ⟨fun w => ?_⟩, by simp only [Den]; exact ⟨Cs', k3, rfl⟩⟩
    have e1 : (fs.mapM fun f => do pure (f.offset, ← sizeOf f.type) : Sem (Array (Nat × Nat))).run P w = .ok l.toArray w := by
      rw [Array.mapM_eq_mapM_toList]
      show ((fs.toList.mapM fun f => do pure (f.offset, ← sizeOf f.type) : Sem (List (Nat × Nat))) >>= fun l => pure l.toArray : Sem (Array (Nat × Nat))).run P w = _
      rw [Sem.run_bind, hsz w]
      rfl
    have k2' : Instr.fill (fun i => l.toArray[i]?) z.cells vs = some Cs'.toArray := by simpa using k2
    simp only [Instr.build, Sem.run_bind, hzr w, run_underlying hu, Result.andThen, e1, k2']
    simp [k2']
  · rename_i n el hu
    obtain ⟨ti, hi, e⟩ := ob_some e
    obtain ⟨C, hC, e⟩ := ob_some e
    cases e
    obtain ⟨vs, Cs', k1, k2, k3⟩ := fillA_ok hs (place := fun i => some (i * ti.size, ti.size)) (fun i q h => h) ps hC (ofL_den σ z.cells.toList)
    refine ⟨.agg Cs'.toArray, op_build k1 ⟨fun w => ?_⟩, by simp only [Den]; exact ⟨Cs', k3, rfl⟩⟩
    have k2' : Instr.fill (fun i => some (i * ti.size, ti.size)) z.cells vs = some Cs'.toArray := by simpa using k2
    simp [Instr.build, hzr w, run_underlying hu, sizeOf, typeInfo, hi, k2']
  · cases e
end
end Go.Proofs.YtlicehodjhoamaaGreatDoor.Ev
namespace Go.Proofs.YtlicehodjhoamaaGreatDoor.Ev
open Go
set_option linter.unusedVariables false
set_option linter.unusedSimpArgs false
noncomputable def natO (s : Fr AV) (x : Option Operand) (d : Nat) : Option Nat := Option.rec (some d) (fun y => ob (opd s y) fun v => v.asNat fun _ n => some n) x
noncomputable def bytesA (l : List AV) : Option (List Nat) := List.rec (some []) (fun v _ ih => v.asNat fun k b => bo (decide (k = .u8)) (bo (Nat.ble b 255) (ob ih fun r => some (b :: r)))) l
/-- So many zeros. -/
noncomputable def zeros (n : Nat) : List Nat := Nat.rec [] (fun _ ih => 0 :: ih) n
def isZ (v : AV) : Bool := match v with
  | .int .u8 (.ofNat b) => Nat.beq b 0
  | _ => false
theorem isZ_ok {v : AV} (h : isZ v = true) : v = .int .u8 (.ofNat 0) := by
  unfold isZ at h
  split at h
  · rw [Nat.eq_of_beq_eq_true h]
  · cases h
noncomputable def zerosK (n : Nat) : List AV → Bool := Nat.rec (motive := fun _ => List AV → Bool) (fun _ => true) (fun _ ih l => List.rec false (fun v r _ => Bool.rec false (ih r) (isZ v)) l) n
theorem zerosK_ok : ∀ (n : Nat) (l : List AV), zerosK n l = true → n ≤ l.length ∧ bytesA (l.take n) = some (zeros n)
  | 0, l, h => ⟨Nat.zero_le _, by simp; rfl⟩
  | n + 1, [], h => by cases h
  | n + 1, v :: l, h => by
    have h : Bool.rec false (zerosK n l) (isZ v) = true := h
    cases hb : isZ v with
    | false => rw [hb] at h; cases h
    | true =>
      rw [hb] at h
      obtain rfl := isZ_ok hb
      obtain ⟨h1, h2⟩ := zerosK_ok n l h
      refine ⟨by simp; omega, ?_⟩
      rw [List.take_succ_cons, show bytesA (AV.int .u8 (.ofNat 0) :: l.take n) = ob (bytesA (l.take n)) (fun r => some (0 :: r)) from rfl, h2]
      rfl
/-- The least capacity of a slice. -/
noncomputable def capLo (m : Mem) (i : Nat) (c : Cp) : Option Nat := Cp.rec (fun c => some c) (fun r => ob (m.h.get i) fun o => match o with
  | .row _ _ _ _ lo => some (Nat.sub lo r)
  | .rowF _ n _ => some (Nat.sub n r)
  | _ => none) c
def Cp.less : Cp → Nat → Cp
  | .num c, k => .num (c - k)
  | .rest r, k => .rest (r + k)
def Cp.isNum : Cp → Bool
  | .num _ => true
  | .rest _ => false
noncomputable def cutA' (m : Mem) (sz i o : Nat) (c : Cp) (l h : Nat) : Option AV := ob (capLo m i c) fun lo => bo (Nat.ble h lo) (bo (Nat.ble l h) (Bool.rec (some (.slc i (Nat.add o (Nat.mul l sz)) (Nat.sub h l) (c.less l)))
  (Bool.rec (Bool.rec none (some .slcE) (Nat.beq l h)) (some (.slc i o (Nat.sub h l) (c.less l))) c.isNum) (Nat.beq l lo)))
noncomputable def sliceV (P : Program) (s : Fr AV) (m : Mem) (t : Nat) (v : AV) (lo hi : Option Operand) : Option AV := match v with
  | .str b => bo (isStr P t) (ob (natO s lo 0) fun l => ob (natO s hi (lenN b)) fun h => bo (Nat.ble l h) (bo (Bool.rec true (Nat.ble l (lenN b)) (Nat.beq l h)) (takeK (drop b l) (Nat.sub h l) fun r => some (.str r))))
  | .slc0 c => ob (eltSz P t) fun _ => ob (natO s lo 0) fun l => ob (natO s hi 0) fun h => bo (Nat.beq h 0) (bo (Nat.beq l 0) (some (.slc0 c)))
  | .slc i o n c => ob (eltSz P t) fun sz => ob (natO s lo 0) fun l => ob (natO s hi n) fun h => cutA' m sz i o c l h
  | .ptr i o => ob (arrTy P t) fun q => ob (natO s lo 0) fun l => ob (natO s hi q.1) fun h => cutA' m q.2 i o (.num q.1) l h
  | _ => none
noncomputable def assertV (P : Program) (t : Nat) (ok : Bool) (v : AV) : Option AV :=
  (fun (fail : Option AV) => match v with
  | .ifc u w => (match P.underlying t with
    | some (.interface want) => ob (P.info? u) fun ti => (match Instr.missingMethod want ti.methods with
      | none => some (Bool.rec v (.tup [v, .bool true]) ok)
      | some _ => fail)
    | some _ => Bool.rec fail (some (Bool.rec w (.tup [w, .bool true]) ok)) (Nat.beq u t)
    | none => none)
  | .nilI => ob (P.underlying t) fun _ => fail
  | _ => none) (Bool.rec none (ob (zeroOf P t) fun z => some (.tup [ofV z, .bool false])) ok)
noncomputable def isIfc (P : Program) (t : Nat) : Option Bool := match P.underlying t with
  | some (.interface _) => some true
  | some _ => some false
  | none => none
noncomputable def convV (P : Program) (m : Mem) (a b : Nat) (v : AV) : Option AV := bo (isStr P b) (match v with
  | .str l => ob (P.underlying a) fun _ => some (.str l)
  | .slc0 _ => ob (eltB P a) fun _ => some (.str [])
  | .slc i o n _ => ob (eltB P a) fun _ => ob (m.h.get i) fun x => ob x.known fun c => Bool.rec (takeK (drop c o) n fun l => ob (bytesA l) fun r => some (.str r)) (bo (zerosK n (drop c o)) (some (.str (zeros n)))) (Nat.ble 20000 n)
  | _ => none)
where eltB (P : Program) (a : Nat) : Option Unit := match P.underlying a with
  | some (.slice e) => (match P.underlying e with
    | some (.int .u8) => some ()
    | _ => none)
  | _ => none
section
variable {P : Program} {G : World} {ρ : Slots} {L : Blocks} {F : Fm} {ty : TypeId} {σ : Sg}
theorem natO_cases {s : Fr AV} (hs : SlR σ s ρ) {x : Option Operand} {d n : Nat} (h : natO s x d = some n) : (x = none ∧ n = d) ∨ ∃ y k, x = some y ∧ ev ρ y = some (.int k (Int.ofNat n)) := by
  cases x with
  | none => cases h; exact Or.inl ⟨rfl, rfl⟩
  | some y =>
    obtain ⟨v, h1, h⟩ := ob_some (show ob (opd s y) (fun v => v.asNat fun _ n => some n) = some n from h)
    obtain ⟨k, j, rfl, h⟩ := asNat_some h
    cases h
    obtain ⟨V, h2, h3⟩ := opd_den hs h1
    obtain rfl : V = .int k (Int.ofNat n) := by simpa [Den] using h3
    exact Or.inr ⟨y, k, rfl, h2⟩
/-- The bounds of a cut. -/
theorem bounds_run {b : Bool} {len cap l h : Nat} {lo hi : Option Value} (hlo : (lo = none ∧ l = 0) ∨ ∃ k, lo = some (.int k (Int.ofNat l))) (hhi : (hi = none ∧ h = len) ∨ ∃ k, hi = some (.int k (Int.ofNat h))) (h1 : l ≤ h) (h2 : h ≤ cap) (w : World) :
    (Instr.sliceBounds b len cap lo hi none).run P w = .ok (l, h, cap) w := by
  have b1 : ∀ (k : IntKind) (x y : Nat) (c : BoundsCode), x ≤ y → (Instr.sliceBound (.int k (x : Int)) y c).run P w = .ok x w := fun k x y c hxy => by
    simp [Instr.sliceBound, asIntOf, hxy]
  unfold Instr.sliceBounds
  rcases hlo with ⟨rfl, rfl⟩ | ⟨k, rfl⟩ <;> rcases hhi with ⟨rfl, rfl⟩ | ⟨k', rfl⟩ <;> simp [b1 _ _ _ _ h1, b1 _ _ _ _ h2, b1]
theorem map_opt {r : Operand → Value} (hr : Reads ρ r) {x : Option Operand} {n d : Nat} (h : (x = none ∧ n = d) ∨ ∃ y k, x = some y ∧ ev ρ y = some (.int k (Int.ofNat n))) : (x.map r = none ∧ n = d) ∨ ∃ k, x.map r = some (.int k (Int.ofNat n)) := by
  rcases h with ⟨rfl, rfl⟩ | ⟨y, k, rfl, h⟩
  · exact Or.inl ⟨rfl, rfl⟩
  · exact Or.inr ⟨k, by simp [hr _ _ h]⟩
theorem op_cutS {x : Operand} {lo hi : Option Operand} {s : List UInt8} {l h : Nat} {t : TypeId} (hx : ev ρ x = some (.string (bs s))) (hlo : (lo = none ∧ l = 0) ∨ ∃ y k, lo = some y ∧ ev ρ y = some (.int k (Int.ofNat l))) (hhi : (hi = none ∧ h = s.length) ∨ ∃ y k, hi = some y ∧ ev ρ y = some (.int k (Int.ofNat h))) (ht : P.underlying t = some .string)
    (h1 : l ≤ h) (h2 : h ≤ s.length) : OpQ P ρ L (.slice t x lo hi none) ty (.string (bs ((s.drop l).take (h - l)))) :=
  ⟨fun r hr w hw o ho _ => by
    have e : (bs s).extract l h = bs ((s.drop l).take (h - l)) := by
      apply ByteArray.ext
      rw [ByteArray.data_extract]
      simp [bs, List.extract_eq_take_drop]
    have hb := bounds_run (P := P) (b := false) (len := s.length) (cap := s.length) (map_opt hr hlo) (map_opt hr hhi) h1 h2 w
    simp [execOp, ho, hr _ _ hx, Instr.sliceAt, run_underlying ht, Instr.slice, hb, e]⟩
theorem op_cutL {x : Operand} {lo hi : Option Operand} {a : Option Addr} {n c l h sz : Nat} {t : TypeId} (hx : ev ρ x = some (.slice a n c)) (hlo : (lo = none ∧ l = 0) ∨ ∃ y k, lo = some y ∧ ev ρ y = some (.int k (Int.ofNat l))) (hhi : (hi = none ∧ h = n) ∨ ∃ y k, hi = some y ∧ ev ρ y = some (.int k (Int.ofNat h))) (ht : eltSz P t = some sz)
    (h1 : l ≤ h) (h2 : h ≤ c) : OpQ P ρ L (.slice t x lo hi none) ty (.slice (if c = l then a else a.map (·.add (l * sz))) (h - l) (c - l)) :=
  ⟨fun r hr w hw o ho _ => by
    unfold eltSz at ht
    split at ht
    · rename_i e hu
      split at ht
      · rename_i ti hi'
        cases ht
        have hb := bounds_run (P := P) (b := true) (len := n) (cap := c) (map_opt hr hlo) (map_opt hr hhi) h1 h2 w
        simp [execOp, ho, hr _ _ hx, Instr.sliceAt, run_underlying hu, Instr.slice, hb, sizeOf, typeInfo, hi']
      · cases ht
    · cases ht⟩
theorem op_cutP {x : Operand} {lo hi : Option Operand} {b off : Nat} {len l h sz : Nat} {t : TypeId} (hx : ev ρ x = some (.pointer (some ⟨b, off, none⟩))) (hlo : (lo = none ∧ l = 0) ∨ ∃ y k, lo = some y ∧ ev ρ y = some (.int k (Int.ofNat l))) (hhi : (hi = none ∧ h = len) ∨ ∃ y k, hi = some y ∧ ev ρ y = some (.int k (Int.ofNat h))) (ha : arrTy P t = some (len, sz))
    (h1 : l ≤ h) (h2 : h ≤ len) : OpQ P ρ L (.slice t x lo hi none) ty (.slice (some (if len = l then ⟨b, off, none⟩ else (⟨b, off, none⟩ : Addr).add (l * sz))) (h - l) (len - l)) :=
  ⟨fun r hr w hw o ho _ => by
    unfold arrTy at ha
    split at ha
    · rename_i n' e hu
      split at ha
      · rename_i ti hi'
        cases ha
        have hb := bounds_run (P := P) (b := false) (len := len) (cap := len) (map_opt hr hlo) (map_opt hr hhi) h1 h2 w
        simp [execOp, ho, hr _ _ hx, Instr.sliceAt, run_underlying hu, Instr.sureAddr, hb, sizeOf, typeInfo, hi']
      · cases ha
    · cases ha⟩
theorem addr_add0 (b off k : Nat) : (⟨b, off, none⟩ : Addr).add k = ⟨b, off + k, none⟩ := by
  unfold Addr.add
  split
  · rename_i h; subst h; rfl
  · rfl
/-- A slice's capacity is so much at least. -/
theorem capLo_le {m : Mem} (hm : MemG σ m L) {i : Nat} {c : Cp} {lo : Nat} {y : Nat × Nat} (hy : σ i = some y) (e : capLo m i c = some lo) : lo ≤ c.of y.2 ∧ (c.isNum = true → c.of y.2 = lo) := by
  cases c with
  | num c => cases e; exact ⟨Nat.le_refl _, fun _ => rfl⟩
  | rest r =>
    obtain ⟨o, h1, e⟩ := ob_some (show ob (m.h.get i) (fun o => match o with | .row _ _ _ _ lo => some (Nat.sub lo r) | .rowF _ n _ => some (Nat.sub n r) | _ => none) = some lo from e)
    cases o with
    | row l n e' sz lo' =>
      cases e
      obtain ⟨O, ⟨M, cur, _, _, _, _, q, _⟩, _⟩ := hm i _ y h1 hy
      refine ⟨?_, fun h => by cases h⟩
      show lo' - r ≤ y.2 - r
      omega
    | cells l e' => cases e
    | rowF l n e' =>
      cases e
      obtain ⟨O, ⟨M, cur, fr, _, _, _, q, _⟩, _⟩ := hm i _ y h1 hy
      refine ⟨?_, fun h => by cases h⟩
      show n - r ≤ y.2 - r
      omega
    | map l => cases e
    | it i => cases e
theorem less_of (c : Cp) (k κ : Nat) : (c.less k).of κ = c.of κ - k := by
  cases c with
  | num c => rfl
  | rest r => show κ - (r + k) = κ - r - k; omega
theorem cutA'_den {m : Mem} (hm : MemG σ m L) {sz i o l h : Nat} {c : Cp} {v : AV} {y : Nat × Nat} (hy : σ i = some y) (e : cutA' m sz i o c l h = some v) : l ≤ h ∧ h ≤ c.of y.2 ∧ Den σ v (.slice (if c.of y.2 = l then some ⟨y.1, o, none⟩ else some ⟨y.1, o + l * sz, none⟩) (h - l) (c.of y.2 - l)) := by
  obtain ⟨lo, h1, e⟩ := ob_some e
  obtain ⟨h2, e⟩ := bo_some e
  obtain ⟨h3, e⟩ := bo_some e
  have h2 := Nat.le_of_ble_eq_true h2
  have h3 := Nat.le_of_ble_eq_true h3
  obtain ⟨h4, h5⟩ := capLo_le hm hy h1
  refine ⟨h3, Nat.le_trans h2 h4, ?_⟩
  cases hb : Nat.beq l lo with
  | false =>
    rw [hb] at e
    cases e
    have hne : l ≠ lo := fun c => by rw [c, Nat.beq_refl] at hb; cases hb
    have : c.of y.2 ≠ l := by omega
    rw [if_neg this]
    simp only [Den]
    exact ⟨y, hy, by rw [less_of]; rfl⟩
  | true =>
    rw [hb] at e
    have hl := Nat.eq_of_beq_eq_true hb
    cases hc : c.isNum with
    | true =>
      rw [hc] at e
      cases e
      rw [if_pos (by rw [h5 hc, hl])]
      simp only [Den]
      exact ⟨y, hy, by rw [less_of]; rfl⟩
    | false =>
      rw [hc] at e
      cases hq : Nat.beq l h with
      | false => rw [hq] at e; cases e
      | true =>
        rw [hq] at e
        cases e
        have := Nat.eq_of_beq_eq_true hq
        simp only [Den]
        exact ⟨_, _, by rw [this, Nat.sub_self]⟩
theorem sliceV_den {s : Fr AV} {m : Mem} (hs : SlR σ s ρ) (hm : MemG σ m L) {t : Nat} {x : Operand} {lo hi : Option Operand} {u v : AV} (hx : opd s x = some u) (e : sliceV P s m t u lo hi = some v) : ∃ V, OpQ P ρ L (.slice t x lo hi none) ty V ∧ Den σ v V := by
  obtain ⟨U, h1, h2⟩ := opd_den hs hx
  unfold sliceV at e
  split at e
  · rename_i b
    obtain ⟨c, e⟩ := bo_some e
    obtain ⟨l, k1, e⟩ := ob_some e
    obtain ⟨h, k2, e⟩ := ob_some e
    obtain ⟨k3, e⟩ := bo_some e
    obtain ⟨k6, e⟩ := bo_some e
    obtain ⟨k4, k5⟩ := takeK_some _ _ _ e
    cases k5
    simp only [Den] at h2
    obtain ⟨hb, rfl⟩ := h2
    rw [lenN_eq] at k2 k6
    have k3 := Nat.le_of_ble_eq_true k3
    rw [drop_eq, List.length_drop] at k4
    have k4 : h - l ≤ b.length - l := k4
    have k7 : h ≤ b.length := by
      by_cases c : l = h
      · subst c
        rw [bqT rfl] at k6
        exact Nat.le_of_ble_eq_true k6
      · omega
    rw [drop_eq]
    refine ⟨_, op_cutS (s := _) h1 (natO_cases hs k1) (by simpa using natO_cases hs k2) (isStr_ok c) k3 (by simpa using k7), ?_⟩
    simp only [Den]
    exact ⟨fun b' hb' => hb b' (List.mem_of_mem_drop (List.mem_of_mem_take hb')), by unfold bsN; rw [List.map_take, List.map_drop]; rfl⟩
  · obtain ⟨sz, k0, e⟩ := ob_some e
    obtain ⟨l, k1, e⟩ := ob_some e
    obtain ⟨h, k2, e⟩ := ob_some e
    obtain ⟨k3, e⟩ := bo_some e
    obtain ⟨k4, e⟩ := bo_some e
    cases e
    obtain rfl := Nat.eq_of_beq_eq_true k3
    obtain rfl := Nat.eq_of_beq_eq_true k4
    obtain rfl : U = .slice none 0 _ := by simpa only [Den] using h2
    refine ⟨_, op_cutL h1 (natO_cases hs k1) (natO_cases hs k2) k0 (Nat.le_refl _) (Nat.zero_le _), ?_⟩
    simp [Den]
  · obtain ⟨sz, k0, e⟩ := ob_some e
    obtain ⟨l, k1, e⟩ := ob_some e
    obtain ⟨h, k2, e⟩ := ob_some e
    simp only [Den] at h2
    obtain ⟨y, hy, rfl⟩ := h2
    obtain ⟨q1, q2, q3⟩ := cutA'_den hm hy e
    refine ⟨_, op_cutL h1 (natO_cases hs k1) (natO_cases hs k2) k0 q1 q2, ?_⟩
    simpa [addr_add0] using q3
  · obtain ⟨q, k0, e⟩ := ob_some e
    obtain ⟨l, k1, e⟩ := ob_some e
    obtain ⟨h, k2, e⟩ := ob_some e
    simp only [Den] at h2
    obtain ⟨y, hy, rfl⟩ := h2
    obtain ⟨q1, q2, q3⟩ := cutA'_den hm hy e
    have q2 : h ≤ q.1 := q2
    refine ⟨_, op_cutP h1 (natO_cases hs k1) (natO_cases hs k2) k0 q1 q2, ?_⟩
    have q3 : Den σ v (.slice (if q.1 = l then some ⟨y.1, _, none⟩ else some ⟨y.1, _ + l * q.2, none⟩) (h - l) (q.1 - l)) := q3
    rw [addr_add0]
    split <;> rename_i c <;> simpa [c] using q3
  · cases e
end
end Go.Proofs.YtlicehodjhoamaaGreatDoor.Ev
namespace Go.Proofs.YtlicehodjhoamaaGreatDoor.Ev
open Go
set_option linter.unusedVariables false
set_option linter.unusedSimpArgs false
section
variable {P : Program}
/-- One part of two values, held against each other. -/
def PartEq (P : Program) (d : Nat) (xs ys : Array Value) (f : Field) (b : Bool) : Prop := ∀ w, ∃ X Y, (part f.type xs f.offset).run P w = .ok X w ∧ (part f.type ys f.offset).run P w = .ok Y w ∧ (Op.equalIn d f.type X Y).run P w = .ok b w
def FsEq (P : Program) (d : Nat) (xs ys : Array Value) : List Field → Bool → Prop
  | [], b => b = true
  | f :: fs, b => (f.name = "_" ∧ FsEq P d xs ys fs b) ∨ (f.name ≠ "_" ∧ ((PartEq P d xs ys f false ∧ b = false) ∨ (PartEq P d xs ys f true ∧ FsEq P d xs ys fs b)))
theorem fs_run {d : Nat} {xs ys : Array Value} (w : World) : ∀ {fs : List Field} {b : Bool}, FsEq P d xs ys fs b → (forIn fs ((none, ()) : Option Bool × Unit) fun f __s =>
          if f.name = "_" then pure (ForInStep.yield (none, ()))
          else do
            let __do_lift ← part f.type xs f.offset
            let __do_lift_1 ← part f.type ys f.offset
            let __do_lift ← Op.equalIn d f.type __do_lift __do_lift_1
            if __do_lift = false then pure (ForInStep.done (some false, ())) else pure (ForInStep.yield (none, ())) : Sem (Option Bool × Unit)).run P w = .ok (if b then (none, ()) else (some false, ())) w
  | [], b, h => by have h : b = true := h; subst h; simp
  | f :: fs, b, h => by
    rcases h with ⟨h1, h2⟩ | ⟨h1, ⟨h2, rfl⟩ | ⟨h2, h3⟩⟩
    · have ih := fs_run w h2
      simp only [List.forIn_cons, h1, if_true, pure_bind]
      exact ih
    · obtain ⟨X, Y, k1, k2, k3⟩ := h2 w
      simp [List.forIn_cons, h1, k1, k2, k3]
    · have ih := fs_run w h3
      obtain ⟨X, Y, k1, k2, k3⟩ := h2 w
      simp [List.forIn_cons, h1, k1, k2, k3]
      exact ih
theorem eq_struct {d : Nat} {t : TypeId} {fs : Array Field} {xs ys : Array Value} {b : Bool} (h : P.underlying t = some (.struct fs)) (hs : P.stoodInHeld t = false) (hf : FsEq P d xs ys fs.toList b) (w : World) : (Op.equalIn (d+1) t (.agg xs) (.agg ys)).run P w = .ok b w := by
  rw [Op.equalIn]
  simp only [Sem.run_bind, run_underlying h]
  simp [hs, Result.andThen]
  rw [← Array.forIn_toList]
  have := fs_run w hf
  rw [this]
  cases b <;> simp
end
noncomputable def aggTy (P : Program) (t : Nat) : Option Bool := match P.underlying t with
  | some (.struct _) => some true
  | some (.array _ _) => some true
  | some _ => some false
  | none => none
noncomputable def partV (P : Program) (t : Nat) (l : List AV) (off : Nat) : Option AV := ob (aggTy P t) fun b => Bool.rec (nth l off) (ob (P.info? t) fun ti => takeK (drop l off) ti.size fun r => some (.agg r)) b
def isBool (P : Program) (t : Nat) : Bool := match P.underlying t with
  | some .bool => true
  | _ => false
def isPtr (P : Program) (t : Nat) : Bool := match P.underlying t with
  | some (.pointer _) => true
  | _ => false
def isIf (P : Program) (t : Nat) : Bool := match P.underlying t with
  | some (.interface _) => true
  | _ => false
def isMap (P : Program) (t : Nat) : Bool := match P.underlying t with
  | some (.map _ _) => true
  | _ => false
def isFun (P : Program) (t : Nat) : Bool := match P.underlying t with
  | some (.func _ _ _) => true
  | _ => false
def isIntT (P : Program) (t : Nat) : Bool := match P.underlying t with
  | some (.int _) => true
  | _ => false
noncomputable def eqBB (a b : Bool) : Bool := Bool.rec (Bool.rec true false b) b a
theorem eqBB_eq (a b : Bool) : eqBB a b = (a == b) := by cases a <;> cases b <;> rfl
noncomputable def eqII (a b : Int) : Bool := match a, b with
  | .ofNat a, .ofNat b => Nat.beq a b
  | a, b => decide (a = b)
theorem eqII_eq (a b : Int) : eqII a b = (a == b) := by
  have h0 : ∀ a b : Int, decide (a = b) = (a == b) := fun _ _ => rfl
  unfold eqII
  split
  · rw [beq_dec, ← h0]
    exact decide_eq_decide.2 ⟨fun h => by rw [h], fun h => Int.ofNat.inj h⟩
  · rfl
noncomputable def blankF (n : String) : Bool := decide (n = "_")
noncomputable def eqFs (P : Program) (ih : Nat → AV → AV → Option Bool) (x y : List AV) (fs : List Field) : Option Bool := List.rec (some true) (fun f _ r => Bool.rec (ob (partV P f.type x f.offset) fun a => ob (partV P f.type y f.offset) fun b => ob (ih f.type a b) fun c => Bool.rec (some false) r c) r (blankF f.name)) fs
noncomputable def eqStep (P : Program) (ih : Nat → AV → AV → Option Bool) (t : Nat) (a b : AV) : Option Bool := match a, b with
  | .bool x, .bool y => bo (isBool P t) (some (eqBB x y))
  | .int k x, .int k' y => bo (decide (k = k')) (bo (isIntT P t) (some (eqII x y)))
  | .str l, .str m => bo (isStr P t) (some (beqN l m))
  | .ptr0, .ptr0 => bo (isPtr P t) (some true)
  | .ptr0, .ptr _ _ => bo (isPtr P t) (some false)
  | .ptr _ _, .ptr0 => bo (isPtr P t) (some false)
  | .nilI, .nilI => bo (isIf P t) (some true)
  | .nilI, .ifc _ _ => bo (isIf P t) (some false)
  | .ifc _ _, .nilI => bo (isIf P t) (some false)
  | .ifc u v, .ifc u' v' => bo (isIf P t) (Bool.rec (some false) (ob (P.info? u) fun ti => bo ti.comparable (ih u v v')) (Nat.beq u u'))
  | .slc0 _, .slc0 _ => bo (isSlc P t) (some true)
  | .slc0 _, .slc _ _ _ _ => bo (isSlc P t) (some false)
  | .slc _ _ _ _, .slc0 _ => bo (isSlc P t) (some false)
  | .mp0, .mp0 => bo (isMap P t) (some true)
  | .mp0, .mp _ => bo (isMap P t) (some false)
  | .mp _, .mp0 => bo (isMap P t) (some false)
  | .nilFn, .nilFn => bo (isFun P t) (some true)
  | .fn _ _, .nilFn => bo (isFun P t) (some false)
  | .nilFn, .fn _ _ => bo (isFun P t) (some false)
  | .agg x, .agg y => (match P.underlying t with
    | some (.struct fs) => Bool.rec (eqFs P ih x y fs.toList) none (P.stoodInHeld t)
    | _ => none)
  | _, _ => none
noncomputable def eqA (P : Program) (d : Nat) : Nat → AV → AV → Option Bool := Nat.rec (fun _ _ _ => none) (fun _ ih t a b => eqStep P ih t a b) d
section
variable {P : Program} {G : World} {ρ : Slots} {L : Blocks} {F : Fm} {ty : TypeId} {σ : Sg}
theorem partV_run {t off : Nat} {l : List AV} {Ls : List Value} {v : AV} (h : DenL σ l Ls) (e : partV P t l off = some v) : ∃ V, Den σ v V ∧ ∀ w, (part t Ls.toArray off).run P w = .ok V w := by
  obtain ⟨b, hb, e⟩ := ob_some e
  unfold aggTy at hb
  cases b with
  | false =>
    have e : nth l off = some v := e
    rw [nth_eq] at e
    obtain ⟨V, h1, h2⟩ := h.get e
    refine ⟨V, h2, fun w => ?_⟩
    have ha : (isAgg t).run P w = .ok false w := by
      split at hb
      · cases hb
      · cases hb
      · rename_i d _ _ hu
        cases d <;> simp_all [isAgg, run_underlying hu]
      · cases hb
    simp [part, ha, h1]
  | true =>
    obtain ⟨ti, hi, e⟩ := ob_some (show ob (P.info? t) (fun ti => takeK (drop l off) ti.size fun r => some (.agg r)) = some v from e)
    obtain ⟨h1, h2⟩ := takeK_some _ _ _ e
    cases h2
    rw [drop_eq] at h1
    rw [drop_eq]
    have hd := (h.drop off).take ti.size
    refine ⟨.agg ((Ls.drop off).take ti.size).toArray, by simp only [Den]; exact ⟨_, hd, rfl⟩, fun w => ?_⟩
    have ha : (isAgg t).run P w = .ok true w := by
      split at hb
      · rename_i hu; simp [isAgg, run_underlying hu]
      · rename_i hu; simp [isAgg, run_underlying hu]
      · cases hb
      · cases hb
    simp [part, ha, sizeOf, typeInfo, hi, List.extract_eq_take_drop]
def EqOk (P : Program) (d : Nat) (ih : Nat → AV → AV → Option Bool) : Prop := ∀ {σ : Sg} {t : Nat} {a b : AV} {A B : Value} {c : Bool}, ih t a b = some c → Den σ a A → Den σ b B → ∀ w, (Op.equalIn d t A B).run P w = .ok c w
theorem eqFs_ok {d : Nat} {ih : Nat → AV → AV → Option Bool} (hi : EqOk P d ih) {x y : List AV} {X Y : List Value} (hx : DenL σ x X) (hy : DenL σ y Y) : ∀ {fs : List Field} {b : Bool}, eqFs P ih x y fs = some b → FsEq P d X.toArray Y.toArray fs b
  | [], b, e => by cases e; rfl
  | f :: fs, b, e => by
    have e : (Bool.rec (ob (partV P f.type x f.offset) fun a => ob (partV P f.type y f.offset) fun b => ob (ih f.type a b) fun c => Bool.rec (some false) (eqFs P ih x y fs) c) (eqFs P ih x y fs) (blankF f.name) : Option Bool) = some b := e
    cases hb : blankF f.name with
    | true =>
      rw [hb] at e
      exact Or.inl ⟨of_decide_eq_true hb, eqFs_ok hi hx hy e⟩
    | false =>
      rw [hb] at e
      obtain ⟨a, h1, e⟩ := ob_some e
      obtain ⟨b', h2, e⟩ := ob_some e
      obtain ⟨c, h3, e⟩ := ob_some e
      obtain ⟨A, k1, k2⟩ := partV_run hx h1
      obtain ⟨B, k3, k4⟩ := partV_run hy h2
      have hp : PartEq P d X.toArray Y.toArray f c := fun w => ⟨A, B, k2 w, k4 w, hi h3 k1 k3 w⟩
      refine Or.inr ⟨of_decide_eq_false hb, ?_⟩
      cases c with
      | false => cases e; exact Or.inl ⟨hp, rfl⟩
      | true => exact Or.inr ⟨hp, eqFs_ok hi hx hy e⟩
theorem und_bool {t : Nat} (h : isBool P t = true) : P.underlying t = some .bool := by unfold isBool at h; split at h <;> first | assumption | cases h
theorem und_ptr {t : Nat} (h : isPtr P t = true) : ∃ e, P.underlying t = some (.pointer e) := by unfold isPtr at h; split at h <;> first | exact ⟨_, by assumption⟩ | cases h
theorem und_if {t : Nat} (h : isIf P t = true) : ∃ e, P.underlying t = some (.interface e) := by unfold isIf at h; split at h <;> first | exact ⟨_, by assumption⟩ | cases h
theorem und_map {t : Nat} (h : isMap P t = true) : ∃ k e, P.underlying t = some (.map k e) := by unfold isMap at h; split at h <;> first | exact ⟨_, _, by assumption⟩ | cases h
theorem und_fun {t : Nat} (h : isFun P t = true) : ∃ a b c, P.underlying t = some (.func a b c) := by unfold isFun at h; split at h <;> first | exact ⟨_, _, _, by assumption⟩ | cases h
theorem und_int {t : Nat} (h : isIntT P t = true) : ∃ k, P.underlying t = some (.int k) := by unfold isIntT at h; split at h <;> first | exact ⟨_, by assumption⟩ | cases h
theorem bq_dec (a b : ByteArray) : (a == b) = decide (a = b) := by
  have h : (a == b) = (a.data == b.data) := rfl
  rw [h]
  by_cases e : a.data = b.data
  · have : a = b := ByteArray.ext e
    simp [this]
  · have : a ≠ b := fun c => e (by rw [c])
    simp [e, this]
theorem bsN_eq {l m : List Nat} (hl : ∀ b ∈ l, b < 256) (hm : ∀ b ∈ m, b < 256) : (bsN l == bsN m) = beqN l m := by
  rw [beqN_iff, bq_dec]
  refine decide_eq_decide.2 ⟨fun h => map_ofNat_inj hl hm ?_, fun h => by rw [h]⟩
  have := congrArg (fun b : ByteArray => b.data.toList) h
  simpa [bsN, bs] using this
theorem eqStep_ok {d : Nat} {ih : Nat → AV → AV → Option Bool} (hi : EqOk P d ih) : EqOk P (d + 1) (eqStep P ih) := by
  intro σ t a b A B c e ha hb w
  unfold eqStep at e
  split at e
  · obtain ⟨h, e⟩ := bo_some e
    cases e
    obtain rfl : A = .bool _ := by simpa [Den] using ha
    obtain rfl : B = .bool _ := by simpa [Den] using hb
    simp [Op.equalIn, run_underlying (und_bool h), eqBB_eq]
  · obtain ⟨hk, e⟩ := bo_some e
    obtain ⟨h, e⟩ := bo_some e
    cases e
    obtain rfl : A = .int _ _ := by simpa [Den] using ha
    obtain rfl : B = .int _ _ := by simpa [Den] using hb
    obtain ⟨k, hu⟩ := und_int h
    have hk := of_decide_eq_true hk
    subst hk
    simp [Op.equalIn, run_underlying hu, eqII_eq]
  · obtain ⟨h, e⟩ := bo_some e
    cases e
    simp only [Den] at ha hb
    obtain ⟨hl, rfl⟩ := ha
    obtain ⟨hm, rfl⟩ := hb
    rw [← bsN_eq hl hm]
    simp [Op.equalIn, run_underlying (isStr_ok h)]
  · obtain ⟨h, e⟩ := bo_some e
    cases e
    obtain rfl : A = .pointer none := by simpa [Den] using ha
    obtain rfl : B = .pointer none := by simpa [Den] using hb
    obtain ⟨k, hu⟩ := und_ptr h
    simp [Op.equalIn, run_underlying hu]
  · obtain ⟨h, e⟩ := bo_some e
    cases e
    obtain rfl : A = .pointer none := by simpa [Den] using ha
    simp only [Den] at hb
    obtain ⟨y, _, rfl⟩ := hb
    obtain ⟨k, hu⟩ := und_ptr h
    simp [Op.equalIn, run_underlying hu]
  · obtain ⟨h, e⟩ := bo_some e
    cases e
    obtain rfl : B = .pointer none := by simpa [Den] using hb
    simp only [Den] at ha
    obtain ⟨y, _, rfl⟩ := ha
    obtain ⟨k, hu⟩ := und_ptr h
    simp [Op.equalIn, run_underlying hu]
  · obtain ⟨h, e⟩ := bo_some e
    cases e
    obtain rfl : A = .nilIface := by simpa [Den] using ha
    obtain rfl : B = .nilIface := by simpa [Den] using hb
    obtain ⟨k, hu⟩ := und_if h
    simp [Op.equalIn, run_underlying hu]
  · obtain ⟨h, e⟩ := bo_some e
    cases e
    obtain rfl : A = .nilIface := by simpa [Den] using ha
    simp only [Den] at hb
    obtain ⟨y, _, rfl⟩ := hb
    obtain ⟨k, hu⟩ := und_if h
    simp [Op.equalIn, run_underlying hu]
  · obtain ⟨h, e⟩ := bo_some e
    cases e
    obtain rfl : B = .nilIface := by simpa [Den] using hb
    simp only [Den] at ha
    obtain ⟨y, _, rfl⟩ := ha
    obtain ⟨k, hu⟩ := und_if h
    simp [Op.equalIn, run_underlying hu]
  · obtain ⟨h, e⟩ := bo_some e
    simp only [Den] at ha hb
    obtain ⟨X, hx, rfl⟩ := ha
    obtain ⟨Y, hy, rfl⟩ := hb
    obtain ⟨k, hu⟩ := und_if h
    rename_i u v u' v' _
    cases hq : Nat.beq u u' with
    | false =>
      rw [hq] at e
      cases e
      have hne : u ≠ u' := fun c => by rw [c, Nat.beq_refl] at hq; cases hq
      simp [Op.equalIn, run_underlying hu, hne]
    | true =>
      rw [hq] at e
      obtain ⟨ti, hti, e⟩ := ob_some e
      obtain ⟨hc, e'⟩ := bo_some e
      have := Nat.eq_of_beq_eq_true hq
      subst this
      have := hi e' hx hy w
      simp [Op.equalIn, run_underlying hu, typeInfo, hti, hc, this]
  · obtain ⟨h, e⟩ := bo_some e
    cases e
    obtain rfl : A = .slice none 0 _ := by simpa only [Den] using ha
    obtain rfl : B = .slice none 0 _ := by simpa only [Den] using hb
    obtain ⟨k, hu⟩ := isSlc_ok h
    simp [Op.equalIn, run_underlying hu]
  · obtain ⟨h, e⟩ := bo_some e
    cases e
    obtain rfl : A = .slice none 0 _ := by simpa only [Den] using ha
    simp only [Den] at hb
    obtain ⟨y, _, rfl⟩ := hb
    obtain ⟨k, hu⟩ := isSlc_ok h
    simp [Op.equalIn, run_underlying hu]
  · obtain ⟨h, e⟩ := bo_some e
    cases e
    obtain rfl : B = .slice none 0 _ := by simpa only [Den] using hb
    simp only [Den] at ha
    obtain ⟨y, _, rfl⟩ := ha
    obtain ⟨k, hu⟩ := isSlc_ok h
    simp [Op.equalIn, run_underlying hu]
  · obtain ⟨h, e⟩ := bo_some e
    cases e
    obtain rfl : A = .map none := by simpa [Den] using ha
    obtain rfl : B = .map none := by simpa [Den] using hb
    obtain ⟨k, v, hu⟩ := und_map h
    simp [Op.equalIn, run_underlying hu]
  · obtain ⟨h, e⟩ := bo_some e
    cases e
    obtain rfl : A = .map none := by simpa [Den] using ha
    simp only [Den] at hb
    obtain ⟨y, _, rfl⟩ := hb
    obtain ⟨k, v, hu⟩ := und_map h
    simp [Op.equalIn, run_underlying hu]
  · obtain ⟨h, e⟩ := bo_some e
    cases e
    obtain rfl : B = .map none := by simpa [Den] using hb
    simp only [Den] at ha
    obtain ⟨y, _, rfl⟩ := ha
    obtain ⟨k, v, hu⟩ := und_map h
    simp [Op.equalIn, run_underlying hu]
  · obtain ⟨h, e⟩ := bo_some e
    cases e
    obtain rfl : A = .nilFunc := by simpa [Den] using ha
    obtain rfl : B = .nilFunc := by simpa [Den] using hb
    obtain ⟨k, v, q, hu⟩ := und_fun h
    simp [Op.equalIn, run_underlying hu]
  · obtain ⟨h, e⟩ := bo_some e
    cases e
    obtain rfl : B = .nilFunc := by simpa [Den] using hb
    simp only [Den] at ha
    obtain ⟨y, _, rfl⟩ := ha
    obtain ⟨k, v, q, hu⟩ := und_fun h
    simp [Op.equalIn, run_underlying hu]
  · obtain ⟨h, e⟩ := bo_some e
    cases e
    obtain rfl : A = .nilFunc := by simpa [Den] using ha
    simp only [Den] at hb
    obtain ⟨y, _, rfl⟩ := hb
    obtain ⟨k, v, q, hu⟩ := und_fun h
    simp [Op.equalIn, run_underlying hu]
  · simp only [Den] at ha hb
    obtain ⟨X, hx, rfl⟩ := ha
    obtain ⟨Y, hy, rfl⟩ := hb
    split at e
    · rename_i fs hu
      cases hs : P.stoodInHeld t with
      | true => rw [hs] at e; cases e
      | false =>
        rw [hs] at e
        exact eq_struct hu hs (eqFs_ok hi hx hy e) w
    · cases e
  · cases e
theorem eqA_ok (P : Program) : ∀ d : Nat, EqOk P d (eqA P d)
  | 0 => fun e => by cases e
  | d + 1 => eqStep_ok (eqA_ok P d)
/-- What the guard of '==' asks. -/
noncomputable def guardOk (P : Program) (t : Nat) (x y : Operand) (a b : AV) : Bool := match a, b with
  | .nilI, .nilI => (match x with
    | .const _ => true
    | _ => (match y with
      | .const _ => true
      | _ => false))
  | .agg _, .agg _ => Bool.rec true false (P.eqGuardType P.depth t)
  | _, _ => true
noncomputable def eqOp (P : Program) (o : BinOp) (t : Nat) (x y : Operand) (a b : AV) : Option AV := bo (guardOk P t x y a b) (ob (eqA P 10000 t a b) fun c => match o with
  | .eql => some (.bool c)
  | .neq => some (.bool (Bool.rec true false c))
  | _ => none)
theorem den_nilI {a : AV} (h : Den σ a .nilIface) : a = .nilI ∨ a = .und := by
  cases a <;> first | exact Or.inl rfl | exact Or.inr rfl | (exfalso; simp [Den] at h)
theorem den_agg {a : AV} {C : Array Value} (h : Den σ a (.agg C)) : (∃ l, a = .agg l) ∨ a = .und := by
  cases a <;> first | exact Or.inl ⟨_, rfl⟩ | exact Or.inr rfl | (exfalso; simp [Den] at h)
theorem eqA_und {d t : Nat} {a b : AV} {c : Bool} (e : eqA P d t a b = some c) : a ≠ .und ∧ b ≠ .und := by
  cases d with
  | zero => cases e
  | succ d =>
    have e : eqStep P (eqA P d) t a b = some c := e
    refine ⟨fun h => ?_, fun h => ?_⟩
    · subst h; simp [eqStep] at e
    · subst h; cases a <;> simp [eqStep] at e
theorem guard_run {o : BinOp} {t : Nat} {x y : Operand} {a b : AV} {A B : Value} (h : guardOk P t x y a b = true) (ha : Den σ a A) (hb : Den σ b B) (hu : a ≠ .und ∧ b ≠ .und) (w : World) : (eqGuard o t x y A B).run P w = .ok () w := by
  have h1 : A = .nilIface → B = .nilIface → (∃ v, x = .const v) ∨ ∃ v, y = .const v := fun e1 e2 => by
    subst e1 e2
    have e3 := (den_nilI ha).resolve_right hu.1
    have e4 := (den_nilI hb).resolve_right hu.2
    subst e3 e4
    unfold guardOk at h
    cases x <;> cases y <;> simp at h ⊢
  have h2 : ∀ C D, A = .agg C → B = .agg D → P.eqGuardType P.depth t = false := fun C D e1 e2 => by
    subst e1 e2
    obtain ⟨l, rfl⟩ := (den_agg ha).resolve_right hu.1
    obtain ⟨m, rfl⟩ := (den_agg hb).resolve_right hu.2
    unfold guardOk at h
    cases hq : P.eqGuardType P.depth t with
    | false => rfl
    | true => simp [hq] at h
  cases o <;> unfold eqGuard <;> try (simp; done)
  all_goals
    simp only [Bool.not_true, Bool.false_eq_true, if_false]
    split
    · rcases h1 rfl rfl with ⟨v, rfl⟩ | ⟨v, rfl⟩
      · simp
      · cases x <;> simp
    · have := h2 _ _ rfl rfl
      simp [this]
    · simp
theorem op_binG {op : BinOp} {t yt : TypeId} {x y : Operand} {a b v : Value} (hx : ev ρ x = some a) (hy : ev ρ y = some b) (h : ∀ w, (do eqGuard op t x y a b; binOp op t a b : Sem Value).run P w = .ok v w) : OpQ P ρ L (.binOp op t x y yt) ty v :=
  ⟨fun r hr w hw o ho _ => by
    have h1 := h w
    simp only [execOp, ho, hr _ _ hx, hr _ _ hy]
    rw [Sem.run_bind, h1]
    rfl⟩
theorem eqOp_den {o : BinOp} {t yt : Nat} {x y : Operand} {a b r : AV} {A B : Value} (hx : ev ρ x = some A) (ha : Den σ a A) (hy : ev ρ y = some B) (hb : Den σ b B) (hn : ∀ k n, a ≠ .int k n) (hs : ∀ l, a ≠ .str l) (e : eqOp P o t x y a b = some r) : ∃ R, OpQ P ρ L (.binOp o t x y yt) ty R ∧ Den σ r R := by
  obtain ⟨hg, e⟩ := bo_some e
  obtain ⟨c, hc, e⟩ := ob_some e
  have hu := eqA_und hc
  have hrun := fun w => eqA_ok P 10000 (σ := σ) hc ha hb w
  have hAi : ∀ k n, A ≠ .int k n := fun k n e => by
    subst e
    cases a <;> simp [Den] at ha
    · exact hn _ _ rfl
    · exact hu.1 rfl
  have hAs : ∀ s, A ≠ .string s := fun s e => by
    subst e
    cases a <;> simp [Den] at ha
    · exact hs _ rfl
    · exact hu.1 rfl
  have hAf : ∀ k n, A ≠ .float k n := fun k n e => by
    subst e
    cases a <;> simp [Den] at ha
    exact hu.1 rfl
  have hAc : ∀ k n m, A ≠ .complex k n m := fun k n m e => by
    subst e
    cases a <;> simp [Den] at ha
    exact hu.1 rfl
  have hbin1 : ∀ w, (binOp .eql t A B).run P w = .ok (.bool c) w := fun w => by
    have h := hrun w
    unfold binOp
    cases A <;> first
      | exact absurd rfl (hAi _ _)
      | exact absurd rfl (hAs _)
      | exact absurd rfl (hAf _ _)
      | exact absurd rfl (hAc _ _ _)
      | (simp [Op.equal, Op.maxDepth, h])
  have hbin2 : ∀ w, (binOp .neq t A B).run P w = .ok (.bool (!c)) w := fun w => by
    have h := hrun w
    unfold binOp
    cases A <;> first
      | exact absurd rfl (hAi _ _)
      | exact absurd rfl (hAs _)
      | exact absurd rfl (hAf _ _)
      | exact absurd rfl (hAc _ _ _)
      | (simp [Op.equal, Op.maxDepth, h])
  cases o <;> first | (cases e; done) | skip
  · cases e
    exact ⟨.bool c, op_binG hx hy fun w => by rw [Sem.run_bind, guard_run hg ha hb hu w]; exact hbin1 w, den_bool⟩
  · cases e
    exact ⟨.bool (!c), op_binG hx hy fun w => by rw [Sem.run_bind, guard_run hg ha hb hu w]; exact hbin2 w, by cases c <;> exact den_bool⟩
end
end Go.Proofs.YtlicehodjhoamaaGreatDoor.Ev
