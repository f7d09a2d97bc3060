/-
  Part 1: Sl SlOp SlMem SlDraw SlTy SlMore St Ty Nm.
-/
import Derived.WalkKit
import Derived.WalkSpells
import Derived.WalkLawsBesides
import Derived.Lib.Hide
import Derived.Lib.ConvBytes
import Derived.OrdersHeld
import Derived.Maps.AppendAt
import Derived.Below
import Derived.Laws.MakeOwn
import Derived.Lib.AppendStr
import Derived.Laws.Cells
import Derived.Test.YtnhlpifbadncmaaDoorRows
namespace Go.Proofs.YtnhlpifbadncmaaDoor
open Go.RowKit
set_option linter.unusedVariables false
set_option linter.unusedSimpArgs false

/-! ### memory -/
abbrev Blocks := List (Nat × Obj)
/-- What no call here changes. -/
structure Still (G w : World) : Prop where
  os : w.os = G.os
  tape : w.tape = G.tape
  output : w.output = G.output
  size : G.heap.size ≤ w.heap.size
theorem Still.refl (G : World) : Still G G := ⟨rfl, rfl, rfl, Nat.le_refl _⟩
theorem Still.trans {G w w' : World} (h : Still G w) (k : Still w w') : Still G w' := ⟨k.os.trans h.os, k.tape.trans h.tape, k.output.trans h.output, Nat.le_trans h.size k.size⟩
variable {G : World}
structure Heap (G w : World) (L : Blocks) : Prop where
  still : Still G w
  nodup : (L.map (·.1)).Nodup
  get : ∀ p, p ∈ L → w.heap[p.1]? = some p.2

theorem Heap.lt {w : World} {L : Blocks} (h : Heap G w L) {p : Nat × Obj} (hp : p ∈ L) : p.1 < w.heap.size :=
  (Array.getElem?_eq_some_iff.1 (h.get p hp)).1
theorem Heap.same {w w' : World} {L : Blocks} (h : Heap G w L) (s : Still w w') (e : w'.heap = w.heap) : Heap G w' L := ⟨h.still.trans s, h.nodup, fun p hp => by rw [e]; exact h.get p hp⟩
theorem Heap.drew {w : World} {L : Blocks} (h : Heap G w L) : Heap G w.drew L := h.same ⟨rfl, rfl, rfl, Nat.le_refl _⟩ rfl
theorem Heap.sub {w : World} {L L' : Blocks} (h : Heap G w L) (s : L'.Sublist L) : Heap G w L' :=
  ⟨h.still, h.nodup.sublist (s.map _), fun p hp => h.get p (s.subset hp)⟩
theorem Heap.perm {w : World} {L L' : Blocks} (h : Heap G w L) (s : L.Perm L') : Heap G w L' :=
  ⟨h.still, (s.map (·.1)).nodup_iff.1 h.nodup, fun p hp => h.get p (s.mem_iff.2 hp)⟩
theorem Heap.alloc {w : World} {L : Blocks} (h : Heap G w L) (o : Obj) : Heap G (w.alloc o) ((w.heap.size, o) :: L) := by
  refine ⟨h.still.trans ⟨rfl, rfl, rfl, by simp⟩, ?_, fun p hp => ?_⟩
  · rw [List.map_cons, List.nodup_cons]
    refine ⟨fun hm => ?_, h.nodup⟩
    obtain ⟨q, hq, e⟩ := List.mem_map.1 hm
    have := h.lt hq
    omega
  · rcases List.mem_cons.1 hp with rfl | hp
    · exact heap_alloc_new w o
    · have := h.lt hp
      rw [show (w.alloc o).heap[p.1]? = w.heap[p.1]? by show (w.heap.push o)[p.1]? = _; rw [Array.getElem?_push]; simp; omega]
      exact h.get p hp
theorem Heap.ne {w : World} {L : Blocks} {b : Nat} {o : Obj} (h : Heap G w ((b, o) :: L)) {p : Nat × Obj} (hp : p ∈ L) : p.1 ≠ b := by
  have := h.nodup
  rw [List.map_cons, List.nodup_cons] at this
  intro e
  exact this.1 (List.mem_map.2 ⟨p, hp, e⟩)
/-- One block is written, all others are as they were. -/
theorem Heap.update {w w' : World} {L : Blocks} {b : Nat} {o o' : Obj} (h : Heap G w ((b, o) :: L)) (s : Still w w') (hb : w'.heap[b]? = some o') (ho : ∀ j, j < w.heap.size → j ≠ b → w'.heap[j]? = w.heap[j]?) : Heap G w' ((b, o') :: L) := by
  refine ⟨h.still.trans s, h.nodup, fun p hp => ?_⟩
  rcases List.mem_cons.1 hp with rfl | hp
  · exact hb
  · rw [ho _ (h.lt (List.mem_cons_of_mem _ hp)) (h.ne hp)]
    exact h.get p (List.mem_cons_of_mem _ hp)
theorem Heap.tail {w : World} {L : Blocks} {p : Nat × Obj} (h : Heap G w (p :: L)) : Heap G w L := h.sub (List.sublist_cons_self _ _)
theorem Heap.cell {w : World} {L : Blocks} {b : Nat} {C : Array Value} {e : TypeId} {fr : Nat × Nat} (h : Heap G w L) (hm : (b, Obj.cells C e fr) ∈ L) {off : Nat} {v : Value} (hv : C[off]? = some v) :
    w.cell? ⟨b, off, none⟩ = some v := by
  unfold World.cell?
  rw [h.get _ hm]
  simpa using hv
/-- What is in memory from the first on: all blocks of a world. -/
def allBlocks (w : World) : Blocks := w.heap.toList.zipIdx.map fun p => (p.2, p.1)
theorem Heap.all (w : World) : Heap w w (allBlocks w) := by
  refine ⟨Still.refl _, ?_, fun p hp => ?_⟩
  · unfold allBlocks
    rw [List.map_map, show ((fun x : Nat × Obj => x.1) ∘ fun p : Obj × Nat => (p.2, p.1)) = Prod.snd from rfl]
    rw [List.zipIdx_map_snd]
    exact List.nodup_range'
  · obtain ⟨q, hq, rfl⟩ := List.mem_map.1 hp
    have := List.mem_zipIdx_iff_getElem?.1 hq
    simpa using this
theorem mem_all {w : World} {b : Nat} {o : Obj} (h : w.heap[b]? = some o) : (b, o) ∈ allBlocks w := by
  refine List.mem_map.2 ⟨(o, b), ?_, rfl⟩
  rw [List.mem_zipIdx_iff_getElem?]
  simpa using h

/-! ### slots -/
abbrev Slots := List (Nat × Value)
structure Env (n : Nat) (ρ : Slots) (a : Act) : Prop where
  size : a.tmps.size = n
  defers : a.defers = []
  get : ∀ t v, ρ.lookup t = some v → a.tmps[t]? = some v
def ev (ρ : Slots) : Operand → Option Value
  | .tmp t => ρ.lookup t
  | .const v => some v
  | .global g => some (.pointer (some ⟨g, 0, none⟩))
  | .func f => some (.func (.func f) #[] #[])
/-- What operands read as. -/
def Reads (ρ : Slots) (r : Operand → Value) : Prop := ∀ x v, ev ρ x = some v → r x = v
theorem Env.reads {n : Nat} {ρ : Slots} {a : Act} (h : Env n ρ a) : Reads ρ a.eval := by
  intro x v hx
  cases x with
  | tmp t =>
    show a.tmps.getD t undef = v
    rw [Array.getD_eq_getD_getElem?, h.get t v hx]
    rfl
  | const c => exact Option.some.inj hx
  | global g => exact Option.some.inj hx
  | func f => exact Option.some.inj hx
theorem Env.put {n : Nat} {ρ : Slots} {a : Act} (h : Env n ρ a) (d : Nat) (hd : d < n) (v : Value) : Env n ((d, v) :: ρ) (a.put (some d) v) := by
  refine ⟨by show (a.tmps.setIfInBounds d v).size = n; simp [h.size], h.defers, fun t u hu => ?_⟩
  show (a.tmps.setIfInBounds d v)[t]? = some u
  rw [List.lookup_cons] at hu
  by_cases e : t = d
  · subst e
    simp at hu
    rw [Array.getElem?_setIfInBounds_self_of_lt (by rw [h.size]; exact hd), hu]
  · have e' : (t == d) = false := by simpa using e
    rw [e'] at hu
    rw [Array.getElem?_setIfInBounds_ne (Ne.symm e)]
    exact h.get t u hu
theorem Env.weak {n : Nat} {ρ ρ' : Slots} {a : Act} (h : Env n ρ a) (hs : ∀ t v, ρ'.lookup t = some v → ρ.lookup t = some v) : Env n ρ' a :=
  ⟨h.size, h.defers, fun t v hv => h.get t v (hs t v hv)⟩

/-! ### one operation -/
/-- What a run comes to: a value, in a world. -/
def Outcome (P : Program) (K : Value → World → Prop) : Result Next → Prop
  | .ok (.value v) w => K v w
  | .ok .skip w => K undef w
  | .ok (.enter f args) w => Calls P f args w fun e w' => ∃ v, e = .returned v ∧ K v w'
  | _ => False
structure OpT (P : Program) (G : World) (ρ : Slots) (L : Blocks) (op : Op) (ty : TypeId) (Φ : Value → Blocks → Prop) : Prop where
  out : ∀ r, Reads ρ r → ∀ w, Heap G w L → ∀ o : Oper, o.op = op → o.type = ty → Outcome P (fun v w' => ∃ L', Φ v L' ∧ Heap G w' L') ((execOp r o).run P w)
/-- The value, and the blocks behind it. -/
abbrev OpV (P : Program) (G : World) (ρ : Slots) (L : Blocks) (op : Op) (ty : TypeId) (v : Value) (L' : Blocks) : Prop := OpT P G ρ L op ty fun u M => u = v ∧ M = L'

theorem OpT.wp {P : Program} {n : Nat} {ρ : Slots} {L : Blocks} {o : Oper} {Φ : Value → Blocks → Prop} (h : OpT P G ρ L o.op o.type Φ) {a : Act} {w : World} (he : Env n ρ a) (hw : Heap G w L)
    {K : Act → World → Prop} {Q : Exit → Act → World → Prop} (hK : ∀ v L' w', Φ v L' → Heap G w' L' → K (a.put o.dst v) w') : o.wp P a w K Q := by
  have := h.out a.eval he.reads w hw o rfl rfl
  unfold Oper.wp
  revert this
  generalize (execOp a.eval o).run P w = r
  intro this
  match r, this with
  | .ok (.value v) w', ⟨L', h1, h2⟩ => exact hK v L' w' h1 h2
  | .ok .skip w', ⟨L', h1, h2⟩ => exact hK undef L' w' h1 h2
  | .ok (.enter f args) w', hc =>
    refine Calls.mono hc fun e w'' hh => ?_
    obtain ⟨v, rfl, L', h1, h2⟩ := hh
    exact hK v L' w'' h1 h2

/-! ### code -/
structure T (P : Program) (G : World) (n : Nat) (ρ : Slots) (L : Blocks) (c : Code) (Q : Exit → Act → World → Prop) : Prop where
  out : ∀ a w, Env n ρ a → Heap G w L → c.wp P Q a w
structure TL (P : Program) (G : World) (ops : Array Oper) (n : Nat) (ρ : Slots) (L : Blocks) (l : List Oper) (Q : Exit → Act → World → Prop) : Prop where
  out : ∀ a w, Env n ρ a → Heap G w L → wpList P ops Q l a w
structure TQ (G : World) (n : Nat) (ρ : Slots) (L : Blocks) (e : Exit) (Q : Exit → Act → World → Prop) : Prop where
  out : ∀ a w, Env n ρ a → Heap G w L → Q e a w
section
variable {P : Program} {n : Nat} {ρ : Slots} {L : Blocks} {Q : Exit → Act → World → Prop}
theorem T_seq {x y : Code} (h : T P G n ρ L x (Exit.then (y.wp P Q) Q)) : T P G n ρ L (.seq x y) Q := ⟨fun a w he hw => wp_seq (h.out a w he hw)⟩
theorem T_block {id : Nat} {c : Code} (h : T P G n ρ L c (Exit.inBlock id Q)) : T P G n ρ L (.block id c) Q := ⟨fun a w he hw => wp_block (h.out a w he hw)⟩
theorem T_skip (h : TQ G n ρ L .normal Q) : T P G n ρ L .skip Q := ⟨fun a w he hw => wp_skip (h.out a w he hw)⟩
theorem T_label {l : Nat} (h : TQ G n ρ L .normal Q) : T P G n ρ L (.label l) Q := ⟨fun a w he hw => wp_label (h.out a w he hw)⟩
theorem T_exit {id : Nat} (h : TQ G n ρ L (.exit id) Q) : T P G n ρ L (.exit id) Q := ⟨fun a w he hw => wp_exit (h.out a w he hw)⟩
theorem T_ret (h : TQ G n ρ L .ret Q) : T P G n ρ L .ret Q := ⟨fun a w he hw => wp_ret (h.out a w he hw)⟩
theorem T_true {c : Operand} {x y : Code} (hc : ev ρ c = some (.bool true)) (ht : T P G n ρ L x Q) : T P G n ρ L (.cond c x y) Q := ⟨fun a w he hw => wp_cond_true (he.reads c _ hc) (ht.out a w he hw)⟩
theorem T_false {c : Operand} {x y : Code} (hc : ev ρ c = some (.bool false)) (ht : T P G n ρ L y Q) : T P G n ρ L (.cond c x y) Q := ⟨fun a w he hw => wp_cond_false (he.reads c _ hc) (ht.out a w he hw)⟩
theorem T_region {id : Nat} {l : List Oper} (h : TL P G l.toArray n ρ L l Q) : T P G n ρ L (.region id l.toArray false) Q := ⟨fun a w he hw => wp_region_lit (h.out a w he hw)⟩
theorem TL_nil {ops : Array Oper} (h : TQ G n ρ L .normal Q) : TL P G ops n ρ L [] Q := ⟨fun a w he hw => wpList_nil (h.out a w he hw)⟩
theorem TQ_then {y : Code} {Q' : Exit → Act → World → Prop} (h : T P G n ρ L y Q) : TQ G n ρ L .normal (Exit.then (y.wp P Q) Q') := ⟨fun a w he hw => h.out a w he hw⟩
theorem TQ_then_exit {id : Nat} {K : Act → World → Prop} (h : TQ G n ρ L (.exit id) Q) : TQ G n ρ L (.exit id) (Exit.then K Q) := ⟨fun a w he hw => h.out a w he hw⟩
theorem TQ_then_goto {id : Nat} {K : Act → World → Prop} (h : TQ G n ρ L (.goto id) Q) : TQ G n ρ L (.goto id) (Exit.then K Q) := ⟨fun a w he hw => h.out a w he hw⟩
theorem TQ_then_ret {K : Act → World → Prop} (h : TQ G n ρ L .ret Q) : TQ G n ρ L .ret (Exit.then K Q) := ⟨fun a w he hw => h.out a w he hw⟩
theorem TQ_block {id : Nat} (h : TQ G n ρ L .normal Q) : TQ G n ρ L .normal (Exit.inBlock id Q) := ⟨fun a w he hw => h.out a w he hw⟩
theorem TQ_block_ret {id : Nat} (h : TQ G n ρ L .ret Q) : TQ G n ρ L .ret (Exit.inBlock id Q) := ⟨fun a w he hw => h.out a w he hw⟩
theorem TQ_block_goto {id l : Nat} (h : TQ G n ρ L (.goto l) Q) : TQ G n ρ L (.goto l) (Exit.inBlock id Q) := ⟨fun a w he hw => h.out a w he hw⟩
theorem TQ_block_exit {id : Nat} (h : TQ G n ρ L .normal Q) : TQ G n ρ L (.exit id) (Exit.inBlock id Q) := ⟨fun a w he hw => by simp only [Exit.inBlock, if_true]; exact h.out a w he hw⟩
theorem TQ_block_past {id id' : Nat} (hne : (id' == id) = false) (h : TQ G n ρ L (.exit id') Q) : TQ G n ρ L (.exit id') (Exit.inBlock id Q) := ⟨fun a w he hw => by
  have : id' ≠ id := by simpa using hne
  simp only [Exit.inBlock, this, if_false]; exact h.out a w he hw⟩

/-- An operation with a slot, unguarded. -/
theorem TL_opT {ops : Array Oper} {d : Nat} {op : Op} {ty : TypeId} {pos : String} {after : Array Edge} {rest : List Oper} {Φ : Value → Blocks → Prop}
    (h : OpT P G ρ L op ty Φ) (hd : Nat.blt d n = true) (hr : ∀ v L', Φ v L' → TL P G ops n ((d, v) :: ρ) L' rest Q) : TL P G ops n ρ L (⟨some d, op, ty, pos, after, none⟩ :: rest) Q :=
  ⟨fun a w he hw => wpList_plain rfl fun K hK => OpT.wp (o := ⟨some d, op, ty, pos, after, none⟩) h he hw fun v L' w' h1 h2 =>
    hK _ _ ((hr v L' h1).out _ _ (he.put d (by simpa using hd) v) h2)⟩
theorem TL_op {ops : Array Oper} {d : Nat} {op : Op} {ty : TypeId} {pos : String} {after : Array Edge} {rest : List Oper} {v : Value} {L' : Blocks}
    (h : OpV P G ρ L op ty v L') (hd : Nat.blt d n = true) (hr : TL P G ops n ((d, v) :: ρ) L' rest Q) : TL P G ops n ρ L (⟨some d, op, ty, pos, after, none⟩ :: rest) Q :=
  TL_opT h hd fun _ _ ⟨h1, h2⟩ => h1 ▸ h2 ▸ hr
theorem TL_opNT {ops : Array Oper} {op : Op} {ty : TypeId} {pos : String} {after : Array Edge} {rest : List Oper} {Φ : Value → Blocks → Prop}
    (h : OpT P G ρ L op ty Φ) (hr : ∀ v L', Φ v L' → TL P G ops n ρ L' rest Q) : TL P G ops n ρ L (⟨none, op, ty, pos, after, none⟩ :: rest) Q :=
  ⟨fun a w he hw => wpList_plain rfl fun K hK => OpT.wp (o := ⟨none, op, ty, pos, after, none⟩) h he hw fun v L' w' h1 h2 => hK _ _ ((hr v L' h1).out _ _ he h2)⟩
theorem TL_opN {ops : Array Oper} {op : Op} {ty : TypeId} {pos : String} {after : Array Edge} {rest : List Oper} {v : Value} {L' : Blocks}
    (h : OpV P G ρ L op ty v L') (hr : TL P G ops n ρ L' rest Q) : TL P G ops n ρ L (⟨none, op, ty, pos, after, none⟩ :: rest) Q := TL_opNT h fun _ _ ⟨_, h2⟩ => h2 ▸ hr
/-- The slot of a guard. -/
def guardSlot (ops : Array Oper) (j : Nat) : Option Nat := (ops[j]?).bind (·.dst)
theorem wanted_of {ops : Array Oper} {o : Oper} {j d : Nat} {b want : Bool} {a : Act} (he : Env n ρ a) (hg : o.guard = some (j, want)) (hs : guardSlot ops j = some d) (hv : ρ.lookup d = some (.bool b)) :
    Region.wanted o (yielded ops a.tmps) = (b == want) := by
  have h1 := he.get d _ hv
  unfold Region.wanted
  rw [hg]
  simp only [guardSlot] at hs
  simp [yielded, hs, h1]
/-- A guarded operation that is wanted. -/
theorem TL_gT {ops : Array Oper} {d j dj : Nat} {op : Op} {ty : TypeId} {pos : String} {after : Array Edge} {rest : List Oper} {Φ : Value → Blocks → Prop} {want : Bool}
    (hs : guardSlot ops j = some dj) (hv : ρ.lookup dj = some (.bool want))
    (h : OpT P G ρ L op ty Φ) (hd : Nat.blt d n = true) (hr : ∀ v L', Φ v L' → TL P G ops n ((d, v) :: ρ) L' rest Q) : TL P G ops n ρ L (⟨some d, op, ty, pos, after, some (j, want)⟩ :: rest) Q :=
  ⟨fun a w he hw => wpList_step fun K hK => by
    rw [wanted_of he rfl hs hv]
    simp only [BEq.rfl, if_true]
    exact OpT.wp (o := ⟨some d, op, ty, pos, after, some (j, want)⟩) h he hw fun v L' w' h1 h2 => hK _ _ ((hr v L' h1).out _ _ (he.put d (by simpa using hd) v) h2)⟩
theorem TL_g {ops : Array Oper} {d j dj : Nat} {op : Op} {ty : TypeId} {pos : String} {after : Array Edge} {rest : List Oper} {v : Value} {L' : Blocks} {want : Bool}
    (hs : guardSlot ops j = some dj) (hv : ρ.lookup dj = some (.bool want))
    (h : OpV P G ρ L op ty v L') (hd : Nat.blt d n = true) (hr : TL P G ops n ((d, v) :: ρ) L' rest Q) : TL P G ops n ρ L (⟨some d, op, ty, pos, after, some (j, want)⟩ :: rest) Q :=
  TL_gT hs hv h hd fun _ _ ⟨h1, h2⟩ => h1 ▸ h2 ▸ hr
/-- One that is not. -/
theorem TL_skip {ops : Array Oper} {d j dj : Nat} {op : Op} {ty : TypeId} {pos : String} {after : Array Edge} {rest : List Oper} {want : Bool}
    (hs : guardSlot ops j = some dj) (hv : ρ.lookup dj = some (.bool !want)) (hd : Nat.blt d n = true) (hr : TL P G ops n ((d, undef) :: ρ) L rest Q) :
    TL P G ops n ρ L (⟨some d, op, ty, pos, after, some (j, want)⟩ :: rest) Q :=
  ⟨fun a w he hw => wpList_step fun K hK => by
    rw [wanted_of he rfl hs hv, if_neg (by cases want <;> simp)]
    exact hK _ _ (hr.out _ _ (he.put d (by simpa using hd) undef) hw)⟩
/-- What need not be known any more. -/
theorem T_weak {c : Code} (ρ' : Slots) {L' : Blocks} (hs : ∀ t v, ρ'.lookup t = some v → ρ.lookup t = some v) (hl : ∀ w, Heap G w L → Heap G w L') (h : T P G n ρ' L' c Q) : T P G n ρ L c Q :=
  ⟨fun a w he hw => h.out a w (he.weak hs) (hl w hw)⟩
theorem TL_heap {ops : Array Oper} {l : List Oper} {L' : Blocks} (hl : ∀ w, Heap G w L → Heap G w L') (h : TL P G ops n ρ L' l Q) : TL P G ops n ρ L l Q := ⟨fun a w he hw => h.out a w he (hl w hw)⟩
theorem TQ_heap {e : Exit} {L' : Blocks} (hl : ∀ w, Heap G w L → Heap G w L') (h : TQ G n ρ L' e Q) : TQ G n ρ L e Q := ⟨fun a w he hw => h.out a w he (hl w hw)⟩
/-- A LOOP: its state is of some type; slots and blocks are functions of it. -/
def LoopInv {σ : Type} (G : World) (n : Nat) (I : σ → Prop) (ρI : σ → Slots) (LI : σ → Blocks) (μ : σ → Nat) (m : Nat) (a : Act) (w : World) : Prop := ∃ x, I x ∧ Env n (ρI x) a ∧ Heap G w (LI x) ∧ μ x < m
theorem T_loop {σ : Type} {c : Code} (I : σ → Prop) (ρI : σ → Slots) (LI : σ → Blocks) (μ : σ → Nat) (x0 : σ) (h0 : I x0) (hs : ∀ t v, (ρI x0).lookup t = some v → ρ.lookup t = some v) (hl : ∀ w, Heap G w L → Heap G w (LI x0))
    (round : ∀ x, I x → T P G n (ρI x) (LI x) c (Exit.then (LoopInv G n I ρI LI μ (μ x)) Q)) : T P G n ρ L (.loop c) Q := by
  refine ⟨fun a w he hw b k cs => ?_⟩
  suffices H : ∀ m x, μ x = m → I x → ∀ a w, Env n (ρI x) a → Heap G w (LI x) → ∃ e a' w', Q e a' w' ∧ Arrives P (lone (b.at a (.code c :: .inLoop c :: k)) cs w) b k cs e a' w' by
    obtain ⟨e, a', w', hq, harr⟩ := H _ x0 rfl h0 a w (he.weak hs) (hl w hw)
    exact ⟨e, a', w', hq, .of_steps (.one step_loop) harr⟩
  intro m
  induction m using Nat.strongRecOn with
  | _ m ih =>
    intro x hx hI a w he hw
    obtain ⟨e, a₁, w₁, hq, harr⟩ := (round x hI).out a w he hw b (.inLoop c :: k) cs
    cases e with
    | normal =>
      obtain ⟨x', hI', he', hw', hlt⟩ := hq
      obtain ⟨e₂, a₂, w₂, hq₂, harr₂⟩ := ih (μ x') (hx ▸ hlt) x' rfl hI' a₁ w₁ he' hw'
      exact ⟨e₂, a₂, w₂, hq₂, .of_steps (Steps.trans harr (.one step_inLoop)) harr₂⟩
    | exit id => exact ⟨_, a₁, w₁, hq, .pass (x := .inLoop c) rfl (fun _ _ => .inl (by simp)) harr⟩
    | goto l => exact ⟨_, a₁, w₁, hq, .pass (x := .inLoop c) rfl (fun _ _ => .inl (by simp)) harr⟩
    | ret => exact ⟨_, a₁, w₁, hq, .pass (x := .inLoop c) rfl (fun _ _ => .inl (by simp)) harr⟩
    | panic ch => exact ⟨_, a₁, w₁, hq, .pass (x := .inLoop c) rfl (fun _ _ => .inl (by simp)) harr⟩
    | outgrown => exact ⟨_, a₁, w₁, hq, .pass (x := .inLoop c) rfl (fun _ _ => .inl (by simp)) harr⟩
/-- The round's end. -/
theorem TQ_round {σ : Type} {I : σ → Prop} {ρI : σ → Slots} {LI : σ → Blocks} {μ : σ → Nat} {m : Nat} (x : σ) (hI : I x) (hs : ∀ t v, (ρI x).lookup t = some v → ρ.lookup t = some v) (hl : ∀ w, Heap G w L → Heap G w (LI x)) (hm : μ x < m) :
    TQ G n ρ L .normal (Exit.then (LoopInv G n I ρI LI μ m) Q) := ⟨fun _ w he hw => ⟨x, hI, he.weak hs, hl w hw, hm⟩⟩

/-! ### functions -/
def RetPost (G : World) (Φ : Value → Blocks → Prop) (e : Ending) (w : World) : Prop := ∃ v L', e = .returned v ∧ Φ v L' ∧ Heap G w L'
structure Spec (P : Program) (G : World) (f : FuncId) (args : Array Value) (L : Blocks) (Φ : Value → Blocks → Prop) : Prop where
  out : ∀ w, Heap G w L → Calls P f args w (RetPost G Φ)
def argSlots : Nat → List Value → Slots
  | _, [] => []
  | k, v :: vs => (k, v) :: argSlots (k + 1) vs
theorem argSlots_get : ∀ (vs : List Value) (k t : Nat) (v : Value), (argSlots k vs).lookup t = some v → k ≤ t ∧ vs[t - k]? = some v
  | [], _, _, _, h => by simp [argSlots] at h
  | u :: vs, k, t, v, h => by
    simp only [argSlots, List.lookup_cons] at h
    by_cases e : t = k
    · subst e
      simp at h
      subst h
      simp
    · have e' : (t == k) = false := by simpa using e
      rw [e'] at h
      have ⟨h1, h2⟩ := argSlots_get vs (k + 1) t v h
      refine ⟨by omega, ?_⟩
      rw [show t - k = (t - (k + 1)) + 1 by omega, List.getElem?_cons_succ]
      exact h2
theorem Spec_of {f : FuncId} {fn : Func} {c : Code} {args : Array Value} {Φ : Value → Blocks → Prop} (hf : P.funcs[f]? = some fn) (hb : fn.body = some c) (hn : fn.ntmps = n) (hs : Nat.ble args.size n = true)
    (h : T P G n (argSlots 0 args.toList) L c (bodyPost P fn (RetPost G Φ))) : Spec P G f args L Φ := by
  refine ⟨fun w hw => calls_of_wp hf hb (h.out _ _ ⟨?_, rfl, fun t v hv => ?_⟩ hw)⟩
  · have : args.size ≤ n := by simpa using hs
    simp [hn]
    omega
  · obtain ⟨_, h2⟩ := argSlots_get args.toList 0 t v hv
    have h3 : args[t]? = some v := by simpa using h2
    have h4 := (Array.getElem?_eq_some_iff.1 h3).1
    show (args ++ _)[t]? = some v
    rw [Array.getElem?_append_left h4]
    exact h3
theorem Spec.mono {f : FuncId} {args : Array Value} {Φ Ψ : Value → Blocks → Prop} (h : Spec P G f args L Φ) (hi : ∀ v L', Φ v L' → Ψ v L') : Spec P G f args L Ψ :=
  ⟨fun w hw => (h.out w hw).mono fun _ _ ⟨v, L', h1, h2, h3⟩ => ⟨v, L', h1, hi v L' h2, h3⟩⟩
theorem Spec.heap {f : FuncId} {args : Array Value} {L' : Blocks} {Φ : Value → Blocks → Prop} (hl : ∀ w, Heap G w L → Heap G w L') (h : Spec P G f args L' Φ) : Spec P G f args L Φ := ⟨fun w hw => h.out w (hl w hw)⟩
/-- A value that a contract of the elder kind tells. -/
theorem Spec.ofBelow {f : FuncId} {args : Array Value} {v : Value} (h : ∀ w, Calls P f args w fun e w' => e = .returned v ∧ Below w.heap.size w w') : Spec P G f args L fun u L' => u = v ∧ L' = L :=
  ⟨fun w hw => (h w).mono fun _ w' ⟨h1, h2⟩ => ⟨v, L, h1, ⟨rfl, rfl⟩, hw.still.trans ⟨h2.os, h2.tape, h2.output, h2.size⟩, hw.nodup, fun p hp => (h2.block p.1 (hw.lt hp)).trans (hw.get p hp)⟩⟩
theorem Spec.ofSame {f : FuncId} {args : Array Value} {v : Value} (h : ∀ w, Calls P f args w fun e w' => e = .returned v ∧ w = w') : Spec P G f args L fun u L' => u = v ∧ L' = L :=
  ⟨fun w hw => (h w).mono fun _ w' ⟨h1, h2⟩ => ⟨v, L, h1, ⟨rfl, rfl⟩, h2 ▸ hw⟩⟩
/-- And back. -/
theorem Spec.below {f : FuncId} {args : Array Value} {w : World} {v : Value} (h : Spec P w f args (allBlocks w) fun u L' => u = v ∧ L' = allBlocks w) :
    Calls P f args w fun e w' => e = .returned v ∧ Below w.heap.size w w' :=
  (h.out w (Heap.all w)).mono fun e w' ⟨u, L', h1, ⟨h2, h3⟩, h4⟩ => by
    subst h2 h3
    refine ⟨h1, h4.still.os, h4.still.tape, h4.still.output, h4.still.size, fun k hk => ?_⟩
    have hg : w.heap[k]? = some w.heap[k] := Array.getElem?_eq_getElem hk
    rw [hg]
    exact h4.get _ (mem_all hg)
end
end Go.Proofs.YtnhlpifbadncmaaDoor
namespace Go.Proofs.YtnhlpifbadncmaaDoor
open Go.RowKit
set_option linter.unusedVariables false
set_option linter.unusedSimpArgs false
variable {G : World} {P : Program} {n : Nat} {ρ : Slots} {L : Blocks} {ty : TypeId}

theorem OpV.run {op : Op} {v : Value} {L' : Blocks} (h : ∀ r, Reads ρ r → ∀ w, Heap G w L → ∀ o : Oper, o.op = op → o.type = ty → ∃ w', (execOp r o).run P w = .ok (.value v) w' ∧ Heap G w' L') : OpV P G ρ L op ty v L' :=
  ⟨fun r hr w hw o ho ht => by
    obtain ⟨w', h1, h2⟩ := h r hr w hw o ho ht
    rw [h1]
    exact ⟨L', ⟨rfl, rfl⟩, h2⟩⟩
/-- A run that changes no world. -/
theorem OpV.pure {op : Op} {v : Value} (h : ∀ r, Reads ρ r → ∀ w, Heap G w L → ∀ o : Oper, o.op = op → o.type = ty → (execOp r o).run P w = .ok (.value v) w) : OpV P G ρ L op ty v L :=
  OpV.run fun r hr w hw o ho ht => ⟨w, h r hr w hw o ho ht, hw⟩

/-- What blocks are known to be there. -/
structure Has (w : World) (L : Blocks) : Prop where
  get : ∀ p, p ∈ L → w.heap[p.1]? = some p.2
theorem Has.cell {w : World} {L : Blocks} {b : Nat} {C : Array Value} {e : TypeId} {fr : Nat × Nat} (h : Has w L) (hm : (b, Obj.cells C e fr) ∈ L) {off : Nat} {v : Value} (hv : C[off]? = some v) :
    w.cell? ⟨b, off, none⟩ = some v := by
  unfold World.cell?
  rw [h.get _ hm]
  simpa using hv
theorem Heap.has {w : World} (h : Heap G w L) : Has w L := ⟨h.get⟩
/-- An operation that only computes and reads. -/
structure OpQ (P : Program) (ρ : Slots) (L : Blocks) (op : Op) (ty : TypeId) (v : Value) : Prop where
  out : ∀ r, Reads ρ r → ∀ w, Has w L → ∀ o : Oper, o.op = op → o.type = ty → (execOp r o).run P w = .ok (.value v) w
theorem OpQ.v {op : Op} {v : Value} (h : OpQ P ρ L op ty v) : OpV P G ρ L op ty v L := .pure fun r hr w hw o ho ht => h.out r hr w hw.has o ho ht

theorem op_move {x : Operand} {v : Value} (hx : ev ρ x = some v) : OpQ P ρ L (.move x) ty v :=
  ⟨fun r hr w hw o ho _ => by simp [execOp, ho, hr x v hx]⟩
theorem op_assign {x : Operand} {v : Value} (hx : ev ρ x = some v) : OpQ P ρ L (.assign x) ty v :=
  ⟨fun r hr w hw o ho _ => by simp [execOp, ho, hr x v hx]⟩
theorem op_pick {c a b : Operand} {t : Bool} {v : Value} (hc : ev ρ c = some (.bool t)) (hv : ev ρ (if t then a else b) = some v) : OpQ P ρ L (.pick c a b) ty v :=
  ⟨fun r hr w hw o ho _ => by
    have h1 := hr _ _ hv
    simp [execOp, ho, hr _ _ hc, asBool]
    cases t <;> simpa using h1⟩
theorem op_extract {x : Operand} {vs : Array Value} {i : Nat} {v : Value} (hx : ev ρ x = some (.tuple vs)) (hv : vs[i]? = some v) : OpQ P ρ L (.extract x i) ty v :=
  ⟨fun r hr w hw o ho _ => by simp [execOp, ho, hr _ _ hx, Instr.extract, hv]⟩
theorem op_nilCheck {x : Operand} {a : Addr} (hx : ev ρ x = some (.pointer (some a))) : OpQ P ρ L (.nilCheck x) ty (.pointer (some a)) :=
  ⟨fun r hr w hw o ho _ => by simp [execOp, ho, hr _ _ hx]⟩
theorem op_not {x : Operand} {t : TypeId} {b : Bool} (hx : ev ρ x = some (.bool b)) : OpQ P ρ L (.unOp .not t x) ty (.bool (!b)) :=
  ⟨fun r hr w hw o ho _ => by simp [execOp, ho, hr _ _ hx, Op.unary]⟩

/-! ### numbers -/
def InK : IntKind → Int → Prop
  | .i64, a => -9223372036854775808 ≤ a ∧ a ≤ 9223372036854775807
  | .u8, a => 0 ≤ a ∧ a ≤ 255
  | .u16, a => 0 ≤ a ∧ a ≤ 65535
  | .u32, a => 0 ≤ a ∧ a ≤ 4294967295
  | .u64, a => 0 ≤ a ∧ a ≤ 18446744073709551615
  | .i32, a => -2147483648 ≤ a ∧ a ≤ 2147483647
  | _, _ => False
theorem wrap_in {k : IntKind} {a : Int} (h : InK k a) : k.wrap a = a := by
  cases k <;> first | exact IntWalk.i64_in _ h | exact IntWalk.u8_in _ h | exact IntWalk.u16_in _ h | exact IntWalk.u32_in _ h | exact IntWalk.u64_in _ h | exact IntWalk.i32_in _ h | exact h.elim

/-- What an operator makes of two values. -/
structure Bin (P : Program) (op : BinOp) (t : TypeId) (a b v : Value) : Prop where
  out : ∀ (x y : Operand) w, (do eqGuard op t x y a b; binOp op t a b : Sem Value).run P w = .ok v w
theorem op_bin {op : BinOp} {t yt : TypeId} {x y : Operand} {a b v : Value} (hx : ev ρ x = some a) (hy : ev ρ y = some b) (h : Bin P op t a b v) : OpQ P ρ L (.binOp op t x y yt) ty v :=
  ⟨fun r hr w hw o ho _ => by
    have h1 := h.out x y w
    simp only [execOp, ho, hr _ _ hx, hr _ _ hy]
    rw [Sem.run_bind, h1]
    rfl⟩
section
variable {t : TypeId} {k : IntKind} {a b : Int}
theorem bin_add (h : InK k (a + b)) : Bin P .add t (.int k a) (.int k b) (.int k (a + b)) := ⟨fun x y w => by simp [eqGuard, binOp, Op.intArith, wrap_in h]⟩
theorem bin_sub (h : InK k (a - b)) : Bin P .sub t (.int k a) (.int k b) (.int k (a - b)) := ⟨fun x y w => by simp [eqGuard, binOp, Op.intArith, wrap_in h]⟩
theorem bin_mul (h : InK k (a * b)) : Bin P .mul t (.int k a) (.int k b) (.int k (a * b)) := ⟨fun x y w => by simp [eqGuard, binOp, Op.intArith, wrap_in h]⟩
theorem bin_quo (h1 : 0 ≤ a) (h2 : 1 ≤ b) (h : InK k (a / b)) : Bin P .quo t (.int k a) (.int k b) (.int k (a / b)) := ⟨fun x y w => by
  have hb : b ≠ 0 := by omega
  simp [eqGuard, binOp, Op.intDiv, hb, Int.tdiv_eq_ediv_of_nonneg h1, wrap_in h]⟩
theorem bin_rem (h1 : 0 ≤ a) (h2 : 1 ≤ b) : Bin P .rem t (.int k a) (.int k b) (.int k (a % b)) := ⟨fun x y w => by
  have hb : b ≠ 0 := by omega
  simp [eqGuard, binOp, Op.intDiv, hb, Int.tmod_eq_emod_of_nonneg h1]⟩
theorem bin_eql : Bin P .eql t (.int k a) (.int k b) (.bool (a == b)) := ⟨fun x y w => by simp [eqGuard, binOp, Op.intCmp]⟩
theorem bin_neq : Bin P .neq t (.int k a) (.int k b) (.bool (a != b)) := ⟨fun x y w => by simp [eqGuard, binOp, Op.intCmp]⟩
theorem bin_lss : Bin P .lss t (.int k a) (.int k b) (.bool (decide (a < b))) := ⟨fun x y w => by simp [eqGuard, binOp, Op.intCmp]⟩
theorem bin_leq : Bin P .leq t (.int k a) (.int k b) (.bool (decide (a ≤ b))) := ⟨fun x y w => by simp [eqGuard, binOp, Op.intCmp]⟩
theorem bin_gtr : Bin P .gtr t (.int k a) (.int k b) (.bool (decide (b < a))) := ⟨fun x y w => by simp [eqGuard, binOp, Op.intCmp]⟩
theorem bin_geq : Bin P .geq t (.int k a) (.int k b) (.bool (decide (b ≤ a))) := ⟨fun x y w => by simp [eqGuard, binOp, Op.intCmp]⟩
end
/-! ### strings -/
def bs (l : List UInt8) : ByteArray := ⟨l.toArray⟩
@[simp] theorem bs_data (l : List UInt8) : (bs l).data.toList = l := rfl
@[simp] theorem bs_toList (l : List UInt8) : (bs l).toList = l := by rw [ByteArray.toList_eq]; rfl
@[simp] theorem bs_size (l : List UInt8) : (bs l).size = l.length := by simp [bs, ByteArray.size]
section
variable {t : TypeId} {a b : List UInt8}
theorem sbin_eql : Bin P .eql t (.string (bs a)) (.string (bs b)) (.bool (a == b)) := ⟨fun x y w => by simp [eqGuard, binOp, Op.stringOp]⟩
theorem sbin_neq : Bin P .neq t (.string (bs a)) (.string (bs b)) (.bool (!(a == b))) := ⟨fun x y w => by simp [eqGuard, binOp, Op.stringOp]⟩
theorem bs_append : bs a ++ bs b = bs (a ++ b) := by
  apply ByteArray.ext
  simp [bs]
theorem sbin_add (h : a.length + b.length ≤ 9223372036854775807) : Bin P .add t (.string (bs a)) (.string (bs b)) (.string (bs (a ++ b))) := ⟨fun x y w => by
  simp [eqGuard, binOp, Op.stringOp, bs_append]
  omega⟩
end
/-- booleans, pointers -/
theorem equal_open (t : TypeId) (x y : Value) : Op.equal t x y = Op.equalIn (9999 + 1) t x y := rfl
theorem equalIn_bool {t : TypeId} {a b : Bool} (d : Nat) (w : World) (h : P.underlying t = some .bool) : (Op.equalIn (d + 1) t (.bool a) (.bool b)).run P w = .ok (a == b) w := by simp [Op.equalIn, run_underlying h]
theorem equalIn_nil {t e : TypeId} {a : Option Addr} (d : Nat) (w : World) (h : P.underlying t = some (.pointer e)) : (Op.equalIn (d + 1) t (.pointer a) (.pointer none)).run P w = .ok a.isNone w := by
  cases a <;> simp [Op.equalIn, run_underlying h]
theorem bbin_neq {t : TypeId} {a b : Bool} (h : P.underlying t = some .bool) : Bin P .neq t (.bool a) (.bool b) (.bool (!(a == b))) := ⟨fun x y w => by
  simp only [eqGuard, binOp, equal_open]
  simp [equalIn_bool 9999 w h]⟩
theorem pbin_eql {t e : TypeId} {a : Option Addr} (h : P.underlying t = some (.pointer e)) : Bin P .eql t (.pointer a) (.pointer none) (.bool a.isNone) := ⟨fun x y w => by
  simp only [eqGuard, binOp, equal_open]
  simp [equalIn_nil 9999 w h]⟩
/-! ### conversions -/
theorem op_conv_int {s d : TypeId} {sd : TypeDesc} {k k' : IntKind} {x : Operand} {a : Int} (hx : ev ρ x = some (.int k a)) (h1 : P.underlying s = some sd) (h2 : P.underlying d = some (.int k')) (h : InK k' a) :
    OpQ P ρ L (.convert s d x) ty (.int k' a) :=
  ⟨fun r hr w hw o ho _ => by simp [execOp, ho, hr _ _ hx, convert, run_underlying h1, run_underlying h2, Conv.intToInt, wrap_in h]⟩
/-- 'string(b)' -/
theorem op_conv_back {s d e : TypeId} {x : Operand} {b off cap : Nat} {C : Array Value} {te : TypeId} {fr : Nat × Nat} (l : List UInt8) {m : Nat} (hx : ev ρ x = some (.slice (some ⟨b, off, none⟩) m cap)) (hl : m = l.length)
    (h1 : P.underlying s = some (.slice e)) (he : P.underlying e = some (.int .u8)) (h2 : P.underlying d = some .string) (hm : (b, Obj.cells C te fr) ∈ L) (hc : ∀ j (hj : j < l.length), C[off + j]? = some (.int .u8 (l[j].toNat : Int))) :
    OpQ P ρ L (.convert s d x) ty (.string (bs l)) :=
  ⟨fun r hr w hw o ho _ => by
    subst hl
    simp [execOp, ho, hr _ _ hx]
    rw [run_convert_bytes_back w s d e ⟨b, off, none⟩ cap l h1 he h2 (fun j hj => by
      have : (⟨b, off, none⟩ : Addr).add j = ⟨b, off + j, none⟩ := by
        unfold Addr.add; split
        · rename_i h; subst h; rfl
        · rfl
      rw [this]; exact hw.cell hm (hc j hj))]
    rfl⟩
theorem op_conv_back0 {s d e : TypeId} {x : Operand} {m c : Nat} (hx : ev ρ x = some (.slice none m c)) (h1 : P.underlying s = some (.slice e)) (he : P.underlying e = some (.int .u8)) (h2 : P.underlying d = some .string) :
    OpQ P ρ L (.convert s d x) ty (.string (bs [])) :=
  ⟨fun r hr w hw o ho _ => by
    simp [execOp, ho, hr _ _ hx, convert, run_underlying h1, run_underlying h2, run_underlying he, Conv.bytesToString]
    rfl⟩
/-! ### builtins without memory -/
theorem op_len_str {x : Operand} {s : List UInt8} {t : TypeId} (hx : ev ρ x = some (.string (bs s))) (ht : P.underlying t = some .string) : OpQ P ρ L (.call ⟨.builtin .len, #[x], #[t]⟩) ty (.int .i64 s.length) :=
  ⟨fun r hr w hw o ho _ => by simp [execOp, ho, hr _ _ hx, resolve, invoke, builtin, Builtin.len_, run_underlying ht, goInt]⟩
theorem op_len_slice {x : Operand} {a : Option Addr} {m c : Nat} {t e : TypeId} (hx : ev ρ x = some (.slice a m c)) (ht : P.underlying t = some (.slice e)) : OpQ P ρ L (.call ⟨.builtin .len, #[x], #[t]⟩) ty (.int .i64 m) :=
  ⟨fun r hr w hw o ho _ => by simp [execOp, ho, hr _ _ hx, resolve, invoke, builtin, Builtin.len_, run_underlying ht, goInt]⟩
/-! ### addresses -/
theorem addr_add (b o j : Nat) : (⟨b, o, none⟩ : Addr).add j = ⟨b, o + j, none⟩ := by
  unfold Addr.add; split
  · rename_i h; subst h; rfl
  · rfl
theorem op_index_str {x y : Operand} {s : List UInt8} {i : Int} {k : IntKind} {c : UInt8} {t : TypeId} (hx : ev ρ x = some (.string (bs s))) (hy : ev ρ y = some (.int k i)) (ht : P.underlying t = some .string) (h0 : 0 ≤ i) (hc : s[i.toNat]? = some c) :
    OpQ P ρ L (.index t x y) ty (.int .u8 (c.toNat : Int)) :=
  ⟨fun r hr w hw o ho _ => by
    have : (bs s)[i.toNat]? = some c := by
      obtain ⟨h1, h2⟩ := List.getElem?_eq_some_iff.1 hc
      rw [getElem?_pos (bs s) i.toNat (by rw [bs_size]; exact h1), ← h2]
      rfl
    simp [execOp, ho, hr _ _ hx, hr _ _ hy, Instr.index, asIntOf, run_underlying ht, h0, this]⟩
theorem op_indexAddr {x y : Operand} {b off m c sz : Nat} {i : Int} {k : IntKind} {t e : TypeId} {ti : TypeInfo} (hx : ev ρ x = some (.slice (some ⟨b, off, none⟩) m c)) (hy : ev ρ y = some (.int k i))
    (ht : P.underlying t = some (.slice e)) (hi : P.info? e = some ti) (hz : ti.size = sz) (h0 : 0 ≤ i) (h1 : i < m) : OpQ P ρ L (.indexAddr t x y) ty (.pointer (some ⟨b, off + i.toNat * sz, none⟩)) :=
  ⟨fun r hr w hw o ho _ => by simp [execOp, ho, hr _ _ hx, hr _ _ hy, Instr.indexAt, asIntOf, run_underlying ht, h0, h1, sizeOf, typeInfo, hi, hz, addr_add]⟩
theorem op_fieldAddr {x : Operand} {b off : Nat} {s f : Nat} {fs : Array Field} {fi : Field} {ti : TypeInfo} {fo : Nat} (hx : ev ρ x = some (.pointer (some ⟨b, off, none⟩)))
    (ht : P.underlying s = some (.struct fs)) (hf : fs[f]? = some fi) (hi : P.info? fi.type = some ti) (hz : Nat.beq ti.size 0 = false) (hfo : fi.offset = fo) :
    OpQ P ρ L (.fieldAddr s x f) ty (.pointer (some ⟨b, off + fo, none⟩)) :=
  ⟨fun r hr w hw o ho _ => by
    have hz' : ti.size ≠ 0 := Nat.ne_of_beq_eq_false hz
    simp [execOp, ho, hr _ _ hx, Instr.fieldAt, run_underlying ht, hf, Instr.sureAddr, fieldPlace, sizeOf, typeInfo, hi, hz', addr_add, hfo]⟩
/-! ### loads and stores -/
def plainDesc : TypeDesc → Bool
  | .struct _ | .array _ _ => false
  | _ => true
theorem op_load {x : Operand} {b off : Nat} {t : TypeId} {d : TypeDesc} {C : Array Value} {te : TypeId} {fr : Nat × Nat} {v : Value} (hx : ev ρ x = some (.pointer (some ⟨b, off, none⟩)))
    (ht : P.underlying t = some d) (hd : plainDesc d = true) (hm : (b, Obj.cells C te fr) ∈ L) (hv : C[off]? = some v) : OpQ P ρ L (.load t x) ty v :=
  ⟨fun r hr w hw o ho _ => by
    have hc := hw.cell hm hv
    have ha : (isAgg t).run P w = .ok false w := by
      unfold isAgg
      simp [run_underlying ht]
      cases d <;> first | rfl | cases hd
    simp [execOp, ho, hr _ _ hx, Instr.loadAt, Instr.sureAddr, loadVar, ha, load, Sem.run, hc]⟩
theorem Heap.store {w : World} {b off : Nat} {C : Array Value} {te : TypeId} {v : Value} (h : Heap G w ((b, Obj.cells C te (0, 0)) :: L)) : Heap G (w.setCell ⟨b, off, none⟩ v) ((b, Obj.cells (C.setIfInBounds off v) te (0, 0)) :: L) := by
  have h0 := h.get _ (List.mem_cons_self ..)
  refine h.update ⟨rfl, rfl, rfl, by simp [World.setCell]⟩ ?_ (fun j hj hne => Below.heap_setCell w _ v j hne)
  show (w.heap.modify b _)[b]? = _
  rw [Array.getElem?_modify, if_pos rfl, h0]
  rfl
theorem TL_q {ops : Array Oper} {d : Nat} {op : Op} {pos : String} {after : Array Edge} {rest : List Oper} {v : Value} {Q : Exit → Act → World → Prop}
    (h : OpQ P ρ L op ty v) (hd : Nat.blt d n = true) (hr : TL P G ops n ((d, v) :: ρ) L rest Q) : TL P G ops n ρ L (⟨some d, op, ty, pos, after, none⟩ :: rest) Q := TL_op h.v hd hr
theorem TL_gq {ops : Array Oper} {d j dj : Nat} {op : Op} {pos : String} {after : Array Edge} {rest : List Oper} {v : Value} {want : Bool} {Q : Exit → Act → World → Prop}
    (hs : guardSlot ops j = some dj) (hv : ρ.lookup dj = some (.bool want))
    (h : OpQ P ρ L op ty v) (hd : Nat.blt d n = true) (hr : TL P G ops n ((d, v) :: ρ) L rest Q) : TL P G ops n ρ L (⟨some d, op, ty, pos, after, some (j, want)⟩ :: rest) Q := TL_g hs hv h.v hd hr
theorem op_store {x y : Operand} {b off : Nat} {t : TypeId} {ti : TypeInfo} {C : Array Value} {te : TypeId} {v u : Value} (hx : ev ρ x = some (.pointer (some ⟨b, off, none⟩))) (hy : ev ρ y = some v)
    (hi : P.info? t = some ti) (hz : ti.size = 1) (hone : v.oneCell' = true) (hv : C[off]? = some u) : OpV P G ρ ((b, Obj.cells C te (0, 0)) :: L) (.store t x y) ty undef ((b, Obj.cells (C.setIfInBounds off v) te (0, 0)) :: L) :=
  ⟨fun r hr w hw o ho _ => by
    have hc := hw.cell (List.mem_cons_self ..) hv
    have hf : w.frozen? ⟨b, off, none⟩ = false := by unfold World.frozen?; rw [hw.get _ (List.mem_cons_self ..)]; simp
    have hrun : (execOp r o).run P w = .ok .skip (w.setCell ⟨b, off, none⟩ v) := by
      simp only [execOp, ho, hr _ _ hx, hr _ _ hy]
      cases v <;> first | (cases hone; done) | simp [Instr.storeAt, Instr.sureAddr, storeVar, sizeOf, typeInfo, hi, hz, Value.cells, storeCells, addr_add, store, Sem.run, hc, hf]
    rw [hrun]
    exact ⟨_, ⟨rfl, rfl⟩, hw.store⟩⟩
end Go.Proofs.YtnhlpifbadncmaaDoor
namespace Go.Proofs.YtnhlpifbadncmaaDoor
open Go.RowKit Go.Lib
set_option linter.unusedVariables false
set_option linter.unusedSimpArgs false
variable {G : World} {P : Program} {n : Nat} {ρ : Slots} {L : Blocks} {ty : TypeId} {Q : Exit → Act → World → Prop}

/-! ### blocks in a list: one to the front, one away -/
theorem perm_pick {α : Type} : ∀ {L : List α} (i : Nat) (p : α), L[i]? = some p → L.Perm (p :: L.eraseIdx i)
  | [], _, _, h => by simp at h
  | x :: L, 0, p, h => by simp at h; subst h; exact List.Perm.refl _
  | x :: L, i + 1, p, h => by
    have := perm_pick (L := L) i p (by simpa using h)
    exact (this.cons x).trans (List.Perm.swap _ _ _)
theorem Heap.pick {w : World} {L : Blocks} (i : Nat) (p : Nat × Obj) (hp : L[i]? = some p) (h : Heap G w L) : Heap G w (p :: L.eraseIdx i) :=
  h.perm (perm_pick i p hp)
theorem TL_perm {ops : Array Oper} {l : List Oper} {L' : Blocks} (he : L.Perm L') (h : TL P G ops n ρ L' l Q) : TL P G ops n ρ L l Q := TL_heap (fun w hw => hw.perm he) h

/-! ### new blocks -/
/-- A new block, and the value that leads to it. -/
abbrev OpNew (P : Program) (G : World) (ρ : Slots) (L : Blocks) (op : Op) (ty : TypeId) (mk : Nat → Value) (o : Obj) : Prop := OpT P G ρ L op ty fun v L' => ∃ b, v = mk b ∧ L' = (b, o) :: L
theorem OpNew.run {op : Op} {mk : Nat → Value} {ob : Obj} (h : ∀ r, Reads ρ r → ∀ w, ∀ o : Oper, o.op = op → o.type = ty → (execOp r o).run P w = .ok (.value (mk w.heap.size)) (w.alloc ob)) : OpNew P G ρ L op ty mk ob :=
  ⟨fun r hr w hw o ho ht => by
    rw [h r hr w o ho ht]
    exact ⟨_, ⟨w.heap.size, rfl, rfl⟩, hw.alloc ob⟩⟩
theorem TL_new {ops : Array Oper} {d : Nat} {op : Op} {pos : String} {after : Array Edge} {rest : List Oper} {mk : Nat → Value} {ob : Obj}
    (h : OpNew P G ρ L op ty mk ob) (hd : Nat.blt d n = true) (hr : ∀ b, TL P G ops n ((d, mk b) :: ρ) ((b, ob) :: L) rest Q) : TL P G ops n ρ L (⟨some d, op, ty, pos, after, none⟩ :: rest) Q :=
  TL_opT h hd fun _ _ ⟨b, h1, h2⟩ => h1 ▸ h2 ▸ hr b
def zeroOf (P : Program) (t : TypeId) : Option Value := (P.info? t).bind (·.zero)
theorem zeroOf_run {t : TypeId} {z : Value} (h : zeroOf P t = some z) (w : World) : (zeroValue t).run P w = .ok z w := by
  unfold zeroOf at h
  cases hi : P.info? t with
  | none => simp [hi] at h
  | some i =>
    simp [hi] at h
    simp [zeroValue, typeInfo, hi, h]
theorem op_alloc {t : TypeId} {z : Value} {C : Array Value} (h : zeroOf P t = some z) (hc : z.cells = C) : OpNew P G ρ L (.alloc t) ty (fun b => .pointer (some ⟨b, 0, none⟩)) (.cells C t (0, 0)) :=
  .run fun r hr w o ho _ => by
    simp [execOp, ho, Instr.alloc, zeroOf_run h w, newVar, newRow, hc]
theorem op_box {t : TypeId} {x : Operand} {v : Value} {C : Array Value} (hx : ev ρ x = some v) (hc : v.cells = C) : OpNew P G ρ L (.box t x) ty (fun b => .pointer (some ⟨b, 0, none⟩)) (.cells C t (0, 0)) :=
  .run fun r hr w o ho _ => by
    simp [execOp, ho, hr _ _ hx, Instr.box, newVar, newRow, hc]
def evParts (ρ : Slots) : List (Nat × Operand) → Option (List (Nat × Value))
  | [] => some []
  | (i, x) :: r => match ev ρ x, evParts ρ r with
    | some v, some vs => some ((i, v) :: vs)
    | _, _ => none
theorem evParts_map {ρ : Slots} {r : Operand → Value} (hr : Reads ρ r) : ∀ (l : List (Nat × Operand)) (vs : List (Nat × Value)), evParts ρ l = some vs → l.map (fun p => (p.1, r p.2)) = vs
  | [], vs, h => by simp [evParts] at h; simp [h]
  | (i, x) :: l, vs, h => by
    simp only [evParts] at h
    cases h1 : ev ρ x with
    | none => simp [h1] at h
    | some v =>
      cases h2 : evParts ρ l with
      | none => simp [h1, h2] at h
      | some us =>
        simp [h1, h2] at h
        subst h
        simp [hr x v h1, evParts_map hr l us h2]
/-- The row of elements that a literal lays. -/
structure RowLit (P : Program) (t : TypeId) (len : Nat) (vs : List (Nat × Value)) (e : TypeId) (C : Array Value) : Prop where
  out : ∀ w, (Instr.buildSlice t len vs.toArray).run P w = .ok (.slice (some ⟨w.heap.size, 0, none⟩) len len) (w.alloc (.cells C e (0, 0)))
theorem op_buildSlice {t e : TypeId} {len : Nat} {ps : List (Nat × Operand)} {vs : List (Nat × Value)} {C : Array Value} (hp : evParts ρ ps = some vs) (h : RowLit P t len vs e C) :
    OpNew P G ρ L (.buildSlice t len ps.toArray) ty (fun b => .slice (some ⟨b, 0, none⟩) len len) (.cells C e (0, 0)) :=
  .run fun r hr w o ho _ => by
    have := h.out w
    rw [← evParts_map hr ps vs hp] at this
    simp [execOp, ho]
    rw [this]
    rfl
/-- One element of one cell. -/
theorem rowLit1 {t e : TypeId} {v z : Value} {ti : TypeInfo} (ht : P.underlying t = some (.slice e)) (hi : P.info? e = some ti) (hz : ti.size = 1) (h0 : ti.zero = some z) (hzc : z.cells.size = 1) (hone : v.oneCell' = true) : RowLit P t 1 [(0, v)] e #[v] :=
  ⟨fun w => by
    obtain ⟨zc, hzc'⟩ : ∃ zc, z.cells = #[zc] := by
      match hh : z.cells, hzc with
      | ⟨[a]⟩, _ => exact ⟨a, rfl⟩
    have hv : v.cells = #[v] := by cases v <;> first | rfl | cases hone
    have hr1 : Array.range 1 = #[0] := by decide
    simp [Instr.buildSlice, run_underlying ht, sizeOf, typeInfo, hi, hz, zeroValue, h0, hzc', Instr.fill, hv, newRow, hr1]⟩
/-- A struct's value out of its parts. -/
structure Built (P : Program) (t : TypeId) (vs : List (Nat × Value)) (v : Value) : Prop where
  out : ∀ w, (Instr.build t vs.toArray).run P w = .ok v w
theorem op_build {t : TypeId} {ps : List (Nat × Operand)} {vs : List (Nat × Value)} {v : Value} (hp : evParts ρ ps = some vs) (h : Built P t vs v) : OpQ P ρ L (.build t ps.toArray) ty v :=
  ⟨fun r hr w hw o ho _ => by
    have := h.out w
    rw [← evParts_map hr ps vs hp] at this
    simp [execOp, ho]
    rw [this]
    rfl⟩

/-! ### rows of one's own -/
/-- What the table says of a slice's type. -/
structure ElemTy (P : Program) (t e : TypeId) (sz bytes : Nat) (z : Value) : Prop where
  und : P.underlying t = some (.slice e)
  info : ∃ i, P.info? e = some i ∧ i.zero = some z ∧ i.size = sz ∧ i.bytes = bytes
  cells : z.cells.size = sz
  pos : 0 < sz
structure Row (e : TypeId) (sz : Nat) (v : Value) (m : Nat) (xs : List Value) (B : Blocks) : Prop where
  len : xs.length = m * sz
  is : (v = .slice none 0 0 ∧ m = 0 ∧ B = []) ∨ ∃ b cap cur, v = .slice (some ⟨b, 0, none⟩) m cap ∧ B = [(b, .cells cur e (0, 0))] ∧ m ≤ cap ∧ cap ≤ maxLen ∧ cur.size = cap * sz ∧ cur.toList.take (m * sz) = xs
theorem Row.nil (e : TypeId) (sz : Nat) : Row e sz (.slice none 0 0) 0 [] [] := ⟨by simp, Or.inl ⟨rfl, rfl, rfl⟩⟩
theorem Row.slice {e : TypeId} {sz : Nat} {v : Value} {m : Nat} {xs : List Value} {B : Blocks} (h : Row e sz v m xs B) : ∃ a c, v = .slice a m c := by
  rcases h.is with ⟨h1, h2, _⟩ | ⟨b, cap, _, h1, _⟩
  · exact ⟨none, 0, by rw [h1, h2]⟩
  · exact ⟨_, _, h1⟩
theorem Row.owns {e : TypeId} {sz : Nat} {v : Value} {m : Nat} {xs : List Value} {B : Blocks} (h : Row e sz v m xs B) {w : World} (hw : Heap G w (B ++ L)) : w.ownsRow 0 e sz v m xs := by
  refine ⟨h.len, ?_⟩
  rcases h.is with ⟨h1, h2, _⟩ | ⟨b, cap, cur, h1, h2, h3, h4, h5, h6⟩
  · exact Or.inl ⟨h1, h2⟩
  · subst h2
    exact Or.inr ⟨b, cap, cur, h1, Nat.zero_le _, hw.get (b, .cells cur e (0, 0)) (List.mem_append_left _ (List.mem_cons_self ..)), h3, h4, h5, h6⟩
theorem Row.after {e : TypeId} {sz : Nat} {v v' : Value} {m m' : Nat} {xs xs' : List Value} {B : Blocks} (h : Row e sz v m xs B) {w w' : World} (hw : Heap G w (B ++ L)) (ho : w'.ownsRow 0 e sz v' m' xs') (hg : w.grownBy w' v.ownBlock)
    (hat : v'.ownBlock = v.ownBlock ∨ v'.ownBlock = some w.heap.size) : ∃ B', Row e sz v' m' xs' B' ∧ Heap G w' (B' ++ L) := by
  have hst : Still w w' := ⟨hg.os, hg.tape, hg.output, hg.size⟩
  have hL : Heap G w L := hw.sub (List.sublist_append_right _ _)
  have hkeep : ∀ p, p ∈ L → w'.heap[p.1]? = some p.2 := fun p hp => by
    rw [hg.block p.1 (hL.lt hp) ?_]
    · exact hL.get p hp
    · rcases h.is with ⟨h1, _, _⟩ | ⟨b, cap, cur, h1, h2, _⟩
      · rw [h1]; simp [Value.ownBlock]
      · rw [h1]
        subst h2
        have := Heap.ne (b := b) (o := .cells cur e (0, 0)) (L := L) hw hp
        simpa [Value.ownBlock] using this
  rcases ho.2 with ⟨h1, h2⟩ | ⟨g, cap, cur, h1, _, hgc, h3, h4, h5, h6⟩
  · exact ⟨[], ⟨ho.1, Or.inl ⟨h1, h2, rfl⟩⟩, hL.still.trans hst, hL.nodup, hkeep⟩
  · refine ⟨[(g, .cells cur e (0, 0))], ⟨ho.1, Or.inr ⟨g, cap, cur, h1, rfl, h3, h4, h5, h6⟩⟩, hL.still.trans hst, ?_, fun p hp => ?_⟩
    · show ((g : Nat) :: L.map (·.1)).Nodup
      rw [List.nodup_cons]
      refine ⟨fun hm => ?_, hL.nodup⟩
      obtain ⟨p, hp, he⟩ := List.mem_map.1 hm
      rw [h1] at hat
      simp only [Value.ownBlock] at hat
      rcases hat with hat | hat
      · rcases h.is with ⟨q1, _, _⟩ | ⟨b, cap, cur, q1, q2, _⟩
        · rw [q1] at hat; simp at hat
        · rw [q1] at hat
          simp at hat
          subst q2
          exact Heap.ne (b := b) (o := .cells cur e (0, 0)) (L := L) hw hp (he.trans hat)
      · have := hL.lt hp
        simp at hat
        omega
    · rcases List.mem_cons.1 hp with rfl | hp
      · exact hgc
      · exact hkeep p hp
/-- What is appended: the cells of a slice. -/
def Src (L : Blocks) (u : Value) (m : Nat) (news : List Value) (sz : Nat) : Prop :=
  news.length = m * sz ∧ (∀ x ∈ news, x.oneCell' = true) ∧ ((∃ c, u = .slice none 0 c ∧ m = 0) ∨ ∃ b off c C te fr, u = .slice (some ⟨b, off, none⟩) m c ∧ (b, Obj.cells C te fr) ∈ L ∧ ∀ j x, news[j]? = some x → C[off + j]? = some x)
theorem run_app0 (w : World) (t ty e : TypeId) (i : TypeInfo) (c : Nat) (ht : P.underlying t = some (.slice e)) (hi : P.info? e = some i) (base : Nat) (size : Nat)
    (v : Value) (m : Nat) (xs : List Value) (hown : w.ownsRow base e size v m xs) : (Builtin.append_ #[t, t] ty #[v, .slice none 0 c]).run P w = .ok v w := by
  rcases hown.2 with ⟨rfl, rfl⟩ | ⟨g, cap, cur, rfl, _, _, hnc, _⟩
  · simp [Builtin.append_, run_underlying ht, sizeOf, typeInfo, hi, Builtin.lenOf, Builtin.firstCells]
  · simp [Builtin.append_, run_underlying ht, sizeOf, typeInfo, hi, Builtin.lenOf, Builtin.firstCells, hnc, storeCells]
theorem op_append {s x : Operand} {t e : TypeId} {sz bytes : Nat} {z v u : Value} {m k : Nat} {xs news : List Value} {B : Blocks} (E : ElemTy P t e sz bytes z) (hs : ev ρ s = some v) (hx : ev ρ x = some u)
    (hrow : Row e sz v m xs B) (hsrc : Src L u k news sz) (h63 : m + k ≤ maxLen) (hby : (m + k) * bytes ≤ 140737488355328) :
    OpT P G ρ (B ++ L) (.call ⟨.builtin .append, #[s, x], #[t, t]⟩) ty fun v' L' => ∃ B', Row e sz v' (m + k) (xs ++ news) B' ∧ L' = B' ++ L :=
  ⟨fun r hr w hw o ho _ => by
    obtain ⟨i, hi, hz0, hz1, hz2⟩ := E.info
    have hown := hrow.owns hw
    have key : ∃ v' w', (Builtin.append_ #[t, t] o.type #[v, u]).run P w = .ok v' w' ∧ w'.ownsRow 0 e sz v' (m + k) (xs ++ news) ∧ w.grownBy w' v.ownBlock ∧ (v'.ownBlock = v.ownBlock ∨ v'.ownBlock = some w.heap.size) := by
      obtain ⟨hl, hone, ⟨c, rfl, rfl⟩ | ⟨b, off, c, C, te, fr, rfl, hm, hc⟩⟩ := hsrc
      · have : news = [] := List.eq_nil_of_length_eq_zero (by simpa using hl)
        subst this
        exact ⟨v, w, run_app0 w t o.type e i c E.und hi 0 sz v m xs hown, by simpa using hown, ⟨rfl, rfl, rfl, Nat.le_refl _, fun _ _ _ => rfl⟩, Or.inl rfl⟩
      · obtain ⟨v', w', q1, q2, q3, _, q5⟩ := run_append_own_at w 0 t o.type e i z sz bytes E.und hi hz0 hz1 hz2 E.cells E.pos v m xs hown ⟨b, off, none⟩ k c news hl
          (fun j y hj => by rw [addr_add]; exact hw.cell (List.mem_append_right _ hm) (hc j y hj)) hone h63 hby (Nat.zero_le _)
        exact ⟨v', w', q1, q2, q3, q5⟩
    obtain ⟨v', w', hrun, q2, q3, q4⟩ := key
    obtain ⟨B', hB, hH⟩ := hrow.after hw q2 q3 q4
    have : (execOp r o).run P w = .ok (.value v') w' := by
      simp [execOp, ho, hr _ _ hs, hr _ _ hx, resolve, invoke, builtin, hrun, Result.andThen]
    rw [this]
    exact ⟨_, ⟨B', hB, rfl⟩, hH⟩⟩
theorem TL_append {ops : Array Oper} {d : Nat} {s x : Operand} {pos : String} {after : Array Edge} {rest : List Oper} {t e : TypeId} {sz bytes : Nat} {z v u : Value} {m k : Nat} {xs news : List Value} {B : Blocks} (E : ElemTy P t e sz bytes z)
    (hs : ev ρ s = some v) (hx : ev ρ x = some u) (hrow : Row e sz v m xs B) (hsrc : Src L u k news sz) (h63 : m + k ≤ maxLen) (hby : (m + k) * bytes ≤ 140737488355328) (hd : Nat.blt d n = true)
    (hr : ∀ v' B', Row e sz v' (m + k) (xs ++ news) B' → TL P G ops n ((d, v') :: ρ) (B' ++ L) rest Q) : TL P G ops n ρ (B ++ L) (⟨some d, .call ⟨.builtin .append, #[s, x], #[t, t]⟩, ty, pos, after, none⟩ :: rest) Q :=
  TL_opT (op_append E hs hx hrow hsrc h63 hby) hd fun v' _ ⟨B', h1, h2⟩ => h2 ▸ hr v' B' h1
/-- bytes of a string -/
theorem op_append_str {s x : Operand} {t e tu : TypeId} {v : Value} {m : Nat} {xs : List Value} {l : List UInt8} {B : Blocks} (E : ElemTy P t e 1 1 (.int .u8 0)) (hu : P.underlying tu = some .string) (hs : ev ρ s = some v) (hx : ev ρ x = some (.string (bs l)))
    (hrow : Row e 1 v m xs B) (h63 : m + l.length ≤ 140737488355328) :
    OpT P G ρ (B ++ L) (.call ⟨.builtin .append, #[s, x], #[t, tu]⟩) ty fun v' L' => ∃ B', Row e 1 v' (m + l.length) (xs ++ l.map fun c => Value.int .u8 (c.toNat : Int)) B' ∧ L' = B' ++ L :=
  ⟨fun r hr w hw o ho _ => by
    obtain ⟨i, hi, hz0, hz1, hz2⟩ := E.info
    have hown := hrow.owns hw
    have hml : m + (bs l).size ≤ maxLen := by rw [bs_size]; unfold maxLen; omega
    obtain ⟨v', w', hrun, q2, q3, _⟩ := run_append_own_string w 0 t tu o.type e i E.und hu hi hz0 hz1 hz2 v m xs hown (bs l) hml (by rw [bs_size]; exact h63) (Nat.zero_le _)
    have q4 : v'.ownBlock = v.ownBlock ∨ v'.ownBlock = some w.heap.size := by
      rcases hrow.is with ⟨h1, h2, _⟩ | ⟨b, cap, cur, h1, h2, h3, h4, h5, h6⟩
      · subst h1
        by_cases h0 : 0 < (bs l).size
        · have := run_append_nil_string (P := P) w t tu o.type e i (.int .u8 0) E.und hu hi hz0 (bs l) h0 (by rw [bs_size]; omega) (by rw [bs_size, hz2]; omega)
          rw [this] at hrun
          cases hrun
          exact Or.inr rfl
        · have hl0 : l = [] := List.eq_nil_of_length_eq_zero (by rw [bs_size] at h0; omega)
          subst hl0
          have : (Builtin.append_ #[t, tu] o.type #[.slice none 0 0, .string (bs [])]).run P w = .ok (.slice none 0 0) w := by
            simp [Builtin.append_, run_underlying E.und, run_underlying hu, sizeOf, typeInfo, hi, Builtin.lenOf, Builtin.firstCells]
          rw [this] at hrun
          cases hrun
          exact Or.inl rfl
      · subst h1
        subst h2
        have hg : w.heap[b]? = some (.cells cur e (0, 0)) := hw.get (b, .cells cur e (0, 0)) (List.mem_append_left _ (List.mem_cons_self ..))
        by_cases hroom : m + (bs l).size ≤ cap
        · have := run_append_room_string (P := P) w t tu o.type e i E.und hu hi hz1 b m cap cur hg (bs l) hroom (by rw [h5]; omega)
          rw [this] at hrun
          cases hrun
          exact Or.inl rfl
        · have hnx : Builtin.nextslicecap (m + (bs l).size) cap * i.bytes ≤ 281474976710656 := by
            rw [hz2, Nat.mul_one]
            exact Nat.le_trans (nextslicecap_le (by omega)) (by rw [bs_size]; omega)
          have := run_append_grow_string (P := P) w t tu o.type e i (.int .u8 0) E.und hu hi hz0 ⟨b, 0, none⟩ m cap xs (by rw [hz1]; exact hrow.len) (fun j u hj => by
            rw [addr_add, Nat.zero_add]
            refine hw.cell (List.mem_append_left _ (List.mem_cons_self ..)) ?_
            have hjl := (List.getElem?_eq_some_iff.1 hj).1
            have hlen := hrow.len
            rw [← h6, List.getElem?_take_of_lt (by omega)] at hj
            simpa using hj) (bs l) (by omega) (by rw [bs_size]; omega) hnx
          rw [this] at hrun
          cases hrun
          exact Or.inr rfl
    obtain ⟨B', hB, hH⟩ := hrow.after hw q2 q3 q4
    have : (execOp r o).run P w = .ok (.value v') w' := by
      simp [execOp, ho, hr _ _ hs, hr _ _ hx, resolve, invoke, builtin, hrun, Result.andThen]
    rw [this]
    rw [bs_size] at hB
    exact ⟨_, ⟨B', hB, rfl⟩, hH⟩⟩

/-! ### slices of slices and strings -/
theorem op_slice_str {x lo hi : Operand} {s : List UInt8} {k k' : IntKind} {i j : Int} {t : TypeId} (hx : ev ρ x = some (.string (bs s))) (hlo : ev ρ lo = some (.int k i)) (hhi : ev ρ hi = some (.int k' j)) (ht : P.underlying t = some .string)
    (h0 : 0 ≤ i) (h1 : i ≤ j) (h2 : j ≤ s.length) : OpQ P ρ L (.slice t x (some lo) (some hi) none) ty (.string (bs ((s.take j.toNat).drop i.toNat))) :=
  ⟨fun r hr w hw o ho _ => by
    have e : (bs s).extract i.toNat j.toNat = bs ((s.take j.toNat).drop i.toNat) := by
      apply ByteArray.ext
      rw [ByteArray.data_extract]
      simp [bs, List.extract_eq_take_drop, List.drop_take]
    have h3 : 0 ≤ j := by omega
    have e1 : ((j.toNat : Nat) : Int) = j := by omega
    simp [execOp, ho, hr _ _ hx, hr _ _ hlo, hr _ _ hhi, Instr.sliceAt, run_underlying ht, Instr.slice, Instr.sliceBounds, Instr.sliceBound, asIntOf, h0, h1, h2, h3, e, e1]⟩
/-! ### calls -/
/-- The function is there, and has a text. -/
def hasBody (P : Program) (f : FuncId) : Bool := match P.funcs[f]? with
  | some fn => !(fn.name == "runtime.NumGoroutine") && !fn.body.isNone
  | none => false
theorem run_callFunc {f : FuncId} {args : Array Value} (h : hasBody P f = true) (w : World) : (callFunc f args).run P w = .ok (.enter f args) w := by
  unfold hasBody at h
  cases hf : P.funcs[f]? with
  | none => simp [hf] at h
  | some fn =>
    simp only [hf, Bool.and_eq_true, Bool.not_eq_true'] at h
    have h1 : ¬ fn.name = "runtime.NumGoroutine" := by simpa using h.1
    have h2 : ¬ fn.body = none := by intro e; rw [e] at h; simp at h
    simp [callFunc, hf, h1, h2]
def evArgs (ρ : Slots) : List Operand → Option (List Value)
  | [] => some []
  | x :: r => match ev ρ x, evArgs ρ r with
    | some v, some vs => some (v :: vs)
    | _, _ => none
theorem evArgs_map {ρ : Slots} {r : Operand → Value} (hr : Reads ρ r) : ∀ (l : List Operand) (vs : List Value), evArgs ρ l = some vs → l.map r = vs
  | [], vs, h => by simp [evArgs] at h; simp [h]
  | x :: l, vs, h => by
    simp only [evArgs] at h
    cases h1 : ev ρ x with
    | none => simp [h1] at h
    | some v =>
      cases h2 : evArgs ρ l with
      | none => simp [h1, h2] at h
      | some us =>
        simp [h1, h2] at h
        subst h
        simp [hr x v h1, evArgs_map hr l us h2]
theorem op_call {f : FuncId} {xs : List Operand} {ats : Array TypeId} {vs : List Value} {Φ : Value → Blocks → Prop} (hb : hasBody P f = true) (ha : evArgs ρ xs = some vs) (h : Spec P G f vs.toArray L Φ) :
    OpT P G ρ L (.call ⟨.value (.func f), xs.toArray, ats⟩) ty Φ :=
  ⟨fun r hr w hw o ho _ => by
    have hm := evArgs_map hr xs vs ha
    have hrf : r (.func f) = .func (.func f) #[] #[] := hr _ _ rfl
    have : execOp r o = callFunc f vs.toArray := by
      simp only [execOp, ho, resolve, hrf, Deferred.ofValue]
      show invoke (.fn (.func f) #[]) _ = _
      simp only [invoke, List.map_toArray, hm]
      simp
    rw [this, run_callFunc hb]
    refine (h.out w hw).mono fun e w' ⟨v, L', h1, h2, h3⟩ => ⟨v, h1, L', h2, h3⟩⟩

/-! ### returns -/
theorem ret_run {fn : Func} {a : Act} {ρ : Slots} (he : Env n ρ a) (t : Nat) (v : Value) (hr : fn.results = #[.tmp t]) (hv : ρ.lookup t = some v) (w : World) : (results fn a.tmps).run P w = .ok v w := by
  have h1 : a.tmps.getD t undef = v := he.reads (.tmp t) v hv
  simp only [results, hr]
  simp
  simpa using h1
theorem TQ_ret1 {fn : Func} {Φ : Value → Blocks → Prop} (t : Nat) (v : Value) (hr : fn.results = #[.tmp t]) (hv : ρ.lookup t = some v) (h : Φ v L) : TQ G n ρ L .ret (bodyPost P fn (RetPost G Φ)) :=
  ⟨fun a w he hw => ⟨he.defers, v, ret_run he t v hr hv w, v, L, rfl, h, hw⟩⟩
end Go.Proofs.YtnhlpifbadncmaaDoor
namespace Go.Proofs.YtnhlpifbadncmaaDoor
open Go.RowKit
set_option linter.unusedVariables false
set_option linter.unusedSimpArgs false
variable {G : World} {P : Program} {n : Nat} {ρ : Slots} {L : Blocks} {ty : TypeId} {Q : Exit → Act → World → Prop} {ops : Array Oper}

def bindD (dst : Option Nat) (v : Value) (ρ : Slots) : Slots := match dst with
  | some d => (d, v) :: ρ
  | none => ρ
theorem Env.bindD {a : Act} (h : Env n ρ a) {dst : Option Nat} (hd : ∀ d, dst = some d → d < n) (v : Value) : Env n (bindD dst v ρ) (a.put dst v) := by
  cases dst with
  | none => exact h
  | some d => exact h.put d (hd d rfl) v
/-- The guard says yes, as the slots tell. -/
def gsay (v : Value) (want : Bool) : Option Bool := match v with
  | .bool x => some (x == want)
  | .tuple _ => some false
  | _ => none
def Wants (ops : Array Oper) (ρ : Slots) (o : Oper) (b : Bool) : Prop := match o.guard with
  | none => b = true
  | some (j, want) => ∃ dj x, guardSlot ops j = some dj ∧ ρ.lookup dj = some x ∧ gsay x want = some b
theorem wanted_gsay {o : Oper} {j d : Nat} {b want : Bool} {x : Value} {a : Act} (he : Env n ρ a) (hg : o.guard = some (j, want)) (hs : guardSlot ops j = some d) (hv : ρ.lookup d = some x) (hx : gsay x want = some b) : Region.wanted o (yielded ops a.tmps) = b := by
  cases x <;> simp only [gsay, Option.some.injEq, reduceCtorEq] at hx
  · subst hx; exact wanted_of he hg hs hv
  · subst hx
    have h1 := he.get d _ hv
    unfold Region.wanted
    rw [hg]
    simp only [guardSlot] at hs
    simp [yielded, hs, h1]
theorem Wants.wanted {o : Oper} {b : Bool} (h : Wants ops ρ o b) {a : Act} (he : Env n ρ a) : Region.wanted o (yielded ops a.tmps) = b := by
  unfold Wants at h
  split at h
  · rename_i hg; subst h; simp [Region.wanted, hg]
  · rename_i j want hg
    obtain ⟨dj, x, h1, h2, h3⟩ := h
    exact wanted_gsay he hg h1 h2 h3
/-- One operation that comes up. -/
def StepD (P : Program) (G : World) (ops : Array Oper) (n : Nat) (ρ : Slots) (L : Blocks) (i : Nat) (keep : Blocks → Prop) (next : Slots → Blocks → Prop) : Prop :=
  ∃ o, ops[i]? = some o ∧ (∀ d, o.dst = some d → d < n) ∧ ∃ b, Wants ops ρ o b ∧
    ((b = true ∧ ∃ Φ, OpT P G ρ L o.op o.type Φ ∧ ∀ v L', Φ v L' → keep L' ∧ next (bindD o.dst v ρ) L') ∨ (b = false ∧ keep L ∧ next (bindD o.dst undef ρ) L))
/-- Whatever order is picked from here on. K: blocks that stay as they are till an operation of W has come up. -/
def TA (P : Program) (G : World) (ops : Array Oper) (n : Nat) (K : Blocks) (W : List Nat) (Q : Exit → Act → World → Prop) : Nat → Array Bool → Slots → Blocks → Prop
  | 0, listed, ρ, L => Region.ready .any ops listed = [] ∧ TQ G n ρ L .normal Q
  | fuel + 1, listed, ρ, L => (Region.ready .any ops listed = [] → TQ G n ρ L .normal Q) ∧
    ∀ i ∈ Region.ready .any ops listed, StepD P G ops n ρ L i (fun L' => i ∈ W ∨ ∀ p ∈ K, p ∈ L') (TA P G ops n K W Q fuel (listed.setIfInBounds i true))

theorem TA.sound {K : Blocks} {W : List Nat} : ∀ (fuel : Nat) (listed : Array Bool) (ρ : Slots) (L : Blocks), TA P G ops n K W Q fuel listed ρ L → ∀ a w, Env n ρ a → Heap G w L → wpAny P .any ops Q fuel listed a w
  | 0, listed, ρ, L, h, a, w, he, hw => ⟨h.1, h.2.out a w he hw⟩
  | fuel + 1, listed, ρ, L, h, a, w, he, hw => by
    refine ⟨fun h0 => (h.1 h0).out a w he hw, fun i hi => ?_⟩
    obtain ⟨o, ho, hd, b, hb, hs⟩ := h.2 i hi
    unfold wpOp
    simp only [ho, hb.wanted he]
    rcases hs with ⟨rfl, Φ, hO, hn⟩ | ⟨rfl, _, hn⟩
    · rw [if_pos rfl]
      refine Or.inl (hO.wp he hw fun v L' w' h1 h2 => ?_)
      exact TA.sound fuel _ _ _ (hn v L' h1).2 _ _ (he.bindD hd v) h2
    · rw [if_neg (by simp)]
      exact TA.sound fuel _ _ _ hn _ _ (he.bindD hd undef) hw

def NoPanic (Q : Exit → Act → World → Prop) (e : Exit) (a : Act) (w : World) : Prop := Q e a w
theorem T_draw {id : Nat} (hm : P.follows .mixedOrders = true) (K : Blocks) (W : List Nat) (h : TA P G ops n K W Q ops.size (Array.replicate ops.size false) ρ L) : T P G n ρ L (.region id ops true) Q :=
  ⟨fun a w he hw => wp_region_any hm (h.sound _ _ _ _ a _ he (hw.same ⟨rfl, rfl, rfl, Nat.le_refl _⟩ rfl))⟩

/-! ### slots that say the same -/
theorem ev_congr {ρ ρ' : Slots} (h : ∀ t, ρ.lookup t = ρ'.lookup t) (x : Operand) : ev ρ x = ev ρ' x := by cases x <;> simp [ev, h]
theorem lookup_bindD {ρ ρ' : Slots} (h : ∀ t, ρ.lookup t = ρ'.lookup t) (dst : Option Nat) (v : Value) (t : Nat) : (bindD dst v ρ).lookup t = (bindD dst v ρ').lookup t := by
  cases dst with
  | none => exact h t
  | some d => simp only [bindD, List.lookup_cons, h]
theorem TQ.congr {ρ ρ' : Slots} (h : ∀ t, ρ.lookup t = ρ'.lookup t) {e : Exit} (k : TQ G n ρ L e Q) : TQ G n ρ' L e Q := ⟨fun a w he hw => k.out a w (he.weak fun t v hv => by rw [← h]; exact hv) hw⟩
theorem TA.congr {K : Blocks} {W : List Nat} : ∀ (fuel : Nat) (listed : Array Bool) (ρ ρ' : Slots) (L : Blocks), (∀ t, ρ.lookup t = ρ'.lookup t) → TA P G ops n K W Q fuel listed ρ L → TA P G ops n K W Q fuel listed ρ' L
  | 0, _, _, _, _, h, k => ⟨k.1, k.2.congr h⟩
  | fuel + 1, listed, ρ, ρ', L, h, k => by
    refine ⟨fun h0 => (k.1 h0).congr h, fun i hi => ?_⟩
    obtain ⟨o, ho, hd, b, hb, hs⟩ := k.2 i hi
    refine ⟨o, ho, hd, b, ?_, ?_⟩
    · unfold Wants at hb ⊢
      split at hb
      · exact hb
      · obtain ⟨dj, x, h1, h2, h3⟩ := hb
        exact ⟨dj, x, h1, by rw [← h]; exact h2, h3⟩
    · rcases hs with ⟨rfl, Φ, hO, hn⟩ | ⟨rfl, h1, hn⟩
      · refine Or.inl ⟨rfl, Φ, ⟨fun r hr => hO.out r fun x v hv => hr x v (by rw [← ev_congr h]; exact hv)⟩, fun v L' hv => ⟨(hn v L' hv).1, TA.congr fuel _ _ _ _ (lookup_bindD h _ v) (hn v L' hv).2⟩⟩
      · exact Or.inr ⟨rfl, h1, TA.congr fuel _ _ _ _ (lookup_bindD h _ undef) hn⟩

/-! ### what waits for what -/
def depT (ops : Array Oper) : Nat → Nat → Nat → Bool
  | 0, _, _ => false
  | f + 1, j, i => match ops[j]? with
    | none => false
    | some o => o.after.any fun e => Region.binds .any e && (e.on == i || depT ops f e.on i)
def Closed (ops : Array Oper) (listed : Array Bool) : Prop := ∀ j o, ops[j]? = some o → listed.getD j false = true → ∀ e ∈ o.after, Region.binds .any e = true → listed.getD e.on false = true
theorem dep_listed {listed : Array Bool} (hc : Closed ops listed) (i : Nat) : ∀ (f j : Nat) (o : Oper), ops[j]? = some o → (∀ e ∈ o.after, Region.binds .any e = true → listed.getD e.on false = true) → depT ops f j i = true → listed.getD i false = true
  | 0, _, _, _, _, h => by simp [depT] at h
  | f + 1, j, o, ho, he, h => by
    simp only [depT, ho] at h
    obtain ⟨e, hm, hb⟩ := Array.any_eq_true'.1 h
    simp only [Bool.and_eq_true, Bool.or_eq_true, beq_iff_eq] at hb
    have hl := he e hm hb.1
    rcases hb.2 with rfl | hd
    · exact hl
    · cases hk : ops[e.on]? with
      | none => cases f <;> simp [depT, hk] at hd
      | some ok => exact dep_listed hc i f e.on ok hk (fun e' hm' hb' => hc e.on ok hk hl e' hm' hb') hd

/-- An operation that only reads K (or whose guard says no). -/
def Quiet (P : Program) (G : World) (ops : Array Oper) (K : Blocks) (ρ : Slots) (o : Oper) (v : Value) : Prop :=
  (Wants ops ρ o true ∧ ∀ L', (∀ p ∈ K, p ∈ L') → OpV P G ρ L' o.op o.type v L') ∨ (Wants ops ρ o false ∧ v = undef)

theorem Wants.apart {o : Oper} {b : Bool} {d : Nat} {u : Value} (h : Wants ops ρ o b) (hn : d ∉ o.looksAt ops) : Wants ops ((d, u) :: ρ) o b := by
  unfold Wants at h ⊢
  split at h
  · exact h
  · rename_i j want hg
    obtain ⟨dj, x, h1, h2, h3⟩ := h
    refine ⟨dj, x, h1, ?_, h3⟩
    have hne : dj ≠ d := fun e => hn (by subst e; unfold Oper.looksAt; rw [hg]; exact List.mem_append_right _ (by unfold guardSlot at h1; simp [h1]))
    rw [List.lookup_cons, show (dj == d) = false by simpa using hne]
    exact h2
theorem Wants.unput {o : Oper} {b : Bool} {d : Nat} {u : Value} (h : Wants ops ((d, u) :: ρ) o b) (hn : d ∉ o.looksAt ops) : Wants ops ρ o b := by
  unfold Wants at h ⊢
  split at h
  · exact h
  · rename_i j want hg
    obtain ⟨dj, x, h1, h2, h3⟩ := h
    refine ⟨dj, x, h1, ?_, h3⟩
    have hne : dj ≠ d := fun e => hn (by subst e; unfold Oper.looksAt; rw [hg]; exact List.mem_append_right _ (by unfold guardSlot at h1; simp [h1]))
    rw [List.lookup_cons, show (dj == d) = false by simpa using hne] at h2
    exact h2
def setR (r : Operand → Value) (d : Nat) (u : Value) : Operand → Value
  | .tmp t => if t = d then u else r (.tmp t)
  | x => r x
theorem setR_ne {r : Operand → Value} {d : Nat} {u : Value} {x : Operand} (h : x ≠ .tmp d) : setR r d u x = r x := by
  cases x with
  | tmp t =>
    have : t ≠ d := fun e => h (by rw [e])
    simp [setR, this]
  | _ => rfl
theorem no_look {o : Oper} {d : Nat} (hn : d ∉ o.looksAt ops) : ∀ x ∈ o.op.operands, x ≠ .tmp d := fun x hx e => hn (by subst e; exact List.mem_append_left _ (List.mem_filterMap.2 ⟨.tmp d, by simpa using hx, rfl⟩))
/-- An operation that does not look at a slot. -/
theorem OpT.apart {o : Oper} {Φ : Value → Blocks → Prop} {d : Nat} {u : Value} (hs : ∀ cs b, o.op ≠ .select cs b) (h : OpT P G ρ L o.op o.type Φ) (hn : d ∉ o.looksAt ops) : OpT P G ((d, u) :: ρ) L o.op o.type Φ := by
  refine ⟨fun r hr w hw o' ho ht => ?_⟩
  have h1 := h.out (setR r d ((ρ.lookup d).getD (r (.tmp d)))) (fun x v hv => by
    cases x with
    | tmp t =>
      have hv' : ρ.lookup t = some v := hv
      by_cases e : t = d
      · subst e; simp [setR, hv']
      · simp only [setR, e, if_false]
        refine hr (.tmp t) v ?_
        show List.lookup t ((d, u) :: ρ) = some v
        rw [List.lookup_cons, show (t == d) = false by simpa using e]
        exact hv'
    | const c => exact hr _ v hv
    | global g => exact hr _ v hv
    | func f => exact hr _ v hv) w hw o' ho ht
  rw [execOp_congr (ρ := r) (ρ' := setR r d ((ρ.lookup d).getD (r (.tmp d)))) o' (by rw [ho]; exact hs) (fun x hx => by rw [ho] at hx; rw [setR_ne (no_look hn x hx)])]
  exact h1
theorem OpT.unput {o : Oper} {Φ : Value → Blocks → Prop} {d : Nat} {u : Value} (hs : ∀ cs b, o.op ≠ .select cs b) (h : OpT P G ((d, u) :: ρ) L o.op o.type Φ) (hn : d ∉ o.looksAt ops) : OpT P G ρ L o.op o.type Φ := by
  refine ⟨fun r hr w hw o' ho ht => ?_⟩
  have h1 := h.out (setR r d u) (fun x v hv => by
    cases x with
    | tmp t =>
      have hv' : List.lookup t ((d, u) :: ρ) = some v := hv
      rw [List.lookup_cons] at hv'
      by_cases e : t = d
      · subst e
        simp at hv'
        simp [setR, hv']
      · rw [show (t == d) = false by simpa using e] at hv'
        simp only [setR, e, if_false]
        exact hr (.tmp t) v hv'
    | const c => exact hr _ v hv
    | global g => exact hr _ v hv
    | func f => exact hr _ v hv) w hw o' ho ht
  rw [execOp_congr (ρ := r) (ρ' := setR r d u) o' (by rw [ho]; exact hs) (fun x hx => by rw [ho] at hx; rw [setR_ne (no_look hn x hx)])]
  exact h1
theorem Quiet.apart {K : Blocks} {o : Oper} {v : Value} {dst : Option Nat} {u : Value} (hs : ∀ cs b, o.op ≠ .select cs b) (h : Quiet P G ops K ρ o v) (hn : ∀ d, dst = some d → d ∉ o.looksAt ops) : Quiet P G ops K (bindD dst u ρ) o v := by
  cases dst with
  | none => exact h
  | some d =>
    rcases h with ⟨h1, h2⟩ | ⟨h1, h2⟩
    · exact Or.inl ⟨h1.apart (hn d rfl), fun L' hK => (h2 L' hK).apart hs (hn d rfl)⟩
    · exact Or.inr ⟨h1.apart (hn d rfl), h2⟩
theorem closed_set {listed : Array Bool} {j : Nat} {oj : Oper} (hc : Closed ops listed) (hoj : ops[j]? = some oj) (hall : ∀ e ∈ oj.after, Region.binds .any e = true → listed.getD e.on false = true) : Closed ops (listed.setIfInBounds j true) := by
  have up : ∀ k, listed.getD k false = true → (listed.setIfInBounds j true).getD k false = true := fun k hk => by
    by_cases e : j = k
    · subst e
      by_cases hl : j < listed.size
      · simp [Array.getD_eq_getD_getElem?, hl]
      · simp [Array.getD_eq_getD_getElem?, Array.getElem?_eq_none (Nat.le_of_not_lt hl)] at hk
    · rw [Array.getD_eq_getD_getElem?, Array.getElem?_setIfInBounds_ne e, ← Array.getD_eq_getD_getElem?]
      exact hk
  intro k o hk hl e he hb
  by_cases ek : j = k
  · subst ek
    rw [hoj] at hk
    cases hk
    exact up _ (hall e he hb)
  · rw [Array.getD_eq_getD_getElem?, Array.getElem?_setIfInBounds_ne ek, ← Array.getD_eq_getD_getElem?] at hl
    exact up _ (hc k o hk hl e he hb)

/-- **An operation that only reads K may be taken first.** -/
theorem TA_first {K : Blocks} {W : List Nat} {i : Nat} {oi : Oper} {v : Value} (hi : ops[i]? = some oi) (hd : ∀ d, oi.dst = some d → d < n) (hsel : ∀ (j : Nat) (o : Oper) cs b, ops[j]? = some o → o.op ≠ .select cs b)
    (hW : ∀ j ∈ W, j ≠ i → depT ops ops.size j i = true) :
    ∀ (fuel : Nat) (listed : Array Bool) (ρ : Slots) (L : Blocks), Closed ops listed →
      (∀ j oj, ops[j]? = some oj → j ≠ i → listed.getD j true = false → (∀ e ∈ oj.after, Region.binds .any e = true → e.on ≠ i) → oi.apart ops oj = true) →
      i ∈ Region.ready .any ops listed → Quiet P G ops K ρ oi v → (∀ p ∈ K, p ∈ L) →
      TA P G ops n K W Q fuel (listed.setIfInBounds i true) (bindD oi.dst v ρ) L → TA P G ops n K W Q (fuel + 1) listed ρ L := by
  have own : ∀ (fuel : Nat) (listed : Array Bool) (ρ : Slots) (L : Blocks), Quiet P G ops K ρ oi v → (∀ p ∈ K, p ∈ L) → TA P G ops n K W Q fuel (listed.setIfInBounds i true) (bindD oi.dst v ρ) L →
      StepD P G ops n ρ L i (fun L' => i ∈ W ∨ ∀ p ∈ K, p ∈ L') (TA P G ops n K W Q fuel (listed.setIfInBounds i true)) := by
    intro fuel listed ρ L hq hK H
    rcases hq with ⟨h1, h2⟩ | ⟨h1, rfl⟩
    · refine ⟨oi, hi, hd, true, h1, Or.inl ⟨rfl, _, h2 L hK, ?_⟩⟩
      rintro _ _ ⟨rfl, rfl⟩
      exact ⟨Or.inr hK, H⟩
    · exact ⟨oi, hi, hd, false, h1, Or.inr ⟨rfl, Or.inr hK, H⟩⟩
  intro fuel
  induction fuel with
  | zero =>
    intro listed ρ L _ _ hr hq hK H
    refine ⟨fun h => (by rw [h] at hr; cases hr), fun j hj => ?_⟩
    by_cases hji : j = i
    · subst hji; exact own 0 listed ρ L hq hK H
    · have := ready_mono hj hji
      rw [H.1] at this
      cases this
  | succ fuel ih =>
    intro listed ρ L hc hfree hr hq hK H
    refine ⟨fun h => (by rw [h] at hr; cases hr), fun j hj => ?_⟩
    by_cases hji : j = i
    · subst hji; exact own _ listed ρ L hq hK H
    · obtain ⟨oj', hoj', hdj, b, hb, hs⟩ := H.2 j (ready_mono hj hji)
      obtain ⟨hjun, oj, hoj, hall0⟩ := mem_ready.1 hj
      have heq := Option.some.inj (hoj.symm.trans hoj')
      subst heq
      have hall : ∀ e ∈ oj.after, Region.binds .any e = true → listed.getD e.on false = true := fun e he hb => hall0 e he hb
      have hiun : listed.getD i false = false := by
        have h0 := (mem_ready.1 hr).1
        rcases Nat.lt_or_ge i listed.size with h' | h'
        · simp [h'] at h0 ⊢; exact h0
        · simp [Array.getElem?_eq_none h']
      have hnot : ∀ e ∈ oj.after, Region.binds .any e = true → e.on ≠ i := fun e he hb heq => by
        have h1 := hall e he hb
        rw [heq, hiun] at h1
        cases h1
      have hjW : j ∉ W := fun hjW => by
        have := dep_listed hc i ops.size j oj hoj hall (hW j hjW hji)
        rw [hiun] at this
        cases this
      have hap := hfree j oj hoj hji hjun hnot
      obtain ⟨a1, a2, a3⟩ := Oper.apart_spec hap
      have hfree' : ∀ k ok, ops[k]? = some ok → k ≠ i → (listed.setIfInBounds j true).getD k true = false →
          (∀ e ∈ ok.after, Region.binds .any e = true → e.on ≠ i) → oi.apart ops ok = true := fun k ok hk hki hun hno => by
        refine hfree k ok hk hki ?_ hno
        by_cases hjk : j = k
        · subst hjk; exact hjun
        · rw [getD_set_ne true hjk] at hun; exact hun
      have hc' := closed_set hc hoj hall
      have swap : ∀ (u : Value) (t : Nat), (bindD oj.dst u (bindD oi.dst v ρ)).lookup t = (bindD oi.dst v (bindD oj.dst u ρ)).lookup t := by
        intro u t
        cases h1 : oi.dst with
        | none => rfl
        | some d1 =>
          cases h2 : oj.dst with
          | none => rfl
          | some d2 =>
            have hne : d1 ≠ d2 := fun e => a2 d1 h1 (by rw [h2, e])
            simp only [bindD, List.lookup_cons]
            by_cases e1 : t = d1
            · subst e1
              rw [show (t == d2) = false by simpa using hne]
            · rw [show (t == d1) = false by simpa using e1]
      have hwant : Wants ops ρ oj b := by
        cases h1 : oi.dst with
        | none => rw [h1] at hb; exact hb
        | some d1 => rw [h1] at hb; exact Wants.unput hb (a1 d1 h1)
      refine ⟨oj, hoj, hdj, b, hwant, ?_⟩
      rcases hs with ⟨rfl, Φ, hO, hn⟩ | ⟨rfl, hkp, hn⟩
      · refine Or.inl ⟨rfl, Φ, ?_, fun u L' hu => ?_⟩
        · cases h1 : oi.dst with
          | none => rw [h1] at hO; exact hO
          | some d1 => rw [h1] at hO; exact OpT.unput (fun cs b => hsel j oj cs b hoj) hO (a1 d1 h1)
        · obtain ⟨k1, k2⟩ := hn u L' hu
          have hK' : ∀ p ∈ K, p ∈ L' := k1.resolve_left hjW
          refine ⟨Or.inr hK', ih (listed.setIfInBounds j true) _ L' hc' hfree' (ready_mono hr (Ne.symm hji)) (hq.apart (fun cs b => hsel i oi cs b hi) a3) hK' ?_⟩
          rw [Array.setIfInBounds_comm _ _ (Ne.symm hji)] at k2
          exact k2.congr _ _ _ _ _ (swap u)
      · refine Or.inr ⟨rfl, Or.inr hK, ih (listed.setIfInBounds j true) _ L hc' hfree' (ready_mono hr (Ne.symm hji)) (hq.apart (fun cs b => hsel i oi cs b hi) a3) hK ?_⟩
        rw [Array.setIfInBounds_comm _ _ (Ne.symm hji)] at hn
        exact hn.congr _ _ _ _ _ (swap undef)

/-! ### the moves -/
/-- All that the rule of the region's form asks, at once. -/
def takes (ops : Array Oper) (W : List Nat) (n : Nat) (listed : Array Bool) (i d : Nat) : Bool :=
  Region.noSelect ops && Region.free .any ops listed i && (Region.ready .any ops listed).contains i && (W.all fun j => j == i || depT ops ops.size j i) && Nat.blt d n &&
  ((List.range ops.size).all fun j => match ops[j]? with
    | some o => !listed.getD j false || o.after.all fun e => !Region.binds .any e || listed.getD e.on false
    | none => true)
theorem takes_closed {listed : Array Bool} (h : ((List.range ops.size).all fun j => match ops[j]? with
    | some o => !listed.getD j false || o.after.all fun e => !Region.binds .any e || listed.getD e.on false
    | none => true) = true) : Closed ops listed := by
  intro j o ho hl e he hb
  have h1 := List.all_eq_true.1 h j (List.mem_range.2 (Array.getElem?_eq_some_iff.1 ho).1)
  simp only [ho, hl, Bool.not_true, Bool.false_or] at h1
  have h2 := Array.all_eq_true'.1 h1 e he
  simpa [hb] using h2
theorem TA_take {K : Blocks} {W : List Nat} {fuel : Nat} {listed : Array Bool} (i : Nat) {d : Nat} {oi : Oper} {v : Value} (hi : ops[i]? = some oi) (hd : oi.dst = some d) (ht : takes ops W n listed i d = true)
    (hq : Quiet P G ops K ρ oi v) (hK : ∀ p ∈ K, p ∈ L) (h : TA P G ops n K W Q fuel (listed.setIfInBounds i true) ((d, v) :: ρ) L) : TA P G ops n K W Q (fuel + 1) listed ρ L := by
  simp only [takes, Bool.and_eq_true] at ht
  obtain ⟨⟨⟨⟨⟨h1, h2⟩, h3⟩, h4⟩, h5⟩, h6⟩ := ht
  refine TA_first hi (fun d' e => by rw [hd] at e; cases e; simpa using h5) (Region.noSelect_spec h1) (fun j hj hne => ?_) fuel listed ρ L (takes_closed h6) (Region.free_spec hi h2) (by simpa using h3) hq hK (by rw [hd]; exact h)
  have := List.all_eq_true.1 h4 j hj
  simpa [hne] using this
/-- Quiet, unguarded. -/
theorem quiet_q {K : Blocks} {d : Option Nat} {op : Op} {v : Value} {pos : String} {after : Array Edge} (h : OpQ P ρ K op ty v) : Quiet P G ops K ρ ⟨d, op, ty, pos, after, none⟩ v :=
  Or.inl ⟨rfl, fun L' hK => .pure fun r hr w hw o ho ht => h.out r hr w ⟨fun p hp => hw.get p (hK p hp)⟩ o ho ht⟩
theorem quiet_g {K : Blocks} {d : Option Nat} {op : Op} {v : Value} {pos : String} {after : Array Edge} {j dj : Nat} {want : Bool} (hs : guardSlot ops j = some dj) (hv : ρ.lookup dj = some (.bool want)) (h : OpQ P ρ K op ty v) : Quiet P G ops K ρ ⟨d, op, ty, pos, after, some (j, want)⟩ v :=
  Or.inl ⟨⟨dj, _, hs, hv, by simp [gsay]⟩, fun L' hK => .pure fun r hr w hw o ho ht => h.out r hr w ⟨fun p hp => hw.get p (hK p hp)⟩ o ho ht⟩
theorem quiet_no {K : Blocks} {d : Option Nat} {op : Op} {pos : String} {after : Array Edge} {j dj : Nat} {want : Bool} (hs : guardSlot ops j = some dj) (hv : ρ.lookup dj = some (.bool !want)) : Quiet P G ops K ρ ⟨d, op, ty, pos, after, some (j, want)⟩ undef :=
  Or.inr ⟨⟨dj, _, hs, hv, by cases want <;> rfl⟩, rfl⟩
/-- A call that leaves all blocks as they are. -/
theorem quiet_call {K : Blocks} {d : Option Nat} {f : FuncId} {xs : List Operand} {ats : Array TypeId} {vs : List Value} {v : Value} {pos : String} {after : Array Edge} (hb : hasBody P f = true) (ha : evArgs ρ xs = some vs)
    (h : ∀ L', (∀ p ∈ K, p ∈ L') → Spec P G f vs.toArray L' fun u M => u = v ∧ M = L') : Quiet P G ops K ρ ⟨d, .call ⟨.value (.func f), xs.toArray, ats⟩, ty, pos, after, none⟩ v :=
  Or.inl ⟨rfl, fun L' hK => op_call hb ha (h L' hK)⟩
theorem quiet_callG {K : Blocks} {d : Option Nat} {f : FuncId} {xs : List Operand} {ats : Array TypeId} {vs : List Value} {v : Value} {pos : String} {after : Array Edge} {j dj : Nat} {want : Bool} (hs : guardSlot ops j = some dj) (hv : ρ.lookup dj = some (.bool want)) (hb : hasBody P f = true) (ha : evArgs ρ xs = some vs)
    (h : ∀ L', (∀ p ∈ K, p ∈ L') → Spec P G f vs.toArray L' fun u M => u = v ∧ M = L') : Quiet P G ops K ρ ⟨d, .call ⟨.value (.func f), xs.toArray, ats⟩, ty, pos, after, some (j, want)⟩ v :=
  Or.inl ⟨⟨dj, _, hs, hv, by simp [gsay]⟩, fun L' hK => op_call hb ha (h L' hK)⟩
/-- The one that may come up. -/
theorem TA_one {K : Blocks} {W : List Nat} {fuel : Nat} {listed : Array Bool} (i : Nat) {oi : Oper} {Φ : Value → Blocks → Prop} (hr : Region.ready .any ops listed = [i]) (hi : ops[i]? = some oi) (hd : (oi.dst.all fun d => Nat.blt d n) = true) (hg : oi.guard = none)
    (hO : OpT P G ρ L oi.op oi.type Φ) (h : ∀ v L', Φ v L' → (i ∈ W ∨ ∀ p ∈ K, p ∈ L') ∧ TA P G ops n K W Q fuel (listed.setIfInBounds i true) (bindD oi.dst v ρ) L') : TA P G ops n K W Q (fuel + 1) listed ρ L := by
  refine ⟨fun h0 => (by rw [hr] at h0; cases h0), fun j hj => ?_⟩
  rw [hr] at hj
  obtain rfl : j = i := by simpa using hj
  exact ⟨oi, hi, fun d e => by rw [e] at hd; simpa using hd, true, by unfold Wants; rw [hg], Or.inl ⟨rfl, Φ, hO, h⟩⟩
/-- One of several that may come up. -/
def Up (P : Program) (G : World) (ops : Array Oper) (n : Nat) (K : Blocks) (W : List Nat) (Q : Exit → Act → World → Prop) (fuel : Nat) (listed : Array Bool) (ρ : Slots) (L : Blocks) (i : Nat) : Prop :=
  StepD P G ops n ρ L i (fun L' => i ∈ W ∨ ∀ p ∈ K, p ∈ L') (TA P G ops n K W Q fuel (listed.setIfInBounds i true))
theorem TA_two {K : Blocks} {W : List Nat} {fuel : Nat} {listed : Array Bool} (i j : Nat) (hr : Region.ready .any ops listed = [i, j]) (h1 : Up P G ops n K W Q fuel listed ρ L i) (h2 : Up P G ops n K W Q fuel listed ρ L j) : TA P G ops n K W Q (fuel + 1) listed ρ L := by
  refine ⟨fun h0 => (by rw [hr] at h0; cases h0), fun k hk => ?_⟩
  rw [hr] at hk
  simp at hk
  rcases hk with rfl | rfl
  · exact h1
  · exact h2
theorem Up_of {K : Blocks} {W : List Nat} {fuel : Nat} {listed : Array Bool} {i : Nat} {oi : Oper} {Φ : Value → Blocks → Prop} (hi : ops[i]? = some oi) (hd : (oi.dst.all fun d => Nat.blt d n) = true) (hg : oi.guard = none)
    (hO : OpT P G ρ L oi.op oi.type Φ) (h : ∀ v L', Φ v L' → (i ∈ W ∨ ∀ p ∈ K, p ∈ L') ∧ TA P G ops n K W Q fuel (listed.setIfInBounds i true) (bindD oi.dst v ρ) L') : Up P G ops n K W Q fuel listed ρ L i :=
  ⟨oi, hi, fun d e => by rw [e] at hd; simpa using hd, true, by unfold Wants; rw [hg], Or.inl ⟨rfl, Φ, hO, h⟩⟩
theorem TA_done {K : Blocks} {W : List Nat} {fuel : Nat} {listed : Array Bool} (hr : Region.ready .any ops listed = []) (h : TQ G n ρ L .normal Q) : TA P G ops n K W Q fuel listed ρ L := by
  cases fuel with
  | zero => exact ⟨hr, h⟩
  | succ f => exact ⟨fun _ => h, by rw [hr]; simp⟩
theorem TA_oneD {K : Blocks} {W : List Nat} {fuel : Nat} {listed : Array Bool} (i : Nat) {d : Nat} {oi : Oper} {Φ : Value → Blocks → Prop} (hr : Region.ready .any ops listed = [i]) (hi : ops[i]? = some oi) (hd : oi.dst = some d) (hdn : Nat.blt d n = true) (hg : oi.guard = none)
    (hO : OpT P G ρ L oi.op oi.type Φ) (h : ∀ v L', Φ v L' → (i ∈ W ∨ ∀ p ∈ K, p ∈ L') ∧ TA P G ops n K W Q fuel (listed.setIfInBounds i true) ((d, v) :: ρ) L') : TA P G ops n K W Q (fuel + 1) listed ρ L :=
  TA_one i hr hi (by rw [hd]; exact hdn) hg hO (by rw [hd]; exact h)
theorem TA_oneN {K : Blocks} {W : List Nat} {fuel : Nat} {listed : Array Bool} (i : Nat) {oi : Oper} {Φ : Value → Blocks → Prop} (hr : Region.ready .any ops listed = [i]) (hi : ops[i]? = some oi) (hd : oi.dst = none) (hg : oi.guard = none)
    (hO : OpT P G ρ L oi.op oi.type Φ) (h : ∀ v L', Φ v L' → (i ∈ W ∨ ∀ p ∈ K, p ∈ L') ∧ TA P G ops n K W Q fuel (listed.setIfInBounds i true) ρ L') : TA P G ops n K W Q (fuel + 1) listed ρ L :=
  TA_one i hr hi (by rw [hd]; rfl) hg hO (by rw [hd]; exact h)
theorem TA_heap {K : Blocks} {W : List Nat} {L' : Blocks} : ∀ {fuel : Nat} {listed : Array Bool} {ρ : Slots}, (hl : ∀ w, Heap G w L → Heap G w L') → (hk : (∀ p ∈ K, p ∈ L') → ∀ p ∈ K, p ∈ L) → TA P G ops n K W Q fuel listed ρ L' → TA P G ops n K W Q fuel listed ρ L
  | 0, _, _, hl, _, h => ⟨h.1, TQ_heap hl h.2⟩
  | fuel + 1, listed, ρ, hl, hk, h => by
    refine ⟨fun h0 => TQ_heap hl (h.1 h0), fun i hi => ?_⟩
    obtain ⟨o, ho, hd, b, hb, hs⟩ := h.2 i hi
    refine ⟨o, ho, hd, b, hb, ?_⟩
    rcases hs with ⟨rfl, Φ, hO, hn⟩ | ⟨rfl, h1, hn⟩
    · exact Or.inl ⟨rfl, Φ, ⟨fun r hr w hw => hO.out r hr w (hl w hw)⟩, hn⟩
    · exact Or.inr ⟨rfl, h1.imp id hk, TA_heap hl hk hn⟩
theorem quiet_g2 {K : Blocks} {d : Option Nat} {op : Op} {v : Value} {pos : String} {after : Array Edge} {j dj : Nat} {want b : Bool} (hs : guardSlot ops j = some dj) (hv : ρ.lookup dj = some (.bool b)) (hb : b = want) (h : OpQ P ρ K op ty v) : Quiet P G ops K ρ ⟨d, op, ty, pos, after, some (j, want)⟩ v := quiet_g hs (hb ▸ hv) h
theorem quiet_no2 {K : Blocks} {d : Option Nat} {op : Op} {pos : String} {after : Array Edge} {j dj : Nat} {want b : Bool} (hs : guardSlot ops j = some dj) (hv : ρ.lookup dj = some (.bool b)) (hb : b = !want) : Quiet P G ops K ρ ⟨d, op, ty, pos, after, some (j, want)⟩ undef := quiet_no hs (hb ▸ hv)
theorem quiet_callG2 {K : Blocks} {d : Option Nat} {f : FuncId} {xs : List Operand} {ats : Array TypeId} {vs : List Value} {v : Value} {pos : String} {after : Array Edge} {j dj : Nat} {want b : Bool} (hs : guardSlot ops j = some dj) (hv : ρ.lookup dj = some (.bool b)) (hb : b = want) (hf : hasBody P f = true) (ha : evArgs ρ xs = some vs)
    (h : ∀ L', (∀ p ∈ K, p ∈ L') → Spec P G f vs.toArray L' fun u M => u = v ∧ M = L') : Quiet P G ops K ρ ⟨d, .call ⟨.value (.func f), xs.toArray, ats⟩, ty, pos, after, some (j, want)⟩ v := quiet_callG hs (hb ▸ hv) hf ha h
end Go.Proofs.YtnhlpifbadncmaaDoor
namespace Go.Proofs.YtnhlpifbadncmaaDoor
open Go.RowKit
set_option linter.unusedVariables false
set_option linter.unusedSimpArgs false
variable {G : World} {P : Program} {n : Nat} {ρ : Slots} {L : Blocks} {ty : TypeId} {Q : Exit → Act → World → Prop}

/-- Slots that are among others. -/
def Sub : Slots → Slots → Prop
  | [], _ => True
  | (t, v) :: r, ρ => ρ.lookup t = some v ∧ Sub r ρ
theorem Sub.get : ∀ {a b : Slots}, Sub a b → ∀ t v, a.lookup t = some v → b.lookup t = some v
  | [], _, _, t, v, h => by simp at h
  | (s, u) :: r, b, h, t, v, hv => by
    rw [List.lookup_cons] at hv
    by_cases e : t = s
    · subst e; simp at hv; subst hv; exact h.1
    · rw [show (t == s) = false by simpa using e] at hv
      exact Sub.get h.2 t v hv
theorem T_loopS {σ : Type} {c : Code} (I : σ → Prop) (ρI : σ → Slots) (LI : σ → Blocks) (μ : σ → Nat) (x0 : σ) (h0 : I x0) (hs : Sub (ρI x0) ρ) (hl : ∀ w, Heap G w L → Heap G w (LI x0))
    (round : ∀ x, I x → T P G n (ρI x) (LI x) c (Exit.then (LoopInv G n I ρI LI μ (μ x)) Q)) : T P G n ρ L (.loop c) Q := T_loop I ρI LI μ x0 h0 hs.get hl round
theorem TQ_roundS {σ : Type} {I : σ → Prop} {ρI : σ → Slots} {LI : σ → Blocks} {μ : σ → Nat} {m : Nat} (x : σ) (hI : I x) (hs : Sub (ρI x) ρ) (hl : ∀ w, Heap G w L → Heap G w (LI x)) (hm : μ x < m) :
    TQ G n ρ L .normal (Exit.then (LoopInv G n I ρI LI μ m) Q) := TQ_round x hI hs.get hl hm
/-- A cut: what is known from here on. -/
theorem T_cut {c : Code} (ρ' : Slots) (L' : Blocks) (hs : Sub ρ' ρ) (hl : ∀ w, Heap G w L → Heap G w L') (h : T P G n ρ' L' c Q) : T P G n ρ L c Q := T_weak ρ' hs.get hl h
theorem T_yes {c : Operand} {x y : Code} {b : Bool} (hc : ev ρ c = some (.bool b)) (hb : b = true) (h : T P G n ρ L x Q) : T P G n ρ L (.cond c x y) Q := T_true (hb ▸ hc) h
theorem T_no {c : Operand} {x y : Code} {b : Bool} (hc : ev ρ c = some (.bool b)) (hb : b = false) (h : T P G n ρ L y Q) : T P G n ρ L (.cond c x y) Q := T_false (hb ▸ hc) h
theorem TL_gno {ops : Array Oper} {d j dj : Nat} {op : Op} {pos : String} {after : Array Edge} {rest : List Oper} {want b : Bool}
    (hs : guardSlot ops j = some dj) (hv : ρ.lookup dj = some (.bool b)) (hb : b = !want) (hd : Nat.blt d n = true) (hr : TL P G ops n ((d, undef) :: ρ) L rest Q) : TL P G ops n ρ L (⟨some d, op, ty, pos, after, some (j, want)⟩ :: rest) Q :=
  TL_skip hs (hb ▸ hv) hd hr
/-- A guarded operation that is wanted, as if it were unguarded. -/
structure TG (P : Program) (G : World) (ops : Array Oper) (n : Nat) (ρ : Slots) (L : Blocks) (d : Nat) (op : Op) (ty : TypeId) (rest : List Oper) (Q : Exit → Act → World → Prop) : Prop where
  out : ∀ pos after j want dj, guardSlot ops j = some dj → ρ.lookup dj = some (.bool want) → TL P G ops n ρ L (⟨some d, op, ty, pos, after, some (j, want)⟩ :: rest) Q
theorem TL_gpre {ops : Array Oper} {d j dj : Nat} {op : Op} {pos : String} {after : Array Edge} {rest : List Oper} {want b : Bool}
    (hs : guardSlot ops j = some dj) (hv : ρ.lookup dj = some (.bool b)) (hb : b = want) (h : TG P G ops n ρ L d op ty rest Q) : TL P G ops n ρ L (⟨some d, op, ty, pos, after, some (j, want)⟩ :: rest) Q := h.out pos after j want dj hs (hb ▸ hv)
theorem TL_gq2 {ops : Array Oper} {d : Nat} {op : Op} {rest : List Oper} {v : Value} (h : OpQ P ρ L op ty v) (hd : Nat.blt d n = true) (hr : TL P G ops n ((d, v) :: ρ) L rest Q) : TG P G ops n ρ L d op ty rest Q :=
  ⟨fun pos after j want dj hs hv => TL_gq hs hv h hd hr⟩
theorem TG_opT {ops : Array Oper} {d : Nat} {op : Op} {rest : List Oper} {Φ : Value → Blocks → Prop} (h : OpT P G ρ L op ty Φ) (hd : Nat.blt d n = true) (hr : ∀ v L', Φ v L' → TL P G ops n ((d, v) :: ρ) L' rest Q) : TG P G ops n ρ L d op ty rest Q :=
  ⟨fun pos after j want dj hs hv => TL_gT hs hv h hd hr⟩
theorem TG_op {ops : Array Oper} {d : Nat} {op : Op} {rest : List Oper} {v : Value} {L' : Blocks} (h : OpV P G ρ L op ty v L') (hd : Nat.blt d n = true) (hr : TL P G ops n ((d, v) :: ρ) L' rest Q) : TG P G ops n ρ L d op ty rest Q :=
  TG_opT h hd fun _ _ ⟨h1, h2⟩ => h1 ▸ h2 ▸ hr
theorem op_pickT {c a b : Operand} {t : Bool} {v : Value} (hc : ev ρ c = some (.bool t)) (ht : t = true) (hv : ev ρ a = some v) : OpQ P ρ L (.pick c a b) ty v := by subst ht; exact op_pick hc hv
theorem op_pickF {c a b : Operand} {t : Bool} {v : Value} (hc : ev ρ c = some (.bool t)) (ht : t = false) (hv : ev ρ b = some v) : OpQ P ρ L (.pick c a b) ty v := by subst ht; exact op_pick hc hv

/-! ### closed facts -/
def plainTy (P : Program) (t : TypeId) : Bool := match P.underlying t with
  | some d => plainDesc d
  | none => false
def oneTy (P : Program) (t : TypeId) : Bool := match P.info? t with
  | some i => Nat.beq i.size 1
  | none => false
def fieldOff (P : Program) (s f : Nat) : Option Nat := match P.underlying s with
  | some (.struct fs) => match fs[f]? with
    | some fi => match P.info? fi.type with
      | some ti => if Nat.beq ti.size 0 then none else some fi.offset
      | none => none
    | none => none
  | _ => none
theorem op_fld {x : Operand} {b off s f fo : Nat} (hx : ev ρ x = some (.pointer (some ⟨b, off, none⟩))) (h : fieldOff P s f = some fo) : OpQ P ρ L (.fieldAddr s x f) ty (.pointer (some ⟨b, off + fo, none⟩)) := by
  unfold fieldOff at h
  cases h1 : P.underlying s with
  | none => simp [h1] at h
  | some d =>
    cases d <;> simp [h1] at h
    rename_i fs
    cases h2 : fs[f]? with
    | none => simp [h2] at h
    | some fi =>
      cases h3 : P.info? fi.type with
      | none => simp [h2, h3] at h
      | some ti =>
        simp [h2, h3] at h
        exact op_fieldAddr hx h1 h2 h3 (by cases hb : Nat.beq ti.size 0; rfl; simp [Nat.eq_of_beq_eq_true hb] at h) h.2
theorem op_ld {x : Operand} {b off : Nat} {t : TypeId} {C : Array Value} {te : TypeId} {fr : Nat × Nat} {v : Value} (hx : ev ρ x = some (.pointer (some ⟨b, off, none⟩)))
    (ht : plainTy P t = true) (hm : (b, Obj.cells C te fr) ∈ L) (hv : C[off]? = some v) : OpQ P ρ L (.load t x) ty v := by
  unfold plainTy at ht
  cases h1 : P.underlying t with
  | none => simp [h1] at ht
  | some d => simp [h1] at ht; exact op_load hx h1 ht hm hv
theorem op_st {x y : Operand} {b off : Nat} {t : TypeId} {C C' : Array Value} {te : TypeId} {v u : Value} (hx : ev ρ x = some (.pointer (some ⟨b, off, none⟩))) (hy : ev ρ y = some v)
    (h1 : oneTy P t = true) (hone : v.oneCell' = true) (hv : C[off]? = some u) (hC : C.setIfInBounds off v = C') : OpV P G ρ ((b, Obj.cells C te (0, 0)) :: L) (.store t x y) ty undef ((b, Obj.cells C' te (0, 0)) :: L) := by
  unfold oneTy at h1
  cases h2 : P.info? t with
  | none => simp [h2] at h1
  | some ti => simp [h2] at h1; exact hC ▸ op_store hx hy h2 h1 hone hv
theorem TL_st {ops : Array Oper} {x y : Operand} {pos : String} {after : Array Edge} {rest : List Oper} {b off : Nat} {t : TypeId} {C C' : Array Value} {te : TypeId} {v u : Value} (hx : ev ρ x = some (.pointer (some ⟨b, off, none⟩))) (hy : ev ρ y = some v)
    (h1 : oneTy P t = true) (hone : v.oneCell' = true) (hv : C[off]? = some u) (hC : C.setIfInBounds off v = C') (h : TL P G ops n ρ ((b, Obj.cells C' te (0, 0)) :: L) rest Q) :
    TL P G ops n ρ ((b, Obj.cells C te (0, 0)) :: L) (⟨none, .store t x y, ty, pos, after, none⟩ :: rest) Q := TL_opN (op_st hx hy h1 hone hv hC) h
theorem op_idx {x y : Operand} {b off m c sz bytes k : Nat} {t e : TypeId} {z : Value} (E : ElemTy P t e sz bytes z) (hx : ev ρ x = some (.slice (some ⟨b, off, none⟩) m c)) (hy : ev ρ y = some (.int .i64 (k : Nat))) (h1 : k < m) :
    OpQ P ρ L (.indexAddr t x y) ty (.pointer (some ⟨b, off + k * sz, none⟩)) := by
  obtain ⟨i, h2, h3, h4, h5⟩ := E.info
  have := op_indexAddr (P := P) (ρ := ρ) (L := L) (ty := ty) hx hy E.und h2 h4 (by omega) (by omega)
  simpa using this
theorem op_idxI {x y : Operand} {b off m c sz bytes : Nat} {i : Int} {t e : TypeId} {z : Value} (E : ElemTy P t e sz bytes z) (hx : ev ρ x = some (.slice (some ⟨b, off, none⟩) m c)) (hy : ev ρ y = some (.int .i64 i)) (h0 : 0 ≤ i) (h1 : i < m) :
    OpQ P ρ L (.indexAddr t x y) ty (.pointer (some ⟨b, off + i.toNat * sz, none⟩)) := by
  obtain ⟨ti, h2, h3, h4, h5⟩ := E.info
  exact op_indexAddr hx hy E.und h2 h4 h0 h1
theorem op_lit1 {t e : TypeId} {x : Operand} {bytes : Nat} {z v : Value} (E : ElemTy P t e 1 bytes z) (hx : ev ρ x = some v) (hone : v.oneCell' = true) :
    OpNew P G ρ L (.buildSlice t 1 #[(0, x)]) ty (fun b => .slice (some ⟨b, 0, none⟩) 1 1) (.cells #[v] e (0, 0)) := by
  obtain ⟨i, h2, h3, h4, h5⟩ := E.info
  exact op_buildSlice (ps := [(0, x)]) (vs := [(0, v)]) (by simp [evParts, hx]) (rowLit1 E.und h2 h4 h3 E.cells hone)
theorem op_make {t e : TypeId} {x y : Operand} {sz bytes : Nat} {z : Value} {k k' : IntKind} {l c : Int} {C : Array Value} (E : ElemTy P t e sz bytes z) (hx : ev ρ x = some (.int k l)) (hy : ev ρ y = some (.int k' c)) (h0 : 0 ≤ l) (h1 : l ≤ c) (h2 : bytes * c ≤ 281474976710656) (h3 : c ≤ 9223372036854775807)
    (hC : madeCells z.cells (c.toNat * sz) = C) : OpNew P G ρ L (.makeSlice t x y) ty (fun b => .slice (some ⟨b, 0, none⟩) l.toNat c.toNat) (.cells C e (0, 0)) := by
  obtain ⟨i, q2, q3, q4, q5⟩ := E.info
  refine .run fun r hr w o ho _ => ?_
  have := run_make (P := P) w t e i z E.und q2 q3 k k' l c h0 h1 (by rw [q5]; exact h2) h3
  rw [q4, hC] at this
  simp [execOp, ho, hr _ _ hx, hr _ _ hy, this]
/-- The row that 'make' lays, with nothing in it yet. -/
theorem Row.made {e : TypeId} {sz b c : Nat} {C : Array Value} (hs : C.size = c * sz) (hc : c ≤ maxLen) : Row e sz (.slice (some ⟨b, 0, none⟩) 0 c) 0 [] [(b, .cells C e (0, 0))] :=
  ⟨by simp, Or.inr ⟨b, c, C, rfl, rfl, Nat.zero_le _, hc, hs, by simp⟩⟩
/-- What one cell of a new block holds, as what is appended. -/
theorem Src.one {b : Nat} {v : Value} {te : TypeId} (hm : (b, Obj.cells #[v] te (0, 0)) ∈ L) (hone : v.oneCell' = true) : Src L (.slice (some ⟨b, 0, none⟩) 1 1) 1 [v] 1 :=
  ⟨rfl, fun x hx => by simp at hx; subst hx; exact hone, Or.inr ⟨b, 0, 1, #[v], te, (0, 0), rfl, hm, fun j x hj => by
    cases j with
    | zero => simpa using hj
    | succ j => simp at hj⟩⟩
/-- 'string(b)' of a row. -/
theorem op_back_row {s d e : TypeId} {x : Operand} {v : Value} {l : List UInt8} {B : Blocks} (hx : ev ρ x = some v) (h1 : P.underlying s = some (.slice e)) (he : P.underlying e = some (.int .u8)) (h2 : P.underlying d = some .string)
    (hr : Row e 1 v l.length (l.map fun c => Value.int .u8 (c.toNat : Int)) B) (hB : ∀ p ∈ B, p ∈ L) : OpQ P ρ L (.convert s d x) ty (.string (bs l)) := by
  rcases hr.is with ⟨h3, h4, _⟩ | ⟨b, cap, cur, h3, h4, h5, h6, h7, h8⟩
  · subst h3
    have : l = [] := List.eq_nil_of_length_eq_zero h4
    subst this
    exact op_conv_back0 hx h1 he h2
  · subst h3
    refine op_conv_back (C := cur) (te := e) (fr := (0, 0)) l hx rfl h1 he h2 (hB _ (by rw [h4]; exact List.mem_cons_self ..)) (fun j hj => ?_)
    have : (cur.toList.take (l.length * 1))[j]? = some (Value.int .u8 (l[j].toNat : Int)) := by rw [h8]; simp [hj]
    rw [List.getElem?_take_of_lt (by omega)] at this
    simpa using this
/-- 'append(s, x)': the element has been laid into a block of its own. -/
theorem TL_app1 {ops : Array Oper} {d : Nat} {s x : Operand} {pos : String} {after : Array Edge} {rest : List Oper} {t e te : TypeId} {bytes bl : Nat} {z v u : Value} {m : Nat} {xs : List Value} {B : Blocks} (E : ElemTy P t e 1 bytes z)
    (hs : ev ρ s = some v) (hx : ev ρ x = some (.slice (some ⟨bl, 0, none⟩) 1 1)) (hrow : Row e 1 v m xs B) (hone : u.oneCell' = true) (h63 : m + 1 ≤ maxLen) (hby : (m + 1) * bytes ≤ 140737488355328) (hd : Nat.blt d n = true)
    (hr : ∀ v' B', Row e 1 v' (m + 1) (xs ++ [u]) B' → TL P G ops n ((d, v') :: ρ) (B' ++ L) rest Q) : TL P G ops n ρ ((bl, .cells #[u] te (0, 0)) :: (B ++ L)) (⟨some d, .call ⟨.builtin .append, #[s, x], #[t, t]⟩, ty, pos, after, none⟩ :: rest) Q :=
  TL_perm (L' := B ++ ((bl, .cells #[u] te (0, 0)) :: L)) List.perm_middle.symm (TL_append E hs hx hrow (Src.one (List.mem_cons_self ..) hone) h63 hby hd fun v' B' h => TL_heap (fun w hw => hw.sub ((List.Sublist.refl B').append (List.sublist_cons_self _ _))) (hr v' B' h))
theorem TL_appS {ops : Array Oper} {d : Nat} {s x : Operand} {pos : String} {after : Array Edge} {rest : List Oper} {t e tu : TypeId} {v : Value} {m : Nat} {xs : List Value} {l : List UInt8} {B : Blocks} (E : ElemTy P t e 1 1 (.int .u8 0)) (hu : P.underlying tu = some .string)
    (hs : ev ρ s = some v) (hx : ev ρ x = some (.string (bs l))) (hrow : Row e 1 v m xs B) (h63 : m + l.length ≤ 140737488355328) (hd : Nat.blt d n = true)
    (hr : ∀ v' B', Row e 1 v' (m + l.length) (xs ++ l.map fun c => Value.int .u8 (c.toNat : Int)) B' → TL P G ops n ((d, v') :: ρ) (B' ++ L) rest Q) : TL P G ops n ρ (B ++ L) (⟨some d, .call ⟨.builtin .append, #[s, x], #[t, tu]⟩, ty, pos, after, none⟩ :: rest) Q :=
  TL_opT (op_append_str E hu hs hx hrow h63) hd fun v' _ ⟨B', h1, h2⟩ => h2 ▸ hr v' B' h1
theorem Outcome.mono {K K' : Value → World → Prop} (h : ∀ v w, K v w → K' v w) {r : Result Next} (hr : Outcome P K r) : Outcome P K' r := by
  match r, hr with
  | .ok (.value v) w, hr => exact h _ _ hr
  | .ok .skip w, hr => exact h _ _ hr
  | .ok (.enter f args) w, hr => exact Calls.mono hr fun e w' ⟨v, h1, h2⟩ => ⟨v, h1, h _ _ h2⟩
theorem OpT.heap {op : Op} {Φ : Value → Blocks → Prop} {L' : Blocks} (hl : ∀ w, Heap G w L → Heap G w L') (h : OpT P G ρ L' op ty Φ) : OpT P G ρ L op ty Φ := ⟨fun r hr w hw => h.out r hr w (hl w hw)⟩
theorem OpT.post {op : Op} {Φ Ψ : Value → Blocks → Prop} (h : OpT P G ρ L op ty Φ) (hp : ∀ v M, Φ v M → ∃ M', Ψ v M' ∧ ∀ w, Heap G w M → Heap G w M') : OpT P G ρ L op ty Ψ :=
  ⟨fun r hr w hw o ho ht => Outcome.mono (fun v w' ⟨M, h1, h2⟩ => let ⟨M', h3, h4⟩ := hp v M h1; ⟨M', h3, h4 w' h2⟩) (h.out r hr w hw o ho ht)⟩
theorem op_app1 {s x : Operand} {t e te : TypeId} {bytes bl : Nat} {z v u : Value} {m : Nat} {xs : List Value} {B : Blocks} (E : ElemTy P t e 1 bytes z) (hs : ev ρ s = some v) (hx : ev ρ x = some (.slice (some ⟨bl, 0, none⟩) 1 1))
    (hrow : Row e 1 v m xs B) (hone : u.oneCell' = true) (h63 : m + 1 ≤ maxLen) (hby : (m + 1) * bytes ≤ 140737488355328) :
    OpT P G ρ ((bl, .cells #[u] te (0, 0)) :: (B ++ L)) (.call ⟨.builtin .append, #[s, x], #[t, t]⟩) ty fun v' L' => ∃ B', Row e 1 v' (m + 1) (xs ++ [u]) B' ∧ L' = B' ++ L :=
  (OpT.heap (L' := B ++ ((bl, .cells #[u] te (0, 0)) :: L)) (fun w hw => hw.perm List.perm_middle.symm) (op_append E hs hx hrow (Src.one (List.mem_cons_self ..) hone) h63 hby)).post fun v' M ⟨B', h1, h2⟩ =>
    ⟨B' ++ L, ⟨B', h1, rfl⟩, fun w hw => (h2 ▸ hw : Heap G w (B' ++ _)).sub ((List.Sublist.refl B').append (List.sublist_cons_self _ _))⟩
theorem TA_perm {ops : Array Oper} {K : Blocks} {W : List Nat} {L' : Blocks} {fuel : Nat} {listed : Array Bool} (he : L.Perm L') (h : TA P G ops n K W Q fuel listed ρ L') : TA P G ops n K W Q fuel listed ρ L := TA_heap (fun w hw => hw.perm he) (fun hk p hp => he.mem_iff.2 (hk p hp)) h
/-- 's[:j]' of a slice -/
theorem op_slice_to {x hi : Operand} {a : Option Addr} {m c : Nat} {k : IntKind} {j : Int} {t e : TypeId} {sz bytes : Nat} {z : Value} (E : ElemTy P t e sz bytes z) (hx : ev ρ x = some (.slice a m c)) (hhi : ev ρ hi = some (.int k j)) (h0 : 0 ≤ j) (h1 : j ≤ c) :
    OpQ P ρ L (.slice t x none (some hi) none) ty (.slice a j.toNat c) :=
  ⟨fun r hr w hw o ho _ => by
    obtain ⟨i, q2, q3, q4, q5⟩ := E.info
    have e1 : (if c = 0 then a else a.map (·.add (0 * i.size))) = a := by
      split
      · rfl
      · cases a <;> simp [Addr.add]
    simp [execOp, ho, hr _ _ hx, hr _ _ hhi, Instr.sliceAt, run_underlying E.und, Instr.slice, Instr.sliceBounds, Instr.sliceBound, asIntOf, h0, h1, sizeOf, typeInfo, q2]
    simpa using e1⟩
theorem Row.cut0 {e : TypeId} {sz : Nat} {a : Option Addr} {m m' c : Nat} {xs : List Value} {B : Blocks} (h : Row e sz (.slice a m c) m' xs B) : Row e sz (.slice a 0 c) 0 [] B := by
  rcases h.is with ⟨h1, h2, h3⟩ | ⟨b, cap, cur, h1, h2, h3, h4, h5, h6⟩
  · cases h1; subst h3; exact Row.nil e sz
  · cases h1
    exact ⟨by simp, Or.inr ⟨b, _, cur, rfl, h2, Nat.zero_le _, h4, h5, by simp⟩⟩
theorem TQ_ret0 {fn : Func} {Φ : Value → Blocks → Prop} (hr : fn.results = #[]) (h : Φ (.tuple #[]) L) : TQ G n ρ L .ret (bodyPost P fn (RetPost G Φ)) :=
  ⟨fun a w he hw => ⟨he.defers, .tuple #[], by simp only [results, hr]; simp, _, L, rfl, h, hw⟩⟩
theorem TQ_ret2 {fn : Func} {Φ : Value → Blocks → Prop} (t u : Nat) (v x : Value) (hr : fn.results = #[.tmp t, .tmp u]) (hv : ρ.lookup t = some v) (hx : ρ.lookup u = some x) (h : Φ (.tuple #[v, x]) L) : TQ G n ρ L .ret (bodyPost P fn (RetPost G Φ)) :=
  ⟨fun a w he hw => ⟨he.defers, .tuple #[v, x], by
    have h1 : a.tmps.getD t undef = v := he.reads (.tmp t) v hv
    have h2 : a.tmps.getD u undef = x := he.reads (.tmp u) x hx
    simp only [results, hr]
    simp
    exact ⟨by simpa using h1, by simpa using h2⟩, _, L, rfl, h, hw⟩⟩
theorem TQ_fall {fn : Func} {Φ : Value → Blocks → Prop} (h : TQ G n ρ L .ret (bodyPost P fn (RetPost G Φ))) : TQ G n ρ L .normal (bodyPost P fn (RetPost G Φ)) := ⟨fun a w he hw => h.out a w he hw⟩
end Go.Proofs.YtnhlpifbadncmaaDoor
namespace Go.Proofs.YtnhlpifbadncmaaDoor
open Go.RowKit
set_option linter.unusedVariables false
set_option linter.unusedSimpArgs false
variable {G : World} {P : Program} {n : Nat} {ρ : Slots} {L : Blocks} {ty : TypeId} {Q : Exit → Act → World → Prop}
/-- A guard whose own operation was not wanted. -/
theorem TL_gundef {ops : Array Oper} {d j dj : Nat} {op : Op} {pos : String} {after : Array Edge} {rest : List Oper} {want : Bool}
    (hs : guardSlot ops j = some dj) (hv : ρ.lookup dj = some undef) (hd : Nat.blt d n = true) (hr : TL P G ops n ((d, undef) :: ρ) L rest Q) : TL P G ops n ρ L (⟨some d, op, ty, pos, after, some (j, want)⟩ :: rest) Q :=
  ⟨fun a w he hw => wpList_step fun K hK => by
    have h1 := he.get dj _ hv
    have h2 : Region.wanted (⟨some d, op, ty, pos, after, some (j, want)⟩ : Oper) (yielded ops a.tmps) = false := by
      unfold guardSlot at hs
      simp [Region.wanted, yielded, hs, h1, undef]
    rw [h2, if_neg (by simp)]
    exact hK _ _ (hr.out _ _ (he.put d (by simpa using hd) undef) hw)⟩
/-- An array's type: how many, of how many cells each. -/
def arrTy (P : Program) (t : TypeId) : Option (Nat × Nat) := match P.underlying t with
  | some (.array len e) => match P.info? e with
    | some i => some (len, i.size)
    | none => none
  | _ => none
theorem op_idxA {x y : Operand} {b off len sz : Nat} {k : IntKind} {i : Int} {t : TypeId} (h : arrTy P t = some (len, sz)) (hx : ev ρ x = some (.pointer (some ⟨b, off, none⟩))) (hy : ev ρ y = some (.int k i)) (h0 : 0 ≤ i) (h1 : i < len) :
    OpQ P ρ L (.indexAddr t x y) ty (.pointer (some ⟨b, off + i.toNat * sz, none⟩)) := by
  unfold arrTy at h
  cases hu : P.underlying t with
  | none => simp [hu] at h
  | some d =>
    cases d <;> simp [hu] at h
    rename_i l e
    cases hi : P.info? e with
    | none => simp [hi] at h
    | some ti =>
      simp [hi] at h
      obtain ⟨rfl, rfl⟩ := h
      exact ⟨fun r hr w hw o ho _ => by simp [execOp, ho, hr _ _ hx, hr _ _ hy, Instr.indexAt, asIntOf, run_underlying hu, Instr.sureAddr, h0, h1, sizeOf, typeInfo, hi, addr_add]⟩
end Go.Proofs.YtnhlpifbadncmaaDoor
namespace Go.Proofs.YtnhlpifbadncmaaDoor
open Go.RowKit
set_option linter.unusedVariables false
set_option linter.unusedSimpArgs false
section
variable {G : World} {P : Program} {n : Nat} {ρ : Slots} {L : Blocks} {ty : TypeId} {Q : Exit → Act → World → Prop}
/-- A struct's type: how many cells. -/
def structTy (P : Program) (t : TypeId) (k : Nat) : Bool := (match P.underlying t with | some (.struct _) => true | _ => false) && (match P.info? t with | some i => i.size == k | none => false)
theorem op_ldA {x : Operand} {b off : Nat} {t : TypeId} {C : Array Value} {te : TypeId} {fr : Nat × Nat} (cs : List Value) (hx : ev ρ x = some (.pointer (some ⟨b, off, none⟩)))
    (ht : structTy P t cs.length = true) (hm : (b, Obj.cells C te fr) ∈ L) (hv : ∀ j v, cs[j]? = some v → C[off + j]? = some v) : OpQ P ρ L (.load t x) ty (.agg cs.toArray) :=
  ⟨fun r hr w hw o ho _ => by
    unfold structTy at ht
    cases hu : P.underlying t with
    | none => simp [hu] at ht
    | some d =>
      cases hi : P.info? t with
      | none => simp [hi] at ht
      | some i =>
        cases d with
        | struct fs =>
          simp [hu, hi] at ht
          have ha : (isAgg t).run P w = .ok true w := by
            unfold isAgg
            simp [run_underlying hu]
          have hc := run_loadCells_list (P := P) (w := w) ⟨b, off, none⟩ cs (fun j v hj => by rw [addr_add]; exact hw.cell hm (hv j v hj))
          simp [execOp, ho, hr _ _ hx, Instr.loadAt, Instr.sureAddr, loadVar, ha, sizeOf, typeInfo, hi, ht, hc]
        | _ => simp [hu] at ht⟩
/-- All of a block. -/
theorem op_ldAll {x : Operand} {b k : Nat} {t : TypeId} {C : Array Value} {te : TypeId} {fr : Nat × Nat} (hx : ev ρ x = some (.pointer (some ⟨b, 0, none⟩)))
    (ht : structTy P t k = true) (hm : (b, Obj.cells C te fr) ∈ L) (hk : C.size = k) : OpQ P ρ L (.load t x) ty (.agg C) := by
  have := op_ldA (P := P) (ρ := ρ) (L := L) (ty := ty) (t := t) (te := te) (fr := fr) (C := C) C.toList hx (by rw [Array.length_toList, hk]; exact ht) hm (fun j v hj => by rw [Nat.zero_add]; simpa using hj)
  simpa using this
/-- A row's cells from one place on. -/
def putAt (C : Array Value) (o : Nat) (vs : List Value) : Array Value := (C.toList.take o ++ vs ++ C.toList.drop (o + vs.length)).toArray
theorem op_stA {x y : Operand} {b off : Nat} {t : TypeId} {C : Array Value} {te : TypeId} {cs : List Value} (hx : ev ρ x = some (.pointer (some ⟨b, off, none⟩))) (hy : ev ρ y = some (.agg cs.toArray))
    (ht : structTy P t cs.length = true) (hone : ∀ v ∈ cs, v.oneCell' = true) (hv : off + cs.length ≤ C.size) : OpV P G ρ ((b, Obj.cells C te (0, 0)) :: L) (.store t x y) ty undef ((b, Obj.cells (putAt C off cs) te (0, 0)) :: L) :=
  ⟨fun r hr w hw o ho _ => by
    unfold structTy at ht
    cases hi : P.info? t with
    | none => simp [hi] at ht
    | some i =>
      simp [hi] at ht
      have hb := hw.get _ (List.mem_cons_self ..)
      have hs := run_storeCells_at P b off te cs 0 C w hb (by simpa using hv) hone
      have hrun : (execOp r o).run P w = .ok .skip (w.setRow b (putAt C off cs)) := by
        simp only [execOp, ho, hr _ _ hx, hr _ _ hy]
        simp [Instr.storeAt, Instr.sureAddr, storeVar, sizeOf, typeInfo, hi, ht, Value.cells, hs, putAt]
      rw [hrun]
      exact ⟨_, ⟨rfl, rfl⟩, hw.update ⟨rfl, rfl, rfl, by simp [World.setRow]⟩ (setRow_heap w b C _ te _ hb) (fun j hj hne => by simp [World.setRow, Array.getElem?_modify, Ne.symm hne])⟩⟩
def allOne (C : Array Value) : Bool := C.toList.all (·.oneCell')
/-- All of the first block is written. -/
theorem TL_stAll {ops : Array Oper} {x y : Operand} {pos : String} {after : Array Edge} {rest : List Oper} {b k : Nat} {t : TypeId} {C D : Array Value} {te : TypeId} (hx : ev ρ x = some (.pointer (some ⟨b, 0, none⟩))) (hy : ev ρ y = some (.agg D))
    (ht : structTy P t k = true) (hC : C.size = k) (hD : D.size = k) (hone : allOne D = true) (h : TL P G ops n ρ ((b, Obj.cells D te (0, 0)) :: L) rest Q) : TL P G ops n ρ ((b, Obj.cells C te (0, 0)) :: L) (⟨none, .store t x y, ty, pos, after, none⟩ :: rest) Q := by
  have h1 := op_stA (G := G) (P := P) (ρ := ρ) (L := L) (ty := ty) (b := b) (C := C) (te := te) (t := t) (cs := D.toList) hx (by simpa using hy) (by rw [Array.length_toList, hD]; exact ht) (fun v hv => List.all_eq_true.1 hone v hv) (by rw [Array.length_toList, hD, hC]; omega)
  have h2 : putAt C 0 D.toList = D := by
    unfold putAt
    rw [List.drop_eq_nil_of_le (by simp; omega)]
    simp
  rw [h2] at h1
  exact TL_opN h1 h
/-- A literal of elements, each of so many cells. -/
theorem fill_row {sz : Nat} : ∀ (vs : List Value) (k : Nat) (pre rest : List Value), (∀ v ∈ vs, v.cells.size = sz) → pre.length = k * sz → rest.length = vs.length * sz →
    Instr.fill (fun i => some (i * sz, sz)) (pre ++ rest).toArray ((vs.zipIdx k).map fun p => (p.2, p.1)) = some (pre ++ vs.flatMap (·.cells.toList)).toArray
  | [], k, pre, rest, _, _, hr => by
    have : rest = [] := List.eq_nil_of_length_eq_zero (by simpa using hr)
    simp [Instr.fill, this]
  | v :: vs, k, pre, rest, hv, hp, hr => by
    have h1 := hv v (List.mem_cons_self ..)
    simp only [List.zipIdx_cons, List.map_cons, Instr.fill]
    have hlen : (v :: vs).length * sz = vs.length * sz + sz := by rw [List.length_cons, Nat.succ_mul]
    rw [if_neg (by simp [h1]; omega)]
    have key : ∀ (cs : List Value) (m : Nat) (pre rest : List Value), pre.length = k * sz + m → cs.length ≤ rest.length →
        (cs.zipIdx m).foldl (fun (a : Array Value) (p : Value × Nat) => a.setIfInBounds (k * sz + p.2) p.1) (pre ++ rest).toArray = (pre ++ cs ++ rest.drop cs.length).toArray := by
      intro cs
      induction cs with
      | nil => intro m pre rest _ _; simp
      | cons c cs ih =>
        intro m pre rest hp hl
        match rest, hl with
        | r :: rest, hl =>
          simp only [List.zipIdx_cons, List.foldl_cons]
          have e : (pre ++ r :: rest).toArray.setIfInBounds (k * sz + m) c = ((pre ++ [c]) ++ rest).toArray := by
            apply Array.ext'
            rw [Array.toList_setIfInBounds, ← hp]
            simp
          rw [e, ih (m + 1) (pre ++ [c]) rest (by simp; omega) (by simpa using hl)]
          simp
    have e1 : v.cells.zipIdx.foldl (fun cs (x : Value × Nat) => cs.setIfInBounds (k * sz + x.2) x.1) (pre ++ rest).toArray = (pre ++ v.cells.toList ++ rest.drop sz).toArray := by
      have := key v.cells.toList 0 pre rest (by simpa using hp) (by simp [h1]; omega)
      rw [← Array.foldl_toList, Array.toList_zipIdx]
      rw [this]
      simp [h1]
    show Instr.fill _ (v.cells.zipIdx.foldl (fun cs (x : Value × Nat) => cs.setIfInBounds (k * sz + x.2) x.1) (pre ++ rest).toArray) _ = _
    rw [e1]
    have := fill_row vs (k + 1) (pre ++ v.cells.toList) (rest.drop sz) (fun u hu => hv u (List.mem_cons_of_mem _ hu)) (by simp [h1, hp, Nat.succ_mul]) (by simp; omega)
    rw [this]
    simp
theorem rowLitG {t e : TypeId} {z : Value} {sz bytes len : Nat} {C : Array Value} (E : ElemTy P t e sz bytes z) (vs : List Value) (hn : vs.length = len) (hv : ∀ v ∈ vs, v.cells.size = sz) (hlim : len * sz ≤ 16777216) (hC : (vs.flatMap (·.cells.toList)).toArray = C) :
    RowLit P t len (vs.zipIdx.map fun p => (p.2, p.1)) e C :=
  ⟨fun w => by
    obtain ⟨i, q2, q3, q4, q5⟩ := E.info
    subst hn hC
    have hf := fill_row vs 0 [] (((List.range (vs.length * sz)).map fun j => z.cells[j % z.cells.size]!)) hv (by simp) (by simp)
    simp only [List.nil_append] at hf
    by_cases h0 : vs.length * sz = 0
    · have hvs : vs = [] := by
        rcases Nat.mul_eq_zero.1 h0 with h | h
        · exact List.eq_nil_of_length_eq_zero h
        · have := E.pos; omega
      subst hvs
      simp [Instr.buildSlice, run_underlying E.und, sizeOf, typeInfo, q2, newRow, Instr.fill, Array.range_zero']
    · have hf' : Instr.fill (fun i => some (i * sz, sz)) ((Array.range (vs.length * sz)).map fun j => z.cells[j % z.cells.size]!) (vs.zipIdx.map fun p => (p.2, p.1)) = some (vs.flatMap (·.cells.toList)).toArray := by
        rw [← hf]
        congr 1
        apply Array.ext'
        simp
      have hl2 : ¬ (16777216 < vs.length * sz) := by omega
      simp [Instr.buildSlice, run_underlying E.und, sizeOf, typeInfo, q2, q4, hl2, h0, zeroValue, q3, hf', newRow]⟩
end
end Go.Proofs.YtnhlpifbadncmaaDoor
namespace Go.Proofs.YtnhlpifbadncmaaDoor
open Go.RowKit
theorem follows_mixed : Tryd.prog.follows .mixedOrders = true := by kernel_rfl
theorem pl_3 : plainTy Tryd.prog 3 = true := by kernel_rfl
theorem one_3 : oneTy Tryd.prog 3 = true := by kernel_rfl
theorem pl_5 : plainTy Tryd.prog 5 = true := by kernel_rfl
theorem one_5 : oneTy Tryd.prog 5 = true := by kernel_rfl
theorem pl_9 : plainTy Tryd.prog 9 = true := by kernel_rfl
theorem pl_23 : plainTy Tryd.prog 23 = true := by kernel_rfl
theorem one_23 : oneTy Tryd.prog 23 = true := by kernel_rfl
theorem info_23 : (Tryd.prog.info? 38).map (fun i => (i.zero, i.size, i.bytes)) = some (some (.agg #[(.string (bs [])), (.int .u8 0), (.int .u16 0)]), 3, 24) := by kernel_rfl
theorem ety_23 : ElemTy Tryd.prog 23 38 3 24 (.agg #[(.string (bs [])), (.int .u8 0), (.int .u16 0)]) := by
  obtain ⟨i, h1, h2, h3, h4⟩ := info_parts info_23
  exact ⟨Tryd.underlying23, ⟨i, h1, h2, h3, h4⟩, rfl, by decide⟩
theorem zero_25 : zeroOf Tryd.prog 25 = some (.agg #[(.int .i64 0), (.int .i64 0), (.int .i64 0), (.int .i64 0), (.int .i64 0), (.int .i64 0), (.int .i64 0), (.int .i64 0), (.int .i64 0), (.int .i64 0), (.int .i64 0), (.int .i64 0), (.slice none 0 0)]) := by kernel_rfl
theorem st_25 : structTy Tryd.prog 25 13 = true := by kernel_rfl
theorem fld_25_0 : fieldOff Tryd.prog 25 0 = some 0 := by kernel_rfl
theorem fld_25_1 : fieldOff Tryd.prog 25 1 = some 1 := by kernel_rfl
theorem fld_25_2 : fieldOff Tryd.prog 25 2 = some 2 := by kernel_rfl
theorem fld_25_3 : fieldOff Tryd.prog 25 3 = some 3 := by kernel_rfl
theorem fld_25_4 : fieldOff Tryd.prog 25 4 = some 4 := by kernel_rfl
theorem fld_25_5 : fieldOff Tryd.prog 25 5 = some 5 := by kernel_rfl
theorem fld_25_6 : fieldOff Tryd.prog 25 6 = some 6 := by kernel_rfl
theorem fld_25_7 : fieldOff Tryd.prog 25 7 = some 7 := by kernel_rfl
theorem fld_25_8 : fieldOff Tryd.prog 25 8 = some 8 := by kernel_rfl
theorem fld_25_9 : fieldOff Tryd.prog 25 9 = some 9 := by kernel_rfl
theorem fld_25_10 : fieldOff Tryd.prog 25 10 = some 10 := by kernel_rfl
theorem fld_25_11 : fieldOff Tryd.prog 25 11 = some 11 := by kernel_rfl
theorem fld_25_12 : fieldOff Tryd.prog 25 12 = some 12 := by kernel_rfl
theorem zero_38 : zeroOf Tryd.prog 38 = some (.agg #[(.string (bs [])), (.int .u8 0), (.int .u16 0)]) := by kernel_rfl
theorem st_38 : structTy Tryd.prog 38 3 = true := by kernel_rfl
theorem fld_38_0 : fieldOff Tryd.prog 38 0 = some 0 := by kernel_rfl
theorem fld_38_1 : fieldOff Tryd.prog 38 1 = some 1 := by kernel_rfl
theorem fld_38_2 : fieldOff Tryd.prog 38 2 = some 2 := by kernel_rfl
theorem pl_47 : plainTy Tryd.prog 47 = true := by kernel_rfl
theorem one_47 : oneTy Tryd.prog 47 = true := by kernel_rfl
theorem pl_48 : plainTy Tryd.prog 48 = true := by kernel_rfl
theorem one_48 : oneTy Tryd.prog 48 = true := by kernel_rfl
theorem info_48 : (Tryd.prog.info? 5).map (fun i => (i.zero, i.size, i.bytes)) = some (some (.int .u8 0), 1, 1) := by kernel_rfl
theorem ety_48 : ElemTy Tryd.prog 48 5 1 1 (.int .u8 0) := by
  obtain ⟨i, h1, h2, h3, h4⟩ := info_parts info_48
  exact ⟨Tryd.underlying48, ⟨i, h1, h2, h3, h4⟩, rfl, by decide⟩
theorem zero_50 : zeroOf Tryd.prog 50 = some (.agg #[(.pointer none), (.slice none 0 0)]) := by kernel_rfl
theorem fld_50_0 : fieldOff Tryd.prog 50 0 = some 0 := by kernel_rfl
theorem fld_50_1 : fieldOff Tryd.prog 50 1 = some 1 := by kernel_rfl
theorem zero_51 : zeroOf Tryd.prog 51 = some (.agg #[(.int .i64 0), (.int .i64 0), (.int .i64 0), (.int .i64 0), (.int .i64 0), (.int .i64 0), (.int .i64 0), (.int .i64 0), (.int .i64 0), (.int .i64 0), (.int .i64 0), (.int .i64 0)]) := by kernel_rfl
theorem arr_51 : arrTy Tryd.prog 51 = some (12, 1) := by kernel_rfl
theorem arr_57 : arrTy Tryd.prog 57 = some (12, 1) := by kernel_rfl
theorem info_68 : (Tryd.prog.info? 3).map (fun i => (i.zero, i.size, i.bytes)) = some (some (.int .i64 0), 1, 8) := by kernel_rfl
theorem ety_68 : ElemTy Tryd.prog 68 3 1 8 (.int .i64 0) := by
  obtain ⟨i, h1, h2, h3, h4⟩ := info_parts info_68
  exact ⟨Tryd.underlying68, ⟨i, h1, h2, h3, h4⟩, rfl, by decide⟩
theorem pl_70 : plainTy Tryd.prog 70 = true := by kernel_rfl
theorem one_70 : oneTy Tryd.prog 70 = true := by kernel_rfl
theorem info_70 : (Tryd.prog.info? 9).map (fun i => (i.zero, i.size, i.bytes)) = some (some (.string (bs [])), 1, 16) := by kernel_rfl
theorem ety_70 : ElemTy Tryd.prog 70 9 1 16 (.string (bs [])) := by
  obtain ⟨i, h1, h2, h3, h4⟩ := info_parts info_70
  exact ⟨Tryd.underlying70, ⟨i, h1, h2, h3, h4⟩, rfl, by decide⟩
theorem zero_82 : zeroOf Tryd.prog 82 = some (.agg #[(.string (bs [])), (.int .i64 0)]) := by kernel_rfl
theorem st_82 : structTy Tryd.prog 82 2 = true := by kernel_rfl
theorem fld_82_0 : fieldOff Tryd.prog 82 0 = some 0 := by kernel_rfl
theorem fld_82_1 : fieldOff Tryd.prog 82 1 = some 1 := by kernel_rfl
theorem zero_85 : zeroOf Tryd.prog 85 = some (.agg #[(.string (bs [])), (.int .u8 0), (.int .u16 0)]) := by kernel_rfl
theorem st_85 : structTy Tryd.prog 85 3 = true := by kernel_rfl
theorem zero_108 : zeroOf Tryd.prog 108 = some (.agg #[(.slice none 0 0), (.slice none 0 0), (.int .i64 0), (.int .i64 0)]) := by kernel_rfl
theorem fld_108_0 : fieldOff Tryd.prog 108 0 = some 0 := by kernel_rfl
theorem fld_108_1 : fieldOff Tryd.prog 108 1 = some 1 := by kernel_rfl
theorem fld_108_2 : fieldOff Tryd.prog 108 2 = some 2 := by kernel_rfl
theorem fld_108_3 : fieldOff Tryd.prog 108 3 = some 3 := by kernel_rfl
theorem bl_25_  : Built Tryd.prog 25 [] (.agg #[(.int .i64 0), (.int .i64 0), (.int .i64 0), (.int .i64 0), (.int .i64 0), (.int .i64 0), (.int .i64 0), (.int .i64 0), (.int .i64 0), (.int .i64 0), (.int .i64 0), (.int .i64 0), (.slice none 0 0)]) := ⟨fun w => by kernel_rfl⟩
theorem bl_25_0_1_2_3_4_5_6_7_8_9_10_11 (x0 : Int) (x1 : Int) (x2 : Int) (x3 : Int) (x4 : Int) (x5 : Int) (x6 : Int) (x7 : Int) (x8 : Int) (x9 : Int) (x10 : Int) (x11 : Int) : Built Tryd.prog 25 [(0, .int .i64 x0), (1, .int .i64 x1), (2, .int .i64 x2), (3, .int .i64 x3), (4, .int .i64 x4), (5, .int .i64 x5), (6, .int .i64 x6), (7, .int .i64 x7), (8, .int .i64 x8), (9, .int .i64 x9), (10, .int .i64 x10), (11, .int .i64 x11)] (.agg #[.int .i64 x0, .int .i64 x1, .int .i64 x2, .int .i64 x3, .int .i64 x4, .int .i64 x5, .int .i64 x6, .int .i64 x7, .int .i64 x8, .int .i64 x9, .int .i64 x10, .int .i64 x11, (.slice none 0 0)]) := ⟨fun w => by kernel_rfl⟩
theorem bl_25_0_1_2_3_4_5_6_7_8_9_10_11_12 (x0 : Int) (x1 : Int) (x2 : Int) (x3 : Int) (x4 : Int) (x5 : Int) (x6 : Int) (x7 : Int) (x8 : Int) (x9 : Int) (x10 : Int) (x11 : Int) (x12 : Option Addr) (m12 c12 : Nat) : Built Tryd.prog 25 [(0, .int .i64 x0), (1, .int .i64 x1), (2, .int .i64 x2), (3, .int .i64 x3), (4, .int .i64 x4), (5, .int .i64 x5), (6, .int .i64 x6), (7, .int .i64 x7), (8, .int .i64 x8), (9, .int .i64 x9), (10, .int .i64 x10), (11, .int .i64 x11), (12, .slice x12 m12 c12)] (.agg #[.int .i64 x0, .int .i64 x1, .int .i64 x2, .int .i64 x3, .int .i64 x4, .int .i64 x5, .int .i64 x6, .int .i64 x7, .int .i64 x8, .int .i64 x9, .int .i64 x10, .int .i64 x11, .slice x12 m12 c12]) := ⟨fun w => by kernel_rfl⟩
theorem bl_38_  : Built Tryd.prog 38 [] (.agg #[(.string (bs [])), (.int .u8 0), (.int .u16 0)]) := ⟨fun w => by kernel_rfl⟩
theorem bl_38_0 (x0 : ByteArray) : Built Tryd.prog 38 [(0, .string x0)] (.agg #[.string x0, (.int .u8 0), (.int .u16 0)]) := ⟨fun w => by kernel_rfl⟩
theorem bl_38_1 (x0 : Int) : Built Tryd.prog 38 [(1, .int .u8 x0)] (.agg #[(.string (bs [])), .int .u8 x0, (.int .u16 0)]) := ⟨fun w => by kernel_rfl⟩
theorem bl_82_0_1 (x0 : ByteArray) (x1 : Int) : Built Tryd.prog 82 [(0, .string x0), (1, .int .i64 x1)] (.agg #[.string x0, .int .i64 x1]) := ⟨fun w => by kernel_rfl⟩
theorem bl_85_0 (x0 x1 x2 : Value) : Built Tryd.prog 85 [(0, .agg #[x0, x1, x2])] (.agg #[x0, x1, x2]) := ⟨fun w => by kernel_rfl⟩
theorem hb_10 : hasBody Tryd.prog 10 = true := by kernel_rfl
theorem hb_11 : hasBody Tryd.prog 11 = true := by kernel_rfl
theorem hb_12 : hasBody Tryd.prog 12 = true := by kernel_rfl
theorem hb_13 : hasBody Tryd.prog 13 = true := by kernel_rfl
theorem hb_16 : hasBody Tryd.prog 16 = true := by kernel_rfl
theorem hb_17 : hasBody Tryd.prog 17 = true := by kernel_rfl
theorem hb_18 : hasBody Tryd.prog 18 = true := by kernel_rfl
theorem hb_19 : hasBody Tryd.prog 19 = true := by kernel_rfl
theorem hb_20 : hasBody Tryd.prog 20 = true := by kernel_rfl
theorem hb_21 : hasBody Tryd.prog 21 = true := by kernel_rfl
theorem hb_22 : hasBody Tryd.prog 22 = true := by kernel_rfl
theorem hb_23 : hasBody Tryd.prog 23 = true := by kernel_rfl
theorem hb_25 : hasBody Tryd.prog 25 = true := by kernel_rfl
theorem hb_26 : hasBody Tryd.prog 26 = true := by kernel_rfl
theorem hb_27 : hasBody Tryd.prog 27 = true := by kernel_rfl
theorem hb_28 : hasBody Tryd.prog 28 = true := by kernel_rfl
theorem hb_30 : hasBody Tryd.prog 30 = true := by kernel_rfl
theorem hb_32 : hasBody Tryd.prog 32 = true := by kernel_rfl
theorem hb_33 : hasBody Tryd.prog 33 = true := by kernel_rfl
theorem hb_34 : hasBody Tryd.prog 34 = true := by kernel_rfl
theorem hb_36 : hasBody Tryd.prog 36 = true := by kernel_rfl
theorem hb_37 : hasBody Tryd.prog 37 = true := by kernel_rfl
theorem hb_38 : hasBody Tryd.prog 38 = true := by kernel_rfl
theorem hb_39 : hasBody Tryd.prog 39 = true := by kernel_rfl
theorem hb_40 : hasBody Tryd.prog 40 = true := by kernel_rfl
theorem hb_41 : hasBody Tryd.prog 41 = true := by kernel_rfl
theorem hb_42 : hasBody Tryd.prog 42 = true := by kernel_rfl
theorem hb_43 : hasBody Tryd.prog 43 = true := by kernel_rfl
theorem hb_44 : hasBody Tryd.prog 44 = true := by kernel_rfl
theorem hb_45 : hasBody Tryd.prog 45 = true := by kernel_rfl
theorem hb_46 : hasBody Tryd.prog 46 = true := by kernel_rfl
theorem hb_48 : hasBody Tryd.prog 48 = true := by kernel_rfl
theorem hb_49 : hasBody Tryd.prog 49 = true := by kernel_rfl
theorem hb_50 : hasBody Tryd.prog 50 = true := by kernel_rfl
theorem hb_51 : hasBody Tryd.prog 51 = true := by kernel_rfl
theorem hb_52 : hasBody Tryd.prog 52 = true := by kernel_rfl
theorem hb_53 : hasBody Tryd.prog 53 = true := by kernel_rfl
theorem hb_55 : hasBody Tryd.prog 55 = true := by kernel_rfl
theorem hb_56 : hasBody Tryd.prog 56 = true := by kernel_rfl
theorem hb_57 : hasBody Tryd.prog 57 = true := by kernel_rfl
theorem hb_58 : hasBody Tryd.prog 58 = true := by kernel_rfl
theorem hb_60 : hasBody Tryd.prog 60 = true := by kernel_rfl
theorem hb_61 : hasBody Tryd.prog 61 = true := by kernel_rfl
theorem hb_64 : hasBody Tryd.prog 64 = true := by kernel_rfl
theorem hb_65 : hasBody Tryd.prog 65 = true := by kernel_rfl
theorem hb_66 : hasBody Tryd.prog 66 = true := by kernel_rfl
theorem hb_70 : hasBody Tryd.prog 70 = true := by kernel_rfl
theorem hb_71 : hasBody Tryd.prog 71 = true := by kernel_rfl
theorem hb_74 : hasBody Tryd.prog 74 = true := by kernel_rfl
theorem hb_75 : hasBody Tryd.prog 75 = true := by kernel_rfl
theorem hb_76 : hasBody Tryd.prog 76 = true := by kernel_rfl
theorem hb_81 : hasBody Tryd.prog 81 = true := by kernel_rfl
theorem hb_89 : hasBody Tryd.prog 89 = true := by kernel_rfl
end Go.Proofs.YtnhlpifbadncmaaDoor
namespace Go.Proofs.YtnhlpifbadncmaaDoor.Nm

abbrev Bytes := List UInt8

/-- The labels of bytes, with fuel. -/
def scan : Nat → Bytes → Option (List Bytes)
  | 0, _ => none
  | _ + 1, [] => none
  | f + 1, c :: t =>
    if c = 0 then (if t = [] then some [] else none)
    else if 63 < c.toNat then none
    else if t.length < c.toNat then none
    else (scan f (t.drop c.toNat)).map (t.take c.toNat :: ·)

theorem scan_same : ∀ (f g : Nat) (l : Bytes), l.length ≤ f → l.length ≤ g → scan f l = scan g l
  | 0, 0, _, _, _ => rfl
  | 0, g + 1, l, h, _ => by
    cases l with
    | nil => rfl
    | cons c t => simp at h
  | f + 1, 0, l, _, h => by
    cases l with
    | nil => rfl
    | cons c t => simp at h
  | f + 1, g + 1, [], _, _ => rfl
  | f + 1, g + 1, c :: t, h1, h2 => by
    have e1 : (t.drop c.toNat).length ≤ f := by simp at h1 ⊢; omega
    have e2 : (t.drop c.toNat).length ≤ g := by simp at h2 ⊢; omega
    simp only [scan]
    rw [scan_same f g _ e1 e2]
theorem scan_fuel (f : Nat) (l : Bytes) (h : l.length ≤ f) : scan f l = scan l.length l := scan_same f _ l h (Nat.le_refl _)

/-- The labels of bytes. -/
def lbl (l : Bytes) : Option (List Bytes) := scan l.length l

theorem lbl_nil : lbl [] = none := rfl
theorem lbl_cons (c : UInt8) (t : Bytes) : lbl (c :: t) =
    if c = 0 then (if t = [] then some [] else none)
    else if 63 < c.toNat then none
    else if t.length < c.toNat then none
    else (lbl (t.drop c.toNat)).map (t.take c.toNat :: ·) := by
  unfold lbl
  simp only [scan, List.length_cons]
  rw [scan_fuel t.length (t.drop c.toNat) (by simp)]

/-- The labels of a name. -/
def nm (l : Bytes) : Option (List Bytes) := if l.length ≤ 255 then lbl l else none
/-- Is it a name? -/
def may (l : Bytes) : Bool := (nm l).isSome

def lowB (c : UInt8) : UInt8 := if 65 ≤ c ∧ c ≤ 90 then c + 32 else c
def low (l : Bytes) : Bytes := l.map lowB

/-- The bytes of labels. -/
def enc : List Bytes → Bytes
  | [] => [0]
  | l :: ls => UInt8.ofNat l.length :: (l ++ enc ls)

/-- Labels that may be. -/
def Ok (ls : List Bytes) : Prop := ∀ l ∈ ls, 1 ≤ l.length ∧ l.length ≤ 63

theorem ok_nil : Ok [] := by intro l h; cases h
theorem ok_cons {l : Bytes} {ls : List Bytes} : Ok (l :: ls) ↔ (1 ≤ l.length ∧ l.length ≤ 63) ∧ Ok ls := by
  unfold Ok; simp

theorem enc_length (ls : List Bytes) : (enc ls).length = (ls.map fun l => l.length + 1).sum + 1 := by
  induction ls with
  | nil => rfl
  | cons l ls ih => simp [enc, ih]; omega

theorem length_lt_enc (ls : List Bytes) : ls.length < (enc ls).length := by
  induction ls with
  | nil => simp [enc]
  | cons l ls ih => simp [enc]; omega

theorem lbl_enc : ∀ ls : List Bytes, Ok ls → lbl (enc ls) = some ls
  | [], _ => by simp [enc, lbl_cons]
  | l :: ls, h => by
    obtain ⟨⟨h1, h2⟩, h3⟩ := ok_cons.1 h
    have e : (UInt8.ofNat l.length).toNat = l.length := by simp; omega
    have n0 : ¬ UInt8.ofNat l.length = 0 := by
      intro k
      have := congrArg UInt8.toNat k
      rw [e] at this
      simp at this
      subst this
      simp at h1
    simp only [enc]
    rw [lbl_cons, if_neg n0, e, if_neg (by omega), if_neg (by simp)]
    simp [lbl_enc ls h3]

theorem lbl_some : ∀ (n : Nat) (l : Bytes) (ls : List Bytes), l.length ≤ n → lbl l = some ls → l = enc ls ∧ Ok ls
  | _, [], _, _, h => by simp [lbl_nil] at h
  | 0, _ :: _, _, h, _ => by simp at h
  | n + 1, c :: t, ls, hl, h => by
    rw [lbl_cons] at h
    split at h
    · rename_i hc
      split at h
      · rename_i ht
        cases h
        subst hc ht
        exact ⟨rfl, ok_nil⟩
      · cases h
    · rename_i hc
      split at h
      · cases h
      · rename_i h63
        split at h
        · cases h
        · rename_i hlen
          have hd : (t.drop c.toNat).length ≤ n := by simp at hl ⊢; omega
          cases hr : lbl (t.drop c.toNat) with
          | none => simp [hr] at h
          | some ls' =>
            simp [hr] at h
            subst h
            obtain ⟨h1, h2⟩ := lbl_some n _ _ hd hr
            have hc1 : 1 ≤ c.toNat := by
              rcases Nat.eq_zero_or_pos c.toNat with h0 | h0
              · exact absurd (UInt8.toNat_inj.1 (by simpa using h0)) hc
              · exact h0
            have ht : (t.take c.toNat).length = c.toNat := by simp; omega
            refine ⟨?_, ok_cons.2 ⟨by omega, h2⟩⟩
            simp only [enc, ht, ← h1, List.take_append_drop]
            congr 1
            exact UInt8.toNat_inj.1 (by simp)

theorem lbl_iff {l : Bytes} {ls : List Bytes} : lbl l = some ls ↔ l = enc ls ∧ Ok ls :=
  ⟨fun h => lbl_some l.length l ls (Nat.le_refl _) h, fun h => by rw [h.1]; exact lbl_enc ls h.2⟩

theorem nm_iff {l : Bytes} {ls : List Bytes} : nm l = some ls ↔ l = enc ls ∧ Ok ls ∧ l.length ≤ 255 := by
  unfold nm
  split
  · rename_i h; rw [lbl_iff]; simp [h]
  · rename_i h; simp [h]

theorem enc_inj {a b : List Bytes} (ha : Ok a) (hb : Ok b) (h : enc a = enc b) : a = b := by
  have h1 := lbl_enc a ha
  rw [h, lbl_enc b hb] at h1
  exact (Option.some.inj h1).symm

/-! ### folding -/
theorem low_length (l : Bytes) : (low l).length = l.length := by simp [low]
theorem low_append (a b : Bytes) : low (a ++ b) = low a ++ low b := by simp [low]
theorem lowB_small (c : UInt8) (h : c.toNat < 65) : lowB c = c := by
  unfold lowB
  rw [if_neg]
  rintro ⟨h1, _⟩
  have := UInt8.le_iff_toNat_le.1 h1
  simp at this
  omega
def lowL (ls : List Bytes) : List Bytes := ls.map low
theorem lowL_ok {ls : List Bytes} (h : Ok ls) : Ok (lowL ls) := by
  intro l hl
  obtain ⟨x, hx, rfl⟩ := List.mem_map.1 hl
  rw [low_length]
  exact h x hx
theorem low_enc : ∀ ls : List Bytes, Ok ls → low (enc ls) = enc (lowL ls)
  | [], _ => by simp [enc, low, lowL, lowB_small]
  | l :: ls, h => by
    obtain ⟨⟨h1, h2⟩, h3⟩ := ok_cons.1 h
    have ih := low_enc ls h3
    have e : (UInt8.ofNat l.length).toNat = l.length := by simp; omega
    have e1 : lowB (UInt8.ofNat l.length) = UInt8.ofNat l.length := lowB_small _ (by rw [e]; omega)
    have : low (enc (l :: ls)) = lowB (UInt8.ofNat l.length) :: (low l ++ low (enc ls)) := by
      simp [enc, low]
    rw [this, e1, ih]
    simp [enc, lowL, low_length]
/-! ### the functions by their words -/
def fold (n : Bytes) : Bytes := if may n then low n else []
def labels (n : Bytes) : List Bytes := (nm n).getD []
def parentN (n : Bytes) : Bytes := match nm n with | some (_ :: ls) => enc ls | _ => []
def parentB (n : Bytes) : Bool := match nm n with | some (_ :: _) => true | _ => false
def same (a b : Bytes) : Bool := may a && may b && (low a == low b)
def within (n z : Bytes) : Bool :=
  match nm n, nm z with
  | some a, some b => (lowL b).isSuffixOf (lowL a)
  | _, _ => false

theorem may_some {n : Bytes} {ls : List Bytes} (h : nm n = some ls) : may n = true := by simp [may, h]
theorem may_none {n : Bytes} (h : nm n = none) : may n = false := by simp [may, h]
theorem nm_of_may {n : Bytes} (h : may n = true) : ∃ ls, nm n = some ls := Option.isSome_iff_exists.1 h
theorem nm_of_not {n : Bytes} (h : may n = false) : nm n = none := by simpa [may] using h

/-! ### within -/
theorem enc_append_length (a b : List Bytes) : (enc (a ++ b)).length = (a.map fun l => l.length + 1).sum + (enc b).length := by
  rw [enc_length, enc_length]; simp; omega
theorem enc_lowL_length (a : List Bytes) : (enc (lowL a)).length = (enc a).length := by
  rw [enc_length, enc_length]
  simp only [lowL, List.map_map]
  congr 2
  exact List.map_congr_left fun l _ => by simp [low]

/-- What the search for a boundary knows. -/
def Upto (a a2 : List Bytes) (zl : Nat) : Prop := (∃ a1, a = a1 ++ a2) ∧ ∀ x y, a = x ++ y → a2.length < y.length → zl < (enc y).length
theorem Upto.start (a : List Bytes) (zl : Nat) : Upto a a zl := by
  refine ⟨⟨[], rfl⟩, fun x y h hl => ?_⟩
  rw [h] at hl
  simp at hl
  omega
theorem Upto.fin {a a2 b : List Bytes} (ha : Ok a) (hb : Ok b) (h : Upto a a2 (enc b).length) (hle : (enc a2).length ≤ (enc b).length) :
    (lowL b).isSuffixOf (lowL a) = (low (enc a2) == low (enc b)) := by
  obtain ⟨⟨a1, h1⟩, h2⟩ := h
  have ha2 : Ok a2 := fun l hl => ha l (by rw [h1]; exact List.mem_append_right _ hl)
  rw [Bool.eq_iff_iff, List.isSuffixOf_iff_suffix, beq_iff_eq, low_enc _ ha2, low_enc _ hb]
  constructor
  · rintro ⟨x', hx⟩
    have hal : (lowL a).length = a.length := by simp [lowL]
    have hbl : (lowL b).length = b.length := by simp [lowL]
    have hn : x'.length + b.length = a.length := by
      have := congrArg List.length hx
      simp [hbl, hal] at this
      exact this
    have hy : lowL (a.drop x'.length) = lowL b := by
      have e : lowL a = lowL (a.take x'.length) ++ lowL (a.drop x'.length) := by
        simp only [lowL, ← List.map_append, List.take_append_drop]
      rw [e] at hx
      refine ((List.append_inj' hx ?_).2).symm
      simp [lowL]
      omega
    have hyl : (enc (a.drop x'.length)).length = (enc b).length := by
      rw [← enc_lowL_length, hy, enc_lowL_length]
    have hcases : (a.drop x'.length).length = a2.length := by
      rcases Nat.lt_trichotomy (a.drop x'.length).length a2.length with hlt | heq | hgt
      · exfalso
        have e : a1 ++ a2 = a.take x'.length ++ a.drop x'.length := by rw [← h1, List.take_append_drop]
        have hs : (a2.drop (a2.length - (a.drop x'.length).length)) = a.drop x'.length := by
          have e2 : a1 ++ a2.take (a2.length - (a.drop x'.length).length) ++ a2.drop (a2.length - (a.drop x'.length).length) = a.take x'.length ++ a.drop x'.length := by
            rw [List.append_assoc, List.take_append_drop]
            exact e
          exact (List.append_inj' e2 (by simp at hlt ⊢; omega)).2
        have e3 : (enc a2).length = ((a2.take (a2.length - (a.drop x'.length).length)).map fun l => l.length + 1).sum + (enc (a.drop x'.length)).length := by
          conv => lhs; rw [← List.take_append_drop (a2.length - (a.drop x'.length).length) a2]
          rw [enc_append_length, hs]
        have hpos : 0 < ((a2.take (a2.length - (a.drop x'.length).length)).map fun l => l.length + 1).sum := by
          cases hc : a2.take (a2.length - (a.drop x'.length).length) with
          | nil =>
            have := congrArg List.length hc
            simp at this hlt
            omega
          | cons u v => simp; omega
        omega
      · exact heq
      · exfalso
        have := h2 (a.take x'.length) (a.drop x'.length) (by rw [List.take_append_drop]) hgt
        omega
    have : a.drop x'.length = a2 := by
      have e : a1 ++ a2 = a.take x'.length ++ a.drop x'.length := by rw [← h1, List.take_append_drop]
      exact (List.append_inj' e hcases.symm).2.symm
    rw [← this, hy]
  · intro h
    have := enc_inj (lowL_ok ha2) (lowL_ok hb) h
    rw [h1, ← this]
    exact ⟨lowL a1, by simp [lowL]⟩

end Go.Proofs.YtnhlpifbadncmaaDoor.Nm
