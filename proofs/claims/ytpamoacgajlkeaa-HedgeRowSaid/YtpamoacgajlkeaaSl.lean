/-
  A SMALL SEPARATION LOGIC over the model: states as lists (slots known, blocks known), operations as steps. No program in sight.
-/
import Derived.WalkKit
import Derived.WalkSpells
import Derived.WalkLawsBesides
import Derived.Lib.Hide
import Derived.Lib.ConvBytes
import Derived.OrdersHeld
import Derived.Maps.AppendAt
import Derived.Below
namespace Go.Proofs.Ytpamoacgajlkeaa
open Go.RowKit
set_option linter.unusedVariables false

/-! ### memory -/
abbrev Blocks := List (Nat × Obj)
/-- What no call here changes. -/
structure Still (G w : World) : Prop where
  os : w.os = G.os
  tape : w.tape = G.tape
  output : w.output = G.output
  size : G.heap.size ≤ w.heap.size
theorem Still.refl (G : World) : Still G G := ⟨rfl, rfl, rfl, Nat.le_refl _⟩
theorem Still.trans {G w w' : World} (h : Still G w) (k : Still w w') : Still G w' := ⟨k.os.trans h.os, k.tape.trans h.tape, k.output.trans h.output, Nat.le_trans h.size k.size⟩
variable {G : World}
structure Heap (G w : World) (L : Blocks) : Prop where
  still : Still G w
  nodup : (L.map (·.1)).Nodup
  get : ∀ p, p ∈ L → w.heap[p.1]? = some p.2

theorem Heap.lt {w : World} {L : Blocks} (h : Heap G w L) {p : Nat × Obj} (hp : p ∈ L) : p.1 < w.heap.size :=
  (Array.getElem?_eq_some_iff.1 (h.get p hp)).1
theorem Heap.same {w w' : World} {L : Blocks} (h : Heap G w L) (s : Still w w') (e : w'.heap = w.heap) : Heap G w' L := ⟨h.still.trans s, h.nodup, fun p hp => by rw [e]; exact h.get p hp⟩
theorem Heap.drew {w : World} {L : Blocks} (h : Heap G w L) : Heap G w.drew L := h.same ⟨rfl, rfl, rfl, Nat.le_refl _⟩ rfl
theorem Heap.sub {w : World} {L L' : Blocks} (h : Heap G w L) (s : L'.Sublist L) : Heap G w L' :=
  ⟨h.still, h.nodup.sublist (s.map _), fun p hp => h.get p (s.subset hp)⟩
theorem Heap.perm {w : World} {L L' : Blocks} (h : Heap G w L) (s : L.Perm L') : Heap G w L' :=
  ⟨h.still, (s.map (·.1)).nodup_iff.1 h.nodup, fun p hp => h.get p (s.mem_iff.2 hp)⟩
theorem Heap.alloc {w : World} {L : Blocks} (h : Heap G w L) (o : Obj) : Heap G (w.alloc o) ((w.heap.size, o) :: L) := by
  refine ⟨h.still.trans ⟨rfl, rfl, rfl, by simp⟩, ?_, fun p hp => ?_⟩
  · rw [List.map_cons, List.nodup_cons]
    refine ⟨fun hm => ?_, h.nodup⟩
    obtain ⟨q, hq, e⟩ := List.mem_map.1 hm
    have := h.lt hq
    omega
  · rcases List.mem_cons.1 hp with rfl | hp
    · exact heap_alloc_new w o
    · have := h.lt hp
      rw [show (w.alloc o).heap[p.1]? = w.heap[p.1]? by show (w.heap.push o)[p.1]? = _; rw [Array.getElem?_push]; simp; omega]
      exact h.get p hp
theorem Heap.ne {w : World} {L : Blocks} {b : Nat} {o : Obj} (h : Heap G w ((b, o) :: L)) {p : Nat × Obj} (hp : p ∈ L) : p.1 ≠ b := by
  have := h.nodup
  rw [List.map_cons, List.nodup_cons] at this
  intro e
  exact this.1 (List.mem_map.2 ⟨p, hp, e⟩)
/-- One block is written, all others are as they were. -/
theorem Heap.update {w w' : World} {L : Blocks} {b : Nat} {o o' : Obj} (h : Heap G w ((b, o) :: L)) (s : Still w w') (hb : w'.heap[b]? = some o') (ho : ∀ j, j < w.heap.size → j ≠ b → w'.heap[j]? = w.heap[j]?) : Heap G w' ((b, o') :: L) := by
  refine ⟨h.still.trans s, h.nodup, fun p hp => ?_⟩
  rcases List.mem_cons.1 hp with rfl | hp
  · exact hb
  · rw [ho _ (h.lt (List.mem_cons_of_mem _ hp)) (h.ne hp)]
    exact h.get p (List.mem_cons_of_mem _ hp)
theorem Heap.new {w w' : World} {L : Blocks} {o' : Obj} (h : Heap G w L) (s : Still w w') (hb : w'.heap[w.heap.size]? = some o') (ho : ∀ j, j < w.heap.size → w'.heap[j]? = w.heap[j]?) : Heap G w' ((w.heap.size, o') :: L) := by
  refine ⟨h.still.trans s, (h.alloc o').nodup, fun p hp => ?_⟩
  rcases List.mem_cons.1 hp with rfl | hp
  · exact hb
  · rw [ho _ (h.lt hp)]
    exact h.get p hp
theorem Heap.tail {w : World} {L : Blocks} {p : Nat × Obj} (h : Heap G w (p :: L)) : Heap G w L := h.sub (List.sublist_cons_self _ _)
theorem Heap.cell {w : World} {L : Blocks} {b : Nat} {C : Array Value} {e : TypeId} {fr : Nat × Nat} (h : Heap G w L) (hm : (b, Obj.cells C e fr) ∈ L) {off : Nat} {v : Value} (hv : C[off]? = some v) :
    w.cell? ⟨b, off, none⟩ = some v := by
  unfold World.cell?
  rw [h.get _ hm]
  simpa using hv
/-- What is in memory from the first on: all blocks of a world. -/
def allBlocks (w : World) : Blocks := w.heap.toList.zipIdx.map fun p => (p.2, p.1)
theorem Heap.all (w : World) : Heap w w (allBlocks w) := by
  refine ⟨Still.refl _, ?_, fun p hp => ?_⟩
  · unfold allBlocks
    rw [List.map_map, show ((fun x : Nat × Obj => x.1) ∘ fun p : Obj × Nat => (p.2, p.1)) = Prod.snd from rfl]
    rw [List.zipIdx_map_snd]
    exact List.nodup_range'
  · obtain ⟨q, hq, rfl⟩ := List.mem_map.1 hp
    have := List.mem_zipIdx_iff_getElem?.1 hq
    simpa using this
theorem mem_all {w : World} {b : Nat} {o : Obj} (h : w.heap[b]? = some o) : (b, o) ∈ allBlocks w := by
  refine List.mem_map.2 ⟨(o, b), ?_, rfl⟩
  rw [List.mem_zipIdx_iff_getElem?]
  simpa using h

/-! ### slots -/
abbrev Slots := List (Nat × Value)
structure Env (n : Nat) (ρ : Slots) (a : Act) : Prop where
  size : a.tmps.size = n
  defers : a.defers = []
  get : ∀ t v, ρ.lookup t = some v → a.tmps[t]? = some v
def ev (ρ : Slots) : Operand → Option Value
  | .tmp t => ρ.lookup t
  | .const v => some v
  | .global g => some (.pointer (some ⟨g, 0, none⟩))
  | .func f => some (.func (.func f) #[] #[])
/-- What operands read as. -/
def Reads (ρ : Slots) (r : Operand → Value) : Prop := ∀ x v, ev ρ x = some v → r x = v
theorem Env.reads {n : Nat} {ρ : Slots} {a : Act} (h : Env n ρ a) : Reads ρ a.eval := by
  intro x v hx
  cases x with
  | tmp t =>
    show a.tmps.getD t undef = v
    rw [Array.getD_eq_getD_getElem?, h.get t v hx]
    rfl
  | const c => exact Option.some.inj hx
  | global g => exact Option.some.inj hx
  | func f => exact Option.some.inj hx
theorem Env.put {n : Nat} {ρ : Slots} {a : Act} (h : Env n ρ a) (d : Nat) (hd : d < n) (v : Value) : Env n ((d, v) :: ρ) (a.put (some d) v) := by
  refine ⟨by show (a.tmps.setIfInBounds d v).size = n; simp [h.size], h.defers, fun t u hu => ?_⟩
  show (a.tmps.setIfInBounds d v)[t]? = some u
  rw [List.lookup_cons] at hu
  by_cases e : t = d
  · subst e
    simp at hu
    rw [Array.getElem?_setIfInBounds_self_of_lt (by rw [h.size]; exact hd), hu]
  · have e' : (t == d) = false := by simpa using e
    rw [e'] at hu
    rw [Array.getElem?_setIfInBounds_ne (Ne.symm e)]
    exact h.get t u hu
theorem Env.weak {n : Nat} {ρ ρ' : Slots} {a : Act} (h : Env n ρ a) (hs : ∀ t v, ρ'.lookup t = some v → ρ.lookup t = some v) : Env n ρ' a :=
  ⟨h.size, h.defers, fun t v hv => h.get t v (hs t v hv)⟩

/-! ### one operation -/
/-- What a run comes to: a value, in a world. -/
def Outcome (P : Program) (K : Value → World → Prop) : Result Next → Prop
  | .ok (.value v) w => K v w
  | .ok .skip w => K undef w
  | .ok (.enter f args) w => Calls P f args w fun e w' => ∃ v, e = .returned v ∧ K v w'
  | _ => False
structure OpT (P : Program) (G : World) (ρ : Slots) (L : Blocks) (op : Op) (ty : TypeId) (Φ : Value → Blocks → Prop) : Prop where
  out : ∀ r, Reads ρ r → ∀ w, Heap G w L → ∀ o : Oper, o.op = op → o.type = ty → Outcome P (fun v w' => ∃ L', Φ v L' ∧ Heap G w' L') ((execOp r o).run P w)
/-- The value, and the blocks behind it. -/
abbrev OpV (P : Program) (G : World) (ρ : Slots) (L : Blocks) (op : Op) (ty : TypeId) (v : Value) (L' : Blocks) : Prop := OpT P G ρ L op ty fun u M => u = v ∧ M = L'

theorem OpT.wp {P : Program} {n : Nat} {ρ : Slots} {L : Blocks} {o : Oper} {Φ : Value → Blocks → Prop} (h : OpT P G ρ L o.op o.type Φ) {a : Act} {w : World} (he : Env n ρ a) (hw : Heap G w L)
    {K : Act → World → Prop} {Q : Exit → Act → World → Prop} (hK : ∀ v L' w', Φ v L' → Heap G w' L' → K (a.put o.dst v) w') : o.wp P a w K Q := by
  have := h.out a.eval he.reads w hw o rfl rfl
  unfold Oper.wp
  revert this
  generalize (execOp a.eval o).run P w = r
  intro this
  match r, this with
  | .ok (.value v) w', ⟨L', h1, h2⟩ => exact hK v L' w' h1 h2
  | .ok .skip w', ⟨L', h1, h2⟩ => exact hK undef L' w' h1 h2
  | .ok (.enter f args) w', hc =>
    refine Calls.mono hc fun e w'' hh => ?_
    obtain ⟨v, rfl, L', h1, h2⟩ := hh
    exact hK v L' w'' h1 h2

/-! ### code -/
structure T (P : Program) (G : World) (n : Nat) (ρ : Slots) (L : Blocks) (c : Code) (Q : Exit → Act → World → Prop) : Prop where
  out : ∀ a w, Env n ρ a → Heap G w L → c.wp P Q a w
structure TL (P : Program) (G : World) (ops : Array Oper) (n : Nat) (ρ : Slots) (L : Blocks) (l : List Oper) (Q : Exit → Act → World → Prop) : Prop where
  out : ∀ a w, Env n ρ a → Heap G w L → wpList P ops Q l a w
structure TQ (G : World) (n : Nat) (ρ : Slots) (L : Blocks) (e : Exit) (Q : Exit → Act → World → Prop) : Prop where
  out : ∀ a w, Env n ρ a → Heap G w L → Q e a w
section
variable {P : Program} {n : Nat} {ρ : Slots} {L : Blocks} {Q : Exit → Act → World → Prop}
theorem T_seq {x y : Code} (h : T P G n ρ L x (Exit.then (y.wp P Q) Q)) : T P G n ρ L (.seq x y) Q := ⟨fun a w he hw => wp_seq (h.out a w he hw)⟩
theorem T_block {id : Nat} {c : Code} (h : T P G n ρ L c (Exit.inBlock id Q)) : T P G n ρ L (.block id c) Q := ⟨fun a w he hw => wp_block (h.out a w he hw)⟩
theorem T_skip (h : TQ G n ρ L .normal Q) : T P G n ρ L .skip Q := ⟨fun a w he hw => wp_skip (h.out a w he hw)⟩
theorem T_label {l : Nat} (h : TQ G n ρ L .normal Q) : T P G n ρ L (.label l) Q := ⟨fun a w he hw => wp_label (h.out a w he hw)⟩
theorem T_exit {id : Nat} (h : TQ G n ρ L (.exit id) Q) : T P G n ρ L (.exit id) Q := ⟨fun a w he hw => wp_exit (h.out a w he hw)⟩
theorem T_goto {l : Nat} (h : TQ G n ρ L (.goto l) Q) : T P G n ρ L (.goto l) Q := ⟨fun a w he hw => wp_goto (h.out a w he hw)⟩
theorem T_ret (h : TQ G n ρ L .ret Q) : T P G n ρ L .ret Q := ⟨fun a w he hw => wp_ret (h.out a w he hw)⟩
theorem T_cond {c : Operand} {x y : Code} {b : Bool} (hc : ev ρ c = some (.bool b)) (ht : b = true → T P G n ρ L x Q) (hf : b = false → T P G n ρ L y Q) : T P G n ρ L (.cond c x y) Q :=
  ⟨fun a w he hw => wp_cond_split (he.reads c _ hc) (fun h => (ht h).out a w he hw) (fun h => (hf h).out a w he hw)⟩
theorem T_true {c : Operand} {x y : Code} (hc : ev ρ c = some (.bool true)) (ht : T P G n ρ L x Q) : T P G n ρ L (.cond c x y) Q := ⟨fun a w he hw => wp_cond_true (he.reads c _ hc) (ht.out a w he hw)⟩
theorem T_false {c : Operand} {x y : Code} (hc : ev ρ c = some (.bool false)) (ht : T P G n ρ L y Q) : T P G n ρ L (.cond c x y) Q := ⟨fun a w he hw => wp_cond_false (he.reads c _ hc) (ht.out a w he hw)⟩
theorem T_region {id : Nat} {l : List Oper} (h : TL P G l.toArray n ρ L l Q) : T P G n ρ L (.region id l.toArray false) Q := ⟨fun a w he hw => wp_region_lit (h.out a w he hw)⟩
theorem TL_nil {ops : Array Oper} (h : TQ G n ρ L .normal Q) : TL P G ops n ρ L [] Q := ⟨fun a w he hw => wpList_nil (h.out a w he hw)⟩
theorem TQ_then {y : Code} {Q' : Exit → Act → World → Prop} (h : T P G n ρ L y Q) : TQ G n ρ L .normal (Exit.then (y.wp P Q) Q') := ⟨fun a w he hw => h.out a w he hw⟩
theorem TQ_then_exit {id : Nat} {K : Act → World → Prop} (h : TQ G n ρ L (.exit id) Q) : TQ G n ρ L (.exit id) (Exit.then K Q) := ⟨fun a w he hw => h.out a w he hw⟩
theorem TQ_then_goto {id : Nat} {K : Act → World → Prop} (h : TQ G n ρ L (.goto id) Q) : TQ G n ρ L (.goto id) (Exit.then K Q) := ⟨fun a w he hw => h.out a w he hw⟩
theorem TQ_then_ret {K : Act → World → Prop} (h : TQ G n ρ L .ret Q) : TQ G n ρ L .ret (Exit.then K Q) := ⟨fun a w he hw => h.out a w he hw⟩
theorem TQ_block {id : Nat} (h : TQ G n ρ L .normal Q) : TQ G n ρ L .normal (Exit.inBlock id Q) := ⟨fun a w he hw => h.out a w he hw⟩
theorem TQ_block_ret {id : Nat} (h : TQ G n ρ L .ret Q) : TQ G n ρ L .ret (Exit.inBlock id Q) := ⟨fun a w he hw => h.out a w he hw⟩
theorem TQ_block_goto {id l : Nat} (h : TQ G n ρ L (.goto l) Q) : TQ G n ρ L (.goto l) (Exit.inBlock id Q) := ⟨fun a w he hw => h.out a w he hw⟩
theorem TQ_block_exit {id : Nat} (h : TQ G n ρ L .normal Q) : TQ G n ρ L (.exit id) (Exit.inBlock id Q) := ⟨fun a w he hw => by simp only [Exit.inBlock, if_true]; exact h.out a w he hw⟩
theorem TQ_block_past {id id' : Nat} (hne : (id' == id) = false) (h : TQ G n ρ L (.exit id') Q) : TQ G n ρ L (.exit id') (Exit.inBlock id Q) := ⟨fun a w he hw => by
  have : id' ≠ id := by simpa using hne
  simp only [Exit.inBlock, this, if_false]; exact h.out a w he hw⟩

/-- An operation with a slot, unguarded. -/
theorem TL_opT {ops : Array Oper} {d : Nat} {op : Op} {ty : TypeId} {pos : String} {after : Array Edge} {rest : List Oper} {Φ : Value → Blocks → Prop}
    (h : OpT P G ρ L op ty Φ) (hd : Nat.blt d n = true) (hr : ∀ v L', Φ v L' → TL P G ops n ((d, v) :: ρ) L' rest Q) : TL P G ops n ρ L (⟨some d, op, ty, pos, after, none⟩ :: rest) Q :=
  ⟨fun a w he hw => wpList_plain rfl fun K hK => OpT.wp (o := ⟨some d, op, ty, pos, after, none⟩) h he hw fun v L' w' h1 h2 =>
    hK _ _ ((hr v L' h1).out _ _ (he.put d (by simpa using hd) v) h2)⟩
theorem TL_op {ops : Array Oper} {d : Nat} {op : Op} {ty : TypeId} {pos : String} {after : Array Edge} {rest : List Oper} {v : Value} {L' : Blocks}
    (h : OpV P G ρ L op ty v L') (hd : Nat.blt d n = true) (hr : TL P G ops n ((d, v) :: ρ) L' rest Q) : TL P G ops n ρ L (⟨some d, op, ty, pos, after, none⟩ :: rest) Q :=
  TL_opT h hd fun _ _ ⟨h1, h2⟩ => h1 ▸ h2 ▸ hr
theorem TL_opNT {ops : Array Oper} {op : Op} {ty : TypeId} {pos : String} {after : Array Edge} {rest : List Oper} {Φ : Value → Blocks → Prop}
    (h : OpT P G ρ L op ty Φ) (hr : ∀ v L', Φ v L' → TL P G ops n ρ L' rest Q) : TL P G ops n ρ L (⟨none, op, ty, pos, after, none⟩ :: rest) Q :=
  ⟨fun a w he hw => wpList_plain rfl fun K hK => OpT.wp (o := ⟨none, op, ty, pos, after, none⟩) h he hw fun v L' w' h1 h2 => hK _ _ ((hr v L' h1).out _ _ he h2)⟩
theorem TL_opN {ops : Array Oper} {op : Op} {ty : TypeId} {pos : String} {after : Array Edge} {rest : List Oper} {v : Value} {L' : Blocks}
    (h : OpV P G ρ L op ty v L') (hr : TL P G ops n ρ L' rest Q) : TL P G ops n ρ L (⟨none, op, ty, pos, after, none⟩ :: rest) Q := TL_opNT h fun _ _ ⟨_, h2⟩ => h2 ▸ hr
/-- The slot of a guard. -/
def guardSlot (ops : Array Oper) (j : Nat) : Option Nat := (ops[j]?).bind (·.dst)
theorem wanted_of {ops : Array Oper} {o : Oper} {j d : Nat} {b want : Bool} {a : Act} (he : Env n ρ a) (hg : o.guard = some (j, want)) (hs : guardSlot ops j = some d) (hv : ρ.lookup d = some (.bool b)) :
    Region.wanted o (yielded ops a.tmps) = (b == want) := by
  have h1 := he.get d _ hv
  unfold Region.wanted
  rw [hg]
  simp only [guardSlot] at hs
  simp [yielded, hs, h1]
/-- A guarded operation that is wanted. -/
theorem TL_gT {ops : Array Oper} {d j dj : Nat} {op : Op} {ty : TypeId} {pos : String} {after : Array Edge} {rest : List Oper} {Φ : Value → Blocks → Prop} {want : Bool}
    (hs : guardSlot ops j = some dj) (hv : ρ.lookup dj = some (.bool want))
    (h : OpT P G ρ L op ty Φ) (hd : Nat.blt d n = true) (hr : ∀ v L', Φ v L' → TL P G ops n ((d, v) :: ρ) L' rest Q) : TL P G ops n ρ L (⟨some d, op, ty, pos, after, some (j, want)⟩ :: rest) Q :=
  ⟨fun a w he hw => wpList_step fun K hK => by
    rw [wanted_of he rfl hs hv]
    simp only [BEq.rfl, if_true]
    exact OpT.wp (o := ⟨some d, op, ty, pos, after, some (j, want)⟩) h he hw fun v L' w' h1 h2 => hK _ _ ((hr v L' h1).out _ _ (he.put d (by simpa using hd) v) h2)⟩
theorem TL_g {ops : Array Oper} {d j dj : Nat} {op : Op} {ty : TypeId} {pos : String} {after : Array Edge} {rest : List Oper} {v : Value} {L' : Blocks} {want : Bool}
    (hs : guardSlot ops j = some dj) (hv : ρ.lookup dj = some (.bool want))
    (h : OpV P G ρ L op ty v L') (hd : Nat.blt d n = true) (hr : TL P G ops n ((d, v) :: ρ) L' rest Q) : TL P G ops n ρ L (⟨some d, op, ty, pos, after, some (j, want)⟩ :: rest) Q :=
  TL_gT hs hv h hd fun _ _ ⟨h1, h2⟩ => h1 ▸ h2 ▸ hr
/-- One that is not. -/
theorem TL_skip {ops : Array Oper} {d j dj : Nat} {op : Op} {ty : TypeId} {pos : String} {after : Array Edge} {rest : List Oper} {want : Bool}
    (hs : guardSlot ops j = some dj) (hv : ρ.lookup dj = some (.bool !want)) (hd : Nat.blt d n = true) (hr : TL P G ops n ((d, undef) :: ρ) L rest Q) :
    TL P G ops n ρ L (⟨some d, op, ty, pos, after, some (j, want)⟩ :: rest) Q :=
  ⟨fun a w he hw => wpList_step fun K hK => by
    rw [wanted_of he rfl hs hv, if_neg (by cases want <;> simp)]
    exact hK _ _ (hr.out _ _ (he.put d (by simpa using hd) undef) hw)⟩
/-- A guard that is not decided: both ways. -/
theorem TL_split {ops : Array Oper} {l : List Oper} (b : Bool) (ht : b = true → TL P G ops n ρ L l Q) (hf : b = false → TL P G ops n ρ L l Q) : TL P G ops n ρ L l Q := by
  cases b
  · exact hf rfl
  · exact ht rfl
/-- What need not be known any more. -/
theorem T_weak {c : Code} (ρ' : Slots) {L' : Blocks} (hs : ∀ t v, ρ'.lookup t = some v → ρ.lookup t = some v) (hl : ∀ w, Heap G w L → Heap G w L') (h : T P G n ρ' L' c Q) : T P G n ρ L c Q :=
  ⟨fun a w he hw => h.out a w (he.weak hs) (hl w hw)⟩
theorem TL_heap {ops : Array Oper} {l : List Oper} {L' : Blocks} (hl : ∀ w, Heap G w L → Heap G w L') (h : TL P G ops n ρ L' l Q) : TL P G ops n ρ L l Q := ⟨fun a w he hw => h.out a w he (hl w hw)⟩
theorem TQ_heap {e : Exit} {L' : Blocks} (hl : ∀ w, Heap G w L → Heap G w L') (h : TQ G n ρ L' e Q) : TQ G n ρ L e Q := ⟨fun a w he hw => h.out a w he (hl w hw)⟩
theorem T_heap {c : Code} {L' : Blocks} (hl : ∀ w, Heap G w L → Heap G w L') (h : T P G n ρ L' c Q) : T P G n ρ L c Q := ⟨fun a w he hw => h.out a w he (hl w hw)⟩
/-- A LOOP: its state is of some type; slots and blocks are functions of it. -/
def LoopInv {σ : Type} (G : World) (n : Nat) (I : σ → Prop) (ρI : σ → Slots) (LI : σ → Blocks) (μ : σ → Nat) (m : Nat) (a : Act) (w : World) : Prop := ∃ x, I x ∧ Env n (ρI x) a ∧ Heap G w (LI x) ∧ μ x < m
theorem T_loop {σ : Type} {c : Code} (I : σ → Prop) (ρI : σ → Slots) (LI : σ → Blocks) (μ : σ → Nat) (x0 : σ) (h0 : I x0) (hs : ∀ t v, (ρI x0).lookup t = some v → ρ.lookup t = some v) (hl : ∀ w, Heap G w L → Heap G w (LI x0))
    (round : ∀ x, I x → T P G n (ρI x) (LI x) c (Exit.then (LoopInv G n I ρI LI μ (μ x)) Q)) : T P G n ρ L (.loop c) Q := by
  refine ⟨fun a w he hw b k cs => ?_⟩
  suffices H : ∀ m x, μ x = m → I x → ∀ a w, Env n (ρI x) a → Heap G w (LI x) → ∃ e a' w', Q e a' w' ∧ Arrives P (lone (b.at a (.code c :: .inLoop c :: k)) cs w) b k cs e a' w' by
    obtain ⟨e, a', w', hq, harr⟩ := H _ x0 rfl h0 a w (he.weak hs) (hl w hw)
    exact ⟨e, a', w', hq, .of_steps (.one step_loop) harr⟩
  intro m
  induction m using Nat.strongRecOn with
  | _ m ih =>
    intro x hx hI a w he hw
    obtain ⟨e, a₁, w₁, hq, harr⟩ := (round x hI).out a w he hw b (.inLoop c :: k) cs
    cases e with
    | normal =>
      obtain ⟨x', hI', he', hw', hlt⟩ := hq
      obtain ⟨e₂, a₂, w₂, hq₂, harr₂⟩ := ih (μ x') (hx ▸ hlt) x' rfl hI' a₁ w₁ he' hw'
      exact ⟨e₂, a₂, w₂, hq₂, .of_steps (Steps.trans harr (.one step_inLoop)) harr₂⟩
    | exit id => exact ⟨_, a₁, w₁, hq, .pass (x := .inLoop c) rfl (fun _ _ => .inl (by simp)) harr⟩
    | goto l => exact ⟨_, a₁, w₁, hq, .pass (x := .inLoop c) rfl (fun _ _ => .inl (by simp)) harr⟩
    | ret => exact ⟨_, a₁, w₁, hq, .pass (x := .inLoop c) rfl (fun _ _ => .inl (by simp)) harr⟩
    | panic ch => exact ⟨_, a₁, w₁, hq, .pass (x := .inLoop c) rfl (fun _ _ => .inl (by simp)) harr⟩
    | outgrown => exact ⟨_, a₁, w₁, hq, .pass (x := .inLoop c) rfl (fun _ _ => .inl (by simp)) harr⟩
/-- The round's end. -/
theorem TQ_round {σ : Type} {I : σ → Prop} {ρI : σ → Slots} {LI : σ → Blocks} {μ : σ → Nat} {m : Nat} (x : σ) (hI : I x) (hs : ∀ t v, (ρI x).lookup t = some v → ρ.lookup t = some v) (hl : ∀ w, Heap G w L → Heap G w (LI x)) (hm : μ x < m) :
    TQ G n ρ L .normal (Exit.then (LoopInv G n I ρI LI μ m) Q) := ⟨fun _ w he hw => ⟨x, hI, he.weak hs, hl w hw, hm⟩⟩

/-! ### functions -/
def RetPost (G : World) (Φ : Value → Blocks → Prop) (e : Ending) (w : World) : Prop := ∃ v L', e = .returned v ∧ Φ v L' ∧ Heap G w L'
structure Spec (P : Program) (G : World) (f : FuncId) (args : Array Value) (L : Blocks) (Φ : Value → Blocks → Prop) : Prop where
  out : ∀ w, Heap G w L → Calls P f args w (RetPost G Φ)
def argSlots : Nat → List Value → Slots
  | _, [] => []
  | k, v :: vs => (k, v) :: argSlots (k + 1) vs
theorem argSlots_get : ∀ (vs : List Value) (k t : Nat) (v : Value), (argSlots k vs).lookup t = some v → k ≤ t ∧ vs[t - k]? = some v
  | [], _, _, _, h => by simp [argSlots] at h
  | u :: vs, k, t, v, h => by
    simp only [argSlots, List.lookup_cons] at h
    by_cases e : t = k
    · subst e
      simp at h
      subst h
      simp
    · have e' : (t == k) = false := by simpa using e
      rw [e'] at h
      have ⟨h1, h2⟩ := argSlots_get vs (k + 1) t v h
      refine ⟨by omega, ?_⟩
      rw [show t - k = (t - (k + 1)) + 1 by omega, List.getElem?_cons_succ]
      exact h2
theorem Spec_of {f : FuncId} {fn : Func} {c : Code} {args : Array Value} {Φ : Value → Blocks → Prop} (hf : P.funcs[f]? = some fn) (hb : fn.body = some c) (hn : fn.ntmps = n) (hs : Nat.ble args.size n = true)
    (h : T P G n (argSlots 0 args.toList) L c (bodyPost P fn (RetPost G Φ))) : Spec P G f args L Φ := by
  refine ⟨fun w hw => calls_of_wp hf hb (h.out _ _ ⟨?_, rfl, fun t v hv => ?_⟩ hw)⟩
  · have : args.size ≤ n := by simpa using hs
    simp [hn]
    omega
  · obtain ⟨_, h2⟩ := argSlots_get args.toList 0 t v hv
    have h3 : args[t]? = some v := by simpa using h2
    have h4 := (Array.getElem?_eq_some_iff.1 h3).1
    show (args ++ _)[t]? = some v
    rw [Array.getElem?_append_left h4]
    exact h3
theorem Spec.mono {f : FuncId} {args : Array Value} {Φ Ψ : Value → Blocks → Prop} (h : Spec P G f args L Φ) (hi : ∀ v L', Φ v L' → Ψ v L') : Spec P G f args L Ψ :=
  ⟨fun w hw => (h.out w hw).mono fun _ _ ⟨v, L', h1, h2, h3⟩ => ⟨v, L', h1, hi v L' h2, h3⟩⟩
theorem Spec.heap {f : FuncId} {args : Array Value} {L' : Blocks} {Φ : Value → Blocks → Prop} (hl : ∀ w, Heap G w L → Heap G w L') (h : Spec P G f args L' Φ) : Spec P G f args L Φ := ⟨fun w hw => h.out w (hl w hw)⟩
/-- A value that a contract of the elder kind tells. -/
theorem Spec.ofBelow {f : FuncId} {args : Array Value} {v : Value} (h : ∀ w, Calls P f args w fun e w' => e = .returned v ∧ Below w.heap.size w w') : Spec P G f args L fun u L' => u = v ∧ L' = L :=
  ⟨fun w hw => (h w).mono fun _ w' ⟨h1, h2⟩ => ⟨v, L, h1, ⟨rfl, rfl⟩, hw.still.trans ⟨h2.os, h2.tape, h2.output, h2.size⟩, hw.nodup, fun p hp => (h2.block p.1 (hw.lt hp)).trans (hw.get p hp)⟩⟩
theorem Spec.ofSame {f : FuncId} {args : Array Value} {v : Value} (h : ∀ w, Calls P f args w fun e w' => e = .returned v ∧ w = w') : Spec P G f args L fun u L' => u = v ∧ L' = L :=
  ⟨fun w hw => (h w).mono fun _ w' ⟨h1, h2⟩ => ⟨v, L, h1, ⟨rfl, rfl⟩, h2 ▸ hw⟩⟩
/-- And back. -/
theorem Spec.below {f : FuncId} {args : Array Value} {w : World} {v : Value} (h : Spec P w f args (allBlocks w) fun u L' => u = v ∧ L' = allBlocks w) :
    Calls P f args w fun e w' => e = .returned v ∧ Below w.heap.size w w' :=
  (h.out w (Heap.all w)).mono fun e w' ⟨u, L', h1, ⟨h2, h3⟩, h4⟩ => by
    subst h2 h3
    refine ⟨h1, h4.still.os, h4.still.tape, h4.still.output, h4.still.size, fun k hk => ?_⟩
    have hg : w.heap[k]? = some w.heap[k] := Array.getElem?_eq_getElem hk
    rw [hg]
    exact h4.get _ (mem_all hg)
end
end Go.Proofs.Ytpamoacgajlkeaa
