/-
  MEMORY that is made, rows that grow, calls, returns, regions that draw their order (Sl). No program in sight.
-/
import Derived.Test.YtpamoacgajlkeaaSlOp
import Derived.Laws.MakeOwn
import Derived.Lib.AppendStr
namespace Go.Proofs.Ytpamoacgajlkeaa
open Go.RowKit Go.Lib
set_option linter.unusedVariables false
variable {G : World} {P : Program} {n : Nat} {ρ : Slots} {L : Blocks} {ty : TypeId} {Q : Exit → Act → World → Prop}

/-! ### blocks in a list: one to the front, one away -/
theorem perm_pick {α : Type} : ∀ {L : List α} (i : Nat) (p : α), L[i]? = some p → L.Perm (p :: L.eraseIdx i)
  | [], _, _, h => by simp at h
  | x :: L, 0, p, h => by simp at h; subst h; exact List.Perm.refl _
  | x :: L, i + 1, p, h => by
    have := perm_pick (L := L) i p (by simpa using h)
    exact (this.cons x).trans (List.Perm.swap _ _ _)
theorem Heap.pick {w : World} {L : Blocks} (i : Nat) (p : Nat × Obj) (hp : L[i]? = some p) (h : Heap G w L) : Heap G w (p :: L.eraseIdx i) :=
  h.perm (perm_pick i p hp)
theorem TL_pick {ops : Array Oper} {l : List Oper} (i : Nat) {p : Nat × Obj} (hp : L[i]? = some p) {L' : Blocks} (he : L.eraseIdx i = L') (h : TL P G ops n ρ (p :: L') l Q) : TL P G ops n ρ L l Q := TL_heap (fun w hw => he ▸ hw.pick i p hp) h
theorem T_pick {c : Code} (i : Nat) {p : Nat × Obj} (hp : L[i]? = some p) {L' : Blocks} (he : L.eraseIdx i = L') (h : T P G n ρ (p :: L') c Q) : T P G n ρ L c Q := T_heap (fun w hw => he ▸ hw.pick i p hp) h
theorem TL_perm {ops : Array Oper} {l : List Oper} {L' : Blocks} (he : L.Perm L') (h : TL P G ops n ρ L' l Q) : TL P G ops n ρ L l Q := TL_heap (fun w hw => hw.perm he) h

/-! ### new blocks -/
/-- A new block, and the value that leads to it. -/
abbrev OpNew (P : Program) (G : World) (ρ : Slots) (L : Blocks) (op : Op) (ty : TypeId) (mk : Nat → Value) (o : Obj) : Prop := OpT P G ρ L op ty fun v L' => ∃ b, v = mk b ∧ L' = (b, o) :: L
theorem OpNew.run {op : Op} {mk : Nat → Value} {ob : Obj} (h : ∀ r, Reads ρ r → ∀ w, ∀ o : Oper, o.op = op → o.type = ty → (execOp r o).run P w = .ok (.value (mk w.heap.size)) (w.alloc ob)) : OpNew P G ρ L op ty mk ob :=
  ⟨fun r hr w hw o ho ht => by
    rw [h r hr w o ho ht]
    exact ⟨_, ⟨w.heap.size, rfl, rfl⟩, hw.alloc ob⟩⟩
theorem TL_new {ops : Array Oper} {d : Nat} {op : Op} {pos : String} {after : Array Edge} {rest : List Oper} {mk : Nat → Value} {ob : Obj}
    (h : OpNew P G ρ L op ty mk ob) (hd : Nat.blt d n = true) (hr : ∀ b, TL P G ops n ((d, mk b) :: ρ) ((b, ob) :: L) rest Q) : TL P G ops n ρ L (⟨some d, op, ty, pos, after, none⟩ :: rest) Q :=
  TL_opT h hd fun _ _ ⟨b, h1, h2⟩ => h1 ▸ h2 ▸ hr b
def zeroOf (P : Program) (t : TypeId) : Option Value := (P.info? t).bind (·.zero)
theorem zeroOf_run {t : TypeId} {z : Value} (h : zeroOf P t = some z) (w : World) : (zeroValue t).run P w = .ok z w := by
  unfold zeroOf at h
  cases hi : P.info? t with
  | none => simp [hi] at h
  | some i =>
    simp [hi] at h
    simp [zeroValue, typeInfo, hi, h]
theorem op_alloc {t : TypeId} {z : Value} {C : Array Value} (h : zeroOf P t = some z) (hc : z.cells = C) : OpNew P G ρ L (.alloc t) ty (fun b => .pointer (some ⟨b, 0, none⟩)) (.cells C t (0, 0)) :=
  .run fun r hr w o ho _ => by
    simp [execOp, ho, Instr.alloc, zeroOf_run h w, newVar, newRow, hc]
theorem op_box {t : TypeId} {x : Operand} {v : Value} {C : Array Value} (hx : ev ρ x = some v) (hc : v.cells = C) : OpNew P G ρ L (.box t x) ty (fun b => .pointer (some ⟨b, 0, none⟩)) (.cells C t (0, 0)) :=
  .run fun r hr w o ho _ => by
    simp [execOp, ho, hr _ _ hx, Instr.box, newVar, newRow, hc]
def evParts (ρ : Slots) : List (Nat × Operand) → Option (List (Nat × Value))
  | [] => some []
  | (i, x) :: r => match ev ρ x, evParts ρ r with
    | some v, some vs => some ((i, v) :: vs)
    | _, _ => none
theorem evParts_map {ρ : Slots} {r : Operand → Value} (hr : Reads ρ r) : ∀ (l : List (Nat × Operand)) (vs : List (Nat × Value)), evParts ρ l = some vs → l.map (fun p => (p.1, r p.2)) = vs
  | [], vs, h => by simp [evParts] at h; simp [h]
  | (i, x) :: l, vs, h => by
    simp only [evParts] at h
    cases h1 : ev ρ x with
    | none => simp [h1] at h
    | some v =>
      cases h2 : evParts ρ l with
      | none => simp [h1, h2] at h
      | some us =>
        simp [h1, h2] at h
        subst h
        simp [hr x v h1, evParts_map hr l us h2]
/-- The row of elements that a literal lays. -/
structure RowLit (P : Program) (t : TypeId) (len : Nat) (vs : List (Nat × Value)) (e : TypeId) (C : Array Value) : Prop where
  out : ∀ w, (Instr.buildSlice t len vs.toArray).run P w = .ok (.slice (some ⟨w.heap.size, 0, none⟩) len len) (w.alloc (.cells C e (0, 0)))
theorem op_buildSlice {t e : TypeId} {len : Nat} {ps : List (Nat × Operand)} {vs : List (Nat × Value)} {C : Array Value} (hp : evParts ρ ps = some vs) (h : RowLit P t len vs e C) :
    OpNew P G ρ L (.buildSlice t len ps.toArray) ty (fun b => .slice (some ⟨b, 0, none⟩) len len) (.cells C e (0, 0)) :=
  .run fun r hr w o ho _ => by
    have := h.out w
    rw [← evParts_map hr ps vs hp] at this
    simp [execOp, ho]
    rw [this]
    rfl
/-- One element of one cell. -/
theorem rowLit1 {t e : TypeId} {v z : Value} {ti : TypeInfo} (ht : P.underlying t = some (.slice e)) (hi : P.info? e = some ti) (hz : ti.size = 1) (h0 : ti.zero = some z) (hzc : z.cells.size = 1) (hone : v.oneCell' = true) : RowLit P t 1 [(0, v)] e #[v] :=
  ⟨fun w => by
    obtain ⟨zc, hzc'⟩ : ∃ zc, z.cells = #[zc] := by
      match hh : z.cells, hzc with
      | ⟨[a]⟩, _ => exact ⟨a, rfl⟩
    have hv : v.cells = #[v] := by cases v <;> first | rfl | cases hone
    have hr1 : Array.range 1 = #[0] := by decide
    simp [Instr.buildSlice, run_underlying ht, sizeOf, typeInfo, hi, hz, zeroValue, h0, hzc', Instr.fill, hv, newRow, hr1]⟩
theorem rowLit0 {t e : TypeId} {ti : TypeInfo} (ht : P.underlying t = some (.slice e)) (hi : P.info? e = some ti) : RowLit P t 0 [] e #[] :=
  ⟨fun w => by simp [Instr.buildSlice, run_underlying ht, sizeOf, typeInfo, hi, Instr.fill, newRow, Array.range_zero']⟩
/-- A struct's value out of its parts. -/
structure Built (P : Program) (t : TypeId) (vs : List (Nat × Value)) (v : Value) : Prop where
  out : ∀ w, (Instr.build t vs.toArray).run P w = .ok v w
theorem op_build {t : TypeId} {ps : List (Nat × Operand)} {vs : List (Nat × Value)} {v : Value} (hp : evParts ρ ps = some vs) (h : Built P t vs v) : OpQ P ρ L (.build t ps.toArray) ty v :=
  ⟨fun r hr w hw o ho _ => by
    have := h.out w
    rw [← evParts_map hr ps vs hp] at this
    simp [execOp, ho]
    rw [this]
    rfl⟩

/-! ### rows of one's own -/
/-- What the table says of a slice's type. -/
structure ElemTy (P : Program) (t e : TypeId) (sz bytes : Nat) (z : Value) : Prop where
  und : P.underlying t = some (.slice e)
  info : ∃ i, P.info? e = some i ∧ i.zero = some z ∧ i.size = sz ∧ i.bytes = bytes
  cells : z.cells.size = sz
  pos : 0 < sz
structure Row (e : TypeId) (sz : Nat) (v : Value) (m : Nat) (xs : List Value) (B : Blocks) : Prop where
  len : xs.length = m * sz
  is : (v = .slice none 0 0 ∧ m = 0 ∧ B = []) ∨ ∃ b cap cur, v = .slice (some ⟨b, 0, none⟩) m cap ∧ B = [(b, .cells cur e (0, 0))] ∧ m ≤ cap ∧ cap ≤ maxLen ∧ cur.size = cap * sz ∧ cur.toList.take (m * sz) = xs
theorem Row.nil (e : TypeId) (sz : Nat) : Row e sz (.slice none 0 0) 0 [] [] := ⟨by simp, Or.inl ⟨rfl, rfl, rfl⟩⟩
theorem Row.slice {e : TypeId} {sz : Nat} {v : Value} {m : Nat} {xs : List Value} {B : Blocks} (h : Row e sz v m xs B) : ∃ a c, v = .slice a m c := by
  rcases h.is with ⟨h1, h2, _⟩ | ⟨b, cap, _, h1, _⟩
  · exact ⟨none, 0, by rw [h1, h2]⟩
  · exact ⟨_, _, h1⟩
theorem Row.owns {e : TypeId} {sz : Nat} {v : Value} {m : Nat} {xs : List Value} {B : Blocks} (h : Row e sz v m xs B) {w : World} (hw : Heap G w (B ++ L)) : w.ownsRow 0 e sz v m xs := by
  refine ⟨h.len, ?_⟩
  rcases h.is with ⟨h1, h2, _⟩ | ⟨b, cap, cur, h1, h2, h3, h4, h5, h6⟩
  · exact Or.inl ⟨h1, h2⟩
  · subst h2
    exact Or.inr ⟨b, cap, cur, h1, Nat.zero_le _, hw.get (b, .cells cur e (0, 0)) (List.mem_append_left _ (List.mem_cons_self ..)), h3, h4, h5, h6⟩
theorem Row.after {e : TypeId} {sz : Nat} {v v' : Value} {m m' : Nat} {xs xs' : List Value} {B : Blocks} (h : Row e sz v m xs B) {w w' : World} (hw : Heap G w (B ++ L)) (ho : w'.ownsRow 0 e sz v' m' xs') (hg : w.grownBy w' v.ownBlock)
    (hat : v'.ownBlock = v.ownBlock ∨ v'.ownBlock = some w.heap.size) : ∃ B', Row e sz v' m' xs' B' ∧ Heap G w' (B' ++ L) := by
  have hst : Still w w' := ⟨hg.os, hg.tape, hg.output, hg.size⟩
  have hL : Heap G w L := hw.sub (List.sublist_append_right _ _)
  have hkeep : ∀ p, p ∈ L → w'.heap[p.1]? = some p.2 := fun p hp => by
    rw [hg.block p.1 (hL.lt hp) ?_]
    · exact hL.get p hp
    · rcases h.is with ⟨h1, _, _⟩ | ⟨b, cap, cur, h1, h2, _⟩
      · rw [h1]; simp [Value.ownBlock]
      · rw [h1]
        subst h2
        have := Heap.ne (b := b) (o := .cells cur e (0, 0)) (L := L) hw hp
        simpa [Value.ownBlock] using this
  rcases ho.2 with ⟨h1, h2⟩ | ⟨g, cap, cur, h1, _, hgc, h3, h4, h5, h6⟩
  · exact ⟨[], ⟨ho.1, Or.inl ⟨h1, h2, rfl⟩⟩, hL.still.trans hst, hL.nodup, hkeep⟩
  · refine ⟨[(g, .cells cur e (0, 0))], ⟨ho.1, Or.inr ⟨g, cap, cur, h1, rfl, h3, h4, h5, h6⟩⟩, hL.still.trans hst, ?_, fun p hp => ?_⟩
    · show ((g : Nat) :: L.map (·.1)).Nodup
      rw [List.nodup_cons]
      refine ⟨fun hm => ?_, hL.nodup⟩
      obtain ⟨p, hp, he⟩ := List.mem_map.1 hm
      rw [h1] at hat
      simp only [Value.ownBlock] at hat
      rcases hat with hat | hat
      · rcases h.is with ⟨q1, _, _⟩ | ⟨b, cap, cur, q1, q2, _⟩
        · rw [q1] at hat; simp at hat
        · rw [q1] at hat
          simp at hat
          subst q2
          exact Heap.ne (b := b) (o := .cells cur e (0, 0)) (L := L) hw hp (he.trans hat)
      · have := hL.lt hp
        simp at hat
        omega
    · rcases List.mem_cons.1 hp with rfl | hp
      · exact hgc
      · exact hkeep p hp
/-- What is appended: the cells of a slice. -/
def Src (L : Blocks) (u : Value) (m : Nat) (news : List Value) (sz : Nat) : Prop :=
  news.length = m * sz ∧ (∀ x ∈ news, x.oneCell' = true) ∧ ((∃ c, u = .slice none 0 c ∧ m = 0) ∨ ∃ b off c C te fr, u = .slice (some ⟨b, off, none⟩) m c ∧ (b, Obj.cells C te fr) ∈ L ∧ ∀ j x, news[j]? = some x → C[off + j]? = some x)
theorem run_app0 (w : World) (t ty e : TypeId) (i : TypeInfo) (c : Nat) (ht : P.underlying t = some (.slice e)) (hi : P.info? e = some i) (base : Nat) (size : Nat)
    (v : Value) (m : Nat) (xs : List Value) (hown : w.ownsRow base e size v m xs) : (Builtin.append_ #[t, t] ty #[v, .slice none 0 c]).run P w = .ok v w := by
  rcases hown.2 with ⟨rfl, rfl⟩ | ⟨g, cap, cur, rfl, _, _, hnc, _⟩
  · simp [Builtin.append_, run_underlying ht, sizeOf, typeInfo, hi, Builtin.lenOf, Builtin.firstCells]
  · simp [Builtin.append_, run_underlying ht, sizeOf, typeInfo, hi, Builtin.lenOf, Builtin.firstCells, hnc, storeCells]
theorem op_append {s x : Operand} {t e : TypeId} {sz bytes : Nat} {z v u : Value} {m k : Nat} {xs news : List Value} {B : Blocks} (E : ElemTy P t e sz bytes z) (hs : ev ρ s = some v) (hx : ev ρ x = some u)
    (hrow : Row e sz v m xs B) (hsrc : Src L u k news sz) (h63 : m + k ≤ maxLen) (hby : (m + k) * bytes ≤ 140737488355328) :
    OpT P G ρ (B ++ L) (.call ⟨.builtin .append, #[s, x], #[t, t]⟩) ty fun v' L' => ∃ B', Row e sz v' (m + k) (xs ++ news) B' ∧ L' = B' ++ L :=
  ⟨fun r hr w hw o ho _ => by
    obtain ⟨i, hi, hz0, hz1, hz2⟩ := E.info
    have hown := hrow.owns hw
    have key : ∃ v' w', (Builtin.append_ #[t, t] o.type #[v, u]).run P w = .ok v' w' ∧ w'.ownsRow 0 e sz v' (m + k) (xs ++ news) ∧ w.grownBy w' v.ownBlock ∧ (v'.ownBlock = v.ownBlock ∨ v'.ownBlock = some w.heap.size) := by
      obtain ⟨hl, hone, ⟨c, rfl, rfl⟩ | ⟨b, off, c, C, te, fr, rfl, hm, hc⟩⟩ := hsrc
      · have : news = [] := List.eq_nil_of_length_eq_zero (by simpa using hl)
        subst this
        exact ⟨v, w, run_app0 w t o.type e i c E.und hi 0 sz v m xs hown, by simpa using hown, ⟨rfl, rfl, rfl, Nat.le_refl _, fun _ _ _ => rfl⟩, Or.inl rfl⟩
      · obtain ⟨v', w', q1, q2, q3, _, q5⟩ := run_append_own_at w 0 t o.type e i z sz bytes E.und hi hz0 hz1 hz2 E.cells E.pos v m xs hown ⟨b, off, none⟩ k c news hl
          (fun j y hj => by rw [addr_add]; exact hw.cell (List.mem_append_right _ hm) (hc j y hj)) hone h63 hby (Nat.zero_le _)
        exact ⟨v', w', q1, q2, q3, q5⟩
    obtain ⟨v', w', hrun, q2, q3, q4⟩ := key
    obtain ⟨B', hB, hH⟩ := hrow.after hw q2 q3 q4
    have : (execOp r o).run P w = .ok (.value v') w' := by
      simp [execOp, ho, hr _ _ hs, hr _ _ hx, resolve, invoke, builtin, hrun, Result.andThen]
    rw [this]
    exact ⟨_, ⟨B', hB, rfl⟩, hH⟩⟩
theorem TL_append {ops : Array Oper} {d : Nat} {s x : Operand} {pos : String} {after : Array Edge} {rest : List Oper} {t e : TypeId} {sz bytes : Nat} {z v u : Value} {m k : Nat} {xs news : List Value} {B : Blocks} (E : ElemTy P t e sz bytes z)
    (hs : ev ρ s = some v) (hx : ev ρ x = some u) (hrow : Row e sz v m xs B) (hsrc : Src L u k news sz) (h63 : m + k ≤ maxLen) (hby : (m + k) * bytes ≤ 140737488355328) (hd : Nat.blt d n = true)
    (hr : ∀ v' B', Row e sz v' (m + k) (xs ++ news) B' → TL P G ops n ((d, v') :: ρ) (B' ++ L) rest Q) : TL P G ops n ρ (B ++ L) (⟨some d, .call ⟨.builtin .append, #[s, x], #[t, t]⟩, ty, pos, after, none⟩ :: rest) Q :=
  TL_opT (op_append E hs hx hrow hsrc h63 hby) hd fun v' _ ⟨B', h1, h2⟩ => h2 ▸ hr v' B' h1
/-- bytes of a string -/
theorem op_append_str {s x : Operand} {t e tu : TypeId} {v : Value} {m : Nat} {xs : List Value} {l : List UInt8} {B : Blocks} (E : ElemTy P t e 1 1 (.int .u8 0)) (hu : P.underlying tu = some .string) (hs : ev ρ s = some v) (hx : ev ρ x = some (.string (bs l)))
    (hrow : Row e 1 v m xs B) (h63 : m + l.length ≤ 140737488355328) :
    OpT P G ρ (B ++ L) (.call ⟨.builtin .append, #[s, x], #[t, tu]⟩) ty fun v' L' => ∃ B', Row e 1 v' (m + l.length) (xs ++ l.map fun c => Value.int .u8 (c.toNat : Int)) B' ∧ L' = B' ++ L :=
  ⟨fun r hr w hw o ho _ => by
    obtain ⟨i, hi, hz0, hz1, hz2⟩ := E.info
    have hown := hrow.owns hw
    have hml : m + (bs l).size ≤ maxLen := by rw [bs_size]; unfold maxLen; omega
    obtain ⟨v', w', hrun, q2, q3, _⟩ := run_append_own_string w 0 t tu o.type e i E.und hu hi hz0 hz1 hz2 v m xs hown (bs l) hml (by rw [bs_size]; exact h63) (Nat.zero_le _)
    have q4 : v'.ownBlock = v.ownBlock ∨ v'.ownBlock = some w.heap.size := by
      rcases hrow.is with ⟨h1, h2, _⟩ | ⟨b, cap, cur, h1, h2, h3, h4, h5, h6⟩
      · subst h1
        by_cases h0 : 0 < (bs l).size
        · have := run_append_nil_string (P := P) w t tu o.type e i (.int .u8 0) E.und hu hi hz0 (bs l) h0 (by rw [bs_size]; omega) (by rw [bs_size, hz2]; omega)
          rw [this] at hrun
          cases hrun
          exact Or.inr rfl
        · have hl0 : l = [] := List.eq_nil_of_length_eq_zero (by rw [bs_size] at h0; omega)
          subst hl0
          have : (Builtin.append_ #[t, tu] o.type #[.slice none 0 0, .string (bs [])]).run P w = .ok (.slice none 0 0) w := by
            simp [Builtin.append_, run_underlying E.und, run_underlying hu, sizeOf, typeInfo, hi, Builtin.lenOf, Builtin.firstCells]
          rw [this] at hrun
          cases hrun
          exact Or.inl rfl
      · subst h1
        subst h2
        have hg : w.heap[b]? = some (.cells cur e (0, 0)) := hw.get (b, .cells cur e (0, 0)) (List.mem_append_left _ (List.mem_cons_self ..))
        by_cases hroom : m + (bs l).size ≤ cap
        · have := run_append_room_string (P := P) w t tu o.type e i E.und hu hi hz1 b m cap cur hg (bs l) hroom (by rw [h5]; omega)
          rw [this] at hrun
          cases hrun
          exact Or.inl rfl
        · have hnx : Builtin.nextslicecap (m + (bs l).size) cap * i.bytes ≤ 281474976710656 := by
            rw [hz2, Nat.mul_one]
            exact Nat.le_trans (nextslicecap_le (by omega)) (by rw [bs_size]; omega)
          have := run_append_grow_string (P := P) w t tu o.type e i (.int .u8 0) E.und hu hi hz0 ⟨b, 0, none⟩ m cap xs (by rw [hz1]; exact hrow.len) (fun j u hj => by
            rw [addr_add, Nat.zero_add]
            refine hw.cell (List.mem_append_left _ (List.mem_cons_self ..)) ?_
            have hjl := (List.getElem?_eq_some_iff.1 hj).1
            have hlen := hrow.len
            rw [← h6, List.getElem?_take_of_lt (by omega)] at hj
            simpa using hj) (bs l) (by omega) (by rw [bs_size]; omega) hnx
          rw [this] at hrun
          cases hrun
          exact Or.inr rfl
    obtain ⟨B', hB, hH⟩ := hrow.after hw q2 q3 q4
    have : (execOp r o).run P w = .ok (.value v') w' := by
      simp [execOp, ho, hr _ _ hs, hr _ _ hx, resolve, invoke, builtin, hrun, Result.andThen]
    rw [this]
    rw [bs_size] at hB
    exact ⟨_, ⟨B', hB, rfl⟩, hH⟩⟩

/-! ### slices of slices and strings -/
theorem op_slice_str {x lo hi : Operand} {s : List UInt8} {k k' : IntKind} {i j : Int} {t : TypeId} (hx : ev ρ x = some (.string (bs s))) (hlo : ev ρ lo = some (.int k i)) (hhi : ev ρ hi = some (.int k' j)) (ht : P.underlying t = some .string)
    (h0 : 0 ≤ i) (h1 : i ≤ j) (h2 : j ≤ s.length) : OpQ P ρ L (.slice t x (some lo) (some hi) none) ty (.string (bs ((s.take j.toNat).drop i.toNat))) :=
  ⟨fun r hr w hw o ho _ => by
    have e : (bs s).extract i.toNat j.toNat = bs ((s.take j.toNat).drop i.toNat) := by
      apply ByteArray.ext
      rw [ByteArray.data_extract]
      simp [bs, List.extract_eq_take_drop, List.drop_take]
    have h3 : 0 ≤ j := by omega
    have e1 : ((j.toNat : Nat) : Int) = j := by omega
    simp [execOp, ho, hr _ _ hx, hr _ _ hlo, hr _ _ hhi, Instr.sliceAt, run_underlying ht, Instr.slice, Instr.sliceBounds, Instr.sliceBound, asIntOf, h0, h1, h2, h3, e, e1]⟩
theorem op_slice_from {x lo : Operand} {s : List UInt8} {k : IntKind} {i : Int} {t : TypeId} (hx : ev ρ x = some (.string (bs s))) (hlo : ev ρ lo = some (.int k i)) (ht : P.underlying t = some .string)
    (h0 : 0 ≤ i) (h1 : i ≤ s.length) : OpQ P ρ L (.slice t x (some lo) none none) ty (.string (bs (s.drop i.toNat))) :=
  ⟨fun r hr w hw o ho _ => by
    have e : (bs s).extract i.toNat s.length = bs (s.drop i.toNat) := by
      apply ByteArray.ext
      rw [ByteArray.data_extract]
      simp [bs, List.extract_eq_take_drop]
      exact List.take_of_length_le (by simp)
    simp [execOp, ho, hr _ _ hx, hr _ _ hlo, Instr.sliceAt, run_underlying ht, Instr.slice, Instr.sliceBounds, Instr.sliceBound, asIntOf, h0, h1, e]⟩

/-! ### calls -/
/-- The function is there, and has a text. -/
def hasBody (P : Program) (f : FuncId) : Bool := match P.funcs[f]? with
  | some fn => !(fn.name == "runtime.NumGoroutine") && !fn.body.isNone
  | none => false
theorem run_callFunc {f : FuncId} {args : Array Value} (h : hasBody P f = true) (w : World) : (callFunc f args).run P w = .ok (.enter f args) w := by
  unfold hasBody at h
  cases hf : P.funcs[f]? with
  | none => simp [hf] at h
  | some fn =>
    simp only [hf, Bool.and_eq_true, Bool.not_eq_true'] at h
    have h1 : ¬ fn.name = "runtime.NumGoroutine" := by simpa using h.1
    have h2 : ¬ fn.body = none := by intro e; rw [e] at h; simp at h
    simp [callFunc, hf, h1, h2]
def evArgs (ρ : Slots) : List Operand → Option (List Value)
  | [] => some []
  | x :: r => match ev ρ x, evArgs ρ r with
    | some v, some vs => some (v :: vs)
    | _, _ => none
theorem evArgs_map {ρ : Slots} {r : Operand → Value} (hr : Reads ρ r) : ∀ (l : List Operand) (vs : List Value), evArgs ρ l = some vs → l.map r = vs
  | [], vs, h => by simp [evArgs] at h; simp [h]
  | x :: l, vs, h => by
    simp only [evArgs] at h
    cases h1 : ev ρ x with
    | none => simp [h1] at h
    | some v =>
      cases h2 : evArgs ρ l with
      | none => simp [h1, h2] at h
      | some us =>
        simp [h1, h2] at h
        subst h
        simp [hr x v h1, evArgs_map hr l us h2]
theorem op_call {f : FuncId} {xs : List Operand} {ats : Array TypeId} {vs : List Value} {Φ : Value → Blocks → Prop} (hb : hasBody P f = true) (ha : evArgs ρ xs = some vs) (h : Spec P G f vs.toArray L Φ) :
    OpT P G ρ L (.call ⟨.value (.func f), xs.toArray, ats⟩) ty Φ :=
  ⟨fun r hr w hw o ho _ => by
    have hm := evArgs_map hr xs vs ha
    have hrf : r (.func f) = .func (.func f) #[] #[] := hr _ _ rfl
    have : execOp r o = callFunc f vs.toArray := by
      simp only [execOp, ho, resolve, hrf, Deferred.ofValue]
      show invoke (.fn (.func f) #[]) _ = _
      simp only [invoke, List.map_toArray, hm]
      simp
    rw [this, run_callFunc hb]
    refine (h.out w hw).mono fun e w' ⟨v, L', h1, h2, h3⟩ => ⟨v, h1, L', h2, h3⟩⟩

/-! ### returns -/
theorem ret_run {fn : Func} {a : Act} {ρ : Slots} (he : Env n ρ a) (t : Nat) (v : Value) (hr : fn.results = #[.tmp t]) (hv : ρ.lookup t = some v) (w : World) : (results fn a.tmps).run P w = .ok v w := by
  have h1 : a.tmps.getD t undef = v := he.reads (.tmp t) v hv
  simp only [results, hr]
  simp
  simpa using h1
theorem TQ_ret1 {fn : Func} {Φ : Value → Blocks → Prop} (t : Nat) (v : Value) (hr : fn.results = #[.tmp t]) (hv : ρ.lookup t = some v) (h : Φ v L) : TQ G n ρ L .ret (bodyPost P fn (RetPost G Φ)) :=
  ⟨fun a w he hw => ⟨he.defers, v, ret_run he t v hr hv w, v, L, rfl, h, hw⟩⟩
end Go.Proofs.Ytpamoacgajlkeaa
