/-
  OPERATIONS by what the program's tables say of a type, in one closed fact each (Sl). No program in sight.
-/
import Derived.Test.YtpamoacgajlkeaaSlDraw
namespace Go.Proofs.Ytpamoacgajlkeaa
open Go.RowKit
set_option linter.unusedVariables false
variable {G : World} {P : Program} {n : Nat} {ρ : Slots} {L : Blocks} {ty : TypeId} {Q : Exit → Act → World → Prop}

/-- Slots that are among others. -/
def Sub : Slots → Slots → Prop
  | [], _ => True
  | (t, v) :: r, ρ => ρ.lookup t = some v ∧ Sub r ρ
theorem Sub.get : ∀ {a b : Slots}, Sub a b → ∀ t v, a.lookup t = some v → b.lookup t = some v
  | [], _, _, t, v, h => by simp at h
  | (s, u) :: r, b, h, t, v, hv => by
    rw [List.lookup_cons] at hv
    by_cases e : t = s
    · subst e; simp at hv; subst hv; exact h.1
    · rw [show (t == s) = false by simpa using e] at hv
      exact Sub.get h.2 t v hv
theorem T_loopS {σ : Type} {c : Code} (I : σ → Prop) (ρI : σ → Slots) (LI : σ → Blocks) (μ : σ → Nat) (x0 : σ) (h0 : I x0) (hs : Sub (ρI x0) ρ) (hl : ∀ w, Heap G w L → Heap G w (LI x0))
    (round : ∀ x, I x → T P G n (ρI x) (LI x) c (Exit.then (LoopInv G n I ρI LI μ (μ x)) Q)) : T P G n ρ L (.loop c) Q := T_loop I ρI LI μ x0 h0 hs.get hl round
theorem TQ_roundS {σ : Type} {I : σ → Prop} {ρI : σ → Slots} {LI : σ → Blocks} {μ : σ → Nat} {m : Nat} (x : σ) (hI : I x) (hs : Sub (ρI x) ρ) (hl : ∀ w, Heap G w L → Heap G w (LI x)) (hm : μ x < m) :
    TQ G n ρ L .normal (Exit.then (LoopInv G n I ρI LI μ m) Q) := TQ_round x hI hs.get hl hm
/-- A cut: what is known from here on. -/
theorem T_cut {c : Code} (ρ' : Slots) (L' : Blocks) (hs : Sub ρ' ρ) (hl : ∀ w, Heap G w L → Heap G w L') (h : T P G n ρ' L' c Q) : T P G n ρ L c Q := T_weak ρ' hs.get hl h
theorem T_yes {c : Operand} {x y : Code} {b : Bool} (hc : ev ρ c = some (.bool b)) (hb : b = true) (h : T P G n ρ L x Q) : T P G n ρ L (.cond c x y) Q := T_true (hb ▸ hc) h
theorem T_no {c : Operand} {x y : Code} {b : Bool} (hc : ev ρ c = some (.bool b)) (hb : b = false) (h : T P G n ρ L y Q) : T P G n ρ L (.cond c x y) Q := T_false (hb ▸ hc) h
theorem TL_gyes {ops : Array Oper} {d j dj : Nat} {op : Op} {pos : String} {after : Array Edge} {rest : List Oper} {v : Value} {want b : Bool}
    (hs : guardSlot ops j = some dj) (hv : ρ.lookup dj = some (.bool b)) (hb : b = want) (h : OpQ P ρ L op ty v) (hd : Nat.blt d n = true) (hr : TL P G ops n ((d, v) :: ρ) L rest Q) : TL P G ops n ρ L (⟨some d, op, ty, pos, after, some (j, want)⟩ :: rest) Q :=
  TL_gq hs (hb ▸ hv) h hd hr
theorem TL_gno {ops : Array Oper} {d j dj : Nat} {op : Op} {pos : String} {after : Array Edge} {rest : List Oper} {want b : Bool}
    (hs : guardSlot ops j = some dj) (hv : ρ.lookup dj = some (.bool b)) (hb : b = !want) (hd : Nat.blt d n = true) (hr : TL P G ops n ((d, undef) :: ρ) L rest Q) : TL P G ops n ρ L (⟨some d, op, ty, pos, after, some (j, want)⟩ :: rest) Q :=
  TL_skip hs (hb ▸ hv) hd hr
/-- A guarded operation that is wanted, as if it were unguarded. -/
structure TG (P : Program) (G : World) (ops : Array Oper) (n : Nat) (ρ : Slots) (L : Blocks) (d : Nat) (op : Op) (ty : TypeId) (rest : List Oper) (Q : Exit → Act → World → Prop) : Prop where
  out : ∀ pos after j want dj, guardSlot ops j = some dj → ρ.lookup dj = some (.bool want) → TL P G ops n ρ L (⟨some d, op, ty, pos, after, some (j, want)⟩ :: rest) Q
theorem TL_gpre {ops : Array Oper} {d j dj : Nat} {op : Op} {pos : String} {after : Array Edge} {rest : List Oper} {want b : Bool}
    (hs : guardSlot ops j = some dj) (hv : ρ.lookup dj = some (.bool b)) (hb : b = want) (h : TG P G ops n ρ L d op ty rest Q) : TL P G ops n ρ L (⟨some d, op, ty, pos, after, some (j, want)⟩ :: rest) Q := h.out pos after j want dj hs (hb ▸ hv)
theorem TL_gq2 {ops : Array Oper} {d : Nat} {op : Op} {rest : List Oper} {v : Value} (h : OpQ P ρ L op ty v) (hd : Nat.blt d n = true) (hr : TL P G ops n ((d, v) :: ρ) L rest Q) : TG P G ops n ρ L d op ty rest Q :=
  ⟨fun pos after j want dj hs hv => TL_gq hs hv h hd hr⟩
theorem TG_opT {ops : Array Oper} {d : Nat} {op : Op} {rest : List Oper} {Φ : Value → Blocks → Prop} (h : OpT P G ρ L op ty Φ) (hd : Nat.blt d n = true) (hr : ∀ v L', Φ v L' → TL P G ops n ((d, v) :: ρ) L' rest Q) : TG P G ops n ρ L d op ty rest Q :=
  ⟨fun pos after j want dj hs hv => TL_gT hs hv h hd hr⟩
theorem op_neg {x : Operand} {t : TypeId} {k : IntKind} {a : Int} (hx : ev ρ x = some (.int k a)) (h : InK k (-a)) : OpQ P ρ L (.unOp .neg t x) ty (.int k (-a)) :=
  ⟨fun r hr w hw o ho _ => by
    have h' : k.wrap (0 - a) = -a := by rw [show (0 : Int) - a = -a by omega]; exact wrap_in h
    simp only [execOp, ho, hr _ _ hx, Op.unary, Op.intArith, h']
    rfl⟩
theorem TG_op {ops : Array Oper} {d : Nat} {op : Op} {rest : List Oper} {v : Value} {L' : Blocks} (h : OpV P G ρ L op ty v L') (hd : Nat.blt d n = true) (hr : TL P G ops n ((d, v) :: ρ) L' rest Q) : TG P G ops n ρ L d op ty rest Q :=
  TG_opT h hd fun _ _ ⟨h1, h2⟩ => h1 ▸ h2 ▸ hr
theorem op_pickT {c a b : Operand} {t : Bool} {v : Value} (hc : ev ρ c = some (.bool t)) (ht : t = true) (hv : ev ρ a = some v) : OpQ P ρ L (.pick c a b) ty v := by subst ht; exact op_pick hc hv
theorem op_pickF {c a b : Operand} {t : Bool} {v : Value} (hc : ev ρ c = some (.bool t)) (ht : t = false) (hv : ev ρ b = some v) : OpQ P ρ L (.pick c a b) ty v := by subst ht; exact op_pick hc hv

theorem TL_bin {ops : Array Oper} {d : Nat} {op : BinOp} {t yt : TypeId} {x y : Operand} {pos : String} {after : Array Edge} {rest : List Oper} {a b v : Value}
    (hx : ev ρ x = some a) (hy : ev ρ y = some b) (h : Bin P op t a b v) (hd : Nat.blt d n = true) (hr : TL P G ops n ((d, v) :: ρ) L rest Q) : TL P G ops n ρ L (⟨some d, .binOp op t x y yt, ty, pos, after, none⟩ :: rest) Q := TL_q (op_bin hx hy h) hd hr
theorem TL_gbin {ops : Array Oper} {d j dj : Nat} {op : BinOp} {t yt : TypeId} {x y : Operand} {pos : String} {after : Array Edge} {rest : List Oper} {a c v : Value} {want b : Bool}
    (hs : guardSlot ops j = some dj) (hv : ρ.lookup dj = some (.bool b)) (hb : b = want) (hx : ev ρ x = some a) (hy : ev ρ y = some c) (h : Bin P op t a c v) (hd : Nat.blt d n = true) (hr : TL P G ops n ((d, v) :: ρ) L rest Q) :
    TL P G ops n ρ L (⟨some d, .binOp op t x y yt, ty, pos, after, some (j, want)⟩ :: rest) Q := TL_gyes hs hv hb (op_bin hx hy h) hd hr
/-! ### closed facts -/
def plainTy (P : Program) (t : TypeId) : Bool := match P.underlying t with
  | some d => plainDesc d
  | none => false
def oneTy (P : Program) (t : TypeId) : Bool := match P.info? t with
  | some i => Nat.beq i.size 1
  | none => false
def fieldOff (P : Program) (s f : Nat) : Option Nat := match P.underlying s with
  | some (.struct fs) => match fs[f]? with
    | some fi => match P.info? fi.type with
      | some ti => if Nat.beq ti.size 0 then none else some fi.offset
      | none => none
    | none => none
  | _ => none
theorem op_fld {x : Operand} {b off s f fo : Nat} (hx : ev ρ x = some (.pointer (some ⟨b, off, none⟩))) (h : fieldOff P s f = some fo) : OpQ P ρ L (.fieldAddr s x f) ty (.pointer (some ⟨b, off + fo, none⟩)) := by
  unfold fieldOff at h
  cases h1 : P.underlying s with
  | none => simp [h1] at h
  | some d =>
    cases d <;> simp [h1] at h
    rename_i fs
    cases h2 : fs[f]? with
    | none => simp [h2] at h
    | some fi =>
      cases h3 : P.info? fi.type with
      | none => simp [h2, h3] at h
      | some ti =>
        simp [h2, h3] at h
        exact op_fieldAddr hx h1 h2 h3 (by cases hb : Nat.beq ti.size 0; rfl; simp [Nat.eq_of_beq_eq_true hb] at h) h.2
theorem op_ld {x : Operand} {b off : Nat} {t : TypeId} {C : Array Value} {te : TypeId} {fr : Nat × Nat} {v : Value} (hx : ev ρ x = some (.pointer (some ⟨b, off, none⟩)))
    (ht : plainTy P t = true) (hm : (b, Obj.cells C te fr) ∈ L) (hv : C[off]? = some v) : OpQ P ρ L (.load t x) ty v := by
  unfold plainTy at ht
  cases h1 : P.underlying t with
  | none => simp [h1] at ht
  | some d => simp [h1] at ht; exact op_load hx h1 ht hm hv
theorem op_st {x y : Operand} {b off : Nat} {t : TypeId} {C C' : Array Value} {te : TypeId} {v u : Value} (hx : ev ρ x = some (.pointer (some ⟨b, off, none⟩))) (hy : ev ρ y = some v)
    (h1 : oneTy P t = true) (hone : v.oneCell' = true) (hv : C[off]? = some u) (hC : C.setIfInBounds off v = C') : OpV P G ρ ((b, Obj.cells C te (0, 0)) :: L) (.store t x y) ty undef ((b, Obj.cells C' te (0, 0)) :: L) := by
  unfold oneTy at h1
  cases h2 : P.info? t with
  | none => simp [h2] at h1
  | some ti => simp [h2] at h1; exact hC ▸ op_store hx hy h2 h1 hone hv
theorem TL_st {ops : Array Oper} {x y : Operand} {pos : String} {after : Array Edge} {rest : List Oper} {b off : Nat} {t : TypeId} {C C' : Array Value} {te : TypeId} {v u : Value} (hx : ev ρ x = some (.pointer (some ⟨b, off, none⟩))) (hy : ev ρ y = some v)
    (h1 : oneTy P t = true) (hone : v.oneCell' = true) (hv : C[off]? = some u) (hC : C.setIfInBounds off v = C') (h : TL P G ops n ρ ((b, Obj.cells C' te (0, 0)) :: L) rest Q) :
    TL P G ops n ρ ((b, Obj.cells C te (0, 0)) :: L) (⟨none, .store t x y, ty, pos, after, none⟩ :: rest) Q := TL_opN (op_st hx hy h1 hone hv hC) h
theorem op_idx {x y : Operand} {b off m c sz bytes k : Nat} {t e : TypeId} {z : Value} (E : ElemTy P t e sz bytes z) (hx : ev ρ x = some (.slice (some ⟨b, off, none⟩) m c)) (hy : ev ρ y = some (.int .i64 (k : Nat))) (h1 : k < m) :
    OpQ P ρ L (.indexAddr t x y) ty (.pointer (some ⟨b, off + k * sz, none⟩)) := by
  obtain ⟨i, h2, h3, h4, h5⟩ := E.info
  have := op_indexAddr (P := P) (ρ := ρ) (L := L) (ty := ty) hx hy E.und h2 h4 (by omega) (by omega)
  simpa using this
theorem op_idxI {x y : Operand} {b off m c sz bytes : Nat} {i : Int} {t e : TypeId} {z : Value} (E : ElemTy P t e sz bytes z) (hx : ev ρ x = some (.slice (some ⟨b, off, none⟩) m c)) (hy : ev ρ y = some (.int .i64 i)) (h0 : 0 ≤ i) (h1 : i < m) :
    OpQ P ρ L (.indexAddr t x y) ty (.pointer (some ⟨b, off + i.toNat * sz, none⟩)) := by
  obtain ⟨ti, h2, h3, h4, h5⟩ := E.info
  exact op_indexAddr hx hy E.und h2 h4 h0 h1
theorem op_lit1 {t e : TypeId} {x : Operand} {bytes : Nat} {z v : Value} (E : ElemTy P t e 1 bytes z) (hx : ev ρ x = some v) (hone : v.oneCell' = true) :
    OpNew P G ρ L (.buildSlice t 1 #[(0, x)]) ty (fun b => .slice (some ⟨b, 0, none⟩) 1 1) (.cells #[v] e (0, 0)) := by
  obtain ⟨i, h2, h3, h4, h5⟩ := E.info
  exact op_buildSlice (ps := [(0, x)]) (vs := [(0, v)]) (by simp [evParts, hx]) (rowLit1 E.und h2 h4 h3 E.cells hone)
theorem op_lit0 {t e : TypeId} {bytes sz : Nat} {z : Value} (E : ElemTy P t e sz bytes z) : OpNew P G ρ L (.buildSlice t 0 #[]) ty (fun b => .slice (some ⟨b, 0, none⟩) 0 0) (.cells #[] e (0, 0)) := by
  obtain ⟨i, h2, h3, h4, h5⟩ := E.info
  exact op_buildSlice (ps := []) (vs := []) rfl (rowLit0 E.und h2)
theorem op_make {t e : TypeId} {x y : Operand} {sz bytes : Nat} {z : Value} {k k' : IntKind} {l c : Int} {C : Array Value} (E : ElemTy P t e sz bytes z) (hx : ev ρ x = some (.int k l)) (hy : ev ρ y = some (.int k' c)) (h0 : 0 ≤ l) (h1 : l ≤ c) (h2 : bytes * c ≤ 281474976710656) (h3 : c ≤ 9223372036854775807)
    (hC : madeCells z.cells (c.toNat * sz) = C) : OpNew P G ρ L (.makeSlice t x y) ty (fun b => .slice (some ⟨b, 0, none⟩) l.toNat c.toNat) (.cells C e (0, 0)) := by
  obtain ⟨i, q2, q3, q4, q5⟩ := E.info
  refine .run fun r hr w o ho _ => ?_
  have := run_make (P := P) w t e i z E.und q2 q3 k k' l c h0 h1 (by rw [q5]; exact h2) h3
  rw [q4, hC] at this
  simp [execOp, ho, hr _ _ hx, hr _ _ hy, this]
/-- The row that 'make' lays, with nothing in it yet. -/
theorem Row.made {e : TypeId} {sz b c : Nat} {C : Array Value} (hs : C.size = c * sz) (hc : c ≤ maxLen) : Row e sz (.slice (some ⟨b, 0, none⟩) 0 c) 0 [] [(b, .cells C e (0, 0))] :=
  ⟨by simp, Or.inr ⟨b, c, C, rfl, rfl, Nat.zero_le _, hc, hs, by simp⟩⟩
/-- What one cell of a new block holds, as what is appended. -/
theorem Src.one {b : Nat} {v : Value} {te : TypeId} (hm : (b, Obj.cells #[v] te (0, 0)) ∈ L) (hone : v.oneCell' = true) : Src L (.slice (some ⟨b, 0, none⟩) 1 1) 1 [v] 1 :=
  ⟨rfl, fun x hx => by simp at hx; subst hx; exact hone, Or.inr ⟨b, 0, 1, #[v], te, (0, 0), rfl, hm, fun j x hj => by
    cases j with
    | zero => simpa using hj
    | succ j => simp at hj⟩⟩
/-- 'string(b)' of a row. -/
theorem op_back_row {s d e : TypeId} {x : Operand} {v : Value} {l : List UInt8} {B : Blocks} (hx : ev ρ x = some v) (h1 : P.underlying s = some (.slice e)) (he : P.underlying e = some (.int .u8)) (h2 : P.underlying d = some .string)
    (hr : Row e 1 v l.length (l.map fun c => Value.int .u8 (c.toNat : Int)) B) (hB : ∀ p ∈ B, p ∈ L) : OpQ P ρ L (.convert s d x) ty (.string (bs l)) := by
  rcases hr.is with ⟨h3, h4, _⟩ | ⟨b, cap, cur, h3, h4, h5, h6, h7, h8⟩
  · subst h3
    have : l = [] := List.eq_nil_of_length_eq_zero h4
    subst this
    exact op_conv_back0 hx h1 he h2
  · subst h3
    refine op_conv_back (C := cur) (te := e) (fr := (0, 0)) l hx rfl h1 he h2 (hB _ (by rw [h4]; exact List.mem_cons_self ..)) (fun j hj => ?_)
    have : (cur.toList.take (l.length * 1))[j]? = some (Value.int .u8 (l[j].toNat : Int)) := by rw [h8]; simp [hj]
    rw [List.getElem?_take_of_lt (by omega)] at this
    simpa using this
/-- 'append(s, x)': the element has been laid into a block of its own. -/
theorem TL_app1 {ops : Array Oper} {d : Nat} {s x : Operand} {pos : String} {after : Array Edge} {rest : List Oper} {t e te : TypeId} {bytes bl : Nat} {z v u : Value} {m : Nat} {xs : List Value} {B : Blocks} (E : ElemTy P t e 1 bytes z)
    (hs : ev ρ s = some v) (hx : ev ρ x = some (.slice (some ⟨bl, 0, none⟩) 1 1)) (hrow : Row e 1 v m xs B) (hone : u.oneCell' = true) (h63 : m + 1 ≤ maxLen) (hby : (m + 1) * bytes ≤ 140737488355328) (hd : Nat.blt d n = true)
    (hr : ∀ v' B', Row e 1 v' (m + 1) (xs ++ [u]) B' → TL P G ops n ((d, v') :: ρ) (B' ++ L) rest Q) : TL P G ops n ρ ((bl, .cells #[u] te (0, 0)) :: (B ++ L)) (⟨some d, .call ⟨.builtin .append, #[s, x], #[t, t]⟩, ty, pos, after, none⟩ :: rest) Q :=
  TL_perm (L' := B ++ ((bl, .cells #[u] te (0, 0)) :: L)) List.perm_middle.symm (TL_append E hs hx hrow (Src.one (List.mem_cons_self ..) hone) h63 hby hd fun v' B' h => TL_heap (fun w hw => hw.sub ((List.Sublist.refl B').append (List.sublist_cons_self _ _))) (hr v' B' h))
theorem TL_appS {ops : Array Oper} {d : Nat} {s x : Operand} {pos : String} {after : Array Edge} {rest : List Oper} {t e tu : TypeId} {v : Value} {m : Nat} {xs : List Value} {l : List UInt8} {B : Blocks} (E : ElemTy P t e 1 1 (.int .u8 0)) (hu : P.underlying tu = some .string)
    (hs : ev ρ s = some v) (hx : ev ρ x = some (.string (bs l))) (hrow : Row e 1 v m xs B) (h63 : m + l.length ≤ 140737488355328) (hd : Nat.blt d n = true)
    (hr : ∀ v' B', Row e 1 v' (m + l.length) (xs ++ l.map fun c => Value.int .u8 (c.toNat : Int)) B' → TL P G ops n ((d, v') :: ρ) (B' ++ L) rest Q) : TL P G ops n ρ (B ++ L) (⟨some d, .call ⟨.builtin .append, #[s, x], #[t, tu]⟩, ty, pos, after, none⟩ :: rest) Q :=
  TL_opT (op_append_str E hu hs hx hrow h63) hd fun v' _ ⟨B', h1, h2⟩ => h2 ▸ hr v' B' h1
theorem Outcome.mono {K K' : Value → World → Prop} (h : ∀ v w, K v w → K' v w) {r : Result Next} (hr : Outcome P K r) : Outcome P K' r := by
  match r, hr with
  | .ok (.value v) w, hr => exact h _ _ hr
  | .ok .skip w, hr => exact h _ _ hr
  | .ok (.enter f args) w, hr => exact Calls.mono hr fun e w' ⟨v, h1, h2⟩ => ⟨v, h1, h _ _ h2⟩
theorem OpT.heap {op : Op} {Φ : Value → Blocks → Prop} {L' : Blocks} (hl : ∀ w, Heap G w L → Heap G w L') (h : OpT P G ρ L' op ty Φ) : OpT P G ρ L op ty Φ := ⟨fun r hr w hw => h.out r hr w (hl w hw)⟩
theorem OpT.post {op : Op} {Φ Ψ : Value → Blocks → Prop} (h : OpT P G ρ L op ty Φ) (hp : ∀ v M, Φ v M → ∃ M', Ψ v M' ∧ ∀ w, Heap G w M → Heap G w M') : OpT P G ρ L op ty Ψ :=
  ⟨fun r hr w hw o ho ht => Outcome.mono (fun v w' ⟨M, h1, h2⟩ => let ⟨M', h3, h4⟩ := hp v M h1; ⟨M', h3, h4 w' h2⟩) (h.out r hr w hw o ho ht)⟩
theorem op_app1 {s x : Operand} {t e te : TypeId} {bytes bl : Nat} {z v u : Value} {m : Nat} {xs : List Value} {B : Blocks} (E : ElemTy P t e 1 bytes z) (hs : ev ρ s = some v) (hx : ev ρ x = some (.slice (some ⟨bl, 0, none⟩) 1 1))
    (hrow : Row e 1 v m xs B) (hone : u.oneCell' = true) (h63 : m + 1 ≤ maxLen) (hby : (m + 1) * bytes ≤ 140737488355328) :
    OpT P G ρ ((bl, .cells #[u] te (0, 0)) :: (B ++ L)) (.call ⟨.builtin .append, #[s, x], #[t, t]⟩) ty fun v' L' => ∃ B', Row e 1 v' (m + 1) (xs ++ [u]) B' ∧ L' = B' ++ L :=
  (OpT.heap (L' := B ++ ((bl, .cells #[u] te (0, 0)) :: L)) (fun w hw => hw.perm List.perm_middle.symm) (op_append E hs hx hrow (Src.one (List.mem_cons_self ..) hone) h63 hby)).post fun v' M ⟨B', h1, h2⟩ =>
    ⟨B' ++ L, ⟨B', h1, rfl⟩, fun w hw => (h2 ▸ hw : Heap G w (B' ++ _)).sub ((List.Sublist.refl B').append (List.sublist_cons_self _ _))⟩
theorem TA_perm {ops : Array Oper} {K : Blocks} {W : List Nat} {L' : Blocks} {fuel : Nat} {listed : Array Bool} (he : L.Perm L') (h : TA P G ops n K W Q fuel listed ρ L') : TA P G ops n K W Q fuel listed ρ L := TA_heap (fun w hw => hw.perm he) (fun hk p hp => he.mem_iff.2 (hk p hp)) h
/-- 's[:j]' of a slice -/
theorem op_slice_to {x hi : Operand} {a : Option Addr} {m c : Nat} {k : IntKind} {j : Int} {t e : TypeId} {sz bytes : Nat} {z : Value} (E : ElemTy P t e sz bytes z) (hx : ev ρ x = some (.slice a m c)) (hhi : ev ρ hi = some (.int k j)) (h0 : 0 ≤ j) (h1 : j ≤ c) :
    OpQ P ρ L (.slice t x none (some hi) none) ty (.slice a j.toNat c) :=
  ⟨fun r hr w hw o ho _ => by
    obtain ⟨i, q2, q3, q4, q5⟩ := E.info
    have e1 : (if c = 0 then a else a.map (·.add (0 * i.size))) = a := by
      split
      · rfl
      · cases a <;> simp [Addr.add]
    simp [execOp, ho, hr _ _ hx, hr _ _ hhi, Instr.sliceAt, run_underlying E.und, Instr.slice, Instr.sliceBounds, Instr.sliceBound, asIntOf, h0, h1, sizeOf, typeInfo, q2]
    simpa using e1⟩
theorem Row.cut0 {e : TypeId} {sz : Nat} {a : Option Addr} {m m' c : Nat} {xs : List Value} {B : Blocks} (h : Row e sz (.slice a m c) m' xs B) : Row e sz (.slice a 0 c) 0 [] B := by
  rcases h.is with ⟨h1, h2, h3⟩ | ⟨b, cap, cur, h1, h2, h3, h4, h5, h6⟩
  · cases h1; subst h3; exact Row.nil e sz
  · cases h1
    exact ⟨by simp, Or.inr ⟨b, _, cur, rfl, h2, Nat.zero_le _, h4, h5, by simp⟩⟩
theorem Row.len_eq {e : TypeId} {sz : Nat} {a : Option Addr} {m m' c : Nat} {xs : List Value} {B : Blocks} (h : Row e sz (.slice a m c) m' xs B) : m = m' := by
  rcases h.is with ⟨h1, h2, _⟩ | ⟨b, cap, cur, h1, _⟩
  · cases h1; exact h2.symm
  · cases h1; rfl
theorem TQ_ret0 {fn : Func} {Φ : Value → Blocks → Prop} (hr : fn.results = #[]) (h : Φ (.tuple #[]) L) : TQ G n ρ L .ret (bodyPost P fn (RetPost G Φ)) :=
  ⟨fun a w he hw => ⟨he.defers, .tuple #[], by simp only [results, hr]; simp, _, L, rfl, h, hw⟩⟩
theorem TQ_ret2 {fn : Func} {Φ : Value → Blocks → Prop} (t u : Nat) (v x : Value) (hr : fn.results = #[.tmp t, .tmp u]) (hv : ρ.lookup t = some v) (hx : ρ.lookup u = some x) (h : Φ (.tuple #[v, x]) L) : TQ G n ρ L .ret (bodyPost P fn (RetPost G Φ)) :=
  ⟨fun a w he hw => ⟨he.defers, .tuple #[v, x], by
    have h1 : a.tmps.getD t undef = v := he.reads (.tmp t) v hv
    have h2 : a.tmps.getD u undef = x := he.reads (.tmp u) x hx
    simp only [results, hr]
    simp
    exact ⟨by simpa using h1, by simpa using h2⟩, _, L, rfl, h, hw⟩⟩
theorem TQ_fall {fn : Func} {Φ : Value → Blocks → Prop} (h : TQ G n ρ L .ret (bodyPost P fn (RetPost G Φ))) : TQ G n ρ L .normal (bodyPost P fn (RetPost G Φ)) := ⟨fun a w he hw => h.out a w he hw⟩
end Go.Proofs.Ytpamoacgajlkeaa
