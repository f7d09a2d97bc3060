/-
  STRUCTS in the walk: a load of all cells, a row of one struct.
-/
import Derived.Test.YtpamoacgajlkeaaSlTy
import Derived.Test.YtpamoacgajlkeaaSlMore
import Derived.Laws.Cells
namespace Go.Proofs.Ytpamoacgajlkeaa
open Go.RowKit
set_option linter.unusedVariables false
section
variable {G : World} {P : Program} {n : Nat} {ρ : Slots} {L : Blocks} {ty : TypeId} {Q : Exit → Act → World → Prop}
/-- A struct's type: how many cells. -/
def structTy (P : Program) (t : TypeId) (k : Nat) : Bool := (match P.underlying t with | some (.struct _) => true | _ => false) && (match P.info? t with | some i => i.size == k | none => false)
theorem op_ldA {x : Operand} {b off : Nat} {t : TypeId} {C : Array Value} {te : TypeId} {fr : Nat × Nat} (cs : List Value) (hx : ev ρ x = some (.pointer (some ⟨b, off, none⟩)))
    (ht : structTy P t cs.length = true) (hm : (b, Obj.cells C te fr) ∈ L) (hv : ∀ j v, cs[j]? = some v → C[off + j]? = some v) : OpQ P ρ L (.load t x) ty (.agg cs.toArray) :=
  ⟨fun r hr w hw o ho _ => by
    unfold structTy at ht
    cases hu : P.underlying t with
    | none => simp [hu] at ht
    | some d =>
      cases hi : P.info? t with
      | none => simp [hi] at ht
      | some i =>
        cases d with
        | struct fs =>
          simp [hu, hi] at ht
          have ha : (isAgg t).run P w = .ok true w := by
            unfold isAgg
            simp [run_underlying hu]
          have hc := run_loadCells_list (P := P) (w := w) ⟨b, off, none⟩ cs (fun j v hj => by rw [addr_add]; exact hw.cell hm (hv j v hj))
          simp [execOp, ho, hr _ _ hx, Instr.loadAt, Instr.sureAddr, loadVar, ha, sizeOf, typeInfo, hi, ht, hc]
        | _ => simp [hu] at ht⟩
theorem rowLitA3 {t e : TypeId} {z v0 v1 v2 : Value} {bytes : Nat} (E : ElemTy P t e 3 bytes z) (h0 : v0.oneCell' = true) (h1 : v1.oneCell' = true) (h2 : v2.oneCell' = true) : RowLit P t 1 [(0, .agg #[v0, v1, v2])] e #[v0, v1, v2] :=
  ⟨fun w => by
    obtain ⟨i, q2, q3, q4, q5⟩ := E.info
    have hr3 : Array.range 3 = #[0, 1, 2] := by decide
    simp [Instr.buildSlice, run_underlying E.und, sizeOf, typeInfo, q2, q4, zeroValue, q3, Instr.fill, Value.cells, newRow, hr3]⟩
/-- All of a block. -/
theorem op_ldAll {x : Operand} {b k : Nat} {t : TypeId} {C : Array Value} {te : TypeId} {fr : Nat × Nat} (hx : ev ρ x = some (.pointer (some ⟨b, 0, none⟩)))
    (ht : structTy P t k = true) (hm : (b, Obj.cells C te fr) ∈ L) (hk : C.size = k) : OpQ P ρ L (.load t x) ty (.agg C) := by
  have := op_ldA (P := P) (ρ := ρ) (L := L) (ty := ty) (t := t) (te := te) (fr := fr) (C := C) C.toList hx (by rw [Array.length_toList, hk]; exact ht) hm (fun j v hj => by rw [Nat.zero_add]; simpa using hj)
  simpa using this
/-- A row's cells from one place on. -/
def putAt (C : Array Value) (o : Nat) (vs : List Value) : Array Value := (C.toList.take o ++ vs ++ C.toList.drop (o + vs.length)).toArray
theorem op_stA {x y : Operand} {b off : Nat} {t : TypeId} {C : Array Value} {te : TypeId} {cs : List Value} (hx : ev ρ x = some (.pointer (some ⟨b, off, none⟩))) (hy : ev ρ y = some (.agg cs.toArray))
    (ht : structTy P t cs.length = true) (hone : ∀ v ∈ cs, v.oneCell' = true) (hv : off + cs.length ≤ C.size) : OpV P G ρ ((b, Obj.cells C te (0, 0)) :: L) (.store t x y) ty undef ((b, Obj.cells (putAt C off cs) te (0, 0)) :: L) :=
  ⟨fun r hr w hw o ho _ => by
    unfold structTy at ht
    cases hi : P.info? t with
    | none => simp [hi] at ht
    | some i =>
      simp [hi] at ht
      have hb := hw.get _ (List.mem_cons_self ..)
      have hs := run_storeCells_at P b off te cs 0 C w hb (by simpa using hv) hone
      have hrun : (execOp r o).run P w = .ok .skip (w.setRow b (putAt C off cs)) := by
        simp only [execOp, ho, hr _ _ hx, hr _ _ hy]
        simp [Instr.storeAt, Instr.sureAddr, storeVar, sizeOf, typeInfo, hi, ht, Value.cells, hs, putAt]
      rw [hrun]
      exact ⟨_, ⟨rfl, rfl⟩, hw.update ⟨rfl, rfl, rfl, by simp [World.setRow]⟩ (setRow_heap w b C _ te _ hb) (fun j hj hne => by simp [World.setRow, Array.getElem?_modify, Ne.symm hne])⟩⟩
def allOne (C : Array Value) : Bool := C.toList.all (·.oneCell')
/-- All of the first block is written. -/
theorem TL_stAll {ops : Array Oper} {x y : Operand} {pos : String} {after : Array Edge} {rest : List Oper} {b k : Nat} {t : TypeId} {C D : Array Value} {te : TypeId} (hx : ev ρ x = some (.pointer (some ⟨b, 0, none⟩))) (hy : ev ρ y = some (.agg D))
    (ht : structTy P t k = true) (hC : C.size = k) (hD : D.size = k) (hone : allOne D = true) (h : TL P G ops n ρ ((b, Obj.cells D te (0, 0)) :: L) rest Q) : TL P G ops n ρ ((b, Obj.cells C te (0, 0)) :: L) (⟨none, .store t x y, ty, pos, after, none⟩ :: rest) Q := by
  have h1 := op_stA (G := G) (P := P) (ρ := ρ) (L := L) (ty := ty) (b := b) (C := C) (te := te) (t := t) (cs := D.toList) hx (by simpa using hy) (by rw [Array.length_toList, hD]; exact ht) (fun v hv => List.all_eq_true.1 hone v hv) (by rw [Array.length_toList, hD, hC]; omega)
  have h2 : putAt C 0 D.toList = D := by
    unfold putAt
    rw [List.drop_eq_nil_of_le (by simp; omega)]
    simp
  rw [h2] at h1
  exact TL_opN h1 h
/-- A literal of elements, each of so many cells. -/
theorem fill_row {sz : Nat} : ∀ (vs : List Value) (k : Nat) (pre rest : List Value), (∀ v ∈ vs, v.cells.size = sz) → pre.length = k * sz → rest.length = vs.length * sz →
    Instr.fill (fun i => some (i * sz, sz)) (pre ++ rest).toArray ((vs.zipIdx k).map fun p => (p.2, p.1)) = some (pre ++ vs.flatMap (·.cells.toList)).toArray
  | [], k, pre, rest, _, _, hr => by
    have : rest = [] := List.eq_nil_of_length_eq_zero (by simpa using hr)
    simp [Instr.fill, this]
  | v :: vs, k, pre, rest, hv, hp, hr => by
    have h1 := hv v (List.mem_cons_self ..)
    simp only [List.zipIdx_cons, List.map_cons, Instr.fill]
    have hlen : (v :: vs).length * sz = vs.length * sz + sz := by rw [List.length_cons, Nat.succ_mul]
    rw [if_neg (by simp [h1]; omega)]
    have key : ∀ (cs : List Value) (m : Nat) (pre rest : List Value), pre.length = k * sz + m → cs.length ≤ rest.length →
        (cs.zipIdx m).foldl (fun (a : Array Value) (p : Value × Nat) => a.setIfInBounds (k * sz + p.2) p.1) (pre ++ rest).toArray = (pre ++ cs ++ rest.drop cs.length).toArray := by
      intro cs
      induction cs with
      | nil => intro m pre rest _ _; simp
      | cons c cs ih =>
        intro m pre rest hp hl
        match rest, hl with
        | r :: rest, hl =>
          simp only [List.zipIdx_cons, List.foldl_cons]
          have e : (pre ++ r :: rest).toArray.setIfInBounds (k * sz + m) c = ((pre ++ [c]) ++ rest).toArray := by
            apply Array.ext'
            rw [Array.toList_setIfInBounds, ← hp]
            simp
          rw [e, ih (m + 1) (pre ++ [c]) rest (by simp; omega) (by simpa using hl)]
          simp
    have e1 : v.cells.zipIdx.foldl (fun cs (x : Value × Nat) => cs.setIfInBounds (k * sz + x.2) x.1) (pre ++ rest).toArray = (pre ++ v.cells.toList ++ rest.drop sz).toArray := by
      have := key v.cells.toList 0 pre rest (by simpa using hp) (by simp [h1]; omega)
      rw [← Array.foldl_toList, Array.toList_zipIdx]
      rw [this]
      simp [h1]
    show Instr.fill _ (v.cells.zipIdx.foldl (fun cs (x : Value × Nat) => cs.setIfInBounds (k * sz + x.2) x.1) (pre ++ rest).toArray) _ = _
    rw [e1]
    have := fill_row vs (k + 1) (pre ++ v.cells.toList) (rest.drop sz) (fun u hu => hv u (List.mem_cons_of_mem _ hu)) (by simp [h1, hp, Nat.succ_mul]) (by simp; omega)
    rw [this]
    simp
theorem rowLitG {t e : TypeId} {z : Value} {sz bytes len : Nat} {C : Array Value} (E : ElemTy P t e sz bytes z) (vs : List Value) (hn : vs.length = len) (hv : ∀ v ∈ vs, v.cells.size = sz) (hlim : len * sz ≤ 16777216) (hC : (vs.flatMap (·.cells.toList)).toArray = C) :
    RowLit P t len (vs.zipIdx.map fun p => (p.2, p.1)) e C :=
  ⟨fun w => by
    obtain ⟨i, q2, q3, q4, q5⟩ := E.info
    subst hn hC
    have hf := fill_row vs 0 [] (((List.range (vs.length * sz)).map fun j => z.cells[j % z.cells.size]!)) hv (by simp) (by simp)
    simp only [List.nil_append] at hf
    by_cases h0 : vs.length * sz = 0
    · have hvs : vs = [] := by
        rcases Nat.mul_eq_zero.1 h0 with h | h
        · exact List.eq_nil_of_length_eq_zero h
        · have := E.pos; omega
      subst hvs
      simp [Instr.buildSlice, run_underlying E.und, sizeOf, typeInfo, q2, newRow, Instr.fill, Array.range_zero']
    · have hf' : Instr.fill (fun i => some (i * sz, sz)) ((Array.range (vs.length * sz)).map fun j => z.cells[j % z.cells.size]!) (vs.zipIdx.map fun p => (p.2, p.1)) = some (vs.flatMap (·.cells.toList)).toArray := by
        rw [← hf]
        congr 1
        apply Array.ext'
        simp
      have hl2 : ¬ (16777216 < vs.length * sz) := by omega
      simp [Instr.buildSlice, run_underlying E.und, sizeOf, typeInfo, q2, q4, hl2, h0, zeroValue, q3, hf', newRow]⟩
end
end Go.Proofs.Ytpamoacgajlkeaa
