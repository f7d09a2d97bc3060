/-
  THE OPERATIONS as steps of the separation logic (Sl). No program in sight.
-/
import Derived.Test.YtpamoacgajlkeaaSl
namespace Go.Proofs.Ytpamoacgajlkeaa
open Go.RowKit
set_option linter.unusedVariables false
variable {G : World} {P : Program} {n : Nat} {ρ : Slots} {L : Blocks} {ty : TypeId}

theorem OpV.run {op : Op} {v : Value} {L' : Blocks} (h : ∀ r, Reads ρ r → ∀ w, Heap G w L → ∀ o : Oper, o.op = op → o.type = ty → ∃ w', (execOp r o).run P w = .ok (.value v) w' ∧ Heap G w' L') : OpV P G ρ L op ty v L' :=
  ⟨fun r hr w hw o ho ht => by
    obtain ⟨w', h1, h2⟩ := h r hr w hw o ho ht
    rw [h1]
    exact ⟨L', ⟨rfl, rfl⟩, h2⟩⟩
/-- A run that changes no world. -/
theorem OpV.pure {op : Op} {v : Value} (h : ∀ r, Reads ρ r → ∀ w, Heap G w L → ∀ o : Oper, o.op = op → o.type = ty → (execOp r o).run P w = .ok (.value v) w) : OpV P G ρ L op ty v L :=
  OpV.run fun r hr w hw o ho ht => ⟨w, h r hr w hw o ho ht, hw⟩

/-- What blocks are known to be there. -/
structure Has (w : World) (L : Blocks) : Prop where
  get : ∀ p, p ∈ L → w.heap[p.1]? = some p.2
theorem Has.cell {w : World} {L : Blocks} {b : Nat} {C : Array Value} {e : TypeId} {fr : Nat × Nat} (h : Has w L) (hm : (b, Obj.cells C e fr) ∈ L) {off : Nat} {v : Value} (hv : C[off]? = some v) :
    w.cell? ⟨b, off, none⟩ = some v := by
  unfold World.cell?
  rw [h.get _ hm]
  simpa using hv
theorem Heap.has {w : World} (h : Heap G w L) : Has w L := ⟨h.get⟩
/-- An operation that only computes and reads. -/
structure OpQ (P : Program) (ρ : Slots) (L : Blocks) (op : Op) (ty : TypeId) (v : Value) : Prop where
  out : ∀ r, Reads ρ r → ∀ w, Has w L → ∀ o : Oper, o.op = op → o.type = ty → (execOp r o).run P w = .ok (.value v) w
theorem OpQ.v {op : Op} {v : Value} (h : OpQ P ρ L op ty v) : OpV P G ρ L op ty v L := .pure fun r hr w hw o ho ht => h.out r hr w hw.has o ho ht

theorem op_move {x : Operand} {v : Value} (hx : ev ρ x = some v) : OpQ P ρ L (.move x) ty v :=
  ⟨fun r hr w hw o ho _ => by simp [execOp, ho, hr x v hx]⟩
theorem op_assign {x : Operand} {v : Value} (hx : ev ρ x = some v) : OpQ P ρ L (.assign x) ty v :=
  ⟨fun r hr w hw o ho _ => by simp [execOp, ho, hr x v hx]⟩
theorem op_pick {c a b : Operand} {t : Bool} {v : Value} (hc : ev ρ c = some (.bool t)) (hv : ev ρ (if t then a else b) = some v) : OpQ P ρ L (.pick c a b) ty v :=
  ⟨fun r hr w hw o ho _ => by
    have h1 := hr _ _ hv
    simp [execOp, ho, hr _ _ hc, asBool]
    cases t <;> simpa using h1⟩
theorem op_extract {x : Operand} {vs : Array Value} {i : Nat} {v : Value} (hx : ev ρ x = some (.tuple vs)) (hv : vs[i]? = some v) : OpQ P ρ L (.extract x i) ty v :=
  ⟨fun r hr w hw o ho _ => by simp [execOp, ho, hr _ _ hx, Instr.extract, hv]⟩
theorem op_nilCheck {x : Operand} {a : Addr} (hx : ev ρ x = some (.pointer (some a))) : OpQ P ρ L (.nilCheck x) ty (.pointer (some a)) :=
  ⟨fun r hr w hw o ho _ => by simp [execOp, ho, hr _ _ hx]⟩
theorem op_not {x : Operand} {t : TypeId} {b : Bool} (hx : ev ρ x = some (.bool b)) : OpQ P ρ L (.unOp .not t x) ty (.bool (!b)) :=
  ⟨fun r hr w hw o ho _ => by simp [execOp, ho, hr _ _ hx, Op.unary]⟩

/-! ### numbers -/
def InK : IntKind → Int → Prop
  | .i64, a => -9223372036854775808 ≤ a ∧ a ≤ 9223372036854775807
  | .u8, a => 0 ≤ a ∧ a ≤ 255
  | .u16, a => 0 ≤ a ∧ a ≤ 65535
  | .u32, a => 0 ≤ a ∧ a ≤ 4294967295
  | .u64, a => 0 ≤ a ∧ a ≤ 18446744073709551615
  | .i32, a => -2147483648 ≤ a ∧ a ≤ 2147483647
  | _, _ => False
theorem wrap_in {k : IntKind} {a : Int} (h : InK k a) : k.wrap a = a := by
  cases k <;> first | exact IntWalk.i64_in _ h | exact IntWalk.u8_in _ h | exact IntWalk.u16_in _ h | exact IntWalk.u32_in _ h | exact IntWalk.u64_in _ h | exact IntWalk.i32_in _ h | exact h.elim

/-- What an operator makes of two values. -/
structure Bin (P : Program) (op : BinOp) (t : TypeId) (a b v : Value) : Prop where
  out : ∀ (x y : Operand) w, (do eqGuard op t x y a b; binOp op t a b : Sem Value).run P w = .ok v w
theorem op_bin {op : BinOp} {t yt : TypeId} {x y : Operand} {a b v : Value} (hx : ev ρ x = some a) (hy : ev ρ y = some b) (h : Bin P op t a b v) : OpQ P ρ L (.binOp op t x y yt) ty v :=
  ⟨fun r hr w hw o ho _ => by
    have h1 := h.out x y w
    simp only [execOp, ho, hr _ _ hx, hr _ _ hy]
    rw [Sem.run_bind, h1]
    rfl⟩
section
variable {t : TypeId} {k : IntKind} {a b : Int}
theorem bin_add (h : InK k (a + b)) : Bin P .add t (.int k a) (.int k b) (.int k (a + b)) := ⟨fun x y w => by simp [eqGuard, binOp, Op.intArith, wrap_in h]⟩
theorem bin_sub (h : InK k (a - b)) : Bin P .sub t (.int k a) (.int k b) (.int k (a - b)) := ⟨fun x y w => by simp [eqGuard, binOp, Op.intArith, wrap_in h]⟩
theorem bin_mul (h : InK k (a * b)) : Bin P .mul t (.int k a) (.int k b) (.int k (a * b)) := ⟨fun x y w => by simp [eqGuard, binOp, Op.intArith, wrap_in h]⟩
theorem bin_addW : Bin P .add t (.int k a) (.int k b) (.int k (k.wrap (a + b))) := ⟨fun x y w => by simp [eqGuard, binOp, Op.intArith]⟩
theorem bin_subW : Bin P .sub t (.int k a) (.int k b) (.int k (k.wrap (a - b))) := ⟨fun x y w => by simp [eqGuard, binOp, Op.intArith]⟩
theorem bin_mulW : Bin P .mul t (.int k a) (.int k b) (.int k (k.wrap (a * b))) := ⟨fun x y w => by simp [eqGuard, binOp, Op.intArith]⟩
theorem bin_quo (h1 : 0 ≤ a) (h2 : 1 ≤ b) (h : InK k (a / b)) : Bin P .quo t (.int k a) (.int k b) (.int k (a / b)) := ⟨fun x y w => by
  have hb : b ≠ 0 := by omega
  simp [eqGuard, binOp, Op.intDiv, hb, Int.tdiv_eq_ediv_of_nonneg h1, wrap_in h]⟩
theorem bin_rem (h1 : 0 ≤ a) (h2 : 1 ≤ b) : Bin P .rem t (.int k a) (.int k b) (.int k (a % b)) := ⟨fun x y w => by
  have hb : b ≠ 0 := by omega
  simp [eqGuard, binOp, Op.intDiv, hb, Int.tmod_eq_emod_of_nonneg h1]⟩
theorem bin_eql : Bin P .eql t (.int k a) (.int k b) (.bool (a == b)) := ⟨fun x y w => by simp [eqGuard, binOp, Op.intCmp]⟩
theorem bin_neq : Bin P .neq t (.int k a) (.int k b) (.bool (a != b)) := ⟨fun x y w => by simp [eqGuard, binOp, Op.intCmp]⟩
theorem bin_lss : Bin P .lss t (.int k a) (.int k b) (.bool (decide (a < b))) := ⟨fun x y w => by simp [eqGuard, binOp, Op.intCmp]⟩
theorem bin_leq : Bin P .leq t (.int k a) (.int k b) (.bool (decide (a ≤ b))) := ⟨fun x y w => by simp [eqGuard, binOp, Op.intCmp]⟩
theorem bin_gtr : Bin P .gtr t (.int k a) (.int k b) (.bool (decide (b < a))) := ⟨fun x y w => by simp [eqGuard, binOp, Op.intCmp]⟩
theorem bin_geq : Bin P .geq t (.int k a) (.int k b) (.bool (decide (b ≤ a))) := ⟨fun x y w => by simp [eqGuard, binOp, Op.intCmp]⟩
end
/-! ### strings -/
def bs (l : List UInt8) : ByteArray := ⟨l.toArray⟩
@[simp] theorem bs_data (l : List UInt8) : (bs l).data.toList = l := rfl
@[simp] theorem bs_toList (l : List UInt8) : (bs l).toList = l := by rw [ByteArray.toList_eq]; rfl
@[simp] theorem bs_size (l : List UInt8) : (bs l).size = l.length := by simp [bs, ByteArray.size]
section
variable {t : TypeId} {a b : List UInt8}
theorem sbin_eql : Bin P .eql t (.string (bs a)) (.string (bs b)) (.bool (a == b)) := ⟨fun x y w => by simp [eqGuard, binOp, Op.stringOp]⟩
theorem sbin_neq : Bin P .neq t (.string (bs a)) (.string (bs b)) (.bool (!(a == b))) := ⟨fun x y w => by simp [eqGuard, binOp, Op.stringOp]⟩
theorem sbin_lss : Bin P .lss t (.string (bs a)) (.string (bs b)) (.bool (Op.bytesLess a b)) := ⟨fun x y w => by simp [eqGuard, binOp, Op.stringOp]⟩
theorem sbin_gtr : Bin P .gtr t (.string (bs a)) (.string (bs b)) (.bool (!(Op.bytesLess a b || a == b))) := ⟨fun x y w => by simp [eqGuard, binOp, Op.stringOp]⟩
theorem bs_append : bs a ++ bs b = bs (a ++ b) := by
  apply ByteArray.ext
  simp [bs]
theorem sbin_add (h : a.length + b.length ≤ 9223372036854775807) : Bin P .add t (.string (bs a)) (.string (bs b)) (.string (bs (a ++ b))) := ⟨fun x y w => by
  simp [eqGuard, binOp, Op.stringOp, bs_append]
  omega⟩
end
/-- booleans, pointers -/
theorem equal_open (t : TypeId) (x y : Value) : Op.equal t x y = Op.equalIn (9999 + 1) t x y := rfl
theorem equalIn_bool {t : TypeId} {a b : Bool} (d : Nat) (w : World) (h : P.underlying t = some .bool) : (Op.equalIn (d + 1) t (.bool a) (.bool b)).run P w = .ok (a == b) w := by simp [Op.equalIn, run_underlying h]
theorem equalIn_nil {t e : TypeId} {a : Option Addr} (d : Nat) (w : World) (h : P.underlying t = some (.pointer e)) : (Op.equalIn (d + 1) t (.pointer a) (.pointer none)).run P w = .ok a.isNone w := by
  cases a <;> simp [Op.equalIn, run_underlying h]
theorem bbin_eql {t : TypeId} {a b : Bool} (h : P.underlying t = some .bool) : Bin P .eql t (.bool a) (.bool b) (.bool (a == b)) := ⟨fun x y w => by
  simp only [eqGuard, binOp, equal_open]
  simp [equalIn_bool 9999 w h]⟩
theorem bbin_neq {t : TypeId} {a b : Bool} (h : P.underlying t = some .bool) : Bin P .neq t (.bool a) (.bool b) (.bool (!(a == b))) := ⟨fun x y w => by
  simp only [eqGuard, binOp, equal_open]
  simp [equalIn_bool 9999 w h]⟩
theorem pbin_eql {t e : TypeId} {a : Option Addr} (h : P.underlying t = some (.pointer e)) : Bin P .eql t (.pointer a) (.pointer none) (.bool a.isNone) := ⟨fun x y w => by
  simp only [eqGuard, binOp, equal_open]
  simp [equalIn_nil 9999 w h]⟩
theorem pbin_neq {t e : TypeId} {a : Option Addr} (h : P.underlying t = some (.pointer e)) : Bin P .neq t (.pointer a) (.pointer none) (.bool (!a.isNone)) := ⟨fun x y w => by
  simp only [eqGuard, binOp, equal_open]
  simp [equalIn_nil 9999 w h]⟩

/-! ### conversions -/
theorem op_conv_int {s d : TypeId} {sd : TypeDesc} {k k' : IntKind} {x : Operand} {a : Int} (hx : ev ρ x = some (.int k a)) (h1 : P.underlying s = some sd) (h2 : P.underlying d = some (.int k')) (h : InK k' a) :
    OpQ P ρ L (.convert s d x) ty (.int k' a) :=
  ⟨fun r hr w hw o ho _ => by simp [execOp, ho, hr _ _ hx, convert, run_underlying h1, run_underlying h2, Conv.intToInt, wrap_in h]⟩
theorem op_conv_intW {s d : TypeId} {sd : TypeDesc} {k k' : IntKind} {x : Operand} {a : Int} (hx : ev ρ x = some (.int k a)) (h1 : P.underlying s = some sd) (h2 : P.underlying d = some (.int k')) :
    OpQ P ρ L (.convert s d x) ty (.int k' (k'.wrap a)) :=
  ⟨fun r hr w hw o ho _ => by simp [execOp, ho, hr _ _ hx, convert, run_underlying h1, run_underlying h2, Conv.intToInt]⟩
theorem op_conv_str {s d : TypeId} {sd : TypeDesc} {x : Operand} {a : ByteArray} (hx : ev ρ x = some (.string a)) (h1 : P.underlying s = some sd) (h2 : P.underlying d = some .string) :
    OpQ P ρ L (.convert s d x) ty (.string a) :=
  ⟨fun r hr w hw o ho _ => by simp [execOp, ho, hr _ _ hx, convert, run_underlying h1, run_underlying h2]⟩
/-- 'string(b)' -/
theorem op_conv_back {s d e : TypeId} {x : Operand} {b off cap : Nat} {C : Array Value} {te : TypeId} {fr : Nat × Nat} (l : List UInt8) {m : Nat} (hx : ev ρ x = some (.slice (some ⟨b, off, none⟩) m cap)) (hl : m = l.length)
    (h1 : P.underlying s = some (.slice e)) (he : P.underlying e = some (.int .u8)) (h2 : P.underlying d = some .string) (hm : (b, Obj.cells C te fr) ∈ L) (hc : ∀ j (hj : j < l.length), C[off + j]? = some (.int .u8 (l[j].toNat : Int))) :
    OpQ P ρ L (.convert s d x) ty (.string (bs l)) :=
  ⟨fun r hr w hw o ho _ => by
    subst hl
    simp [execOp, ho, hr _ _ hx]
    rw [run_convert_bytes_back w s d e ⟨b, off, none⟩ cap l h1 he h2 (fun j hj => by
      have : (⟨b, off, none⟩ : Addr).add j = ⟨b, off + j, none⟩ := by
        unfold Addr.add; split
        · rename_i h; subst h; rfl
        · rfl
      rw [this]; exact hw.cell hm (hc j hj))]
    rfl⟩
theorem op_conv_back0 {s d e : TypeId} {x : Operand} {m c : Nat} (hx : ev ρ x = some (.slice none m c)) (h1 : P.underlying s = some (.slice e)) (he : P.underlying e = some (.int .u8)) (h2 : P.underlying d = some .string) :
    OpQ P ρ L (.convert s d x) ty (.string (bs [])) :=
  ⟨fun r hr w hw o ho _ => by
    simp [execOp, ho, hr _ _ hx, convert, run_underlying h1, run_underlying h2, run_underlying he, Conv.bytesToString]
    rfl⟩
/-! ### builtins without memory -/
theorem op_len_str {x : Operand} {s : List UInt8} {t : TypeId} (hx : ev ρ x = some (.string (bs s))) (ht : P.underlying t = some .string) : OpQ P ρ L (.call ⟨.builtin .len, #[x], #[t]⟩) ty (.int .i64 s.length) :=
  ⟨fun r hr w hw o ho _ => by simp [execOp, ho, hr _ _ hx, resolve, invoke, builtin, Builtin.len_, run_underlying ht, goInt]⟩
theorem op_len_slice {x : Operand} {a : Option Addr} {m c : Nat} {t e : TypeId} (hx : ev ρ x = some (.slice a m c)) (ht : P.underlying t = some (.slice e)) : OpQ P ρ L (.call ⟨.builtin .len, #[x], #[t]⟩) ty (.int .i64 m) :=
  ⟨fun r hr w hw o ho _ => by simp [execOp, ho, hr _ _ hx, resolve, invoke, builtin, Builtin.len_, run_underlying ht, goInt]⟩
/-! ### addresses -/
theorem addr_add (b o j : Nat) : (⟨b, o, none⟩ : Addr).add j = ⟨b, o + j, none⟩ := by
  unfold Addr.add; split
  · rename_i h; subst h; rfl
  · rfl
theorem op_index_str {x y : Operand} {s : List UInt8} {i : Int} {k : IntKind} {c : UInt8} {t : TypeId} (hx : ev ρ x = some (.string (bs s))) (hy : ev ρ y = some (.int k i)) (ht : P.underlying t = some .string) (h0 : 0 ≤ i) (hc : s[i.toNat]? = some c) :
    OpQ P ρ L (.index t x y) ty (.int .u8 (c.toNat : Int)) :=
  ⟨fun r hr w hw o ho _ => by
    have : (bs s)[i.toNat]? = some c := by
      obtain ⟨h1, h2⟩ := List.getElem?_eq_some_iff.1 hc
      rw [getElem?_pos (bs s) i.toNat (by rw [bs_size]; exact h1), ← h2]
      rfl
    simp [execOp, ho, hr _ _ hx, hr _ _ hy, Instr.index, asIntOf, run_underlying ht, h0, this]⟩
theorem op_indexAddr {x y : Operand} {b off m c sz : Nat} {i : Int} {k : IntKind} {t e : TypeId} {ti : TypeInfo} (hx : ev ρ x = some (.slice (some ⟨b, off, none⟩) m c)) (hy : ev ρ y = some (.int k i))
    (ht : P.underlying t = some (.slice e)) (hi : P.info? e = some ti) (hz : ti.size = sz) (h0 : 0 ≤ i) (h1 : i < m) : OpQ P ρ L (.indexAddr t x y) ty (.pointer (some ⟨b, off + i.toNat * sz, none⟩)) :=
  ⟨fun r hr w hw o ho _ => by simp [execOp, ho, hr _ _ hx, hr _ _ hy, Instr.indexAt, asIntOf, run_underlying ht, h0, h1, sizeOf, typeInfo, hi, hz, addr_add]⟩
theorem op_fieldAddr {x : Operand} {b off : Nat} {s f : Nat} {fs : Array Field} {fi : Field} {ti : TypeInfo} {fo : Nat} (hx : ev ρ x = some (.pointer (some ⟨b, off, none⟩)))
    (ht : P.underlying s = some (.struct fs)) (hf : fs[f]? = some fi) (hi : P.info? fi.type = some ti) (hz : Nat.beq ti.size 0 = false) (hfo : fi.offset = fo) :
    OpQ P ρ L (.fieldAddr s x f) ty (.pointer (some ⟨b, off + fo, none⟩)) :=
  ⟨fun r hr w hw o ho _ => by
    have hz' : ti.size ≠ 0 := Nat.ne_of_beq_eq_false hz
    simp [execOp, ho, hr _ _ hx, Instr.fieldAt, run_underlying ht, hf, Instr.sureAddr, fieldPlace, sizeOf, typeInfo, hi, hz', addr_add, hfo]⟩
/-! ### loads and stores -/
def plainDesc : TypeDesc → Bool
  | .struct _ | .array _ _ => false
  | _ => true
theorem op_load {x : Operand} {b off : Nat} {t : TypeId} {d : TypeDesc} {C : Array Value} {te : TypeId} {fr : Nat × Nat} {v : Value} (hx : ev ρ x = some (.pointer (some ⟨b, off, none⟩)))
    (ht : P.underlying t = some d) (hd : plainDesc d = true) (hm : (b, Obj.cells C te fr) ∈ L) (hv : C[off]? = some v) : OpQ P ρ L (.load t x) ty v :=
  ⟨fun r hr w hw o ho _ => by
    have hc := hw.cell hm hv
    have ha : (isAgg t).run P w = .ok false w := by
      unfold isAgg
      simp [run_underlying ht]
      cases d <;> first | rfl | cases hd
    simp [execOp, ho, hr _ _ hx, Instr.loadAt, Instr.sureAddr, loadVar, ha, load, Sem.run, hc]⟩
theorem Heap.store {w : World} {b off : Nat} {C : Array Value} {te : TypeId} {v : Value} (h : Heap G w ((b, Obj.cells C te (0, 0)) :: L)) : Heap G (w.setCell ⟨b, off, none⟩ v) ((b, Obj.cells (C.setIfInBounds off v) te (0, 0)) :: L) := by
  have h0 := h.get _ (List.mem_cons_self ..)
  refine h.update ⟨rfl, rfl, rfl, by simp [World.setCell]⟩ ?_ (fun j hj hne => Below.heap_setCell w _ v j hne)
  show (w.heap.modify b _)[b]? = _
  rw [Array.getElem?_modify, if_pos rfl, h0]
  rfl
theorem TL_q {ops : Array Oper} {d : Nat} {op : Op} {pos : String} {after : Array Edge} {rest : List Oper} {v : Value} {Q : Exit → Act → World → Prop}
    (h : OpQ P ρ L op ty v) (hd : Nat.blt d n = true) (hr : TL P G ops n ((d, v) :: ρ) L rest Q) : TL P G ops n ρ L (⟨some d, op, ty, pos, after, none⟩ :: rest) Q := TL_op h.v hd hr
theorem TL_gq {ops : Array Oper} {d j dj : Nat} {op : Op} {pos : String} {after : Array Edge} {rest : List Oper} {v : Value} {want : Bool} {Q : Exit → Act → World → Prop}
    (hs : guardSlot ops j = some dj) (hv : ρ.lookup dj = some (.bool want))
    (h : OpQ P ρ L op ty v) (hd : Nat.blt d n = true) (hr : TL P G ops n ((d, v) :: ρ) L rest Q) : TL P G ops n ρ L (⟨some d, op, ty, pos, after, some (j, want)⟩ :: rest) Q := TL_g hs hv h.v hd hr
theorem op_store {x y : Operand} {b off : Nat} {t : TypeId} {ti : TypeInfo} {C : Array Value} {te : TypeId} {v u : Value} (hx : ev ρ x = some (.pointer (some ⟨b, off, none⟩))) (hy : ev ρ y = some v)
    (hi : P.info? t = some ti) (hz : ti.size = 1) (hone : v.oneCell' = true) (hv : C[off]? = some u) : OpV P G ρ ((b, Obj.cells C te (0, 0)) :: L) (.store t x y) ty undef ((b, Obj.cells (C.setIfInBounds off v) te (0, 0)) :: L) :=
  ⟨fun r hr w hw o ho _ => by
    have hc := hw.cell (List.mem_cons_self ..) hv
    have hf : w.frozen? ⟨b, off, none⟩ = false := by unfold World.frozen?; rw [hw.get _ (List.mem_cons_self ..)]; simp
    have hrun : (execOp r o).run P w = .ok .skip (w.setCell ⟨b, off, none⟩ v) := by
      simp only [execOp, ho, hr _ _ hx, hr _ _ hy]
      cases v <;> first | (cases hone; done) | simp [Instr.storeAt, Instr.sureAddr, storeVar, sizeOf, typeInfo, hi, hz, Value.cells, storeCells, addr_add, store, Sem.run, hc, hf]
    rw [hrun]
    exact ⟨_, ⟨rfl, rfl⟩, hw.store⟩⟩
end Go.Proofs.Ytpamoacgajlkeaa
