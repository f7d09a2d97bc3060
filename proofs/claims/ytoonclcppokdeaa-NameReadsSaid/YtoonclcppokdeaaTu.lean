/-
  THE WALK of hustingslaw01.turned; letters of either case.
-/
import Derived.Test.YtoonclcppokdeaaAw
import Derived.Test.YtoonclcppokdeaaOrd
import Derived.Lib.ConvBytes
namespace Go.Proofs.Ytoonclcppokdeaa
open Go.RowKit
set_option linter.unusedVariables false
section
variable {G : World} {P : Program} {n : Nat} {ρ : Slots} {L : Blocks} {ty : TypeId} {Q : Exit → Act → World → Prop}
/-- '[]byte(s)': a row whose end is marked. -/
theorem op_conv_bytes {s d e : TypeId} {u : TypeDesc} {x : Operand} {l : List UInt8} (hx : ev ρ x = some (.string (bs l))) (hs : P.underlying s = some u) (hd : P.underlying d = some (.slice e)) (he : P.underlying e = some (.int .u8)) :
    OpT P G ρ L (.convert s d x) ty fun v L' => ∃ b cap C, v = .slice (some ⟨b, 0, none⟩) l.length cap ∧ L' = (b, .cells C e (C.size, C.size + 1)) :: L ∧ l.length ≤ C.size ∧ ∀ j c, l[j]? = some c → C[0 + j * 1]? = some (.int .u8 (c.toNat : Int)) :=
  ⟨fun r hr w hw o ho _ => by
    have hrun := Lib.run_convert_string_bytes (P := P) w s d e (bs l) hs hd he
    have : (execOp r o).run P w = .ok (.value (.slice (some ⟨w.heap.size, 0, none⟩) (bs l).size (grownCap w (bs l).size 0 e))) (Lib.bytesWorld w e (bs l)) := by
      simp [execOp, ho, hr _ _ hx, hrun]
    rw [this]
    refine ⟨_, ⟨w.heap.size, _, Lib.bytesCells w e (bs l), by rw [bs_size], rfl, ?_, fun j c hj => ?_⟩, ?_⟩
    · simp [Lib.bytesCells, bs]
    · have hjl := (List.getElem?_eq_some_iff.1 hj).1
      have := Lib.bytesWorld_cell w e (bs l) j (by rw [bs_size]; exact hjl)
      unfold World.cell? at this
      rw [Lib.bytesWorld_at_new] at this
      simp only [bs_data, List.getD_eq_getElem?_getD, hj, Option.getD_some] at this
      simpa using this
    · exact hw.new ⟨by simp [Lib.bytesWorld, World.freeze, World.alloc, World.drew, -World.alloc_eq, -World.drew_eq], by simp [Lib.bytesWorld, World.freeze, World.alloc, World.drew, -World.alloc_eq, -World.drew_eq], by simp [Lib.bytesWorld, World.freeze, World.alloc, World.drew, -World.alloc_eq, -World.drew_eq], by rw [Lib.bytesWorld_size]; omega⟩ (Lib.bytesWorld_at_new w e (bs l)) (fun j hj => Lib.bytesWorld_at_old w e (bs l) j hj)⟩
theorem TL_stF {ops : Array Oper} {x y : Operand} {pos : String} {after : Array Edge} {rest : List Oper} {b off lo hi : Nat} {t : TypeId} {C : Array Value} {te : TypeId} {k : IntKind} {v : Int} {u : Value} (hx : ev ρ x = some (.pointer (some ⟨b, off, none⟩))) (hy : ev ρ y = some (.int k v))
    (h1 : oneTy P t = true) (hv : C[off]? = some u) (hlo : off < lo) (h : TL P G ops n ρ ((b, Obj.cells (C.setIfInBounds off (.int k v)) te (lo, hi)) :: L) rest Q) :
    TL P G ops n ρ ((b, Obj.cells C te (lo, hi)) :: L) (⟨none, .store t x y, ty, pos, after, none⟩ :: rest) Q := by
  have key : OpV P G ρ ((b, Obj.cells C te (lo, hi)) :: L) (.store t x y) ty undef ((b, Obj.cells (C.setIfInBounds off (.int k v)) te (lo, hi)) :: L) := by
    unfold oneTy at h1
    cases h2 : P.info? t with
    | none => simp [h2] at h1
    | some ti =>
      simp [h2] at h1
      exact ⟨fun r hr w hw o ho _ => by
        have hc := hw.cell (List.mem_cons_self ..) hv
        have hf : w.frozen? ⟨b, off, none⟩ = false := by unfold World.frozen?; rw [hw.get _ (List.mem_cons_self ..)]; simp; omega
        have hrun : (execOp r o).run P w = .ok .skip (w.setCell ⟨b, off, none⟩ (.int k v)) := by
          simp only [execOp, ho, hr _ _ hx, hr _ _ hy]
          simp [Instr.storeAt, Instr.sureAddr, storeVar, sizeOf, typeInfo, h2, h1, Value.cells, storeCells, addr_add, store, Sem.run, hc, hf]
        rw [hrun]
        refine ⟨_, ⟨rfl, rfl⟩, ?_⟩
        have h0 := hw.get _ (List.mem_cons_self ..)
        refine hw.update ⟨rfl, rfl, rfl, by simp [World.setCell]⟩ ?_ (fun j hj hne => Below.heap_setCell w _ _ j hne)
        show (w.heap.modify b _)[b]? = _
        rw [Array.getElem?_modify, if_pos rfl, h0]
        rfl⟩
  exact TL_opN key h
theorem bin_xor32 {t : TypeId} (c : UInt8) : Bin P .xor t (.int .u8 (c.toNat : Int)) (.int .u8 32) (.int .u8 ((c ^^^ 32).toNat : Int)) := ⟨fun x y w => by
  have hv : ∀ c : Fin 256, IntKind.wrap .u8 ((c.val % 2 ^ IntKind.bits .u8 ^^^ 32 % 2 ^ IntKind.bits .u8 : Nat) : Int) = ((c.val ^^^ 32 : Nat) : Int) := by decide +kernel
  have hc := hv ⟨c.toNat, c.toNat_lt⟩
  simp [eqGuard, binOp, Op.intBits]
  exact hc⟩
end
/-- The bytes of a slice. -/
def ByteRow (L : Blocks) (v : Value) (l : Nm.Bytes) : Prop :=
  ∃ a cap, v = .slice a l.length cap ∧ (l = [] ∨ ∃ b off C te fr, a = some ⟨b, off, none⟩ ∧ (b, Obj.cells C te fr) ∈ L ∧ ∀ i (x : UInt8), l[i]? = some x → C[off + i * 1]? = some (.int .u8 (x.toNat : Int)))
def letter (c : UInt8) : Bool := (decide (97 ≤ c) && decide (c ≤ 122)) || (decide (65 ≤ c) && decide (c ≤ 90))
theorem lowB_xor (c : UInt8) (h : letter c = true) : Nm.lowB (c ^^^ 32) = Nm.lowB c := by
  have hv : ∀ c : Fin 256, letter (UInt8.ofNat c.val) = true → Nm.lowB (UInt8.ofNat c.val ^^^ 32) = Nm.lowB (UInt8.ofNat c.val) := by decide +kernel
  have := hv ⟨c.toNat, c.toNat_lt⟩
  simp only [UInt8.ofNat_toNat] at this
  exact this h
theorem lowB_len (c d : UInt8) (h : Nm.lowB c = d) (hd : d.toNat < 65) : c = d := by
  have hv : ∀ c : Fin 256, (Nm.lowB (UInt8.ofNat c.val)).toNat < 65 → UInt8.ofNat c.val = Nm.lowB (UInt8.ofNat c.val) := by decide +kernel
  have := hv ⟨c.toNat, c.toNat_lt⟩
  simp only [UInt8.ofNat_toNat] at this
  rw [this (by rw [h]; exact hd), h]
theorem low_enc_inv : ∀ (ls : List Nm.Bytes) (c : Nm.Bytes), Nm.Ok ls → Nm.low c = Nm.low (Nm.enc ls) → ∃ ls', c = Nm.enc ls' ∧ Nm.Ok ls' ∧ Nm.lowL ls' = Nm.lowL ls
  | [], c, _, h => by
    match c, h with
    | [x], h =>
      simp [Nm.low, Nm.enc] at h
      have : Nm.lowB 0 = 0 := by decide
      exact ⟨[], by simp [Nm.enc]; exact lowB_len x 0 (by rw [h, this]) (by decide), Nm.ok_nil, rfl⟩
    | [], h => simp [Nm.low, Nm.enc] at h
    | _ :: _ :: _, h => simp [Nm.low, Nm.enc] at h
  | l :: ls, c, hok, h => by
    obtain ⟨hl, hok2⟩ := Nm.ok_cons.1 hok
    have e : (UInt8.ofNat l.length).toNat = l.length := by simp; omega
    have e1 : Nm.lowB (UInt8.ofNat l.length) = UInt8.ofNat l.length := Nm.lowB_small _ (by rw [e]; omega)
    have h2 : Nm.low (Nm.enc (l :: ls)) = UInt8.ofNat l.length :: (Nm.low l ++ Nm.low (Nm.enc ls)) := by
      simp [Nm.enc, Nm.low, e1]
    rw [h2] at h
    match c, h with
    | [], h => simp [Nm.low] at h
    | x :: c', h =>
      simp only [Nm.low, List.map_cons, List.cons.injEq] at h
      obtain ⟨hx, hc⟩ := h
      have hx' := lowB_len x _ hx (by rw [e]; omega)
      obtain ⟨p, q, rfl, hp, hq⟩ := List.map_eq_append_iff.1 hc
      obtain ⟨ls', rfl, ho, hL⟩ := low_enc_inv ls q hok2 hq
      have hpl : p.length = l.length := by have := congrArg List.length hp; simpa using this
      refine ⟨p :: ls', ?_, Nm.ok_cons.2 ⟨by omega, ho⟩, ?_⟩
      · simp [Nm.enc, hpl, hx']
      · simp only [Nm.lowL, List.map_cons] at hL ⊢
        rw [hL]; congr 1
theorem turned_law {a c : Nm.Bytes} (ha : Nm.may a = true) (h : Nm.low c = Nm.low a) : Nm.may c = true ∧ revL c = revL a := by
  obtain ⟨ls, hls⟩ := Nm.nm_of_may ha
  obtain ⟨h1, h2, h3⟩ := Nm.nm_iff.1 hls
  rw [h1] at h
  obtain ⟨ls', e1, e2, e3⟩ := low_enc_inv ls c h2 h
  have hlen : c.length = (Nm.enc ls).length := by have := congrArg List.length h; simpa [Nm.low] using this
  have hc : Nm.nm c = some ls' := Nm.nm_iff.2 ⟨e1, e2, by rw [hlen, ← h1]; exact h3⟩
  exact ⟨Nm.may_some hc, by simp [revL, Nm.labels, hc, hls, e3]⟩
end Go.Proofs.Ytoonclcppokdeaa
