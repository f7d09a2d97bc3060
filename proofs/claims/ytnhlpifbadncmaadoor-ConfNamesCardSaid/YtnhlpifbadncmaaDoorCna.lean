/-
  More.
-/
import Derived.Test.YtnhlpifbadncmaaDoorCu8
import Derived.Test.YtnhlpifbadncmaaDoorCu1
import Derived.Test.YtnhlpifbadncmaaDoorCu2
import Derived.Test.YtnhlpifbadncmaaDoorCu3
import Derived.Test.YtnhlpifbadncmaaDoorCu4
import Derived.Test.YtnhlpifbadncmaaDoorCu5
import Derived.Test.YtnhlpifbadncmaaDoorCu6
import Derived.Test.YtnhlpifbadncmaaDoorCu7
import Derived.Laws.MakeOwn
import Derived.Lib.AppendStr
import Derived.Lib.MinMax
import Derived.ScopeJumps
namespace Go.Proofs.YtnhlpifbadncmaaDoor
open Go.RowKit Go.Lib
set_option linter.unusedVariables false
set_option linter.unusedSimpArgs false
variable {G : World} {P : Program} {n : Nat} {ρ : Slots} {L : Blocks} {ty : TypeId} {Q : Exit → Act → World → Prop}

/-! ### blocks in a list: one to the front, one away -/
/-! ### new blocks -/
/-! ### rows of one's own -/
/-! ### slices of slices and strings -/
theorem op_slice_from {x lo : Operand} {s : List UInt8} {k : IntKind} {i : Int} {t : TypeId} (hx : ev ρ x = some (.string (bs s))) (hlo : ev ρ lo = some (.int k i)) (ht : P.underlying t = some .string)
    (h0 : 0 ≤ i) (h1 : i ≤ s.length) : OpQ P ρ L (.slice t x (some lo) none none) ty (.string (bs (s.drop i.toNat))) :=
  ⟨fun r hr w hw o ho _ => by
    have e : (bs s).extract i.toNat s.length = bs (s.drop i.toNat) := by
      apply ByteArray.ext
      rw [ByteArray.data_extract]
      simp [bs, List.extract_eq_take_drop]
      exact List.take_of_length_le (by simp)
    simp [execOp, ho, hr _ _ hx, hr _ _ hlo, Instr.sliceAt, run_underlying ht, Instr.slice, Instr.sliceBounds, Instr.sliceBound, asIntOf, h0, h1, e]⟩

/-! ### calls -/
/-! ### returns -/
end Go.Proofs.YtnhlpifbadncmaaDoor
namespace Go.Proofs.YtnhlpifbadncmaaDoor
open Go.RowKit
theorem pl_26 : plainTy Tryd.prog 26 = true := by kernel_rfl
theorem zero_64 : zeroOf Tryd.prog 64 = some (.agg #[(.string (bs [])), (.int .u8 0), (.int .u16 0), (.int .i64 0)]) := by kernel_rfl
theorem st_64 : structTy Tryd.prog 64 4 = true := by kernel_rfl
theorem info_65 : (Tryd.prog.info? 64).map (fun i => (i.zero, i.size, i.bytes)) = some (some (.agg #[(.string (bs [])), (.int .u8 0), (.int .u16 0), (.int .i64 0)]), 4, 32) := by kernel_rfl
theorem ety_65 : ElemTy Tryd.prog 65 64 4 32 (.agg #[(.string (bs [])), (.int .u8 0), (.int .u16 0), (.int .i64 0)]) := by
  obtain ⟨i, h1, h2, h3, h4⟩ := info_parts info_65
  exact ⟨Tryd.underlying65, ⟨i, h1, h2, h3, h4⟩, rfl, by decide⟩
theorem zero_66 : zeroOf Tryd.prog 66 = some (.agg #[(.string (bs [])), (.int .i64 0), (.int .i64 0)]) := by kernel_rfl
theorem st_66 : structTy Tryd.prog 66 3 = true := by kernel_rfl
theorem info_67 : (Tryd.prog.info? 66).map (fun i => (i.zero, i.size, i.bytes)) = some (some (.agg #[(.string (bs [])), (.int .i64 0), (.int .i64 0)]), 3, 32) := by kernel_rfl
theorem ety_67 : ElemTy Tryd.prog 67 66 3 32 (.agg #[(.string (bs [])), (.int .i64 0), (.int .i64 0)]) := by
  obtain ⟨i, h1, h2, h3, h4⟩ := info_parts info_67
  exact ⟨Tryd.underlying67, ⟨i, h1, h2, h3, h4⟩, rfl, by decide⟩
theorem bl_25_0_1_2_3_4_5_6_8_9_11 (x0 : Int) (x1 : Int) (x2 : Int) (x3 : Int) (x4 : Int) (x5 : Int) (x6 : Int) (x7 : Int) (x8 : Int) (x9 : Int) : Built Tryd.prog 25 [(0, .int .i64 x0), (1, .int .i64 x1), (2, .int .i64 x2), (3, .int .i64 x3), (4, .int .i64 x4), (5, .int .i64 x5), (6, .int .i64 x6), (8, .int .i64 x7), (9, .int .i64 x8), (11, .int .i64 x9)] (.agg #[.int .i64 x0, .int .i64 x1, .int .i64 x2, .int .i64 x3, .int .i64 x4, .int .i64 x5, .int .i64 x6, (.int .i64 0), .int .i64 x7, .int .i64 x8, (.int .i64 0), .int .i64 x9, (.slice none 0 0)]) := ⟨fun w => by kernel_rfl⟩
theorem bl_38_0_1 (x0 : ByteArray) (x1 : Int) : Built Tryd.prog 38 [(0, .string x0), (1, .int .u8 x1)] (.agg #[.string x0, .int .u8 x1, (.int .u16 0)]) := ⟨fun w => by kernel_rfl⟩
theorem bl_38_0_1_2 (x0 : ByteArray) (x1 : Int) (x2 : Int) : Built Tryd.prog 38 [(0, .string x0), (1, .int .u8 x1), (2, .int .u16 x2)] (.agg #[.string x0, .int .u8 x1, .int .u16 x2]) := ⟨fun w => by kernel_rfl⟩
theorem bl_64_0_1 (x0 x1 x2 : Value) (x3 : Int) : Built Tryd.prog 64 [(0, .agg #[x0, x1, x2]), (1, .int .i64 x3)] (.agg #[x0, x1, x2, .int .i64 x3]) := ⟨fun w => by kernel_rfl⟩
theorem bl_66_0_1_2 (x0 : ByteArray) (x1 : Int) (x2 : Int) : Built Tryd.prog 66 [(0, .string x0), (1, .int .i64 x1), (2, .int .i64 x2)] (.agg #[.string x0, .int .i64 x1, .int .i64 x2]) := ⟨fun w => by kernel_rfl⟩
theorem hb_14 : hasBody Tryd.prog 14 = true := by kernel_rfl
theorem hb_15 : hasBody Tryd.prog 15 = true := by kernel_rfl
theorem hb_35 : hasBody Tryd.prog 35 = true := by kernel_rfl
end Go.Proofs.YtnhlpifbadncmaaDoor
namespace Go.Proofs.YtnhlpifbadncmaaDoor
open Go.RowKit
set_option linter.unusedVariables false
set_option linter.unusedSimpArgs false
variable {G : World} {P : Program} {n : Nat} {ρ : Slots} {L : Blocks} {ty : TypeId} {Q : Exit → Act → World → Prop}
/-- A store into the second block. -/
theorem TL_st2 {ops : Array Oper} {x y : Operand} {pos : String} {after : Array Edge} {rest : List Oper} {b off : Nat} {t : TypeId} {C C' : Array Value} {te : TypeId} {v u : Value} {p : Nat × Obj} (hx : ev ρ x = some (.pointer (some ⟨b, off, none⟩))) (hy : ev ρ y = some v)
    (h1 : oneTy P t = true) (hone : v.oneCell' = true) (hv : C[off]? = some u) (hC : C.setIfInBounds off v = C') (h : TL P G ops n ρ (p :: (b, Obj.cells C' te (0, 0)) :: L) rest Q) :
    TL P G ops n ρ (p :: (b, Obj.cells C te (0, 0)) :: L) (⟨none, .store t x y, ty, pos, after, none⟩ :: rest) Q :=
  TL_perm (List.Perm.swap _ _ _) (TL_st hx hy h1 hone hv hC (TL_perm (List.Perm.swap _ _ _) h))
end Go.Proofs.YtnhlpifbadncmaaDoor
namespace Go.Proofs.YtnhlpifbadncmaaDoor
open Go.RowKit
set_option linter.unusedVariables false
set_option linter.unusedSimpArgs false
variable {G : World} {P : Program} {n : Nat} {ρ : Slots} {L : Blocks} {ty : TypeId} {Q : Exit → Act → World → Prop}
section
variable {α : Type} {r : Rp α} {sz : Nat}
end
theorem TA_cnt {ops : Array Oper} {K : Blocks} {W : List Nat} {L' : Blocks} {fuel : Nat} {listed : Array Bool} (h : TA P G ops n K W Q fuel listed ρ L') (hc : ∀ p, cnt p L' = cnt p L) : TA P G ops n K W Q fuel listed ρ L :=
  TA_heap (fun w hw => hw.cnt fun p => Nat.le_of_eq (hc p)) (fun hk p hp => mem_of_cnt (fun q => Nat.le_of_eq (hc q)) p (hk p hp)) h
end Go.Proofs.YtnhlpifbadncmaaDoor
namespace Go.Proofs.YtnhlpifbadncmaaDoor
open Go.RowKit
open Cn (Zo Cf)
set_option linter.unusedVariables false
set_option linter.unusedSimpArgs false
--auto
section
variable {G : World} {P : Program} {n : Nat} {ρ : Slots} {L : Blocks} {ty : TypeId}
/-- A call of a function value. -/
theorem op_callW {f : FuncId} {x : Operand} {xs : List Operand} {ats : Array TypeId} {vs cap : List Value} {Φ : Value → Blocks → Prop} (hb : hasBody P f = true) (hx : ev ρ x = some (.func (.func f) #[] cap.toArray)) (ha : evArgs ρ xs = some vs) (h : Spec P G f (vs ++ cap).toArray L Φ) :
    OpT P G ρ L (.call ⟨.value x, xs.toArray, ats⟩) ty Φ :=
  ⟨fun r hr w hw o ho _ => by
    have hm := evArgs_map hr xs vs ha
    have hrf := hr _ _ hx
    have : execOp r o = callFunc f (vs ++ cap).toArray := by
      simp only [execOp, ho, resolve, hrf, Deferred.ofValue]
      show invoke (.fn (.func f) cap.toArray) _ = _
      simp only [invoke, List.map_toArray, hm]
      simp
    rw [this, run_callFunc hb]
    refine (h.out w hw).mono fun e w' ⟨v, L', h1, h2, h3⟩ => ⟨v, h1, L', h2, h3⟩⟩
end
variable {G : World} {L : Blocks}
set_option maxRecDepth 100000 in
set_option maxHeartbeats 4000000 in
theorem zwith_S (zs : List Zo) (v : Value) (hz : sliceR 3 zoR L [v] zs) (hs : ∀ z ∈ zs, z.name.length ≤ 1000000) : Spec Tryd.prog G 35 #[v] L fun u M => u = .int .i64 (mayE1 { exC with zs := zs }) ∧ M = L := by
  obtain ⟨a, cap, e, hz⟩ := hz.val
  obtain rfl := (List.cons.inj e).1
  clear e
  refine Spec_of (n := 9) Tryd.func35 rfl rfl rfl ?_
  repeat ((first | with_reducible refine T_seq ?_ | with_reducible refine T_region ?_ | with_reducible refine TL_nil ?_ | with_reducible refine TQ_then ?_ | refine TL_q (op_assign rfl) rfl ?_))
  refine TL_op (op_call hb_25 rfl example_S) rfl ?_
  repeat ((first | with_reducible refine T_seq ?_ | with_reducible refine T_region ?_ | with_reducible refine TL_nil ?_ | with_reducible refine TQ_then ?_ | refine TL_q (op_move rfl) rfl ?_ | refine TL_q (op_fld rfl fld_25_12) rfl ?_ | (refine' TL_q (op_ldAll rfl st_25 ?_ ?_) rfl ?_; rotate_left 3; (· repeat ((exact List.mem_cons_self))); (· (rfl))) | (refine' TL_st rfl rfl one_23 rfl ?_ rfl ?_; rotate_left 1; (· (rfl))) | (refine TL_stAll rfl rfl st_25 rfl rfl rfl ?_) | (refine TL_new (op_alloc (C := #[(.int .i64 0), (.int .i64 0), (.int .i64 0), (.int .i64 0), (.int .i64 0), (.int .i64 0), (.int .i64 0), (.int .i64 0), (.int .i64 0), (.int .i64 0), (.int .i64 0), (.int .i64 0), (.slice none 0 0)]) zero_25 rfl) rfl ?_; intro bNew)))
  obtain ⟨b3, hb3⟩ : ∃ b, bNew = b := ⟨_, rfl⟩
  rw [hb3]
  clear hb3 bNew
  have hset : (cfCells exC (.slice none 0 0)).toArray.setIfInBounds (0 + 12) (.slice a zs.length cap) = (cfCells { exC with zs := zs } (.slice a zs.length cap)).toArray := rfl
  rw [hset]
  refine TL_op (op_call hb_11 rfl (pMay_S { exC with zs := zs } (.slice a zs.length cap) ⟨mono_slice mono_zo _ _ _ _ (mem_of_cnt (by intro p; (try simp only [cnt_append, cnt_cons, cnt_nil]) <;> omega)) hz, hs⟩)) rfl ?_
  repeat ((first | with_reducible refine TL_nil ?_ | with_reducible refine TQ_then ?_ | with_reducible refine T_ret ?_ | refine TL_q (op_assign rfl) rfl ?_))
  refine TQ_heap (fun w h => h.tail) ?_
  refine TQ_ret1 2 _ rfl rfl ?_
  exact ⟨rfl, rfl⟩
end Go.Proofs.YtnhlpifbadncmaaDoor
namespace Go.Proofs.YtnhlpifbadncmaaDoor
open Go.RowKit
open Cn (Zo Cf)
set_option linter.unusedVariables false
set_option linter.unusedSimpArgs false
--auto
theorem flat_get {α : Type} {f : α → List Value} {sz : Nat} (hf : ∀ x, (f x).length = sz) : ∀ (l : List α) (i j : Nat) (x : α) (v : Value), l[i]? = some x → (f x)[j]? = some v → (l.flatMap f)[i * sz + j]? = some v
  | [], i, j, x, v, h, _ => by simp at h
  | a :: t, 0, j, x, v, h, hv => by
    obtain rfl : a = x := by simpa using h
    rw [List.flatMap_cons, Nat.zero_mul, Nat.zero_add, List.getElem?_append_left (List.getElem?_eq_some_iff.1 hv).1]
    exact hv
  | a :: t, i + 1, j, x, v, h, hv => by
    have := flat_get hf t i j x v (by simpa using h) hv
    rw [List.flatMap_cons, List.getElem?_append_right (by rw [hf]; rw [Nat.add_mul]; omega), hf]
    rwa [show (i + 1) * sz + j - sz = i * sz + j by rw [Nat.add_mul]; omega]
def zoC (z : Zo) : List Value := [.string (bs z.name), .int .u8 (z.pol : Nat), .int .u16 (z.tru : Nat)]
def zoOk (z : Zo) : Prop := z.name.length ≤ 1000000 ∧ z.pol ≤ 255 ∧ z.tru ≤ 65535
section
variable {L : Blocks}
theorem lit_zs {b : Nat} {C : Array Value} {te : TypeId} {fr : Nat × Nat} (zs : List Zo) (hC : (zs.flatMap zoC).toArray = C) (hm : (b, Obj.cells C te fr) ∈ L) (hz : ∀ z ∈ zs, zoOk z) (hl : zs.length ≤ 1000) : sliceR 3 zoR L [.slice (some ⟨b, 0, none⟩) zs.length zs.length] zs :=
  ⟨_, _, rfl, Nat.le_refl _, by unfold maxLen; omega, Or.inr ⟨b, 0, C, te, fr, rfl, hm, fun i x hx => ⟨zoC x, rfl, by
    obtain ⟨h1, h2, h3⟩ := hz x (List.mem_of_getElem? hx)
    exact ⟨rfl, by unfold maxLen; omega, h2, h3⟩, fun j v hj => by
    subst hC
    rw [Nat.zero_add]
    rw [List.getElem?_toArray]; exact flat_get (f := zoC) (sz := 3) (fun _ => rfl) zs i j x v hx hj⟩⟩⟩
end
theorem fld_64_0 : fieldOff Tryd.prog 64 0 = some 0 := by kernel_rfl
theorem fld_64_1 : fieldOff Tryd.prog 64 1 = some 3 := by kernel_rfl
theorem cells43 {a b c d v : Value} {j : Nat} (hj : [a, b, c][j]? = some v) : ([a, b, c, d] : List Value).toArray[0 + j]? = some v := by
  rw [Nat.zero_add, List.getElem?_toArray]
  match j, hj with
  | 0, h => exact h
  | 1, h => exact h
  | 2, h => exact h
  | n + 3, h => simp at h
def zcase : List (Zo × Int) := [(⟨[0], 1, 0⟩, 0), (⟨[1, 97, 0], 4, 0⟩, 0), (⟨[1, 65, 0], 1, 0⟩, 1), (⟨[], 1, 0⟩, 1), (⟨[0], 0, 0⟩, 1), (⟨[0], 5, 0⟩, 1), (⟨[0], 2, 1⟩, 1), (⟨[0], 3, 0⟩, 1), (⟨[0], 3, 7⟩, 0), (⟨[0], 3, 8⟩, 1), (⟨[0], 3, 32768⟩, 1)]
def zcC (x : Zo × Int) : List Value := [.string (bs x.1.name), .int .u8 (x.1.pol : Nat), .int .u16 (x.1.tru : Nat), .int .i64 x.2]
theorem zcase_may : ∀ x ∈ zcase, mayE1 { exC with zs := [x.1] } = x.2 := by decide +kernel
theorem zcase_ok : ∀ x ∈ zcase, zoOk x.1 := by unfold zoOk; decide +kernel
def manyZ (j : Nat) : List Zo := (List.range j).map fun i => ⟨[1, UInt8.ofNat (97 + i), 0], 2, 0⟩
theorem manyZ_len (j : Nat) : (manyZ j).length = j := by simp [manyZ]
theorem manyZ_succ (j : Nat) : manyZ (j + 1) = manyZ j ++ [⟨[1, UInt8.ofNat (97 + j), 0], 2, 0⟩] := by simp [manyZ, List.range_succ]
theorem many_may : mayE1 { exC with zs := manyZ 16 } = 0 ∧ mayE1 { exC with zs := manyZ 16 ++ [⟨[0], 2, 0⟩] } = 1 := by decide +kernel
theorem two_may : mayE1 { exC with zs := [⟨[0], 1, 0⟩, ⟨[1, 98, 0], 2, 0⟩] } = 0 ∧ mayE1 { exC with zs := [⟨[0], 1, 0⟩, ⟨[0], 1, 0⟩] } = 1 ∧ mayE1 { exC with zs := [⟨[0], 1, 0⟩, ⟨[1, 98, 0], 2, 0⟩, ⟨[0], 1, 0⟩] } = 1 := by decide +kernel
variable {G : World} {L : Blocks}
set_option maxRecDepth 100000 in
set_option maxHeartbeats 8000000 in
theorem zones_S : Spec Tryd.prog G 14 #[] L fun u M => u = .bool true ∧ M = L := by
  refine Spec_of (n := 96) Tryd.func14 rfl rfl rfl ?_
  repeat ((first | with_reducible refine T_seq ?_ | with_reducible refine T_region ?_ | with_reducible refine TL_nil ?_ | with_reducible refine TQ_then ?_ | refine TL_q (op_assign rfl) rfl ?_ | refine TL_q (op_build rfl (bl_38_0 _)) rfl ?_ | refine TL_q (op_build rfl (bl_38_0_1 _ _)) rfl ?_ | refine TL_q (op_build rfl (bl_38_0_1_2 _ _ _)) rfl ?_ | refine TL_q (op_build rfl (bl_38_1 _)) rfl ?_ | refine TL_q (op_build rfl (bl_64_0_1 _ _ _ _)) rfl ?_))
  refine TL_new (op_buildSlice (C := (zcase.flatMap zcC).toArray) (vs := ((zcase.map fun x => Value.agg (zcC x).toArray).zipIdx.map fun p => (p.2, p.1))) rfl (rowLitG (len := 11) ety_65 (zcase.map fun x => Value.agg (zcC x).toArray) rfl (by intro v hv; obtain ⟨x, _, rfl⟩ := List.mem_map.1 hv; rfl) (by decide) rfl)) rfl ?_
  intro bC
  repeat ((first | with_reducible refine T_block ?_ | with_reducible refine TL_nil ?_ | with_reducible refine TQ_then ?_ | refine TL_q (op_move rfl) rfl ?_ | refine TL_q (op_len_slice rfl Tryd.underlying65) rfl ?_))
  refine T_loopS (σ := Nat) (fun i => i ≤ 11) (fun i => [(1, .func (.func 35) #[] #[]), (30, .slice (some ⟨bC, 0, none⟩) 11 11), (31, .int .i64 11), (32, .int .i64 (i : Nat))]) (fun _ => (bC, Obj.cells (zcase.flatMap zcC).toArray 64 (0, 0)) :: L) (fun i => 11 - i) 0 (by omega) ?_ (fun _ h => h) ?_
  (repeat ((first | exact trivial | refine ⟨rfl, ?_⟩)))
  rintro i hi
  by_cases hlt : i < 11
  · obtain ⟨x, hx⟩ : ∃ x, zcase[i]? = some x := ⟨_, List.getElem?_eq_getElem (show i < zcase.length from hlt)⟩
    have hm := zcase_may x (List.mem_of_getElem? hx)
    have hok := zcase_ok x (List.mem_of_getElem? hx)
    have hcs : ∀ j v, (zcC x)[j]? = some v → (zcase.flatMap zcC).toArray[0 + i * 4 + j]? = some v := fun j v hj => by
      rw [Nat.zero_add, List.getElem?_toArray]
      exact flat_get (f := zcC) (sz := 4) (fun _ => rfl) zcase i j x v hx hj
    repeat ((first | with_reducible refine T_seq ?_ | with_reducible refine T_block ?_ | with_reducible refine T_region ?_ | with_reducible refine TL_nil ?_ | with_reducible refine TQ_then ?_ | with_reducible refine T_skip ?_ | (refine' TL_q (op_bin rfl rfl ?_) rfl ?_; rotate_left 1; (· (exact bin_lss))) | (refine' TL_q (op_idx ety_65 rfl rfl ?_) rfl ?_; (· omega)) | (refine T_yes rfl ?_ ?_; (· (exact dT (by (omega)))))))
    refine TL_q (op_ldA [.string (bs x.1.name), .int .u8 (x.1.pol : Nat), .int .u16 (x.1.tru : Nat), .int .i64 x.2] rfl st_64 (List.mem_cons_self ..) hcs) rfl ?_
    repeat ((first | with_reducible refine T_seq ?_ | with_reducible refine TL_nil ?_ | with_reducible refine TQ_then ?_ | (refine TL_stAll rfl rfl st_64 rfl rfl rfl ?_) | (refine TL_new (op_alloc (C := #[(.string (bs [])), (.int .u8 0), (.int .u16 0), (.int .i64 0)]) zero_64 rfl) rfl ?_; intro bNew)))
    obtain ⟨b3, hb3⟩ : ∃ b, bNew = b := ⟨_, rfl⟩
    rw [hb3]
    clear hb3 bNew
    have k3 : ([.string (bs x.1.name), .int .u8 (x.1.pol : Nat), .int .u16 (x.1.tru : Nat), .int .i64 x.2] : List Value).toArray[0 + 3]? = some (.int .i64 x.2) := rfl
    have hKm : ∀ p ∈ [(b3, Obj.cells ([.string (bs x.1.name), .int .u8 (x.1.pol : Nat), .int .u16 (x.1.tru : Nat), .int .i64 x.2] : List Value).toArray 64 (0, 0))], p ∈ (b3, Obj.cells ([.string (bs x.1.name), .int .u8 (x.1.pol : Nat), .int .u16 (x.1.tru : Nat), .int .i64 x.2] : List Value).toArray 64 (0, 0)) :: (bC, Obj.cells (zcase.flatMap zcC).toArray 64 (0, 0)) :: L := by
      intro p hp
      simp only [List.mem_cons, List.not_mem_nil, or_false] at hp
      subst hp
      exact List.mem_cons_self ..
    refine T_draw follows_mixed ([(b3, Obj.cells ([.string (bs x.1.name), .int .u8 (x.1.pol : Nat), .int .u16 (x.1.tru : Nat), .int .i64 x.2] : List Value).toArray 64 (0, 0))]) [] ?_
    (refine' TA_take 0 rfl rfl (by kernel_rfl) (quiet_q (op_move rfl)) ?_ ?_; (· (assumption)))
    (refine' TA_take 1 rfl rfl (by kernel_rfl) (quiet_q (op_fld rfl fld_64_0)) ?_ ?_; (· (assumption)))
    (refine' TA_take 2 rfl rfl (by kernel_rfl) (quiet_q (op_ldA [.string (bs x.1.name), .int .u8 (x.1.pol : Nat), .int .u16 (x.1.tru : Nat)] rfl st_38 (List.mem_cons_self ..) (fun j v hj => cells43 hj))) ?_ ?_; (· (assumption)))
    (refine' TA_take 5 rfl rfl (by kernel_rfl) (quiet_q (op_fld rfl fld_64_1)) ?_ ?_; (· (assumption)))
    (refine' TA_take 6 rfl rfl (by kernel_rfl) (quiet_q (op_ld rfl pl_26 ?_ ?_)) ?_ ?_; rotate_left 4; (· repeat ((exact List.mem_cons_self))); (· (assumption)); (· (assumption)))
    refine TA_oneD 3 (by kernel_rfl) rfl rfl rfl rfl (op_litN (cs := [.string (bs x.1.name), .int .u8 (x.1.pol : Nat), .int .u16 (x.1.tru : Nat)]) ety_23 rfl rfl (by decide)) ?_
    rintro _ _ ⟨bZ, rfl, rfl⟩
    refine ⟨Or.inr (by (exact (fun z hz => mem_of_cnt (by intro p; (try simp only [cnt_append, cnt_cons, cnt_nil]) <;> omega) z (hKm z hz)))), ?_⟩
    refine TA_oneD 4 (by kernel_rfl) rfl rfl rfl rfl (op_callW (vs := [.slice (some ⟨bZ, 0, none⟩) 1 1]) (cap := []) hb_35 rfl rfl (zwith_S [x.1] _ (lit_zs [x.1] rfl (List.mem_cons_self ..) (by intro z hz; rw [List.mem_singleton.1 hz]; exact hok) (by simp)) (by intro z hz; rw [List.mem_singleton.1 hz]; exact hok.1))) ?_
    rintro _ _ ⟨rfl, rfl⟩; rw [hm]
    refine ⟨Or.inr (by (exact (fun z hz => mem_of_cnt (by intro p; (try simp only [cnt_append, cnt_cons, cnt_nil]) <;> omega) z (hKm z hz)))), ?_⟩
    (refine' TA_take 7 rfl rfl (by kernel_rfl) (quiet_q (op_bin rfl rfl ?_)) ?_ ?_; rotate_left 1; (· (exact bin_neq)); (· (intro p hp; grind)))
    refine TA_done (by kernel_rfl) ?_
    repeat ((first | with_reducible refine T_region ?_ | with_reducible refine TL_nil ?_ | with_reducible refine TQ_then ?_ | with_reducible refine TQ_block ?_ | with_reducible refine T_skip ?_ | refine TL_q (op_move rfl) rfl ?_ | (refine' TL_q (op_bin rfl rfl ?_) rfl ?_; rotate_left 1; (· (exact bin_add ⟨by omega, by omega⟩))) | (refine T_no rfl ?_ ?_; (· (exact nF (by (with_reducible rfl)))))))
    refine TQ_roundS (i + 1) (by omega) ?_ (fun w h => Heap.cnt h (by intro p; (try simp only [cnt_append, cnt_cons, cnt_nil]) <;> omega)) (by omega)
    (repeat ((first | exact trivial | refine ⟨rfl, ?_⟩)))
  obtain rfl : i = 11 := by omega
  repeat ((first | with_reducible refine T_seq ?_ | with_reducible refine T_block ?_ | with_reducible refine T_region ?_ | with_reducible refine TL_nil ?_ | with_reducible refine TQ_then ?_ | with_reducible refine T_exit ?_ | with_reducible refine TQ_then_exit ?_ | with_reducible refine TQ_block_exit ?_ | refine TL_q (op_assign rfl) rfl ?_ | (refine' TL_q (op_bin rfl rfl ?_) rfl ?_; rotate_left 1; (· (exact bin_lss))) | (refine T_no rfl ?_ ?_; (· (exact Bool.not_true)))))
  refine T_loopS (σ := Nat × Option Addr × Nat × Blocks) (fun x => x.1 ≤ 16 ∧ ORow zoR 38 3 [] x.2.1 x.2.2.1 (manyZ x.1) x.2.2.2) (fun x => [(1, .func (.func 35) #[] #[]), (4, .slice x.2.1 (manyZ x.1).length x.2.2.1), (5, .int .i64 (x.1 : Nat))]) (fun x => x.2.2.2 ++ L) (fun x => 16 - x.1) (0, none, 0, []) ⟨Nat.zero_le _, ORow.nil _⟩ ?_ (fun w h => Heap.cnt h (by intro p; (try simp only [cnt_append, cnt_cons, cnt_nil]) <;> omega)) ?_
  (repeat ((first | exact trivial | refine ⟨rfl, ?_⟩)))
  rintro ⟨j, a, cap, B⟩ ⟨hj, hB⟩
  dsimp only at hj hB ⊢
  have hml := manyZ_len j
  by_cases hjl : j < 16
  · have hb : (UInt8.ofNat (97 + j)).toNat = 97 + j := by
      rw [UInt8.toNat_ofNat']
      omega
    repeat ((first | with_reducible refine T_seq ?_ | with_reducible refine T_block ?_ | with_reducible refine T_region ?_ | with_reducible refine TL_nil ?_ | with_reducible refine TQ_then ?_ | with_reducible refine T_skip ?_ | refine TL_q (op_move rfl) rfl ?_ | (refine' TL_q (op_bin rfl rfl ?_) rfl ?_; rotate_left 1; (· (first | exact bin_add ⟨by omega, by omega⟩ | exact bin_lss))) | (refine' TL_q (op_conv_int rfl Tryd.underlying3 Tryd.underlying5 ?_) rfl ?_; (· exact ⟨by omega, by omega⟩)) | (refine T_yes rfl ?_ ?_; (· (exact dT (by (omega)))))))
    refine TL_new (op_buildSlice (C := #[.int .u8 1, .int .u8 (97 + (j : Int)), .int .u8 0]) (vs := [(0, .int .u8 1), (1, .int .u8 (97 + (j : Int))), (2, .int .u8 0)]) rfl (rowLitG (len := 3) ety_48 [.int .u8 1, .int .u8 (97 + (j : Int)), .int .u8 0] rfl (by intro v hv; simp only [List.mem_cons, List.not_mem_nil, or_false] at hv; rcases hv with rfl | rfl | rfl <;> rfl) (by decide) rfl)) rfl ?_
    intro bS
    refine TL_q (op_conv_back [1, UInt8.ofNat (97 + j), 0] rfl rfl Tryd.underlying48 Tryd.underlying5 Tryd.underlying9 (List.mem_cons_self ..) ?_) rfl ?_
    · intro q hq
      match q, hq with
      | 0, _ => rfl
      | 1, _ =>
        show some (Value.int .u8 (97 + (j : Int))) = some (Value.int .u8 (((UInt8.ofNat (97 + j)).toNat : Nat) : Int))
        rw [hb]
        congr 2
      | 2, _ => rfl
      | n + 3, h => exact absurd h (by simp)
    repeat ((first | refine TL_q (op_build rfl (bl_38_0_1 _ _)) rfl ?_ | (refine TL_new (op_litN ety_23 rfl rfl (by decide)) rfl ?_; intro bLit)))
    obtain ⟨bL, hbL⟩ : ∃ b, bLit = b := ⟨_, rfl⟩
    rw [hbL]
    clear hbL bLit
    refine TL_cnt (L' := (bL, Obj.cells ([.string (bs [1, UInt8.ofNat (97 + j), 0]), .int .u8 2, .int .u16 0] : List Value).toArray 38 (0, 0)) :: (B ++ L)) ?_ (by intro p; (try simp only [cnt_append, cnt_cons, cnt_nil]) <;> omega)
    refine TL_opT (op_push (r := zoR) (cs := [.string (bs [1, UInt8.ofNat (97 + j), 0]), .int .u8 2, .int .u16 0]) (y := ⟨[1, UInt8.ofNat (97 + j), 0], 2, 0⟩) ety_23 rfl rfl hB rfl (by intro v hv; simp only [List.mem_cons, List.not_mem_nil, or_false] at hv; rcases hv with rfl | rfl | rfl <;> rfl) ⟨rfl, by unfold maxLen; simp, (show 2 ≤ 255 by decide), (show 0 ≤ 65535 by decide)⟩ (by unfold maxLen; omega) (Nat.le_trans (Nat.mul_le_mul (show (manyZ j).length + 1 ≤ 1000001 by omega) (Nat.le_refl _)) (by decide))) rfl ?_
    rintro _ _ ⟨a', c', B', rfl, hB', rfl⟩
    rw [← manyZ_succ] at hB' ⊢
    repeat ((first | with_reducible refine T_region ?_ | with_reducible refine TL_nil ?_ | with_reducible refine TQ_then ?_ | with_reducible refine TQ_block ?_ | refine TL_q (op_move rfl) rfl ?_ | refine TL_q (op_assign rfl) rfl ?_ | (refine' TL_q (op_bin rfl rfl ?_) rfl ?_; rotate_left 1; (· (exact bin_add ⟨by omega, by omega⟩)))))
    refine TQ_roundS (j + 1, a', c', B') ⟨by dsimp only; omega, hB'⟩ ?_ (fun w h => h) (by dsimp only; omega)
    (repeat ((first | exact trivial | refine ⟨rfl, ?_⟩)))
  obtain rfl : j = 16 := by omega
  have hmok : ∀ z ∈ manyZ 16, zoOk z := by unfold zoOk; decide +kernel
  repeat ((first | with_reducible refine T_seq ?_ | with_reducible refine T_region ?_ | with_reducible refine TL_nil ?_ | with_reducible refine TQ_then ?_ | with_reducible refine T_exit ?_ | with_reducible refine TQ_then_exit ?_ | with_reducible refine TQ_block_exit ?_ | refine TL_q (op_move rfl) rfl ?_ | (refine' TL_q (op_bin rfl rfl ?_) rfl ?_; rotate_left 1; (· (exact bin_lss))) | (refine T_no rfl ?_ ?_; (· (exact Bool.not_true)))))
  refine TL_op (op_callW (vs := [.slice a (manyZ 16).length cap]) (cap := []) hb_35 rfl rfl (zwith_S (manyZ 16) _ (hB.sliceR mono_zo (by simp) (mem_of_cnt (by intro p; (try simp only [cnt_append, cnt_cons, cnt_nil]) <;> omega))) (fun z hz => (hmok z hz).1))) rfl ?_
  rw [many_may.1]
  repeat ((first | refine TL_q (op_move rfl) rfl ?_ | (refine' TL_q (op_bin rfl rfl ?_) rfl ?_; rotate_left 1; (· (exact bin_neq))) | (refine TL_gpre rfl rfl ?_ ?_; (· (exact Bool.not_true))) | refine TL_gq2 (op_move rfl) rfl ?_ | refine TL_gq2 (op_build rfl (bl_38_0_1 _ _)) rfl ?_))
  refine TG_opT (op_litN (cs := [.string (bs [0]), .int .u8 2, .int .u16 0]) ety_23 rfl rfl (by decide)) rfl ?_
  rintro _ _ ⟨bL, rfl, rfl⟩
  repeat ((refine TL_gpre rfl rfl ?_ ?_; (· (exact Bool.not_true))))
  refine TG_opT (op_push (r := zoR) (cs := [.string (bs [0]), .int .u8 2, .int .u16 0]) (y := ⟨[0], 2, 0⟩) ety_23 rfl rfl hB rfl (by intro v hv; simp only [List.mem_cons, List.not_mem_nil, or_false] at hv; rcases hv with rfl | rfl | rfl <;> rfl) ⟨rfl, by unfold maxLen; simp, (show 2 ≤ 255 by decide), (show 0 ≤ 65535 by decide)⟩ (by unfold maxLen; omega) (Nat.le_trans (Nat.mul_le_mul (show (manyZ 16).length + 1 ≤ 1000001 by omega) (Nat.le_refl _)) (by decide))) rfl ?_
  rintro _ _ ⟨a', c', B', rfl, hB', rfl⟩
  repeat ((refine TL_gpre rfl rfl ?_ ?_; (· (exact Bool.not_true))))
  refine TG_op (op_callW (vs := [.slice a' (manyZ 16 ++ [(⟨[0], 2, 0⟩ : Zo)]).length c']) (cap := []) hb_35 rfl rfl (zwith_S (manyZ 16 ++ [⟨[0], 2, 0⟩]) _ (hB'.sliceR mono_zo (by simp) (mem_of_cnt (by intro p; (try simp only [cnt_append, cnt_cons, cnt_nil]) <;> omega))) (fun z hz => by
    rcases List.mem_append.1 hz with h | h
    · exact (hmok z h).1
    · rw [List.mem_singleton.1 h]; simp))) rfl ?_
  rw [many_may.2]
  repeat ((first | with_reducible refine T_seq ?_ | with_reducible refine T_region ?_ | with_reducible refine TL_nil ?_ | with_reducible refine TQ_then ?_ | with_reducible refine T_skip ?_ | (refine' TL_q (op_pickF rfl ?_ rfl) rfl ?_; (· (exact Bool.not_true))) | (refine TL_gpre rfl rfl ?_ ?_; (· (exact Bool.not_true))) | (refine' TL_gq2 (op_bin rfl rfl ?_) rfl ?_; rotate_left 1; (· (exact bin_neq))) | (refine TL_new (op_alloc (C := #[(.string (bs [])), (.int .u8 0), (.int .u16 0)]) zero_38 rfl) rfl ?_; intro bNew) | refine TL_q (op_build rfl (bl_38_0_1 _ _)) rfl ?_ | (refine T_no rfl ?_ ?_; (· (exact Bool.not_true)))))
  obtain ⟨b7, hb7⟩ : ∃ b, bNew = b := ⟨_, rfl⟩
  rw [hb7]
  clear hb7 bNew
  obtain ⟨b6, hb6⟩ : ∃ b, bNew = b := ⟨_, rfl⟩
  rw [hb6]
  clear hb6 bNew
  refine TL_cnt (L' := (b6, (Obj.cells #[.string (bs []), .int .u8 0, .int .u16 0] 38 (0, 0))) :: (b7, (Obj.cells #[.string (bs []), .int .u8 0, .int .u16 0] 38 (0, 0))) :: L) ?_ (by intro p; (try simp only [cnt_append, cnt_cons, cnt_nil]) <;> omega)
  refine TL_stAll (D := #[.string (bs [0]), .int .u8 1, .int .u16 0]) rfl rfl st_38 rfl rfl rfl ?_
  refine TL_cnt (L' := (b7, (Obj.cells #[.string (bs []), .int .u8 0, .int .u16 0] 38 (0, 0))) :: (b6, Obj.cells #[.string (bs [0]), .int .u8 1, .int .u16 0] 38 (0, 0)) :: L) ?_ (by intro p; (try simp only [cnt_append, cnt_cons, cnt_nil]) <;> omega)
  refine TL_stAll (D := #[.string (bs [1, 98, 0]), .int .u8 2, .int .u16 0]) rfl rfl st_38 rfl rfl rfl ?_
  repeat ((first | with_reducible refine T_seq ?_ | with_reducible refine T_region ?_ | with_reducible refine TL_nil ?_ | with_reducible refine TQ_then ?_ | refine TL_q (op_move rfl) rfl ?_ | (refine' TL_q (op_ldAll rfl st_38 ?_ ?_) rfl ?_; rotate_left 3; (· repeat ((first | exact List.mem_cons_self | apply List.mem_cons_of_mem))); (· (rfl)))))
  refine TL_new (op_buildSlice (C := #[.string (bs [0]), .int .u8 1, .int .u16 0, .string (bs [1, 98, 0]), .int .u8 2, .int .u16 0]) (vs := [(0, .agg #[.string (bs [0]), .int .u8 1, .int .u16 0]), (1, .agg #[.string (bs [1, 98, 0]), .int .u8 2, .int .u16 0])]) rfl (rowLitG (len := 2) ety_23 [.agg #[.string (bs [0]), .int .u8 1, .int .u16 0], .agg #[.string (bs [1, 98, 0]), .int .u8 2, .int .u16 0]] rfl (by intro v hv; simp only [List.mem_cons, List.not_mem_nil, or_false] at hv; rcases hv with rfl | rfl <;> rfl) (by decide) rfl)) rfl ?_
  intro bX
  skip
  refine TL_op (op_callW (vs := [.slice (some ⟨bX, 0, none⟩) 2 2]) (cap := []) hb_35 rfl rfl (zwith_S [(⟨[0], 1, 0⟩ : Zo), (⟨[1, 98, 0], 2, 0⟩ : Zo)] _ (lit_zs [(⟨[0], 1, 0⟩ : Zo), (⟨[1, 98, 0], 2, 0⟩ : Zo)] rfl (List.mem_cons_self ..) (fun z hz => by simp only [List.mem_cons, List.not_mem_nil, or_false] at hz; rcases hz with rfl | rfl <;> exact ⟨by simp, by decide, by decide⟩) (by simp)) (fun z hz => by simp only [List.mem_cons, List.not_mem_nil, or_false] at hz; rcases hz with rfl | rfl <;> simp))) rfl ?_
  rw [two_may.1]
  repeat ((first | refine TL_q (op_move rfl) rfl ?_ | (refine' TL_q (op_bin rfl rfl ?_) rfl ?_; rotate_left 1; (· (exact bin_eql))) | (refine TL_gpre rfl rfl ?_ ?_; (· (exact Bool.not_false))) | refine TL_gq2 (op_move rfl) rfl ?_ | (refine' TL_gq2 (op_ldAll rfl st_38 ?_ ?_) rfl ?_; rotate_left 3; (· repeat ((first | exact List.mem_cons_self | apply List.mem_cons_of_mem))); (· (rfl)))))
  refine TG_opT (op_buildSlice (C := #[.string (bs [0]), .int .u8 1, .int .u16 0, .string (bs [0]), .int .u8 1, .int .u16 0]) (vs := [(0, .agg #[.string (bs [0]), .int .u8 1, .int .u16 0]), (1, .agg #[.string (bs [0]), .int .u8 1, .int .u16 0])]) rfl (rowLitG (len := 2) ety_23 [.agg #[.string (bs [0]), .int .u8 1, .int .u16 0], .agg #[.string (bs [0]), .int .u8 1, .int .u16 0]] rfl (by intro v hv; simp only [List.mem_cons, List.not_mem_nil, or_false] at hv; rcases hv with rfl | rfl <;> rfl) (by decide) rfl)) rfl ?_
  rintro _ _ ⟨bX, rfl, rfl⟩
  repeat ((refine TL_gpre rfl rfl ?_ ?_; (· (exact Bool.not_false))))
  refine TG_op (op_callW (vs := [.slice (some ⟨bX, 0, none⟩) 2 2]) (cap := []) hb_35 rfl rfl (zwith_S [(⟨[0], 1, 0⟩ : Zo), (⟨[0], 1, 0⟩ : Zo)] _ (lit_zs [(⟨[0], 1, 0⟩ : Zo), (⟨[0], 1, 0⟩ : Zo)] rfl (List.mem_cons_self ..) (fun z hz => by simp only [List.mem_cons, List.not_mem_nil, or_false] at hz; rcases hz with rfl | rfl <;> exact ⟨by simp, by decide, by decide⟩) (by simp)) (fun z hz => by simp only [List.mem_cons, List.not_mem_nil, or_false] at hz; rcases hz with rfl | rfl <;> simp))) rfl ?_
  rw [two_may.2.1]
  repeat ((first | refine TL_q (op_move rfl) rfl ?_ | (refine' TL_q (op_pickT rfl ?_ rfl) rfl ?_; (· (exact Bool.not_false))) | (refine TL_gpre rfl rfl ?_ ?_; (· (exact Bool.not_false))) | refine TL_gq2 (op_move rfl) rfl ?_ | (refine' TL_gq2 (op_bin rfl rfl ?_) rfl ?_; rotate_left 1; (· (exact bin_eql))) | (refine' TL_gq2 (op_ldAll rfl st_38 ?_ ?_) rfl ?_; rotate_left 3; (· repeat ((first | exact List.mem_cons_self | apply List.mem_cons_of_mem))); (· (rfl)))))
  refine TG_opT (op_buildSlice (C := #[.string (bs [0]), .int .u8 1, .int .u16 0, .string (bs [1, 98, 0]), .int .u8 2, .int .u16 0, .string (bs [0]), .int .u8 1, .int .u16 0]) (vs := [(0, .agg #[.string (bs [0]), .int .u8 1, .int .u16 0]), (1, .agg #[.string (bs [1, 98, 0]), .int .u8 2, .int .u16 0]), (2, .agg #[.string (bs [0]), .int .u8 1, .int .u16 0])]) rfl (rowLitG (len := 3) ety_23 [.agg #[.string (bs [0]), .int .u8 1, .int .u16 0], .agg #[.string (bs [1, 98, 0]), .int .u8 2, .int .u16 0], .agg #[.string (bs [0]), .int .u8 1, .int .u16 0]] rfl (by intro v hv; simp only [List.mem_cons, List.not_mem_nil, or_false] at hv; rcases hv with rfl | rfl | rfl <;> rfl) (by decide) rfl)) rfl ?_
  rintro _ _ ⟨bX, rfl, rfl⟩
  repeat ((refine TL_gpre rfl rfl ?_ ?_; (· (exact Bool.not_false))))
  refine TG_op (op_callW (vs := [.slice (some ⟨bX, 0, none⟩) 3 3]) (cap := []) hb_35 rfl rfl (zwith_S [(⟨[0], 1, 0⟩ : Zo), (⟨[1, 98, 0], 2, 0⟩ : Zo), (⟨[0], 1, 0⟩ : Zo)] _ (lit_zs [(⟨[0], 1, 0⟩ : Zo), (⟨[1, 98, 0], 2, 0⟩ : Zo), (⟨[0], 1, 0⟩ : Zo)] rfl (List.mem_cons_self ..) (fun z hz => by simp only [List.mem_cons, List.not_mem_nil, or_false] at hz; rcases hz with rfl | rfl | rfl <;> exact ⟨by simp, by decide, by decide⟩) (by simp)) (fun z hz => by simp only [List.mem_cons, List.not_mem_nil, or_false] at hz; rcases hz with rfl | rfl | rfl <;> simp))) rfl ?_
  rw [two_may.2.2]
  repeat ((first | with_reducible refine TL_nil ?_ | with_reducible refine TQ_then ?_ | with_reducible refine T_ret ?_ | refine TL_q (op_assign rfl) rfl ?_ | (refine' TL_q (op_pickT rfl ?_ rfl) rfl ?_; (· (exact Bool.not_false))) | (refine TL_gpre rfl rfl ?_ ?_; (· (exact Bool.not_false))) | (refine' TL_gq2 (op_bin rfl rfl ?_) rfl ?_; rotate_left 1; (· (exact bin_eql)))))
  refine TQ_cnt (L' := L) ?_ (by intro p; (try simp only [cnt_append, cnt_cons, cnt_nil]) <;> omega)
  refine TQ_ret1 0 _ rfl rfl ?_
  exact ⟨rfl, rfl⟩
end Go.Proofs.YtnhlpifbadncmaaDoor
namespace Go.Proofs.YtnhlpifbadncmaaDoor
open Go.RowKit
open Cn (Zo Cf)
set_option linter.unusedVariables false
set_option linter.unusedSimpArgs false
--auto
def wsmall (s : Nm.Bytes) : List (Nm.Bytes × Int × Int) := [(s ++ [122,111,110,101,32,101,120,32,115,116,114,105,99,116,10], 13, 3), (s ++ [122,111,110,101,32,69,120,46,32,115,116,114,105,99,116,10], 0, 1), (s ++ [122,111,110,101,32,101,120,46,32,116,114,117,115,116,101,100,10], 13, 3), (s ++ [122,111,110,101,32,101,120,46,32,116,114,117,115,116,101,100,32,49,32,49,10], 13, 3), (s ++ [122,111,110,101,32,101,120,46,32,116,114,117,115,116,101,100,32,50,32,49,10], 13, 3), (s ++ [122,111,110,101,32,101,120,46,32,116,114,117,115,116,101,100,32,49,54,10], 13, 3), (s ++ [122,111,110,101,32,101,120,46,32,116,114,117,115,116,101,100,32,57,10], 0, 1), (s ++ [122,111,110,101,32,101,120,46,32,115,116,114,105,99,116,32,49,10], 13, 3), (s ++ [122,111,110,101,32,101,120,46,32,115,116,114,105,99,116,32,120,10], 13, 3), (s ++ [122,111,110,101,32,101,120,46,32,108,111,111,115,101,10], 13, 3), (s ++ [122,111,110,101,32,32,101,120,46,32,115,116,114,105,99,116,10], 13, 3), (s ++ [122,111,110,101,32,101,120,46,10], 13, 3), (s ++ [10], 13, 3), (s ++ [122,111,110,101,32,46,32,115,116,114,105,99,116], 13, 3), (s.take (((s.length : Nat) : Int) - 1).toNat, 12, 3), ([], 1, 3), ([117,112,115,32,51,10], 2, 3), ([117,112,115,32,48,51,10] ++ s.drop 6, 1, 3), ([117,112,115,32,43,51,10] ++ s.drop 6, 1, 3), ([117,112,115,32,51,32,10] ++ s.drop 6, 1, 3), ([117,112,115,32,50,49,52,55,52,56,51,54,52,56,10] ++ s.drop 6, 1, 3), ([117,112,115,32,50,49,52,55,52,56,51,54,52,55,10] ++ s.drop 6, 0, 1), ([117,112,115,32,52,10] ++ s.drop 6, 0, 1), ([85,112,115,32,51,10] ++ s.drop 6, 1, 3)]
theorem wsmall_parse : ∀ x ∈ wsmall exText, Cn.parseP theT x.1 = (Cn.zeroC, x.2.1, x.2.2) := by decide +kernel
def cW : Cn.Cf := { exC with zs := [⟨[3,99,100,110,0],3,5⟩, ⟨[3,97,46,98,0],2,0⟩] }
theorem wlast_parse : Cn.parseP theT (exText ++ [122,111,110,101,32,99,100,110,46,32,116,114,117,115,116,101,100,32,48,32,50,10,122,111,110,101,32,97,92,46,98,46,32,117,110,105,111,110,10]) = (cW, 0, 0) := by decide +kernel
def wcase (s z1 z2 : Nm.Bytes) : List (Nm.Bytes × Int × Int) := wsmall s ++ [(z1, 1, 3), (z2, 0, 5)]
def wcC (x : Nm.Bytes × Int × Int) : List Value := [.string (bs x.1), .int .i64 x.2.1, .int .i64 x.2.2]
theorem no10 (n : Nat) : (10 : UInt8) ∉ List.replicate n (0 : UInt8) := fun h => by
  have := (List.mem_replicate.1 h).2
  exact absurd this (by decide)
theorem wcase_parse : ∀ x ∈ wcase exText (List.replicate 131072 0) (List.replicate 131073 0), Cn.parseP theT x.1 = (Cn.zeroC, x.2.1, x.2.2) ∧ x.1.length ≤ 1000000 ∧ ((10 : UInt8) ∉ x.1 ∨ x.1.length ≤ 100000) := by
  intro x hx
  rcases List.mem_append.1 hx with h | h
  · exact ⟨wsmall_parse x h, (by decide +kernel : ∀ x ∈ wsmall exText, x.1.length ≤ 1000000 ∧ ((10 : UInt8) ∉ x.1 ∨ x.1.length ≤ 100000)) x h⟩
  · simp only [List.mem_cons, List.not_mem_nil, or_false] at h
    rcases h with rfl | rfl
    · refine ⟨?_, ?_, Or.inl (no10 _)⟩
      · exact (PInv.zero _).open' (by rw [List.length_replicate]; decide) (no10 _) (Or.inl (by decide))
      · show (List.replicate 131072 (0 : UInt8)).length ≤ 1000000
        rw [List.length_replicate]
        decide
    · refine ⟨?_, ?_, Or.inl (no10 _)⟩
      · exact parseP_long (by rw [List.length_replicate]; decide)
      · show (List.replicate 131073 (0 : UInt8)).length ≤ 1000000
        rw [List.length_replicate]
        decide
theorem wcase_len (s z1 z2 : Nm.Bytes) : (wcase s z1 z2).length = 26 := rfl
theorem made_zero {n m : Nat} (h : m = n) : ∀ j (hj : j < (List.replicate n (0 : UInt8)).length), (madeCells (Value.int .u8 0).cells (m * 1))[0 + j]? = some (.int .u8 (((List.replicate n (0 : UInt8))[j]).toNat : Int)) := by
  intro j hj
  subst h
  rw [List.length_replicate] at hj
  rw [List.getElem_replicate, Nat.zero_add, Nat.mul_one, ← Array.getElem?_toList, show (Value.int .u8 0).cells = #[Value.int .u8 0] from rfl, toList_madeCells_one, List.getElem?_replicate, if_pos hj]
  rfl
theorem op_slice_uptoW {P : Program} {ρ : Slots} {L : Blocks} {ty : TypeId} {x hi : Operand} {s : List UInt8} {k : IntKind} {j : Int} {t : TypeId} (hx : ev ρ x = some (.string (bs s))) (hhi : ev ρ hi = some (.int k j)) (ht : P.underlying t = some .string)
    (h0 : 0 ≤ j) (h2 : j ≤ s.length) : OpQ P ρ L (.slice t x none (some hi) none) ty (.string (bs (s.take j.toNat))) :=
  ⟨fun r hr w hw o ho _ => by
    have e : (bs s).extract 0 j.toNat = bs (s.take j.toNat) := by
      apply ByteArray.ext
      rw [ByteArray.data_extract]
      simp [bs, List.extract_eq_take_drop]
    have e1 : ((j.toNat : Nat) : Int) = j := by omega
    simp [execOp, ho, hr _ _ hx, hr _ _ hhi, Instr.sliceAt, run_underlying ht, Instr.slice, Instr.sliceBounds, Instr.sliceBound, asIntOf, h0, h2, e, e1]⟩
theorem zbin_eqlo {x y : Zo} : Bin Tryd.prog .eql 38 (.agg #[.string (bs x.name), .int .u8 (x.pol : Nat), .int .u16 (x.tru : Nat)]) (.agg #[.string (bs y.name), .int .u8 (y.pol : Nat), .int .u16 (y.tru : Nat)]) (.bool (decide (x = y))) := ⟨fun a b w => by
  have h := eqIn_zo 9998 x.name y.name x.pol y.pol x.tru y.tru w
  have eb : (bs x.name == bs y.name) = (x.name == y.name) := by
    exact bs_beq _ _
  rw [eb] at h
  have e : ((x.name == y.name && ((x.pol : Nat) : Int) == ((y.pol : Nat) : Int) && ((x.tru : Nat) : Int) == ((y.tru : Nat) : Int))) = decide (x = y) := by
    obtain ⟨a, b, c⟩ := x
    obtain ⟨a', b', c'⟩ := y
    rw [Bool.eq_iff_iff]
    simp only [Bool.and_eq_true, beq_iff_eq, decide_eq_true_eq, Zo.mk.injEq]
    constructor
    · rintro ⟨⟨h1, h2⟩, h3⟩; exact ⟨h1, by omega, by omega⟩
    · rintro ⟨h1, h2, h3⟩; exact ⟨⟨h1, by omega⟩, by omega⟩
  rw [e] at h
  simp only [eqGuard, binOp, equal_open]
  simp [h]⟩
theorem fld_66_0 : fieldOff Tryd.prog 66 0 = some 0 := by kernel_rfl
theorem fld_66_1 : fieldOff Tryd.prog 66 1 = some 1 := by kernel_rfl
theorem fld_66_2 : fieldOff Tryd.prog 66 2 = some 2 := by kernel_rfl
variable {G : World} {L : Blocks}
theorem pParse_R (s : Nm.Bytes) (r : Cf × Int × Int) (hr : Cn.parseP theT s = r) (hs : s.length ≤ 1000000) (hs2 : (10 : UInt8) ∉ s ∨ s.length ≤ 100000) (hg : Glob L) : Spec Tryd.prog G 23 #[.string (bs s)] L fun u M => PRes r L u M := hr ▸ pParse_S s hs hs2 hg
set_option maxRecDepth 100000 in
set_option maxHeartbeats 16000000 in
theorem wrong_S (hg : Glob L) : Spec Tryd.prog G 15 #[] L fun u M => u = .bool true ∧ M = L := by
  have hcf : ∀ (L' : Blocks), CfL L' exC (.slice none 0 0) := fun L' => ⟨sliceR.nil, by simp [exC]⟩
  refine Spec_of (n := 167) Tryd.func15 rfl rfl rfl ?_
  repeat ((first | with_reducible refine T_seq ?_ | with_reducible refine T_region ?_ | with_reducible refine TL_nil ?_ | with_reducible refine TQ_then ?_ | refine TL_q (op_assign rfl) rfl ?_))
  refine TL_op (op_call hb_25 rfl example_S) rfl ?_
  skip
  refine TL_op (op_call hb_13 rfl (pShow_S exC _ (hcf _) (hg.mono (mem_of_cnt (by intro p; (try simp only [cnt_append, cnt_cons, cnt_nil]) <;> omega))))) rfl ?_
  rw [ex_show]
  have hel : exText.length = 106 := by decide
  have hwp := wcase_parse
  have hlast := wlast_parse
  obtain ⟨s, hs⟩ : ∃ s, exText = s := ⟨_, rfl⟩
  rw [hs] at hel hwp hlast ⊢
  clear hs
  have hm1 := made_zero (n := 131072) (m := Int.toNat 131072) rfl
  have hm2 := made_zero (n := 131073) (m := Int.toNat 131073) rfl
  obtain ⟨C1, hC1⟩ : ∃ C, madeCells (Value.int .u8 0).cells (Int.toNat 131072 * 1) = C := ⟨_, rfl⟩
  obtain ⟨C2, hC2⟩ : ∃ C, madeCells (Value.int .u8 0).cells (Int.toNat 131073 * 1) = C := ⟨_, rfl⟩
  rw [hC1] at hm1
  rw [hC2] at hm2
  have hz1 : Int.toNat 131072 = (List.replicate 131072 (0 : UInt8)).length := by rw [List.length_replicate]; rfl
  have hz2 : Int.toNat 131073 = (List.replicate 131073 (0 : UInt8)).length := by rw [List.length_replicate]; rfl
  generalize List.replicate 131072 (0 : UInt8) = z1 at hm1 hz1 hwp
  generalize List.replicate 131073 (0 : UInt8) = z2 at hm2 hz2 hwp
  have hdr : (List.drop (6 : Int).toNat s).length ≤ 1000 := by rw [List.length_drop]; omega
  repeat ((first | with_reducible refine T_seq ?_ | with_reducible refine T_region ?_ | with_reducible refine TL_nil ?_ | with_reducible refine TQ_then ?_ | with_reducible refine T_skip ?_ | refine TL_q (op_move rfl) rfl ?_ | refine TL_q (op_assign rfl) rfl ?_ | (refine' TL_q (op_bin rfl rfl ?_) rfl ?_; rotate_left 1; (· (exact bin_neq))) | refine TL_q (op_extract rfl rfl) rfl ?_ | (refine T_no rfl ?_ ?_; (· (exact Bool.not_true)))))
  have hKm : ∀ p ∈ ([] : Blocks), p ∈ L := by intro p hp; cases hp
  refine T_midK (σ := Nat) (fun _ => True) (fun bC => [(1, .string (bs s)), (102, .slice (some ⟨bC, 0, none⟩) 26 26), (103, .int .i64 26), (104, .int .i64 0)]) (fun bC => (bC, Obj.cells ((wcase s z1 z2).flatMap wcC).toArray 66 (0, 0)) :: L) ?_ ?_
  · skip
    refine T_draw follows_mixed ([]) [] ?_
    (refine' TA_take 0 rfl rfl (by kernel_rfl) (quiet_q (op_move rfl)) ?_ ?_; (· (assumption)))
    (refine' TA_take 1 rfl rfl (by kernel_rfl) (quiet_q (op_bin rfl rfl ?_)) ?_ ?_; rotate_left 1; (· (exact sbin_add (by (simp only [List.length_cons, List.length_nil]; omega)))); (· (assumption)))
    (refine' TA_take 2 rfl rfl (by kernel_rfl) (quiet_q (op_build rfl (bl_66_0_1_2 _ _ _))) ?_ ?_; (· (assumption)))
    (refine' TA_take 3 rfl rfl (by kernel_rfl) (quiet_q (op_move rfl)) ?_ ?_; (· (assumption)))
    (refine' TA_take 4 rfl rfl (by kernel_rfl) (quiet_q (op_bin rfl rfl ?_)) ?_ ?_; rotate_left 1; (· (exact sbin_add (by (simp only [List.length_cons, List.length_nil]; omega)))); (· (assumption)))
    (refine' TA_take 5 rfl rfl (by kernel_rfl) (quiet_q (op_build rfl (bl_66_0_1_2 _ _ _))) ?_ ?_; (· (assumption)))
    (refine' TA_take 6 rfl rfl (by kernel_rfl) (quiet_q (op_move rfl)) ?_ ?_; (· (assumption)))
    (refine' TA_take 7 rfl rfl (by kernel_rfl) (quiet_q (op_bin rfl rfl ?_)) ?_ ?_; rotate_left 1; (· (exact sbin_add (by (simp only [List.length_cons, List.length_nil]; omega)))); (· (assumption)))
    (refine' TA_take 8 rfl rfl (by kernel_rfl) (quiet_q (op_build rfl (bl_66_0_1_2 _ _ _))) ?_ ?_; (· (assumption)))
    (refine' TA_take 9 rfl rfl (by kernel_rfl) (quiet_q (op_move rfl)) ?_ ?_; (· (assumption)))
    (refine' TA_take 10 rfl rfl (by kernel_rfl) (quiet_q (op_bin rfl rfl ?_)) ?_ ?_; rotate_left 1; (· (exact sbin_add (by (simp only [List.length_cons, List.length_nil]; omega)))); (· (assumption)))
    (refine' TA_take 11 rfl rfl (by kernel_rfl) (quiet_q (op_build rfl (bl_66_0_1_2 _ _ _))) ?_ ?_; (· (assumption)))
    (refine' TA_take 12 rfl rfl (by kernel_rfl) (quiet_q (op_move rfl)) ?_ ?_; (· (assumption)))
    (refine' TA_take 13 rfl rfl (by kernel_rfl) (quiet_q (op_bin rfl rfl ?_)) ?_ ?_; rotate_left 1; (· (exact sbin_add (by (simp only [List.length_cons, List.length_nil]; omega)))); (· (assumption)))
    (refine' TA_take 14 rfl rfl (by kernel_rfl) (quiet_q (op_build rfl (bl_66_0_1_2 _ _ _))) ?_ ?_; (· (assumption)))
    (refine' TA_take 15 rfl rfl (by kernel_rfl) (quiet_q (op_move rfl)) ?_ ?_; (· (assumption)))
    (refine' TA_take 16 rfl rfl (by kernel_rfl) (quiet_q (op_bin rfl rfl ?_)) ?_ ?_; rotate_left 1; (· (exact sbin_add (by (simp only [List.length_cons, List.length_nil]; omega)))); (· (assumption)))
    (refine' TA_take 17 rfl rfl (by kernel_rfl) (quiet_q (op_build rfl (bl_66_0_1_2 _ _ _))) ?_ ?_; (· (assumption)))
    (refine' TA_take 18 rfl rfl (by kernel_rfl) (quiet_q (op_move rfl)) ?_ ?_; (· (assumption)))
    (refine' TA_take 19 rfl rfl (by kernel_rfl) (quiet_q (op_bin rfl rfl ?_)) ?_ ?_; rotate_left 1; (· (exact sbin_add (by (simp only [List.length_cons, List.length_nil]; omega)))); (· (assumption)))
    (refine' TA_take 20 rfl rfl (by kernel_rfl) (quiet_q (op_build rfl (bl_66_0_1_2 _ _ _))) ?_ ?_; (· (assumption)))
    (refine' TA_take 21 rfl rfl (by kernel_rfl) (quiet_q (op_move rfl)) ?_ ?_; (· (assumption)))
    (refine' TA_take 22 rfl rfl (by kernel_rfl) (quiet_q (op_bin rfl rfl ?_)) ?_ ?_; rotate_left 1; (· (exact sbin_add (by (simp only [List.length_cons, List.length_nil]; omega)))); (· (assumption)))
    (refine' TA_take 23 rfl rfl (by kernel_rfl) (quiet_q (op_build rfl (bl_66_0_1_2 _ _ _))) ?_ ?_; (· (assumption)))
    (refine' TA_take 24 rfl rfl (by kernel_rfl) (quiet_q (op_move rfl)) ?_ ?_; (· (assumption)))
    (refine' TA_take 25 rfl rfl (by kernel_rfl) (quiet_q (op_bin rfl rfl ?_)) ?_ ?_; rotate_left 1; (· (exact sbin_add (by (simp only [List.length_cons, List.length_nil]; omega)))); (· (assumption)))
    (refine' TA_take 26 rfl rfl (by kernel_rfl) (quiet_q (op_build rfl (bl_66_0_1_2 _ _ _))) ?_ ?_; (· (assumption)))
    (refine' TA_take 27 rfl rfl (by kernel_rfl) (quiet_q (op_move rfl)) ?_ ?_; (· (assumption)))
    (refine' TA_take 28 rfl rfl (by kernel_rfl) (quiet_q (op_bin rfl rfl ?_)) ?_ ?_; rotate_left 1; (· (exact sbin_add (by (simp only [List.length_cons, List.length_nil]; omega)))); (· (assumption)))
    (refine' TA_take 29 rfl rfl (by kernel_rfl) (quiet_q (op_build rfl (bl_66_0_1_2 _ _ _))) ?_ ?_; (· (assumption)))
    (refine' TA_take 30 rfl rfl (by kernel_rfl) (quiet_q (op_move rfl)) ?_ ?_; (· (assumption)))
    (refine' TA_take 31 rfl rfl (by kernel_rfl) (quiet_q (op_bin rfl rfl ?_)) ?_ ?_; rotate_left 1; (· (exact sbin_add (by (simp only [List.length_cons, List.length_nil]; omega)))); (· (assumption)))
    (refine' TA_take 32 rfl rfl (by kernel_rfl) (quiet_q (op_build rfl (bl_66_0_1_2 _ _ _))) ?_ ?_; (· (assumption)))
    (refine' TA_take 33 rfl rfl (by kernel_rfl) (quiet_q (op_move rfl)) ?_ ?_; (· (assumption)))
    (refine' TA_take 34 rfl rfl (by kernel_rfl) (quiet_q (op_bin rfl rfl ?_)) ?_ ?_; rotate_left 1; (· (exact sbin_add (by (simp only [List.length_cons, List.length_nil]; omega)))); (· (assumption)))
    (refine' TA_take 35 rfl rfl (by kernel_rfl) (quiet_q (op_build rfl (bl_66_0_1_2 _ _ _))) ?_ ?_; (· (assumption)))
    (refine' TA_take 36 rfl rfl (by kernel_rfl) (quiet_q (op_move rfl)) ?_ ?_; (· (assumption)))
    (refine' TA_take 37 rfl rfl (by kernel_rfl) (quiet_q (op_bin rfl rfl ?_)) ?_ ?_; rotate_left 1; (· (exact sbin_add (by (simp only [List.length_cons, List.length_nil]; omega)))); (· (assumption)))
    (refine' TA_take 38 rfl rfl (by kernel_rfl) (quiet_q (op_build rfl (bl_66_0_1_2 _ _ _))) ?_ ?_; (· (assumption)))
    (refine' TA_take 39 rfl rfl (by kernel_rfl) (quiet_q (op_move rfl)) ?_ ?_; (· (assumption)))
    (refine' TA_take 40 rfl rfl (by kernel_rfl) (quiet_q (op_bin rfl rfl ?_)) ?_ ?_; rotate_left 1; (· (exact sbin_add (by (simp only [List.length_cons, List.length_nil]; omega)))); (· (assumption)))
    (refine' TA_take 41 rfl rfl (by kernel_rfl) (quiet_q (op_build rfl (bl_66_0_1_2 _ _ _))) ?_ ?_; (· (assumption)))
    (refine' TA_take 42 rfl rfl (by kernel_rfl) (quiet_q (op_move rfl)) ?_ ?_; (· (assumption)))
    (refine' TA_take 43 rfl rfl (by kernel_rfl) (quiet_q (op_move rfl)) ?_ ?_; (· (assumption)))
    (refine' TA_take 44 rfl rfl (by kernel_rfl) (quiet_q (op_len_str rfl Tryd.underlying9)) ?_ ?_; (· (assumption)))
    (refine' TA_take 45 rfl rfl (by kernel_rfl) (quiet_q (op_bin rfl rfl ?_)) ?_ ?_; rotate_left 1; (· (exact bin_sub ⟨by omega, by omega⟩)); (· (assumption)))
    (refine' TA_take 46 rfl rfl (by kernel_rfl) (quiet_q (op_slice_uptoW rfl rfl Tryd.underlying9 (by omega) (by omega))) ?_ ?_; (· (assumption)))
    (refine' TA_take 47 rfl rfl (by kernel_rfl) (quiet_q (op_build rfl (bl_66_0_1_2 _ _ _))) ?_ ?_; (· (assumption)))
    (refine' TA_take 48 rfl rfl (by kernel_rfl) (quiet_q (op_build rfl (bl_66_0_1_2 _ _ _))) ?_ ?_; (· (assumption)))
    (refine' TA_take 49 rfl rfl (by kernel_rfl) (quiet_q (op_build rfl (bl_66_0_1_2 _ _ _))) ?_ ?_; (· (assumption)))
    (refine' TA_take 50 rfl rfl (by kernel_rfl) (quiet_q (op_move rfl)) ?_ ?_; (· (assumption)))
    (refine' TA_take 51 rfl rfl (by kernel_rfl) (quiet_q (op_slice_from rfl rfl Tryd.underlying9 (by decide) (by omega))) ?_ ?_; (· (assumption)))
    (refine' TA_take 52 rfl rfl (by kernel_rfl) (quiet_q (op_bin rfl rfl ?_)) ?_ ?_; rotate_left 1; (· (exact sbin_add (by (simp only [List.length_cons, List.length_nil]; omega)))); (· (assumption)))
    (refine' TA_take 53 rfl rfl (by kernel_rfl) (quiet_q (op_build rfl (bl_66_0_1_2 _ _ _))) ?_ ?_; (· (assumption)))
    (refine' TA_take 54 rfl rfl (by kernel_rfl) (quiet_q (op_move rfl)) ?_ ?_; (· (assumption)))
    (refine' TA_take 55 rfl rfl (by kernel_rfl) (quiet_q (op_slice_from rfl rfl Tryd.underlying9 (by decide) (by omega))) ?_ ?_; (· (assumption)))
    (refine' TA_take 56 rfl rfl (by kernel_rfl) (quiet_q (op_bin rfl rfl ?_)) ?_ ?_; rotate_left 1; (· (exact sbin_add (by (simp only [List.length_cons, List.length_nil]; omega)))); (· (assumption)))
    (refine' TA_take 57 rfl rfl (by kernel_rfl) (quiet_q (op_build rfl (bl_66_0_1_2 _ _ _))) ?_ ?_; (· (assumption)))
    (refine' TA_take 58 rfl rfl (by kernel_rfl) (quiet_q (op_move rfl)) ?_ ?_; (· (assumption)))
    (refine' TA_take 59 rfl rfl (by kernel_rfl) (quiet_q (op_slice_from rfl rfl Tryd.underlying9 (by decide) (by omega))) ?_ ?_; (· (assumption)))
    (refine' TA_take 60 rfl rfl (by kernel_rfl) (quiet_q (op_bin rfl rfl ?_)) ?_ ?_; rotate_left 1; (· (exact sbin_add (by (simp only [List.length_cons, List.length_nil]; omega)))); (· (assumption)))
    (refine' TA_take 61 rfl rfl (by kernel_rfl) (quiet_q (op_build rfl (bl_66_0_1_2 _ _ _))) ?_ ?_; (· (assumption)))
    (refine' TA_take 62 rfl rfl (by kernel_rfl) (quiet_q (op_move rfl)) ?_ ?_; (· (assumption)))
    (refine' TA_take 63 rfl rfl (by kernel_rfl) (quiet_q (op_slice_from rfl rfl Tryd.underlying9 (by decide) (by omega))) ?_ ?_; (· (assumption)))
    (refine' TA_take 64 rfl rfl (by kernel_rfl) (quiet_q (op_bin rfl rfl ?_)) ?_ ?_; rotate_left 1; (· (exact sbin_add (by (simp only [List.length_cons, List.length_nil]; omega)))); (· (assumption)))
    (refine' TA_take 65 rfl rfl (by kernel_rfl) (quiet_q (op_build rfl (bl_66_0_1_2 _ _ _))) ?_ ?_; (· (assumption)))
    (refine' TA_take 66 rfl rfl (by kernel_rfl) (quiet_q (op_move rfl)) ?_ ?_; (· (assumption)))
    (refine' TA_take 67 rfl rfl (by kernel_rfl) (quiet_q (op_slice_from rfl rfl Tryd.underlying9 (by decide) (by omega))) ?_ ?_; (· (assumption)))
    (refine' TA_take 68 rfl rfl (by kernel_rfl) (quiet_q (op_bin rfl rfl ?_)) ?_ ?_; rotate_left 1; (· (exact sbin_add (by (simp only [List.length_cons, List.length_nil]; omega)))); (· (assumption)))
    (refine' TA_take 69 rfl rfl (by kernel_rfl) (quiet_q (op_build rfl (bl_66_0_1_2 _ _ _))) ?_ ?_; (· (assumption)))
    (refine' TA_take 70 rfl rfl (by kernel_rfl) (quiet_q (op_move rfl)) ?_ ?_; (· (assumption)))
    (refine' TA_take 71 rfl rfl (by kernel_rfl) (quiet_q (op_slice_from rfl rfl Tryd.underlying9 (by decide) (by omega))) ?_ ?_; (· (assumption)))
    (refine' TA_take 72 rfl rfl (by kernel_rfl) (quiet_q (op_bin rfl rfl ?_)) ?_ ?_; rotate_left 1; (· (exact sbin_add (by (simp only [List.length_cons, List.length_nil]; omega)))); (· (assumption)))
    (refine' TA_take 73 rfl rfl (by kernel_rfl) (quiet_q (op_build rfl (bl_66_0_1_2 _ _ _))) ?_ ?_; (· (assumption)))
    (refine' TA_take 74 rfl rfl (by kernel_rfl) (quiet_q (op_move rfl)) ?_ ?_; (· (assumption)))
    (refine' TA_take 75 rfl rfl (by kernel_rfl) (quiet_q (op_slice_from rfl rfl Tryd.underlying9 (by decide) (by omega))) ?_ ?_; (· (assumption)))
    (refine' TA_take 76 rfl rfl (by kernel_rfl) (quiet_q (op_bin rfl rfl ?_)) ?_ ?_; rotate_left 1; (· (exact sbin_add (by (simp only [List.length_cons, List.length_nil]; omega)))); (· (assumption)))
    (refine' TA_take 77 rfl rfl (by kernel_rfl) (quiet_q (op_build rfl (bl_66_0_1_2 _ _ _))) ?_ ?_; (· (assumption)))
    (refine' TA_take 86 rfl rfl (by kernel_rfl) (quiet_q (op_move rfl)) ?_ ?_; (· (assumption)))
    refine TA_two 78 81 (by kernel_rfl) ?_ ?_
    · as_aux_lemma =>
        refine Up_ofD rfl rfl rfl rfl (op_make ety_48 rfl rfl (by decide) (by decide) (by decide) (by decide) hC1) ?_
        rintro _ _ ⟨bM, rfl, rfl⟩
        refine ⟨Or.inr (by (exact (fun z hz => mem_of_cnt (by intro p; (try simp only [cnt_append, cnt_cons, cnt_nil]) <;> omega) z (hKm z hz)))), ?_⟩
        refine TA_two 79 81 (by kernel_rfl) ?_ ?_
        · as_aux_lemma =>
            refine Up_ofD rfl rfl rfl rfl (OpQ.v (op_conv_back (te := 5) (fr := (0, 0)) z1 rfl hz1 Tryd.underlying48 Tryd.underlying5 Tryd.underlying9 (by simp) hm1)) ?_
            rintro _ _ ⟨rfl, rfl⟩
            refine ⟨Or.inr (by (exact (fun z hz => mem_of_cnt (by intro p; (try simp only [cnt_append, cnt_cons, cnt_nil]) <;> omega) z (hKm z hz)))), ?_⟩
            (refine' TA_take 80 rfl rfl (by kernel_rfl) (quiet_q (op_build rfl (bl_66_0_1_2 _ _ _))) ?_ ?_; (· (intro p hp; grind)))
            refine TA_oneD 81 (by kernel_rfl) rfl rfl rfl rfl (op_make ety_48 rfl rfl (by decide) (by decide) (by decide) (by decide) hC2) ?_
            rintro _ _ ⟨bN, rfl, rfl⟩
            refine ⟨Or.inr (by (exact (fun z hz => mem_of_cnt (by intro p; (try simp only [cnt_append, cnt_cons, cnt_nil]) <;> omega) z (hKm z hz)))), ?_⟩
            refine TA_oneD 82 (by kernel_rfl) rfl rfl rfl rfl (OpQ.v (op_conv_back (te := 5) (fr := (0, 0)) z2 rfl hz2 Tryd.underlying48 Tryd.underlying5 Tryd.underlying9 (by simp) hm2)) ?_
            rintro _ _ ⟨rfl, rfl⟩
            refine ⟨Or.inr (by (exact (fun z hz => mem_of_cnt (by intro p; (try simp only [cnt_append, cnt_cons, cnt_nil]) <;> omega) z (hKm z hz)))), ?_⟩
            (refine' TA_take 83 rfl rfl (by kernel_rfl) (quiet_q (op_build rfl (bl_66_0_1_2 _ _ _))) ?_ ?_; (· (intro p hp; grind)))
            refine TA_oneD 84 (by kernel_rfl) rfl rfl rfl rfl (op_buildSlice (C := ((wcase s z1 z2).flatMap wcC).toArray) (vs := (((wcase s z1 z2).map fun x => Value.agg (wcC x).toArray).zipIdx.map fun p => (p.2, p.1))) rfl (rowLitG (len := 26) ety_67 ((wcase s z1 z2).map fun x => Value.agg (wcC x).toArray) rfl (by intro v hv; obtain ⟨x, _, rfl⟩ := List.mem_map.1 hv; rfl) (by decide) (by rw [List.flatMap_map]; rfl))) ?_
            rintro _ _ ⟨bC, rfl, rfl⟩
            refine ⟨Or.inr (by (exact (fun z hz => mem_of_cnt (by intro p; (try simp only [cnt_append, cnt_cons, cnt_nil]) <;> omega) z (hKm z hz)))), ?_⟩
            (refine' TA_take 85 rfl rfl (by kernel_rfl) (quiet_q (op_len_slice rfl Tryd.underlying67)) ?_ ?_; (· (intro p hp; grind)))
            refine TA_done (by kernel_rfl) ?_
            refine TQ_mid bC trivial ?_ (fun w h => Heap.cnt h (by intro p; (try simp only [cnt_append, cnt_cons, cnt_nil]) <;> omega))
            (repeat ((first | exact trivial | refine ⟨rfl, ?_⟩)))
        · as_aux_lemma =>
            refine Up_ofD rfl rfl rfl rfl (op_make ety_48 rfl rfl (by decide) (by decide) (by decide) (by decide) hC2) ?_
            rintro _ _ ⟨bN, rfl, rfl⟩
            refine ⟨Or.inr (by (exact (fun z hz => mem_of_cnt (by intro p; (try simp only [cnt_append, cnt_cons, cnt_nil]) <;> omega) z (hKm z hz)))), ?_⟩
            refine TA_two 79 82 (by kernel_rfl) ?_ ?_
            · as_aux_lemma =>
                refine Up_ofD rfl rfl rfl rfl (OpQ.v (op_conv_back (te := 5) (fr := (0, 0)) z1 rfl hz1 Tryd.underlying48 Tryd.underlying5 Tryd.underlying9 (by simp) hm1)) ?_
                rintro _ _ ⟨rfl, rfl⟩
                refine ⟨Or.inr (by (exact (fun z hz => mem_of_cnt (by intro p; (try simp only [cnt_append, cnt_cons, cnt_nil]) <;> omega) z (hKm z hz)))), ?_⟩
                (refine' TA_take 80 rfl rfl (by kernel_rfl) (quiet_q (op_build rfl (bl_66_0_1_2 _ _ _))) ?_ ?_; (· (intro p hp; grind)))
                refine TA_oneD 82 (by kernel_rfl) rfl rfl rfl rfl (OpQ.v (op_conv_back (te := 5) (fr := (0, 0)) z2 rfl hz2 Tryd.underlying48 Tryd.underlying5 Tryd.underlying9 (by simp) hm2)) ?_
                rintro _ _ ⟨rfl, rfl⟩
                refine ⟨Or.inr (by (exact (fun z hz => mem_of_cnt (by intro p; (try simp only [cnt_append, cnt_cons, cnt_nil]) <;> omega) z (hKm z hz)))), ?_⟩
                (refine' TA_take 83 rfl rfl (by kernel_rfl) (quiet_q (op_build rfl (bl_66_0_1_2 _ _ _))) ?_ ?_; (· (intro p hp; grind)))
                refine TA_oneD 84 (by kernel_rfl) rfl rfl rfl rfl (op_buildSlice (C := ((wcase s z1 z2).flatMap wcC).toArray) (vs := (((wcase s z1 z2).map fun x => Value.agg (wcC x).toArray).zipIdx.map fun p => (p.2, p.1))) rfl (rowLitG (len := 26) ety_67 ((wcase s z1 z2).map fun x => Value.agg (wcC x).toArray) rfl (by intro v hv; obtain ⟨x, _, rfl⟩ := List.mem_map.1 hv; rfl) (by decide) (by rw [List.flatMap_map]; rfl))) ?_
                rintro _ _ ⟨bC, rfl, rfl⟩
                refine ⟨Or.inr (by (exact (fun z hz => mem_of_cnt (by intro p; (try simp only [cnt_append, cnt_cons, cnt_nil]) <;> omega) z (hKm z hz)))), ?_⟩
                (refine' TA_take 85 rfl rfl (by kernel_rfl) (quiet_q (op_len_slice rfl Tryd.underlying67)) ?_ ?_; (· (intro p hp; grind)))
                refine TA_done (by kernel_rfl) ?_
                refine TQ_mid bC trivial ?_ (fun w h => Heap.cnt h (by intro p; (try simp only [cnt_append, cnt_cons, cnt_nil]) <;> omega))
                (repeat ((first | exact trivial | refine ⟨rfl, ?_⟩)))
            · as_aux_lemma =>
                refine Up_ofD rfl rfl rfl rfl (OpQ.v (op_conv_back (te := 5) (fr := (0, 0)) z2 rfl hz2 Tryd.underlying48 Tryd.underlying5 Tryd.underlying9 (by simp) hm2)) ?_
                rintro _ _ ⟨rfl, rfl⟩
                refine ⟨Or.inr (by (exact (fun z hz => mem_of_cnt (by intro p; (try simp only [cnt_append, cnt_cons, cnt_nil]) <;> omega) z (hKm z hz)))), ?_⟩
                (refine' TA_take 83 rfl rfl (by kernel_rfl) (quiet_q (op_build rfl (bl_66_0_1_2 _ _ _))) ?_ ?_; (· (intro p hp; grind)))
                refine TA_oneD 79 (by kernel_rfl) rfl rfl rfl rfl (OpQ.v (op_conv_back (te := 5) (fr := (0, 0)) z1 rfl hz1 Tryd.underlying48 Tryd.underlying5 Tryd.underlying9 (by simp) hm1)) ?_
                rintro _ _ ⟨rfl, rfl⟩
                refine ⟨Or.inr (by (exact (fun z hz => mem_of_cnt (by intro p; (try simp only [cnt_append, cnt_cons, cnt_nil]) <;> omega) z (hKm z hz)))), ?_⟩
                (refine' TA_take 80 rfl rfl (by kernel_rfl) (quiet_q (op_build rfl (bl_66_0_1_2 _ _ _))) ?_ ?_; (· (intro p hp; grind)))
                refine TA_oneD 84 (by kernel_rfl) rfl rfl rfl rfl (op_buildSlice (C := ((wcase s z1 z2).flatMap wcC).toArray) (vs := (((wcase s z1 z2).map fun x => Value.agg (wcC x).toArray).zipIdx.map fun p => (p.2, p.1))) rfl (rowLitG (len := 26) ety_67 ((wcase s z1 z2).map fun x => Value.agg (wcC x).toArray) rfl (by intro v hv; obtain ⟨x, _, rfl⟩ := List.mem_map.1 hv; rfl) (by decide) (by rw [List.flatMap_map]; rfl))) ?_
                rintro _ _ ⟨bC, rfl, rfl⟩
                refine ⟨Or.inr (by (exact (fun z hz => mem_of_cnt (by intro p; (try simp only [cnt_append, cnt_cons, cnt_nil]) <;> omega) z (hKm z hz)))), ?_⟩
                (refine' TA_take 85 rfl rfl (by kernel_rfl) (quiet_q (op_len_slice rfl Tryd.underlying67)) ?_ ?_; (· (intro p hp; grind)))
                refine TA_done (by kernel_rfl) ?_
                refine TQ_mid bC trivial ?_ (fun w h => Heap.cnt h (by intro p; (try simp only [cnt_append, cnt_cons, cnt_nil]) <;> omega))
                (repeat ((first | exact trivial | refine ⟨rfl, ?_⟩)))
    · as_aux_lemma =>
        refine Up_ofD rfl rfl rfl rfl (op_make ety_48 rfl rfl (by decide) (by decide) (by decide) (by decide) hC2) ?_
        rintro _ _ ⟨bN, rfl, rfl⟩
        refine ⟨Or.inr (by (exact (fun z hz => mem_of_cnt (by intro p; (try simp only [cnt_append, cnt_cons, cnt_nil]) <;> omega) z (hKm z hz)))), ?_⟩
        refine TA_two 78 82 (by kernel_rfl) ?_ ?_
        · as_aux_lemma =>
            refine Up_ofD rfl rfl rfl rfl (op_make ety_48 rfl rfl (by decide) (by decide) (by decide) (by decide) hC1) ?_
            rintro _ _ ⟨bM, rfl, rfl⟩
            refine ⟨Or.inr (by (exact (fun z hz => mem_of_cnt (by intro p; (try simp only [cnt_append, cnt_cons, cnt_nil]) <;> omega) z (hKm z hz)))), ?_⟩
            refine TA_two 79 82 (by kernel_rfl) ?_ ?_
            · as_aux_lemma =>
                refine Up_ofD rfl rfl rfl rfl (OpQ.v (op_conv_back (te := 5) (fr := (0, 0)) z1 rfl hz1 Tryd.underlying48 Tryd.underlying5 Tryd.underlying9 (by simp) hm1)) ?_
                rintro _ _ ⟨rfl, rfl⟩
                refine ⟨Or.inr (by (exact (fun z hz => mem_of_cnt (by intro p; (try simp only [cnt_append, cnt_cons, cnt_nil]) <;> omega) z (hKm z hz)))), ?_⟩
                (refine' TA_take 80 rfl rfl (by kernel_rfl) (quiet_q (op_build rfl (bl_66_0_1_2 _ _ _))) ?_ ?_; (· (intro p hp; grind)))
                refine TA_oneD 82 (by kernel_rfl) rfl rfl rfl rfl (OpQ.v (op_conv_back (te := 5) (fr := (0, 0)) z2 rfl hz2 Tryd.underlying48 Tryd.underlying5 Tryd.underlying9 (by simp) hm2)) ?_
                rintro _ _ ⟨rfl, rfl⟩
                refine ⟨Or.inr (by (exact (fun z hz => mem_of_cnt (by intro p; (try simp only [cnt_append, cnt_cons, cnt_nil]) <;> omega) z (hKm z hz)))), ?_⟩
                (refine' TA_take 83 rfl rfl (by kernel_rfl) (quiet_q (op_build rfl (bl_66_0_1_2 _ _ _))) ?_ ?_; (· (intro p hp; grind)))
                refine TA_oneD 84 (by kernel_rfl) rfl rfl rfl rfl (op_buildSlice (C := ((wcase s z1 z2).flatMap wcC).toArray) (vs := (((wcase s z1 z2).map fun x => Value.agg (wcC x).toArray).zipIdx.map fun p => (p.2, p.1))) rfl (rowLitG (len := 26) ety_67 ((wcase s z1 z2).map fun x => Value.agg (wcC x).toArray) rfl (by intro v hv; obtain ⟨x, _, rfl⟩ := List.mem_map.1 hv; rfl) (by decide) (by rw [List.flatMap_map]; rfl))) ?_
                rintro _ _ ⟨bC, rfl, rfl⟩
                refine ⟨Or.inr (by (exact (fun z hz => mem_of_cnt (by intro p; (try simp only [cnt_append, cnt_cons, cnt_nil]) <;> omega) z (hKm z hz)))), ?_⟩
                (refine' TA_take 85 rfl rfl (by kernel_rfl) (quiet_q (op_len_slice rfl Tryd.underlying67)) ?_ ?_; (· (intro p hp; grind)))
                refine TA_done (by kernel_rfl) ?_
                refine TQ_mid bC trivial ?_ (fun w h => Heap.cnt h (by intro p; (try simp only [cnt_append, cnt_cons, cnt_nil]) <;> omega))
                (repeat ((first | exact trivial | refine ⟨rfl, ?_⟩)))
            · as_aux_lemma =>
                refine Up_ofD rfl rfl rfl rfl (OpQ.v (op_conv_back (te := 5) (fr := (0, 0)) z2 rfl hz2 Tryd.underlying48 Tryd.underlying5 Tryd.underlying9 (by simp) hm2)) ?_
                rintro _ _ ⟨rfl, rfl⟩
                refine ⟨Or.inr (by (exact (fun z hz => mem_of_cnt (by intro p; (try simp only [cnt_append, cnt_cons, cnt_nil]) <;> omega) z (hKm z hz)))), ?_⟩
                (refine' TA_take 83 rfl rfl (by kernel_rfl) (quiet_q (op_build rfl (bl_66_0_1_2 _ _ _))) ?_ ?_; (· (intro p hp; grind)))
                refine TA_oneD 79 (by kernel_rfl) rfl rfl rfl rfl (OpQ.v (op_conv_back (te := 5) (fr := (0, 0)) z1 rfl hz1 Tryd.underlying48 Tryd.underlying5 Tryd.underlying9 (by simp) hm1)) ?_
                rintro _ _ ⟨rfl, rfl⟩
                refine ⟨Or.inr (by (exact (fun z hz => mem_of_cnt (by intro p; (try simp only [cnt_append, cnt_cons, cnt_nil]) <;> omega) z (hKm z hz)))), ?_⟩
                (refine' TA_take 80 rfl rfl (by kernel_rfl) (quiet_q (op_build rfl (bl_66_0_1_2 _ _ _))) ?_ ?_; (· (intro p hp; grind)))
                refine TA_oneD 84 (by kernel_rfl) rfl rfl rfl rfl (op_buildSlice (C := ((wcase s z1 z2).flatMap wcC).toArray) (vs := (((wcase s z1 z2).map fun x => Value.agg (wcC x).toArray).zipIdx.map fun p => (p.2, p.1))) rfl (rowLitG (len := 26) ety_67 ((wcase s z1 z2).map fun x => Value.agg (wcC x).toArray) rfl (by intro v hv; obtain ⟨x, _, rfl⟩ := List.mem_map.1 hv; rfl) (by decide) (by rw [List.flatMap_map]; rfl))) ?_
                rintro _ _ ⟨bC, rfl, rfl⟩
                refine ⟨Or.inr (by (exact (fun z hz => mem_of_cnt (by intro p; (try simp only [cnt_append, cnt_cons, cnt_nil]) <;> omega) z (hKm z hz)))), ?_⟩
                (refine' TA_take 85 rfl rfl (by kernel_rfl) (quiet_q (op_len_slice rfl Tryd.underlying67)) ?_ ?_; (· (intro p hp; grind)))
                refine TA_done (by kernel_rfl) ?_
                refine TQ_mid bC trivial ?_ (fun w h => Heap.cnt h (by intro p; (try simp only [cnt_append, cnt_cons, cnt_nil]) <;> omega))
                (repeat ((first | exact trivial | refine ⟨rfl, ?_⟩)))
        · as_aux_lemma =>
            refine Up_ofD rfl rfl rfl rfl (OpQ.v (op_conv_back (te := 5) (fr := (0, 0)) z2 rfl hz2 Tryd.underlying48 Tryd.underlying5 Tryd.underlying9 (by simp) hm2)) ?_
            rintro _ _ ⟨rfl, rfl⟩
            refine ⟨Or.inr (by (exact (fun z hz => mem_of_cnt (by intro p; (try simp only [cnt_append, cnt_cons, cnt_nil]) <;> omega) z (hKm z hz)))), ?_⟩
            (refine' TA_take 83 rfl rfl (by kernel_rfl) (quiet_q (op_build rfl (bl_66_0_1_2 _ _ _))) ?_ ?_; (· (intro p hp; grind)))
            refine TA_oneD 78 (by kernel_rfl) rfl rfl rfl rfl (op_make ety_48 rfl rfl (by decide) (by decide) (by decide) (by decide) hC1) ?_
            rintro _ _ ⟨bM, rfl, rfl⟩
            refine ⟨Or.inr (by (exact (fun z hz => mem_of_cnt (by intro p; (try simp only [cnt_append, cnt_cons, cnt_nil]) <;> omega) z (hKm z hz)))), ?_⟩
            refine TA_oneD 79 (by kernel_rfl) rfl rfl rfl rfl (OpQ.v (op_conv_back (te := 5) (fr := (0, 0)) z1 rfl hz1 Tryd.underlying48 Tryd.underlying5 Tryd.underlying9 (by simp) hm1)) ?_
            rintro _ _ ⟨rfl, rfl⟩
            refine ⟨Or.inr (by (exact (fun z hz => mem_of_cnt (by intro p; (try simp only [cnt_append, cnt_cons, cnt_nil]) <;> omega) z (hKm z hz)))), ?_⟩
            (refine' TA_take 80 rfl rfl (by kernel_rfl) (quiet_q (op_build rfl (bl_66_0_1_2 _ _ _))) ?_ ?_; (· (intro p hp; grind)))
            refine TA_oneD 84 (by kernel_rfl) rfl rfl rfl rfl (op_buildSlice (C := ((wcase s z1 z2).flatMap wcC).toArray) (vs := (((wcase s z1 z2).map fun x => Value.agg (wcC x).toArray).zipIdx.map fun p => (p.2, p.1))) rfl (rowLitG (len := 26) ety_67 ((wcase s z1 z2).map fun x => Value.agg (wcC x).toArray) rfl (by intro v hv; obtain ⟨x, _, rfl⟩ := List.mem_map.1 hv; rfl) (by decide) (by rw [List.flatMap_map]; rfl))) ?_
            rintro _ _ ⟨bC, rfl, rfl⟩
            refine ⟨Or.inr (by (exact (fun z hz => mem_of_cnt (by intro p; (try simp only [cnt_append, cnt_cons, cnt_nil]) <;> omega) z (hKm z hz)))), ?_⟩
            (refine' TA_take 85 rfl rfl (by kernel_rfl) (quiet_q (op_len_slice rfl Tryd.underlying67)) ?_ ?_; (· (intro p hp; grind)))
            refine TA_done (by kernel_rfl) ?_
            refine TQ_mid bC trivial ?_ (fun w h => Heap.cnt h (by intro p; (try simp only [cnt_append, cnt_cons, cnt_nil]) <;> omega))
            (repeat ((first | exact trivial | refine ⟨rfl, ?_⟩)))
  rintro bC _
  repeat ((with_reducible refine T_block ?_))
  refine T_loopS (σ := Nat) (fun i => i ≤ 26) (fun i => [(1, .string (bs s)), (102, .slice (some ⟨bC, 0, none⟩) 26 26), (103, .int .i64 26), (104, .int .i64 (i : Nat))]) (fun _ => (bC, Obj.cells ((wcase s z1 z2).flatMap wcC).toArray 66 (0, 0)) :: L) (fun i => 26 - i) 0 (by omega) ?_ (fun _ h => h) ?_
  (repeat ((first | exact trivial | refine ⟨rfl, ?_⟩)))
  rintro i hi
  by_cases hlt : i < 26
  · obtain ⟨x, hx⟩ : ∃ x, (wcase s z1 z2)[i]? = some x := ⟨_, List.getElem?_eq_getElem (by rw [wcase_len]; exact hlt)⟩
    obtain ⟨hp, hl, h10⟩ := hwp x (List.mem_of_getElem? hx)
    have hcs : ∀ j v, (wcC x)[j]? = some v → ((wcase s z1 z2).flatMap wcC).toArray[0 + i * 3 + j]? = some v := fun j v hj => by
      rw [Nat.zero_add, List.getElem?_toArray]
      exact flat_get (f := wcC) (sz := 3) (fun _ => rfl) (wcase s z1 z2) i j x v hx hj
    repeat ((first | with_reducible refine T_seq ?_ | with_reducible refine T_block ?_ | with_reducible refine T_region ?_ | with_reducible refine TL_nil ?_ | with_reducible refine TQ_then ?_ | with_reducible refine T_skip ?_ | (refine' TL_q (op_bin rfl rfl ?_) rfl ?_; rotate_left 1; (· (exact bin_lss))) | (refine' TL_q (op_idx ety_67 rfl rfl ?_) rfl ?_; (· omega)) | (refine T_yes rfl ?_ ?_; (· (exact dT (by (omega)))))))
    refine TL_q (op_ldA [.string (bs x.1), .int .i64 x.2.1, .int .i64 x.2.2] rfl st_66 (List.mem_cons_self ..) hcs) rfl ?_
    repeat ((first | with_reducible refine T_seq ?_ | with_reducible refine T_region ?_ | with_reducible refine TL_nil ?_ | with_reducible refine TQ_then ?_ | refine TL_q (op_fld rfl fld_66_0) rfl ?_ | (refine' TL_q (op_ld rfl pl_3 ?_ ?_) rfl ?_; rotate_left 4; (· repeat ((exact List.mem_cons_self))); (· (rfl))) | (refine TL_stAll rfl rfl st_66 rfl rfl rfl ?_) | (refine TL_new (op_alloc (C := #[(.string (bs [])), (.int .i64 0), (.int .i64 0)]) zero_66 rfl) rfl ?_; intro bNew)))
    obtain ⟨b4, hb4⟩ : ∃ b, bNew = b := ⟨_, rfl⟩
    rw [hb4]
    clear hb4 bNew
    have k0 : ([.string (bs x.1), .int .i64 x.2.1, .int .i64 x.2.2] : List Value).toArray[0 + 0]? = some (.string (bs x.1)) := rfl
    have k1 : ([.string (bs x.1), .int .i64 x.2.1, .int .i64 x.2.2] : List Value).toArray[0 + 1]? = some (.int .i64 x.2.1) := rfl
    have k2 : ([.string (bs x.1), .int .i64 x.2.1, .int .i64 x.2.2] : List Value).toArray[0 + 2]? = some (.int .i64 x.2.2) := rfl
    skip
    refine TL_opT (op_call hb_23 rfl (pParse_R x.1 _ hp hl h10 (hg.mono (mem_of_cnt (by intro p; (try simp only [cnt_append, cnt_cons, cnt_nil]) <;> omega))))) rfl ?_
    rintro _ _ ⟨a, cap, B, rfl, hB, rfl⟩
    dsimp only at hB ⊢
    unfold parseOutV
    repeat ((first | with_reducible refine T_seq ?_ | with_reducible refine T_region ?_ | with_reducible refine TL_nil ?_ | with_reducible refine TQ_then ?_ | refine TL_q (op_move rfl) rfl ?_ | refine TL_q (op_assign rfl) rfl ?_ | (refine' TL_q (op_bin rfl rfl ?_) rfl ?_; rotate_left 1; (· (exact bin_neq))) | refine TL_q (op_extract rfl rfl) rfl ?_ | (refine' TL_q (op_pickF rfl ?_ rfl) rfl ?_; (· (exact nF (by (with_reducible rfl))))) | refine TL_q (op_fld rfl fld_66_1) rfl ?_ | (refine' TL_q (op_ld rfl pl_3 ?_ ?_) rfl ?_; rotate_left 4; (· repeat ((first | exact List.mem_cons_self | apply List.mem_cons_of_mem | apply List.mem_append_right))); (· (assumption))) | (refine TL_gpre rfl rfl ?_ ?_; (· (exact nF (by (with_reducible rfl))))) | refine TL_gq2 (op_move rfl) rfl ?_ | (refine' TL_gq2 (op_bin rfl rfl ?_) rfl ?_; rotate_left 1; (· (exact bin_neq))) | refine TL_gq2 (op_fld rfl fld_66_2) rfl ?_ | (refine' TL_gq2 (op_ld rfl pl_3 ?_ ?_) rfl ?_; rotate_left 4; (· repeat ((first | exact List.mem_cons_self | apply List.mem_cons_of_mem | apply List.mem_append_right))); (· (assumption))) | (refine' TL_gq2 (op_ldAll rfl st_25 ?_ ?_) rfl ?_; rotate_left 3; (· repeat ((exact List.mem_cons_self))); (· (rfl))) | (refine TL_stAll rfl rfl st_25 rfl rfl rfl ?_) | (refine TL_new (op_alloc (C := #[(.int .i64 0), (.int .i64 0), (.int .i64 0), (.int .i64 0), (.int .i64 0), (.int .i64 0), (.int .i64 0), (.int .i64 0), (.int .i64 0), (.int .i64 0), (.int .i64 0), (.int .i64 0), (.slice none 0 0)]) zero_25 rfl) rfl ?_; intro bNew) | refine TL_gq2 (op_build rfl (bl_25_ )) rfl ?_))
    obtain ⟨b5, hb5⟩ : ∃ b, bNew = b := ⟨_, rfl⟩
    rw [hb5]
    clear hb5 bNew
    refine TG_op (op_call hb_21 rfl (rSame_S Cn.zeroC Cn.zeroC _ _ (ORow.sliceR mono_zo hB (by simp) (mem_of_cnt (by intro p; (try simp only [cnt_append, cnt_cons, cnt_nil]) <;> omega))) sliceR.nil)) rfl ?_
    rw [show sameC Cn.zeroC Cn.zeroC = true from by decide +kernel]
    repeat ((first | with_reducible refine T_region ?_ | with_reducible refine TL_nil ?_ | with_reducible refine TQ_then ?_ | with_reducible refine TQ_block ?_ | with_reducible refine T_skip ?_ | refine TL_q (op_move rfl) rfl ?_ | (refine' TL_q (op_bin rfl rfl ?_) rfl ?_; rotate_left 1; (· (exact bin_add ⟨by omega, by omega⟩))) | (refine' TL_q (op_pickF rfl ?_ rfl) rfl ?_; (· (exact nF (by (with_reducible rfl))))) | (refine TL_gpre rfl rfl ?_ ?_; (· (exact nF (by (with_reducible rfl))))) | refine TL_gq2 (op_not rfl) rfl ?_ | (refine T_no rfl ?_ ?_; (· (exact Bool.not_true)))))
    refine TQ_roundS (i + 1) (by omega) ?_ (fun w h => Heap.cnt h (by intro p; (try simp only [cnt_append, cnt_cons, cnt_nil]) <;> omega)) (by omega)
    (repeat ((first | exact trivial | refine ⟨rfl, ?_⟩)))
  obtain rfl : i = 26 := by omega
  repeat ((first | with_reducible refine T_seq ?_ | with_reducible refine T_region ?_ | with_reducible refine TL_nil ?_ | with_reducible refine TQ_then ?_ | with_reducible refine T_exit ?_ | with_reducible refine TQ_then_exit ?_ | with_reducible refine TQ_block_exit ?_ | refine TL_q (op_move rfl) rfl ?_ | (refine' TL_q (op_bin rfl rfl ?_) rfl ?_; rotate_left 1; (· (first | exact bin_lss | exact sbin_add (by (simp only [List.length_cons, List.length_nil]; omega))))) | (refine T_no rfl ?_ ?_; (· (exact Bool.not_true)))))
  refine TL_opT (op_call hb_23 rfl (pParse_R _ _ hlast (by rw [List.length_append, hel]; decide) (Or.inr (by rw [List.length_append, hel]; decide)) (hg.mono (mem_of_cnt (by intro p; (try simp only [cnt_append, cnt_cons, cnt_nil]) <;> omega))))) rfl ?_
  rintro _ _ ⟨a, cap, B, rfl, hB, rfl⟩
  dsimp only at hB ⊢
  have hzl : cW.zs.length = 2 := rfl
  obtain ⟨bz, cur, rfl, rfl, hcap, hmax, hsz, hat⟩ := hB.block (fun e => by rw [e] at hzl; simp at hzl)
  have hat0 : ∀ j v, (zoC ⟨[3, 99, 100, 110, 0], 3, 5⟩)[j]? = some v → cur[0 + (0 : Int).toNat * 3 + j]? = some v := by
    obtain ⟨cs, _, ⟨rfl, _⟩, _, h⟩ := hat 0 _ rfl
    intro j v hj
    rw [Nat.zero_add]
    exact h j v hj
  have hat1 : ∀ j v, (zoC ⟨[3, 97, 46, 98, 0], 2, 0⟩)[j]? = some v → cur[0 + (1 : Int).toNat * 3 + j]? = some v := by
    obtain ⟨cs, _, ⟨rfl, _⟩, _, h⟩ := hat 1 _ rfl
    intro j v hj
    rw [Nat.zero_add]
    exact h j v hj
  clear hat hB
  unfold maxLen at hmax
  unfold parseOutV
  rw [hzl] at hcap ⊢
  have g0 : (cfCells (cW) (.slice (some ⟨bz, 0, none⟩) 2 cap)).toArray[0 + 0]? = some (.int .i64 (cW).ups) := rfl
  have g1 : (cfCells (cW) (.slice (some ⟨bz, 0, none⟩) 2 cap)).toArray[0 + 1]? = some (.int .i64 (cW).ded) := rfl
  have g2 : (cfCells (cW) (.slice (some ⟨bz, 0, none⟩) 2 cap)).toArray[0 + 2]? = some (.int .i64 (cW).hdg) := rfl
  have g3 : (cfCells (cW) (.slice (some ⟨bz, 0, none⟩) 2 cap)).toArray[0 + 3]? = some (.int .i64 (cW).wai) := rfl
  have g4 : (cfCells (cW) (.slice (some ⟨bz, 0, none⟩) 2 cap)).toArray[0 + 4]? = some (.int .i64 (cW).tri) := rfl
  have g5 : (cfCells (cW) (.slice (some ⟨bz, 0, none⟩) 2 cap)).toArray[0 + 5]? = some (.int .i64 (cW).res) := rfl
  have g6 : (cfCells (cW) (.slice (some ⟨bz, 0, none⟩) 2 cap)).toArray[0 + 6]? = some (.int .i64 (cW).lim) := rfl
  have g7 : (cfCells (cW) (.slice (some ⟨bz, 0, none⟩) 2 cap)).toArray[0 + 7]? = some (.int .i64 (cW).cac) := rfl
  have g8 : (cfCells (cW) (.slice (some ⟨bz, 0, none⟩) 2 cap)).toArray[0 + 8]? = some (.int .i64 (cW).fli) := rfl
  have g9 : (cfCells (cW) (.slice (some ⟨bz, 0, none⟩) 2 cap)).toArray[0 + 9]? = some (.int .i64 (cW).wtr) := rfl
  have g10 : (cfCells (cW) (.slice (some ⟨bz, 0, none⟩) 2 cap)).toArray[0 + 10]? = some (.int .i64 (cW).ttl) := rfl
  have g11 : (cfCells (cW) (.slice (some ⟨bz, 0, none⟩) 2 cap)).toArray[0 + 11]? = some (.int .i64 (cW).siz) := rfl
  have g12 : (cfCells (cW) (.slice (some ⟨bz, 0, none⟩) 2 cap)).toArray[0 + 12]? = some (.slice (some ⟨bz, 0, none⟩) 2 cap) := rfl
  repeat ((first | with_reducible refine T_seq ?_ | with_reducible refine T_region ?_ | with_reducible refine TL_nil ?_ | with_reducible refine TQ_then ?_ | refine TL_q (op_move rfl) rfl ?_ | refine TL_q (op_assign rfl) rfl ?_ | (refine' TL_q (op_bin rfl rfl ?_) rfl ?_; rotate_left 1; (· (exact bin_eql))) | refine TL_q (op_extract rfl rfl) rfl ?_ | (refine' TL_q (op_pickT rfl ?_ rfl) rfl ?_; (· (exact Bool.not_false))) | (refine TL_gpre rfl rfl ?_ ?_; (· (exact Bool.not_false))) | refine TL_gq2 (op_move rfl) rfl ?_ | (refine' TL_gq2 (op_bin rfl rfl ?_) rfl ?_; rotate_left 1; (· (exact bin_eql))) | refine TL_gq2 (op_len_slice rfl Tryd.underlying23) rfl ?_ | (refine' TL_gq2 (op_idxI ety_23 rfl rfl ?_ ?_) rfl ?_; (· omega); (· omega)) | refine TL_gq2 (op_fld rfl fld_25_12) rfl ?_ | (refine' TL_gq2 (op_ld rfl pl_3 ?_ ?_) rfl ?_; rotate_left 4; (· repeat ((exact List.mem_cons_self))); (· (assumption))) | (refine TL_stAll rfl rfl st_25 rfl rfl rfl ?_) | (refine TL_new (op_alloc (C := #[(.int .i64 0), (.int .i64 0), (.int .i64 0), (.int .i64 0), (.int .i64 0), (.int .i64 0), (.int .i64 0), (.int .i64 0), (.int .i64 0), (.int .i64 0), (.int .i64 0), (.int .i64 0), (.slice none 0 0)]) zero_25 rfl) rfl ?_; intro bNew)))
  refine TG_op (OpQ.v (op_ldA [.string (bs [3, 99, 100, 110, 0]), .int .u8 3, .int .u16 5] rfl st_38 (List.mem_cons_of_mem _ (List.mem_cons_self ..)) hat0)) rfl ?_
  repeat ((first | (refine TL_gpre rfl rfl ?_ ?_; (· (exact Bool.not_false))) | refine TL_gq2 (op_build rfl (bl_38_0_1_2 _ _ _)) rfl ?_))
  refine TG_op (OpQ.v (op_bin rfl rfl (zbin_eqlo (x := ⟨[3, 99, 100, 110, 0], 3, 5⟩) (y := ⟨[3, 99, 100, 110, 0], 3, 5⟩)))) rfl ?_
  rw [decide_eq_true (rfl : (⟨[3, 99, 100, 110, 0], 3, 5⟩ : Zo) = ⟨[3, 99, 100, 110, 0], 3, 5⟩)]
  repeat ((first | refine TL_q (op_move rfl) rfl ?_ | (refine' TL_q (op_pickT rfl ?_ rfl) rfl ?_; (· (exact Bool.not_false))) | (refine TL_gpre rfl rfl ?_ ?_; (· (with_reducible rfl))) | (refine' TL_gq2 (op_idxI ety_23 rfl rfl ?_ ?_) rfl ?_; (· omega); (· omega)) | refine TL_gq2 (op_fld rfl fld_25_12) rfl ?_ | (refine' TL_gq2 (op_ld rfl pl_3 ?_ ?_) rfl ?_; rotate_left 4; (· repeat ((exact List.mem_cons_self))); (· (assumption)))))
  refine TG_op (OpQ.v (op_ldA [.string (bs [3, 97, 46, 98, 0]), .int .u8 2, .int .u16 0] rfl st_38 (List.mem_cons_of_mem _ (List.mem_cons_self ..)) hat1)) rfl ?_
  repeat ((first | (refine TL_gpre rfl rfl ?_ ?_; (· (with_reducible rfl))) | refine TL_gq2 (op_build rfl (bl_38_0_1 _ _)) rfl ?_))
  refine TG_op (OpQ.v (op_bin rfl rfl (zbin_eqlo (x := ⟨[3, 97, 46, 98, 0], 2, 0⟩) (y := ⟨[3, 97, 46, 98, 0], 2, 0⟩)))) rfl ?_
  rw [decide_eq_true (rfl : (⟨[3, 97, 46, 98, 0], 2, 0⟩ : Zo) = ⟨[3, 97, 46, 98, 0], 2, 0⟩)]
  repeat ((first | with_reducible refine TL_nil ?_ | with_reducible refine TQ_then ?_ | with_reducible refine T_ret ?_ | refine TL_q (op_assign rfl) rfl ?_ | (refine' TL_q (op_pickT rfl ?_ rfl) rfl ?_; (· (with_reducible rfl)))))
  refine TQ_cnt (L' := L) ?_ (by intro p; (try simp only [cnt_append, cnt_cons, cnt_nil]) <;> omega)
  refine TQ_ret1 0 _ rfl rfl ?_
  exact ⟨rfl, rfl⟩
end Go.Proofs.YtnhlpifbadncmaaDoor
namespace Go.Proofs.YtnhlpifbadncmaaDoor
open Go.RowKit
open Cn (Zo Cf)
set_option linter.unusedVariables false
set_option linter.unusedSimpArgs false
--auto
--store2
section
variable {G : World} {P : Program} {n : Nat} {ρ : Slots} {L : Blocks} {ty : TypeId} {Q : Exit → Act → World → Prop} {ops : Array Oper} {K : Blocks} {W : List Nat} {fuel : Nat} {listed : Array Bool}
theorem TA_three (i j k : Nat) (hr : Region.ready .any ops listed = [i, j, k]) (h1 : Up P G ops n K W Q fuel listed ρ L i) (h2 : Up P G ops n K W Q fuel listed ρ L j) (h3 : Up P G ops n K W Q fuel listed ρ L k) : TA P G ops n K W Q (fuel + 1) listed ρ L := by
  refine ⟨fun h0 => (by rw [hr] at h0; cases h0), fun q hq => ?_⟩
  rw [hr] at hq
  simp at hq
  rcases hq with rfl | rfl | rfl
  · exact h1
  · exact h2
  · exact h3
end
def leastC : Cf := ⟨1, 1, 1, 1, 1, 1, 1, 0, 1, 1, 0, 512, []⟩
def mostC : Cf := ⟨9, 100000, 1000, 1000, 4, 100000, 100, 256, 32, 16, 2147483647, 4096, []⟩
def setK (c : Cf) (v : Int) : Nat → Cf
  | 0 => { c with ups := v }
  | 1 => { c with ded := v }
  | 2 => { c with hdg := v }
  | 3 => { c with wai := v }
  | 4 => { c with tri := v }
  | 5 => { c with res := v }
  | 6 => { c with lim := v }
  | 7 => { c with cac := v }
  | 8 => { c with fli := v }
  | 9 => { c with wtr := v }
  | 10 => { c with ttl := v }
  | _ => { c with siz := v }
def lowV : List Int := [-1, 0, 0, 0, 0, 0, 0, -1, 0, 0, -1, 511]
def highV : List Int := [11, 100001, 1001, 1001, 5, 100001, 101, 257, 33, 17, 2147483648, 4097]
def lowC (i : Nat) : Cf := setK leastC (lowV.getD i 0) i
def highC (i : Nat) : Cf := setK mostC (highV.getD i 0) i
def evenC : Cf := { mostC with ups := 8 }
theorem names_dec : Cn.mayP leastC = true ∧ Cn.mayP mostC = true ∧ Cn.liesP leastC = 0 ∧ Cn.liesP mostC = 4 ∧ Cn.mayP evenC = false := by decide +kernel
theorem names_low : ∀ i < 12, Cn.mayP (lowC i) = false ∧ Cn.mayP (highC i) = false ∧ (lowC i).zs = [] ∧ (highC i).zs = [] := by decide +kernel
variable {G : World} {L : Blocks}
theorem op_stAllN {P : Program} {ρ : Slots} {ty : TypeId} {x y : Operand} {b k : Nat} {t : TypeId} {C D : Array Value} {te : TypeId} (hx : ev ρ x = some (.pointer (some ⟨b, 0, none⟩))) (hy : ev ρ y = some (.agg D))
    (ht : structTy P t k = true) (hC : C.size = k) (hD : D.size = k) (hone : allOne D = true) : OpV P G ρ ((b, Obj.cells C te (0, 0)) :: L) (.store t x y) ty undef ((b, Obj.cells D te (0, 0)) :: L) := by
  have h1 := op_stA (G := G) (P := P) (ρ := ρ) (L := L) (ty := ty) (b := b) (C := C) (te := te) (t := t) (cs := D.toList) hx (by simpa using hy) (by rw [Array.length_toList, hD]; exact ht) (fun v hv => List.all_eq_true.1 hone v hv) (by rw [Array.length_toList, hD, hC]; omega)
  have h2 : putAt C 0 D.toList = D := by
    unfold putAt
    rw [List.drop_eq_nil_of_le (by simp; omega)]
    simp
  rw [h2] at h1
  exact h1
theorem cf_nil (L : Blocks) (c : Cf) (h : c.zs = []) : CfL L c (.slice none 0 0) := ⟨by rw [h]; exact sliceR.nil, by rw [h]; simp⟩
set_option maxRecDepth 100000 in
set_option maxHeartbeats 16000000 in
theorem names_S (hg : Glob L) : Spec Tryd.prog G 3 #[] L fun u M => u = .bool true ∧ M = L := by
  obtain ⟨d1, d2, d3, d4, d5⟩ := names_dec
  refine Spec_of (n := 129) Tryd.func3 rfl rfl rfl ?_
  repeat ((first | with_reducible refine T_seq ?_ | with_reducible refine T_region ?_ | with_reducible refine TL_nil ?_ | with_reducible refine TQ_then ?_ | refine TL_q (op_assign rfl) rfl ?_))
  refine TL_op (op_call hb_10 rfl (awake_S hg)) rfl ?_
  repeat ((first | with_reducible refine T_seq ?_ | with_reducible refine T_region ?_ | with_reducible refine TL_nil ?_ | with_reducible refine TQ_then ?_ | with_reducible refine T_skip ?_ | refine TL_q (op_move rfl) rfl ?_ | refine TL_q (op_not rfl) rfl ?_ | (refine' TL_q (op_pickF rfl ?_ rfl) rfl ?_; (· (first | with_reducible rfl | assumption))) | (refine' TL_q (op_ldAll rfl st_25 ?_ ?_) rfl ?_; rotate_left 3; (· repeat ((first | exact List.mem_cons_self | apply List.mem_cons_of_mem))); (· (rfl))) | (refine TL_stAll rfl rfl st_25 rfl rfl rfl ?_) | (refine TL_new (op_alloc (C := #[(.int .i64 0), (.int .i64 0), (.int .i64 0), (.int .i64 0), (.int .i64 0), (.int .i64 0), (.int .i64 0), (.int .i64 0), (.int .i64 0), (.int .i64 0), (.int .i64 0), (.int .i64 0), (.slice none 0 0)]) zero_25 rfl) rfl ?_; intro bNew) | refine TL_q (op_build rfl (bl_25_0_1_2_3_4_5_6_7_8_9_10_11 _ _ _ _ _ _ _ _ _ _ _ _)) rfl ?_ | refine TL_q (op_build rfl (bl_25_0_1_2_3_4_5_6_8_9_11 _ _ _ _ _ _ _ _ _ _)) rfl ?_ | (refine T_no rfl ?_ ?_; (· (with_reducible rfl)))))
  obtain ⟨b2, hb2⟩ : ∃ b, bNew = b := ⟨_, rfl⟩
  rw [hb2]
  clear hb2 bNew
  obtain ⟨b1, hb1⟩ : ∃ b, bNew = b := ⟨_, rfl⟩
  rw [hb1]
  clear hb1 bNew
  refine TL_op (op_call hb_11 rfl (pMay_S leastC (.slice none 0 0) (cf_nil _ _ rfl))) rfl ?_
  rw [mayE1_yes d1]
  repeat ((first | refine TL_q (op_move rfl) rfl ?_ | (refine' TL_q (op_bin rfl rfl ?_) rfl ?_; rotate_left 1; (· (exact bin_neq))) | (refine TL_gpre rfl rfl ?_ ?_; (· (assumption))) | (refine' TL_gq2 (op_ldAll rfl st_25 ?_ ?_) rfl ?_; rotate_left 3; (· repeat ((exact List.mem_cons_self))); (· (rfl)))))
  refine TG_op (op_call hb_11 rfl (pMay_S mostC (.slice none 0 0) (cf_nil _ _ rfl))) rfl ?_
  rw [mayE1_yes d2]
  repeat ((first | refine TL_q (op_move rfl) rfl ?_ | (refine' TL_q (op_pickF rfl ?_ rfl) rfl ?_; (· (assumption))) | (refine TL_gpre rfl rfl ?_ ?_; (· (assumption))) | (refine' TL_gq2 (op_bin rfl rfl ?_) rfl ?_; rotate_left 1; (· (exact bin_neq))) | (refine' TL_gq2 (op_ldAll rfl st_25 ?_ ?_) rfl ?_; rotate_left 3; (· repeat ((first | exact List.mem_cons_self | apply List.mem_cons_of_mem))); (· (rfl)))))
  refine TG_op (op_call hb_12 rfl (pLies_S leastC (.slice none 0 0) (cf_nil _ _ rfl))) rfl ?_
  rw [d3]
  repeat ((first | refine TL_q (op_move rfl) rfl ?_ | (refine' TL_q (op_pickF rfl ?_ rfl) rfl ?_; (· (assumption))) | (refine TL_gpre rfl rfl ?_ ?_; (· (assumption))) | (refine' TL_gq2 (op_bin rfl rfl ?_) rfl ?_; rotate_left 1; (· (exact bin_neq))) | (refine' TL_gq2 (op_ldAll rfl st_25 ?_ ?_) rfl ?_; rotate_left 3; (· repeat ((exact List.mem_cons_self))); (· (rfl)))))
  refine TG_op (op_call hb_12 rfl (pLies_S mostC (.slice none 0 0) (cf_nil _ _ rfl))) rfl ?_
  rw [d4]
  repeat ((first | with_reducible refine T_seq ?_ | with_reducible refine T_block ?_ | with_reducible refine T_region ?_ | with_reducible refine TL_nil ?_ | with_reducible refine TQ_then ?_ | with_reducible refine T_skip ?_ | refine TL_q (op_assign rfl) rfl ?_ | (refine' TL_q (op_pickF rfl ?_ rfl) rfl ?_; (· (assumption))) | (refine TL_gpre rfl rfl ?_ ?_; (· (assumption))) | (refine' TL_gq2 (op_bin rfl rfl ?_) rfl ?_; rotate_left 1; (· (exact bin_neq))) | (refine T_no rfl ?_ ?_; (· (assumption)))))
  refine T_loopS (σ := Nat) (fun i => i ≤ 12) (fun i => [(1, .pointer (some ⟨b1, 0, none⟩)), (2, .pointer (some ⟨b2, 0, none⟩)), (3, .int .i64 (i : Nat))]) (fun _ => (b2, Obj.cells (cfCells mostC (.slice none 0 0)).toArray 25 (0, 0)) :: (b1, Obj.cells (cfCells leastC (.slice none 0 0)).toArray 25 (0, 0)) :: L) (fun i => 12 - i) 0 (by omega) ?_ (fun _ h => h) ?_
  (repeat ((first | exact trivial | refine ⟨rfl, ?_⟩)))
  rintro i hi
  by_cases hlt : i < 12
  · obtain ⟨n1, n2, n3, n4⟩ := names_low i hlt
    repeat ((first | with_reducible refine T_seq ?_ | with_reducible refine T_block ?_ | with_reducible refine T_region ?_ | with_reducible refine TL_nil ?_ | with_reducible refine TQ_then ?_ | with_reducible refine T_skip ?_ | refine TL_q (op_move rfl) rfl ?_ | (refine' TL_q (op_bin rfl rfl ?_) rfl ?_; rotate_left 1; (· (exact bin_lss))) | (refine T_yes rfl ?_ ?_; (· (exact dT (by (omega)))))))
    have hKm : ∀ p ∈ [(b2, Obj.cells (cfCells mostC (.slice none 0 0)).toArray 25 (0, 0)), (b1, Obj.cells (cfCells leastC (.slice none 0 0)).toArray 25 (0, 0))], p ∈ (b2, Obj.cells (cfCells mostC (.slice none 0 0)).toArray 25 (0, 0)) :: (b1, Obj.cells (cfCells leastC (.slice none 0 0)).toArray 25 (0, 0)) :: L := by
      intro p hp
      simp only [List.mem_cons, List.not_mem_nil, or_false] at hp
      rcases hp with rfl | rfl <;> simp
    refine T_midK (σ := Nat × Nat × Nat) (fun _ => True) (fun x => [(1, .pointer (some ⟨b1, 0, none⟩)), (2, .pointer (some ⟨b2, 0, none⟩)), (3, .int .i64 (i : Nat)), (4, .pointer (some ⟨x.1, 0, none⟩)), (5, .pointer (some ⟨x.2.1, 0, none⟩)), (6, .pointer (some ⟨x.2.2, 0, none⟩))]) (fun x => (x.2.2, Obj.cells (cfCells mostC (.slice none 0 0)).toArray 25 (0, 0)) :: (x.1, Obj.cells (cfCells leastC (.slice none 0 0)).toArray 25 (0, 0)) :: (x.2.1, Obj.cells (cfCells mostC (.slice none 0 0)).toArray 25 (0, 0)) :: (b2, Obj.cells (cfCells mostC (.slice none 0 0)).toArray 25 (0, 0)) :: (b1, Obj.cells (cfCells leastC (.slice none 0 0)).toArray 25 (0, 0)) :: L) ?_ ?_
    · skip
      refine T_draw follows_mixed ([(b2, Obj.cells (cfCells mostC (.slice none 0 0)).toArray 25 (0, 0)), (b1, Obj.cells (cfCells leastC (.slice none 0 0)).toArray 25 (0, 0))]) [] ?_
      (refine' TA_take 0 rfl rfl (by kernel_rfl) (quiet_q (op_ldAll rfl st_25 ?_ ?_)) ?_ ?_; rotate_left 3; (· repeat ((first | exact List.mem_cons_self | apply List.mem_cons_of_mem))); (· (rfl)); (· (assumption)))
      (refine' TA_take 1 rfl rfl (by kernel_rfl) (quiet_q (op_ldAll rfl st_25 ?_ ?_)) ?_ ?_; rotate_left 3; (· repeat ((exact List.mem_cons_self))); (· (rfl)); (· (assumption)))
      (refine' TA_take 2 rfl rfl (by kernel_rfl) (quiet_q (op_ldAll rfl st_25 ?_ ?_)) ?_ ?_; rotate_left 3; (· repeat ((exact List.mem_cons_self))); (· (rfl)); (· (assumption)))
      refine TA_three 3 4 5 (by kernel_rfl) ?_ ?_ ?_
      · refine Up_ofD rfl rfl rfl rfl (op_alloc (C := (cfCells Cn.zeroC (.slice none 0 0)).toArray) zero_25 rfl) ?_
        rintro _ _ ⟨b4, rfl, rfl⟩
        refine ⟨Or.inr (by (exact (fun z hz => mem_of_cnt (by intro p; (try simp only [cnt_append, cnt_cons, cnt_nil]) <;> omega) z (hKm z hz)))), ?_⟩
        refine TA_two 4 5 (by kernel_rfl) ?_ ?_
        · refine Up_ofD rfl rfl rfl rfl (op_alloc (C := (cfCells Cn.zeroC (.slice none 0 0)).toArray) zero_25 rfl) ?_
          rintro _ _ ⟨b5, rfl, rfl⟩
          refine ⟨Or.inr (by (exact (fun z hz => mem_of_cnt (by intro p; (try simp only [cnt_append, cnt_cons, cnt_nil]) <;> omega) z (hKm z hz)))), ?_⟩
          refine TA_oneD 5 (by kernel_rfl) rfl rfl rfl rfl (op_alloc (C := (cfCells Cn.zeroC (.slice none 0 0)).toArray) zero_25 rfl) ?_
          rintro _ _ ⟨b6, rfl, rfl⟩
          refine ⟨Or.inr (by (exact (fun z hz => mem_of_cnt (by intro p; (try simp only [cnt_append, cnt_cons, cnt_nil]) <;> omega) z (hKm z hz)))), ?_⟩
          refine TA_cnt (L' := (b4, Obj.cells (cfCells Cn.zeroC (.slice none 0 0)).toArray 25 (0, 0)) :: (b5, Obj.cells (cfCells Cn.zeroC (.slice none 0 0)).toArray 25 (0, 0)) :: (b6, Obj.cells (cfCells Cn.zeroC (.slice none 0 0)).toArray 25 (0, 0)) :: (b2, Obj.cells (cfCells mostC (.slice none 0 0)).toArray 25 (0, 0)) :: (b1, Obj.cells (cfCells leastC (.slice none 0 0)).toArray 25 (0, 0)) :: L) ?_ (by intro p; (try simp only [cnt_append, cnt_cons, cnt_nil]) <;> omega)
          refine TA_oneN 6 (by kernel_rfl) rfl rfl rfl (op_stAllN (D := (cfCells leastC (.slice none 0 0)).toArray) rfl rfl st_25 rfl rfl rfl) ?_
          rintro _ _ ⟨_, rfl⟩
          refine ⟨Or.inr (by (exact (fun z hz => mem_of_cnt (by intro p; (try simp only [cnt_append, cnt_cons, cnt_nil]) <;> omega) z (hKm z hz)))), ?_⟩
          refine TA_cnt (L' := (b5, Obj.cells (cfCells Cn.zeroC (.slice none 0 0)).toArray 25 (0, 0)) :: (b4, Obj.cells (cfCells leastC (.slice none 0 0)).toArray 25 (0, 0)) :: (b6, Obj.cells (cfCells Cn.zeroC (.slice none 0 0)).toArray 25 (0, 0)) :: (b2, Obj.cells (cfCells mostC (.slice none 0 0)).toArray 25 (0, 0)) :: (b1, Obj.cells (cfCells leastC (.slice none 0 0)).toArray 25 (0, 0)) :: L) ?_ (by intro p; (try simp only [cnt_append, cnt_cons, cnt_nil]) <;> omega)
          refine TA_oneN 7 (by kernel_rfl) rfl rfl rfl (op_stAllN (D := (cfCells mostC (.slice none 0 0)).toArray) rfl rfl st_25 rfl rfl rfl) ?_
          rintro _ _ ⟨_, rfl⟩
          refine ⟨Or.inr (by (exact (fun z hz => mem_of_cnt (by intro p; (try simp only [cnt_append, cnt_cons, cnt_nil]) <;> omega) z (hKm z hz)))), ?_⟩
          refine TA_cnt (L' := (b6, Obj.cells (cfCells Cn.zeroC (.slice none 0 0)).toArray 25 (0, 0)) :: (b4, Obj.cells (cfCells leastC (.slice none 0 0)).toArray 25 (0, 0)) :: (b5, Obj.cells (cfCells mostC (.slice none 0 0)).toArray 25 (0, 0)) :: (b2, Obj.cells (cfCells mostC (.slice none 0 0)).toArray 25 (0, 0)) :: (b1, Obj.cells (cfCells leastC (.slice none 0 0)).toArray 25 (0, 0)) :: L) ?_ (by intro p; (try simp only [cnt_append, cnt_cons, cnt_nil]) <;> omega)
          refine TA_oneN 8 (by kernel_rfl) rfl rfl rfl (op_stAllN (D := (cfCells mostC (.slice none 0 0)).toArray) rfl rfl st_25 rfl rfl rfl) ?_
          rintro _ _ ⟨_, rfl⟩
          refine ⟨Or.inr (by (exact (fun z hz => mem_of_cnt (by intro p; (try simp only [cnt_append, cnt_cons, cnt_nil]) <;> omega) z (hKm z hz)))), ?_⟩
          refine TA_done (by kernel_rfl) ?_
          refine TQ_mid (b4, b5, b6) trivial ?_ (fun w h => h)
          (repeat ((first | exact trivial | refine ⟨rfl, ?_⟩)))
        · refine Up_ofD rfl rfl rfl rfl (op_alloc (C := (cfCells Cn.zeroC (.slice none 0 0)).toArray) zero_25 rfl) ?_
          rintro _ _ ⟨b6, rfl, rfl⟩
          refine ⟨Or.inr (by (exact (fun z hz => mem_of_cnt (by intro p; (try simp only [cnt_append, cnt_cons, cnt_nil]) <;> omega) z (hKm z hz)))), ?_⟩
          refine TA_oneD 4 (by kernel_rfl) rfl rfl rfl rfl (op_alloc (C := (cfCells Cn.zeroC (.slice none 0 0)).toArray) zero_25 rfl) ?_
          rintro _ _ ⟨b5, rfl, rfl⟩
          refine ⟨Or.inr (by (exact (fun z hz => mem_of_cnt (by intro p; (try simp only [cnt_append, cnt_cons, cnt_nil]) <;> omega) z (hKm z hz)))), ?_⟩
          refine TA_cnt (L' := (b4, Obj.cells (cfCells Cn.zeroC (.slice none 0 0)).toArray 25 (0, 0)) :: (b5, Obj.cells (cfCells Cn.zeroC (.slice none 0 0)).toArray 25 (0, 0)) :: (b6, Obj.cells (cfCells Cn.zeroC (.slice none 0 0)).toArray 25 (0, 0)) :: (b2, Obj.cells (cfCells mostC (.slice none 0 0)).toArray 25 (0, 0)) :: (b1, Obj.cells (cfCells leastC (.slice none 0 0)).toArray 25 (0, 0)) :: L) ?_ (by intro p; (try simp only [cnt_append, cnt_cons, cnt_nil]) <;> omega)
          refine TA_oneN 6 (by kernel_rfl) rfl rfl rfl (op_stAllN (D := (cfCells leastC (.slice none 0 0)).toArray) rfl rfl st_25 rfl rfl rfl) ?_
          rintro _ _ ⟨_, rfl⟩
          refine ⟨Or.inr (by (exact (fun z hz => mem_of_cnt (by intro p; (try simp only [cnt_append, cnt_cons, cnt_nil]) <;> omega) z (hKm z hz)))), ?_⟩
          refine TA_cnt (L' := (b5, Obj.cells (cfCells Cn.zeroC (.slice none 0 0)).toArray 25 (0, 0)) :: (b4, Obj.cells (cfCells leastC (.slice none 0 0)).toArray 25 (0, 0)) :: (b6, Obj.cells (cfCells Cn.zeroC (.slice none 0 0)).toArray 25 (0, 0)) :: (b2, Obj.cells (cfCells mostC (.slice none 0 0)).toArray 25 (0, 0)) :: (b1, Obj.cells (cfCells leastC (.slice none 0 0)).toArray 25 (0, 0)) :: L) ?_ (by intro p; (try simp only [cnt_append, cnt_cons, cnt_nil]) <;> omega)
          refine TA_oneN 7 (by kernel_rfl) rfl rfl rfl (op_stAllN (D := (cfCells mostC (.slice none 0 0)).toArray) rfl rfl st_25 rfl rfl rfl) ?_
          rintro _ _ ⟨_, rfl⟩
          refine ⟨Or.inr (by (exact (fun z hz => mem_of_cnt (by intro p; (try simp only [cnt_append, cnt_cons, cnt_nil]) <;> omega) z (hKm z hz)))), ?_⟩
          refine TA_cnt (L' := (b6, Obj.cells (cfCells Cn.zeroC (.slice none 0 0)).toArray 25 (0, 0)) :: (b4, Obj.cells (cfCells leastC (.slice none 0 0)).toArray 25 (0, 0)) :: (b5, Obj.cells (cfCells mostC (.slice none 0 0)).toArray 25 (0, 0)) :: (b2, Obj.cells (cfCells mostC (.slice none 0 0)).toArray 25 (0, 0)) :: (b1, Obj.cells (cfCells leastC (.slice none 0 0)).toArray 25 (0, 0)) :: L) ?_ (by intro p; (try simp only [cnt_append, cnt_cons, cnt_nil]) <;> omega)
          refine TA_oneN 8 (by kernel_rfl) rfl rfl rfl (op_stAllN (D := (cfCells mostC (.slice none 0 0)).toArray) rfl rfl st_25 rfl rfl rfl) ?_
          rintro _ _ ⟨_, rfl⟩
          refine ⟨Or.inr (by (exact (fun z hz => mem_of_cnt (by intro p; (try simp only [cnt_append, cnt_cons, cnt_nil]) <;> omega) z (hKm z hz)))), ?_⟩
          refine TA_done (by kernel_rfl) ?_
          refine TQ_mid (b4, b5, b6) trivial ?_ (fun w h => h)
          (repeat ((first | exact trivial | refine ⟨rfl, ?_⟩)))
      · refine Up_ofD rfl rfl rfl rfl (op_alloc (C := (cfCells Cn.zeroC (.slice none 0 0)).toArray) zero_25 rfl) ?_
        rintro _ _ ⟨b5, rfl, rfl⟩
        refine ⟨Or.inr (by (exact (fun z hz => mem_of_cnt (by intro p; (try simp only [cnt_append, cnt_cons, cnt_nil]) <;> omega) z (hKm z hz)))), ?_⟩
        refine TA_two 3 5 (by kernel_rfl) ?_ ?_
        · refine Up_ofD rfl rfl rfl rfl (op_alloc (C := (cfCells Cn.zeroC (.slice none 0 0)).toArray) zero_25 rfl) ?_
          rintro _ _ ⟨b4, rfl, rfl⟩
          refine ⟨Or.inr (by (exact (fun z hz => mem_of_cnt (by intro p; (try simp only [cnt_append, cnt_cons, cnt_nil]) <;> omega) z (hKm z hz)))), ?_⟩
          refine TA_oneD 5 (by kernel_rfl) rfl rfl rfl rfl (op_alloc (C := (cfCells Cn.zeroC (.slice none 0 0)).toArray) zero_25 rfl) ?_
          rintro _ _ ⟨b6, rfl, rfl⟩
          refine ⟨Or.inr (by (exact (fun z hz => mem_of_cnt (by intro p; (try simp only [cnt_append, cnt_cons, cnt_nil]) <;> omega) z (hKm z hz)))), ?_⟩
          refine TA_cnt (L' := (b4, Obj.cells (cfCells Cn.zeroC (.slice none 0 0)).toArray 25 (0, 0)) :: (b5, Obj.cells (cfCells Cn.zeroC (.slice none 0 0)).toArray 25 (0, 0)) :: (b6, Obj.cells (cfCells Cn.zeroC (.slice none 0 0)).toArray 25 (0, 0)) :: (b2, Obj.cells (cfCells mostC (.slice none 0 0)).toArray 25 (0, 0)) :: (b1, Obj.cells (cfCells leastC (.slice none 0 0)).toArray 25 (0, 0)) :: L) ?_ (by intro p; (try simp only [cnt_append, cnt_cons, cnt_nil]) <;> omega)
          refine TA_oneN 6 (by kernel_rfl) rfl rfl rfl (op_stAllN (D := (cfCells leastC (.slice none 0 0)).toArray) rfl rfl st_25 rfl rfl rfl) ?_
          rintro _ _ ⟨_, rfl⟩
          refine ⟨Or.inr (by (exact (fun z hz => mem_of_cnt (by intro p; (try simp only [cnt_append, cnt_cons, cnt_nil]) <;> omega) z (hKm z hz)))), ?_⟩
          refine TA_cnt (L' := (b5, Obj.cells (cfCells Cn.zeroC (.slice none 0 0)).toArray 25 (0, 0)) :: (b4, Obj.cells (cfCells leastC (.slice none 0 0)).toArray 25 (0, 0)) :: (b6, Obj.cells (cfCells Cn.zeroC (.slice none 0 0)).toArray 25 (0, 0)) :: (b2, Obj.cells (cfCells mostC (.slice none 0 0)).toArray 25 (0, 0)) :: (b1, Obj.cells (cfCells leastC (.slice none 0 0)).toArray 25 (0, 0)) :: L) ?_ (by intro p; (try simp only [cnt_append, cnt_cons, cnt_nil]) <;> omega)
          refine TA_oneN 7 (by kernel_rfl) rfl rfl rfl (op_stAllN (D := (cfCells mostC (.slice none 0 0)).toArray) rfl rfl st_25 rfl rfl rfl) ?_
          rintro _ _ ⟨_, rfl⟩
          refine ⟨Or.inr (by (exact (fun z hz => mem_of_cnt (by intro p; (try simp only [cnt_append, cnt_cons, cnt_nil]) <;> omega) z (hKm z hz)))), ?_⟩
          refine TA_cnt (L' := (b6, Obj.cells (cfCells Cn.zeroC (.slice none 0 0)).toArray 25 (0, 0)) :: (b4, Obj.cells (cfCells leastC (.slice none 0 0)).toArray 25 (0, 0)) :: (b5, Obj.cells (cfCells mostC (.slice none 0 0)).toArray 25 (0, 0)) :: (b2, Obj.cells (cfCells mostC (.slice none 0 0)).toArray 25 (0, 0)) :: (b1, Obj.cells (cfCells leastC (.slice none 0 0)).toArray 25 (0, 0)) :: L) ?_ (by intro p; (try simp only [cnt_append, cnt_cons, cnt_nil]) <;> omega)
          refine TA_oneN 8 (by kernel_rfl) rfl rfl rfl (op_stAllN (D := (cfCells mostC (.slice none 0 0)).toArray) rfl rfl st_25 rfl rfl rfl) ?_
          rintro _ _ ⟨_, rfl⟩
          refine ⟨Or.inr (by (exact (fun z hz => mem_of_cnt (by intro p; (try simp only [cnt_append, cnt_cons, cnt_nil]) <;> omega) z (hKm z hz)))), ?_⟩
          refine TA_done (by kernel_rfl) ?_
          refine TQ_mid (b4, b5, b6) trivial ?_ (fun w h => h)
          (repeat ((first | exact trivial | refine ⟨rfl, ?_⟩)))
        · refine Up_ofD rfl rfl rfl rfl (op_alloc (C := (cfCells Cn.zeroC (.slice none 0 0)).toArray) zero_25 rfl) ?_
          rintro _ _ ⟨b6, rfl, rfl⟩
          refine ⟨Or.inr (by (exact (fun z hz => mem_of_cnt (by intro p; (try simp only [cnt_append, cnt_cons, cnt_nil]) <;> omega) z (hKm z hz)))), ?_⟩
          refine TA_oneD 3 (by kernel_rfl) rfl rfl rfl rfl (op_alloc (C := (cfCells Cn.zeroC (.slice none 0 0)).toArray) zero_25 rfl) ?_
          rintro _ _ ⟨b4, rfl, rfl⟩
          refine ⟨Or.inr (by (exact (fun z hz => mem_of_cnt (by intro p; (try simp only [cnt_append, cnt_cons, cnt_nil]) <;> omega) z (hKm z hz)))), ?_⟩
          refine TA_cnt (L' := (b4, Obj.cells (cfCells Cn.zeroC (.slice none 0 0)).toArray 25 (0, 0)) :: (b5, Obj.cells (cfCells Cn.zeroC (.slice none 0 0)).toArray 25 (0, 0)) :: (b6, Obj.cells (cfCells Cn.zeroC (.slice none 0 0)).toArray 25 (0, 0)) :: (b2, Obj.cells (cfCells mostC (.slice none 0 0)).toArray 25 (0, 0)) :: (b1, Obj.cells (cfCells leastC (.slice none 0 0)).toArray 25 (0, 0)) :: L) ?_ (by intro p; (try simp only [cnt_append, cnt_cons, cnt_nil]) <;> omega)
          refine TA_oneN 6 (by kernel_rfl) rfl rfl rfl (op_stAllN (D := (cfCells leastC (.slice none 0 0)).toArray) rfl rfl st_25 rfl rfl rfl) ?_
          rintro _ _ ⟨_, rfl⟩
          refine ⟨Or.inr (by (exact (fun z hz => mem_of_cnt (by intro p; (try simp only [cnt_append, cnt_cons, cnt_nil]) <;> omega) z (hKm z hz)))), ?_⟩
          refine TA_cnt (L' := (b5, Obj.cells (cfCells Cn.zeroC (.slice none 0 0)).toArray 25 (0, 0)) :: (b4, Obj.cells (cfCells leastC (.slice none 0 0)).toArray 25 (0, 0)) :: (b6, Obj.cells (cfCells Cn.zeroC (.slice none 0 0)).toArray 25 (0, 0)) :: (b2, Obj.cells (cfCells mostC (.slice none 0 0)).toArray 25 (0, 0)) :: (b1, Obj.cells (cfCells leastC (.slice none 0 0)).toArray 25 (0, 0)) :: L) ?_ (by intro p; (try simp only [cnt_append, cnt_cons, cnt_nil]) <;> omega)
          refine TA_oneN 7 (by kernel_rfl) rfl rfl rfl (op_stAllN (D := (cfCells mostC (.slice none 0 0)).toArray) rfl rfl st_25 rfl rfl rfl) ?_
          rintro _ _ ⟨_, rfl⟩
          refine ⟨Or.inr (by (exact (fun z hz => mem_of_cnt (by intro p; (try simp only [cnt_append, cnt_cons, cnt_nil]) <;> omega) z (hKm z hz)))), ?_⟩
          refine TA_cnt (L' := (b6, Obj.cells (cfCells Cn.zeroC (.slice none 0 0)).toArray 25 (0, 0)) :: (b4, Obj.cells (cfCells leastC (.slice none 0 0)).toArray 25 (0, 0)) :: (b5, Obj.cells (cfCells mostC (.slice none 0 0)).toArray 25 (0, 0)) :: (b2, Obj.cells (cfCells mostC (.slice none 0 0)).toArray 25 (0, 0)) :: (b1, Obj.cells (cfCells leastC (.slice none 0 0)).toArray 25 (0, 0)) :: L) ?_ (by intro p; (try simp only [cnt_append, cnt_cons, cnt_nil]) <;> omega)
          refine TA_oneN 8 (by kernel_rfl) rfl rfl rfl (op_stAllN (D := (cfCells mostC (.slice none 0 0)).toArray) rfl rfl st_25 rfl rfl rfl) ?_
          rintro _ _ ⟨_, rfl⟩
          refine ⟨Or.inr (by (exact (fun z hz => mem_of_cnt (by intro p; (try simp only [cnt_append, cnt_cons, cnt_nil]) <;> omega) z (hKm z hz)))), ?_⟩
          refine TA_done (by kernel_rfl) ?_
          refine TQ_mid (b4, b5, b6) trivial ?_ (fun w h => h)
          (repeat ((first | exact trivial | refine ⟨rfl, ?_⟩)))
      · refine Up_ofD rfl rfl rfl rfl (op_alloc (C := (cfCells Cn.zeroC (.slice none 0 0)).toArray) zero_25 rfl) ?_
        rintro _ _ ⟨b6, rfl, rfl⟩
        refine ⟨Or.inr (by (exact (fun z hz => mem_of_cnt (by intro p; (try simp only [cnt_append, cnt_cons, cnt_nil]) <;> omega) z (hKm z hz)))), ?_⟩
        refine TA_two 3 4 (by kernel_rfl) ?_ ?_
        · refine Up_ofD rfl rfl rfl rfl (op_alloc (C := (cfCells Cn.zeroC (.slice none 0 0)).toArray) zero_25 rfl) ?_
          rintro _ _ ⟨b4, rfl, rfl⟩
          refine ⟨Or.inr (by (exact (fun z hz => mem_of_cnt (by intro p; (try simp only [cnt_append, cnt_cons, cnt_nil]) <;> omega) z (hKm z hz)))), ?_⟩
          refine TA_oneD 4 (by kernel_rfl) rfl rfl rfl rfl (op_alloc (C := (cfCells Cn.zeroC (.slice none 0 0)).toArray) zero_25 rfl) ?_
          rintro _ _ ⟨b5, rfl, rfl⟩
          refine ⟨Or.inr (by (exact (fun z hz => mem_of_cnt (by intro p; (try simp only [cnt_append, cnt_cons, cnt_nil]) <;> omega) z (hKm z hz)))), ?_⟩
          refine TA_cnt (L' := (b4, Obj.cells (cfCells Cn.zeroC (.slice none 0 0)).toArray 25 (0, 0)) :: (b5, Obj.cells (cfCells Cn.zeroC (.slice none 0 0)).toArray 25 (0, 0)) :: (b6, Obj.cells (cfCells Cn.zeroC (.slice none 0 0)).toArray 25 (0, 0)) :: (b2, Obj.cells (cfCells mostC (.slice none 0 0)).toArray 25 (0, 0)) :: (b1, Obj.cells (cfCells leastC (.slice none 0 0)).toArray 25 (0, 0)) :: L) ?_ (by intro p; (try simp only [cnt_append, cnt_cons, cnt_nil]) <;> omega)
          refine TA_oneN 6 (by kernel_rfl) rfl rfl rfl (op_stAllN (D := (cfCells leastC (.slice none 0 0)).toArray) rfl rfl st_25 rfl rfl rfl) ?_
          rintro _ _ ⟨_, rfl⟩
          refine ⟨Or.inr (by (exact (fun z hz => mem_of_cnt (by intro p; (try simp only [cnt_append, cnt_cons, cnt_nil]) <;> omega) z (hKm z hz)))), ?_⟩
          refine TA_cnt (L' := (b5, Obj.cells (cfCells Cn.zeroC (.slice none 0 0)).toArray 25 (0, 0)) :: (b4, Obj.cells (cfCells leastC (.slice none 0 0)).toArray 25 (0, 0)) :: (b6, Obj.cells (cfCells Cn.zeroC (.slice none 0 0)).toArray 25 (0, 0)) :: (b2, Obj.cells (cfCells mostC (.slice none 0 0)).toArray 25 (0, 0)) :: (b1, Obj.cells (cfCells leastC (.slice none 0 0)).toArray 25 (0, 0)) :: L) ?_ (by intro p; (try simp only [cnt_append, cnt_cons, cnt_nil]) <;> omega)
          refine TA_oneN 7 (by kernel_rfl) rfl rfl rfl (op_stAllN (D := (cfCells mostC (.slice none 0 0)).toArray) rfl rfl st_25 rfl rfl rfl) ?_
          rintro _ _ ⟨_, rfl⟩
          refine ⟨Or.inr (by (exact (fun z hz => mem_of_cnt (by intro p; (try simp only [cnt_append, cnt_cons, cnt_nil]) <;> omega) z (hKm z hz)))), ?_⟩
          refine TA_cnt (L' := (b6, Obj.cells (cfCells Cn.zeroC (.slice none 0 0)).toArray 25 (0, 0)) :: (b4, Obj.cells (cfCells leastC (.slice none 0 0)).toArray 25 (0, 0)) :: (b5, Obj.cells (cfCells mostC (.slice none 0 0)).toArray 25 (0, 0)) :: (b2, Obj.cells (cfCells mostC (.slice none 0 0)).toArray 25 (0, 0)) :: (b1, Obj.cells (cfCells leastC (.slice none 0 0)).toArray 25 (0, 0)) :: L) ?_ (by intro p; (try simp only [cnt_append, cnt_cons, cnt_nil]) <;> omega)
          refine TA_oneN 8 (by kernel_rfl) rfl rfl rfl (op_stAllN (D := (cfCells mostC (.slice none 0 0)).toArray) rfl rfl st_25 rfl rfl rfl) ?_
          rintro _ _ ⟨_, rfl⟩
          refine ⟨Or.inr (by (exact (fun z hz => mem_of_cnt (by intro p; (try simp only [cnt_append, cnt_cons, cnt_nil]) <;> omega) z (hKm z hz)))), ?_⟩
          refine TA_done (by kernel_rfl) ?_
          refine TQ_mid (b4, b5, b6) trivial ?_ (fun w h => h)
          (repeat ((first | exact trivial | refine ⟨rfl, ?_⟩)))
        · refine Up_ofD rfl rfl rfl rfl (op_alloc (C := (cfCells Cn.zeroC (.slice none 0 0)).toArray) zero_25 rfl) ?_
          rintro _ _ ⟨b5, rfl, rfl⟩
          refine ⟨Or.inr (by (exact (fun z hz => mem_of_cnt (by intro p; (try simp only [cnt_append, cnt_cons, cnt_nil]) <;> omega) z (hKm z hz)))), ?_⟩
          refine TA_oneD 3 (by kernel_rfl) rfl rfl rfl rfl (op_alloc (C := (cfCells Cn.zeroC (.slice none 0 0)).toArray) zero_25 rfl) ?_
          rintro _ _ ⟨b4, rfl, rfl⟩
          refine ⟨Or.inr (by (exact (fun z hz => mem_of_cnt (by intro p; (try simp only [cnt_append, cnt_cons, cnt_nil]) <;> omega) z (hKm z hz)))), ?_⟩
          refine TA_cnt (L' := (b4, Obj.cells (cfCells Cn.zeroC (.slice none 0 0)).toArray 25 (0, 0)) :: (b5, Obj.cells (cfCells Cn.zeroC (.slice none 0 0)).toArray 25 (0, 0)) :: (b6, Obj.cells (cfCells Cn.zeroC (.slice none 0 0)).toArray 25 (0, 0)) :: (b2, Obj.cells (cfCells mostC (.slice none 0 0)).toArray 25 (0, 0)) :: (b1, Obj.cells (cfCells leastC (.slice none 0 0)).toArray 25 (0, 0)) :: L) ?_ (by intro p; (try simp only [cnt_append, cnt_cons, cnt_nil]) <;> omega)
          refine TA_oneN 6 (by kernel_rfl) rfl rfl rfl (op_stAllN (D := (cfCells leastC (.slice none 0 0)).toArray) rfl rfl st_25 rfl rfl rfl) ?_
          rintro _ _ ⟨_, rfl⟩
          refine ⟨Or.inr (by (exact (fun z hz => mem_of_cnt (by intro p; (try simp only [cnt_append, cnt_cons, cnt_nil]) <;> omega) z (hKm z hz)))), ?_⟩
          refine TA_cnt (L' := (b5, Obj.cells (cfCells Cn.zeroC (.slice none 0 0)).toArray 25 (0, 0)) :: (b4, Obj.cells (cfCells leastC (.slice none 0 0)).toArray 25 (0, 0)) :: (b6, Obj.cells (cfCells Cn.zeroC (.slice none 0 0)).toArray 25 (0, 0)) :: (b2, Obj.cells (cfCells mostC (.slice none 0 0)).toArray 25 (0, 0)) :: (b1, Obj.cells (cfCells leastC (.slice none 0 0)).toArray 25 (0, 0)) :: L) ?_ (by intro p; (try simp only [cnt_append, cnt_cons, cnt_nil]) <;> omega)
          refine TA_oneN 7 (by kernel_rfl) rfl rfl rfl (op_stAllN (D := (cfCells mostC (.slice none 0 0)).toArray) rfl rfl st_25 rfl rfl rfl) ?_
          rintro _ _ ⟨_, rfl⟩
          refine ⟨Or.inr (by (exact (fun z hz => mem_of_cnt (by intro p; (try simp only [cnt_append, cnt_cons, cnt_nil]) <;> omega) z (hKm z hz)))), ?_⟩
          refine TA_cnt (L' := (b6, Obj.cells (cfCells Cn.zeroC (.slice none 0 0)).toArray 25 (0, 0)) :: (b4, Obj.cells (cfCells leastC (.slice none 0 0)).toArray 25 (0, 0)) :: (b5, Obj.cells (cfCells mostC (.slice none 0 0)).toArray 25 (0, 0)) :: (b2, Obj.cells (cfCells mostC (.slice none 0 0)).toArray 25 (0, 0)) :: (b1, Obj.cells (cfCells leastC (.slice none 0 0)).toArray 25 (0, 0)) :: L) ?_ (by intro p; (try simp only [cnt_append, cnt_cons, cnt_nil]) <;> omega)
          refine TA_oneN 8 (by kernel_rfl) rfl rfl rfl (op_stAllN (D := (cfCells mostC (.slice none 0 0)).toArray) rfl rfl st_25 rfl rfl rfl) ?_
          rintro _ _ ⟨_, rfl⟩
          refine ⟨Or.inr (by (exact (fun z hz => mem_of_cnt (by intro p; (try simp only [cnt_append, cnt_cons, cnt_nil]) <;> omega) z (hKm z hz)))), ?_⟩
          refine TA_done (by kernel_rfl) ?_
          refine TQ_mid (b4, b5, b6) trivial ?_ (fun w h => h)
          (repeat ((first | exact trivial | refine ⟨rfl, ?_⟩)))
    rintro ⟨b4, b5, b6⟩ _
    dsimp only
    clear hKm
    refine T_mid (σ := Unit) (fun _ => True) (fun _ => [(1, .pointer (some ⟨b1, 0, none⟩)), (2, .pointer (some ⟨b2, 0, none⟩)), (3, .int .i64 (i : Nat)), (4, .pointer (some ⟨b4, 0, none⟩)), (5, .pointer (some ⟨b5, 0, none⟩)), (6, .pointer (some ⟨b6, 0, none⟩))]) (fun _ => (b4, Obj.cells (cfCells leastC (.slice none 0 0)).toArray 25 (0, 0)) :: (b5, Obj.cells (cfCells mostC (.slice none 0 0)).toArray 25 (0, 0)) :: (b6, Obj.cells (cfCells evenC (.slice none 0 0)).toArray 25 (0, 0)) :: (b2, Obj.cells (cfCells mostC (.slice none 0 0)).toArray 25 (0, 0)) :: (b1, Obj.cells (cfCells leastC (.slice none 0 0)).toArray 25 (0, 0)) :: L) ?_ ?_
    · repeat ((first | with_reducible refine T_region ?_ | with_reducible refine TL_nil ?_ | refine TL_q (op_fld rfl fld_25_0) rfl ?_ | (refine' TL_st rfl rfl one_3 rfl ?_ rfl ?_; rotate_left 1; (· (rfl)))))
      refine TQ_mid () trivial ?_ (fun w h => by
        have h' : Heap G w ((b6, Obj.cells (cfCells evenC (.slice none 0 0)).toArray 25 (0, 0)) :: (b4, Obj.cells (cfCells leastC (.slice none 0 0)).toArray 25 (0, 0)) :: (b5, Obj.cells (cfCells mostC (.slice none 0 0)).toArray 25 (0, 0)) :: (b2, Obj.cells (cfCells mostC (.slice none 0 0)).toArray 25 (0, 0)) :: (b1, Obj.cells (cfCells leastC (.slice none 0 0)).toArray 25 (0, 0)) :: L) := h
        exact Heap.cnt h' (by intro p; (try simp only [cnt_append, cnt_cons, cnt_nil]) <;> omega))
      (repeat ((first | exact trivial | refine ⟨rfl, ?_⟩)))
    rintro _ _
    refine T_mid (σ := Unit) (fun _ => True) (fun _ => [(1, .pointer (some ⟨b1, 0, none⟩)), (2, .pointer (some ⟨b2, 0, none⟩)), (3, .int .i64 (i : Nat)), (4, .pointer (some ⟨b4, 0, none⟩)), (5, .pointer (some ⟨b5, 0, none⟩)), (6, .pointer (some ⟨b6, 0, none⟩))]) (fun _ => (b4, Obj.cells (cfCells (lowC i) (.slice none 0 0)).toArray 25 (0, 0)) :: (b5, Obj.cells (cfCells (highC i) (.slice none 0 0)).toArray 25 (0, 0)) :: (b6, Obj.cells (cfCells evenC (.slice none 0 0)).toArray 25 (0, 0)) :: (b2, Obj.cells (cfCells mostC (.slice none 0 0)).toArray 25 (0, 0)) :: (b1, Obj.cells (cfCells leastC (.slice none 0 0)).toArray 25 (0, 0)) :: L) ?_ ?_
    · clear n1 n2 n3 n4
      rcases (by omega : i = 0 ∨ i = 1 ∨ i = 2 ∨ i = 3 ∨ i = 4 ∨ i = 5 ∨ i = 6 ∨ i = 7 ∨ i = 8 ∨ i = 9 ∨ i = 10 ∨ i = 11) with rfl | rfl | rfl | rfl | rfl | rfl | rfl | rfl | rfl | rfl | rfl | rfl
      all_goals
        repeat ((first | with_reducible refine T_seq ?_ | with_reducible refine T_block ?_ | with_reducible refine T_region ?_ | with_reducible refine TL_nil ?_ | with_reducible refine TQ_then ?_ | with_reducible refine TQ_block ?_ | refine TL_q (op_move rfl) rfl ?_ | refine TL_q (op_assign rfl) rfl ?_ | (refine' TL_q (op_bin rfl rfl ?_) rfl ?_; rotate_left 1; (· (exact bin_eql))) | refine TL_q (op_fld rfl fld_25_0) rfl ?_ | refine TL_q (op_fld rfl fld_25_1) rfl ?_ | refine TL_q (op_fld rfl fld_25_2) rfl ?_ | refine TL_q (op_fld rfl fld_25_3) rfl ?_ | refine TL_q (op_fld rfl fld_25_4) rfl ?_ | refine TL_q (op_fld rfl fld_25_5) rfl ?_ | refine TL_q (op_fld rfl fld_25_6) rfl ?_ | refine TL_q (op_fld rfl fld_25_7) rfl ?_ | refine TL_q (op_fld rfl fld_25_8) rfl ?_ | refine TL_q (op_fld rfl fld_25_9) rfl ?_ | refine TL_q (op_fld rfl fld_25_10) rfl ?_ | refine TL_q (op_fld rfl fld_25_11) rfl ?_ | (refine' TL_st rfl rfl one_3 rfl ?_ rfl ?_; rotate_left 1; (· (rfl))) | (refine' TL_st2 rfl rfl one_3 rfl ?_ rfl ?_; rotate_left 1; (· (rfl))) | (refine T_yes rfl ?_ ?_; (· (assumption))) | (refine T_no rfl ?_ ?_; (· (assumption)))))
        refine TQ_mid () trivial ?_ (fun w h => h)
        (repeat ((first | exact trivial | refine ⟨rfl, ?_⟩)))
    rintro _ _
    have hs0 : showV (lowC i) = .tuple #[.string (bs []), .int .i64 1] := by unfold showV Cn.showP; rw [n1]; rfl
    have hl0 : Cn.liesP (highC i) = 0 := by unfold Cn.liesP; rw [n2]; rfl
    repeat ((first | with_reducible refine T_seq ?_ | with_reducible refine T_region ?_ | (refine' TL_q (op_ldAll rfl st_25 ?_ ?_) rfl ?_; rotate_left 3; (· repeat ((exact List.mem_cons_self))); (· (rfl)))))
    refine TL_op (op_call hb_13 rfl (pShow_S (lowC i) (.slice none 0 0) (cf_nil _ _ n3) (hg.mono (mem_of_cnt (by intro p; (try simp only [cnt_append, cnt_cons, cnt_nil]) <;> omega))))) rfl ?_
    rw [hs0]
    repeat ((first | with_reducible refine T_seq ?_ | with_reducible refine T_region ?_ | with_reducible refine TL_nil ?_ | with_reducible refine TQ_then ?_ | refine TL_q (op_move rfl) rfl ?_ | refine TL_q (op_assign rfl) rfl ?_ | refine TL_q (op_extract rfl rfl) rfl ?_ | (refine' TL_q (op_ldAll rfl st_25 ?_ ?_) rfl ?_; rotate_left 3; (· repeat ((exact List.mem_cons_self))); (· (rfl)))))
    refine TL_op (op_call hb_11 rfl (pMay_S (lowC i) (.slice none 0 0) (cf_nil _ _ n3))) rfl ?_
    rw [mayE1_no n1]
    repeat ((first | refine TL_q (op_move rfl) rfl ?_ | (refine' TL_q (op_bin rfl rfl ?_) rfl ?_; rotate_left 1; (· (exact bin_neq))) | (refine TL_gpre rfl rfl ?_ ?_; (· (assumption))) | (refine' TL_gq2 (op_ldAll rfl st_25 ?_ ?_) rfl ?_; rotate_left 3; (· repeat ((first | exact List.mem_cons_self | apply List.mem_cons_of_mem))); (· (rfl)))))
    refine TG_op (op_call hb_11 rfl (pMay_S (highC i) (.slice none 0 0) (cf_nil _ _ n4))) rfl ?_
    rw [mayE1_no n2]
    repeat ((first | refine TL_q (op_move rfl) rfl ?_ | (refine' TL_q (op_pickF rfl ?_ rfl) rfl ?_; (· (assumption))) | (refine TL_gpre rfl rfl ?_ ?_; (· (assumption))) | (refine' TL_gq2 (op_bin rfl rfl ?_) rfl ?_; rotate_left 1; (· (exact bin_neq))) | (refine' TL_gq2 (op_ldAll rfl st_25 ?_ ?_) rfl ?_; rotate_left 3; (· repeat ((first | exact List.mem_cons_self | apply List.mem_cons_of_mem))); (· (rfl)))))
    refine TG_op (op_call hb_11 rfl (pMay_S evenC (.slice none 0 0) (cf_nil _ _ rfl))) rfl ?_
    rw [mayE1_no d5]
    repeat ((first | refine TL_q (op_move rfl) rfl ?_ | (refine' TL_q (op_pickF rfl ?_ rfl) rfl ?_; (· (assumption))) | (refine TL_gpre rfl rfl ?_ ?_; (· (assumption))) | refine TL_gq2 (op_move rfl) rfl ?_ | (refine' TL_gq2 (op_bin rfl rfl ?_) rfl ?_; rotate_left 1; (· (first | exact bin_neq | exact sbin_neq))) | (refine' TL_gq2 (op_ldAll rfl st_25 ?_ ?_) rfl ?_; rotate_left 3; (· repeat ((first | exact List.mem_cons_self | apply List.mem_cons_of_mem))); (· (rfl)))))
    refine TG_op (op_call hb_12 rfl (pLies_S (highC i) (.slice none 0 0) (cf_nil _ _ n4))) rfl ?_
    rw [hl0]
    repeat ((first | with_reducible refine T_region ?_ | with_reducible refine TL_nil ?_ | with_reducible refine TQ_then ?_ | with_reducible refine TQ_block ?_ | with_reducible refine T_skip ?_ | refine TL_q (op_move rfl) rfl ?_ | refine TL_q (op_assign rfl) rfl ?_ | (refine' TL_q (op_bin rfl rfl ?_) rfl ?_; rotate_left 1; (· (exact bin_add ⟨by omega, by omega⟩))) | (refine' TL_q (op_pickF rfl ?_ rfl) rfl ?_; (· (assumption))) | (refine TL_gpre rfl rfl ?_ ?_; (· (assumption))) | (refine' TL_gq2 (op_bin rfl rfl ?_) rfl ?_; rotate_left 1; (· (exact bin_neq))) | (refine T_no rfl ?_ ?_; (· (assumption)))))
    refine TQ_roundS (i + 1) (by omega) ?_ (fun w h => Heap.cnt h (by intro p; (try simp only [cnt_append, cnt_cons, cnt_nil]) <;> omega)) (by omega)
    (repeat ((first | exact trivial | refine ⟨rfl, ?_⟩)))
  obtain rfl : i = 12 := by omega
  repeat ((first | with_reducible refine T_seq ?_ | with_reducible refine T_region ?_ | with_reducible refine TL_nil ?_ | with_reducible refine TQ_then ?_ | with_reducible refine T_exit ?_ | with_reducible refine TQ_then_exit ?_ | with_reducible refine TQ_block_exit ?_ | refine TL_q (op_move rfl) rfl ?_ | (refine' TL_q (op_bin rfl rfl ?_) rfl ?_; rotate_left 1; (· (exact bin_lss))) | (refine T_no rfl ?_ ?_; (· (assumption)))))
  refine TL_op (op_call hb_14 rfl zones_S) rfl ?_
  repeat ((first | refine TL_q (op_move rfl) rfl ?_ | (refine TL_gpre rfl rfl ?_ ?_; (· (with_reducible rfl)))))
  refine TG_op (op_call hb_15 rfl (wrong_S (hg.mono (mem_of_cnt (by intro p; (try simp only [cnt_append, cnt_cons, cnt_nil]) <;> omega))))) rfl ?_
  repeat ((first | with_reducible refine TL_nil ?_ | with_reducible refine TQ_then ?_ | with_reducible refine T_ret ?_ | refine TL_q (op_assign rfl) rfl ?_ | (refine' TL_q (op_pickT rfl ?_ rfl) rfl ?_; (· (with_reducible rfl)))))
  refine TQ_cnt (L' := L) ?_ (by intro p; (try simp only [cnt_append, cnt_cons, cnt_nil]) <;> omega)
  refine TQ_ret1 0 _ rfl rfl ?_
  exact ⟨rfl, rfl⟩
end Go.Proofs.YtnhlpifbadncmaaDoor
