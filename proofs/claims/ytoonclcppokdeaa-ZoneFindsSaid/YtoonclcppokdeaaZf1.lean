/-
  ZoneFinds: the contracts as specifications; stores of structs.
-/
import Derived.Test.YtoonclcppokdeaaRn
import Derived.Test.YtoonclcppokdeaaWRef5
import Derived.Test.YtoonclcppokdeaaWLong
import Derived.Test.YtoonclcppokdeaaWZAwake
import Derived.Test.YtoonclcppokdeaaLZInner
import Derived.Laws.CopyRow
namespace Go.Proofs.Ytoonclcppokdeaa
open Go.RowKit
set_option linter.unusedVariables false
section
variable {G : World} {P : Program} {n : Nat} {ρ : Slots} {L : Blocks} {ty : TypeId} {Q : Exit → Act → World → Prop}
theorem op_append0Z {s x : Operand} {t e : TypeId} {sz bytes : Nat} {z v : Value} {m c : Nat} {a : Option Addr} {xs : List Value} {B : Blocks} (E : ElemTy P t e sz bytes z) (hs : ev ρ s = some v) (hx : ev ρ x = some (.slice a 0 c))
    (hrow : Row e sz v m xs B) (h63 : m + 0 ≤ maxLen) (hby : (m + 0) * bytes ≤ 140737488355328) :
    OpT P G ρ (B ++ L) (.call ⟨.builtin .append, #[s, x], #[t, t]⟩) ty fun v' L' => ∃ B', Row e sz v' (m + 0) (xs ++ []) B' ∧ L' = B' ++ L :=
  ⟨fun r hr w hw o ho _ => by
    obtain ⟨i, hi, hz0, hz1, hz2⟩ := E.info
    have hown := hrow.owns hw
    have key : ∃ v' w', (Builtin.append_ #[t, t] o.type #[v, .slice a 0 c]).run P w = .ok v' w' ∧ w'.ownsRow 0 e sz v' (m + 0) (xs ++ []) ∧ w.grownBy w' v.ownBlock ∧ (v'.ownBlock = v.ownBlock ∨ v'.ownBlock = some w.heap.size) := by
      cases a with
      | none => exact ⟨v, w, run_app0 w t o.type e i c E.und hi 0 sz v m xs hown, by simpa using hown, ⟨rfl, rfl, rfl, Nat.le_refl _, fun _ _ _ => rfl⟩, Or.inl rfl⟩
      | some x =>
        obtain ⟨v', w', q1, q2, q3, _, q5⟩ := run_append_own_at w 0 t o.type e i z sz bytes E.und hi hz0 hz1 hz2 E.cells E.pos v m xs hown x 0 c [] (by simp)
          (fun j y hj => by simp at hj) (by simp) h63 hby (Nat.zero_le _)
        exact ⟨v', w', q1, q2, q3, q5⟩
    obtain ⟨v', w', hrun, q2, q3, q4⟩ := key
    obtain ⟨B', hB, hH⟩ := hrow.after hw q2 q3 q4
    have : (execOp r o).run P w = .ok (.value v') w' := by
      simp [execOp, ho, hr _ _ hs, hr _ _ hx, resolve, invoke, builtin, hrun, Result.andThen]
    rw [this]
    exact ⟨_, ⟨B', hB, rfl⟩, hH⟩⟩
theorem cell_blockZ {w : World} {b o : Nat} {u : Value} (h : w.cell? ⟨b, o, none⟩ = some u) : ∃ C te fr, w.heap[b]? = some (Obj.cells C te fr) ∧ C[o]? = some u := by
  unfold World.cell? at h
  split at h
  · next C te fr e => exact ⟨C, te, fr, e, by simpa using h⟩
  · cases h
theorem SRow.strRowZ {W : World} {v : Value} {ls : List Nm.Bytes} (h : SRow W v ls) : StrRow (allBlocks W) v ls := by
  obtain ⟨a, cap, h1, h2⟩ := h
  refine ⟨a, cap, h1, ?_⟩
  cases ls with
  | nil => exact Or.inl rfl
  | cons l r =>
    rcases h2 with h2 | ⟨b, off, h3, h4, h5⟩
    · cases h2
    obtain ⟨C, te, fr, hb, _⟩ := cell_blockZ (h5 0 l rfl)
    refine Or.inr ⟨b, off, C, te, fr, h3, mem_all hb, fun i x hi => ?_⟩
    obtain ⟨C', te', fr', hb', hg⟩ := cell_blockZ (h5 i x hi)
    rw [hb] at hb'
    cases hb'
    rw [Nat.mul_one]
    exact hg
/-- A row's cells from one place on. -/
def putAt (C : Array Value) (o : Nat) (vs : List Value) : Array Value := (C.toList.take o ++ vs ++ C.toList.drop (o + vs.length)).toArray
theorem putAt_size {C : Array Value} {o : Nat} {vs : List Value} (h : o + vs.length ≤ C.size) : (putAt C o vs).size = C.size := by simp [putAt]; omega
theorem op_stA {x y : Operand} {b off : Nat} {t : TypeId} {C : Array Value} {te : TypeId} {cs : List Value} (hx : ev ρ x = some (.pointer (some ⟨b, off, none⟩))) (hy : ev ρ y = some (.agg cs.toArray))
    (ht : structTy P t cs.length = true) (hone : ∀ v ∈ cs, v.oneCell' = true) (hv : off + cs.length ≤ C.size) : OpV P G ρ ((b, Obj.cells C te (0, 0)) :: L) (.store t x y) ty undef ((b, Obj.cells (putAt C off cs) te (0, 0)) :: L) :=
  ⟨fun r hr w hw o ho _ => by
    unfold structTy at ht
    cases hi : P.info? t with
    | none => simp [hi] at ht
    | some i =>
      simp [hi] at ht
      have hb := hw.get _ (List.mem_cons_self ..)
      have hs := run_storeCells_at P b off te cs 0 C w hb (by simpa using hv) hone
      have hrun : (execOp r o).run P w = .ok .skip (w.setRow b (putAt C off cs)) := by
        simp only [execOp, ho, hr _ _ hx, hr _ _ hy]
        simp [Instr.storeAt, Instr.sureAddr, storeVar, sizeOf, typeInfo, hi, ht, Value.cells, hs, putAt]
      rw [hrun]
      exact ⟨_, ⟨rfl, rfl⟩, hw.update ⟨rfl, rfl, rfl, by simp [World.setRow]⟩ (setRow_heap w b C _ te _ hb) (fun j hj hne => by simp [World.setRow, Array.getElem?_modify, Ne.symm hne])⟩⟩
end
variable {G : World} {L : Blocks}
theorem ZRowL.at {L : Blocks} {v : Value} {zs : List Zn} (h : ZRowL L v zs) {w : World} (hw : Heap G w L) : ZRow w v zs := by
  obtain ⟨a, cap, rfl, h⟩ := h
  refine ⟨a, cap, rfl, h.imp id ?_⟩
  rintro ⟨b, off, C, te, fr, rfl, hm, hc⟩
  refine ⟨b, off, rfl, hw.lt hm, fun i z hi => ⟨?_, ?_, ?_⟩⟩
  · exact hw.cell hm (hc i z hi 0 _ rfl)
  · exact hw.cell hm (hc i z hi 1 _ rfl)
  · exact hw.cell hm (hc i z hi 2 _ rfl)
theorem ZRow.toL {W : World} {v : Value} {zs : List Zn} (h : ZRow W v zs) : ZRowL (allBlocks W) v zs := by
  obtain ⟨a, cap, rfl, h⟩ := h
  refine ⟨a, cap, rfl, ?_⟩
  cases zs with
  | nil => exact Or.inl rfl
  | cons z r =>
    rcases h with h | ⟨b, off, rfl, hlt, hc⟩
    · cases h
    obtain ⟨C, te, fr, hb, _⟩ := cell_blockZ (hc 0 z rfl).1
    refine Or.inr ⟨b, off, C, te, fr, rfl, mem_all hb, fun i x hi j u hj => ?_⟩
    obtain ⟨h0, h1, h2⟩ := hc i x hi
    have key : ∀ {o : Nat} {u : Value}, W.cell? ⟨b, o, none⟩ = some u → C[o]? = some u := fun {o u} hh => by
      obtain ⟨C', te', fr', hb', hg⟩ := cell_blockZ hh
      rw [hb] at hb'
      cases hb'
      exact hg
    match j, hj with
    | 0, hj => cases hj; exact key h0
    | 1, hj => cases hj; exact key h1
    | 2, hj => cases hj; exact key h2
theorem StrRow.at {L : Blocks} {v : Value} {ns : List Nm.Bytes} (h : StrRow L v ns) {w : World} (hw : Heap G w L) : SRow w v ns := by
  obtain ⟨a, cap, rfl, h⟩ := h
  refine ⟨a, cap, rfl, h.imp id ?_⟩
  rintro ⟨b, off, C, te, fr, rfl, hm, hc⟩
  exact ⟨b, off, rfl, hw.lt hm, fun i z hi => hw.cell hm (by have := hc i z hi; rw [Nat.mul_one] at this; exact this)⟩
theorem Heap.below {w w' : World} (h : Heap G w L) {B : Nat} (hb : Below B w w') (hB : w.heap.size ≤ B) : Heap G w' L :=
  ⟨h.still.trans ⟨hb.os, hb.tape, hb.output, hb.size⟩, h.nodup, fun p hp => (hb.block p.1 (Nat.lt_of_lt_of_le (h.lt hp) hB)).trans (h.get p hp)⟩
theorem long_S {v u : Value} {zs : List Zn} {ns : List Nm.Bytes} (hv : ZRowL L v zs) (hu : StrRow L u ns) (hz1 : zs.length ≤ maxLen) (hn1 : ns.length ≤ maxLen) (hz2 : ∀ z ∈ zs, z.name.length ≤ maxLen) (hn2 : ∀ n ∈ ns, n.length ≤ maxLen) :
    Spec Try.prog G 18 #[v, u] L fun x M => (∃ r, x = .bool r ∧ (r = false → Short zs ns)) ∧ M = L :=
  ⟨fun w hw => (long_any v u zs ns w (hv.at hw) (hu.at hw) hz1 hn1 hz2 hn2).mono fun e w' ⟨h1, r, h2, h3⟩ => ⟨_, L, h2, ⟨⟨r, rfl, h3⟩, rfl⟩, h1 ▸ hw⟩⟩
theorem zAwake_S : Spec Try.prog G 19 #[] L fun u M => u = .bool true ∧ M = L := Spec.ofBelow zAwake_any
/-- What a table is made of. -/
def TabL (M : Blocks) (bt : Nat) (zs : List Zn) : Prop := ∀ (w : World), (∀ p ∈ M, w.heap[p.1]? = some p.2) → TableIs w bt zs
theorem TabL.mono {M M' : Blocks} {bt : Nat} {zs : List Zn} (h : TabL M bt zs) (hs : ∀ p ∈ M, p ∈ M') : TabL M' bt zs := fun w hw => h w fun p hp => hw p (hs p hp)
def isMap : Obj → Bool
  | .map .. => true
  | _ => false
theorem TableIs.blocks {w w' : World} {bt : Nat} {zs : List Zn} (h : TableIs w bt zs) (hb : ∀ j o, w.heap[j]? = some o → (j = bt ∨ isMap o = true) → w'.heap[j]? = some o) : TableIs w' bt zs := by
  obtain ⟨N, bo, ib, hN, h⟩ := h
  have hm : ∀ {k : TypeId} {b n : Nat} {f : Lit → Option Value}, MapIs Try.prog k w b n f → MapIs Try.prog k w' b n f := fun {k b n f} hh => by
    obtain ⟨es, c, he⟩ := hh.isMap
    exact hh.of_block ((hb b _ he (Or.inr rfl)).trans he.symm)
  refine ⟨N, bo, ib, hN, ⟨hb _ _ h.cells (Or.inl rfl), ?_, fun k b hk => ⟨hm (h.inn k b hk).1, (h.inn k b hk).2⟩, h.apart, h.lacks⟩⟩
  obtain ⟨fo, h1, h2⟩ := h.outer
  exact ⟨fo, hm h1, h2⟩
theorem New_S {v : Value} {zs : List Zn} (hr : ZRowL L v zs) (hn : zs.length ≤ 1000000) (hf : ∀ z ∈ zs, z.Fits) :
    Spec Try.prog G 20 #[v] L fun u M => (newE zs = 0 ∧ ∃ bt B, u = .tuple #[.pointer (some ⟨bt, 0, none⟩), .int .i64 0] ∧ M = B ++ L ∧ ∀ K : Blocks, (∀ p ∈ L, isMap p.2 = true → p ∈ K) → TabL (B ++ K) bt zs) ∨ (newE zs ≠ 0 ∧ u = .tuple #[.pointer none, .int .i64 (newE zs)] ∧ M = L) :=
  ⟨fun w hw => (New_any v zs w hn hf (hr.at hw)).mono fun e w' hp => by
    by_cases h0 : newE zs = 0
    · obtain ⟨bt, rfl, hge, hT, hb⟩ := hp.good h0
      have hw' := hw.below hb (Nat.le_refl _)
      refine ⟨_, (allBlocks w').filter (fun p => !(L.map (·.1)).contains p.1) ++ L, rfl, Or.inl ⟨h0, bt, _, rfl, rfl, fun K hK w'' h'' => ?_⟩, hw'.still, ?_, fun p hp => ?_⟩
      · refine hT.blocks fun j o hj ho => ?_
        have hmem := mem_all hj
        by_cases hc : j ∈ L.map (·.1)
        · obtain ⟨p, hp, rfl⟩ := List.mem_map.1 hc
          have e1 := hw'.get p hp
          rw [hj] at e1
          cases e1
          rcases ho with ho | ho
          · have := hw.lt hp; omega
          · exact h'' p (List.mem_append_right _ (hK p hp ho))
        · exact h'' (j, o) (List.mem_append_left _ (List.mem_filter.2 ⟨hmem, by simpa using hc⟩))
      · rw [List.map_append, List.nodup_append]
        refine ⟨((Heap.all w').nodup).sublist (List.filter_sublist.map _), hw'.nodup, fun a ha b hb e => ?_⟩
        obtain ⟨p, hp, rfl⟩ := List.mem_map.1 ha
        have := (List.mem_filter.1 hp).2
        rw [e] at this
        simp only [List.contains_eq_mem, Bool.not_eq_true', decide_eq_false_iff_not] at this
        exact this hb
      · rcases List.mem_append.1 hp with hp | hp
        · exact (Heap.all w').get p (List.mem_filter.1 hp).1
        · exact hw'.get p hp
    · obtain ⟨rfl, hb⟩ := hp.bad rfl h0
      exact ⟨_, L, rfl, Or.inr ⟨h0, rfl, rfl⟩, hw.below hb (Nat.le_refl _)⟩⟩
theorem Find_S {bt : Nat} {zs : List Zn} (s : Nm.Bytes) (hT : TabL L bt zs) (hs : s.length ≤ 1000000) (hc : zs.length ≤ 100) : Spec Try.prog G 22 #[.pointer (some ⟨bt, 0, none⟩), .string (bs s)] L fun u M => u = (findZ zs s).val ∧ M = L :=
  ⟨fun w hw => (Find_any (bs s) zs bt w (bs_max hs) (hT _ hw.get) hc).mono fun e w' ⟨h1, h2⟩ => ⟨_, L, h1, ⟨rfl, rfl⟩, hw.below h2 (Nat.le_refl _)⟩⟩
theorem Len_S {bt : Nat} {zs : List Zn} (hT : TabL L bt zs) : Spec Try.prog G 24 #[.pointer (some ⟨bt, 0, none⟩)] L fun u M => u = .int .i64 zs.length ∧ M = L :=
  ⟨fun w hw => (Len_any zs bt w (hT _ hw.get)).mono fun e w' ⟨h1, h2⟩ => ⟨_, L, h1, ⟨rfl, rfl⟩, h2 ▸ hw⟩⟩
/-- The reference's table. -/
def RTabL (M : Blocks) (bt : Nat) (zs : List Zn) : Prop := ∃ v te fr, (bt, Obj.cells #[v] te fr) ∈ M ∧ ZRowL M v zs
theorem ZRowL.mono {M M' : Blocks} {v : Value} {zs : List Zn} (h : ZRowL M v zs) (hs : ∀ p ∈ M, p ∈ M') : ZRowL M' v zs := by
  obtain ⟨a, cap, rfl, h⟩ := h
  refine ⟨a, cap, rfl, h.imp id ?_⟩
  rintro ⟨b, off, C, te, fr, rfl, hm, hc⟩
  exact ⟨b, off, C, te, fr, rfl, hs _ hm, hc⟩
theorem RTabL.mono {M M' : Blocks} {bt : Nat} {zs : List Zn} (h : RTabL M bt zs) (hs : ∀ p ∈ M, p ∈ M') : RTabL M' bt zs := by
  obtain ⟨v, te, fr, h1, h2⟩ := h
  exact ⟨v, te, fr, hs _ h1, h2.mono hs⟩
theorem op_appendZ {P : Program} {ρ : Slots} {ty : TypeId} {s x : Operand} {t e : TypeId} {bytes : Nat} {z v u : Value} {m : Nat} {xs : List Value} {zs : List Zn} {B : Blocks} (E : ElemTy P t e 3 bytes z) (hs : ev ρ s = some v) (hx : ev ρ x = some u)
    (hrow : Row e 3 v m xs B) (hr : ZRowL L u zs) (h63 : m + zs.length ≤ maxLen) (hby : (m + zs.length) * bytes ≤ 140737488355328) :
    OpT P G ρ (B ++ L) (.call ⟨.builtin .append, #[s, x], #[t, t]⟩) ty fun v' L' => ∃ B', Row e 3 v' (m + zs.length) (xs ++ zflat zs) B' ∧ L' = B' ++ L := by
  obtain ⟨a, cap, rfl, rfl | ⟨b, off, C, te, fr, rfl, hm, hc⟩⟩ := hr
  · exact op_append0Z E hs hx hrow h63 hby
  · refine op_append E hs hx hrow ⟨zflat_length zs, ?_, Or.inr ⟨b, off, cap, C, te, fr, rfl, hm, fun j u hj => ?_⟩⟩ h63 hby
    · intro u hu
      obtain ⟨z, _, hz⟩ := List.mem_flatMap.1 hu
      simp [zcells] at hz
      rcases hz with rfl | rfl | rfl <;> rfl
    · have hjl : j < zs.length * 3 := by
        have := (List.getElem?_eq_some_iff.1 hj).1
        rwa [zflat_length] at this
      obtain ⟨z, hz⟩ : ∃ z, zs[j / 3]? = some z := ⟨_, List.getElem?_eq_getElem (by omega)⟩
      have hat := zflat_at zs (j / 3) (j % 3) z hz (by omega)
      rw [show j / 3 * 3 + j % 3 = j by omega, hj] at hat
      have := hc (j / 3) z hz (j % 3) u hat.symm
      rwa [show off + j / 3 * 3 + j % 3 = off + j by omega] at this
theorem zrow_of {e : TypeId} {v : Value} {zs : List Zn} {B M : Blocks} (h : Row e 3 v zs.length (zflat zs) B) (hB : ∀ p ∈ B, p ∈ M) : ZRowL M v zs := by
  rcases h.is with ⟨h1, h2, _⟩ | ⟨b, cap, cur, h1, h2, h3, h4, h5, h6⟩
  · have : zs = [] := List.eq_nil_of_length_eq_zero h2
    subst this
    exact ⟨none, 0, h1, Or.inl rfl⟩
  · refine ⟨_, cap, h1, Or.inr ⟨b, 0, cur, e, (0, 0), rfl, hB _ (by rw [h2]; exact List.mem_cons_self ..), fun i z hi j u hj => ?_⟩⟩
    have hj3 : j < 3 := by
      have := (List.getElem?_eq_some_iff.1 hj).1
      simpa [zcells] using this
    have hil := (List.getElem?_eq_some_iff.1 hi).1
    have hat := zflat_at zs i j z hi hj3
    rw [← h6, List.getElem?_take_of_lt (by omega), hj] at hat
    rw [Nat.zero_add]
    simpa using hat
theorem refFind_S {bt : Nat} {zs : List Zn} (s : Nm.Bytes) (hT : RTabL L bt zs) (hs : s.length ≤ 1000000) (hc : zs.length ≤ 100) (hf : ∀ z ∈ zs, z.Fits) : Spec Try.prog G 23 #[.pointer (some ⟨bt, 0, none⟩), .string (bs s)] L fun u M => u = (rFind zs s).1.val ∧ M = L :=
  ⟨fun w hw => (refFind_any (bs s) zs bt w (bs_mil hs) (by obtain ⟨v, te, fr, h1, h2⟩ := hT; exact ⟨hw.lt h1, v, hw.cell h1 rfl, h2.at hw⟩) hc hf).mono fun e w' ⟨h1, h2⟩ => ⟨_, L, h1, ⟨rfl, rfl⟩, hw.below h2 (Nat.le_refl _)⟩⟩
theorem neq_zone (a b : Nm.Bytes) (p q r s : Int) (w : World) : (binOp .neq 35 (.agg #[.string ⟨a.toArray⟩, .int .u8 p, .int .u16 r]) (.agg #[.string ⟨b.toArray⟩, .int .u8 q, .int .u16 s])).run Try.prog w = .ok (.bool (!eqZ ⟨a, p, r⟩ ⟨b, q, s⟩)) w := by
  unfold eqZ
  by_cases h1 : a = b <;> by_cases h2 : p = q <;> by_cases h3 : r = s <;> (go_simp; try simp [h1, h2, h3])
theorem zbin_neq {x y : Zn} : Bin Try.prog .neq 35 x.val y.val (.bool (!eqZ x y)) := ⟨fun a b w => by
  have h := neq_zone x.name y.name x.pol y.pol x.tru y.tru w
  unfold Zn.val strV
  simp [eqGuard, h]⟩
theorem built_zone : Built Try.prog 35 [] (.agg #[.string (bs []), .int .u8 0, .int .u16 0]) := ⟨fun w => by kernel_rfl⟩
end Go.Proofs.Ytoonclcppokdeaa
