/-
  THE WALKS of zone.Table's Find and Len.
-/
import Derived.Test.YtoonclcppokdeaaWNew
namespace Go.Proofs.Ytoonclcppokdeaa
open Go.RowKit Go.Maps

def rootZ : Zn := ⟨[0], 1, 0⟩
/-- The zone of labels, by the longest of their ends. -/
def findS (zs : List Zn) : List Nm.Bytes → Zn
  | [] => (zfind zs 0 (Nm.enc [])).getD rootZ
  | l :: ls => match zfind zs (ls.length + 1) (Nm.enc (l :: ls)) with | some z => z | none => findS zs ls
def findZ (zs : List Zn) (n : Nm.Bytes) : Zn := match Nm.nm n with | some ls => findS zs (Nm.lowL ls) | none => rootZ

theorem findS_nil : ∀ ls, findS [] ls = rootZ
  | [] => rfl
  | _ :: ls => by simp [findS, zfind, findS_nil ls]
theorem findZ_nil (n : Nm.Bytes) : findZ [] n = rootZ := by
  unfold findZ; split
  · exact findS_nil _
  · rfl
theorem findZ_none {zs : List Zn} {n : Nm.Bytes} (h : Nm.nm n = none) : findZ zs n = rootZ := by simp [findZ, h]
theorem findS_hit {zs : List Zn} {ls : List Nm.Bytes} {z : Zn} (h : zfind zs ls.length (Nm.enc ls) = some z) : findS zs ls = z := by
  cases ls with
  | nil => simp [findS] at *; rw [h]; rfl
  | cons l ls => simp [findS] at *; rw [h]

theorem three_cells (W : World) (g : Nat) (a b c x y z : Value) (h0 : W.cell? ⟨g, 0, none⟩ = some x) (h1 : W.cell? ⟨g, 1, none⟩ = some y) (h2 : W.cell? ⟨g, 2, none⟩ = some z) (o : Obj) :
    ((((W.setCell ⟨g, 0, none⟩ a).setCell ⟨g, 1, none⟩ b).setCell ⟨g, 2, none⟩ c).alloc o).cell? ⟨g, 0, none⟩ = some a ∧
    ((((W.setCell ⟨g, 0, none⟩ a).setCell ⟨g, 1, none⟩ b).setCell ⟨g, 2, none⟩ c).alloc o).cell? ⟨g, 1, none⟩ = some b ∧
    ((((W.setCell ⟨g, 0, none⟩ a).setCell ⟨g, 1, none⟩ b).setCell ⟨g, 2, none⟩ c).alloc o).cell? ⟨g, 2, none⟩ = some c := by
  have hg := World.block_lt_of_cell? W _ h0
  have hg' : g < (((W.setCell ⟨g, 0, none⟩ a).setCell ⟨g, 1, none⟩ b).setCell ⟨g, 2, none⟩ c).heap.size := by simpa [World.setCell] using hg
  rw [World.cell?_alloc_past _ _ _ hg', World.cell?_alloc_past _ _ _ hg', World.cell?_alloc_past _ _ _ hg']
  simp [go_sem, h0, h1, h2]

/-- What Find leaves. -/
def FindPost (z : Zn) (w : World) (e : Ending) (w' : World) : Prop := e = .returned z.val ∧ Below w.heap.size w w'

set_option maxHeartbeats 400000 in
theorem Find_nil (s : ByteArray) (w : World) : Calls Try.prog 22 #[.pointer none, .string s] w (FindPost rootZ w) := by
  go_enter Try.func22, Try.ntmps22
  go_wp2_with fail
  exact bodyPost_ret (v := rootZ.val) (by simp [results, Try.results22, go_sem, rootZ, Zn.val, strV]) rfl ⟨rfl, ((Below.refl _ _).alloc (Nat.le_refl _) _).alloc (by simp) _⟩

set_option maxHeartbeats 400000 in
theorem Find_bare (s : ByteArray) (bt : Nat) (w : World) (h1 : w.cell? ⟨bt, 1, none⟩ = some (.int .i64 0)) : Calls Try.prog 22 #[.pointer (some ⟨bt, 0, none⟩), .string s] w (FindPost rootZ w) := by
  have hlt := World.block_lt_of_cell? w _ h1
  go_enter Try.func22, Try.ntmps22
  go_wp2_with fail
  exact bodyPost_ret (v := rootZ.val) (by simp [results, Try.results22, go_sem, rootZ, Zn.val, strV]) rfl ⟨rfl, ((Below.refl _ _).alloc (Nat.le_refl _) _).alloc (by simp) _⟩

set_option maxHeartbeats 400000 in
theorem Find_bad (s : ByteArray) (c : Nat) (bt : Nat) (w : World) (hs : s.size ≤ maxLen) (h1 : w.cell? ⟨bt, 1, none⟩ = some (.int .i64 c)) (hc : 0 < c) (hm : Nm.may s.data.toList = false) : Calls Try.prog 22 #[.pointer (some ⟨bt, 0, none⟩), .string s] w (FindPost rootZ w) := by
  have hlt := World.block_lt_of_cell? w _ h1
  have hc0 : ((c : Int) == 0) = false := beq_eq_false_iff_ne.2 (by omega)
  have HM := Lib.hid hm
  clear hm
  go_enter Try.func22, Try.ntmps22
  go_wp2_with fail
  refine (may_any _ _ hs).mono ?_
  rintro e w' ⟨rfl, rfl⟩
  rw [HM.out]
  go_wp2_with fail
  exact bodyPost_ret (v := rootZ.val) (by simp [results, Try.results22, go_sem, rootZ, Zn.val, strV]) rfl ⟨rfl, ((Below.refl _ _).alloc (Nat.le_refl _) _).alloc (by simp) _⟩

def FindRel (zs : List Zn) (n : Nm.Bytes) (W0 : World) (at_ i : Value) (wr : World) : Prop :=
  ∃ ls : List Nm.Bytes, at_ = .string ⟨(Nm.enc ls).toArray⟩ ∧ i = .int .i64 ls.length ∧ Nm.Ok ls ∧ (Nm.enc ls).length ≤ 255 ∧ findS zs ls = findZ zs n ∧ Below W0.heap.size W0 wr

set_option maxRecDepth 100000 in
set_option maxHeartbeats 1000000 in
theorem Find_good (s : ByteArray) (zs : List Zn) (bt : Nat) (w : World) (hs : s.size ≤ maxLen) (hT : TableIs w bt zs) (hc : 0 < zs.length) (hc2 : zs.length ≤ 100) (ls : List Nm.Bytes) (hm : Nm.nm s.data.toList = some ls) :
    Calls Try.prog 22 #[.pointer (some ⟨bt, 0, none⟩), .string s] w (FindPost (findZ zs s.data.toList) w) := by
  have HM := Lib.hid (Nm.may_some hm)
  have HN := Lib.hid hm
  have HT := Lib.hid hT
  have hc0 : ((zs.length : Int) == 0) = false := beq_eq_false_iff_ne.2 (by omega)
  obtain ⟨N, bo, ib, hN, hT⟩ := hT
  have h0 := hT.cell0
  have h1 := hT.cell1
  have hlt := hT.lt
  have HTA := Lib.hid hT
  clear hm hT
  go_enter Try.func22, Try.ntmps22
  go_wp2_with fail
  refine (may_any _ _ hs).mono ?_
  rintro e w' ⟨rfl, rfl⟩
  rw [HM.out]
  go_wp2_with fail
  refine (fold_any _ _ hs).mono ?_
  rintro e w1 ⟨rfl, hb1⟩
  have hfo : Nm.fold s.data.toList = Nm.low s.data.toList := by unfold Nm.fold; rw [if_pos HM.out]
  rw [hfo]
  have hnl := Nm.nm_low HN.out
  have HNL := Lib.hid (Nm.nm_iff.1 hnl)
  rw [(Nm.nm_iff.1 hnl).1]
  clear hfo hnl
  have hls : (⟨(Nm.enc (Nm.lowL ls)).toArray⟩ : ByteArray).size ≤ maxLen := by
    show (Nm.enc (Nm.lowL ls)).toArray.size ≤ maxLen
    rw [← HNL.out.1]
    have := HNL.out.2.2
    unfold maxLen; simp at this ⊢; omega
  go_wp2_with fail
  refine (Labels_any _ _ hls).mono ?_
  rintro e w2 ⟨v, rfl, hown, hb2⟩
  obtain ⟨va, vc, hv⟩ := ownsRow_slice hown
  have hll : Nm.labels (Nm.enc (Nm.lowL ls)) = Nm.lowL ls := by
    have h := Nm.nm_iff.2 HNL.out
    rw [HNL.out.1] at h
    unfold Nm.labels; rw [h]; rfl
  rw [show ({ data := List.toArray (Nm.enc (Nm.lowL ls)) } : ByteArray).data.toList = Nm.enc (Nm.lowL ls) from rfl, hll] at hv
  rw [hv]
  unfold strV
  obtain ⟨W0, hW0⟩ : ∃ W, W = (w.alloc (.cells #[.string ⟨#[]⟩, .int .u8 0, .int .u16 0] 35)).alloc (.cells #[.string ⟨#[0]⟩, .int .u8 1, .int .u16 0] 35) := ⟨_, rfl⟩
  rw [← hW0] at hb1
  have hw0s : W0.heap.size = w.heap.size + 2 := by rw [hW0]; simp
  have r0 : W0.cell? ⟨w.heap.size, 0, none⟩ = some (.string ⟨#[]⟩) := by rw [hW0, World.cell?_alloc_past _ _ _ (by simp), World.cell?_alloc_mark]; rfl
  have r1 : W0.cell? ⟨w.heap.size, 1, none⟩ = some (.int .u8 0) := by rw [hW0, World.cell?_alloc_past _ _ _ (by simp), World.cell?_alloc_mark]; rfl
  have r2 : W0.cell? ⟨w.heap.size, 2, none⟩ = some (.int .u16 0) := by rw [hW0, World.cell?_alloc_past _ _ _ (by simp), World.cell?_alloc_mark]; rfl
  have hn1 : w.heap.size + 1 = (w.alloc (.cells #[.string ⟨#[]⟩, .int .u8 0, .int .u16 0] 35)).heap.size := by simp
  have n0 : W0.cell? ⟨w.heap.size + 1, 0, none⟩ = some (.string ⟨#[0]⟩) := by rw [hW0, hn1, World.cell?_alloc_mark]; rfl
  have n1 : W0.cell? ⟨w.heap.size + 1, 1, none⟩ = some (.int .u8 1) := by rw [hW0, hn1, World.cell?_alloc_mark]; rfl
  have n2 : W0.cell? ⟨w.heap.size + 1, 2, none⟩ = some (.int .u16 0) := by rw [hW0, hn1, World.cell?_alloc_mark]; rfl
  have hfz : ∀ j, W0.frozen? ⟨w.heap.size, j, none⟩ = false := fun j => by
    rw [hW0, World.frozen?_alloc_past _ _ _ (by simp), World.frozen?_alloc_mark]; simp
  have BW0 := Lib.hid (show Below w.heap.size w W0 by rw [hW0]; exact ((Below.refl _ _).alloc (Nat.le_refl _) _).alloc (by simp) _)
  have B02 := Lib.hid (hb1.trans (hb2.mono hb1.size))
  have HW0 := Lib.hid hw0s
  clear hb1 hb2 hown hv hll hW0 hn1 hw0s h0 h1
  have HR := Lib.hid (And.intro r0 (And.intro r1 (And.intro r2 (And.intro n0 (And.intro n1 (And.intro n2 hfz))))))
  clear r0 r1 r2 n0 n1 n2 hfz
  go_wp2_with fail
  go_loopw [6, 7, 8, 9, 10, 11] (fun at_ i _ _ _ _ wr => FindRel zs s.data.toList W0 at_ i wr) (fun _ i _ _ _ _ _ => (intOf i).toNat)
  case atStart =>
    refine ⟨Nm.lowL ls, rfl, rfl, HNL.out.2.1, by rw [← HNL.out.1]; exact HNL.out.2.2, ?_, B02.out⟩
    unfold findZ; rw [HN.out]
  case round =>
    obtain ⟨ls', rfl, rfl, hok, hlen, hfs, hbw⟩ := hrel
    have HOK := Lib.hid hok
    have HLEN := Lib.hid hlen
    have HFS := Lib.hid hfs
    have HBW := Lib.hid hbw
    have hsz : w.heap.size + 2 ≤ wr.heap.size := by have := hbw.size; rw [HW0.out] at this; exact this
    have hs1 : w.heap.size < wr.heap.size := by omega
    have hs2 : w.heap.size + 1 < wr.heap.size := by omega
    have hTr := (HTA.out.below BW0.out (Nat.le_refl _)).below hbw (Nat.le_refl _)
    have hcnt : ls'.length ≤ 300 := by have := Nm.length_lt_enc ls'; omega
    have L1 := hTr.look ls'.length (by omega)
    have L2 := hTr.look2 ls'.length (Nm.enc ls') (by omega)
    have h0 := hTr.cell0
    have r0 : wr.cell? ⟨w.heap.size, 0, none⟩ = some (.string ⟨#[]⟩) := (hbw.cell (by have := HW0.out; simp; omega)).trans HR.out.1
    have r1 : wr.cell? ⟨w.heap.size, 1, none⟩ = some (.int .u8 0) := (hbw.cell (by have := HW0.out; simp; omega)).trans HR.out.2.1
    have r2 : wr.cell? ⟨w.heap.size, 2, none⟩ = some (.int .u16 0) := (hbw.cell (by have := HW0.out; simp; omega)).trans HR.out.2.2.1
    have n0 : wr.cell? ⟨w.heap.size + 1, 0, none⟩ = some (.string ⟨#[0]⟩) := (hbw.cell (by have := HW0.out; simp; omega)).trans HR.out.2.2.2.1
    have n1 : wr.cell? ⟨w.heap.size + 1, 1, none⟩ = some (.int .u8 1) := (hbw.cell (by have := HW0.out; simp; omega)).trans HR.out.2.2.2.2.1
    have n2 : wr.cell? ⟨w.heap.size + 1, 2, none⟩ = some (.int .u16 0) := (hbw.cell (by have := HW0.out; simp; omega)).trans HR.out.2.2.2.2.2.1
    have hfz : ∀ j, wr.frozen? ⟨w.heap.size, j, none⟩ = false := fun j => (hbw.frozen (by have := HW0.out; simp; omega)).trans (HR.out.2.2.2.2.2.2 j)
    have hz0 := hfz 0
    have hz1 := hfz 1
    have hz2 := hfz 2
    clear hok hlen hfs hbw hTr hfz
    have hps : (⟨(Nm.enc ls').toArray⟩ : ByteArray).size ≤ maxLen := by
      show (Nm.enc ls').toArray.size ≤ maxLen
      have := HLEN.out
      unfold maxLen; simp; omega
    have cPar := Lib.hid (fun W : World => Parent_any ⟨(Nm.enc ls').toArray⟩ W hps)
    clear hps
    cases hzf : zfind zs ls'.length (Nm.enc ls') with
    | some z =>
      rw [hzf] at L2
      have L2' : (Instr.lookup 71 (.map (ib ls'.length)) (.string ⟨(Nm.enc ls').toArray⟩) true).run Try.prog wr = .ok (.tuple #[.agg #[.string ⟨z.name.toArray⟩, .int .u8 z.pol, .int .u16 z.tru], .bool true]) wr := L2
      have HZ := Lib.hid (HFS.out.symm.trans (findS_hit hzf))
      clear L2 hzf
      have hB : Below w.heap.size w wr := BW0.out.trans (HBW.out.mono (by have := HW0.out; omega))
      go_wp2_with fail
      obtain ⟨q0, q1, q2⟩ := three_cells wr w.heap.size (.string ⟨z.name.toArray⟩) (.int .u8 z.pol) (.int .u16 z.tru) _ _ _ r0 r1 r2 (.cells #[.string ⟨z.name.toArray⟩, .int .u8 z.pol, .int .u16 z.tru] 35)
      refine bodyPost_ret (v := z.val) (by simp [results, Try.results22, go_sem, Zn.val, strV, q0, q1, q2]) rfl ⟨by rw [HZ.out], ?_⟩
      repeat (first | exact hB | refine Below.setCell ?_ (by simp) _ | refine Below.alloc ?_ (by simp; omega) _ | refine Below.drew ?_)
    | none =>
      rw [hzf] at L2
      have L2' : (Instr.lookup 71 (.map (ib ls'.length)) (.string ⟨(Nm.enc ls').toArray⟩) true).run Try.prog wr = .ok (.tuple #[.agg #[.string ByteArray.empty, .int .u8 0, .int .u16 0], .bool false]) wr := L2
      clear L2
      have hB : Below w.heap.size w wr := BW0.out.trans (HBW.out.mono (by have := HW0.out; omega))
      have hnm : Nm.nm (Nm.enc ls') = some ls' := Nm.nm_iff.2 ⟨rfl, HOK.out, HLEN.out⟩
      have HB2 := Lib.hid hB
      clear hB
      go_wp2_with fail
      refine (cPar.out _).mono ?_
      rintro e w' ⟨rfl, rfl⟩
      cases ls' with
      | nil =>
        have HZ := Lib.hid (show findZ zs s.data.toList = rootZ by rw [← HFS.out]; simp [findS]; rw [show zfind zs 0 (Nm.enc []) = none from hzf]; rfl)
        have e1 : Nm.parentN (Nm.enc []) = [] := rfl
        have e2 : Nm.parentB (Nm.enc []) = false := rfl
        rw [e1, e2]
        unfold strV
        clear hnm hzf e1 e2
        go_wp2_with fail
        obtain ⟨q0, q1, q2⟩ := three_cells wr w.heap.size (.string ⟨#[0]⟩) (.int .u8 1) (.int .u16 0) _ _ _ r0 r1 r2 (.cells #[.string ByteArray.empty, .int .u8 0, .int .u16 0] 35)
        refine bodyPost_ret (v := rootZ.val) (by simp [results, Try.results22, go_sem, Zn.val, strV, rootZ, q0, q1, q2]) rfl ⟨by rw [HZ.out], ?_⟩
        repeat (first | exact HB2.out | refine Below.setCell ?_ (by simp) _ | refine Below.alloc ?_ (by simp; omega) _ | refine Below.drew ?_)
      | cons l t =>
        have e1 : Nm.parentN (Nm.enc (l :: t)) = Nm.enc t := by unfold Nm.parentN; rw [hnm]
        have e2 : Nm.parentB (Nm.enc (l :: t)) = true := by unfold Nm.parentB; rw [hnm]
        have HS := Lib.hid (show findS zs (l :: t) = findS zs t by simp only [findS]; rw [show zfind zs (t.length + 1) (Nm.enc (l :: t)) = none from hzf])
        rw [e1, e2]
        unfold strV
        have hcnt2 : t.length ≤ 300 := by simp at hcnt; omega
        have HL2 := Lib.hid (show (Nm.enc t).length ≤ 255 by have := HLEN.out; simp [Nm.enc] at this; omega)
        clear hnm hzf e1 e2
        go_wp2_with fail
        refine ⟨⟨t, rfl, rfl, (Nm.ok_cons.1 HOK.out).2, HL2.out, HS.out.symm.trans HFS.out, HBW.out.trans ((Below.refl _ _).alloc (by have := HW0.out; omega) _)⟩, by simp [intOf]⟩

theorem Find_any (s : ByteArray) (zs : List Zn) (bt : Nat) (w : World) (hs : s.size ≤ maxLen) (hT : TableIs w bt zs) (hc2 : zs.length ≤ 100) :
    Calls Try.prog 22 #[.pointer (some ⟨bt, 0, none⟩), .string s] w (FindPost (findZ zs s.data.toList) w) := by
  obtain ⟨N, bo, ib, hN, hT'⟩ := id hT
  by_cases hc : 0 < zs.length
  · cases hm : Nm.nm s.data.toList with
    | none => rw [findZ_none hm]; exact Find_bad s _ bt w hs hT'.cell1 hc (Nm.may_none hm)
    | some ls => exact Find_good s zs bt w hs hT hc hc2 ls hm
  · obtain rfl : zs = [] := List.eq_nil_of_length_eq_zero (by omega)
    rw [findZ_nil]
    exact Find_bare s bt w hT'.cell1

theorem Len_any (zs : List Zn) (bt : Nat) (w : World) (h : TableIs w bt zs) : Calls Try.prog 24 #[.pointer (some ⟨bt, 0, none⟩)] w fun e w' => e = .returned (.int .i64 zs.length) ∧ w = w' := by
  obtain ⟨N, bo, ib, hN, hT⟩ := h
  have c1 := hT.cell1
  clear hT hN
  go_enter Try.func24, Try.ntmps24
  go_wp2_with fail
  go_ret
  exact ⟨rfl, rfl⟩
theorem Len_nil (w : World) : Calls Try.prog 24 #[.pointer none] w fun e w' => e = .returned (.int .i64 0) ∧ w = w' := by
  go_enter Try.func24, Try.ntmps24
  go_wp2_with fail
  go_ret
  exact ⟨rfl, rfl⟩
end Go.Proofs.Ytoonclcppokdeaa
