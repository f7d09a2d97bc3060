/-
 Part 5: WRef2 WRef3 WRef4 OldS Tx Tp Lt Lu Rp Rq Ord Rc Rt Ce Cf Cg Cj Ci Vb Sq Dd Su La Df Dh Ch Ck.
-/
import Derived.Test.YtkpblofmoalnoaaGreatDoorZt4
import Derived.Test.YtkpblofmoalnoaaGreatDoorZt1
import Derived.Test.YtkpblofmoalnoaaGreatDoorShelf
import Derived.Lib.SplitLaws
import Derived.Lib.AppendIntMem
import Derived.WalkSmall
set_option maxRecDepth 100000
set_option maxHeartbeats 16000000
set_option linter.unusedVariables false
set_option linter.unusedSimpArgs false
namespace Go.Proofs.YtkpblofmoalnoaaGreatDoor
section
open Go.RowKit
def J2 (ls : List Nm.Bytes) : Nm.Bytes := ls.flatMap fun l => UInt8.ofNat l.length :: l
theorem ZH : ∀ ls, Nm.enc ls = J2 ls ++ [0]
 | [] => rfl
 | l :: ls => by simp [Nm.enc, ZH ls, J2]
theorem adj (ls : List Nm.Bytes) (l : Nm.Bytes) : J2 (ls ++ [l]) = J2 ls ++ (UInt8.ofNat l.length :: l) := by simp [J2]
theorem QH (ls : List Nm.Bytes) (h : ∀ l ∈ ls, l.length ≤ 63) : (J2 ls).length ≤ 64 * ls.length := by
 induction ls with
 | nil => simp [J2]
 | cons l ls ih =>
   have h1 := h l (by simp)
   have h2 := ih (fun x hx => h x (by simp [hx]))
   simp [J2] at h2 ⊢
   omega
theorem ajS (a : Nm.Bytes) (c : UInt8) (b : Nm.Bytes) : (({ data := a.toArray } : ByteArray) ++ { data := #[c] } ++ { data := b.toArray }) = ⟨(a ++ (c :: b)).toArray⟩ := by
 apply ByteArray.ext
 apply Array.toList_inj.1
 simp [ByteArray.data_append]
theorem KB (v : Value) (ls : List Nm.Bytes) (w : World) (hr : SRow w v ls) (hok : ∀ l ∈ ls, l.length ≤ 63) (hlen : ls.length ≤ 1000) :
 Calls Tryz.prog 110 #[v] w fun e w' => e = .returned (.string ⟨(Nm.enc ls).toArray⟩) ∧ Below w.heap.size w w' := by
 obtain ⟨a, cap, rfl, hrow⟩ := hr
 have HROW := Lib.hid hrow
 have HOK := Lib.hid hok
 clear hrow hok
 go_enter Tryz.func110, Tryz.ntmps110
 go_wp2_with fail
 go_loopw [3, 4] (fun o i wr => ∃ k : Nat, k ≤ ls.length ∧ i = .int .i64 k ∧ o = .string ⟨(J2 (ls.take k)).toArray⟩ ∧ Below w.heap.size w wr) (fun _ i _ => ls.length - (intOf i).toNat)
 case atStart => exact ⟨0, by omega, rfl, rfl, Below.refl _ _⟩
 case round =>
  obtain ⟨k, hk, rfl, rfl, hbel⟩ := hrel
  by_cases hlt : k < ls.length
  · obtain hz0 | ⟨b, off, ha, hlb, hcc⟩ := HROW.out
    · subst hz0; simp at hlt
    subst ha
    obtain ⟨l, hl⟩ : ∃ l, ls[k]? = some l := ⟨_, List.getElem?_eq_getElem hlt⟩
    have hll := HOK.out l (List.mem_of_getElem? hl)
    have d0 : wr.cell? ⟨b, off + k, none⟩ = some (.string ⟨l.toArray⟩) := (hbel.cell hlb).trans (hcc k l hl)
    have HT := Lib.hid (show J2 (ls.take (k + 1)) = J2 (ls.take k) ++ (UInt8.ofNat l.length :: l) by rw [List.take_add_one, hl]; exact adj _ _)
    have hal := QH (ls.take k) (fun x hx => HOK.out x (List.mem_of_mem_take hx))
    have htl : (ls.take k).length ≤ k := List.length_take_le _ _
    obtain ⟨acc, hacc⟩ : ∃ acc, acc = J2 (ls.take k) := ⟨_, rfl⟩
    rw [← hacc] at hal
    have hal2 : acc.length ≤ 100000 := by omega
    rw [← hacc]
    rw [← hacc] at HT
    have hbw : b < wr.heap.size := World.block_lt_of_cell? wr _ d0
    have HBEL := Lib.hid hbel
    have hwsz := hbel.size
    clear hacc hcc hl hbel hal htl
    have e1 : (UInt8.ofNat l.length).toNat = l.length := by simp; omega
    have hone : (convert 76 9 (.slice (some ⟨wr.heap.size, 0, none⟩) 1 1)).run Tryz.prog (wr.alloc (.cells #[.int .u8 (l.length : Int)] 5)).drew = .ok (.string ⟨[UInt8.ofNat l.length].toArray⟩) (wr.alloc (.cells #[.int .u8 (l.length : Int)] 5)).drew :=
     UQ _ 76 9 5 wr.heap.size 1 1 [UInt8.ofNat l.length] rfl unO unO unO (fun j hj => by
      show (wr.alloc (.cells #[.int .u8 (l.length : Int)] 5)).cell? _ = _
      rw [World.cell?_alloc_mark]
      match j, hj with
      | 0, _ =>
        show some (Value.int .u8 (l.length : Int)) = some (.int .u8 ((UInt8.ofNat l.length).toNat : Int))
        rw [e1])
    have hk0 : (0 : Int) ≤ (k : Int) := by omega
    have hk1 : (k : Int) < (ls.length : Int) := by omega
    have hw8 : IntKind.u8.wrap (l.length : Int) = (l.length : Int) := by simp [IntKind.wrap, IntKind.signed, IntKind.bits]; omega
    clear e1
    go_upto_region 5 with fail
    go_region
    all_goals (clear hone hw8; go_wp2_with fail)
    all_goals
     refine ⟨⟨k + 1, by omega, by go_num, ?_, HBEL.out.trans (((Below.refl _ _).alloc hwsz _).drew)⟩, by simp [intOf]; omega⟩
     rw [HT.out]
     exact congrArg Value.string (ajS acc (UInt8.ofNat l.length) l)
  · obtain rfl : k = ls.length := by omega
    rw [List.take_length]
    have hal := QH ls HOK.out
    have HE := Lib.hid (show (({ data := (J2 ls).toArray } : ByteArray) ++ { data := #[0] }) = ⟨(Nm.enc ls).toArray⟩ by rw [ZH]; exact ah5 (J2 ls) [0])
    obtain ⟨acc, hacc⟩ : ∃ acc, acc = J2 ls := ⟨_, rfl⟩
    rw [← hacc]
    rw [← hacc] at hal HE
    clear hacc
    have hal2 : acc.length ≤ 100000 := by omega
    clear hal
    go_wp2_with fail
    go_ret
    exact ⟨W9 HE.out, hbel⟩
end
section
open Go.RowKit
theorem ae0 {w w' : World} {base : Nat} {e : TypeId} {size : Nat} {v : Value} {n : Nat} {xs : List Value} (h : w.ownsRow base e size v n xs) (hb : Below w.heap.size w w') : w'.ownsRow base e size v n xs := by
 obtain ⟨h1, h2 | ⟨g, cap, cur, hv, h3, hg, h4⟩⟩ := h
 · exact ⟨h1, Or.inl h2⟩
 · exact ⟨h1, Or.inr ⟨g, cap, cur, hv, h3, (hb.block g (Array.getElem?_eq_some_iff.1 hg).1).trans hg, h4⟩⟩
theorem ZI {n : Nm.Bytes} {ls : List Nm.Bytes} (h : Nm.nm n = some ls) : Nm.labels n = ls := by simp [Nm.labels, h]
theorem ae1 {n : Nm.Bytes} {ls : List Nm.Bytes} (h : Nm.nm n = some ls) : Nm.enc (Nm.lowL ls) = Nm.fold n := by
 unfold Nm.fold
 rw [Nm.may_some h, if_pos rfl]
 obtain ⟨h1, h2, _⟩ := Nm.nm_iff.1 h
 rw [h1, Nm.low_enc _ h2]
theorem Yf {n : Nm.Bytes} {ls : List Nm.Bytes} (h : Nm.nm n = some ls) : ls.length ≤ 255 := by
 obtain ⟨h1, _, h3⟩ := Nm.nm_iff.1 h
 have := Nm.length_lt_enc ls
 rw [← h1] at this
 omega
theorem ZJ (s : ByteArray) (w : World) (hs : s.size ≤ 1000000) :
 Calls Tryz.prog 69 #[.string s] w fun e w' => e = .returned (.string ⟨(Nm.fold s.data.toList).toArray⟩) ∧ Below w.heap.size w w' := by
 obtain ⟨i0, hi, hz0, hz1, hz2⟩ := info_parts zw
 go_enter Tryz.func69, Tryz.ntmps69
 go_wp2_with fail
 refine (yr s _ hs).mono ?_
 rintro e w1 ⟨v, rfl, ho, hb⟩
 cases hm : Nm.may s.data.toList
 · go_wp2_with fail
   go_ret
   exact ⟨W9 (by unfold Nm.fold; rw [hm]; rfl), hb⟩
 · obtain ⟨ls, hnm⟩ := Nm.nm_of_may hm
   rw [ZI hnm] at ho
   have hcount := Yf hnm
   have HOK := Lib.hid (Nm.nm_iff.1 hnm).2.1
   have HNM := Lib.hid hnm
   obtain ⟨a, cap, rfl, hrow⟩ := SRow.own ho
   have HROW := Lib.hid hrow
   have HB := Lib.hid hb
   have hw1 := hb.size
   clear hrow hb ho hm hnm
   go_wp2_with fail
   go_loopw [5, 6] (fun o i wr => ∃ k : Nat, k ≤ ls.length ∧ i = .int .i64 k ∧ wr.ownsRow w1.heap.size 9 1 o k ((Nm.lowL (ls.take k)).map yQ) ∧ Below w1.heap.size w1 wr) (fun _ i _ => ls.length - (intOf i).toNat)
   case atStart => exact ⟨0, by omega, rfl, World.ownsRow_nil _ _ _ _, Below.refl _ _⟩
   case round =>
    obtain ⟨k, hk, rfl, hown, hbel⟩ := hrel
    have HOWN := Lib.hid hown
    by_cases hlt : k < ls.length
    · obtain hz0' | ⟨b, off, ha, hlb, hcc⟩ := HROW.out
      · subst hz0'; simp at hlt
      subst ha
      obtain ⟨l, hl⟩ : ∃ l, ls[k]? = some l := ⟨_, List.getElem?_eq_getElem hlt⟩
      have hll := HOK.out l (List.mem_of_getElem? hl)
      have d0 : wr.cell? ⟨b, off + k, none⟩ = some (.string ⟨l.toArray⟩) := (hbel.cell hlb).trans (hcc k l hl)
      have HT := Lib.hid (show (Nm.lowL (ls.take (k + 1))).map yQ = (Nm.lowL (ls.take k)).map yQ ++ [yQ (Nm.low l)] by rw [List.take_add_one, hl]; simp [Nm.lowL])
      have hbw : b < wr.heap.size := World.block_lt_of_cell? wr _ d0
      have HBEL := Lib.hid hbel
      have hwsz := hbel.size
      have hk0 : (0 : Int) ≤ (k : Int) := by omega
      have hk1 : (k : Int) < (ls.length : Int) := by omega
      clear hcc hl hbel hown
      go_wp2_with fail
      refine (aa5 ⟨l.toArray⟩ _ (by rw [aeZ]; omega)).mono ?_
      rintro e w2 ⟨rfl, hb2⟩
      have HB2 := Lib.hid hb2
      have hsz2 := hb2.size
      have HOWN2 := Lib.hid (ae0 HOWN.out hb2)
      clear hb2
      go_wp2_with (at_builtin; refine wpList_append_own _ rfl _ _ 50 rfl w1.heap.size 9 i0 (.string ByteArray.empty) 1 16 unO hi hz0 hz1 hz2 rfl (by decide) _ k _ rfl (HOWN2.out.alloc _) ⟨w2.heap.size, 0, none⟩ 1 1 [.string ⟨(Nm.low l).toArray⟩] rfl rfl (cell_one_new _ _ _) ?c2 ?c3 ?c4 ?c5 ?_)
      case c2 => simp [Value.oneCell']
      case c3 => unfold maxLen; omega
      case c4 => omega
      case c5 => simp; omega
      intro v' w3 hown' hgrow _
      have HB3 := Lib.hid (((HBEL.out.trans (HB2.out.mono hwsz)).alloc (Nat.le_trans hwsz hsz2) _).grown hgrow (by simp; omega) (fun q hq => (HOWN2.out.lt q hq).1))
      have hfin0 : w3.ownsRow w1.heap.size 9 1 v' (k + 1) ((Nm.lowL (ls.take (k + 1))).map yQ) := by
       rw [HT.out]
       exact hown'
      have HFIN := Lib.hid hfin0
      clear hown' hgrow hfin0
      go_wp2_with fail
      exact ⟨⟨k + 1, by omega, by go_num, HFIN.out, HB3.out⟩, by simp [intOf]; omega⟩
    · obtain rfl : k = ls.length := by omega
      rw [List.take_length] at HOWN
      have hr : SRow wr _ (Nm.lowL ls) := SRow.own (e := 9) (base := w1.heap.size) (by have h := HOWN.out; rwa [show ls.length = (Nm.lowL ls).length by simp [Nm.lowL]] at h)
      have HR := Lib.hid hr
      have HBEL := Lib.hid hbel
      clear hr hown hbel
      go_wp2_with fail
      refine (KB _ (Nm.lowL ls) _ HR.out (fun l hl => (Nm.lowL_ok HOK.out l hl).2) (by simp [Nm.lowL]; omega)).mono ?_
      rintro e w2 ⟨rfl, hb2⟩
      go_wp2_with fail
      go_ret
      exact ⟨W9 (by rw [ae1 HNM.out]), HB.out.trans ((HBEL.out.trans (hb2.mono HBEL.out.size)).mono hw1)⟩
end
section
open Go.RowKit
def ak7 : Value → Nat
 | .string s => s.size
 | _ => 0
end
section
open Go.RowKit
section
variable {G : World} {L : jc} {P : Program}
theorem Spec.ofRow {f : FuncId} {args : Array Value} {e : TypeId} {sz m : Nat} {xs : List Value} (h : ∀ w, Calls P f args w fun en w' => ∃ v, en = .returned v ∧ w'.ownsRow w.heap.size e sz v m xs ∧ Below w.heap.size w w') :
 Spec P G f args L fun u M => ∃ B, Row e sz u m xs B ∧ M = B ++ L :=
 ⟨fun w hw => (h w).mono fun en w' ⟨v, h1, h2, h3⟩ => by
   have hL : Heap G w' L := ⟨hw.still.trans ⟨h3.os, h3.tape, h3.output, h3.size⟩, hw.nodup, fun p hp => (h3.block p.1 (hw.lt hp)).trans (hw.get p hp)⟩
   rcases h2.2 with ⟨q1, q2⟩ | ⟨g, cap, cur, q1, q2, q3, q4, q5, q6, q7⟩
   · exact ⟨v, _, h1, ⟨[], ⟨h2.1, Or.inl ⟨q1, q2, rfl⟩⟩, rfl⟩, hL⟩
   · refine ⟨v, _, h1, ⟨[(g, .cells cur e (0, 0))], ⟨h2.1, Or.inr ⟨g, cap, cur, q1, rfl, q4, q5, q6, q7⟩⟩, rfl⟩, hL.still, ?_, fun p hp => ?_⟩
     · show ((g : Nat) :: L.map (·.1)).Nodup
       rw [List.nodup_cons]
       refine ⟨fun hm => ?_, hL.nodup⟩
       obtain ⟨p, hp, he⟩ := List.mem_map.1 hm
       have := hw.lt hp
       omega
     · rcases List.mem_cons.1 hp with rfl | hp
       · exact q3
       · exact hL.get p hp⟩
end
variable {G : World} {L : jc}
theorem ae2 {l : Nm.Bytes} (h : l.length ≤ 1000000) : (bs l).size ≤ maxLen := by rw [ks]; unfold maxLen; omega
theorem aa6 {l : Nm.Bytes} (h : l.length ≤ 1000000) : (bs l).size ≤ 1000000 := by rw [ks]; exact h
theorem jV (l : Nm.Bytes) (h : l.length ≤ 1000000) : Spec Tryz.prog G 83 #[.string (bs l)] L fun u M => u = .bool (Nm.may l) ∧ M = L := Spec.ofSame fun w => Yd (bs l) w (ae2 h)
theorem jN (l : Nm.Bytes) (h : l.length ≤ 1000000) : Spec Tryz.prog G 116 #[.string (bs l)] L fun u M => u = .string (bs (Nm.fold l)) ∧ M = L := Spec.ofBelow fun w => aeY (bs l) w (ae2 h)
theorem ae3 (n : Nm.Bytes) (ls : List Nm.Bytes) (h : Nm.nm n = some ls) : Spec Tryz.prog G 84 #[.string (bs n)] L fun u M => ∃ B, Row 9 1 u ls.length (ls.map ka) B ∧ M = B ++ L :=
 Spec.ofRow fun w => by
  obtain ⟨h1, h2, h3⟩ := Nm.nm_iff.1 h
  exact aa2 (bs n) ls w h1 h2 (by rw [ks]; exact h3)
theorem K9 (l : Nm.Bytes) (h : l.length ≤ 1000000) : Spec Tryz.prog G 69 #[.string (bs l)] L fun u M => u = .string (bs (Nm.fold l)) ∧ M = L := Spec.ofBelow fun w => ZJ (bs l) w (aa6 h)
end
section
open Go.RowKit
def Vz (l : Nm.Bytes) : Nm.Bytes := l.flatMap wr ++ [46]
def kI (ls : List Nm.Bytes) : Nm.Bytes := ls.flatMap Vz
def qu (n : Nm.Bytes) : Nm.Bytes := match Nm.nm n with
 | none => []
 | some [] => [46]
 | some ls => kI ls
theorem ah6 (c : UInt8) : 1 ≤ (wr c).length ∧ (wr c).length ≤ 4 := by
 unfold wr; split
 · simp
 · split <;> simp
theorem zx (l : Nm.Bytes) : (l.flatMap wr).length ≤ 4 * l.length := by
 induction l with
 | nil => simp
 | cons c l ih => have := ah6 c; rw [List.flatMap_cons, List.length_append, List.length_cons]; omega
theorem Qa (ls : List Nm.Bytes) : (kI ls).length ≤ 4 * jP ls := by
 induction ls with
 | nil => simp [kI]
 | cons l ls ih =>
   have := zx l
   rw [kW]
   simp only [kI, List.flatMap_cons, List.length_append, Vz, List.length_singleton] at ih ⊢
   omega
theorem UR (ls : List Nm.Bytes) (l : Nm.Bytes) : kI (ls ++ [l]) = kI ls ++ Vz l := by simp [kI]
theorem ab9 {n : Nm.Bytes} (h : Nm.nm n = some []) : n = [0] := (Nm.nm_iff.1 h).1
theorem ZK {n : Nm.Bytes} {l : Nm.Bytes} {ls : List Nm.Bytes} (h : Nm.nm n = some (l :: ls)) : n ≠ [0] := by
 obtain ⟨h1, h2, _⟩ := Nm.nm_iff.1 h
 intro e
 rw [e] at h1
 have := (Nm.ok_cons.1 h2).1.1
 simp [Nm.enc] at h1
 rw [h1.2.1] at this
 simp at this
theorem Yg {n : Nm.Bytes} {ls : List Nm.Bytes} (h : Nm.nm n = some ls) : jP ls ≤ 254 := by
 obtain ⟨h1, _, h3⟩ := Nm.nm_iff.1 h
 have := Nm.enc_length ls
 rw [← h1] at this
 unfold jP
 omega
theorem ae4 {n : Nm.Bytes} {ls : List Nm.Bytes} (h : Nm.nm n = some ls) : ls.length ≤ 254 := by
 obtain ⟨h1, _, h3⟩ := Nm.nm_iff.1 h
 have := Nm.length_lt_enc ls
 rw [← h1] at this
 omega
theorem jv {G : World} {L : jc} (n : Nm.Bytes) (hn : n.length ≤ 1000000) :
 Spec Tryz.prog G 53 #[.string (bs n)] L fun u M => u = .string (bs (qu n)) ∧ M = L := by
 cases hnm : Nm.nm n with
 | none =>
   refine ju (n := 32) Tryz.func53 rfl rfl rfl ?_
   repeat (first | refine goC ?_ | (refine jx ?_; intro bNew))
   refine ji (jb je rfl (jV n hn)) rfl ?_
   rw [Nm.may_none hnm]
   repeat (first | refine goC ?_ | (refine jx ?_; intro bNew))
   refine js 2 _ rfl rfl ?_
   exact ⟨by simp [qu, hnm]; rfl, rfl⟩
 | some ls0 =>
   cases ls0 with
   | nil =>
     have e1 : (n == [0]) = true := by simpa using ab9 hnm
     refine ju (n := 32) Tryz.func53 rfl rfl rfl ?_
     repeat (first | refine goC ?_ | (refine jx ?_; intro bNew))
     refine ji (jb je rfl (jV n hn)) rfl ?_
     rw [Nm.may_some hnm]
     repeat (first | refine goC ?_ | (refine jx ?_; intro bNew))
     refine js 2 _ rfl rfl ?_
     exact ⟨by simp [qu, hnm]; rfl, rfl⟩
   | cons l0 r0 =>
     have e1 : (n == [0]) = false := by simpa using ZK hnm
     obtain ⟨ls, hls⟩ : ∃ ls, ls = l0 :: r0 := ⟨_, rfl⟩
     have hT : qu n = kI ls := by simp only [qu, hnm]; rw [hls]
     have hne : kI ls ≠ [] := by rw [hls]; simp [kI, Vz]
     rw [← hls] at hnm
     have hsum := Yg hnm
     have hfew := ae4 hnm
     clear hls
     refine ju (n := 32) Tryz.func53 rfl rfl rfl ?_
     repeat (first | refine goC ?_ | (refine jx ?_; intro bNew))
     refine ji (jb je rfl (jV n hn)) rfl ?_
     rw [Nm.may_some hnm]
     repeat (first | refine goC ?_ | (refine jx ?_; intro bNew))
     refine jX (jb je rfl (ae3 n ls hnm)) rfl ?_
     rintro v1 _ ⟨B1, hR1, rfl⟩
     obtain ⟨a1, c1, rfl⟩ := hR1.slice
     have hrow := hR1.strRow (L := B1) (fun p hp => hp)
     obtain ⟨a, cap, hveq, hcells⟩ := id hrow
     cases hveq
     repeat (first | refine goC ?_ | (refine jx ?_; intro bNew))
     refine jK (σ := Nat × jc) (fun x => x.1 ≤ ls.length ∧ BuildRep bNew (kI (ls.take x.1)) x.2)
      (fun x => [(3, .pointer (some ⟨bNew, 0, none⟩)), (13, .slice a1 ls.length c1), (14, .int .i64 (ls.length : Nat)), (15, .int .i64 (x.1 : Nat))]) (fun x => x.2 ++ (B1 ++ L)) (fun x => ls.length - x.1) (0, [(bNew, .cells #[.pointer none, .slice none 0 0] 78 (0, 0))]) ⟨by omega, ⟨_, _, [], Or.inl rfl, Row.nil _ _, rfl⟩⟩ ?_ (fun _ h => h.perm List.perm_middle) ?_
     exact jL
     rintro ⟨k, B⟩ ⟨hk, hrep⟩
     dsimp only at hk hrep
     have hlenk := Qa (ls.take k)
     have hsumk := qE ls k
     by_cases hlt : k < ls.length
     · obtain rfl | ⟨b, off, C, te, fr, rfl, hm, hc⟩ := hcells
       · simp at hlt
       obtain ⟨l, hlk⟩ : ∃ l, ls[k]? = some l := ⟨_, List.getElem?_eq_getElem hlt⟩
       have hcell := hc k l hlk
       have htk : ls.take (k + 1) = ls.take k ++ [l] := by rw [List.take_add_one, hlk]; rfl
       have hll : l.length ≤ 254 := by
        have := qE ls (k + 1)
        rw [htk, qc, kW] at this
        omega
       have d1 : decide ((k : Int) < (ls.length : Int)) = true := decide_eq_true jj
       have hm' : (b, Obj.cells C te fr) ∈ B ++ (B1 ++ L) := List.mem_append_right _ (List.mem_append_left _ hm)
       repeat (first | refine goC ?_ | (refine jx ?_; intro bNew))
       refine jK (σ := Nat × jc) (fun x => x.1 ≤ l.length ∧ BuildRep bNew (kI (ls.take k) ++ (l.take x.1).flatMap wr) x.2)
        (fun x => [(3, .pointer (some ⟨bNew, 0, none⟩)), (5, .string (bs l)), (6, .int .i64 (x.1 : Nat)), (13, .slice (some ⟨b, off, none⟩) ls.length c1), (14, .int .i64 (ls.length : Nat)), (15, .int .i64 (k : Nat))]) (fun x => x.2 ++ (B1 ++ L)) (fun x => l.length - x.1) (0, B) ⟨by omega, by simpa using hrep⟩ ?_ (fun _ h => h) ?_
       exact jL
       rintro ⟨i, B2⟩ ⟨hi, hrep2⟩
       dsimp only at hi hrep2
       have hlen2 := zx (l.take i)
       have hlen3 : (l.take i).length ≤ i := List.length_take_le _ _
       by_cases hil : i < l.length
       · obtain ⟨c, hc2⟩ : ∃ c, l[i]? = some c := ⟨_, List.getElem?_eq_getElem hil⟩
         have hc3 : l[((i : Nat) : Int).toNat]? = some c := hc2
         have hti : l.take (i + 1) = l.take i ++ [c] := by rw [List.take_add_one, hc2]; rfl
         have d2 : decide ((i : Int) < (l.length : Int)) = true := decide_eq_true jj
         repeat (first | refine goC ?_ | (refine jx ?_; intro bNew))
         refine jX (jb je rfl (aa1 bNew _ B2 c hrep2 (by rw [List.length_append]; omega))) rfl ?_
         rintro _ _ ⟨B3, hB3, rfl⟩
         repeat (first | refine goC ?_ | (refine jx ?_; intro bNew))
         refine jz (i + 1, B3) ⟨by omega, ?_⟩ ?_ (fun _ h => h) jj
         · rw [hti, List.flatMap_append, ← List.append_assoc]; simpa using hB3
         exact jL
       · have hie : i = l.length := by omega
         subst hie
         rw [List.take_length] at hrep2
         have d2 : decide ((l.length : Int) < (l.length : Int)) = false := by simp
         repeat (first | refine goC ?_ | (refine jx ?_; intro bNew))
         refine jX (jb je rfl (jS bNew _ B2 46 hrep2 (by rw [List.take_length] at hlen2; rw [List.length_append]; omega))) rfl ?_
         rintro _ _ ⟨rfl, B3, hB3, rfl⟩
         repeat (first | refine goC ?_ | (refine jx ?_; intro bNew))
         refine jz (k + 1, B3) ⟨by omega, ?_⟩ ?_ (fun _ h => h) jj
         · rw [htk, UR]; simpa [Vz] using hB3
         exact jL
     · have hkl : k = ls.length := by omega
       subst hkl
       rw [List.take_length] at hrep
       have d1 : decide ((ls.length : Int) < (ls.length : Int)) = false := by simp
       repeat (first | refine goC ?_ | (refine jx ?_; intro bNew))
       refine ji (jb je rfl (ZD bNew _ B hrep hne)) rfl ?_
       repeat (first | refine goC ?_ | (refine jx ?_; intro bNew))
       refine jr (fun w h => h.sub (List.sublist_append_right _ _)) ?_
       refine js 2 _ rfl rfl ?_
       exact ⟨by rw [hT], rfl⟩
end
section
open Go.RowKit
theorem ah7 (s : Scan) (he : s.esc = 0) (c : UInt8) : ∃ v, kr s (wr c) = some { s with label := s.label ++ [c], val := v } := by
 obtain ⟨ls, lb, esc, val⟩ := s
 simp only at he
 subst he
 have hc := c.toNat_lt
 have t92 : ∀ (ls : List Nm.Bytes) (lb : Nm.Bytes) (v : Nat), j6 ⟨ls, lb, 0, v⟩ 92 = (true, ⟨ls, lb, 1, 0⟩) := fun ls lb v => by simp [j6]
 unfold wr
 split
 · rename_i h
   have hn : isDig c.toNat = false := by simp [isDig]; omega
   have t2 : j6 ⟨ls, lb, 1, 0⟩ c.toNat = (true, ⟨ls, lb ++ [c], 0, 0⟩) := by
    unfold j6
    rw [if_neg jj, if_pos (by simp)]
    simp [kX, hn]
   refine ⟨0, ?_⟩
   simp only [kr]
   rw [show ((92 : UInt8).toNat) = 92 from rfl, t92]
   simp only [if_true]
   rw [t2]
   simp
 · rename_i h
   split
   · rename_i h2
     obtain ⟨d1, hd1⟩ : ∃ d, d = c.toNat / 100 := ⟨_, rfl⟩
     obtain ⟨d2, hd2⟩ : ∃ d, d = c.toNat / 10 % 10 := ⟨_, rfl⟩
     obtain ⟨d3, hd3⟩ : ∃ d, d = c.toNat % 10 := ⟨_, rfl⟩
     have hsum : (d1 * 10 + d2) * 10 + d3 = c.toNat := by omega
     have b1 : d1 ≤ 2 := by omega
     have b2 : d2 ≤ 9 := by omega
     have b3 : d3 ≤ 9 := by omega
     rw [← hd1, ← hd2, ← hd3]
     have e : ∀ d, d ≤ 9 → (UInt8.ofNat (48 + d)).toNat = 48 + d := fun d hd => by simp; omega
     have dg : ∀ d, d ≤ 9 → isDig (48 + d) = true := fun d hd => by simp [isDig]; omega
     have tk : ∀ (d : Nat) (hd : d ≤ 9) (s : Scan), 0 < s.esc → j6 s (48 + d) = kX s (48 + d) := fun d hd s hs => by
      unfold j6; rw [if_neg jj, if_pos hs]
     refine ⟨c.toNat, ?_⟩
     simp only [kr]
     rw [show ((92 : UInt8).toNat) = 92 from rfl, t92]
     simp only [if_true]
     rw [e d1 jj, tk d1 jj _ (by simp)]
     have x1 : kX ⟨ls, lb, 1, 0⟩ (48 + d1) = (true, ⟨ls, lb, 2, d1⟩) := by simp [kX, dg d1 jj]
     rw [x1]
     simp only [if_true]
     rw [e d2 b2, tk d2 b2 _ (by simp)]
     have x2 : kX ⟨ls, lb, 2, d1⟩ (48 + d2) = (true, ⟨ls, lb, 3, d1 * 10 + d2⟩) := by simp [kX, dg d2 b2]
     rw [x2]
     simp only [if_true]
     rw [e d3 b3, tk d3 b3 _ (by simp)]
     have x3 : kX ⟨ls, lb, 3, d1 * 10 + d2⟩ (48 + d3) = (true, ⟨ls, lb ++ [c], 0, c.toNat⟩) := by
      unfold kX
      rw [if_pos (dg d3 b3), if_neg (by simp), if_neg (by simp; omega)]
      have : (d1 * 10 + d2) * 10 + (48 + d3 - 48) = c.toNat := by omega
      simp only [this]
      simp
     rw [x3]
     simp
   · rename_i h2
     refine ⟨val, ?_⟩
     have t1 : j6 ⟨ls, lb, 0, val⟩ c.toNat = (true, ⟨ls, lb ++ [c], 0, val⟩) := by
      unfold j6
      rw [if_neg h2, if_neg (by simp), if_neg jj, if_neg jj]
      simp
     simp only [kr]
     rw [t1]
     simp
theorem VZ : ∀ (l : Nm.Bytes) (s : Scan), s.esc = 0 → ∃ v, kr s (l.flatMap wr) = some { s with label := s.label ++ l, val := v }
 | [], s, h => ⟨s.val, by simp [kr]⟩
 | c :: l, s, h => by
   obtain ⟨v, hv⟩ := ah7 s h c
   obtain ⟨v2, hv2⟩ := VZ l { s with label := s.label ++ [c], val := v } h
   refine ⟨v2, ?_⟩
   rw [List.flatMap_cons, kZ, hv]
   simp only [Option.bind_some]
   rw [hv2]
   simp
theorem ZL : ∀ (ls : List Nm.Bytes) (acc : List Nm.Bytes) (v : Nat), (∀ l ∈ ls, l ≠ []) → ∃ v', kr ⟨acc, [], 0, v⟩ (kI ls) = some ⟨acc ++ ls, [], 0, v'⟩
 | [], acc, v, _ => ⟨v, by simp [kI, kr]⟩
 | l :: ls, acc, v, h => by
   obtain ⟨v1, h1⟩ := VZ l ⟨acc, [], 0, v⟩ rfl
   obtain ⟨v2, h2⟩ := ZL ls (acc ++ [l]) v1 (fun x hx => h x (List.mem_cons_of_mem _ hx))
   refine ⟨v2, ?_⟩
   have hl : l ≠ [] := h l (List.mem_cons_self ..)
   have t46 : j6 ⟨acc, l, 0, v1⟩ 46 = (true, ⟨acc ++ [l], [], 0, v1⟩) := by simp [j6, hl]
   have e : kI (l :: ls) = l.flatMap wr ++ (46 :: kI ls) := by simp [kI, Vz]
   rw [e, kZ, h1]
   simp only [Option.bind_some, List.nil_append, kr]
   rw [show ((46 : UInt8).toNat) = 46 from rfl, t46]
   simp only [if_true]
   rw [h2]
   simp
theorem aa7 {ls : List Nm.Bytes} (h : ∀ l ∈ ls, l ≠ []) (h0 : ls ≠ []) : kY (kI ls) = some ls := by
 obtain ⟨v, hv⟩ := ZL ls [] 0 h
 unfold kY
 rw [show z8 = ⟨[], [], 0, 0⟩ from rfl, hv]
 simp [yq, h0]
theorem ah8 {ls : List Nm.Bytes} (h : Nm.Ok ls) : ls.all qR = true := List.all_eq_true.2 fun l hl => by have := h l hl; simp [qR]; omega
theorem ah9 {ls : List Nm.Bytes} (h : ls.all qR = true) : Nm.Ok ls := fun l hl => by have := List.all_eq_true.1 h l hl; simp [qR] at this; omega
theorem adk {n : Nm.Bytes} {ls : List Nm.Bytes} (h : Nm.nm n = some ls) : kp ls = 0 ∧ yC ls = n := by
 obtain ⟨h1, h2, h3⟩ := Nm.nm_iff.1 h
 have hs := Yg h
 have hE : kp ls = 0 := by unfold kp; rw [if_pos (ah8 h2), if_neg jj]
 exact ⟨hE, by unfold yC; rw [if_pos hE, h1]⟩
theorem adl {ls : List Nm.Bytes} (h : kp ls = 0) : Nm.nm (Nm.enc ls) = some ls := by
 unfold kp at h
 split at h
 · rename_i h1
   split at h
   · simp at h
   · rename_i h2
     refine Nm.nm_iff.2 ⟨rfl, ah9 h1, ?_⟩
     rw [Nm.enc_length]
     unfold jP at h2
     omega
 · simp at h
theorem ae5 : ∀ {ls : List Nm.Bytes}, ls ≠ [] → ∃ t, kI ls = t ++ [46]
 | [], h => absurd rfl h
 | [l], _ => ⟨l.flatMap wr, by simp [kI, Vz]⟩
 | l :: x :: ls, _ => by
   obtain ⟨t, ht⟩ := ae5 (ls := x :: ls) (by simp)
   refine ⟨Vz l ++ t, ?_⟩
   have : kI (l :: x :: ls) = Vz l ++ kI (x :: ls) := by simp [kI]
   rw [this, ht, List.append_assoc]
theorem Qb {n : Nm.Bytes} {l : Nm.Bytes} {ls : List Nm.Bytes} (h : Nm.nm n = some (l :: ls)) : qu n = kI (l :: ls) := by simp [qu, h]
theorem US {n : Nm.Bytes} (h : Nm.may n = true) : j5 (qu n) = n ∧ qF (qu n) = 0 ∧ (qu n).length ≤ 2000 ∧ ∃ t, qu n = t ++ [46] := by
 obtain ⟨ls, hls⟩ := Nm.nm_of_may h
 cases ls with
 | nil =>
   have e : qu n = [46] := by simp [qu, hls]
   have := ab9 hls
   rw [e]
   exact ⟨by rw [this]; rfl, rfl, by decide, [], rfl⟩
 | cons l r =>
   have e := Qb hls
   have hne : ∀ x ∈ l :: r, x ≠ [] := fun x hx e => by have := ((Nm.nm_iff.1 hls).2.1 x hx).1; rw [e] at this; simp at this
   have hT := aa7 hne (by simp)
   have hnot : kI (l :: r) ≠ [46] := by
    intro e1
    rw [e1] at hT
    have : kY [46] = none := by decide
    rw [this] at hT
    cases hT
   have hany : (l :: r).any (fun l => decide (63 < l.length)) = false := List.any_eq_false.2 fun x hx => by have := ((Nm.nm_iff.1 hls).2.1 x hx).2; simp; omega
   obtain ⟨j1, j2⟩ := adk hls
   have hlen := Qa (l :: r)
   have hs := Yg hls
   rw [e]
   refine ⟨?_, ?_, by omega, ae5 (by simp)⟩
   · unfold j5; rw [if_neg hnot, hT]; simp only [hany]; exact j2
   · unfold qF; rw [if_neg hnot, hT]; simp only [hany]; exact j1
theorem Qc {t : Nm.Bytes} (h : qF t = 0) : Nm.may (j5 t) = true := by
 unfold qF at h
 unfold j5
 split
 · decide
 · rename_i h1
   rw [if_neg h1] at h
   cases hT : kY t with
   | none => rw [hT] at h; simp at h
   | some ls =>
     rw [hT] at h
     simp only at h ⊢
     split
     · rename_i h2; rw [if_pos h2] at h; simp at h
     · rename_i h2
       rw [if_neg h2] at h
       unfold yC
       rw [if_pos h]
       exact Nm.may_some (adl h)
end
section
open Go.RowKit
theorem qh {t : Nm.Bytes} {k : Nat} {c : UInt8} (h : t[k]? = some c) : t.drop k = c :: t.drop (k + 1) := by
 obtain ⟨hl, hc⟩ := List.getElem?_eq_some_iff.1 h
 rw [List.drop_eq_getElem_cons hl, hc]
theorem UT {t : Nm.Bytes} {k : Nat} (h : t.length ≤ k) : t.drop k = [] := List.drop_eq_nil_of_le h
theorem UU (s : Scan) (c : Nat) (h : c < 33 ∨ 126 < c) : (j6 s c).1 = false := by unfold j6; rw [if_pos h]
theorem Q7 (s : Scan) (h : s.esc = 0) : j6 s 92 = (true, { s with esc := 1, val := 0 }) := by
 obtain ⟨ls, lb, esc, val⟩ := s; simp only at h; subst h; simp [j6]
theorem KC (s : Scan) (c : Nat) (h : 0 < s.esc) (h1 : 33 ≤ c) (h2 : c ≤ 126) : j6 s c = kX s c := by
 unfold j6; rw [if_neg jj, if_pos h]
theorem agY (s : Scan) (c : Nat) (h : isDig c = true) (h3 : s.esc < 3) : kX s c = (true, { s with val := s.val * 10 + (c - 48), esc := s.esc + 1 }) := by
 unfold kX; rw [if_pos h, if_pos h3]
theorem aia (s : Scan) (c : Nat) (h : isDig c = false) (h3 : 1 < s.esc) : kX s c = (false, s) := by
 unfold kX; rw [if_neg (by simp [h]), if_pos h3]
theorem UV {c : Nat} (h : isDig c = true) : 48 ≤ c ∧ c ≤ 57 := by simpa [isDig] using h
def qf (t : Nm.Bytes) (k : Nat) (c : UInt8) (n : Nat) : Prop :=
 (n = 0 ∧ ∀ s : Scan, s.esc = 0 → ∀ s', kr s (t.drop k) = some s' → 0 < s'.esc) ∨
 (1 ≤ n ∧ k + n ≤ t.length ∧ ∀ s : Scan, s.esc = 0 → ∃ v, kr s ((t.drop k).take n) = some { s with label := s.label ++ [c], val := v })
section
variable {t : Nm.Bytes} {k : Nat} {c d d2 d3 : UInt8}
theorem ae6 (h : t[k]? = some c) (hc : c.toNat < 33 ∨ 126 < c.toNat) : qf t k 0 0 := Or.inl ⟨rfl, fun s hs s' hr => by
 rw [qh h] at hr; simp [kr, UU s c.toNat hc] at hr⟩
theorem aib (h : t[k]? = some c) (h1 : 33 ≤ c.toNat) (h2 : c.toNat ≤ 126) (h3 : c.toNat ≠ 92) (h4 : c.toNat ≠ 46) : qf t k c 1 := Or.inr ⟨Nat.le_refl _, (List.getElem?_eq_some_iff.1 h).1, fun s hs => ⟨s.val, by
 rw [qh h]
 have : j6 s c.toNat = (true, { s with label := s.label ++ [c] }) := by
  unfold j6; rw [if_neg jj, if_neg jj, if_neg h3, if_neg h4]; simp
 simp [kr, this]⟩⟩
theorem aic (h : t[k]? = some 92) (hl : t.length ≤ k + 1) : qf t k 0 0 := Or.inl ⟨rfl, fun s hs s' hr => by
 rw [qh h, UT hl] at hr
 simp [kr, Q7 s hs] at hr
 rw [← hr]; exact Nat.one_pos⟩
theorem aid (h : t[k]? = some 92) (hd : t[k + 1]? = some d) (h1 : 33 ≤ d.toNat) (h2 : d.toNat ≤ 126) (h3 : isDig d.toNat = false) : qf t k d 2 := Or.inr ⟨by decide, (List.getElem?_eq_some_iff.1 hd).1, fun s hs => ⟨0, by
 rw [qh h, qh hd]
 have e2 : j6 { s with esc := 1, val := 0 } d.toNat = (true, { s with label := s.label ++ [d], val := 0 }) := by
  rw [KC _ _ Nat.one_pos h1 h2]
  unfold kX
  rw [if_neg (by simp [h3]), if_neg (by simp)]
  obtain ⟨ls, lb, esc, val⟩ := s; simp only at hs; subst hs
  simp
 simp [kr, Q7 s hs, e2]⟩⟩
theorem yR (h : t[k]? = some 92) (hd : t[k + 1]? = some d) (h1 : d.toNat < 33 ∨ 126 < d.toNat) : qf t k 0 0 := Or.inl ⟨rfl, fun s hs s' hr => by
 rw [qh h, qh hd] at hr
 simp [kr, Q7 s hs, UU _ d.toNat h1] at hr⟩
theorem uN (s : Scan) (c : UInt8) (r : Nm.Bytes) (h : isDig c.toNat = true) (h0 : 0 < s.esc) (h3 : s.esc < 3) : kr s (c :: r) = kr { s with val := s.val * 10 + (c.toNat - 48), esc := s.esc + 1 } r := by
 have := UV h
 simp [kr, KC s c.toNat h0 jj jj, agY s c.toNat h h3]
theorem Qd (s : Scan) (c : UInt8) (r : Nm.Bytes) (h : isDig c.toNat = false) (h0 : 1 < s.esc) : kr s (c :: r) = none := by
 by_cases hc : c.toNat < 33 ∨ 126 < c.toNat
 · simp [kr, UU s c.toNat hc]
 · simp [kr, KC s c.toNat jj jj jj, aia s c.toNat h h0]
theorem UW (s : Scan) (r : Nm.Bytes) (hs : s.esc = 0) : kr s (92 :: r) = kr { s with esc := 1, val := 0 } r := by
 have := Q7 s hs
 simp [kr, this]
theorem ae7 (h : t[k]? = some 92) (hd : t[k + 1]? = some d) (h1 : isDig d.toNat = true) (hl : t.length ≤ k + 3) : qf t k 0 0 := Or.inl ⟨rfl, fun s hs s' hr => by
 rw [qh h, qh hd, UW s _ hs, uN _ _ _ h1 (by simp) (by simp)] at hr
 cases e : t[k + 2]? with
 | none =>
   rw [UT (by simpa using e)] at hr
   simp [kr] at hr
   rw [← hr]; exact Nat.succ_pos _
 | some x =>
   rw [qh e, UT hl] at hr
   cases hx : isDig x.toNat with
   | true =>
     rw [uN _ _ _ hx (by simp) (by simp)] at hr
     simp [kr] at hr
     rw [← hr]; exact Nat.succ_pos _
   | false => rw [Qd _ _ _ hx (by simp)] at hr; cases hr⟩
theorem aie (h : t[k]? = some 92) (hd : t[k + 1]? = some d) (h1 : isDig d.toNat = true) (hd2 : t[k + 2]? = some d2) (h2 : isDig d2.toNat = false) : qf t k 0 0 := Or.inl ⟨rfl, fun s hs s' hr => by
 rw [qh h, qh hd, UW s _ hs, uN _ _ _ h1 (by simp) (by simp), qh hd2, Qd _ _ _ h2 (by simp)] at hr
 cases hr⟩
theorem aif (h : t[k]? = some 92) (hd : t[k + 1]? = some d) (h1 : isDig d.toNat = true) (hd2 : t[k + 2]? = some d2) (h2 : isDig d2.toNat = true) (hd3 : t[k + 3]? = some d3) (h3 : isDig d3.toNat = false) : qf t k 0 0 := Or.inl ⟨rfl, fun s hs s' hr => by
 rw [qh h, qh hd, UW s _ hs, uN _ _ _ h1 (by simp) (by simp), qh hd2, uN _ _ _ h2 (by simp) (by simp), qh hd3, Qd _ _ _ h3 (by simp)] at hr
 cases hr⟩
theorem ZM (s : Scan) (c : UInt8) (r : Nm.Bytes) (h : isDig c.toNat = true) (h3 : s.esc = 3) (m : Nat) (hm : s.val * 10 + (c.toNat - 48) = m) : kr s (c :: r) = if 255 < m then none else kr { s with label := s.label ++ [UInt8.ofNat m], val := m, esc := 0 } r := by
 have := UV h
 have e : j6 s c.toNat = if 255 < m then (false, { s with val := m }) else (true, { s with label := s.label ++ [UInt8.ofNat m], val := m, esc := 0 }) := by
  rw [KC s c.toNat jj jj jj]
  unfold kX
  rw [if_pos h, if_neg jj, hm]
 by_cases hb : 255 < m
 · rw [if_pos hb] at e ⊢
   simp [kr, e]
 · rw [if_neg hb] at e ⊢
   simp [kr, e]
theorem aig (h : t[k]? = some 92) (hd : t[k + 1]? = some d) (h1 : isDig d.toNat = true) (hd2 : t[k + 2]? = some d2) (h2 : isDig d2.toNat = true) (hd3 : t[k + 3]? = some d3) (h3 : isDig d3.toNat = true) (hb : 255 < 100 * (d.toNat - 48) + 10 * (d2.toNat - 48) + (d3.toNat - 48)) : qf t k 0 0 := Or.inl ⟨rfl, fun s hs s' hr => by
 rw [qh h, qh hd, UW s _ hs, uN _ _ _ h1 (by simp) (by simp), qh hd2, uN _ _ _ h2 (by simp) (by simp), qh hd3, ZM _ _ _ h3 rfl (100 * (d.toNat - 48) + 10 * (d2.toNat - 48) + (d3.toNat - 48)) (by dsimp only; omega), if_pos hb] at hr
 cases hr⟩
theorem agZ (h : t[k]? = some 92) (hd : t[k + 1]? = some d) (h1 : isDig d.toNat = true) (hd2 : t[k + 2]? = some d2) (h2 : isDig d2.toNat = true) (hd3 : t[k + 3]? = some d3) (h3 : isDig d3.toNat = true) {n : Nat} (hn : n = 100 * (d.toNat - 48) + 10 * (d2.toNat - 48) + (d3.toNat - 48)) (hb : n ≤ 255) : qf t k (UInt8.ofNat n) 4 := Or.inr ⟨by decide, (List.getElem?_eq_some_iff.1 hd3).1, fun s hs => ⟨n, by
 rw [qh h, qh hd, qh hd2, qh hd3]
 simp only [List.take_succ_cons, List.take_zero]
 rw [UW s _ hs, uN _ _ _ h1 (by simp) (by simp), uN _ _ _ h2 (by simp) (by simp), ZM _ _ _ h3 rfl n (by dsimp only; omega), if_neg jj]
 obtain ⟨ls, lb, esc, val⟩ := s; simp only at hs; subst hs
 simp [kr]⟩⟩
end
theorem jW {G : World} {L : jc} (c : UInt8) : Spec Tryz.prog G 150 #[.int .u8 (c.toNat : Int)] L fun u M => u = .bool (isDig c.toNat) ∧ M = L := by
 by_cases h1 : 48 ≤ c.toNat
 · have e1 : decide ((48 : Int) ≤ (c.toNat : Int)) = true := decide_eq_true jj
   refine ju (n := 9) Tryz.func150 rfl rfl rfl ?_
   refine goC ?_
   refine js 2 _ rfl rfl ?_
   exact ⟨by
    have : decide ((c.toNat : Int) ≤ 57) = isDig c.toNat := by
     simp only [isDig, decide_eq_true h1, Bool.true_and]; congr 1; exact propext ⟨fun _ => by omega, fun _ => by omega⟩
    rw [this], rfl⟩
 · have e1 : decide ((48 : Int) ≤ (c.toNat : Int)) = false := decide_eq_false jj
   refine ju (n := 9) Tryz.func150 rfl rfl rfl ?_
   refine goC ?_
   refine js 2 _ rfl rfl ?_
   exact ⟨by simp [isDig, h1], rfl⟩
end
section
open Go.RowKit
def aa8 (c : UInt8) (n : Nat) : Value := .tuple #[.int .u8 (c.toNat : Int), .int .i64 (n : Nat)]
theorem ae8 {G : World} {L : jc} (t : Nm.Bytes) (k : Nat) (c : UInt8) (hc : t[k]? = some c) (h46 : c.toNat ≠ 46) (ht : t.length ≤ 100000) :
 Spec Tryz.prog G 105 #[.string (bs t), .int .i64 (k : Nat)] L fun u M => (∃ d n, u = aa8 d n ∧ qf t k d n) ∧ M = L := by
 have hkl := (List.getElem?_eq_some_iff.1 hc).1
 have i0 : t[Int.toNat ((k : Nat) : Int)]? = some c := by simpa using hc
 have hc256 := c.toNat_lt
 by_cases h1 : c.toNat < 33
 · have e1 : decide ((c.toNat : Int) < 33) = true := decide_eq_true jj
   refine ju (n := 103) Tryz.func105 rfl rfl rfl ?_
   repeat (first | refine goC ?_ | (refine' ji (jb je rfl (jW _ )) rfl ?_) | (refine' jk (jb je rfl (jW _ )) rfl ?_))
   refine jF 4 5 _ _ rfl rfl rfl ?_
   exact ⟨⟨0, 0, rfl, ae6 hc (Or.inl h1)⟩, rfl⟩
 have e1 : decide ((c.toNat : Int) < 33) = false := decide_eq_false jj
 by_cases h2 : 126 < c.toNat
 · have e2 : decide ((126 : Int) < (c.toNat : Int)) = true := decide_eq_true jj
   refine ju (n := 103) Tryz.func105 rfl rfl rfl ?_
   repeat (first | refine goC ?_ | (refine' ji (jb je rfl (jW _ )) rfl ?_) | (refine' jk (jb je rfl (jW _ )) rfl ?_))
   refine jF 4 5 _ _ rfl rfl rfl ?_
   exact ⟨⟨0, 0, rfl, ae6 hc (Or.inr h2)⟩, rfl⟩
 have e2 : decide ((126 : Int) < (c.toNat : Int)) = false := decide_eq_false jj
 by_cases h3 : c.toNat = 92
 case neg =>
  have e3 : ((c.toNat : Int) != 92) = true := by simp; omega
  refine ju (n := 103) Tryz.func105 rfl rfl rfl ?_
  repeat (first | refine goC ?_ | (refine' ji (jb je rfl (jW _ )) rfl ?_) | (refine' jk (jb je rfl (jW _ )) rfl ?_))
  refine jF 4 5 _ _ rfl rfl rfl ?_
  exact ⟨⟨c, 1, rfl, aib hc jj jj h3 h46⟩, rfl⟩
 have e3 : ((c.toNat : Int) != 92) = false := by simp; omega
 have hc92 : t[k]? = some 92 := by rw [hc]; congr 1; exact UInt8.toNat_inj.1 h3
 by_cases hl1 : k + 1 < t.length
 case neg =>
  have g1 : decide (((k : Nat) : Int) + 1 < ((t.length : Nat) : Int)) = false := decide_eq_false jj
  have g3 : decide (((k : Nat) : Int) + 3 < ((t.length : Nat) : Int)) = false := decide_eq_false jj
  refine ju (n := 103) Tryz.func105 rfl rfl rfl ?_
  repeat (first | refine goC ?_ | (refine' ji (jb je rfl (jW _ )) rfl ?_) | (refine' jk (jb je rfl (jW _ )) rfl ?_))
  refine jF 4 5 _ _ rfl rfl rfl ?_
  exact ⟨⟨0, 0, rfl, aic hc92 jj⟩, rfl⟩
 have g1 : decide (((k : Nat) : Int) + 1 < ((t.length : Nat) : Int)) = true := decide_eq_true jj
 obtain ⟨d, hd⟩ : ∃ d, t[k + 1]? = some d := ⟨_, List.getElem?_eq_getElem hl1⟩
 have i1 : t[Int.toNat (((k : Nat) : Int) + 1)]? = some d := by rw [show (((k : Nat) : Int) + 1).toNat = k + 1 by omega]; exact hd
 have hd256 := d.toNat_lt
 cases hdg : isDig d.toNat with
 | false =>
   have n1 : (!isDig d.toNat) = true := by rw [hdg]; rfl
   by_cases h4 : 33 ≤ d.toNat
   case pos =>
    have e4 : decide ((33 : Int) ≤ (d.toNat : Int)) = true := decide_eq_true jj
    by_cases h5 : d.toNat ≤ 126
    case pos =>
     have e5 : decide ((d.toNat : Int) ≤ 126) = true := decide_eq_true jj
     refine ju (n := 103) Tryz.func105 rfl rfl rfl ?_
     repeat (first | refine goC ?_ | (refine' ji (jb je rfl (jW _ )) rfl ?_) | (refine' jk (jb je rfl (jW _ )) rfl ?_))
     refine jF 4 5 _ _ rfl rfl rfl ?_
     exact ⟨⟨d, 2, rfl, aid hc92 hd h4 h5 hdg⟩, rfl⟩
    case neg =>
     have e5 : decide ((d.toNat : Int) ≤ 126) = false := decide_eq_false jj
     by_cases hl3 : k + 3 < t.length
     · have g3 : decide (((k : Nat) : Int) + 3 < ((t.length : Nat) : Int)) = true := decide_eq_true jj
       refine ju (n := 103) Tryz.func105 rfl rfl rfl ?_
       repeat (first | refine goC ?_ | (refine' ji (jb je rfl (jW _ )) rfl ?_) | (refine' jk (jb je rfl (jW _ )) rfl ?_))
       refine jF 4 5 _ _ rfl rfl rfl ?_
       exact ⟨⟨0, 0, rfl, yR hc92 hd jj⟩, rfl⟩
     · have g3 : decide (((k : Nat) : Int) + 3 < ((t.length : Nat) : Int)) = false := decide_eq_false jj
       refine ju (n := 103) Tryz.func105 rfl rfl rfl ?_
       repeat (first | refine goC ?_ | (refine' ji (jb je rfl (jW _ )) rfl ?_) | (refine' jk (jb je rfl (jW _ )) rfl ?_))
       refine jF 4 5 _ _ rfl rfl rfl ?_
       exact ⟨⟨0, 0, rfl, yR hc92 hd jj⟩, rfl⟩
   case neg =>
    have e4 : decide ((33 : Int) ≤ (d.toNat : Int)) = false := decide_eq_false jj
    by_cases hl3 : k + 3 < t.length
    · have g3 : decide (((k : Nat) : Int) + 3 < ((t.length : Nat) : Int)) = true := decide_eq_true jj
      refine ju (n := 103) Tryz.func105 rfl rfl rfl ?_
      repeat (first | refine goC ?_ | (refine' ji (jb je rfl (jW _ )) rfl ?_) | (refine' jk (jb je rfl (jW _ )) rfl ?_))
      refine jF 4 5 _ _ rfl rfl rfl ?_
      exact ⟨⟨0, 0, rfl, yR hc92 hd jj⟩, rfl⟩
    · have g3 : decide (((k : Nat) : Int) + 3 < ((t.length : Nat) : Int)) = false := decide_eq_false jj
      refine ju (n := 103) Tryz.func105 rfl rfl rfl ?_
      repeat (first | refine goC ?_ | (refine' ji (jb je rfl (jW _ )) rfl ?_) | (refine' jk (jb je rfl (jW _ )) rfl ?_))
      refine jF 4 5 _ _ rfl rfl rfl ?_
      exact ⟨⟨0, 0, rfl, yR hc92 hd jj⟩, rfl⟩
 | true =>
   have n1 : (!isDig d.toNat) = false := by rw [hdg]; rfl
   have r1 := UV hdg
   by_cases hl3 : k + 3 < t.length
   case neg =>
    have g3 : decide (((k : Nat) : Int) + 3 < ((t.length : Nat) : Int)) = false := decide_eq_false jj
    refine ju (n := 103) Tryz.func105 rfl rfl rfl ?_
    repeat (first | refine goC ?_ | (refine' ji (jb je rfl (jW _ )) rfl ?_) | (refine' jk (jb je rfl (jW _ )) rfl ?_))
    refine jF 4 5 _ _ rfl rfl rfl ?_
    exact ⟨⟨0, 0, rfl, ae7 hc92 hd hdg jj⟩, rfl⟩
   have g3 : decide (((k : Nat) : Int) + 3 < ((t.length : Nat) : Int)) = true := decide_eq_true jj
   obtain ⟨d2, hd2⟩ : ∃ d, t[k + 2]? = some d := ⟨_, List.getElem?_eq_getElem jj⟩
   have i2 : t[Int.toNat (((k : Nat) : Int) + 2)]? = some d2 := by rw [show (((k : Nat) : Int) + 2).toNat = k + 2 by omega]; exact hd2
   obtain ⟨d3, hd3⟩ : ∃ d, t[k + 3]? = some d := ⟨_, List.getElem?_eq_getElem hl3⟩
   have i3 : t[Int.toNat (((k : Nat) : Int) + 3)]? = some d3 := by rw [show (((k : Nat) : Int) + 3).toNat = k + 3 by omega]; exact hd3
   cases hdg2 : isDig d2.toNat with
   | false =>
     refine ju (n := 103) Tryz.func105 rfl rfl rfl ?_
     repeat (first | refine goC ?_ | (refine' ji (jb je rfl (jW _ )) rfl ?_) | (refine' jk (jb je rfl (jW _ )) rfl ?_))
     refine jF 4 5 _ _ rfl rfl rfl ?_
     exact ⟨⟨0, 0, rfl, aie hc92 hd hdg hd2 hdg2⟩, rfl⟩
   | true =>
     have r2 := UV hdg2
     cases hdg3 : isDig d3.toNat with
     | false =>
       refine ju (n := 103) Tryz.func105 rfl rfl rfl ?_
       repeat (first | refine goC ?_ | (refine' ji (jb je rfl (jW _ )) rfl ?_) | (refine' jk (jb je rfl (jW _ )) rfl ?_))
       refine jF 4 5 _ _ rfl rfl rfl ?_
       exact ⟨⟨0, 0, rfl, aif hc92 hd hdg hd2 hdg2 hd3 hdg3⟩, rfl⟩
     | true =>
       have r3 := UV hdg3
       by_cases hb : 100 * (d.toNat - 48) + 10 * (d2.toNat - 48) + (d3.toNat - 48) ≤ 255
       · have e9 : decide ((100 : Int) * ((d.toNat : Int) - 48) + 10 * ((d2.toNat : Int) - 48) + ((d3.toNat : Int) - 48) ≤ 255) = true := decide_eq_true jj
         refine ju (n := 103) Tryz.func105 rfl rfl rfl ?_
         repeat (first | refine goC ?_ | (refine' ji (jb je rfl (jW _ )) rfl ?_) | (refine' jk (jb je rfl (jW _ )) rfl ?_))
         refine jR jo ([] : jc) [] ?_
         refine tkQ 0 ?_
         refine tkQ 1 ?_
         refine tkQ 2 ?_
         refine tkQ 3 ?_
         refine tkQ 4 ?_
         refine tkQ 5 ?_
         refine tkQ 6 ?_
         refine tkQ 7 ?_
         refine tkQ 8 ?_
         refine tkQ 9 ?_
         refine tkQ 10 ?_
         refine tkQ 11 ?_
         refine tkQ 12 ?_
         refine tkQ 13 ?_
         refine tkQ 14 ?_
         refine tkQ 15 ?_
         refine tkQ 16 ?_
         refine tkQ 17 ?_
         refine tkQ 18 ?_
         refine tkQ 19 ?_
         refine tkQ 20 ?_
         refine tkQ 21 ?_
         refine tkQ 22 ?_
         refine tdQ ?_
         repeat (first | refine goC ?_ | (refine' ji (jb je rfl (jW _ )) rfl ?_) | (refine' jk (jb je rfl (jW _ )) rfl ?_))
         refine jF 4 5 _ _ rfl rfl rfl ?_
         refine ⟨⟨UInt8.ofNat (100 * (d.toNat - 48) + 10 * (d2.toNat - 48) + (d3.toNat - 48)), 4, ?_, agZ hc92 hd hdg hd2 hdg2 hd3 hdg3 rfl hb⟩, rfl⟩
         have hv : ((UInt8.ofNat (100 * (d.toNat - 48) + 10 * (d2.toNat - 48) + (d3.toNat - 48))).toNat : Int) = 100 * ((d.toNat : Int) - 48) + 10 * ((d2.toNat : Int) - 48) + ((d3.toNat : Int) - 48) := by
          rw [UInt8.toNat_ofNat_of_lt' (by show _ < 256; omega)]
          omega
         unfold aa8
         rw [hv]
         rfl
       · have e9 : decide ((100 : Int) * ((d.toNat : Int) - 48) + 10 * ((d2.toNat : Int) - 48) + ((d3.toNat : Int) - 48) ≤ 255) = false := decide_eq_false jj
         refine ju (n := 103) Tryz.func105 rfl rfl rfl ?_
         repeat (first | refine goC ?_ | (refine' ji (jb je rfl (jW _ )) rfl ?_) | (refine' jk (jb je rfl (jW _ )) rfl ?_))
         refine jR jo ([] : jc) [] ?_
         refine tkQ 0 ?_
         refine tkQ 1 ?_
         refine tkQ 2 ?_
         refine tkQ 3 ?_
         refine tkQ 4 ?_
         refine tkQ 5 ?_
         refine tkQ 6 ?_
         refine tkQ 7 ?_
         refine tkQ 8 ?_
         refine tkQ 9 ?_
         refine tkQ 10 ?_
         refine tkQ 11 ?_
         refine tkQ 12 ?_
         refine tkQ 13 ?_
         refine tkQ 14 ?_
         refine tkQ 15 ?_
         refine tkQ 16 ?_
         refine tkQ 17 ?_
         refine tkQ 18 ?_
         refine tkQ 19 ?_
         refine tkQ 20 ?_
         refine tkQ 21 ?_
         refine tkQ 22 ?_
         refine tdQ ?_
         repeat (first | refine goC ?_ | (refine' ji (jb je rfl (jW _ )) rfl ?_) | (refine' jk (jb je rfl (jW _ )) rfl ?_))
         refine jF 4 5 _ _ rfl rfl rfl ?_
         exact ⟨⟨0, 0, rfl, aig hc92 hd hdg hd2 hdg2 hd3 hdg3 jj⟩, rfl⟩
end
section
open Go.RowKit
theorem Spec.ofBelowH {P : Program} {G : World} {L : jc} {f : FuncId} {args : Array Value} {v : Value} (h : ∀ w, Heap G w L → Calls P f args w fun e w' => e = .returned v ∧ Below w.heap.size w w') : Spec P G f args L fun u L' => u = v ∧ L' = L :=
 ⟨fun w hw => (h w hw).mono fun _ w' ⟨h1, h2⟩ => ⟨v, L, h1, ⟨rfl, rfl⟩, hw.still.trans ⟨h2.os, h2.tape, h2.output, h2.size⟩, hw.nodup, fun p hp => (h2.block p.1 (hw.lt hp)).trans (hw.get p hp)⟩⟩
theorem StrRow.sRow {G w : World} {L : jc} {v : Value} {ls : List Nm.Bytes} (h : StrRow L v ls) (hw : Heap G w L) : SRow w v ls := by
 obtain ⟨a, cap, h1, h2⟩ := h
 refine ⟨a, cap, h1, h2.imp id ?_⟩
 rintro ⟨b, off, C, te, fr, h3, h4, h5⟩
 refine ⟨b, off, h3, hw.lt h4, fun i n hi => ?_⟩
 have := hw.cell h4 (h5 i n hi)
 rw [Nat.mul_one] at this
 exact this
theorem aa9 {G : World} {L : jc} (v : Value) (ls : List Nm.Bytes) (hr : StrRow L v ls) (hok : ∀ l ∈ ls, l.length ≤ 63) (hlen : ls.length ≤ 1000) :
 Spec Tryz.prog G 110 #[v] L fun u M => u = .string (bs (Nm.enc ls)) ∧ M = L := Spec.ofBelowH fun w hw => KB v ls w (hr.sRow hw) hok hlen
theorem ag0 (ls : List Nm.Bytes) : ls.length ≤ jP ls := by
 induction ls with
 | nil => simp
 | cons l ls ih => rw [kW]; simp; omega
theorem V0 {G : World} {L : jc} (v : Value) (ls : List Nm.Bytes) (hr : StrRow L v ls) (hn : ls.length ≤ 1000000) (hl : ∀ l ∈ ls, l.length ≤ 1000000000000) :
 Spec Tryz.prog G 106 #[v] L fun u M => u = .tuple #[.string (bs (yC ls)), .int .i64 (kp ls)] ∧ M = L := by
 have hr0 := hr
 obtain ⟨a, cap, rfl, hrow⟩ := hr
 refine ju (n := 45) Tryz.func106 rfl rfl rfl ?_
 refine goC ?_
 refine jK (σ := Nat) (fun k => k ≤ ls.length ∧ (ls.take k).all qR = true) (fun k => [(0, .slice a ls.length cap), (4, .int .i64 1), (5, .int .i64 (k : Nat))]) (fun _ => L) (fun k => ls.length - k) 0 ⟨by omega, by simp⟩ ?_ (fun _ h => h) ?_
 exact jL
 rintro k ⟨hk, hall⟩
 by_cases hlt : k < ls.length
 · obtain rfl | ⟨b, off, C, te, fr, rfl, hm, hc⟩ := hrow
   · simp at hlt
   obtain ⟨l, hlk⟩ : ∃ l, ls[k]? = some l := ⟨_, List.getElem?_eq_getElem hlt⟩
   have hcell := hc k l hlk
   have hll := hl l (List.mem_of_getElem? hlk)
   have htk : ls.take (k + 1) = ls.take k ++ [l] := by rw [List.take_add_one, hlk]; rfl
   have d1 : decide (((k : Nat) : Int) < ((ls.length : Nat) : Int)) = true := decide_eq_true jj
   by_cases h0 : l.length < 1
   · have e1 : decide (((l.length : Nat) : Int) < 1) = true := decide_eq_true jj
     have hE : kp ls = 1 := yD (List.mem_of_getElem? hlk) (by simp [qR]; omega)
     refine goC ?_
     refine jF 2 3 _ _ rfl rfl rfl ?_
     exact ⟨by rw [qI (by rw [hE]; decide), hE]; rfl, rfl⟩
   · have e1 : decide (((l.length : Nat) : Int) < 1) = false := decide_eq_false jj
     by_cases h63 : 63 < l.length
     · have e2 : decide ((63 : Int) < ((l.length : Nat) : Int)) = true := decide_eq_true jj
       have hE : kp ls = 1 := yD (List.mem_of_getElem? hlk) (by simp [qR]; omega)
       refine goC ?_
       refine jF 2 3 _ _ rfl rfl rfl ?_
       exact ⟨by rw [qI (by rw [hE]; decide), hE]; rfl, rfl⟩
     · have e2 : decide ((63 : Int) < ((l.length : Nat) : Int)) = false := decide_eq_false jj
       refine goC ?_
       refine jz (k + 1) ⟨by omega, ?_⟩ ?_ (fun _ h => h) jj
       · rw [htk, List.all_append, hall]; simp [qR]; omega
       exact jL
 · have hkl : k = ls.length := by omega
   subst hkl
   have d1 : decide (((ls.length : Nat) : Int) < ((ls.length : Nat) : Int)) = false := decide_eq_false jj
   rw [List.take_length] at hall
   have hsum := VX _ hall
   refine goC ?_
   refine jK (σ := Nat) (fun k => k ≤ ls.length ∧ 1 + jP (ls.take k) ≤ 255) (fun k => [(0, .slice a ls.length cap), (4, .int .i64 ((1 + jP (ls.take k) : Nat) : Int)), (6, .int .i64 (k : Nat))]) (fun _ => L) (fun k => ls.length - k) 0 ⟨by omega, by simp [jP]⟩ ?_ (fun _ h => h) ?_
   exact jL
   rintro k ⟨hk, hs⟩
   by_cases hlt : k < ls.length
   · obtain rfl | ⟨b, off, C, te, fr, rfl, hm, hc⟩ := hrow
     · simp at hlt
     obtain ⟨l, hlk⟩ : ∃ l, ls[k]? = some l := ⟨_, List.getElem?_eq_getElem hlt⟩
     have hcell := hc k l hlk
     have hll := hl l (List.mem_of_getElem? hlk)
     have htk : jP (ls.take (k + 1)) = jP (ls.take k) + (l.length + 1) := by rw [List.take_add_one, hlk, qc]; simp [jP]
     have d1 : decide (((k : Nat) : Int) < ((ls.length : Nat) : Int)) = true := decide_eq_true jj
     have hle := qE ls (k + 1)
     obtain ⟨m, hm0⟩ : ∃ m, m = 1 + jP (ls.take k) := ⟨_, rfl⟩
     rw [← hm0] at hs ⊢
     by_cases h255 : 255 < m + 1 + l.length
     · have e2 : decide ((255 : Int) < ((m : Nat) : Int) + 1 + ((l.length : Nat) : Int)) = true := decide_eq_true jj
       have hE : kp ls = 5 := by unfold kp; rw [if_pos hall, if_pos jj]
       refine goC ?_
       refine jF 2 3 _ _ rfl rfl rfl ?_
       exact ⟨by rw [qI (by rw [hE]; decide), hE]; rfl, rfl⟩
     · have e2 : decide ((255 : Int) < ((m : Nat) : Int) + 1 + ((l.length : Nat) : Int)) = false := decide_eq_false jj
       refine goC ?_
       refine jz (k + 1) ⟨by omega, by omega⟩ ?_ (fun _ h => h) jj
       refine ⟨rfl, ?_, rfl, trivial⟩
       exact congrArg (fun i : Int => some (Value.int .i64 i)) jj
   · have hkl : k = ls.length := by omega
     subst hkl
     rw [List.take_length] at hs
     have hE : kp ls = 0 := by unfold kp; rw [if_pos hall, if_neg jj]
     have h1000 : ls.length ≤ 1000 := by
      have := ag0 ls
      omega
     refine goC ?_
     refine ji (jb je rfl (aa9 _ ls hr0 (fun l hl => by have := List.all_eq_true.1 hall l hl; simp [qR] at this; omega) h1000)) rfl ?_
     refine goC ?_
     refine jF 2 3 _ _ rfl rfl rfl ?_
     exact ⟨by rw [hE]; unfold yC; rw [if_pos hE], rfl⟩
end
section
open Go.RowKit
theorem V3 {t : Nm.Bytes} {ls : List Nm.Bytes} (hdot : t ≠ [46]) (hT : kY t = some ls) (hne : ∀ l ∈ ls, l ≠ []) : j5 t = yC ls ∧ qF t = if kp ls = 0 then 0 else 5 := by
 unfold j5 qF
 rw [if_neg hdot, if_neg hdot, hT]
 simp only
 by_cases h : ls.any (fun l => decide (63 < l.length)) = true
 · rw [if_pos h, if_pos h]
   obtain ⟨l, hl, h2⟩ := List.any_eq_true.1 h
   have hE : kp ls = 1 := yD hl (by simp at h2; simp [qR]; omega)
   exact ⟨(qI (by rw [hE]; decide)).symm, by rw [hE]; rfl⟩
 · rw [if_neg h, if_neg h]
   refine ⟨rfl, ?_⟩
   have hall : ls.all qR = true := List.all_eq_true.2 fun l hl => by
    have h1 : ¬ 63 < l.length := fun h2 => h (List.any_eq_true.2 ⟨l, hl, by simpa using h2⟩)
    have h3 : 1 ≤ l.length := List.length_pos_iff.2 (hne l hl)
    simp [qR]; omega
   unfold kp
   rw [if_pos hall]
   split <;> rfl
theorem ZN {t a b : Nm.Bytes} {s : Scan} (ht : t = a ++ b) (hr : kr z8 a = some s) (h : ∀ s', kr s b = some s' → 0 < s'.esc) : kY t = none := by
 unfold kY
 rw [ht, kZ, hr]
 simp only [Option.bind_some]
 cases e : kr s b with
 | none => rfl
 | some s' => simp [yq, h s' e]
theorem aba {G : World} {L : jc} (t : Nm.Bytes) (ht : t.length ≤ 100000) :
 Spec Tryz.prog G 65 #[.string (bs t)] L fun u M => u = qe t ∧ M = L := by
 by_cases hdot : t = [46]
 · subst hdot
   have e1 : (([46] : List UInt8) == [46]) = true := by decide
   refine ju (n := 62) Tryz.func65 rfl rfl rfl ?_
   repeat (first | refine goC ?_ | (refine jD ?_; intro bLit))
   refine jF 2 3 _ _ rfl rfl rfl ?_
   exact ⟨rfl, rfl⟩
 have e1 : (t == [46]) = false := by simpa using hdot
 have hNone : kY t = none → qe t = .tuple #[.string (bs []), .int .i64 3] := fun h => by
  unfold qe j5 qF
  rw [if_neg hdot, if_neg hdot, h]
 have hSome : ∀ ls, kY t = some ls → (∀ l ∈ ls, l ≠ []) → qe t = .tuple #[.string (bs (yC ls)), .int .i64 (if kp ls = 0 then 0 else 5)] := fun ls h hne => by
  unfold qe
  rw [(V3 hdot h hne).1, (V3 hdot h hne).2]
 refine ju (n := 62) Tryz.func65 rfl rfl rfl ?_
 repeat (first | refine goC ?_ | (refine jD ?_; intro bLit))
 refine jK (σ := Nat × Scan × Value × jc) (fun x => x.1 ≤ t.length ∧ kr z8 (t.take x.1) = some x.2.1 ∧ x.2.1.esc = 0 ∧ (∀ l ∈ x.2.1.labels, l ≠ [] ∧ l.length ≤ 100000) ∧ Row 9 1 x.2.2.1 x.2.1.labels.length (x.2.1.labels.map ka) x.2.2.2)
  (fun x => [(0, .string (bs t)), (4, x.2.2.1), (5, .string (bs x.2.1.label)), (6, .int .i64 (x.1 : Nat))]) (fun x => x.2.2.2 ++ L) (fun x => t.length - x.1) (0, z8, .slice none 0 0, []) ⟨Nat.zero_le _, rfl, rfl, (by intro l hl; simp [z8] at hl), Row.nil _ _⟩ ?_ (fun _ h => h) ?_
 exact jL
 rintro ⟨k, st, v4, B⟩ ⟨hk, hrun, hesc, hne', hR⟩
 dsimp only at hk hrun hesc hne' hR ⊢
 have hok := W4 _ _ _ 0 ZB hrun
 have hlk : (t.take k).length ≤ k := List.length_take_le _ _
 obtain ⟨ho1, ho2, ho3⟩ := hok
 obtain ⟨ls, lb, esc, val⟩ := st
 dsimp only at hesc hne' hR ho1 ho2 ho3 ⊢
 subst hesc
 have hne : ∀ l ∈ ls, l ≠ [] := fun l hl => (hne' l hl).1
 have hR0 := hR
 obtain ⟨a4, c4, rfl⟩ := hR.slice
 by_cases hlt : k < t.length
 · obtain ⟨c, hc⟩ : ∃ c, t[k]? = some c := ⟨_, List.getElem?_eq_getElem hlt⟩
   have i0 : t[Int.toNat ((k : Nat) : Int)]? = some c := by simpa using hc
   have d1 : decide (((k : Nat) : Int) < ((t.length : Nat) : Int)) = true := decide_eq_true jj
   have htk : t.take (k + 1) = t.take k ++ [c] := by rw [List.take_add_one, hc]; rfl
   have hsplit : t = t.take k ++ t.drop k := (List.take_append_drop k t).symm
   by_cases h46 : c.toNat = 46
   · have e2 : (((c.toNat : Nat) : Int) == 46) = true := by simp [h46]
     by_cases hlb : lb = []
     · subst hlb
       have e3 : (([] : List UInt8) == []) = true := by decide
       have hT : kY t = none := J1 (by rw [hsplit, kZ, hrun, qh hc]; simp [kr, h46, j6])
       repeat (first | refine goC ?_ | (refine jD ?_; intro bLit))
       refine jr (fun w h => h.sub (List.sublist_append_right _ _)) ?_
       refine jF 2 3 _ _ rfl rfl rfl ?_
       exact ⟨by rw [hNone hT]; rfl, rfl⟩
     · have e3 : (lb == []) = false := by simpa using hlb
       have hT : j6 ⟨ls, lb, 0, val⟩ c.toNat = (true, ⟨ls ++ [lb], [], 0, val⟩) := by rw [h46]; simp [j6, hlb]
       repeat (first | refine goC ?_ | (refine jD ?_; intro bLit))
       refine yj etO rfl rfl hR0 rfl (by unfold maxLen; omega) jj rfl ?_
       intro v8 B8 hR8
       obtain ⟨a8, c8, rfl⟩ := hR8.slice
       repeat (first | refine goC ?_ | (refine jD ?_; intro bLit))
       refine jz (k + 1, ⟨ls ++ [lb], [], 0, val⟩, .slice a8 (ls.length + 1) c8, B8) ⟨by omega, ?_, rfl, ?_, ?_⟩ ?_ (fun _ h => h) (by dsimp only; omega)
       · rw [htk, kZ, hrun]; simp [kr, hT]
       · intro l hl
         rcases List.mem_append.1 hl with h | h
         · exact hne' l h
         · rw [List.mem_singleton.1 h]; exact ⟨hlb, by omega⟩
       · simpa [ka] using hR8
       exact jL
   · have e2 : (((c.toNat : Nat) : Int) == 46) = false := by simp; omega
     repeat (first | refine goC ?_ | (refine jD ?_; intro bLit))
     refine jX (jb je rfl (ae8 t k c hc h46 ht)) rfl ?_
     rintro _ _ ⟨⟨d, n, rfl, ho⟩, hM⟩
     subst hM
     unfold aa8
     rcases ho with ⟨rfl, hbad⟩ | ⟨hn1, hn2, hgo⟩
     · have e3 : (((0 : Nat) : Int) == 0) = true := by decide
       have hT : kY t = none := ZN hsplit hrun (hbad _ rfl)
       repeat (first | refine goC ?_ | (refine jD ?_; intro bLit))
       refine jr (fun w h => h.sub (List.sublist_append_right _ _)) ?_
       refine jF 2 3 _ _ rfl rfl rfl ?_
       exact ⟨by rw [hNone hT]; rfl, rfl⟩
     · have e3 : (((n : Nat) : Int) == 0) = false := by simp; omega
       obtain ⟨v2, hv2⟩ := hgo ⟨ls, lb, 0, val⟩ rfl
       have back : ∀ (j : Nat) (hj : j < [d].length), (#[Value.int .u8 (d.toNat : Int)] : Array Value)[0 + j]? = some (.int .u8 (([d][j]).toNat : Int)) := fun j hj => by
        have : j = 0 := by simpa using hj
        subst this
        rfl
       have hb2 : lb.length + [d].length ≤ 9223372036854775807 := by simp only [List.length_singleton]; omega
       repeat (first | refine goC ?_ | (refine jD ?_; intro bLit))
       refine jl (kR [d] rfl rfl unO unO unO (List.mem_cons_self ..) back) rfl ?_
       refine jl (kF rfl rfl (yw hb2)) rfl ?_
       repeat (first | refine goC ?_ | (refine jD ?_; intro bLit))
       refine jz (k + n, ⟨ls, lb ++ [d], 0, v2⟩, .slice a4 ls.length c4, B) ⟨by omega, ?_, rfl, hne', hR0⟩ ?_ (fun _ h => h.tail) (by dsimp only; omega)
       · rw [List.take_add, kZ, hrun]; exact hv2
       exact jL
 · have hkl : k = t.length := by omega
   subst hkl
   rw [List.take_length] at hrun
   have d1 : decide (((t.length : Nat) : Int) < ((t.length : Nat) : Int)) = false := decide_eq_false jj
   by_cases hlb : lb = []
   · subst hlb
     have e3 : (!(([] : List UInt8) == [])) = false := by decide
     cases ls with
     | nil =>
       have hT : kY t = none := by unfold kY; rw [hrun]; simp [yq]
       have e4 : (((([] : List Nm.Bytes).length : Nat) : Int) == 0) = true := by decide
       repeat (first | refine goC ?_ | (refine jD ?_; intro bLit))
       refine jr (fun w h => h.sub (List.sublist_append_right _ _)) ?_
       refine jF 2 3 _ _ rfl rfl rfl ?_
       exact ⟨by rw [hNone hT]; rfl, rfl⟩
     | cons l r =>
       have hT : kY t = some (l :: r) := by unfold kY; rw [hrun]; simp [yq]
       have e4 : ((((l :: r).length : Nat) : Int) == 0) = false := by simp; omega
       repeat (first | refine goC ?_ | (refine jD ?_; intro bLit))
       refine ji (jb je rfl (V0 _ (l :: r) (hR0.strRow (fun p hp => List.mem_append_left _ hp)) jj (fun x hx => by have := (hne' x hx).2; omega))) rfl ?_
       by_cases hE : kp (l :: r) = 0
       · have e5 : (kp (l :: r) != 0) = false := by simp [hE]
         repeat (first | refine goC ?_ | (refine jD ?_; intro bLit))
         refine jr (fun w h => h.sub (List.sublist_append_right _ _)) ?_
         refine jF 2 3 _ _ rfl rfl rfl ?_
         exact ⟨by rw [hSome _ hT hne, if_pos hE]; rfl, rfl⟩
       · have e5 : (kp (l :: r) != 0) = true := by simp [hE]
         repeat (first | refine goC ?_ | (refine jD ?_; intro bLit))
         refine jr (fun w h => h.sub (List.sublist_append_right _ _)) ?_
         refine jF 2 3 _ _ rfl rfl rfl ?_
         exact ⟨by rw [hSome _ hT hne, if_neg hE, qI hE]; rfl, rfl⟩
   · have e3 : (!(lb == [])) = true := by simpa using hlb
     have hT : kY t = some (ls ++ [lb]) := by unfold kY; rw [hrun]; simp [yq, hlb]
     have hne2 : ∀ l ∈ ls ++ [lb], l ≠ [] := fun l hl => by
      rcases List.mem_append.1 hl with h | h
      · exact hne l h
      · rw [List.mem_singleton.1 h]; exact hlb
     have hlen2 : ∀ l ∈ ls ++ [lb], l.length ≤ 100000 := fun l hl => by
      rcases List.mem_append.1 hl with h | h
      · exact (hne' l h).2
      · rw [List.mem_singleton.1 h]; omega
     have e4 : ((((ls ++ [lb]).length : Nat) : Int) == 0) = false := by simp; omega
     repeat (first | refine goC ?_ | (refine jD ?_; intro bLit))
     refine yj etO rfl rfl hR0 rfl (by unfold maxLen; omega) jj rfl ?_
     intro v8 B8 hR8
     have hR9 : Row 9 1 v8 (ls ++ [lb]).length ((ls ++ [lb]).map ka) B8 := by simpa [ka] using hR8
     obtain ⟨a8, c8, rfl⟩ := hR9.slice
     repeat (first | refine goC ?_ | (refine jD ?_; intro bLit))
     refine ji (jb je rfl (V0 _ (ls ++ [lb]) (hR9.strRow (fun p hp => List.mem_append_left _ hp)) (by simp; omega) (fun x hx => by have := hlen2 x hx; omega))) rfl ?_
     by_cases hE : kp (ls ++ [lb]) = 0
     · have e5 : (kp (ls ++ [lb]) != 0) = false := by simp [hE]
       repeat (first | refine goC ?_ | (refine jD ?_; intro bLit))
       refine jr (fun w h => h.sub (List.sublist_append_right _ _)) ?_
       refine jF 2 3 _ _ rfl rfl rfl ?_
       exact ⟨by rw [hSome _ hT hne2, if_pos hE]; rfl, rfl⟩
     · have e5 : (kp (ls ++ [lb]) != 0) = true := by simp [hE]
       repeat (first | refine goC ?_ | (refine jD ?_; intro bLit))
       refine jr (fun w h => h.sub (List.sublist_append_right _ _)) ?_
       refine jF 2 3 _ _ rfl rfl rfl ?_
       exact ⟨by rw [hSome _ hT hne2, if_neg hE, qI hE]; rfl, rfl⟩
end
section
open Go.RowKit
structure Cmps {α : Type} (c : α → α → Int) : Prop where
 zero : ∀ a b, c a b = 0 ↔ a = b
 anti : ∀ a b, c b a = - c a b
 lo : ∀ a b, -1 ≤ c a b
 trans : ∀ a b d, c a b ≤ 0 → c b d ≤ 0 → c a d ≤ 0
theorem Cmps.hi {α : Type} {c : α → α → Int} (h : Cmps c) (a b : α) : c a b ≤ 1 := by have := h.anti b a; have := h.lo b a; omega
def ak8 {α : Type} (c : α → α → Int) : List α → List α → Int
 | [], [] => 0
 | [], _ :: _ => -1
 | _ :: _, [] => 1
 | x :: xs, y :: ys => if c x y = 0 then ak8 c xs ys else c x y
def al0 (a b : UInt8) : Int := if a < b then -1 else if b < a then 1 else 0
def amf (n : Nm.Bytes) : List Nm.Bytes := (Nm.lowL (Nm.labels n)).reverse
end
section
open Go.RowKit
theorem ZO {G : World} {L : jc} (n : Nm.Bytes) (h : n.length ≤ 1000000) : Spec Tryz.prog G 107 #[.string (bs n)] L fun u M => ∃ v B, u = .tuple #[v, .bool (Nm.may n)] ∧ Row 9 1 v (Nm.labels n).length ((Nm.labels n).map ka) B ∧ M = B ++ L :=
 ⟨fun w hw => (yr (bs n) w (aa6 h)).mono fun en w' ⟨v, h1, h2, h3⟩ => by
   have hL : Heap G w' L := ⟨hw.still.trans ⟨h3.os, h3.tape, h3.output, h3.size⟩, hw.nodup, fun p hp => (h3.block p.1 (hw.lt hp)).trans (hw.get p hp)⟩
   rcases h2.2 with ⟨q1, q2⟩ | ⟨g, cap, cur, q1, q2, q3, q4, q5, q6, q7⟩
   · exact ⟨_, _, h1, ⟨v, [], rfl, ⟨h2.1, Or.inl ⟨q1, q2, rfl⟩⟩, rfl⟩, hL⟩
   · refine ⟨_, _, h1, ⟨v, [(g, .cells cur 9 (0, 0))], rfl, ⟨h2.1, Or.inr ⟨g, cap, cur, q1, rfl, q4, q5, q6, q7⟩⟩, rfl⟩, hL.still, ?_, fun p hp => ?_⟩
     · show ((g : Nat) :: L.map (·.1)).Nodup
       rw [List.nodup_cons]
       refine ⟨fun hm => ?_, hL.nodup⟩
       obtain ⟨p, hp, he⟩ := List.mem_map.1 hm
       have := hw.lt hp
       omega
     · rcases List.mem_cons.1 hp with rfl | hp
       · exact q3
       · exact hL.get p hp⟩
end
section
open Go.RowKit
theorem ag1 {P : Program} {t e : TypeId} {v0 v1 v2 z : Int} {k : IntKind} {bytes : Nat} (E : ElemTy P t e 1 bytes (.int k z)) : RowLit P t 3 [(0, .int k v0), (1, .int k v1), (2, .int k v2)] e #[.int k v0, .int k v1, .int k v2] :=
 ⟨fun w => by
   obtain ⟨i, h2, h3, h4, h5⟩ := E.info
   have hr3 : Array.range 3 = #[0, 1, 2] := by decide
   simp [Instr.buildSlice, run_underlying E.und, sizeOf, typeInfo, h2, h4, zeroValue, h3, Instr.fill, Value.cells, newRow, hr3]⟩
def Yh (c : UInt8) : Nm.Bytes := [UInt8.ofNat (48 + c.toNat / 100), UInt8.ofNat (48 + c.toNat / 10 % 10), UInt8.ofNat (48 + c.toNat % 10)]
theorem j3 {G : World} {L : jc} (c : UInt8) : Spec Tryz.prog G 108 #[.int .u8 (c.toNat : Int)] L fun u M => u = .string (bs (Yh c)) ∧ M = L := by
 have hc := c.toNat_lt
 refine ju (n := 15) Tryz.func108 rfl rfl rfl ?_
 repeat (first | refine goC ?_ | (refine jD ?_; intro bLit))
 refine kM (qb rfl (ag1 etO)) rfl ?_
 intro b
 refine jl (kR (Yh c) rfl rfl unO unO unO (List.mem_cons_self ..) ?_) rfl ?_
 · intro j hj
   have hj3 : j < 3 := by simpa [Yh] using hj
   have : j = 0 ∨ j = 1 ∨ j = 2 := by omega
   rcases this with rfl | rfl | rfl
   · exact congrArg (fun i : Int => some (Value.int .u8 i)) (by simp [Yh]; omega)
   · exact congrArg (fun i : Int => some (Value.int .u8 i)) (by simp [Yh]; omega)
   · exact congrArg (fun i : Int => some (Value.int .u8 i)) (by simp [Yh]; omega)
 repeat (first | refine goC ?_ | (refine jD ?_; intro bLit))
 refine jr (fun w h => h.tail) ?_
 refine js 2 _ rfl rfl ?_
 exact ⟨rfl, rfl⟩
theorem jB {G : World} {L : jc} (n : Nm.Bytes) (hn : n.length ≤ 1000000) : Spec Tryz.prog G 66 #[.string (bs n)] L fun u M => u = .string (bs (qu n)) ∧ M = L := by
 refine ju (n := 67) Tryz.func66 rfl rfl rfl ?_
 repeat (first | refine goC ?_ | (refine' ji (jb je rfl (j3 _ )) rfl ?_) | (refine' jk (jb je rfl (j3 _ )) rfl ?_) | (refine jD ?_; intro bLit))
 refine jX (jb je rfl (ZO n hn)) rfl ?_
 rintro _ _ ⟨v3, B3, rfl, hR3, rfl⟩
 obtain ⟨a3, c3, rfl⟩ := hR3.slice
 cases mn : Nm.may n with
 | false =>
   have hT : qu n = [] := by simp [qu, Nm.nm_of_not mn]
   repeat (first | refine goC ?_ | (refine' ji (jb je rfl (j3 _ )) rfl ?_) | (refine' jk (jb je rfl (j3 _ )) rfl ?_) | (refine jD ?_; intro bLit))
   refine jr (fun w h => h.sub (List.sublist_append_right _ _)) ?_
   refine js 2 _ rfl rfl ?_
   exact ⟨by rw [hT]; rfl, rfl⟩
 | true =>
   obtain ⟨ls, hls⟩ := Nm.nm_of_may mn
   have hlab : Nm.labels n = ls := by simp [Nm.labels, hls]
   rw [hlab] at hR3 ⊢
   have hsum := Yg hls
   have hfew := ae4 hls
   cases ls with
   | nil =>
     have hT : qu n = [46] := by simp [qu, hls]
     have e1 : (((([] : List Nm.Bytes).length : Nat) : Int) == 0) = true := by decide
     repeat (first | refine goC ?_ | (refine' ji (jb je rfl (j3 _ )) rfl ?_) | (refine' jk (jb je rfl (j3 _ )) rfl ?_) | (refine jD ?_; intro bLit))
     refine jr (fun w h => h.sub (List.sublist_append_right _ _)) ?_
     refine js 2 _ rfl rfl ?_
     exact ⟨by rw [hT]; rfl, rfl⟩
   | cons l0 r0 =>
     have hT := Qb hls
     have e1 : ((((l0 :: r0).length : Nat) : Int) == 0) = false := by simp; omega
     obtain ⟨ls, hle⟩ : ∃ ls, ls = l0 :: r0 := ⟨_, rfl⟩
     rw [← hle] at hT hsum hfew hR3 e1 hls ⊢
     have hrow := hR3.strRow (L := B3 ++ L) (fun p hp => List.mem_append_left _ hp)
     obtain ⟨_, _, hveq, hcells⟩ := hrow
     cases hveq
     clear hle hlab
     repeat (first | refine goC ?_ | (refine' ji (jb je rfl (j3 _ )) rfl ?_) | (refine' jk (jb je rfl (j3 _ )) rfl ?_) | (refine jD ?_; intro bLit))
     refine jK (σ := Nat) (fun k => k ≤ ls.length) (fun k => [(3, .slice a3 ls.length c3), (5, .string (bs (kI (ls.take k)))), (6, .int .i64 (k : Nat))]) (fun _ => B3 ++ L) (fun k => ls.length - k) 0 jj ?_ (fun _ h => h) ?_
     exact jL
     intro k hk
     have hlenk := Qa (ls.take k)
     have hsumk := qE ls k
     by_cases hlt : k < ls.length
     · obtain rfl | ⟨b, off, C, te, fr, rfl, hm, hc⟩ := hcells
       · simp at hlt
       obtain ⟨l, hlk⟩ : ∃ l, ls[k]? = some l := ⟨_, List.getElem?_eq_getElem hlt⟩
       have hcell := hc k l hlk
       have htk : ls.take (k + 1) = ls.take k ++ [l] := by rw [List.take_add_one, hlk]; rfl
       have hll : l.length ≤ 254 := by
        have := qE ls (k + 1)
        rw [htk, qc, kW] at this
        omega
       have d1 : decide ((k : Int) < (ls.length : Int)) = true := decide_eq_true jj
       repeat (first | refine goC ?_ | (refine' ji (jb je rfl (j3 _ )) rfl ?_) | (refine' jk (jb je rfl (j3 _ )) rfl ?_) | (refine jD ?_; intro bLit))
       refine jK (σ := Nat) (fun i => i ≤ l.length) (fun i => [(3, .slice (some ⟨b, off, none⟩) ls.length c3), (5, .string (bs (kI (ls.take k) ++ (l.take i).flatMap wr))), (6, .int .i64 (k : Nat)), (7, .int .i64 (i : Nat))]) (fun _ => B3 ++ L) (fun i => l.length - i) 0 jj ?_ (fun _ h => h) ?_
       · refine ⟨rfl, ?_, rfl, rfl, trivial⟩
         simp
         rfl
       intro i hi
       have hlen2 := zx (l.take i)
       have hlen3 : (l.take i).length ≤ i := List.length_take_le _ _
       by_cases hil : i < l.length
       · obtain ⟨c, hc2⟩ : ∃ c, l[i]? = some c := ⟨_, List.getElem?_eq_getElem hil⟩
         have hc3 : l[((i : Nat) : Int).toNat]? = some c := hc2
         have hti : l.take (i + 1) = l.take i ++ [c] := by rw [List.take_add_one, hc2]; rfl
         have d2 : decide ((i : Int) < (l.length : Int)) = true := decide_eq_true jj
         have hcn := c.toNat_lt
         obtain ⟨A, hA⟩ : ∃ A, A = kI (ls.take k) ++ (l.take i).flatMap wr := ⟨_, rfl⟩
         have hAl : A.length ≤ 100000 := by rw [hA, List.length_append]; omega
         have hAn : kI (ls.take k) ++ (l.take (i + 1)).flatMap wr = A ++ wr c := by rw [hti, List.flatMap_append, hA]; simp
         have back : ∀ (j : Nat) (hj : j < [c].length), (#[Value.int .u8 (c.toNat : Int)] : Array Value)[0 + j]? = some (.int .u8 (([c][j]).toNat : Int)) := fun j hj => by
          have : j = 0 := by simpa using hj
          subst this
          rfl
         rw [← hA]
         clear hA
         by_cases h46 : c.toNat = 46 ∨ c.toNat = 92
         · have hw : wr c = [92, c] := by unfold wr; rw [if_pos h46]
           have e3 : decide (((c.toNat : Nat) : Int) < 33) = false := decide_eq_false jj
           have e4 : decide ((126 : Int) < ((c.toNat : Nat) : Int)) = false := decide_eq_false jj
           have hb1 : A.length + ([92] : Nm.Bytes).length ≤ 9223372036854775807 := by simp only [List.length_singleton]; omega
           have hb2 : (A ++ [92]).length + [c].length ≤ 9223372036854775807 := by simp only [List.length_append, List.length_singleton]; omega
           have fin : ∀ (K : Prop), ((((c.toNat : Nat) : Int) == 46) = true → K) → ((((c.toNat : Nat) : Int) == 46) = false → (((c.toNat : Nat) : Int) == 92) = true → K) → K := fun K k1 k2 => by
            by_cases hh : c.toNat = 46
            · exact k1 (by simp [hh])
            · exact k2 (by simp; omega) (by simp; omega)
           refine fin _ (fun f1 => ?_) (fun f1 f2 => ?_)
           all_goals
            repeat (first | refine goC ?_ | (refine' ji (jb je rfl (j3 _ )) rfl ?_) | (refine' jk (jb je rfl (j3 _ )) rfl ?_) | (refine jD ?_; intro bLit))
            refine jl (kR [c] rfl rfl unO unO unO (List.mem_cons_self ..) back) rfl ?_
            refine jl (kF rfl rfl (yw hb2)) rfl ?_
            repeat (first | refine goC ?_ | (refine' ji (jb je rfl (j3 _ )) rfl ?_) | (refine' jk (jb je rfl (j3 _ )) rfl ?_) | (refine jD ?_; intro bLit))
            refine jz (i + 1) jj ?_ (fun _ h => h.tail) jj
            refine ⟨rfl, ?_, rfl, rfl, trivial⟩
            rw [hAn, hw]
            simp
            rfl
         · have f1 : (((c.toNat : Nat) : Int) == 46) = false := by simp; omega
           have f2 : (((c.toNat : Nat) : Int) == 92) = false := by simp; omega
           by_cases h33 : c.toNat < 33 ∨ 126 < c.toNat
           · have hw : wr c = 92 :: Yh c := by unfold wr; rw [if_neg h46, if_pos h33]; rfl
             have hd3 : (Yh c).length = 3 := rfl
             have fin : ∀ (K : Prop), (decide (((c.toNat : Nat) : Int) < 33) = true → K) → (decide (((c.toNat : Nat) : Int) < 33) = false → decide ((126 : Int) < ((c.toNat : Nat) : Int)) = true → K) → K := fun K k1 k2 => by
              by_cases hh : c.toNat < 33
              · exact k1 (decide_eq_true jj)
              · exact k2 (decide_eq_false jj) (decide_eq_true jj)
             have hb0 : A.length + ([92] : Nm.Bytes).length ≤ 9223372036854775807 := by simp only [List.length_singleton]; omega
             have hb1 : (A ++ [92]).length + (Yh c).length ≤ 9223372036854775807 := by rw [hd3]; simp only [List.length_append, List.length_singleton]; omega
             refine fin _ (fun e3 => ?_) (fun e3 e4 => ?_)
             all_goals
              repeat (first | refine goC ?_ | (refine' ji (jb je rfl (j3 _ )) rfl ?_) | (refine' jk (jb je rfl (j3 _ )) rfl ?_) | (refine jD ?_; intro bLit))
              refine jz (i + 1) jj ?_ (fun _ h => h) jj
              refine ⟨rfl, ?_, rfl, rfl, trivial⟩
              rw [hAn, hw]
              simp
              rfl
           · have hw : wr c = [c] := by unfold wr; rw [if_neg h46, if_neg h33]
             have e3 : decide (((c.toNat : Nat) : Int) < 33) = false := decide_eq_false jj
             have e4 : decide ((126 : Int) < ((c.toNat : Nat) : Int)) = false := decide_eq_false jj
             have hb2 : A.length + [c].length ≤ 9223372036854775807 := by simp only [List.length_singleton]; omega
             repeat (first | refine goC ?_ | (refine' ji (jb je rfl (j3 _ )) rfl ?_) | (refine' jk (jb je rfl (j3 _ )) rfl ?_) | (refine jD ?_; intro bLit))
             refine jl (kR [c] rfl rfl unO unO unO (List.mem_cons_self ..) back) rfl ?_
             refine jl (kF rfl rfl (yw hb2)) rfl ?_
             repeat (first | refine goC ?_ | (refine' ji (jb je rfl (j3 _ )) rfl ?_) | (refine' jk (jb je rfl (j3 _ )) rfl ?_) | (refine jD ?_; intro bLit))
             refine jz (i + 1) jj ?_ (fun _ h => h.tail) jj
             refine ⟨rfl, ?_, rfl, rfl, trivial⟩
             rw [hAn, hw]
             rfl
       · have hie : i = l.length := by omega
         subst hie
         have d2 : decide ((l.length : Int) < (l.length : Int)) = false := by simp
         rw [List.take_length] at hlen2
         have hb5 : (kI (ls.take k) ++ (l.take l.length).flatMap wr).length + ([46] : Nm.Bytes).length ≤ 9223372036854775807 := by rw [List.take_length, List.length_append]; simp only [List.length_singleton]; omega
         repeat (first | refine goC ?_ | (refine' ji (jb je rfl (j3 _ )) rfl ?_) | (refine' jk (jb je rfl (j3 _ )) rfl ?_) | (refine jD ?_; intro bLit))
         refine jz (k + 1) jj ?_ (fun _ h => h) jj
         refine ⟨rfl, ?_, rfl, trivial⟩
         rw [htk, UR, List.take_length]
         simp [Vz]
         rfl
     · have hkl : k = ls.length := by omega
       subst hkl
       have d1 : decide ((ls.length : Int) < (ls.length : Int)) = false := by simp
       repeat (first | refine goC ?_ | (refine' ji (jb je rfl (j3 _ )) rfl ?_) | (refine' jk (jb je rfl (j3 _ )) rfl ?_) | (refine jD ?_; intro bLit))
       refine jr (fun w h => h.sub (List.sublist_append_right _ _)) ?_
       refine js 2 _ rfl rfl ?_
       exact ⟨by rw [hT, List.take_length], rfl⟩
end
section
open Go.RowKit
open Cn (Zo Cf)
def zoR : Rp Zo := fun _ cs z => cs = [.string (bs z.name), .int .u8 z.pol, .int .u16 z.tru] ∧ z.name.length ≤ maxLen ∧ z.pol ≤ 255 ∧ z.tru ≤ 65535
theorem ut : Vl zoR := fun _ _ _ _ _ h => h
theorem zoR.len {L : jc} {cs : List Value} {z : Zo} (h : zoR L cs z) : cs.length = 3 := by obtain ⟨rfl, _⟩ := h; rfl
theorem zoR.one {L : jc} {cs : List Value} {z : Zo} (h : zoR L cs z) : ∀ v ∈ cs, v.oneCell' = true := by
 obtain ⟨rfl, _⟩ := h
 intro v hv
 simp only [List.mem_cons, List.not_mem_nil, or_false] at hv
 rcases hv with rfl | rfl | rfl <;> rfl
instance : Inhabited Zo := ⟨⟨[], 0, 0⟩⟩
instance : Inhabited Cf := ⟨Cn.zeroC⟩
def jg (c : Cf) (v : Value) : List Value := [.int .i64 c.ups, .int .i64 c.ded, .int .i64 c.hdg, .int .i64 c.wai, .int .i64 c.tri, .int .i64 c.res, .int .i64 c.lim, .int .i64 c.cac, .int .i64 c.fli, .int .i64 c.wtr, .int .i64 c.ttl, .int .i64 c.siz, v]
def I64 (n : Int) : Prop := -9223372036854775808 ≤ n ∧ n ≤ 9223372036854775807
structure CfIn (c : Cf) : Prop where
 ups : I64 c.ups
 ded : I64 c.ded
 hdg : I64 c.hdg
 wai : I64 c.wai
 tri : I64 c.tri
 res : I64 c.res
 lim : I64 c.lim
 cac : I64 c.cac
 fli : I64 c.fli
 wtr : I64 c.wtr
 ttl : I64 c.ttl
 siz : I64 c.siz
def cfR : Rp Cf := fun L cs c => ∃ v, cs = jg c v ∧ sliceR 3 zoR L [v] c.zs ∧ CfIn c
theorem cfR.len {L : jc} {cs : List Value} {c : Cf} (h : cfR L cs c) : cs.length = 13 := by obtain ⟨v, rfl, _⟩ := h; rfl
end
section
open Go.RowKit
open Cn (Zo Cf)
variable {G : World} {L : jc}
structure Glob (L : jc) : Prop where
 len : ∃ m t fr, (2, Obj.cells #[Value.int .i64 m] t fr) ∈ L
 pow : ∃ t fr, (1, Obj.cells (Lib.pow10Tab.map (Value.int .u64)).toArray t fr) ∈ L
 words : ∃ t fr, (0, Obj.cells (Cn.words12.map ka).toArray t fr) ∈ L
theorem Glob.mono {L' : jc} (h : Glob L) (hs : ∀ p ∈ L, p ∈ L') : Glob L' := by
 obtain ⟨⟨m, t, fr, h1⟩, ⟨t2, fr2, h2⟩, ⟨t3, fr3, h3⟩⟩ := h
 exact ⟨⟨m, t, fr, hs _ h1⟩, ⟨t2, fr2, hs _ h2⟩, ⟨t3, fr3, hs _ h3⟩⟩
theorem abb (c : UInt8) (s : List UInt8) : c ∉ s ∨ ∃ l r, s = l ++ c :: r ∧ c ∉ l := by
 induction s with
 | nil => left; simp
 | cons a t ih =>
   by_cases ha : a = c
   · subst ha; exact Or.inr ⟨[], t, rfl, by simp⟩
   · rcases ih with h | ⟨l, r, rfl, h⟩
     · left; simp only [List.mem_cons, not_or]; exact ⟨fun k => ha k.symm, h⟩
     · right; exact ⟨a :: l, r, rfl, by simp only [List.mem_cons, not_or]; exact ⟨fun k => ha k.symm, h⟩⟩
theorem UX {c : UInt8} : ∀ {s : List UInt8}, c ∉ s → Lib.index s [c] = -1
 | [], _ => rfl
 | a :: t, h => by
   simp only [List.mem_cons, not_or] at h
   rw [Lib.index, if_neg (by simp [h.1]), UX h.2]
   rfl
theorem UY {c : UInt8} {r : List UInt8} : ∀ {l : List UInt8}, c ∉ l → Lib.index (l ++ c :: r) [c] = (l.length : Int)
 | [], _ => by rw [List.nil_append, Lib.index, if_pos (by simp)]; rfl
 | a :: l, h => by
   simp only [List.mem_cons, not_or] at h
   rw [List.cons_append, Lib.index, if_neg (by simp [h.1]), UY h.2, if_neg (by intro k; have := beq_iff_eq.1 k; omega)]
   rfl
theorem adm {c : UInt8} {s : List UInt8} (h : c ∉ s) : Lib.indexB (bs s) (bs [c]) = -1 := UX h
theorem V4 {c : UInt8} {l r : List UInt8} (h : c ∉ l) : Lib.indexB (bs (l ++ c :: r)) (bs [c]) = (l.length : Nat) := UY h
theorem aih (l r : List UInt8) (c : UInt8) : (bs (l ++ c :: r)).extract (l.length + (bs [c]).size) (bs (l ++ c :: r)).size = bs r ∧ (bs (l ++ c :: r)).extract 0 (l.length + 0) = bs l := by
 constructor
 · apply ByteArray.ext
   apply Array.toList_inj.1
   rw [Lib.extract_data]
   simp [bs, ByteArray.size]
   exact List.take_of_length_le jj
 · apply ByteArray.ext
   apply Array.toList_inj.1
   rw [Lib.extract_data]
   simp [bs]
theorem V5 (c : UInt8) (s : List UInt8) : Lib.splitB (bs [c]) 0 (Lib.countB (bs s) (bs [c])) (bs s) = (Cn.spl c s).map bs := by
 generalize hn : s.length = n
 induction n using Nat.strongRecOn generalizing s with
 | _ n ih =>
   rcases abb c s with h | ⟨l, r, rfl, h⟩
   · rw [Lib.countB_miss _ _ (adm h), Lib.splitB_zero, Cn.spl_none h]; rfl
   · have e := aih l r c
     rw [Lib.countB_hit (bs (l ++ c :: r)) (bs [c]) l.length (Nat.le_refl 1) (V4 h), Nat.add_comm 1, Lib.splitB_hit _ _ _ _ _ (V4 h), e.1, e.2, ih r.length (by subst hn; simp; omega) r rfl, Cn.spl_at h]
     rfl
theorem aca (s : List UInt8) (hs : s.length ≤ 1000000) (hg : Glob L) : Spec Tryz.prog G 21 #[.string (bs s), .string (bs [32])] L fun u M => ∃ b, u = .slice (some ⟨b, 0, none⟩) (Cn.spl 32 s).length (Cn.spl 32 s).length ∧ M = (b, .cells ((Cn.spl 32 s).map ka).toArray 9 (0, 0)) :: L := by
 refine ⟨fun w hw => ?_⟩
 obtain ⟨m, t, fr, hp⟩ := hg.len
 have hm : w.cell? ⟨2, 0, none⟩ = some (.int .i64 m) := by
  have h2 : w.heap[2]? = some (Obj.cells #[Value.int .i64 m] t fr) := hw.get _ hp
  simp [World.cell?, h2]
 have hl := Lib.splitB_all (bs [32]) (by decide) 0 _ (bs s) rfl
 rw [V5, List.length_map] at hl
 refine (Tryz.strings_Split (bs s) (bs [32]) m w (by rw [ks]; omega) hm (by decide)).mono fun e w' ⟨he, hw'⟩ => ?_
 rw [V5] at hw'
 subst hw'
 refine ⟨_, _, he, ⟨w.heap.size, by rw [hl], rfl⟩, ?_⟩
 have := hw.alloc (.cells ((Cn.spl 32 s).map ka).toArray 9 (0, 0))
 rw [List.map_map]
 exact this
theorem acb (s : List UInt8) (hs : s.length ≤ 1000000) (hg : Glob L) : Spec Tryz.prog G 42 #[.string (bs s), .string (bs [10])] L fun u M => u = .tuple #[.string (bs (Lib.cut s [10]).1), .string (bs (Lib.cut s [10]).2.1), .bool (Lib.cut s [10]).2.2] ∧ M = L := by
 refine Spec.ofBelowH fun w hw => ?_
 obtain ⟨m, t, fr, hp⟩ := hg.len
 have hm : w.cell? ⟨2, 0, none⟩ = some (.int .i64 m) := by
  have h2 : w.heap[2]? = some (Obj.cells #[Value.int .i64 m] t fr) := hw.get _ hp
  simp [World.cell?, h2]
 refine (Tryz.strings_Cut (bs s) (bs [10]) m w (by rw [ks]; omega) hm).mono fun e w' ⟨he, k, hw'⟩ => ⟨he, ?_⟩
 subst hw'
 exact below_drewN (Below.refl _ w) k
theorem ae9 {s : List UInt8} (h : (10 : UInt8) ∉ s) : Lib.cut s [10] = (s, [], false) := by unfold Lib.cut; rw [UX h]; rfl
theorem acd {l r : List UInt8} (h : (10 : UInt8) ∉ l) : Lib.cut (l ++ 10 :: r) [10] = (l, r, true) := by
 unfold Lib.cut
 rw [UY h, if_pos jj]
 simp
end
section
open Go.RowKit
open Cn (Zo Cf)
variable {G : World} {L : jc}
theorem jO (n lo hi : Int) : Spec Tryz.prog G 115 #[.int .i64 n, .int .i64 lo, .int .i64 hi] L fun u M => u = .bool (decide (lo ≤ n ∧ n ≤ hi)) ∧ M = L := by
 refine ju (n := 15) Tryz.func115 rfl rfl rfl ?_
 by_cases h1 : lo ≤ n
 · by_cases h2 : n ≤ hi
   · rw [decide_eq_true ⟨h1, h2⟩]
     refine goA ?_
     refine js 6 _ rfl rfl ?_
     exact ⟨by rw [decide_eq_true h2], rfl⟩
   · rw [decide_eq_false (fun k => h2 k.2)]
     refine goA ?_
     refine js 6 _ rfl rfl ?_
     exact ⟨by rw [decide_eq_false h2], rfl⟩
 · rw [decide_eq_false (fun k => h1 k.1)]
   refine goA ?_
   refine js 6 _ rfl rfl ?_
   exact ⟨rfl, rfl⟩
section
variable {P : Program} {n : Nat} {ρ : jn} {ty : TypeId}
end
end
section
open Go.RowKit
theorem aii {n : Nat} (h : n < 65536) : IntKind.wrap .u16 (n : Int) = n := by
 unfold IntKind.wrap
 simp [IntKind.signed, IntKind.bits]
 omega
theorem ace {n : Nat} (h : n < 65536) : (BitVec.ofInt (IntKind.bits .u16) (n : Int)).toNat = n := by
 show (BitVec.ofInt 16 (n : Int)).toNat = n
 rw [BitVec.toNat_ofInt]
 omega
section
variable {P : Program}
theorem adn {t : TypeId} {u : Nat} (h : u ≤ 15) : Bin P .shl t (.int .u16 1) (.int .i64 (u : Nat)) (.int .u16 ((2 ^ u : Nat) : Int)) := ⟨fun x y w => by
 have hv : ∀ u : Fin 16, IntKind.wrap .u16 ((1 : Int) * 2 ^ (min u.val (IntKind.bits .u16))) = ((2 ^ u.val : Nat) : Int) := by decide +kernel
 have := hv ⟨u, by omega⟩
 dsimp only at this
 have hneg : ¬ ((u : Nat) : Int) < 0 := by omega
 simp only [eqGuard, binOp, Op.shift, if_neg hneg, Int.toNat_natCast, this]
 rfl⟩
theorem ZP {t : TypeId} {a b : Nat} (ha : a < 65536) (hb : b < 65536) : Bin P .or t (.int .u16 (a : Nat)) (.int .u16 (b : Nat)) (.int .u16 ((a ||| b : Nat) : Int)) := ⟨fun x y w => by
 have e : (BitVec.ofInt (IntKind.bits .u16) (a : Int) ||| BitVec.ofInt (IntKind.bits .u16) (b : Int)).toNat = a ||| b := by rw [BitVec.toNat_or, ace ha, ace hb]
 have h2 : a ||| b < 65536 := Nat.or_lt_two_pow (n := 16) ha hb
 simp only [eqGuard, binOp, Op.intBits, e, aii h2]
 rfl⟩
theorem Qe {t : TypeId} {k : IntKind} {a u : Nat} (ha : a < 65536) : Bin P .shr t (.int .u16 (a : Nat)) (.int k (u : Nat)) (.int .u16 ((a / 2 ^ u : Nat) : Int)) := ⟨fun x y w => by
 have hneg : ¬ ((u : Nat) : Int) < 0 := by omega
 have e : ((a : Nat) : Int).fdiv (2 ^ (min u (IntKind.bits .u16))) = ((a / 2 ^ u : Nat) : Int) := by
  rw [Int.fdiv_eq_ediv_of_nonneg _ (by exact_mod_cast Nat.zero_le _)]
  show ((a : Nat) : Int) / 2 ^ (min u 16) = _
  rcases Nat.le_or_ge u 16 with h | h
  · rw [Nat.min_eq_left h]; simp
  · rw [Nat.min_eq_right h]
    have h1 : a / 2 ^ u = 0 := by
     rw [Nat.div_eq_of_lt]
     exact Nat.lt_of_lt_of_le ha (by rw [show 65536 = 2 ^ 16 by decide]; exact Nat.pow_le_pow_right (by decide) h)
    rw [h1]
    omega
 simp only [eqGuard, binOp, Op.shift, if_neg hneg, Int.toNat_natCast, e]
 rfl⟩
end
theorem aij (a u : Nat) : a.testBit u = decide (a / 2 ^ u % 2 = 1) := Nat.testBit_eq_decide_div_mod_eq
end
section
open Go.RowKit
open Cn (Zo Cf)
variable {G : World} {L : jc}
def Qf (w : Nm.Bytes) (most : Nat) : Value := match Cn.numP w most with
 | some n => .tuple #[.int .i64 (n : Nat), .bool true]
 | none => .tuple #[.int .i64 0, .bool false]
theorem KD {w : Nm.Bytes} {most : Nat} (h : Cn.okD w = false) : Qf w most = .tuple #[.int .i64 0, .bool false] := by
 unfold Qf Cn.numP
 rw [h]
 rfl
theorem dig_iff {c : UInt8} : Cn.isDig c = true ↔ 48 ≤ c.toNat ∧ c.toNat ≤ 57 := by unfold Cn.isDig; simp
theorem Q8 {w : Nm.Bytes} (h : w.all Cn.isDig = false) : Cn.okD w = false := by unfold Cn.okD; rw [h, Bool.and_false]
theorem afa {w : Nm.Bytes} {most : Nat} (h1 : w ≠ []) (h2 : w.length ≤ 10) (h3 : ¬ (w.head? = some 48 ∧ 1 < w.length)) (h4 : w.all Cn.isDig = true) : Qf w most = if Cn.valD w ≤ most then .tuple #[.int .i64 (Cn.valD w : Nat), .bool true] else .tuple #[.int .i64 0, .bool false] := by
 have hk : Cn.okD w = true := by
  unfold Cn.okD
  rw [h4]
  have : (decide (w.head? = some 48) && decide (1 < w.length)) = false := by
   rw [← Bool.decide_and]
   exact decide_eq_false h3
  simp [h1, h2]
  rcases Nat.lt_or_ge 1 w.length with q | q
  · exact Or.inl fun a => h3 ⟨a, q⟩
  · exact Or.inr q
 unfold Qf Cn.numP
 rw [hk]
 by_cases h : Cn.valD w ≤ most
 · rw [if_pos h]; simp [h]
 · rw [if_neg h]; simp [h]
theorem Qg {w : Nm.Bytes} {k : Nat} {c : UInt8} (h : w[k]? = some c) : Cn.valD (w.take (k + 1)) = Cn.valD (w.take k) * 10 + (c.toNat - 48) := by
 rw [List.take_add_one, h]
 exact Cn.valD_snoc _ _
theorem zy {k : Nat} (h : k ≤ 10) : 10 ^ k ≤ 10000000000 := by
 have : 10 ^ k ≤ 10 ^ 10 := Nat.pow_le_pow_right (by decide) h
 simpa using this
theorem jt (w : Nm.Bytes) (most : Nat) (hw : w.length ≤ 1000000) (hm : most ≤ 2147483647) : Spec Tryz.prog G 73 #[.string (bs w), .int .i64 (most : Nat)] L fun u M => u = Qf w most ∧ M = L := by
 refine ju (n := 53) Tryz.func73 rfl rfl rfl ?_
 by_cases h0 : w = []
 · subst h0
   rw [KD rfl]
   refine goA ?_
   refine jF 4 5 _ _ rfl rfl rfl ?_
   exact ⟨rfl, rfl⟩
 have hpos : 0 < w.length := List.length_pos_iff.2 h0
 by_cases h10 : 10 < w.length
 · rw [KD (by unfold Cn.okD; rw [decide_eq_false (by omega : ¬ w.length ≤ 10)]; simp)]
   refine goA ?_
   refine jF 4 5 _ _ rfl rfl rfl ?_
   exact ⟨rfl, rfl⟩
 obtain ⟨c0, hc0⟩ : ∃ c, w[0]? = some c := ⟨_, List.getElem?_eq_getElem hpos⟩
 have hhd : w.head? = some c0 := by rw [List.head?_eq_getElem?]; exact hc0
 by_cases hz : c0.toNat = 48 ∧ 1 < w.length
 · obtain ⟨hz1, hz2⟩ := hz
   have hc48 : c0 = 48 := UInt8.toNat_inj.1 hz1
   rw [KD (by unfold Cn.okD; rw [hhd, hc48]; simp [hz2])]
   refine goA ?_
   refine jF 4 5 _ _ rfl rfl rfl ?_
   exact ⟨rfl, rfl⟩
 have hz2 : ¬ (w.head? = some 48 ∧ 1 < w.length) := by
  rw [hhd]
  rintro ⟨a, b⟩
  exact hz ⟨by rw [Option.some.inj a]; rfl, b⟩
 have h10' : w.length ≤ 10 := by omega
 by_cases hz1 : c0.toNat = 48
 all_goals
  refine goA ?_
  refine jK (σ := Nat) (fun k => k ≤ w.length ∧ (w.take k).all Cn.isDig = true) (fun k => [(0, .string (bs w)), (1, .int .i64 (most : Nat)), (6, .int .i64 ((Cn.valD (w.take k) : Nat) : Int)), (26, .int .i64 (w.length : Nat)), (27, .int .i64 (k : Nat))]) (fun _ => L) (fun k => w.length - k) 0 ⟨by omega, by simp⟩ ?_ (fun _ h => h) ?_
  exact jL
  rintro k ⟨hk, hall⟩
  by_cases hlt : k < w.length
  · obtain ⟨c, hc⟩ : ∃ c, w[k]? = some c := ⟨_, List.getElem?_eq_getElem hlt⟩
    have hvl := Cn.valD_lt _ hall
    rw [List.length_take, Nat.min_eq_left hk] at hvl
    have hp10 := zy (show k ≤ 10 by omega)
    have hvt := Qg hc
    obtain ⟨v, hv⟩ : ∃ v, Cn.valD (w.take k) = v := ⟨_, rfl⟩
    rw [hv] at hvl hvt ⊢
    have hcb := c.toNat_lt
    by_cases h48 : c.toNat < 48
    · rw [KD (Q8 (by
       rw [List.all_eq_false]
       exact ⟨c, List.mem_of_getElem? hc, fun h => by have := dig_iff.1 h; omega⟩))]
      refine goA ?_
      refine jF 4 5 _ _ rfl rfl rfl ?_
      exact ⟨rfl, rfl⟩
    by_cases h57 : 57 < c.toNat
    · rw [KD (Q8 (by
       rw [List.all_eq_false]
       exact ⟨c, List.mem_of_getElem? hc, fun h => by have := dig_iff.1 h; omega⟩))]
      refine goA ?_
      refine jF 4 5 _ _ rfl rfl rfl ?_
      exact ⟨rfl, rfl⟩
    refine goA ?_
    refine jz (k + 1) ⟨by omega, ?_⟩ ?_ (fun _ h => h) jj
    · rw [List.take_add_one, hc, List.all_append, hall]
      simp only [Option.toList, List.all_cons, List.all_nil, Bool.and_true, Bool.true_and]
      exact dig_iff.2 ⟨by omega, by omega⟩
    rw [hvt, show ((v * 10 + (c.toNat - 48) : Nat) : Int) = (v : Int) * 10 + ((c.toNat : Int) - 48) by omega]
    exact jL
  · have hkl : k = w.length := by omega
    subst hkl
    rw [List.take_length] at hall ⊢
    have hvl := Cn.valD_lt _ hall
    have hp10 := zy h10'
    rw [afa h0 h10' hz2 hall]
    obtain ⟨v, hv⟩ : ∃ v, Cn.valD w = v := ⟨_, rfl⟩
    rw [hv] at hvl ⊢
    by_cases hm2 : v ≤ most
    · rw [if_pos hm2]
      refine goA ?_
      refine jF 4 5 _ _ rfl rfl rfl ?_
      exact ⟨rfl, rfl⟩
    · rw [if_neg hm2]
      refine goA ?_
      refine jF 4 5 _ _ rfl rfl rfl ?_
      exact ⟨rfl, rfl⟩
def qZ (ws : List Nm.Bytes) : Value := match Cn.bitsGo (-1) 0 ws with
 | some t => .tuple #[.int .u16 (t : Nat), .bool true]
 | none => .tuple #[.int .u16 0, .bool false]
theorem Yi (v : Value) (ws : List Nm.Bytes) (hr : StrRow L v ws) (hn : ws.length ≤ 1000000) (hw : ∀ w ∈ ws, w.length ≤ 1000000) : Spec Tryz.prog G 75 #[v] L fun u M => u = qZ ws ∧ M = L := by
 obtain ⟨a, cap, rfl, hrow⟩ := hr
 refine ju (n := 35) Tryz.func75 rfl rfl rfl ?_
 repeat (first | refine goA ?_ | (refine' ji (jb je rfl (jt _ _ ?_ ?_)) rfl ?_; (· first | omega | decide); (· first | omega | decide)) | (refine' jk (jb je rfl (jt _ _ ?_ ?_)) rfl ?_; (· first | omega | decide); (· first | omega | decide)))
 refine jK (σ := Nat × Int × Nat) (fun x => x.1 ≤ ws.length ∧ (-1 ≤ x.2.1 ∧ x.2.1 ≤ 15) ∧ x.2.2 < 65536 ∧ Cn.bitsGo (-1) 0 ws = Cn.bitsGo x.2.1 x.2.2 (ws.drop x.1)) (fun x => [(4, .int .u16 (x.2.2 : Nat)), (5, .int .i64 x.2.1), (10, .slice a ws.length cap), (11, .int .i64 (ws.length : Nat)), (12, .int .i64 (x.1 : Nat))]) (fun _ => L) (fun x => ws.length - x.1) (0, -1, 0) ⟨by omega, by decide, by decide, rfl⟩ ?_ (fun _ h => h) ?_
 exact jL
 rintro ⟨k, last, t⟩ ⟨hk, ⟨hl1, hl2⟩, ht, he⟩
 dsimp only at hk hl1 hl2 ht he ⊢
 by_cases hlt : k < ws.length
 · obtain rfl | ⟨b, off, C, te, fr, rfl, hm, hc⟩ := hrow
   · simp at hlt
   obtain ⟨w, hwk⟩ : ∃ w, ws[k]? = some w := ⟨_, List.getElem?_eq_getElem hlt⟩
   have hcell := hc k w hwk
   have hww := hw w (List.mem_of_getElem? hwk)
   have hd : ws.drop k = w :: ws.drop (k + 1) := by
    obtain ⟨h1, h2⟩ := List.getElem?_eq_some_iff.1 hwk
    rw [List.drop_eq_getElem_cons h1, h2]
   rw [hd, Cn.bitsGo] at he
   cases hnp : Cn.numP w 15 with
   | none =>
     have hnv : Qf w 15 = .tuple #[.int .i64 0, .bool false] := by unfold Qf; rw [hnp]
     rw [hnp] at he
     repeat (first | refine goA ?_ | (refine' ji (jb je rfl (jt _ _ ?_ ?_)) rfl ?_; (· first | omega | decide); (· first | omega | decide)) | (refine' jk (jb je rfl (jt _ _ ?_ ?_)) rfl ?_; (· first | omega | decide); (· first | omega | decide)))
     rw [hnv]
     repeat (first | refine goA ?_ | (refine' ji (jb je rfl (jt _ _ ?_ ?_)) rfl ?_; (· first | omega | decide); (· first | omega | decide)) | (refine' jk (jb je rfl (jt _ _ ?_ ?_)) rfl ?_; (· first | omega | decide); (· first | omega | decide)))
     refine jF 2 3 _ _ rfl rfl rfl ?_
     exact ⟨by unfold qZ; rw [he], rfl⟩
   | some u =>
     have hnv : Qf w 15 = .tuple #[.int .i64 (u : Nat), .bool true] := by unfold Qf; rw [hnp]
     have hu15 := (Cn.numP_some hnp).2
     rw [hnp] at he
     dsimp only at he
     repeat (first | refine goA ?_ | (refine' ji (jb je rfl (jt _ _ ?_ ?_)) rfl ?_; (· first | omega | decide); (· first | omega | decide)) | (refine' jk (jb je rfl (jt _ _ ?_ ?_)) rfl ?_; (· first | omega | decide); (· first | omega | decide)))
     rw [hnv]
     by_cases hul : (u : Int) ≤ last
     · rw [if_pos hul] at he
       repeat (first | refine goA ?_ | (refine' ji (jb je rfl (jt _ _ ?_ ?_)) rfl ?_; (· first | omega | decide); (· first | omega | decide)) | (refine' jk (jb je rfl (jt _ _ ?_ ?_)) rfl ?_; (· first | omega | decide); (· first | omega | decide)))
       refine jF 2 3 _ _ rfl rfl rfl ?_
       exact ⟨by unfold qZ; rw [he], rfl⟩
     · rw [if_neg hul] at he
       have hpw : 2 ^ u < 65536 := by
        have : 2 ^ u ≤ 2 ^ 15 := Nat.pow_le_pow_right (by decide) hu15
        omega
       repeat (first | refine goA ?_ | (refine' ji (jb je rfl (jt _ _ ?_ ?_)) rfl ?_; (· first | omega | decide); (· first | omega | decide)) | (refine' jk (jb je rfl (jt _ _ ?_ ?_)) rfl ?_; (· first | omega | decide); (· first | omega | decide)))
       refine jl (kF rfl rfl (adn hu15)) rfl ?_
       refine jl (kF rfl rfl (ZP ht hpw)) rfl ?_
       repeat (first | refine goA ?_ | (refine' ji (jb je rfl (jt _ _ ?_ ?_)) rfl ?_; (· first | omega | decide); (· first | omega | decide)) | (refine' jk (jb je rfl (jt _ _ ?_ ?_)) rfl ?_; (· first | omega | decide); (· first | omega | decide)))
       refine jz (k + 1, (u : Int), t ||| 2 ^ u) ⟨by dsimp only; omega, by dsimp only; omega, Nat.or_lt_two_pow (n := 16) ht hpw, he⟩ ?_ (fun _ h => h) (by dsimp only; omega)
       exact jL
 · have hkl : k = ws.length := by omega
   subst hkl
   rw [List.drop_length, Cn.bitsGo] at he
   repeat (first | refine goA ?_ | (refine' ji (jb je rfl (jt _ _ ?_ ?_)) rfl ?_; (· first | omega | decide); (· first | omega | decide)) | (refine' jk (jb je rfl (jt _ _ ?_ ?_)) rfl ?_; (· first | omega | decide); (· first | omega | decide)))
   refine jF 2 3 _ _ rfl rfl rfl ?_
   exact ⟨by unfold qZ; rw [he], rfl⟩
end
section
open Go.RowKit
open Vd (RSet Vdt Vote Rec Quest)
section
variable {G : World} {P : Program} {n : Nat} {ρ : jn} {L : jc} {ty : TypeId}
theorem op_callV {f : FuncId} {x : Operand} {xs : List Operand} {ats : Array TypeId} {vs cap : List Value} {Φ : Value → jc → Prop} (hb : ke P f = true) (hx : ev ρ x = some (.func (.func f) #[] cap.toArray)) (ha : kw ρ xs = some vs) (h : Spec P G f (vs ++ cap).toArray L Φ) :
 OpT P G ρ L (.call ⟨.value x, xs.toArray, ats⟩) ty Φ :=
 ⟨fun r hr w hw o ho _ => by
   have hm := qn hr xs vs ha
   have hrf := hr _ _ hx
   have : execOp r o = callFunc f (vs ++ cap).toArray := by
    simp only [execOp, ho, resolve, hrf, Deferred.ofValue]
    show invoke (.fn (.func f) cap.toArray) _ = _
    simp only [invoke, List.map_toArray, hm]
    simp
   rw [this, qm hb]
   refine (h.out w hw).mono fun e w' ⟨v, L', h1, h2, h3⟩ => ⟨v, h1, L', h2, h3⟩⟩
end
variable {G : World} {L : jc}
theorem rsR.val {cs : List Value} {s : RSet} (h : rsR L cs s) : ∃ a c, cs = [.string (bs s.name), .int .u16 s.kind, .int .u16 s.cls, .int .u32 s.ttl, .slice a s.data.length c] ∧ sliceR 1 WH L [.slice a s.data.length c] s.data := by
 obtain ⟨d, rfl, hd, _⟩ := h
 obtain ⟨a, c, e, hd⟩ := hd.val
 simp only [List.cons.injEq, and_true] at e
 subst e
 exact ⟨a, c, rfl, hd⟩
end
section
open Go.RowKit
structure RemO (q : Nat × Obj) (L R : jc) : Prop where out : ∀ p, cnt p L = hit p q + cnt p R
structure RemA (A L R : jc) : Prop where out : ∀ p, cnt p L = cnt p A + cnt p R
structure Fits (M L : jc) : Prop where out : ∀ p, cnt p M ≤ cnt p L
section
variable {q r : Nat × Obj} {A B L M R R1 : jc}
theorem V6 : RemO q (q :: R) R := ⟨fun p => by rw [jC]⟩
theorem ado {b : Nat} {o o' : Obj} (e : o' = o) : RemO (b, o) ((b, o') :: R) R := e ▸ V6
theorem adp (h : RemO q R R1) : RemO q (r :: R) (r :: R1) := ⟨fun p => by rw [jC, jC, h.out p]; omega⟩
theorem afb (h : RemO q R R1) : RemO q (B ++ R) (B ++ R1) := ⟨fun p => by rw [jw, jw, h.out p]; omega⟩
theorem adq : RemA A (A ++ R) R := ⟨fun p => by rw [jw]⟩
theorem afc : RemA A A [] := ⟨fun p => by rw [jI]; omega⟩
theorem adr (h : RemA A R R1) : RemA A (r :: R) (r :: R1) := ⟨fun p => by rw [jC, jC, h.out p]; omega⟩
theorem afd (h : RemA A R R1) : RemA A (B ++ R) (B ++ R1) := ⟨fun p => by rw [jw, jw, h.out p]; omega⟩
theorem kP : Fits L L := ⟨fun p => Nat.le_refl _⟩
theorem afe : Fits [] L := ⟨fun p => by rw [jI]; omega⟩
theorem ads (h : RemO q L R) (k : Fits M R) : Fits (q :: M) L := ⟨fun p => by rw [jC, h.out p]; have := k.out p; omega⟩
theorem aff (h : RemA A L R) (k : Fits M R) : Fits (A ++ M) L := ⟨fun p => by rw [jw, h.out p]; have := k.out p; omega⟩
theorem afg (h : RemA A L R) : Fits A L := ⟨fun p => by rw [h.out p]; omega⟩
theorem afh {N : jc} (h : Fits (A ++ (M ++ N)) L) : Fits ((A ++ M) ++ N) L := by rw [List.append_assoc]; exact h
theorem afi (h : Fits (q :: (A ++ M)) L) : Fits ((q :: A) ++ M) L := h
theorem afj (h : Fits M L) : Fits ([] ++ M) L := h
theorem adt {L' : jc} (e : L = L') (h : Fits M L') : Fits M L := e ▸ h
end
theorem ajT {q : Nat × Obj} {L R : jc} (h : RemO q L R := by repeat (first | with_reducible exact V6 | ((with_reducible apply ado); exact rfl) | with_reducible apply adp | with_reducible apply afb)) : RemO q L R := h
theorem ahA {A L R : jc} (h : RemA A L R := by repeat (first | with_reducible exact adq | with_reducible exact afc | with_reducible apply adr | with_reducible apply afd)) : RemA A L R := h
theorem jH {M L : jc} (h : Fits M L := by
 apply adt
 · (try simp only [List.append_assoc, List.cons_append, List.nil_append]); exact rfl
 repeat (first | with_reducible exact kP | with_reducible exact afe | with_reducible apply afh | with_reducible apply afi | with_reducible apply afj | ((with_reducible apply ads); · exact ajT) | ((with_reducible apply aff); · exact ahA) | ((with_reducible apply afg); exact ahA))) : Fits M L := h
section
variable {P : Program} {G : World} {n : Nat} {ρ : jn} {L M : jc} {op : Op} {ty : TypeId} {v : Value} {Q : Exit → Act → World → Prop} {ops : Array Oper}
theorem Fits.heap (h : Fits M L) : ∀ w, Heap G w L → Heap G w M := fun w hw => hw.cnt h.out
theorem OpT.fits {Φ : Value → jc → Prop} (h : OpT P G ρ M op ty Φ) (k : Fits M L) : OpT P G ρ L op ty Φ := OpT.heap (fun w hw => hw.cnt k.out) h
theorem uA {d : Nat} {f : FuncId} {xs : List Operand} {ats : Array TypeId} {pos : String} {after : Array Edge} {rest : List Oper} {vs : List Value} {Φ : Value → jc → Prop}
 (hspec : Spec P G f vs.toArray M Φ) (hr : ∀ v L', Φ v L' → TL P G ops n ((d, v) :: ρ) L' rest Q) (hv : kw ρ xs = some vs := by exact rfl) (hf : Fits M L := by exact jH) (hb : ke P f = true := by kernel_rfl) (hd : Nat.blt d n = true := by exact rfl) :
 TL P G ops n ρ L (⟨some d, .call ⟨.value (.func f), xs.toArray, ats⟩, ty, pos, after, none⟩ :: rest) Q :=
 jX ((jb hb hv hspec).fits hf) hd hr
theorem ahB {d : Nat} {f : FuncId} {xs : List Operand} {ats : Array TypeId} {rest : List Oper} {vs : List Value} {Φ : Value → jc → Prop}
 (hspec : Spec P G f vs.toArray M Φ) (hr : ∀ v L', Φ v L' → TL P G ops n ((d, v) :: ρ) L' rest Q) (hv : kw ρ xs = some vs := by exact rfl) (hf : Fits M L := by exact jH) (hb : ke P f = true := by kernel_rfl) (hd : Nat.blt d n = true := by exact rfl) :
 TG P G ops n ρ L d (.call ⟨.value (.func f), xs.toArray, ats⟩) ty rest Q :=
 adX ((jb hb hv hspec).fits hf) hd hr
theorem uE {d : Nat} {f : FuncId} {xs : List Operand} {ats : Array TypeId} {pos : String} {after : Array Edge} {rest : List Oper} {vs : List Value}
 (hspec : Spec P G f vs.toArray L fun u N => u = v ∧ N = L) (hr : TL P G ops n ((d, v) :: ρ) L rest Q) (hv : kw ρ xs = some vs := by exact rfl) (hb : ke P f = true := by kernel_rfl) (hd : Nat.blt d n = true := by exact rfl) :
 TL P G ops n ρ L (⟨some d, .call ⟨.value (.func f), xs.toArray, ats⟩, ty, pos, after, none⟩ :: rest) Q :=
 ji (jb hb hv hspec) hd hr
theorem ahC {d : Nat} {f : FuncId} {xs : List Operand} {ats : Array TypeId} {rest : List Oper} {vs : List Value}
 (hspec : Spec P G f vs.toArray L fun u N => u = v ∧ N = L) (hr : TL P G ops n ((d, v) :: ρ) L rest Q) (hv : kw ρ xs = some vs := by exact rfl) (hb : ke P f = true := by kernel_rfl) (hd : Nat.blt d n = true := by exact rfl) :
 TG P G ops n ρ L d (.call ⟨.value (.func f), xs.toArray, ats⟩) ty rest Q :=
 jk (jb hb hv hspec) hd hr
theorem aik {f : FuncId} {xs : List Operand} {vs : List Value} (ha : kw ρ xs = some vs) : OpQ P ρ L (.makeFunc (.func f) #[] xs.toArray) ty (.func (.func f) #[] vs.toArray) :=
 ⟨fun r hr w hw o ho _ => by
   have hm := qn hr xs vs ha
   simp [execOp, ho, Instr.makeFunc, hm]⟩
end
inductive Upd (b : Nat) (o o' : Obj) : jc → jc → Prop
 | here {R : jc} : Upd b o o' ((b, o) :: R) ((b, o') :: R)
 | cons {r : Nat × Obj} {R R' : jc} : Upd b o o' R R' → Upd b o o' (r :: R) (r :: R')
 | app {B R R' : jc} : Upd b o o' R R' → Upd b o o' (B ++ R) (B ++ R')
theorem Upd.perm {b : Nat} {o o' : Obj} : ∀ {L L' : jc}, Upd b o o' L L' → ∃ R, L.Perm ((b, o) :: R) ∧ ((b, o') :: R).Perm L'
 | _, _, .here => ⟨_, List.Perm.refl _, List.Perm.refl _⟩
 | _, _, .cons (r := r) h => by
   obtain ⟨R, h1, h2⟩ := h.perm
   exact ⟨r :: R, (h1.cons r).trans (List.Perm.swap _ _ _), (List.Perm.swap _ _ _).trans (h2.cons r)⟩
 | _, _, .app (B := B) h => by
   obtain ⟨R, h1, h2⟩ := h.perm
   exact ⟨B ++ R, (h1.append_left B).trans List.perm_middle, List.perm_middle.symm.trans (h2.append_left B)⟩
theorem abc {b : Nat} {o o' : Obj} {L L' : jc} (h : Upd b o o' L L' := by repeat (first | with_reducible exact Upd.here | with_reducible apply Upd.cons | with_reducible apply Upd.app)) : Upd b o o' L L' := h
section
variable {P : Program} {G : World} {n : Nat} {ρ : jn} {L L' : jc} {op : Op} {ty : TypeId} {v : Value} {Q : Exit → Act → World → Prop} {ops : Array Oper}
theorem stU {x y : Operand} {pos : String} {after : Array Edge} {rest : List Oper} {b off : Nat} {t : TypeId} {C C' : Array Value} {te : TypeId} {v u : Value} (hx : ev ρ x = some (.pointer (some ⟨b, off, none⟩))) (hy : ev ρ y = some v)
 (h1 : Ke P t = true) (hu : Upd b (.cells C te (0, 0)) (.cells C' te (0, 0)) L L') (hone : v.oneCell' = true) (hv : C[off]? = some u) (hC : C.setIfInBounds off v = C') (h : TL P G ops n ρ L' rest Q) :
 TL P G ops n ρ L (⟨none, .store t x y, ty, pos, after, none⟩ :: rest) Q := by
 obtain ⟨R, p1, p2⟩ := hu.perm
 exact ku p1 (VE hx hy h1 hone hv hC (ku p2 h))
theorem afk {x y : Operand} {pos : String} {after : Array Edge} {rest : List Oper} {b k : Nat} {t : TypeId} {C D : Array Value} {te : TypeId} (hx : ev ρ x = some (.pointer (some ⟨b, 0, none⟩))) (hy : ev ρ y = some (.agg D))
 (ht : j8 P t k = true) (hu : Upd b (.cells C te (0, 0)) (.cells D te (0, 0)) L L') (hC : C.size = k) (hD : D.size = k) (hone : WF D = true) (h : TL P G ops n ρ L' rest Q) : TL P G ops n ρ L (⟨none, .store t x y, ty, pos, after, none⟩ :: rest) Q := by
 obtain ⟨R, p1, p2⟩ := hu.perm
 exact ku p1 (zi hx hy ht hC hD hone (ku p2 h))
theorem kv {fn : Func} {Φ : Value → jc → Prop} (t : Nat) {v : Value} {M : jc} (hr : fn.results = #[.tmp t]) (hv : ρ.lookup t = some v) (h : Φ v M) (hf : Fits M L) : TQ G n ρ L .ret (bodyPost P fn (jU G Φ)) := jr (fun w hw => hw.cnt hf.out) (js t v hr hv h)
theorem ahD {fn : Func} {Φ : Value → jc → Prop} {M : jc} (hr : fn.results = #[]) (h : Φ (.tuple #[]) M) (hf : Fits M L) : TQ G n ρ L .ret (bodyPost P fn (jU G Φ)) := jr (fun w hw => hw.cnt hf.out) (uo hr h)
theorem kq {fn : Func} {Φ : Value → jc → Prop} (t u : Nat) {v x : Value} {M : jc} (hr : fn.results = #[.tmp t, .tmp u]) (hv : ρ.lookup t = some v) (hx : ρ.lookup u = some x) (h : Φ (.tuple #[v, x]) M) (hf : Fits M L) : TQ G n ρ L .ret (bodyPost P fn (jU G Φ)) := jr (fun w hw => hw.cnt hf.out) (jF t u v x hr hv hx h)
end
section
variable {P : Program} {G : World} {n : Nat} {ρ : jn} {L : jc} {ty : TypeId} {Q : Exit → Act → World → Prop} {ops : Array Oper}
theorem V7 {α : Type} {r : Rp α} (y : α) {d : Nat} {s x : Operand} {pos : String} {after : Array Edge} {rest : List Oper} {t e te : TypeId} {sz bytes bl : Nat} {z : Value} {a : Option Addr} {c : Nat} {cs : List Value} {l : List α} {B F L0 : jc}
 (hrow : ORow r e sz L0 a c l B) (hy : r L0 cs y) (hr : ∀ a' c' B', ORow r e sz L0 a' c' (l ++ [y]) B' → TL P G ops n ((d, .slice a' (l ++ [y]).length c') :: ρ) (B' ++ F) rest Q)
 (E : ElemTy P t e sz bytes z := by exact etO) (hs : ev ρ s = some (.slice a l.length c) := by exact rfl) (hx : ev ρ x = some (.slice (some ⟨bl, 0, none⟩) 1 1) := by exact rfl) (hf : Fits ((bl, .cells cs.toArray te (0, 0)) :: (B ++ F)) L := by exact jH)
 (hn : cs.length = sz := by exact rfl) (hone : cs.all (·.oneCell') = true := by exact rfl) (h63 : l.length + 1 ≤ maxLen := by unfold maxLen; omega) (hby : (l.length + 1) * bytes ≤ 140737488355328 := by omega) (hd : Nat.blt d n = true := by exact rfl) :
 TL P G ops n ρ L (⟨some d, .call ⟨.builtin .append, #[s, x], #[t, t]⟩, ty, pos, after, none⟩ :: rest) Q :=
 jX ((uJ E hs hx hrow hn (fun v hv => List.all_eq_true.1 hone v hv) hy h63 hby).fits hf) hd fun v M ⟨a', c', B', h1, h2, h3⟩ => by subst h1 h3; exact hr a' c' B' h2
end
def Qh (n k : Nat) : Array Bool := ((List.range n).map fun i => decide (i < k)).toArray
theorem adu (n : Nat) : Qh n 0 = Array.replicate n false := by
 unfold Qh
 apply Array.ext <;> simp
theorem afl (n k : Nat) : (Qh n k).setIfInBounds k true = Qh n (k + 1) := by
 unfold Qh
 rw [List.setIfInBounds_toArray]
 congr 1
 apply List.ext_getElem
 · simp
 · intro i h1 h2
   rw [List.getElem_set]
   simp only [List.getElem_map, List.getElem_range]
   split
   · rename_i e; subst e; simp
   · rename_i e; rw [decide_eq_decide]; omega
section
variable {P : Program} {G : World} {n : Nat} {ρ : jn} {L : jc} {v : Value} {Q : Exit → Act → World → Prop} {ops : Array Oper}
theorem ag2 {id : Nat} (hm : P.follows .mixedOrders = true) (K : jc) (W : List Nat) (h : TA P G ops n K W Q ops.size (Qh ops.size 0) ρ L) : T P G n ρ L (.region id ops true) Q := jR hm K W (by rw [← adu]; exact h)
theorem acf {id : Nat} (hm : P.follows .mixedOrders = true) (h : TA P G ops n L [] Q ops.size (Qh ops.size 0) ρ L) : T P G n ρ L (.region id ops true) Q := ag2 hm L [] h
theorem tkS {K : jc} {W : List Nat} {fuel N k : Nat} {d : Nat} {oi : Oper} (h : TA P G ops n K W Q fuel (Qh N (k + 1)) ((d, v) :: ρ) L) (hi : ops[k]? = some oi := by exact rfl) (hd : oi.dst = some d := by exact rfl) (ht : YC ops W n (Qh N k) k d = true := by kernel_rfl)
 (hq : Quiet P G ops K ρ oi v := by exact qqQ) (hK : ∀ p ∈ K, p ∈ L := by first | exact fun p h => h | assumption | (intro p hp; grind)) : TA P G ops n K W Q (fuel + 1) (Qh N k) ρ L := jG k hi hd ht hq hK (by rw [afl]; exact h)
theorem tkL {K : jc} {W : List Nat} {fuel N k : Nat} {d : Nat} {oi : Oper} (hi : ops[k]? = some oi) (hd : oi.dst = some d) (ht : YC ops W n (Qh N k) k d = true) (hq : Quiet P G ops K ρ oi v) (hK : ∀ p ∈ K, p ∈ L) (h : TA P G ops n K W Q fuel (Qh N (k + 1)) ((d, v) :: ρ) L) : TA P G ops n K W Q (fuel + 1) (Qh N k) ρ L := tkS h hi hd ht hq hK
theorem ahE {K : jc} {W : List Nat} {fuel : Nat} {listed : Array Bool} {M : jc} (i : Nat) {d : Nat} {f : FuncId} {xs : List Operand} {ats : Array TypeId} {ty : TypeId} {pos : String} {after : Array Edge} {vs : List Value} {args : Array Value} {Φ : Value → jc → Prop}
 (hspec : Spec P G f args M Φ) (h : ∀ v L', Φ v L' → (∀ p ∈ K, p ∈ L') ∧ TA P G ops n K W Q fuel (listed.setIfInBounds i true) ((d, v) :: ρ) L') (hi : ops[i]? = some ⟨some d, .call ⟨.value (.func f), xs.toArray, ats⟩, ty, pos, after, none⟩ := by exact rfl) (ha : kw ρ xs = some vs := by exact rfl) (he : args = vs.toArray := by exact rfl) (hf : Fits M L := by exact jH)
 (hb : ke P f = true := by kernel_rfl) (hdn : Nat.blt d n = true := by exact rfl) (hr : Region.ready .any ops listed = [i] := by decide +kernel) : TA P G ops n K W Q (fuel + 1) listed ρ L :=
 qS i hr hi rfl hdn rfl ((jb hb ha (he ▸ hspec)).fits hf) fun v L' hv => ⟨Or.inr (h v L' hv).1, (h v L' hv).2⟩
theorem Yj {K : jc} {W : List Nat} {fuel : Nat} {listed : Array Bool} {M : jc} (i : Nat) {d j dj : Nat} {want b : Bool} {f : FuncId} {xs : List Operand} {ats : Array TypeId} {ty : TypeId} {pos : String} {after : Array Edge} {vs : List Value} {args : Array Value} {Φ : Value → jc → Prop}
 (hspec : Spec P G f args M Φ) (h : ∀ v L', Φ v L' → (∀ p ∈ K, p ∈ L') ∧ TA P G ops n K W Q fuel (listed.setIfInBounds i true) ((d, v) :: ρ) L') (hi : ops[i]? = some ⟨some d, .call ⟨.value (.func f), xs.toArray, ats⟩, ty, pos, after, some (j, want)⟩ := by exact rfl) (ha : kw ρ xs = some vs := by exact rfl) (he : args = vs.toArray := by exact rfl) (hf : Fits M L := by exact jH)
 (hs : jJ ops j = some dj := by exact rfl) (hv : ρ.lookup dj = some (.bool b) := by exact rfl) (hw : b = want := by exact kB) (hb : ke P f = true := by kernel_rfl) (hdn : Nat.blt d n = true := by exact rfl) (hr : Region.ready .any ops listed = [i] := by decide +kernel) : TA P G ops n K W Q (fuel + 1) listed ρ L := by
 refine ⟨fun h0 => (by rw [hr] at h0; cases h0), fun k hk => ?_⟩
 rw [hr] at hk
 obtain rfl : k = i := by simpa using hk
 refine ⟨_, hi, fun e he' => ?_, true, ⟨dj, _, hs, hv, by rw [hw]; simp [Yz]⟩, Or.inl ⟨rfl, Φ, (jb hb ha (he ▸ hspec)).fits hf, fun v L' hv' => ⟨Or.inr (h v L' hv').1, (h v L' hv').2⟩⟩⟩
 cases he'
 simpa using hdn
end
theorem goU {P Q : Prop} (k : Q) (run : Hd Q → P := by intro k; (repeat1' (first | with_reducible apply qd | with_reducible apply uU | (apply jl; (· exact Kf); (· exact rfl)) | with_reducible apply jY | with_reducible apply jT | with_reducible apply um | with_reducible apply uu | with_reducible apply yG | with_reducible apply yH | with_reducible apply ze | with_reducible apply Qr | with_reducible apply kQ | with_reducible apply kC | with_reducible apply qH | with_reducible apply kn | with_reducible apply kb | with_reducible apply qv | with_reducible apply yk | (apply qa; (· decide)) | (apply jl; (· apply kU; (· exact rfl); (· exact kB); (· exact rfl)); (· exact rfl)) | (apply jl; (· apply kV; (· exact rfl); (· exact kB); (· exact rfl)); (· exact rfl)) | (apply zE; (· exact rfl); (· exact rfl); (· exact kB)) | (apply jf; (· exact Kf); (· exact rfl)) | (apply jf; (· apply kU; (· exact rfl); (· exact kB); (· exact rfl)); (· exact rfl)) | (apply jf; (· apply kV; (· exact rfl); (· exact kB); (· exact rfl)); (· exact rfl)) | (apply KW; (· exact rfl); (· exact rfl); (· exact kB); (· exact rfl)) | (apply ui; (· exact rfl); (· exact rfl); (· exact rfl)) | (apply jl; (· exact agh); (· exact rfl)) | (apply jf; (· exact agh); (· exact rfl)) | (apply afk; (· exact rfl); (· exact rfl); (· exact stO); (· exact abc); (· exact rfl); (· exact rfl); (· exact rfl)) | (apply stU; (· exact rfl); (· exact rfl); (· exact onO); (· exact abc); (· exact rfl); (· exact Vn); (· exact rfl)) | (refine acf jo ?_; (repeat1' (apply tkL; (· exact rfl); (· exact rfl); (· kernel_rfl); (· exact qqQ); (· exact fun p h => h))); (apply WC; (· decide +kernel))) | (apply VC; (· exact rfl); (· exact kB)) | (apply acx; (· exact rfl); (· exact kB)))); exact k.out) : P := run ⟨k⟩
theorem goW {P Q : Prop} (k : Q) (run : Hd Q → P := by intro k; (repeat1' (first | with_reducible apply qd | with_reducible apply uU | (apply jl; (· exact Kf); (· exact rfl)) | with_reducible apply jY | with_reducible apply um | with_reducible apply uu | with_reducible apply yG | with_reducible apply yH | with_reducible apply ze | with_reducible apply Qr | with_reducible apply kQ | with_reducible apply kC | with_reducible apply qH | with_reducible apply kn | with_reducible apply kb | with_reducible apply qv | with_reducible apply yk | (apply qa; (· decide)) | (apply jl; (· apply kU; (· exact rfl); (· exact kB); (· exact rfl)); (· exact rfl)) | (apply jl; (· apply kV; (· exact rfl); (· exact kB); (· exact rfl)); (· exact rfl)) | (apply zE; (· exact rfl); (· exact rfl); (· exact kB)) | (apply jf; (· exact Kf); (· exact rfl)) | (apply jf; (· apply kU; (· exact rfl); (· exact kB); (· exact rfl)); (· exact rfl)) | (apply jf; (· apply kV; (· exact rfl); (· exact kB); (· exact rfl)); (· exact rfl)) | (apply KW; (· exact rfl); (· exact rfl); (· exact kB); (· exact rfl)) | (apply ui; (· exact rfl); (· exact rfl); (· exact rfl)) | (apply jl; (· exact agh); (· exact rfl)) | (apply jf; (· exact agh); (· exact rfl)) | (apply afk; (· exact rfl); (· exact rfl); (· exact stO); (· exact abc); (· exact rfl); (· exact rfl); (· exact rfl)) | (apply stU; (· exact rfl); (· exact rfl); (· exact onO); (· exact abc); (· exact rfl); (· exact Vn); (· exact rfl)) | (refine acf jo ?_; (repeat1' (apply tkL; (· exact rfl); (· exact rfl); (· kernel_rfl); (· exact qqQ); (· exact fun p h => h))); (apply WC; (· decide +kernel))) | (apply VC; (· exact rfl); (· exact kB)) | (apply acx; (· exact rfl); (· exact kB)))); exact k.out) : P := run ⟨k⟩
end
section
open Go.RowKit
open Cn (Zo Cf)
variable {G : World} {L : jc}
def ErrAt (L : jc) (g : Nat) : Prop := ∃ v t fr, (g, Obj.cells #[v] t fr) ∈ L ∧ (v = .nilIface ∨ ∃ te pe, v = .iface te pe)
structure GlobS (L : jc) : Prop where
 base : Glob L
 syn : ErrAt L 9
 rng : ErrAt L 10
theorem ErrAt.mono {L' : jc} {g : Nat} (h : ErrAt L g) (hs : ∀ p ∈ L, p ∈ L') : ErrAt L' g := by
 obtain ⟨v, t, fr, h1, h2⟩ := h
 exact ⟨v, t, fr, hs _ h1, h2⟩
theorem GlobS.mono {L' : jc} (h : GlobS L) (hs : ∀ p ∈ L, p ∈ L') : GlobS L' := ⟨h.base.mono hs, h.syn.mono hs, h.rng.mono hs⟩
theorem ErrAt.cell {w : World} {g : Nat} (h : ErrAt L g) (hw : Heap G w L) : ∃ v, w.cell? ⟨g, 0, none⟩ = some v ∧ (v = .nilIface ∨ ∃ te pe, v = .iface te pe) := by
 obtain ⟨v, t, fr, h1, h2⟩ := h
 have h3 := hw.get _ h1
 exact ⟨v, by simp [World.cell?, h3], h2⟩
section
variable {P : Program} {ρ : jn} {ty : TypeId}
theorem op_binG {op : BinOp} {t yt : TypeId} {x y : Operand} {a b v : Value} (hx : ev ρ x = some a) (hy : ev ρ y = some b) (h : ∀ w, (do eqGuard op t x y a b; binOp op t a b : Sem Value).run P w = .ok v w) : OpQ P ρ L (.binOp op t x y yt) ty v :=
 ⟨fun r hr w hw o ho _ => by
   have h1 := h w
   simp only [execOp, ho, hr _ _ hx, hr _ _ hy]
   rw [Sem.run_bind, h1]
   rfl⟩
def acg (P : Program) (t : TypeId) : Bool := match P.underlying t with
 | some (.interface _) => true
 | _ => false
theorem ach {t : TypeId} (h : acg P t = true) : ∃ e, P.underlying t = some (.interface e) := by unfold acg at h; split at h <;> first | exact ⟨_, by assumption⟩ | cases h
theorem ZQ {t te : TypeId} {pe : Value} {k : _} (d : Nat) (w : World) (hu : P.underlying t = some (.interface k)) : (Op.equalIn (d + 1) t (.iface te pe) .nilIface).run P w = .ok false w := by simp [Op.equalIn, run_underlying hu]
theorem Yk {t : TypeId} {k : _} (d : Nat) (w : World) (hu : P.underlying t = some (.interface k)) : (Op.equalIn (d + 1) t .nilIface .nilIface).run P w = .ok true w := by simp [Op.equalIn, run_underlying hu]
theorem V8 {t yt : TypeId} {x : Operand} {te : TypeId} {pe : Value} (hx : ev ρ x = some (.iface te pe)) (h : acg P t = true) : OpQ P ρ L (.binOp .neq t x (.const .nilIface) yt) ty (.bool true) := by
 obtain ⟨k, hu⟩ := ach h
 refine op_binG hx rfl fun w => ?_
 simp only [eqGuard, binOp, ql]
 simp [ZQ 9999 w hu]
theorem afm {t yt : TypeId} {x : Operand} (hx : ev ρ x = some .nilIface) (h : acg P t = true) : OpQ P ρ L (.binOp .neq t x (.const .nilIface) yt) ty (.bool false) := by
 obtain ⟨k, hu⟩ := ach h
 refine op_binG hx rfl fun w => ?_
 have hg : (eqGuard .neq t x (.const .nilIface) .nilIface .nilIface).run P w = .ok () w := by
  unfold eqGuard
  cases x <;> simp
 rw [Sem.run_bind, hg]
 simp only [binOp, ql]
 simp [Yk 9999 w hu]
end
def puV (w : Nm.Bytes) (u : Value) : Prop := match Lib.parseUintB 64 w with
 | .ok n => u = .tuple #[.int .u64 (n : Nat), .nilIface]
 | _ => ∃ n te pe, u = .tuple #[.int .u64 n, .iface te pe]
theorem ZR (s : Nm.Bytes) (hs : s.length ≤ 1000000) (hg : GlobS L) : Spec Tryz.prog G 117 #[.string (bs s), .int .i64 10, .int .i64 64] L fun u M => puV s u ∧ M = L := by
 refine ⟨fun w hw => ?_⟩
 have hsz : (bs s).size ≤ 281474976710656 := by rw [ks]; omega
 have keep : ∀ w', Below w.heap.size w w' → Heap G w' L := fun w' h2 => ⟨hw.still.trans ⟨h2.os, h2.tape, h2.output, h2.size⟩, hw.nodup, fun p hp => (h2.block p.1 (hw.lt hp)).trans (hw.get p hp)⟩
 have hbw : ∀ w', (w' = w ∨ w' = Lib.bytesWorld w 5 (bs s)) → Below w.heap.size w w' := fun w' h => by
  rcases h with rfl | rfl
  · exact Below.refl _ _
  · exact Lib.bytesWorld_below w _ _
 unfold puV
 cases hp : Lib.parseUintB 64 s
 · rename_i n; exact (Tryz.strconv_ParseUint_10_at64_ok (bs s) (by omega) n hp w).mono fun e w' ⟨he, hw'⟩ => ⟨_, L, he, ⟨rfl, rfl⟩, keep w' (hbw w' hw')⟩
 · obtain ⟨v, hv, hev⟩ := hg.syn.cell hw
   exact (Tryz.strconv_ParseUint_10_at64_none (bs s) hsz ⟨fun u q => (by have := hp.symm.trans q; cases this), fun q => (by have := hp.symm.trans q; cases this)⟩ v w hv hev).mono fun e w' ⟨N, he, _, _, hw'⟩ => ⟨_, L, he, ⟨⟨_, _, _, rfl⟩, rfl⟩, keep w' hw'⟩
 · obtain ⟨v, hv, hev⟩ := hg.rng.cell hw
   exact (Tryz.strconv_ParseUint_10_at64_range (bs s) hsz hp v w hv hev).mono fun e w' ⟨N, he, _, _, hw'⟩ => ⟨_, L, he, ⟨⟨_, _, _, rfl⟩, rfl⟩, keep w' hw'⟩
theorem QI (s : Nm.Bytes) (c : UInt8) : Spec Tryz.prog G 118 #[.string (bs s), .int .u8 (c.toNat : Nat)] L fun u M => u = .int .i64 (Lib.indexByte s c) ∧ M = L := Spec.ofSame fun w => by
 refine (Tryz.strings_IndexByte (bs s) (c.toNat : Nat) w).mono fun e w' ⟨he, hw'⟩ => ⟨?_, hw'.symm⟩
 rw [he]
 simp
def UZ (w : Nm.Bytes) : Value := match Cn.num64 w with
 | some n => .tuple #[.int .u64 (n : Nat), .bool true]
 | none => .tuple #[.int .u64 0, .bool false]
theorem KE {w : Nm.Bytes} (h : Cn.num64 w = none) : UZ w = .tuple #[.int .u64 0, .bool false] := by unfold UZ; rw [h]
theorem Qi (w : Nm.Bytes) (hw : w.length ≤ 1000000) (hg : GlobS L) : Spec Tryz.prog G 78 #[.string (bs w)] L fun u M => u = UZ w ∧ M = L := by
 refine ju (n := 39) Tryz.func78 rfl rfl rfl ?_
 by_cases hz : 1 < w.length ∧ w[0]? = some 48
 · obtain ⟨hz1, hz2⟩ := hz
   rw [KE (Cn.num64_zero hz2 hz1)]
   have hz3 : (48 : UInt8).toNat = 48 := rfl
   refine goA ?_
   exact kq 2 3 rfl rfl rfl ⟨rfl, rfl⟩ jH
 have hz' : ¬ (w[0]? = some 48 ∧ 1 < w.length) := fun h => hz ⟨h.2, h.1⟩
 have hc : (1 < w.length ∧ ∃ c0, w[0]? = some c0 ∧ ¬ c0.toNat = 48) ∨ ¬ 1 < w.length := by
  by_cases h1 : 1 < w.length
  · obtain ⟨c0, hc0⟩ : ∃ c, w[0]? = some c := ⟨_, List.getElem?_eq_getElem (by omega)⟩
    exact Or.inl ⟨h1, c0, hc0, fun q => hz' ⟨by rw [hc0]; congr 1; exact UInt8.toNat_inj.1 q, h1⟩⟩
  · exact Or.inr h1
 rcases hc with ⟨h1, c0, hc0, hc48⟩ | h1
 all_goals
  refine goU ?_
  refine jK (σ := Nat) (fun k => k ≤ w.length ∧ (w.take k).all Cn.isDig = true) (fun k => [(0, .string (bs w)), (16, .int .i64 (w.length : Nat)), (17, .int .i64 (k : Nat))]) (fun _ => L) (fun k => w.length - k) 0 ⟨by omega, by simp⟩ ?_ (fun _ h => h) ?_
  · exact jL
  rintro k ⟨hk, hall⟩
  by_cases hlt : k < w.length
  · obtain ⟨c, hc⟩ : ∃ c, w[k]? = some c := ⟨_, List.getElem?_eq_getElem hlt⟩
    have hcb := c.toNat_lt
    have hbad : ¬ (48 ≤ c.toNat ∧ c.toNat ≤ 57) → Cn.num64 w = none := fun q => Cn.num64_all (by
     rw [List.all_eq_false]
     exact ⟨c, List.mem_of_getElem? hc, fun h => q (dig_iff.1 h)⟩)
    by_cases h48 : c.toNat < 48
    · rw [KE (hbad (by omega))]
      refine goU ?_
      exact kq 2 3 rfl rfl rfl ⟨rfl, rfl⟩ jH
    by_cases h57 : 57 < c.toNat
    · rw [KE (hbad (by omega))]
      refine goU ?_
      exact kq 2 3 rfl rfl rfl ⟨rfl, rfl⟩ jH
    refine goU ?_
    refine jz (k + 1) ⟨by omega, ?_⟩ ?_ (fun _ h => h) (by omega)
    · rw [List.take_add_one, hc, List.all_append, hall]
      simp only [Option.toList, List.all_cons, List.all_nil, Bool.and_true, Bool.true_and]
      exact dig_iff.2 ⟨by omega, by omega⟩
    exact jL
  · have hkl : k = w.length := by omega
    subst hkl
    rw [List.take_length] at hall
    refine goU ?_
    refine uA (ZR w hw hg) ?_
    rintro u M ⟨hu, rfl⟩
    by_cases h0 : w = []
    · subst h0
      rw [KE Cn.num64_nil]
      unfold puV at hu
      have hu : ∃ n te pe, u = .tuple #[.int .u64 n, .iface te pe] := hu
      obtain ⟨n, te, pe, rfl⟩ := hu
      refine goU ?_
      refine jl (V8 rfl (by kernel_rfl)) rfl ?_
      refine goU ?_
      exact kq 2 3 rfl rfl rfl ⟨rfl, rfl⟩ jH
    · have hn := Cn.num64_ok hall h0 hz'
      unfold puV at hu
      rw [Cn.parse64 hall h0] at hu
      by_cases hv : Cn.valD w < 18446744073709551616
      · rw [if_pos hv] at hu hn
        have hu : u = .tuple #[.int .u64 (Cn.valD w : Nat), .nilIface] := hu
        subst hu
        unfold UZ
        rw [hn]
        refine goU ?_
        refine jl (afm rfl (by kernel_rfl)) rfl ?_
        refine goU ?_
        exact kq 2 3 rfl rfl rfl ⟨rfl, rfl⟩ jH
      · rw [if_neg hv] at hu hn
        rw [KE hn]
        obtain ⟨n, te, pe, rfl⟩ := hu
        refine goU ?_
        refine jl (V8 rfl (by kernel_rfl)) rfl ?_
        refine goU ?_
        exact kq 2 3 rfl rfl rfl ⟨rfl, rfl⟩ jH
def QT (w : Nm.Bytes) : Value := match Cn.octets w with
 | some d => .tuple #[.string (bs d), .bool true]
 | none => .tuple #[.string (bs []), .bool false]
theorem zP {w : Nm.Bytes} (h : Cn.octets w = none) : QT w = .tuple #[.string (bs []), .bool false] := by unfold QT; rw [h]
def byR : Rp UInt8 := fun _ cs c => cs = [.int .u8 (c.toNat : Nat)]
theorem KF {w : Nm.Bytes} (h1 : w ≠ [45]) (h2 : w ≠ []) : Cn.octets w = Cn.octs w := by unfold Cn.octets; rw [if_neg h1, if_neg h2]
theorem afn (w : Nm.Bytes) (hw : w.length ≤ 1000000) : Spec Tryz.prog G 79 #[.string (bs w)] L fun u M => u = QT w ∧ M = L := by
 refine ju (n := 53) Tryz.func79 rfl rfl rfl ?_
 by_cases h1 : w = [45]
 · subst h1
   refine goU ?_
   exact kq 2 3 rfl rfl rfl ⟨rfl, rfl⟩ jH
 by_cases h2 : w = []
 · subst h2
   refine goU ?_
   exact kq 2 3 rfl rfl rfl ⟨rfl, rfl⟩ jH
 have hpos : 0 < w.length := List.length_pos_iff.2 h2
 have ho := KF h1 h2
 by_cases h3 : (w.length : Int) % 2 = 0
 rotate_left
 · rw [zP (by rw [ho]; exact Cn.octs_odd w (by omega))]
   refine goU ?_
   exact kq 2 3 rfl rfl rfl ⟨rfl, rfl⟩ jH
 have hd : ((w.length : Int) / 2).toNat = w.length / 2 := by omega
 refine jT ?_
 refine goW ?_
 refine jT (jT ?_)
 refine goW ?_
 refine jT (jT ?_)
 refine goW ?_
 refine jT ?_
 refine goW ?_
 refine kM (Q1 etO (l := 0) (c := (w.length : Int) / 2) rfl rfl (by omega) (by omega) (by omega) (by omega) rfl) rfl ?_
 intro b4
 have hc0 : ORow byR 5 1 [] (some ⟨b4, 0, none⟩) ((w.length : Int) / 2).toNat [] [(b4, Obj.cells (madeCells (Value.int .u8 0).cells (((w.length : Int) / 2).toNat * 1)) 5 (0, 0))] := ⟨[], Row.made (by simp [madeCells]) (by unfold maxLen; omega), rfl, by simp⟩
 refine goU ?_
 refine jK (σ := Nat × Nm.Bytes × Option Addr × Nat × jc) (fun x => 2 * x.1 ≤ w.length ∧ x.2.1.length = x.1 ∧ Cn.octs (w.take (2 * x.1)) = some x.2.1 ∧ ORow byR 5 1 [] x.2.2.1 x.2.2.2.1 x.2.1 x.2.2.2.2) (fun x => [(0, .string (bs w)), (4, .slice x.2.2.1 x.2.1.length x.2.2.2.1), (5, .int .i64 ((2 * x.1 : Nat) : Int))]) (fun x => x.2.2.2.2 ++ L) (fun x => w.length - x.1) (0, [], _, _, _) ⟨by dsimp only; omega, rfl, rfl, hc0⟩ ?_ (fun w h => h) ?_
 · exact jL
 rintro ⟨i, r, a, c, B⟩ ⟨hi, hrl, hoc, hB⟩
 dsimp only at hi hrl hoc hB ⊢
 by_cases hlt : 2 * i < w.length
 · have hlt2 : 2 * i + 1 < w.length := by omega
   obtain ⟨c1, hc1⟩ : ∃ c, w[2 * i]? = some c := ⟨_, List.getElem?_eq_getElem hlt⟩
   obtain ⟨c2, hc2⟩ : ∃ c, w[2 * i + 1]? = some c := ⟨_, List.getElem?_eq_getElem hlt2⟩
   have g1 : w[((2 * i : Nat) : Int).toNat]? = some c1 := by rw [Int.toNat_natCast]; exact hc1
   have g2 : w[(((2 * i : Nat) : Int) + 1).toNat]? = some c2 := by rw [show (((2 * i : Nat) : Int) + 1).toNat = 2 * i + 1 by omega]; exact hc2
   have htk : w.take (2 * (i + 1)) = w.take (2 * i) ++ [c1, c2] := by
    rw [show 2 * (i + 1) = 2 * i + 1 + 1 by omega, List.take_add_one, List.take_add_one, hc1, hc2]
    simp
   have hin := Cn.index_nib c1
   have hin2 := Cn.index_nib c2
   unfold Cn.hexD at hin hin2
   have hbad : Cn.nib c1 = none ∨ Cn.nib c2 = none → Cn.octets w = none := fun k => by rw [ho]; exact Cn.octs_take w i hlt2 c1 c2 hc1 hc2 k
   refine goU ?_
   refine uE (QI [48, 49, 50, 51, 52, 53, 54, 55, 56, 57, 97, 98, 99, 100, 101, 102] c1) ?_
   rw [hin]
   refine goU ?_
   refine uE (QI [48, 49, 50, 51, 52, 53, 54, 55, 56, 57, 97, 98, 99, 100, 101, 102] c2) ?_
   rw [hin2]
   unfold Cn.nibI
   cases hn1 : Cn.nib c1 with
   | none =>
     rw [zP (hbad (Or.inl hn1))]
     dsimp only
     refine goU ?_
     exact kq 2 3 rfl rfl rfl ⟨rfl, rfl⟩ jH
   | some x =>
     have hx := Cn.nib_le hn1
     cases hn2 : Cn.nib c2 with
     | none =>
       rw [zP (hbad (Or.inr hn2))]
       dsimp only
       refine goU ?_
       exact kq 2 3 rfl rfl rfl ⟨rfl, rfl⟩ jH
     | some y =>
       have hy := Cn.nib_le hn2
       dsimp only
       refine goU ?_
       refine jl (kF rfl rfl (aeR hx)) rfl ?_
       refine goU ?_
       refine jl (kF rfl rfl (agW hx hy)) rfl ?_
       refine goU ?_
       refine jD ?_
       intro bL
       have hcv : ((16 * x + y : Nat) : Int) = ((UInt8.ofNat (16 * x + y)).toNat : Nat) := by simp; omega
       refine V7 (UInt8.ofNat (16 * x + y)) hB (cs := [.int .u8 ((16 * x + y : Nat) : Int)]) (congrArg (fun z => [Value.int .u8 z]) hcv) ?_
       intro a' c' B' hB'
       refine goU ?_
       refine jz (i + 1, r ++ [UInt8.ofNat (16 * x + y)], a', c', B') ⟨by dsimp only; omega, by simp [hrl], ?_, hB'⟩ ?_ (fun w h => h) (by dsimp only; omega)
       · dsimp only
         rw [htk]
         exact Cn.octs_snoc _ _ _ _ _ _ hoc hn1 hn2
       dsimp only
       rw [show ((2 * (i + 1) : Nat) : Int) = ((2 * i : Nat) : Int) + 2 by omega]
       exact jL
 · have hil : 2 * i = w.length := by omega
   rw [hil, List.take_length] at hoc
   have hov : QT w = .tuple #[.string (bs r), .bool true] := by unfold QT; rw [ho, hoc]
   rw [hov]
   have hpos2 : 0 < r.length := by omega
   rcases hB.one with ⟨_, _, rfl, _⟩ | ⟨b, cur, rfl, rfl, _⟩
   · simp at hpos2
   have hsl := ORow.sliceR (L' := [(b, Obj.cells cur 5 (0, 0))]) (fun _ _ _ _ _ h => h : Vl byR) hB (by simp) (fun p hp => hp)
   have hcell : ∀ j (hj : j < r.length), cur[0 + j]? = some (.int .u8 (r[j].toNat : Int)) := fun j hj => by
    obtain ⟨b1, o1, C1, t1, f1, e, m1, cs1, hn1, hcs1, hcl⟩ := sliceR.at hsl (List.getElem?_eq_getElem hj)
    cases e
    rw [List.mem_singleton] at m1
    cases m1
    obtain rfl : cs1 = [.int .u8 (r[j].toNat : Nat)] := hcs1
    have := hcl 0 _ rfl
    simpa using this
   refine goU ?_
   refine jl (kR r rfl rfl Tryz.underlying76 Tryz.underlying5 Tryz.underlying9 (List.mem_cons_self ..) hcell) rfl ?_
   refine goU ?_
   exact kq 2 3 rfl rfl rfl ⟨rfl, rfl⟩ jH
end
section
open Go.RowKit
section
variable {P : Program} {G : World} {n : Nat} {ρ : jn} {L : jc} {ty : TypeId} {Q : Exit → Act → World → Prop} {ops : Array Oper}
theorem V9 {K : jc} {W : List Nat} {fuel : Nat} {listed : Array Bool} {M : jc} (i : Nat) {d : Nat} {op : Op} {pos : String} {after : Array Edge} {Φ : Value → jc → Prop}
 (hO : OpT P G ρ M op ty Φ) (h : ∀ v L', Φ v L' → (∀ p ∈ K, p ∈ L') ∧ TA P G ops n K W Q fuel (listed.setIfInBounds i true) ((d, v) :: ρ) L') (hi : ops[i]? = some ⟨some d, op, ty, pos, after, none⟩ := by exact rfl) (hf : Fits M L := by exact jH)
 (hdn : Nat.blt d n = true := by exact rfl) (hr : Region.ready .any ops listed = [i] := by decide +kernel) : TA P G ops n K W Q (fuel + 1) listed ρ L :=
 qS i hr hi rfl hdn rfl (hO.fits hf) fun v L' hv => ⟨Or.inr (h v L' hv).1, (h v L' hv).2⟩
theorem adw {K : jc} {W : List Nat} {fuel : Nat} {listed : Array Bool} {L' : jc} (i : Nat) {x y : Operand} {pos : String} {after : Array Edge} {b off : Nat} {t : TypeId} {C C' : Array Value} {te : TypeId} {v u : Value}
 (h : TA P G ops n K W Q fuel (listed.setIfInBounds i true) ρ L') (hW : i ∈ W := by decide) (hi : ops[i]? = some ⟨none, .store t x y, ty, pos, after, none⟩ := by exact rfl) (hx : ev ρ x = some (.pointer (some ⟨b, off, none⟩)) := by exact rfl) (hy : ev ρ y = some v := by exact rfl)
 (h1 : Ke P t = true := by exact onO) (hu : Upd b (.cells C te (0, 0)) (.cells C' te (0, 0)) L L' := by exact abc) (hone : v.oneCell' = true := by exact rfl) (hv : C[off]? = some u := by exact Vn) (hC : C.setIfInBounds off v = C' := by exact rfl) (hr : Region.ready .any ops listed = [i] := by decide +kernel) :
 TA P G ops n K W Q (fuel + 1) listed ρ L := by
 obtain ⟨R, p1, p2⟩ := hu.perm
 refine uI i hr hi rfl rfl (OpT.heap (fun w hw => hw.perm p1) (VD hx hy h1 hone hv hC)) ?_
 rintro _ _ ⟨_, rfl⟩
 exact ⟨Or.inl hW, un p2 h⟩
theorem Yl {K : jc} {W : List Nat} {fuel : Nat} {listed : Array Bool} {L' : jc} (i : Nat) {x y : Operand} {pos : String} {after : Array Edge} {b off : Nat} {t : TypeId} {C C' : Array Value} {te : TypeId} {v u : Value}
 (h : TA P G ops n K W Q fuel (listed.setIfInBounds i true) ρ L') (hi : ops[i]? = some ⟨none, .store t x y, ty, pos, after, none⟩ := by exact rfl) (hx : ev ρ x = some (.pointer (some ⟨b, off, none⟩)) := by exact rfl) (hy : ev ρ y = some v := by exact rfl)
 (h1 : Ke P t = true := by exact onO) (hu : Upd b (.cells C te (0, 0)) (.cells C' te (0, 0)) L L' := by exact abc) (hone : v.oneCell' = true := by exact rfl) (hv : C[off]? = some u := by exact Vn) (hC : C.setIfInBounds off v = C' := by exact rfl) (hr : Region.ready .any ops listed = [i] := by decide +kernel) (hK : ∀ p ∈ K, p ∈ L' := by exact j4) :
 TA P G ops n K W Q (fuel + 1) listed ρ L := by
 obtain ⟨R, p1, p2⟩ := hu.perm
 refine uI i hr hi rfl rfl (OpT.heap (fun w hw => hw.perm p1) (VD hx hy h1 hone hv hC)) ?_
 rintro _ _ ⟨_, rfl⟩
 exact ⟨Or.inr fun p hp => p2.mem_iff.2 (hK p hp), un p2 h⟩
end
end
section
open Go.RowKit
open Cn (Zo Cf Scr Evn)
namespace Cn
def numM (w : Bytes) (most : Nat) : Option Nat := match num64 w with
 | some n => if n ≤ most then some n else none
 | none => none
theorem numM_no {w : Bytes} {most : Nat} (h : num64 w = none) : numM w most = none := by unfold numM; rw [h]
theorem Wa {w : Bytes} {n : Nat} (h : num64 w = some n) : n = valD w := by
 unfold num64 at h
 split at h
 · cases h; rfl
 · cases h
theorem numM_big {w : Bytes} {most : Nat} (h : most < valD w) : numM w most = none := by
 unfold numM
 cases hn : num64 w with
 | none => rfl
 | some n =>
   have := Wa hn
   dsimp only
   rw [if_neg (by omega)]
theorem ZS (a b : Bytes) : valD (a ++ b) = JP (valD a) b := by unfold valD JP; rw [List.foldl_append]
theorem valD_take_le (w : Bytes) (k : Nat) : valD (w.take k) ≤ valD w := by
 have h := ZS (w.take k) (w.drop k)
 rw [List.take_append_drop] at h
 rw [h]
 exact ab6 _ _
theorem afo (l : Bytes) : ∀ acc, acc * 10 ^ l.length ≤ JP acc l := by
 induction l with
 | nil => intro acc; simp [JP]
 | cons c l ih =>
   intro acc
   have h := ih (acc * 10 + (c.toNat - 48))
   have e : JP acc (c :: l) = JP (acc * 10 + (c.toNat - 48)) l := rfl
   rw [e, List.length_cons, Nat.pow_succ]
   refine Nat.le_trans ?_ h
   rw [show acc * (10 ^ l.length * 10) = (acc * 10) * 10 ^ l.length by rw [Nat.mul_assoc, Nat.mul_comm (10 ^ l.length) 10]]
   exact Nat.mul_le_mul_right _ (Nat.le_add_right _ _)
theorem numM_long {w : Bytes} {most : Nat} (h : 20 < w.length) : numM w most = none := by
 cases hn : num64 w with
 | none => exact numM_no hn
 | some n =>
   exfalso
   have hv := Wa hn
   have hb := num64_some hn
   match w, h with
   | c :: t, h =>
     rw [List.length_cons] at h
     have hd : (c :: t).all isDig = true := by
      cases hq : (c :: t).all isDig with
      | true => rfl
      | false => rw [num64_all hq] at hn; cases hn
     have hc : c ≠ 48 := fun e => by
      subst e
      rw [num64_zero rfl (by rw [List.length_cons]; omega)] at hn
      cases hn
     rw [List.all_cons, Bool.and_eq_true] at hd
     have hdc := hd.1
     unfold isDig at hdc
     simp only [Bool.and_eq_true, decide_eq_true_eq] at hdc
     have hc2 : c.toNat ≠ 48 := fun e => hc (UInt8.toNat_inj.1 e)
     have hp := afo t (c.toNat - 48)
     have e : valD (c :: t) = JP (c.toNat - 48) t := by
      unfold valD JP
      rw [List.foldl_cons, Nat.zero_mul, Nat.zero_add]
     have h20 : 10 ^ 20 ≤ 10 ^ t.length := Nat.pow_le_pow_right (by decide) (by omega)
     have h1 : 1 * 10 ^ t.length ≤ (c.toNat - 48) * 10 ^ t.length := Nat.mul_le_mul_right _ (by omega)
     rw [Nat.one_mul] at h1
     have h2 : (100000000000000000000 : Nat) ≤ 10 ^ t.length := h20
     rw [e] at hv
     omega
theorem numM_end {w : Bytes} {most : Nat} (h : w.all isDig = true) (h0 : w ≠ []) (h1 : ¬ (w[0]? = some 48 ∧ 1 < w.length)) (hm : most ≤ 18446744073709551615) (hv : valD w ≤ most) : numM w most = some (valD w) := by
 unfold numM
 rw [num64_ok h h0 h1, if_pos (by omega)]
 exact if_pos hv
end Cn
variable {G : World} {L : jc}
def nMV (w : Nm.Bytes) (most : Nat) : Value := match Cn.numM w most with
 | some n => .tuple #[.int .u64 (n : Nat), .bool true]
 | none => .tuple #[.int .u64 0, .bool false]
theorem J5 {w : Nm.Bytes} {most : Nat} (h : Cn.numM w most = none) : nMV w most = .tuple #[.int .u64 0, .bool false] := by unfold nMV; rw [h]
theorem abd {a : Int} (h : -9 ≤ a ∧ a < 0) : IntKind.u64.wrap a = 18446744073709551616 + a := by
 simp [IntKind.wrap, IntKind.bits, IntKind.signed]; omega
theorem zQ (w : Nm.Bytes) (most : Nat) (hw : w.length ≤ 1000000) (hm : most ≤ 18446744073709551615) : Spec Tryz.prog G 39 #[.string (bs w), .int .u64 (most : Nat)] L fun u M => u = nMV w most ∧ M = L := by
 refine ju (n := 63) Tryz.func39 rfl rfl rfl ?_
 by_cases h0 : w = []
 · subst h0
   rw [J5 (Cn.numM_no Cn.num64_nil)]
   refine goU ?_
   exact kq 4 5 rfl rfl rfl ⟨rfl, rfl⟩ jH
 have hpos : 0 < w.length := List.length_pos_iff.2 h0
 by_cases h20 : 20 < w.length
 · rw [J5 (Cn.numM_long h20)]
   refine goU ?_
   exact kq 4 5 rfl rfl rfl ⟨rfl, rfl⟩ jH
 obtain ⟨c0, hc0⟩ : ∃ c, w[0]? = some c := ⟨_, List.getElem?_eq_getElem hpos⟩
 by_cases hz : c0.toNat = 48 ∧ 1 < w.length
 · obtain ⟨hz1, hz2⟩ := hz
   have hc48 : c0 = 48 := UInt8.toNat_inj.1 hz1
   rw [J5 (Cn.numM_no (Cn.num64_zero (by rw [hc0, hc48]) hz2))]
   refine goU ?_
   exact kq 4 5 rfl rfl rfl ⟨rfl, rfl⟩ jH
 have hz2 : ¬ (w[0]? = some 48 ∧ 1 < w.length) := by
  rw [hc0]
  rintro ⟨a, b⟩
  exact hz ⟨by rw [Option.some.inj a]; rfl, b⟩
 by_cases hz1 : c0.toNat = 48
 all_goals
  refine goU ?_
  refine jK (σ := Nat) (fun k => k ≤ w.length ∧ (w.take k).all Cn.isDig = true ∧ Cn.valD (w.take k) ≤ most) (fun k => [(0, .string (bs w)), (1, .int .u64 (most : Nat)), (6, .int .u64 ((Cn.valD (w.take k) : Nat) : Int)), (7, .int .i64 (k : Nat))]) (fun _ => L) (fun k => w.length - k) 0 ⟨by omega, by simp, by simp [Cn.valD_nil]⟩ ?_ (fun _ h => h) ?_
  · exact jL
  rintro k ⟨hk, hall, hvm⟩
  by_cases hlt : k < w.length
  · obtain ⟨c, hc⟩ : ∃ c, w[k]? = some c := ⟨_, List.getElem?_eq_getElem hlt⟩
    have hcb := c.toNat_lt
    have hvt := Qg hc
    have hle := Cn.valD_take_le w (k + 1)
    obtain ⟨v, hv⟩ : ∃ v, Cn.valD (w.take k) = v := ⟨_, rfl⟩
    rw [hv] at hvt hvm ⊢
    by_cases h48 : c.toNat < 48
    · rw [J5 (Cn.numM_no (Cn.num64_all (by
       rw [List.all_eq_false]
       exact ⟨c, List.mem_of_getElem? hc, fun h => by have := dig_iff.1 h; omega⟩)))]
      refine goU ?_
      exact kq 4 5 rfl rfl rfl ⟨rfl, rfl⟩ jH
    by_cases h57 : 57 < c.toNat
    · rw [J5 (Cn.numM_no (Cn.num64_all (by
       rw [List.all_eq_false]
       exact ⟨c, List.mem_of_getElem? hc, fun h => by have := dig_iff.1 h; omega⟩)))]
      refine goU ?_
      exact kq 4 5 rfl rfl rfl ⟨rfl, rfl⟩ jH
    by_cases hdm : most < c.toNat - 48
    · rw [J5 (Cn.numM_big (by omega))]
      refine goU ?_
      refine jl (kF rfl rfl Ui) rfl ?_
      rw [abd (by omega)]
      refine goU ?_
      exact kq 4 5 rfl rfl rfl ⟨rfl, rfl⟩ jH
    by_cases hbig : ((most : Int) - ((c.toNat : Int) - 48)) / 10 < (v : Int)
    · rw [J5 (Cn.numM_big (by omega))]
      refine goU ?_
      exact kq 4 5 rfl rfl rfl ⟨rfl, rfl⟩ jH
    refine goU ?_
    refine jz (k + 1) ⟨by omega, ?_, by omega⟩ ?_ (fun _ h => h) (by omega)
    · rw [List.take_add_one, hc, List.all_append, hall]
      simp only [Option.toList, List.all_cons, List.all_nil, Bool.and_true, Bool.true_and]
      exact dig_iff.2 ⟨by omega, by omega⟩
    rw [hvt, show ((v * 10 + (c.toNat - 48) : Nat) : Int) = (v : Int) * 10 + ((c.toNat : Int) - 48) by omega]
    exact jL
  · have hkl : k = w.length := by omega
    subst hkl
    rw [List.take_length] at hall hvm ⊢
    have e : nMV w most = .tuple #[.int .u64 (Cn.valD w : Nat), .bool true] := by unfold nMV; rw [Cn.numM_end hall h0 hz2 hm hvm]
    rw [e]
    refine goU ?_
    exact kq 4 5 rfl rfl rfl ⟨rfl, rfl⟩ jH
theorem Wb (c : UInt8) : Spec Tryz.prog G 70 #[.int .u8 (c.toNat : Nat)] L fun u M => u = .int .i64 (Cn.nibI c) ∧ M = L := by
 have hcb := c.toNat_lt
 refine ju (n := 22) Tryz.func70 rfl rfl rfl ?_
 by_cases h1 : 48 ≤ c.toNat ∧ c.toNat ≤ 57
 · have e : Cn.nibI c = (c.toNat : Int) - 48 := by unfold Cn.nibI Cn.nib; rw [if_pos h1]; dsimp only; omega
   rw [e]
   obtain ⟨h2, h3⟩ := h1
   refine goU ?_
   exact kv 2 rfl rfl ⟨rfl, rfl⟩ jH
 by_cases h4 : 97 ≤ c.toNat ∧ c.toNat ≤ 102
 · have e : Cn.nibI c = (c.toNat : Int) - 97 + 10 := by unfold Cn.nibI Cn.nib; rw [if_neg h1, if_pos h4]; dsimp only; omega
   rw [e]
   obtain ⟨h2, h3⟩ := h4
   have h5 : 57 < c.toNat := by omega
   refine goU ?_
   exact kv 2 rfl rfl ⟨rfl, rfl⟩ jH
 have e : Cn.nibI c = -1 := by unfold Cn.nibI Cn.nib; rw [if_neg h1, if_neg h4]
 rw [e]
 by_cases h2 : c.toNat < 48
 · refine goU ?_
   exact kv 2 rfl rfl ⟨rfl, rfl⟩ jH
 by_cases h3 : c.toNat < 97
 · refine goU ?_
   exact kv 2 rfl rfl ⟨rfl, rfl⟩ jH
 · refine goU ?_
   exact kv 2 rfl rfl ⟨rfl, rfl⟩ jH
theorem ag3 (w : Nm.Bytes) (hw : w.length ≤ 1000000) : Spec Tryz.prog G 40 #[.string (bs w)] L fun u M => u = QT w ∧ M = L := by
 refine ju (n := 49) Tryz.func40 rfl rfl rfl ?_
 by_cases h1 : w = [45]
 · subst h1
   refine goU ?_
   exact kq 2 3 rfl rfl rfl ⟨rfl, rfl⟩ jH
 by_cases h2 : w = []
 · subst h2
   refine goU ?_
   exact kq 2 3 rfl rfl rfl ⟨rfl, rfl⟩ jH
 have hpos : 0 < w.length := List.length_pos_iff.2 h2
 have ho := KF h1 h2
 by_cases h3 : (w.length : Int) % 2 = 0
 rotate_left
 · rw [zP (by rw [ho]; exact Cn.octs_odd w (by omega))]
   refine goU ?_
   exact kq 2 3 rfl rfl rfl ⟨rfl, rfl⟩ jH
 refine goU ?_
 refine jK (σ := Nat × Nm.Bytes × Option Addr × Nat × jc) (fun x => 2 * x.1 ≤ w.length ∧ x.2.1.length = x.1 ∧ Cn.octs (w.take (2 * x.1)) = some x.2.1 ∧ ORow byR 5 1 [] x.2.2.1 x.2.2.2.1 x.2.1 x.2.2.2.2) (fun x => [(0, .string (bs w)), (4, .slice x.2.2.1 x.2.1.length x.2.2.2.1), (5, .int .i64 ((2 * x.1 : Nat) : Int))]) (fun x => x.2.2.2.2 ++ L) (fun x => w.length - x.1) (0, [], none, 0, []) ⟨by dsimp only; omega, rfl, rfl, ORow.nil _⟩ ?_ (fun w h => h) ?_
 · exact jL
 rintro ⟨i, r, a, c, B⟩ ⟨hi, hrl, hoc, hB⟩
 dsimp only at hi hrl hoc hB ⊢
 by_cases hlt : 2 * i < w.length
 · have hlt2 : 2 * i + 1 < w.length := by omega
   obtain ⟨c1, hc1⟩ : ∃ c, w[2 * i]? = some c := ⟨_, List.getElem?_eq_getElem hlt⟩
   obtain ⟨c2, hc2⟩ : ∃ c, w[2 * i + 1]? = some c := ⟨_, List.getElem?_eq_getElem hlt2⟩
   have g1 : w[((2 * i : Nat) : Int).toNat]? = some c1 := by rw [Int.toNat_natCast]; exact hc1
   have g2 : w[(((2 * i : Nat) : Int) + 1).toNat]? = some c2 := by rw [show (((2 * i : Nat) : Int) + 1).toNat = 2 * i + 1 by omega]; exact hc2
   have htk : w.take (2 * (i + 1)) = w.take (2 * i) ++ [c1, c2] := by
    rw [show 2 * (i + 1) = 2 * i + 1 + 1 by omega, List.take_add_one, List.take_add_one, hc1, hc2]
    simp
   have hbad : Cn.nib c1 = none ∨ Cn.nib c2 = none → Cn.octets w = none := fun k => by rw [ho]; exact Cn.octs_take w i hlt2 c1 c2 hc1 hc2 k
   refine goU ?_
   refine jR jo [] [] ?_
   refine tkQ 0 (hK := by simp) ?_
   refine tkQ 1 (hK := by simp) ?_
   refine tkQ 2 (hK := by simp) ?_
   refine tkQ 4 (hK := by simp) ?_
   refine tkQ 5 (hK := by simp) ?_
   refine tkQ 6 (hK := by simp) ?_
   refine tkQ 7 (hK := by simp) ?_
   refine ahE 3 (Wb (L := B ++ L) c1) ?_ (hf := kP)
   rintro _ _ ⟨rfl, rfl⟩
   refine ⟨by simp, ?_⟩
   refine ahE 8 (Wb (L := B ++ L) c2) ?_ (hf := kP)
   rintro _ _ ⟨rfl, rfl⟩
   refine ⟨by simp, ?_⟩
   refine tkQ 9 (hK := by simp) ?_
   refine tkQ 10 (hK := by simp) ?_
   refine tdQ ?_
   unfold Cn.nibI
   cases hn1 : Cn.nib c1 with
   | none =>
     rw [zP (hbad (Or.inl hn1))]
     dsimp only
     refine goU ?_
     exact kq 2 3 rfl rfl rfl ⟨rfl, rfl⟩ jH
   | some x =>
     have hx := Cn.nib_le hn1
     cases hn2 : Cn.nib c2 with
     | none =>
       rw [zP (hbad (Or.inr hn2))]
       dsimp only
       refine goU ?_
       exact kq 2 3 rfl rfl rfl ⟨rfl, rfl⟩ jH
     | some y =>
       have hy := Cn.nib_le hn2
       dsimp only
       refine goU ?_
       refine jD ?_
       intro bL
       have hcv : (16 * (x : Int) + (y : Int)) = ((UInt8.ofNat (16 * x + y)).toNat : Nat) := by simp; omega
       refine V7 (UInt8.ofNat (16 * x + y)) hB (cs := [.int .u8 (16 * (x : Int) + (y : Int))]) (congrArg (fun z => [Value.int .u8 z]) hcv) ?_
       intro a' c' B' hB'
       refine goU ?_
       refine jz (i + 1, r ++ [UInt8.ofNat (16 * x + y)], a', c', B') ⟨by dsimp only; omega, by simp [hrl], ?_, hB'⟩ ?_ (fun w h => h) (by dsimp only; omega)
       · dsimp only
         rw [htk]
         exact Cn.octs_snoc _ _ _ _ _ _ hoc hn1 hn2
       dsimp only
       rw [show ((2 * (i + 1) : Nat) : Int) = ((2 * i : Nat) : Int) + 2 by omega]
       exact jL
 · have hil : 2 * i = w.length := by omega
   rw [hil, List.take_length] at hoc
   have hov : QT w = .tuple #[.string (bs r), .bool true] := by unfold QT; rw [ho, hoc]
   rw [hov]
   have hpos2 : 0 < r.length := by omega
   rcases hB.one with ⟨_, _, rfl, _⟩ | ⟨b, cur, rfl, rfl, _⟩
   · simp at hpos2
   have hsl := ORow.sliceR (L' := [(b, Obj.cells cur 5 (0, 0))]) (fun _ _ _ _ _ h => h : Vl byR) hB (by simp) (fun p hp => hp)
   have hcell : ∀ j (hj : j < r.length), cur[0 + j]? = some (.int .u8 (r[j].toNat : Int)) := fun j hj => by
    obtain ⟨b1, o1, C1, t1, f1, e, m1, cs1, hn1, hcs1, hcl⟩ := sliceR.at hsl (List.getElem?_eq_getElem hj)
    cases e
    rw [List.mem_singleton] at m1
    cases m1
    obtain rfl : cs1 = [.int .u8 (r[j].toNat : Nat)] := hcs1
    have := hcl 0 _ rfl
    simpa using this
   refine goU ?_
   refine jl (kR r rfl rfl Tryz.underlying76 Tryz.underlying5 Tryz.underlying9 (List.mem_cons_self ..) hcell) rfl ?_
   refine goU ?_
   exact kq 2 3 rfl rfl rfl ⟨rfl, rfl⟩ jH
end
section
open Go.RowKit
open Cn (Zo Cf Scr Evn)
variable {G : World} {L : jc}
def evR : Rp Evn := fun _ cs e => cs = [.int .u8 (e.kind : Nat), .int .i64 e.frm, .int .i64 e.num, .string (bs e.data)] ∧ e.kind ≤ 255 ∧ I64 e.frm ∧ I64 e.num ∧ e.data.length ≤ maxLen
def Ym : Rp Nat := fun _ cs n => cs = [.int .u64 (n : Nat)] ∧ n < 18446744073709551616
theorem Q9 : Vl evR := fun _ _ _ _ _ h => h
theorem KG : Vl Ym := fun _ _ _ _ _ h => h
instance : Inhabited Evn := ⟨⟨0, 0, 0, []⟩⟩
def scC (x : Scr) (cv a b : Value) : List Value := jg x.cf cv ++ [.int .u64 (x.seed : Nat), a, b]
structure ScIn (x : Scr) (cv : Value) (C : List Value) (B : jc) : Prop where
 ex : ∃ a1 c1 B1 a2 c2 B2, C = scC x cv (.slice a1 x.first.length c1) (.slice a2 x.evs.length c2) ∧ ORow Ym 26 1 [] a1 c1 x.first B1 ∧ ORow evR 42 4 [] a2 c2 x.evs B2 ∧ B = B1 ++ B2
def Ua (bx : Nat) (cv : Value) (L : jc) (o : Option Scr) (u : Value) (M : jc) : Prop := ∃ C B, C.length = 16 ∧ M = (bx, Obj.cells C.toArray 36 (0, 0)) :: (B ++ L) ∧ match o with
 | some y => u = .bool true ∧ ScIn y cv C B
 | none => u = .bool false
theorem ScIn.len {x : Scr} {cv : Value} {C : List Value} {B : jc} (h : ScIn x cv C B) : C.length = 16 := by
 obtain ⟨_, _, _, _, _, _, rfl, _⟩ := h.ex
 rfl
abbrev ScM (bx : Nat) (C : List Value) (B L : jc) : jc := (bx, Obj.cells C.toArray 36 (0, 0)) :: (B ++ L)
theorem ag4 (bx : Nat) (x : Scr) (cv : Value) (C : List Value) (B : jc) (h : ScIn x cv C B) (bw : Nat) (ws : List Nm.Bytes) {tw : TypeId} {fw : Nat × Nat} (hw : (bw, Obj.cells (ws.map ka).toArray tw fw) ∈ L) (hn : ws.length ≤ 1000000) (hl : ∀ w ∈ ws, w.length ≤ 1000000) (hg : GlobS L) :
 Spec Tryz.prog G 47 #[.pointer (some ⟨bx, 0, none⟩), .slice (some ⟨bw, 0, none⟩) ws.length ws.length] (ScM bx C B L) (Ua bx cv L ((Cn.seedP ws).map fun v => { x with seed := v })) := by
 obtain ⟨a1, c1, B1, a2, c2, B2, rfl, r1, r2, rfl⟩ := h.ex
 have hgM : GlobS (ScM bx (scC x cv (.slice a1 x.first.length c1) (.slice a2 x.evs.length c2)) (B1 ++ B2) L) := hg.mono (fun p hp => List.mem_cons_of_mem _ (List.mem_append_right _ hp))
 have hwM : (bw, Obj.cells (ws.map ka).toArray tw fw) ∈ ScM bx (scC x cv (.slice a1 x.first.length c1) (.slice a2 x.evs.length c2)) (B1 ++ B2) L := List.mem_cons_of_mem _ (List.mem_append_right _ hw)
 refine ju (n := 28) Tryz.func47 rfl rfl rfl ?_
 by_cases h2 : ws.length = 2
 rotate_left
 · have e : Cn.seedP ws = none := by
    match ws, h2 with
    | [], _ => rfl
    | [_], _ => rfl
    | [_, _], h2 => exact absurd rfl h2
    | _ :: _ :: _ :: _, _ => rfl
   rw [e]
   refine goU ?_
   exact kv 4 rfl rfl ⟨_, _, rfl, rfl, rfl⟩ jH
 obtain ⟨x1, x2, rfl⟩ : ∃ x1 x2, ws = [x1, x2] := by
  match ws, h2 with
  | [x1, x2], _ => exact ⟨x1, x2, rfl⟩
 have hl2 := hl x2 (by simp)
 have d0 : (([x1, x2] : List Nm.Bytes).map ka).toArray[0 + 0 * 1]? = some (.string (bs x1)) := rfl
 have d1 : (([x1, x2] : List Nm.Bytes).map ka).toArray[0 + 1 * 1]? = some (.string (bs x2)) := rfl
 rw [show ([x1, x2] : List Nm.Bytes).length = 2 from rfl]
 by_cases hs : x1 = Cn.seedW
 rotate_left
 · have e : Cn.seedP [x1, x2] = none := if_neg hs
   rw [e]
   unfold Cn.seedW at hs
   refine goU ?_
   exact kv 4 rfl rfl ⟨_, _, rfl, rfl, rfl⟩ jH
 have e : Cn.seedP [x1, x2] = Cn.num64 x2 := if_pos hs
 rw [e]
 unfold Cn.seedW at hs
 refine goU ?_
 refine uE (Qi x2 hl2 hgM) ?_
 unfold UZ
 cases hn : Cn.num64 x2 with
 | none =>
   refine goU ?_
   exact kv 4 rfl rfl ⟨_, _, rfl, rfl, rfl⟩ jH
 | some n =>
   refine goU ?_
   exact kv 4 rfl rfl ⟨scC { x with seed := n } cv (.slice a1 x.first.length c1) (.slice a2 x.evs.length c2), B1 ++ B2, rfl, rfl, rfl, ⟨a1, c1, B1, a2, c2, B2, rfl, r1, r2, rfl⟩⟩ jH
theorem Qj {ws : List Nm.Bytes} {a : Nm.Bytes} (h1 : a = Cn.tapeW) (h2 : ws.length ≤ 256) : Cn.tapeP (a :: ws) = Cn.nums ws := if_pos ⟨h1, h2⟩
theorem KH {ws : List Nm.Bytes} {a : Nm.Bytes} (h : ¬ (a = Cn.tapeW ∧ ws.length ≤ 256)) : Cn.tapeP (a :: ws) = none := if_neg h
theorem ag5 (bx : Nat) (x : Scr) (cv : Value) (C : List Value) (B : jc) (h : ScIn x cv C B) (h0 : x.first = []) (bw : Nat) (w0 : Nm.Bytes) (ws : List Nm.Bytes) {tw : TypeId} {fw : Nat × Nat} (hw : (bw, Obj.cells ((w0 :: ws).map ka).toArray tw fw) ∈ L) (hn : ws.length ≤ 1000000) (hl : ∀ w ∈ ws, w.length ≤ 1000000) (hg : GlobS L) :
 Spec Tryz.prog G 48 #[.pointer (some ⟨bx, 0, none⟩), .slice (some ⟨bw, 0, none⟩) (w0 :: ws).length (w0 :: ws).length] (ScM bx C B L) (Ua bx cv L ((Cn.tapeP (w0 :: ws)).map fun v => { x with first := v })) := by
 obtain ⟨a1, c1, B1, a2, c2, B2, rfl, r1, r2, rfl⟩ := h.ex
 have hwM : ∀ (C : List Value) (B : jc), (bw, Obj.cells ((w0 :: ws).map ka).toArray tw fw) ∈ ScM bx C B L := fun C B => List.mem_cons_of_mem _ (List.mem_append_right _ hw)
 have hgM : ∀ (C : List Value) (B : jc), GlobS (ScM bx C B L) := fun C B => hg.mono (fun p hp => List.mem_cons_of_mem _ (List.mem_append_right _ hp))
 rw [h0] at r1 ⊢
 have d0 : ((w0 :: ws).map ka).toArray[0 + 0 * 1]? = some (.string (bs w0)) := rfl
 rw [List.length_cons]
 refine ju (n := 44) Tryz.func48 rfl rfl rfl ?_
 by_cases hs : w0 = Cn.tapeW
 rotate_left
 · rw [KH (fun q => hs q.1)]
   unfold Cn.tapeW at hs
   have q := hwM (scC x cv (.slice a1 0 c1) (.slice a2 x.evs.length c2)) (B1 ++ B2)
   refine goU ?_
   exact kv 4 rfl rfl ⟨_, _, rfl, rfl, rfl⟩ jH
 by_cases hn2 : ws.length ≤ 256
 rotate_left
 · rw [KH (fun q => hn2 q.2)]
   unfold Cn.tapeW at hs
   have q := hwM (scC x cv (.slice a1 0 c1) (.slice a2 x.evs.length c2)) (B1 ++ B2)
   refine goU ?_
   exact kv 4 rfl rfl ⟨_, _, rfl, rfl, rfl⟩ jH
 rw [Qj hs hn2]
 unfold Cn.tapeW at hs
 have q := hwM (scC x cv (.slice a1 0 c1) (.slice a2 x.evs.length c2)) (B1 ++ B2)
 have hct : ws ≠ [] → yx (some ⟨bw, 0, none⟩) (ws.length + 1) 1 1 = some ⟨bw, 1, none⟩ := fun k => by
  have := List.length_pos_iff.2 k
  unfold yx
  first
  | (rw [if_neg (by omega)]; rfl)
  | (simp; omega)
 obtain ⟨sa, hsa⟩ : ∃ sa, yx (some ⟨bw, 0, none⟩) (ws.length + 1) 1 1 = sa := ⟨_, rfl⟩
 rw [hsa] at hct
 refine goU ?_
 refine jK (σ := Nat × List Nat × Option Addr × Nat × jc) (fun y => y.1 ≤ ws.length ∧ y.2.1.length = y.1 ∧ Cn.nums (ws.take y.1) = some y.2.1 ∧ ORow Ym 26 1 [] y.2.2.1 y.2.2.2.1 y.2.1 y.2.2.2.2) (fun y => [(0, .pointer (some ⟨bx, 0, none⟩)), (20, .slice sa ws.length ws.length), (21, .int .i64 (ws.length : Nat)), (22, .int .i64 (y.1 : Nat))])
  (fun y => (bx, Obj.cells (scC x cv (.slice y.2.2.1 y.2.1.length y.2.2.2.1) (.slice a2 x.evs.length c2)).toArray 36 (0, 0)) :: (y.2.2.2.2 ++ (B2 ++ L))) (fun y => ws.length - y.1) (0, [], a1, c1, B1) ⟨by omega, rfl, rfl, r1⟩ ?_ (fun w h => by
    have h' : Heap G w ((bx, Obj.cells (scC x cv (.slice a1 ([] : List Nat).length c1) (.slice a2 x.evs.length c2)).toArray 36 (0, 0)) :: ((B1 ++ B2) ++ L)) := h
    exact Heap.cnt h' (by intro p; (try simp only [jw, jC, jI]) <;> omega)) ?_
 · rw [← hsa]
   exact jL
 rintro ⟨k, l, a, c, B⟩ ⟨hk, hll, hnm, hB⟩
 dsimp only at hk hll hnm hB ⊢
 have hw2 : (bw, Obj.cells ((w0 :: ws).map ka).toArray tw fw) ∈ (bx, Obj.cells (scC x cv (.slice a l.length c) (.slice a2 x.evs.length c2)).toArray 36 (0, 0)) :: (B ++ (B2 ++ L)) := List.mem_cons_of_mem _ (List.mem_append_right _ (List.mem_append_right _ hw))
 have hg2 : GlobS ((bx, Obj.cells (scC x cv (.slice a l.length c) (.slice a2 x.evs.length c2)).toArray 36 (0, 0)) :: (B ++ (B2 ++ L))) := hg.mono fun p hp => List.mem_cons_of_mem _ (List.mem_append_right _ (List.mem_append_right _ hp))
 by_cases hlt : k < ws.length
 · obtain ⟨w, hwk⟩ : ∃ w, ws[k]? = some w := ⟨_, List.getElem?_eq_getElem hlt⟩
   have hwl := hl w (List.mem_of_getElem? hwk)
   obtain rfl : sa = some ⟨bw, 1, none⟩ := hct (fun e => by rw [e] at hlt; simp at hlt)
   have htk : ws.take (k + 1) = ws.take k ++ [w] := by rw [List.take_add_one, hwk]; rfl
   have dk : ((w0 :: ws).map ka).toArray[1 + (k : Int).toNat * 1]? = some (.string (bs w)) := by
    rw [Int.toNat_natCast, Nat.mul_one, List.getElem?_toArray, Nat.add_comm, List.map_cons, List.getElem?_cons_succ, List.getElem?_map, hwk]
    rfl
   refine goU ?_
   refine uE (Qi w hwl hg2) ?_
   unfold UZ
   cases hnw : Cn.num64 w with
   | none =>
     rw [Cn.nums_no hwk hnw]
     refine goU ?_
     exact kv 4 rfl rfl (M := (bx, Obj.cells (scC x cv (.slice a l.length c) (.slice a2 x.evs.length c2)).toArray 36 (0, 0)) :: ([] ++ L)) ⟨_, [], rfl, rfl, rfl⟩ jH
   | some n =>
     have hnb := Cn.num64_some hnw
     refine goU ?_
     refine jD ?_
     intro bL
     refine V7 n hB (cs := [.int .u64 (n : Nat)]) ⟨rfl, hnb⟩ ?_
     intro a' c' B' hB'
     refine goU ?_
     refine jz (k + 1, l ++ [n], a', c', B') ⟨by dsimp only; omega, by simp [hll], ?_, hB'⟩ ?_ (fun w h => by
      have h' : Heap G w (B' ++ ((bx, Obj.cells (scC x cv (.slice a' (l ++ [n]).length c') (.slice a2 x.evs.length c2)).toArray 36 (0, 0)) :: (B2 ++ L))) := h
      exact Heap.cnt h' (by intro p; (try simp only [jw, jC, jI]) <;> omega)) (by dsimp only; omega)
     · dsimp only
       rw [htk]
       exact Cn.nums_snoc _ _ _ _ hnm hnw
     exact jL
 · have hkl : k = ws.length := by omega
   subst hkl
   rw [List.take_length] at hnm
   rw [hnm]
   refine goU ?_
   refine kv 4 rfl rfl (M := (bx, Obj.cells (scC { x with first := l } cv (.slice a l.length c) (.slice a2 x.evs.length c2)).toArray 36 (0, 0)) :: ((B ++ B2) ++ L)) ⟨_, B ++ B2, ?_, rfl, rfl, ⟨a, c, B, a2, c2, B2, rfl, hB, r2, rfl⟩⟩ jH
   rfl
end
section
open Go.RowKit
open Cn (Zo Cf Scr Evn)
variable {G : World} {L : jc}
theorem uS {a b : Nm.Bytes} : Cn.eventP [a, b] = match Cn.num64 b with
  | some n => if a = Cn.tickW ∧ n ≤ 1099511627776 then some ⟨3, 0, n, []⟩ else none
  | none => none := rfl
theorem q8 {a b c : Nm.Bytes} : Cn.eventP [a, b, c] = match Cn.num64 b, Cn.octets c with
  | some n, some d => if (a = Cn.clientW ∨ a = Cn.replyW) ∧ n ≤ 2147483647 then some ⟨if a = Cn.clientW then 1 else 2, n, 0, d⟩ else none
  | _, _ => none := rfl
theorem adx {a b : Nm.Bytes} {t : List Nm.Bytes} (h : Cn.num64 b = none) : Cn.eventP (a :: b :: t) = none := by
 match t with
 | [] => rw [uS, h]
 | [c] => rw [q8, h]
 | _ :: _ :: _ => rfl
theorem abe {a b : Nm.Bytes} {t : List Nm.Bytes} (h1 : a ≠ Cn.clientW) (h2 : a ≠ Cn.replyW) (h3 : a ≠ Cn.tickW) : Cn.eventP (a :: b :: t) = none := by
 match t with
 | [] =>
   rw [uS]
   split
   · rw [if_neg (fun q => h3 q.1)]
   · rfl
 | [c] =>
   rw [q8]
   split
   · rw [if_neg (fun q => q.1.elim h1 h2)]
   · rfl
 | _ :: _ :: _ => rfl
theorem abf {b : Nm.Bytes} {t : List Nm.Bytes} (h : t ≠ []) : Cn.eventP (Cn.tickW :: b :: t) = none := by
 match t, h with
 | [], h => exact absurd rfl h
 | [c], _ =>
   rw [q8]
   split
   · rw [if_neg (by rintro ⟨q | q, _⟩ <;> exact absurd q (by decide))]
   · rfl
 | _ :: _ :: _, _ => rfl
theorem ady {a b : Nm.Bytes} {t : List Nm.Bytes} (ha : a = Cn.clientW ∨ a = Cn.replyW) (h : t.length ≠ 1) : Cn.eventP (a :: b :: t) = none := by
 match t, h with
 | [], _ =>
   rw [uS]
   split
   · rw [if_neg (by rintro ⟨q, _⟩; rcases ha with rfl | rfl <;> exact absurd q (by decide))]
   · rfl
 | [_], h => exact absurd rfl h
 | _ :: _ :: _, _ => rfl
theorem aci {w d : Nm.Bytes} (h : Cn.octets w = some d) : d.length ≤ w.length := by
 unfold Cn.octets at h
 split at h
 · cases h; simp
 · split at h
   · cases h
   · have := Cn.octs_len _ _ h
     omega
theorem afp (bx : Nat) (x : Scr) (cv : Value) (C : List Value) (B : jc) (h : ScIn x cv C B) (hsm : x.evs.length ≤ 1000000) (bw : Nat) (ws : List Nm.Bytes) {tw : TypeId} {fw : Nat × Nat} (hw : (bw, Obj.cells (ws.map ka).toArray tw fw) ∈ L) (hn : ws.length ≤ 1000000) (hl : ∀ w ∈ ws, w.length ≤ 1000000) (hg : GlobS L) :
 Spec Tryz.prog G 49 #[.pointer (some ⟨bx, 0, none⟩), .slice (some ⟨bw, 0, none⟩) ws.length ws.length] (ScM bx C B L) (Ua bx cv L ((Cn.eventP ws).map fun v => { x with evs := x.evs ++ [v] })) := by
 obtain ⟨a1, c1, B1, a2, c2, B2, rfl, r1, r2, rfl⟩ := h.ex
 have hwM : ∀ (K C : List Value) (B : jc) (b : Nat) (t : TypeId), (bw, Obj.cells (ws.map ka).toArray tw fw) ∈ (b, Obj.cells K.toArray t (0, 0)) :: ScM bx C B L := fun K C B b t => List.mem_cons_of_mem _ (List.mem_cons_of_mem _ (List.mem_append_right _ hw))
 have hwM0 : ∀ (C : List Value) (B : jc), (bw, Obj.cells (ws.map ka).toArray tw fw) ∈ ScM bx C B L := fun C B => List.mem_cons_of_mem _ (List.mem_append_right _ hw)
 have hgM : ∀ (C : List Value) (B : jc), GlobS (ScM bx C B L) := fun C B => hg.mono (fun p hp => List.mem_cons_of_mem _ (List.mem_append_right _ hp))
 refine ju (n := 81) Tryz.func49 rfl rfl rfl ?_
 by_cases h2 : ws.length < 2
 · have e : Cn.eventP ws = none := by
    match ws, h2 with
    | [], _ => rfl
    | [_], _ => rfl
    | _ :: _ :: _, h2 => simp at h2; omega
   rw [e]
   refine goU ?_
   exact kv 4 rfl rfl ⟨_, _, rfl, rfl, rfl⟩ jH
 obtain ⟨w0, w1, t, rfl⟩ : ∃ w0 w1 t, ws = w0 :: w1 :: t := by
  match ws, h2 with
  | w0 :: w1 :: t, _ => exact ⟨w0, w1, t, rfl⟩
  | [], h2 => simp at h2
  | [_], h2 => simp at h2
 have hl1 := hl w1 (by simp)
 have hlen : (w0 :: w1 :: t : List Nm.Bytes).length = t.length + 2 := rfl
 rw [hlen] at hn ⊢
 have d0 : ((w0 :: w1 :: t : List Nm.Bytes).map ka).toArray[0 + 0 * 1]? = some (.string (bs w0)) := rfl
 have d1 : ((w0 :: w1 :: t : List Nm.Bytes).map ka).toArray[0 + 1 * 1]? = some (.string (bs w1)) := rfl
 have q0 := hwM0 (scC x cv (.slice a1 x.first.length c1) (.slice a2 x.evs.length c2)) (B1 ++ B2)
 refine goU ?_
 refine uE (Qi w1 hl1 (hgM _ _)) ?_
 unfold UZ
 cases hnum : Cn.num64 w1 with
 | none =>
   rw [adx hnum]
   refine goU ?_
   exact kv 4 rfl rfl ⟨_, _, rfl, rfl, rfl⟩ jH
 | some n =>
   have hnb := Cn.num64_some hnum
   refine goU ?_
   refine jx ?_
   intro b7
   have hz : ∀ z : Value, (bw, Obj.cells ((w0 :: w1 :: t).map ka).toArray tw fw) ∈ (b7, Obj.cells #[z, .int .i64 0, .int .i64 0, .string (bs [])] 42 (0, 0)) :: ScM bx (scC x cv (.slice a1 x.first.length c1) (.slice a2 x.evs.length c2)) (B1 ++ B2) L := fun z => List.mem_cons_of_mem _ q0
   have hcr : ((w0 = Cn.clientW ∧ ∃ κ : Nat, κ = 1 ∧ (if w0 = Cn.clientW then 1 else 2) = κ) ∨ (w0 ≠ Cn.clientW ∧ w0 = Cn.replyW ∧ ∃ κ : Nat, κ = 2 ∧ (if w0 = Cn.clientW then 1 else 2) = κ)) ∨ (w0 ≠ Cn.clientW ∧ w0 ≠ Cn.replyW) := by
    by_cases hc : w0 = Cn.clientW
    · exact Or.inl (Or.inl ⟨hc, 1, rfl, if_pos hc⟩)
    · by_cases hr : w0 = Cn.replyW
      · exact Or.inl (Or.inr ⟨hc, hr, 2, rfl, if_neg hc⟩)
      · exact Or.inr ⟨hc, hr⟩
   have hword : w0 = Cn.clientW ∨ w0 = Cn.replyW → t.length ≠ 1 → Cn.eventP (w0 :: w1 :: t) = none := fun k1 k2 => ady k1 k2
   rcases hcr with hcr | ⟨hc, hr⟩
   · have hcr : (w0 = Cn.clientW ∧ ∃ κ : Nat, κ = 1 ∧ (if w0 = Cn.clientW then 1 else 2) = κ) ∨ (w0 ≠ Cn.clientW ∧ w0 = Cn.replyW ∧ ∃ κ : Nat, κ = 2 ∧ (if w0 = Cn.clientW then 1 else 2) = κ) := hcr
     rcases hcr with ⟨hc, κ, hκ, hif⟩ | ⟨hc, hr, κ, hκ, hif⟩
     all_goals
      have hwd : w0 = Cn.clientW ∨ w0 = Cn.replyW := by first | exact Or.inl hc | exact Or.inr hr
      have hkb : κ ≤ 255 := by omega
      unfold Cn.clientW at hc
      try unfold Cn.replyW at hr
      by_cases ht1 : t.length = 1
      rotate_left
      · rw [hword hwd ht1]
        refine goU ?_
        exact kv 4 rfl rfl (M := (bx, Obj.cells (scC x cv (.slice a1 x.first.length c1) (.slice a2 x.evs.length c2)).toArray 36 (0, 0)) :: ([] ++ L)) ⟨_, [], rfl, rfl, rfl⟩ jH
      obtain ⟨w2, rfl⟩ : ∃ w2, t = [w2] := by
       match t, ht1 with
       | [w2], _ => exact ⟨w2, rfl⟩
      have hl2 := hl w2 (by simp)
      have d2 : ((w0 :: w1 :: [w2] : List Nm.Bytes).map ka).toArray[0 + 2 * 1]? = some (.string (bs w2)) := rfl
      rw [q8, hnum, hif]
      by_cases hn31 : n ≤ 2147483647
      rotate_left
      · have e : (match some n, Cn.octets w2 with
         | some n, some d => if (w0 = Cn.clientW ∨ w0 = Cn.replyW) ∧ n ≤ 2147483647 then some (⟨κ, n, 0, d⟩ : Evn) else none
         | _, _ => none) = none := by
         cases Cn.octets w2 with
         | none => rfl
         | some d => exact if_neg (fun q => hn31 q.2)
        rw [e]
        refine goU ?_
        exact kv 4 rfl rfl (M := (bx, Obj.cells (scC x cv (.slice a1 x.first.length c1) (.slice a2 x.evs.length c2)).toArray 36 (0, 0)) :: ([] ++ L)) ⟨_, [], rfl, rfl, rfl⟩ jH
      refine goU ?_
      obtain ⟨dd, ok, hov, hdl, hcase⟩ : ∃ dd ok, QT w2 = .tuple #[.string (bs dd), .bool ok] ∧ dd.length ≤ 1000000 ∧ ((match some n, Cn.octets w2 with
        | some n, some d => if (w0 = Cn.clientW ∨ w0 = Cn.replyW) ∧ n ≤ 2147483647 then some (⟨κ, n, 0, d⟩ : Evn) else none
        | _, _ => none) = if ok = true then some ⟨κ, n, 0, dd⟩ else none) := by
       unfold QT
       cases ho : Cn.octets w2 with
       | none => exact ⟨[], false, rfl, by simp, rfl⟩
       | some d => exact ⟨d, true, rfl, by have := aci ho; omega, if_pos ⟨hwd, hn31⟩⟩
      rw [hcase]
      refine uE (afn w2 hl2) ?_
      rw [hov]
      refine goU ?_
      refine Wq (L' := (b7, Obj.cells #[.int .u8 (κ : Nat), .int .i64 (n : Nat), .int .i64 0, .string (bs dd)] 42 (0, 0)) :: (bx, Obj.cells (scC x cv (.slice a1 x.first.length c1) (.slice a2 x.evs.length c2)).toArray 36 (0, 0)) :: (B1 ++ (B2 ++ L))) (fun w h => by
       subst hκ
       have h' : Heap G w ((b7, Obj.cells #[.int .u8 _, .int .i64 (n : Nat), .int .i64 0, .string (bs dd)] 42 (0, 0)) :: (bx, Obj.cells (scC x cv (.slice a1 x.first.length c1) (.slice a2 x.evs.length c2)).toArray 36 (0, 0)) :: ((B1 ++ B2) ++ L)) := h
       rw [List.append_assoc] at h'
       exact h') ?_
      refine jR jo [(bx, Obj.cells (scC x cv (.slice a1 x.first.length c1) (.slice a2 x.evs.length c2)).toArray 36 (0, 0)), (b7, Obj.cells #[.int .u8 (κ : Nat), .int .i64 (n : Nat), .int .i64 0, .string (bs dd)] 42 (0, 0))] [10] ?_
      refine tkQ 0 (hK := j4) ?_
      refine tkQ 1 (hK := j4) ?_
      refine tkQ 2 (hK := j4) ?_
      refine tkQ 3 (hK := j4) ?_
      refine tkQ 4 (hK := j4) ?_
      refine tkQ 5 (hK := j4) ?_
      refine V9 6 (Q3 (cs := [.int .u8 (κ : Nat), .int .i64 (n : Nat), .int .i64 0, .string (bs dd)]) etO rfl rfl (by simp)) ?_
      rintro _ _ ⟨bL, rfl, rfl⟩
      refine ⟨j4, ?_⟩
      have hev : evR [] [.int .u8 (κ : Nat), .int .i64 (n : Nat), .int .i64 0, .string (bs dd)] ⟨κ, n, 0, dd⟩ := ⟨rfl, hkb, by unfold I64; dsimp only; omega, by unfold I64; dsimp only; omega, by unfold maxLen; dsimp only; omega⟩
      have hone : ([.int .u8 (κ : Nat), .int .i64 (n : Nat), .int .i64 0, .string (bs dd)] : List Value).all (·.oneCell') = true := rfl
      refine V9 7 (uJ (bytes := 40) (y := ⟨κ, n, 0, dd⟩) etO rfl rfl r2 rfl (fun v hv => List.all_eq_true.1 hone v hv) hev (by unfold maxLen; omega) (by omega)) ?_
      rintro _ _ ⟨a', c', B', rfl, hB', rfl⟩
      refine ⟨j4, ?_⟩
      refine tkQ 8 (hK := j4) ?_
      refine tkQ 9 (hK := j4) ?_
      refine adw 10 ?_
      refine tdQ ?_
      refine goU ?_
      cases ok with
      | true => exact kv 4 rfl rfl (M := (bx, Obj.cells (scC { x with evs := x.evs ++ [⟨κ, n, 0, dd⟩] } cv (.slice a1 x.first.length c1) (.slice a' (x.evs ++ [(⟨κ, n, 0, dd⟩ : Evn)]).length c')).toArray 36 (0, 0)) :: ((B1 ++ B') ++ L)) ⟨_, B1 ++ B', rfl, rfl, rfl, ⟨a1, c1, B1, a', c', B', rfl, r1, hB', rfl⟩⟩ jH
      | false => exact kv 4 rfl rfl (M := (bx, Obj.cells (scC { x with evs := x.evs ++ [⟨κ, n, 0, dd⟩] } cv (.slice a1 x.first.length c1) (.slice a' (x.evs ++ [(⟨κ, n, 0, dd⟩ : Evn)]).length c')).toArray 36 (0, 0)) :: ([] ++ L)) ⟨_, [], rfl, rfl, rfl⟩ jH
   by_cases ht : w0 = Cn.tickW
   rotate_left
   · rw [abe hc hr ht]
     unfold Cn.clientW at hc
     unfold Cn.replyW at hr
     unfold Cn.tickW at ht
     have q1 := hz (.int .u8 0)
     refine goU ?_
     exact kv 4 rfl rfl (M := (bx, Obj.cells (scC x cv (.slice a1 x.first.length c1) (.slice a2 x.evs.length c2)).toArray 36 (0, 0)) :: ([] ++ L)) ⟨_, [], rfl, rfl, rfl⟩ jH
   have q1 := hz (.int .u8 0)
   have ht2 := ht
   unfold Cn.clientW at hc
   unfold Cn.replyW at hr
   unfold Cn.tickW at ht
   by_cases ht0 : t = []
   rotate_left
   · rw [ht2, abf ht0]
     have := List.length_pos_iff.2 ht0
     refine goU ?_
     exact kv 4 rfl rfl (M := (bx, Obj.cells (scC x cv (.slice a1 x.first.length c1) (.slice a2 x.evs.length c2)).toArray 36 (0, 0)) :: ([] ++ L)) ⟨_, [], rfl, rfl, rfl⟩ jH
   subst ht0
   rw [uS, hnum]
   dsimp only
   by_cases hn40 : n ≤ 1099511627776
   rotate_left
   · rw [if_neg (fun q => hn40 q.2)]
     refine goU ?_
     exact kv 4 rfl rfl (M := (bx, Obj.cells (scC x cv (.slice a1 x.first.length c1) (.slice a2 x.evs.length c2)).toArray 36 (0, 0)) :: ([] ++ L)) ⟨_, [], rfl, rfl, rfl⟩ jH
   rw [if_pos ⟨ht2, hn40⟩]
   refine goU ?_
   refine Wq (L' := (b7, Obj.cells #[.int .u8 3, .int .i64 0, .int .i64 (n : Nat), .string (bs [])] 42 (0, 0)) :: (bx, Obj.cells (scC x cv (.slice a1 x.first.length c1) (.slice a2 x.evs.length c2)).toArray 36 (0, 0)) :: (B1 ++ (B2 ++ L))) (fun w h => by
    have h' : Heap G w ((b7, Obj.cells #[.int .u8 3, .int .i64 0, .int .i64 (n : Nat), .string (bs [])] 42 (0, 0)) :: (bx, Obj.cells (scC x cv (.slice a1 x.first.length c1) (.slice a2 x.evs.length c2)).toArray 36 (0, 0)) :: ((B1 ++ B2) ++ L)) := h
    rwa [List.append_assoc] at h') ?_
   refine jR jo [(bx, Obj.cells (scC x cv (.slice a1 x.first.length c1) (.slice a2 x.evs.length c2)).toArray 36 (0, 0)), (b7, Obj.cells #[.int .u8 3, .int .i64 0, .int .i64 (n : Nat), .string (bs [])] 42 (0, 0))] [10] ?_
   refine tkQ 0 (hK := j4) ?_
   refine tkQ 1 (hK := j4) ?_
   refine tkQ 2 (hK := j4) ?_
   refine tkQ 3 (hK := j4) ?_
   refine tkQ 4 (hK := j4) ?_
   refine tkQ 5 (hK := j4) ?_
   refine V9 6 (Q3 (cs := [.int .u8 3, .int .i64 0, .int .i64 (n : Nat), .string (bs [])]) etO rfl rfl (by simp)) ?_
   rintro _ _ ⟨bL, rfl, rfl⟩
   refine ⟨j4, ?_⟩
   have hev : evR [] [.int .u8 3, .int .i64 0, .int .i64 (n : Nat), .string (bs [])] ⟨3, 0, n, []⟩ := ⟨rfl, by show 3 ≤ 255; decide, by unfold I64; dsimp only; omega, by unfold I64; dsimp only; omega, by unfold maxLen; simp⟩
   have hone : ([.int .u8 3, .int .i64 0, .int .i64 (n : Nat), .string (bs [])] : List Value).all (·.oneCell') = true := rfl
   refine V9 7 (uJ (bytes := 40) (y := ⟨3, 0, n, []⟩) etO rfl rfl r2 rfl (fun v hv => List.all_eq_true.1 hone v hv) hev (by unfold maxLen; omega) (by omega)) ?_
   rintro _ _ ⟨a', c', B', rfl, hB', rfl⟩
   refine ⟨j4, ?_⟩
   refine tkQ 8 (hK := j4) ?_
   refine tkQ 9 (hK := j4) ?_
   refine adw 10 ?_
   refine tdQ ?_
   refine goU ?_
   exact kv 4 rfl rfl (M := (bx, Obj.cells (scC { x with evs := x.evs ++ [⟨3, 0, n, []⟩] } cv (.slice a1 x.first.length c1) (.slice a' (x.evs ++ [(⟨3, 0, n, []⟩ : Evn)]).length c')).toArray 36 (0, 0)) :: ((B1 ++ B') ++ L)) ⟨_, B1 ++ B', rfl, rfl, rfl, ⟨a1, c1, B1, a', c', B', rfl, r1, hB', rfl⟩⟩ jH
theorem afq {ws : List Nm.Bytes} {x : Scr} : Cn.takeP 1 ws x = (Cn.seedP ws).map fun v => { x with seed := v } := if_pos rfl
theorem afr {ws : List Nm.Bytes} {x : Scr} : Cn.takeP 2 ws x = (Cn.tapeP ws).map fun v => { x with first := v } := by unfold Cn.takeP; rw [if_neg (by decide), if_pos rfl]
theorem adz {n : Nat} {ws : List Nm.Bytes} {x : Scr} (h1 : n ≠ 1) (h2 : n ≠ 2) : Cn.takeP n ws x = (Cn.eventP ws).map fun v => { x with evs := x.evs ++ [v] } := by unfold Cn.takeP; rw [if_neg h1, if_neg h2]
theorem ag6 (bx : Nat) (x : Scr) (cv : Value) (C : List Value) (B : jc) (h : ScIn x cv C B) (n : Nat) (hnb : n ≤ 1000000) (h0 : n = 2 → x.first = []) (hsm : x.evs.length ≤ 1000000) (bw : Nat) (ws : List Nm.Bytes) (hne : ws ≠ []) {tw : TypeId} {fw : Nat × Nat} (hw : (bw, Obj.cells (ws.map ka).toArray tw fw) ∈ L) (hn : ws.length ≤ 1000000) (hl : ∀ w ∈ ws, w.length ≤ 1000000) (hg : GlobS L) :
 Spec Tryz.prog G 20 #[.pointer (some ⟨bx, 0, none⟩), .int .i64 (n : Nat), .slice (some ⟨bw, 0, none⟩) ws.length ws.length] (ScM bx C B L) (Ua bx cv L (Cn.takeP n ws x)) := by
 refine ju (n := 21) Tryz.func20 rfl rfl rfl ?_
 by_cases h1 : n = 1
 · subst h1
   rw [afq]
   refine goU ?_
   refine uA (ag4 bx x cv C B h bw ws hw hn hl hg) ?_
   rintro u M hM
   refine goU ?_
   exact kv 6 rfl rfl hM kP
 by_cases h2 : n = 2
 · subst h2
   rw [afr]
   obtain ⟨w0, t, rfl⟩ : ∃ w0 t, ws = w0 :: t := by
    cases ws with
    | nil => exact absurd rfl hne
    | cons w0 t => exact ⟨w0, t, rfl⟩
   refine goU ?_
   refine uA (ag5 bx x cv C B h (h0 rfl) bw w0 t hw (by simp at hn; omega) (fun w hw => hl w (List.mem_cons_of_mem _ hw)) hg) ?_
   rintro u M hM
   refine goU ?_
   exact kv 6 rfl rfl hM kP
 rw [adz h1 h2]
 have e1 : ¬ (n : Int) = 1 := by omega
 have e2 : ¬ (n : Int) = 2 := by omega
 refine goU ?_
 refine uA (afp bx x cv C B h hsm bw ws hw hn hl hg) ?_
 rintro u M hM
 refine goU ?_
 exact kv 6 rfl rfl hM kP
end
section
open Go.RowKit
open Cn (Zo Cf)
variable {G : World} {L : jc}
def yu (c : Cf) : Prop := (1 ≤ c.ups ∧ c.ups ≤ 9 ∧ c.ups % 2 = 1) ∧ (1 ≤ c.hdg ∧ c.hdg ≤ 1000) ∧ (1 ≤ c.wai ∧ c.wai ≤ 1000) ∧ (1 ≤ c.tri ∧ c.tri ≤ 4) ∧
 (c.ups / 2 * c.hdg + c.tri * c.wai ≤ c.ded ∧ c.ded ≤ 100000) ∧ (1 ≤ c.res ∧ c.res ≤ 100000) ∧ (1 ≤ c.lim ∧ c.lim ≤ 100) ∧ (0 ≤ c.cac ∧ c.cac ≤ 256) ∧ (1 ≤ c.fli ∧ c.fli ≤ 32) ∧
 (1 ≤ c.wtr ∧ c.wtr ≤ 16) ∧ (0 ≤ c.ttl ∧ c.ttl ≤ 2147483647) ∧ (512 ≤ c.siz ∧ c.siz ≤ 4096)
instance (c : Cf) : Decidable (yu c) := by unfold yu; infer_instance
theorem afs (c : Cf) (v : Value) : Spec Tryz.prog G 76 #[.agg (jg c v).toArray] L fun u M => u = .bool (Cn.mayNum c) ∧ M = L := by
 refine ju (n := 81) Tryz.func76 rfl rfl rfl ?_
 refine jT (jY (kM (qU rfl) rfl ?_))
 intro b1
 have g0 : (jg (c) (v)).toArray[0 + 0]? = some (.int .i64 (c).ups) := rfl
 have g1 : (jg (c) (v)).toArray[0 + 1]? = some (.int .i64 (c).ded) := rfl
 have g2 : (jg (c) (v)).toArray[0 + 2]? = some (.int .i64 (c).hdg) := rfl
 have g3 : (jg (c) (v)).toArray[0 + 3]? = some (.int .i64 (c).wai) := rfl
 have g4 : (jg (c) (v)).toArray[0 + 4]? = some (.int .i64 (c).tri) := rfl
 have g5 : (jg (c) (v)).toArray[0 + 5]? = some (.int .i64 (c).res) := rfl
 have g6 : (jg (c) (v)).toArray[0 + 6]? = some (.int .i64 (c).lim) := rfl
 have g7 : (jg (c) (v)).toArray[0 + 7]? = some (.int .i64 (c).cac) := rfl
 have g8 : (jg (c) (v)).toArray[0 + 8]? = some (.int .i64 (c).fli) := rfl
 have g9 : (jg (c) (v)).toArray[0 + 9]? = some (.int .i64 (c).wtr) := rfl
 have g10 : (jg (c) (v)).toArray[0 + 10]? = some (.int .i64 (c).ttl) := rfl
 have g11 : (jg (c) (v)).toArray[0 + 11]? = some (.int .i64 (c).siz) := rfl
 have g12 : (jg (c) (v)).toArray[0 + 12]? = some (v) := rfl
 have no : ¬ yu c → false = Cn.mayNum c := fun k => (decide_eq_false k).symm
 by_cases h1 : 1 ≤ c.ups ∧ c.ups ≤ 9
 rotate_left
 · repeat (first | refine goA ?_ | (refine' ji (jb je rfl (jO _ _ _ )) rfl ?_) | (refine' jk (jb je rfl (jO _ _ _ )) rfl ?_) | (refine kh ?_; intro bBox))
   refine jr (fun w h => h.tail) ?_
   refine js 2 _ rfl rfl ?_
   exact ⟨congrArg Value.bool (no fun k => h1 (by unfold yu at k; omega)), rfl⟩
 by_cases he : c.ups % 2 = 1
 rotate_left
 · repeat (first | refine goA ?_ | (refine' ji (jb je rfl (jO _ _ _ )) rfl ?_) | (refine' jk (jb je rfl (jO _ _ _ )) rfl ?_) | (refine kh ?_; intro bBox))
   refine jr (fun w h => h.tail) ?_
   refine js 2 _ rfl rfl ?_
   exact ⟨congrArg Value.bool (no fun k => he (by unfold yu at k; omega)), rfl⟩
 by_cases h2 : 1 ≤ c.hdg ∧ c.hdg ≤ 1000
 rotate_left
 · repeat (first | refine goA ?_ | (refine' ji (jb je rfl (jO _ _ _ )) rfl ?_) | (refine' jk (jb je rfl (jO _ _ _ )) rfl ?_) | (refine kh ?_; intro bBox))
   refine jr (fun w h => h.tail) ?_
   refine js 2 _ rfl rfl ?_
   exact ⟨congrArg Value.bool (no fun k => h2 (by unfold yu at k; omega)), rfl⟩
 by_cases h3 : 1 ≤ c.wai ∧ c.wai ≤ 1000
 rotate_left
 · repeat (first | refine goA ?_ | (refine' ji (jb je rfl (jO _ _ _ )) rfl ?_) | (refine' jk (jb je rfl (jO _ _ _ )) rfl ?_) | (refine kh ?_; intro bBox))
   refine jr (fun w h => h.tail) ?_
   refine js 2 _ rfl rfl ?_
   exact ⟨congrArg Value.bool (no fun k => h3 (by unfold yu at k; omega)), rfl⟩
 by_cases h4 : 1 ≤ c.tri ∧ c.tri ≤ 4
 rotate_left
 · repeat (first | refine goA ?_ | (refine' ji (jb je rfl (jO _ _ _ )) rfl ?_) | (refine' jk (jb je rfl (jO _ _ _ )) rfl ?_) | (refine kh ?_; intro bBox))
   refine jr (fun w h => h.tail) ?_
   refine js 2 _ rfl rfl ?_
   exact ⟨congrArg Value.bool (no fun k => h4 (by unfold yu at k; omega)), rfl⟩
 have m1 : 0 ≤ c.ups / 2 * c.hdg ∧ c.ups / 2 * c.hdg ≤ 4000 := ⟨Int.mul_nonneg jj jj, Int.le_trans (Int.mul_le_mul (show c.ups / 2 ≤ 4 by omega) h2.2 jj jj) (by decide)⟩
 have m2 : 0 ≤ c.tri * c.wai ∧ c.tri * c.wai ≤ 4000 := ⟨Int.mul_nonneg jj jj, Int.le_trans (Int.mul_le_mul h4.2 h3.2 jj jj) (by decide)⟩
 by_cases h5 : c.ups / 2 * c.hdg + c.tri * c.wai ≤ c.ded ∧ c.ded ≤ 100000
 rotate_left
 · repeat (first | refine goA ?_ | (refine' ji (jb je rfl (jO _ _ _ )) rfl ?_) | (refine' jk (jb je rfl (jO _ _ _ )) rfl ?_) | (refine kh ?_; intro bBox))
   refine jr (fun w h => h.tail) ?_
   refine js 2 _ rfl rfl ?_
   exact ⟨congrArg Value.bool (no fun k => h5 (by unfold yu at k; omega)), rfl⟩
 by_cases h6 : 1 ≤ c.res ∧ c.res ≤ 100000
 rotate_left
 · repeat (first | refine goA ?_ | (refine' ji (jb je rfl (jO _ _ _ )) rfl ?_) | (refine' jk (jb je rfl (jO _ _ _ )) rfl ?_) | (refine kh ?_; intro bBox))
   refine jr (fun w h => h.tail) ?_
   refine js 2 _ rfl rfl ?_
   exact ⟨congrArg Value.bool (no fun k => h6 (by unfold yu at k; omega)), rfl⟩
 by_cases h7 : 1 ≤ c.lim ∧ c.lim ≤ 100
 rotate_left
 · repeat (first | refine goA ?_ | (refine' ji (jb je rfl (jO _ _ _ )) rfl ?_) | (refine' jk (jb je rfl (jO _ _ _ )) rfl ?_) | (refine kh ?_; intro bBox))
   refine jr (fun w h => h.tail) ?_
   refine js 2 _ rfl rfl ?_
   exact ⟨congrArg Value.bool (no fun k => h7 (by unfold yu at k; omega)), rfl⟩
 by_cases h8 : 0 ≤ c.cac ∧ c.cac ≤ 256
 rotate_left
 · repeat (first | refine goA ?_ | (refine' ji (jb je rfl (jO _ _ _ )) rfl ?_) | (refine' jk (jb je rfl (jO _ _ _ )) rfl ?_) | (refine kh ?_; intro bBox))
   refine jr (fun w h => h.tail) ?_
   refine js 2 _ rfl rfl ?_
   exact ⟨congrArg Value.bool (no fun k => h8 (by unfold yu at k; omega)), rfl⟩
 by_cases h9 : 1 ≤ c.fli ∧ c.fli ≤ 32
 rotate_left
 · repeat (first | refine goA ?_ | (refine' ji (jb je rfl (jO _ _ _ )) rfl ?_) | (refine' jk (jb je rfl (jO _ _ _ )) rfl ?_) | (refine kh ?_; intro bBox))
   refine jr (fun w h => h.tail) ?_
   refine js 2 _ rfl rfl ?_
   exact ⟨congrArg Value.bool (no fun k => h9 (by unfold yu at k; omega)), rfl⟩
 by_cases h10 : 1 ≤ c.wtr ∧ c.wtr ≤ 16
 rotate_left
 · repeat (first | refine goA ?_ | (refine' ji (jb je rfl (jO _ _ _ )) rfl ?_) | (refine' jk (jb je rfl (jO _ _ _ )) rfl ?_) | (refine kh ?_; intro bBox))
   refine jr (fun w h => h.tail) ?_
   refine js 2 _ rfl rfl ?_
   exact ⟨congrArg Value.bool (no fun k => h10 (by unfold yu at k; omega)), rfl⟩
 by_cases h11 : 0 ≤ c.ttl ∧ c.ttl ≤ 2147483647
 rotate_left
 · repeat (first | refine goA ?_ | (refine' ji (jb je rfl (jO _ _ _ )) rfl ?_) | (refine' jk (jb je rfl (jO _ _ _ )) rfl ?_) | (refine kh ?_; intro bBox))
   refine jr (fun w h => h.tail) ?_
   refine js 2 _ rfl rfl ?_
   exact ⟨congrArg Value.bool (no fun k => h11 (by unfold yu at k; omega)), rfl⟩
 by_cases h12 : 512 ≤ c.siz ∧ c.siz ≤ 4096
 rotate_left
 · repeat (first | refine goA ?_ | (refine' ji (jb je rfl (jO _ _ _ )) rfl ?_) | (refine' jk (jb je rfl (jO _ _ _ )) rfl ?_) | (refine kh ?_; intro bBox))
   refine jr (fun w h => h.tail) ?_
   refine js 2 _ rfl rfl ?_
   exact ⟨congrArg Value.bool ((decide_eq_false h12).trans <| no fun k => h12 (by unfold yu at k; omega)), rfl⟩
 have yes : true = Cn.mayNum c := (decide_eq_true (show yu c from ⟨⟨h1.1, h1.2, he⟩, h2, h3, h4, h5, h6, h7, h8, h9, h10, h11, h12⟩)).symm
 repeat (first | refine goA ?_ | (refine' ji (jb je rfl (jO _ _ _ )) rfl ?_) | (refine' jk (jb je rfl (jO _ _ _ )) rfl ?_) | (refine kh ?_; intro bBox))
 refine jr (fun w h => h.tail) ?_
 refine js 2 _ rfl rfl ?_
 exact ⟨congrArg Value.bool ((decide_eq_true h12).trans yes), rfl⟩
end
section
open Go.RowKit
open Cn (Zo Cf)
variable {G : World} {L : jc}
theorem kJ {ups : Int} {zs : List Zo} {i : Nat} (hi : i < zs.length) (h : Cn.goodAt ups zs i = false) : Cn.mayZs ups zs = false := by
 unfold Cn.mayZs
 rw [Bool.and_eq_false_iff]
 right
 rw [List.all_eq_false]
 exact ⟨i, List.mem_range.2 hi, by rw [h]; decide⟩
theorem Wc {ups : Int} {zs : List Zo} (h16 : zs.length ≤ 16) (h : ∀ j < zs.length, Cn.goodAt ups zs j = true) : Cn.mayZs ups zs = true := by
 unfold Cn.mayZs
 rw [decide_eq_true h16, Bool.true_and, List.all_eq_true]
 exact fun i hi => h i (List.mem_range.1 hi)
theorem U0 {ups : Int} {zs : List Zo} (h : 16 < zs.length) : Cn.mayZs ups zs = false := by
 unfold Cn.mayZs
 rw [decide_eq_false jj]
 rfl
theorem acj {ups : Int} {zs : List Zo} {i : Nat} {z : Zo} (h : zs[i]? = some z) : Cn.goodAt ups zs i = (Cn.okZo ups z && !(zs.take i).any (fun y => y.name == z.name)) := by unfold Cn.goodAt; rw [h]
theorem abg (c : Cf) (v : Value) (hz : sliceR 3 zoR L [v] c.zs) (hu : 1 ≤ c.ups ∧ c.ups ≤ 9) (hs : ∀ z ∈ c.zs, z.name.length ≤ 1000000) :
 Spec Tryz.prog G 77 #[.agg (jg c v).toArray] L fun u M => u = .bool (Cn.mayZs c.ups c.zs) ∧ M = L := by
 obtain ⟨a, cap, e, hz⟩ := hz.val
 obtain rfl := (List.cons.inj e).1
 clear e
 have hcap := (sliceR.cut hz).2.1
 have hmax := (sliceR.cut hz).2.2.1
 unfold maxLen at hmax
 refine ju (n := 69) Tryz.func77 rfl rfl rfl ?_
 refine jT (jY (kM (qU rfl) rfl ?_))
 intro b1
 have g0 : (jg (c) (.slice a c.zs.length cap)).toArray[0 + 0]? = some (.int .i64 (c).ups) := rfl
 have g1 : (jg (c) (.slice a c.zs.length cap)).toArray[0 + 1]? = some (.int .i64 (c).ded) := rfl
 have g2 : (jg (c) (.slice a c.zs.length cap)).toArray[0 + 2]? = some (.int .i64 (c).hdg) := rfl
 have g3 : (jg (c) (.slice a c.zs.length cap)).toArray[0 + 3]? = some (.int .i64 (c).wai) := rfl
 have g4 : (jg (c) (.slice a c.zs.length cap)).toArray[0 + 4]? = some (.int .i64 (c).tri) := rfl
 have g5 : (jg (c) (.slice a c.zs.length cap)).toArray[0 + 5]? = some (.int .i64 (c).res) := rfl
 have g6 : (jg (c) (.slice a c.zs.length cap)).toArray[0 + 6]? = some (.int .i64 (c).lim) := rfl
 have g7 : (jg (c) (.slice a c.zs.length cap)).toArray[0 + 7]? = some (.int .i64 (c).cac) := rfl
 have g8 : (jg (c) (.slice a c.zs.length cap)).toArray[0 + 8]? = some (.int .i64 (c).fli) := rfl
 have g9 : (jg (c) (.slice a c.zs.length cap)).toArray[0 + 9]? = some (.int .i64 (c).wtr) := rfl
 have g10 : (jg (c) (.slice a c.zs.length cap)).toArray[0 + 10]? = some (.int .i64 (c).ttl) := rfl
 have g11 : (jg (c) (.slice a c.zs.length cap)).toArray[0 + 11]? = some (.int .i64 (c).siz) := rfl
 have g12 : (jg (c) (.slice a c.zs.length cap)).toArray[0 + 12]? = some (.slice a c.zs.length cap) := rfl
 by_cases h16 : 16 < c.zs.length
 · rw [U0 h16]
   repeat (first | refine goA ?_ | (refine' ji (jb je rfl (jV _ ?_)) rfl ?_; (· first | omega | decide)) | (refine' jk (jb je rfl (jV _ ?_)) rfl ?_; (· first | omega | decide)) | (refine' ji (jb je rfl (jN _ ?_)) rfl ?_; (· first | omega | decide)) | (refine' jk (jb je rfl (jN _ ?_)) rfl ?_; (· first | omega | decide)) | (refine jx ?_; intro bNew) | (refine kh ?_; intro bBox))
   refine jr (fun w h => h.tail) ?_
   refine js 2 _ rfl rfl ?_
   exact ⟨rfl, rfl⟩
 repeat (first | refine goA ?_ | (refine' ji (jb je rfl (jV _ ?_)) rfl ?_; (· first | omega | decide)) | (refine' jk (jb je rfl (jV _ ?_)) rfl ?_; (· first | omega | decide)) | (refine' ji (jb je rfl (jN _ ?_)) rfl ?_; (· first | omega | decide)) | (refine' jk (jb je rfl (jN _ ?_)) rfl ?_; (· first | omega | decide)) | (refine jx ?_; intro bNew) | (refine kh ?_; intro bBox))
 refine jK (σ := Nat) (fun i => i ≤ c.zs.length ∧ ∀ j < i, Cn.goodAt c.ups c.zs j = true) (fun i => [(1, .pointer (some ⟨b1, 0, none⟩)), (12, .slice a c.zs.length cap), (13, .int .i64 (c.zs.length : Nat)), (14, .int .i64 (i : Nat))]) (fun _ => (b1, Obj.cells (jg c (.slice a c.zs.length cap)).toArray 25 (0, 0)) :: L) (fun i => c.zs.length - i) 0 ⟨by omega, fun j hj => by omega⟩ ?_ (fun _ h => h) ?_
 exact jL
 rintro i ⟨hi, hall⟩
 by_cases hlt : i < c.zs.length
 · obtain ⟨z, hzi⟩ : ∃ z, c.zs[i]? = some z := ⟨_, List.getElem?_eq_getElem hlt⟩
   obtain ⟨b2, o2, C2, t2, f2, rfl, m2, cs, _, ⟨rfl, hzn, hzp, hzt⟩, hcs⟩ := sliceR.at hz hzi
   have hzs := hs z (List.mem_of_getElem? hzi)
   have e0 : C2[o2 + i * 3 + 0]? = some (.string (bs z.name)) := hcs 0 _ rfl
   have hgood := acj (ups := c.ups) hzi
   repeat (first | refine goA ?_ | (refine' ji (jb je rfl (jV _ ?_)) rfl ?_; (· first | omega | decide)) | (refine' jk (jb je rfl (jV _ ?_)) rfl ?_; (· first | omega | decide)) | (refine' ji (jb je rfl (jN _ ?_)) rfl ?_; (· first | omega | decide)) | (refine' jk (jb je rfl (jN _ ?_)) rfl ?_; (· first | omega | decide)) | (refine jx ?_; intro bNew) | (refine kh ?_; intro bBox))
   refine jl (ub [.string (bs z.name), .int .u8 (z.pol : Nat), .int .u16 (z.tru : Nat)] rfl stL (List.mem_cons_of_mem _ m2) hcs) rfl ?_
   repeat (first | refine goA ?_ | (refine' ji (jb je rfl (jV _ ?_)) rfl ?_; (· first | omega | decide)) | (refine' jk (jb je rfl (jV _ ?_)) rfl ?_; (· first | omega | decide)) | (refine' ji (jb je rfl (jN _ ?_)) rfl ?_; (· first | omega | decide)) | (refine' jk (jb je rfl (jN _ ?_)) rfl ?_; (· first | omega | decide)) | (refine jx ?_; intro bNew) | (refine kh ?_; intro bBox))
   obtain ⟨b4, hb4⟩ : ∃ b, bNew = b := ⟨_, rfl⟩
   rw [hb4]
   clear hb4 bNew
   have k0 : ([.string (bs z.name), .int .u8 (z.pol : Nat), .int .u16 (z.tru : Nat)] : List Value).toArray[0 + 0]? = some (.string (bs z.name)) := rfl
   have k1 : ([.string (bs z.name), .int .u8 (z.pol : Nat), .int .u16 (z.tru : Nat)] : List Value).toArray[0 + 1]? = some (.int .u8 (z.pol : Nat)) := rfl
   have k2 : ([.string (bs z.name), .int .u8 (z.pol : Nat), .int .u16 (z.tru : Nat)] : List Value).toArray[0 + 2]? = some (.int .u16 (z.tru : Nat)) := rfl
   have hKm : ∀ p ∈ [(b4, Obj.cells ([.string (bs z.name), .int .u8 (z.pol : Nat), .int .u16 (z.tru : Nat)] : List Value).toArray 45 (0, 0))], p ∈ (b4, Obj.cells ([.string (bs z.name), .int .u8 (z.pol : Nat), .int .u16 (z.tru : Nat)] : List Value).toArray 45 (0, 0)) :: (b1, Obj.cells (jg c (.slice (some ⟨b2, o2, none⟩) c.zs.length cap)).toArray 25 (0, 0)) :: L := by
    intro p hp
    simp only [List.mem_cons, List.not_mem_nil, or_false] at hp
    subst hp
    exact List.mem_cons_self ..
   cases hmay : Nm.may z.name with
   | false =>
     have hno : Cn.okZo c.ups z = false := by unfold Cn.okZo Cn.okName; rw [hmay]; rfl
     rw [kJ hlt (by rw [hgood, hno]; rfl)]
     refine jR jo ([(b4, Obj.cells ([.string (bs z.name), .int .u8 (z.pol : Nat), .int .u16 (z.tru : Nat)] : List Value).toArray 45 (0, 0))]) [] ?_
     refine tkQ 0 ?_
     refine tkQ 1 ?_
     refine' jG 2 rfl rfl je (qo je rfl (fun _ _ => jV _ ?_)) ?_ ?_; (· first | omega | decide); (· first | assumption | (intro p hp; grind))
     refine tkQ 3 ?_
     refine tkQ 4 ?_
     refine tkQ 5 ?_
     refine tkQ 6 ?_
     first | (refine' jG 7 rfl rfl je (jZ rfl rfl (by first | with_reducible rfl | assumption | exact Bool.not_false | exact Bool.not_true | exact dT (by first | assumption | with_reducible rfl | omega) | exact dF (by first | assumption | with_reducible rfl | omega) | exact eT (by first | assumption | with_reducible rfl | omega) | exact eF (by first | assumption | with_reducible rfl | omega) | exact nT (by first | assumption | with_reducible rfl | omega) | exact nF (by first | assumption | with_reducible rfl | omega) | exact xT (by first | assumption | exact dT (by first | assumption | with_reducible rfl | omega) | exact dF (by first | assumption | with_reducible rfl | omega) | exact eT (by first | assumption | with_reducible rfl | omega) | exact eF (by first | assumption | with_reducible rfl | omega) | exact nT (by first | assumption | with_reducible rfl | omega) | exact nF (by first | assumption | with_reducible rfl | omega)) | exact xF (by first | assumption | exact dT (by first | assumption | with_reducible rfl | omega) | exact dF (by first | assumption | with_reducible rfl | omega) | exact eT (by first | assumption | with_reducible rfl | omega) | exact eF (by first | assumption | with_reducible rfl | omega) | exact nT (by first | assumption | with_reducible rfl | omega) | exact nF (by first | assumption | with_reducible rfl | omega))) je rfl (fun _ _ => jN _ ?_)) ?_ ?_; (· first | omega | decide); (· first | assumption | (intro p hp; grind))) | (refine jG 7 rfl rfl je (qw rfl rfl ?_) ?_ ?_; (· first | with_reducible rfl | assumption | exact Bool.not_false | exact Bool.not_true | exact dT (by first | assumption | with_reducible rfl | omega) | exact dF (by first | assumption | with_reducible rfl | omega) | exact eT (by first | assumption | with_reducible rfl | omega) | exact eF (by first | assumption | with_reducible rfl | omega) | exact nT (by first | assumption | with_reducible rfl | omega) | exact nF (by first | assumption | with_reducible rfl | omega) | exact xT (by first | assumption | exact dT (by first | assumption | with_reducible rfl | omega) | exact dF (by first | assumption | with_reducible rfl | omega) | exact eT (by first | assumption | with_reducible rfl | omega) | exact eF (by first | assumption | with_reducible rfl | omega) | exact nT (by first | assumption | with_reducible rfl | omega) | exact nF (by first | assumption | with_reducible rfl | omega)) | exact xF (by first | assumption | exact dT (by first | assumption | with_reducible rfl | omega) | exact dF (by first | assumption | with_reducible rfl | omega) | exact eT (by first | assumption | with_reducible rfl | omega) | exact eF (by first | assumption | with_reducible rfl | omega) | exact nT (by first | assumption | with_reducible rfl | omega) | exact nF (by first | assumption | with_reducible rfl | omega))); (· first | assumption | (intro p hp; grind))) | (refine jG 7 rfl rfl je (kD rfl rfl) ?_ ?_; (· first | assumption | (intro p hp; grind)))
     refine tkQ 8 ?_
     refine tkQ 9 ?_
     refine tkQ 10 ?_
     refine tkQ 11 ?_
     refine tdQ ?_
     repeat (first | refine goA ?_ | (refine' ji (jb je rfl (jV _ ?_)) rfl ?_; (· first | omega | decide)) | (refine' jk (jb je rfl (jV _ ?_)) rfl ?_; (· first | omega | decide)) | (refine' ji (jb je rfl (jN _ ?_)) rfl ?_; (· first | omega | decide)) | (refine' jk (jb je rfl (jN _ ?_)) rfl ?_; (· first | omega | decide)) | (refine jx ?_; intro bNew) | (refine kh ?_; intro bBox))
     refine jr (fun w h => h.tail.tail) ?_
     refine js 2 _ rfl rfl ?_
     exact ⟨rfl, rfl⟩
   | true =>
     by_cases hf : Nm.fold z.name = z.name
     rotate_left
     · have hno : Cn.okZo c.ups z = false := by unfold Cn.okZo Cn.okName; rw [beq_false_of_ne hf, Bool.and_false, Bool.false_and]
       rw [kJ hlt (by rw [hgood, hno]; rfl)]
       refine jR jo ([(b4, Obj.cells ([.string (bs z.name), .int .u8 (z.pol : Nat), .int .u16 (z.tru : Nat)] : List Value).toArray 45 (0, 0))]) [] ?_
       refine tkQ 0 ?_
       refine tkQ 1 ?_
       refine' jG 2 rfl rfl je (qo je rfl (fun _ _ => jV _ ?_)) ?_ ?_; (· first | omega | decide); (· first | assumption | (intro p hp; grind))
       refine tkQ 3 ?_
       refine tkQ 4 ?_
       refine tkQ 5 ?_
       refine tkQ 6 ?_
       first | (refine' jG 7 rfl rfl je (jZ rfl rfl (by first | with_reducible rfl | assumption | exact Bool.not_false | exact Bool.not_true | exact dT (by first | assumption | with_reducible rfl | omega) | exact dF (by first | assumption | with_reducible rfl | omega) | exact eT (by first | assumption | with_reducible rfl | omega) | exact eF (by first | assumption | with_reducible rfl | omega) | exact nT (by first | assumption | with_reducible rfl | omega) | exact nF (by first | assumption | with_reducible rfl | omega) | exact xT (by first | assumption | exact dT (by first | assumption | with_reducible rfl | omega) | exact dF (by first | assumption | with_reducible rfl | omega) | exact eT (by first | assumption | with_reducible rfl | omega) | exact eF (by first | assumption | with_reducible rfl | omega) | exact nT (by first | assumption | with_reducible rfl | omega) | exact nF (by first | assumption | with_reducible rfl | omega)) | exact xF (by first | assumption | exact dT (by first | assumption | with_reducible rfl | omega) | exact dF (by first | assumption | with_reducible rfl | omega) | exact eT (by first | assumption | with_reducible rfl | omega) | exact eF (by first | assumption | with_reducible rfl | omega) | exact nT (by first | assumption | with_reducible rfl | omega) | exact nF (by first | assumption | with_reducible rfl | omega))) je rfl (fun _ _ => jN _ ?_)) ?_ ?_; (· first | omega | decide); (· first | assumption | (intro p hp; grind))) | (refine jG 7 rfl rfl je (qw rfl rfl ?_) ?_ ?_; (· first | with_reducible rfl | assumption | exact Bool.not_false | exact Bool.not_true | exact dT (by first | assumption | with_reducible rfl | omega) | exact dF (by first | assumption | with_reducible rfl | omega) | exact eT (by first | assumption | with_reducible rfl | omega) | exact eF (by first | assumption | with_reducible rfl | omega) | exact nT (by first | assumption | with_reducible rfl | omega) | exact nF (by first | assumption | with_reducible rfl | omega) | exact xT (by first | assumption | exact dT (by first | assumption | with_reducible rfl | omega) | exact dF (by first | assumption | with_reducible rfl | omega) | exact eT (by first | assumption | with_reducible rfl | omega) | exact eF (by first | assumption | with_reducible rfl | omega) | exact nT (by first | assumption | with_reducible rfl | omega) | exact nF (by first | assumption | with_reducible rfl | omega)) | exact xF (by first | assumption | exact dT (by first | assumption | with_reducible rfl | omega) | exact dF (by first | assumption | with_reducible rfl | omega) | exact eT (by first | assumption | with_reducible rfl | omega) | exact eF (by first | assumption | with_reducible rfl | omega) | exact nT (by first | assumption | with_reducible rfl | omega) | exact nF (by first | assumption | with_reducible rfl | omega))); (· first | assumption | (intro p hp; grind))) | (refine jG 7 rfl rfl je (kD rfl rfl) ?_ ?_; (· first | assumption | (intro p hp; grind)))
       refine tkQ 8 ?_
       refine tkQ 9 ?_
       refine tkQ 10 ?_
       refine tkQ 11 ?_
       refine tdQ ?_
       repeat (first | refine goA ?_ | (refine' ji (jb je rfl (jV _ ?_)) rfl ?_; (· first | omega | decide)) | (refine' jk (jb je rfl (jV _ ?_)) rfl ?_; (· first | omega | decide)) | (refine' ji (jb je rfl (jN _ ?_)) rfl ?_; (· first | omega | decide)) | (refine' jk (jb je rfl (jN _ ?_)) rfl ?_; (· first | omega | decide)) | (refine jx ?_; intro bNew) | (refine kh ?_; intro bBox))
       refine jr (fun w h => h.tail.tail) ?_
       refine js 2 _ rfl rfl ?_
       exact ⟨rfl, rfl⟩
     have hokn : Cn.okName z = true := by unfold Cn.okName; rw [hmay, beq_iff_eq.2 hf]; rfl
     refine jR jo ([(b4, Obj.cells ([.string (bs z.name), .int .u8 (z.pol : Nat), .int .u16 (z.tru : Nat)] : List Value).toArray 45 (0, 0))]) [] ?_
     refine tkQ 0 ?_
     refine tkQ 1 ?_
     refine' jG 2 rfl rfl je (qo je rfl (fun _ _ => jV _ ?_)) ?_ ?_; (· first | omega | decide); (· first | assumption | (intro p hp; grind))
     refine tkQ 3 ?_
     refine tkQ 4 ?_
     refine tkQ 5 ?_
     refine tkQ 6 ?_
     first | (refine' jG 7 rfl rfl je (jZ rfl rfl (by first | with_reducible rfl | assumption | exact Bool.not_false | exact Bool.not_true | exact dT (by first | assumption | with_reducible rfl | omega) | exact dF (by first | assumption | with_reducible rfl | omega) | exact eT (by first | assumption | with_reducible rfl | omega) | exact eF (by first | assumption | with_reducible rfl | omega) | exact nT (by first | assumption | with_reducible rfl | omega) | exact nF (by first | assumption | with_reducible rfl | omega) | exact xT (by first | assumption | exact dT (by first | assumption | with_reducible rfl | omega) | exact dF (by first | assumption | with_reducible rfl | omega) | exact eT (by first | assumption | with_reducible rfl | omega) | exact eF (by first | assumption | with_reducible rfl | omega) | exact nT (by first | assumption | with_reducible rfl | omega) | exact nF (by first | assumption | with_reducible rfl | omega)) | exact xF (by first | assumption | exact dT (by first | assumption | with_reducible rfl | omega) | exact dF (by first | assumption | with_reducible rfl | omega) | exact eT (by first | assumption | with_reducible rfl | omega) | exact eF (by first | assumption | with_reducible rfl | omega) | exact nT (by first | assumption | with_reducible rfl | omega) | exact nF (by first | assumption | with_reducible rfl | omega))) je rfl (fun _ _ => jN _ ?_)) ?_ ?_; (· first | omega | decide); (· first | assumption | (intro p hp; grind))) | (refine jG 7 rfl rfl je (qw rfl rfl ?_) ?_ ?_; (· first | with_reducible rfl | assumption | exact Bool.not_false | exact Bool.not_true | exact dT (by first | assumption | with_reducible rfl | omega) | exact dF (by first | assumption | with_reducible rfl | omega) | exact eT (by first | assumption | with_reducible rfl | omega) | exact eF (by first | assumption | with_reducible rfl | omega) | exact nT (by first | assumption | with_reducible rfl | omega) | exact nF (by first | assumption | with_reducible rfl | omega) | exact xT (by first | assumption | exact dT (by first | assumption | with_reducible rfl | omega) | exact dF (by first | assumption | with_reducible rfl | omega) | exact eT (by first | assumption | with_reducible rfl | omega) | exact eF (by first | assumption | with_reducible rfl | omega) | exact nT (by first | assumption | with_reducible rfl | omega) | exact nF (by first | assumption | with_reducible rfl | omega)) | exact xF (by first | assumption | exact dT (by first | assumption | with_reducible rfl | omega) | exact dF (by first | assumption | with_reducible rfl | omega) | exact eT (by first | assumption | with_reducible rfl | omega) | exact eF (by first | assumption | with_reducible rfl | omega) | exact nT (by first | assumption | with_reducible rfl | omega) | exact nF (by first | assumption | with_reducible rfl | omega))); (· first | assumption | (intro p hp; grind))) | (refine jG 7 rfl rfl je (kD rfl rfl) ?_ ?_; (· first | assumption | (intro p hp; grind)))
     refine tkQ 8 ?_
     refine tkQ 9 ?_
     refine tkQ 10 ?_
     refine tkQ 11 ?_
     refine tdQ ?_
     repeat (first | refine goA ?_ | (refine' ji (jb je rfl (jV _ ?_)) rfl ?_; (· first | omega | decide)) | (refine' jk (jb je rfl (jV _ ?_)) rfl ?_; (· first | omega | decide)) | (refine' ji (jb je rfl (jN _ ?_)) rfl ?_; (· first | omega | decide)) | (refine' jk (jb je rfl (jN _ ?_)) rfl ?_; (· first | omega | decide)) | (refine jx ?_; intro bNew) | (refine kh ?_; intro bBox))
     refine jK (σ := Nat) (fun k => k ≤ i ∧ (c.zs.take k).any (fun y => y.name == z.name) = false) (fun k => [(1, .pointer (some ⟨b1, 0, none⟩)), (3, .int .i64 (i : Nat)), (4, .pointer (some ⟨b4, 0, none⟩)), (12, .slice (some ⟨b2, o2, none⟩) c.zs.length cap), (13, .int .i64 (c.zs.length : Nat)), (14, .int .i64 (i : Nat)), (34, .slice (some ⟨b2, o2, none⟩) i cap), (35, .int .i64 (i : Nat)), (36, .int .i64 (k : Nat))]) (fun _ => (b4, Obj.cells ([.string (bs z.name), .int .u8 (z.pol : Nat), .int .u16 (z.tru : Nat)] : List Value).toArray 45 (0, 0)) :: (b1, Obj.cells (jg c (.slice (some ⟨b2, o2, none⟩) c.zs.length cap)).toArray 25 (0, 0)) :: L) (fun k => i - k) 0 ⟨by omega, by simp⟩ ?_ (fun _ h => h) ?_
     exact jL
     rintro k ⟨hk, hany⟩
     by_cases hki : k < i
     · obtain ⟨y, hyk⟩ : ∃ y, c.zs[k]? = some y := ⟨_, List.getElem?_eq_getElem jj⟩
       obtain ⟨b5, o5, C5, t5, f5, e5, m5, cs5, _, ⟨rfl, hyn, hyp, hyt⟩, hcs5⟩ := sliceR.at hz hyk
       cases e5
       repeat (first | refine goA ?_ | (refine' ji (jb je rfl (jV _ ?_)) rfl ?_; (· first | omega | decide)) | (refine' jk (jb je rfl (jV _ ?_)) rfl ?_; (· first | omega | decide)) | (refine' ji (jb je rfl (jN _ ?_)) rfl ?_; (· first | omega | decide)) | (refine' jk (jb je rfl (jN _ ?_)) rfl ?_; (· first | omega | decide)) | (refine jx ?_; intro bNew) | (refine kh ?_; intro bBox))
       refine jl (ub [.string (bs y.name), .int .u8 (y.pol : Nat), .int .u16 (y.tru : Nat)] rfl stL (List.mem_cons_of_mem _ (List.mem_cons_of_mem _ m5)) hcs5) rfl ?_
       repeat (first | refine goA ?_ | (refine' ji (jb je rfl (jV _ ?_)) rfl ?_; (· first | omega | decide)) | (refine' jk (jb je rfl (jV _ ?_)) rfl ?_; (· first | omega | decide)) | (refine' ji (jb je rfl (jN _ ?_)) rfl ?_; (· first | omega | decide)) | (refine' jk (jb je rfl (jN _ ?_)) rfl ?_; (· first | omega | decide)) | (refine jx ?_; intro bNew) | (refine kh ?_; intro bBox))
       obtain ⟨b6, hb6⟩ : ∃ b, bNew = b := ⟨_, rfl⟩
       rw [hb6]
       clear hb6 bNew
       have l0 : ([.string (bs y.name), .int .u8 (y.pol : Nat), .int .u16 (y.tru : Nat)] : List Value).toArray[0 + 0]? = some (.string (bs y.name)) := rfl
       by_cases hyz : y.name = z.name
       · have hbad : Cn.goodAt c.ups c.zs i = false := by
          rw [hgood, Bool.and_eq_false_iff]
          right
          rw [Bool.not_eq_false', List.any_eq_true]
          exact ⟨y, List.mem_take_iff_getElem.2 ⟨k, by omega, (List.getElem?_eq_some_iff.1 hyk).2⟩, beq_iff_eq.2 hyz⟩
         rw [kJ hlt hbad]
         repeat (first | refine goA ?_ | (refine' ji (jb je rfl (jV _ ?_)) rfl ?_; (· first | omega | decide)) | (refine' jk (jb je rfl (jV _ ?_)) rfl ?_; (· first | omega | decide)) | (refine' ji (jb je rfl (jN _ ?_)) rfl ?_; (· first | omega | decide)) | (refine' jk (jb je rfl (jN _ ?_)) rfl ?_; (· first | omega | decide)) | (refine jx ?_; intro bNew) | (refine kh ?_; intro bBox))
         refine jr (fun w h => h.tail.tail.tail) ?_
         refine js 2 _ rfl rfl ?_
         exact ⟨rfl, rfl⟩
       · repeat (first | refine goA ?_ | (refine' ji (jb je rfl (jV _ ?_)) rfl ?_; (· first | omega | decide)) | (refine' jk (jb je rfl (jV _ ?_)) rfl ?_; (· first | omega | decide)) | (refine' ji (jb je rfl (jN _ ?_)) rfl ?_; (· first | omega | decide)) | (refine' jk (jb je rfl (jN _ ?_)) rfl ?_; (· first | omega | decide)) | (refine jx ?_; intro bNew) | (refine kh ?_; intro bBox))
         refine jz (k + 1) ⟨by omega, ?_⟩ ?_ (fun _ h => h.tail) jj
         · rw [List.take_add_one, hyk, List.any_append, hany]
           simp [hyz]
         exact jL
     · have hkie : k = i := by omega
       subst hkie
       rw [hany, Bool.not_false, Bool.and_true] at hgood
       unfold Cn.okZo at hgood
       rw [hokn, Bool.true_and] at hgood
       obtain ⟨n, hn⟩ : ∃ n : Nat, c.ups = (n : Nat) := ⟨c.ups.toNat, by omega⟩
       have hn2 : c.ups.toNat = n := by omega
       have fin : ∀ b, Cn.okPol c.ups z = b → Cn.goodAt c.ups c.zs k = b := fun b h => hgood.trans h
       have nxt : Cn.okPol c.ups z = true → ∀ j < k + 1, Cn.goodAt c.ups c.zs j = true := fun h j hj => by
        rcases Nat.lt_or_ge j k with q | q
        · exact hall j q
        · have : j = k := by omega
          subst this
          exact fin true h
       have pol : Cn.okPol c.ups z = decide (((z.pol = 1 ∨ z.pol = 2 ∨ z.pol = 4) ∧ z.tru = 0) ∨ (z.pol = 3 ∧ z.tru ≠ 0 ∧ z.tru / 2 ^ n = 0)) := by unfold Cn.okPol; rw [hn2]
       rw [hn] at g0
       obtain ⟨q, hq⟩ : ∃ q, z.tru / 2 ^ n = q := ⟨_, rfl⟩
       have hsh := Qe (P := Tryz.prog) (t := 43) (k := .i64) (a := z.tru) (u := n) jj
       rw [hq] at pol hsh
       by_cases p1 : z.pol = 1
       · by_cases t0 : z.tru = 0
         · skip
           have hy : Cn.okPol c.ups z = true := by rw [pol]; exact decide_eq_true jj
           repeat (first | refine goA ?_ | (refine' ji (jb je rfl (jV _ ?_)) rfl ?_; (· first | omega | decide)) | (refine' jk (jb je rfl (jV _ ?_)) rfl ?_; (· first | omega | decide)) | (refine' ji (jb je rfl (jN _ ?_)) rfl ?_; (· first | omega | decide)) | (refine' jk (jb je rfl (jN _ ?_)) rfl ?_; (· first | omega | decide)) | (refine jx ?_; intro bNew) | (refine kh ?_; intro bBox))
           refine jz (k + 1) ⟨by omega, nxt hy⟩ ?_ (fun _ h => h.tail) jj
           exact jL
         · skip
           rw [kJ hlt (fin false (by rw [pol]; exact decide_eq_false jj))]
           repeat (first | refine goA ?_ | (refine' ji (jb je rfl (jV _ ?_)) rfl ?_; (· first | omega | decide)) | (refine' jk (jb je rfl (jV _ ?_)) rfl ?_; (· first | omega | decide)) | (refine' ji (jb je rfl (jN _ ?_)) rfl ?_; (· first | omega | decide)) | (refine' jk (jb je rfl (jN _ ?_)) rfl ?_; (· first | omega | decide)) | (refine jx ?_; intro bNew) | (refine kh ?_; intro bBox))
           refine jr (fun w h => h.tail.tail) ?_
           refine js 2 _ rfl rfl ?_
           exact ⟨rfl, rfl⟩
       by_cases p2 : z.pol = 2
       · by_cases t0 : z.tru = 0
         · skip
           have hy : Cn.okPol c.ups z = true := by rw [pol]; exact decide_eq_true jj
           repeat (first | refine goA ?_ | (refine' ji (jb je rfl (jV _ ?_)) rfl ?_; (· first | omega | decide)) | (refine' jk (jb je rfl (jV _ ?_)) rfl ?_; (· first | omega | decide)) | (refine' ji (jb je rfl (jN _ ?_)) rfl ?_; (· first | omega | decide)) | (refine' jk (jb je rfl (jN _ ?_)) rfl ?_; (· first | omega | decide)) | (refine jx ?_; intro bNew) | (refine kh ?_; intro bBox))
           refine jz (k + 1) ⟨by omega, nxt hy⟩ ?_ (fun _ h => h.tail) jj
           exact jL
         · skip
           rw [kJ hlt (fin false (by rw [pol]; exact decide_eq_false jj))]
           repeat (first | refine goA ?_ | (refine' ji (jb je rfl (jV _ ?_)) rfl ?_; (· first | omega | decide)) | (refine' jk (jb je rfl (jV _ ?_)) rfl ?_; (· first | omega | decide)) | (refine' ji (jb je rfl (jN _ ?_)) rfl ?_; (· first | omega | decide)) | (refine' jk (jb je rfl (jN _ ?_)) rfl ?_; (· first | omega | decide)) | (refine jx ?_; intro bNew) | (refine kh ?_; intro bBox))
           refine jr (fun w h => h.tail.tail) ?_
           refine js 2 _ rfl rfl ?_
           exact ⟨rfl, rfl⟩
       by_cases p4 : z.pol = 4
       · by_cases t0 : z.tru = 0
         · skip
           have hy : Cn.okPol c.ups z = true := by rw [pol]; exact decide_eq_true jj
           repeat (first | refine goA ?_ | (refine' ji (jb je rfl (jV _ ?_)) rfl ?_; (· first | omega | decide)) | (refine' jk (jb je rfl (jV _ ?_)) rfl ?_; (· first | omega | decide)) | (refine' ji (jb je rfl (jN _ ?_)) rfl ?_; (· first | omega | decide)) | (refine' jk (jb je rfl (jN _ ?_)) rfl ?_; (· first | omega | decide)) | (refine jx ?_; intro bNew) | (refine kh ?_; intro bBox))
           refine jz (k + 1) ⟨by omega, nxt hy⟩ ?_ (fun _ h => h.tail) jj
           exact jL
         · skip
           rw [kJ hlt (fin false (by rw [pol]; exact decide_eq_false jj))]
           repeat (first | refine goA ?_ | (refine' ji (jb je rfl (jV _ ?_)) rfl ?_; (· first | omega | decide)) | (refine' jk (jb je rfl (jV _ ?_)) rfl ?_; (· first | omega | decide)) | (refine' ji (jb je rfl (jN _ ?_)) rfl ?_; (· first | omega | decide)) | (refine' jk (jb je rfl (jN _ ?_)) rfl ?_; (· first | omega | decide)) | (refine jx ?_; intro bNew) | (refine kh ?_; intro bBox))
           refine jr (fun w h => h.tail.tail) ?_
           refine js 2 _ rfl rfl ?_
           exact ⟨rfl, rfl⟩
       by_cases p3 : z.pol = 3
       · by_cases t0 : z.tru = 0
         · skip
           rw [kJ hlt (fin false (by rw [pol]; exact decide_eq_false jj))]
           repeat (first | refine goA ?_ | (refine' ji (jb je rfl (jV _ ?_)) rfl ?_; (· first | omega | decide)) | (refine' jk (jb je rfl (jV _ ?_)) rfl ?_; (· first | omega | decide)) | (refine' ji (jb je rfl (jN _ ?_)) rfl ?_; (· first | omega | decide)) | (refine' jk (jb je rfl (jN _ ?_)) rfl ?_; (· first | omega | decide)) | (refine jx ?_; intro bNew) | (refine kh ?_; intro bBox))
           refine jr (fun w h => h.tail.tail) ?_
           refine js 2 _ rfl rfl ?_
           exact ⟨rfl, rfl⟩
         · by_cases q0 : q = 0
           · skip
             repeat (first | refine goA ?_ | (refine' ji (jb je rfl (jV _ ?_)) rfl ?_; (· first | omega | decide)) | (refine' jk (jb je rfl (jV _ ?_)) rfl ?_; (· first | omega | decide)) | (refine' ji (jb je rfl (jN _ ?_)) rfl ?_; (· first | omega | decide)) | (refine' jk (jb je rfl (jN _ ?_)) rfl ?_; (· first | omega | decide)) | (refine jx ?_; intro bNew) | (refine kh ?_; intro bBox))
             refine jf (kF rfl rfl hsh) rfl ?_
             have hy : Cn.okPol c.ups z = true := by rw [pol]; exact decide_eq_true jj
             repeat (first | refine goA ?_ | (refine' ji (jb je rfl (jV _ ?_)) rfl ?_; (· first | omega | decide)) | (refine' jk (jb je rfl (jV _ ?_)) rfl ?_; (· first | omega | decide)) | (refine' ji (jb je rfl (jN _ ?_)) rfl ?_; (· first | omega | decide)) | (refine' jk (jb je rfl (jN _ ?_)) rfl ?_; (· first | omega | decide)) | (refine jx ?_; intro bNew) | (refine kh ?_; intro bBox))
             refine jz (k + 1) ⟨by omega, nxt hy⟩ ?_ (fun _ h => h.tail) jj
             exact jL
           · skip
             rw [kJ hlt (fin false (by rw [pol]; exact decide_eq_false jj))]
             repeat (first | refine goA ?_ | (refine' ji (jb je rfl (jV _ ?_)) rfl ?_; (· first | omega | decide)) | (refine' jk (jb je rfl (jV _ ?_)) rfl ?_; (· first | omega | decide)) | (refine' ji (jb je rfl (jN _ ?_)) rfl ?_; (· first | omega | decide)) | (refine' jk (jb je rfl (jN _ ?_)) rfl ?_; (· first | omega | decide)) | (refine jx ?_; intro bNew) | (refine kh ?_; intro bBox))
             refine jf (kF rfl rfl hsh) rfl ?_
             repeat (first | refine goA ?_ | (refine' ji (jb je rfl (jV _ ?_)) rfl ?_; (· first | omega | decide)) | (refine' jk (jb je rfl (jV _ ?_)) rfl ?_; (· first | omega | decide)) | (refine' ji (jb je rfl (jN _ ?_)) rfl ?_; (· first | omega | decide)) | (refine' jk (jb je rfl (jN _ ?_)) rfl ?_; (· first | omega | decide)) | (refine jx ?_; intro bNew) | (refine kh ?_; intro bBox))
             refine jr (fun w h => h.tail.tail) ?_
             refine js 2 _ rfl rfl ?_
             exact ⟨rfl, rfl⟩
       rw [kJ hlt (fin false (by rw [pol]; exact decide_eq_false jj))]
       repeat (first | refine goA ?_ | (refine' ji (jb je rfl (jV _ ?_)) rfl ?_; (· first | omega | decide)) | (refine' jk (jb je rfl (jV _ ?_)) rfl ?_; (· first | omega | decide)) | (refine' ji (jb je rfl (jN _ ?_)) rfl ?_; (· first | omega | decide)) | (refine' jk (jb je rfl (jN _ ?_)) rfl ?_; (· first | omega | decide)) | (refine jx ?_; intro bNew) | (refine kh ?_; intro bBox))
       refine jr (fun w h => h.tail.tail) ?_
       refine js 2 _ rfl rfl ?_
       exact ⟨rfl, rfl⟩
 · have hil : i = c.zs.length := by omega
   subst hil
   rw [Wc jj hall]
   repeat (first | refine goA ?_ | (refine' ji (jb je rfl (jV _ ?_)) rfl ?_; (· first | omega | decide)) | (refine' jk (jb je rfl (jV _ ?_)) rfl ?_; (· first | omega | decide)) | (refine' ji (jb je rfl (jN _ ?_)) rfl ?_; (· first | omega | decide)) | (refine' jk (jb je rfl (jN _ ?_)) rfl ?_; (· first | omega | decide)) | (refine jx ?_; intro bNew) | (refine kh ?_; intro bBox))
   refine jr (fun w h => h.tail) ?_
   refine js 2 _ rfl rfl ?_
   exact ⟨rfl, rfl⟩
end
end Go.Proofs.YtkpblofmoalnoaaGreatDoor
