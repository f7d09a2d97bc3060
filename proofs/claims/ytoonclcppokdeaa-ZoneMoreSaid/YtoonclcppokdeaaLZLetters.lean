/-
  THE WALK of hustingslaw18.ZoneLetters: for every input it returns true, and nothing that was there is changed.
-/
import Derived.Test.YtoonclcppokdeaaZl3
import Derived.Test.YtoonclcppokdeaaLZInner
namespace Go.Proofs.Ytoonclcppokdeaa
open Go.RowKit Go.Maps

theorem SRow.new2 (w : World) (n m : Nm.Bytes) (t : TypeId) : SRow (w.alloc (.cells #[.string ⟨n.toArray⟩, .string ⟨m.toArray⟩] t)) (.slice (some ⟨w.heap.size, 0, none⟩) 2 2) [n, m] := by
  refine ⟨_, _, rfl, Or.inr ⟨_, _, rfl, by simp, fun i z hi => ?_⟩⟩
  rw [World.cell?_alloc_mark]
  match i with
  | 0 => cases hi; rfl
  | 1 => cases hi; rfl

theorem neq_zone (a b : Nm.Bytes) (p q r s : Int) (w : World) : (binOp .neq 35 (.agg #[.string ⟨a.toArray⟩, .int .u8 p, .int .u16 r]) (.agg #[.string ⟨b.toArray⟩, .int .u8 q, .int .u16 s])).run Try.prog w = .ok (.bool (!eqZ ⟨a, p, r⟩ ⟨b, q, s⟩)) w := by
  unfold eqZ
  by_cases h1 : a = b <;> by_cases h2 : p = q <;> by_cases h3 : r = s <;> (go_simp; try simp [h1, h2, h3])

/-- The bytes of a row, the first k of them turned. -/
def ByTo (f : UInt8 → UInt8) (l : List UInt8) (k : Nat) (C : Array Value) : Prop :=
  ∀ j (hj : j < l.length), C[j]? = some (.int .u8 ((if j < k then f l[j] else l[j]).toNat : Int))

theorem ByTo.start (f : UInt8 → UInt8) (s : ByteArray) (cap : Nat) : ByTo f s.data.toList 0 (bytesRow s cap) := by
  intro j hj
  rw [bytesRow_at s cap j (by simpa using hj)]
  simp
theorem ByTo.same {f : UInt8 → UInt8} {l : List UInt8} {k : Nat} {C : Array Value} (h : ByTo f l k C) (hk : k < l.length) (he : f l[k] = l[k]) : ByTo f l (k + 1) C := by
  intro j hj
  rw [h j hj]
  by_cases h1 : j < k
  · rw [if_pos h1, if_pos (by omega)]
  · by_cases h2 : j = k
    · subst h2; rw [if_neg h1, if_pos (by omega), he]
    · rw [if_neg h1, if_neg (by omega)]
theorem ByTo.put {f : UInt8 → UInt8} {l : List UInt8} {k : Nat} {C : Array Value} (h : ByTo f l k C) (hk : k < l.length) (hC : l.length ≤ C.size) : ByTo f l (k + 1) (C.setIfInBounds k (.int .u8 ((f l[k]).toNat : Int))) := by
  intro j hj
  by_cases h2 : k = j
  · subst h2; rw [Array.getElem?_setIfInBounds_self_of_lt (by omega), if_pos (by omega)]
  · rw [Array.getElem?_setIfInBounds_ne h2, h j hj]
    by_cases h1 : j < k
    · rw [if_pos h1, if_pos (by omega)]
    · rw [if_neg h1, if_neg (by omega)]
theorem ByTo.fin {f : UInt8 → UInt8} {l : List UInt8} {C : Array Value} (h : ByTo f l l.length C) (j : Nat) (hj : j < (l.map f).length) : C[j]? = some (.int .u8 ((l.map f)[j].toNat : Int)) := by
  have hj' : j < l.length := by simpa using hj
  rw [h j hj', if_pos hj']
  simp
theorem ByTo.none {f : UInt8 → UInt8} {l : List UInt8} {C : Array Value} (h : ByTo f l 0 C) (j : Nat) (hj : j < l.length) : C[j]? = some (.int .u8 (l[j].toNat : Int)) := by
  rw [h j hj, if_neg (by omega)]

theorem upB_yes (c : UInt8) (h1 : 97 ≤ c.toNat) (h2 : c.toNat ≤ 122) : ((upB c).toNat : Int) = (c.toNat : Int) - 32 := by
  unfold upB
  rw [if_pos ⟨UInt8.le_iff_toNat_le.2 (by simpa using h1), UInt8.le_iff_toNat_le.2 (by simpa using h2)⟩]
  rw [UInt8.toNat_sub]
  have : (32 : UInt8).toNat = 32 := rfl
  rw [this]
  omega
theorem upB_no (c : UInt8) (h : ¬ (97 ≤ c.toNat ∧ c.toNat ≤ 122)) : upB c = c := by
  unfold upB
  rw [if_neg]
  rintro ⟨h1, h2⟩
  exact h ⟨by simpa using UInt8.le_iff_toNat_le.1 h1, by simpa using UInt8.le_iff_toNat_le.1 h2⟩

theorem cat3 (c : UInt8) (a b : Nm.Bytes) : (({ data := #[c] } : ByteArray) ++ { data := a.toArray } ++ { data := b.toArray }) = ⟨(c :: (a ++ b)).toArray⟩ := by
  apply ByteArray.ext
  apply Array.toList_inj.1
  simp [ByteArray.data_append]

def upIf (n : Nm.Bytes) : Nm.Bytes := if Nm.may n then up n else n

set_option maxRecDepth 100000 in
set_option maxHeartbeats 2000000 in
theorem zoneLetters_walk (v : Value) (zs : List Zn) (s lb : Nm.Bytes) (w : World) (hv : ZRow w v zs) (hz1 : zs.length ≤ maxLen) (hz2 : ∀ z ∈ zs, z.FitsW) (hs : s.length ≤ maxLen) (hlb : lb.length ≤ maxLen) :
    Calls Try.prog 8 #[v, .string ⟨s.toArray⟩, .string ⟨lb.toArray⟩] w fun e w' => e = .returned (.bool true) ∧ Below w.heap.size w w' := by
  obtain ⟨a, cap, rfl, hrow⟩ := id hv
  have HV := Lib.hid hv
  have HZ2 := Lib.hid hz2
  have HZ1 := Lib.hid hz1
  have HS := Lib.hid hs
  have HLB := Lib.hid hlb
  clear hv hz2 hz1 hs hrow hlb
  go_enter Try.func8, Try.ntmps8
  go_wp2_with fail
  refine (long_any _ _ zs [s, lb] _ (HV.out.below ((Below.refl _ _).alloc (Nat.le_refl _) _) (Nat.le_refl _)) (SRow.new2 _ _ _ _) HZ1.out (by simp [maxLen]) (fun z hz => (HZ2.out z hz).2.2) (by intro n hn; simp at hn; rcases hn with rfl | rfl; exact HS.out; exact HLB.out)).mono ?_
  rintro e w1 ⟨rfl, r, rfl, hr⟩
  have B1 := Lib.hid ((Below.refl w.heap.size w).alloc (Nat.le_refl _) (.cells #[.string ⟨s.toArray⟩, .string ⟨lb.toArray⟩] 9))
  cases r with
  | true =>
    go_wp2_with fail
    refine (zAwake_any _).mono ?_
    rintro e w2 ⟨rfl, hb⟩
    go_wp2_with fail
    go_ret
    exact ⟨rfl, B1.out.trans (hb.mono (by simp))⟩
  | false =>
    obtain ⟨hl1, _, hl2, hl3⟩ := hr rfl
    have hfits : ∀ z ∈ zs, z.Fits := fun z hz => (HZ2.out z hz).fits (hl2 z hz)
    have HF := Lib.hid hfits
    have hsl : s.length < 10000 := hl3 s (by simp)
    have hll : lb.length < 10000 := hl3 lb (by simp)
    clear hl2 hl3 hfits hr HS HLB
    have HSZ := Lib.hid (show (⟨s.toArray⟩ : ByteArray).size ≤ maxLen by rw [bsize]; unfold maxLen; omega)
    have cM0 := fun W : World => (may_any ⟨s.toArray⟩ W HSZ.out).mono (R' := fun e w' => e = .returned (.bool (Nm.may s)) ∧ W = w') fun e w' h => h
    have cFo := Lib.hid (fun W : World => (fold_any ⟨s.toArray⟩ W HSZ.out).mono (R' := fun e w' => e = .returned (.string ⟨(Nm.fold s).toArray⟩) ∧ Below W.heap.size W w') fun e w' h => h)
    have kc := fun (w : World) (s : ByteArray) => run_bytes_of_string (P := Try.prog) w 9 40 5 s Try.underlying9 Try.underlying40 Try.underlying5
    go_wp2_with fail
    refine (zAwake_any _).mono ?_
    rintro e w2 ⟨rfl, hb⟩
    have B2 := Lib.hid (B1.out.trans (hb.mono (by simp)))
    clear hb B1
    go_wp2_with fail
    refine (New_any _ zs _ (by omega) HF.out (HV.out.below B2.out (Nat.le_refl _))).mono ?_
    intro e w3 hp
    have B3 := Lib.hid (B2.out.trans (hp.1.mono B2.out.size))
    by_cases h0 : newE zs = 0
    · obtain ⟨bt, rfl, _, hT, hb3⟩ := hp.good h0
      have HT := Lib.hid hT
      have HG := Lib.hid ((good_iff zs).1 h0)
      clear hp h0 hb3 hT B2
      have hf16 := HG.out.few
      go_wp2_with fail
      refine (cM0 _).mono ?_
      rintro e w' ⟨rfl, rfl⟩
      have cM := Lib.hid cM0
      clear cM0
      generalize hcap : grownCap w3 s.length 0 5 = cp
      have hM : s.length ≤ (bytesRow ⟨s.toArray⟩ cp).size := by have := bytesRow_ge ⟨s.toArray⟩ cp; rw [bsize] at this; exact this
      have hC0 : ByTo upB s 0 (bytesRow ⟨s.toArray⟩ cp) := ByTo.start upB ⟨s.toArray⟩ cp
      obtain ⟨C0, hC0e⟩ : ∃ C, C = bytesRow ⟨s.toArray⟩ cp := ⟨_, rfl⟩
      rw [← hC0e] at hM hC0 ⊢
      have HC0 := Lib.hid hC0
      clear hC0e hcap hC0 kc
      go_upto_if 32 with fail
      go_cut [10] (fun _ wx => ∃ C : Array Value, wx = (w3.alloc (.cells C 5 (C0.size, C0.size + 1))).drew ∧ ∀ j (hj : j < (upIf s).length), C[j]? = some (.int .u8 ((upIf s)[j].toNat : Int)))
      case first =>
        cases hm : Nm.may s with
        | false =>
          have e1 : upIf s = s := by simp [upIf, hm]
          have HE := Lib.hid e1
          clear hm e1
          go_wp2_with fail
          go_meet
          refine ⟨C0, rfl, ?_⟩
          rw [HE.out]
          exact fun j hj => HC0.out.none j hj
        | true =>
          have e1 : upIf s = s.map upB := by simp [upIf, hm, up]
          have HE := Lib.hid e1
          clear hm e1
          go_wp2_with fail
          go_loopw [10] (fun i wr => ∃ (k : Nat) (C : Array Value), k ≤ s.length ∧ i = .int .i64 k ∧ C.size = C0.size ∧ ByTo upB s k C ∧ wr = (w3.alloc (.cells C 5 (C0.size, C0.size + 1))).drew) (fun i _ => s.length - (intOf i).toNat)
          case atStart => exact ⟨0, C0, by omega, rfl, rfl, HC0.out, rfl⟩
          case round =>
            obtain ⟨k, C, hk, rfl, hCs, hC, rfl⟩ := hrel
            have HC := Lib.hid hC
            have HCs := Lib.hid hCs
            clear hC hCs
            by_cases hlt : k < s.length
            · obtain ⟨c, hc⟩ : ∃ c, s[k] = c := ⟨_, rfl⟩
              have hcell : (w3.alloc (.cells C 5 (C0.size, C0.size + 1))).cell? ⟨w3.heap.size, k, none⟩ = some (.int .u8 (c.toNat : Int)) := by
                rw [World.cell?_alloc_mark, HC.out k hlt, if_neg (by omega), hc]
              have hfr : (w3.alloc (.cells C 5 (C0.size, C0.size + 1))).frozen? ⟨w3.heap.size, k, none⟩ = false := by
                rw [World.frozen?_alloc_mark]
                simp
                omega
              have hnx := Lib.hid (HC.out.put hlt (by rw [HCs.out]; exact hM))
              have hnx2 := Lib.hid (HC.out.same hlt)
              have hc2 := Lib.hid hc
              clear hc
              have hb := c.toNat_lt
              by_cases h97 : 97 ≤ c.toNat ∧ c.toNat ≤ 122
              · obtain ⟨ha, hz⟩ := h97
                have hc3 := Lib.hid (upB_yes c ha hz)
                go_wp2_with fail
                refine ⟨⟨k + 1, _, by omega, by go_num, ?_, hnx.out, ?_⟩, by simp [intOf]; omega⟩
                · simpa using HCs.out
                · rw [hc2.out, hc3.out, setCell_new]
              · have hsm := Lib.hid (hnx2.out (by rw [hc2.out]; exact upB_no c h97))
                go_wp2_with fail
                all_goals exact ⟨⟨k + 1, C, by omega, by go_num, HCs.out, hsm.out, rfl⟩, by simp [intOf]; omega⟩
            · obtain rfl : k = s.length := by omega
              go_wp2_with fail
              go_meet
              refine ⟨C, rfl, ?_⟩
              rw [HE.out]
              exact fun j hj => HC.out.fin j hj
      case rest =>
        obtain ⟨C, rfl, hC⟩ := hcut
        have B4 := Lib.hid (B3.out.alloc B3.out.size (.cells C 5 (C0.size, C0.size + 1)) |>.drew)
        have HT4 := Lib.hid (HT.out.below (w' := (w3.alloc (.cells C 5 (C0.size, C0.size + 1))).drew) (((Below.refl w3.heap.size w3).alloc (Nat.le_refl _) _).drew) (Nat.le_refl _))
        have hul : (upIf s).length = s.length := by unfold upIf; split <;> simp [up]
        have hbk := run_back (P := Try.prog) (w3.alloc (.cells C 5 (C0.size, C0.size + 1))).drew 40 9 5 w3.heap.size s.length cp (upIf s) hul.symm Try.underlying40 Try.underlying5 Try.underlying9 (fun j hj => by
          show (w3.alloc (.cells C 5 (C0.size, C0.size + 1))).cell? _ = _
          rw [World.cell?_alloc_mark]
          exact hC j hj)
        clear hC
        have hup := Lib.hid (show (⟨(upIf s).toArray⟩ : ByteArray).size ≤ maxLen by rw [bsize, hul]; unfold maxLen; omega)
        have E1 := Lib.hid (show findZ zs (upIf s) = findZ zs s by
          unfold upIf
          split
          · rename_i hm; exact findZ_up zs hm
          · rfl)
        obtain ⟨z, hzd⟩ : ∃ z, z = findZ zs s := ⟨_, rfl⟩
        have HZD := Lib.hid hzd
        rw [← hzd] at E1
        have hee : eqZ ⟨z.name, z.pol, z.tru⟩ ⟨z.name, z.pol, z.tru⟩ = true := (eqZ_iff _ _).2 rfl
        clear hzd hul
        have F1 := Lib.hid (fun (W : World) (h : TableIs W bt zs) => (Find_any ⟨s.toArray⟩ zs bt W HSZ.out h (by omega)).mono (R' := fun e w' => e = .returned (.agg #[.string ⟨z.name.toArray⟩, .int .u8 z.pol, .int .u16 z.tru]) ∧ Below W.heap.size W w') (by rw [HZD.out]; exact fun e w' h => h))
        have F2 := Lib.hid (fun (W : World) (h : TableIs W bt zs) => (Find_any ⟨(upIf s).toArray⟩ zs bt W hup.out h (by omega)).mono (R' := fun e w' => e = .returned (.agg #[.string ⟨z.name.toArray⟩, .int .u8 z.pol, .int .u16 z.tru]) ∧ Below W.heap.size W w') (by rw [← E1.out]; exact fun e w' h => h))
        have hfs := Lib.hid (show (⟨(Nm.fold s).toArray⟩ : ByteArray).size ≤ maxLen by
          rw [bsize]; unfold Nm.fold maxLen; split
          · rw [Nm.low_length]; omega
          · simp)
        have F3 := Lib.hid (fun (W : World) (h : TableIs W bt zs) => Find_any ⟨(Nm.fold s).toArray⟩ zs bt W hfs.out h (by omega))
        have hneq := neq_zone
        go_wp2_with fail
        refine (F2.out _ HT4.out).mono ?_
        rintro e w5 ⟨rfl, hb5⟩
        have HT5 := Lib.hid (HT4.out.below hb5 (Nat.le_refl _))
        have B5 := Lib.hid (B4.out.trans (hb5.mono B4.out.size))
        clear hb5 hbk B4 HT4
        go_wp2_with fail
        refine (F1.out _ HT5.out).mono ?_
        rintro e w6 ⟨rfl, hb6⟩
        have HT6 := Lib.hid (HT5.out.below hb6 (Nat.le_refl _))
        have B6 := Lib.hid (B5.out.trans (hb6.mono B5.out.size))
        clear hb6 B5 HT5
        go_wp2_with fail
        refine (cFo.out _).mono ?_
        rintro e w7 ⟨rfl, hb7⟩
        have HT7 := Lib.hid (HT6.out.below hb7 (Nat.le_refl _))
        have B7 := Lib.hid (B6.out.trans (hb7.mono B6.out.size))
        clear hb7 B6 HT6
        go_wp2_with fail
        refine (F3.out _ HT7.out).mono ?_
        rintro e w8 ⟨rfl, hb8⟩
        have HT8 := Lib.hid (HT7.out.below hb8 (Nat.le_refl _))
        have B8 := Lib.hid (B7.out.trans (hb8.mono B7.out.size))
        clear hb8 B7 HT7
        obtain ⟨y, hy⟩ : ∃ y, y = findZ zs (Nm.fold s) := ⟨_, rfl⟩
        rw [show findZ zs (⟨(Nm.fold s).toArray⟩ : ByteArray).data.toList = y from hy.symm]
        unfold Zn.val strV
        have HY := Lib.hid hy
        clear hy
        go_wp2_with fail
        refine (F1.out _ HT8.out).mono ?_
        rintro e w9 ⟨rfl, hb9⟩
        have HT9 := Lib.hid (HT8.out.below hb9 (Nat.le_refl _))
        have B9 := Lib.hid (B8.out.trans (hb9.mono B8.out.size))
        clear hb9 B8 HT8
        have hcut80 : ∀ (b : Bool), Nm.may s = b → (b = true → y = z) := fun b hb ht => by
          subst ht
          rw [HY.out, HZD.out]
          exact findZ_fold zs hb
        have hlabel : lb.length < 1 ∨ 63 < lb.length ∨ (1 ≤ lb.length ∧ lb.length ≤ 63) := by omega
        have hyb : eqZ ⟨y.name, y.pol, y.tru⟩ ⟨z.name, z.pol, z.tru⟩ = true ∨ (eqZ ⟨y.name, y.pol, y.tru⟩ ⟨z.name, z.pol, z.tru⟩ = false ∧ Nm.may s = false) := by
          cases hm : Nm.may s with
          | true => left; rw [hcut80 true hm rfl]; exact hee
          | false => cases eqZ ⟨y.name, y.pol, y.tru⟩ ⟨z.name, z.pol, z.tru⟩ <;> simp
        clear hcut80
        rcases hyb with hye | ⟨hye, hmf⟩
        · go_upto_if 80 with fail
          clear hneq
          rcases hlabel with hl | hl | ⟨hl1', hl2'⟩
          · go_wp2_with fail
            go_ret
            exact ⟨rfl, B9.out⟩
          · go_wp2_with fail
            go_ret
            exact ⟨rfl, B9.out⟩
          · have hone : ∀ W : World, (convert 40 9 (.slice (some ⟨W.heap.size, 0, none⟩) 1 1)).run Try.prog (W.alloc (.cells #[.int .u8 (lb.length : Int)] 5)) = .ok (.string ⟨[UInt8.ofNat lb.length].toArray⟩) (W.alloc (.cells #[.int .u8 (lb.length : Int)] 5)) := fun W =>
              run_back _ 40 9 5 W.heap.size 1 1 [UInt8.ofNat lb.length] rfl Try.underlying40 Try.underlying5 Try.underlying9 (fun j hj => by
                rw [World.cell?_alloc_mark]
                match j, hj with
                | 0, _ =>
                  show some (Value.int .u8 (lb.length : Int)) = some (.int .u8 ((UInt8.ofNat lb.length).toNat : Int))
                  have : (UInt8.ofNat lb.length).toNat = lb.length := by simp; omega
                  rw [this])
            have hsum : lb.length + s.length + 1 < 30000 := by omega
            go_wp2_with fail
            rw [cat3]
            have B10 := Lib.hid (B9.out.alloc B9.out.size (.cells #[.int .u8 (lb.length : Int)] 5))
            have HT10 := Lib.hid (HT9.out.below (w' := w9.alloc (.cells #[.int .u8 (lb.length : Int)] 5)) ((Below.refl _ _).alloc (Nat.le_refl _) _) (Nat.le_refl _))
            have HLAW := Lib.hid (fun h1 h2 => label_law (zs := zs) (n := s) (label := lb) HG.out hl1' hl2' h1 h2)
            obtain ⟨inn, hinn⟩ : ∃ inn, inn = UInt8.ofNat lb.length :: (lb ++ s) := ⟨_, rfl⟩
            have hinl : inn.length ≤ 30000 := by rw [hinn]; simp; omega
            rw [← hinn]
            rw [← hinn] at HLAW
            clear hinn hone B9 HT9
            have hins := Lib.hid (show (⟨inn.toArray⟩ : ByteArray).size ≤ maxLen by rw [bsize]; unfold maxLen; omega)
            have cMi := fun W : World => (may_any ⟨inn.toArray⟩ W hins.out).mono (R' := fun e w' => e = .returned (.bool (Nm.may inn)) ∧ W = w') fun e w' h => h
            refine (cMi _).mono ?_
            rintro e w' ⟨rfl, rfl⟩
            clear cMi
            cases hmi : Nm.may inn with
            | false =>
              go_wp2_with fail
              go_ret
              exact ⟨rfl, B10.out⟩
            | true =>
              have HMI := Lib.hid hmi
              clear hmi
              go_wp2_with fail
              refine (cM.out _).mono ?_
              rintro e w' ⟨rfl, rfl⟩
              cases hms : Nm.may s with
              | false =>
                go_wp2_with fail
                go_ret
                exact ⟨rfl, B10.out⟩
              | true =>
                have HMS := Lib.hid hms
                have hf0 := zField0
                obtain ⟨x, hx⟩ : ∃ x, x = findZ zs inn := ⟨_, rfl⟩
                have HW := HLAW.out HMS.out HMI.out
                rw [← hx, ← HZD.out] at HW
                have HW2 := Lib.hid HW
                have hxn : x.name.length ≤ 20000 := by
                  rcases (inner_law (zs := zs) (n := inn) HG.out).2 with ⟨h1, _⟩ | h1
                  · rw [hx]; exact (HF.out _ h1).2.2
                  · rw [hx, h1]; simp [rootZ]
                have hzn : z.name.length ≤ 20000 := by
                  rcases (inner_law (zs := zs) (n := s) HG.out).2 with ⟨h1, _⟩ | h1
                  · rw [HZD.out]; exact (HF.out _ h1).2.2
                  · rw [HZD.out, h1]; simp [rootZ]
                have HX := Lib.hid hx
                clear hms hx HW
                go_wp2_with fail
                refine (Find_any ⟨inn.toArray⟩ zs bt _ hins.out HT10.out (by omega)).mono ?_
                rintro e w11 ⟨rfl, hb11⟩
                rw [show findZ zs (⟨inn.toArray⟩ : ByteArray).data.toList = x from HX.out.symm]
                unfold Zn.val strV
                have HT11 := Lib.hid (HT10.out.below hb11 (Nat.le_refl _))
                have B11 := Lib.hid (B10.out.trans (hb11.mono B10.out.size))
                clear hb11 B10 HT10
                go_wp2_with fail
                refine (F1.out _ HT11.out).mono ?_
                rintro e w12 ⟨rfl, hb12⟩
                have B12 := Lib.hid (B11.out.trans (hb12.mono B11.out.size))
                clear hb12 B11 HT11
                go_wp2_with fail
                refine (Within_any ⟨x.name.toArray⟩ ⟨z.name.toArray⟩ _ (by rw [bsize]; unfold maxLen; omega) (by rw [bsize]; unfold maxLen; omega)).mono ?_
                rintro e w13 ⟨rfl, hb13⟩
                rw [show Nm.within (⟨x.name.toArray⟩ : ByteArray).data.toList (⟨z.name.toArray⟩ : ByteArray).data.toList = true from HW2.out]
                go_wp2_with fail
                go_ret
                exact ⟨rfl, B12.out.trans (hb13.mono B12.out.size)⟩
        · have cM1 := cM.out
          rw [hmf] at cM1
          have CM1 := Lib.hid cM1
          clear cM1 hmf
          go_wp2_with fail
          refine (CM1.out _).mono ?_
          rintro e w' ⟨rfl, rfl⟩
          go_upto_if 80 with fail
          clear hneq CM1
          rcases hlabel with hl | hl | ⟨hl1', hl2'⟩
          · go_wp2_with fail
            go_ret
            exact ⟨rfl, B9.out⟩
          · go_wp2_with fail
            go_ret
            exact ⟨rfl, B9.out⟩
          · have hone : ∀ W : World, (convert 40 9 (.slice (some ⟨W.heap.size, 0, none⟩) 1 1)).run Try.prog (W.alloc (.cells #[.int .u8 (lb.length : Int)] 5)) = .ok (.string ⟨[UInt8.ofNat lb.length].toArray⟩) (W.alloc (.cells #[.int .u8 (lb.length : Int)] 5)) := fun W =>
              run_back _ 40 9 5 W.heap.size 1 1 [UInt8.ofNat lb.length] rfl Try.underlying40 Try.underlying5 Try.underlying9 (fun j hj => by
                rw [World.cell?_alloc_mark]
                match j, hj with
                | 0, _ =>
                  show some (Value.int .u8 (lb.length : Int)) = some (.int .u8 ((UInt8.ofNat lb.length).toNat : Int))
                  have : (UInt8.ofNat lb.length).toNat = lb.length := by simp; omega
                  rw [this])
            have hsum : lb.length + s.length + 1 < 30000 := by omega
            go_wp2_with fail
            rw [cat3]
            have B10 := Lib.hid (B9.out.alloc B9.out.size (.cells #[.int .u8 (lb.length : Int)] 5))
            have HT10 := Lib.hid (HT9.out.below (w' := w9.alloc (.cells #[.int .u8 (lb.length : Int)] 5)) ((Below.refl _ _).alloc (Nat.le_refl _) _) (Nat.le_refl _))
            have HLAW := Lib.hid (fun h1 h2 => label_law (zs := zs) (n := s) (label := lb) HG.out hl1' hl2' h1 h2)
            obtain ⟨inn, hinn⟩ : ∃ inn, inn = UInt8.ofNat lb.length :: (lb ++ s) := ⟨_, rfl⟩
            have hinl : inn.length ≤ 30000 := by rw [hinn]; simp; omega
            rw [← hinn]
            rw [← hinn] at HLAW
            clear hinn hone B9 HT9
            have hins := Lib.hid (show (⟨inn.toArray⟩ : ByteArray).size ≤ maxLen by rw [bsize]; unfold maxLen; omega)
            have cMi := fun W : World => (may_any ⟨inn.toArray⟩ W hins.out).mono (R' := fun e w' => e = .returned (.bool (Nm.may inn)) ∧ W = w') fun e w' h => h
            refine (cMi _).mono ?_
            rintro e w' ⟨rfl, rfl⟩
            clear cMi
            cases hmi : Nm.may inn with
            | false =>
              go_wp2_with fail
              go_ret
              exact ⟨rfl, B10.out⟩
            | true =>
              have HMI := Lib.hid hmi
              clear hmi
              go_wp2_with fail
              refine (cM.out _).mono ?_
              rintro e w' ⟨rfl, rfl⟩
              cases hms : Nm.may s with
              | false =>
                go_wp2_with fail
                go_ret
                exact ⟨rfl, B10.out⟩
              | true =>
                have HMS := Lib.hid hms
                have hf0 := zField0
                obtain ⟨x, hx⟩ : ∃ x, x = findZ zs inn := ⟨_, rfl⟩
                have HW := HLAW.out HMS.out HMI.out
                rw [← hx, ← HZD.out] at HW
                have HW2 := Lib.hid HW
                have hxn : x.name.length ≤ 20000 := by
                  rcases (inner_law (zs := zs) (n := inn) HG.out).2 with ⟨h1, _⟩ | h1
                  · rw [hx]; exact (HF.out _ h1).2.2
                  · rw [hx, h1]; simp [rootZ]
                have hzn : z.name.length ≤ 20000 := by
                  rcases (inner_law (zs := zs) (n := s) HG.out).2 with ⟨h1, _⟩ | h1
                  · rw [HZD.out]; exact (HF.out _ h1).2.2
                  · rw [HZD.out, h1]; simp [rootZ]
                have HX := Lib.hid hx
                clear hms hx HW
                go_wp2_with fail
                refine (Find_any ⟨inn.toArray⟩ zs bt _ hins.out HT10.out (by omega)).mono ?_
                rintro e w11 ⟨rfl, hb11⟩
                rw [show findZ zs (⟨inn.toArray⟩ : ByteArray).data.toList = x from HX.out.symm]
                unfold Zn.val strV
                have HT11 := Lib.hid (HT10.out.below hb11 (Nat.le_refl _))
                have B11 := Lib.hid (B10.out.trans (hb11.mono B10.out.size))
                clear hb11 B10 HT10
                go_wp2_with fail
                refine (F1.out _ HT11.out).mono ?_
                rintro e w12 ⟨rfl, hb12⟩
                have B12 := Lib.hid (B11.out.trans (hb12.mono B11.out.size))
                clear hb12 B11 HT11
                go_wp2_with fail
                refine (Within_any ⟨x.name.toArray⟩ ⟨z.name.toArray⟩ _ (by rw [bsize]; unfold maxLen; omega) (by rw [bsize]; unfold maxLen; omega)).mono ?_
                rintro e w13 ⟨rfl, hb13⟩
                rw [show Nm.within (⟨x.name.toArray⟩ : ByteArray).data.toList (⟨z.name.toArray⟩ : ByteArray).data.toList = true from HW2.out]
                go_wp2_with fail
                go_ret
                exact ⟨rfl, B12.out.trans (hb13.mono B12.out.size)⟩
    · obtain ⟨rfl, hb3⟩ := hp.bad rfl h0
      have hne2 : ((newE zs) != 0) = true := by rw [bne_iff_ne]; exact h0
      have hne : ((newE zs) == 0) = false := beq_eq_false_iff_ne.2 h0
      go_wp2_with fail
      go_ret
      exact ⟨rfl, B3.out⟩
end Go.Proofs.Ytoonclcppokdeaa
