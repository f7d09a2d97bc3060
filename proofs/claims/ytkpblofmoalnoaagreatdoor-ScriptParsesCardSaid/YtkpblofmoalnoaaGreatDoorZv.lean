/-
 WHAT the row's condition gives: the variables' cells; a world that meets it.
-/
import Derived.Test.YtkpblofmoalnoaaGreatDoorZq
import Derived.Test.YtkpblofmoalnoaaGreatDoorZt5
import Derived.Test.YtkpblofmoalnoaaGreatDoorYw
import Derived.Test.YtkpblofmoalnoaaGreatDoorRows
import Derived.Lib.LaidTab
import Derived.Stop.LaidErr
import Derived.Stop.ErrReads
import Derived.LaidHandle
import Derived.LaidSub
import Derived.LaidLaws
import Derived.RowKit
import Derived.RowKitTokens
set_option linter.unusedVariables false
set_option linter.unusedSimpArgs false
namespace Go.Proofs.YtkpblofmoalnoaaGreatDoor
open Go.ChangeShapes Go.WideShapes Go.RowKit
def laidL : List (String × DataW Unit) := Rows.scriptParsesRow.laid
theorem aae {H : Type} {enc : TypeId × Value → H} {P : Program} {w : World} {base : Nat} {sp : Nat → Bool} {held : Bool} {fuel : Nat} {t e : TypeId} {n : Nat} {cs : List Value} {zs : List (List UInt8)} {p : List MemPlace}
 (ht : P.underlying t = some (.array n e)) (he : P.underlying e = some .string) (hce : P.cellsOf e = 1) (hct : P.cellsOf t = n)
 (h : DataW.trod enc P w base sp held fuel t cs = some (.agg (zs.map fun z => .lit (.string z)), p)) : cs = zs.map fun z => Value.string (bs z) := by
 cases fuel with
 | zero => simp [DataW.trod] at h
 | succ fuel =>
   simp only [DataW.trod, ht, hce, hct, Nat.mul_one] at h
   split at h
   · rename_i hl
     obtain ⟨xs, hm, hx⟩ := Option.map_eq_some_iff.1 h
     have hxs : xs.map (·.1) = zs.map fun z => (DataW.lit (.string z) : DataW H) := by
      have := congrArg Prod.fst hx
      simpa using this
     have hxl : xs.length = n := by simpa using Lib.mapM_length hm
     have hzl : zs.length = n := by
      have := congrArg List.length hxs
      simp at this
      omega
     apply List.ext_getElem?
     intro i
     by_cases hi : i < n
     · obtain ⟨b, hb, hf⟩ := Lib.mapM_at hm i i (by simp [hi])
       obtain ⟨s, hc, rfl, _⟩ := DataW.trod_string he hf
       have h1 : cs[i]? = some (.string s) := by
        have := congrArg (·[0]?) hc
        simpa [List.getElem?_take, List.getElem?_drop] using this
       have h2 : (xs.map (·.1))[i]? = some (DataW.lit (.string s.data.toList) : DataW H) := by simp [hb]
       rw [hxs] at h2
       simp only [List.getElem?_map, Option.map_eq_some_iff, DataW.lit.injEq, Lit.string.injEq] at h2
       obtain ⟨z', hz', hzz⟩ := h2
       have : bs z' = s := by
        rw [hzz]
        rfl
       simp [h1, hz', this]
     · rw [List.getElem?_eq_none (by omega), List.getElem?_eq_none (by simp; omega)]
   · cases h
theorem glob_words : Tryz.prog.globalNamed "hustings/conf.words" = some 0 := by kernel_rfl
theorem type_words : (Tryz.prog.globals[0]?).map (·.type) = some 109 := by kernel_rfl
theorem Wl : Tryz.prog.globalNamed "internal/strconv.uint64pow10" = some 1 := by kernel_rfl
theorem afT : (Tryz.prog.globals[1]?).map (·.type) = some 200 := by kernel_rfl
theorem aaf : Tryz.prog.globalNamed "math/bits.deBruijn32tab" = some 7 := by kernel_rfl
theorem afU : (Tryz.prog.globals[7]?).map (·.type) = some 342 := by kernel_rfl
theorem aag : Tryz.prog.globalNamed "math/bits.deBruijn64tab" = some 8 := by kernel_rfl
theorem afV : (Tryz.prog.globals[8]?).map (·.type) = some 343 := by kernel_rfl
theorem Wm : Tryz.prog.globalNamed "hustings/head.bits" = some 11 := by kernel_rfl
theorem adJ : (Tryz.prog.globals[11]?).map (·.type) = some 484 := by kernel_rfl
theorem aah : Tryz.prog.globalNamed "hustings/heard.errBad" = some 3 := by kernel_rfl
theorem afW : (Tryz.prog.globals[3]?).map (·.type) = some 80 := by kernel_rfl
theorem Wn : Tryz.prog.globalNamed "hustings/heard.errPass" = some 4 := by kernel_rfl
theorem adK : (Tryz.prog.globals[4]?).map (·.type) = some 80 := by kernel_rfl
theorem aai : Tryz.prog.globalNamed "strconv.ErrSyntax" = some 9 := by kernel_rfl
theorem afX : (Tryz.prog.globals[9]?).map (·.type) = some 80 := by kernel_rfl
theorem aaj : Tryz.prog.globalNamed "strconv.ErrRange" = some 10 := by kernel_rfl
theorem afY : (Tryz.prog.globals[10]?).map (·.type) = some 80 := by kernel_rfl
theorem qK {P : Program} {w : World} {n : String} {g : Nat} {cs : Array Value} (hg : P.globalNamed n = some g) (h : w.var? P n = some cs) : ∃ t fr, w.heap[g]? = some (.cells cs t fr) := by
 unfold World.var? at h
 rw [hg, Option.bind_some] at h
 split at h
 · rename_i cs' t fr hh
   cases h
   exact ⟨t, fr, hh⟩
 · cases h
theorem zV {W : World} {a : Addr} {v : Value} (h : W.cell? a = some v) : a = ⟨a.block, a.off, none⟩ := by
 obtain ⟨b, o, s⟩ := a
 unfold World.cell? at h
 split at h
 · cases s with
   | none => rfl
   | some x => simp at h
 · cases h
theorem yF (σ : Ev.Sg) (k : IntKind) : ∀ (zs : List Int), Ev.DenL σ (zs.map fun z => Ev.AV.int k z) (zs.map fun z => Value.int k z)
 | [] => .nil
 | z :: zs => .cons (by simp [Ev.Den]) (yF σ k zs)
theorem Wo (σ : Ev.Sg) : ∀ (zs : List (List UInt8)), Ev.DenL σ (zs.map fun z => Ev.AV.str (z.map (·.toNat))) (zs.map fun z => Value.string (bs z))
 | [] => .nil
 | z :: zs => .cons (by
    simp only [Ev.Den]
    refine ⟨fun b hb => ?_, ?_⟩
    · obtain ⟨c, _, rfl⟩ := List.mem_map.1 hb
      exact c.toNat_lt
    · unfold Ev.bsN
      rw [List.map_map]
      congr 2
      exact (List.map_id' _).symm.trans (List.map_congr_left fun c _ => by simp)) (Wo σ zs)
theorem Ug {σ : Ev.Sg} {n e : Nat} {a : Addr} {t : TypeId} (h : σ n = some (a.block, a.off)) (ha : a = ⟨a.block, a.off, none⟩) : Ev.DenO σ 0 (.cells [.ifc t (.ptrK n)] e) (.cells #[.iface t (.pointer (some a))] e (0, 0)) :=
 ⟨[_], .cons (by simp only [Ev.Den]; exact ⟨_, ⟨(a.block, a.off), h, rfl⟩, by rw [← ha]⟩) .nil, rfl⟩
def wordsU : List (List UInt8) := [[117, 112, 115], [100, 101, 97, 100, 108, 105, 110, 101], [104, 101, 100, 103, 101], [119, 97, 105, 116], [116, 114, 105, 101, 115], [114, 101, 115, 116], [108, 105, 109, 105, 116], [99, 97, 99, 104, 101], [102, 108, 105, 103, 104, 116, 115], [119, 97, 105, 116, 101, 114, 115], [116, 116, 108], [115, 105, 122, 101]]
structure GlobA (L : jc) : Prop where
 laid : Ev.Laid L
 glob : GlobS L
theorem GlobA.mono {L L' : jc} (h : GlobA L) (hs : ∀ p ∈ L, p ∈ L') : GlobA L' := ⟨h.laid.mono hs, h.glob.mono hs⟩
theorem afZ {W : World} (h : laidMetH Tryz.prog laidL W) (hs : W.ShapedOpen Tryz.prog) : GlobA (qG W) := by
 have h1 := (laidMetH_iff.1 h).1
 have e1 : (laidL.filter fun x => x.2.handleName?.isNone) = [("hustings/conf.words", Rows.laid_hustings_conf_words), ("unicode/utf8.first", Rows.laid_unicode_utf8_first), ("unicode/utf8.acceptRanges", Rows.laid_unicode_utf8_acceptRanges), ("strconv.ErrSyntax", Rows.laid_strconv_ErrSyntax), ("strconv.ErrRange", Rows.laid_strconv_ErrRange), ("internal/strconv.uint64pow10", Rows.laid_internal_strconv_uint64pow10), ("math/bits.deBruijn32tab", Rows.laid_math_bits_deBruijn32tab), ("math/bits.deBruijn64tab", Rows.laid_math_bits_deBruijn64tab), ("hustings/head.bits", Rows.laid_hustings_head_bits), ("hustings/heard.errBad", Rows.laid_hustings_heard_errBad), ("hustings/heard.errPass", Rows.laid_hustings_heard_errPass)] := by kernel_rfl
 rw [e1] at h1
 obtain ⟨g', t', cs, fuel, p, q, hg', ht', hvar, hd, _, _⟩ := h1.choose_spec.1
 obtain rfl := Option.some.inj (glob_words.symm.trans hg')
 obtain rfl := Option.some.inj (type_words.symm.trans ht')
 have hcs := aae (zs := wordsU) Tryz.underlying109 Tryz.underlying9 (by kernel_rfl) (by kernel_rfl) hd
 have h2 := h1.tail.tail.tail
 obtain ⟨a_syn, s_syn, hv_syn, hc_syn, _, _⟩ := laid_sentinel h2 aai afX Tryz.underlying80 Uf Tryz.underlying476 Tryz.underlying478 rfl rfl Tryz.underlying9 (by kernel_rfl) (by kernel_rfl)
 obtain ⟨t_syn, fr_syn, hb_syn⟩ := qK aai hv_syn
 obtain ⟨a_rng, s_rng, hv_rng, hc_rng, _, _⟩ := laid_sentinel h2.tail aaj afY Tryz.underlying80 Uf Tryz.underlying476 Tryz.underlying478 rfl rfl Tryz.underlying9 (by kernel_rfl) (by kernel_rfl)
 obtain ⟨t_rng, fr_rng, hb_rng⟩ := qK aaj hv_rng
 have h3 := h2.tail.tail
 have hv_pow : Lib.TabIs Tryz.prog W "internal/strconv.uint64pow10" .u64 [1, 10, 100, 1000, 10000, 100000, 1000000, 10000000, 100000000, 1000000000, 10000000000, 100000000000, 1000000000000, 10000000000000, 100000000000000, 1000000000000000, 10000000000000000, 100000000000000000, 1000000000000000000, 10000000000000000000] := Lib.tabIs_of_head (rest := _) Wl afT Tryz.underlying200 Tryz.underlying26 (by kernel_rfl) (by kernel_rfl) h3
 obtain ⟨t_pow, fr_pow, hb_pow⟩ := qK Wl hv_pow
 have hv_d32 : Lib.TabIs Tryz.prog W "math/bits.deBruijn32tab" .u8 [0, 1, 28, 2, 29, 14, 24, 3, 30, 22, 20, 15, 25, 17, 4, 8, 31, 27, 13, 23, 21, 19, 16, 7, 26, 12, 18, 6, 11, 5, 10, 9] := Lib.tabIs_of_head (rest := _) aaf afU Tryz.underlying342 Tryz.underlying5 (by kernel_rfl) (by kernel_rfl) h3.tail
 obtain ⟨t_d32, fr_d32, hb_d32⟩ := qK aaf hv_d32
 have hv_d64 : Lib.TabIs Tryz.prog W "math/bits.deBruijn64tab" .u8 [0, 1, 56, 2, 57, 49, 28, 3, 61, 58, 42, 50, 38, 29, 17, 4, 62, 47, 59, 36, 45, 43, 51, 22, 53, 39, 33, 30, 24, 18, 12, 5, 63, 55, 48, 27, 60, 41, 37, 16, 46, 35, 44, 21, 52, 32, 23, 11, 54, 26, 40, 15, 34, 20, 31, 10, 25, 14, 19, 9, 13, 8, 7, 6] := Lib.tabIs_of_head (rest := _) aag afV Tryz.underlying343 Tryz.underlying5 (by kernel_rfl) (by kernel_rfl) h3.tail.tail
 obtain ⟨t_d64, fr_d64, hb_d64⟩ := qK aag hv_d64
 have h4 := h3.tail.tail.tail
 have hv_bits : Lib.TabIs Tryz.prog W "hustings/head.bits" .u16 [32768, 1024, 512, 256, 128, 64, 32, 16] := Lib.tabIs_of_head (rest := _) Wm adJ Tryz.underlying484 Tryz.underlying43 (by kernel_rfl) (by kernel_rfl) h4
 obtain ⟨t_bits, fr_bits, hb_bits⟩ := qK Wm hv_bits
 obtain ⟨a_bad, s_bad, hv_bad, hc_bad, _, _⟩ := laid_sentinel h4.tail aah afW Tryz.underlying80 Uf Tryz.underlying476 Tryz.underlying478 rfl rfl Tryz.underlying9 (by kernel_rfl) (by kernel_rfl)
 obtain ⟨t_bad, fr_bad, hb_bad⟩ := qK aah hv_bad
 obtain ⟨a_pass, s_pass, hv_pass, hc_pass, _, _⟩ := laid_sentinel h4.tail.tail Wn adK Tryz.underlying80 Uf Tryz.underlying476 Tryz.underlying478 rfl rfl Tryz.underlying9 (by kernel_rfl) (by kernel_rfl)
 obtain ⟨t_pass, fr_pass, hb_pass⟩ := qK Wn hv_pass
 obtain ⟨t_words, fr_words, hb_words⟩ := qK glob_words hvar
 obtain ⟨c_words, g_words, _, _⟩ := hs.1 0 (Array.replicate 12 (.string ⟨#[]⟩)) 109 (of_decide_eq_true (by kernel_rfl)) (by kernel_rfl)
 rw [hb_words] at g_words
 cases g_words
 obtain ⟨c_pow, g_pow, _, _⟩ := hs.1 1 (Array.replicate 20 (.int .u64 0)) 200 (of_decide_eq_true (by kernel_rfl)) (by kernel_rfl)
 rw [hb_pow] at g_pow
 cases g_pow
 obtain ⟨c_d32, g_d32, _, _⟩ := hs.1 7 (Array.replicate 32 (.int .u8 0)) 342 (of_decide_eq_true (by kernel_rfl)) (by kernel_rfl)
 rw [hb_d32] at g_d32
 cases g_d32
 obtain ⟨c_d64, g_d64, _, _⟩ := hs.1 8 (Array.replicate 64 (.int .u8 0)) 343 (of_decide_eq_true (by kernel_rfl)) (by kernel_rfl)
 rw [hb_d64] at g_d64
 cases g_d64
 obtain ⟨c_bits, g_bits, _, _⟩ := hs.1 11 (Array.replicate 8 (.int .u16 0)) 484 (of_decide_eq_true (by kernel_rfl)) (by kernel_rfl)
 rw [hb_bits] at g_bits
 cases g_bits
 obtain ⟨c_bad, g_bad, _, _⟩ := hs.1 3 #[.nilIface] 80 (of_decide_eq_true (by kernel_rfl)) (by kernel_rfl)
 rw [hb_bad] at g_bad
 cases g_bad
 obtain ⟨c_pass, g_pass, _, _⟩ := hs.1 4 #[.nilIface] 80 (of_decide_eq_true (by kernel_rfl)) (by kernel_rfl)
 rw [hb_pass] at g_pass
 cases g_pass
 obtain ⟨c_syn, g_syn, _, _⟩ := hs.1 9 #[.nilIface] 80 (of_decide_eq_true (by kernel_rfl)) (by kernel_rfl)
 rw [hb_syn] at g_syn
 cases g_syn
 obtain ⟨c_rng, g_rng, _, _⟩ := hs.1 10 #[.nilIface] 80 (of_decide_eq_true (by kernel_rfl)) (by kernel_rfl)
 rw [hb_rng] at g_rng
 cases g_rng
 obtain ⟨cs1, hh, hs1, _⟩ := hs.1 2 #[.int .i64 0] 3 (of_decide_eq_true (by kernel_rfl)) (by kernel_rfl)
 obtain ⟨m, hm⟩ := cell_of_shapedOpen_int (k := .i64) (zero := #[.int .i64 0]) (t := 3) hs (g := 2) (of_decide_eq_true (by kernel_rfl)) (by kernel_rfl) rfl (by kernel_rfl) (by kernel_rfl) Tryz.underlying3
 have hc1 : cs1 = #[.int .i64 m] := by
  have h1 : cs1.size = 1 := hs1
  have h2 : cs1[0]? = some (.int .i64 m) := by simpa [World.cell?, hh] using hm
  apply Array.ext (by simpa using h1)
  intro i h3 h4
  have : i = 0 := by omega
  subst this
  have := (Array.getElem?_eq_some_iff.1 h2).2
  simpa using this
 subst hc1
 have hcw : cs = (wordsU.map fun z => Value.string (bs z)).toArray := by
  apply Array.toList_inj.1
  rw [hcs]
 refine ⟨?_, ⟨⟨m, _, _, qj hh⟩, ⟨_, _, qj hb_pow⟩, ⟨_, _, qj (hcw ▸ hb_words)⟩⟩, ⟨_, _, _, qj hb_syn, Or.inr ⟨_, _, rfl⟩⟩, ⟨_, _, _, qj hb_rng, Or.inr ⟨_, _, rfl⟩⟩⟩
 refine ⟨(a_bad.block, a_bad.off), (a_pass.block, a_pass.off), (a_syn.block, a_syn.off), (a_rng.block, a_rng.off), fun i o hl => ?_⟩
 have hm := Ev.look_mem hl
 unfold Ev.laid0 at hm
 simp only [List.mem_cons, List.not_mem_nil, or_false, Prod.mk.injEq] at hm
 rcases hm with ⟨rfl, rfl⟩ | ⟨rfl, rfl⟩ | ⟨rfl, rfl⟩ | ⟨rfl, rfl⟩ | ⟨rfl, rfl⟩ | ⟨rfl, rfl⟩ | ⟨rfl, rfl⟩ | ⟨rfl, rfl⟩ | ⟨rfl, rfl⟩
 · refine ⟨_, ⟨_, Wo _ wordsU, rfl⟩, ?_⟩
   have : cs = (wordsU.map fun z => Value.string (bs z)).toArray := by
    apply Array.toList_inj.1
    rw [hcs]
   rw [← this]
   exact qj hb_words
 · exact ⟨_, ⟨_, yF _ .u64 [1, 10, 100, 1000, 10000, 100000, 1000000, 10000000, 100000000, 1000000000, 10000000000, 100000000000, 1000000000000, 10000000000000, 100000000000000, 1000000000000000, 10000000000000000, 100000000000000000, 1000000000000000000, 10000000000000000000], rfl⟩, qj hb_pow⟩
 · exact ⟨_, Ug rfl (zV hc_bad), qj hb_bad⟩
 · exact ⟨_, Ug rfl (zV hc_pass), qj hb_pass⟩
 · exact ⟨_, ⟨_, yF _ .u8 [0, 1, 28, 2, 29, 14, 24, 3, 30, 22, 20, 15, 25, 17, 4, 8, 31, 27, 13, 23, 21, 19, 16, 7, 26, 12, 18, 6, 11, 5, 10, 9], rfl⟩, qj hb_d32⟩
 · exact ⟨_, ⟨_, yF _ .u8 [0, 1, 56, 2, 57, 49, 28, 3, 61, 58, 42, 50, 38, 29, 17, 4, 62, 47, 59, 36, 45, 43, 51, 22, 53, 39, 33, 30, 24, 18, 12, 5, 63, 55, 48, 27, 60, 41, 37, 16, 46, 35, 44, 21, 52, 32, 23, 11, 54, 26, 40, 15, 34, 20, 31, 10, 25, 14, 19, 9, 13, 8, 7, 6], rfl⟩, qj hb_d64⟩
 · exact ⟨_, Ug rfl (zV hc_syn), qj hb_syn⟩
 · exact ⟨_, Ug rfl (zV hc_rng), qj hb_rng⟩
 · exact ⟨_, ⟨_, yF _ .u16 [32768, 1024, 512, 256, 128, 64, 32, 16], rfl⟩, qj hb_bits⟩
def af0 (c : Array Value) : Obj → Obj
 | .cells _ t fr => .cells c t fr
 | o => o
def ahI : Nat → DataW Unit → List Value
 | 0, _ => []
 | n + 1, .lit (.int k z) => [.int k z]
 | n + 1, .lit (.string s) => [.string ⟨s.toArray⟩]
 | n + 1, .agg l => l.flatMap (ahI n)
 | _ + 1, _ => []
def yi (d : DataW Unit) : Obj → Obj
 | .cells _ t fr => .cells (ahI 5 d).toArray t fr
 | o => o
noncomputable def laidWorld (os : Os) : World :=
 { World.holding Tryz.prog os ⟨#[], #[], []⟩ with heap := (((((((((((((World.holding Tryz.prog os ⟨#[], #[], []⟩).heap.modify 3 (af0 #[.iface 476 (.pointer (some ⟨(World.holding Tryz.prog os ⟨#[], #[], []⟩).heap.size, 0, none⟩))])).modify 4 (af0 #[.iface 476 (.pointer (some ⟨(World.holding Tryz.prog os ⟨#[], #[], []⟩).heap.size + 1, 0, none⟩))])).modify 9 (af0 #[.iface 476 (.pointer (some ⟨(World.holding Tryz.prog os ⟨#[], #[], []⟩).heap.size + 2, 0, none⟩))])).modify 10 (af0 #[.iface 476 (.pointer (some ⟨(World.holding Tryz.prog os ⟨#[], #[], []⟩).heap.size + 3, 0, none⟩))])).modify 12 (af0 #[.iface (((Tryz.prog.cutTypes.find? (·.1 == "internal/reflectlite.rtype")).map (·.2)).getD 0) (.agg #[typeHandle Tryz.prog 80])])).modify 0 (yi Rows.laid_hustings_conf_words)).modify 5 (yi Rows.laid_unicode_utf8_first)).modify 6 (yi Rows.laid_unicode_utf8_acceptRanges)).modify 1 (yi Rows.laid_internal_strconv_uint64pow10)).modify 7 (yi Rows.laid_math_bits_deBruijn32tab)).modify 8 (yi Rows.laid_math_bits_deBruijn64tab)).modify 11 (yi Rows.laid_hustings_head_bits)
  |>.push (.cells #[.string ⟨#[116, 104, 101, 32, 114, 101, 112, 108, 121, 32, 105, 115, 32, 98, 97, 100]⟩] 478) |>.push (.cells #[.string ⟨#[116, 104, 101, 32, 114, 101, 112, 108, 121, 32, 105, 115, 32, 97, 32, 112, 97, 115, 115]⟩] 478) |>.push (.cells #[.string ⟨#[105, 110, 118, 97, 108, 105, 100, 32, 115, 121, 110, 116, 97, 120]⟩] 478) |>.push (.cells #[.string ⟨#[118, 97, 108, 117, 101, 32, 111, 117, 116, 32, 111, 102, 32, 114, 97, 110, 103, 101]⟩] 478)) }
theorem own : ownKnob Tryz.prog.godebug = none := by kernel_rfl
end Go.Proofs.YtkpblofmoalnoaaGreatDoor
