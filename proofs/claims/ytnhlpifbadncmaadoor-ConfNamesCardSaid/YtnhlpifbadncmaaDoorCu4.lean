/-
  Part 4: Ca Cb Cc Cd Ce Hs St3 Fr Au Cf Cg Cj Ci Ch Vd Vc Fs.
-/
import Derived.Test.YtnhlpifbadncmaaDoorCu1
import Derived.Lib.ItoaNum
import Derived.Test.YtnhlpifbadncmaaDoorCu3
import Derived.Lib.MinMax
import Derived.ScopeJumps
import Derived.Test.YtnhlpifbadncmaaDoorShelf
import Derived.Lib.SplitLaws
import Derived.Lib.AppendIntMem
import Derived.WalkSmall
namespace Go.Proofs.YtnhlpifbadncmaaDoor.Cn
open Go.Lib (decDigits)
abbrev Bytes := List UInt8
set_option linter.unusedVariables false
set_option linter.unusedSimpArgs false

/-! ### numerals -/
def isDig (c : UInt8) : Bool := 48 ≤ c.toNat && c.toNat ≤ 57
/-- What digits say. -/
def valD (l : Bytes) : Nat := l.foldl (fun n c => n * 10 + (c.toNat - 48)) 0
/-- May a word be a numeral? -/
def okD (w : Bytes) : Bool := !(w == []) && decide (w.length ≤ 10) && !((w.head? == some 48) && decide (1 < w.length)) && w.all isDig
/-- The number of a word, up to most. -/
def numP (w : Bytes) (most : Nat) : Option Nat := if okD w && decide (valD w ≤ most) then some (valD w) else none

theorem valD_nil : valD [] = 0 := rfl
theorem valD_snoc (l : Bytes) (c : UInt8) : valD (l ++ [c]) = valD l * 10 + (c.toNat - 48) := by simp [valD]
theorem rev_ind {p : Bytes → Prop} (h0 : p []) (h1 : ∀ l c, p l → p (l ++ [c])) (l : Bytes) : p l := by
  have : ∀ m : Bytes, p m.reverse := by
    intro m
    induction m with
    | nil => exact h0
    | cons a t ih => rw [List.reverse_cons]; exact h1 _ _ ih
  have := this l.reverse
  rwa [List.reverse_reverse] at this
theorem valD_lt : ∀ (l : Bytes), l.all isDig = true → valD l < 10 ^ l.length := by
  intro l
  refine rev_ind (p := fun l => l.all isDig = true → valD l < 10 ^ l.length) (fun _ => by simp [valD]) (fun l c ih => ?_) l
  · intro h
    rw [List.all_append] at h
    obtain ⟨h1, h2⟩ := Bool.and_eq_true_iff.1 h
    have := ih h1
    have hc : isDig c = true := by simpa using h2
    unfold isDig at hc
    simp at hc
    rw [valD_snoc, List.length_append, List.length_singleton, Nat.pow_succ]
    omega
theorem ofNat_dig {k : Nat} (h : k < 10) : (UInt8.ofNat (48 + k)).toNat = 48 + k := by simp; omega
theorem decD_dig (n : Nat) : (decDigits n).all isDig = true := by
  induction n using Nat.strongRecOn with
  | _ n ih =>
    rw [decDigits]
    split
    · rename_i h
      simp [isDig]
      omega
    · rename_i h
      rw [List.all_append, ih (n / 10) (by omega)]
      simp [isDig]
      omega
theorem decD_val (n : Nat) : valD (decDigits n) = n := by
  induction n using Nat.strongRecOn with
  | _ n ih =>
    rw [decDigits]
    split
    · rename_i h
      show 0 * 10 + ((UInt8.ofNat (48 + n)).toNat - 48) = n
      rw [ofNat_dig h]; omega
    · rename_i h
      rw [valD_snoc, ih (n / 10) (by omega), ofNat_dig (by omega)]
      omega
theorem decD_ne (n : Nat) : decDigits n ≠ [] := by
  intro h
  have := Go.Lib.decDigits_length n
  rw [h] at this
  have := Go.Lib.nDigits_pos n
  simp at *
  omega
theorem decD_head (n : Nat) (h : 0 < n) : (decDigits n).head? ≠ some 48 := by
  induction n using Nat.strongRecOn with
  | _ n ih =>
    rw [decDigits]
    split
    · rename_i h1
      intro k
      have := congrArg UInt8.toNat (Option.some.inj k)
      rw [ofNat_dig h1] at this
      have e : (48 : UInt8).toNat = 48 := rfl
      omega
    · rename_i h1
      have hn := decD_ne (n / 10)
      have := ih (n / 10) (by omega) (by omega)
      cases hd : decDigits (n / 10) with
      | nil => exact absurd hd hn
      | cons a t => rw [hd] at this; simpa using this
theorem decD_len (n : Nat) (h : n ≤ 2147483647) : (decDigits n).length ≤ 10 := by
  rw [Go.Lib.decDigits_length]
  rcases Nat.lt_or_ge (Go.Lib.nDigits n) 11 with k | k
  · omega
  · exfalso
    have := Go.Lib.decDigits_length n
    have h2 := decD_val n
    -- ten to the tenth is at most n
    have : ∀ m, 10 ^ (Go.Lib.nDigits m - 1) ≤ m ∨ m = 0 := by
      intro m
      induction m using Nat.strongRecOn with
      | _ m ih =>
        by_cases hm : m < 10
        · rw [Go.Lib.nDigits_small hm]
          by_cases h0 : m = 0
          · exact Or.inr h0
          · left; simp; omega
        · rw [Go.Lib.nDigits_big hm]
          rcases ih (m / 10) (by omega) with q | q
          · left
            have hp := Go.Lib.nDigits_pos (m / 10)
            rw [show Go.Lib.nDigits (m / 10) + 1 - 1 = (Go.Lib.nDigits (m / 10) - 1) + 1 by omega, Nat.pow_succ]
            omega
          · omega
    rcases this n with q | q
    · have : 10 ^ 10 ≤ 10 ^ (Go.Lib.nDigits n - 1) := Nat.pow_le_pow_right (by decide) (by omega)
      omega
    · subst q
      rw [Go.Lib.nDigits_small (by decide)] at k
      omega
theorem decD_ok (n : Nat) (h : n ≤ 2147483647) : okD (decDigits n) = true := by
  unfold okD
  have h1 := decD_ne n
  have h2 := decD_len n h
  have h3 := decD_dig n
  rw [h3]
  by_cases h0 : n = 0
  · subst h0; decide +kernel
  · have h4 := decD_head n (by omega)
    simp [h1, h2, h4]
/-- A numeral of a number. -/
theorem numP_dec {n most : Nat} (h : n ≤ most) (hm : most ≤ 2147483647) : numP (decDigits n) most = some n := by
  unfold numP
  rw [decD_ok n (by omega), decD_val]
  simp [h]
/-- A numeral is the numeral of its number. -/
theorem dec_valD : ∀ (w : Bytes), w ≠ [] → w.all isDig = true → (w.head? = some 48 → w.length ≤ 1) → decDigits (valD w) = w := by
  intro w
  refine rev_ind (p := fun w => w ≠ [] → w.all isDig = true → (w.head? = some 48 → w.length ≤ 1) → decDigits (valD w) = w) (fun h => absurd rfl h) (fun l c ih => ?_) w
  · intro _ h hd
    rw [List.all_append] at h
    obtain ⟨h1, h2⟩ := Bool.and_eq_true_iff.1 h
    have hc : isDig c = true := by simpa using h2
    unfold isDig at hc
    simp at hc
    rw [valD_snoc]
    have hcc : UInt8.ofNat (48 + (c.toNat - 48)) = c := by
      rw [show 48 + (c.toNat - 48) = c.toNat by omega]; simp
    by_cases hl : l = []
    · subst hl
      rw [valD_nil, decDigits, dif_pos (by omega)]
      simp only [Nat.zero_mul, Nat.zero_add, List.nil_append]
      rw [hcc]
    · have hd' : l.head? = some 48 → l.length ≤ 1 := by
        intro k
        have : (l ++ [c]).head? = some 48 := by cases l with | nil => exact absurd rfl hl | cons a t => simpa using k
        have h5 := hd this
        rw [List.length_append, List.length_singleton] at h5
        omega
      have i1 := ih hl h1 hd'
      have hpos : 0 < valD l := by
        rcases Nat.eq_zero_or_pos (valD l) with z | z
        · exfalso
          rw [z, decDigits, dif_pos (by decide)] at i1
          have : (l ++ [c]).head? = some 48 := by rw [← i1]; rfl
          have := hd this
          rw [← i1] at this
          simp at this
        · exact z
      rw [decDigits, dif_neg (by omega), show (valD l * 10 + (c.toNat - 48)) / 10 = valD l by omega, show (valD l * 10 + (c.toNat - 48)) % 10 = c.toNat - 48 by omega, i1, hcc]
theorem numP_some {w : Bytes} {most n : Nat} (h : numP w most = some n) : w = decDigits n ∧ n ≤ most := by
  unfold numP at h
  split at h
  · rename_i hk
    obtain ⟨k1, k2⟩ := Bool.and_eq_true_iff.1 hk
    unfold okD at k1
    simp at k1 k2
    obtain ⟨⟨⟨a1, a2⟩, a3⟩, a4⟩ := k1
    cases h
    refine ⟨(dec_valD w a1 ?_ ?_).symm, k2⟩
    · rw [List.all_eq_true]; exact a4
    · intro z
      rcases Nat.lt_or_ge 1 w.length with q | q
      · rcases a3 with a | a
        · exact absurd z a
        · exact a
      · exact q
  · cases h

/-! ### words and lines -/
/-- What stands between the bytes c. -/
def spl (c : UInt8) : Bytes → List Bytes
  | [] => [[]]
  | a :: t => if a = c then [] :: spl c t else match spl c t with
    | [] => [[a]]
    | w :: ws => (a :: w) :: ws
def joinW (c : UInt8) : List Bytes → Bytes
  | [] => []
  | [w] => w
  | w :: ws => w ++ c :: joinW c ws
theorem spl_ne (c : UInt8) (l : Bytes) : spl c l ≠ [] := by
  cases l with
  | nil => simp [spl]
  | cons a t => unfold spl; split; · simp
                split <;> simp
theorem joinW_cons (c : UInt8) (w : Bytes) {ws : List Bytes} (h : ws ≠ []) : joinW c (w :: ws) = w ++ c :: joinW c ws := by
  cases ws with
  | nil => exact absurd rfl h
  | cons a t => rfl
theorem join_spl (c : UInt8) (l : Bytes) : joinW c (spl c l) = l := by
  induction l with
  | nil => rfl
  | cons a t ih =>
    unfold spl
    have hn := spl_ne c t
    split
    · rename_i h; subst h
      rw [joinW_cons _ _ hn, ih]; rfl
    · cases hs : spl c t with
      | nil => exact absurd hs hn
      | cons w ws =>
        rw [hs] at ih
        cases ws with
        | nil => simpa [joinW] using ih
        | cons b bs => rw [joinW_cons _ _ (by simp)] at ih ⊢; simp [ih]
theorem spl_none {c : UInt8} {l : Bytes} (h : c ∉ l) : spl c l = [l] := by
  induction l with
  | nil => rfl
  | cons a t ih =>
    simp at h
    unfold spl
    rw [if_neg (fun k => h.1 k.symm), ih h.2]
theorem spl_at {c : UInt8} {l r : Bytes} (h : c ∉ l) : spl c (l ++ c :: r) = l :: spl c r := by
  induction l with
  | nil => simp [spl]
  | cons a t ih =>
    simp at h
    rw [List.cons_append]
    show spl c (a :: (t ++ c :: r)) = _
    rw [spl, if_neg (fun k => h.1 k.symm), ih h.2]
theorem spl_join (c : UInt8) : ∀ (ws : List Bytes), ws ≠ [] → (∀ w ∈ ws, c ∉ w) → spl c (joinW c ws) = ws
  | [], h, _ => absurd rfl h
  | [w], _, h => spl_none (h w (by simp))
  | w :: v :: ws, _, h => by
    rw [joinW_cons _ _ (by simp), spl_at (h w (by simp)), spl_join c (v :: ws) (by simp) (fun x hx => h x (by simp [hx]))]
/-- The lines that have ends, and what stands behind them. -/
def linesP (s : Bytes) : List Bytes × Bytes := ((spl 10 s).dropLast, (spl 10 s).getLastD [])
theorem linesP_end (s : Bytes) (h : (10 : UInt8) ∉ s) : linesP s = ([], s) := by unfold linesP; rw [spl_none h]; rfl
theorem linesP_line (l r : Bytes) (h : (10 : UInt8) ∉ l) : linesP (l ++ 10 :: r) = (l :: (linesP r).1, (linesP r).2) := by
  unfold linesP
  rw [spl_at h]
  have hn := spl_ne 10 r
  cases hs : spl 10 r with
  | nil => exact absurd hs hn
  | cons a t => rfl
/-- A text is its lines and what stands behind. -/
def unlines (ls : List Bytes) (r : Bytes) : Bytes := (ls.flatMap fun l => l ++ [10]) ++ r
theorem unlines_cons (l : Bytes) (ls : List Bytes) (r : Bytes) : unlines (l :: ls) r = l ++ 10 :: unlines ls r := by simp [unlines]
theorem lines_un (ls : List Bytes) (r : Bytes) (h : ∀ l ∈ ls, (10 : UInt8) ∉ l) (hr : (10 : UInt8) ∉ r) : linesP (unlines ls r) = (ls, r) := by
  induction ls with
  | nil => exact linesP_end r hr
  | cons l ls ih => rw [unlines_cons, linesP_line _ _ (h l (by simp)), ih (fun x hx => h x (by simp [hx]))]
end Go.Proofs.YtnhlpifbadncmaaDoor.Cn
namespace Go.Proofs.YtnhlpifbadncmaaDoor.Cn
open Go.Lib (decDigits)
set_option linter.unusedVariables false
set_option linter.unusedSimpArgs false
/-- A zone. -/
structure Zo where
  name : Bytes
  pol : Nat
  tru : Nat
deriving DecidableEq
/-- A configuration. -/
structure Cf where
  ups : Int
  ded : Int
  hdg : Int
  wai : Int
  tri : Int
  res : Int
  lim : Int
  cac : Int
  fli : Int
  wtr : Int
  ttl : Int
  siz : Int
  zs : List Zo
deriving DecidableEq
def Cf.nums (c : Cf) : List Int := [c.ups, c.ded, c.hdg, c.wai, c.tri, c.res, c.lim, c.cac, c.fli, c.wtr, c.ttl, c.siz]
def zeroC : Cf := ⟨0, 0, 0, 0, 0, 0, 0, 0, 0, 0, 0, 0, []⟩
def ofN (v : List Int) (zs : List Zo) : Cf := ⟨v.getD 0 0, v.getD 1 0, v.getD 2 0, v.getD 3 0, v.getD 4 0, v.getD 5 0, v.getD 6 0, v.getD 7 0, v.getD 8 0, v.getD 9 0, v.getD 10 0, v.getD 11 0, zs⟩
theorem ofN_nums (c : Cf) : ofN c.nums c.zs = c := rfl
/-- May the numbers be? -/
def mayNum (c : Cf) : Bool := decide ((1 ≤ c.ups ∧ c.ups ≤ 9 ∧ c.ups % 2 = 1) ∧ (1 ≤ c.hdg ∧ c.hdg ≤ 1000) ∧ (1 ≤ c.wai ∧ c.wai ≤ 1000) ∧ (1 ≤ c.tri ∧ c.tri ≤ 4) ∧
  (c.ups / 2 * c.hdg + c.tri * c.wai ≤ c.ded ∧ c.ded ≤ 100000) ∧ (1 ≤ c.res ∧ c.res ≤ 100000) ∧ (1 ≤ c.lim ∧ c.lim ≤ 100) ∧ (0 ≤ c.cac ∧ c.cac ≤ 256) ∧ (1 ≤ c.fli ∧ c.fli ≤ 32) ∧
  (1 ≤ c.wtr ∧ c.wtr ≤ 16) ∧ (0 ≤ c.ttl ∧ c.ttl ≤ 2147483647) ∧ (512 ≤ c.siz ∧ c.siz ≤ 4096))
/-- May a policy be, with its trust, of so many upstreams? -/
def okPol (ups : Int) (z : Zo) : Bool := decide (((z.pol = 1 ∨ z.pol = 2 ∨ z.pol = 4) ∧ z.tru = 0) ∨ (z.pol = 3 ∧ z.tru ≠ 0 ∧ z.tru / 2 ^ ups.toNat = 0))
def okName (z : Zo) : Bool := Nm.may z.name && (Nm.fold z.name == z.name)
def okZo (ups : Int) (z : Zo) : Bool := okName z && okPol ups z
/-- Is the i-th zone good, behind those ahead of it? -/
def goodAt (ups : Int) (zs : List Zo) (i : Nat) : Bool := match zs[i]? with
  | some z => okZo ups z && !(zs.take i).any (fun y => y.name == z.name)
  | none => true
def mayZs (ups : Int) (zs : List Zo) : Bool := decide (zs.length ≤ 16) && (List.range zs.length).all (goodAt ups zs)
def mayP (c : Cf) : Bool := mayNum c && mayZs c.ups c.zs
def liesP (c : Cf) : Int := if mayP c then c.ups / 2 else 0
theorem mayZs_iff (ups : Int) (zs : List Zo) : mayZs ups zs = true ↔ zs.length ≤ 16 ∧ (∀ z ∈ zs, okZo ups z = true) ∧ (zs.map Zo.name).Nodup := by
  unfold mayZs
  rw [Bool.and_eq_true, decide_eq_true_iff, List.all_eq_true]
  refine and_congr_right fun _ => ⟨fun h => ⟨fun z hz => ?_, ?_⟩, fun ⟨h1, h2⟩ i hi => ?_⟩
  · obtain ⟨i, hi, rfl⟩ := List.mem_iff_getElem.1 hz
    have := h i (List.mem_range.2 hi)
    unfold goodAt at this
    rw [List.getElem?_eq_getElem hi] at this
    exact (Bool.and_eq_true_iff.1 this).1
  · rw [List.Nodup, List.pairwise_iff_getElem]
    intro i j hi hj hij he
    simp at hi hj
    have := h j (List.mem_range.2 hj)
    unfold goodAt at this
    rw [List.getElem?_eq_getElem hj] at this
    have h3 := (Bool.and_eq_true_iff.1 this).2
    simp at h3
    have hm : zs[i] ∈ zs.take j := by
      rw [List.mem_take_iff_getElem]
      exact ⟨i, by omega, rfl⟩
    simp only [List.getElem_map] at he
    exact h3 _ hm he
  · have hi := List.mem_range.1 hi
    unfold goodAt
    rw [List.getElem?_eq_getElem hi]
    dsimp only
    rw [h1 _ (List.getElem_mem hi), Bool.true_and]
    simp only [Bool.not_eq_true', List.any_eq_false, beq_iff_eq]
    intro y hy he
    obtain ⟨k, hk, rfl⟩ := List.mem_take_iff_getElem.1 hy
    have := (List.pairwise_iff_getElem.1 h2) k i (by simp; omega) (by simpa using hi) (by omega)
    simp only [List.getElem_map] at this
    exact this he

/-! ### texts -/
/-- Names and their texts. -/
structure Names where
  text : Bytes → Bytes
  par : Bytes → Bytes × Int
structure Names.Ok (T : Names) : Prop where
  back : ∀ n, Nm.may n = true → T.par (T.text n) = (n, 0)
  may : ∀ t n, T.par t = (n, 0) → Nm.may n = true
  clean : ∀ n, Nm.may n = true → ∀ c ∈ T.text n, 33 ≤ c.toNat
  len : ∀ n, Nm.may n = true → (T.text n).length ≤ 2000
def words12 : List Bytes := [[117, 112, 115], [100, 101, 97, 100, 108, 105, 110, 101], [104, 101, 100, 103, 101], [119, 97, 105, 116], [116, 114, 105, 101, 115], [114, 101, 115, 116], [108, 105, 109, 105, 116], [99, 97, 99, 104, 101], [102, 108, 105, 103, 104, 116, 115], [119, 97, 105, 116, 101, 114, 115], [116, 116, 108], [115, 105, 122, 101]]
def strictW : Bytes := [115, 116, 114, 105, 99, 116]
def unionW : Bytes := [117, 110, 105, 111, 110]
def trustedW : Bytes := [116, 114, 117, 115, 116, 101, 100]
def refuseW : Bytes := [114, 101, 102, 117, 115, 101]
def zoneW : Bytes := [122, 111, 110, 101]
def polW (p : Nat) : Bytes := if p = 1 then strictW else if p = 2 then unionW else if p = 3 then trustedW else refuseW
def polP (w : Bytes) : Option Nat := if w = strictW then some 1 else if w = unionW then some 2 else if w = refuseW then some 4 else if w = trustedW then some 3 else none
/-- The upstreams of a trust. -/
def trustL (t : Nat) : List Nat := (List.range 16).filter fun u => t.testBit u
def numLine (w : Bytes) (v : Int) : Bytes := w ++ 32 :: decDigits v.toNat
def trustB (t : Nat) : Bytes := (trustL t).flatMap fun u => 32 :: decDigits u
section
variable (T : Names)
def zoneLine (z : Zo) : Bytes := zoneW ++ 32 :: (T.text z.name ++ 32 :: (polW z.pol ++ trustB z.tru))
/-- The lines of a configuration. -/
def lineL (c : Cf) : List Bytes := List.zipWith numLine words12 c.nums ++ c.zs.map (zoneLine T)
def textC (c : Cf) : Bytes := unlines (lineL T c) []
def showP (c : Cf) : Bytes × Int := if mayP c then (textC T c, 0) else ([], 1)
def readNum (k : Nat) (l : Bytes) : Option Int := match spl 32 l with
  | [w, n] => if some w = words12[k]? then (numP n 2147483647).map Int.ofNat else none
  | _ => none
/-- The trust of numerals behind a number. -/
def bitsGo : Int → Nat → List Bytes → Option Nat
  | _, t, [] => some t
  | last, t, w :: ws => match numP w 15 with
    | some u => if (u : Int) ≤ last then none else bitsGo u (t ||| 2 ^ u) ws
    | none => none
def readName (w : Bytes) : Option Bytes := if (T.par w).2 = 0 ∧ T.text (T.par w).1 = w then some (T.par w).1 else none
def readZone (l : Bytes) : Option Zo := match spl 32 l with
  | z :: w :: p :: ws => if z = zoneW then match readName T w, polP p, bitsGo (-1) 0 ws with
    | some n, some p, some t => if (decide (p = 3)) = (decide (t ≠ 0)) then some ⟨n, p, t⟩ else none
    | _, _, _ => none
    else none
  | _ => none
/-- Line by line: the number of the first that is wrong, or all numbers and zones. -/
def goP : Nat → List Bytes → List Int → List Zo → Nat ⊕ (List Int × List Zo)
  | _, [], vs, zs => .inr (vs, zs)
  | k, l :: ls, vs, zs => if k < 12 then match readNum k l with
      | some n => goP (k + 1) ls (vs ++ [n]) zs
      | none => .inl k
    else match readZone T l with
      | some z => goP (k + 1) ls vs (zs ++ [z])
      | none => .inl k
def parseP (s : Bytes) : Cf × Int × Int := if 131072 < s.length then (zeroC, 0, 5) else
  match goP T 0 (linesP s).1 [] [] with
  | .inl k => (zeroC, (k : Int) + 1, 3)
  | .inr (vs, zs) => if (linesP s).2 ≠ [] ∨ (linesP s).1.length < 12 then (zeroC, ((linesP s).1.length : Int) + 1, 3) else
    if mayP (ofN vs zs) then (ofN vs zs, 0, 0) else (zeroC, 0, 1)
end

/-! ### Parse of Show, Show of Parse -/
theorem words_clean : ∀ w ∈ words12, ∀ c ∈ w, 33 ≤ c.toNat := by decide
theorem not32 {l : Bytes} (h : ∀ c ∈ l, 33 ≤ c.toNat) : (32 : UInt8) ∉ l := fun k => by have := h _ k; simp at this
theorem not10 {l : Bytes} (h : ∀ c ∈ l, 32 ≤ c.toNat) : (10 : UInt8) ∉ l := fun k => by have := h _ k; simp at this
theorem dec_clean (n : Nat) : ∀ c ∈ decDigits n, 33 ≤ c.toNat := fun c hc => by
  have := List.all_eq_true.1 (decD_dig n) c hc
  unfold isDig at this
  simp at this
  omega
theorem readNum_line {k : Nat} {w : Bytes} {v : Int} (hw : words12[k]? = some w) (h0 : 0 ≤ v) (h1 : v ≤ 2147483647) : readNum k (numLine w v) = some v := by
  have hc := words_clean w (List.mem_of_getElem? hw)
  unfold readNum numLine
  rw [spl_at (not32 hc), spl_none (not32 (dec_clean _))]
  dsimp only
  rw [if_pos hw.symm, numP_dec (by omega) (Nat.le_refl _)]
  simp
  omega
theorem readNum_some {k : Nat} {l : Bytes} {v : Int} (h : readNum k l = some v) : ∃ w, words12[k]? = some w ∧ l = numLine w v ∧ 0 ≤ v ∧ v ≤ 2147483647 := by
  unfold readNum at h
  split at h
  · rename_i w n he
    split at h
    · rename_i hw
      rw [Option.map_eq_some_iff] at h
      obtain ⟨u, hu, rfl⟩ := h
      obtain ⟨rfl, hle⟩ := numP_some hu
      refine ⟨w, hw.symm, ?_, by simp, by simp; omega⟩
      have := join_spl 32 l
      rw [he] at this
      simpa [joinW, numLine] using this.symm
    · cases h
  · cases h
theorem testBit_or_pow (t u k : Nat) : (t ||| 2 ^ u).testBit k = (t.testBit k || decide (u = k)) := by
  rw [Nat.testBit_or, Nat.testBit_two_pow]
theorem trust_go (t : Nat) : ∀ (n : Nat) (us : List Nat) (s : Nat) (last : Int), (∀ u ∈ us, last < u ∧ u ≤ 15) → us.Pairwise (· < ·) →
    bitsGo last s (us.map fun u => decDigits u) = some (us.foldl (fun a u => a ||| 2 ^ u) s)
  | _, [], _, _, _, _ => rfl
  | n, u :: us, s, last, h, hp => by
    have h1 := h u (by simp)
    rw [List.map_cons, bitsGo, numP_dec h1.2 (by decide)]
    dsimp only
    rw [if_neg (by omega), List.foldl_cons]
    rw [List.pairwise_cons] at hp
    exact trust_go t n us _ _ (fun x hx => ⟨by have := hp.1 x hx; omega, (h x (by simp [hx])).2⟩) hp.2
theorem fold_bit (us : List Nat) : ∀ s k, (us.foldl (fun a u => a ||| 2 ^ u) s).testBit k = (s.testBit k || decide (k ∈ us)) := by
  induction us with
  | nil => intro s k; simp
  | cons u us ih =>
    intro s k
    rw [List.foldl_cons, ih, testBit_or_pow, Bool.or_assoc]
    congr 1
    by_cases h : u = k
    · subst h; simp
    · simp [h, show ¬ k = u from fun e => h e.symm]
theorem trustL_lt (t : Nat) : ∀ u ∈ trustL t, u ≤ 15 := fun u h => by
  have := (List.mem_filter.1 h).1
  have := List.mem_range.1 this
  omega
theorem trustL_sorted (t : Nat) : (trustL t).Pairwise (· < ·) := List.Pairwise.filter _ (List.pairwise_lt_range)
theorem trustL_fold {t : Nat} (h : t < 65536) : (trustL t).foldl (fun a u => a ||| 2 ^ u) 0 = t := by
  refine Nat.eq_of_testBit_eq fun k => ?_
  rw [fold_bit]
  simp only [Nat.zero_testBit, Bool.false_or, trustL]
  by_cases hk : k < 16
  · cases hb : t.testBit k <;> simp [hb, hk]
  · have : t.testBit k = false := Nat.testBit_lt_two_pow (Nat.lt_of_lt_of_le h (by rw [show 65536 = 2 ^ 16 by decide]; exact Nat.pow_le_pow_right (by decide) (by omega)))
    rw [this]
    simp [hk]
theorem bits_trust {t : Nat} (h : t < 65536) : bitsGo (-1) 0 ((trustL t).map fun u => decDigits u) = some t := by
  rw [trust_go t 0 _ _ _ (fun u hu => ⟨by omega, trustL_lt t u hu⟩) (trustL_sorted t), trustL_fold h]
theorem sorted_filter {us : List Nat} (hp : us.Pairwise (· < ·)) : ∀ (n : Nat), (∀ u ∈ us, u < n) → (List.range n).filter (fun k => decide (k ∈ us)) = us := by
  intro n
  induction n generalizing us with
  | zero =>
    intro h
    cases us with
    | nil => rfl
    | cons u us => have := h u (by simp); omega
  | succ n ih =>
    intro h
    rw [List.range_succ, List.filter_append]
    by_cases hm : n ∈ us
    · obtain ⟨a, b, rfl⟩ := List.append_of_mem hm
      rw [List.pairwise_append] at hp
      obtain ⟨p1, p2, p3⟩ := hp
      have hb : b = [] := by
        cases b with
        | nil => rfl
        | cons x b =>
          rw [List.pairwise_cons] at p2
          have := p2.1 x (by simp)
          have := h x (by simp)
          omega
      subst hb
      have ha : ∀ u ∈ a, u < n := fun u hu => p3 u hu n (by simp)
      have e := ih p1 ha
      have : (List.range n).filter (fun k => decide (k ∈ a ++ [n])) = (List.range n).filter (fun k => decide (k ∈ a)) := by
        refine List.filter_congr fun k hk => ?_
        have := List.mem_range.1 hk
        simp [show ¬ k = n by omega]
      rw [this, e]
      simp
    · have ha : ∀ u ∈ us, u < n := fun u hu => by
        have h1 := h u hu
        have : u ≠ n := fun k => hm (k ▸ hu)
        omega
      rw [ih hp ha]
      simp [hm]
theorem bits_some : ∀ (ws : List Bytes) (last : Int) (s t : Nat), bitsGo last s ws = some t → ∃ us : List Nat, ws = us.map (fun u => decDigits u) ∧ (∀ u ∈ us, last < u ∧ u ≤ 15) ∧ us.Pairwise (· < ·) ∧ t = us.foldl (fun a u => a ||| 2 ^ u) s
  | [], _, s, t, h => ⟨[], rfl, by simp, by simp, by simpa [bitsGo] using h.symm⟩
  | w :: ws, last, s, t, h => by
    rw [bitsGo] at h
    split at h
    · rename_i u hu
      obtain ⟨rfl, hle⟩ := numP_some hu
      split at h
      · cases h
      · rename_i hl
        obtain ⟨us, rfl, h1, h2, h3⟩ := bits_some ws _ _ _ h
        refine ⟨u :: us, rfl, ?_, ?_, h3⟩
        · intro x hx
          rcases List.mem_cons.1 hx with rfl | hx
          · exact ⟨by omega, hle⟩
          · have := h1 x hx
            exact ⟨by omega, this.2⟩
        · rw [List.pairwise_cons]
          exact ⟨fun x hx => by have := h1 x hx; omega, h2⟩
    · cases h
theorem bits_back {ws : List Bytes} {t : Nat} (h : bitsGo (-1) 0 ws = some t) : ws = (trustL t).map (fun u => decDigits u) ∧ t < 65536 := by
  obtain ⟨us, rfl, h1, h2, h3⟩ := bits_some _ _ _ _ h
  have hlt : t < 65536 := by
    rw [show 65536 = 2 ^ 16 by decide]
    refine Nat.lt_pow_two_of_testBit t fun k hk => ?_
    rw [h3, fold_bit]
    have : k ∉ us := fun hm => by have := h1 k hm; omega
    simp [this]
  refine ⟨?_, hlt⟩
  congr 1
  unfold trustL
  rw [← sorted_filter h2 16 (fun u hu => by have := h1 u hu; omega)]
  refine List.filter_congr fun k _ => ?_
  rw [h3, fold_bit]
  simp
end Go.Proofs.YtnhlpifbadncmaaDoor.Cn
namespace Go.Proofs.YtnhlpifbadncmaaDoor.Cn
open Go.Lib (decDigits)
set_option linter.unusedVariables false
set_option linter.unusedSimpArgs false
variable {T : Names}
theorem zoneW_clean : ∀ c ∈ zoneW, 33 ≤ c.toNat := by decide
theorem polW_clean (p : Nat) : ∀ c ∈ polW p, 33 ≤ c.toNat := by
  unfold polW
  split
  · decide
  split
  · decide
  split <;> decide
theorem polP_polW {p : Nat} (h : 1 ≤ p ∧ p ≤ 4) : polP (polW p) = some p := by
  obtain ⟨h1, h2⟩ := h
  match p, h1, h2 with
  | 1, _, _ => rfl
  | 2, _, _ => rfl
  | 3, _, _ => rfl
  | 4, _, _ => rfl
theorem polP_some {w : Bytes} {p : Nat} (h : polP w = some p) : w = polW p ∧ 1 ≤ p ∧ p ≤ 4 := by
  unfold polP at h
  split at h
  · rename_i e; cases h; exact ⟨e, by decide⟩
  split at h
  · rename_i e; cases h; exact ⟨e, by decide⟩
  split at h
  · rename_i e; cases h; exact ⟨e, by decide⟩
  split at h
  · rename_i e; cases h; exact ⟨e, by decide⟩
  · cases h
theorem join_map (a : Bytes) : ∀ ws : List Bytes, joinW 32 (a :: ws) = a ++ ws.flatMap fun w => 32 :: w
  | [] => by simp [joinW]
  | w :: ws => by rw [joinW_cons _ _ (by simp), join_map w ws]; simp
theorem trustB_words (t : Nat) : trustB t = ((trustL t).map fun u => decDigits u).flatMap fun w => 32 :: w := by unfold trustB; rw [List.flatMap_map]
theorem zoneLine_join (z : Zo) : zoneLine T z = joinW 32 (zoneW :: T.text z.name :: polW z.pol :: (trustL z.tru).map fun u => decDigits u) := by
  rw [joinW_cons _ _ (by simp), joinW_cons _ _ (by simp), join_map, ← trustB_words]; rfl
theorem okPol_pol {ups : Int} {z : Zo} (h : okPol ups z = true) : (1 ≤ z.pol ∧ z.pol ≤ 4) ∧ (decide (z.pol = 3) = decide (z.tru ≠ 0)) := by
  unfold okPol at h
  have := of_decide_eq_true h
  rcases this with ⟨h1, h2⟩ | ⟨h1, h2, _⟩
  · exact ⟨by omega, by rw [decide_eq_decide]; omega⟩
  · exact ⟨by omega, by rw [decide_eq_decide]; omega⟩
theorem okPol_tru {ups : Int} {z : Zo} (h : okPol ups z = true) (hu : ups ≤ 16) : z.tru < 65536 := by
  unfold okPol at h
  have := of_decide_eq_true h
  rcases this with ⟨h1, h2⟩ | ⟨h1, h2, h3⟩
  · omega
  · rw [Nat.div_eq_zero_iff] at h3
    rcases h3 with k | k
    · have := Nat.pow_pos (n := ups.toNat) (show 0 < 2 by decide); omega
    · have : 2 ^ ups.toNat ≤ 2 ^ 16 := Nat.pow_le_pow_right (by decide) (by omega)
      omega
theorem okName_may {z : Zo} (h : okName z = true) : Nm.may z.name = true := (Bool.and_eq_true_iff.1 h).1
theorem readName_text (hT : T.Ok) {n : Bytes} (h : Nm.may n = true) : readName T (T.text n) = some n := by
  unfold readName
  rw [hT.back n h]
  simp
theorem readName_some (hT : T.Ok) {w n : Bytes} (h : readName T w = some n) : w = T.text n ∧ Nm.may n = true := by
  unfold readName at h
  split at h
  · rename_i k
    cases h
    refine ⟨k.2.symm, hT.may w _ ?_⟩
    rw [← k.1]
  · cases h
theorem zone_words (hT : T.Ok) {z : Zo} (h : Nm.may z.name = true) : spl 32 (zoneLine T z) = zoneW :: T.text z.name :: polW z.pol :: (trustL z.tru).map fun u => decDigits u := by
  rw [zoneLine_join]
  refine spl_join 32 _ (by simp) fun w hw => ?_
  rcases List.mem_cons.1 hw with rfl | hw
  · exact not32 zoneW_clean
  rcases List.mem_cons.1 hw with rfl | hw
  · exact not32 (hT.clean _ h)
  rcases List.mem_cons.1 hw with rfl | hw
  · exact not32 (polW_clean _)
  · obtain ⟨u, _, rfl⟩ := List.mem_map.1 hw
    exact not32 (dec_clean u)
theorem readZone_line (hT : T.Ok) {z : Zo} (h : Nm.may z.name = true) (hp : (1 ≤ z.pol ∧ z.pol ≤ 4) ∧ (decide (z.pol = 3) = decide (z.tru ≠ 0))) (ht : z.tru < 65536) : readZone T (zoneLine T z) = some z := by
  unfold readZone
  rw [zone_words hT h]
  dsimp only
  rw [if_pos rfl, readName_text hT h, polP_polW hp.1, bits_trust ht]
  dsimp only
  rw [if_pos hp.2]
theorem readZone_some (hT : T.Ok) {l : Bytes} {z : Zo} (h : readZone T l = some z) : l = zoneLine T z ∧ Nm.may z.name = true ∧ z.tru < 65536 := by
  unfold readZone at h
  split at h
  · rename_i a w p ws he
    split at h
    · rename_i ha
      split at h
      · rename_i n p' t h1 h2 h3
        split at h
        · cases h
          obtain ⟨rfl, hm⟩ := readName_some hT h1
          obtain ⟨rfl, _⟩ := polP_some h2
          obtain ⟨rfl, ht⟩ := bits_back h3
          refine ⟨?_, hm, ht⟩
          rw [zoneLine_join, ← join_spl 32 l, he, ha]
        · cases h
      · cases h
    · cases h
  · cases h

/-! ### line by line -/
theorem goP_nums : ∀ (vs : List Int) (ws : List Bytes) (k : Nat) (ls : List Bytes) (acc : List Int) (zs : List Zo), ws = words12.drop k → vs.length = ws.length → (∀ v ∈ vs, 0 ≤ v ∧ v ≤ 2147483647) →
    goP T k (List.zipWith numLine ws vs ++ ls) acc zs = goP T (k + ws.length) ls (acc ++ vs) zs
  | [], [], k, ls, acc, zs, _, _, _ => by simp
  | [], _ :: _, _, _, _, _, _, h, _ => by simp at h
  | _ :: _, [], _, _, _, _, _, h, _ => by simp at h
  | v :: vs, w :: ws, k, ls, acc, zs, hw, hl, hv => by
    have hk : words12[k]? = some w := by
      have : (words12.drop k)[0]? = some w := by rw [← hw]; rfl
      simpa using this
    have hk12 : k < 12 := by
      have := (List.getElem?_eq_some_iff.1 hk).1
      exact this
    have hv0 := hv v (by simp)
    rw [List.zipWith_cons_cons, List.cons_append, goP, if_pos hk12, readNum_line hk hv0.1 hv0.2]
    dsimp only
    rw [goP_nums vs ws (k + 1) ls _ zs (by rw [← List.drop_drop, ← hw]; rfl) (by simpa using hl) (fun x hx => hv x (by simp [hx]))]
    simp only [List.append_assoc, List.singleton_append, List.length_cons, Nat.add_assoc, Nat.add_comm 1]
theorem goP_zones (hT : T.Ok) : ∀ (zs : List Zo) (k : Nat) (acc : List Int) (pre : List Zo), 12 ≤ k → (∀ z ∈ zs, readZone T (zoneLine T z) = some z) → goP T k (zs.map (zoneLine T)) acc pre = .inr (acc, pre ++ zs)
  | [], k, acc, pre, _, _ => by simp [goP]
  | z :: zs, k, acc, pre, hk, h => by
    rw [List.map_cons, goP, if_neg (by omega), h z (by simp)]
    dsimp only
    rw [goP_zones hT zs (k + 1) acc _ (by omega) (fun x hx => h x (by simp [hx]))]
    simp
/-! ### the laws -/
theorem mayNum_range {c : Cf} (h : mayNum c = true) : ∀ v ∈ c.nums, 0 ≤ v ∧ v ≤ 2147483647 := by
  have h := of_decide_eq_true h
  obtain ⟨h1, h2, h3, h4, h5, h6, h7, h8, h9, h10, h11, h12⟩ := h
  have m1 : 0 ≤ c.ups / 2 * c.hdg := Int.mul_nonneg (by omega) (by omega)
  have m2 : 0 ≤ c.tri * c.wai := Int.mul_nonneg (by omega) (by omega)
  intro v hv
  simp only [Cf.nums, List.mem_cons, List.not_mem_nil, or_false] at hv
  rcases hv with rfl | rfl | rfl | rfl | rfl | rfl | rfl | rfl | rfl | rfl | rfl | rfl <;> omega
theorem mayP_zones {c : Cf} (h : mayP c = true) : c.zs.length ≤ 16 ∧ ∀ z ∈ c.zs, Nm.may z.name = true ∧ ((1 ≤ z.pol ∧ z.pol ≤ 4) ∧ (decide (z.pol = 3) = decide (z.tru ≠ 0))) ∧ z.tru < 65536 := by
  obtain ⟨h1, h2⟩ := Bool.and_eq_true_iff.1 h
  obtain ⟨h3, h4, _⟩ := (mayZs_iff _ _).1 h2
  refine ⟨h3, fun z hz => ?_⟩
  obtain ⟨k1, k2⟩ := Bool.and_eq_true_iff.1 (h4 z hz)
  have := of_decide_eq_true h1
  exact ⟨okName_may k1, okPol_pol k2, okPol_tru k2 (by omega)⟩
theorem dec_len16 {n : Nat} (h : n ≤ 15) : (decDigits n).length ≤ 2 := by
  rcases Nat.lt_or_ge n 10 with k | k
  · rw [Go.Lib.decDigits_one k]; simp
  · rw [Go.Lib.decDigits_two (by omega) (by omega)]; simp
theorem flat_len {α : Type} (f : α → Bytes) (k : Nat) : ∀ (l : List α), (∀ a ∈ l, (f a).length ≤ k) → (l.flatMap f).length ≤ k * l.length
  | [], _ => by simp
  | a :: l, h => by
    rw [List.flatMap_cons, List.length_append, List.length_cons]
    have := h a (by simp)
    have := flat_len f k l (fun x hx => h x (by simp [hx]))
    rw [Nat.mul_add]
    omega
theorem trustB_len (t : Nat) : (trustB t).length ≤ 48 := by
  have h1 : (trustL t).length ≤ 16 := by
    have := List.length_filter_le (fun u => t.testBit u) (List.range 16)
    simpa [trustL] using this
  have := flat_len (fun u => 32 :: decDigits u) 3 (trustL t) (fun u hu => by have := dec_len16 (trustL_lt t u hu); simp; omega)
  unfold trustB
  omega
theorem polW_len (p : Nat) : (polW p).length ≤ 7 := by
  unfold polW
  split
  · decide
  split
  · decide
  split <;> decide
theorem zoneLine_len (hT : T.Ok) {z : Zo} (h : Nm.may z.name = true) : (zoneLine T z).length ≤ 2100 := by
  unfold zoneLine
  have := hT.len _ h
  have := polW_len z.pol
  have := trustB_len z.tru
  have : zoneW.length = 4 := rfl
  simp only [List.length_append, List.length_cons]
  omega
theorem numLine_len {w : Bytes} {v : Int} (hw : w ∈ words12) (h : 0 ≤ v ∧ v ≤ 2147483647) : (numLine w v).length ≤ 20 := by
  have h1 : ∀ w ∈ words12, w.length ≤ 8 := by decide
  have := h1 w hw
  have := decD_len v.toNat (by omega)
  unfold numLine
  simp only [List.length_append, List.length_cons]
  omega
theorem zip_mem {ws : List Bytes} {vs : List Int} {l : Bytes} (h : l ∈ List.zipWith numLine ws vs) : ∃ w v, w ∈ ws ∧ v ∈ vs ∧ l = numLine w v := by
  rw [List.mem_iff_getElem] at h
  obtain ⟨i, hi, rfl⟩ := h
  have hi' := hi
  rw [List.length_zipWith] at hi'
  exact ⟨ws[i]'(by omega), vs[i]'(by omega), List.getElem_mem _, List.getElem_mem _, List.getElem_zipWith⟩
theorem lineL_clean (hT : T.Ok) {c : Cf} (h : mayP c = true) : ∀ l ∈ lineL T c, (10 : UInt8) ∉ l := by
  intro l hl
  rcases List.mem_append.1 hl with hl | hl
  · obtain ⟨w, v, hw, _, rfl⟩ := zip_mem hl
    refine not10 fun x hx => ?_
    unfold numLine at hx
    rcases List.mem_append.1 hx with hx | hx
    · have := words_clean w hw x hx; omega
    · rcases List.mem_cons.1 hx with rfl | hx
      · decide
      · have := dec_clean _ x hx; omega
  · obtain ⟨z, hz, rfl⟩ := List.mem_map.1 hl
    have hm := ((mayP_zones h).2 z hz).1
    refine not10 fun x hx => ?_
    unfold zoneLine trustB at hx
    rcases List.mem_append.1 hx with hx | hx
    · have := zoneW_clean x hx; omega
    rcases List.mem_cons.1 hx with rfl | hx
    · decide
    rcases List.mem_append.1 hx with hx | hx
    · have := hT.clean _ hm x hx; omega
    rcases List.mem_cons.1 hx with rfl | hx
    · decide
    rcases List.mem_append.1 hx with hx | hx
    · have := polW_clean _ x hx; omega
    · obtain ⟨u, _, hu⟩ := List.mem_flatMap.1 hx
      rcases List.mem_cons.1 hu with rfl | hu
      · decide
      · have := dec_clean _ x hu; omega
theorem textC_len (hT : T.Ok) {c : Cf} (h : mayP c = true) : (textC T c).length ≤ 40000 := by
  have hz := mayP_zones h
  unfold textC unlines lineL
  rw [List.append_nil, List.flatMap_append, List.length_append]
  have a := flat_len (fun l => l ++ [10]) 21 (List.zipWith numLine words12 c.nums) (fun l hl => by
    obtain ⟨w, v, hw, hv, rfl⟩ := zip_mem hl
    have := numLine_len hw (mayNum_range (Bool.and_eq_true_iff.1 h).1 v hv)
    simp only [List.length_append, List.length_singleton]
    omega)
  have b := flat_len (fun l => l ++ [10]) 2101 (c.zs.map (zoneLine T)) (fun l hl => by
    obtain ⟨z, hzz, rfl⟩ := List.mem_map.1 hl
    have := zoneLine_len hT (hz.2 z hzz).1
    simp only [List.length_append, List.length_singleton]
    omega)
  rw [List.length_map] at b
  have : (List.zipWith numLine words12 c.nums).length = 12 := rfl
  omega
/-- PARSE OF SHOW. -/
theorem parse_show (hT : T.Ok) {c : Cf} (h : mayP c = true) : parseP T (textC T c) = (c, 0, 0) := by
  have hz := mayP_zones h
  have hl := lines_un (lineL T c) [] (lineL_clean hT h) (by simp)
  have hg : goP T 0 (lineL T c) [] [] = .inr (c.nums, c.zs) := by
    unfold lineL
    rw [goP_nums c.nums words12 0 _ [] [] rfl rfl (mayNum_range (Bool.and_eq_true_iff.1 h).1), goP_zones hT c.zs _ _ _ (by decide) (fun z hzz => readZone_line hT (hz.2 z hzz).1 (hz.2 z hzz).2.1 (hz.2 z hzz).2.2)]
    simp
  have hll : ¬ (lineL T c).length < 12 := by
    unfold lineL
    rw [List.length_append]
    have : (List.zipWith numLine words12 c.nums).length = 12 := rfl
    omega
  unfold parseP
  rw [if_neg (by have := textC_len hT h; omega), show linesP (textC T c) = (lineL T c, []) from hl]
  dsimp only
  rw [hg]
  dsimp only
  rw [if_neg (by simp [hll]), ofN_nums, if_pos h]
end Go.Proofs.YtnhlpifbadncmaaDoor.Cn
namespace Go.Proofs.YtnhlpifbadncmaaDoor.Cn
set_option linter.unusedVariables false
set_option linter.unusedSimpArgs false
variable {T : Names}
/-- A text's first lines, so many. -/
def cutP : Bytes → Int → Bytes
  | [], _ => []
  | a :: t, k => if k = 0 then [] else a :: cutP t (if a = 10 then k - 1 else k)
theorem unlines_take (ls : List Bytes) (k : Nat) : (unlines (ls.take k) []).length ≤ (unlines ls []).length := by
  induction ls generalizing k with
  | nil => simp
  | cons l ls ih =>
    cases k with
    | zero => simp [unlines]
    | succ k => rw [List.take_succ_cons, unlines_cons, unlines_cons]; have := ih k; simp; omega
theorem parse_inl {s : Bytes} {ls : List Bytes} {r : Bytes} {j : Nat} (h : linesP s = (ls, r)) (hs : s.length ≤ 131072) (hg : goP T 0 ls [] [] = .inl j) : parseP T s = (zeroC, (j : Int) + 1, 3) := by
  unfold parseP
  rw [if_neg (by omega), h]
  dsimp only
  rw [hg]
theorem parse_inr {s : Bytes} {ls : List Bytes} {r : Bytes} {p : List Int × List Zo} (h : linesP s = (ls, r)) (hs : s.length ≤ 131072) (hg : goP T 0 ls [] [] = .inr p) :
    parseP T s = if r ≠ [] ∨ ls.length < 12 then (zeroC, (ls.length : Int) + 1, 3) else if mayP (ofN p.1 p.2) then (ofN p.1 p.2, 0, 0) else (zeroC, 0, 1) := by
  unfold parseP
  rw [if_neg (by omega), h]
  dsimp only
  rw [hg]
end Go.Proofs.YtnhlpifbadncmaaDoor.Cn
namespace Go.Proofs.YtnhlpifbadncmaaDoor
open Go.RowKit
open Cn (Zo Cf)
set_option linter.unusedVariables false
set_option linter.unusedSimpArgs false
def zoR : Rp Zo := fun _ cs z => cs = [.string (bs z.name), .int .u8 z.pol, .int .u16 z.tru] ∧ z.name.length ≤ maxLen ∧ z.pol ≤ 255 ∧ z.tru ≤ 65535
theorem mono_zo : Mono zoR := fun _ _ _ _ _ h => h
theorem zoR.len {L : Blocks} {cs : List Value} {z : Zo} (h : zoR L cs z) : cs.length = 3 := by obtain ⟨rfl, _⟩ := h; rfl
theorem zoR.one {L : Blocks} {cs : List Value} {z : Zo} (h : zoR L cs z) : ∀ v ∈ cs, v.oneCell' = true := by
  obtain ⟨rfl, _⟩ := h
  intro v hv
  simp only [List.mem_cons, List.not_mem_nil, or_false] at hv
  rcases hv with rfl | rfl | rfl <;> rfl
instance : Inhabited Zo := ⟨⟨[], 0, 0⟩⟩
instance : Inhabited Cf := ⟨Cn.zeroC⟩
/-- The cells of a configuration. -/
def cfCells (c : Cf) (v : Value) : List Value := [.int .i64 c.ups, .int .i64 c.ded, .int .i64 c.hdg, .int .i64 c.wai, .int .i64 c.tri, .int .i64 c.res, .int .i64 c.lim, .int .i64 c.cac, .int .i64 c.fli, .int .i64 c.wtr, .int .i64 c.ttl, .int .i64 c.siz, v]
def I64 (n : Int) : Prop := -9223372036854775808 ≤ n ∧ n ≤ 9223372036854775807
/-- A configuration's numbers are of their kind. -/
structure CfIn (c : Cf) : Prop where
  ups : I64 c.ups
  ded : I64 c.ded
  hdg : I64 c.hdg
  wai : I64 c.wai
  tri : I64 c.tri
  res : I64 c.res
  lim : I64 c.lim
  cac : I64 c.cac
  fli : I64 c.fli
  wtr : I64 c.wtr
  ttl : I64 c.ttl
  siz : I64 c.siz
def cfR : Rp Cf := fun L cs c => ∃ v, cs = cfCells c v ∧ sliceR 3 zoR L [v] c.zs ∧ CfIn c
theorem cfR.len {L : Blocks} {cs : List Value} {c : Cf} (h : cfR L cs c) : cs.length = 13 := by obtain ⟨v, rfl, _⟩ := h; rfl
end Go.Proofs.YtnhlpifbadncmaaDoor
namespace Go.Proofs.YtnhlpifbadncmaaDoor
open Go.RowKit
set_option linter.unusedVariables false
set_option linter.unusedSimpArgs false
variable {G : World} {P : Program} {n : Nat} {ρ : Slots} {L : Blocks} {ty : TypeId} {Q : Exit → Act → World → Prop}
theorem T_mono {c : Code} {Q' : Exit → Act → World → Prop} (h : T P G n ρ L c Q) (hi : ∀ e a w, Q e a w → Q' e a w) : T P G n ρ L c Q' := ⟨fun a w he hw b k cs => by
  obtain ⟨e, a', w', hq, h2⟩ := h.out a w he hw b k cs
  exact ⟨e, a', w', hi _ _ _ hq, h2⟩⟩
theorem least {S : Nat → Prop} (h : ∃ m, S m) : ∃ m, S m ∧ ∀ k, S k → m ≤ k := by
  obtain ⟨m, hm⟩ := h
  induction m using Nat.strongRecOn with
  | _ m ih =>
    by_cases hk : ∃ k, k < m ∧ S k
    · obtain ⟨k, h1, h2⟩ := hk
      exact ih k h1 h2
    · exact ⟨m, hm, fun k hk' => Nat.le_of_not_lt fun hlt => hk ⟨k, hlt, hk'⟩⟩
open Classical in
noncomputable def leastOf (S : Nat → Prop) : Nat := if h : ∃ m, S m then Classical.choose (least h) else 0
end Go.Proofs.YtnhlpifbadncmaaDoor
namespace Go.Proofs.YtnhlpifbadncmaaDoor
open Go.RowKit
set_option linter.unusedVariables false
set_option linter.unusedSimpArgs false
variable {G : World} {P : Program} {n : Nat} {ρ : Slots} {L : Blocks} {ty : TypeId} {Q : Exit → Act → World → Prop}
def Mid {σ : Type} (G : World) (n : Nat) (I : σ → Prop) (ρI : σ → Slots) (LI : σ → Blocks) (a : Act) (w : World) : Prop := ∃ x, I x ∧ Env n (ρI x) a ∧ Heap G w (LI x)
theorem T_mid {σ : Type} {x y : Code} (I : σ → Prop) (ρI : σ → Slots) (LI : σ → Blocks) (hx : T P G n ρ L x (Exit.then (Mid G n I ρI LI) Q)) (hy : ∀ s, I s → T P G n (ρI s) (LI s) y Q) : T P G n ρ L (.seq x y) Q :=
  T_seq (T_mono hx fun e a w h => by
    cases e with
    | normal =>
      obtain ⟨s, h1, h2, h3⟩ := h
      exact (hy s h1).out a w h2 h3
    | _ => exact h)
theorem TQ_mid {σ : Type} {I : σ → Prop} {ρI : σ → Slots} {LI : σ → Blocks} (x : σ) (hI : I x) (hs : Sub (ρI x) ρ) (hl : ∀ w, Heap G w L → Heap G w (LI x)) : TQ G n ρ L .normal (Exit.then (Mid G n I ρI LI) Q) :=
  ⟨fun a w he hw => ⟨x, hI, he.weak hs.get, hl w hw⟩⟩
end Go.Proofs.YtnhlpifbadncmaaDoor
namespace Go.Proofs.YtnhlpifbadncmaaDoor
open Go.RowKit
set_option linter.unusedVariables false
set_option linter.unusedSimpArgs false
open Classical in
/-- Is it this one? -/
noncomputable def hit (p q : Nat × Obj) : Nat := if p = q then 1 else 0
noncomputable def cnt (p : Nat × Obj) : Blocks → Nat
  | [] => 0
  | q :: L => hit p q + cnt p L
theorem cnt_nil (p : Nat × Obj) : cnt p [] = 0 := rfl
theorem cnt_cons (p q : Nat × Obj) (L : Blocks) : cnt p (q :: L) = hit p q + cnt p L := rfl
theorem cnt_append (p : Nat × Obj) : ∀ A B : Blocks, cnt p (A ++ B) = cnt p A + cnt p B
  | [], B => by simp [cnt]
  | q :: A, B => by rw [List.cons_append, cnt_cons, cnt_cons, cnt_append p A B]; omega
theorem cnt_pos {p : Nat × Obj} : ∀ {L : Blocks}, p ∈ L ↔ 1 ≤ cnt p L
  | [] => by simp [cnt]
  | q :: L => by
    rw [cnt_cons, List.mem_cons, cnt_pos (L := L)]
    unfold hit
    by_cases h : p = q
    · rw [if_pos h]; simp [h]
    · rw [if_neg h]; simp [h]
theorem cnt_keys {p : Nat × Obj} : ∀ {L : Blocks}, (L.map (·.1)).Nodup → cnt p L ≤ 1
  | [], _ => by simp [cnt]
  | q :: L, h => by
    rw [List.map_cons, List.nodup_cons] at h
    rw [cnt_cons]
    have h2 := cnt_keys (p := p) h.2
    unfold hit
    by_cases e : p = q
    · subst e
      rw [if_pos rfl]
      by_cases h0 : 1 ≤ cnt p L
      · exact absurd (List.mem_map.2 ⟨p, cnt_pos.2 h0, rfl⟩) h.1
      · omega
    · rw [if_neg e]; omega
theorem keys_inj : ∀ {L : Blocks}, (L.map (·.1)).Nodup → ∀ {p q : Nat × Obj}, p ∈ L → q ∈ L → p.1 = q.1 → p = q
  | [], _, p, q, h, _, _ => by simp at h
  | r :: L, hn, p, q, hp, hq, e => by
    rw [List.map_cons, List.nodup_cons] at hn
    rcases List.mem_cons.1 hp with rfl | hp' <;> rcases List.mem_cons.1 hq with rfl | hq'
    · rfl
    · exact absurd (List.mem_map.2 ⟨q, hq', e.symm⟩) hn.1
    · exact absurd (List.mem_map.2 ⟨p, hp', e⟩) hn.1
    · exact keys_inj hn.2 hp' hq' e
theorem keys_of_cnt : ∀ {L L' : Blocks}, (∀ p, cnt p L' ≤ cnt p L) → (L.map (·.1)).Nodup → (L'.map (·.1)).Nodup
  | L, [], _, _ => by simp
  | L, q :: L', h, hn => by
    rw [List.map_cons, List.nodup_cons]
    refine ⟨fun hm => ?_, keys_of_cnt (L := L) (fun p => by have := h p; rw [cnt_cons] at this; omega) hn⟩
    obtain ⟨r, hr, e⟩ := List.mem_map.1 hm
    have h1 : 1 ≤ cnt r L' := cnt_pos.1 hr
    have hq : q ∈ L := cnt_pos.2 (by have := h q; rw [cnt_cons] at this; have h0 : hit q q = 1 := by simp [hit]
                                     omega)
    have hr' : r ∈ L := cnt_pos.2 (by have := h r; rw [cnt_cons] at this; omega)
    have := keys_inj hn hr' hq e
    subst this
    have h2 := h r
    rw [cnt_cons] at h2
    have h3 := cnt_keys (p := r) hn
    have h0 : hit r r = 1 := by simp [hit]
    omega
variable {G : World} {P : Program} {n : Nat} {ρ : Slots} {L : Blocks} {ty : TypeId} {Q : Exit → Act → World → Prop}
theorem Heap.cnt {w : World} {L' : Blocks} (h : Heap G w L) (hc : ∀ p, Go.Proofs.YtnhlpifbadncmaaDoor.cnt p L' ≤ Go.Proofs.YtnhlpifbadncmaaDoor.cnt p L) : Heap G w L' :=
  ⟨h.still, keys_of_cnt hc h.nodup, fun p hp => h.get p (cnt_pos.2 (Nat.le_trans (cnt_pos.1 hp) (hc p)))⟩
theorem mem_of_cnt {L' : Blocks} (hc : ∀ p, cnt p L' ≤ cnt p L) : ∀ p ∈ L', p ∈ L := fun p hp => cnt_pos.2 (Nat.le_trans (cnt_pos.1 hp) (hc p))
/-! ### rows written in place -/
section
variable {α : Type} {r : Rp α} {sz : Nat}
/-- The block of a row of one's own that is not empty. -/
theorem ORow.block {e : TypeId} {a : Option Addr} {c : Nat} {l : List α} {B : Blocks} (h : ORow r e sz L a c l B) (hl : l ≠ []) : ∃ b cur, a = some ⟨b, 0, none⟩ ∧ B = [(b, .cells cur e (0, 0))] ∧ l.length ≤ c ∧ c ≤ maxLen ∧ cur.size = c * sz ∧
    ∀ i x, l[i]? = some x → ∃ cs, cs.length = sz ∧ r L cs x ∧ (∀ v ∈ cs, v.oneCell' = true) ∧ ∀ j v, cs[j]? = some v → cur[i * sz + j]? = some v := by
  obtain ⟨xs, h1, h2, h3⟩ := h.ex
  rcases h1.is with ⟨_, q2, _⟩ | ⟨b, cap, cur, q1, q2, q3, q4, q5, q6⟩
  · exact absurd (List.eq_nil_of_length_eq_zero q2) hl
  · obtain ⟨rfl, _, rfl⟩ := Value.slice.inj q1
    refine ⟨b, cur, rfl, q2, q3, q4, q5, fun i x hx => ?_⟩
    obtain ⟨cs, k1, k2, k3⟩ := h2.at hx
    refine ⟨cs, k1, k2, fun v hv => ?_, fun j v hj => ?_⟩
    · obtain ⟨j, hj⟩ := List.getElem?_of_mem hv
      exact h3 v (List.mem_of_getElem? (k3 j v hj))
    · have hil := (List.getElem?_eq_some_iff.1 hx).1
      have hjl := (List.getElem?_eq_some_iff.1 hj).1
      have hlt : i * sz + j < l.length * sz := by
        have : (i + 1) * sz ≤ l.length * sz := Nat.mul_le_mul_right _ hil
        rw [Nat.succ_mul] at this
        omega
      have := k3 j v hj
      rw [← q6, List.getElem?_take_of_lt hlt] at this
      simpa using this
end
end Go.Proofs.YtnhlpifbadncmaaDoor
namespace Go.Proofs.YtnhlpifbadncmaaDoor
open Go.RowKit
set_option linter.unusedVariables false
set_option linter.unusedSimpArgs false
theorem dT {p : Prop} [Decidable p] (h : p) : decide p = true := decide_eq_true h
theorem dF {p : Prop} [Decidable p] (h : ¬ p) : decide p = false := decide_eq_false h
section
variable {α : Type} [BEq α] [LawfulBEq α] {a b : α}
theorem eT (h : a = b) : (a == b) = true := beq_iff_eq.2 h
theorem eF (h : ¬ a = b) : (a == b) = false := beq_false_of_ne h
theorem nT (h : ¬ a = b) : (a != b) = true := bne_iff_ne.2 h
theorem nF (h : a = b) : (a != b) = false := by rw [h]; simp
end
theorem xT {b : Bool} (h : b = false) : (!b) = true := by rw [h]; rfl
theorem xF {b : Bool} (h : b = true) : (!b) = false := by rw [h]; rfl
variable {G : World} {P : Program} {n : Nat} {ρ : Slots} {L : Blocks} {ty : TypeId} {Q : Exit → Act → World → Prop}
section
variable {c : Operand} {x y : Code}
end
/-! a guard that is not decided -/
section
variable {ops : Array Oper} {d j dj : Nat} {op : Op} {pos : String} {after : Array Edge} {rest : List Oper}
end
theorem op_boxA {t : TypeId} {x : Operand} {C : Array Value} (hx : ev ρ x = some (.agg C)) : OpNew P G ρ L (.box t x) ty (fun b => .pointer (some ⟨b, 0, none⟩)) (.cells C t (0, 0)) := op_box hx rfl
/-! results -/
theorem cell_run {a : Nat} {b k : Nat} {t : TypeId} {C : Array Value} {te : TypeId} {fr : Nat × Nat} {ac : Act} {w : World} (he : Env n ρ ac) (hv : ρ.lookup a = some (.pointer (some ⟨b, 0, none⟩))) (ht : structTy P t k = true) (hg : w.heap[b]? = some (.cells C te fr)) (hk : C.size = k) :
    ac.tmps.getD a undef = .pointer (some ⟨b, 0, none⟩) ∧ (loadVar t ⟨b, 0, none⟩).run P w = .ok (.agg C) w := by
  have h1 : ac.tmps.getD a undef = .pointer (some ⟨b, 0, none⟩) := he.reads (.tmp a) _ hv
  refine ⟨h1, ?_⟩
  unfold structTy at ht
  cases hu : P.underlying t with
  | none => simp [hu] at ht
  | some d =>
    cases hi : P.info? t with
    | none => simp [hi] at ht
    | some i =>
      cases d with
      | struct fs =>
        simp [hu, hi] at ht
        have ha : (isAgg t).run P w = .ok true w := by
          unfold isAgg
          simp [run_underlying hu]
        have hc := run_loadCells_list (P := P) (w := w) ⟨b, 0, none⟩ C.toList (fun j v hj => by
          rw [addr_add, Nat.zero_add]
          unfold World.cell?
          rw [hg]
          simpa using hj)
        rw [Array.length_toList, hk] at hc
        simp [loadVar, ha, sizeOf, typeInfo, hi, ht, hc]
      | _ => simp [hu] at ht
theorem TQ_retC2 {fn : Func} {Φ : Value → Blocks → Prop} (a t u : Nat) {b k : Nat} {C : Array Value} {te : TypeId} {fr : Nat × Nat} {x : Value} {L' : Blocks} (hr : fn.results = #[.cell a t, .tmp u]) (hv : ρ.lookup a = some (.pointer (some ⟨b, 0, none⟩))) (hx : ρ.lookup u = some x)
    (ht : structTy P t k = true) (hm : (b, Obj.cells C te fr) ∈ L) (hk : C.size = k) (hl : ∀ w, Heap G w L → Heap G w L') (h : Φ (.tuple #[.agg C, x]) L') : TQ G n ρ L .ret (bodyPost P fn (RetPost G Φ)) :=
  ⟨fun ac w he hw => ⟨he.defers, .tuple #[.agg C, x], by
    obtain ⟨h1, h0⟩ := cell_run he hv ht (hw.get _ hm) hk
    have h2 : ac.tmps.getD u undef = x := he.reads (.tmp u) x hx
    rw [Array.getD_eq_getD_getElem?] at h1 h2
    simp only [results, hr]
    simp
    simp [h1, asAddr, h0, h2], _, L', rfl, h, hl w hw⟩⟩
theorem TQ_retC3 {fn : Func} {Φ : Value → Blocks → Prop} (a t u s : Nat) {b k : Nat} {C : Array Value} {te : TypeId} {fr : Nat × Nat} {x y : Value} {L' : Blocks} (hr : fn.results = #[.cell a t, .tmp u, .tmp s]) (hv : ρ.lookup a = some (.pointer (some ⟨b, 0, none⟩))) (hx : ρ.lookup u = some x) (hy : ρ.lookup s = some y)
    (ht : structTy P t k = true) (hm : (b, Obj.cells C te fr) ∈ L) (hk : C.size = k) (hl : ∀ w, Heap G w L → Heap G w L') (h : Φ (.tuple #[.agg C, x, y]) L') : TQ G n ρ L .ret (bodyPost P fn (RetPost G Φ)) :=
  ⟨fun ac w he hw => ⟨he.defers, .tuple #[.agg C, x, y], by
    obtain ⟨h1, h0⟩ := cell_run he hv ht (hw.get _ hm) hk
    have h2 : ac.tmps.getD u undef = x := he.reads (.tmp u) x hx
    have h3 : ac.tmps.getD s undef = y := he.reads (.tmp s) y hy
    rw [Array.getD_eq_getD_getElem?] at h1 h2 h3
    simp only [results, hr]
    simp
    simp [h1, asAddr, h0, h2, h3], _, L', rfl, h, hl w hw⟩⟩
end Go.Proofs.YtnhlpifbadncmaaDoor
namespace Go.Proofs.YtnhlpifbadncmaaDoor
open Go.RowKit
open Cn (Zo Cf)
set_option linter.unusedVariables false
set_option linter.unusedSimpArgs false
variable {G : World} {L : Blocks}
/-- What the variables hold. -/
structure Glob (L : Blocks) : Prop where
  len : ∃ m t fr, (1, Obj.cells #[Value.int .i64 m] t fr) ∈ L
  pow : ∃ t fr, (2, Obj.cells (Lib.pow10Tab.map (Value.int .u64)).toArray t fr) ∈ L
  words : ∃ t fr, (0, Obj.cells (Cn.words12.map txtV).toArray t fr) ∈ L
theorem Glob.mono {L' : Blocks} (h : Glob L) (hs : ∀ p ∈ L, p ∈ L') : Glob L' := by
  obtain ⟨⟨m, t, fr, h1⟩, ⟨t2, fr2, h2⟩, ⟨t3, fr3, h3⟩⟩ := h
  exact ⟨⟨m, t, fr, hs _ h1⟩, ⟨t2, fr2, hs _ h2⟩, ⟨t3, fr3, hs _ h3⟩⟩
theorem glob_pow : Tryd.prog.globalNamed "internal/strconv.uint64pow10" = some 2 := by kernel_rfl
theorem Itoa_S (n : Nat) (hn : n ≤ 2147483647) (hg : Glob L) : Spec Tryd.prog G 31 #[.int .i64 n] L fun u M => u = .string (bs (Lib.decDigits n)) ∧ M = L := Spec.ofBelowH fun w hw => by
  obtain ⟨t, fr, hp⟩ := hg.pow
  have htab : Lib.TabIs Tryd.prog w "internal/strconv.uint64pow10" .u64 Lib.pow10Tab := by
    have h2 : w.heap[2]? = some (Obj.cells (Lib.pow10Tab.map (Value.int .u64)).toArray t fr) := hw.get _ hp
    unfold Lib.TabIs World.var?
    rw [glob_pow, Option.bind_some, h2]
  refine (Tryd.strconv_Itoa n (by omega) (by omega) w htab).mono fun e w' ⟨he, k, os, hw'⟩ => ⟨?_, ?_⟩
  · rw [he, Lib.itoa_nonneg]; rfl
  · subst hw'; exact Lib.below_grow _ w (Nat.le_refl _) k os
theorem cut_at (c : UInt8) (s : List UInt8) : c ∉ s ∨ ∃ l r, s = l ++ c :: r ∧ c ∉ l := by
  induction s with
  | nil => left; simp
  | cons a t ih =>
    by_cases ha : a = c
    · subst ha; exact Or.inr ⟨[], t, rfl, by simp⟩
    · rcases ih with h | ⟨l, r, rfl, h⟩
      · left; simp only [List.mem_cons, not_or]; exact ⟨fun k => ha k.symm, h⟩
      · right; exact ⟨a :: l, r, rfl, by simp only [List.mem_cons, not_or]; exact ⟨fun k => ha k.symm, h⟩⟩
theorem index_no {c : UInt8} : ∀ {s : List UInt8}, c ∉ s → Lib.index s [c] = -1
  | [], _ => rfl
  | a :: t, h => by
    simp only [List.mem_cons, not_or] at h
    rw [Lib.index, if_neg (by simp [h.1]), index_no h.2]
    rfl
theorem index_at {c : UInt8} {r : List UInt8} : ∀ {l : List UInt8}, c ∉ l → Lib.index (l ++ c :: r) [c] = (l.length : Int)
  | [], _ => by rw [List.nil_append, Lib.index, if_pos (by simp)]; rfl
  | a :: l, h => by
    simp only [List.mem_cons, not_or] at h
    rw [List.cons_append, Lib.index, if_neg (by simp [h.1]), index_at h.2, if_neg (by intro k; have := beq_iff_eq.1 k; omega)]
    rfl
theorem indexB_no {c : UInt8} {s : List UInt8} (h : c ∉ s) : Lib.indexB (bs s) (bs [c]) = -1 := index_no h
theorem indexB_at {c : UInt8} {l r : List UInt8} (h : c ∉ l) : Lib.indexB (bs (l ++ c :: r)) (bs [c]) = (l.length : Nat) := index_at h
theorem bs_ext (l r : List UInt8) (c : UInt8) : (bs (l ++ c :: r)).extract (l.length + (bs [c]).size) (bs (l ++ c :: r)).size = bs r ∧ (bs (l ++ c :: r)).extract 0 (l.length + 0) = bs l := by
  constructor
  · apply ByteArray.ext
    apply Array.toList_inj.1
    rw [Lib.extract_data]
    simp [bs, ByteArray.size]
    exact List.take_of_length_le (by omega)
  · apply ByteArray.ext
    apply Array.toList_inj.1
    rw [Lib.extract_data]
    simp [bs]
theorem split_spl (c : UInt8) (s : List UInt8) : Lib.splitB (bs [c]) 0 (Lib.countB (bs s) (bs [c])) (bs s) = (Cn.spl c s).map bs := by
  generalize hn : s.length = n
  induction n using Nat.strongRecOn generalizing s with
  | _ n ih =>
    rcases cut_at c s with h | ⟨l, r, rfl, h⟩
    · rw [Lib.countB_miss _ _ (indexB_no h), Lib.splitB_zero, Cn.spl_none h]; rfl
    · have e := bs_ext l r c
      rw [Lib.countB_hit (bs (l ++ c :: r)) (bs [c]) l.length (Nat.le_refl 1) (indexB_at h), Nat.add_comm 1, Lib.splitB_hit _ _ _ _ _ (indexB_at h), e.1, e.2, ih r.length (by subst hn; simp; omega) r rfl, Cn.spl_at h]
      rfl
theorem Split_S (s : List UInt8) (hs : s.length ≤ 1000000) (hg : Glob L) : Spec Tryd.prog G 63 #[.string (bs s), .string (bs [32])] L fun u M => ∃ b, u = .slice (some ⟨b, 0, none⟩) (Cn.spl 32 s).length (Cn.spl 32 s).length ∧ M = (b, .cells ((Cn.spl 32 s).map txtV).toArray 9 (0, 0)) :: L := by
  refine ⟨fun w hw => ?_⟩
  obtain ⟨m, t, fr, hp⟩ := hg.len
  have hm : w.cell? ⟨1, 0, none⟩ = some (.int .i64 m) := by
    have h2 : w.heap[1]? = some (Obj.cells #[Value.int .i64 m] t fr) := hw.get _ hp
    simp [World.cell?, h2]
  have hl := Lib.splitB_all (bs [32]) (by decide) 0 _ (bs s) rfl
  rw [split_spl, List.length_map] at hl
  refine (Tryd.strings_Split (bs s) (bs [32]) m w (by rw [bs_size]; omega) hm (by decide)).mono fun e w' ⟨he, hw'⟩ => ?_
  rw [split_spl] at hw'
  subst hw'
  refine ⟨_, _, he, ⟨w.heap.size, by rw [hl], rfl⟩, ?_⟩
  have := hw.alloc (.cells ((Cn.spl 32 s).map txtV).toArray 9 (0, 0))
  rw [List.map_map]
  exact this
theorem Cut_S (s : List UInt8) (hs : s.length ≤ 1000000) (hg : Glob L) : Spec Tryd.prog G 47 #[.string (bs s), .string (bs [10])] L fun u M => u = .tuple #[.string (bs (Lib.cut s [10]).1), .string (bs (Lib.cut s [10]).2.1), .bool (Lib.cut s [10]).2.2] ∧ M = L := by
  refine Spec.ofBelowH fun w hw => ?_
  obtain ⟨m, t, fr, hp⟩ := hg.len
  have hm : w.cell? ⟨1, 0, none⟩ = some (.int .i64 m) := by
    have h2 : w.heap[1]? = some (Obj.cells #[Value.int .i64 m] t fr) := hw.get _ hp
    simp [World.cell?, h2]
  refine (Tryd.strings_Cut (bs s) (bs [10]) m w (by rw [bs_size]; omega) hm).mono fun e w' ⟨he, k, hw'⟩ => ⟨he, ?_⟩
  subst hw'
  exact below_drewN (Below.refl _ w) k
theorem cut_no {s : List UInt8} (h : (10 : UInt8) ∉ s) : Lib.cut s [10] = (s, [], false) := by unfold Lib.cut; rw [index_no h]; rfl
theorem cut_yes {l r : List UInt8} (h : (10 : UInt8) ∉ l) : Lib.cut (l ++ 10 :: r) [10] = (l, r, true) := by
  unfold Lib.cut
  rw [index_at h, if_pos (by omega)]
  simp
end Go.Proofs.YtnhlpifbadncmaaDoor
namespace Go.Proofs.YtnhlpifbadncmaaDoor
open Go.RowKit
open Cn (Zo Cf)
set_option linter.unusedVariables false
set_option linter.unusedSimpArgs false
--auto
variable {G : World} {L : Blocks}
theorem between_S (n lo hi : Int) : Spec Tryd.prog G 50 #[.int .i64 n, .int .i64 lo, .int .i64 hi] L fun u M => u = .bool (decide (lo ≤ n ∧ n ≤ hi)) ∧ M = L := by
  refine Spec_of (n := 15) Tryd.func50 rfl rfl rfl ?_
  by_cases h1 : lo ≤ n
  · by_cases h2 : n ≤ hi
    · rw [decide_eq_true ⟨h1, h2⟩]
      repeat ((first | with_reducible refine T_seq ?_ | with_reducible refine T_region ?_ | with_reducible refine TL_nil ?_ | with_reducible refine TQ_then ?_ | with_reducible refine T_ret ?_ | refine TL_q (op_move rfl) rfl ?_ | refine TL_q (op_assign rfl) rfl ?_ | (refine' TL_q (op_bin rfl rfl ?_) rfl ?_; rotate_left 1; (· (exact bin_leq))) | (refine' TL_q (op_pickT rfl ?_ rfl) rfl ?_; (· (exact dT (by (assumption))))) | (refine TL_gpre rfl rfl ?_ ?_; (· (exact dT (by (assumption))))) | refine TL_gq2 (op_move rfl) rfl ?_ | (refine' TL_gq2 (op_bin rfl rfl ?_) rfl ?_; rotate_left 1; (· (exact bin_leq)))))
      refine TQ_ret1 6 _ rfl rfl ?_
      exact ⟨by rw [decide_eq_true h2], rfl⟩
    · rw [decide_eq_false (fun k => h2 k.2)]
      repeat ((first | with_reducible refine T_seq ?_ | with_reducible refine T_region ?_ | with_reducible refine TL_nil ?_ | with_reducible refine TQ_then ?_ | with_reducible refine T_ret ?_ | refine TL_q (op_move rfl) rfl ?_ | refine TL_q (op_assign rfl) rfl ?_ | (refine' TL_q (op_bin rfl rfl ?_) rfl ?_; rotate_left 1; (· (exact bin_leq))) | (refine' TL_q (op_pickT rfl ?_ rfl) rfl ?_; (· (exact dT (by (assumption))))) | (refine TL_gpre rfl rfl ?_ ?_; (· (exact dT (by (assumption))))) | refine TL_gq2 (op_move rfl) rfl ?_ | (refine' TL_gq2 (op_bin rfl rfl ?_) rfl ?_; rotate_left 1; (· (exact bin_leq)))))
      refine TQ_ret1 6 _ rfl rfl ?_
      exact ⟨by rw [decide_eq_false h2], rfl⟩
  · rw [decide_eq_false (fun k => h1 k.1)]
    repeat ((first | with_reducible refine T_seq ?_ | with_reducible refine T_region ?_ | with_reducible refine TL_nil ?_ | with_reducible refine TQ_then ?_ | with_reducible refine T_ret ?_ | refine TL_q (op_move rfl) rfl ?_ | refine TL_q (op_assign rfl) rfl ?_ | (refine' TL_q (op_bin rfl rfl ?_) rfl ?_; rotate_left 1; (· (exact bin_leq))) | (refine' TL_q (op_pickF rfl ?_ rfl) rfl ?_; (· (exact dF (by (assumption))))) | (refine TL_gno rfl rfl ?_ rfl ?_; (· (exact dF (by (assumption)))))))
    refine TQ_ret1 6 _ rfl rfl ?_
    exact ⟨rfl, rfl⟩
theorem policyWord_S (p : Nat) (hp : p ≤ 255) : Spec Tryd.prog G 33 #[.int .u8 (p : Int)] L fun u M => u = .string (bs (Cn.polW p)) ∧ M = L := by
  refine Spec_of (n := 10) Tryd.func33 rfl rfl rfl ?_
  unfold Cn.polW
  by_cases h1 : p = 1
  · rw [if_pos h1]
    repeat ((first | with_reducible refine T_seq ?_ | with_reducible refine T_block ?_ | with_reducible refine T_region ?_ | with_reducible refine TL_nil ?_ | with_reducible refine TQ_then ?_ | with_reducible refine T_ret ?_ | with_reducible refine TQ_then_ret ?_ | with_reducible refine TQ_block_ret ?_ | refine TL_q (op_move rfl) rfl ?_ | refine TL_q (op_assign rfl) rfl ?_ | (refine' TL_q (op_bin rfl rfl ?_) rfl ?_; rotate_left 1; (· (exact bin_eql))) | (refine T_yes rfl ?_ ?_; (· (exact dT (by (omega)))))))
    refine TQ_ret1 2 _ rfl rfl ?_
    exact ⟨rfl, rfl⟩
  · rw [if_neg h1]
    by_cases h2 : p = 2
    · rw [if_pos h2]
      repeat ((first | with_reducible refine T_seq ?_ | with_reducible refine T_block ?_ | with_reducible refine T_region ?_ | with_reducible refine TL_nil ?_ | with_reducible refine TQ_then ?_ | with_reducible refine T_ret ?_ | with_reducible refine TQ_then_ret ?_ | with_reducible refine TQ_block_ret ?_ | refine TL_q (op_move rfl) rfl ?_ | refine TL_q (op_assign rfl) rfl ?_ | (refine' TL_q (op_bin rfl rfl ?_) rfl ?_; rotate_left 1; (· (exact bin_eql))) | (refine T_yes rfl ?_ ?_; (· (exact dT (by (omega))))) | (refine T_no rfl ?_ ?_; (· (exact dF (by (omega)))))))
      refine TQ_ret1 2 _ rfl rfl ?_
      exact ⟨rfl, rfl⟩
    · rw [if_neg h2]
      by_cases h3 : p = 3
      · rw [if_pos h3]
        repeat ((first | with_reducible refine T_seq ?_ | with_reducible refine T_block ?_ | with_reducible refine T_region ?_ | with_reducible refine TL_nil ?_ | with_reducible refine TQ_then ?_ | with_reducible refine T_ret ?_ | with_reducible refine TQ_then_ret ?_ | with_reducible refine TQ_block_ret ?_ | refine TL_q (op_move rfl) rfl ?_ | refine TL_q (op_assign rfl) rfl ?_ | (refine' TL_q (op_bin rfl rfl ?_) rfl ?_; rotate_left 1; (· (exact bin_eql))) | (refine T_yes rfl ?_ ?_; (· (exact dT (by (omega))))) | (refine T_no rfl ?_ ?_; (· (exact dF (by (omega)))))))
        refine TQ_ret1 2 _ rfl rfl ?_
        exact ⟨rfl, rfl⟩
      · rw [if_neg h3]
        repeat ((first | with_reducible refine T_seq ?_ | with_reducible refine T_block ?_ | with_reducible refine T_region ?_ | with_reducible refine TL_nil ?_ | with_reducible refine TQ_then ?_ | with_reducible refine TQ_block ?_ | with_reducible refine T_skip ?_ | with_reducible refine T_ret ?_ | refine TL_q (op_move rfl) rfl ?_ | refine TL_q (op_assign rfl) rfl ?_ | (refine' TL_q (op_bin rfl rfl ?_) rfl ?_; rotate_left 1; (· (exact bin_eql))) | (refine T_no rfl ?_ ?_; (· (exact dF (by (omega)))))))
        refine TQ_ret1 2 _ rfl rfl ?_
        exact ⟨rfl, rfl⟩
section
variable {P : Program} {n : Nat} {ρ : Slots} {ty : TypeId}
/-- A whole array is written. -/
theorem op_stArr {x y : Operand} {b k len : Nat} {t e : TypeId} {C D : Array Value} {te : TypeId} (hx : ev ρ x = some (.pointer (some ⟨b, 0, none⟩))) (hy : ev ρ y = some (.agg D))
    (hu : P.underlying t = some (.array len e)) (ht : (P.info? t).map (·.size) = some k) (hC : C.size = k) (hD : D.size = k) (hone : allOne D = true) : OpV P G ρ ((b, Obj.cells C te (0, 0)) :: L) (.store t x y) ty undef ((b, Obj.cells D te (0, 0)) :: L) :=
  ⟨fun r hr w hw o ho _ => by
    cases hi : P.info? t with
    | none => simp [hi] at ht
    | some i =>
      simp [hi] at ht
      have hb := hw.get _ (List.mem_cons_self ..)
      have hs := run_storeCells_at P b 0 te D.toList 0 C w hb (by simp; omega) (fun v hv => List.all_eq_true.1 hone v hv)
      have e2 : (C.toList.take 0 ++ D.toList ++ C.toList.drop (0 + D.toList.length)).toArray = D := by
        rw [List.drop_eq_nil_of_le (by simp; omega)]
        simp
      have hrun : (execOp r o).run P w = .ok .skip (w.setRow b D) := by
        simp only [execOp, ho, hr _ _ hx, hr _ _ hy]
        simp only [Nat.add_zero, Nat.zero_add] at hs e2
        simp only [e2] at hs
        have hk : D.toList.length = i.size := by rw [Array.length_toList, hD]; exact ht.symm
        have hk2 : D.size = i.size := by simpa using hk
        simp [Instr.storeAt, Instr.sureAddr, storeVar, sizeOf, typeInfo, hi, Value.cells, hk2, hs]
      rw [hrun]
      exact ⟨_, ⟨rfl, rfl⟩, hw.update ⟨rfl, rfl, rfl, by simp [World.setRow]⟩ (setRow_heap w b C _ te _ hb) (fun j hj hne => by simp [World.setRow, Array.getElem?_modify, Ne.symm hne])⟩⟩
theorem TQ_retA {fn : Func} {Φ : Value → Blocks → Prop} (a t : Nat) {b k len : Nat} {e : TypeId} {C : Array Value} {te : TypeId} {fr : Nat × Nat} {L' : Blocks} (hr : fn.results = #[.cell a t]) (hv : ρ.lookup a = some (.pointer (some ⟨b, 0, none⟩)))
    (hu : P.underlying t = some (.array len e)) (ht : (P.info? t).map (·.size) = some k) (hm : (b, Obj.cells C te fr) ∈ L) (hk : C.size = k) (hl : ∀ w, Heap G w L → Heap G w L') (h : Φ (.agg C) L') : TQ G n ρ L .ret (bodyPost P fn (RetPost G Φ)) :=
  ⟨fun ac w he hw => ⟨he.defers, .agg C, by
    have h1 : ac.tmps.getD a undef = .pointer (some ⟨b, 0, none⟩) := he.reads (.tmp a) _ hv
    cases hi : P.info? t with
    | none => simp [hi] at ht
    | some i =>
      simp [hi] at ht
      have ha : (isAgg t).run P w = .ok true w := by
        unfold isAgg
        simp [run_underlying hu]
      have hc := run_loadCells_list (P := P) (w := w) ⟨b, 0, none⟩ C.toList (fun j v hj => by rw [addr_add, Nat.zero_add]; exact hw.cell hm (by simpa using hj))
      rw [Array.length_toList, hk] at hc
      rw [Array.getD_eq_getD_getElem?] at h1
      simp only [results, hr]
      simp [h1, asAddr, loadVar, ha, sizeOf, typeInfo, hi, ht, hc], _, L', rfl, h, hl w hw⟩⟩
end
theorem bl51 (a0 a1 a2 a3 a4 a5 a6 a7 a8 a9 a10 a11 : Int) : Built Tryd.prog 51 [(0, .int .i64 a0), (1, .int .i64 a1), (2, .int .i64 a2), (3, .int .i64 a3), (4, .int .i64 a4), (5, .int .i64 a5), (6, .int .i64 a6), (7, .int .i64 a7), (8, .int .i64 a8), (9, .int .i64 a9), (10, .int .i64 a10), (11, .int .i64 a11)] (.agg #[.int .i64 a0, .int .i64 a1, .int .i64 a2, .int .i64 a3, .int .i64 a4, .int .i64 a5, .int .i64 a6, .int .i64 a7, .int .i64 a8, .int .i64 a9, .int .i64 a10, .int .i64 a11]) := ⟨fun w => by kernel_rfl⟩
set_option maxRecDepth 100000 in
set_option maxHeartbeats 2000000 in
theorem values_S (c : Cf) (v : Value) : Spec Tryd.prog G 28 #[.agg (cfCells c v).toArray] L fun u M => u = .agg (c.nums.map (Value.int .i64)).toArray ∧ M = L := by
  refine Spec_of (n := 28) Tryd.func28 rfl rfl rfl ?_
  refine T_seq (T_region (TL_new (op_boxA rfl) rfl ?_))
  intro b1
  have g0 : (cfCells (c) (v)).toArray[0 + 0]? = some (.int .i64 (c).ups) := rfl
  have g1 : (cfCells (c) (v)).toArray[0 + 1]? = some (.int .i64 (c).ded) := rfl
  have g2 : (cfCells (c) (v)).toArray[0 + 2]? = some (.int .i64 (c).hdg) := rfl
  have g3 : (cfCells (c) (v)).toArray[0 + 3]? = some (.int .i64 (c).wai) := rfl
  have g4 : (cfCells (c) (v)).toArray[0 + 4]? = some (.int .i64 (c).tri) := rfl
  have g5 : (cfCells (c) (v)).toArray[0 + 5]? = some (.int .i64 (c).res) := rfl
  have g6 : (cfCells (c) (v)).toArray[0 + 6]? = some (.int .i64 (c).lim) := rfl
  have g7 : (cfCells (c) (v)).toArray[0 + 7]? = some (.int .i64 (c).cac) := rfl
  have g8 : (cfCells (c) (v)).toArray[0 + 8]? = some (.int .i64 (c).fli) := rfl
  have g9 : (cfCells (c) (v)).toArray[0 + 9]? = some (.int .i64 (c).wtr) := rfl
  have g10 : (cfCells (c) (v)).toArray[0 + 10]? = some (.int .i64 (c).ttl) := rfl
  have g11 : (cfCells (c) (v)).toArray[0 + 11]? = some (.int .i64 (c).siz) := rfl
  have g12 : (cfCells (c) (v)).toArray[0 + 12]? = some (v) := rfl
  repeat ((first | with_reducible refine T_seq ?_ | with_reducible refine T_region ?_ | with_reducible refine TL_nil ?_ | with_reducible refine TQ_then ?_ | refine TL_q (op_fld rfl fld_25_0) rfl ?_ | refine TL_q (op_fld rfl fld_25_1) rfl ?_ | refine TL_q (op_fld rfl fld_25_2) rfl ?_ | refine TL_q (op_fld rfl fld_25_3) rfl ?_ | refine TL_q (op_fld rfl fld_25_4) rfl ?_ | refine TL_q (op_fld rfl fld_25_5) rfl ?_ | refine TL_q (op_fld rfl fld_25_6) rfl ?_ | refine TL_q (op_fld rfl fld_25_7) rfl ?_ | refine TL_q (op_fld rfl fld_25_8) rfl ?_ | refine TL_q (op_fld rfl fld_25_9) rfl ?_ | refine TL_q (op_fld rfl fld_25_10) rfl ?_ | refine TL_q (op_fld rfl fld_25_11) rfl ?_ | (refine' TL_q (op_ld rfl pl_3 ?_ ?_) rfl ?_; rotate_left 4; (· repeat ((first | exact List.mem_cons_self | apply List.mem_cons_of_mem))); (· (assumption))) | (refine TL_new (op_alloc (C := #[(.int .i64 0), (.int .i64 0), (.int .i64 0), (.int .i64 0), (.int .i64 0), (.int .i64 0), (.int .i64 0), (.int .i64 0), (.int .i64 0), (.int .i64 0), (.int .i64 0), (.int .i64 0)]) zero_51 rfl) rfl ?_; intro bNew)))
  refine TL_q (op_build rfl (bl51 _ _ _ _ _ _ _ _ _ _ _ _)) rfl ?_
  refine TL_opN (op_stArr rfl rfl Tryd.underlying51 (by kernel_rfl) rfl rfl rfl) ?_
  repeat ((first | with_reducible refine TL_nil ?_ | with_reducible refine TQ_then ?_ | with_reducible refine T_ret ?_))
  refine TQ_retA 2 51 rfl rfl Tryd.underlying51 (by kernel_rfl) (List.mem_cons_self ..) rfl (fun w h => h.tail.tail) ⟨rfl, rfl⟩
end Go.Proofs.YtnhlpifbadncmaaDoor
namespace Go.Proofs.YtnhlpifbadncmaaDoor
open Go.RowKit
set_option linter.unusedVariables false
set_option linter.unusedSimpArgs false
theorem wrap16 {n : Nat} (h : n < 65536) : IntKind.wrap .u16 (n : Int) = n := by
  unfold IntKind.wrap
  simp [IntKind.signed, IntKind.bits]
  omega
theorem ofInt16 {n : Nat} (h : n < 65536) : (BitVec.ofInt (IntKind.bits .u16) (n : Int)).toNat = n := by
  show (BitVec.ofInt 16 (n : Int)).toNat = n
  rw [BitVec.toNat_ofInt]
  omega
section
variable {P : Program}
theorem bin_shl16 {t : TypeId} {u : Nat} (h : u ≤ 15) : Bin P .shl t (.int .u16 1) (.int .i64 (u : Nat)) (.int .u16 ((2 ^ u : Nat) : Int)) := ⟨fun x y w => by
  have hv : ∀ u : Fin 16, IntKind.wrap .u16 ((1 : Int) * 2 ^ (min u.val (IntKind.bits .u16))) = ((2 ^ u.val : Nat) : Int) := by decide +kernel
  have := hv ⟨u, by omega⟩
  dsimp only at this
  have hneg : ¬ ((u : Nat) : Int) < 0 := by omega
  simp only [eqGuard, binOp, Op.shift, if_neg hneg, Int.toNat_natCast, this]
  rfl⟩
theorem bin_or16 {t : TypeId} {a b : Nat} (ha : a < 65536) (hb : b < 65536) : Bin P .or t (.int .u16 (a : Nat)) (.int .u16 (b : Nat)) (.int .u16 ((a ||| b : Nat) : Int)) := ⟨fun x y w => by
  have e : (BitVec.ofInt (IntKind.bits .u16) (a : Int) ||| BitVec.ofInt (IntKind.bits .u16) (b : Int)).toNat = a ||| b := by rw [BitVec.toNat_or, ofInt16 ha, ofInt16 hb]
  have h2 : a ||| b < 65536 := Nat.or_lt_two_pow (n := 16) ha hb
  simp only [eqGuard, binOp, Op.intBits, e, wrap16 h2]
  rfl⟩
theorem bin_and16 {t : TypeId} {a : Nat} (ha : a < 65536) : Bin P .and t (.int .u16 (a : Nat)) (.int .u16 1) (.int .u16 ((a % 2 : Nat) : Int)) := ⟨fun x y w => by
  have e : (BitVec.ofInt (IntKind.bits .u16) (a : Int) &&& BitVec.ofInt (IntKind.bits .u16) (1 : Int)).toNat = a % 2 := by
    rw [BitVec.toNat_and, ofInt16 ha, show (BitVec.ofInt (IntKind.bits .u16) (1 : Int)).toNat = 1 from rfl, Nat.and_one_is_mod]
  have h2 : a % 2 < 65536 := by omega
  simp only [eqGuard, binOp, Op.intBits, e, wrap16 h2]
  rfl⟩
theorem bin_shr16 {t : TypeId} {k : IntKind} {a u : Nat} (ha : a < 65536) : Bin P .shr t (.int .u16 (a : Nat)) (.int k (u : Nat)) (.int .u16 ((a / 2 ^ u : Nat) : Int)) := ⟨fun x y w => by
  have hneg : ¬ ((u : Nat) : Int) < 0 := by omega
  have e : ((a : Nat) : Int).fdiv (2 ^ (min u (IntKind.bits .u16))) = ((a / 2 ^ u : Nat) : Int) := by
    rw [Int.fdiv_eq_ediv_of_nonneg _ (by exact_mod_cast Nat.zero_le _)]
    show ((a : Nat) : Int) / 2 ^ (min u 16) = _
    rcases Nat.le_or_ge u 16 with h | h
    · rw [Nat.min_eq_left h]; simp
    · rw [Nat.min_eq_right h]
      have h1 : a / 2 ^ u = 0 := by
        rw [Nat.div_eq_of_lt]
        exact Nat.lt_of_lt_of_le ha (by rw [show 65536 = 2 ^ 16 by decide]; exact Nat.pow_le_pow_right (by decide) h)
      rw [h1]
      omega
  simp only [eqGuard, binOp, Op.shift, if_neg hneg, Int.toNat_natCast, e]
  rfl⟩
end
theorem bit_of (a u : Nat) : a.testBit u = decide (a / 2 ^ u % 2 = 1) := Nat.testBit_eq_decide_div_mod_eq
end Go.Proofs.YtnhlpifbadncmaaDoor
namespace Go.Proofs.YtnhlpifbadncmaaDoor
open Go.RowKit
open Cn (Zo Cf)
set_option linter.unusedVariables false
set_option linter.unusedSimpArgs false
--auto
variable {G : World} {L : Blocks}
def numV (w : Nm.Bytes) (most : Nat) : Value := match Cn.numP w most with
  | some n => .tuple #[.int .i64 (n : Nat), .bool true]
  | none => .tuple #[.int .i64 0, .bool false]
theorem numV_no {w : Nm.Bytes} {most : Nat} (h : Cn.okD w = false) : numV w most = .tuple #[.int .i64 0, .bool false] := by
  unfold numV Cn.numP
  rw [h]
  rfl
theorem dig_iff {c : UInt8} : Cn.isDig c = true ↔ 48 ≤ c.toNat ∧ c.toNat ≤ 57 := by unfold Cn.isDig; simp
theorem okD_all {w : Nm.Bytes} (h : w.all Cn.isDig = false) : Cn.okD w = false := by unfold Cn.okD; rw [h, Bool.and_false]
theorem numV_end {w : Nm.Bytes} {most : Nat} (h1 : w ≠ []) (h2 : w.length ≤ 10) (h3 : ¬ (w.head? = some 48 ∧ 1 < w.length)) (h4 : w.all Cn.isDig = true) : numV w most = if Cn.valD w ≤ most then .tuple #[.int .i64 (Cn.valD w : Nat), .bool true] else .tuple #[.int .i64 0, .bool false] := by
  have hk : Cn.okD w = true := by
    unfold Cn.okD
    rw [h4]
    have : (decide (w.head? = some 48) && decide (1 < w.length)) = false := by
      rw [← Bool.decide_and]
      exact decide_eq_false h3
    simp [h1, h2]
    rcases Nat.lt_or_ge 1 w.length with q | q
    · exact Or.inl fun a => h3 ⟨a, q⟩
    · exact Or.inr q
  unfold numV Cn.numP
  rw [hk]
  by_cases h : Cn.valD w ≤ most
  · rw [if_pos h]; simp [h]
  · rw [if_neg h]; simp [h]
theorem valD_take {w : Nm.Bytes} {k : Nat} {c : UInt8} (h : w[k]? = some c) : Cn.valD (w.take (k + 1)) = Cn.valD (w.take k) * 10 + (c.toNat - 48) := by
  rw [List.take_add_one, h]
  exact Cn.valD_snoc _ _
theorem pow10_le {k : Nat} (h : k ≤ 10) : 10 ^ k ≤ 10000000000 := by
  have : 10 ^ k ≤ 10 ^ 10 := Nat.pow_le_pow_right (by decide) h
  simpa using this
set_option maxRecDepth 100000 in
set_option maxHeartbeats 4000000 in
theorem number_S (w : Nm.Bytes) (most : Nat) (hw : w.length ≤ 1000000) (hm : most ≤ 2147483647) : Spec Tryd.prog G 64 #[.string (bs w), .int .i64 (most : Nat)] L fun u M => u = numV w most ∧ M = L := by
  refine Spec_of (n := 53) Tryd.func64 rfl rfl rfl ?_
  by_cases h0 : w = []
  · subst h0
    rw [numV_no rfl]
    repeat ((first | with_reducible refine T_seq ?_ | with_reducible refine T_region ?_ | with_reducible refine TL_nil ?_ | with_reducible refine TQ_then ?_ | with_reducible refine T_ret ?_ | with_reducible refine TQ_then_ret ?_ | refine TL_q (op_move rfl) rfl ?_ | refine TL_q (op_assign rfl) rfl ?_ | (refine' TL_q (op_bin rfl rfl ?_) rfl ?_; rotate_left 1; (· (exact sbin_eql))) | (refine' TL_q (op_pickT rfl ?_ rfl) rfl ?_; (· (first | with_reducible rfl | exact Bool.not_false))) | (refine TL_gno rfl rfl ?_ rfl ?_; (· (exact Bool.not_false))) | refine TL_gundef rfl rfl rfl ?_ | (refine T_yes rfl ?_ ?_; (· (with_reducible rfl)))))
    refine TQ_ret2 4 5 _ _ rfl rfl rfl ?_
    exact ⟨rfl, rfl⟩
  have hpos : 0 < w.length := List.length_pos_iff.2 h0
  by_cases h10 : 10 < w.length
  · rw [numV_no (by unfold Cn.okD; rw [decide_eq_false (by omega : ¬ w.length ≤ 10)]; simp)]
    repeat ((first | with_reducible refine T_seq ?_ | with_reducible refine T_region ?_ | with_reducible refine TL_nil ?_ | with_reducible refine TQ_then ?_ | with_reducible refine T_ret ?_ | with_reducible refine TQ_then_ret ?_ | refine TL_q (op_move rfl) rfl ?_ | refine TL_q (op_assign rfl) rfl ?_ | (refine' TL_q (op_bin rfl rfl ?_) rfl ?_; rotate_left 1; (· (exact sbin_eql))) | (refine' TL_q (op_pickT rfl ?_ rfl) rfl ?_; (· (exact dT (by (first | assumption | omega))))) | (refine' TL_q (op_pickF rfl ?_ rfl) rfl ?_; (· (exact eF (by (assumption))))) | (refine TL_gpre rfl rfl ?_ ?_; (· (exact eF (by (assumption))))) | refine TL_gq2 (op_move rfl) rfl ?_ | (refine' TL_gq2 (op_bin rfl rfl ?_) rfl ?_; rotate_left 1; (· (exact bin_gtr))) | refine TL_gq2 (op_len_str rfl Tryd.underlying9) rfl ?_ | (refine TL_gno rfl rfl ?_ rfl ?_; (· (exact dT (by (omega))))) | refine TL_gundef rfl rfl rfl ?_ | (refine T_yes rfl ?_ ?_; (· (with_reducible rfl)))))
    refine TQ_ret2 4 5 _ _ rfl rfl rfl ?_
    exact ⟨rfl, rfl⟩
  obtain ⟨c0, hc0⟩ : ∃ c, w[0]? = some c := ⟨_, List.getElem?_eq_getElem hpos⟩
  have hhd : w.head? = some c0 := by rw [List.head?_eq_getElem?]; exact hc0
  by_cases hz : c0.toNat = 48 ∧ 1 < w.length
  · obtain ⟨hz1, hz2⟩ := hz
    have hc48 : c0 = 48 := UInt8.toNat_inj.1 hz1
    rw [numV_no (by unfold Cn.okD; rw [hhd, hc48]; simp [hz2])]
    repeat ((first | with_reducible refine T_seq ?_ | with_reducible refine T_region ?_ | with_reducible refine TL_nil ?_ | with_reducible refine TQ_then ?_ | with_reducible refine T_ret ?_ | with_reducible refine TQ_then_ret ?_ | refine TL_q (op_move rfl) rfl ?_ | refine TL_q (op_assign rfl) rfl ?_ | (refine' TL_q (op_bin rfl rfl ?_) rfl ?_; rotate_left 1; (· (exact sbin_eql))) | (refine' TL_q (op_pickF rfl ?_ rfl) rfl ?_; (· (first | exact dF (by (first | assumption | omega)) | exact eF (by (assumption))))) | (refine TL_gpre rfl rfl ?_ ?_; (· (first | exact dT (by (first | assumption | omega)) | exact dF (by (first | assumption | omega)) | exact eF (by (assumption))))) | refine TL_gq2 (op_move rfl) rfl ?_ | (refine' TL_gq2 (op_bin rfl rfl ?_) rfl ?_; rotate_left 1; (· (first | exact bin_eql | exact bin_gtr))) | (refine' TL_gq2 (op_pickT rfl ?_ rfl) rfl ?_; (· (exact dT (by (omega))))) | refine TL_gq2 (op_len_str rfl Tryd.underlying9) rfl ?_ | (refine' TL_gq2 (op_index_str rfl rfl Tryd.underlying9 ?_ ?_) rfl ?_; rotate_left 1; (· omega); (· (assumption))) | (refine T_yes rfl ?_ ?_; (· (exact dT (by (omega)))))))
    refine TQ_ret2 4 5 _ _ rfl rfl rfl ?_
    exact ⟨rfl, rfl⟩
  have hz2 : ¬ (w.head? = some 48 ∧ 1 < w.length) := by
    rw [hhd]
    rintro ⟨a, b⟩
    exact hz ⟨by rw [Option.some.inj a]; rfl, b⟩
  have h10' : w.length ≤ 10 := by omega
  by_cases hz1 : c0.toNat = 48
  all_goals
    repeat ((first | with_reducible refine T_seq ?_ | with_reducible refine T_block ?_ | with_reducible refine T_region ?_ | with_reducible refine TL_nil ?_ | with_reducible refine TQ_then ?_ | with_reducible refine T_skip ?_ | refine TL_q (op_move rfl) rfl ?_ | refine TL_q (op_assign rfl) rfl ?_ | (refine' TL_q (op_bin rfl rfl ?_) rfl ?_; rotate_left 1; (· (exact sbin_eql))) | (refine' TL_q (op_pickF rfl ?_ rfl) rfl ?_; (· (first | exact dF (by (first | assumption | omega)) | exact eF (by (assumption))))) | refine TL_q (op_len_str rfl Tryd.underlying9) rfl ?_ | (refine TL_gpre rfl rfl ?_ ?_; (· (first | exact dT (by (first | assumption | omega)) | exact dF (by (first | assumption | omega)) | exact eF (by (assumption))))) | refine TL_gq2 (op_move rfl) rfl ?_ | (refine' TL_gq2 (op_bin rfl rfl ?_) rfl ?_; rotate_left 1; (· (first | exact bin_eql | exact bin_gtr))) | (refine' TL_gq2 (op_pickT rfl ?_ rfl) rfl ?_; (· (exact dT (by (omega))))) | (refine' TL_gq2 (op_pickF rfl ?_ rfl) rfl ?_; (· (exact dF (by (omega))))) | refine TL_gq2 (op_len_str rfl Tryd.underlying9) rfl ?_ | (refine' TL_gq2 (op_index_str rfl rfl Tryd.underlying9 ?_ ?_) rfl ?_; rotate_left 1; (· omega); (· (assumption))) | (refine TL_gno rfl rfl ?_ rfl ?_; (· (exact dF (by (omega))))) | (refine T_no rfl ?_ ?_; (· (first | with_reducible rfl | exact dF (by (omega)))))))
    refine T_loopS (σ := Nat) (fun k => k ≤ w.length ∧ (w.take k).all Cn.isDig = true) (fun k => [(0, .string (bs w)), (1, .int .i64 (most : Nat)), (6, .int .i64 ((Cn.valD (w.take k) : Nat) : Int)), (26, .int .i64 (w.length : Nat)), (27, .int .i64 (k : Nat))]) (fun _ => L) (fun k => w.length - k) 0 ⟨by omega, by simp⟩ ?_ (fun _ h => h) ?_
    (repeat ((first | exact trivial | refine ⟨rfl, ?_⟩)))
    rintro k ⟨hk, hall⟩
    by_cases hlt : k < w.length
    · obtain ⟨c, hc⟩ : ∃ c, w[k]? = some c := ⟨_, List.getElem?_eq_getElem hlt⟩
      have hvl := Cn.valD_lt _ hall
      rw [List.length_take, Nat.min_eq_left hk] at hvl
      have hp10 := pow10_le (show k ≤ 10 by omega)
      have hvt := valD_take hc
      obtain ⟨v, hv⟩ : ∃ v, Cn.valD (w.take k) = v := ⟨_, rfl⟩
      rw [hv] at hvl hvt ⊢
      have hcb := c.toNat_lt
      by_cases h48 : c.toNat < 48
      · rw [numV_no (okD_all (by
          rw [List.all_eq_false]
          exact ⟨c, List.mem_of_getElem? hc, fun h => by have := dig_iff.1 h; omega⟩))]
        repeat ((first | with_reducible refine T_seq ?_ | with_reducible refine T_block ?_ | with_reducible refine T_region ?_ | with_reducible refine TL_nil ?_ | with_reducible refine TQ_then ?_ | with_reducible refine T_skip ?_ | with_reducible refine T_ret ?_ | with_reducible refine TQ_then_ret ?_ | with_reducible refine TQ_block_ret ?_ | refine TL_q (op_move rfl) rfl ?_ | refine TL_q (op_assign rfl) rfl ?_ | (refine' TL_q (op_bin rfl rfl ?_) rfl ?_; rotate_left 1; (· (exact bin_lss))) | (refine' TL_q (op_pickT rfl ?_ rfl) rfl ?_; (· (exact dT (by (omega))))) | (refine' TL_q (op_index_str rfl rfl Tryd.underlying9 ?_ ?_) rfl ?_; rotate_left 1; (· omega); (· (assumption))) | (refine TL_gno rfl rfl ?_ rfl ?_; (· (exact dT (by (omega))))) | (refine T_yes rfl ?_ ?_; (· (first | with_reducible rfl | exact dT (by (omega)))))))
        refine TQ_ret2 4 5 _ _ rfl rfl rfl ?_
        exact ⟨rfl, rfl⟩
      by_cases h57 : 57 < c.toNat
      · rw [numV_no (okD_all (by
          rw [List.all_eq_false]
          exact ⟨c, List.mem_of_getElem? hc, fun h => by have := dig_iff.1 h; omega⟩))]
        repeat ((first | with_reducible refine T_seq ?_ | with_reducible refine T_block ?_ | with_reducible refine T_region ?_ | with_reducible refine TL_nil ?_ | with_reducible refine TQ_then ?_ | with_reducible refine T_skip ?_ | with_reducible refine T_ret ?_ | with_reducible refine TQ_then_ret ?_ | with_reducible refine TQ_block_ret ?_ | refine TL_q (op_move rfl) rfl ?_ | refine TL_q (op_assign rfl) rfl ?_ | (refine' TL_q (op_bin rfl rfl ?_) rfl ?_; rotate_left 1; (· (exact bin_lss))) | (refine' TL_q (op_pickF rfl ?_ rfl) rfl ?_; (· (exact dF (by (omega))))) | (refine' TL_q (op_index_str rfl rfl Tryd.underlying9 ?_ ?_) rfl ?_; rotate_left 1; (· omega); (· (assumption))) | (refine TL_gpre rfl rfl ?_ ?_; (· (exact dF (by (omega))))) | refine TL_gq2 (op_move rfl) rfl ?_ | (refine' TL_gq2 (op_bin rfl rfl ?_) rfl ?_; rotate_left 1; (· (exact bin_gtr))) | (refine' TL_gq2 (op_index_str rfl rfl Tryd.underlying9 ?_ ?_) rfl ?_; rotate_left 1; (· omega); (· (assumption))) | (refine T_yes rfl ?_ ?_; (· (exact dT (by (omega)))))))
        refine TQ_ret2 4 5 _ _ rfl rfl rfl ?_
        exact ⟨rfl, rfl⟩
      repeat ((first | with_reducible refine T_seq ?_ | with_reducible refine T_block ?_ | with_reducible refine T_region ?_ | with_reducible refine TL_nil ?_ | with_reducible refine TQ_then ?_ | with_reducible refine TQ_block ?_ | with_reducible refine T_skip ?_ | refine TL_q (op_move rfl) rfl ?_ | refine TL_q (op_assign rfl) rfl ?_ | (refine' TL_q (op_bin rfl rfl ?_) rfl ?_; rotate_left 1; (· (first | exact bin_add ⟨by omega, by omega⟩ | exact bin_sub ⟨by omega, by omega⟩ | exact bin_mul ⟨by omega, by omega⟩ | exact bin_lss))) | (refine' TL_q (op_pickF rfl ?_ rfl) rfl ?_; (· (exact dF (by (omega))))) | (refine' TL_q (op_conv_int rfl Tryd.underlying5 Tryd.underlying2 ?_) rfl ?_; (· exact ⟨by omega, by omega⟩)) | (refine' TL_q (op_index_str rfl rfl Tryd.underlying9 ?_ ?_) rfl ?_; rotate_left 1; (· omega); (· (assumption))) | (refine TL_gpre rfl rfl ?_ ?_; (· (exact dF (by (omega))))) | refine TL_gq2 (op_move rfl) rfl ?_ | (refine' TL_gq2 (op_bin rfl rfl ?_) rfl ?_; rotate_left 1; (· (exact bin_gtr))) | (refine' TL_gq2 (op_index_str rfl rfl Tryd.underlying9 ?_ ?_) rfl ?_; rotate_left 1; (· omega); (· (assumption))) | (refine T_yes rfl ?_ ?_; (· (exact dT (by (omega))))) | (refine T_no rfl ?_ ?_; (· (exact dF (by (omega)))))))
      refine TQ_roundS (k + 1) ⟨by omega, ?_⟩ ?_ (fun _ h => h) (by omega)
      · rw [List.take_add_one, hc, List.all_append, hall]
        simp only [Option.toList, List.all_cons, List.all_nil, Bool.and_true, Bool.true_and]
        exact dig_iff.2 ⟨by omega, by omega⟩
      rw [hvt, show (((v * 10 + (c.toNat - 48) : Nat)) : Int) = (v : Int) * 10 + ((c.toNat : Int) - 48) by omega]
      (repeat ((first | exact trivial | refine ⟨rfl, ?_⟩)))
    · have hkl : k = w.length := by omega
      subst hkl
      rw [List.take_length] at hall ⊢
      have hvl := Cn.valD_lt _ hall
      have hp10 := pow10_le h10'
      rw [numV_end h0 h10' hz2 hall]
      obtain ⟨v, hv⟩ : ∃ v, Cn.valD w = v := ⟨_, rfl⟩
      rw [hv] at hvl ⊢
      by_cases hm2 : v ≤ most
      · rw [if_pos hm2]
        repeat ((first | with_reducible refine T_seq ?_ | with_reducible refine T_region ?_ | with_reducible refine TL_nil ?_ | with_reducible refine TQ_then ?_ | with_reducible refine T_skip ?_ | with_reducible refine T_exit ?_ | with_reducible refine T_ret ?_ | with_reducible refine TQ_then_exit ?_ | with_reducible refine TQ_block_exit ?_ | refine TL_q (op_move rfl) rfl ?_ | refine TL_q (op_assign rfl) rfl ?_ | (refine' TL_q (op_bin rfl rfl ?_) rfl ?_; rotate_left 1; (· (first | exact bin_lss | exact bin_gtr))) | (refine T_no rfl ?_ ?_; (· (exact dF (by (omega)))))))
        refine TQ_ret2 4 5 _ _ rfl rfl rfl ?_
        exact ⟨rfl, rfl⟩
      · rw [if_neg hm2]
        repeat ((first | with_reducible refine T_seq ?_ | with_reducible refine T_region ?_ | with_reducible refine TL_nil ?_ | with_reducible refine TQ_then ?_ | with_reducible refine T_exit ?_ | with_reducible refine T_ret ?_ | with_reducible refine TQ_then_exit ?_ | with_reducible refine TQ_then_ret ?_ | with_reducible refine TQ_block_exit ?_ | refine TL_q (op_move rfl) rfl ?_ | refine TL_q (op_assign rfl) rfl ?_ | (refine' TL_q (op_bin rfl rfl ?_) rfl ?_; rotate_left 1; (· (first | exact bin_lss | exact bin_gtr))) | (refine T_yes rfl ?_ ?_; (· (exact dT (by (omega))))) | (refine T_no rfl ?_ ?_; (· (exact dF (by (omega)))))))
        refine TQ_ret2 4 5 _ _ rfl rfl rfl ?_
        exact ⟨rfl, rfl⟩
/-- What the numerals of a trust say. -/
def bitsV (ws : List Nm.Bytes) : Value := match Cn.bitsGo (-1) 0 ws with
  | some t => .tuple #[.int .u16 (t : Nat), .bool true]
  | none => .tuple #[.int .u16 0, .bool false]
set_option maxRecDepth 100000 in
set_option maxHeartbeats 4000000 in
theorem bits_S (v : Value) (ws : List Nm.Bytes) (hr : StrRow L v ws) (hn : ws.length ≤ 1000000) (hw : ∀ w ∈ ws, w.length ≤ 1000000) : Spec Tryd.prog G 66 #[v] L fun u M => u = bitsV ws ∧ M = L := by
  obtain ⟨a, cap, rfl, hrow⟩ := hr
  refine Spec_of (n := 35) Tryd.func66 rfl rfl rfl ?_
  repeat ((first | with_reducible refine T_seq ?_ | with_reducible refine T_block ?_ | with_reducible refine T_region ?_ | with_reducible refine TL_nil ?_ | with_reducible refine TQ_then ?_ | refine TL_q (op_move rfl) rfl ?_ | refine TL_q (op_assign rfl) rfl ?_ | refine TL_q (op_len_slice rfl Tryd.underlying70) rfl ?_))
  refine T_loopS (σ := Nat × Int × Nat) (fun x => x.1 ≤ ws.length ∧ (-1 ≤ x.2.1 ∧ x.2.1 ≤ 15) ∧ x.2.2 < 65536 ∧ Cn.bitsGo (-1) 0 ws = Cn.bitsGo x.2.1 x.2.2 (ws.drop x.1)) (fun x => [(4, .int .u16 (x.2.2 : Nat)), (5, .int .i64 x.2.1), (10, .slice a ws.length cap), (11, .int .i64 (ws.length : Nat)), (12, .int .i64 (x.1 : Nat))]) (fun _ => L) (fun x => ws.length - x.1) (0, -1, 0) ⟨by omega, by decide, by decide, rfl⟩ ?_ (fun _ h => h) ?_
  (repeat ((first | exact trivial | refine ⟨rfl, ?_⟩)))
  rintro ⟨k, last, t⟩ ⟨hk, ⟨hl1, hl2⟩, ht, he⟩
  dsimp only at hk hl1 hl2 ht he ⊢
  by_cases hlt : k < ws.length
  · obtain rfl | ⟨b, off, C, te, fr, rfl, hm, hc⟩ := hrow
    · simp at hlt
    obtain ⟨w, hwk⟩ : ∃ w, ws[k]? = some w := ⟨_, List.getElem?_eq_getElem hlt⟩
    have hcell := hc k w hwk
    have hww := hw w (List.mem_of_getElem? hwk)
    have hd : ws.drop k = w :: ws.drop (k + 1) := by
      obtain ⟨h1, h2⟩ := List.getElem?_eq_some_iff.1 hwk
      rw [List.drop_eq_getElem_cons h1, h2]
    rw [hd, Cn.bitsGo] at he
    cases hnp : Cn.numP w 15 with
    | none =>
      have hnv : numV w 15 = .tuple #[.int .i64 0, .bool false] := by unfold numV; rw [hnp]
      rw [hnp] at he
      repeat ((first | with_reducible refine T_seq ?_ | with_reducible refine T_block ?_ | with_reducible refine T_region ?_ | with_reducible refine TL_nil ?_ | with_reducible refine TQ_then ?_ | with_reducible refine T_skip ?_ | refine TL_q (op_move rfl) rfl ?_ | refine TL_q (op_assign rfl) rfl ?_ | (refine' TL_q (op_bin rfl rfl ?_) rfl ?_; rotate_left 1; (· (exact bin_lss))) | (refine' TL_q (op_idx ety_70 rfl rfl ?_) rfl ?_; (· omega)) | (refine' TL_q (op_ld rfl pl_9 ?_ ?_) rfl ?_; rotate_left 4; (· repeat ((assumption))); (· (assumption))) | (refine' TL_op (op_call hb_64 rfl (number_S _ _ ?_ ?_)) rfl ?_; (· (omega)); (· (decide))) | (refine T_yes rfl ?_ ?_; (· (exact dT (by (omega)))))))
      rw [hnv]
      repeat ((first | with_reducible refine T_seq ?_ | with_reducible refine T_region ?_ | with_reducible refine TL_nil ?_ | with_reducible refine TQ_then ?_ | with_reducible refine T_ret ?_ | with_reducible refine TQ_then_ret ?_ | with_reducible refine TQ_block_ret ?_ | refine TL_q (op_move rfl) rfl ?_ | refine TL_q (op_assign rfl) rfl ?_ | refine TL_q (op_not rfl) rfl ?_ | refine TL_q (op_extract rfl rfl) rfl ?_ | (refine' TL_q (op_pickT rfl ?_ rfl) rfl ?_; (· (exact Bool.not_false))) | (refine TL_gno rfl rfl ?_ rfl ?_; (· (with_reducible rfl))) | (refine T_yes rfl ?_ ?_; (· (with_reducible rfl)))))
      refine TQ_ret2 2 3 _ _ rfl rfl rfl ?_
      exact ⟨by unfold bitsV; rw [he], rfl⟩
    | some u =>
      have hnv : numV w 15 = .tuple #[.int .i64 (u : Nat), .bool true] := by unfold numV; rw [hnp]
      have hu15 := (Cn.numP_some hnp).2
      rw [hnp] at he
      dsimp only at he
      repeat ((first | with_reducible refine T_seq ?_ | with_reducible refine T_block ?_ | with_reducible refine T_region ?_ | with_reducible refine TL_nil ?_ | with_reducible refine TQ_then ?_ | with_reducible refine T_skip ?_ | refine TL_q (op_move rfl) rfl ?_ | refine TL_q (op_assign rfl) rfl ?_ | (refine' TL_q (op_bin rfl rfl ?_) rfl ?_; rotate_left 1; (· (exact bin_lss))) | (refine' TL_q (op_idx ety_70 rfl rfl ?_) rfl ?_; (· omega)) | (refine' TL_q (op_ld rfl pl_9 ?_ ?_) rfl ?_; rotate_left 4; (· repeat ((assumption))); (· (assumption))) | (refine' TL_op (op_call hb_64 rfl (number_S _ _ ?_ ?_)) rfl ?_; (· (omega)); (· (decide))) | (refine T_yes rfl ?_ ?_; (· (exact dT (by (omega)))))))
      rw [hnv]
      by_cases hul : (u : Int) ≤ last
      · rw [if_pos hul] at he
        repeat ((first | with_reducible refine T_seq ?_ | with_reducible refine T_region ?_ | with_reducible refine TL_nil ?_ | with_reducible refine TQ_then ?_ | with_reducible refine T_ret ?_ | with_reducible refine TQ_then_ret ?_ | with_reducible refine TQ_block_ret ?_ | refine TL_q (op_move rfl) rfl ?_ | refine TL_q (op_assign rfl) rfl ?_ | refine TL_q (op_not rfl) rfl ?_ | refine TL_q (op_extract rfl rfl) rfl ?_ | (refine' TL_q (op_pickF rfl ?_ rfl) rfl ?_; (· (exact Bool.not_true))) | (refine TL_gpre rfl rfl ?_ ?_; (· (exact Bool.not_true))) | refine TL_gq2 (op_move rfl) rfl ?_ | (refine' TL_gq2 (op_bin rfl rfl ?_) rfl ?_; rotate_left 1; (· (exact bin_leq))) | (refine T_yes rfl ?_ ?_; (· (exact dT (by (assumption)))))))
        refine TQ_ret2 2 3 _ _ rfl rfl rfl ?_
        exact ⟨by unfold bitsV; rw [he], rfl⟩
      · rw [if_neg hul] at he
        have hpw : 2 ^ u < 65536 := by
          have : 2 ^ u ≤ 2 ^ 15 := Nat.pow_le_pow_right (by decide) hu15
          omega
        repeat ((first | with_reducible refine T_seq ?_ | with_reducible refine T_region ?_ | with_reducible refine TL_nil ?_ | with_reducible refine TQ_then ?_ | with_reducible refine T_skip ?_ | refine TL_q (op_move rfl) rfl ?_ | refine TL_q (op_assign rfl) rfl ?_ | refine TL_q (op_not rfl) rfl ?_ | refine TL_q (op_extract rfl rfl) rfl ?_ | (refine' TL_q (op_pickF rfl ?_ rfl) rfl ?_; (· (exact Bool.not_true))) | (refine TL_gpre rfl rfl ?_ ?_; (· (exact Bool.not_true))) | refine TL_gq2 (op_move rfl) rfl ?_ | (refine' TL_gq2 (op_bin rfl rfl ?_) rfl ?_; rotate_left 1; (· (exact bin_leq))) | (refine T_no rfl ?_ ?_; (· (exact dF (by (assumption)))))))
        refine TL_q (op_bin rfl rfl (bin_shl16 hu15)) rfl ?_
        refine TL_q (op_bin rfl rfl (bin_or16 ht hpw)) rfl ?_
        repeat ((first | with_reducible refine T_region ?_ | with_reducible refine TL_nil ?_ | with_reducible refine TQ_then ?_ | with_reducible refine TQ_block ?_ | refine TL_q (op_move rfl) rfl ?_ | refine TL_q (op_assign rfl) rfl ?_ | (refine' TL_q (op_bin rfl rfl ?_) rfl ?_; rotate_left 1; (· (exact bin_add ⟨by omega, by omega⟩)))))
        refine TQ_roundS (k + 1, (u : Int), t ||| 2 ^ u) ⟨by dsimp only; omega, by dsimp only; omega, Nat.or_lt_two_pow (n := 16) ht hpw, he⟩ ?_ (fun _ h => h) (by dsimp only; omega)
        (repeat ((first | exact trivial | refine ⟨rfl, ?_⟩)))
  · have hkl : k = ws.length := by omega
    subst hkl
    rw [List.drop_length, Cn.bitsGo] at he
    repeat ((first | with_reducible refine T_seq ?_ | with_reducible refine T_region ?_ | with_reducible refine TL_nil ?_ | with_reducible refine TQ_then ?_ | with_reducible refine T_exit ?_ | with_reducible refine T_ret ?_ | with_reducible refine TQ_then_exit ?_ | with_reducible refine TQ_block_exit ?_ | refine TL_q (op_move rfl) rfl ?_ | refine TL_q (op_assign rfl) rfl ?_ | (refine' TL_q (op_bin rfl rfl ?_) rfl ?_; rotate_left 1; (· (exact bin_lss))) | (refine T_no rfl ?_ ?_; (· (exact dF (by (omega)))))))
    refine TQ_ret2 2 3 _ _ rfl rfl rfl ?_
    exact ⟨by unfold bitsV; rw [he], rfl⟩
end Go.Proofs.YtnhlpifbadncmaaDoor
namespace Go.Proofs.YtnhlpifbadncmaaDoor
open Go.RowKit
open Cn (Zo Cf)
set_option linter.unusedVariables false
set_option linter.unusedSimpArgs false
--auto
variable {G : World} {L : Blocks}
def mayK (c : Cf) : Prop := (1 ≤ c.ups ∧ c.ups ≤ 9 ∧ c.ups % 2 = 1) ∧ (1 ≤ c.hdg ∧ c.hdg ≤ 1000) ∧ (1 ≤ c.wai ∧ c.wai ≤ 1000) ∧ (1 ≤ c.tri ∧ c.tri ≤ 4) ∧
  (c.ups / 2 * c.hdg + c.tri * c.wai ≤ c.ded ∧ c.ded ≤ 100000) ∧ (1 ≤ c.res ∧ c.res ≤ 100000) ∧ (1 ≤ c.lim ∧ c.lim ≤ 100) ∧ (0 ≤ c.cac ∧ c.cac ≤ 256) ∧ (1 ≤ c.fli ∧ c.fli ≤ 32) ∧
  (1 ≤ c.wtr ∧ c.wtr ≤ 16) ∧ (0 ≤ c.ttl ∧ c.ttl ≤ 2147483647) ∧ (512 ≤ c.siz ∧ c.siz ≤ 4096)
instance (c : Cf) : Decidable (mayK c) := by unfold mayK; infer_instance
set_option maxRecDepth 100000 in
set_option maxHeartbeats 8000000 in
theorem mayNum_S (c : Cf) (v : Value) : Spec Tryd.prog G 26 #[.agg (cfCells c v).toArray] L fun u M => u = .bool (Cn.mayNum c) ∧ M = L := by
  refine Spec_of (n := 81) Tryd.func26 rfl rfl rfl ?_
  refine T_seq (T_region (TL_new (op_boxA rfl) rfl ?_))
  intro b1
  have g0 : (cfCells (c) (v)).toArray[0 + 0]? = some (.int .i64 (c).ups) := rfl
  have g1 : (cfCells (c) (v)).toArray[0 + 1]? = some (.int .i64 (c).ded) := rfl
  have g2 : (cfCells (c) (v)).toArray[0 + 2]? = some (.int .i64 (c).hdg) := rfl
  have g3 : (cfCells (c) (v)).toArray[0 + 3]? = some (.int .i64 (c).wai) := rfl
  have g4 : (cfCells (c) (v)).toArray[0 + 4]? = some (.int .i64 (c).tri) := rfl
  have g5 : (cfCells (c) (v)).toArray[0 + 5]? = some (.int .i64 (c).res) := rfl
  have g6 : (cfCells (c) (v)).toArray[0 + 6]? = some (.int .i64 (c).lim) := rfl
  have g7 : (cfCells (c) (v)).toArray[0 + 7]? = some (.int .i64 (c).cac) := rfl
  have g8 : (cfCells (c) (v)).toArray[0 + 8]? = some (.int .i64 (c).fli) := rfl
  have g9 : (cfCells (c) (v)).toArray[0 + 9]? = some (.int .i64 (c).wtr) := rfl
  have g10 : (cfCells (c) (v)).toArray[0 + 10]? = some (.int .i64 (c).ttl) := rfl
  have g11 : (cfCells (c) (v)).toArray[0 + 11]? = some (.int .i64 (c).siz) := rfl
  have g12 : (cfCells (c) (v)).toArray[0 + 12]? = some (v) := rfl
  have no : ¬ mayK c → false = Cn.mayNum c := fun k => (decide_eq_false k).symm
  by_cases h1 : 1 ≤ c.ups ∧ c.ups ≤ 9
  rotate_left
  · repeat ((first | with_reducible refine T_seq ?_ | with_reducible refine T_region ?_ | with_reducible refine TL_nil ?_ | with_reducible refine TQ_then ?_ | with_reducible refine T_ret ?_ | with_reducible refine TQ_then_ret ?_ | refine TL_q (op_move rfl) rfl ?_ | refine TL_q (op_assign rfl) rfl ?_ | refine TL_q (op_not rfl) rfl ?_ | (refine' TL_q (op_pickT rfl ?_ rfl) rfl ?_; (· (exact xT (by (exact dF (by (assumption))))))) | refine TL_q (op_fld rfl fld_25_0) rfl ?_ | (refine' TL_q (op_ld rfl pl_3 ?_ ?_) rfl ?_; rotate_left 4; (· repeat ((exact List.mem_cons_self))); (· (assumption))) | (refine' TL_op (op_call hb_50 rfl (between_S _ _ _ )) rfl ?_) | (refine TL_gno rfl rfl ?_ rfl ?_; (· (exact xT (by (exact dF (by (assumption))))))) | (refine T_yes rfl ?_ ?_; (· (with_reducible rfl)))))
    refine TQ_heap (fun w h => h.tail) ?_
    refine TQ_ret1 2 _ rfl rfl ?_
    exact ⟨congrArg Value.bool (no fun k => h1 (by unfold mayK at k; omega)), rfl⟩
  by_cases he : c.ups % 2 = 1
  rotate_left
  · repeat ((first | with_reducible refine T_seq ?_ | with_reducible refine T_region ?_ | with_reducible refine TL_nil ?_ | with_reducible refine TQ_then ?_ | with_reducible refine T_ret ?_ | with_reducible refine TQ_then_ret ?_ | refine TL_q (op_move rfl) rfl ?_ | refine TL_q (op_assign rfl) rfl ?_ | refine TL_q (op_not rfl) rfl ?_ | (refine' TL_q (op_pickF rfl ?_ rfl) rfl ?_; (· (exact xF (by (exact dT (by (assumption))))))) | refine TL_q (op_fld rfl fld_25_0) rfl ?_ | (refine' TL_q (op_ld rfl pl_3 ?_ ?_) rfl ?_; rotate_left 4; (· repeat ((exact List.mem_cons_self))); (· (assumption))) | (refine' TL_op (op_call hb_50 rfl (between_S _ _ _ )) rfl ?_) | (refine TL_gpre rfl rfl ?_ ?_; (· (exact xF (by (exact dT (by (assumption))))))) | (refine' TL_gq2 (op_bin rfl rfl ?_) rfl ?_; rotate_left 1; (· (first | exact bin_rem (by omega) (by omega) | exact bin_eql))) | refine TL_gq2 (op_fld rfl fld_25_0) rfl ?_ | (refine' TL_gq2 (op_ld rfl pl_3 ?_ ?_) rfl ?_; rotate_left 4; (· repeat ((exact List.mem_cons_self))); (· (assumption))) | (refine T_yes rfl ?_ ?_; (· (exact dT (by (omega)))))))
    refine TQ_heap (fun w h => h.tail) ?_
    refine TQ_ret1 2 _ rfl rfl ?_
    exact ⟨congrArg Value.bool (no fun k => he (by unfold mayK at k; omega)), rfl⟩
  by_cases h2 : 1 ≤ c.hdg ∧ c.hdg ≤ 1000
  rotate_left
  · repeat ((first | with_reducible refine T_seq ?_ | with_reducible refine T_region ?_ | with_reducible refine TL_nil ?_ | with_reducible refine TQ_then ?_ | with_reducible refine T_skip ?_ | with_reducible refine T_ret ?_ | with_reducible refine TQ_then_ret ?_ | refine TL_q (op_move rfl) rfl ?_ | refine TL_q (op_assign rfl) rfl ?_ | refine TL_q (op_not rfl) rfl ?_ | (refine' TL_q (op_pickT rfl ?_ rfl) rfl ?_; (· (first | with_reducible rfl | exact xT (by (exact dF (by (assumption))))))) | (refine' TL_q (op_pickF rfl ?_ rfl) rfl ?_; (· (exact xF (by (exact dT (by (assumption))))))) | refine TL_q (op_fld rfl fld_25_0) rfl ?_ | refine TL_q (op_fld rfl fld_25_2) rfl ?_ | (refine' TL_q (op_ld rfl pl_3 ?_ ?_) rfl ?_; rotate_left 4; (· repeat ((exact List.mem_cons_self))); (· (assumption))) | (refine' TL_op (op_call hb_50 rfl (between_S _ _ _ )) rfl ?_) | (refine TL_gpre rfl rfl ?_ ?_; (· (exact xF (by (exact dT (by (assumption))))))) | (refine' TL_gq2 (op_bin rfl rfl ?_) rfl ?_; rotate_left 1; (· (first | exact bin_rem (by omega) (by omega) | exact bin_eql))) | refine TL_gq2 (op_fld rfl fld_25_0) rfl ?_ | (refine' TL_gq2 (op_ld rfl pl_3 ?_ ?_) rfl ?_; rotate_left 4; (· repeat ((exact List.mem_cons_self))); (· (assumption))) | (refine TL_gno rfl rfl ?_ rfl ?_; (· (first | exact Bool.not_false | exact xT (by (exact dF (by (assumption))))))) | (refine T_yes rfl ?_ ?_; (· (with_reducible rfl))) | (refine T_no rfl ?_ ?_; (· (exact dF (by (omega)))))))
    refine TQ_heap (fun w h => h.tail) ?_
    refine TQ_ret1 2 _ rfl rfl ?_
    exact ⟨congrArg Value.bool (no fun k => h2 (by unfold mayK at k; omega)), rfl⟩
  by_cases h3 : 1 ≤ c.wai ∧ c.wai ≤ 1000
  rotate_left
  · repeat ((first | with_reducible refine T_seq ?_ | with_reducible refine T_region ?_ | with_reducible refine TL_nil ?_ | with_reducible refine TQ_then ?_ | with_reducible refine T_skip ?_ | with_reducible refine T_ret ?_ | with_reducible refine TQ_then_ret ?_ | refine TL_q (op_move rfl) rfl ?_ | refine TL_q (op_assign rfl) rfl ?_ | refine TL_q (op_not rfl) rfl ?_ | (refine' TL_q (op_pickT rfl ?_ rfl) rfl ?_; (· (exact xT (by (exact dF (by (assumption))))))) | (refine' TL_q (op_pickF rfl ?_ rfl) rfl ?_; (· (exact xF (by (exact dT (by (assumption))))))) | refine TL_q (op_fld rfl fld_25_0) rfl ?_ | refine TL_q (op_fld rfl fld_25_2) rfl ?_ | (refine' TL_q (op_ld rfl pl_3 ?_ ?_) rfl ?_; rotate_left 4; (· repeat ((exact List.mem_cons_self))); (· (assumption))) | (refine' TL_op (op_call hb_50 rfl (between_S _ _ _ )) rfl ?_) | (refine' TG_op (op_call hb_50 rfl (between_S _ _ _ )) rfl ?_) | (refine TL_gpre rfl rfl ?_ ?_; (· (exact xF (by (exact dT (by (assumption))))))) | (refine' TL_gq2 (op_bin rfl rfl ?_) rfl ?_; rotate_left 1; (· (first | exact bin_rem (by omega) (by omega) | exact bin_eql))) | refine TL_gq2 (op_not rfl) rfl ?_ | refine TL_gq2 (op_fld rfl fld_25_0) rfl ?_ | refine TL_gq2 (op_fld rfl fld_25_3) rfl ?_ | (refine' TL_gq2 (op_ld rfl pl_3 ?_ ?_) rfl ?_; rotate_left 4; (· repeat ((exact List.mem_cons_self))); (· (assumption))) | (refine TL_gno rfl rfl ?_ rfl ?_; (· (exact xT (by (exact dF (by (assumption))))))) | (refine T_yes rfl ?_ ?_; (· (with_reducible rfl))) | (refine T_no rfl ?_ ?_; (· (exact dF (by (omega)))))))
    refine TQ_heap (fun w h => h.tail) ?_
    refine TQ_ret1 2 _ rfl rfl ?_
    exact ⟨congrArg Value.bool (no fun k => h3 (by unfold mayK at k; omega)), rfl⟩
  by_cases h4 : 1 ≤ c.tri ∧ c.tri ≤ 4
  rotate_left
  · repeat ((first | with_reducible refine T_seq ?_ | with_reducible refine T_region ?_ | with_reducible refine TL_nil ?_ | with_reducible refine TQ_then ?_ | with_reducible refine T_skip ?_ | with_reducible refine T_ret ?_ | with_reducible refine TQ_then_ret ?_ | refine TL_q (op_move rfl) rfl ?_ | refine TL_q (op_assign rfl) rfl ?_ | refine TL_q (op_not rfl) rfl ?_ | (refine' TL_q (op_pickF rfl ?_ rfl) rfl ?_; (· (exact xF (by (exact dT (by (assumption))))))) | refine TL_q (op_fld rfl fld_25_0) rfl ?_ | refine TL_q (op_fld rfl fld_25_2) rfl ?_ | (refine' TL_q (op_ld rfl pl_3 ?_ ?_) rfl ?_; rotate_left 4; (· repeat ((exact List.mem_cons_self))); (· (assumption))) | (refine' TL_op (op_call hb_50 rfl (between_S _ _ _ )) rfl ?_) | (refine' TG_op (op_call hb_50 rfl (between_S _ _ _ )) rfl ?_) | (refine TL_gpre rfl rfl ?_ ?_; (· (exact xF (by (exact dT (by (assumption))))))) | (refine' TL_gq2 (op_bin rfl rfl ?_) rfl ?_; rotate_left 1; (· (first | exact bin_rem (by omega) (by omega) | exact bin_eql))) | refine TL_gq2 (op_not rfl) rfl ?_ | refine TL_gq2 (op_fld rfl fld_25_0) rfl ?_ | refine TL_gq2 (op_fld rfl fld_25_3) rfl ?_ | refine TL_gq2 (op_fld rfl fld_25_4) rfl ?_ | (refine' TL_gq2 (op_ld rfl pl_3 ?_ ?_) rfl ?_; rotate_left 4; (· repeat ((exact List.mem_cons_self))); (· (assumption))) | (refine T_yes rfl ?_ ?_; (· (exact xT (by (exact dF (by (assumption))))))) | (refine T_no rfl ?_ ?_; (· (exact dF (by (omega)))))))
    refine TQ_heap (fun w h => h.tail) ?_
    refine TQ_ret1 2 _ rfl rfl ?_
    exact ⟨congrArg Value.bool (no fun k => h4 (by unfold mayK at k; omega)), rfl⟩
  have m1 : 0 ≤ c.ups / 2 * c.hdg ∧ c.ups / 2 * c.hdg ≤ 4000 := ⟨Int.mul_nonneg (by omega) (by omega), Int.le_trans (Int.mul_le_mul (show c.ups / 2 ≤ 4 by omega) h2.2 (by omega) (by omega)) (by decide)⟩
  have m2 : 0 ≤ c.tri * c.wai ∧ c.tri * c.wai ≤ 4000 := ⟨Int.mul_nonneg (by omega) (by omega), Int.le_trans (Int.mul_le_mul h4.2 h3.2 (by omega) (by omega)) (by decide)⟩
  by_cases h5 : c.ups / 2 * c.hdg + c.tri * c.wai ≤ c.ded ∧ c.ded ≤ 100000
  rotate_left
  · repeat ((first | with_reducible refine T_seq ?_ | with_reducible refine T_region ?_ | with_reducible refine TL_nil ?_ | with_reducible refine TQ_then ?_ | with_reducible refine T_skip ?_ | with_reducible refine T_ret ?_ | refine TL_q (op_move rfl) rfl ?_ | refine TL_q (op_assign rfl) rfl ?_ | (refine' TL_q (op_bin rfl rfl ?_) rfl ?_; rotate_left 1; (· (first | exact bin_add ⟨by omega, by omega⟩ | exact bin_mul ⟨by omega, by omega⟩ | exact bin_quo (by omega) (by omega) ⟨by omega, by omega⟩))) | refine TL_q (op_not rfl) rfl ?_ | (refine' TL_q (op_pickF rfl ?_ rfl) rfl ?_; (· (first | with_reducible rfl | exact dF (by (assumption)) | exact xF (by (exact dT (by (assumption))))))) | refine TL_q (op_fld rfl fld_25_0) rfl ?_ | refine TL_q (op_fld rfl fld_25_1) rfl ?_ | refine TL_q (op_fld rfl fld_25_2) rfl ?_ | refine TL_q (op_fld rfl fld_25_3) rfl ?_ | refine TL_q (op_fld rfl fld_25_4) rfl ?_ | (refine' TL_q (op_ld rfl pl_3 ?_ ?_) rfl ?_; rotate_left 4; (· repeat ((exact List.mem_cons_self))); (· (assumption))) | (refine' TL_op (op_call hb_50 rfl (between_S _ _ _ )) rfl ?_) | (refine' TG_op (op_call hb_50 rfl (between_S _ _ _ )) rfl ?_) | (refine TL_gpre rfl rfl ?_ ?_; (· (exact xF (by (exact dT (by (assumption))))))) | (refine' TL_gq2 (op_bin rfl rfl ?_) rfl ?_; rotate_left 1; (· (first | exact bin_rem (by omega) (by omega) | exact bin_eql))) | refine TL_gq2 (op_not rfl) rfl ?_ | refine TL_gq2 (op_fld rfl fld_25_0) rfl ?_ | refine TL_gq2 (op_fld rfl fld_25_3) rfl ?_ | refine TL_gq2 (op_fld rfl fld_25_4) rfl ?_ | (refine' TL_gq2 (op_ld rfl pl_3 ?_ ?_) rfl ?_; rotate_left 4; (· repeat ((exact List.mem_cons_self))); (· (assumption))) | (refine TL_gno rfl rfl ?_ rfl ?_; (· (first | exact Bool.not_true | exact dF (by (assumption))))) | (refine T_no rfl ?_ ?_; (· (first | exact dF (by (first | assumption | omega)) | exact xF (by (exact dT (by (assumption)))))))))
    refine TQ_heap (fun w h => h.tail) ?_
    refine TQ_ret1 2 _ rfl rfl ?_
    exact ⟨congrArg Value.bool (no fun k => h5 (by unfold mayK at k; omega)), rfl⟩
  by_cases h6 : 1 ≤ c.res ∧ c.res ≤ 100000
  rotate_left
  · repeat ((first | with_reducible refine T_seq ?_ | with_reducible refine T_region ?_ | with_reducible refine TL_nil ?_ | with_reducible refine TQ_then ?_ | with_reducible refine T_skip ?_ | with_reducible refine T_ret ?_ | refine TL_q (op_move rfl) rfl ?_ | refine TL_q (op_assign rfl) rfl ?_ | (refine' TL_q (op_bin rfl rfl ?_) rfl ?_; rotate_left 1; (· (first | exact bin_add ⟨by omega, by omega⟩ | exact bin_mul ⟨by omega, by omega⟩ | exact bin_quo (by omega) (by omega) ⟨by omega, by omega⟩))) | refine TL_q (op_not rfl) rfl ?_ | (refine' TL_q (op_pickT rfl ?_ rfl) rfl ?_; (· (exact dT (by (assumption))))) | (refine' TL_q (op_pickF rfl ?_ rfl) rfl ?_; (· (first | with_reducible rfl | exact dF (by (assumption)) | exact xF (by (exact dT (by (assumption))))))) | refine TL_q (op_fld rfl fld_25_0) rfl ?_ | refine TL_q (op_fld rfl fld_25_1) rfl ?_ | refine TL_q (op_fld rfl fld_25_2) rfl ?_ | refine TL_q (op_fld rfl fld_25_3) rfl ?_ | refine TL_q (op_fld rfl fld_25_4) rfl ?_ | (refine' TL_q (op_ld rfl pl_3 ?_ ?_) rfl ?_; rotate_left 4; (· repeat ((exact List.mem_cons_self))); (· (assumption))) | (refine' TL_op (op_call hb_50 rfl (between_S _ _ _ )) rfl ?_) | (refine' TG_op (op_call hb_50 rfl (between_S _ _ _ )) rfl ?_) | (refine TL_gpre rfl rfl ?_ ?_; (· (first | exact dT (by (assumption)) | exact xF (by (exact dT (by (assumption))))))) | (refine' TL_gq2 (op_bin rfl rfl ?_) rfl ?_; rotate_left 1; (· (first | exact bin_rem (by omega) (by omega) | exact bin_eql))) | refine TL_gq2 (op_not rfl) rfl ?_ | refine TL_gq2 (op_fld rfl fld_25_0) rfl ?_ | refine TL_gq2 (op_fld rfl fld_25_3) rfl ?_ | refine TL_gq2 (op_fld rfl fld_25_4) rfl ?_ | refine TL_gq2 (op_fld rfl fld_25_5) rfl ?_ | (refine' TL_gq2 (op_ld rfl pl_3 ?_ ?_) rfl ?_; rotate_left 4; (· repeat ((exact List.mem_cons_self))); (· (assumption))) | (refine TL_gno rfl rfl ?_ rfl ?_; (· (first | exact Bool.not_true | exact dF (by (assumption))))) | (refine T_no rfl ?_ ?_; (· (first | exact dF (by (first | assumption | omega)) | exact xF (by (exact dT (by (assumption)))))))))
    refine TQ_heap (fun w h => h.tail) ?_
    refine TQ_ret1 2 _ rfl rfl ?_
    exact ⟨congrArg Value.bool (no fun k => h6 (by unfold mayK at k; omega)), rfl⟩
  by_cases h7 : 1 ≤ c.lim ∧ c.lim ≤ 100
  rotate_left
  · repeat ((first | with_reducible refine T_seq ?_ | with_reducible refine T_region ?_ | with_reducible refine TL_nil ?_ | with_reducible refine TQ_then ?_ | with_reducible refine T_skip ?_ | with_reducible refine T_ret ?_ | refine TL_q (op_move rfl) rfl ?_ | refine TL_q (op_assign rfl) rfl ?_ | (refine' TL_q (op_bin rfl rfl ?_) rfl ?_; rotate_left 1; (· (first | exact bin_add ⟨by omega, by omega⟩ | exact bin_mul ⟨by omega, by omega⟩ | exact bin_quo (by omega) (by omega) ⟨by omega, by omega⟩))) | refine TL_q (op_not rfl) rfl ?_ | (refine' TL_q (op_pickT rfl ?_ rfl) rfl ?_; (· (exact dT (by (assumption))))) | (refine' TL_q (op_pickF rfl ?_ rfl) rfl ?_; (· (first | with_reducible rfl | exact dF (by (assumption)) | exact xF (by (exact dT (by (assumption))))))) | refine TL_q (op_fld rfl fld_25_0) rfl ?_ | refine TL_q (op_fld rfl fld_25_1) rfl ?_ | refine TL_q (op_fld rfl fld_25_2) rfl ?_ | refine TL_q (op_fld rfl fld_25_3) rfl ?_ | refine TL_q (op_fld rfl fld_25_4) rfl ?_ | (refine' TL_q (op_ld rfl pl_3 ?_ ?_) rfl ?_; rotate_left 4; (· repeat ((exact List.mem_cons_self))); (· (assumption))) | (refine' TL_op (op_call hb_50 rfl (between_S _ _ _ )) rfl ?_) | (refine' TG_op (op_call hb_50 rfl (between_S _ _ _ )) rfl ?_) | (refine TL_gpre rfl rfl ?_ ?_; (· (first | exact dT (by (assumption)) | exact xF (by (exact dT (by (assumption))))))) | (refine' TL_gq2 (op_bin rfl rfl ?_) rfl ?_; rotate_left 1; (· (first | exact bin_rem (by omega) (by omega) | exact bin_eql))) | refine TL_gq2 (op_not rfl) rfl ?_ | refine TL_gq2 (op_fld rfl fld_25_0) rfl ?_ | refine TL_gq2 (op_fld rfl fld_25_3) rfl ?_ | refine TL_gq2 (op_fld rfl fld_25_4) rfl ?_ | refine TL_gq2 (op_fld rfl fld_25_5) rfl ?_ | refine TL_gq2 (op_fld rfl fld_25_6) rfl ?_ | (refine' TL_gq2 (op_ld rfl pl_3 ?_ ?_) rfl ?_; rotate_left 4; (· repeat ((exact List.mem_cons_self))); (· (assumption))) | (refine TL_gno rfl rfl ?_ rfl ?_; (· (first | exact Bool.not_true | exact dF (by (assumption))))) | (refine T_no rfl ?_ ?_; (· (first | exact dF (by (first | assumption | omega)) | exact xF (by (exact dT (by (assumption)))))))))
    refine TQ_heap (fun w h => h.tail) ?_
    refine TQ_ret1 2 _ rfl rfl ?_
    exact ⟨congrArg Value.bool (no fun k => h7 (by unfold mayK at k; omega)), rfl⟩
  by_cases h8 : 0 ≤ c.cac ∧ c.cac ≤ 256
  rotate_left
  · repeat ((first | with_reducible refine T_seq ?_ | with_reducible refine T_region ?_ | with_reducible refine TL_nil ?_ | with_reducible refine TQ_then ?_ | with_reducible refine T_skip ?_ | with_reducible refine T_ret ?_ | refine TL_q (op_move rfl) rfl ?_ | refine TL_q (op_assign rfl) rfl ?_ | (refine' TL_q (op_bin rfl rfl ?_) rfl ?_; rotate_left 1; (· (first | exact bin_add ⟨by omega, by omega⟩ | exact bin_mul ⟨by omega, by omega⟩ | exact bin_quo (by omega) (by omega) ⟨by omega, by omega⟩))) | refine TL_q (op_not rfl) rfl ?_ | (refine' TL_q (op_pickT rfl ?_ rfl) rfl ?_; (· (exact dT (by (assumption))))) | (refine' TL_q (op_pickF rfl ?_ rfl) rfl ?_; (· (first | with_reducible rfl | exact dF (by (assumption)) | exact xF (by (exact dT (by (assumption))))))) | refine TL_q (op_fld rfl fld_25_0) rfl ?_ | refine TL_q (op_fld rfl fld_25_1) rfl ?_ | refine TL_q (op_fld rfl fld_25_2) rfl ?_ | refine TL_q (op_fld rfl fld_25_3) rfl ?_ | refine TL_q (op_fld rfl fld_25_4) rfl ?_ | (refine' TL_q (op_ld rfl pl_3 ?_ ?_) rfl ?_; rotate_left 4; (· repeat ((exact List.mem_cons_self))); (· (assumption))) | (refine' TL_op (op_call hb_50 rfl (between_S _ _ _ )) rfl ?_) | (refine' TG_op (op_call hb_50 rfl (between_S _ _ _ )) rfl ?_) | (refine TL_gpre rfl rfl ?_ ?_; (· (first | exact dT (by (assumption)) | exact xF (by (exact dT (by (assumption))))))) | (refine' TL_gq2 (op_bin rfl rfl ?_) rfl ?_; rotate_left 1; (· (first | exact bin_rem (by omega) (by omega) | exact bin_eql))) | refine TL_gq2 (op_not rfl) rfl ?_ | refine TL_gq2 (op_fld rfl fld_25_0) rfl ?_ | refine TL_gq2 (op_fld rfl fld_25_3) rfl ?_ | refine TL_gq2 (op_fld rfl fld_25_4) rfl ?_ | refine TL_gq2 (op_fld rfl fld_25_5) rfl ?_ | refine TL_gq2 (op_fld rfl fld_25_6) rfl ?_ | refine TL_gq2 (op_fld rfl fld_25_7) rfl ?_ | (refine' TL_gq2 (op_ld rfl pl_3 ?_ ?_) rfl ?_; rotate_left 4; (· repeat ((exact List.mem_cons_self))); (· (assumption))) | (refine TL_gno rfl rfl ?_ rfl ?_; (· (first | exact Bool.not_true | exact dF (by (assumption))))) | (refine T_no rfl ?_ ?_; (· (first | exact dF (by (first | assumption | omega)) | exact xF (by (exact dT (by (assumption)))))))))
    refine TQ_heap (fun w h => h.tail) ?_
    refine TQ_ret1 2 _ rfl rfl ?_
    exact ⟨congrArg Value.bool (no fun k => h8 (by unfold mayK at k; omega)), rfl⟩
  by_cases h9 : 1 ≤ c.fli ∧ c.fli ≤ 32
  rotate_left
  · repeat ((first | with_reducible refine T_seq ?_ | with_reducible refine T_region ?_ | with_reducible refine TL_nil ?_ | with_reducible refine TQ_then ?_ | with_reducible refine T_skip ?_ | with_reducible refine T_ret ?_ | refine TL_q (op_move rfl) rfl ?_ | refine TL_q (op_assign rfl) rfl ?_ | (refine' TL_q (op_bin rfl rfl ?_) rfl ?_; rotate_left 1; (· (first | exact bin_add ⟨by omega, by omega⟩ | exact bin_mul ⟨by omega, by omega⟩ | exact bin_quo (by omega) (by omega) ⟨by omega, by omega⟩))) | refine TL_q (op_not rfl) rfl ?_ | (refine' TL_q (op_pickT rfl ?_ rfl) rfl ?_; (· (exact dT (by (assumption))))) | (refine' TL_q (op_pickF rfl ?_ rfl) rfl ?_; (· (first | with_reducible rfl | exact dF (by (assumption)) | exact xF (by (exact dT (by (assumption))))))) | refine TL_q (op_fld rfl fld_25_0) rfl ?_ | refine TL_q (op_fld rfl fld_25_1) rfl ?_ | refine TL_q (op_fld rfl fld_25_2) rfl ?_ | refine TL_q (op_fld rfl fld_25_3) rfl ?_ | refine TL_q (op_fld rfl fld_25_4) rfl ?_ | (refine' TL_q (op_ld rfl pl_3 ?_ ?_) rfl ?_; rotate_left 4; (· repeat ((exact List.mem_cons_self))); (· (assumption))) | (refine' TL_op (op_call hb_50 rfl (between_S _ _ _ )) rfl ?_) | (refine' TG_op (op_call hb_50 rfl (between_S _ _ _ )) rfl ?_) | (refine TL_gpre rfl rfl ?_ ?_; (· (first | exact dT (by (assumption)) | exact xF (by (exact dT (by (assumption))))))) | (refine' TL_gq2 (op_bin rfl rfl ?_) rfl ?_; rotate_left 1; (· (first | exact bin_rem (by omega) (by omega) | exact bin_eql))) | refine TL_gq2 (op_not rfl) rfl ?_ | refine TL_gq2 (op_fld rfl fld_25_0) rfl ?_ | refine TL_gq2 (op_fld rfl fld_25_3) rfl ?_ | refine TL_gq2 (op_fld rfl fld_25_4) rfl ?_ | refine TL_gq2 (op_fld rfl fld_25_5) rfl ?_ | refine TL_gq2 (op_fld rfl fld_25_6) rfl ?_ | refine TL_gq2 (op_fld rfl fld_25_7) rfl ?_ | refine TL_gq2 (op_fld rfl fld_25_8) rfl ?_ | (refine' TL_gq2 (op_ld rfl pl_3 ?_ ?_) rfl ?_; rotate_left 4; (· repeat ((exact List.mem_cons_self))); (· (assumption))) | (refine TL_gno rfl rfl ?_ rfl ?_; (· (first | exact Bool.not_true | exact dF (by (assumption))))) | (refine T_no rfl ?_ ?_; (· (first | exact dF (by (first | assumption | omega)) | exact xF (by (exact dT (by (assumption)))))))))
    refine TQ_heap (fun w h => h.tail) ?_
    refine TQ_ret1 2 _ rfl rfl ?_
    exact ⟨congrArg Value.bool (no fun k => h9 (by unfold mayK at k; omega)), rfl⟩
  by_cases h10 : 1 ≤ c.wtr ∧ c.wtr ≤ 16
  rotate_left
  · repeat ((first | with_reducible refine T_seq ?_ | with_reducible refine T_region ?_ | with_reducible refine TL_nil ?_ | with_reducible refine TQ_then ?_ | with_reducible refine T_skip ?_ | with_reducible refine T_ret ?_ | refine TL_q (op_move rfl) rfl ?_ | refine TL_q (op_assign rfl) rfl ?_ | (refine' TL_q (op_bin rfl rfl ?_) rfl ?_; rotate_left 1; (· (first | exact bin_add ⟨by omega, by omega⟩ | exact bin_mul ⟨by omega, by omega⟩ | exact bin_quo (by omega) (by omega) ⟨by omega, by omega⟩))) | refine TL_q (op_not rfl) rfl ?_ | (refine' TL_q (op_pickT rfl ?_ rfl) rfl ?_; (· (exact dT (by (assumption))))) | (refine' TL_q (op_pickF rfl ?_ rfl) rfl ?_; (· (first | with_reducible rfl | exact dF (by (assumption)) | exact xF (by (exact dT (by (assumption))))))) | refine TL_q (op_fld rfl fld_25_0) rfl ?_ | refine TL_q (op_fld rfl fld_25_1) rfl ?_ | refine TL_q (op_fld rfl fld_25_2) rfl ?_ | refine TL_q (op_fld rfl fld_25_3) rfl ?_ | refine TL_q (op_fld rfl fld_25_4) rfl ?_ | (refine' TL_q (op_ld rfl pl_3 ?_ ?_) rfl ?_; rotate_left 4; (· repeat ((exact List.mem_cons_self))); (· (assumption))) | (refine' TL_op (op_call hb_50 rfl (between_S _ _ _ )) rfl ?_) | (refine' TG_op (op_call hb_50 rfl (between_S _ _ _ )) rfl ?_) | (refine TL_gpre rfl rfl ?_ ?_; (· (first | exact dT (by (assumption)) | exact xF (by (exact dT (by (assumption))))))) | (refine' TL_gq2 (op_bin rfl rfl ?_) rfl ?_; rotate_left 1; (· (first | exact bin_rem (by omega) (by omega) | exact bin_eql))) | refine TL_gq2 (op_not rfl) rfl ?_ | refine TL_gq2 (op_fld rfl fld_25_0) rfl ?_ | refine TL_gq2 (op_fld rfl fld_25_3) rfl ?_ | refine TL_gq2 (op_fld rfl fld_25_4) rfl ?_ | refine TL_gq2 (op_fld rfl fld_25_5) rfl ?_ | refine TL_gq2 (op_fld rfl fld_25_6) rfl ?_ | refine TL_gq2 (op_fld rfl fld_25_7) rfl ?_ | refine TL_gq2 (op_fld rfl fld_25_8) rfl ?_ | refine TL_gq2 (op_fld rfl fld_25_9) rfl ?_ | (refine' TL_gq2 (op_ld rfl pl_3 ?_ ?_) rfl ?_; rotate_left 4; (· repeat ((exact List.mem_cons_self))); (· (assumption))) | (refine TL_gno rfl rfl ?_ rfl ?_; (· (first | exact Bool.not_true | exact dF (by (assumption))))) | (refine T_no rfl ?_ ?_; (· (first | exact dF (by (first | assumption | omega)) | exact xF (by (exact dT (by (assumption)))))))))
    refine TQ_heap (fun w h => h.tail) ?_
    refine TQ_ret1 2 _ rfl rfl ?_
    exact ⟨congrArg Value.bool (no fun k => h10 (by unfold mayK at k; omega)), rfl⟩
  by_cases h11 : 0 ≤ c.ttl ∧ c.ttl ≤ 2147483647
  rotate_left
  · repeat ((first | with_reducible refine T_seq ?_ | with_reducible refine T_region ?_ | with_reducible refine TL_nil ?_ | with_reducible refine TQ_then ?_ | with_reducible refine T_skip ?_ | with_reducible refine T_ret ?_ | refine TL_q (op_move rfl) rfl ?_ | refine TL_q (op_assign rfl) rfl ?_ | (refine' TL_q (op_bin rfl rfl ?_) rfl ?_; rotate_left 1; (· (first | exact bin_add ⟨by omega, by omega⟩ | exact bin_mul ⟨by omega, by omega⟩ | exact bin_quo (by omega) (by omega) ⟨by omega, by omega⟩))) | refine TL_q (op_not rfl) rfl ?_ | (refine' TL_q (op_pickT rfl ?_ rfl) rfl ?_; (· (exact dT (by (assumption))))) | (refine' TL_q (op_pickF rfl ?_ rfl) rfl ?_; (· (first | exact dF (by (assumption)) | exact xF (by (exact dT (by (assumption))))))) | refine TL_q (op_fld rfl fld_25_0) rfl ?_ | refine TL_q (op_fld rfl fld_25_1) rfl ?_ | refine TL_q (op_fld rfl fld_25_2) rfl ?_ | refine TL_q (op_fld rfl fld_25_3) rfl ?_ | refine TL_q (op_fld rfl fld_25_4) rfl ?_ | (refine' TL_q (op_ld rfl pl_3 ?_ ?_) rfl ?_; rotate_left 4; (· repeat ((exact List.mem_cons_self))); (· (assumption))) | (refine' TL_op (op_call hb_50 rfl (between_S _ _ _ )) rfl ?_) | (refine' TG_op (op_call hb_50 rfl (between_S _ _ _ )) rfl ?_) | (refine TL_gpre rfl rfl ?_ ?_; (· (first | exact dT (by (assumption)) | exact xF (by (exact dT (by (assumption))))))) | (refine' TL_gq2 (op_bin rfl rfl ?_) rfl ?_; rotate_left 1; (· (first | exact bin_rem (by omega) (by omega) | exact bin_eql))) | refine TL_gq2 (op_not rfl) rfl ?_ | refine TL_gq2 (op_fld rfl fld_25_0) rfl ?_ | refine TL_gq2 (op_fld rfl fld_25_3) rfl ?_ | refine TL_gq2 (op_fld rfl fld_25_4) rfl ?_ | refine TL_gq2 (op_fld rfl fld_25_5) rfl ?_ | refine TL_gq2 (op_fld rfl fld_25_6) rfl ?_ | refine TL_gq2 (op_fld rfl fld_25_7) rfl ?_ | refine TL_gq2 (op_fld rfl fld_25_8) rfl ?_ | refine TL_gq2 (op_fld rfl fld_25_9) rfl ?_ | refine TL_gq2 (op_fld rfl fld_25_10) rfl ?_ | (refine' TL_gq2 (op_ld rfl pl_3 ?_ ?_) rfl ?_; rotate_left 4; (· repeat ((exact List.mem_cons_self))); (· (assumption))) | (refine TL_gno rfl rfl ?_ rfl ?_; (· (exact dF (by (assumption))))) | (refine T_no rfl ?_ ?_; (· (first | exact dF (by (first | assumption | omega)) | exact xF (by (exact dT (by (assumption)))))))))
    refine TQ_heap (fun w h => h.tail) ?_
    refine TQ_ret1 2 _ rfl rfl ?_
    exact ⟨congrArg Value.bool (no fun k => h11 (by unfold mayK at k; omega)), rfl⟩
  by_cases h12 : 512 ≤ c.siz ∧ c.siz ≤ 4096
  rotate_left
  · repeat ((first | with_reducible refine T_seq ?_ | with_reducible refine T_region ?_ | with_reducible refine TL_nil ?_ | with_reducible refine TQ_then ?_ | with_reducible refine T_skip ?_ | with_reducible refine T_ret ?_ | refine TL_q (op_move rfl) rfl ?_ | refine TL_q (op_assign rfl) rfl ?_ | (refine' TL_q (op_bin rfl rfl ?_) rfl ?_; rotate_left 1; (· (first | exact bin_add ⟨by omega, by omega⟩ | exact bin_mul ⟨by omega, by omega⟩ | exact bin_quo (by omega) (by omega) ⟨by omega, by omega⟩))) | refine TL_q (op_not rfl) rfl ?_ | (refine' TL_q (op_pickT rfl ?_ rfl) rfl ?_; (· (exact dT (by (assumption))))) | (refine' TL_q (op_pickF rfl ?_ rfl) rfl ?_; (· (exact xF (by (exact dT (by (assumption))))))) | refine TL_q (op_fld rfl fld_25_0) rfl ?_ | refine TL_q (op_fld rfl fld_25_1) rfl ?_ | refine TL_q (op_fld rfl fld_25_2) rfl ?_ | refine TL_q (op_fld rfl fld_25_3) rfl ?_ | refine TL_q (op_fld rfl fld_25_4) rfl ?_ | (refine' TL_q (op_ld rfl pl_3 ?_ ?_) rfl ?_; rotate_left 4; (· repeat ((exact List.mem_cons_self))); (· (assumption))) | (refine' TL_op (op_call hb_50 rfl (between_S _ _ _ )) rfl ?_) | (refine' TG_op (op_call hb_50 rfl (between_S _ _ _ )) rfl ?_) | (refine TL_gpre rfl rfl ?_ ?_; (· (first | exact dT (by (assumption)) | exact xF (by (exact dT (by (assumption))))))) | (refine' TL_gq2 (op_bin rfl rfl ?_) rfl ?_; rotate_left 1; (· (first | exact bin_rem (by omega) (by omega) | exact bin_eql))) | refine TL_gq2 (op_not rfl) rfl ?_ | refine TL_gq2 (op_fld rfl fld_25_0) rfl ?_ | refine TL_gq2 (op_fld rfl fld_25_3) rfl ?_ | refine TL_gq2 (op_fld rfl fld_25_4) rfl ?_ | refine TL_gq2 (op_fld rfl fld_25_5) rfl ?_ | refine TL_gq2 (op_fld rfl fld_25_6) rfl ?_ | refine TL_gq2 (op_fld rfl fld_25_7) rfl ?_ | refine TL_gq2 (op_fld rfl fld_25_8) rfl ?_ | refine TL_gq2 (op_fld rfl fld_25_9) rfl ?_ | refine TL_gq2 (op_fld rfl fld_25_10) rfl ?_ | refine TL_gq2 (op_fld rfl fld_25_11) rfl ?_ | (refine' TL_gq2 (op_ld rfl pl_3 ?_ ?_) rfl ?_; rotate_left 4; (· repeat ((exact List.mem_cons_self))); (· (assumption))) | (refine T_no rfl ?_ ?_; (· (first | exact dF (by (first | assumption | omega)) | exact xF (by (exact dT (by (assumption)))))))))
    refine TQ_heap (fun w h => h.tail) ?_
    refine TQ_ret1 2 _ rfl rfl ?_
    exact ⟨congrArg Value.bool ((decide_eq_false h12).trans <| no fun k => h12 (by unfold mayK at k; omega)), rfl⟩
  have yes : true = Cn.mayNum c := (decide_eq_true (show mayK c from ⟨⟨h1.1, h1.2, he⟩, h2, h3, h4, h5, h6, h7, h8, h9, h10, h11, h12⟩)).symm
  repeat ((first | with_reducible refine T_seq ?_ | with_reducible refine T_region ?_ | with_reducible refine TL_nil ?_ | with_reducible refine TQ_then ?_ | with_reducible refine T_skip ?_ | with_reducible refine T_ret ?_ | refine TL_q (op_move rfl) rfl ?_ | refine TL_q (op_assign rfl) rfl ?_ | (refine' TL_q (op_bin rfl rfl ?_) rfl ?_; rotate_left 1; (· (first | exact bin_add ⟨by omega, by omega⟩ | exact bin_mul ⟨by omega, by omega⟩ | exact bin_quo (by omega) (by omega) ⟨by omega, by omega⟩))) | refine TL_q (op_not rfl) rfl ?_ | (refine' TL_q (op_pickT rfl ?_ rfl) rfl ?_; (· (exact dT (by (assumption))))) | (refine' TL_q (op_pickF rfl ?_ rfl) rfl ?_; (· (exact xF (by (exact dT (by (assumption))))))) | refine TL_q (op_fld rfl fld_25_0) rfl ?_ | refine TL_q (op_fld rfl fld_25_1) rfl ?_ | refine TL_q (op_fld rfl fld_25_2) rfl ?_ | refine TL_q (op_fld rfl fld_25_3) rfl ?_ | refine TL_q (op_fld rfl fld_25_4) rfl ?_ | (refine' TL_q (op_ld rfl pl_3 ?_ ?_) rfl ?_; rotate_left 4; (· repeat ((exact List.mem_cons_self))); (· (assumption))) | (refine' TL_op (op_call hb_50 rfl (between_S _ _ _ )) rfl ?_) | (refine' TG_op (op_call hb_50 rfl (between_S _ _ _ )) rfl ?_) | (refine TL_gpre rfl rfl ?_ ?_; (· (first | exact dT (by (assumption)) | exact xF (by (exact dT (by (assumption))))))) | (refine' TL_gq2 (op_bin rfl rfl ?_) rfl ?_; rotate_left 1; (· (first | exact bin_rem (by omega) (by omega) | exact bin_eql))) | refine TL_gq2 (op_not rfl) rfl ?_ | refine TL_gq2 (op_fld rfl fld_25_0) rfl ?_ | refine TL_gq2 (op_fld rfl fld_25_3) rfl ?_ | refine TL_gq2 (op_fld rfl fld_25_4) rfl ?_ | refine TL_gq2 (op_fld rfl fld_25_5) rfl ?_ | refine TL_gq2 (op_fld rfl fld_25_6) rfl ?_ | refine TL_gq2 (op_fld rfl fld_25_7) rfl ?_ | refine TL_gq2 (op_fld rfl fld_25_8) rfl ?_ | refine TL_gq2 (op_fld rfl fld_25_9) rfl ?_ | refine TL_gq2 (op_fld rfl fld_25_10) rfl ?_ | refine TL_gq2 (op_fld rfl fld_25_11) rfl ?_ | (refine' TL_gq2 (op_ld rfl pl_3 ?_ ?_) rfl ?_; rotate_left 4; (· repeat ((exact List.mem_cons_self))); (· (assumption))) | (refine T_no rfl ?_ ?_; (· (first | exact dF (by (omega)) | exact xF (by (exact dT (by (assumption)))))))))
  refine TQ_heap (fun w h => h.tail) ?_
  refine TQ_ret1 2 _ rfl rfl ?_
  exact ⟨congrArg Value.bool ((decide_eq_true h12).trans yes), rfl⟩
end Go.Proofs.YtnhlpifbadncmaaDoor
namespace Go.Proofs.YtnhlpifbadncmaaDoor
open Go.RowKit
set_option linter.unusedVariables false
set_option linter.unusedSimpArgs false
namespace Vd
abbrev Bytes := List UInt8
structure RSet where
  name : Bytes
  kind : Int
  cls : Int
  ttl : Int
  data : List Bytes
deriving DecidableEq
structure Vdt where
  code : Int
  sets : List RSet
  soa : List RSet
deriving DecidableEq
structure Vote where
  up : Int
  vd : Vdt
  time : Int
deriving DecidableEq
structure Rec where
  name : Bytes
  kind : Int
  cls : Int
  ttl : Int
  data : Bytes
deriving DecidableEq
structure Quest where
  name : Bytes
  kind : Int
  cls : Int
deriving DecidableEq
def RSet.none : RSet := ⟨[], 0, 0, 0, []⟩
def Vdt.none : Vdt := ⟨0, [], []⟩
instance : Inhabited RSet := ⟨RSet.none⟩
instance : Inhabited Vdt := ⟨Vdt.none⟩
instance : Inhabited Vote := ⟨⟨0, Vdt.none, 0⟩⟩
instance : Inhabited Rec := ⟨⟨[], 0, 0, 0, []⟩⟩
end Vd
open Vd (RSet Vdt Vote Rec Quest)
def rsR : Rp RSet := fun L cs s => ∃ d, cs = [.string (bs s.name), .int .u16 s.kind, .int .u16 s.cls, .int .u32 s.ttl, d] ∧ sliceR 1 strR L [d] s.data ∧ s.name.length ≤ maxLen ∧ (0 ≤ s.kind ∧ s.kind ≤ 65535) ∧ (0 ≤ s.cls ∧ s.cls ≤ 65535) ∧ (0 ≤ s.ttl ∧ s.ttl ≤ 4294967295)
def vdR : Rp Vdt := fun L cs v => ∃ a b, cs = [.int .u8 v.code, a, b] ∧ sliceR 5 rsR L [a] v.sets ∧ sliceR 5 rsR L [b] v.soa ∧ (0 ≤ v.code ∧ v.code ≤ 255)
def voteR : Rp Vote := fun L cs x => ∃ a b, cs = [.int .i64 x.up, .int .u8 x.vd.code, a, b, .int .u32 x.time] ∧ sliceR 5 rsR L [a] x.vd.sets ∧ sliceR 5 rsR L [b] x.vd.soa ∧ (0 ≤ x.vd.code ∧ x.vd.code ≤ 255) ∧ (0 ≤ x.time ∧ x.time ≤ 4294967295) ∧ (-9223372036854775808 ≤ x.up ∧ x.up ≤ 9223372036854775807)
def recR : Rp Rec := fun L cs x => cs = [.string (bs x.name), .int .u16 x.kind, .int .u16 x.cls, .int .u32 x.ttl, .string (bs x.data)] ∧ x.name.length ≤ maxLen ∧ x.data.length ≤ maxLen ∧ (0 ≤ x.kind ∧ x.kind ≤ 65535) ∧ (0 ≤ x.cls ∧ x.cls ≤ 65535) ∧ (0 ≤ x.ttl ∧ x.ttl ≤ 4294967295)
theorem rsR.len {L : Blocks} {cs : List Value} {s : RSet} (h : rsR L cs s) : cs.length = 5 := by obtain ⟨d, rfl, _⟩ := h; rfl
theorem rsR.one {L : Blocks} {cs : List Value} {s : RSet} (h : rsR L cs s) : ∀ v ∈ cs, v.oneCell' = true := by
  obtain ⟨d, rfl, hd, _⟩ := h
  obtain ⟨a, c, e, _⟩ := hd
  simp only [List.cons.injEq, and_true] at e
  subst e
  intro v hv
  simp only [List.mem_cons, List.not_mem_nil, or_false] at hv
  rcases hv with rfl | rfl | rfl | rfl | rfl <;> rfl
end Go.Proofs.YtnhlpifbadncmaaDoor
namespace Go.Proofs.YtnhlpifbadncmaaDoor
open Go.RowKit
open Vd (RSet Vdt Vote Rec Quest)
set_option linter.unusedVariables false
set_option linter.unusedSimpArgs false
section
variable {P : Program}
end
section
variable {α : Type} {r : Rp α} {sz : Nat} {G : World} {P : Program} {ρ : Slots} {L : Blocks} {ty : TypeId}
/-- What lies somewhere, in one list of cells. -/
theorem laid_of {C : Array Value} : ∀ (m : List α) (off : Nat), (∀ i x, m[i]? = some x → ∃ cs', cs'.length = sz ∧ r L cs' x ∧ ∀ j v, cs'[j]? = some v → C[off + i * sz + j]? = some v) → ∃ news, Laid r sz L news m ∧ ∀ j v, news[j]? = some v → C[off + j]? = some v
  | [], off, _ => ⟨[], rfl, fun j v h => by simp at h⟩
  | x :: m, off, h => by
    obtain ⟨c, h1, h2, h3⟩ := h 0 x rfl
    obtain ⟨news, k1, k2⟩ := laid_of m (off + sz) (fun i y hy => by
      obtain ⟨d, q1, q2, q3⟩ := h (i + 1) y (by simpa using hy)
      refine ⟨d, q1, q2, fun j v hj => ?_⟩
      rw [← q3 j v hj]
      congr 1
      rw [Nat.succ_mul]
      omega)
    refine ⟨c ++ news, ⟨c, news, rfl, h1, h2, k1⟩, fun j v hj => ?_⟩
    by_cases hlt : j < c.length
    · rw [List.getElem?_append_left hlt] at hj
      have := h3 j v hj
      rwa [Nat.zero_mul, Nat.add_zero] at this
    · rw [List.getElem?_append_right (by omega)] at hj
      rw [← k2 _ v hj]
      congr 1
      omega
theorem op_append0 {s x : Operand} {t e : TypeId} {sz bytes : Nat} {z v : Value} {m c : Nat} {a : Option Addr} {xs : List Value} {B : Blocks} (E : ElemTy P t e sz bytes z) (hs : ev ρ s = some v) (hx : ev ρ x = some (.slice a 0 c))
    (hrow : Row e sz v m xs B) (h63 : m + 0 ≤ maxLen) (hby : (m + 0) * bytes ≤ 140737488355328) :
    OpT P G ρ (B ++ L) (.call ⟨.builtin .append, #[s, x], #[t, t]⟩) ty fun v' L' => ∃ B', Row e sz v' (m + 0) (xs ++ []) B' ∧ L' = B' ++ L :=
  ⟨fun r hr w hw o ho _ => by
    obtain ⟨i, hi, hz0, hz1, hz2⟩ := E.info
    have hown := hrow.owns hw
    have key : ∃ v' w', (Builtin.append_ #[t, t] o.type #[v, .slice a 0 c]).run P w = .ok v' w' ∧ w'.ownsRow 0 e sz v' (m + 0) (xs ++ []) ∧ w.grownBy w' v.ownBlock ∧ (v'.ownBlock = v.ownBlock ∨ v'.ownBlock = some w.heap.size) := by
      cases a with
      | none => exact ⟨v, w, run_app0 w t o.type e i c E.und hi 0 sz v m xs hown, by simpa using hown, ⟨rfl, rfl, rfl, Nat.le_refl _, fun _ _ _ => rfl⟩, Or.inl rfl⟩
      | some x =>
        obtain ⟨v', w', q1, q2, q3, _, q5⟩ := run_append_own_at w 0 t o.type e i z sz bytes E.und hi hz0 hz1 hz2 E.cells E.pos v m xs hown x 0 c [] (by simp)
          (fun j y hj => by simp at hj) (by simp) h63 hby (Nat.zero_le _)
        exact ⟨v', w', q1, q2, q3, q5⟩
    obtain ⟨v', w', hrun, q2, q3, q4⟩ := key
    obtain ⟨B', hB, hH⟩ := hrow.after hw q2 q3 q4
    have : (execOp r o).run P w = .ok (.value v') w' := by
      simp [execOp, ho, hr _ _ hs, hr _ _ hx, resolve, invoke, builtin, hrun, Result.andThen]
    rw [this]
    exact ⟨_, ⟨B', hB, rfl⟩, hH⟩⟩
end
end Go.Proofs.YtnhlpifbadncmaaDoor
namespace Go.Proofs.YtnhlpifbadncmaaDoor
open Go.RowKit
set_option linter.unusedVariables false
set_option linter.unusedSimpArgs false
variable {G : World} {P : Program} {n : Nat} {ρ : Slots} {L : Blocks} {ty : TypeId} {Q : Exit → Act → World → Prop}
/-- Where a cut begins. -/
def cutA (a : Option Addr) (c k sz : Nat) : Option Addr := if c = k then a else a.map (·.add (k * sz))
theorem op_cutFrom {x lo : Operand} {a : Option Addr} {m c : Nat} {k : IntKind} {i : Int} {t e : TypeId} {sz bytes : Nat} {z : Value} (E : ElemTy P t e sz bytes z) (hx : ev ρ x = some (.slice a m c)) (hlo : ev ρ lo = some (.int k i)) (h0 : 0 ≤ i) (h1 : i ≤ m) :
    OpQ P ρ L (.slice t x (some lo) none none) ty (.slice (cutA a c i.toNat sz) (m - i.toNat) (c - i.toNat)) :=
  ⟨fun r hr w hw o ho _ => by
    obtain ⟨inf, q2, q3, q4, q5⟩ := E.info
    simp [execOp, ho, hr _ _ hx, hr _ _ hlo, Instr.sliceAt, run_underlying E.und, Instr.slice, Instr.sliceBounds, Instr.sliceBound, asIntOf, h0, h1, sizeOf, typeInfo, q2, q4, cutA]⟩
section
variable {α : Type} {r : Rp α} {sz : Nat}
theorem sliceR.take {a : Option Addr} {m c : Nat} {l : List α} (h : sliceR sz r L [.slice a m c] l) {k : Nat} (hk : k ≤ l.length) : sliceR sz r L [.slice a k c] (l.take k) := by
  obtain ⟨h1, h2, h3, h4⟩ := sliceR.cut h
  refine ⟨a, c, by rw [List.length_take, Nat.min_eq_left hk], by rw [List.length_take]; omega, h3, ?_⟩
  rcases h4 with rfl | ⟨b, off, C, te, fr, rfl, q2, q3⟩
  · left; simp
  · right
    refine ⟨b, off, C, te, fr, rfl, q2, fun i x hx => ?_⟩
    refine q3 i x ?_
    rw [List.getElem?_take] at hx
    split at hx
    · exact hx
    · cases hx
theorem sliceR.drop {a : Option Addr} {m c : Nat} {l : List α} (h : sliceR sz r L [.slice a m c] l) {k : Nat} (hk : k ≤ l.length) : sliceR sz r L [.slice (cutA a c k sz) (m - k) (c - k)] (l.drop k) := by
  obtain ⟨h1, h2, h3, h4⟩ := sliceR.cut h
  refine ⟨cutA a c k sz, c - k, by rw [List.length_drop, h1], by rw [List.length_drop]; omega, by omega, ?_⟩
  by_cases hkl : k = l.length
  · left; rw [hkl, List.drop_length]
  · rcases h4 with rfl | ⟨b, off, C, te, fr, rfl, q2, q3⟩
    · left; simp
    · right
      have hc : ¬ c = k := by omega
      refine ⟨b, off + k * sz, C, te, fr, by unfold cutA; rw [if_neg hc]; simp [addr_add], q2, fun i x hx => ?_⟩
      rw [List.getElem?_drop] at hx
      obtain ⟨cs', k1, k2, k3⟩ := q3 (k + i) x hx
      refine ⟨cs', k1, k2, fun j v hj => ?_⟩
      rw [← k3 j v hj]
      congr 1
      rw [Nat.add_mul]
      omega
/-- The cells of one of a row that lies somewhere. -/
theorem sliceR.at {a : Option Addr} {m c : Nat} {l : List α} (h : sliceR sz r L [.slice a m c] l) {i : Nat} {x : α} (hx : l[i]? = some x) : ∃ b off C te fr, a = some ⟨b, off, none⟩ ∧ (b, Obj.cells C te fr) ∈ L ∧ ∃ cs, cs.length = sz ∧ r L cs x ∧ ∀ j v, cs[j]? = some v → C[off + i * sz + j]? = some v := by
  obtain ⟨_, _, _, h4⟩ := sliceR.cut h
  rcases h4 with rfl | ⟨b, off, C, te, fr, rfl, q2, q3⟩
  · simp at hx
  · exact ⟨b, off, C, te, fr, rfl, q2, q3 i x hx⟩
theorem sliceR.imp {r' : Rp α} {L' : Blocks} {cs : List Value} {l : List α} (h : sliceR sz r L cs l) (hL : ∀ p ∈ L, p ∈ L') (hr : ∀ cs x, x ∈ l → r L cs x → r' L' cs x) : sliceR sz r' L' cs l := by
  obtain ⟨a, cap, h1, h2, h3, h4⟩ := h
  refine ⟨a, cap, h1, h2, h3, h4.imp id ?_⟩
  rintro ⟨b, off, C, te, fr, q1, q2, q3⟩
  refine ⟨b, off, C, te, fr, q1, hL _ q2, fun i x hx => ?_⟩
  obtain ⟨cs', k1, k2, k3⟩ := q3 i x hx
  exact ⟨cs', k1, hr cs' x (List.mem_of_getElem? hx) k2, k3⟩
theorem Laid.imp {r' : Rp α} {L' : Blocks} : ∀ {l : List α} {xs : List Value}, Laid r sz L xs l → (∀ cs x, x ∈ l → r L cs x → r' L' cs x) → Laid r' sz L' xs l
  | [], _, h, _ => h
  | x :: l, _, ⟨c, ys, h1, h2, h3, h4⟩, hr => ⟨c, ys, h1, h2, hr c x (List.mem_cons_self ..) h3, Laid.imp h4 fun cs y hy => hr cs y (List.mem_cons_of_mem _ hy)⟩
theorem ORow.imp {r' : Rp α} {L' : Blocks} {e : TypeId} {a : Option Addr} {c : Nat} {l : List α} {B : Blocks} (h : ORow r e sz L a c l B) (hr : ∀ cs x, x ∈ l → r L cs x → r' L' cs x) : ORow r' e sz L' a c l B := by
  obtain ⟨xs, h1, h2, h3⟩ := h.ex
  exact ⟨xs, h1, h2.imp hr, h3⟩
/-- A row of one's own begins anew in the same memory. -/
theorem ORow.cut0 {e : TypeId} {a : Option Addr} {c : Nat} {l : List α} {B : Blocks} (h : ORow r e sz L a c l B) : ORow r e sz L a c [] B := by
  obtain ⟨xs, h1, h2, h3⟩ := h.ex
  exact ⟨[], by simpa using h1.cut0, rfl, by simp⟩
theorem ORow.one {e : TypeId} {a : Option Addr} {c : Nat} {l : List α} {B : Blocks} (h : ORow r e sz L a c l B) : (a = none ∧ B = [] ∧ l = [] ∧ c = 0) ∨ ∃ b cur, a = some ⟨b, 0, none⟩ ∧ B = [(b, .cells cur e (0, 0))] ∧ cur.size = c * sz ∧ l.length ≤ c := by
  obtain ⟨xs, h1, h2, h3⟩ := h.ex
  rcases h1.is with ⟨q1, q2, q3⟩ | ⟨b, cap, cur, q1, q2, q3, q4, q5, q6⟩
  · obtain ⟨rfl, _, rfl⟩ := Value.slice.inj q1
    exact Or.inl ⟨rfl, q3, List.eq_nil_of_length_eq_zero q2, rfl⟩
  · obtain ⟨rfl, _, rfl⟩ := Value.slice.inj q1
    exact Or.inr ⟨b, cur, rfl, q2, q5, q3⟩
theorem ORow.cap {e : TypeId} {a : Option Addr} {c : Nat} {l : List α} {B : Blocks} (h : ORow r e sz L a c l B) : l.length ≤ c ∧ c ≤ maxLen := by
  obtain ⟨xs, h1, h2, h3⟩ := h.ex
  rcases h1.is with ⟨q1, q2, q3⟩ | ⟨b, cap, cur, q1, q2, q3, q4, q5, q6⟩
  · obtain ⟨rfl, _, rfl⟩ := Value.slice.inj q1
    exact ⟨by omega, by unfold maxLen; omega⟩
  · obtain ⟨rfl, _, rfl⟩ := Value.slice.inj q1
    exact ⟨q3, q4⟩
end
/-- Memory that may be written. -/
def Wr (N : Blocks) : Prop := ∀ p ∈ N, ∃ C te, p.2 = Obj.cells C te (0, 0)
theorem Wr.nil : Wr [] := fun p hp => absurd hp (by simp)
theorem Wr.append {A B : Blocks} (h : Wr A) (k : Wr B) : Wr (A ++ B) := fun p hp => (List.mem_append.1 hp).elim (h p) (k p)
theorem Wr.cons {b : Nat} {C : Array Value} {te : TypeId} {B : Blocks} (k : Wr B) : Wr ((b, .cells C te (0, 0)) :: B) := fun p hp => by
  rcases List.mem_cons.1 hp with rfl | hp
  · exact ⟨C, te, rfl⟩
  · exact k p hp
theorem ORow.wr {α : Type} {r : Rp α} {sz : Nat} {e : TypeId} {a : Option Addr} {c : Nat} {l : List α} {B : Blocks} (h : ORow r e sz L a c l B) : Wr B := by
  rcases h.one with ⟨_, rfl, _⟩ | ⟨b, cur, _, rfl, _⟩
  · exact Wr.nil
  · exact Wr.cons Wr.nil
/-- The blocks in another row. -/
theorem TL_cnt {ops : Array Oper} {l : List Oper} {L' : Blocks} (h : TL P G ops n ρ L' l Q) (hc : ∀ p, cnt p L' ≤ cnt p L) : TL P G ops n ρ L l Q := TL_heap (fun w hw => hw.cnt hc) h
theorem TQ_cnt {e : Exit} {L' : Blocks} (h : TQ G n ρ L' e Q) (hc : ∀ p, cnt p L' ≤ cnt p L) : TQ G n ρ L e Q := TQ_heap (fun w hw => hw.cnt hc) h
/-- 'append(s, l...)', whatever the lengths are called. -/
theorem op_appendG2 {α : Type} {r : Rp α} {sz : Nat} {s x : Operand} {t e : TypeId} {bytes j k : Nat} {z : Value} {a a2 : Option Addr} {c c2 : Nat} {l m : List α} {B L0 : Blocks} (E : ElemTy P t e sz bytes z) (hs : ev ρ s = some (.slice a j c)) (hx : ev ρ x = some (.slice a2 k c2)) (hj : j = l.length) (hk : k = m.length)
    (hrow : ORow r e sz L0 a c l B) (hr : sliceR sz r L0 [.slice a2 m.length c2] m) (hr2 : ∀ q ∈ L0, q ∈ L) (hm : Mono r) (hone : ∀ cs y, r L0 cs y → ∀ v ∈ cs, v.oneCell' = true) (h63 : l.length + m.length ≤ 1000000) (hb : bytes ≤ 1000) :
    OpT P G ρ (B ++ L) (.call ⟨.builtin .append, #[s, x], #[t, t]⟩) ty fun v' L' => ∃ a' c' B', v' = .slice a' (l ++ m).length c' ∧ ORow r e sz L0 a' c' (l ++ m) B' ∧ L' = B' ++ L := by
  subst hj hk
  obtain ⟨xs, h1, h2, h3⟩ := hrow.ex
  have hlen : (l ++ m).length = l.length + m.length := by simp
  have h63' : l.length + m.length ≤ maxLen := by unfold maxLen; omega
  have hby : (l.length + m.length) * bytes ≤ 140737488355328 := Nat.le_trans (Nat.mul_le_mul h63 hb) (by decide)
  have laid_one : ∀ (m : List α) (news : List Value), Laid r sz L0 news m → ∀ v ∈ news, v.oneCell' = true := by
    intro m
    induction m with
    | nil => intro news h v hv; rw [show news = [] from h] at hv; simp at hv
    | cons y m ih =>
      rintro _ ⟨d, ys, rfl, _, q2, q3⟩ v hv
      rcases List.mem_append.1 hv with hv | hv
      · exact hone d y q2 v hv
      · exact ih ys q3 v hv
  obtain ⟨_, _, _, hc⟩ := sliceR.cut hr
  rcases hc with rfl | ⟨b, off, C, te, fr, rfl, q2, q3⟩
  · refine (op_append0 E hs hx h1 h63' hby).post fun v' M ⟨B', k1, k2⟩ => ?_
    obtain ⟨a', c', rfl⟩ := k1.slice
    refine ⟨M, ⟨a', c', B', by rw [hlen]; rfl, ⟨xs, ?_, by simpa using h2, h3⟩, k2⟩, fun w hw => hw⟩
    simpa using k1
  · obtain ⟨news, n1, n2⟩ := laid_of m off q3
    refine (op_append E hs hx h1 ⟨n1.len, laid_one m news n1, Or.inr ⟨b, off, c2, C, te, fr, rfl, hr2 _ q2, n2⟩⟩ h63' hby).post fun v' M ⟨B', k1, k2⟩ => ?_
    obtain ⟨a', c', rfl⟩ := k1.slice
    refine ⟨M, ⟨a', c', B', by rw [hlen], ⟨xs ++ news, by rw [hlen]; exact k1, h2.append n1, fun v hv => ?_⟩, k2⟩, fun w hw => hw⟩
    rcases List.mem_append.1 hv with hv | hv
    · exact h3 v hv
    · exact laid_one m news n1 v hv
end Go.Proofs.YtnhlpifbadncmaaDoor
