/-
  THE PLAN, AND WHAT A WATCHER KEEPS OF IT: how often each one was asked, who is over, in what row they were asked first. No program in sight.
-/
import Derived.Test.YtpamoacgajlkeaaHm
namespace Go.Proofs.Ytpamoacgajlkeaa.Hg
set_option linter.unusedVariables false
/-- What a watcher knows of a plan. -/
structure RowInv (l : List Int) (p : Pl) : Prop where
  nodup : l.Nodup
  ups : p.list.map (·.up) = l
  asked : p.asked ≤ p.list.length
  tries : 1 ≤ p.tries
  each : ∀ i x, p.list[i]? = some x → (i < p.asked → 1 ≤ x.asked ∧ x.asked ≤ p.tries) ∧ (p.asked ≤ i → x.asked = 0 ∧ x.op = false)
def ov (x : En) : Int := if decide (1 ≤ x.asked) && !x.op then 1 else 0
def overF (p : Pl) (u : Int) : Int := ((p.list.find? fun x => x.up == u).map ov).getD 0
section
variable {l : List Int} {p : Pl}
theorem RowInv.up (R : RowInv l p) {i : Nat} {x : En} (h : p.list[i]? = some x) : l[i]? = some x.up := by
  rw [← R.ups, List.getElem?_map, h]
  rfl
theorem RowInv.find (R : RowInv l p) {i : Nat} {x : En} (h : p.list[i]? = some x) : p.list.find? (fun y => y.up == x.up) = some x := by
  have hi := (List.getElem?_eq_some_iff.1 h).1
  cases hf : p.list.find? (fun y => y.up == x.up) with
  | none =>
    have := List.find?_eq_none.1 hf x (List.mem_of_getElem? h)
    simp at this
  | some y =>
    have h1 : y.up = x.up := by simpa using List.find?_some hf
    obtain ⟨j, hj, rfl⟩ := List.getElem_of_mem (List.mem_of_find?_eq_some hf)
    have e1 := R.up (List.getElem?_eq_getElem hj)
    have e2 := R.up h
    rw [h1] at e1
    obtain ⟨k1, k2⟩ := List.getElem?_eq_some_iff.1 e1
    obtain ⟨k3, k4⟩ := List.getElem?_eq_some_iff.1 e2
    have e3 : j = i := (List.getElem_inj R.nodup).1 (k2.trans k4.symm)
    subst e3
    rw [List.getElem?_eq_getElem hj] at h
    exact h
theorem RowInv.at (R : RowInv l p) {i : Nat} {x : En} (h : p.list[i]? = some x) : askedOf p x.up = x.asked ∧ overF p x.up = ov x := by
  rw [askedOf, overF, R.find h]
  exact ⟨rfl, rfl⟩
theorem RowInv.mem (R : RowInv l p) {u : Int} (h : u ∈ l) : ∃ (i : Nat) (x : En), p.list[i]? = some x ∧ x.up = u := by
  rw [← R.ups] at h
  obtain ⟨x, hx, rfl⟩ := List.mem_map.1 h
  obtain ⟨i, hi, rfl⟩ := List.getElem_of_mem hx
  exact ⟨i, _, List.getElem?_eq_getElem hi, rfl⟩
theorem RowInv.no (R : RowInv l p) {u : Int} (h : u ∉ l) : askedOf p u = 0 ∧ overF p u = 0 := by
  have : p.list.find? (fun y => y.up == u) = none := by
    rw [List.find?_eq_none]
    intro x hx
    have : x.up ∈ l := by rw [← R.ups]; exact List.mem_map.2 ⟨x, hx, rfl⟩
    simp
    rintro rfl
    exact h this
  rw [askedOf, overF, this]
  exact ⟨rfl, rfl⟩
theorem RowInv.mem_of (R : RowInv l p) {i : Nat} {x : En} (h : p.list[i]? = some x) : x.up ∈ l := List.mem_of_getElem? (R.up h)
theorem ov_01 (x : En) : ov x = 0 ∨ ov x = 1 := by unfold ov; split <;> simp
theorem RowInv.over01 (R : RowInv l p) (u : Int) : overF p u = 0 ∨ overF p u = 1 := by
  by_cases h : u ∈ l
  · obtain ⟨i, x, hx, rfl⟩ := R.mem h
    rw [(R.at hx).2]
    exact ov_01 x
  · exact Or.inl (R.no h).2
theorem RowInv.asked0 (R : RowInv l p) (u : Int) : 0 ≤ askedOf p u ∧ askedOf p u ≤ p.tries := by
  have ht := R.tries
  by_cases h : u ∈ l
  · obtain ⟨i, x, hx, rfl⟩ := R.mem h
    rw [(R.at hx).1]
    obtain ⟨h1, h2⟩ := R.each i x hx
    by_cases hi : i < p.asked
    · have := h1 hi; omega
    · have := h2 (by omega); omega
  · have := (R.no h).1; omega
theorem row_advance (R : RowInv l p) (n : Int) : RowInv l (advance p n) := ⟨R.nodup, R.ups, R.asked, R.tries, R.each⟩
/-- Two plans of one list, entry by entry. -/
theorem cmp {q : Pl} (R : RowInv l p) (S : RowInv l q) {P1 : Int → Int → Int → Int → Int → Prop} (h1 : ∀ (i : Nat) (x y : En), p.list[i]? = some x → q.list[i]? = some y → P1 x.up x.asked (ov x) y.asked (ov y)) (h2 : ∀ u, u ∉ l → P1 u 0 0 0 0) (u : Int) : P1 u (askedOf p u) (overF p u) (askedOf q u) (overF q u) := by
  by_cases h : u ∈ l
  · obtain ⟨i, x, hx, rfl⟩ := R.mem h
    obtain ⟨y, hy⟩ : ∃ y, q.list[i]? = some y := by
      have hi := (List.getElem?_eq_some_iff.1 (R.up hx)).1
      rw [← S.ups] at hi
      exact ⟨_, List.getElem?_eq_getElem (by simpa using hi)⟩
    have hup : y.up = x.up := Option.some.inj ((S.up hy).symm.trans (R.up hx))
    have := h1 i x y hx hy
    rw [← (R.at hx).1, ← (R.at hx).2, ← (S.at hy).1, ← (S.at hy).2, hup] at this
    exact this
  · have := h2 u h
    have e1 := (R.no h)
    have e2 := (S.no h)
    rw [e1.1, e1.2, e2.1, e2.2]
    exact this
/-- The next one is asked. -/
theorem row_next (R : RowInv l p) (h : p.asked < p.list.length) : RowInv l (next p) ∧ upAt p p.asked ∈ l ∧ askedOf p (upAt p p.asked) = 0 ∧ overF p (upAt p p.asked) = 0 ∧ l.take (p.asked + 1) = l.take p.asked ++ [upAt p p.asked] ∧
    ∀ v, askedOf (next p) v = askedOf p v + (if v = upAt p p.asked then 1 else 0) ∧ overF (next p) v = overF p v := by
  obtain ⟨x, hx⟩ : ∃ x, p.list[p.asked]? = some x := ⟨_, List.getElem?_eq_getElem h⟩
  have hu : upAt p p.asked = x.up := by simp [upAt, hx]
  have hmod : ∀ (i : Nat) (y : En), p.list[i]? = some y → (next p).list[i]? = some (if i = p.asked then askAt p.now y else y) := by
    intro i y hy
    simp only [Hg.next, List.getElem?_modify, hy]
    by_cases hi : p.asked = i
    · simp [hi]
    · simp [hi, Ne.symm hi]
  have hlen : (next p).list.length = p.list.length := by simp [Hg.next]
  obtain ⟨e0, e1⟩ := (R.each _ x hx).2 (Nat.le_refl _)
  have S : RowInv l (next p) := by
    refine ⟨R.nodup, ?_, by rw [hlen]; exact h, R.tries, fun i y hy => ?_⟩
    · rw [← R.ups]
      apply List.ext_getElem?
      intro i
      rw [List.getElem?_map, List.getElem?_map]
      cases hi : p.list[i]? with
      | none => rw [List.getElem?_eq_none (by rw [hlen]; exact List.getElem?_eq_none_iff.1 hi)]
      | some y =>
        rw [hmod i y hi]
        simp only [Option.map_some]
        split <;> rfl
    · have hil : i < p.list.length := by rw [← hlen]; exact (List.getElem?_eq_some_iff.1 hy).1
      obtain ⟨z, hz⟩ : ∃ z, p.list[i]? = some z := ⟨_, List.getElem?_eq_getElem hil⟩
      rw [hmod i z hz] at hy
      obtain rfl := Option.some.inj hy
      have ht := R.tries
      obtain ⟨k1, k2⟩ := R.each i z hz
      have ea : (Hg.next p).asked = p.asked + 1 := rfl
      have et : (Hg.next p).tries = p.tries := rfl
      rw [ea, et]
      by_cases hi : i = p.asked
      · rw [if_pos hi]
        simp only [askAt]
        omega
      · rw [if_neg hi]
        exact ⟨fun q => k1 (by omega), fun q => k2 (by omega)⟩
  rw [hu]
  refine ⟨S, R.mem_of hx, by rw [(R.at hx).1, e0], by rw [(R.at hx).2]; simp [ov, e0], ?_, fun v => ?_⟩
  · have hxl := R.up hx
    obtain ⟨hi, hh⟩ := List.getElem?_eq_some_iff.1 hxl
    rw [List.take_succ_eq_append_getElem hi, hh]
  · refine cmp (P1 := fun v a o a' o' => a' = a + (if v = x.up then 1 else 0) ∧ o' = o) R S (fun i y z hy hz => ?_) (fun u hu => ?_) v
    · rw [hmod i y hy] at hz
      obtain rfl := Option.some.inj hz
      by_cases hi : i = p.asked
      · subst hi
        obtain rfl : x = y := Option.some.inj (hx.symm.trans hy)
        rw [if_pos rfl, if_pos rfl, e0]
        simp [askAt, ov, e0]
      · rw [if_neg hi, if_neg]
        · exact ⟨by omega, rfl⟩
        · intro e
          have h1 := R.up hy
          have h2 := R.up hx
          rw [e] at h1
          obtain ⟨q1, q2⟩ := List.getElem?_eq_some_iff.1 h1
          obtain ⟨q3, q4⟩ := List.getElem?_eq_some_iff.1 h2
          exact hi ((List.getElem_inj R.nodup).1 (q2.trans q4.symm))
    · rw [if_neg]
      · exact ⟨by omega, rfl⟩
      · rintro rfl
        exact hu (R.mem_of hx)
/-- Those of a list that a test picks, by their upstreams. -/
theorem flat_mem (f : En → List Int) (c : En → Bool) (hf : ∀ x, f x = if c x then [x.up] else []) (u : Int) (q : List En) : u ∈ q.flatMap f ↔ ∃ (i : Nat) (x : En), q[i]? = some x ∧ c x = true ∧ x.up = u := by
  rw [List.mem_flatMap]
  constructor
  · rintro ⟨x, hx, hu⟩
    obtain ⟨i, hi, rfl⟩ := List.getElem_of_mem hx
    rw [hf] at hu
    split at hu
    · rename_i hc
      exact ⟨i, _, List.getElem?_eq_getElem hi, hc, (List.mem_singleton.1 hu).symm⟩
    · simp at hu
  · rintro ⟨i, x, hx, hc, rfl⟩
    exact ⟨x, List.mem_of_getElem? hx, by rw [hf, hc]; simp⟩
theorem flat_sub (f : En → List Int) (c : En → Bool) (hf : ∀ x, f x = if c x then [x.up] else []) : ∀ q : List En, (q.flatMap f).Sublist (q.map (·.up))
  | [] => by simp
  | x :: r => by
    rw [List.flatMap_cons, List.map_cons, hf]
    split
    · exact (flat_sub f c hf r).cons_cons _
    · exact (flat_sub f c hf r).cons _
theorem RowInv.uniq (R : RowInv l p) {i j : Nat} {x y : En} (hx : p.list[i]? = some x) (hy : p.list[j]? = some y) (e : x.up = y.up) : i = j ∧ x = y := by
  have h1 := R.up hx
  have h2 := R.up hy
  rw [e] at h1
  obtain ⟨q1, q2⟩ := List.getElem?_eq_some_iff.1 h1
  obtain ⟨q3, q4⟩ := List.getElem?_eq_some_iff.1 h2
  have : i = j := (List.getElem_inj R.nodup).1 (q2.trans q4.symm)
  subst this
  exact ⟨rfl, Option.some.inj (hx.symm.trans hy)⟩
theorem row_examine (R : RowInv l p) : RowInv l (examine p) ∧ (p.list.flatMap (sendE p.now p.wait p.tries)).Nodup ∧ (p.list.flatMap (goneE p.now p.wait p.tries)).Nodup ∧
    (∀ u ∈ p.list.flatMap (sendE p.now p.wait p.tries), u ∈ l ∧ overF p u = 0 ∧ 1 ≤ askedOf p u ∧ askedOf p u + 1 ≤ p.tries) ∧
    (∀ u ∈ p.list.flatMap (goneE p.now p.wait p.tries), u ∈ l ∧ overF p u = 0 ∧ askedOf p u = p.tries ∧ u ∉ p.list.flatMap (sendE p.now p.wait p.tries)) ∧
    (∀ u, askedOf (examine p) u = askedOf p u + (if u ∈ p.list.flatMap (sendE p.now p.wait p.tries) then 1 else 0) ∧ overF (examine p) u = overF p u + (if u ∈ p.list.flatMap (goneE p.now p.wait p.tries) then 1 else 0)) := by
  have hs := flat_mem (sendE p.now p.wait p.tries) (fun x => late p.now p.wait x && !decide (p.tries ≤ x.asked)) (fun _ => rfl)
  have hg := flat_mem (goneE p.now p.wait p.tries) (fun x => late p.now p.wait x && decide (p.tries ≤ x.asked)) (fun _ => rfl)
  have hop : ∀ {i : Nat} {x : En}, p.list[i]? = some x → late p.now p.wait x = true → x.op = true ∧ 1 ≤ x.asked ∧ x.asked ≤ p.tries := by
    intro i x hx hl
    simp only [late, Bool.and_eq_true] at hl
    obtain ⟨k1, k2⟩ := R.each i x hx
    by_cases hi : i < p.asked
    · exact ⟨hl.1, k1 hi⟩
    · have := (k2 (by omega)).2
      rw [this] at hl
      simp at hl
  have hex : ∀ {i : Nat} {x : En}, p.list[i]? = some x → (examine p).list[i]? = some (tickE p.now p.wait p.tries x) := by
    intro i x hx
    simp [examine, hx]
  have hlen : (examine p).list.length = p.list.length := by simp [examine]
  have hup : ∀ x, (tickE p.now p.wait p.tries x).up = x.up := by
    intro x
    unfold tickE
    split
    · split <;> rfl
    · rfl
  have S : RowInv l (examine p) := by
    refine ⟨R.nodup, ?_, by rw [hlen]; exact R.asked, R.tries, fun i y hy => ?_⟩
    · rw [← R.ups]
      simp only [examine, List.map_map]
      exact List.map_congr_left fun x _ => hup x
    · have hil : i < p.list.length := by rw [← hlen]; exact (List.getElem?_eq_some_iff.1 hy).1
      obtain ⟨x, hx⟩ : ∃ x, p.list[i]? = some x := ⟨_, List.getElem?_eq_getElem hil⟩
      rw [hex hx] at hy
      obtain rfl := Option.some.inj hy
      have ea : (examine p).asked = p.asked := rfl
      have et : (examine p).tries = p.tries := rfl
      rw [ea, et]
      obtain ⟨k1, k2⟩ := R.each i x hx
      unfold tickE
      split
      · rename_i hl
        obtain ⟨j1, j2, j3⟩ := hop hx hl
        have hi : i < p.asked := by
          by_cases hi : i < p.asked
          · exact hi
          · have := (k2 (by omega)).2
            rw [this] at j1
            cases j1
        split
        · dsimp only; omega
        · dsimp only; omega
      · exact ⟨k1, k2⟩
  have hsl : ∀ u ∈ p.list.flatMap (sendE p.now p.wait p.tries), u ∈ l ∧ overF p u = 0 ∧ 1 ≤ askedOf p u ∧ askedOf p u + 1 ≤ p.tries := by
    intro u hu
    obtain ⟨i, x, hx, hc, rfl⟩ := (hs u p.list).1 hu
    simp only [Bool.and_eq_true, Bool.not_eq_true', decide_eq_false_iff_not] at hc
    obtain ⟨j1, j2, j3⟩ := hop hx hc.1
    refine ⟨R.mem_of hx, ?_, ?_, ?_⟩
    · rw [(R.at hx).2, ov, j1]; simp
    · rw [(R.at hx).1]; exact j2
    · rw [(R.at hx).1]; omega
  refine ⟨S, ?_, ?_, hsl, fun u hu => ?_, fun v => ?_⟩
  · exact ((flat_sub _ _ (fun _ => rfl) p.list).nodup (by rw [R.ups]; exact R.nodup))
  · exact ((flat_sub _ _ (fun _ => rfl) p.list).nodup (by rw [R.ups]; exact R.nodup))
  · have hns : u ∉ p.list.flatMap (sendE p.now p.wait p.tries) := by
      intro hsu
      have h1 := (hsl u hsu).2.2.2
      obtain ⟨i, x, hx, hc, rfl⟩ := (hg u p.list).1 hu
      simp only [Bool.and_eq_true, decide_eq_true_eq] at hc
      rw [(R.at hx).1] at h1
      omega
    obtain ⟨i, x, hx, hc, rfl⟩ := (hg u p.list).1 hu
    simp only [Bool.and_eq_true, decide_eq_true_eq] at hc
    obtain ⟨j1, j2, j3⟩ := hop hx hc.1
    refine ⟨R.mem_of hx, ?_, ?_, hns⟩
    · rw [(R.at hx).2, ov, j1]; simp
    · rw [(R.at hx).1]; omega
  · refine cmp (P1 := fun v a o a' o' => a' = a + (if v ∈ p.list.flatMap (sendE p.now p.wait p.tries) then 1 else 0) ∧ o' = o + (if v ∈ p.list.flatMap (goneE p.now p.wait p.tries) then 1 else 0)) R S (fun i x y hx hy => ?_) (fun u hu => ?_) v
    · rw [hex hx] at hy
      obtain rfl := Option.some.inj hy
      have ms : x.up ∈ p.list.flatMap (sendE p.now p.wait p.tries) ↔ (late p.now p.wait x && !decide (p.tries ≤ x.asked)) = true := by
        rw [hs]
        constructor
        · rintro ⟨j, y, hy, hc, e⟩
          obtain ⟨_, rfl⟩ := R.uniq hy hx e
          exact hc
        · exact fun hc => ⟨i, x, hx, hc, rfl⟩
      have mg : x.up ∈ p.list.flatMap (goneE p.now p.wait p.tries) ↔ (late p.now p.wait x && decide (p.tries ≤ x.asked)) = true := by
        rw [hg]
        constructor
        · rintro ⟨j, y, hy, hc, e⟩
          obtain ⟨_, rfl⟩ := R.uniq hy hx e
          exact hc
        · exact fun hc => ⟨i, x, hx, hc, rfl⟩
      simp only [ms, mg]
      cases hl : late p.now p.wait x with
      | false => simp [tickE, hl]
      | true =>
        obtain ⟨j1, j2, j3⟩ := hop hx hl
        by_cases ht : p.tries ≤ x.asked
        · simp [tickE, hl, ht, ov, j1, j2]
        · simp [tickE, hl, ht, ov, j1]
    · rw [if_neg, if_neg]
      · exact ⟨rfl, rfl⟩
      · intro h
        obtain ⟨i, x, hx, _, rfl⟩ := (hg u p.list).1 h
        exact hu (R.mem_of hx)
      · intro h
        exact hu (hsl u h).1
/-- One tick, as the watcher sees it. -/
theorem row_tick (R : RowInv l p) (hb : p.begins = true) (n : Int) : RowInv l (tick p n).1 ∧ (tick p n).2.2.Nodup ∧ (tick p n).2.1.Nodup ∧ (tick p n).1.tries = p.tries ∧
    (∀ u ∈ (tick p n).2.2, u ∈ l ∧ overF p u = 0 ∧ askedOf p u + 1 ≤ p.tries) ∧ (∀ u ∈ (tick p n).2.1, u ∈ l ∧ overF p u = 0 ∧ askedOf (tick p n).1 u = p.tries) ∧
    (∀ u, askedOf (tick p n).1 u = askedOf p u + (if u ∈ (tick p n).2.2 then 1 else 0) ∧ overF (tick p n).1 u = overF p u + (if u ∈ (tick p n).2.1 then 1 else 0)) ∧
    l.take (tick p n).1.asked = l.take p.asked ++ (tick p n).2.2.filter (fun u => askedOf p u == 0) := by
  obtain ⟨q, hq⟩ : ∃ q, q = advance p n := ⟨_, rfl⟩
  have hqa : ∀ u, askedOf q u = askedOf p u := fun u => by rw [hq]; rfl
  have hqo : ∀ u, overF q u = overF p u := fun u => by rw [hq]; rfl
  have hqt : q.tries = p.tries := by rw [hq]; rfl
  have hqk : q.asked = p.asked := by rw [hq]; rfl
  have R' : RowInv l q := by rw [hq]; exact row_advance R n
  obtain ⟨S, s1, s2, s3, s4, s5⟩ := row_examine R'
  have htick : tick p n = ((hedged (examine q)).1, q.list.flatMap (goneE q.now q.wait q.tries), q.list.flatMap (sendE q.now q.wait q.tries) ++ (hedged (examine q)).2) := by
    unfold tick
    rw [if_neg (by rw [hb]; simp), ← hq]
  rw [htick]
  dsimp only
  simp only [hqa, hqo, hqt] at s3 s4 s5
  rw [hqt] at s1 s2
  rw [hqt]
  have hf0 : (q.list.flatMap (sendE q.now q.wait p.tries)).filter (fun u => askedOf p u == 0) = [] := by
    rw [List.filter_eq_nil_iff]
    intro u hu
    have := (s3 u hu).2.2.1
    simp
    omega
  have hcase : ((hedged (examine q)).2 = [] ∧ RowInv l (hedged (examine q)).1 ∧ (hedged (examine q)).1.asked = p.asked ∧ (hedged (examine q)).1.tries = p.tries ∧ ∀ u, askedOf (hedged (examine q)).1 u = askedOf (examine q) u ∧ overF (hedged (examine q)).1 u = overF (examine q) u) ∨
      (∃ r, RowInv l r ∧ r.asked = p.asked ∧ r.tries = p.tries ∧ r.asked < r.list.length ∧ (hedged (examine q)) = (next r, [upAt r r.asked]) ∧ ∀ u, askedOf r u = askedOf (examine q) u ∧ overF r u = overF (examine q) u) := by
    unfold hedged
    dsimp only
    split
    · split
      · rename_i h6
        exact Or.inr ⟨{ examine q with reached := ((examine q).now - (examine q).start) / (examine q).every }, ⟨S.nodup, S.ups, S.asked, S.tries, S.each⟩, hqk, hqt, h6, rfl, fun u => ⟨rfl, rfl⟩⟩
      · exact Or.inl ⟨rfl, ⟨S.nodup, S.ups, S.asked, S.tries, S.each⟩, hqk, hqt, fun u => ⟨rfl, rfl⟩⟩
    · exact Or.inl ⟨rfl, S, hqk, hqt, fun u => ⟨rfl, rfl⟩⟩
  rcases hcase with ⟨e1, e2, e3, e4, e5⟩ | ⟨r, r1, r2, r3, r4, r5, r6⟩
  · rw [e1, List.append_nil]
    refine ⟨e2, s1, s2, e4, fun u hu => ?_, fun u hu => ?_, fun u => ?_, ?_⟩
    · obtain ⟨a, b, c, d⟩ := s3 u hu
      exact ⟨a, b, d⟩
    · obtain ⟨a, b, c, d⟩ := s4 u hu
      refine ⟨a, b, ?_⟩
      rw [(e5 u).1, (s5 u).1, if_neg d, c]
      omega
    · rw [(e5 u).1, (e5 u).2]
      exact s5 u
    · rw [e3, hf0, List.append_nil]
  · rw [r5]
    dsimp only
    obtain ⟨N, n1, n2, n3, n4, n5⟩ := row_next r1 r4
    have hz0 : askedOf (examine q) (upAt r r.asked) = 0 := by rw [← (r6 _).1]; exact n2
    have hp0 := (s5 (upAt r r.asked)).1
    rw [hz0] at hp0
    have hp1 := (R.asked0 (upAt r r.asked)).1
    have hns : upAt r r.asked ∉ q.list.flatMap (sendE q.now q.wait p.tries) := by
      intro h
      rw [if_pos h] at hp0
      omega
    rw [if_neg hns] at hp0
    have ho0 := (s5 (upAt r r.asked)).2
    rw [← (r6 _).2, n3] at ho0
    have ho1 := R.over01 (upAt r r.asked)
    have hng : upAt r r.asked ∉ q.list.flatMap (goneE q.now q.wait p.tries) := by
      intro h
      rw [if_pos h] at ho0
      omega
    rw [if_neg hng] at ho0
    refine ⟨N, ?_, s2, r3, fun u hu => ?_, fun u hu => ?_, fun u => ?_, ?_⟩
    · rw [List.nodup_append]
      refine ⟨s1, by simp, fun x hx y hy => ?_⟩
      rw [List.mem_singleton.1 hy]
      exact fun e => hns (e ▸ hx)
    · rcases List.mem_append.1 hu with hu | hu
      · obtain ⟨a, b, c, d⟩ := s3 u hu
        exact ⟨a, b, d⟩
      · rw [List.mem_singleton.1 hu]
        have := R.tries
        exact ⟨n1, by omega, by omega⟩
    · obtain ⟨a, b, c, d⟩ := s4 u hu
      refine ⟨a, b, ?_⟩
      rw [(n5 u).1, (r6 u).1, (s5 u).1, if_neg d, c, if_neg]
      · omega
      · rintro rfl
        exact hng hu
    · rw [(n5 u).1, (n5 u).2, (r6 u).1, (r6 u).2, (s5 u).1, (s5 u).2]
      refine ⟨?_, rfl⟩
      by_cases hu : u = upAt r r.asked
      · subst hu
        rw [if_pos rfl, if_neg hns, if_pos (by simp)]
        omega
      · rw [if_neg hu]
        simp [hu]
    · have : (next r).asked = r.asked + 1 := rfl
      rw [this, n4, List.filter_append, hf0, List.nil_append, r2]
      congr 1
      rw [List.filter_cons_of_pos]
      · rfl
      · rw [← r2]; simp; omega
theorem row_more (R : RowInv l p) (hb : p.begins = true) (n : Int) : RowInv l (more p n).1 ∧ (more p n).1.tries = p.tries ∧
    (((more p n).2.2 = false ∧ (∀ u, askedOf (more p n).1 u = askedOf p u ∧ overF (more p n).1 u = overF p u) ∧ (more p n).1.asked = p.asked) ∨
     ((more p n).2.2 = true ∧ (more p n).2.1 ∈ l ∧ overF p (more p n).2.1 = 0 ∧ askedOf p (more p n).2.1 = 0 ∧ (∀ u, askedOf (more p n).1 u = askedOf p u + (if u ∈ [(more p n).2.1] then 1 else 0) ∧ overF (more p n).1 u = overF p u) ∧ l.take (more p n).1.asked = l.take p.asked ++ [(more p n).2.1])) := by
  have R' := row_advance R n
  have hm : more p n = if (advance p n).list.length ≤ (advance p n).asked then (advance p n, 0, false) else (next (advance p n), upAt (advance p n) (advance p n).asked, true) := by
    unfold more
    rw [if_neg (by rw [hb]; simp)]
  by_cases h : (advance p n).list.length ≤ (advance p n).asked
  · rw [hm, if_pos h]
    exact ⟨R', rfl, Or.inl ⟨rfl, fun u => ⟨rfl, rfl⟩, rfl⟩⟩
  · rw [hm, if_neg h]
    obtain ⟨N, n1, n2, n3, n4, n5⟩ := row_next R' (by omega)
    refine ⟨N, rfl, Or.inr ⟨rfl, n1, n3, n2, fun u => ⟨?_, (n5 u).2⟩, n4⟩⟩
    dsimp only
    rw [(n5 u).1]
    simp only [List.mem_singleton]
    rfl
theorem closeL_at' (u : Int) : ∀ (q : List En) (i : Nat) (x : En), (q.map (·.up)).Nodup → q[i]? = some x → (closeL u q)[i]? = some (if isIt u x then { x with op := false } else x)
  | [], i, x, _, h => by simp at h
  | y :: r, 0, x, hn, h => by
    simp at h
    subst h
    unfold closeL
    split
    · simp
    · simp
  | y :: r, i + 1, x, hn, h => by
    have hr : r[i]? = some x := by simpa using h
    rw [List.map_cons, List.nodup_cons] at hn
    unfold closeL
    split
    · rename_i hy
      have hxu : isIt u x = false := by
        simp only [isIt, Bool.and_eq_true, beq_iff_eq] at hy
        have : x.up ≠ y.up := fun e => hn.1 (List.mem_map.2 ⟨x, List.mem_of_getElem? hr, e⟩)
        rw [hy.1] at this
        simp [isIt, this]
      rw [hxu, List.getElem?_cons_succ, hr]
      simp
    · rw [List.getElem?_cons_succ]
      exact closeL_at' u r i x hn.2 hr
theorem closeL_ups (u : Int) : ∀ q : List En, (closeL u q).map (·.up) = q.map (·.up)
  | [] => rfl
  | y :: r => by
    unfold closeL
    split
    · simp
    · simp [closeL_ups u r]
theorem row_close (R : RowInv l p) (c : Int) : RowInv l (close p c).1 ∧ (close p c).1.asked = p.asked ∧ (close p c).1.tries = p.tries ∧ ((close p c).2 = true → c ∈ l ∧ 1 ≤ askedOf p c ∧ overF p c = 0) ∧
    ∀ u, askedOf (close p c).1 u = askedOf p u ∧ overF (close p c).1 u = overF p u + (if u = c ∧ (close p c).2 = true then 1 else 0) := by
  have hnd : (p.list.map (·.up)).Nodup := by rw [R.ups]; exact R.nodup
  have hat : ∀ {i : Nat} {x : En}, p.list[i]? = some x → (close p c).1.list[i]? = some (if isIt c x then { x with op := false } else x) := fun hx => closeL_at' c _ _ _ hnd hx
  have hlen : (close p c).1.list.length = p.list.length := by
    have := congrArg List.length (closeL_ups c p.list)
    simpa [close] using this
  have hopen : ∀ {i : Nat} {x : En}, p.list[i]? = some x → x.op = true → 1 ≤ x.asked := by
    intro i x hx ho
    obtain ⟨k1, k2⟩ := R.each i x hx
    by_cases hi : i < p.asked
    · exact (k1 hi).1
    · have := (k2 (by omega)).2
      rw [this] at ho
      cases ho
  have S : RowInv l (close p c).1 := by
    refine ⟨R.nodup, by rw [← R.ups]; exact closeL_ups c p.list, by rw [hlen]; exact R.asked, R.tries, fun i y hy => ?_⟩
    have hil : i < p.list.length := by rw [← hlen]; exact (List.getElem?_eq_some_iff.1 hy).1
    obtain ⟨x, hx⟩ : ∃ x, p.list[i]? = some x := ⟨_, List.getElem?_eq_getElem hil⟩
    rw [hat hx] at hy
    obtain rfl := Option.some.inj hy
    have ea : (close p c).1.asked = p.asked := rfl
    have et : (close p c).1.tries = p.tries := rfl
    rw [ea, et]
    obtain ⟨k1, k2⟩ := R.each i x hx
    split
    · exact ⟨k1, fun h => ⟨(k2 h).1, rfl⟩⟩
    · exact ⟨k1, k2⟩
  have hany : (close p c).2 = true ↔ ∃ (i : Nat) (x : En), p.list[i]? = some x ∧ isIt c x = true := by
    show p.list.any (isIt c) = true ↔ _
    rw [List.any_eq_true]
    constructor
    · rintro ⟨x, hx, hc⟩
      obtain ⟨i, hi, rfl⟩ := List.getElem_of_mem hx
      exact ⟨i, _, List.getElem?_eq_getElem hi, hc⟩
    · rintro ⟨i, x, hx, hc⟩
      exact ⟨x, List.mem_of_getElem? hx, hc⟩
  refine ⟨S, rfl, rfl, fun h => ?_, fun v => ?_⟩
  · obtain ⟨i, x, hx, hc⟩ := hany.1 h
    simp only [isIt, Bool.and_eq_true, beq_iff_eq] at hc
    obtain ⟨rfl, ho⟩ := hc
    refine ⟨R.mem_of hx, by rw [(R.at hx).1]; exact hopen hx ho, ?_⟩
    rw [(R.at hx).2, ov, ho]
    simp
  · refine cmp (P1 := fun v a o a' o' => a' = a ∧ o' = o + (if v = c ∧ (close p c).2 = true then 1 else 0)) R S (fun i x y hx hy => ?_) (fun u hu => ?_) v
    · rw [hat hx] at hy
      obtain rfl := Option.some.inj hy
      by_cases hc : isIt c x = true
      · have hc' := hc
        simp only [isIt, Bool.and_eq_true, beq_iff_eq] at hc'
        rw [if_pos hc, if_pos ⟨hc'.1, hany.2 ⟨i, x, hx, hc⟩⟩]
        simp [ov, hc'.2, hopen hx hc'.2]
      · rw [if_neg hc, if_neg]
        · exact ⟨rfl, by omega⟩
        · rintro ⟨e, h⟩
          obtain ⟨j, y, hy, hcy⟩ := hany.1 h
          have hcy' := hcy
          simp only [isIt, Bool.and_eq_true, beq_iff_eq] at hcy'
          obtain ⟨_, rfl⟩ := R.uniq hx hy (by rw [e, hcy'.1])
          exact hc hcy
    · rw [if_neg]
      · exact ⟨rfl, rfl⟩
      · rintro ⟨rfl, h⟩
        obtain ⟨j, y, hy, hcy⟩ := hany.1 h
        simp only [isIt, Bool.and_eq_true, beq_iff_eq] at hcy
        rw [← hcy.1] at hu
        exact hu (R.mem_of hy)
theorem sub_length {α : Type} [BEq α] [LawfulBEq α] : ∀ (a b : List α), a.Nodup → (∀ x ∈ a, x ∈ b) → a.length ≤ b.length
  | [], b, _, _ => by simp
  | x :: r, b, hn, h => by
    rw [List.nodup_cons] at hn
    have h1 := sub_length r (b.erase x) hn.2 (fun y hy => (List.mem_erase_of_ne (fun e => hn.1 (by rw [← e]; exact hy))).2 (h y (List.mem_cons_of_mem _ hy)))
    have h2 := List.length_erase_of_mem (h x (List.mem_cons_self ..))
    have h3 := List.length_pos_of_mem (h x (List.mem_cons_self ..))
    simp only [List.length_cons]
    omega
/-- How many are open. -/
def nine : List Int := [0, 1, 2, 3, 4, 5, 6, 7, 8]
theorem row_opens (R : RowInv l p) (hr : ∀ u ∈ l, 0 ≤ u ∧ u ≤ 8) : ((nine.filter fun u => decide (0 < askedOf p u) && (overF p u == 0)).length : Int) = opens p := by
  have hop : ∀ {i : Nat} {x : En}, p.list[i]? = some x → ((decide (0 < askedOf p x.up) && (overF p x.up == 0)) = true ↔ x.op = true) := by
    intro i x hx
    obtain ⟨k1, k2⟩ := R.each i x hx
    rw [(R.at hx).1, (R.at hx).2]
    by_cases hi : i < p.asked
    · have := (k1 hi).1
      cases ho : x.op <;> simp [ov, ho, this] <;> omega
    · obtain ⟨e1, e2⟩ := k2 (by omega)
      simp [e1, e2]
  have hl : (nine.filter fun u => decide (0 < askedOf p u) && (overF p u == 0)).length = ((p.list.filter (·.op)).map (·.up)).length := by
    apply Nat.le_antisymm
    · refine sub_length _ _ (List.Nodup.sublist List.filter_sublist (by decide)) fun u hu => ?_
      obtain ⟨_, h2⟩ := List.mem_filter.1 hu
      by_cases hul : u ∈ l
      · obtain ⟨i, x, hx, rfl⟩ := R.mem hul
        exact List.mem_map.2 ⟨x, List.mem_filter.2 ⟨List.mem_of_getElem? hx, (hop hx).1 h2⟩, rfl⟩
      · rw [(R.no hul).1] at h2
        simp at h2
    · refine sub_length _ _ ?_ fun u hu => ?_
      · refine List.Nodup.sublist (List.Sublist.map _ List.filter_sublist) ?_
        rw [R.ups]
        exact R.nodup
      · obtain ⟨x, hx, rfl⟩ := List.mem_map.1 hu
        obtain ⟨h1, h2⟩ := List.mem_filter.1 hx
        obtain ⟨i, hi, rfl⟩ := List.getElem_of_mem h1
        have hx' := List.getElem?_eq_getElem hi
        refine List.mem_filter.2 ⟨?_, (hop hx').2 h2⟩
        obtain ⟨q1, q2⟩ := hr _ (R.mem_of hx')
        have : p.list[i].up = 0 ∨ p.list[i].up = 1 ∨ p.list[i].up = 2 ∨ p.list[i].up = 3 ∨ p.list[i].up = 4 ∨ p.list[i].up = 5 ∨ p.list[i].up = 6 ∨ p.list[i].up = 7 ∨ p.list[i].up = 8 := by omega
        simp [nine, this]
  rw [hl, List.length_map]
  rfl
/-- The beginning. -/
theorem row_nexts : ∀ (k : Nat) {p : Pl}, RowInv l p → k ≤ p.list.length - p.asked → RowInv l (nexts k p).1 ∧ (∀ u, overF (nexts k p).1 u = overF p u) ∧ (nexts k p).1.asked = p.asked + k ∧ (nexts k p).1.tries = p.tries ∧
    ∀ u, askedOf (nexts k p).1 u = askedOf p u + (if u ∈ (l.drop p.asked).take k then 1 else 0)
  | 0, p, R, _ => ⟨R, fun _ => rfl, rfl, rfl, fun u => by simp [nexts]⟩
  | k + 1, p, R, hk => by
    obtain ⟨N, n1, n2, n3, n4, n5⟩ := row_next R (by omega)
    have hlen : (next p).list.length = p.list.length := by simp [next]
    have hna : (next p).asked = p.asked + 1 := rfl
    obtain ⟨S, s1, s2, s3, s4⟩ := row_nexts k N (by rw [hlen, hna]; omega)
    refine ⟨S, fun u => by rw [← (n5 u).2]; exact s1 u, by show (nexts k (next p)).1.asked = _; rw [s2, hna]; omega, s3, fun u => ?_⟩
    show askedOf (nexts k (next p)).1 u = _
    rw [s4, (n5 u).1, hna]
    have hpl : p.asked < l.length := by rw [← R.ups]; simp; omega
    have hd : l.drop p.asked = upAt p p.asked :: l.drop (p.asked + 1) := by
      rw [List.drop_eq_getElem_cons hpl]
      congr 1
      have h1 : l.take (p.asked + 1) = l.take p.asked ++ [l[p.asked]] := List.take_succ_eq_append_getElem hpl
      rw [n4] at h1
      simpa using (List.append_cancel_left h1).symm
    rw [hd, List.take_succ_cons]
    have hnot : upAt p p.asked ∉ (l.drop (p.asked + 1)).take k := by
      intro h
      have h2 : (l.drop p.asked).Nodup := R.nodup.sublist (List.drop_sublist _ _)
      rw [hd, List.nodup_cons] at h2
      exact h2.1 (List.mem_of_mem_take h)
    by_cases hu : u = upAt p p.asked
    · subst hu
      rw [if_pos rfl, if_neg hnot, if_pos (List.mem_cons_self ..)]
      omega
    · rw [if_neg hu]
      simp only [List.mem_cons, hu, false_or]
      omega
theorem row_begin (hn : l.Nodup) (want every wait tries now : Int) (hw : 0 ≤ want) (ht : 1 ≤ tries) : RowInv l (begin' (mk l want every wait tries now)).1 ∧ (begin' (mk l want every wait tries now)).1.tries = tries ∧ (begin' (mk l want every wait tries now)).1.asked = (min (l.length : Int) want).toNat ∧
    ∀ u, askedOf (begin' (mk l want every wait tries now)).1 u = (if u ∈ l.take (min (l.length : Int) want).toNat then 1 else 0) ∧ overF (begin' (mk l want every wait tries now)).1 u = 0 := by
  unfold begin'
  rw [if_neg (by simp [mk])]
  have R : RowInv l { mk l want every wait tries now with begins := true } := by
    refine ⟨hn, ?_, by simp [mk], ht, fun i x hx => ?_⟩
    · simp only [mk, List.map_map]
      have : (fun x : En => x.up) ∘ fresh = id := rfl
      rw [this, List.map_id]
    · simp only [mk, List.getElem?_map, Option.map_eq_some_iff] at hx ⊢
      obtain ⟨u, _, rfl⟩ := hx
      exact ⟨fun h => by omega, fun _ => ⟨rfl, rfl⟩⟩
  have hz : ∀ u, askedOf ({ mk l want every wait tries now with begins := true } : Pl) u = 0 ∧ overF ({ mk l want every wait tries now with begins := true } : Pl) u = 0 := by
    intro u
    by_cases h : u ∈ l
    · obtain ⟨i, x, hx, rfl⟩ := R.mem h
      obtain ⟨_, h2⟩ := R.each i x hx
      obtain ⟨e1, e2⟩ := h2 (by simp [mk])
      rw [(R.at hx).1, (R.at hx).2]
      simp [ov, e1]
    · exact R.no h
  obtain ⟨S, s1, s2, s3, s4⟩ := row_nexts (min (mk l want every wait tries now).want.toNat ((mk l want every wait tries now).list.length - (mk l want every wait tries now).asked)) R (by simp only [mk]; omega)
  have e : min (mk l want every wait tries now).want.toNat ((mk l want every wait tries now).list.length - (mk l want every wait tries now).asked) = (min (l.length : Int) want).toNat := by
    simp only [mk, List.length_map]
    omega
  rw [e] at S s1 s2 s3 s4 ⊢
  refine ⟨S, s3, by rw [s2]; simp [mk], fun u => ⟨?_, by rw [s1, (hz u).2]⟩⟩
  rw [s4, (hz u).1]
  simp [mk]
end
end Go.Proofs.Ytpamoacgajlkeaa.Hg
