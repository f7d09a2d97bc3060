/-
  THE PLAN BY THE CLOCK (nobody is closed, More is never called), in closed form. No program in sight.
-/
import Derived.Test.YtpamoacgajlkeaaHm
namespace Go.Proofs.Ytpamoacgajlkeaa.Hg
set_option linter.unusedVariables false
/-- When one of the list is asked first, behind the beginning. -/
def gOf (want every i : Nat) : Nat := if i < want then 0 else (i - want + 1) * every
def ent (st : Int) (wait tries : Nat) (g t : Nat) (u : Int) : En :=
  if g ≤ t then (if (t - g) / wait < tries then ⟨u, (((t - g) / wait : Nat) : Int) + 1, st + g + ((((t - g) / wait) * wait : Nat) : Int), true⟩ else ⟨u, tries, st + g + (((tries - 1) * wait : Nat) : Int), false⟩) else fresh u
def entA (st : Int) (want every wait tries t : Nat) (x : Int × Nat) : En := ent st wait tries (gOf want every x.2) t x.1
def SP (l : List Int) (want every wait tries : Nat) (st : Int) (t : Nat) : Pl :=
  ⟨l.zipIdx.map (entA st want every wait tries t), min l.length (want + t / every), want, tries, every, wait, st, st + t, ((t / every : Nat) : Int), true, true⟩
theorem div_next (d w : Nat) (hw : 1 ≤ w) : ((d + 1) / w = d / w + 1 ∧ d + 1 = (d / w + 1) * w) ∨ ((d + 1) / w = d / w ∧ d + 1 < (d / w + 1) * w) := by
  have h1 := Nat.div_add_mod d w
  have h2 := Nat.mod_lt d hw
  have h3 : (d / w + 1) * w = w * (d / w) + w := by rw [Nat.succ_mul, Nat.mul_comm]
  by_cases h : d % w + 1 = w
  · left
    have h4 : d + 1 = (d / w + 1) * w := by omega
    refine ⟨?_, h4⟩
    rw [h4, Nat.mul_div_cancel _ hw]
  · right
    refine ⟨?_, by omega⟩
    apply Nat.div_eq_of_lt_le
    · rw [Nat.mul_comm]; omega
    · omega
theorem gle (want every i t : Nat) (he : 1 ≤ every) : gOf want every i ≤ t ↔ i < want + t / every := by
  unfold gOf
  split
  · exact ⟨fun _ => by generalize t / every = q; omega, fun _ => Nat.zero_le _⟩
  · rw [← Nat.le_div_iff_mul_le he]
    generalize t / every = q
    omega
section
variable {st : Int} {wait tries g t : Nat} {u : Int}
theorem ent_pos (hg : g ≤ t) : ent st wait tries g t u = if (t - g) / wait < tries then ⟨u, (((t - g) / wait : Nat) : Int) + 1, st + g + ((((t - g) / wait) * wait : Nat) : Int), true⟩ else ⟨u, tries, st + g + (((tries - 1) * wait : Nat) : Int), false⟩ := by
  unfold ent
  rw [if_pos hg]
theorem tick_shut (hne : g + tries * wait ≠ t + 1) (k : Int) : tickE (st + (t + 1 : Nat)) wait tries ⟨u, tries, k, false⟩ = ⟨u, tries, k, false⟩ ∧
    goneE (st + (t + 1 : Nat)) wait tries ⟨u, tries, k, false⟩ = (if g + tries * wait = t + 1 then [u] else []) ∧ (sendE (st + (t + 1 : Nat)) wait tries ⟨u, tries, k, false⟩ = [] ∨ sendE (st + (t + 1 : Nat)) wait tries ⟨u, tries, k, false⟩ = [u]) := by
  rw [if_neg hne]
  simp [tickE, goneE, sendE, late]
theorem tick_le (hw : 1 ≤ wait) (ht : 1 ≤ tries) (hg : g ≤ t) : tickE (st + (t + 1 : Nat)) wait tries (ent st wait tries g t u) = ent st wait tries g (t + 1) u ∧
    goneE (st + (t + 1 : Nat)) wait tries (ent st wait tries g t u) = (if g + tries * wait = t + 1 then [u] else []) ∧ (sendE (st + (t + 1 : Nat)) wait tries (ent st wait tries g t u) = [] ∨ sendE (st + (t + 1 : Nat)) wait tries (ent st wait tries g t u) = [u]) := by
  have e1 : t + 1 - g = t - g + 1 := by omega
  have hlow := Nat.div_mul_le_self (t - g) wait
  have hdn := div_next (t - g) wait hw
  rw [ent_pos (u := u) (st := st) (tries := tries) (wait := wait) hg, ent_pos (u := u) (st := st) (tries := tries) (wait := wait) (show g ≤ t + 1 by omega), e1]
  generalize hq : (t - g) / wait = q at *
  generalize hq' : (t - g + 1) / wait = q' at *
  have h3 : (q + 1) * wait = q * wait + wait := Nat.succ_mul ..
  by_cases hqt : q < tries
  · rw [if_pos hqt]
    rcases hdn with ⟨h1, h2⟩ | ⟨h1, h2⟩
    · subst h1
      have hl : late (st + ((t + 1 : Nat) : Int)) wait ⟨u, (q : Int) + 1, st + g + ((q * wait : Nat) : Int), true⟩ = true := by
        simp only [late, Bool.true_and, decide_eq_true_eq]
        omega
      by_cases hlast : q + 1 = tries
      · subst hlast
        rw [if_neg (show ¬ q + 1 < q + 1 by omega)]
        refine ⟨?_, ?_, ?_⟩
        · unfold tickE
          rw [if_pos hl, if_pos (by dsimp only; omega)]
          simp
        · unfold goneE
          rw [if_pos (by rw [hl]; simp), if_pos (by omega)]
        · unfold sendE
          rw [if_neg (by rw [hl]; simp)]
          exact Or.inl rfl
      · rw [if_pos (show q + 1 < tries by omega)]
        have hne : g + tries * wait ≠ t + 1 := by
          have : (q + 2) * wait ≤ tries * wait := Nat.mul_le_mul_right _ (by omega)
          have : (q + 2) * wait = q * wait + wait + wait := by rw [Nat.succ_mul, Nat.succ_mul]
          omega
        refine ⟨?_, ?_, ?_⟩
        · unfold tickE
          rw [if_pos hl, if_neg (by dsimp only; omega)]
          congr 1
          omega
        · unfold goneE
          rw [if_neg (by rw [hl]; simp; omega), if_neg hne]
        · unfold sendE
          split
          · exact Or.inr rfl
          · exact Or.inl rfl
    · subst h1
      rw [if_pos hqt]
      have hl : late (st + ((t + 1 : Nat) : Int)) wait ⟨u, (q' : Int) + 1, st + g + ((q' * wait : Nat) : Int), true⟩ = false := by
        simp only [late, Bool.true_and, decide_eq_false_iff_not]
        omega
      have hne : g + tries * wait ≠ t + 1 := by
        have : (q' + 1) * wait ≤ tries * wait := Nat.mul_le_mul_right _ (by omega)
        omega
      refine ⟨by simp only [tickE, hl]; simp, ?_, Or.inl (by simp only [sendE, hl]; simp)⟩
      rw [if_neg hne]
      simp only [goneE, hl]
      simp
  · have hqq : ¬ q' < tries := by omega
    rw [if_neg hqt, if_neg hqq]
    refine tick_shut ?_ _
    have : tries * wait ≤ q * wait := Nat.mul_le_mul_right _ (by omega)
    omega
theorem tick_gt (hw : 1 ≤ wait) (ht : 1 ≤ tries) (hg : t < g) : ent st wait tries g t u = fresh u ∧ tickE (st + (t + 1 : Nat)) wait tries (fresh u) = fresh u ∧
    goneE (st + (t + 1 : Nat)) wait tries (fresh u) = (if g + tries * wait = t + 1 then [u] else []) ∧ sendE (st + (t + 1 : Nat)) wait tries (fresh u) = [] := by
  have h1 : 1 ≤ tries * wait := Nat.mul_pos ht hw
  refine ⟨by unfold ent; rw [if_neg (by omega)], by simp [tickE, late, fresh], ?_, by simp [sendE, late, fresh]⟩
  rw [if_neg (by omega)]
  simp [goneE, late, fresh]
theorem ent_first (hw : 1 ≤ wait) (ht : 1 ≤ tries) : ent st wait tries t t u = askAt (st + t) (fresh u) := by
  unfold ent
  rw [if_pos (Nat.le_refl _), Nat.sub_self, Nat.zero_div, if_pos (show 0 < tries by omega)]
  simp [askAt, fresh]
end
section
variable {l : List Int} {want every wait tries : Nat} {st : Int} {t : Nat}
theorem sp_at (i : Nat) (u : Int) (h : l[i]? = some u) : (SP l want every wait tries st t).list[i]? = some (ent st wait tries (gOf want every i) t u) := by
  simp [SP, entA, h]
theorem ext_sp {q : List En} (hl : q.length = l.length) (h : ∀ i u, l[i]? = some u → q[i]? = some (ent st wait tries (gOf want every i) t u)) : q = (SP l want every wait tries st t).list := by
  apply List.ext_getElem?
  intro i
  cases hu : l[i]? with
  | none =>
    have : l.length ≤ i := List.getElem?_eq_none_iff.1 hu
    rw [List.getElem?_eq_none (by omega), List.getElem?_eq_none (by simp [SP]; omega)]
  | some u => rw [h i u hu, sp_at i u hu]
theorem sp_examine (hw : 1 ≤ wait) (ht : 1 ≤ tries) (i : Nat) (u : Int) (h : l[i]? = some u) : ((SP l want every wait tries st t).list.map (tickE (st + (t + 1 : Nat)) wait tries))[i]? = some (if gOf want every i = t + 1 then fresh u else ent st wait tries (gOf want every i) (t + 1) u) := by
  rw [List.getElem?_map, sp_at i u h, Option.map_some]
  by_cases hg : gOf want every i ≤ t
  · rw [(tick_le hw ht hg).1, if_neg (by omega)]
  · obtain ⟨h1, h2, _⟩ := tick_gt (st := st) (u := u) hw ht (Nat.lt_of_not_le hg)
    rw [h1, h2]
    split
    · rfl
    · unfold ent; rw [if_neg (by omega)]
theorem sp_tick (he : 1 ≤ every) (hw : 1 ≤ wait) (ht : 1 ≤ tries) (htop : st + (t + 1 : Nat) ≤ top) :
    (tick (SP l want every wait tries st t) (st + (t + 1 : Nat))).1 = SP l want every wait tries st (t + 1) ∧
    (tick (SP l want every wait tries st t) (st + (t + 1 : Nat))).2.1 = (SP l want every wait tries st t).list.flatMap (goneE (st + (t + 1 : Nat)) wait tries) ∧
    ∃ r, (tick (SP l want every wait tries st t) (st + (t + 1 : Nat))).2.2 = (SP l want every wait tries st t).list.flatMap (sendE (st + (t + 1 : Nat)) wait tries) ++ r ∧ ∀ u, u ∈ r ↔ ∃ i, l[i]? = some u ∧ gOf want every i = t + 1 := by
  have hadv : advance (SP l want every wait tries st t) (st + (t + 1 : Nat)) = { SP l want every wait tries st t with now := st + (t + 1 : Nat) } := by
    unfold advance
    congr 1
    simp only [SP]
    omega
  have hk : (((st + (t + 1 : Nat)) - st) / (every : Int)) = (((t + 1) / every : Nat) : Int) := by
    rw [show st + ((t + 1 : Nat) : Int) - st = ((t + 1 : Nat) : Int) by omega, Int.natCast_ediv]
  unfold tick
  rw [if_neg (by simp [SP]), hadv]
  simp only [examine, hedged]
  have f1 : (SP l want every wait tries st t).start = st := rfl
  have f2 : (SP l want every wait tries st t).every = every := rfl
  have f3 : (SP l want every wait tries st t).wait = wait := rfl
  have f4 : (SP l want every wait tries st t).tries = tries := rfl
  have f5 : (SP l want every wait tries st t).reached = ((t / every : Nat) : Int) := rfl
  have f6 : (SP l want every wait tries st t).asked = min l.length (want + t / every) := rfl
  simp only [f1, f2, f3, f4, f5, hk]
  have hlen : ((SP l want every wait tries st t).list.map (tickE (st + (t + 1 : Nat)) wait tries)).length = l.length := by simp [SP]
  rcases div_next t every he with ⟨h1, h2⟩ | ⟨h1, h2⟩
  · rw [if_pos (by rw [h1]; omega)]
    simp only [hlen, f6]
    by_cases hlt : min l.length (want + t / every) < l.length
    · rw [if_pos hlt]
      have hj : min l.length (want + t / every) = want + t / every := by omega
      have hgj : gOf want every (want + t / every) = t + 1 := by
        unfold gOf
        rw [if_neg (by generalize t / every = q; omega), show want + t / every - want + 1 = t / every + 1 by generalize t / every = q; omega]
        omega
      have huniq : ∀ i, gOf want every i = t + 1 → i = want + t / every := by
        intro i hi
        have e1 := (gle want every i (t + 1) he).1 (by omega)
        have e2 := mt (gle want every i t he).2 (by omega)
        rw [h1] at e1
        generalize t / every = q at *
        omega
      obtain ⟨u, hu⟩ : ∃ u, l[want + t / every]? = some u := ⟨_, List.getElem?_eq_getElem (by omega)⟩
      have hex := sp_examine (want := want) (every := every) (st := st) (t := t) hw ht _ u hu
      rw [if_pos hgj] at hex
      refine ⟨?_, trivial, _, rfl, ?_⟩
      · simp only [next, hj]
        have hlist : (((SP l want every wait tries st t).list.map (tickE (st + (t + 1 : Nat)) wait tries)).modify (want + t / every) (askAt (st + (t + 1 : Nat)))) = (SP l want every wait tries st (t + 1)).list := by
          refine ext_sp (by simp [SP]) fun i v hv => ?_
          rw [List.getElem?_modify]
          have hexi := sp_examine (want := want) (every := every) (st := st) (t := t) hw ht i v hv
          by_cases hi : want + t / every = i
          · subst hi
            rw [hgj] at hexi ⊢
            rw [hexi]
            simp only [if_true]
            rw [ent_first hw ht]
            rfl
          · rw [hexi, if_neg (fun e => hi (huniq i e).symm)]
            simp [hi]
        rw [hlist]
        simp only [SP, h1]
        congr 1
        generalize t / every = q at *
        omega
      · intro v
        simp only [upAt, hj, hex, Option.map_some, Option.getD_some, List.mem_singleton]
        constructor
        · rintro rfl
          exact ⟨_, hu, hgj⟩
        · rintro ⟨i, hi, hgi⟩
          rw [huniq i hgi, hu] at hi
          exact (Option.some.inj hi).symm
    · rw [if_neg hlt]
      have hno : ∀ i u, l[i]? = some u → gOf want every i ≠ t + 1 := by
        intro i u hi e
        have := (List.getElem?_eq_some_iff.1 hi).1
        have e2 := mt (gle want every i t he).2 (by omega)
        generalize t / every = q at *
        omega
      refine ⟨?_, trivial, [], rfl, ?_⟩
      · have hlist : ((SP l want every wait tries st t).list.map (tickE (st + (t + 1 : Nat)) wait tries)) = (SP l want every wait tries st (t + 1)).list := by
          refine ext_sp hlen fun i v hv => ?_
          rw [sp_examine hw ht i v hv, if_neg (hno i v hv)]
        rw [hlist]
        simp only [SP, h1]
        congr 1
        generalize t / every = q at *
        omega
      · intro v
        simp only [List.not_mem_nil, false_iff, not_exists, not_and]
        exact fun i hi => hno i v hi
  · rw [if_neg (by rw [h1]; omega)]
    have hno : ∀ i u, l[i]? = some u → gOf want every i ≠ t + 1 := by
      intro i u hi e
      have e1 := (gle want every i (t + 1) he).1 (by omega)
      have e2 := mt (gle want every i t he).2 (by omega)
      rw [h1] at e1
      exact e2 e1
    refine ⟨?_, trivial, [], rfl, ?_⟩
    · have hlist : ((SP l want every wait tries st t).list.map (tickE (st + (t + 1 : Nat)) wait tries)) = (SP l want every wait tries st (t + 1)).list := by
        refine ext_sp hlen fun i v hv => ?_
        rw [sp_examine hw ht i v hv, if_neg (hno i v hv)]
      simp only [hlist]
      simp only [SP, h1]
    · intro v
      simp only [List.not_mem_nil, false_iff, not_exists, not_and]
      exact fun i hi => hno i v hi
theorem nexts_at : ∀ (k : Nat) (p : Pl), (nexts k p).1 = { p with asked := p.asked + k, list := (nexts k p).1.list } ∧ (nexts k p).1.list.length = p.list.length ∧ ∀ i x, p.list[i]? = some x → (nexts k p).1.list[i]? = some (if p.asked ≤ i ∧ i < p.asked + k then askAt p.now x else x)
  | 0, p => ⟨rfl, rfl, fun i x h => by rw [if_neg (by omega)]; exact h⟩
  | k + 1, p => by
    obtain ⟨h1, h2, h3⟩ := nexts_at k (next p)
    refine ⟨?_, ?_, fun i x h => ?_⟩
    · show (nexts k (next p)).1 = _
      rw [h1]
      simp only [next]
      congr 1
      omega
    · show (nexts k (next p)).1.list.length = _
      rw [h2]
      simp [next]
    · show (nexts k (next p)).1.list[i]? = _
      by_cases hi : p.asked = i
      · have : (next p).list[i]? = some (askAt p.now x) := by simp [next, hi, h]
        rw [h3 i _ this, if_neg (by simp only [next]; omega), if_pos (by omega)]
      · have : (next p).list[i]? = some x := by simp [next, hi, h]
        have e1 : (next p).asked = p.asked + 1 := rfl
        rw [h3 i _ this]
        by_cases hc : (next p).asked ≤ i ∧ i < (next p).asked + k
        · rw [if_pos hc, if_pos (by omega)]
          rfl
        · rw [if_neg hc, if_neg (by omega)]
theorem sp_start (he : 1 ≤ every) (hw : 1 ≤ wait) (ht : 1 ≤ tries) : (begin' (mk l want every wait tries st)).1 = SP l want every wait tries st 0 := by
  unfold begin'
  rw [if_neg (by simp [mk])]
  obtain ⟨h1, h2, h3⟩ := nexts_at (min ((want : Int)).toNat (l.length)) { mk l want every wait tries st with begins := true }
  have e1 : (min (mk l want every wait tries st).want.toNat ((mk l want every wait tries st).list.length - (mk l want every wait tries st).asked)) = min ((want : Int)).toNat l.length := by simp [mk]
  rw [e1]
  rw [h1]
  have hlist : (nexts (min ((want : Int)).toNat (l.length)) { mk l want every wait tries st with begins := true }).1.list = (SP l want every wait tries st 0).list := by
    refine ext_sp (by rw [h2]; simp [mk]) fun i u hu => ?_
    have hil := (List.getElem?_eq_some_iff.1 hu).1
    have hm : ({ mk l want every wait tries st with begins := true } : Pl).list[i]? = some (fresh u) := by simp [mk, hu]
    rw [h3 i _ hm]
    congr 1
    have hg := gle want every i 0 he
    rw [Nat.zero_div] at hg
    by_cases hi : i < want
    · rw [if_pos (by simp only [mk]; omega)]
      have : gOf want every i = 0 := by unfold gOf; rw [if_pos hi]
      rw [this, ent_first hw ht]
      simp [mk]
    · rw [if_neg (by simp only [mk]; omega)]
      unfold ent
      rw [if_neg (by omega)]
  rw [hlist]
  simp only [SP, mk]
  congr 1
  · simp; omega
  · simp
  · simp
/-- Who is given up. -/
theorem mem_gone (hw : 1 ≤ wait) (ht : 1 ≤ tries) (u : Int) : u ∈ (SP l want every wait tries st t).list.flatMap (goneE (st + (t + 1 : Nat)) wait tries) ↔ ∃ i, l[i]? = some u ∧ gOf want every i + tries * wait = t + 1 := by
  have key : ∀ i v, goneE (st + (t + 1 : Nat)) wait tries (ent st wait tries (gOf want every i) t v) = (if gOf want every i + tries * wait = t + 1 then [v] else []) := by
    intro i v
    by_cases hg : gOf want every i ≤ t
    · exact (tick_le hw ht hg).2.1
    · obtain ⟨h1, _, h3, _⟩ := tick_gt (st := st) (u := v) hw ht (Nat.lt_of_not_le hg)
      rw [h1, h3]
  rw [List.mem_flatMap]
  constructor
  · rintro ⟨x, hx, hu⟩
    simp only [SP, List.mem_map] at hx
    obtain ⟨⟨v, i⟩, hv, rfl⟩ := hx
    rw [entA, key] at hu
    have hvi := List.mem_zipIdx_iff_getElem?.1 hv
    split at hu
    · rename_i hc
      rw [List.mem_singleton.1 hu]
      exact ⟨i, hvi, hc⟩
    · simp at hu
  · rintro ⟨i, hi, hc⟩
    refine ⟨_, List.mem_of_getElem? (sp_at i u hi), ?_⟩
    rw [key, if_pos hc]
    exact List.mem_singleton.2 rfl
theorem nodup_flat {α : Type} (f : α × Nat → List α) (hf : ∀ x, f x = [] ∨ f x = [x.1]) : ∀ (l : List α) (k : Nat), ((l.zipIdx k).flatMap f).Sublist l
  | [], _ => by simp
  | x :: r, k => by
    rw [List.zipIdx_cons, List.flatMap_cons]
    rcases hf (x, k) with h | h
    · rw [h, List.nil_append]
      exact (nodup_flat f hf r (k + 1)).cons _
    · rw [h]
      exact (nodup_flat f hf r (k + 1)).cons_cons _
theorem nodup_gone (hn : l.Nodup) : ((SP l want every wait tries st t).list.flatMap (goneE (st + (t + 1 : Nat)) wait tries)).Nodup := by
  simp only [SP, List.flatMap_map]
  refine (nodup_flat _ (fun x => ?_) l 0).nodup hn
  have hup : (entA st want every wait tries t x).up = x.1 := by
    unfold entA ent
    split
    · split <;> rfl
    · rfl
  unfold goneE
  split
  · rw [hup]; exact Or.inr rfl
  · exact Or.inl rfl
/-- Who is asked again was asked. -/
theorem mem_send (hw : 1 ≤ wait) (ht : 1 ≤ tries) (u : Int) (h : u ∈ (SP l want every wait tries st t).list.flatMap (sendE (st + (t + 1 : Nat)) wait tries)) : ∃ i, l[i]? = some u ∧ gOf want every i ≤ t := by
  obtain ⟨x, hx, hu⟩ := List.mem_flatMap.1 h
  simp only [SP, List.mem_map] at hx
  obtain ⟨⟨v, i⟩, hv, rfl⟩ := hx
  have hvi := List.mem_zipIdx_iff_getElem?.1 hv
  rw [entA] at hu
  by_cases hg : gOf want every i ≤ t
  · rcases (tick_le (st := st) (u := v) hw ht hg).2.2 with h1 | h1
    · rw [h1] at hu; simp at hu
    · rw [h1] at hu
      rw [List.mem_singleton.1 hu]
      exact ⟨i, hvi, hg⟩
  · obtain ⟨h1, _, _, h4⟩ := tick_gt (st := st) (u := v) hw ht (Nat.lt_of_not_le hg)
    rw [h1, h4] at hu
    simp at hu
end
end Go.Proofs.Ytpamoacgajlkeaa.Hg
