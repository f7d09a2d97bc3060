/-
  REGIONS THAT DRAW THEIR ORDER, by locality: an operation that only reads may be taken as soon as it may come up (Sl). No program in sight.
-/
import Derived.Test.YtpamoacgajlkeaaSlMem
namespace Go.Proofs.Ytpamoacgajlkeaa
open Go.RowKit
set_option linter.unusedVariables false
variable {G : World} {P : Program} {n : Nat} {ρ : Slots} {L : Blocks} {ty : TypeId} {Q : Exit → Act → World → Prop} {ops : Array Oper}

def bindD (dst : Option Nat) (v : Value) (ρ : Slots) : Slots := match dst with
  | some d => (d, v) :: ρ
  | none => ρ
theorem Env.bindD {a : Act} (h : Env n ρ a) {dst : Option Nat} (hd : ∀ d, dst = some d → d < n) (v : Value) : Env n (bindD dst v ρ) (a.put dst v) := by
  cases dst with
  | none => exact h
  | some d => exact h.put d (hd d rfl) v
/-- The guard says yes, as the slots tell. -/
def Wants (ops : Array Oper) (ρ : Slots) (o : Oper) (b : Bool) : Prop := match o.guard with
  | none => b = true
  | some (j, want) => ∃ dj x, guardSlot ops j = some dj ∧ ρ.lookup dj = some (.bool x) ∧ (x == want) = b
theorem Wants.wanted {o : Oper} {b : Bool} (h : Wants ops ρ o b) {a : Act} (he : Env n ρ a) : Region.wanted o (yielded ops a.tmps) = b := by
  unfold Wants at h
  split at h
  · rename_i hg; subst h; simp [Region.wanted, hg]
  · rename_i j want hg
    obtain ⟨dj, x, h1, h2, rfl⟩ := h
    exact wanted_of he hg h1 h2
/-- One operation that comes up. -/
def StepD (P : Program) (G : World) (ops : Array Oper) (n : Nat) (ρ : Slots) (L : Blocks) (i : Nat) (keep : Blocks → Prop) (next : Slots → Blocks → Prop) : Prop :=
  ∃ o, ops[i]? = some o ∧ (∀ d, o.dst = some d → d < n) ∧ ∃ b, Wants ops ρ o b ∧
    ((b = true ∧ ∃ Φ, OpT P G ρ L o.op o.type Φ ∧ ∀ v L', Φ v L' → keep L' ∧ next (bindD o.dst v ρ) L') ∨ (b = false ∧ keep L ∧ next (bindD o.dst undef ρ) L))
/-- Whatever order is picked from here on. K: blocks that stay as they are till an operation of W has come up. -/
def TA (P : Program) (G : World) (ops : Array Oper) (n : Nat) (K : Blocks) (W : List Nat) (Q : Exit → Act → World → Prop) : Nat → Array Bool → Slots → Blocks → Prop
  | 0, listed, ρ, L => Region.ready .any ops listed = [] ∧ TQ G n ρ L .normal Q
  | fuel + 1, listed, ρ, L => (Region.ready .any ops listed = [] → TQ G n ρ L .normal Q) ∧
    ∀ i ∈ Region.ready .any ops listed, StepD P G ops n ρ L i (fun L' => i ∈ W ∨ ∀ p ∈ K, p ∈ L') (TA P G ops n K W Q fuel (listed.setIfInBounds i true))

theorem TA.sound {K : Blocks} {W : List Nat} : ∀ (fuel : Nat) (listed : Array Bool) (ρ : Slots) (L : Blocks), TA P G ops n K W Q fuel listed ρ L → ∀ a w, Env n ρ a → Heap G w L → wpAny P .any ops Q fuel listed a w
  | 0, listed, ρ, L, h, a, w, he, hw => ⟨h.1, h.2.out a w he hw⟩
  | fuel + 1, listed, ρ, L, h, a, w, he, hw => by
    refine ⟨fun h0 => (h.1 h0).out a w he hw, fun i hi => ?_⟩
    obtain ⟨o, ho, hd, b, hb, hs⟩ := h.2 i hi
    unfold wpOp
    simp only [ho, hb.wanted he]
    rcases hs with ⟨rfl, Φ, hO, hn⟩ | ⟨rfl, _, hn⟩
    · rw [if_pos rfl]
      refine Or.inl (hO.wp he hw fun v L' w' h1 h2 => ?_)
      exact TA.sound fuel _ _ _ (hn v L' h1).2 _ _ (he.bindD hd v) h2
    · rw [if_neg (by simp)]
      exact TA.sound fuel _ _ _ hn _ _ (he.bindD hd undef) hw

def NoPanic (Q : Exit → Act → World → Prop) (e : Exit) (a : Act) (w : World) : Prop := Q e a w
theorem T_draw {id : Nat} (hm : P.follows .mixedOrders = true) (K : Blocks) (W : List Nat) (h : TA P G ops n K W Q ops.size (Array.replicate ops.size false) ρ L) : T P G n ρ L (.region id ops true) Q :=
  ⟨fun a w he hw => wp_region_any hm (h.sound _ _ _ _ a _ he (hw.same ⟨rfl, rfl, rfl, Nat.le_refl _⟩ rfl))⟩

/-! ### slots that say the same -/
theorem ev_congr {ρ ρ' : Slots} (h : ∀ t, ρ.lookup t = ρ'.lookup t) (x : Operand) : ev ρ x = ev ρ' x := by cases x <;> simp [ev, h]
theorem lookup_bindD {ρ ρ' : Slots} (h : ∀ t, ρ.lookup t = ρ'.lookup t) (dst : Option Nat) (v : Value) (t : Nat) : (bindD dst v ρ).lookup t = (bindD dst v ρ').lookup t := by
  cases dst with
  | none => exact h t
  | some d => simp only [bindD, List.lookup_cons, h]
theorem TQ.congr {ρ ρ' : Slots} (h : ∀ t, ρ.lookup t = ρ'.lookup t) {e : Exit} (k : TQ G n ρ L e Q) : TQ G n ρ' L e Q := ⟨fun a w he hw => k.out a w (he.weak fun t v hv => by rw [← h]; exact hv) hw⟩
theorem TA.congr {K : Blocks} {W : List Nat} : ∀ (fuel : Nat) (listed : Array Bool) (ρ ρ' : Slots) (L : Blocks), (∀ t, ρ.lookup t = ρ'.lookup t) → TA P G ops n K W Q fuel listed ρ L → TA P G ops n K W Q fuel listed ρ' L
  | 0, _, _, _, _, h, k => ⟨k.1, k.2.congr h⟩
  | fuel + 1, listed, ρ, ρ', L, h, k => by
    refine ⟨fun h0 => (k.1 h0).congr h, fun i hi => ?_⟩
    obtain ⟨o, ho, hd, b, hb, hs⟩ := k.2 i hi
    refine ⟨o, ho, hd, b, ?_, ?_⟩
    · unfold Wants at hb ⊢
      split at hb
      · exact hb
      · obtain ⟨dj, x, h1, h2, h3⟩ := hb
        exact ⟨dj, x, h1, by rw [← h]; exact h2, h3⟩
    · rcases hs with ⟨rfl, Φ, hO, hn⟩ | ⟨rfl, h1, hn⟩
      · refine Or.inl ⟨rfl, Φ, ⟨fun r hr => hO.out r fun x v hv => hr x v (by rw [← ev_congr h]; exact hv)⟩, fun v L' hv => ⟨(hn v L' hv).1, TA.congr fuel _ _ _ _ (lookup_bindD h _ v) (hn v L' hv).2⟩⟩
      · exact Or.inr ⟨rfl, h1, TA.congr fuel _ _ _ _ (lookup_bindD h _ undef) hn⟩

/-! ### what waits for what -/
def depT (ops : Array Oper) : Nat → Nat → Nat → Bool
  | 0, _, _ => false
  | f + 1, j, i => match ops[j]? with
    | none => false
    | some o => o.after.any fun e => Region.binds .any e && (e.on == i || depT ops f e.on i)
def Closed (ops : Array Oper) (listed : Array Bool) : Prop := ∀ j o, ops[j]? = some o → listed.getD j false = true → ∀ e ∈ o.after, Region.binds .any e = true → listed.getD e.on false = true
theorem dep_listed {listed : Array Bool} (hc : Closed ops listed) (i : Nat) : ∀ (f j : Nat) (o : Oper), ops[j]? = some o → (∀ e ∈ o.after, Region.binds .any e = true → listed.getD e.on false = true) → depT ops f j i = true → listed.getD i false = true
  | 0, _, _, _, _, h => by simp [depT] at h
  | f + 1, j, o, ho, he, h => by
    simp only [depT, ho] at h
    obtain ⟨e, hm, hb⟩ := Array.any_eq_true'.1 h
    simp only [Bool.and_eq_true, Bool.or_eq_true, beq_iff_eq] at hb
    have hl := he e hm hb.1
    rcases hb.2 with rfl | hd
    · exact hl
    · cases hk : ops[e.on]? with
      | none => cases f <;> simp [depT, hk] at hd
      | some ok => exact dep_listed hc i f e.on ok hk (fun e' hm' hb' => hc e.on ok hk hl e' hm' hb') hd

/-- An operation that only reads K (or whose guard says no). -/
def Quiet (P : Program) (G : World) (ops : Array Oper) (K : Blocks) (ρ : Slots) (o : Oper) (v : Value) : Prop :=
  (Wants ops ρ o true ∧ ∀ L', (∀ p ∈ K, p ∈ L') → OpV P G ρ L' o.op o.type v L') ∨ (Wants ops ρ o false ∧ v = undef)

theorem Wants.apart {o : Oper} {b : Bool} {d : Nat} {u : Value} (h : Wants ops ρ o b) (hn : d ∉ o.looksAt ops) : Wants ops ((d, u) :: ρ) o b := by
  unfold Wants at h ⊢
  split at h
  · exact h
  · rename_i j want hg
    obtain ⟨dj, x, h1, h2, h3⟩ := h
    refine ⟨dj, x, h1, ?_, h3⟩
    have hne : dj ≠ d := fun e => hn (by subst e; unfold Oper.looksAt; rw [hg]; exact List.mem_append_right _ (by unfold guardSlot at h1; simp [h1]))
    rw [List.lookup_cons, show (dj == d) = false by simpa using hne]
    exact h2
theorem Wants.unput {o : Oper} {b : Bool} {d : Nat} {u : Value} (h : Wants ops ((d, u) :: ρ) o b) (hn : d ∉ o.looksAt ops) : Wants ops ρ o b := by
  unfold Wants at h ⊢
  split at h
  · exact h
  · rename_i j want hg
    obtain ⟨dj, x, h1, h2, h3⟩ := h
    refine ⟨dj, x, h1, ?_, h3⟩
    have hne : dj ≠ d := fun e => hn (by subst e; unfold Oper.looksAt; rw [hg]; exact List.mem_append_right _ (by unfold guardSlot at h1; simp [h1]))
    rw [List.lookup_cons, show (dj == d) = false by simpa using hne] at h2
    exact h2
def setR (r : Operand → Value) (d : Nat) (u : Value) : Operand → Value
  | .tmp t => if t = d then u else r (.tmp t)
  | x => r x
theorem setR_ne {r : Operand → Value} {d : Nat} {u : Value} {x : Operand} (h : x ≠ .tmp d) : setR r d u x = r x := by
  cases x with
  | tmp t =>
    have : t ≠ d := fun e => h (by rw [e])
    simp [setR, this]
  | _ => rfl
theorem no_look {o : Oper} {d : Nat} (hn : d ∉ o.looksAt ops) : ∀ x ∈ o.op.operands, x ≠ .tmp d := fun x hx e => hn (by subst e; exact List.mem_append_left _ (List.mem_filterMap.2 ⟨.tmp d, by simpa using hx, rfl⟩))
/-- An operation that does not look at a slot. -/
theorem OpT.apart {o : Oper} {Φ : Value → Blocks → Prop} {d : Nat} {u : Value} (hs : ∀ cs b, o.op ≠ .select cs b) (h : OpT P G ρ L o.op o.type Φ) (hn : d ∉ o.looksAt ops) : OpT P G ((d, u) :: ρ) L o.op o.type Φ := by
  refine ⟨fun r hr w hw o' ho ht => ?_⟩
  have h1 := h.out (setR r d ((ρ.lookup d).getD (r (.tmp d)))) (fun x v hv => by
    cases x with
    | tmp t =>
      have hv' : ρ.lookup t = some v := hv
      by_cases e : t = d
      · subst e; simp [setR, hv']
      · simp only [setR, e, if_false]
        refine hr (.tmp t) v ?_
        show List.lookup t ((d, u) :: ρ) = some v
        rw [List.lookup_cons, show (t == d) = false by simpa using e]
        exact hv'
    | const c => exact hr _ v hv
    | global g => exact hr _ v hv
    | func f => exact hr _ v hv) w hw o' ho ht
  rw [execOp_congr (ρ := r) (ρ' := setR r d ((ρ.lookup d).getD (r (.tmp d)))) o' (by rw [ho]; exact hs) (fun x hx => by rw [ho] at hx; rw [setR_ne (no_look hn x hx)])]
  exact h1
theorem OpT.unput {o : Oper} {Φ : Value → Blocks → Prop} {d : Nat} {u : Value} (hs : ∀ cs b, o.op ≠ .select cs b) (h : OpT P G ((d, u) :: ρ) L o.op o.type Φ) (hn : d ∉ o.looksAt ops) : OpT P G ρ L o.op o.type Φ := by
  refine ⟨fun r hr w hw o' ho ht => ?_⟩
  have h1 := h.out (setR r d u) (fun x v hv => by
    cases x with
    | tmp t =>
      have hv' : List.lookup t ((d, u) :: ρ) = some v := hv
      rw [List.lookup_cons] at hv'
      by_cases e : t = d
      · subst e
        simp at hv'
        simp [setR, hv']
      · rw [show (t == d) = false by simpa using e] at hv'
        simp only [setR, e, if_false]
        exact hr (.tmp t) v hv'
    | const c => exact hr _ v hv
    | global g => exact hr _ v hv
    | func f => exact hr _ v hv) w hw o' ho ht
  rw [execOp_congr (ρ := r) (ρ' := setR r d u) o' (by rw [ho]; exact hs) (fun x hx => by rw [ho] at hx; rw [setR_ne (no_look hn x hx)])]
  exact h1
theorem Quiet.apart {K : Blocks} {o : Oper} {v : Value} {dst : Option Nat} {u : Value} (hs : ∀ cs b, o.op ≠ .select cs b) (h : Quiet P G ops K ρ o v) (hn : ∀ d, dst = some d → d ∉ o.looksAt ops) : Quiet P G ops K (bindD dst u ρ) o v := by
  cases dst with
  | none => exact h
  | some d =>
    rcases h with ⟨h1, h2⟩ | ⟨h1, h2⟩
    · exact Or.inl ⟨h1.apart (hn d rfl), fun L' hK => (h2 L' hK).apart hs (hn d rfl)⟩
    · exact Or.inr ⟨h1.apart (hn d rfl), h2⟩
theorem closed_set {listed : Array Bool} {j : Nat} {oj : Oper} (hc : Closed ops listed) (hoj : ops[j]? = some oj) (hall : ∀ e ∈ oj.after, Region.binds .any e = true → listed.getD e.on false = true) : Closed ops (listed.setIfInBounds j true) := by
  have up : ∀ k, listed.getD k false = true → (listed.setIfInBounds j true).getD k false = true := fun k hk => by
    by_cases e : j = k
    · subst e
      by_cases hl : j < listed.size
      · simp [Array.getD_eq_getD_getElem?, hl]
      · simp [Array.getD_eq_getD_getElem?, Array.getElem?_eq_none (Nat.le_of_not_lt hl)] at hk
    · rw [Array.getD_eq_getD_getElem?, Array.getElem?_setIfInBounds_ne e, ← Array.getD_eq_getD_getElem?]
      exact hk
  intro k o hk hl e he hb
  by_cases ek : j = k
  · subst ek
    rw [hoj] at hk
    cases hk
    exact up _ (hall e he hb)
  · rw [Array.getD_eq_getD_getElem?, Array.getElem?_setIfInBounds_ne ek, ← Array.getD_eq_getD_getElem?] at hl
    exact up _ (hc k o hk hl e he hb)

/-- **An operation that only reads K may be taken first.** -/
theorem TA_first {K : Blocks} {W : List Nat} {i : Nat} {oi : Oper} {v : Value} (hi : ops[i]? = some oi) (hd : ∀ d, oi.dst = some d → d < n) (hsel : ∀ (j : Nat) (o : Oper) cs b, ops[j]? = some o → o.op ≠ .select cs b)
    (hW : ∀ j ∈ W, j ≠ i → depT ops ops.size j i = true) :
    ∀ (fuel : Nat) (listed : Array Bool) (ρ : Slots) (L : Blocks), Closed ops listed →
      (∀ j oj, ops[j]? = some oj → j ≠ i → listed.getD j true = false → (∀ e ∈ oj.after, Region.binds .any e = true → e.on ≠ i) → oi.apart ops oj = true) →
      i ∈ Region.ready .any ops listed → Quiet P G ops K ρ oi v → (∀ p ∈ K, p ∈ L) →
      TA P G ops n K W Q fuel (listed.setIfInBounds i true) (bindD oi.dst v ρ) L → TA P G ops n K W Q (fuel + 1) listed ρ L := by
  have own : ∀ (fuel : Nat) (listed : Array Bool) (ρ : Slots) (L : Blocks), Quiet P G ops K ρ oi v → (∀ p ∈ K, p ∈ L) → TA P G ops n K W Q fuel (listed.setIfInBounds i true) (bindD oi.dst v ρ) L →
      StepD P G ops n ρ L i (fun L' => i ∈ W ∨ ∀ p ∈ K, p ∈ L') (TA P G ops n K W Q fuel (listed.setIfInBounds i true)) := by
    intro fuel listed ρ L hq hK H
    rcases hq with ⟨h1, h2⟩ | ⟨h1, rfl⟩
    · refine ⟨oi, hi, hd, true, h1, Or.inl ⟨rfl, _, h2 L hK, ?_⟩⟩
      rintro _ _ ⟨rfl, rfl⟩
      exact ⟨Or.inr hK, H⟩
    · exact ⟨oi, hi, hd, false, h1, Or.inr ⟨rfl, Or.inr hK, H⟩⟩
  intro fuel
  induction fuel with
  | zero =>
    intro listed ρ L _ _ hr hq hK H
    refine ⟨fun h => (by rw [h] at hr; cases hr), fun j hj => ?_⟩
    by_cases hji : j = i
    · subst hji; exact own 0 listed ρ L hq hK H
    · have := ready_mono hj hji
      rw [H.1] at this
      cases this
  | succ fuel ih =>
    intro listed ρ L hc hfree hr hq hK H
    refine ⟨fun h => (by rw [h] at hr; cases hr), fun j hj => ?_⟩
    by_cases hji : j = i
    · subst hji; exact own _ listed ρ L hq hK H
    · obtain ⟨oj', hoj', hdj, b, hb, hs⟩ := H.2 j (ready_mono hj hji)
      obtain ⟨hjun, oj, hoj, hall0⟩ := mem_ready.1 hj
      have heq := Option.some.inj (hoj.symm.trans hoj')
      subst heq
      have hall : ∀ e ∈ oj.after, Region.binds .any e = true → listed.getD e.on false = true := fun e he hb => hall0 e he hb
      have hiun : listed.getD i false = false := by
        have h0 := (mem_ready.1 hr).1
        rcases Nat.lt_or_ge i listed.size with h' | h'
        · simp [h'] at h0 ⊢; exact h0
        · simp [Array.getElem?_eq_none h']
      have hnot : ∀ e ∈ oj.after, Region.binds .any e = true → e.on ≠ i := fun e he hb heq => by
        have h1 := hall e he hb
        rw [heq, hiun] at h1
        cases h1
      have hjW : j ∉ W := fun hjW => by
        have := dep_listed hc i ops.size j oj hoj hall (hW j hjW hji)
        rw [hiun] at this
        cases this
      have hap := hfree j oj hoj hji hjun hnot
      obtain ⟨a1, a2, a3⟩ := Oper.apart_spec hap
      have hfree' : ∀ k ok, ops[k]? = some ok → k ≠ i → (listed.setIfInBounds j true).getD k true = false →
          (∀ e ∈ ok.after, Region.binds .any e = true → e.on ≠ i) → oi.apart ops ok = true := fun k ok hk hki hun hno => by
        refine hfree k ok hk hki ?_ hno
        by_cases hjk : j = k
        · subst hjk; exact hjun
        · rw [getD_set_ne true hjk] at hun; exact hun
      have hc' := closed_set hc hoj hall
      have swap : ∀ (u : Value) (t : Nat), (bindD oj.dst u (bindD oi.dst v ρ)).lookup t = (bindD oi.dst v (bindD oj.dst u ρ)).lookup t := by
        intro u t
        cases h1 : oi.dst with
        | none => rfl
        | some d1 =>
          cases h2 : oj.dst with
          | none => rfl
          | some d2 =>
            have hne : d1 ≠ d2 := fun e => a2 d1 h1 (by rw [h2, e])
            simp only [bindD, List.lookup_cons]
            by_cases e1 : t = d1
            · subst e1
              rw [show (t == d2) = false by simpa using hne]
            · rw [show (t == d1) = false by simpa using e1]
      have hwant : Wants ops ρ oj b := by
        cases h1 : oi.dst with
        | none => rw [h1] at hb; exact hb
        | some d1 => rw [h1] at hb; exact Wants.unput hb (a1 d1 h1)
      refine ⟨oj, hoj, hdj, b, hwant, ?_⟩
      rcases hs with ⟨rfl, Φ, hO, hn⟩ | ⟨rfl, hkp, hn⟩
      · refine Or.inl ⟨rfl, Φ, ?_, fun u L' hu => ?_⟩
        · cases h1 : oi.dst with
          | none => rw [h1] at hO; exact hO
          | some d1 => rw [h1] at hO; exact OpT.unput (fun cs b => hsel j oj cs b hoj) hO (a1 d1 h1)
        · obtain ⟨k1, k2⟩ := hn u L' hu
          have hK' : ∀ p ∈ K, p ∈ L' := k1.resolve_left hjW
          refine ⟨Or.inr hK', ih (listed.setIfInBounds j true) _ L' hc' hfree' (ready_mono hr (Ne.symm hji)) (hq.apart (fun cs b => hsel i oi cs b hi) a3) hK' ?_⟩
          rw [Array.setIfInBounds_comm _ _ (Ne.symm hji)] at k2
          exact k2.congr _ _ _ _ _ (swap u)
      · refine Or.inr ⟨rfl, Or.inr hK, ih (listed.setIfInBounds j true) _ L hc' hfree' (ready_mono hr (Ne.symm hji)) (hq.apart (fun cs b => hsel i oi cs b hi) a3) hK ?_⟩
        rw [Array.setIfInBounds_comm _ _ (Ne.symm hji)] at hn
        exact hn.congr _ _ _ _ _ (swap undef)

/-! ### the moves -/
/-- All that the rule of the region's form asks, at once. -/
def takes (ops : Array Oper) (W : List Nat) (n : Nat) (listed : Array Bool) (i d : Nat) : Bool :=
  Region.noSelect ops && Region.free .any ops listed i && (Region.ready .any ops listed).contains i && (W.all fun j => j == i || depT ops ops.size j i) && Nat.blt d n &&
  ((List.range ops.size).all fun j => match ops[j]? with
    | some o => !listed.getD j false || o.after.all fun e => !Region.binds .any e || listed.getD e.on false
    | none => true)
theorem takes_closed {listed : Array Bool} (h : ((List.range ops.size).all fun j => match ops[j]? with
    | some o => !listed.getD j false || o.after.all fun e => !Region.binds .any e || listed.getD e.on false
    | none => true) = true) : Closed ops listed := by
  intro j o ho hl e he hb
  have h1 := List.all_eq_true.1 h j (List.mem_range.2 (Array.getElem?_eq_some_iff.1 ho).1)
  simp only [ho, hl, Bool.not_true, Bool.false_or] at h1
  have h2 := Array.all_eq_true'.1 h1 e he
  simpa [hb] using h2
theorem TA_take {K : Blocks} {W : List Nat} {fuel : Nat} {listed : Array Bool} (i : Nat) {d : Nat} {oi : Oper} {v : Value} (hi : ops[i]? = some oi) (hd : oi.dst = some d) (ht : takes ops W n listed i d = true)
    (hq : Quiet P G ops K ρ oi v) (hK : ∀ p ∈ K, p ∈ L) (h : TA P G ops n K W Q fuel (listed.setIfInBounds i true) ((d, v) :: ρ) L) : TA P G ops n K W Q (fuel + 1) listed ρ L := by
  simp only [takes, Bool.and_eq_true] at ht
  obtain ⟨⟨⟨⟨⟨h1, h2⟩, h3⟩, h4⟩, h5⟩, h6⟩ := ht
  refine TA_first hi (fun d' e => by rw [hd] at e; cases e; simpa using h5) (Region.noSelect_spec h1) (fun j hj hne => ?_) fuel listed ρ L (takes_closed h6) (Region.free_spec hi h2) (by simpa using h3) hq hK (by rw [hd]; exact h)
  have := List.all_eq_true.1 h4 j hj
  simpa [hne] using this
/-- Quiet, unguarded. -/
theorem quiet_q {K : Blocks} {d : Option Nat} {op : Op} {v : Value} {pos : String} {after : Array Edge} (h : OpQ P ρ K op ty v) : Quiet P G ops K ρ ⟨d, op, ty, pos, after, none⟩ v :=
  Or.inl ⟨rfl, fun L' hK => .pure fun r hr w hw o ho ht => h.out r hr w ⟨fun p hp => hw.get p (hK p hp)⟩ o ho ht⟩
theorem quiet_g {K : Blocks} {d : Option Nat} {op : Op} {v : Value} {pos : String} {after : Array Edge} {j dj : Nat} {want : Bool} (hs : guardSlot ops j = some dj) (hv : ρ.lookup dj = some (.bool want)) (h : OpQ P ρ K op ty v) : Quiet P G ops K ρ ⟨d, op, ty, pos, after, some (j, want)⟩ v :=
  Or.inl ⟨⟨dj, want, hs, hv, by simp⟩, fun L' hK => .pure fun r hr w hw o ho ht => h.out r hr w ⟨fun p hp => hw.get p (hK p hp)⟩ o ho ht⟩
theorem quiet_no {K : Blocks} {d : Option Nat} {op : Op} {pos : String} {after : Array Edge} {j dj : Nat} {want : Bool} (hs : guardSlot ops j = some dj) (hv : ρ.lookup dj = some (.bool !want)) : Quiet P G ops K ρ ⟨d, op, ty, pos, after, some (j, want)⟩ undef :=
  Or.inr ⟨⟨dj, _, hs, hv, by cases want <;> rfl⟩, rfl⟩
/-- A call that leaves all blocks as they are. -/
theorem quiet_call {K : Blocks} {d : Option Nat} {f : FuncId} {xs : List Operand} {ats : Array TypeId} {vs : List Value} {v : Value} {pos : String} {after : Array Edge} (hb : hasBody P f = true) (ha : evArgs ρ xs = some vs)
    (h : ∀ L', (∀ p ∈ K, p ∈ L') → Spec P G f vs.toArray L' fun u M => u = v ∧ M = L') : Quiet P G ops K ρ ⟨d, .call ⟨.value (.func f), xs.toArray, ats⟩, ty, pos, after, none⟩ v :=
  Or.inl ⟨rfl, fun L' hK => op_call hb ha (h L' hK)⟩
theorem quiet_callG {K : Blocks} {d : Option Nat} {f : FuncId} {xs : List Operand} {ats : Array TypeId} {vs : List Value} {v : Value} {pos : String} {after : Array Edge} {j dj : Nat} {want : Bool} (hs : guardSlot ops j = some dj) (hv : ρ.lookup dj = some (.bool want)) (hb : hasBody P f = true) (ha : evArgs ρ xs = some vs)
    (h : ∀ L', (∀ p ∈ K, p ∈ L') → Spec P G f vs.toArray L' fun u M => u = v ∧ M = L') : Quiet P G ops K ρ ⟨d, .call ⟨.value (.func f), xs.toArray, ats⟩, ty, pos, after, some (j, want)⟩ v :=
  Or.inl ⟨⟨dj, want, hs, hv, by simp⟩, fun L' hK => op_call hb ha (h L' hK)⟩
/-- The one that may come up. -/
theorem TA_one {K : Blocks} {W : List Nat} {fuel : Nat} {listed : Array Bool} (i : Nat) {oi : Oper} {Φ : Value → Blocks → Prop} (hr : Region.ready .any ops listed = [i]) (hi : ops[i]? = some oi) (hd : (oi.dst.all fun d => Nat.blt d n) = true) (hg : oi.guard = none)
    (hO : OpT P G ρ L oi.op oi.type Φ) (h : ∀ v L', Φ v L' → (i ∈ W ∨ ∀ p ∈ K, p ∈ L') ∧ TA P G ops n K W Q fuel (listed.setIfInBounds i true) (bindD oi.dst v ρ) L') : TA P G ops n K W Q (fuel + 1) listed ρ L := by
  refine ⟨fun h0 => (by rw [hr] at h0; cases h0), fun j hj => ?_⟩
  rw [hr] at hj
  obtain rfl : j = i := by simpa using hj
  exact ⟨oi, hi, fun d e => by rw [e] at hd; simpa using hd, true, by unfold Wants; rw [hg], Or.inl ⟨rfl, Φ, hO, h⟩⟩
/-- One of several that may come up. -/
def Up (P : Program) (G : World) (ops : Array Oper) (n : Nat) (K : Blocks) (W : List Nat) (Q : Exit → Act → World → Prop) (fuel : Nat) (listed : Array Bool) (ρ : Slots) (L : Blocks) (i : Nat) : Prop :=
  StepD P G ops n ρ L i (fun L' => i ∈ W ∨ ∀ p ∈ K, p ∈ L') (TA P G ops n K W Q fuel (listed.setIfInBounds i true))
theorem TA_two {K : Blocks} {W : List Nat} {fuel : Nat} {listed : Array Bool} (i j : Nat) (hr : Region.ready .any ops listed = [i, j]) (h1 : Up P G ops n K W Q fuel listed ρ L i) (h2 : Up P G ops n K W Q fuel listed ρ L j) : TA P G ops n K W Q (fuel + 1) listed ρ L := by
  refine ⟨fun h0 => (by rw [hr] at h0; cases h0), fun k hk => ?_⟩
  rw [hr] at hk
  simp at hk
  rcases hk with rfl | rfl
  · exact h1
  · exact h2
theorem Up_of {K : Blocks} {W : List Nat} {fuel : Nat} {listed : Array Bool} {i : Nat} {oi : Oper} {Φ : Value → Blocks → Prop} (hi : ops[i]? = some oi) (hd : (oi.dst.all fun d => Nat.blt d n) = true) (hg : oi.guard = none)
    (hO : OpT P G ρ L oi.op oi.type Φ) (h : ∀ v L', Φ v L' → (i ∈ W ∨ ∀ p ∈ K, p ∈ L') ∧ TA P G ops n K W Q fuel (listed.setIfInBounds i true) (bindD oi.dst v ρ) L') : Up P G ops n K W Q fuel listed ρ L i :=
  ⟨oi, hi, fun d e => by rw [e] at hd; simpa using hd, true, by unfold Wants; rw [hg], Or.inl ⟨rfl, Φ, hO, h⟩⟩
theorem TA_done {K : Blocks} {W : List Nat} {fuel : Nat} {listed : Array Bool} (hr : Region.ready .any ops listed = []) (h : TQ G n ρ L .normal Q) : TA P G ops n K W Q fuel listed ρ L := by
  cases fuel with
  | zero => exact ⟨hr, h⟩
  | succ f => exact ⟨fun _ => h, by rw [hr]; simp⟩
theorem TA_oneD {K : Blocks} {W : List Nat} {fuel : Nat} {listed : Array Bool} (i : Nat) {d : Nat} {oi : Oper} {Φ : Value → Blocks → Prop} (hr : Region.ready .any ops listed = [i]) (hi : ops[i]? = some oi) (hd : oi.dst = some d) (hdn : Nat.blt d n = true) (hg : oi.guard = none)
    (hO : OpT P G ρ L oi.op oi.type Φ) (h : ∀ v L', Φ v L' → (i ∈ W ∨ ∀ p ∈ K, p ∈ L') ∧ TA P G ops n K W Q fuel (listed.setIfInBounds i true) ((d, v) :: ρ) L') : TA P G ops n K W Q (fuel + 1) listed ρ L :=
  TA_one i hr hi (by rw [hd]; exact hdn) hg hO (by rw [hd]; exact h)
theorem TA_oneN {K : Blocks} {W : List Nat} {fuel : Nat} {listed : Array Bool} (i : Nat) {oi : Oper} {Φ : Value → Blocks → Prop} (hr : Region.ready .any ops listed = [i]) (hi : ops[i]? = some oi) (hd : oi.dst = none) (hg : oi.guard = none)
    (hO : OpT P G ρ L oi.op oi.type Φ) (h : ∀ v L', Φ v L' → (i ∈ W ∨ ∀ p ∈ K, p ∈ L') ∧ TA P G ops n K W Q fuel (listed.setIfInBounds i true) ρ L') : TA P G ops n K W Q (fuel + 1) listed ρ L :=
  TA_one i hr hi (by rw [hd]; rfl) hg hO (by rw [hd]; exact h)
theorem TA_heap {K : Blocks} {W : List Nat} {L' : Blocks} : ∀ {fuel : Nat} {listed : Array Bool} {ρ : Slots}, (hl : ∀ w, Heap G w L → Heap G w L') → (hk : (∀ p ∈ K, p ∈ L') → ∀ p ∈ K, p ∈ L) → TA P G ops n K W Q fuel listed ρ L' → TA P G ops n K W Q fuel listed ρ L
  | 0, _, _, hl, _, h => ⟨h.1, TQ_heap hl h.2⟩
  | fuel + 1, listed, ρ, hl, hk, h => by
    refine ⟨fun h0 => TQ_heap hl (h.1 h0), fun i hi => ?_⟩
    obtain ⟨o, ho, hd, b, hb, hs⟩ := h.2 i hi
    refine ⟨o, ho, hd, b, hb, ?_⟩
    rcases hs with ⟨rfl, Φ, hO, hn⟩ | ⟨rfl, h1, hn⟩
    · exact Or.inl ⟨rfl, Φ, ⟨fun r hr w hw => hO.out r hr w (hl w hw)⟩, hn⟩
    · exact Or.inr ⟨rfl, h1.imp id hk, TA_heap hl hk hn⟩
theorem quiet_g2 {K : Blocks} {d : Option Nat} {op : Op} {v : Value} {pos : String} {after : Array Edge} {j dj : Nat} {want b : Bool} (hs : guardSlot ops j = some dj) (hv : ρ.lookup dj = some (.bool b)) (hb : b = want) (h : OpQ P ρ K op ty v) : Quiet P G ops K ρ ⟨d, op, ty, pos, after, some (j, want)⟩ v := quiet_g hs (hb ▸ hv) h
theorem quiet_no2 {K : Blocks} {d : Option Nat} {op : Op} {pos : String} {after : Array Edge} {j dj : Nat} {want b : Bool} (hs : guardSlot ops j = some dj) (hv : ρ.lookup dj = some (.bool b)) (hb : b = !want) : Quiet P G ops K ρ ⟨d, op, ty, pos, after, some (j, want)⟩ undef := quiet_no hs (hb ▸ hv)
theorem quiet_callG2 {K : Blocks} {d : Option Nat} {f : FuncId} {xs : List Operand} {ats : Array TypeId} {vs : List Value} {v : Value} {pos : String} {after : Array Edge} {j dj : Nat} {want b : Bool} (hs : guardSlot ops j = some dj) (hv : ρ.lookup dj = some (.bool b)) (hb : b = want) (hf : hasBody P f = true) (ha : evArgs ρ xs = some vs)
    (h : ∀ L', (∀ p ∈ K, p ∈ L') → Spec P G f vs.toArray L' fun u M => u = v ∧ M = L') : Quiet P G ops K ρ ⟨d, .call ⟨.value (.func f), xs.toArray, ats⟩, ty, pos, after, some (j, want)⟩ v := quiet_callG hs (hb ▸ hv) hf ha h
end Go.Proofs.Ytpamoacgajlkeaa
